/- Plain: the sums of the times of meters are plain sums; those of the road of the examples. -/
import Derived.Test.YtinglbcafcjhfaaDoorPaceS
import Derived.Test.YtinglbcafcjhfaaDoorPaceH
namespace Go.Proofs.YtinglbcafcjhfaaDoor
open Go.RowKit
set_option linter.unusedVariables false

def sum1 (xs : List (Int × Int)) : Int := (xs.map (·.1)).sum
def sum2 (xs : List (Int × Int)) : Int := (xs.map (·.2)).sum
theorem sum1_nil : sum1 [] = 0 := rfl
theorem sum2_nil : sum2 [] = 0 := rfl
theorem sum1_app (xs ys : List (Int × Int)) : sum1 (xs ++ ys) = sum1 xs + sum1 ys := by simp [sum1]
theorem sum2_app (xs ys : List (Int × Int)) : sum2 (xs ++ ys) = sum2 xs + sum2 ys := by simp [sum2]
theorem fold_eq : ∀ (xs : List (Int × Int)) (a : Int × Int) (M : Int), (∀ x, x ∈ xs → 0 ≤ x.1 ∧ x.1 ≤ 10000000 ∧ 0 ≤ x.2 ∧ x.2 ≤ 10000000) → 0 ≤ a.1 → a.1 ≤ M → 0 ≤ a.2 → a.2 ≤ M → M + 10000000 * xs.length ≤ 10000000000000 → xs.foldl wadd a = (a.1 + sum1 xs, a.2 + sum2 xs)
  | [], a, M, _, _, _, _, _, _ => by simp [sum1, sum2]
  | x :: xs, a, M, h, h1, h2, h3, h4, h5 => by
    have hx := h x (by simp)
    simp only [List.length_cons, List.foldl_cons] at h5 ⊢
    have e1 : (wadd a x).1 = a.1 + x.1 := by simp only [wadd, wrap64]; omega
    have e2 : (wadd a x).2 = a.2 + x.2 := by simp only [wadd, wrap64]; omega
    rw [fold_eq xs (wadd a x) (M + 10000000) (fun y hy => h y (by simp [hy])) (by omega) (by omega) (by omega) (by omega) (by omega), e1, e2]
    simp only [sum1, sum2, List.map_cons, List.sum_cons]
    refine Prod.ext ?_ ?_ <;> simp only <;> omega
theorem wtot_eq {xs : List (Int × Int)} (h : ∀ x, x ∈ xs → 0 ≤ x.1 ∧ x.1 ≤ 10000000 ∧ 0 ≤ x.2 ∧ x.2 ≤ 10000000) (hl : xs.length ≤ 1000000) : wtot xs = (sum1 xs, sum2 xs) := by
  unfold wtot
  rw [fold_eq xs (0, 0) 0 h (by simp) (by simp) (by simp) (by simp) (by omega)]
  simp
theorem wsums_get (xs : List (Int × Int)) {i : Nat} (h : i ≤ xs.length) : (wsums xs)[i]? = some (wtot (xs.take i)) := by
  unfold wsums
  rw [List.getElem?_map, List.getElem?_range (by omega)]
  rfl
/-- The times of a road's meters. -/
def metersOf (s : Speeds) (r : Road) : List (Int × Int) := metersUp s r.pieces r.pieces.length
theorem metersOf_length {s : Speeds} {r : Road} (hr : r.Valid) : ((metersOf s r).length : Int) = r.length := metersUp_length hr.pieces (Nat.le_refl _)
theorem metersOf_bound {s : Speeds} {r : Road} (hs : s.Valid) (hr : r.Valid) : ∀ x, x ∈ metersOf s r → 0 ≤ x.1 ∧ x.1 ≤ 10000000 ∧ 0 ≤ x.2 ∧ x.2 ≤ 10000000 :=
  fun x hx => metersUp_bound hs (piecesOk_mem hr.pieces) hx
theorem at1_eq {s : Speeds} {r : Road} (hs : s.Valid) (hr : r.Valid) {p : Int} (h0 : 0 ≤ p) (h1 : p ≤ r.length) : at1 (sumsOf s r) p = sum1 ((metersOf s r).take p.toNat) := by
  have hl := metersOf_length (s := s) hr
  have hsh := hr.short
  unfold at1 sumsOf
  rw [List.getD_eq_getElem?_getD, wsums_get _ (by show p.toNat ≤ (metersOf s r).length; omega)]
  show (wtot ((metersOf s r).take p.toNat)).1 = _
  rw [wtot_eq (fun x hx => metersOf_bound hs hr x (List.mem_of_mem_take hx)) (by rw [List.length_take]; omega)]
theorem at2_eq {s : Speeds} {r : Road} (hs : s.Valid) (hr : r.Valid) {p : Int} (h0 : 0 ≤ p) (h1 : p ≤ r.length) : at2 (sumsOf s r) p = sum2 ((metersOf s r).take p.toNat) := by
  have hl := metersOf_length (s := s) hr
  have hsh := hr.short
  unfold at2 sumsOf
  rw [List.getD_eq_getElem?_getD, wsums_get _ (by show p.toNat ≤ (metersOf s r).length; omega)]
  show (wtot ((metersOf s r).take p.toNat)).2 = _
  rw [wtot_eq (fun x hx => metersOf_bound hs hr x (List.mem_of_mem_take hx)) (by rw [List.length_take]; omega)]

/-! ### The road of the examples -/
def strR : Road := ⟨[⟨1000, 0, 0, 50, 1⟩], [], []⟩
def strS : Speeds := ⟨100, 200, [⟨5, 50, 100⟩], [100, 100, 100, 100, 100, 100, 100, 100, 100]⟩
theorem strR_length : strR.length = 1000 := by decide
theorem strR_valid : strR.Valid := by
  refine ⟨by decide, by decide, by decide, by decide, ?_, by rw [strR_length]; decide, ?_, ?_⟩
  · intro j p hj hp
    obtain rfl : j = 0 := by simp [strR] at hj; omega
    simp [strR] at hp
    subst hp
    simp [Piece.Ok]
  · intro j hj
    simp [strR] at hj
  · intro j hj
    simp [strR] at hj
theorem strS_valid : strS.Valid := by
  refine ⟨by decide, by decide, by decide, by decide, ?_, ?_, ?_⟩
  · intro x hx
    simp [strS] at hx
    subst hx
    rfl
  · intro j hj c hc
    obtain rfl : j = 0 := by simp [strS] at hj; omega
    simp [strS] at hc
    subst hc
    refine ⟨by decide, by decide, fun d h0 => by omega⟩
  · intro x hx
    simp [strS] at hx
    subst hx
    decide
theorem strM : metersOf strS strR = List.replicate 1000 (50000, 100000) := by
  show metersUp strS strR.pieces 1 = _
  rw [metersUp_succ (p := ⟨1000, 0, 0, 50, 1⟩) rfl, metersUp_zero]
  have e1 : quickT strS ⟨1000, 0, 0, 50, 1⟩ = 50000 := by decide +kernel
  have e2 : slowT strS ⟨1000, 0, 0, 50, 1⟩ = 100000 := by decide +kernel
  rw [e1, e2]
  rfl
theorem sum1_rep (n : Nat) (a b : Int) : sum1 (List.replicate n (a, b)) = n * a := by
  induction n with
  | zero => simp [sum1]
  | succ n ih => rw [List.replicate_succ, show (a, b) :: List.replicate n (a, b) = [(a, b)] ++ List.replicate n (a, b) from rfl, sum1_app, ih]; simp [sum1, Int.add_mul]; omega
theorem sum2_rep (n : Nat) (a b : Int) : sum2 (List.replicate n (a, b)) = n * b := by
  induction n with
  | zero => simp [sum2]
  | succ n ih => rw [List.replicate_succ, show (a, b) :: List.replicate n (a, b) = [(a, b)] ++ List.replicate n (a, b) from rfl, sum2_app, ih]; simp [sum2, Int.add_mul]; omega
theorem str_at1 {p : Int} (h0 : 0 ≤ p) (h1 : p ≤ 1000) : at1 (sumsOf strS strR) p = 50000 * p := by
  rw [at1_eq strS_valid strR_valid h0 (by rw [strR_length]; exact h1), strM, List.take_replicate, sum1_rep]
  omega
theorem str_at2 {p : Int} (h0 : 0 ≤ p) (h1 : p ≤ 1000) : at2 (sumsOf strS strR) p = 100000 * p := by
  rw [at2_eq strS_valid strR_valid h0 (by rw [strR_length]; exact h1), strM, List.take_replicate, sum2_rep]
  omega
end Go.Proofs.YtinglbcafcjhfaaDoor
