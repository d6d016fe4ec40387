/- Plain: the sums of the times of meters are plain sums; those of the road of the examples. The examples that each statement checks: the contracts of the reference's Same, of straight; what the plans of the examples are. -/
import Derived.Test.YtinglbcafcjhfaaDoorPaceBase
import Derived.Test.YtinglbcafcjhfaaDoorPaceH
import Derived.Test.YtinglbcafcjhfaaDoorPaceI
namespace Go.Proofs.YtinglbcafcjhfaaDoor
open Go.RowKit
set_option linter.unusedVariables false

def sum1 (xs : List (Int × Int)) : Int := (xs.map (·.1)).sum
def sum2 (xs : List (Int × Int)) : Int := (xs.map (·.2)).sum
theorem sum1_nil : sum1 [] = 0 := rfl
theorem sum2_nil : sum2 [] = 0 := rfl
theorem sum1_app (xs ys : List (Int × Int)) : sum1 (xs ++ ys) = sum1 xs + sum1 ys := by simp [sum1]
theorem sum2_app (xs ys : List (Int × Int)) : sum2 (xs ++ ys) = sum2 xs + sum2 ys := by simp [sum2]
theorem fold_eq : ∀ (xs : List (Int × Int)) (a : Int × Int) (M : Int), (∀ x, x ∈ xs → 0 ≤ x.1 ∧ x.1 ≤ 10000000 ∧ 0 ≤ x.2 ∧ x.2 ≤ 10000000) → 0 ≤ a.1 → a.1 ≤ M → 0 ≤ a.2 → a.2 ≤ M → M + 10000000 * xs.length ≤ 10000000000000 → xs.foldl wadd a = (a.1 + sum1 xs, a.2 + sum2 xs)
  | [], a, M, _, _, _, _, _, _ => by simp [sum1, sum2]
  | x :: xs, a, M, h, h1, h2, h3, h4, h5 => by
    have hx := h x (by simp)
    simp only [List.length_cons, List.foldl_cons] at h5 ⊢
    have e1 : (wadd a x).1 = a.1 + x.1 := by simp only [wadd, wrap64]; omega
    have e2 : (wadd a x).2 = a.2 + x.2 := by simp only [wadd, wrap64]; omega
    rw [fold_eq xs (wadd a x) (M + 10000000) (fun y hy => h y (by simp [hy])) (by omega) (by omega) (by omega) (by omega) (by omega), e1, e2]
    simp only [sum1, sum2, List.map_cons, List.sum_cons]
    refine Prod.ext ?_ ?_ <;> simp only <;> omega
theorem wtot_eq {xs : List (Int × Int)} (h : ∀ x, x ∈ xs → 0 ≤ x.1 ∧ x.1 ≤ 10000000 ∧ 0 ≤ x.2 ∧ x.2 ≤ 10000000) (hl : xs.length ≤ 1000000) : wtot xs = (sum1 xs, sum2 xs) := by
  unfold wtot
  rw [fold_eq xs (0, 0) 0 h (by simp) (by simp) (by simp) (by simp) (by omega)]
  simp
theorem wsums_get (xs : List (Int × Int)) {i : Nat} (h : i ≤ xs.length) : (wsums xs)[i]? = some (wtot (xs.take i)) := by
  unfold wsums
  rw [List.getElem?_map, List.getElem?_range (by omega)]
  rfl
/-- The times of a road's meters. -/
def metersOf (s : Speeds) (r : Road) : List (Int × Int) := metersUp s r.pieces r.pieces.length
theorem metersOf_length {s : Speeds} {r : Road} (hr : r.Valid) : ((metersOf s r).length : Int) = r.length := metersUp_length hr.pieces (Nat.le_refl _)
theorem metersOf_bound {s : Speeds} {r : Road} (hs : s.Valid) (hr : r.Valid) : ∀ x, x ∈ metersOf s r → 0 ≤ x.1 ∧ x.1 ≤ 10000000 ∧ 0 ≤ x.2 ∧ x.2 ≤ 10000000 :=
  fun x hx => metersUp_bound hs (piecesOk_mem hr.pieces) hx
theorem at1_eq {s : Speeds} {r : Road} (hs : s.Valid) (hr : r.Valid) {p : Int} (h0 : 0 ≤ p) (h1 : p ≤ r.length) : at1 (sumsOf s r) p = sum1 ((metersOf s r).take p.toNat) := by
  have hl := metersOf_length (s := s) hr
  have hsh := hr.short
  unfold at1 sumsOf
  rw [List.getD_eq_getElem?_getD, wsums_get _ (by show p.toNat ≤ (metersOf s r).length; omega)]
  show (wtot ((metersOf s r).take p.toNat)).1 = _
  rw [wtot_eq (fun x hx => metersOf_bound hs hr x (List.mem_of_mem_take hx)) (by rw [List.length_take]; omega)]
theorem at2_eq {s : Speeds} {r : Road} (hs : s.Valid) (hr : r.Valid) {p : Int} (h0 : 0 ≤ p) (h1 : p ≤ r.length) : at2 (sumsOf s r) p = sum2 ((metersOf s r).take p.toNat) := by
  have hl := metersOf_length (s := s) hr
  have hsh := hr.short
  unfold at2 sumsOf
  rw [List.getD_eq_getElem?_getD, wsums_get _ (by show p.toNat ≤ (metersOf s r).length; omega)]
  show (wtot ((metersOf s r).take p.toNat)).2 = _
  rw [wtot_eq (fun x hx => metersOf_bound hs hr x (List.mem_of_mem_take hx)) (by rw [List.length_take]; omega)]

/-! ### The road of the examples -/
def strR : Road := ⟨[⟨1000, 0, 0, 50, 1⟩], [], []⟩
def strS : Speeds := ⟨100, 200, [⟨5, 50, 100⟩], [100, 100, 100, 100, 100, 100, 100, 100, 100]⟩
theorem strR_length : strR.length = 1000 := by decide
theorem strR_valid : strR.Valid := by
  refine ⟨by decide, by decide, by decide, by decide, ?_, by rw [strR_length]; decide, ?_, ?_⟩
  · intro j p hj hp
    obtain rfl : j = 0 := by simp [strR] at hj; omega
    simp [strR] at hp
    subst hp
    simp [Piece.Ok]
  · intro j hj
    simp [strR] at hj
  · intro j hj
    simp [strR] at hj
theorem strS_valid : strS.Valid := by
  refine ⟨by decide, by decide, by decide, by decide, ?_, ?_, ?_⟩
  · intro x hx
    simp [strS] at hx
    subst hx
    rfl
  · intro j hj c hc
    obtain rfl : j = 0 := by simp [strS] at hj; omega
    simp [strS] at hc
    subst hc
    refine ⟨by decide, by decide, fun d h0 => by omega⟩
  · intro x hx
    simp [strS] at hx
    subst hx
    decide
theorem strM : metersOf strS strR = List.replicate 1000 (50000, 100000) := by
  show metersUp strS strR.pieces 1 = _
  rw [metersUp_succ (p := ⟨1000, 0, 0, 50, 1⟩) rfl, metersUp_zero]
  have e1 : quickT strS ⟨1000, 0, 0, 50, 1⟩ = 50000 := by decide +kernel
  have e2 : slowT strS ⟨1000, 0, 0, 50, 1⟩ = 100000 := by decide +kernel
  rw [e1, e2]
  rfl
theorem sum1_rep (n : Nat) (a b : Int) : sum1 (List.replicate n (a, b)) = n * a := by
  induction n with
  | zero => simp [sum1]
  | succ n ih => rw [List.replicate_succ, show (a, b) :: List.replicate n (a, b) = [(a, b)] ++ List.replicate n (a, b) from rfl, sum1_app, ih]; simp [sum1, Int.add_mul]; omega
theorem sum2_rep (n : Nat) (a b : Int) : sum2 (List.replicate n (a, b)) = n * b := by
  induction n with
  | zero => simp [sum2]
  | succ n ih => rw [List.replicate_succ, show (a, b) :: List.replicate n (a, b) = [(a, b)] ++ List.replicate n (a, b) from rfl, sum2_app, ih]; simp [sum2, Int.add_mul]; omega
theorem str_at1 {p : Int} (h0 : 0 ≤ p) (h1 : p ≤ 1000) : at1 (sumsOf strS strR) p = 50000 * p := by
  rw [at1_eq strS_valid strR_valid h0 (by rw [strR_length]; exact h1), strM, List.take_replicate, sum1_rep]
  omega
theorem str_at2 {p : Int} (h0 : 0 ≤ p) (h1 : p ≤ 1000) : at2 (sumsOf strS strR) p = 100000 * p := by
  rw [at2_eq strS_valid strR_valid h0 (by rw [strR_length]; exact h1), strM, List.take_replicate, sum2_rep]
  omega
end Go.Proofs.YtinglbcafcjhfaaDoor

namespace Go.Proofs.YtinglbcafcjhfaaDoor
open Go.RowKit
set_option linter.unusedVariables false
set_option linter.unusedSimpArgs false

set_option maxRecDepth 100000 in
set_option maxHeartbeats 1000000 in
theorem ref_Same (xs ys : List Int) (A B : Option Addr) (n m c d : Nat) (w : World) (h : Rd 1 intEnc w A n xs) (g : Rd 1 intEnc w B m ys) :
    Calls Tryd.prog 34 #[.slice A n c, .slice B m d] w fun e w' => e = .returned (.bool (decide (xs = ys))) ∧ ∃ q, w' = w.drewN q := by
  have hm := h.2.1
  have gm := g.2.1
  have H := Lib.hid h
  have G := Lib.hid g
  clear h g
  by_cases hnm : n = m
  · subst hnm
    have hb : ((n : Int) != (n : Int)) = false := by simp
    go_enter Tryd.func34, Tryd.ntmps34
    go_wp2
    go_loopw [5] (fun v5 wr => ∃ k m : Nat, k ≤ n ∧ v5 = .int .i64 k ∧ Hid (∀ j, j < k → xs[j]? = ys[j]?) ∧ wr = w.drewN m) (fun v _ => n - (intOf v).toNat)
    case atStart => exact ⟨0, 0, Nat.zero_le _, rfl, fun j hj => by omega, rfl⟩
    case round =>
      obtain ⟨k, m, hk, rfl, HP, rfl⟩ := hrel
      by_cases hlt : k < n
      · obtain ⟨x, hx⟩ := H.out.get hlt
        obtain ⟨y, hy⟩ := G.out.get hlt
        have HX := Lib.hid hx
        have HY := Lib.hid hy
        clear hx hy
        obtain ⟨ad, e, x0⟩ := H.out.at1 HX.out
        obtain ⟨bd, e', y0⟩ := G.out.at1 HY.out
        cases e
        cases e'
        rcases hxy : (x != y)
        · have hxe : x = y := by simpa using hxy
          have HXY := Lib.hid hxe
          clear hxe
          go_wp2
          go_quiet (fail)
          go_wp2
          go_roundw
          case rel => exact ⟨k + 1, m + nq, by omega, by go_num, fun j hj => by
            rcases Nat.lt_or_ge j k with hl | hl
            · exact HP.out j hl
            · obtain rfl : j = k := by omega
              rw [HX.out, HY.out, HXY.out], by first | rfl | rw [World.drewN_drewN]⟩
          case measure => simp [intOf]; omega
        · have hxe : x ≠ y := by simpa using hxy
          have HXY := Lib.hid hxe
          clear hxe
          go_wp2
          go_quiet (fail)
          go_wp2
          go_ret
          refine ⟨ret_bool ?_, m + nq, by first | rfl | rw [World.drewN_drewN]⟩
          have : xs ≠ ys := fun hh => by
            have h1 := HX.out
            rw [hh, HY.out] at h1
            exact HXY.out (by injection h1 with h1; exact h1.symm)
          simpa using this
      · obtain rfl : n = k := by omega
        go_wp2
        go_ret
        refine ⟨ret_bool ?_, m, rfl⟩
        have : xs = ys := List.ext_getElem? fun j => by
          rcases Nat.lt_or_ge j n with hl | hl
          · exact HP.out j hl
          · rw [List.getElem?_eq_none (by have := H.out.1; omega), List.getElem?_eq_none (by have := G.out.1; omega)]
        simpa using this
  · have hb : ((n : Int) != (m : Int)) = true := by simp; omega
    have HN := Lib.hid hnm
    clear hnm
    go_enter Tryd.func34, Tryd.ntmps34
    go_wp2
    go_ret
    refine ⟨ret_bool ?_, 0, rfl⟩
    have : xs ≠ ys := fun hh => HN.out (by rw [← H.out.1, ← G.out.1, hh])
    simpa using this

theorem addr_add0 (g j : Nat) : (⟨g, 0, none⟩ : Addr).add j = ⟨g, j, none⟩ := by unfold Addr.add; split <;> simp_all
/-- A block that holds records one after the other. -/
theorem rd_of_blk {α : Type} {sz : Nat} {enc : α → List Int} (henc : ∀ x, (enc x).length = sz) {w : World} {B : Nat} {t : TypeId} {cs : Array Value} (xs : List α) (n : Nat) (hn : xs.length = n) (hmax : n ≤ 9223372036854775807) (h : Blk w B t cs) (hcs : cs.toList = flat enc xs) : Rd sz enc w (some ⟨B, 0, none⟩) n xs :=
  ⟨hn, hmax, fun i x hx => ⟨_, rfl, fun j v hv => by rw [addr_add0, h.cell, ← Array.getElem?_toList, hcs]; exact flat_get henc xs i x hx j v hv⟩⟩
def StraightPost (w : World) (e : Ending) (w' : World) : Prop := ∃ B1 B2 B3, e = .returned (.tuple #[.agg #[.slice (some ⟨B1, 0, none⟩) 1 1, .slice none 0 0, .slice none 0 0], .agg #[.int .i64 100, .int .i64 200, .slice (some ⟨B2, 0, none⟩) 1 1, .slice (some ⟨B3, 0, none⟩) 9 9]]) ∧ Rd 5 Piece.enc w' (some ⟨B1, 0, none⟩) 1 strR.pieces ∧ Rd 3 SpeedRow.enc w' (some ⟨B2, 0, none⟩) 1 strS.rows ∧ Rd 1 intEnc w' (some ⟨B3, 0, none⟩) 9 strS.surface ∧ Below w.heap.size w w'
theorem straight_ (w : World) : Calls Tryd.prog 57 #[] w (StraightPost w) := by
  go_enter Tryd.func57, Tryd.ntmps57
  go_wp2
  refine bodyPost_ret (v := .tuple #[.agg #[.slice (some ⟨w.heap.size + 1 + 1, 0, none⟩) 1 1, .slice none 0 0, .slice none 0 0], .agg #[.int .i64 100, .int .i64 200, .slice (some ⟨w.heap.size + 1 + 1 + 1, 0, none⟩) 1 1, .slice (some ⟨w.heap.size + 1 + 1 + 1 + 1, 0, none⟩) 9 9]]) (by simp [results, Tryd.results57, go_sem]) rfl ⟨_, _, _, rfl, ?_, ?_, ?_, (by repeat (first | assumption | exact Below.refl _ _ | apply bel_alloc | apply bel_drew | apply bel_drewN | (refine bel_set ?_ (by first | assumption | omega | (simp; done) | (simp; omega)) _)))⟩
  · exact rd_of_blk Piece.enc_len _ _ rfl (by omega) (((Blk.new_at _ _ 105 _ (by simp)).alloc _).alloc _) rfl
  · exact rd_of_blk SpeedRow.enc_len _ _ rfl (by omega) ((Blk.new_at _ _ 77 _ (by simp)).alloc _) rfl
  · exact rd_of_blk intEnc_len _ _ rfl (by omega) (Blk.new_at _ _ 3 _ (by simp)) rfl
/-- The calls of the examples. -/
def kC1 : List Call := [⟨500, 2000000, 1000000, 20000000, 0⟩, ⟨600, 2000000, 1000000, 20000000, 0⟩]
def kC2 : List Call := [⟨10, 1000000, 0, 0, 0⟩]
theorem kC1_ok : CallsOk strR.length kC1 := by
  refine ⟨by decide, fun j hj c hc => ?_⟩
  rw [strR_length]
  obtain rfl | rfl : j = 0 ∨ j = 1 := by simp [kC1] at hj; omega
  · simp [kC1] at hc
    subst hc
    exact ⟨by decide, fun d h => by omega, by decide, by decide, by decide, by decide⟩
  · simp [kC1] at hc
    subst hc
    refine ⟨by decide, fun d h hd => ?_, by decide, by decide, by decide, by decide⟩
    simp [kC1] at hd
    subst hd
    decide
theorem kC2_ok : CallsOk strR.length kC2 := by
  refine ⟨by decide, fun j hj c hc => ?_⟩
  rw [strR_length]
  obtain rfl : j = 0 := by simp [kC2] at hj; omega
  simp [kC2] at hc
  subst hc
  exact ⟨by decide, fun d h => by omega, by decide, by decide, by decide, by decide⟩
theorem slack_at (l : List Call) (a k : Nat) (c : Call) (h0 : 0 ≤ c.place) (h1 : c.place ≤ 1000) : slack (sumsOf strS strR) l a k c = 50000 * c.place - rmS l a (k + 1) - c.lead := by
  have := str_at1 h0 h1
  unfold at1 at this
  unfold slack
  rw [this]
theorem k1R0 : rmR (sumsOf strS strR) kC1 0 2 = 22000000 := by
  rw [rmR_succ (c := ⟨600, 2000000, 1000000, 20000000, 0⟩) rfl, rmR_succ (c := ⟨500, 2000000, 1000000, 20000000, 0⟩) rfl, slack_at _ _ _ _ (by decide) (by decide), slack_at _ _ _ _ (by decide) (by decide)]
  decide +kernel
theorem k1R1 : rmR (sumsOf strS strR) kC1 1 1 = 27000000 := by
  rw [rmR_succ (c := ⟨600, 2000000, 1000000, 20000000, 0⟩) rfl, slack_at _ _ _ _ (by decide) (by decide)]
  decide +kernel
theorem k1L0 : rmL (sumsOf strS strR) kC1 0 2 = -1 := by
  rw [rmL_succ (c := ⟨600, 2000000, 1000000, 20000000, 0⟩) rfl, rmL_succ (c := ⟨500, 2000000, 1000000, 20000000, 0⟩) rfl, slack_at _ _ _ _ (by decide) (by decide), slack_at _ _ _ _ (by decide) (by decide)]
  decide +kernel
theorem k1L1 : rmL (sumsOf strS strR) kC1 1 1 = -1 := by
  rw [rmL_succ (c := ⟨600, 2000000, 1000000, 20000000, 0⟩) rfl, slack_at _ _ _ _ (by decide) (by decide)]
  decide +kernel
theorem k2L0 : rmL (sumsOf strS strR) kC2 0 1 = 0 := by
  rw [rmL_succ (c := ⟨10, 1000000, 0, 0, 0⟩) rfl, slack_at _ _ _ _ (by decide) (by decide)]
  decide +kernel
theorem last_lin {R g b : Int} {l : List Call} {i : Nat} (hR : rmR (sumsOf strS strR) l i (l.length - i) = R) (h : LastIs (roomQ (sumsOf strS strR) l i) b g) (hb : b ≤ 1000) (hR0 : 50000 ≤ R) (hRb : R < 50000 * b) : 50000 * g ≤ R ∧ R < 50000 * (g + 1) := by
  obtain ⟨h0, h1, h2, h3⟩ := h
  unfold roomQ at h2 h3
  rw [hR] at h2 h3
  rw [decide_eq_true_eq, str_at1 h0 (by omega)] at h2
  refine ⟨by omega, ?_⟩
  rcases h3 with h3 | h3
  · subst h3
    rcases h2 with h2 | h2 <;> omega
  · by_cases hg : g = b
    · subst hg
      rcases h2 with h2 | h2 <;> omega
    · rw [decide_eq_false_iff_not, str_at1 (by omega) (by omega)] at h3
      omega
theorem known_plan1 {w w' : World} {e : Ending} (h : PlanPost (sumsOf strS strR) kC1 w e w') : (∃ A c, Rd 1 intEnc w' A 2 [440, 540] ∧ 2 ≤ c ∧ e = .returned (.tuple #[.slice A 2 c, .agg #[.int .i64 0, .int .i64 0, .bool false], .int .i64 0])) ∧ Below w.heap.size w w' := by
  obtain ⟨hb, ⟨j, late, hj, _, hL, _⟩ | ⟨_, gs, ⟨hg, hgs⟩, h⟩⟩ := h
  · obtain rfl | rfl : j = 0 ∨ j = 1 := by simp [kC1] at hj; omega
    · have := k1L0
      rw [show kC1.length - 0 = 2 from rfl] at hL
      omega
    · have := k1L1
      rw [show kC1.length - 1 = 1 from rfl] at hL
      omega
  · obtain ⟨g0, e0, l0⟩ := hgs 0 ⟨500, 2000000, 1000000, 20000000, 0⟩ (by decide) rfl
    obtain ⟨g1, e1, l1⟩ := hgs 1 ⟨600, 2000000, 1000000, 20000000, 0⟩ (by decide) rfl
    have b0 := last_lin k1R0 l0 (by decide) (by decide) (by decide)
    have b1 := last_lin k1R1 l1 (by decide) (by decide) (by decide)
    obtain rfl : g0 = 440 := by omega
    obtain rfl : g1 = 540 := by omega
    obtain rfl : gs = [440, 540] := by
      match gs, hg, e0, e1 with
      | [a, b], _, e0, e1 => simp at e0 e1; rw [e0, e1]
    refine ⟨?_, hb⟩
    have hne : ∀ i, ¬TooEarly (sumsOf strS strR) kC1 [440, 540] i := by
      rintro i ⟨c, g, hc, hg, ht⟩
      have hi : i < 2 := (List.getElem?_eq_some_iff.1 hg).1
      obtain rfl | rfl : i = 0 ∨ i = 1 := by omega
      · simp [kC1] at hc hg
        subst hc
        subst hg
        rw [str_at2 (by decide) (by decide), str_at2 (by decide) (by decide)] at ht
        revert ht
        decide
      · simp [kC1] at hc hg
        subst hc
        subst hg
        rw [str_at2 (by decide) (by decide), str_at2 (by decide) (by decide)] at ht
        revert ht
        decide
    rcases h with ⟨ev, hev, _⟩ | ⟨_, A, c, h1, h2, h3⟩
    · rcases hev with ⟨h, _⟩ | ⟨j, _, _, h, _⟩
      · omega
      · exact absurd h (hne j)
    · exact ⟨A, c, h1, h2, h3⟩
theorem known_plan2 {w w' : World} {e : Ending} (h : PlanPost (sumsOf strS strR) kC2 w e w') : e = .returned (.tuple #[.slice none 0 0, .agg #[.int .i64 0, .int .i64 0, .bool false], .int .i64 5]) ∧ Below w.heap.size w w' := by
  obtain ⟨hb, ⟨j, late, hj, _, hL, he⟩ | ⟨hin, _⟩⟩ := h
  · obtain rfl : j = 0 := by simp [kC2] at hj; omega
    have := k2L0
    rw [show kC2.length - 0 = 1 from rfl] at hL
    obtain rfl : late = 0 := by omega
    exact ⟨he, hb⟩
  · have := hin 0 (by decide)
    rw [show kC2.length - 0 = 1 from rfl, k2L0] at this
    omega
def KnownPost (w : World) (e : Ending) (w' : World) : Prop := e = .returned (.bool true) ∧ Below w.heap.size w w'
end Go.Proofs.YtinglbcafcjhfaaDoor
