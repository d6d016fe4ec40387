/- My words for package pace: which speeds are as defined, how long a meter takes, the sums of these times. Contracts of package pace: within, bounds, slices.IndexFunc and ContainsFunc over numbers, Check. Plain: how large the times of meters and their sums are. -/
import Derived.Test.YtinglbcafcjhfaaDoorBase
import Derived.Test.YtinglbcafcjhfaaDoorProg
import Derived.Deep.DeepMust
import Derived.Outline
namespace Go.Proofs.YtinglbcafcjhfaaDoor
open Go.RowKit
set_option linter.unusedVariables false

def bnd (a b : Int) : Bool := decide (1 ≤ a ∧ a ≤ b ∧ b ≤ 700)
theorem bnd_iff {a b : Int} : bnd a b = true ↔ 1 ≤ a ∧ a ≤ b ∧ b ≤ 700 := by simp [bnd]
theorem bnd_iff_false {a b : Int} : bnd a b = false ↔ ¬(1 ≤ a ∧ a ≤ b ∧ b ≤ 700) := by rw [← bnd_iff]; simp
def SpeedRow.Ok (l : List SpeedRow) (i : Nat) : Prop := ∀ c, l[i]? = some c → bnd c.least c.most = true ∧ c.radius ≤ 2000 ∧ ∀ d, 0 < i → l[i - 1]? = some d → d.radius < c.radius
def RowsOk (l : List SpeedRow) (k : Nat) : Prop := ∀ j, j < k → SpeedRow.Ok l j
structure Speeds.Valid (s : Speeds) : Prop where
  bounds : bnd s.least s.most = true
  some_ : 1 ≤ s.rows.length
  few : s.rows.length ≤ 30
  nine : s.surface.length = 9
  five : ∀ x, s.rows[0]? = some x → x.radius = 5
  rows : RowsOk s.rows s.rows.length
  surface : ∀ x, x ∈ s.surface → inB x 1 100 = true
noncomputable def Speeds.chk (s : Speeds) : Int := if bo s.Valid = true then 0 else 2
theorem Speeds.chk_ok {s : Speeds} (h : s.Valid) : s.chk = 0 := by unfold Speeds.chk; rw [if_pos (bo_true h)]
theorem Speeds.chk_no {s : Speeds} (h : ¬s.Valid) : s.chk = 2 := by unfold Speeds.chk; rw [bo_false h]; simp
theorem RowsOk.zero (l : List SpeedRow) : RowsOk l 0 := fun j hj => by omega
theorem RowsOk.succ {l : List SpeedRow} {k : Nat} (h : RowsOk l k) (hk : SpeedRow.Ok l k) : RowsOk l (k + 1) := fun j hj => by
  rcases Nat.lt_or_ge j k with hl | hl
  · exact h j hl
  · obtain rfl : j = k := by omega
    exact hk
section
variable {l : List SpeedRow} {k : Nat} {x y : SpeedRow}
theorem row_ok (hx : l[k]? = some x) (h1 : bnd x.least x.most = true) (h2 : decide (2000 < x.radius) = false) (h3 : k = 0 ∨ ∃ y, l[k - 1]? = some y ∧ decide (x.radius ≤ y.radius) = false) : SpeedRow.Ok l k := fun c hc => by
  rw [hx] at hc
  cases hc
  simp at h2
  refine ⟨h1, h2, fun d hk hd => ?_⟩
  rcases h3 with h3 | ⟨y, hy, h3⟩
  · omega
  · rw [hy] at hd
    cases hd
    simpa using h3
theorem row_no (hx : l[k]? = some x) (h : bnd x.least x.most = false ∨ decide (2000 < x.radius) = true ∨ (0 < k ∧ ∃ y, l[k - 1]? = some y ∧ decide (x.radius ≤ y.radius) = true)) : ¬SpeedRow.Ok l k := fun hk => by
  obtain ⟨a, b, e⟩ := hk x hx
  rcases h with h | h | ⟨h0, y, hy, h⟩
  · rw [a] at h
    cases h
  · simp at h
    omega
  · have := e y h0 hy
    simp at h
    omega
end
/-- The row for a radius, looked for from the k-th one down. -/
def rowDown (l : List SpeedRow) (r : Int) : Nat → Int × Int
  | 0 => (0, 0)
  | k + 1 => match l[k]? with
    | some x => if x.radius ≤ r then (x.least, x.most) else rowDown l r k
    | none => (0, 0)
theorem rowDown_yes {l : List SpeedRow} {r : Int} {k : Nat} {x : SpeedRow} (hx : l[k]? = some x) (h : x.radius ≤ r) : rowDown l r (k + 1) = (x.least, x.most) := by simp [rowDown, hx, h]
theorem rowDown_no {l : List SpeedRow} {r : Int} {k : Nat} {x : SpeedRow} (hx : l[k]? = some x) (h : r < x.radius) : rowDown l r (k + 1) = rowDown l r k := by simp [rowDown, hx, show ¬x.radius ≤ r by omega]
def rowOf (s : Speeds) (p : Piece) : Int × Int := if p.turn = 0 then (s.least, s.most) else rowDown s.rows p.radius s.rows.length
def surfOf (s : Speeds) (p : Piece) : Int := s.surface.getD (p.surface - 1).toNat 0
theorem rowDown_bnd {s : Speeds} (hs : s.Valid) {r : Int} (hr : 5 ≤ r) : ∀ k, k ≤ s.rows.length → 0 < k → bnd (rowDown s.rows r k).1 (rowDown s.rows r k).2 = true
  | 0, _, h => absurd h (by omega)
  | k + 1, hk, _ => by
    obtain ⟨x, hx⟩ : ∃ x, s.rows[k]? = some x := ⟨_, List.getElem?_eq_getElem (by omega)⟩
    by_cases h : x.radius ≤ r
    · rw [rowDown_yes hx h]
      exact (hs.rows k (by omega) x hx).1
    · rw [rowDown_no hx (by omega)]
      rcases Nat.eq_zero_or_pos k with h0 | h0
      · subst h0
        have := hs.five x hx
        omega
      · exact rowDown_bnd hs hr k (by omega) h0
theorem rowOf_bnd {s : Speeds} (hs : s.Valid) {p : Piece} (hp : p.Ok) : bnd (rowOf s p).1 (rowOf s p).2 = true := by
  unfold rowOf
  by_cases h : p.turn = 0
  · rw [if_pos h]
    exact hs.bounds
  · rw [if_neg h]
    have h5 := hp.2.2.2.2.2.2.2.2.2 h
    exact rowDown_bnd hs h5.1 _ (Nat.le_refl _) (by have := hs.some_; omega)
theorem surfOf_get {s : Speeds} (hs : s.Valid) {p : Piece} (hp : p.Ok) : s.surface[(p.surface - 1).toNat]? = some (surfOf s p) ∧ 1 ≤ surfOf s p ∧ surfOf s p ≤ 100 := by
  obtain ⟨_, _, _, _, _, _, h1, h2, _, _⟩ := hp
  have h9 := hs.nine
  have hl : (p.surface - 1).toNat < s.surface.length := by omega
  have he : s.surface[(p.surface - 1).toNat]? = some (surfOf s p) := by unfold surfOf; rw [List.getD_eq_getElem?_getD, List.getElem?_eq_getElem hl]; rfl
  refine ⟨he, ?_⟩
  have := hs.surface _ (List.mem_of_getElem? he)
  rwa [inB_iff] at this
/-- The least time of a meter of a piece, and the most. -/
def quickT (s : Speeds) (p : Piece) : Int := 10000000 / (((rowOf s p).2 * surfOf s p + 99) / 100)
def slowT (s : Speeds) (p : Piece) : Int := (10000000 + max 1 ((rowOf s p).1 * surfOf s p / 100) - 1) / max 1 ((rowOf s p).1 * surfOf s p / 100)

/-- The times of the meters of the first k pieces. -/
def metersUp (s : Speeds) (l : List Piece) (k : Nat) : List (Int × Int) := (l.take k).flatMap fun p => List.replicate p.len.toNat (quickT s p, slowT s p)
theorem metersUp_zero (s : Speeds) (l : List Piece) : metersUp s l 0 = [] := rfl
theorem metersUp_succ {s : Speeds} {l : List Piece} {k : Nat} {p : Piece} (h : l[k]? = some p) : metersUp s l (k + 1) = metersUp s l k ++ List.replicate p.len.toNat (quickT s p, slowT s p) := by
  unfold metersUp
  rw [List.take_add_one, h, List.flatMap_append]
  simp
theorem metersUp_mono (s : Speeds) (l : List Piece) {k m : Nat} (h : k ≤ m) : (metersUp s l k).length ≤ (metersUp s l m).length := by
  induction h with
  | refl => exact Nat.le_refl _
  | step h ih =>
    rename_i m
    refine Nat.le_trans ih ?_
    cases hp : l[m]? with
    | none =>
      have : l.take (m + 1) = l.take m := by rw [List.take_add_one, hp]; simp
      unfold metersUp
      rw [this]
      exact Nat.le_refl _
    | some p => rw [metersUp_succ hp, List.length_append]; omega
theorem metersUp_length {s : Speeds} {l : List Piece} {k : Nat} (h : PiecesOk l k) (hk : k ≤ l.length) : ((metersUp s l k).length : Int) = sumLen l k := by
  induction k with
  | zero => simp [metersUp_zero, sumLen_zero]
  | succ k ih =>
    obtain ⟨p, hp⟩ : ∃ p, l[k]? = some p := ⟨l[k], List.getElem?_eq_getElem _⟩
    have h1 := ih (fun j q hj => h j q (by omega)) (by omega)
    obtain ⟨h2, h3, _⟩ := h k p (by omega) hp
    rw [metersUp_succ hp, sumLen_succ hp, List.length_append, List.length_replicate]
    omega

/-- The sums of times, as the machine adds. -/
def wadd (a x : Int × Int) : Int × Int := (wrap64 (a.1 + x.1), wrap64 (a.2 + x.2))
def wtot (xs : List (Int × Int)) : Int × Int := xs.foldl wadd (0, 0)
theorem wtot_snoc (pre : List (Int × Int)) (x : Int × Int) : wtot (pre ++ [x]) = wadd (wtot pre) x := by simp [wtot]
def wsums (xs : List (Int × Int)) : List (Int × Int) := (List.range (xs.length + 1)).map fun i => wtot (xs.take i)
theorem wsums_nil : wsums [] = [(0, 0)] := rfl
theorem wsums_length (xs : List (Int × Int)) : (wsums xs).length = xs.length + 1 := by simp [wsums]
theorem wsums_snoc (pre : List (Int × Int)) (x : Int × Int) : wsums (pre ++ [x]) = wsums pre ++ [wtot (pre ++ [x])] := by
  unfold wsums
  rw [List.length_append, List.length_singleton, List.range_succ (n := pre.length + 1), List.map_append]
  congr 1
  · refine List.map_congr_left fun i hi => ?_
    rw [List.mem_range] at hi
    rw [List.take_append_of_le_length (by omega)]
  · simp only [List.map_cons, List.map_nil]
    rw [List.take_of_length_le (by simp)]

/-- The first index at which q answers yes; -1 for none. -/
def firstAt {α : Type} (q : α → Bool) (xs : List α) : Int := match xs.findIdx? q with
  | some i => i
  | none => -1
theorem firstAt_some {α : Type} {q : α → Bool} {xs : List α} {k : Nat} {x : α} (hx : xs[k]? = some x) (hq : q x = true) (hb : ∀ j y, j < k → xs[j]? = some y → q y = false) : firstAt q xs = k := by
  obtain ⟨hk, rfl⟩ := List.getElem?_eq_some_iff.1 hx
  have : xs.findIdx? q = some k := by
    rw [List.findIdx?_eq_some_iff_getElem]
    exact ⟨hk, hq, fun j hj => by simpa using hb j _ hj (List.getElem?_eq_getElem (by omega))⟩
  simp [firstAt, this]
theorem firstAt_none {α : Type} {q : α → Bool} {xs : List α} (hb : ∀ j y, j < xs.length → xs[j]? = some y → q y = false) : firstAt q xs = -1 := by
  have : xs.findIdx? q = none := by
    rw [List.findIdx?_eq_none_iff]
    intro y hy
    obtain ⟨j, hj, rfl⟩ := List.getElem_of_mem hy
    exact hb j _ hj (List.getElem?_eq_getElem hj)
  simp [firstAt, this]
theorem firstAt_ge {α : Type} (q : α → Bool) (xs : List α) : 0 ≤ firstAt q xs ↔ xs.any q = true := by
  unfold firstAt
  cases h : xs.findIdx? q with
  | none =>
    rw [List.findIdx?_eq_none_iff] at h
    simp only [List.any_eq_true]
    constructor
    · intro hh; omega
    · rintro ⟨x, hx, hq⟩
      rw [h x hx] at hq
      cases hq
  | some i =>
    rw [List.findIdx?_eq_some_iff_getElem] at h
    obtain ⟨hi, hq, _⟩ := h
    simp only [List.any_eq_true]
    exact ⟨fun _ => ⟨xs[i], List.getElem_mem hi, hq⟩, fun _ => by omega⟩
end Go.Proofs.YtinglbcafcjhfaaDoor

namespace Go.Proofs.YtinglbcafcjhfaaDoor
open Go.RowKit
set_option linter.unusedVariables false
set_option linter.unusedSimpArgs false

theorem pace_within (x a b : Int) (w : World) : Calls Tryd.prog 62 #[.int .i64 x, .int .i64 a, .int .i64 b] w fun e w' => e = .returned (.bool (inB x a b)) ∧ w = w' := by
  by_cases h : a ≤ x
  · have h1 : decide (a ≤ x) = true := decide_eq_true h
    go_enter Tryd.func62, Tryd.ntmps62
    go_wp2
    go_ret
    exact ⟨by simp [inB, h], rfl⟩
  · have h1 : decide (a ≤ x) = false := decide_eq_false h
    go_enter Tryd.func62, Tryd.ntmps62
    go_wp2
    go_ret
    exact ⟨by simp [inB]; omega, rfl⟩
theorem ret_int2 {a b c d : Int} (h : a = c) (k : b = d) : Ending.returned (.tuple #[.int .i64 a, .int .i64 b]) = .returned (.tuple #[.int .i64 c, .int .i64 d]) := by rw [h, k]
theorem ret_bool {a b : Bool} (h : a = b) : Ending.returned (.bool a) = .returned (.bool b) := by rw [h]
theorem pace_bounds (a b : Int) (w : World) : Calls Tryd.prog 61 #[.int .i64 a, .int .i64 b] w fun e w' => e = .returned (.bool (bnd a b)) ∧ w = w' := by
  go_enter Tryd.func61, Tryd.ntmps61
  go_wp2
  all_goals
    go_ret
    refine ⟨ret_bool ?_, rfl⟩
    rw [Bool.eq_iff_iff, bnd_iff]
    go_light; simp only [inB_iff, inB_iff_false, Bool.not_eq_true, Bool.not_eq_true', Bool.not_eq_false', bne_iff_ne, bne_eq_false_iff_eq, beq_iff_eq, beq_eq_false_iff_ne, ne_eq, decide_eq_true_eq, decide_eq_false_iff_not, true_iff, false_iff, iff_true, iff_false, reduceCtorEq, Bool.and_eq_true, Bool.or_eq_true] at *
    omega

theorem pace_Check1 (x : Int) (w : World) : Calls Tryd.prog 64 #[.int .i64 x] w fun e w' => e = .returned (.bool (!inB x 1 100)) ∧ w = w' := by
  go_enter Tryd.func64, Tryd.ntmps64
  go_wp2_with (go_at_call 62; refine (pace_within _ _ _ _).mono ?_; rintro e w' ⟨rfl, rfl⟩)
  go_ret
  exact ⟨rfl, rfl⟩

set_option maxRecDepth 100000 in
set_option maxHeartbeats 400000 in
theorem index_int (K : FuncId) (q : Int → Bool) (xs : List Int) (A : Option Addr) (n c : Nat) (w : World) (h : Rd 1 intEnc w A n xs)
    (hcf : ∀ a W, Sem.run Tryd.prog (callFunc K a) W = .ok (.enter K a) W)
    (hq : ∀ x, Calls Tryd.prog K #[.int .i64 x] w fun e w' => e = .returned (.bool (q x)) ∧ w = w') :
    Calls Tryd.prog 105 #[.slice A n c, .func (.func K) #[] #[]] w fun e w' => e = .returned (.int .i64 (firstAt q xs)) ∧ w = w' := by
  have hm := h.2.1
  have HQ := Lib.hid hq
  have H := Lib.hid h
  clear h hq
  go_enter Tryd.func105, Tryd.ntmps105
  go_wp2
  go_loop [8] (fun v8 => ∃ k : Nat, k ≤ n ∧ v8 = .int .i64 k ∧ Hid (∀ j y, j < k → xs[j]? = some y → q y = false)) (fun v => n - (intOf v).toNat)
  case atStart => exact ⟨0, Nat.zero_le _, rfl, fun j y hj => by omega⟩
  case round =>
    obtain ⟨k, hk, rfl, HP⟩ := hrel
    by_cases hlt : k < n
    · obtain ⟨x, hx⟩ := H.out.get hlt
      have HX := Lib.hid hx
      clear hx
      obtain ⟨ad, e, x0⟩ := H.out.at1 HX.out
      cases e
      rcases hqx : q x
      all_goals
        go_wp2_with ((with_reducible refine (HQ.out x).mono ?_); rintro e w' ⟨rfl, rfl⟩)
      · go_round
        case rel => exact ⟨k + 1, by omega, by go_num, fun j y hj hy => by
          rcases Nat.lt_or_ge j k with hl | hl
          · exact HP.out j y hl hy
          · obtain rfl : j = k := by omega
            rw [HX.out] at hy
            cases hy
            exact hqx⟩
        case measure => simp [intOf]; omega
      · go_ret
        exact ⟨ret_int (firstAt_some HX.out hqx HP.out).symm, rfl⟩
    · obtain rfl : n = k := by omega
      go_wp2
      go_ret
      exact ⟨ret_int (firstAt_none (fun j y hj hy => HP.out j y (by have := H.out.1; omega) hy)).symm, rfl⟩
theorem contains_int (K : FuncId) (q : Int → Bool) (xs : List Int) (A : Option Addr) (n c : Nat) (w : World) (h : Rd 1 intEnc w A n xs)
    (hcf : ∀ a W, Sem.run Tryd.prog (callFunc K a) W = .ok (.enter K a) W)
    (hq : ∀ x, Calls Tryd.prog K #[.int .i64 x] w fun e w' => e = .returned (.bool (q x)) ∧ w = w') :
    Calls Tryd.prog 63 #[.slice A n c, .func (.func K) #[] #[]] w fun e w' => e = .returned (.bool (xs.any q)) ∧ w = w' := by
  have HQ := Lib.hid hq
  have H := Lib.hid h
  have HC := Lib.hid hcf
  clear h hq hcf
  go_enter Tryd.func63, Tryd.ntmps63
  go_wp2_with (go_at_call 105; refine (index_int K q xs _ _ _ _ H.out HC.out HQ.out).mono ?_; rintro e w' ⟨rfl, rfl⟩)
  go_ret
  refine ⟨ret_bool ?_, rfl⟩
  rw [Bool.eq_iff_iff, ← firstAt_ge]
  simp

end Go.Proofs.YtinglbcafcjhfaaDoor

namespace Go.Proofs.YtinglbcafcjhfaaDoor
open Go.RowKit
set_option linter.unusedVariables false

theorem quickT_bound {s : Speeds} {p : Piece} (hs : s.Valid) (hp : p.Ok) : 0 ≤ quickT s p ∧ quickT s p ≤ 10000000 := by
  obtain ⟨h1, h2, h3⟩ := bnd_iff.1 (rowOf_bnd hs hp)
  obtain ⟨_, h4, h5⟩ := surfOf_get hs hp
  unfold quickT
  have h6 : 1 ≤ (rowOf s p).2 * surfOf s p := by
    have := Int.mul_le_mul (show (1 : Int) ≤ (rowOf s p).2 by omega) h4 (by omega) (by omega)
    omega
  generalize (rowOf s p).2 * surfOf s p = m at *
  have hd : 1 ≤ (m + 99) / 100 := by omega
  generalize (m + 99) / 100 = d at *
  refine ⟨Int.ediv_nonneg (by omega) (by omega), Int.ediv_le_of_le_mul (by omega) (by omega)⟩
theorem slowT_bound {s : Speeds} {p : Piece} : 0 ≤ slowT s p ∧ slowT s p ≤ 10000000 := by
  unfold slowT
  have hd : 1 ≤ max 1 ((rowOf s p).1 * surfOf s p / 100) := by omega
  generalize max 1 ((rowOf s p).1 * surfOf s p / 100) = d at *
  refine ⟨Int.ediv_nonneg (by omega) (by omega), Int.ediv_le_of_le_mul (by omega) (by omega)⟩
theorem metersUp_bound {s : Speeds} {l : List Piece} (hs : s.Valid) (hl : ∀ p, p ∈ l → p.Ok) {k : Nat} {x : Int × Int} (hx : x ∈ metersUp s l k) : 0 ≤ x.1 ∧ x.1 ≤ 10000000 ∧ 0 ≤ x.2 ∧ x.2 ≤ 10000000 := by
  unfold metersUp at hx
  obtain ⟨p, hp, hm⟩ := List.mem_flatMap.1 hx
  have hok := hl p (List.mem_of_mem_take hp)
  obtain rfl := (List.mem_replicate.1 hm).2
  exact ⟨(quickT_bound hs hok).1, (quickT_bound hs hok).2, slowT_bound.1, slowT_bound.2⟩
theorem wadd_fold : ∀ (xs : List (Int × Int)) (a : Int × Int) (M : Int), (∀ x, x ∈ xs → 0 ≤ x.1 ∧ x.1 ≤ 10000000 ∧ 0 ≤ x.2 ∧ x.2 ≤ 10000000) → 0 ≤ a.1 → a.1 ≤ M → 0 ≤ a.2 → a.2 ≤ M → M + 10000000 * xs.length ≤ 10000000000000 →
    0 ≤ (xs.foldl wadd a).1 ∧ (xs.foldl wadd a).1 ≤ M + 10000000 * xs.length ∧ 0 ≤ (xs.foldl wadd a).2 ∧ (xs.foldl wadd a).2 ≤ M + 10000000 * xs.length
  | [], a, M, _, h1, h2, h3, h4, _ => by simp; omega
  | x :: xs, a, M, h, h1, h2, h3, h4, h5 => by
    have hx := h x (by simp)
    simp only [List.length_cons, List.foldl_cons] at h5 ⊢
    have e1 : (wadd a x).1 = a.1 + x.1 := by simp only [wadd, wrap64]; omega
    have e2 : (wadd a x).2 = a.2 + x.2 := by simp only [wadd, wrap64]; omega
    have := wadd_fold xs (wadd a x) (M + 10000000) (fun y hy => h y (by simp [hy])) (by omega) (by omega) (by omega) (by omega) (by omega)
    omega
theorem wsums_bound {xs : List (Int × Int)} (h : ∀ x, x ∈ xs → 0 ≤ x.1 ∧ x.1 ≤ 10000000 ∧ 0 ≤ x.2 ∧ x.2 ≤ 10000000) (hl : xs.length ≤ 1000000) {i : Nat} {x : Int × Int} (hx : (wsums xs)[i]? = some x) : 0 ≤ x.1 ∧ x.1 ≤ 10000000000000 ∧ 0 ≤ x.2 ∧ x.2 ≤ 10000000000000 := by
  have hm := List.mem_of_getElem? hx
  unfold wsums at hm
  obtain ⟨j, hj, rfl⟩ := List.mem_map.1 hm
  have h2 : (xs.take j).length ≤ xs.length := by rw [List.length_take]; omega
  have := wadd_fold (xs.take j) (0, 0) 0 (fun y hy => h y (List.mem_of_mem_take hy)) (by simp) (by simp) (by simp) (by simp) (by omega)
  unfold wtot
  omega
theorem piecesOk_mem {l : List Piece} (h : PiecesOk l l.length) : ∀ p, p ∈ l → p.Ok := fun p hp => by
  obtain ⟨i, hi, rfl⟩ := List.mem_iff_getElem.1 hp
  exact h i _ hi (List.getElem?_eq_getElem hi)
theorem wrap_eq64 (x : Int) : IntKind.wrap .i64 x = wrap64 x := by
  have h : IntKind.wrap .i64 x = if (9223372036854775808 : Int) ≤ x % 18446744073709551616 then x % 18446744073709551616 - 18446744073709551616 else x % 18446744073709551616 := by
    simp [IntKind.wrap, IntKind.signed, IntKind.bits]
  rw [h]
  unfold wrap64
  split <;> omega
end Go.Proofs.YtinglbcafcjhfaaDoor
