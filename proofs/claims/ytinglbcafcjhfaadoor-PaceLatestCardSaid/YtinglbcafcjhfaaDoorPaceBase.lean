/- My words for package pace: which speeds are as defined, how long a meter takes, the sums of these times. -/
import Derived.Test.YtinglbcafcjhfaaDoorBase
namespace Go.Proofs.YtinglbcafcjhfaaDoor
open Go.RowKit
set_option linter.unusedVariables false

def bnd (a b : Int) : Bool := decide (1 ≤ a ∧ a ≤ b ∧ b ≤ 700)
theorem bnd_iff {a b : Int} : bnd a b = true ↔ 1 ≤ a ∧ a ≤ b ∧ b ≤ 700 := by simp [bnd]
theorem bnd_iff_false {a b : Int} : bnd a b = false ↔ ¬(1 ≤ a ∧ a ≤ b ∧ b ≤ 700) := by rw [← bnd_iff]; simp
def SpeedRow.Ok (l : List SpeedRow) (i : Nat) : Prop := ∀ c, l[i]? = some c → bnd c.least c.most = true ∧ c.radius ≤ 2000 ∧ ∀ d, 0 < i → l[i - 1]? = some d → d.radius < c.radius
def RowsOk (l : List SpeedRow) (k : Nat) : Prop := ∀ j, j < k → SpeedRow.Ok l j
structure Speeds.Valid (s : Speeds) : Prop where
  bounds : bnd s.least s.most = true
  some_ : 1 ≤ s.rows.length
  few : s.rows.length ≤ 30
  nine : s.surface.length = 9
  five : ∀ x, s.rows[0]? = some x → x.radius = 5
  rows : RowsOk s.rows s.rows.length
  surface : ∀ x, x ∈ s.surface → inB x 1 100 = true
noncomputable def Speeds.chk (s : Speeds) : Int := if bo s.Valid = true then 0 else 2
theorem Speeds.chk_ok {s : Speeds} (h : s.Valid) : s.chk = 0 := by unfold Speeds.chk; rw [if_pos (bo_true h)]
theorem Speeds.chk_no {s : Speeds} (h : ¬s.Valid) : s.chk = 2 := by unfold Speeds.chk; rw [bo_false h]; simp
theorem RowsOk.zero (l : List SpeedRow) : RowsOk l 0 := fun j hj => by omega
theorem RowsOk.succ {l : List SpeedRow} {k : Nat} (h : RowsOk l k) (hk : SpeedRow.Ok l k) : RowsOk l (k + 1) := fun j hj => by
  rcases Nat.lt_or_ge j k with hl | hl
  · exact h j hl
  · obtain rfl : j = k := by omega
    exact hk
section
variable {l : List SpeedRow} {k : Nat} {x y : SpeedRow}
theorem row_ok (hx : l[k]? = some x) (h1 : bnd x.least x.most = true) (h2 : decide (2000 < x.radius) = false) (h3 : k = 0 ∨ ∃ y, l[k - 1]? = some y ∧ decide (x.radius ≤ y.radius) = false) : SpeedRow.Ok l k := fun c hc => by
  rw [hx] at hc
  cases hc
  simp at h2
  refine ⟨h1, h2, fun d hk hd => ?_⟩
  rcases h3 with h3 | ⟨y, hy, h3⟩
  · omega
  · rw [hy] at hd
    cases hd
    simpa using h3
theorem row_no (hx : l[k]? = some x) (h : bnd x.least x.most = false ∨ decide (2000 < x.radius) = true ∨ (0 < k ∧ ∃ y, l[k - 1]? = some y ∧ decide (x.radius ≤ y.radius) = true)) : ¬SpeedRow.Ok l k := fun hk => by
  obtain ⟨a, b, e⟩ := hk x hx
  rcases h with h | h | ⟨h0, y, hy, h⟩
  · rw [a] at h
    cases h
  · simp at h
    omega
  · have := e y h0 hy
    simp at h
    omega
end
/-- The row for a radius, looked for from the k-th one down. -/
def rowDown (l : List SpeedRow) (r : Int) : Nat → Int × Int
  | 0 => (0, 0)
  | k + 1 => match l[k]? with
    | some x => if x.radius ≤ r then (x.least, x.most) else rowDown l r k
    | none => (0, 0)
theorem rowDown_yes {l : List SpeedRow} {r : Int} {k : Nat} {x : SpeedRow} (hx : l[k]? = some x) (h : x.radius ≤ r) : rowDown l r (k + 1) = (x.least, x.most) := by simp [rowDown, hx, h]
theorem rowDown_no {l : List SpeedRow} {r : Int} {k : Nat} {x : SpeedRow} (hx : l[k]? = some x) (h : r < x.radius) : rowDown l r (k + 1) = rowDown l r k := by simp [rowDown, hx, show ¬x.radius ≤ r by omega]
def rowOf (s : Speeds) (p : Piece) : Int × Int := if p.turn = 0 then (s.least, s.most) else rowDown s.rows p.radius s.rows.length
def surfOf (s : Speeds) (p : Piece) : Int := s.surface.getD (p.surface - 1).toNat 0
theorem rowDown_bnd {s : Speeds} (hs : s.Valid) {r : Int} (hr : 5 ≤ r) : ∀ k, k ≤ s.rows.length → 0 < k → bnd (rowDown s.rows r k).1 (rowDown s.rows r k).2 = true
  | 0, _, h => absurd h (by omega)
  | k + 1, hk, _ => by
    obtain ⟨x, hx⟩ : ∃ x, s.rows[k]? = some x := ⟨_, List.getElem?_eq_getElem (by omega)⟩
    by_cases h : x.radius ≤ r
    · rw [rowDown_yes hx h]
      exact (hs.rows k (by omega) x hx).1
    · rw [rowDown_no hx (by omega)]
      rcases Nat.eq_zero_or_pos k with h0 | h0
      · subst h0
        have := hs.five x hx
        omega
      · exact rowDown_bnd hs hr k (by omega) h0
theorem rowOf_bnd {s : Speeds} (hs : s.Valid) {p : Piece} (hp : p.Ok) : bnd (rowOf s p).1 (rowOf s p).2 = true := by
  unfold rowOf
  by_cases h : p.turn = 0
  · rw [if_pos h]
    exact hs.bounds
  · rw [if_neg h]
    have h5 := hp.2.2.2.2.2.2.2.2.2 h
    exact rowDown_bnd hs h5.1 _ (Nat.le_refl _) (by have := hs.some_; omega)
theorem surfOf_get {s : Speeds} (hs : s.Valid) {p : Piece} (hp : p.Ok) : s.surface[(p.surface - 1).toNat]? = some (surfOf s p) ∧ 1 ≤ surfOf s p ∧ surfOf s p ≤ 100 := by
  obtain ⟨_, _, _, _, _, _, h1, h2, _, _⟩ := hp
  have h9 := hs.nine
  have hl : (p.surface - 1).toNat < s.surface.length := by omega
  have he : s.surface[(p.surface - 1).toNat]? = some (surfOf s p) := by unfold surfOf; rw [List.getD_eq_getElem?_getD, List.getElem?_eq_getElem hl]; rfl
  refine ⟨he, ?_⟩
  have := hs.surface _ (List.mem_of_getElem? he)
  rwa [inB_iff] at this
/-- The least time of a meter of a piece, and the most. -/
def quickT (s : Speeds) (p : Piece) : Int := 10000000 / (((rowOf s p).2 * surfOf s p + 99) / 100)
def slowT (s : Speeds) (p : Piece) : Int := (10000000 + max 1 ((rowOf s p).1 * surfOf s p / 100) - 1) / max 1 ((rowOf s p).1 * surfOf s p / 100)

/-- The times of the meters of the first k pieces. -/
def metersUp (s : Speeds) (l : List Piece) (k : Nat) : List (Int × Int) := (l.take k).flatMap fun p => List.replicate p.len.toNat (quickT s p, slowT s p)
theorem metersUp_zero (s : Speeds) (l : List Piece) : metersUp s l 0 = [] := rfl
theorem metersUp_succ {s : Speeds} {l : List Piece} {k : Nat} {p : Piece} (h : l[k]? = some p) : metersUp s l (k + 1) = metersUp s l k ++ List.replicate p.len.toNat (quickT s p, slowT s p) := by
  unfold metersUp
  rw [List.take_add_one, h, List.flatMap_append]
  simp
theorem metersUp_mono (s : Speeds) (l : List Piece) {k m : Nat} (h : k ≤ m) : (metersUp s l k).length ≤ (metersUp s l m).length := by
  induction h with
  | refl => exact Nat.le_refl _
  | step h ih =>
    rename_i m
    refine Nat.le_trans ih ?_
    cases hp : l[m]? with
    | none =>
      have : l.take (m + 1) = l.take m := by rw [List.take_add_one, hp]; simp
      unfold metersUp
      rw [this]
      exact Nat.le_refl _
    | some p => rw [metersUp_succ hp, List.length_append]; omega
theorem metersUp_length {s : Speeds} {l : List Piece} {k : Nat} (h : PiecesOk l k) (hk : k ≤ l.length) : ((metersUp s l k).length : Int) = sumLen l k := by
  induction k with
  | zero => simp [metersUp_zero, sumLen_zero]
  | succ k ih =>
    obtain ⟨p, hp⟩ : ∃ p, l[k]? = some p := ⟨l[k], List.getElem?_eq_getElem _⟩
    have h1 := ih (fun j q hj => h j q (by omega)) (by omega)
    obtain ⟨h2, h3, _⟩ := h k p (by omega) hp
    rw [metersUp_succ hp, sumLen_succ hp, List.length_append, List.length_replicate]
    omega

/-- The sums of times, as the machine adds. -/
def wadd (a x : Int × Int) : Int × Int := (wrap64 (a.1 + x.1), wrap64 (a.2 + x.2))
def wtot (xs : List (Int × Int)) : Int × Int := xs.foldl wadd (0, 0)
theorem wtot_snoc (pre : List (Int × Int)) (x : Int × Int) : wtot (pre ++ [x]) = wadd (wtot pre) x := by simp [wtot]
def wsums (xs : List (Int × Int)) : List (Int × Int) := (List.range (xs.length + 1)).map fun i => wtot (xs.take i)
theorem wsums_nil : wsums [] = [(0, 0)] := rfl
theorem wsums_length (xs : List (Int × Int)) : (wsums xs).length = xs.length + 1 := by simp [wsums]
theorem wsums_snoc (pre : List (Int × Int)) (x : Int × Int) : wsums (pre ++ [x]) = wsums pre ++ [wtot (pre ++ [x])] := by
  unfold wsums
  rw [List.length_append, List.length_singleton, List.range_succ (n := pre.length + 1), List.map_append]
  congr 1
  · refine List.map_congr_left fun i hi => ?_
    rw [List.mem_range] at hi
    rw [List.take_append_of_le_length (by omega)]
  · simp only [List.map_cons, List.map_nil]
    rw [List.take_of_length_le (by simp)]

/-- The first index at which q answers yes; -1 for none. -/
def firstAt {α : Type} (q : α → Bool) (xs : List α) : Int := match xs.findIdx? q with
  | some i => i
  | none => -1
theorem firstAt_some {α : Type} {q : α → Bool} {xs : List α} {k : Nat} {x : α} (hx : xs[k]? = some x) (hq : q x = true) (hb : ∀ j y, j < k → xs[j]? = some y → q y = false) : firstAt q xs = k := by
  obtain ⟨hk, rfl⟩ := List.getElem?_eq_some_iff.1 hx
  have : xs.findIdx? q = some k := by
    rw [List.findIdx?_eq_some_iff_getElem]
    exact ⟨hk, hq, fun j hj => by simpa using hb j _ hj (List.getElem?_eq_getElem (by omega))⟩
  simp [firstAt, this]
theorem firstAt_none {α : Type} {q : α → Bool} {xs : List α} (hb : ∀ j y, j < xs.length → xs[j]? = some y → q y = false) : firstAt q xs = -1 := by
  have : xs.findIdx? q = none := by
    rw [List.findIdx?_eq_none_iff]
    intro y hy
    obtain ⟨j, hj, rfl⟩ := List.getElem_of_mem hy
    exact hb j _ hj (List.getElem?_eq_getElem hj)
  simp [firstAt, this]
theorem firstAt_ge {α : Type} (q : α → Bool) (xs : List α) : 0 ≤ firstAt q xs ↔ xs.any q = true := by
  unfold firstAt
  cases h : xs.findIdx? q with
  | none =>
    rw [List.findIdx?_eq_none_iff] at h
    simp only [List.any_eq_true]
    constructor
    · intro hh; omega
    · rintro ⟨x, hx, hq⟩
      rw [h x hx] at hq
      cases hq
  | some i =>
    rw [List.findIdx?_eq_some_iff_getElem] at h
    obtain ⟨hi, hq, _⟩ := h
    simp only [List.any_eq_true]
    exact ⟨fun _ => ⟨xs[i], List.getElem_mem hi, hq⟩, fun _ => by omega⟩
end Go.Proofs.YtinglbcafcjhfaaDoor
