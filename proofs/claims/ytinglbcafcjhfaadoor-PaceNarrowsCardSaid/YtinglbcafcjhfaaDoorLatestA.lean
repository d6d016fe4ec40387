/- Plain laws of plans: shorter calls, narrower speeds, the latest plan is good and the greatest. The least time of a way is at most its most time. -/
import Derived.Test.YtinglbcafcjhfaaDoorLawB
import Derived.Test.YtinglbcafcjhfaaDoorGoodD
namespace Go.Proofs.YtinglbcafcjhfaaDoor
open Go.RowKit
set_option linter.unusedVariables false

/-! ### Calls that last less long -/
def Call.less (d : Int) (c : Call) : Call := ⟨c.place, max 0 (c.lasts - d), c.lead, c.ahead, c.value⟩
def lessCalls (d : Int) (l : List Call) : List Call := l.map (Call.less d)
section
variable {N d : Int} {l : List Call} {sums : List (Int × Int)} {ts : List Int}
theorem less_get {i : Nat} : (lessCalls d l)[i]? = (l[i]?).map (Call.less d) := by unfold lessCalls; rw [List.getElem?_map]
theorem less_len : (lessCalls d l).length = l.length := by simp [lessCalls]
theorem CallsOk.less (h : CallsOk N l) (hd : 0 ≤ d) : CallsOk N (lessCalls d l) := by
  refine ⟨by rw [less_len]; exact h.1, fun j hj c hc => ?_⟩
  rw [less_len] at hj
  rw [less_get] at hc
  obtain ⟨x, hx, rfl⟩ := Option.map_eq_some_iff.1 hc
  obtain ⟨h1, h2, h3, h4, h5, h6⟩ := h.2 j hj x hx
  refine ⟨h1, fun e hk he => ?_, ?_, h4, h5, h6⟩
  · rw [less_get] at he
    obtain ⟨y, hy, rfl⟩ := Option.map_eq_some_iff.1 he
    exact h2 y hk hy
  · rw [inB_iff] at *
    show 0 ≤ max 0 (x.lasts - d) ∧ max 0 (x.lasts - d) ≤ _
    omega
theorem less_rmS (h : CallsOk N l) (hd : 0 ≤ d) (a : Nat) : ∀ k, rmS (lessCalls d l) a k ≤ rmS l a k
  | 0 => by simp [rmS]
  | k + 1 => by
    have ih := less_rmS h hd a k
    cases hc : l[a + k]? with
    | none => simp only [rmS, less_get, hc]; exact ih
    | some c =>
      have h3 := h.at_ hc
      simp only [rmS, less_get, hc, Option.map_some]
      show _ + max 0 (c.lasts - d) ≤ _
      omega
theorem GoodPlan.less (hg : GoodPlan sums l ts) (h : CallsOk N l) (hd : 0 ≤ d) : GoodPlan sums (lessCalls d l) ts := by
  intro j hj
  rw [less_len] at hj
  obtain ⟨p, x, h1, h2, h3, h4, h5⟩ := hg j hj
  refine ⟨p, x.less d, h1, by rw [less_get, h2]; rfl, h3, ?_, h5⟩
  rw [rmR_le_iff] at *
  refine ⟨h4.1, fun k c hk hc => ?_⟩
  rw [less_len] at hk
  rw [less_get] at hc
  obtain ⟨y, hy, rfl⟩ := Option.map_eq_some_iff.1 hc
  have h6 := h4.2 k y hk hy
  have h7 := less_rmS h hd j (k + 1)
  unfold slack at *
  show _ ≤ (sums.getD y.place.toNat (0, 0)).1 - rmS (lessCalls d l) j (k + 1) - y.lead
  omega
end

/-! ### Narrower speeds -/
def SpeedRow.mid (x : SpeedRow) : SpeedRow := ⟨x.radius, (x.least + x.most) / 2, (x.least + x.most + 1) / 2⟩
def Speeds.mid (s : Speeds) : Speeds := ⟨(s.least + s.most) / 2, (s.least + s.most + 1) / 2, s.rows.map SpeedRow.mid, s.surface⟩
def mid2 (x : Int × Int) : Int × Int := ((x.1 + x.2) / 2, (x.1 + x.2 + 1) / 2)
theorem bnd_mid {a b : Int} (h : bnd a b = true) : bnd ((a + b) / 2) ((a + b + 1) / 2) = true := by
  rw [bnd_iff] at *
  omega
theorem Speeds.Valid.mid {s : Speeds} (h : s.Valid) : s.mid.Valid where
  bounds := bnd_mid h.bounds
  some_ := by simpa [Speeds.mid] using h.some_
  few := by simpa [Speeds.mid] using h.few
  nine := h.nine
  five := fun x hx => by
    simp only [Speeds.mid, List.getElem?_map] at hx
    obtain ⟨y, hy, rfl⟩ := Option.map_eq_some_iff.1 hx
    exact h.five y hy
  rows := fun j hj c hc => by
    simp only [Speeds.mid, List.length_map] at hj
    simp only [Speeds.mid, List.getElem?_map] at hc
    obtain ⟨y, hy, rfl⟩ := Option.map_eq_some_iff.1 hc
    obtain ⟨h1, h2, h3⟩ := h.rows j hj y hy
    refine ⟨bnd_mid h1, h2, fun e hk he => ?_⟩
    simp only [Speeds.mid, List.getElem?_map] at he
    obtain ⟨z, hz, rfl⟩ := Option.map_eq_some_iff.1 he
    exact h3 z hk hz
  surface := h.surface
theorem rowDown_mid (l : List SpeedRow) (r : Int) : ∀ k, rowDown (l.map SpeedRow.mid) r k = mid2 (rowDown l r k)
  | 0 => rfl
  | k + 1 => by
    have ih := rowDown_mid l r k
    cases hx : l[k]? with
    | none => simp only [rowDown, List.getElem?_map, hx]; rfl
    | some x =>
      simp only [rowDown, List.getElem?_map, hx, Option.map_some]
      by_cases h : x.radius ≤ r
      · rw [if_pos h, if_pos (show x.mid.radius ≤ r from h)]
        rfl
      · rw [if_neg h, if_neg (show ¬x.mid.radius ≤ r from h), ih]
theorem rowOf_mid (s : Speeds) (p : Piece) : rowOf s.mid p = mid2 (rowOf s p) := by
  unfold rowOf
  by_cases h : p.turn = 0
  · rw [if_pos h, if_pos h]; rfl
  · rw [if_neg h, if_neg h]
    show rowDown (s.rows.map SpeedRow.mid) p.radius (s.rows.map SpeedRow.mid).length = _
    rw [List.length_map, rowDown_mid]
theorem div_anti {n a b : Int} (hn : 0 ≤ n) (ha : 1 ≤ a) (hab : a ≤ b) : n / b ≤ n / a := by
  rw [Int.le_ediv_iff_mul_le (by omega)]
  have h1 := Int.ediv_mul_le n (show b ≠ 0 by omega)
  have h2 : 0 ≤ n / b := Int.ediv_nonneg hn (by omega)
  exact Int.le_trans (Int.mul_le_mul_of_nonneg_left hab h2) h1
theorem ceil_anti {n a b : Int} (hn : 0 ≤ n) (ha : 1 ≤ a) (hab : a ≤ b) : (n + b - 1) / b ≤ (n + a - 1) / a := by
  have h1 : n ≤ (n + a - 1) / a * a := by
    have := Int.emod_add_mul_ediv (n + a - 1) a
    have h3 := Int.emod_lt_of_pos (n + a - 1) (show 0 < a by omega)
    rw [Int.mul_comm] at this
    omega
  have h2 : 0 ≤ (n + a - 1) / a := Int.ediv_nonneg (by omega) (by omega)
  have h3 := Int.mul_le_mul_of_nonneg_left hab h2
  have h4 : (n + b - 1) / b < (n + a - 1) / a + 1 := by
    rw [Int.ediv_lt_iff_lt_mul (by omega), Int.add_mul]
    omega
  omega
theorem quickT_mid {s : Speeds} {p : Piece} (hs : s.Valid) (hp : p.Ok) : quickT s p ≤ quickT s.mid p := by
  have hb := rowOf_bnd hs hp
  rw [bnd_iff] at hb
  obtain ⟨_, hs1, hs2⟩ := surfOf_get hs hp
  unfold quickT
  rw [rowOf_mid]
  show _ ≤ 10000000 / ((((rowOf s p).1 + (rowOf s p).2 + 1) / 2 * surfOf s p + 99) / 100)
  have e1 : ((rowOf s p).1 + (rowOf s p).2 + 1) / 2 * surfOf s p ≤ (rowOf s p).2 * surfOf s p := Int.mul_le_mul_of_nonneg_right (by omega) (by omega)
  have e2 : 1 ≤ ((rowOf s p).1 + (rowOf s p).2 + 1) / 2 * surfOf s p := by
    have := Int.mul_le_mul (show (1 : Int) ≤ ((rowOf s p).1 + (rowOf s p).2 + 1) / 2 by omega) hs1 (by omega) (by omega)
    omega
  exact div_anti (by omega) (by omega) (by omega)
theorem slowT_mid {s : Speeds} {p : Piece} (hs : s.Valid) (hp : p.Ok) : slowT s.mid p ≤ slowT s p := by
  have hb := rowOf_bnd hs hp
  rw [bnd_iff] at hb
  obtain ⟨_, hs1, hs2⟩ := surfOf_get hs hp
  unfold slowT
  rw [rowOf_mid]
  have e1 : (rowOf s p).1 * surfOf s p ≤ ((rowOf s p).1 + (rowOf s p).2) / 2 * surfOf s p := Int.mul_le_mul_of_nonneg_right (by omega) (by omega)
  exact ceil_anti (by omega) (by omega) (by show max 1 ((rowOf s p).1 * surfOf s p / 100) ≤ max 1 (((rowOf s p).1 + (rowOf s p).2) / 2 * surfOf s p / 100); omega)
theorem flat_both (f g : Piece → Int × Int) : ∀ (l : List Piece) (i : Nat), (∃ p, p ∈ l ∧ (l.flatMap fun p => List.replicate p.len.toNat (f p))[i]? = some (f p) ∧ (l.flatMap fun p => List.replicate p.len.toNat (g p))[i]? = some (g p)) ∨ ((l.flatMap fun p => List.replicate p.len.toNat (f p))[i]? = none ∧ (l.flatMap fun p => List.replicate p.len.toNat (g p))[i]? = none)
  | [], i => .inr (by simp)
  | x :: l, i => by
    rw [List.flatMap_cons, List.flatMap_cons]
    by_cases h : i < x.len.toNat
    · refine .inl ⟨x, List.mem_cons_self, ?_, ?_⟩
      · rw [List.getElem?_append_left (by simpa using h), List.getElem?_replicate, if_pos h]
      · rw [List.getElem?_append_left (by simpa using h), List.getElem?_replicate, if_pos h]
    · rw [List.getElem?_append_right (by simpa using h), List.getElem?_append_right (by simpa using h)]
      simp only [List.length_replicate]
      rcases flat_both f g l (i - x.len.toNat) with ⟨p, hp, h1, h2⟩ | h1
      · exact .inl ⟨p, List.mem_cons_of_mem _ hp, h1, h2⟩
      · exact .inr h1
section
variable {s : Speeds} {r : Road}
theorem meterOf_mid (hs : s.Valid) (hr : r.Valid) {p : Int} (h0 : 0 ≤ p) (h1 : p < r.length) : (meterOf s r p).1 ≤ (meterOf s.mid r p).1 ∧ (meterOf s.mid r p).2 ≤ (meterOf s r p).2 := by
  have g1 := metersOf_get (s := s) hr h0 h1
  have g2 := metersOf_get (s := s.mid) hr h0 h1
  unfold metersOf metersUp at g1 g2
  rcases flat_both (fun p => (quickT s p, slowT s p)) (fun p => (quickT s.mid p, slowT s.mid p)) (r.pieces.take r.pieces.length) p.toNat with ⟨q, hq, e1, e2⟩ | ⟨e1, _⟩
  · rw [e1] at g1
    rw [e2] at g2
    have hok := piecesOk_mem hr.pieces q (List.mem_of_mem_take hq)
    rw [← Option.some.inj g1, ← Option.some.inj g2]
    exact ⟨quickT_mid hs hok, slowT_mid hs hok⟩
  · rw [e1] at g1
    cases g1
theorem at_mid (hs : s.Valid) (hr : r.Valid) {a : Int} (h0 : 0 ≤ a) : ∀ (d : Nat), a + d ≤ r.length → at1 (sumsOf s r) (a + d) - at1 (sumsOf s r) a ≤ at1 (sumsOf s.mid r) (a + d) - at1 (sumsOf s.mid r) a ∧ at2 (sumsOf s.mid r) (a + d) - at2 (sumsOf s.mid r) a ≤ at2 (sumsOf s r) (a + d) - at2 (sumsOf s r) a
  | 0, _ => by simp
  | d + 1, h => by
    have ih := at_mid hs hr h0 d (by omega)
    have hb := meterOf_mid (s := s) hs hr (p := a + d) (by omega) (by omega)
    have e1 := at1_succ hs hr (p := a + d) (by omega) (by omega)
    have e2 := at2_succ hs hr (p := a + d) (by omega) (by omega)
    have e3 := at1_succ hs.mid hr (p := a + d) (by omega) (by omega)
    have e4 := at2_succ hs.mid hr (p := a + d) (by omega) (by omega)
    rw [show a + ((d + 1 : Nat) : Int) = a + d + 1 by omega, e1, e2, e3, e4]
    omega
theorem at_mid_le (hs : s.Valid) (hr : r.Valid) {a b : Int} (h0 : 0 ≤ a) (h1 : a ≤ b) (h2 : b ≤ r.length) : at1 (sumsOf s r) b - at1 (sumsOf s r) a ≤ at1 (sumsOf s.mid r) b - at1 (sumsOf s.mid r) a ∧ at2 (sumsOf s.mid r) b - at2 (sumsOf s.mid r) a ≤ at2 (sumsOf s r) b - at2 (sumsOf s r) a := by
  have := at_mid hs hr h0 (b - a).toNat (by omega)
  rwa [show a + (((b - a).toNat : Nat) : Int) = b by omega] at this
variable {l : List Call} {ts gs : List Int}
theorem GoodPlan.mid (hg : GoodPlan (sumsOf s r) l ts) (hs : s.Valid) (hr : r.Valid) (ho : CallsOk r.length l) (ht : TrigsOk r.length l.length ts) : GoodPlan (sumsOf s.mid r) l ts := by
  intro j hj
  obtain ⟨p, x, h1, h2, h3, h4, h5⟩ := hg j hj
  obtain ⟨p0, p1⟩ := ht.at_ h1
  have hx := ho.at_ h2
  rw [rmR_le_iff] at h4
  refine ⟨p, x, h1, h2, h3, (rmR_le_iff _ _).2 ⟨by have := at1_range (s := s.mid) hs.mid hr p0 p1; omega, fun k c hk hc => ?_⟩, ?_⟩
  · have h6 := h4.2 k c hk hc
    have hcc := ho.at_ hc
    rw [slack_eq] at *
    have h7 := (rmS_le ho j (k + 1)).1
    have hpc : p ≤ c.place := by
      refine Classical.byContradiction fun hn => ?_
      have := at1_strict (s := s) hs hr (a := c.place) (b := p) hcc.1 (by omega) p1
      omega
    have h8 := (at_mid_le (s := s) hs hr p0 hpc hcc.2.1).1
    omega
  · have h8 := (at_mid_le (s := s) hs hr p0 h3 hx.2.1).2
    omega

/-! ### The latest plan -/
theorem rmR_up (ho : CallsOk r.length l) {sums : List (Int × Int)} {j : Nat} {z : Int} (h : z ≤ rmR sums l j (l.length - j)) : z ≤ rmR sums l (j + 1) (l.length - (j + 1)) := by
  rw [rmR_le_iff] at *
  refine ⟨h.1, fun k c hk hc => ?_⟩
  have h1 := h.2 (k + 1) c (by omega) (by rw [show j + (k + 1) = j + 1 + k by omega]; exact hc)
  have h2 : rmS l (j + 1) (k + 1) ≤ rmS l j (k + 1 + 1) := by
    have key : ∀ m, rmS l (j + 1) m ≤ rmS l j (m + 1) := by
      intro m
      induction m with
      | zero =>
        have := (rmS_le ho j 1).1
        simpa [rmS] using this
      | succ m ih =>
        cases hc : l[j + 1 + m]? with
        | none => simp only [rmS, hc, show j + (m + 1) = j + 1 + m by omega] at *; exact ih
        | some c =>
          rw [rmS_succ hc, rmS_succ (show l[j + (m + 1)]? = some c by rw [show j + (m + 1) = j + 1 + m by omega]; exact hc)]
          omega
    exact key (k + 1)
  unfold slack at *
  omega
theorem LastIs.max (hs : s.Valid) (hr : r.Valid) {j : Nat} {b g p : Int} (hb : b ≤ r.length) (h : LastIs (roomQ (sumsOf s r) l j) b g) (h0 : 0 ≤ p) (h1 : p ≤ b) (h2 : at1 (sumsOf s r) p ≤ rmR (sumsOf s r) l j (l.length - j)) : p ≤ g := by
  obtain ⟨a1, a2, a3, a4⟩ := h
  rcases a4 with a4 | a4
  · omega
  · unfold roomQ at a4
    rw [decide_eq_false_iff_not] at a4
    refine Classical.byContradiction fun hn => a4 ?_
    have := at1_le (s := s) hs hr (a := g + 1) (b := p) (by omega) (by omega) (by omega)
    omega
theorem LastIs.room (hs : s.Valid) (hr : r.Valid) {j : Nat} {b g : Int} (h : LastIs (roomQ (sumsOf s r) l j) b g) (hi : rmL (sumsOf s r) l j (l.length - j) < 0) : at1 (sumsOf s r) g ≤ rmR (sumsOf s r) l j (l.length - j) := by
  obtain ⟨a1, a2, a3, a4⟩ := h
  rcases a3 with rfl | a3
  · rw [at1_zero, rmR_le_iff]
    exact ⟨by omega, (rmL_neg_iff _).1 hi⟩
  · unfold roomQ at a3
    simpa using a3
theorem plan_good (hs : s.Valid) (hr : r.Valid) (ho : CallsOk r.length l) (hi : InTimeUp (sumsOf s r) l l.length) (hg : GsIs (sumsOf s r) l gs l.length) (he : EarlyIs (sumsOf s r) l gs l.length (-1)) : GoodPlan (sumsOf s r) l gs := by
  intro j hj
  obtain ⟨g, h1, h2⟩ := hg.2 j _ hj (List.getElem?_eq_getElem hj)
  refine ⟨g, l[j], h1, List.getElem?_eq_getElem hj, h2.2.1, h2.room hs hr (hi j hj), ?_⟩
  rcases he with ⟨_, he⟩ | ⟨q, _, he, _⟩
  · refine Classical.byContradiction fun hn => he j hj ⟨_, g, List.getElem?_eq_getElem hj, h1, by omega⟩
  · omega
theorem plan_trigs (hs : s.Valid) (hr : r.Valid) (ho : CallsOk r.length l) (hi : InTimeUp (sumsOf s r) l l.length) (hg : GsIs (sumsOf s r) l gs l.length) : TrigsOk r.length l.length gs := by
  refine ⟨hg.1, fun j hj p hp => ?_⟩
  rw [hg.1] at hj
  obtain ⟨g, h1, h2⟩ := hg.2 j _ hj (List.getElem?_eq_getElem hj)
  have hx := ho.at_ (List.getElem?_eq_getElem hj)
  rw [h1] at hp
  cases hp
  refine ⟨by rw [inB_iff]; have := h2.1; have := h2.2.1; omega, fun q hk hq => ?_⟩
  obtain ⟨g', h3, h4⟩ := hg.2 (j - 1) _ (by omega) (List.getElem?_eq_getElem (show j - 1 < l.length by omega))
  rw [h3] at hq
  cases hq
  rw [decide_eq_false_iff_not]
  have hpl := (ho.2 j hj _ (List.getElem?_eq_getElem hj)).2.1 _ hk (List.getElem?_eq_getElem (show j - 1 < l.length by omega))
  rw [decide_eq_false_iff_not] at hpl
  have h5 := h4.room hs hr (hi (j - 1) (by omega))
  have h6 := rmR_up ho h5
  rw [show j - 1 + 1 = j by omega] at h6
  have := h2.max hs hr (p := q) hx.2.1 h4.1 (by have := h4.2.1; omega) h6
  omega
theorem plan_max (hs : s.Valid) (hr : r.Valid) (ho : CallsOk r.length l) (ht : TrigsOk r.length l.length ts) (hg : GsIs (sumsOf s r) l gs l.length) (hgood : GoodPlan (sumsOf s r) l ts) {i : Nat} {a b : Int} (ha : ts[i]? = some a) (hb : gs[i]? = some b) : a ≤ b := by
  have hi : i < l.length := by have := (List.getElem?_eq_some_iff.1 ha).1; have := ht.1; omega
  obtain ⟨g, h1, h2⟩ := hg.2 i _ hi (List.getElem?_eq_getElem hi)
  rw [h1] at hb
  cases hb
  obtain ⟨p, x, h3, h4, h5, h6, h7⟩ := hgood i hi
  rw [ha] at h3
  cases h3
  have hx := ho.at_ h4
  rw [List.getElem?_eq_getElem hi] at h4
  cases h4
  exact h2.max hs hr hx.2.1 (ht.at_ ha).1 h5 h6
theorem PlanSays.err {sums : List (Int × Int)} {w' : World} {A : Option Addr} {k : Nat} {ca cb : Int} {ct : Bool} {er : Int} (h : PlanSays sums l w' A k ca cb ct er) :
    er = 5 ∨ er = 0 ∧ ca = 0 ∧ cb = 0 ∧ ct = false ∧ k = l.length ∧ ∃ gs, InTimeUp sums l l.length ∧ GsIs sums l gs l.length ∧ EarlyIs sums l gs l.length (-1) ∧ Rd 1 intEnc w' A k gs := by
  rcases h with ⟨j, late, h1, h2, h3, rfl, rfl, rfl, rfl, rfl⟩ | ⟨h1, gs, h2, ⟨ev, h3, rfl, rfl, rfl, rfl, rfl⟩ | ⟨h3, rfl, h4, rfl, rfl, rfl, rfl⟩⟩
  · exact .inl rfl
  · exact .inl rfl
  · exact .inr ⟨rfl, rfl, rfl, rfl, rfl, gs, h1, h2, h3, h4⟩
/-- Where there is a clash no plan is good. -/
theorem clash_bad (hs : s.Valid) (hr : r.Valid) (ho : CallsOk r.length l) (ht : TrigsOk r.length l.length ts) {w : World} {A : Option Addr} {k : Nat} {ca cb : Int} {ct : Bool} (h : PlanSays (sumsOf s r) l w A k ca cb ct 5) : ¬GoodPlan (sumsOf s r) l ts := by
  intro hgood
  rcases h with ⟨j, late, h1, h2, h3, _⟩ | ⟨h1, gs, h2, ⟨ev, h3, _⟩ | ⟨_, _, _, _, _, _, h⟩⟩
  · obtain ⟨p, x, g1, g2, g3, g4, g5⟩ := hgood j h1
    obtain ⟨a1, a2, ⟨c, hc, a3⟩, _⟩ := rmL_first _ _ h3
    rw [rmR_le_iff] at g4
    have g6 := g4.2 (late - j) c (by omega) (by rw [show j + (late - j) = late by omega]; exact hc)
    have g7 := (at1_range (s := s) hs hr (ht.at_ g1).1 (ht.at_ g1).2).1
    omega
  · rcases h3 with ⟨h3, _⟩ | ⟨j, hj, _, ⟨c, g, hc, hg, hte⟩, _⟩
    · omega
    · obtain ⟨p, x, g1, g2, g3, g4, g5⟩ := hgood j hj
      have h8 := plan_max hs hr ho ht h2 hgood g1 hg
      rw [hc] at g2
      cases g2
      obtain ⟨g', e1, e2⟩ := h2.2 j c hj hc
      rw [hg] at e1
      cases e1
      have h9 := (at_mono (s := s) hs hr (ht.at_ g1).1 (g - p).toNat (by have := e2.2.1; have := (ho.at_ hc).2.1; omega)).2.1
      rw [show p + (((g - p).toNat : Nat) : Int) = g by omega] at h9
      omega
  · omega
end
end Go.Proofs.YtinglbcafcjhfaaDoor

namespace Go.Proofs.YtinglbcafcjhfaaDoor
open Go.RowKit
set_option linter.unusedVariables false
section
variable {s : Speeds} {r : Road}
theorem quick_slow {p : Piece} (hs : s.Valid) (hp : p.Ok) : quickT s p ≤ slowT s p := by
  have hb := rowOf_bnd hs hp
  rw [bnd_iff] at hb
  obtain ⟨_, hs1, hs2⟩ := surfOf_get hs hp
  unfold quickT slowT
  have e1 : (rowOf s p).1 * surfOf s p ≤ (rowOf s p).2 * surfOf s p := Int.mul_le_mul_of_nonneg_right (by omega) (by omega)
  have e2 : 1 ≤ (rowOf s p).1 * surfOf s p := by
    have := Int.mul_le_mul (show (1 : Int) ≤ (rowOf s p).1 by omega) hs1 (by omega) (by omega)
    omega
  have h1 := div_anti (n := 10000000) (a := max 1 ((rowOf s p).1 * surfOf s p / 100)) (b := ((rowOf s p).2 * surfOf s p + 99) / 100) (by omega) (by omega) (by omega)
  have h2 : (10000000 : Int) / max 1 ((rowOf s p).1 * surfOf s p / 100) ≤ (10000000 + max 1 ((rowOf s p).1 * surfOf s p / 100) - 1) / max 1 ((rowOf s p).1 * surfOf s p / 100) := Int.ediv_le_ediv (by omega) (by omega)
  omega
theorem flat_one_of (f : Piece → Int × Int) : ∀ (l : List Piece) (i : Nat) (v : Int × Int), (l.flatMap fun p => List.replicate p.len.toNat (f p))[i]? = some v → ∃ p, p ∈ l ∧ v = f p
  | [], i, v, h => by simp at h
  | x :: l, i, v, h => by
    rw [List.flatMap_cons] at h
    by_cases hi : i < x.len.toNat
    · rw [List.getElem?_append_left (by simpa using hi), List.getElem?_replicate, if_pos hi] at h
      cases h
      exact ⟨x, List.mem_cons_self, rfl⟩
    · rw [List.getElem?_append_right (by simpa using hi)] at h
      obtain ⟨p, hp, e⟩ := flat_one_of f l _ v h
      exact ⟨p, List.mem_cons_of_mem _ hp, e⟩
theorem meterOf_le (hs : s.Valid) (hr : r.Valid) {p : Int} (h0 : 0 ≤ p) (h1 : p < r.length) : (meterOf s r p).1 ≤ (meterOf s r p).2 := by
  have g1 := metersOf_get (s := s) hr h0 h1
  unfold metersOf metersUp at g1
  obtain ⟨q, hq, e⟩ := flat_one_of _ _ _ _ g1
  rw [e]
  exact quick_slow hs (piecesOk_mem hr.pieces q (List.mem_of_mem_take hq))
theorem at_both (hs : s.Valid) (hr : r.Valid) {a : Int} (h0 : 0 ≤ a) : ∀ (d : Nat), a + d ≤ r.length → at1 (sumsOf s r) (a + d) - at1 (sumsOf s r) a ≤ at2 (sumsOf s r) (a + d) - at2 (sumsOf s r) a
  | 0, _ => by simp
  | d + 1, h => by
    have ih := at_both hs hr h0 d (by omega)
    have hb := meterOf_le (s := s) hs hr (p := a + d) (by omega) (by omega)
    have e1 := at1_succ hs hr (p := a + d) (by omega) (by omega)
    have e2 := at2_succ hs hr (p := a + d) (by omega) (by omega)
    rw [show a + ((d + 1 : Nat) : Int) = a + d + 1 by omega, e1, e2]
    omega
theorem at_both_le (hs : s.Valid) (hr : r.Valid) {a b : Int} (h0 : 0 ≤ a) (h1 : a ≤ b) (h2 : b ≤ r.length) : at1 (sumsOf s r) b - at1 (sumsOf s r) a ≤ at2 (sumsOf s r) b - at2 (sumsOf s r) a := by
  have := at_both hs hr h0 (b - a).toNat (by omega)
  rwa [show a + (((b - a).toNat : Nat) : Int) = b by omega] at this
end
end Go.Proofs.YtinglbcafcjhfaaDoor
