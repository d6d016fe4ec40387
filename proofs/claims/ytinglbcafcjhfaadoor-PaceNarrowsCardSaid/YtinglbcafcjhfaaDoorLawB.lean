/- What the laws of plans share: few calls; that the program's plan and the reference's are one. -/
import Derived.Test.YtinglbcafcjhfaaDoorLawA
import Derived.Test.YtinglbcafcjhfaaDoorRefG
namespace Go.Proofs.YtinglbcafcjhfaaDoor
open Go.RowKit
set_option linter.unusedVariables false
set_option linter.unusedSimpArgs false

def LawPost (w : World) (e : Ending) (w' : World) : Prop := e = .returned (.bool true) ∧ Below w.heap.size w w'
theorem law_some (C : Option Addr) (n c : Nat) (w : World) :
    Calls Tryd.prog 30 #[.slice C n c] w fun e w' => e = .returned (.bool (decide ((n : Int) ≤ 8))) ∧ w = w' := by
  go_enter Tryd.func30, Tryd.ntmps30
  go_wp2
  all_goals
    go_ret
    exact ⟨rfl, rfl⟩
section
variable {s : Speeds} {r : Road} {l : List Call} {gs gs' : List Int}
theorem CallsOk.place_le {N : Int} (h : CallsOk N l) {i : Nat} {x : Call} (hx : l[i]? = some x) : 0 ≤ x.place ∧ x.place ≤ N := by
  have h1 := (h.at_ hx).1
  have h2 := (h.at_ hx).2.1
  omega
theorem gs_agree (hs : s.Valid) (hr : r.Valid) (ho : CallsOk r.length l) {k k' : Nat} (h : GsIs (sumsOf s r) l gs k) (h' : GsIs (sumsOf s r) l gs' k') {i : Nat} (hi : i < k) (hi' : i < k') (hl : i < l.length) : gs[i]? = gs'[i]? := by
  have hc : l[i]? = some l[i] := List.getElem?_eq_getElem hl
  obtain ⟨g, hg, h1⟩ := h.2 i _ hi hc
  obtain ⟨g', hg', h2⟩ := h'.2 i _ hi' hc
  rw [hg, hg', last_unique hs hr (ho.place_le hc).2 h1 h2]
theorem gs_same (hs : s.Valid) (hr : r.Valid) (ho : CallsOk r.length l) (h : GsIs (sumsOf s r) l gs l.length) (h' : GsIs (sumsOf s r) l gs' l.length) : gs = gs' := by
  apply List.ext_getElem?
  intro i
  rcases Nat.lt_or_ge i l.length with hi | hi
  · exact gs_agree hs hr ho h h' hi hi hi
  · rw [List.getElem?_eq_none (by have := h.1; omega), List.getElem?_eq_none (by have := h'.1; omega)]
theorem tooEarly_congr {sums : List (Int × Int)} {i : Nat} (h : gs[i]? = gs'[i]?) : TooEarly sums l gs i ↔ TooEarly sums l gs' i := by
  unfold TooEarly
  rw [h]
theorem late_absurd {sums : List (Int × Int)} {j late : Nat} (h : InTimeUp sums l l.length) (hj : j < l.length) (hl : rmL sums l j (l.length - j) = late) : False := by
  have := h j hj
  omega
theorem late_agree {sums : List (Int × Int)} {j late j' late' : Nat} (h : InTimeUp sums l j) (hl : rmL sums l j (l.length - j) = late) (h' : InTimeUp sums l j') (hl' : rmL sums l j' (l.length - j') = late') : j = j' ∧ late = late' := by
  have hj : j = j' := by
    rcases Nat.lt_trichotomy j j' with hh | hh | hh
    · have := h' j hh
      omega
    · exact hh
    · have := h j' hh
      omega
  subst hj
  exact ⟨rfl, by omega⟩
theorem early_agree (hs : s.Valid) (hr : r.Valid) (ho : CallsOk r.length l) (h : GsIs (sumsOf s r) l gs l.length) {j : Nat} (h' : GsIs (sumsOf s r) l gs' j) (hn : ∀ i, i < j → ¬TooEarly (sumsOf s r) l gs' i) {x : Call} (hx : l[j]? = some x) {g : Int} (hg : LastIs (roomQ (sumsOf s r) l j) x.place g) (ht : x.ahead < at2 (sumsOf s r) x.place - at2 (sumsOf s r) g) {ev : Int} (he : EarlyIs (sumsOf s r) l gs l.length ev) : ev = j := by
  have hj : j < l.length := (List.getElem?_eq_some_iff.1 hx).1
  obtain ⟨g', hg', h1⟩ := h.2 j x hj hx
  obtain rfl : g' = g := last_unique hs hr (ho.place_le hx).2 h1 hg
  have hte : TooEarly (sumsOf s r) l gs j := ⟨x, g', hx, hg', ht⟩
  have hnt : ∀ i, i < j → ¬TooEarly (sumsOf s r) l gs i := fun i hi hh => hn i hi ((tooEarly_congr (gs_agree hs hr ho h h' (by omega) hi (by omega))).1 hh)
  rcases he with ⟨_, h2⟩ | ⟨q, h2, rfl, h3, h4⟩
  · exact absurd hte (h2 j hj)
  · rcases Nat.lt_trichotomy q j with hh | hh | hh
    · exact absurd h3 (hnt q hh)
    · rw [hh]
    · exact absurd hte (h4 j hh)
theorem early_none (hs : s.Valid) (hr : r.Valid) (ho : CallsOk r.length l) (h : GsIs (sumsOf s r) l gs l.length) (h' : GsIs (sumsOf s r) l gs' l.length) (hn : ∀ i, i < l.length → ¬TooEarly (sumsOf s r) l gs' i) {ev : Int} (he : EarlyIs (sumsOf s r) l gs l.length ev) : ev = -1 := by
  obtain rfl := gs_same hs hr ho h h'
  rcases he with ⟨h1, _⟩ | ⟨q, h2, rfl, h3, h4⟩
  · exact h1
  · exact absurd h3 (hn q h2)
end
/-- What the program's plan says: the row, the clash, the error. -/
def PlanSays (sums : List (Int × Int)) (l : List Call) (w' : World) (A : Option Addr) (k : Nat) (ca cb : Int) (ct : Bool) (er : Int) : Prop :=
  (∃ j late : Nat, j < l.length ∧ InTimeUp sums l j ∧ rmL sums l j (l.length - j) = late ∧ k = 0 ∧ ca = j ∧ cb = late ∧ ct = false ∧ er = 5) ∨
  (InTimeUp sums l l.length ∧ ∃ gs, GsIs sums l gs l.length ∧ ((∃ ev : Nat, EarlyIs sums l gs l.length ev ∧ k = 0 ∧ ca = ev ∧ cb = ev ∧ ct = true ∧ er = 5) ∨
    (EarlyIs sums l gs l.length (-1) ∧ k = l.length ∧ Rd 1 intEnc w' A k gs ∧ ca = 0 ∧ cb = 0 ∧ ct = false ∧ er = 0)))
theorem PlanPost.says {sums : List (Int × Int)} {l : List Call} {w w' : World} {e : Ending} (h : PlanPost sums l w e w') :
    Below w.heap.size w w' ∧ ∃ (A : Option Addr) (k cc : Nat) (ca cb : Int) (ct : Bool) (er : Int), e = .returned (.tuple #[.slice A k cc, .agg #[.int .i64 ca, .int .i64 cb, .bool ct], .int .i64 er]) ∧ k ≤ 300 + l.length ∧ PlanSays sums l w' A k ca cb ct er := by
  obtain ⟨hb, ⟨j, late, h1, h2, h3, rfl⟩ | ⟨h1, gs, h2, ⟨ev, h3, rfl⟩ | ⟨h3, A, c, h4, h5, rfl⟩⟩⟩ := h
  · exact ⟨hb, none, 0, 0, j, late, false, 5, rfl, by omega, .inl ⟨j, late, h1, h2, h3, rfl, rfl, rfl, rfl, rfl⟩⟩
  · exact ⟨hb, none, 0, 0, ev, ev, true, 5, rfl, by omega, .inr ⟨h1, gs, h2, .inl ⟨ev, h3, rfl, rfl, rfl, rfl, rfl⟩⟩⟩
  · exact ⟨hb, A, _, c, 0, 0, false, 0, rfl, by omega, .inr ⟨h1, gs, h2, .inr ⟨h3, rfl, h4, rfl, rfl, rfl, rfl⟩⟩⟩
/-- The same of the reference's. -/
def RPlanSays (sums : List (Int × Int)) (l : List Call) (w' : World) (A : Option Addr) (k : Nat) (ca cb : Int) (ct is : Bool) : Prop :=
  (∃ j late : Nat, j < l.length ∧ InTimeUp sums l j ∧ rmL sums l j (l.length - j) = late ∧ ca = j ∧ cb = late ∧ ct = false ∧ is = false) ∨
  (InTimeUp sums l l.length ∧
    ((∃ (j : Nat) (gs : List Int) (x : Call) (g : Int), GsIs sums l gs j ∧ (∀ i, i < j → ¬TooEarly sums l gs i) ∧ l[j]? = some x ∧ LastIs (roomQ sums l j) x.place g ∧ x.ahead < at2 sums x.place - at2 sums g ∧ ca = j ∧ cb = j ∧ ct = true ∧ is = false) ∨
     (∃ gs, GsIs sums l gs l.length ∧ (∀ i, i < l.length → ¬TooEarly sums l gs i) ∧ k = l.length ∧ Rd 1 intEnc w' A k gs ∧ is = true)))
theorem RPlanPost.says {sums : List (Int × Int)} {l : List Call} {w w' : World} {e : Ending} (h : RPlanPost sums l w e w') :
    Below w.heap.size w w' ∧ ∃ (A : Option Addr) (k cc : Nat) (ca cb : Int) (ct is : Bool), e = .returned (.tuple #[.slice A k cc, .agg #[.int .i64 ca, .int .i64 cb, .bool ct], .bool is]) ∧ RPlanSays sums l w' A k ca cb ct is := by
  obtain ⟨hb, ⟨j, late, h1, h2, h3, rfl⟩ | ⟨h1, ⟨j, gs, x, g, h2, h3, h4, h5, h6, rfl⟩ | ⟨gs, h2, h3, A, c, h4, rfl⟩⟩⟩ := h
  · exact ⟨hb, none, 0, 0, j, late, false, false, rfl, .inl ⟨j, late, h1, h2, h3, rfl, rfl, rfl, rfl⟩⟩
  · exact ⟨hb, none, 0, 0, j, j, true, false, rfl, .inr ⟨h1, .inl ⟨j, gs, x, g, h2, h3, h4, h5, h6, rfl, rfl, rfl, rfl⟩⟩⟩
  · exact ⟨hb, A, _, c, 0, 0, false, true, rfl, .inr ⟨h1, .inr ⟨gs, h2, h3, rfl, h4, rfl⟩⟩⟩
/-- They are one. -/
theorem plan_one {s : Speeds} {r : Road} {l : List Call} {w1 w2 : World} {A A' : Option Addr} {k k' : Nat} {ca cb ca' cb' er : Int} {ct ct' is : Bool} (hs : s.Valid) (hr : r.Valid) (ho : CallsOk r.length l)
    (h : PlanSays (sumsOf s r) l w1 A k ca cb ct er) (h' : RPlanSays (sumsOf s r) l w2 A' k' ca' cb' ct' is) :
    (is = false ∧ er = 5 ∧ k = 0 ∧ ca = ca' ∧ cb = cb' ∧ ct = ct') ∨ (is = true ∧ er = 0 ∧ ca = 0 ∧ cb = 0 ∧ ct = false ∧ ∃ gs, Rd 1 intEnc w1 A k gs ∧ Rd 1 intEnc w2 A' k' gs) := by
  rcases h with ⟨j, late, h1, h2, h3, rfl, rfl, rfl, rfl, rfl⟩ | ⟨h1, gs, h2, ⟨ev, h3, rfl, rfl, rfl, rfl, rfl⟩ | ⟨h3, rfl, h4, rfl, rfl, rfl, rfl⟩⟩ <;>
    rcases h' with ⟨j', late', g1, g2, g3, rfl, rfl, rfl, rfl⟩ | ⟨g1, ⟨j', gs', x, g, g2, g3, g4, g5, g6, rfl, rfl, rfl, rfl⟩ | ⟨gs', g2, g3, rfl, g4, rfl⟩⟩
  · obtain ⟨rfl, rfl⟩ := late_agree h2 h3 g2 g3
    exact .inl ⟨rfl, rfl, rfl, rfl, rfl, rfl⟩
  · exact (late_absurd g1 h1 h3).elim
  · exact (late_absurd g1 h1 h3).elim
  · exact (late_absurd h1 g1 g3).elim
  · have := early_agree hs hr ho h2 g2 g3 g4 g5 g6 h3
    exact .inl ⟨rfl, rfl, rfl, this, this, rfl⟩
  · have := early_none hs hr ho h2 g2 g3 h3
    omega
  · exact (late_absurd h1 g1 g3).elim
  · have := early_agree hs hr ho h2 g2 g3 g4 g5 g6 h3
    omega
  · obtain rfl := gs_same hs hr ho h2 g2
    exact .inr ⟨rfl, rfl, rfl, rfl, rfl, gs, h4, g4⟩
end Go.Proofs.YtinglbcafcjhfaaDoor
