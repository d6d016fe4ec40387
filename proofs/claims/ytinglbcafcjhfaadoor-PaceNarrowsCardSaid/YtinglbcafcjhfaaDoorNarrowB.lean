/- Narrowed passings: the plain words (upward, then downward), their bounds, what a run that fits has to do with them. A cell of an own slice of records is written; slices.Clone over passings; the closure of pace.Narrow. -/
import Derived.Test.YtinglbcafcjhfaaDoorFitC
import Derived.Test.YtinglbcafcjhfaaDoorLatestA
import Derived.Test.YtinglbcafcjhfaaDoorFitB
import Derived.WalkSpells
namespace Go.Proofs.YtinglbcafcjhfaaDoor
open Go.RowKit
set_option linter.unusedVariables false

def pass0 : Passing := ⟨0, 0, 0⟩
/-- A passing, narrowed by the one before it; by the one behind it. -/
def Passing.up (sums : List (Int × Int)) (b x : Passing) : Passing := ⟨x.place, max x.earliest (b.earliest + (at1 sums x.place - at1 sums b.place)), min x.latest (b.latest + (at2 sums x.place - at2 sums b.place))⟩
def Passing.down (sums : List (Int × Int)) (x b : Passing) : Passing := ⟨x.place, max x.earliest (b.earliest - (at2 sums b.place - at2 sums x.place)), min x.latest (b.latest - (at1 sums b.place - at1 sums x.place))⟩
/-- The k-th passing narrowed upward, and then downward with the k last ones. -/
def upAt (sums : List (Int × Int)) (l : List Passing) : Nat → Passing
  | 0 => Passing.up sums pass0 (l.getD 0 pass0)
  | k + 1 => Passing.up sums (upAt sums l k) (l.getD (k + 1) pass0)
/-- The passings after k rounds of the first loop. -/
def ups (sums : List (Int × Int)) (l : List Passing) (k : Nat) : List Passing := (List.range k).map (upAt sums l) ++ l.drop k
/-- The passing k places ahead of the last one, narrowed downward. -/
def downAt (sums : List (Int × Int)) (m : List Passing) : Nat → Passing
  | 0 => m.getD (m.length - 1) pass0
  | k + 1 => Passing.down sums (m.getD (m.length - 1 - (k + 1)) pass0) (downAt sums m k)
/-- The passings after k rounds of the second loop. -/
def downs (sums : List (Int × Int)) (m : List Passing) (k : Nat) : List Passing := m.take (m.length - 1 - k) ++ ((List.range (k + 1)).map (downAt sums m)).reverse
def narrowed (sums : List (Int × Int)) (l : List Passing) : List Passing := if l.length = 0 then [] else downs sums (ups sums l l.length) (l.length - 1)
section
variable {sums : List (Int × Int)} {l m : List Passing} {k : Nat} {x y : Passing}
theorem ups_len (h : k ≤ l.length) : (ups sums l k).length = l.length := by simp [ups]; omega
theorem ups_zero : ups sums l 0 = l := by simp [ups]
theorem ups_old {i : Nat} (h : k ≤ i) : (ups sums l k)[i]? = l[i]? := by
  unfold ups
  rw [List.getElem?_append_right (by simpa using h)]
  simp only [List.length_map, List.length_range, List.getElem?_drop]
  congr 1
  omega
theorem ups_new {i : Nat} (h : i < k) : (ups sums l k)[i]? = some (upAt sums l i) := by
  unfold ups
  rw [List.getElem?_append_left (by simpa using h)]
  simp [h]
theorem ups_succ (h : k < l.length) : ups sums l (k + 1) = (ups sums l k).set k (upAt sums l k) := by
  apply List.ext_getElem?
  intro i
  rw [List.getElem?_set]
  by_cases hi : k = i
  · subst hi
    rw [if_pos rfl, if_pos (by rw [ups_len (by omega)]; exact h), ups_new (by omega)]
  · rw [if_neg hi]
    by_cases hl : i < k
    · rw [ups_new (by omega), ups_new hl]
    · rw [ups_old (by omega), ups_old (by omega)]
theorem upAt_zero (hx : l[0]? = some x) : upAt sums l 0 = Passing.up sums pass0 x := by
  show Passing.up sums pass0 (l.getD 0 pass0) = _
  rw [List.getD_eq_getElem?_getD, hx]
  rfl
theorem upAt_succ (hx : l[k + 1]? = some x) : upAt sums l (k + 1) = Passing.up sums (upAt sums l k) x := by
  show Passing.up sums _ (l.getD (k + 1) pass0) = _
  rw [List.getD_eq_getElem?_getD, hx]
  rfl
theorem downAt_zero (h : 0 < m.length) (hx : m[m.length - 1]? = some x) : downAt sums m 0 = x := by
  show m.getD (m.length - 1) pass0 = _
  rw [List.getD_eq_getElem?_getD, hx]
  rfl
theorem downAt_succ (hx : m[m.length - 1 - (k + 1)]? = some x) : downAt sums m (k + 1) = Passing.down sums x (downAt sums m k) := by
  show Passing.down sums (m.getD (m.length - 1 - (k + 1)) pass0) _ = _
  rw [List.getD_eq_getElem?_getD, hx]
  rfl
theorem downs_len (h : k < m.length) : (downs sums m k).length = m.length := by simp [downs]; omega
theorem downs_old {i : Nat} (h : i < m.length - 1 - k) : (downs sums m k)[i]? = m[i]? := by
  unfold downs
  rw [List.getElem?_append_left (by simp; omega), List.getElem?_take, if_pos h]
theorem downs_new {i : Nat} (hk : k < m.length) (h : m.length - 1 - k ≤ i) (hi : i < m.length) : (downs sums m k)[i]? = some (downAt sums m (m.length - 1 - i)) := by
  unfold downs
  rw [List.getElem?_append_right (by simp; omega)]
  rw [List.getElem?_reverse (by simp; omega)]
  simp only [List.length_take, List.length_map, List.length_range]
  rw [List.getElem?_map, List.getElem?_range (by omega)]
  simp only [Option.map_some]
  congr 2
  omega
theorem downs_zero (h : 0 < m.length) : downs sums m 0 = m := by
  apply List.ext_getElem?
  intro i
  by_cases hi : i < m.length - 1
  · rw [downs_old (by omega)]
  · by_cases h2 : i < m.length
    · obtain rfl : i = m.length - 1 := by omega
      rw [downs_new (by omega) (by omega) h2, List.getElem?_eq_getElem h2, show m.length - 1 - (m.length - 1) = 0 by omega, downAt_zero h (List.getElem?_eq_getElem h2)]
    · rw [List.getElem?_eq_none (by rw [downs_len h]; omega), List.getElem?_eq_none (by omega)]
theorem downs_succ (h : k + 1 < m.length) : downs sums m (k + 1) = (downs sums m k).set (m.length - 1 - (k + 1)) (downAt sums m (k + 1)) := by
  apply List.ext_getElem?
  intro i
  rw [List.getElem?_set]
  by_cases hi : m.length - 1 - (k + 1) = i
  · subst hi
    rw [if_pos rfl, if_pos (by rw [downs_len (by omega)]; omega), downs_new h (by omega) (by omega)]
    congr 2
    omega
  · rw [if_neg hi]
    by_cases hl : i < m.length - 1 - (k + 1)
    · rw [downs_old hl, downs_old (by omega)]
    · by_cases h2 : i < m.length
      · rw [downs_new h (by omega) h2, downs_new (by omega) (by omega) h2]
      · rw [List.getElem?_eq_none (by rw [downs_len h]; omega), List.getElem?_eq_none (by rw [downs_len (by omega)]; omega)]
theorem narrowed_len : (narrowed sums l).length = l.length := by
  unfold narrowed
  by_cases h : l.length = 0
  · rw [if_pos h, h]; rfl
  · rw [if_neg h, downs_len (by rw [ups_len (Nat.le_refl _)]; omega), ups_len (Nat.le_refl _)]
theorem narrowed_nil (h : l.length = 0) : narrowed sums l = [] := by unfold narrowed; rw [if_pos h]
theorem narrowed_some (h : 0 < l.length) : narrowed sums l = downs sums (ups sums l l.length) (l.length - 1) := by unfold narrowed; rw [if_neg (by omega)]
end

/-! ### Bounds -/
section
variable {s : Speeds} {r : Road} {l : List Passing} {k : Nat} {x : Passing}
def Passing.In (s : Speeds) (r : Road) (x : Passing) : Prop := 0 ≤ x.place ∧ x.place ≤ r.length ∧ 0 ≤ x.earliest ∧ x.earliest ≤ 1125899906842624 + at1 (sumsOf s r) x.place ∧ at1 (sumsOf s r) x.place - 1000000000000 ≤ x.latest ∧ x.latest ≤ 1125899906842624
theorem at2_range (hs : s.Valid) (hr : r.Valid) {p : Int} (h0 : 0 ≤ p) (h1 : p ≤ r.length) : 0 ≤ at2 (sumsOf s r) p ∧ at2 (sumsOf s r) p ≤ 1000000000000 := by
  have h := (at_mono (s := s) hs hr (a := 0) (by omega) p.toNat (by omega)).2
  have hz := at2_zero (s := s) (r := r)
  have hsh := hr.short
  rw [show (0 : Int) + (p.toNat : Int) = p by omega] at h
  omega
theorem at2_le (hs : s.Valid) (hr : r.Valid) {a b : Int} (h0 : 0 ≤ a) (h1 : a ≤ b) (h2 : b ≤ r.length) : at2 (sumsOf s r) a ≤ at2 (sumsOf s r) b := by
  have h := (at_mono (s := s) hs hr (a := a) h0 (b - a).toNat (by omega)).2.1
  rwa [show a + (((b - a).toNat : Nat) : Int) = b by omega] at h
theorem PassOk.in_ (hs : s.Valid) (hr : r.Valid) (h : PassOk r.length l) (hx : l[k]? = some x) : x.In s r := by
  obtain ⟨h1, h2, h3, h4, h5⟩ := h.at_ hx
  have := at1_range (s := s) hs hr h1 h2
  exact ⟨h1, h2, by omega, by omega, by omega, by omega⟩
theorem PassOk.up_in (hs : s.Valid) (hr : r.Valid) (h : PassOk r.length l) : ∀ k, k < l.length → ∃ x, l[k]? = some x ∧ (upAt (sumsOf s r) l k).place = x.place ∧ (upAt (sumsOf s r) l k).In s r ∧ 0 ≤ (upAt (sumsOf s r) l k).latest
  | 0, hk => by
    have hx : l[0]? = some l[0] := List.getElem?_eq_getElem hk
    refine ⟨l[0], hx, by rw [upAt_zero hx]; rfl, ?_⟩
    obtain ⟨h1, h2, h3, h4, h5⟩ := h.at_ hx
    have e1 := at1_range (s := s) hs hr h1 h2
    have e2 := at2_range (s := s) hs hr h1 h2
    have z1 := at1_zero (s := s) (r := r)
    have z2 := at2_zero (s := s) (r := r)
    rw [upAt_zero hx]
    unfold Passing.In Passing.up pass0
    simp only [z1, z2]
    omega
  | k + 1, hk => by
    have hx : l[k + 1]? = some l[k + 1] := List.getElem?_eq_getElem hk
    obtain ⟨y, hy, g1, ⟨g2, g3, g4, g5, g6, g7⟩, g8⟩ := PassOk.up_in hs hr h k (by omega)
    have hlt := h.lt hx hy
    refine ⟨l[k + 1], hx, by rw [upAt_succ hx]; rfl, ?_⟩
    obtain ⟨h1, h2, h3, h4, h5⟩ := h.at_ hx
    have e1 := at1_range (s := s) hs hr h1 h2
    have e2 := at2_range (s := s) hs hr h1 h2
    have e3 := at1_le (s := s) hs hr g2 (b := l[k + 1].place) (by omega) h2
    have e4 := at2_le (s := s) hs hr g2 (b := l[k + 1].place) (by omega) h2
    rw [upAt_succ hx]
    unfold Passing.In Passing.up
    simp only
    omega
/-- What is narrowed upward: the same places, in bounds. -/
def UpsOk (s : Speeds) (r : Road) (m : List Passing) : Prop := m.length ≤ 200 ∧ (∀ (k : Nat) x, m[k]? = some x → x.In s r) ∧ ∀ (k : Nat) x y, m[k + 1]? = some x → m[k]? = some y → y.place < x.place
theorem ups_ok (hs : s.Valid) (hr : r.Valid) (h : PassOk r.length l) : ∀ k, k ≤ l.length → UpsOk s r (ups (sumsOf s r) l k) := by
  intro k hk
  refine ⟨by rw [ups_len hk]; exact h.1, fun i x hx => ?_, fun i x y hx hy => ?_⟩
  · rcases Nat.lt_or_ge i k with hi | hi
    · rw [ups_new hi] at hx
      cases hx
      obtain ⟨_, _, _, h1, _⟩ := h.up_in hs hr i (by omega)
      exact h1
    · rw [ups_old hi] at hx
      exact h.in_ hs hr hx
  · have pl : ∀ (i : Nat) z, (ups (sumsOf s r) l k)[i]? = some z → ∃ z', l[i]? = some z' ∧ z.place = z'.place := by
      intro i z hz
      rcases Nat.lt_or_ge i k with hi | hi
      · rw [ups_new hi] at hz
        cases hz
        obtain ⟨z', h1, h2, _⟩ := h.up_in hs hr i (by omega)
        exact ⟨z', h1, h2⟩
      · rw [ups_old hi] at hz
        exact ⟨z, hz, rfl⟩
    obtain ⟨x', h1, h2⟩ := pl _ _ hx
    obtain ⟨y', h3, h4⟩ := pl _ _ hy
    have := h.lt h1 h3
    omega
theorem UpsOk.down_in {m : List Passing} (hs : s.Valid) (hr : r.Valid) (h : UpsOk s r m) : ∀ k, k < m.length → ∃ x, m[m.length - 1 - k]? = some x ∧ (downAt (sumsOf s r) m k).place = x.place ∧ (downAt (sumsOf s r) m k).In s r
  | 0, hk => by
    have hx : m[m.length - 1]? = some m[m.length - 1] := List.getElem?_eq_getElem _
    exact ⟨_, hx, by rw [downAt_zero hk hx], by rw [downAt_zero hk hx]; exact h.2.1 _ _ hx⟩
  | k + 1, hk => by
    obtain ⟨y, hy, g1, ⟨g2, g3, g4, g5, g6, g7⟩⟩ := UpsOk.down_in hs hr h k (by omega)
    have hx : m[m.length - 1 - (k + 1)]? = some m[m.length - 1 - (k + 1)] := List.getElem?_eq_getElem _
    have hlt := h.2.2 (m.length - 1 - (k + 1)) y _ (by rw [show m.length - 1 - (k + 1) + 1 = m.length - 1 - k by omega]; exact hy) hx
    obtain ⟨h1, h2, h3, h4, h5, h6⟩ := h.2.1 _ _ hx
    refine ⟨_, hx, by rw [downAt_succ hx]; rfl, ?_⟩
    have e3 := at1_le (s := s) hs hr h1 (b := (downAt (sumsOf s r) m k).place) (by omega) g3
    have e4 := at2_le (s := s) hs hr h1 (b := (downAt (sumsOf s r) m k).place) (by omega) g3
    have e5 := at1_range (s := s) hs hr g2 g3
    have e6 := at2_range (s := s) hs hr g2 g3
    have e7 := at1_range (s := s) hs hr h1 h2
    have e8 := at2_range (s := s) hs hr h1 h2
    rw [downAt_succ hx]
    unfold Passing.In Passing.down
    have e9 := at_both_le (s := s) hs hr h1 (b := (downAt (sumsOf s r) m k).place) (by omega) g3
    simp only
    omega
end
end Go.Proofs.YtinglbcafcjhfaaDoor

namespace Go.Proofs.YtinglbcafcjhfaaDoor
open Go.RowKit
set_option linter.unusedVariables false
set_option linter.unusedSimpArgs false

theorem add_own (g n : Nat) : (⟨g, 0, none⟩ : Addr).add n = ⟨g, n, none⟩ := by
  unfold Addr.add
  split <;> simp_all
section
variable {α : Type} {enc : α → List Int} {sz : Nat}
theorem flat_cons (x : α) (xs : List α) : flat enc (x :: xs) = (enc x).map (Value.int .i64) ++ flat enc xs := by
  rw [show x :: xs = [x] ++ xs from rfl, flat_append, flat_one]
theorem flat_set (h : ∀ x, (enc x).length = sz) : ∀ (xs : List α) (i : Nat) (x y : α) (j : Nat) (v : Int), xs[i]? = some x → j < sz → enc y = (enc x).set j v → flat enc (xs.set i y) = (flat enc xs).set (i * sz + j) (.int .i64 v)
  | [], i, x, y, j, v, hx, hj, he => by simp at hx
  | z :: zs, 0, x, y, j, v, hx, hj, he => by
    obtain rfl : z = x := by simpa using hx
    rw [List.set_cons_zero, flat_cons, flat_cons, he, List.set_append_left _ _ (by rw [List.length_map, h]; omega), Nat.zero_mul, Nat.zero_add, List.map_set]
  | z :: zs, i + 1, x, y, j, v, hx, hj, he => by
    have hx' : zs[i]? = some x := by simpa using hx
    have e1 : sz ≤ (i + 1) * sz + j := by rw [Nat.add_mul]; omega
    have e2 : (i + 1) * sz + j - sz = i * sz + j := by rw [Nat.add_mul]; omega
    rw [List.set_cons_succ, flat_cons, flat_cons, List.set_append_right _ _ (by rw [List.length_map, h]; exact e1), List.length_map, h, e2, flat_set h zs i x y j v hx' hj he]
variable {e : TypeId} {w : World} {base g n cap : Nat} {v : Value} {xs : List α}
theorem Own.set (h : Own sz enc e w base (.slice (some ⟨g, 0, none⟩) n cap) xs) (henc : ∀ x, (enc x).length = sz) (hn : n = xs.length) {i : Nat} {x y : α} {j : Nat} {u : Int} (hx : xs[i]? = some x) (hj : j < sz) (he : enc y = (enc x).set j u) :
    Own sz enc e (w.setCell ⟨g, i * sz + j, none⟩ (.int .i64 u)) base (.slice (some ⟨g, 0, none⟩) n cap) (xs.set i y) := by
  subst hn
  have := (World.ownsRow.stored h (i * sz + j) (.int .i64 u)).1
  unfold Own
  rw [List.length_set, flat_set henc xs i x y j u hx hj he]
  exact this
theorem Own.cellAt (h : Own sz enc e w base (.slice (some ⟨g, 0, none⟩) n cap) xs) (henc : ∀ x, (enc x).length = sz) {i : Nat} {x : α} {j : Nat} {u : Int} (hx : xs[i]? = some x) (hv : (enc x)[j]? = some u) : w.cell? ⟨g, i * sz + j, none⟩ = some (.int .i64 u) := by
  have := World.ownsRow.cells h (g := g) rfl _ _ (flat_get henc xs i x hx j u hv)
  have e : (⟨g, 0, none⟩ : Addr).add (i * sz + j) = ⟨g, i * sz + j, none⟩ := by
    unfold Addr.add
    split
    · rename_i hz
      have hz' : i * sz + j = 0 := by omega
      rw [hz']
    · simp
  rwa [e] at this
theorem Own.free (h : Own sz enc e w base (.slice (some ⟨g, 0, none⟩) n cap) xs) (hn : n = xs.length) (j : Nat) : w.frozen? ⟨g, j, none⟩ = false := by
  subst hn
  exact World.ownsRow.frozenAt h j
theorem Own.blk_lt (h : Own sz enc e w base (.slice (some ⟨g, 0, none⟩) n cap) xs) : base ≤ g ∧ g < w.heap.size := by
  rcases h.2 with ⟨h', _⟩ | ⟨g', cap', cur, h', hb, hg, _⟩
  · simp at h'
  · simp only [Value.slice.injEq, Option.some.injEq, Addr.mk.injEq, and_true, true_and] at h'
    obtain ⟨rfl, _⟩ := h'
    exact ⟨hb, lt_of_blk hg⟩
theorem Own.rd (h : Own sz enc e w base (.slice (some ⟨g, 0, none⟩) n cap) xs) (henc : ∀ x, (enc x).length = sz) : Rd sz enc w (some ⟨g, 0, none⟩) n xs := by
  obtain ⟨A, c, hv, _, hr⟩ := h.reads henc
  simp only [Value.slice.injEq] at hv
  obtain ⟨rfl, rfl, rfl⟩ := hv
  exact hr
theorem Own.form_ (h : Own sz enc e w base v xs) (h0 : 0 < xs.length) : ∃ g cap, v = .slice (some ⟨g, 0, none⟩) xs.length cap := by
  obtain ⟨g, cap, rfl, _⟩ := World.ownsRow.form h h0
  exact ⟨g, cap, rfl⟩
end
/-- append(v, l...) to an own slice v, all of l. -/
theorem own_append_all {α : Type} {sz : Nat} {enc : α → List Int} {e : TypeId} {w w0 : World} {v : Value} {xs ys : List α} {P : Program} {ops : Array Oper} {rest : List Oper} {o : Oper} {a : Act} {Q : Exit → Act → World → Prop}
    (henc : ∀ x, (enc x).length = sz) (hgd : o.guard = none) (s x : Operand) (t : TypeId) (z : Value) (bytes : Nat)
    (ho : o.op = .call { callee := .builtin .append, args := #[s, x], argTypes := #[t, t] })
    (ht : P.underlying t = some (.slice e)) (hinfo : (P.info? e).map (fun i => (i.zero, i.size, i.bytes)) = some (some z, sz, bytes)) (hz : z.cells.size = sz) (hs0 : 0 < sz) (hb0 : 0 < bytes)
    (HO : Own sz enc e w w0.heap.size v xs) (hs : a.eval s = v) (A : Addr) (n c : Nat) (hx : a.eval x = .slice (some A) n c) (HR : Rd sz enc w (some A) n ys)
    (HB : Below w0.heap.size w0 w) (hl : (xs.length + n) * bytes ≤ 140737488355328)
    (h : ∀ v' w1, Own sz enc e w1 w0.heap.size v' (xs ++ ys) → Below w0.heap.size w0 w1 → w.grownBy w1 v.ownBlock → wpList P ops Q rest (a.put o.dst v') w1) :
    wpList P ops Q (o :: rest) a w := by
  obtain ⟨i0, hi, hzz⟩ := Option.map_eq_some_iff.1 hinfo
  simp only [Prod.mk.injEq] at hzz
  obtain ⟨hz0, hz1, hz2⟩ := hzz
  have hlen : xs.length + n ≤ 140737488355328 := Nat.le_trans (Nat.le_mul_of_pos_right _ hb0) hl
  have hyn := HR.1
  refine wpList_append_own_at w hgd s x t ho w0.heap.size e i0 z sz bytes ht hi hz0 hz1 hz2 hz hs0 v xs.length _ hs HO A n c (flat enc ys) hx (by rw [flat_length henc, hyn])
    (fun j u hu => ?_) (fun u hu => ?_) (by simp only [maxLen]; omega) hl HB.size ?_
  · -- the j-th cell is some record's some field
    have hj : j < n * sz := by have := (List.getElem?_eq_some_iff.1 hu).1; rwa [flat_length henc, hyn] at this
    have hi2 : j / sz < n := by rw [Nat.div_lt_iff_lt_mul hs0]; exact hj
    obtain ⟨y, hy⟩ := HR.get hi2
    have hm : j % sz < (enc y).length := by rw [henc]; exact Nat.mod_lt _ hs0
    have hv := List.getElem?_eq_getElem hm
    have hf := flat_get henc ys (j / sz) y hy (j % sz) _ hv
    rw [Nat.div_add_mod' j sz] at hf
    rw [hf] at hu
    cases hu
    obtain ⟨ad, e', hc⟩ := HR.2.2 _ _ hy
    cases e'
    have := hc (j % sz) _ hv
    rwa [Nat.div_add_mod' j sz] at this
  · unfold flat at hu
    obtain ⟨q, _, rfl⟩ := List.mem_map.1 hu
    rfl
  · intro v' w1 hown hg _ _
    refine h v' w1 ?_ (HB.grown hg HB.size (fun k hk => (World.ownsRow.lt HO k hk).1)) hg
    unfold Own
    rw [List.length_append, hyn, flat_append]
    exact hown
theorem info_pass : (Tryd.prog.info? 89).map (fun i => (i.zero, i.size, i.bytes)) = some (some (.agg #[.int .i64 0, .int .i64 0, .int .i64 0]), 3, 24) := by kernel_rfl
def ClonePost (l : List Passing) (w : World) (e : Ending) (w' : World) : Prop := ∃ v, e = .returned v ∧ Own 3 Passing.enc 89 w' w.heap.size v l ∧ Below w.heap.size w w'
set_option maxRecDepth 100000 in
set_option maxHeartbeats 1000000 in
theorem clone_pass (l : List Passing) (A : Option Addr) (n c : Nat) (w : World) (h : Rd 3 Passing.enc w A n l) (hn : n ≤ 1000000) :
    Calls Tryd.prog 85 #[.slice A n c] w (ClonePost l w) := by
  have H := Lib.hid h
  cases A with
  | none =>
    obtain rfl : n = 0 := by
      refine Classical.byContradiction fun h0 => ?_
      obtain ⟨x, hx⟩ := h.get (i := 0) (by omega)
      obtain ⟨ad, e, _⟩ := h.2.2 _ _ hx
      cases e
    obtain rfl : l = [] := List.eq_nil_of_length_eq_zero h.1
    clear h
    have heq := fun (w : World) => Lib.run_eql_slice_nil (P := Tryd.prog) w 66 89 none 0 c 0 0 Tryd.underlying66
    go_enter Tryd.func85, Tryd.ntmps85
    go_wp2
    go_ret
    exact ⟨_, rfl, Own.nil, Below.refl _ _⟩
  | some A =>
    clear h
    have heq := fun (w : World) => Lib.run_eql_slice_nil (P := Tryd.prog) w 66 89 (some A) n c 0 0 Tryd.underlying66
    go_enter Tryd.func85, Tryd.ntmps85
    have HOw : Own 3 Passing.enc 89 (w.alloc (.cells #[] 89)) w.heap.size (.slice (some ⟨w.heap.size, 0, none⟩) 0 0) ([] : List Passing) := World.ownsRow_lit w #[] 0 (Nat.le_refl _) (by unfold maxLen; omega) (by simp)
    have HO := Lib.hid HOw
    clear HOw
    go_wp2_with (at_builtin; refine own_append_all Passing.enc_len rfl (.tmp 5) (.tmp 6) 66 (.agg #[.int .i64 0, .int .i64 0, .int .i64 0]) 24 rfl Tryd.underlying66 info_pass rfl (by decide) (by decide) HO.out rfl A n c rfl (H.out.below (by repeat (first | assumption | exact Below.refl _ _ | apply bel_alloc | apply bel_drew | apply bel_drewN | (refine bel_set ?_ (by first | assumption | omega | (simp; done) | (simp; omega)) _)))) (by repeat (first | assumption | exact Below.refl _ _ | apply bel_alloc | apply bel_drew | apply bel_drewN | (refine bel_set ?_ (by first | assumption | omega | (simp; done) | (simp; omega)) _))) (by simp; omega) ?_; intro v w1 hown hb hg; clear hg)
    go_ret
    exact ⟨v, rfl, hown, hb⟩
end Go.Proofs.YtinglbcafcjhfaaDoor
