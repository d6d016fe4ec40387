/- My words for ranges over a function: which blocks are the caller's own (Dom), what a round keeps (KpD), and that an iterator's own boxes are none of the caller's (Ap). A region that draws its order, inside a fence (of a round too), by one relation over what has come up so far: each operation is shown once. A region that draws its order, whatever is in it (loads, calls, stores), shown operation by operation: each operation's value is one, and it is run against the region's last frame; the world goes by a class that hangs on what has come up. -/
import Derived.RangeFuncNested
import Derived.RangeFuncBound
import Derived.RangeFuncCalls
import Derived.RangeFuncLeaves
import Derived.Shelf.Abstract
import Derived.Shelf.RegionOpen
import Derived.OwnWalkIn
import Derived.TacticsInMore
import Derived.LoopNIn
import Derived.LoopIn
import Derived.Test.YtinglbcafcjhfaaDoorBase
import Derived.OrdersIn
import Derived.Orders
import Derived.Still
import Derived.Deep.Draws
namespace Go.Proofs.YtinglbcafcjhfaaDoor
open Go.RowKit
set_option linter.unusedVariables false

/-- The caller's own blocks: fixed ones, and the row of the slice that lies in cell j of block g. -/
def Dom (L : List Nat) (g j : Nat) (W : World) (k : Nat) : Prop := k ∈ L ∨ ∃ ad n c, W.cell? ⟨g, j, none⟩ = some (.slice (some ad) n c) ∧ ad.block = k
/-- What a round that goes on keeps: all cells but the caller's own. -/
def KpD (L : List Nat) (g j : Nat) (W W' : World) : Prop :=
  W.heap.size ≤ W'.heap.size ∧ (∀ (k : Nat) (o : Obj), W.heap[k]? = some o → o.isCells = true → ¬Dom L g j W k → W'.heap[k]? = some o) ∧ (∀ k, Dom L g j W' k → Dom L g j W k ∨ W.heap.size ≤ k) ∧
    ((∀ k, Dom L g j W k → k < W.heap.size) → ∀ k, Dom L g j W' k → k < W'.heap.size)
section
variable {L : List Nat} {g j : Nat} {W W' W'' : World}
theorem Dom.same (hg : W'.heap[g]? = W.heap[g]?) (k : Nat) : Dom L g j W' k ↔ Dom L g j W k := by
  unfold Dom
  rw [World.cell?_of_block (a := ⟨g, j, none⟩) hg]
theorem KpD.trans (h : KpD L g j W W') (k : KpD L g j W' W'') : KpD L g j W W'' := by
  obtain ⟨h1, h2, h3, h4⟩ := h
  obtain ⟨k1, k2, k3, k4⟩ := k
  refine ⟨Nat.le_trans h1 k1, fun i o hi ho hd => k2 i o (h2 i o hi ho hd) ho fun hd' => ?_, fun i hi => ?_, fun h => k4 (h4 h)⟩
  · rcases h3 i hd' with h | h
    · exact hd h
    · have := (Array.getElem?_eq_some_iff.1 hi).1
      omega
  · rcases k3 i hi with h | h
    · exact h3 i h
    · exact .inr (by omega)
theorem KpD.of_putObj {B : Nat} (hg : g < B) (W : World) (l : Nat) (o o' : Obj) (hl : B ≤ l) (ho : W.heap[l]? = some o) (hc : o.isCells = false) (_ : o.isWalk = false) : KpD L g j W (W.putObj l o') := by
  have hs : ∀ k, k ≠ l → (W.putObj l o').heap[k]? = W.heap[k]? := fun k hk => World.putObj_heap_other hk
  refine ⟨by simp, fun k o2 hk h2 _ => ?_, fun k hk => .inl ((Dom.same (hs g (by omega)) k).1 hk), fun h k hk => ?_⟩
  · rw [hs k (fun e => by subst e; rw [ho] at hk; cases hk; rw [hc] at h2; cases h2)]
    exact hk
  · have := h k ((Dom.same (hs g (by omega)) k).1 hk)
    simpa using this
theorem KpD.below (hg : g < W.heap.size) (hb : Below W.heap.size W W') : KpD L g j W W' :=
  ⟨hb.size, fun k o hk _ _ => bel_blk hb hk, fun k hk => .inl ((Dom.same (hb.block g hg) k).1 hk), fun h k hk => by
    have := h k ((Dom.same (hb.block g hg) k).1 hk)
    have := hb.size
    omega⟩
theorem Blk.inj {b : Nat} {t t' : TypeId} {cs cs' : Array Value} (h : Blk W b t cs) (h' : Blk W b t' cs') : cs = cs' := by
  unfold Blk at h h'
  rw [h] at h'
  injection h' with h'
  injection h' with h'
/-- None of the caller's own blocks is in S. -/
def Ap (L : List Nat) (g j : Nat) (W : World) (S : Nat → Prop) : Prop := g ∈ L ∧ ∀ k, Dom L g j W k → k < W.heap.size ∧ ¬S k
variable {S : Nat → Prop}
theorem Ap.keep (h : Ap L g j W S) (hs : W.heap.size ≤ W'.heap.size) (hk : ∀ k, Dom L g j W k → W'.heap[k]? = W.heap[k]?) : Ap L g j W' S :=
  ⟨h.1, fun k hd => by
    have := h.2 k ((Dom.same (hk g (.inl h.1)) k).1 hd)
    exact ⟨by omega, this.2⟩⟩
theorem Ap.below (h : Ap L g j W S) (hb : Below W.heap.size W W') : Ap L g j W' S := h.keep hb.size fun k hd => hb.block k (h.2 k hd).1
theorem Ap.grown (h : Ap L g j W S) (hb : W.grownBy W' none) : Ap L g j W' S := h.keep hb.size fun k hd => hb.block k (h.2 k hd).1 (by simp)
theorem Ap.set (h : Ap L g j W S) {p : Addr} (hp : S p.block) (u : Value) : Ap L g j (W.setCell p u) S := h.keep (by simp) fun k hd => Below.heap_setCell _ _ _ _ fun e => (h.2 k hd).2 (e ▸ hp)
theorem Ap.new (h : Ap L g j W S) (hb : Below W.heap.size W W') (b : Nat) (hb2 : W.heap.size ≤ b) : Ap L g j W' (fun k => S k ∨ k = b) :=
  ⟨h.1, fun k hd => by
    have := h.2 k ((Dom.same (hb.block g (h.2 g (.inl h.1)).1) k).1 hd)
    have := hb.size
    refine ⟨by omega, ?_⟩
    rintro (hh | hh)
    · exact (h.2 k ((Dom.same (hb.block g (h.2 g (.inl h.1)).1) k).1 hd)).2 hh
    · omega⟩
theorem Ap.kp (h : Ap L g j W S) (hk : KpD L g j W W') (hS : ∀ k, S k → k < W.heap.size) : Ap L g j W' S :=
  ⟨h.1, fun k hd => ⟨hk.2.2.2 (fun k hd => (h.2 k hd).1) k hd, fun hs => by
    rcases hk.2.2.1 k hd with h1 | h1
    · exact (h.2 k h1).2 hs
    · have := hS k hs
      omega⟩⟩
theorem Ap.mono {S' : Nat → Prop} (h : Ap L g j W S) (hs : ∀ k, S' k → S k) : Ap L g j W S' := ⟨h.1, fun k hd => ⟨(h.2 k hd).1, fun hh => (h.2 k hd).2 (hs k hh)⟩⟩
theorem Blk.kp {b : Nat} {t : TypeId} {cs : Array Value} (h : Blk W b t cs) (hk : KpD L g j W W') (ha : Ap L g j W S) (hb : S b) : Blk W' b t cs := hk.2.1 b _ h rfl fun hd => (ha.2 b hd).2 hb
/-- The cells that lay below n lie as they lay. -/
def Sm (w W : World) : Prop := w.heap.size ≤ W.heap.size ∧ ∀ (k : Nat) (o : Obj), w.heap[k]? = some o → o.isCells = true → W.heap[k]? = some o
theorem Sm.refl (w : World) : Sm w w := ⟨Nat.le_refl _, fun k o h _ => h⟩
theorem Sm.below {w : World} (h : Sm w W) (hb : Below W.heap.size W W') : Sm w W' := ⟨Nat.le_trans h.1 hb.size, fun k o hk ho => bel_blk hb (h.2 k o hk ho)⟩
theorem Sm.set {w : World} (h : Sm w W) {p : Addr} (hp : w.heap.size ≤ p.block) (u : Value) : Sm w (W.setCell p u) :=
  ⟨by have := h.1; simpa using this, fun k o hk ho => (Below.heap_setCell _ _ _ _ (by have := lt_of_blk hk; omega)).trans (h.2 k o hk ho)⟩
theorem Sm.kp {w : World} (h : Sm w W) (hk : KpD L g j W W') (ha : Ap L g j W S) (hS : ∀ k, k < w.heap.size → S k) : Sm w W' :=
  ⟨Nat.le_trans h.1 hk.1, fun k o hw ho => hk.2.1 k o (h.2 k o hw ho) ho fun hd => (ha.2 k hd).2 (hS k (lt_of_blk hw))⟩
theorem Sm.cell {w : World} (h : Sm w W) {a : Addr} {v : Value} (hc : w.cell? a = some v) : W.cell? a = some v := by
  obtain ⟨o, ho, hi⟩ := cells_of_cell hc
  rw [World.cell?_of_block (w := w) (w' := W) (a := a) ((h.2 _ _ ho hi).trans ho.symm)]
  exact hc
theorem Rd.sm {α : Type} {sz : Nat} {enc : α → List Int} {w : World} {A : Option Addr} {n : Nat} {xs : List α} (h : Rd sz enc w A n xs) (hs : Sm w W) : Rd sz enc W A n xs :=
  ⟨h.1, h.2.1, fun i x hx => by
    obtain ⟨ad, e, hc⟩ := h.2.2 i x hx
    exact ⟨ad, e, fun j v hv => hs.cell (hc j v hv)⟩⟩
theorem own_of_blk {α : Type} {sz : Nat} {enc : α → List Int} {e : TypeId} {base gg cap : Nat} {mc : Array Value} {xs : List α} (henc : ∀ x, (enc x).length = sz) (hb : Blk W gg e mc) (hg : base ≤ gg) (hc : xs.length ≤ cap) (hm : cap ≤ 9223372036854775807)
    (hs : mc.size = cap * sz) (ht : mc.toList.take (xs.length * sz) = flat enc xs) : Go.Proofs.YtinglbcafcjhfaaDoor.Own sz enc e W base (.slice (some ⟨gg, 0, none⟩) xs.length cap) xs :=
  ⟨by rw [flat_length henc], .inr ⟨gg, cap, mc, rfl, hg, hb, hc, by unfold maxLen; exact hm, hs, ht⟩⟩
/-- What is no cells is turned: a block of cells lies on. -/
theorem Blk.from_ {B gg : Nat} {t : TypeId} {cs : Array Value} {row : Option Nat} (h : Blk W gg t cs) (hg : W.grownBy W' row) (hr : ∀ r, row = some r → B ≤ r ∧ ∃ o : Obj, W.heap[r]? = some o ∧ o.isCells = false) : Blk W' gg t cs :=
  h.grown hg fun e => by
    obtain ⟨_, o, ho, hc⟩ := hr gg e.symm
    rw [h] at ho
    cases ho
    cases hc
theorem Own.from_ {α : Type} {sz : Nat} {enc : α → List Int} {e : TypeId} {base B : Nat} {v : Value} {xs : List α} {row : Option Nat} (h : Go.Proofs.YtinglbcafcjhfaaDoor.Own sz enc e W base v xs) (hg : W.grownBy W' row) (hr : ∀ r, row = some r → B ≤ r ∧ ∃ o : Obj, W.heap[r]? = some o ∧ o.isCells = false) : Go.Proofs.YtinglbcafcjhfaaDoor.Own sz enc e W' base v xs := by
  refine World.ownsRow.kept h hg ?_
  rcases h.2 with ⟨rfl, _⟩ | ⟨g', cap, cur, rfl, _, hh, _⟩
  · exact .inl rfl
  · refine .inr fun e => ?_
    obtain ⟨_, o, ho, hc⟩ := hr g' e.symm
    rw [hh] at ho
    cases ho
    cases hc
theorem Below.from_ {w : World} {B : Nat} {row : Option Nat} (h : Below w.heap.size w W) (hB : w.heap.size ≤ B) (hg : W.grownBy W' row) (hr : ∀ r, row = some r → B ≤ r ∧ ∃ o : Obj, W.heap[r]? = some o ∧ o.isCells = false) : Below w.heap.size w W' :=
  h.grown hg h.size fun k hk => by
    have := (hr k hk).1
    omega
theorem grown_of_bel (hb : Below W.heap.size W W') : W.grownBy W' none := ⟨hb.os, hb.tape, hb.output, hb.size, fun i hi _ => hb.block i hi⟩
theorem abides_bel {β : Type} {J : β → World → Prop} {B : Nat} (h : AbidesFrom B J) {x : β} (hj : J x W) (hb : Below W.heap.size W W') : J x W' := h x W W' none hj (grown_of_bel hb) (by simp)
end
end Go.Proofs.YtinglbcafcjhfaaDoor

namespace Go.Proofs.YtinglbcafcjhfaaDoor
open Go.RowKit Go.Shelf
set_option linter.unusedVariables false

section
variable {F : Fence} {n : Nat} {P : Program} {ops : Array Oper} {Q : Exit → Act → World → Prop} {md : Region.Mode}

theorem count_set_lt : ∀ {l : List Bool} {i : Nat}, l[i]? = some false → (l.set i true).count false + 1 = l.count false
  | [], i, h => by simp at h
  | b :: l, 0, h => by
    simp at h
    subst h
    simp
  | b :: l, i + 1, h => by
    have := count_set_lt (l := l) (i := i) (by simpa using h)
    simp [List.count_cons]
    omega

theorem getD_unl {l : Array Bool} {i : Nat} (h : l.getD i true = false) : l.toList[i]? = some false := by
  rw [Array.getD_eq_getD_getElem?] at h
  rw [Array.getElem?_toList]
  cases hl : l[i]? with
  | none => rw [hl] at h; cases h
  | some b => rw [hl] at h; simp at h; rw [h]

/-- What operation i waits for. -/
def needsAt (md : Region.Mode) (ops : Array Oper) (i : Nat) : List Nat :=
  match ops[i]? with
  | some o => (o.after.toList.filter (fun e => Region.binds md e)).map (fun e => e.on)
  | none => []

/-- What has come up, as a function. -/
def bof (l : Array Bool) : Nat → Bool := fun j => l.getD j false
/-- Number i has come up too. -/
def upb (b : Nat → Bool) (i : Nat) : Nat → Bool := fun j => if j = i then true else b j

theorem bof_set {l : Array Bool} {i : Nat} (h : i < l.size) : bof (l.setIfInBounds i true) = upb (bof l) i := by
  funext j
  unfold bof upb
  by_cases hj : j = i
  · subst hj
    simp [Array.getD_eq_getD_getElem?, h]
  · simp [Array.getD_eq_getD_getElem?, Ne.symm hj, hj]

theorem needs_of_ready {l : Array Bool} {i : Nat} (hi : i ∈ Region.ready md ops l) : l.getD i true = false ∧ i < ops.size ∧ ∀ j ∈ needsAt md ops i, bof l j = true := by
  obtain ⟨h1, o, ho, h2⟩ := mem_ready.1 hi
  refine ⟨h1, (Array.getElem?_eq_some_iff.1 ho).1, fun j hj => ?_⟩
  unfold needsAt at hj
  rw [ho] at hj
  simp only [List.mem_map, List.mem_filter, Array.mem_toList_iff] at hj
  obtain ⟨e, ⟨he, hb⟩, rfl⟩ := hj
  exact h2 e he hb

theorem ready_of_needs {l : Array Bool} {i : Nat} (hi : i < ops.size) (h1 : l.getD i true = false) (h : ∀ j ∈ needsAt md ops i, bof l j = true) : i ∈ Region.ready md ops l := by
  refine mem_ready.2 ⟨h1, ops[i], by simp [hi], fun e he hb => h e.on ?_⟩
  unfold needsAt
  rw [Array.getElem?_eq_getElem hi]
  simp only [List.mem_map, List.mem_filter, Array.mem_toList_iff]
  exact ⟨e, ⟨he, hb⟩, rfl⟩

/-- Each operation waits for earlier ones alone. -/
def topB (md : Region.Mode) (ops : Array Oper) : Bool := (List.range ops.size).all fun i => (needsAt md ops i).all fun j => decide (j < i)

theorem all_up {l : Array Bool} (hl : l.size = ops.size) (ht : topB md ops = true) (hr : Region.ready md ops l = []) : ∀ i, i < ops.size → bof l i = true := by
  intro i
  induction i using Nat.strongRecOn with
  | _ i ih =>
    intro hi
    cases hb : l.getD i true with
    | true =>
      unfold bof
      rw [Array.getD_eq_getD_getElem?, Array.getElem?_eq_getElem (by omega)] at hb ⊢
      exact hb
    | false =>
      have h1 := List.all_eq_true.1 ht i (List.mem_range.2 hi)
      have : i ∈ Region.ready md ops l := ready_of_needs hi hb fun j hj => by
        have h2 := List.all_eq_true.1 h1 j hj
        have h3 : j < i := by simpa using h2
        exact ih j h3 (by omega)
      rw [hr] at this
      cases this

theorem wpAnyIn_inv (I : (Nat → Bool) → Act → World → Prop) (ht : topB md ops = true)
    (hs : ∀ i, i < ops.size → ∀ b a w, b i = false → (∀ j ∈ needsAt md ops i, b j = true) → I b a w → wpOpIn F n P ops Q i (I (upb b i)) a w)
    (hd : ∀ b a w, (∀ i, i < ops.size → b i = true) → I b a w → Q .normal a w) :
    ∀ (fuel : Nat) (l : Array Bool) (a : Act) (w : World), l.size = ops.size → l.toList.count false ≤ fuel → I (bof l) a w → wpAnyIn F n P md ops Q fuel l a w
  | 0, l, a, w, hl, hc, h => by
    have hr : Region.ready md ops l = [] := by
      apply List.eq_nil_iff_forall_not_mem.2
      intro i hi
      have := count_set_lt (getD_unl (mem_ready.1 hi).1)
      omega
    exact ⟨hr, hd _ a w (all_up hl ht hr) h⟩
  | fuel + 1, l, a, w, hl, hc, h => by
    refine ⟨fun hr => hd _ a w (all_up hl ht hr) h, fun i hi => ?_⟩
    obtain ⟨h1, h2, h3⟩ := needs_of_ready hi
    have hu := getD_unl h1
    have hct := count_set_lt hu
    have hb : bof l i = false := by
      unfold bof
      rw [Array.getElem?_toList] at hu
      rw [Array.getD_eq_getD_getElem?, hu]
      rfl
    refine wpOpIn_mono (fun a' w' h' => ?_) (hs i h2 (bof l) a w hb h3 h)
    rw [← bof_set (by omega)] at h'
    exact wpAnyIn_inv I ht hs hd fuel _ a' w' (by simpa using hl) (by rw [Array.toList_setIfInBounds]; omega) h'

/-- A region that draws, inside a fence. -/
theorem wpIn_region_inv {id : Nat} {a : Act} {w : World} (I : (Nat → Bool) → Act → World → Prop) (hm : P.follows .mixedOrders = true) (ht : topB .any ops = true)
    (h0 : I (fun _ => false) a w.drew)
    (hs : ∀ i, i < ops.size → ∀ b a w, b i = false → (∀ j ∈ needsAt .any ops i, b j = true) → I b a w → wpOpIn F n P ops Q i (I (upb b i)) a w)
    (hd : ∀ b a w, (∀ i, i < ops.size → b i = true) → I b a w → Q .normal a w) : (Code.region id ops true).wpIn F n P Q a w := by
  refine wpIn_region_any hm (wpAnyIn_inv I ht hs hd _ _ _ _ (by simp) ?_ ?_)
  · simp
  · have : bof (Array.replicate ops.size false) = fun _ => false := by
      funext j
      unfold bof
      rw [Array.getD_eq_getD_getElem?, Array.getElem?_replicate]
      split <;> rfl
    rw [this]
    exact h0

/-- The same with each number by itself: the needs written out. -/
theorem step_of {I : (Nat → Bool) → Act → World → Prop} {i : Nat} (ns : List Nat) (o : Oper) (hn : needsAt .any ops i = ns) (ho : ops[i]? = some o) (hg : o.guard = none)
    (h : ∀ b a w, b i = false → (∀ j ∈ ns, b j = true) → I b a w → ∀ K : Act → World → Prop, (∀ a' w', I (upb b i) a' w' → K a' w') → Oper.wpIn F n P o a w K Q) :
    ∀ b a w, b i = false → (∀ j ∈ needsAt .any ops i, b j = true) → I b a w → wpOpIn F n P ops Q i (I (upb b i)) a w :=
  fun b a w h1 h2 h3 => wpOpIn_step ho fun K hK => by
    have hw : Region.wanted o (yielded ops a.tmps) = true := by simp [Region.wanted, hg]
    rw [if_pos hw]
    exact h b a w h1 (fun j hj => h2 j (by rw [hn]; exact hj)) h3 K hK
end

section
variable {α : Type} {sz : Nat} {enc : α → List Int} {e : TypeId} {w0 w1 : World} {v : Value} {xs : List α}
variable {F : Fence} {n : Nat} {P : Program} {ops : Array Oper} {o : Oper} {a : Act} {Q : Exit → Act → World → Prop} {K : Act → World → Prop}
/-- append(v, y) inside a fence: the goal's world is that behind the box of the one new record (or later). -/
theorem own_append_in (henc : ∀ x, (enc x).length = sz) (s x : Operand) (t : TypeId) (z : Value) (bytes : Nat)
    (ho : o.op = .call { callee := .builtin .append, args := #[s, x], argTypes := #[t, t] })
    (ht : P.underlying t = some (.slice e)) (hinfo : (P.info? e).map (fun i => (i.zero, i.size, i.bytes)) = some (some z, sz, bytes)) (hz : z.cells.size = sz) (hs0 : 0 < sz) (hb0 : 0 < bytes)
    (y : α) (cs : Array Value) (hcs : cs.toList = (enc y).map (Value.int .i64)) (W : World) (HO : Own sz enc e W w0.heap.size v xs) (hs : a.eval s = v) (B : Nat) (hx : a.eval x = .slice (some ⟨B, 0, none⟩) 1 1) (hB : B = W.heap.size)
    (HB : Below w0.heap.size w0 W) (hl : (xs.length + 1) * bytes ≤ 140737488355328)
    (h : ∀ g cap w1, Own sz enc e w1 w0.heap.size (.slice (some ⟨g, 0, none⟩) (xs.length + 1) cap) (xs ++ [y]) → Below w0.heap.size w0 w1 → W.grownBy w1 v.ownBlock → (v.ownBlock = some g ∨ g = W.heap.size + 1) → K (a.put o.dst (.slice (some ⟨g, 0, none⟩) (xs.length + 1) cap)) w1) :
    Oper.wpIn F n P o a (W.alloc (.cells cs e)) K Q := by
  subst hB
  obtain ⟨i0, hi, hzz⟩ := Option.map_eq_some_iff.1 hinfo
  simp only [Prod.mk.injEq] at hzz
  obtain ⟨hz0, hz1, hz2⟩ := hzz
  have hlen : xs.length + 1 ≤ 140737488355328 := Nat.le_trans (Nat.le_mul_of_pos_right _ hb0) hl
  obtain ⟨v', w', hr, hown, hg, _, hwh⟩ := run_append_own_at (P := P) (W.alloc (.cells cs e)) w0.heap.size t o.type e i0 z sz bytes ht hi hz0 hz1 hz2 hz hs0 v xs.length _ (HO.alloc _) ⟨W.heap.size, 0, none⟩ 1 1 (flat enc [y]) (by rw [flat_length henc]; simp)
    (by rw [flat_one, ← hcs]; exact World.news_of_block (cs := cs) (t := e) (fr := (0, 0)) (heap_alloc_new W _)) (by rw [flat_one]; simp [Value.oneCell']) (by simp only [maxLen]; omega) hl (by have := HB.size; simp; omega)
  have hown' : w'.ownsRow w0.heap.size e sz v' (xs.length + 1) (flat enc (xs ++ [y])) := by rw [flat_append]; exact hown
  obtain ⟨g, cap, rfl, _⟩ := hown'.form (by omega)
  have HO' : Own sz enc e w' w0.heap.size (.slice (some ⟨g, 0, none⟩) (xs.length + 1) cap) (xs ++ [y]) := by
    unfold Own
    rw [List.length_append]
    exact hown'
  unfold Oper.wpIn
  refine ⟨?_, ?_⟩
  · simp [Oper.about, ho, resolve, Target.leads, Sem.run_pure]
  · rw [Oper.semAt_plain F _ _ (by rw [ho]; intro c hc'; cases hc')]
    simp [execOp, ho, resolve, invoke, builtin, hs, hx, hr, Result.andThen]
    exact h g cap w' HO' ((HB.alloc HB.size _).grown hg (by have := HB.size; simp; omega) (fun k hk => (HO.lt k hk).1)) (World.grownBy.trans (World.grownBy_alloc W _ _) hg) (hwh.imp (fun h => h.symm) (fun h => by simpa [Value.ownBlock] using h))
end
end Go.Proofs.YtinglbcafcjhfaaDoor

namespace Go.Proofs.YtinglbcafcjhfaaDoor
open Go.RowKit
set_option linter.unusedVariables false
set_option linter.unusedSimpArgs false

/-- What an operation does by what its operands hold. -/
def does (P : Program) (o : Oper) (a : Act) (w : World) (K : Value → World → Prop) : Prop :=
  match (execOp a.eval o).run P w with
  | .ok (.value v) w' => K v w'
  | .ok .skip w' => K undef w'
  | .ok (.enter f args) w' => Calls P f args w' fun e w'' => ∃ v, e = .returned v ∧ K v w''
  | _ => False
theorem wp_of_does {P : Program} {o : Oper} {a a' : Act} {w : World} {K : Value → World → Prop} {K' : Act → World → Prop} {Q : Exit → Act → World → Prop} (he : execOp a.eval o = execOp a'.eval o) (h : does P o a' w K) (hK : ∀ v w', K v w' → K' (a.put o.dst v) w') : o.wp P a w K' Q := by
  unfold does at h
  unfold Oper.wp
  rw [he]
  generalize (execOp a'.eval o).run P w = r at *
  cases r with
  | ok n w' =>
    cases n <;> simp only at h <;> simp only [Oper.upon]
    case value v => exact hK _ _ h
    case skip => exact hK _ _ h
    case enter f args => exact h.mono fun e w'' ⟨v, he, hv⟩ => by subst he; exact hK _ _ hv
  | halt x w' => simp only at h

/-- Where operation k puts what it yields. -/
def dstAt (ops : Array Oper) (k : Nat) : Option Tmp := (ops[k]?).bind (·.dst)
/-- The frame when some operations have come up. -/
def frameAt (ops : Array Oper) (vs : Nat → Value) (b : Nat → Bool) (a : Act) : Nat → Act
  | 0 => a
  | k + 1 => if b k = true then (frameAt ops vs b a k).put (dstAt ops k) (vs k) else frameAt ops vs b a k
/-- No two operations write one slot; what an operation reads it waits for; no guards, no select. -/
def plainB (ops : Array Oper) : Bool :=
  (List.range ops.size).all fun i => (List.range ops.size).all fun j =>
    (decide (i = j) || (match dstAt ops i with | none => true | some d => decide (dstAt ops j ≠ some d))) &&
    (match ops[i]? with
      | none => true
      | some o => o.guard.isNone && (match dstAt ops j with | none => true | some d => !(o.looksAt ops).contains d || (needsAt .any ops i).contains j))
section
variable {P : Program} {ops : Array Oper} {Q : Exit → Act → World → Prop} {vs : Nat → Value} {b b' : Nat → Bool} {a : Act}
theorem plainB_dst (h : plainB ops = true) {i j : Nat} (hi : i < ops.size) (hj : j < ops.size) (hij : i ≠ j) : ∀ d, dstAt ops i = some d → dstAt ops j ≠ some d := by
  intro d hd
  have h1 := List.all_eq_true.1 (List.all_eq_true.1 h i (List.mem_range.2 hi)) j (List.mem_range.2 hj)
  simp only [Bool.and_eq_true, Bool.or_eq_true, decide_eq_true_eq] at h1
  rcases h1.1 with h2 | h2
  · exact absurd h2 hij
  · rw [hd] at h2
    simpa using h2
theorem plainB_reads (h : plainB ops = true) {i j : Nat} {o : Oper} (hi : i < ops.size) (hj : j < ops.size) (ho : ops[i]? = some o) : o.guard = none ∧ ∀ d, dstAt ops j = some d → d ∈ o.looksAt ops → j ∈ needsAt .any ops i := by
  have h1 := List.all_eq_true.1 (List.all_eq_true.1 h i (List.mem_range.2 hi)) j (List.mem_range.2 hj)
  simp only [Bool.and_eq_true] at h1
  have h2 := h1.2
  rw [ho] at h2
  simp only [Bool.and_eq_true] at h2
  refine ⟨by simpa using h2.1, fun d hd hr => ?_⟩
  have h3 := h2.2
  rw [hd] at h3
  simp only [Bool.or_eq_true, Bool.not_eq_true'] at h3
  rcases h3 with h3 | h3
  · have : (o.looksAt ops).contains d = true := by simpa using hr
    rw [this] at h3
    cases h3
  · simpa using h3
theorem frameAt_congr {k : Nat} (h : ∀ j, j < k → b j = b' j) : frameAt ops vs b a k = frameAt ops vs b' a k := by
  induction k with
  | zero => rfl
  | succ k ih =>
    unfold frameAt
    rw [h k (by omega), ih fun j hj => h j (by omega)]
theorem frameAt_put (hp : plainB ops = true) {i : Nat} (hb : b i = false) : ∀ n, n ≤ ops.size → i < n → (frameAt ops vs b a n).put (dstAt ops i) (vs i) = frameAt ops vs (upb b i) a n
  | 0, _, hi => by omega
  | k + 1, hk, hi => by
    by_cases hik : i = k
    · subst hik
      show (if b i = true then _ else _ : Act).put _ _ = if upb b i i = true then _ else _
      rw [hb]
      simp only [Bool.false_eq_true, if_false]
      rw [if_pos (by simp [upb]), frameAt_congr (b := upb b i) (b' := b) fun j hj => by simp [upb, show j ≠ i by omega]]
    · have ih := frameAt_put hp hb k (by omega) (by omega)
      show (if b k = true then _ else _ : Act).put _ _ = if upb b i k = true then _ else _
      have hu : upb b i k = b k := by simp [upb, show k ≠ i by omega]
      rw [hu]
      split
      · rw [← ih, Act.put_comm]
        exact plainB_dst hp (by omega) (by omega) (by omega)
      · exact ih
theorem frameAt_exec (hp : plainB ops = true) (hs : ∀ (j : Nat) (o : Oper) cs b, ops[j]? = some o → o.op ≠ .select cs b) {i : Nat} {o : Oper} (hi : i < ops.size) (ho : ops[i]? = some o) (hn : ∀ j ∈ needsAt .any ops i, b j = true) :
    execOp (frameAt ops vs b a ops.size).eval o = execOp (frameAt ops vs (fun _ => true) a ops.size).eval o := by
  have key : ∀ k, k ≤ ops.size → execOp (frameAt ops vs (fun j => if j < k then true else b j) a ops.size).eval o = execOp (frameAt ops vs b a ops.size).eval o := by
    intro k
    induction k with
    | zero => intro _; simp
    | succ k ih =>
      intro hk
      have ih := ih (by omega)
      cases hbk : b k with
      | true =>
        rw [← ih]
        congr 2
        refine frameAt_congr fun j _ => ?_
        by_cases h1 : j < k
        · simp [h1, show j < k + 1 by omega]
        · by_cases h2 : j = k
          · subst h2; simp [hbk]
          · simp [h1, show ¬j < k + 1 by omega]
      | false =>
        have hup : (fun j => if j < k + 1 then true else b j) = upb (fun j => if j < k then true else b j) k := by
          funext j
          unfold upb
          by_cases h2 : j = k
          · subst h2; simp
          · rw [if_neg h2]
            by_cases h1 : j < k
            · simp [h1, show j < k + 1 by omega]
            · simp [h1, show ¬j < k + 1 by omega]
        rw [hup, ← frameAt_put hp (by simp [hbk]) _ (Nat.le_refl _) (by omega), execOp_put (ops := ops) o (fun cs c => hs i o cs c ho) _ _ _ ?_, ih]
        intro d hd hr
        have := (plainB_reads hp hi (show k < ops.size by omega) ho).2 d hd hr
        rw [hn k this] at hbk
        cases hbk
  rw [← key ops.size (Nat.le_refl _)]
  congr 2
  exact frameAt_congr fun j hj => by simp [hj]

/-- What has come up has all that it waits for. -/
def Closed (ops : Array Oper) (b : Nat → Bool) : Prop := ∀ j, b j = true → j < ops.size ∧ ∀ k ∈ needsAt .any ops j, b k = true
theorem Closed.no {i : Nat} (h : Closed ops b) (hb : b i = false) {j : Nat} (hj : i ∈ needsAt .any ops j) : b j = false := by
  cases e : b j with
  | false => rfl
  | true => rw [(h j e).2 i hj] at hb; cases hb
/-- Each operation before the last one is waited for by a later one. -/
def sinksB (ops : Array Oper) (n : Nat) : Bool := (List.range n).all fun i => (List.range (n + 1)).any fun j => decide (i < j) && (needsAt .any ops j).contains i
theorem Closed.last (h : Closed ops b) {n : Nat} (hs : sinksB ops n = true) : ∀ d i, n - i = d → i < n → b i = false → b n = false := by
  intro d
  induction d using Nat.strongRecOn with
  | _ d ih =>
    intro i hd hi hb
    have h1 := List.all_eq_true.1 hs i (List.mem_range.2 hi)
    obtain ⟨j, hj, h2⟩ := List.any_eq_true.1 h1
    simp only [Bool.and_eq_true, decide_eq_true_eq] at h2
    have hj' := List.mem_range.1 hj
    have h3 := h.no hb (j := j) (by simpa using h2.2)
    by_cases hjn : j = n
    · rw [← hjn]; exact h3
    · exact ih (n - j) (by omega) j rfl (by omega) h3
theorem wpAny_inv (I : (Nat → Bool) → Act → World → Prop) (ht : topB .any ops = true)
    (hs : ∀ i, i < ops.size → ∀ b a w, b i = false → (∀ j ∈ needsAt .any ops i, b j = true) → I b a w → wpOp P ops Q i (I (upb b i)) a w)
    (hd : ∀ b a w, (∀ i, i < ops.size → b i = true) → I b a w → Q .normal a w) :
    ∀ (fuel : Nat) (l : Array Bool) (a : Act) (w : World), l.size = ops.size → l.toList.count false ≤ fuel → I (bof l) a w → wpAny P .any ops Q fuel l a w
  | 0, l, a, w, hl, hc, h => by
    have hr : Region.ready .any ops l = [] := by
      apply List.eq_nil_iff_forall_not_mem.2
      intro i hi
      have := count_set_lt (getD_unl (mem_ready.1 hi).1)
      omega
    exact ⟨hr, hd _ a w (all_up hl ht hr) h⟩
  | fuel + 1, l, a, w, hl, hc, h => by
    refine ⟨fun hr => hd _ a w (all_up hl ht hr) h, fun i hi => ?_⟩
    obtain ⟨h1, h2, h3⟩ := needs_of_ready hi
    have hu := getD_unl h1
    have hct := count_set_lt hu
    have hb : bof l i = false := by
      unfold bof
      rw [Array.getElem?_toList] at hu
      rw [Array.getD_eq_getD_getElem?, hu]
      rfl
    have hstep := hs i h2 (bof l) a w hb h3 h
    have mono : ∀ {K K' : Act → World → Prop}, (∀ a w, K a w → K' a w) → wpOp P ops Q i K a w → wpOp P ops Q i K' a w := by
      intro K K' hKK hh
      unfold wpOp at *
      split
      · rename_i ho; simp only [ho] at hh; exact hKK _ _ hh
      · rename_i o ho
        simp only [ho] at hh
        split
        · rename_i hw
          rw [if_pos hw] at hh
          exact hh.imp (Oper.wp_mono hKK) id
        · rename_i hw
          rw [if_neg hw] at hh
          exact hKK _ _ hh
    refine mono (fun a' w' h' => ?_) hstep
    rw [← bof_set (by omega)] at h'
    exact wpAny_inv I ht hs hd fuel _ a' w' (by simpa using hl) (by rw [Array.toList_setIfInBounds]; omega) h'
/-- THE REGION. -/
theorem wp_region_by {id : Nat} {w : World} (vs : List Value) (af : Act) (CW : (Nat → Bool) → World → Prop) (hm : P.follows .mixedOrders = true) (ht : topB .any ops = true) (hp : plainB ops = true) (hns : Region.noSelect ops = true)
    (haf : af = frameAt ops (fun k => vs.getD k undef) (fun _ => true) a ops.size)
    (h0 : CW (fun _ => false) w.drew)
    (hs : ∀ i, i < ops.size → ∀ o, ops[i]? = some o → ∀ b, b i = false → Closed ops b → (∀ j ∈ needsAt .any ops i, b j = true) → ∀ w, CW b w → does P o af w fun v w' => v = vs.getD i undef ∧ CW (upb b i) w')
    (hd : ∀ b w, (∀ i, i < ops.size → b i = true) → CW b w → Q .normal af w) : (Code.region id ops true).wp P Q a w := by
  subst haf
  refine wp_region_any hm (wpAny_inv (fun b a' w' => a' = frameAt ops (fun k => vs.getD k undef) b a ops.size ∧ Closed ops b ∧ CW b w') ht ?_ ?_ _ _ _ _ (by simp) (by simp) ?_)
  · rintro i hi b a' w' hb hn ⟨rfl, hc, hw⟩
    have ho : ops[i]? = some ops[i] := Array.getElem?_eq_getElem hi
    have hg := (plainB_reads hp hi hi ho).1
    unfold wpOp
    rw [ho]
    simp only
    rw [if_pos (by simp [Region.wanted, hg])]
    refine .inl (wp_of_does (frameAt_exec hp (Region.noSelect_spec hns) hi ho hn) (hs i hi _ ho b hb hc hn w' hw) ?_)
    rintro v w2 ⟨rfl, h2⟩
    refine ⟨?_, fun j hj => ?_, h2⟩
    · rw [← frameAt_put (vs := fun k => vs.getD k undef) hp hb _ (Nat.le_refl _) hi]
      unfold dstAt
      rw [ho]
      rfl
    · unfold upb at hj
      by_cases hji : j = i
      · subst hji
        refine ⟨hi, fun k hk => ?_⟩
        unfold upb
        split
        · rfl
        · exact hn k hk
      · rw [if_neg hji] at hj
        refine ⟨(hc j hj).1, fun k hk => ?_⟩
        unfold upb
        split
        · rfl
        · exact (hc j hj).2 k hk
  · rintro b a' w' hall ⟨rfl, hc, hw⟩
    rw [frameAt_congr (b := b) (b' := fun _ => true) fun j hj => hall j hj]
    exact hd b w' hall hw
  · have hb : bof (Array.replicate ops.size false) = fun _ => false := by
      funext j
      unfold bof
      rw [Array.getD_eq_getD_getElem?, Array.getElem?_replicate]
      split <;> rfl
    rw [hb]
    refine ⟨?_, fun j hj => (by cases hj), h0⟩
    have : ∀ n, frameAt ops (fun k => vs.getD k undef) (fun _ => false) a n = a := by
      intro n
      induction n with
      | zero => rfl
      | succ n ih => unfold frameAt; simpa using ih
    rw [this]
/-- The frame behind the whole region, operation by operation. -/
def frameL : List Oper → List Value → Act → Act
  | o :: l, v :: vs, a => frameL l vs (a.put o.dst v)
  | _, _, a => a
theorem frameL_snoc (o : Oper) (v : Value) : ∀ (l : List Oper) (vs : List Value) (a : Act), vs.length = l.length → frameL (l ++ [o]) (vs ++ [v]) a = (frameL l vs a).put o.dst v
  | [], [], a, _ => rfl
  | [], _ :: _, a, h => by simp at h
  | _ :: _, [], a, h => by simp at h
  | p :: l, u :: vs, a, h => frameL_snoc o v l vs (a.put p.dst u) (by simpa using h)
theorem frameL_take {l : List Oper} {vs : List Value} (hl : vs.length = l.length) (a : Act) : ∀ k, k ≤ l.length → frameL (l.take k) (vs.take k) a = frameAt l.toArray (fun k => vs.getD k undef) (fun _ => true) a k
  | 0, _ => rfl
  | k + 1, hk => by
    have h1 : l[k]? = some l[k] := List.getElem?_eq_getElem (by omega)
    have h2 : vs[k]? = some vs[k] := List.getElem?_eq_getElem (by omega)
    rw [List.take_add_one, List.take_add_one, h1, h2, Option.toList_some, Option.toList_some, frameL_snoc _ _ _ _ _ (by simp; omega), frameL_take hl a k (by omega)]
    show _ = Act.put _ _ _
    unfold dstAt
    rw [List.getElem?_toArray, h1]
    show _ = Act.put _ _ (vs.getD k undef)
    rw [List.getD_eq_getElem?_getD, h2]
    rfl
/-- THE REGION, its operations written out. -/
theorem wp_region_does {id : Nat} {w : World} {l : List Oper} (vs : List Value) (CW : (Nat → Bool) → World → Prop) (hm : P.follows .mixedOrders = true) (ht : topB .any l.toArray = true) (hp : plainB l.toArray = true) (hns : Region.noSelect l.toArray = true) (hl : vs.length = l.length)
    (h : ∀ af, frameL l vs a = af → CW (fun _ => false) w.drew ∧
      (∀ i, i < l.length → ∀ o, l[i]? = some o → ∀ b, b i = false → Closed l.toArray b → (∀ j ∈ needsAt .any l.toArray i, b j = true) → ∀ w, CW b w → does P o af w fun v w' => v = vs.getD i undef ∧ CW (upb b i) w') ∧
      (∀ b w, (∀ i, i < l.length → b i = true) → CW b w → Q .normal af w)) : (Code.region id l.toArray true).wp P Q a w := by
  have hf := frameL_take hl a l.length (Nat.le_refl _)
  rw [List.take_length, List.take_of_length_le (by omega)] at hf
  obtain ⟨h1, h2, h3⟩ := h _ rfl
  refine wp_region_by vs _ CW hm ht hp hns (by rw [hf]; simp) h1 (fun i hi o ho => h2 i (by simpa using hi) o (by simpa using ho)) (fun b w hb => h3 b w (fun i hi => hb i (by simpa using hi)))
theorem by_step {l : List Oper} {i : Nat} {R : Oper → Prop} (o : Oper) (ho : l[i]? = some o) (h : R o) : ∀ o', l[i]? = some o' → R o' := fun o' ho' => by rw [ho] at ho'; cases ho'; exact h
end

/-- The world w after some draws, with a store done or not. -/
def Sto1 (w : World) (p : Addr) (v : Value) (s : Bool) (W : World) : Prop := ∃ n, W = cond s ((w.drewN n).setCell p v) (w.drewN n)
def Sto2 (w : World) (p : Addr) (v : Value) (q : Addr) (u : Value) (s t : Bool) (W : World) : Prop := ∃ n, W = cond t (cond s (((w.drewN n).setCell p v).setCell q u) ((w.drewN n).setCell q u)) (cond s ((w.drewN n).setCell p v) (w.drewN n))
theorem Sto1.start {w : World} {p : Addr} {v : Value} : Sto1 w p v false w.drew := ⟨1, rfl⟩
theorem Sto2.start {w : World} {p q : Addr} {v u : Value} : Sto2 w p v q u false false w.drew := ⟨1, rfl⟩
/-- The same with a block that is laid and then filled: three cells. -/
def Al3 (w : World) (o : Obj) (B : Nat) (v0 v1 v2 : Value) (s t : Bool) (W : World) : Prop := ∃ n, W = cond t (((((w.drewN n).alloc o).setCell ⟨B, 0, none⟩ v0).setCell ⟨B, 1, none⟩ v1).setCell ⟨B, 2, none⟩ v2) (cond s ((w.drewN n).alloc o) (w.drewN n))
theorem Al3.start {w : World} {o : Obj} {B : Nat} {v0 v1 v2 : Value} : Al3 w o B v0 v1 v2 false false w.drew := ⟨1, rfl⟩
theorem needs_of {l : List Nat} {i : Nat} (h : l.elem i = true) : i ∈ l := List.elem_iff.1 h
end Go.Proofs.YtinglbcafcjhfaaDoor
