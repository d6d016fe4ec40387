/- My words for ranges over a function: which blocks are the caller's own (Dom), what a round keeps (KpD), and that an iterator's own boxes are none of the caller's (Ap). -/
import Derived.RangeFuncNested
import Derived.RangeFuncBound
import Derived.RangeFuncCalls
import Derived.RangeFuncLeaves
import Derived.Shelf.Abstract
import Derived.Shelf.RegionOpen
import Derived.OwnWalkIn
import Derived.TacticsInMore
import Derived.LoopNIn
import Derived.LoopIn
import Derived.Test.YtinglbcafcjhfaaDoorBase
namespace Go.Proofs.YtinglbcafcjhfaaDoor
open Go.RowKit
set_option linter.unusedVariables false

/-- The caller's own blocks: fixed ones, and the row of the slice that lies in cell j of block g. -/
def Dom (L : List Nat) (g j : Nat) (W : World) (k : Nat) : Prop := k ∈ L ∨ ∃ ad n c, W.cell? ⟨g, j, none⟩ = some (.slice (some ad) n c) ∧ ad.block = k
/-- What a round that goes on keeps: all cells but the caller's own. -/
def KpD (L : List Nat) (g j : Nat) (W W' : World) : Prop :=
  W.heap.size ≤ W'.heap.size ∧ (∀ (k : Nat) (o : Obj), W.heap[k]? = some o → o.isCells = true → ¬Dom L g j W k → W'.heap[k]? = some o) ∧ (∀ k, Dom L g j W' k → Dom L g j W k ∨ W.heap.size ≤ k) ∧
    ((∀ k, Dom L g j W k → k < W.heap.size) → ∀ k, Dom L g j W' k → k < W'.heap.size)
section
variable {L : List Nat} {g j : Nat} {W W' W'' : World}
theorem Dom.same (hg : W'.heap[g]? = W.heap[g]?) (k : Nat) : Dom L g j W' k ↔ Dom L g j W k := by
  unfold Dom
  rw [World.cell?_of_block (a := ⟨g, j, none⟩) hg]
theorem KpD.trans (h : KpD L g j W W') (k : KpD L g j W' W'') : KpD L g j W W'' := by
  obtain ⟨h1, h2, h3, h4⟩ := h
  obtain ⟨k1, k2, k3, k4⟩ := k
  refine ⟨Nat.le_trans h1 k1, fun i o hi ho hd => k2 i o (h2 i o hi ho hd) ho fun hd' => ?_, fun i hi => ?_, fun h => k4 (h4 h)⟩
  · rcases h3 i hd' with h | h
    · exact hd h
    · have := (Array.getElem?_eq_some_iff.1 hi).1
      omega
  · rcases k3 i hi with h | h
    · exact h3 i h
    · exact .inr (by omega)
theorem KpD.of_putObj {B : Nat} (hg : g < B) (W : World) (l : Nat) (o o' : Obj) (hl : B ≤ l) (ho : W.heap[l]? = some o) (hc : o.isCells = false) (_ : o.isWalk = false) : KpD L g j W (W.putObj l o') := by
  have hs : ∀ k, k ≠ l → (W.putObj l o').heap[k]? = W.heap[k]? := fun k hk => World.putObj_heap_other hk
  refine ⟨by simp, fun k o2 hk h2 _ => ?_, fun k hk => .inl ((Dom.same (hs g (by omega)) k).1 hk), fun h k hk => ?_⟩
  · rw [hs k (fun e => by subst e; rw [ho] at hk; cases hk; rw [hc] at h2; cases h2)]
    exact hk
  · have := h k ((Dom.same (hs g (by omega)) k).1 hk)
    simpa using this
theorem KpD.below (hg : g < W.heap.size) (hb : Below W.heap.size W W') : KpD L g j W W' :=
  ⟨hb.size, fun k o hk _ _ => bel_blk hb hk, fun k hk => .inl ((Dom.same (hb.block g hg) k).1 hk), fun h k hk => by
    have := h k ((Dom.same (hb.block g hg) k).1 hk)
    have := hb.size
    omega⟩
theorem Blk.inj {b : Nat} {t t' : TypeId} {cs cs' : Array Value} (h : Blk W b t cs) (h' : Blk W b t' cs') : cs = cs' := by
  unfold Blk at h h'
  rw [h] at h'
  injection h' with h'
  injection h' with h'
/-- None of the caller's own blocks is in S. -/
def Ap (L : List Nat) (g j : Nat) (W : World) (S : Nat → Prop) : Prop := g ∈ L ∧ ∀ k, Dom L g j W k → k < W.heap.size ∧ ¬S k
variable {S : Nat → Prop}
theorem Ap.keep (h : Ap L g j W S) (hs : W.heap.size ≤ W'.heap.size) (hk : ∀ k, Dom L g j W k → W'.heap[k]? = W.heap[k]?) : Ap L g j W' S :=
  ⟨h.1, fun k hd => by
    have := h.2 k ((Dom.same (hk g (.inl h.1)) k).1 hd)
    exact ⟨by omega, this.2⟩⟩
theorem Ap.below (h : Ap L g j W S) (hb : Below W.heap.size W W') : Ap L g j W' S := h.keep hb.size fun k hd => hb.block k (h.2 k hd).1
theorem Ap.grown (h : Ap L g j W S) (hb : W.grownBy W' none) : Ap L g j W' S := h.keep hb.size fun k hd => hb.block k (h.2 k hd).1 (by simp)
theorem Ap.set (h : Ap L g j W S) {p : Addr} (hp : S p.block) (u : Value) : Ap L g j (W.setCell p u) S := h.keep (by simp) fun k hd => Below.heap_setCell _ _ _ _ fun e => (h.2 k hd).2 (e ▸ hp)
theorem Ap.new (h : Ap L g j W S) (hb : Below W.heap.size W W') (b : Nat) (hb2 : W.heap.size ≤ b) : Ap L g j W' (fun k => S k ∨ k = b) :=
  ⟨h.1, fun k hd => by
    have := h.2 k ((Dom.same (hb.block g (h.2 g (.inl h.1)).1) k).1 hd)
    have := hb.size
    refine ⟨by omega, ?_⟩
    rintro (hh | hh)
    · exact (h.2 k ((Dom.same (hb.block g (h.2 g (.inl h.1)).1) k).1 hd)).2 hh
    · omega⟩
theorem Ap.kp (h : Ap L g j W S) (hk : KpD L g j W W') (hS : ∀ k, S k → k < W.heap.size) : Ap L g j W' S :=
  ⟨h.1, fun k hd => ⟨hk.2.2.2 (fun k hd => (h.2 k hd).1) k hd, fun hs => by
    rcases hk.2.2.1 k hd with h1 | h1
    · exact (h.2 k h1).2 hs
    · have := hS k hs
      omega⟩⟩
theorem Ap.mono {S' : Nat → Prop} (h : Ap L g j W S) (hs : ∀ k, S' k → S k) : Ap L g j W S' := ⟨h.1, fun k hd => ⟨(h.2 k hd).1, fun hh => (h.2 k hd).2 (hs k hh)⟩⟩
theorem Blk.kp {b : Nat} {t : TypeId} {cs : Array Value} (h : Blk W b t cs) (hk : KpD L g j W W') (ha : Ap L g j W S) (hb : S b) : Blk W' b t cs := hk.2.1 b _ h rfl fun hd => (ha.2 b hd).2 hb
/-- The cells that lay below n lie as they lay. -/
def Sm (w W : World) : Prop := w.heap.size ≤ W.heap.size ∧ ∀ (k : Nat) (o : Obj), w.heap[k]? = some o → o.isCells = true → W.heap[k]? = some o
theorem Sm.refl (w : World) : Sm w w := ⟨Nat.le_refl _, fun k o h _ => h⟩
theorem Sm.below {w : World} (h : Sm w W) (hb : Below W.heap.size W W') : Sm w W' := ⟨Nat.le_trans h.1 hb.size, fun k o hk ho => bel_blk hb (h.2 k o hk ho)⟩
theorem Sm.set {w : World} (h : Sm w W) {p : Addr} (hp : w.heap.size ≤ p.block) (u : Value) : Sm w (W.setCell p u) :=
  ⟨by have := h.1; simpa using this, fun k o hk ho => (Below.heap_setCell _ _ _ _ (by have := lt_of_blk hk; omega)).trans (h.2 k o hk ho)⟩
theorem Sm.kp {w : World} (h : Sm w W) (hk : KpD L g j W W') (ha : Ap L g j W S) (hS : ∀ k, k < w.heap.size → S k) : Sm w W' :=
  ⟨Nat.le_trans h.1 hk.1, fun k o hw ho => hk.2.1 k o (h.2 k o hw ho) ho fun hd => (ha.2 k hd).2 (hS k (lt_of_blk hw))⟩
theorem Sm.cell {w : World} (h : Sm w W) {a : Addr} {v : Value} (hc : w.cell? a = some v) : W.cell? a = some v := by
  obtain ⟨o, ho, hi⟩ := cells_of_cell hc
  rw [World.cell?_of_block (w := w) (w' := W) (a := a) ((h.2 _ _ ho hi).trans ho.symm)]
  exact hc
theorem Rd.sm {α : Type} {sz : Nat} {enc : α → List Int} {w : World} {A : Option Addr} {n : Nat} {xs : List α} (h : Rd sz enc w A n xs) (hs : Sm w W) : Rd sz enc W A n xs :=
  ⟨h.1, h.2.1, fun i x hx => by
    obtain ⟨ad, e, hc⟩ := h.2.2 i x hx
    exact ⟨ad, e, fun j v hv => hs.cell (hc j v hv)⟩⟩
theorem own_of_blk {α : Type} {sz : Nat} {enc : α → List Int} {e : TypeId} {base gg cap : Nat} {mc : Array Value} {xs : List α} (henc : ∀ x, (enc x).length = sz) (hb : Blk W gg e mc) (hg : base ≤ gg) (hc : xs.length ≤ cap) (hm : cap ≤ 9223372036854775807)
    (hs : mc.size = cap * sz) (ht : mc.toList.take (xs.length * sz) = flat enc xs) : Go.Proofs.YtinglbcafcjhfaaDoor.Own sz enc e W base (.slice (some ⟨gg, 0, none⟩) xs.length cap) xs :=
  ⟨by rw [flat_length henc], .inr ⟨gg, cap, mc, rfl, hg, hb, hc, by unfold maxLen; exact hm, hs, ht⟩⟩
/-- What is no cells is turned: a block of cells lies on. -/
theorem Blk.from_ {B gg : Nat} {t : TypeId} {cs : Array Value} {row : Option Nat} (h : Blk W gg t cs) (hg : W.grownBy W' row) (hr : ∀ r, row = some r → B ≤ r ∧ ∃ o : Obj, W.heap[r]? = some o ∧ o.isCells = false) : Blk W' gg t cs :=
  h.grown hg fun e => by
    obtain ⟨_, o, ho, hc⟩ := hr gg e.symm
    rw [h] at ho
    cases ho
    cases hc
theorem Own.from_ {α : Type} {sz : Nat} {enc : α → List Int} {e : TypeId} {base B : Nat} {v : Value} {xs : List α} {row : Option Nat} (h : Go.Proofs.YtinglbcafcjhfaaDoor.Own sz enc e W base v xs) (hg : W.grownBy W' row) (hr : ∀ r, row = some r → B ≤ r ∧ ∃ o : Obj, W.heap[r]? = some o ∧ o.isCells = false) : Go.Proofs.YtinglbcafcjhfaaDoor.Own sz enc e W' base v xs := by
  refine World.ownsRow.kept h hg ?_
  rcases h.2 with ⟨rfl, _⟩ | ⟨g', cap, cur, rfl, _, hh, _⟩
  · exact .inl rfl
  · refine .inr fun e => ?_
    obtain ⟨_, o, ho, hc⟩ := hr g' e.symm
    rw [hh] at ho
    cases ho
    cases hc
theorem Below.from_ {w : World} {B : Nat} {row : Option Nat} (h : Below w.heap.size w W) (hB : w.heap.size ≤ B) (hg : W.grownBy W' row) (hr : ∀ r, row = some r → B ≤ r ∧ ∃ o : Obj, W.heap[r]? = some o ∧ o.isCells = false) : Below w.heap.size w W' :=
  h.grown hg h.size fun k hk => by
    have := (hr k hk).1
    omega
theorem grown_of_bel (hb : Below W.heap.size W W') : W.grownBy W' none := ⟨hb.os, hb.tape, hb.output, hb.size, fun i hi _ => hb.block i hi⟩
theorem abides_bel {β : Type} {J : β → World → Prop} {B : Nat} (h : AbidesFrom B J) {x : β} (hj : J x W) (hb : Below W.heap.size W W') : J x W' := h x W W' none hj (grown_of_bel hb) (by simp)
end
end Go.Proofs.YtinglbcafcjhfaaDoor
