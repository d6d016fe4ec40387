/- My words for all texts of this seat: data as plain structures, slices of records of whole numbers read in memory, small laws on worlds. No Go function is spoken of here. -/
import Derived.Below
import Derived.Deep.Draws
import Derived.Deep.AppendLies
import Derived.Maps.AppendAt
import Derived.OwnWalk
import Derived.Laws.MakeOwn
import Derived.Laws.OwnMore
import Derived.Deep.OwnRows
import Derived.Tactics
import Derived.Laws.Slices
import Derived.WalkKit
import Derived.KernelRfl
import Derived.RowKit3
import Derived.Deep.LoopGhost
import Derived.Deep.QuietTactic
import Derived.BigQuiet
import Derived.WideLaws
import Derived.Deep.DeepCutAuto
import Derived.Deep.CutBlock
import Derived.Deep.RegionHeld3
import Derived.Laws.Rows
import Derived.Lib.Hide
import Derived.Deep.Light
import Derived.IntWalk
namespace Go.Proofs.YtinglbcafcjhfaaDoor
open Go.RowKit
set_option linter.unusedVariables false

/-! ### Truth values -/
def inB (x a b : Int) : Bool := decide (a ≤ x ∧ x ≤ b)
noncomputable def bo (p : Prop) : Bool := @decide p (Classical.propDecidable p)
theorem bo_true {p : Prop} (h : p) : bo p = true := by unfold bo; exact @decide_eq_true p (Classical.propDecidable p) h
theorem bo_false {p : Prop} (h : ¬p) : bo p = false := by unfold bo; exact @decide_eq_false p (Classical.propDecidable p) h
theorem bo_iff {p : Prop} : bo p = true ↔ p := ⟨fun h => by (unfold bo at h; exact @of_decide_eq_true p (Classical.propDecidable p) h), bo_true⟩
theorem bo_iff_false {p : Prop} : bo p = false ↔ ¬p := ⟨fun h hp => by (rw [bo_true hp] at h; cases h), bo_false⟩
theorem bo_congr {p q : Prop} (h : p ↔ q) : bo p = bo q := by rw [propext h]
theorem ret_bo {x : Bool} {p : Prop} (h : x = true ↔ p) : Ending.returned (.bool x) = .returned (.bool (bo p)) := by
  cases x with
  | true => rw [bo_true (h.1 rfl)]
  | false => rw [bo_false fun k => by cases h.2 k]
theorem ret_int {a b : Int} (h : a = b) : Ending.returned (.int .i64 a) = .returned (.int .i64 b) := by rw [h]
theorem inB_iff {x a b : Int} : inB x a b = true ↔ a ≤ x ∧ x ≤ b := by simp [inB]
theorem inB_iff_false {x a b : Int} : inB x a b = false ↔ ¬(a ≤ x ∧ x ≤ b) := by rw [← inB_iff]; simp

/-! ### Worlds -/
theorem bel_alloc {w W : World} (h : Below w.heap.size w W) (o : Obj) : Below w.heap.size w (W.alloc o) := h.alloc h.size o
theorem bel_drew {w W : World} (h : Below w.heap.size w W) : Below w.heap.size w W.drew := ⟨h.os, h.tape, h.output, h.size, h.block⟩
theorem bel_drewN {w W : World} (h : Below w.heap.size w W) (n : Nat) : Below w.heap.size w (W.drewN n) := ⟨h.os, h.tape, h.output, h.size, h.block⟩
theorem bel_set {w W : World} (h : Below w.heap.size w W) {p : Addr} (hp : w.heap.size ≤ p.block) (u : Value) : Below w.heap.size w (W.setCell p u) := h.setCell hp u
theorem bel_then {w w1 w2 : World} (h : Below w.heap.size w w1) (k : Below w1.heap.size w1 w2) : Below w.heap.size w w2 :=
  h.trans ⟨k.os, k.tape, k.output, k.size, fun i hi => k.block i (Nat.lt_of_lt_of_le hi h.size)⟩
theorem bel_cell {w w1 : World} (h : Below w.heap.size w w1) {a : Addr} {v : Value} (hc : w.cell? a = some v) : w1.cell? a = some v := (h.cell (World.block_lt_of_cell? w a hc)).trans hc
theorem lt_of_blk {w : World} {g : Nat} {o : Obj} (h : w.heap[g]? = some o) : g < w.heap.size := (Array.getElem?_eq_some_iff.1 h).1
theorem bel_blk {w w1 : World} (h : Below w.heap.size w w1) {g : Nat} {o : Obj} (hb : w.heap[g]? = some o) : w1.heap[g]? = some o := (h.block g (lt_of_blk hb)).trans hb

theorem bcell {W w1 : World} (hb : Below W.heap.size W w1) : (∀ b o, b < W.heap.size → w1.cell? ⟨b, o, none⟩ = W.cell? ⟨b, o, none⟩) ∧ (∀ b o, b < W.heap.size → w1.frozen? ⟨b, o, none⟩ = W.frozen? ⟨b, o, none⟩) :=
  ⟨fun b o h => hb.cell (p := ⟨b, o, none⟩) h, fun b o h => hb.frozen (p := ⟨b, o, none⟩) h⟩

/-- A quiet call that leaves the world alone, for go_quiet. -/
theorem quiet_eq {P : Program} {f : FuncId} {args : Array Value} {w : World} {n : Nat} {v : Value}
    (h : Calls P f args (w.drewN n) fun e w' => e = .returned v ∧ w.drewN n = w') : Calls P f args (w.drewN n) fun e w'' => e = .returned v ∧ ∃ m, w'' = w.drewN m :=
  h.mono fun _ _ ⟨he, hm⟩ => ⟨he, n, hm.symm⟩
/-! ### A block of one's own -/
/-- Block g of w holds these cells. -/
def Blk (w : World) (g : Nat) (t : TypeId) (cs : Array Value) : Prop := w.heap[g]? = some (.cells cs t (0, 0))
theorem Blk.lt {w : World} {g : Nat} {t : TypeId} {cs : Array Value} (h : Blk w g t cs) : g < w.heap.size := lt_of_blk h
theorem Blk.cell {w : World} {g : Nat} {t : TypeId} {cs : Array Value} (h : Blk w g t cs) (i : Nat) : w.cell? ⟨g, i, none⟩ = cs[i]? := cell_of_row w g i cs t (0, 0) h
theorem Blk.frozen {w : World} {g : Nat} {t : TypeId} {cs : Array Value} (h : Blk w g t cs) (i : Nat) : w.frozen? ⟨g, i, none⟩ = false := by unfold Blk at h; simp [World.frozen?, h]
theorem Blk.new (w : World) (t : TypeId) (cs : Array Value) : Blk (w.alloc (.cells cs t)) w.heap.size t cs := heap_alloc_new w _
theorem Blk.new_at (w : World) (g : Nat) (t : TypeId) (cs : Array Value) (hg : g = w.heap.size) : Blk (w.alloc (.cells cs t)) g t cs := by rw [hg]; exact heap_alloc_new w _
theorem Blk.set {w : World} {g : Nat} {t : TypeId} {cs : Array Value} (h : Blk w g t cs) (i : Nat) (u : Value) : Blk (w.setCell ⟨g, i, none⟩ u) g t (cs.setIfInBounds i u) := by
  unfold Blk at h ⊢
  simp [World.setCell, Array.getElem?_modify, h]
theorem Blk.below {w w1 : World} {g : Nat} {t : TypeId} {cs : Array Value} (h : Blk w g t cs) (hb : Below w.heap.size w w1) : Blk w1 g t cs := bel_blk hb h
theorem Blk.alloc {w : World} {g : Nat} {t : TypeId} {cs : Array Value} (h : Blk w g t cs) (o : Obj) : Blk (w.alloc o) g t cs := (Below.heap_alloc w o g h.lt).trans h
theorem Blk.drew {w : World} {g : Nat} {t : TypeId} {cs : Array Value} (h : Blk w g t cs) : Blk w.drew g t cs := h
theorem Blk.drewN {w : World} {g : Nat} {t : TypeId} {cs : Array Value} (h : Blk w g t cs) (n : Nat) : Blk (w.drewN n) g t cs := h
theorem Blk.far {w : World} {g : Nat} {t : TypeId} {cs : Array Value} (h : Blk w g t cs) {p : Addr} (hp : g ≠ p.block) (u : Value) : Blk (w.setCell p u) g t cs := (Below.heap_setCell w p u g hp).trans h

/-! ### Slices of records of whole numbers -/
/-- At A lie the records xs, each told by its whole numbers. -/
def Rd {α : Type} (sz : Nat) (enc : α → List Int) (w : World) (A : Option Addr) (n : Nat) (xs : List α) : Prop :=
  xs.length = n ∧ n ≤ 9223372036854775807 ∧ ∀ i x, xs[i]? = some x → ∃ ad, A = some ad ∧ ∀ j v, (enc x)[j]? = some v → w.cell? (ad.add (i * sz + j)) = some (.int .i64 v)
section
variable {α : Type} {sz : Nat} {enc : α → List Int} {w w1 : World} {A : Option Addr} {n : Nat} {xs : List α}
theorem Rd.below (h : Rd sz enc w A n xs) (hb : Below w.heap.size w w1) : Rd sz enc w1 A n xs :=
  ⟨h.1, h.2.1, fun i x hx => by
    obtain ⟨ad, e, hc⟩ := h.2.2 i x hx
    exact ⟨ad, e, fun j v hv => bel_cell hb (hc j v hv)⟩⟩
theorem Rd.len (h : Rd sz enc w A n xs) : xs.length = n := h.1
theorem Rd.get (h : Rd sz enc w A n xs) {i : Nat} (hi : i < n) : ∃ x, xs[i]? = some x := ⟨xs[i]'(by rw [h.1]; exact hi), List.getElem?_eq_getElem _⟩
theorem Rd.nil : Rd sz enc w none 0 ([] : List α) := ⟨rfl, by omega, fun i x hx => by simp at hx⟩
theorem add_zero_ (ad : Addr) : ad.add 0 = ad := by unfold Addr.add; rw [if_pos rfl]
theorem add_field (ad : Addr) (m j : Nat) (hj : 0 < j) : ad.add (m + j) = ⟨(ad.add m).block, (ad.add m).off + j, none⟩ := by
  unfold Addr.add
  rw [if_neg (by omega)]
  split <;> simp_all <;> omega
end

/-! ### A slice of records that the call itself makes -/
def flat {α : Type} (enc : α → List Int) (xs : List α) : List Value := (xs.flatMap enc).map (Value.int .i64)
theorem flat_append {α : Type} (enc : α → List Int) (xs ys : List α) : flat enc (xs ++ ys) = flat enc xs ++ flat enc ys := by simp [flat]
theorem flat_one {α : Type} (enc : α → List Int) (y : α) : flat enc [y] = (enc y).map (Value.int .i64) := by simp [flat]
theorem flat_length {α : Type} {enc : α → List Int} {sz : Nat} (h : ∀ x, (enc x).length = sz) (xs : List α) : (flat enc xs).length = xs.length * sz := by
  induction xs with
  | nil => simp [flat]
  | cons x xs ih => rw [show x :: xs = [x] ++ xs from rfl, flat_append, List.length_append, ih, flat_one, List.length_map, h]; simp [Nat.add_mul]; omega
theorem flat_get {α : Type} {enc : α → List Int} {sz : Nat} (h : ∀ x, (enc x).length = sz) : ∀ (xs : List α) (i : Nat) (x : α), xs[i]? = some x → ∀ j v, (enc x)[j]? = some v → (flat enc xs)[i * sz + j]? = some (.int .i64 v)
  | [], i, x, hx, j, v, hv => by simp at hx
  | y :: ys, 0, x, hx, j, v, hv => by
    simp at hx
    subst hx
    rw [show y :: ys = [y] ++ ys from rfl, flat_append, flat_one, List.getElem?_append_left (by rw [List.length_map]; have := (List.getElem?_eq_some_iff.1 hv).1; omega)]
    simp [hv]
  | y :: ys, i + 1, x, hx, j, v, hv => by
    have hx' : ys[i]? = some x := by simpa using hx
    rw [show y :: ys = [y] ++ ys from rfl, flat_append, flat_one, List.getElem?_append_right (by rw [List.length_map, h, Nat.add_mul]; omega)]
    rw [List.length_map, h, show (i + 1) * sz + j - sz = i * sz + j by rw [Nat.add_mul]; omega]
    exact flat_get h ys i x hx' j v hv
/-- The slice v, nil or in a block of its own from base on, holds the records xs. -/
def Own {α : Type} (sz : Nat) (enc : α → List Int) (e : TypeId) (w : World) (base : Nat) (v : Value) (xs : List α) : Prop := w.ownsRow base e sz v xs.length (flat enc xs)
section
variable {α : Type} {sz : Nat} {enc : α → List Int} {e : TypeId} {w w0 w1 : World} {base : Nat} {v : Value} {xs : List α}
theorem Own.nil : Own sz enc e w base (.slice none 0 0) ([] : List α) := World.ownsRow_nil w base e sz
theorem Own.alloc (h : Own sz enc e w base v xs) (o : Obj) : Own sz enc e (w.alloc o) base v xs := World.ownsRow.alloc h o
theorem Own.below (h : Own sz enc e w base v xs) (hb : Below w.heap.size w w1) : Own sz enc e w1 base v xs :=
  World.ownsRow.kept h (row := none) ⟨hb.os, hb.tape, hb.output, hb.size, fun i hi _ => hb.block i hi⟩ (by cases v.ownBlock <;> simp)
theorem Own.drewN (h : Own sz enc e w base v xs) (n : Nat) : Own sz enc e (w.drewN n) base v xs := h
theorem Own.ne (h : Own sz enc e w base v xs) {g : Nat} {t : TypeId} {cs : Array Value} (hb : Blk w g t cs) (ht : t ≠ e) : some g ≠ v.ownBlock := by
  intro hg
  rcases h.2 with ⟨rfl, _⟩ | ⟨g', cap, cur, rfl, _, hh, _⟩
  · simp [Value.ownBlock] at hg
  · have : g = g' := by simpa [Value.ownBlock] using hg
    subst this
    unfold Blk at hb
    rw [hh] at hb
    injection hb with hb
    injection hb with _ hb
    exact ht hb.symm
theorem Own.far (h : Own sz enc e w base v xs) {p : Addr} (hp : some p.block ≠ v.ownBlock) (u : Value) : Own sz enc e (w.setCell p u) base v xs := by
  obtain ⟨h1, h2⟩ := h
  refine ⟨h1, ?_⟩
  rcases h2 with h2 | ⟨g, cap, cur, rfl, hg, hh, r⟩
  · exact Or.inl h2
  · refine Or.inr ⟨g, cap, cur, rfl, hg, ?_, r⟩
    rw [Below.heap_setCell _ _ _ _ (fun k => hp (by simp [Value.ownBlock, k]))]
    exact hh
theorem Own.max (h : Own sz enc e w base v xs) : xs.length ≤ 9223372036854775807 := by
  rcases h.2 with ⟨_, h1⟩ | ⟨g', cap', cur, he, _, _, h1, h2, _⟩
  · omega
  · simp only [maxLen] at h2
    omega
/-- What one owns one can read. -/
theorem Own.reads (henc : ∀ x, (enc x).length = sz) (h : Own sz enc e w base v xs) : ∃ A c, v = .slice A xs.length c ∧ xs.length ≤ c ∧ Rd sz enc w A xs.length xs := by
  have hm := h.max
  rcases h.2 with ⟨rfl, h0⟩ | ⟨g, cap, cur, rfl, hb, hh, hc, _⟩
  · obtain rfl : xs = [] := List.eq_nil_of_length_eq_zero h0
    exact ⟨none, 0, rfl, by simp, Rd.nil⟩
  · refine ⟨_, cap, rfl, hc, rfl, hm, fun i x hx => ⟨_, rfl, fun j u hu => ?_⟩⟩
    exact World.ownsRow.cells h (g := g) rfl _ _ (flat_get henc xs i x hx j u hu)
theorem Blk.grown {g : Nat} {t : TypeId} {cs : Array Value} {row : Option Nat} (h : Blk w g t cs) (hg : w.grownBy w1 row) (hne : some g ≠ row) : Blk w1 g t cs := (hg.block g h.lt hne).trans h
variable {P : Program} {ops : Array Oper} {rest : List Oper} {o : Oper} {a : Act} {Q : Exit → Act → World → Prop}
/-- append(v, y): the goal's world is that behind the box of the one new record. -/
theorem own_append (henc : ∀ x, (enc x).length = sz) (hgd : o.guard = none) (s x : Operand) (t : TypeId) (z : Value) (bytes : Nat)
    (ho : o.op = .call { callee := .builtin .append, args := #[s, x], argTypes := #[t, t] })
    (ht : P.underlying t = some (.slice e)) (hinfo : (P.info? e).map (fun i => (i.zero, i.size, i.bytes)) = some (some z, sz, bytes)) (hz : z.cells.size = sz) (hs0 : 0 < sz) (hb0 : 0 < bytes)
    (y : α) (cs : Array Value) (hcs : cs.toList = (enc y).map (Value.int .i64)) (W : World) (HO : Own sz enc e W w0.heap.size v xs) (hs : a.eval s = v) (B : Nat) (hx : a.eval x = .slice (some ⟨B, 0, none⟩) 1 1) (hB : B = W.heap.size)
    (HB : Below w0.heap.size w0 W) (hl : (xs.length + 1) * bytes ≤ 140737488355328)
    (h : ∀ g cap w1, Own sz enc e w1 w0.heap.size (.slice (some ⟨g, 0, none⟩) (xs.length + 1) cap) (xs ++ [y]) → Below w0.heap.size w0 w1 → W.grownBy w1 v.ownBlock → wpList P ops Q rest (a.put o.dst (.slice (some ⟨g, 0, none⟩) (xs.length + 1) cap)) w1) :
    wpList P ops Q (o :: rest) a (W.alloc (.cells cs e)) := by
  subst hB
  obtain ⟨i0, hi, hzz⟩ := Option.map_eq_some_iff.1 hinfo
  simp only [Prod.mk.injEq] at hzz
  obtain ⟨hz0, hz1, hz2⟩ := hzz
  have hlen : xs.length + 1 ≤ 140737488355328 := Nat.le_trans (Nat.le_mul_of_pos_right _ hb0) hl
  refine wpList_append_own_at (W.alloc (.cells cs e)) hgd s x t ho w0.heap.size e i0 z sz bytes ht hi hz0 hz1 hz2 hz hs0 v xs.length _ hs (HO.alloc _) ⟨W.heap.size, 0, none⟩ 1 1 (flat enc [y]) hx (by rw [flat_length henc]; simp)
    (by rw [flat_one, ← hcs]; exact World.news_of_block (cs := cs) (t := e) (fr := (0, 0)) (heap_alloc_new W _)) (by rw [flat_one]; simp [Value.oneCell']) (by simp only [maxLen]; omega) hl (by have := HB.size; simp; omega) ?_
  intro v1 w1 hown hg _ _
  have hown' : w1.ownsRow w0.heap.size e sz v1 (xs.length + 1) (flat enc (xs ++ [y])) := by rw [flat_append]; exact hown
  obtain ⟨g, cap, rfl, _⟩ := hown'.form (by omega)
  have HO' : Own sz enc e w1 w0.heap.size (.slice (some ⟨g, 0, none⟩) (xs.length + 1) cap) (xs ++ [y]) := by
    unfold Own
    rw [List.length_append]
    exact hown'
  exact h g cap w1 HO' ((HB.alloc HB.size _).grown hg (by have := HB.size; simp; omega) (fun k hk => (HO.lt k hk).1)) (World.grownBy.trans (World.grownBy_alloc W _ _) hg)
end

/-! ### The data -/
structure Piece where
  (len turn radius width surface : Int)
structure Crest where
  (at_ size : Int)
structure Junction where
  (at_ arms way : Int)
structure Road where
  (pieces : List Piece) (crests : List Crest) (juncs : List Junction)
structure SpeedRow where
  (radius least most : Int)
structure Speeds where
  (least most : Int) (rows : List SpeedRow) (surface : List Int)
def Piece.enc (p : Piece) : List Int := [p.len, p.turn, p.radius, p.width, p.surface]
def Crest.enc (p : Crest) : List Int := [p.at_, p.size]
def Junction.enc (p : Junction) : List Int := [p.at_, p.arms, p.way]
def SpeedRow.enc (p : SpeedRow) : List Int := [p.radius, p.least, p.most]
def intEnc (x : Int) : List Int := [x]
theorem Piece.enc_len (p : Piece) : p.enc.length = 5 := rfl
theorem Crest.enc_len (p : Crest) : p.enc.length = 2 := rfl
theorem Junction.enc_len (p : Junction) : p.enc.length = 3 := rfl
theorem SpeedRow.enc_len (p : SpeedRow) : p.enc.length = 3 := rfl
theorem intEnc_len (p : Int) : (intEnc p).length = 1 := rfl
section
variable {w : World} {A : Option Addr} {n i : Nat}
theorem Rd.at1 {xs : List Int} (h : Rd 1 intEnc w A n xs) {x : Int} (hx : xs[i]? = some x) : ∃ ad, A = some ad ∧ w.cell? (ad.add i) = some (.int .i64 x) := by
  obtain ⟨ad, e, hc⟩ := h.2.2 i x hx
  exact ⟨ad, e, by simpa using hc 0 _ rfl⟩
theorem Rd.atCrest {xs : List Crest} (h : Rd 2 Crest.enc w A n xs) {x : Crest} (hx : xs[i]? = some x) : ∃ ad, A = some ad ∧ w.cell? (ad.add (i * 2)) = some (.int .i64 x.at_) ∧ w.cell? ⟨(ad.add (i * 2)).block, (ad.add (i * 2)).off + 1, none⟩ = some (.int .i64 x.size) := by
  obtain ⟨ad, e, hc⟩ := h.2.2 i x hx
  exact ⟨ad, e, hc 0 _ rfl, by rw [← add_field _ _ 1 (by omega)]; exact hc 1 _ rfl⟩
theorem Rd.atJunction {xs : List Junction} (h : Rd 3 Junction.enc w A n xs) {x : Junction} (hx : xs[i]? = some x) : ∃ ad, A = some ad ∧ w.cell? (ad.add (i * 3)) = some (.int .i64 x.at_) ∧ w.cell? ⟨(ad.add (i * 3)).block, (ad.add (i * 3)).off + 1, none⟩ = some (.int .i64 x.arms) ∧ w.cell? ⟨(ad.add (i * 3)).block, (ad.add (i * 3)).off + 2, none⟩ = some (.int .i64 x.way) := by
  obtain ⟨ad, e, hc⟩ := h.2.2 i x hx
  exact ⟨ad, e, hc 0 _ rfl, by rw [← add_field _ _ 1 (by omega)]; exact hc 1 _ rfl, by rw [← add_field _ _ 2 (by omega)]; exact hc 2 _ rfl⟩
theorem Rd.atRow {xs : List SpeedRow} (h : Rd 3 SpeedRow.enc w A n xs) {x : SpeedRow} (hx : xs[i]? = some x) : ∃ ad, A = some ad ∧ w.cell? (ad.add (i * 3)) = some (.int .i64 x.radius) ∧ w.cell? ⟨(ad.add (i * 3)).block, (ad.add (i * 3)).off + 1, none⟩ = some (.int .i64 x.least) ∧ w.cell? ⟨(ad.add (i * 3)).block, (ad.add (i * 3)).off + 2, none⟩ = some (.int .i64 x.most) := by
  obtain ⟨ad, e, hc⟩ := h.2.2 i x hx
  exact ⟨ad, e, hc 0 _ rfl, by rw [← add_field _ _ 1 (by omega)]; exact hc 1 _ rfl, by rw [← add_field _ _ 2 (by omega)]; exact hc 2 _ rfl⟩
theorem Rd.atPiece {xs : List Piece} (h : Rd 5 Piece.enc w A n xs) {x : Piece} (hx : xs[i]? = some x) : ∃ ad, A = some ad ∧ w.cell? (ad.add (i * 5)) = some (.int .i64 x.len) ∧ w.cell? ⟨(ad.add (i * 5)).block, (ad.add (i * 5)).off + 1, none⟩ = some (.int .i64 x.turn) ∧ w.cell? ⟨(ad.add (i * 5)).block, (ad.add (i * 5)).off + 2, none⟩ = some (.int .i64 x.radius) ∧ w.cell? ⟨(ad.add (i * 5)).block, (ad.add (i * 5)).off + 3, none⟩ = some (.int .i64 x.width) ∧ w.cell? ⟨(ad.add (i * 5)).block, (ad.add (i * 5)).off + 4, none⟩ = some (.int .i64 x.surface) := by
  obtain ⟨ad, e, hc⟩ := h.2.2 i x hx
  exact ⟨ad, e, hc 0 _ rfl, by rw [← add_field _ _ 1 (by omega)]; exact hc 1 _ rfl, by rw [← add_field _ _ 2 (by omega)]; exact hc 2 _ rfl, by rw [← add_field _ _ 3 (by omega)]; exact hc 3 _ rfl, by rw [← add_field _ _ 4 (by omega)]; exact hc 4 _ rfl⟩
end

/-! ### What a road is -/
def Piece.Ok (p : Piece) : Prop := 1 ≤ p.len ∧ p.len ≤ 5000 ∧ -1 ≤ p.turn ∧ p.turn ≤ 1 ∧ 15 ≤ p.width ∧ p.width ≤ 300 ∧ 1 ≤ p.surface ∧ p.surface ≤ 9 ∧ (p.turn = 0 → p.radius = 0) ∧ (p.turn ≠ 0 → 5 ≤ p.radius ∧ p.radius ≤ 2000)
/-- The length of the first k pieces. -/
def sumLen (l : List Piece) (k : Nat) : Int := ((l.take k).map Piece.len).sum
theorem sumLen_zero (l : List Piece) : sumLen l 0 = 0 := by simp [sumLen]
theorem sumLen_succ {l : List Piece} {k : Nat} {p : Piece} (h : l[k]? = some p) : sumLen l (k + 1) = sumLen l k + p.len := by
  unfold sumLen
  rw [List.take_add_one, h]
  simp
def Road.length (r : Road) : Int := sumLen r.pieces r.pieces.length
def Crest.Ok (n : Int) (l : List Crest) (i : Nat) : Prop := ∀ c, l[i]? = some c → 0 ≤ c.at_ ∧ c.at_ ≤ n ∧ 1 ≤ c.size ∧ c.size ≤ 3 ∧ ∀ d, 0 < i → l[i - 1]? = some d → d.at_ < c.at_
def Junction.Ok (n : Int) (l : List Junction) (i : Nat) : Prop := ∀ c, l[i]? = some c → 0 ≤ c.at_ ∧ c.at_ ≤ n ∧ 2 ≤ c.arms ∧ c.arms ≤ 6 ∧ 1 ≤ c.way ∧ c.way ≤ c.arms ∧ ∀ d, 0 < i → l[i - 1]? = some d → d.at_ < c.at_
def PiecesOk (l : List Piece) (k : Nat) : Prop := ∀ j p, j < k → l[j]? = some p → p.Ok
def CrestsOk (n : Int) (l : List Crest) (k : Nat) : Prop := ∀ j, j < k → Crest.Ok n l j
def JunctionsOk (n : Int) (l : List Junction) (k : Nat) : Prop := ∀ j, j < k → Junction.Ok n l j
structure Road.Valid (r : Road) : Prop where
  some_ : 1 ≤ r.pieces.length
  few : r.pieces.length ≤ 2000
  fewc : r.crests.length ≤ 1000
  fewj : r.juncs.length ≤ 200
  pieces : PiecesOk r.pieces r.pieces.length
  short : r.length ≤ 100000
  crests : CrestsOk r.length r.crests r.crests.length
  juncs : JunctionsOk r.length r.juncs r.juncs.length
theorem PiecesOk.zero (l : List Piece) : PiecesOk l 0 := fun j p hj => by omega
theorem PiecesOk.succ {l : List Piece} {k : Nat} (h : PiecesOk l k) {p : Piece} (hp : l[k]? = some p) (hk : p.Ok) : PiecesOk l (k + 1) := fun j q hj hq => by
  rcases Nat.lt_or_ge j k with hl | hl
  · exact h j q hl hq
  · obtain rfl : j = k := by omega
    rw [hp] at hq
    cases hq
    exact hk
theorem PiecesOk.sum {l : List Piece} {k : Nat} (h : PiecesOk l k) (hk : k ≤ l.length) : (k : Int) ≤ sumLen l k ∧ sumLen l k ≤ 5000 * k := by
  induction k with
  | zero => simp [sumLen_zero]
  | succ k ih =>
    obtain ⟨p, hp⟩ : ∃ p, l[k]? = some p := ⟨l[k], List.getElem?_eq_getElem _⟩
    have h1 := ih (fun j q hj => h j q (by omega)) (by omega)
    obtain ⟨h2, h3, _⟩ := h k p (by omega) hp
    rw [sumLen_succ hp]
    omega
/-- Where the pieces begin, up to the k-th one. -/
def begins (l : List Piece) (k : Nat) : List Int := (List.range k).map (sumLen l)
theorem begins_zero (l : List Piece) : begins l 0 = [] := rfl
theorem begins_succ (l : List Piece) (k : Nat) : begins l (k + 1) = begins l k ++ [sumLen l k] := by simp [begins, List.range_succ]
theorem begins_length (l : List Piece) (k : Nat) : (begins l k).length = k := by simp [begins]
theorem begins_get (l : List Piece) {k i : Nat} (h : i < k) : (begins l k)[i]? = some (sumLen l i) := by simp [begins, h]
/-- A road whose measures fit. -/
def Road.Fit (r : Road) : Prop := r.pieces.length ≤ 1000000 ∧ ∀ k, k ≤ r.pieces.length → 0 ≤ sumLen r.pieces k ∧ sumLen r.pieces k ≤ 1099511627776
theorem Road.Valid.fit {r : Road} (h : r.Valid) : r.Fit := by
  have := h.few
  refine ⟨by omega, fun k hk => ?_⟩
  have := PiecesOk.sum (l := r.pieces) (k := k) (fun j p hj => h.pieces j p (by omega)) hk
  omega
noncomputable def Road.chk (r : Road) : Int := if bo r.Valid = true then 0 else 2
noncomputable def Road.lenOr (r : Road) : Int := if bo r.Valid = true then r.length else 0
theorem Road.chk_ok {r : Road} (h : r.Valid) : r.chk = 0 := by unfold Road.chk; rw [if_pos (bo_true h)]
theorem Road.chk_no {r : Road} (h : ¬r.Valid) : r.chk = 2 := by unfold Road.chk; rw [bo_false h]; simp
theorem CrestsOk.zero (n : Int) (l : List Crest) : CrestsOk n l 0 := fun j hj => by omega
theorem CrestsOk.succ {n : Int} {l : List Crest} {k : Nat} (h : CrestsOk n l k) (hk : Crest.Ok n l k) : CrestsOk n l (k + 1) := fun j hj => by
  rcases Nat.lt_or_ge j k with hl | hl
  · exact h j hl
  · obtain rfl : j = k := by omega
    exact hk
theorem JunctionsOk.zero (n : Int) (l : List Junction) : JunctionsOk n l 0 := fun j hj => by omega
theorem JunctionsOk.succ {n : Int} {l : List Junction} {k : Nat} (h : JunctionsOk n l k) (hk : Junction.Ok n l k) : JunctionsOk n l (k + 1) := fun j hj => by
  rcases Nat.lt_or_ge j k with hl | hl
  · exact h j hl
  · obtain rfl : j = k := by omega
    exact hk
section
variable {n : Int} {l : List Crest} {k : Nat} {x y : Crest}
theorem crest_ok (hx : l[k]? = some x) (h1 : inB x.at_ 0 n = true) (h2 : inB x.size 1 3 = true) (h3 : k = 0 ∨ ∃ y, l[k - 1]? = some y ∧ decide (x.at_ ≤ y.at_) = false) : Crest.Ok n l k := fun c hc => by
  rw [hx] at hc
  cases hc
  simp only [inB_iff] at h1 h2
  refine ⟨h1.1, h1.2, h2.1, h2.2, fun d hk hd => ?_⟩
  rcases h3 with h3 | ⟨y, hy, h3⟩
  · omega
  · rw [hy] at hd
    cases hd
    simpa using h3
theorem crest_no (hx : l[k]? = some x) (h : inB x.at_ 0 n = false ∨ inB x.size 1 3 = false ∨ (0 < k ∧ ∃ y, l[k - 1]? = some y ∧ decide (x.at_ ≤ y.at_) = true)) : ¬Crest.Ok n l k := fun hk => by
  obtain ⟨a, b, c, d, e⟩ := hk x hx
  rcases h with h | h | ⟨h0, y, hy, h⟩
  · exact inB_iff_false.1 h ⟨a, b⟩
  · exact inB_iff_false.1 h ⟨c, d⟩
  · have := e y h0 hy
    simp at h
    omega
end
section
variable {n : Int} {l : List Junction} {k : Nat} {x y : Junction}
theorem junction_ok (hx : l[k]? = some x) (h1 : inB x.at_ 0 n = true) (h2 : inB x.arms 2 6 = true) (h4 : inB x.way 1 x.arms = true) (h3 : k = 0 ∨ ∃ y, l[k - 1]? = some y ∧ decide (x.at_ ≤ y.at_) = false) : Junction.Ok n l k := fun c hc => by
  rw [hx] at hc
  cases hc
  simp only [inB_iff] at h1 h2 h4
  refine ⟨h1.1, h1.2, h2.1, h2.2, h4.1, h4.2, fun d hk hd => ?_⟩
  rcases h3 with h3 | ⟨y, hy, h3⟩
  · omega
  · rw [hy] at hd
    cases hd
    simpa using h3
theorem junction_no (hx : l[k]? = some x) (h : inB x.at_ 0 n = false ∨ inB x.arms 2 6 = false ∨ inB x.way 1 x.arms = false ∨ (0 < k ∧ ∃ y, l[k - 1]? = some y ∧ decide (x.at_ ≤ y.at_) = true)) : ¬Junction.Ok n l k := fun hk => by
  obtain ⟨a, b, c, d, f, g, e⟩ := hk x hx
  rcases h with h | h | h | ⟨h0, y, hy, h⟩
  · exact inB_iff_false.1 h ⟨a, b⟩
  · exact inB_iff_false.1 h ⟨c, d⟩
  · exact inB_iff_false.1 h ⟨f, g⟩
  · have := e y h0 hy
    simp at h
    omega
end
end Go.Proofs.YtinglbcafcjhfaaDoor
