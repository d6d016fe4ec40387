/- A region that draws its order, inside a fence (of a round too), by one relation over what has come up so far: each operation is shown once. -/
import Derived.Test.YtinglbcafcjhfaaDoorRange
import Derived.OrdersIn
import Derived.OwnWalkIn
namespace Go.Proofs.YtinglbcafcjhfaaDoor
open Go.RowKit Go.Shelf
set_option linter.unusedVariables false

section
variable {F : Fence} {n : Nat} {P : Program} {ops : Array Oper} {Q : Exit → Act → World → Prop} {md : Region.Mode}

theorem count_set_lt : ∀ {l : List Bool} {i : Nat}, l[i]? = some false → (l.set i true).count false + 1 = l.count false
  | [], i, h => by simp at h
  | b :: l, 0, h => by
    simp at h
    subst h
    simp
  | b :: l, i + 1, h => by
    have := count_set_lt (l := l) (i := i) (by simpa using h)
    simp [List.count_cons]
    omega

theorem getD_unl {l : Array Bool} {i : Nat} (h : l.getD i true = false) : l.toList[i]? = some false := by
  rw [Array.getD_eq_getD_getElem?] at h
  rw [Array.getElem?_toList]
  cases hl : l[i]? with
  | none => rw [hl] at h; cases h
  | some b => rw [hl] at h; simp at h; rw [h]

/-- What operation i waits for. -/
def needsAt (md : Region.Mode) (ops : Array Oper) (i : Nat) : List Nat :=
  match ops[i]? with
  | some o => (o.after.toList.filter (fun e => Region.binds md e)).map (fun e => e.on)
  | none => []

/-- What has come up, as a function. -/
def bof (l : Array Bool) : Nat → Bool := fun j => l.getD j false
/-- Number i has come up too. -/
def upb (b : Nat → Bool) (i : Nat) : Nat → Bool := fun j => if j = i then true else b j

theorem bof_set {l : Array Bool} {i : Nat} (h : i < l.size) : bof (l.setIfInBounds i true) = upb (bof l) i := by
  funext j
  unfold bof upb
  by_cases hj : j = i
  · subst hj
    simp [Array.getD_eq_getD_getElem?, h]
  · simp [Array.getD_eq_getD_getElem?, Ne.symm hj, hj]

theorem needs_of_ready {l : Array Bool} {i : Nat} (hi : i ∈ Region.ready md ops l) : l.getD i true = false ∧ i < ops.size ∧ ∀ j ∈ needsAt md ops i, bof l j = true := by
  obtain ⟨h1, o, ho, h2⟩ := mem_ready.1 hi
  refine ⟨h1, (Array.getElem?_eq_some_iff.1 ho).1, fun j hj => ?_⟩
  unfold needsAt at hj
  rw [ho] at hj
  simp only [List.mem_map, List.mem_filter, Array.mem_toList_iff] at hj
  obtain ⟨e, ⟨he, hb⟩, rfl⟩ := hj
  exact h2 e he hb

theorem ready_of_needs {l : Array Bool} {i : Nat} (hi : i < ops.size) (h1 : l.getD i true = false) (h : ∀ j ∈ needsAt md ops i, bof l j = true) : i ∈ Region.ready md ops l := by
  refine mem_ready.2 ⟨h1, ops[i], by simp [hi], fun e he hb => h e.on ?_⟩
  unfold needsAt
  rw [Array.getElem?_eq_getElem hi]
  simp only [List.mem_map, List.mem_filter, Array.mem_toList_iff]
  exact ⟨e, ⟨he, hb⟩, rfl⟩

/-- Each operation waits for earlier ones alone. -/
def topB (md : Region.Mode) (ops : Array Oper) : Bool := (List.range ops.size).all fun i => (needsAt md ops i).all fun j => decide (j < i)

theorem all_up {l : Array Bool} (hl : l.size = ops.size) (ht : topB md ops = true) (hr : Region.ready md ops l = []) : ∀ i, i < ops.size → bof l i = true := by
  intro i
  induction i using Nat.strongRecOn with
  | _ i ih =>
    intro hi
    cases hb : l.getD i true with
    | true =>
      unfold bof
      rw [Array.getD_eq_getD_getElem?, Array.getElem?_eq_getElem (by omega)] at hb ⊢
      exact hb
    | false =>
      have h1 := List.all_eq_true.1 ht i (List.mem_range.2 hi)
      have : i ∈ Region.ready md ops l := ready_of_needs hi hb fun j hj => by
        have h2 := List.all_eq_true.1 h1 j hj
        have h3 : j < i := by simpa using h2
        exact ih j h3 (by omega)
      rw [hr] at this
      cases this

theorem wpAnyIn_inv (I : (Nat → Bool) → Act → World → Prop) (ht : topB md ops = true)
    (hs : ∀ i, i < ops.size → ∀ b a w, b i = false → (∀ j ∈ needsAt md ops i, b j = true) → I b a w → wpOpIn F n P ops Q i (I (upb b i)) a w)
    (hd : ∀ b a w, (∀ i, i < ops.size → b i = true) → I b a w → Q .normal a w) :
    ∀ (fuel : Nat) (l : Array Bool) (a : Act) (w : World), l.size = ops.size → l.toList.count false ≤ fuel → I (bof l) a w → wpAnyIn F n P md ops Q fuel l a w
  | 0, l, a, w, hl, hc, h => by
    have hr : Region.ready md ops l = [] := by
      apply List.eq_nil_iff_forall_not_mem.2
      intro i hi
      have := count_set_lt (getD_unl (mem_ready.1 hi).1)
      omega
    exact ⟨hr, hd _ a w (all_up hl ht hr) h⟩
  | fuel + 1, l, a, w, hl, hc, h => by
    refine ⟨fun hr => hd _ a w (all_up hl ht hr) h, fun i hi => ?_⟩
    obtain ⟨h1, h2, h3⟩ := needs_of_ready hi
    have hu := getD_unl h1
    have hct := count_set_lt hu
    have hb : bof l i = false := by
      unfold bof
      rw [Array.getElem?_toList] at hu
      rw [Array.getD_eq_getD_getElem?, hu]
      rfl
    refine wpOpIn_mono (fun a' w' h' => ?_) (hs i h2 (bof l) a w hb h3 h)
    rw [← bof_set (by omega)] at h'
    exact wpAnyIn_inv I ht hs hd fuel _ a' w' (by simpa using hl) (by rw [Array.toList_setIfInBounds]; omega) h'

/-- A region that draws, inside a fence. -/
theorem wpIn_region_inv {id : Nat} {a : Act} {w : World} (I : (Nat → Bool) → Act → World → Prop) (hm : P.follows .mixedOrders = true) (ht : topB .any ops = true)
    (h0 : I (fun _ => false) a w.drew)
    (hs : ∀ i, i < ops.size → ∀ b a w, b i = false → (∀ j ∈ needsAt .any ops i, b j = true) → I b a w → wpOpIn F n P ops Q i (I (upb b i)) a w)
    (hd : ∀ b a w, (∀ i, i < ops.size → b i = true) → I b a w → Q .normal a w) : (Code.region id ops true).wpIn F n P Q a w := by
  refine wpIn_region_any hm (wpAnyIn_inv I ht hs hd _ _ _ _ (by simp) ?_ ?_)
  · simp
  · have : bof (Array.replicate ops.size false) = fun _ => false := by
      funext j
      unfold bof
      rw [Array.getD_eq_getD_getElem?, Array.getElem?_replicate]
      split <;> rfl
    rw [this]
    exact h0

/-- The same with each number by itself: the needs written out. -/
theorem step_of {I : (Nat → Bool) → Act → World → Prop} {i : Nat} (ns : List Nat) (o : Oper) (hn : needsAt .any ops i = ns) (ho : ops[i]? = some o) (hg : o.guard = none)
    (h : ∀ b a w, b i = false → (∀ j ∈ ns, b j = true) → I b a w → ∀ K : Act → World → Prop, (∀ a' w', I (upb b i) a' w' → K a' w') → Oper.wpIn F n P o a w K Q) :
    ∀ b a w, b i = false → (∀ j ∈ needsAt .any ops i, b j = true) → I b a w → wpOpIn F n P ops Q i (I (upb b i)) a w :=
  fun b a w h1 h2 h3 => wpOpIn_step ho fun K hK => by
    have hw : Region.wanted o (yielded ops a.tmps) = true := by simp [Region.wanted, hg]
    rw [if_pos hw]
    exact h b a w h1 (fun j hj => h2 j (by rw [hn]; exact hj)) h3 K hK
end

section
variable {α : Type} {sz : Nat} {enc : α → List Int} {e : TypeId} {w0 w1 : World} {v : Value} {xs : List α}
variable {F : Fence} {n : Nat} {P : Program} {ops : Array Oper} {o : Oper} {a : Act} {Q : Exit → Act → World → Prop} {K : Act → World → Prop}
/-- append(v, y) inside a fence: the goal's world is that behind the box of the one new record (or later). -/
theorem own_append_in (henc : ∀ x, (enc x).length = sz) (s x : Operand) (t : TypeId) (z : Value) (bytes : Nat)
    (ho : o.op = .call { callee := .builtin .append, args := #[s, x], argTypes := #[t, t] })
    (ht : P.underlying t = some (.slice e)) (hinfo : (P.info? e).map (fun i => (i.zero, i.size, i.bytes)) = some (some z, sz, bytes)) (hz : z.cells.size = sz) (hs0 : 0 < sz) (hb0 : 0 < bytes)
    (y : α) (cs : Array Value) (hcs : cs.toList = (enc y).map (Value.int .i64)) (W : World) (HO : Own sz enc e W w0.heap.size v xs) (hs : a.eval s = v) (B : Nat) (hx : a.eval x = .slice (some ⟨B, 0, none⟩) 1 1) (hB : B = W.heap.size)
    (HB : Below w0.heap.size w0 W) (hl : (xs.length + 1) * bytes ≤ 140737488355328)
    (h : ∀ g cap w1, Own sz enc e w1 w0.heap.size (.slice (some ⟨g, 0, none⟩) (xs.length + 1) cap) (xs ++ [y]) → Below w0.heap.size w0 w1 → W.grownBy w1 v.ownBlock → (v.ownBlock = some g ∨ g = W.heap.size + 1) → K (a.put o.dst (.slice (some ⟨g, 0, none⟩) (xs.length + 1) cap)) w1) :
    Oper.wpIn F n P o a (W.alloc (.cells cs e)) K Q := by
  subst hB
  obtain ⟨i0, hi, hzz⟩ := Option.map_eq_some_iff.1 hinfo
  simp only [Prod.mk.injEq] at hzz
  obtain ⟨hz0, hz1, hz2⟩ := hzz
  have hlen : xs.length + 1 ≤ 140737488355328 := Nat.le_trans (Nat.le_mul_of_pos_right _ hb0) hl
  obtain ⟨v', w', hr, hown, hg, _, hwh⟩ := run_append_own_at (P := P) (W.alloc (.cells cs e)) w0.heap.size t o.type e i0 z sz bytes ht hi hz0 hz1 hz2 hz hs0 v xs.length _ (HO.alloc _) ⟨W.heap.size, 0, none⟩ 1 1 (flat enc [y]) (by rw [flat_length henc]; simp)
    (by rw [flat_one, ← hcs]; exact World.news_of_block (cs := cs) (t := e) (fr := (0, 0)) (heap_alloc_new W _)) (by rw [flat_one]; simp [Value.oneCell']) (by simp only [maxLen]; omega) hl (by have := HB.size; simp; omega)
  have hown' : w'.ownsRow w0.heap.size e sz v' (xs.length + 1) (flat enc (xs ++ [y])) := by rw [flat_append]; exact hown
  obtain ⟨g, cap, rfl, _⟩ := hown'.form (by omega)
  have HO' : Own sz enc e w' w0.heap.size (.slice (some ⟨g, 0, none⟩) (xs.length + 1) cap) (xs ++ [y]) := by
    unfold Own
    rw [List.length_append]
    exact hown'
  unfold Oper.wpIn
  refine ⟨?_, ?_⟩
  · simp [Oper.about, ho, resolve, Target.leads, Sem.run_pure]
  · rw [Oper.semAt_plain F _ _ (by rw [ho]; intro c hc'; cases hc')]
    simp [execOp, ho, resolve, invoke, builtin, hs, hx, hr, Result.andThen]
    exact h g cap w' HO' ((HB.alloc HB.size _).grown hg (by have := HB.size; simp; omega) (fun k hk => (HO.lt k hk).1)) (World.grownBy.trans (World.grownBy_alloc W _ _) hg) (hwh.imp (fun h => h.symm) (fun h => by simpa [Value.ownBlock] using h))
end
end Go.Proofs.YtinglbcafcjhfaaDoor
