/- The contracts of note.listed and note.Write. How long a note takes: the contracts of pace.speech, pace.lasts, pace.Lasts. -/
import Derived.Test.YtinglbcafcjhfaaDoorNoteC
import Derived.Lib.ItoaLen
import Derived.Laws.RangeAny
import Derived.Laws.RangeString
namespace Go.Proofs.YtinglbcafcjhfaaDoor
open Go.RowKit
set_option linter.unusedVariables false
set_option linter.unusedSimpArgs false

theorem Rd.atNote {w : World} {A : Option Addr} {n i : Nat} {xs : List Note} (h : Rd 10 Note.enc w A n xs) {x : Note} (hx : xs[i]? = some x) : ∃ ad, A = some ad ∧ w.cell? (ad.add (i * 10)) = some (.int .i64 x.kind) ∧ w.cell? ⟨(ad.add (i * 10)).block, (ad.add (i * 10)).off + 1, none⟩ = some (.int .i64 x.turn) ∧ w.cell? ⟨(ad.add (i * 10)).block, (ad.add (i * 10)).off + 2, none⟩ = some (.int .i64 x.grade) ∧ w.cell? ⟨(ad.add (i * 10)).block, (ad.add (i * 10)).off + 3, none⟩ = some (.int .i64 x.long) ∧ w.cell? ⟨(ad.add (i * 10)).block, (ad.add (i * 10)).off + 4, none⟩ = some (.int .i64 x.change) ∧ w.cell? ⟨(ad.add (i * 10)).block, (ad.add (i * 10)).off + 5, none⟩ = some (.int .i64 x.to_) ∧ w.cell? ⟨(ad.add (i * 10)).block, (ad.add (i * 10)).off + 6, none⟩ = some (.int .i64 x.meters) ∧ w.cell? ⟨(ad.add (i * 10)).block, (ad.add (i * 10)).off + 7, none⟩ = some (.int .i64 x.size) ∧ w.cell? ⟨(ad.add (i * 10)).block, (ad.add (i * 10)).off + 8, none⟩ = some (.int .i64 x.way) ∧ w.cell? ⟨(ad.add (i * 10)).block, (ad.add (i * 10)).off + 9, none⟩ = some (.int .i64 x.arms) := by
  obtain ⟨ad, e, hc⟩ := h.2.2 i x hx
  have hf : ∀ j v, x.enc[j]? = some v → 0 < j → w.cell? ⟨(ad.add (i * 10)).block, (ad.add (i * 10)).off + j, none⟩ = some (.int .i64 v) := fun j v hv h0 => by rw [← add_field _ _ j h0]; exact hc j v hv
  exact ⟨ad, e, hc 0 _ rfl, hf 1 _ rfl (by omega), hf 2 _ rfl (by omega), hf 3 _ rfl (by omega), hf 4 _ rfl (by omega), hf 5 _ rfl (by omega), hf 6 _ rfl (by omega), hf 7 _ rfl (by omega), hf 8 _ rfl (by omega), hf 9 _ rfl (by omega)⟩

set_option maxRecDepth 100000 in
set_option maxHeartbeats 1000000 in
theorem index_note (K : FuncId) (q : Note → Bool) (xs : List Note) (A : Option Addr) (n c : Nat) (w : World) (h : Rd 10 Note.enc w A n xs)
    (hcf : ∀ a W, Sem.run Tryd.prog (callFunc K a) W = .ok (.enter K a) W)
    (hq : ∀ x w, Calls Tryd.prog K #[.agg (Note.cells x)] w fun e w' => e = .returned (.bool (q x)) ∧ Below w.heap.size w w') :
    Calls Tryd.prog 133 #[.slice A n c, .func (.func K) #[] #[]] w fun e w' => e = .returned (.int .i64 (firstAt q xs)) ∧ Below w.heap.size w w' := by
  have hm := h.2.1
  have HQ := Lib.hid hq
  have H := Lib.hid h
  clear h hq
  go_enter Tryd.func133, Tryd.ntmps133
  go_wp2
  go_loopw [8] (fun v8 wr => ∃ k : Nat, k ≤ n ∧ v8 = .int .i64 k ∧ Hid (∀ j y, j < k → xs[j]? = some y → q y = false) ∧ Below w.heap.size w wr) (fun v _ => n - (intOf v).toNat)
  case atStart => exact ⟨0, Nat.zero_le _, rfl, fun j y hj => by omega, Below.refl _ _⟩
  case round =>
    obtain ⟨k, hk, rfl, HP, HB⟩ := hrel
    by_cases hlt : k < n
    · obtain ⟨x, hx⟩ := H.out.get hlt
      have HX := Lib.hid hx
      clear hx
      obtain ⟨ad, e, x0, x1, x2, x3, x4, x5, x6, x7, x8, x9⟩ := (H.out.below HB).atNote HX.out
      cases e
      rcases hqx : q x
      all_goals
        go_wp2_with ((with_reducible refine (HQ.out x _).mono ?_); rintro e w1 ⟨rfl, hw1⟩)
      · go_roundw
        case rel => exact ⟨k + 1, by omega, by go_num, fun j y hj hy => by
          rcases Nat.lt_or_ge j k with hl | hl
          · exact HP.out j y hl hy
          · obtain rfl : j = k := by omega
            rw [HX.out] at hy
            cases hy
            exact hqx, bel_then HB hw1⟩
        case measure => simp [intOf]; omega
      · go_ret
        exact ⟨ret_int (firstAt_some HX.out hqx HP.out).symm, bel_then HB hw1⟩
    · obtain rfl : n = k := by omega
      go_wp2
      go_ret
      exact ⟨ret_int (firstAt_none (fun j y hj hy => HP.out j y (by have := H.out.1; omega) hy)).symm, HB⟩
theorem contains_note (K : FuncId) (q : Note → Bool) (xs : List Note) (A : Option Addr) (n c : Nat) (w : World) (h : Rd 10 Note.enc w A n xs)
    (hcf : ∀ a W, Sem.run Tryd.prog (callFunc K a) W = .ok (.enter K a) W)
    (hq : ∀ x w, Calls Tryd.prog K #[.agg (Note.cells x)] w fun e w' => e = .returned (.bool (q x)) ∧ Below w.heap.size w w') :
    Calls Tryd.prog 121 #[.slice A n c, .func (.func K) #[] #[]] w fun e w' => e = .returned (.bool (xs.any q)) ∧ Below w.heap.size w w' := by
  have HQ := Lib.hid hq
  have H := Lib.hid h
  have HC := Lib.hid hcf
  clear h hq hcf
  go_enter Tryd.func121, Tryd.ntmps121
  go_wp2_with (go_at_call 133; refine (index_note K q xs _ _ _ _ H.out HC.out HQ.out).mono ?_; rintro e w1 ⟨rfl, hw1⟩)
  go_ret
  refine ⟨ret_bool ?_, hw1⟩
  rw [Bool.eq_iff_iff, ← firstAt_ge]
  simp
theorem call_listed1 : ∀ a W, Sem.run Tryd.prog (callFunc 122 a) W = .ok (.enter 122 a) W := fun _ _ => by kernel_rfl
theorem note_listed1 (x : Note) (w : World) : Calls Tryd.prog 122 #[.agg x.cells] w fun e w' => e = .returned (.bool (!bo x.Valid)) ∧ Below w.heap.size w w' := by
  go_enter Tryd.func122, Tryd.ntmps122
  go_wp2_with (go_at_call 123; refine (note_Valid x _).mono ?_; rintro e w1 ⟨rfl, hw1⟩)
  go_ret
  exact ⟨rfl, bel_then (by repeat (first | assumption | exact Below.refl _ _ | apply bel_alloc | apply bel_drew | apply bel_drewN | (refine bel_set ?_ (by first | assumption | omega | (simp; done) | (simp; omega)) _))) hw1⟩
noncomputable def notesErr (l : List Note) : Int := if 2000 < l.length then 4 else if bo (∀ x, x ∈ l → x.Valid) = true then 0 else 2
theorem any_invalid (l : List Note) : (l.any fun x => !bo x.Valid) = !bo (∀ x, x ∈ l → x.Valid) := by
  rw [Bool.eq_iff_iff]
  simp only [List.any_eq_true, Bool.not_eq_true', bo_iff_false]
  constructor
  · rintro ⟨x, hx, hv⟩ h
    exact hv (h x hx)
  · intro h
    exact Classical.byContradiction fun hn => h fun x hx => Classical.byContradiction fun hv => hn ⟨x, hx, hv⟩
theorem note_listed (l : List Note) (A : Option Addr) (n c : Nat) (w : World) (h : Rd 10 Note.enc w A n l) :
    Calls Tryd.prog 116 #[.slice A n c] w fun e w' => e = .returned (.int .i64 (notesErr l)) ∧ Below w.heap.size w w' := by
  have hm := h.2.1
  have hn := h.1
  have H := Lib.hid h
  clear h
  obtain ⟨V, hV⟩ : ∃ V, notesErr l = V := ⟨_, rfl⟩
  rw [hV]
  by_cases hlong : 2000 < n
  · have hv : V = 4 := by rw [← hV]; unfold notesErr; rw [if_pos (by omega)]
    subst hv
    clear hV hn
    go_enter Tryd.func116, Tryd.ntmps116
    go_wp2
    go_ret
    exact ⟨rfl, Below.refl _ _⟩
  · have hv : V = if bo (∀ x, x ∈ l → x.Valid) = true then 0 else 2 := by rw [← hV]; unfold notesErr; rw [if_neg (by omega)]
    have HV := Lib.hid hv
    have HA := Lib.hid (any_invalid l)
    clear hV hv hn
    rcases hb : bo (∀ x, x ∈ l → x.Valid)
    · obtain rfl : V = 2 := by rw [HV.out, hb]; rfl
      have h1 : (l.any fun x => !bo x.Valid) = true := by rw [HA.out, hb]; rfl
      clear hb HV HA
      go_enter Tryd.func116, Tryd.ntmps116
      go_wp2_with (go_at_call 121; refine (contains_note _ (fun x => !bo x.Valid) l _ _ _ _ H.out call_listed1 (fun x w => note_listed1 x w)).mono ?_; rintro e w1 ⟨rfl, hw1⟩)
      go_ret
      exact ⟨rfl, hw1⟩
    · obtain rfl : V = 0 := by rw [HV.out, hb]; rfl
      have h1 : (l.any fun x => !bo x.Valid) = false := by rw [HA.out, hb]; rfl
      clear hb HV HA
      go_enter Tryd.func116, Tryd.ntmps116
      go_wp2_with (go_at_call 121; refine (contains_note _ (fun x => !bo x.Valid) l _ _ _ _ H.out call_listed1 (fun x w => note_listed1 x w)).mono ?_; rintro e w1 ⟨rfl, hw1⟩)
      go_ret
      exact ⟨rfl, hw1⟩

/-! ### A slice of strings that the call itself makes -/
def strs (xs : List (List UInt8)) : List Value := xs.map fun l => .string ⟨l.toArray⟩
theorem add_of_zero (g j : Nat) : (⟨g, 0, none⟩ : Addr).add j = ⟨g, j, none⟩ := by unfold Addr.add; split <;> simp_all
def OwnS (e : TypeId) (w : World) (base : Nat) (v : Value) (xs : List (List UInt8)) : Prop := w.ownsRow base e 1 v xs.length (strs xs)
section
variable {e : TypeId} {w w0 w1 : World} {base : Nat} {v : Value} {xs : List (List UInt8)}
theorem OwnS.nil : OwnS e w base (.slice none 0 0) [] := World.ownsRow_nil w base e 1
theorem OwnS.below (h : OwnS e w base v xs) (hb : Below w.heap.size w w1) : OwnS e w1 base v xs :=
  World.ownsRow.kept h (row := none) ⟨hb.os, hb.tape, hb.output, hb.size, fun i hi _ => hb.block i hi⟩ (by cases v.ownBlock <;> simp)
theorem OwnS.reads (h : OwnS e w base v xs) : (xs = [] ∧ v = .slice none 0 0) ∨ ∃ g c, v = .slice (some ⟨g, 0, none⟩) xs.length c ∧ xs.length ≤ c ∧ g < w.heap.size ∧ ∀ (j : Nat) x, xs[j]? = some x → w.cell? ⟨g, 0 + j, none⟩ = some (.string ⟨x.toArray⟩) := by
  rcases h.2 with ⟨rfl, h0⟩ | ⟨g, cap, cur, rfl, hb, hh, hc, _⟩
  · exact .inl ⟨List.eq_nil_of_length_eq_zero h0, rfl⟩
  · refine .inr ⟨g, cap, rfl, hc, lt_of_blk hh, fun j x hx => ?_⟩
    rw [Nat.zero_add]
    rw [← add_of_zero g j]
    exact World.ownsRow.cells h (g := g) rfl _ _ (by unfold strs; rw [List.getElem?_map, hx]; rfl)
variable {P : Program} {ops : Array Oper} {rest : List Oper} {o : Oper} {a : Act} {Q : Exit → Act → World → Prop}
theorem own_append_str (hgd : o.guard = none) (s x : Operand) (t : TypeId) (z : Value) (bytes : Nat)
    (ho : o.op = .call { callee := .builtin .append, args := #[s, x], argTypes := #[t, t] })
    (ht : P.underlying t = some (.slice e)) (hinfo : (P.info? e).map (fun i => (i.zero, i.size, i.bytes)) = some (some z, 1, bytes)) (hz : z.cells.size = 1) (hb0 : 0 < bytes)
    (y : List UInt8) (W : World) (HO : OwnS e W w0.heap.size v xs) (hs : a.eval s = v) (B : Nat) (hx : a.eval x = .slice (some ⟨B, 0, none⟩) 1 1) (hB : B = W.heap.size)
    (HB : Below w0.heap.size w0 W) (hl : (xs.length + 1) * bytes ≤ 140737488355328)
    (h : ∀ g cap w1, OwnS e w1 w0.heap.size (.slice (some ⟨g, 0, none⟩) (xs.length + 1) cap) (xs ++ [y]) → Below w0.heap.size w0 w1 → W.grownBy w1 v.ownBlock → wpList P ops Q rest (a.put o.dst (.slice (some ⟨g, 0, none⟩) (xs.length + 1) cap)) w1) :
    wpList P ops Q (o :: rest) a (W.alloc (.cells #[.string ⟨y.toArray⟩] e)) := by
  subst hB
  obtain ⟨i0, hi, hzz⟩ := Option.map_eq_some_iff.1 hinfo
  simp only [Prod.mk.injEq] at hzz
  obtain ⟨hz0, hz1, hz2⟩ := hzz
  have hlen : xs.length + 1 ≤ 140737488355328 := Nat.le_trans (Nat.le_mul_of_pos_right _ hb0) hl
  refine wpList_append_own_at (W.alloc (.cells #[.string ⟨y.toArray⟩] e)) hgd s x t ho w0.heap.size e i0 z 1 bytes ht hi hz0 hz1 hz2 hz (by omega) v xs.length _ hs (World.ownsRow.alloc HO _) ⟨W.heap.size, 0, none⟩ 1 1 (strs [y]) hx (by simp [strs])
    (by exact World.news_of_block (cs := #[.string ⟨y.toArray⟩]) (t := e) (fr := (0, 0)) (heap_alloc_new W _)) (by simp [strs, Value.oneCell']) (by simp only [maxLen]; omega) hl (by have := HB.size; simp; omega) ?_
  intro v1 w1 hown hg _ _
  have hown' : w1.ownsRow w0.heap.size e 1 v1 (xs.length + 1) (strs (xs ++ [y])) := by unfold strs at hown ⊢; rw [List.map_append]; exact hown
  obtain ⟨g, cap, rfl, _⟩ := hown'.form (by omega)
  have HO' : OwnS e w1 w0.heap.size (.slice (some ⟨g, 0, none⟩) (xs.length + 1) cap) (xs ++ [y]) := by
    unfold OwnS
    rw [List.length_append]
    exact hown'
  exact h g cap w1 HO' ((HB.alloc HB.size _).grown hg (by have := HB.size; simp; omega) (fun k hk => (World.ownsRow.lt HO k hk).1)) (World.grownBy.trans (World.grownBy_alloc W _ _) hg)
end
theorem info_str : (Tryd.prog.info? 9).map (fun i => (i.zero, i.size, i.bytes)) = some (some (.string ⟨#[]⟩), 1, 16) := by kernel_rfl
def texts (l : List Note) (k : Nat) : List (List UInt8) := (l.take k).map textOf
theorem texts_succ {l : List Note} {k : Nat} {x : Note} (h : l[k]? = some x) : texts l (k + 1) = texts l k ++ [textOf x] := by
  unfold texts
  rw [List.take_add_one, h]
  simp
theorem texts_length {l : List Note} {k : Nat} (h : k ≤ l.length) : (texts l k).length = k := by unfold texts; rw [List.length_map, List.length_take]; omega
theorem textOf_length {n : Note} (h : n.Valid) : (textOf n).length ≤ 40 := by
  unfold textOf
  split
  · simp only [dg]
    repeat' split
    all_goals simp
  split
  · rename_i h2
    have : 1 ≤ n.meters ∧ n.meters ≤ 9999 := by unfold Note.Valid at h; omega
    have := Lib.itoa_length_le n.meters (by omega) (by omega)
    omega
  split
  · simp
  split
  · simp
  split
  · split
    · simp
    split <;> simp
  split
  · rename_i h6
    have : n.size ≤ 3 := by unfold Note.Valid at h; omega
    rw [List.length_replicate]
    omega
  · simp [dg]
theorem lens_texts : ∀ (l : List Note), (∀ x, x ∈ l → x.Valid) → Lib.lens (l.map textOf) ≤ 40 * l.length
  | [], _ => by simp [Lib.lens]
  | x :: l, h => by
    have h1 := lens_texts l fun y hy => h y (List.mem_cons_of_mem _ hy)
    have h2 := textOf_length (h x (List.mem_cons_self ..))
    simp only [Lib.lens, List.map_cons, List.sum_cons, List.length_cons] at *
    omega
theorem join_texts (l : List Note) (h : ∀ x, x ∈ l → x.Valid) (hl : l.length ≤ 2000) : (Lib.join (l.map textOf) [32]).length ≤ 140737488355328 := by
  cases l with
  | nil => simp [Lib.join_nil]
  | cons x r =>
    have h1 := lens_texts _ h
    rw [List.map_cons] at *
    rw [Lib.join_length]
    simp at *
    omega
theorem join_own (xs : List (List UInt8)) (g cc m : Nat) (w : World) (hm : m = xs.length) (hcs : ∀ (j : Nat) x, xs[j]? = some x → w.cell? ⟨g, 0 + j, none⟩ = some (.string ⟨x.toArray⟩)) (hg : g < w.heap.size) (hcc : xs.length ≤ cc) (hl : (Lib.join xs [32]).length ≤ 140737488355328) (hs : m ≤ 2000) :
    Calls Tryd.prog 118 #[.slice (some ⟨g, 0, none⟩) m cc, .string ⟨#[32]⟩] w fun e w' => e = .returned (.string ⟨(Lib.join xs [32]).toArray⟩) ∧ Below w.heap.size w w' := by
  have e2 : (xs.map fun t => (⟨t.toArray⟩ : ByteArray)).map (·.data.toList) = xs := by rw [List.map_map]; exact (List.map_congr_left fun x _ => rfl).trans (List.map_id _)
  have e3 : (xs.map fun t => (⟨t.toArray⟩ : ByteArray)).length = xs.length := List.length_map _
  have h := Tryd.strings_Join g 0 cc (xs.map fun t => (⟨t.toArray⟩ : ByteArray)) ⟨#[32]⟩ w (fun j x hx => by (rw [List.getElem?_map] at hx; obtain ⟨y, hy, rfl⟩ := Option.map_eq_some_iff.1 hx; exact hcs j y hy)) hg (by omega) (by omega) (by rw [e2]; exact hl)
  rw [e2, e3, ← hm] at h
  exact h
def writeOf (l : List Note) : List UInt8 := Lib.join (l.map textOf) [32]
def WritePost (l : List Note) (w : World) (e : Ending) (w' : World) : Prop := e = .returned (.tuple #[.string ⟨(writeOf l).toArray⟩, .int .i64 0]) ∧ Below w.heap.size w w'
set_option maxRecDepth 100000 in
set_option maxHeartbeats 2000000 in
theorem note_Write (l : List Note) (A : Option Addr) (n c : Nat) (w : World) (h : Rd 10 Note.enc w A n l) (hl : l.length ≤ 2000) (hv : ∀ x, x ∈ l → x.Valid) (ht : Tab w) :
    Calls Tryd.prog 106 #[.slice A n c] w (WritePost l w) := by
  have hm : n ≤ 2000 := by rw [← h.1]; exact hl
  have he : notesErr l = 0 := by unfold notesErr; rw [if_neg (by omega), if_pos (bo_true hv)]
  have HE := Lib.hid he
  have H := Lib.hid h
  have HV := Lib.hid hv
  have HT := Lib.hid ht
  have HL := Lib.hid hl
  clear h hv ht he hl
  go_enter Tryd.func106, Tryd.ntmps106
  go_wp2_with (go_at_call 116; refine (note_listed l _ _ _ _ H.out).mono ?_; rintro e w1 ⟨rfl, hw1⟩; rw [HE.out])
  go_loopw [5, 15] (fun v5 v15 wr => ∃ (k : Nat) (v : Value), k ≤ n ∧ v15 = .int .i64 k ∧ v5 = v ∧ Hid (OwnS 9 wr w.heap.size v (texts l k)) ∧ Below w.heap.size w wr) (fun _ i _ => n - (intOf i).toNat)
  case atStart => exact ⟨0, _, Nat.zero_le _, rfl, rfl, Lib.hid OwnS.nil, hw1⟩
  case round =>
    obtain ⟨k, v, hk, rfl, rfl, HO, HB⟩ := hrel
    have hkl : k ≤ l.length := by have := H.out.1; omega
    have HKL := Lib.hid (texts_length hkl)
    by_cases hlt : k < n
    · obtain ⟨x, hx⟩ := H.out.get hlt
      have HX := Lib.hid hx
      clear hx
      obtain ⟨ad, e, x0, x1, x2, x3, x4, x5, x6, x7, x8, x9⟩ := (H.out.below HB).atNote HX.out
      cases e
      go_wp2_with (first
        | (go_at_call 117; refine (note_text x _ (HV.out x (List.mem_of_getElem? HX.out)) (HT.out.below (by repeat (first | assumption | exact Below.refl _ _ | apply bel_alloc | apply bel_drew | apply bel_drewN | (refine bel_set ?_ (by first | assumption | omega | (simp; done) | (simp; omega)) _))))).mono ?_; rintro e w2 ⟨rfl, hw2⟩)
        | (at_builtin; go_must (refine own_append_str rfl _ _ 118 (.string ⟨#[]⟩) 16 rfl Tryd.underlying118 info_str rfl (by decide) (textOf x) w2 (w0 := w) (xs := texts l k) (HO.out.below (bel_then (bel_alloc (Below.refl _ _) _) hw2)) rfl _ rfl (by simp) (bel_then (by repeat (first | assumption | exact Below.refl _ _ | apply bel_alloc | apply bel_drew | apply bel_drewN | (refine bel_set ?_ (by first | assumption | omega | (simp; done) | (simp; omega)) _))) hw2) (by rw [HKL.out]; omega) ?_; intro g cap w3 hown hb3 hg3)))
      rw [HKL.out] at *
      go_roundw
      case rel => exact ⟨k + 1, _, by omega, by go_num, rfl, Lib.hid (by rw [texts_succ HX.out]; exact hown), hb3⟩
      case measure => simp [intOf]; omega
    · obtain rfl : n = k := by omega
      have hall : texts l n = l.map textOf := by unfold texts; rw [List.take_of_length_le (by have := H.out.1; omega)]
      have HA := Lib.hid hall
      have HN := Lib.hid H.out.1
      clear hall
      rcases HO.out.reads with ⟨h0, rfl⟩ | ⟨g, cc, rfl, hcc, hg, hcs⟩
      · have H0 := Lib.hid h0
        clear h0
        go_wp2_with (go_at_call 118; refine (Tryd.strings_Join_none _ _ _ _).mono ?_; rintro e w' ⟨rfl, rfl⟩)
        go_ret2
        refine ⟨?_, HB⟩
        have e1 := HA.out
        rw [H0.out] at e1
        simp [writeOf, ← e1, Lib.join_nil]
      · have HC := Lib.hid hcs
        clear hcs
        go_wp2_with (go_at_call 118; go_must (((with_reducible refine (join_own (texts l n) g cc _ _ rfl HC.out hg hcc (by have := HA.out; rw [this]; exact join_texts l HV.out HL.out) (by have := HKL.out; omega)).mono ?_); rintro e w' ⟨rfl, hw'⟩)))
        rw [HA.out]
        go_ret2
        exact ⟨rfl, bel_then HB hw'⟩
end Go.Proofs.YtinglbcafcjhfaaDoor

namespace Go.Proofs.YtinglbcafcjhfaaDoor
open Go.RowKit
set_option linter.unusedVariables false
set_option linter.unusedSimpArgs false

structure Speech where
  (note letter : Int)
def Speech.Valid (v : Speech) : Prop := 0 ≤ v.note ∧ v.note ≤ 10000000 ∧ 0 ≤ v.letter ∧ v.letter ≤ 1000000
theorem pace_speech (v : Speech) (w : World) : Calls Tryd.prog 67 #[.agg #[.int .i64 v.note, .int .i64 v.letter]] w fun e w' => e = .returned (.bool (bo v.Valid)) ∧ Below w.heap.size w w' := by
  obtain ⟨a, b⟩ := v
  dsimp only
  go_enter Tryd.func67, Tryd.ntmps67
  go_wp2_with (go_at_call 62; refine (pace_within _ _ _ _).mono ?_; rintro e w' ⟨rfl, rfl⟩)
  all_goals
    go_ret
    refine ⟨ret_bo ?_, (by repeat (first | assumption | exact Below.refl _ _ | apply bel_alloc | apply bel_drew | apply bel_drewN | (refine bel_set ?_ (by first | assumption | omega | (simp; done) | (simp; omega)) _)))⟩
    go_light; simp only [inB_iff, inB_iff_false, Bool.not_eq_true, Bool.not_eq_true', Bool.not_eq_false', bne_iff_ne, bne_eq_false_iff_eq, beq_iff_eq, beq_eq_false_iff_ne, ne_eq, decide_eq_true_eq, decide_eq_false_iff_not, true_iff, false_iff, iff_true, iff_false, reduceCtorEq, Bool.and_eq_true, Bool.or_eq_true] at *
    simp only [Speech.Valid]
    omega
/-- What the first letters add. -/
def spent (note letter : Int) (l : List UInt8) : Int := l.foldl (fun s c => if c = 32 then s else s + letter) note
theorem spent_snoc (note letter : Int) (l : List UInt8) (c : UInt8) : spent note letter (l ++ [c]) = if c = 32 then spent note letter l else spent note letter l + letter := by simp [spent]
theorem spent_bound {letter : Int} (h0 : 0 ≤ letter) (h1 : letter ≤ 1000000) : ∀ (l : List UInt8) (note : Int), note ≤ spent note letter l ∧ spent note letter l ≤ note + 1000000 * l.length
  | [], note => by simp [spent]
  | c :: l, note => by
    have e : spent note letter (c :: l) = spent (if c = 32 then note else note + letter) letter l := by simp [spent]
    rw [e, List.length_cons]
    rcases Decidable.em (c = 32) with h | h
    · rw [if_pos h]
      have := spent_bound h0 h1 l note
      omega
    · rw [if_neg h]
      have := spent_bound h0 h1 l (note + letter)
      omega
def Ascii (l : List UInt8) : Prop := ∀ c, c ∈ l → c.toNat < 128
theorem Ascii.app {a b : List UInt8} (ha : Ascii a) (hb : Ascii b) : Ascii (a ++ b) := fun c hc => by
  rcases List.mem_append.1 hc with h | h
  · exact ha c h
  · exact hb c h
theorem decDigits_ascii (u : Nat) : Ascii (Lib.decDigits u) := by
  induction u using Nat.strongRecOn with
  | _ u ih =>
    rw [Lib.decDigits]
    split
    · intro c hc
      rw [List.mem_singleton] at hc
      subst hc
      simp
      omega
    · refine (ih (u / 10) (by omega)).app fun c hc => ?_
      rw [List.mem_singleton] at hc
      subst hc
      simp
      omega
theorem itoa_ascii_ (x : Int) : Ascii (Lib.itoa x) := by
  unfold Lib.itoa
  split
  · intro c hc
    rcases List.mem_cons.1 hc with h | h
    · subst h; decide
    · exact decDigits_ascii _ c h
  · exact decDigits_ascii _
theorem dc_ascii (x : Int) : (dc x).toNat < 128 := by
  unfold dc
  rw [List.getD_eq_getElem?_getD]
  cases h : (Lib.decDigits x.toNat)[0]? with
  | none => decide
  | some c => exact decDigits_ascii _ c (List.mem_of_getElem? h)
theorem dg_ascii (x : Int) : Ascii (dg x) := fun c hc => by
  rw [dg, List.mem_singleton] at hc
  subst hc
  exact dc_ascii x
theorem asciiB {l : List UInt8} (h : (l.all fun c => decide (c.toNat < 128)) = true) : Ascii l := fun c hc => by simpa using List.all_eq_true.1 h c hc
theorem textOf_ascii (n : Note) : Ascii (textOf n) := by
  unfold textOf
  repeat' split
  all_goals
    repeat' (first | exact dg_ascii _ | exact itoa_ascii_ _ | refine Ascii.app ?_ ?_ | (refine asciiB ?_; decide))
  all_goals
    intro c hc
    rw [List.eq_of_mem_replicate hc]
    decide
theorem decode_at (l : List UInt8) (h : Ascii l) (k : Nat) (c : UInt8) (hc : l[k]? = some c) : Utf8.decode ⟨l.toArray⟩ k = ((c.toNat : Nat), 1) ∧ k < (⟨l.toArray⟩ : ByteArray).size := by
  obtain ⟨hk, rfl⟩ := List.getElem?_eq_some_iff.1 hc
  have hs : k < (⟨l.toArray⟩ : ByteArray).size := by simpa [ByteArray.size] using hk
  refine ⟨?_, hs⟩
  rw [decode_ascii _ _ hs (h _ (List.getElem_mem hk))]
  rfl
theorem rd_one (n : Note) (w : World) (B : Nat) (hB : B = w.heap.size) : Rd 10 Note.enc (w.alloc (.cells n.cells 45)) (some ⟨B, 0, none⟩) 1 [n] := by
  subst hB
  refine ⟨rfl, by omega, fun i x hx => ⟨_, rfl, fun j v hv => ?_⟩⟩
  obtain ⟨hi, rfl⟩ := List.getElem?_eq_some_iff.1 hx
  obtain rfl : i = 0 := by simpa using hi
  rw [Nat.zero_mul, Nat.zero_add, add_of_zero, (Blk.new w 45 n.cells).cell j]
  have h2 : ((Note.enc n).map (Value.int .i64))[j]? = some (.int .i64 v) := by rw [List.getElem?_map, show ([n][0]) = n from rfl] at *; rw [hv]; rfl
  rw [← h2, ← Array.getElem?_toList]
  rfl
set_option maxRecDepth 100000 in
set_option maxHeartbeats 2000000 in
theorem pace_lasts (n : Note) (v : Speech) (w : World) (hn : n.Valid) (hv : v.Valid) (ht : Tab w) :
    Calls Tryd.prog 68 #[.agg n.cells, .agg #[.int .i64 v.note, .int .i64 v.letter]] w fun e w' => e = .returned (.tuple #[.int .i64 (spent v.note v.letter (textOf n)), .int .i64 0]) ∧ Below w.heap.size w w' := by
  obtain ⟨l, hl⟩ : ∃ l, textOf n = l := ⟨_, rfl⟩
  have hlen : l.length ≤ 40 := by rw [← hl]; exact textOf_length hn
  have ha : Ascii l := by rw [← hl]; exact textOf_ascii n
  have hw : writeOf [n] = l := by rw [← hl]; exact Lib.join_one _ _
  rw [hl]
  have HW := Lib.hid hw
  have HA := Lib.hid ha
  have HV := Lib.hid hn
  have HT := Lib.hid ht
  obtain ⟨v1, v2, v3, v4⟩ := hv
  obtain ⟨a, b⟩ := v
  dsimp only at *
  clear hl ha hw hn ht
  go_enter Tryd.func68, Tryd.ntmps68
  go_wp2_with (go_at_call 106; go_must ((refine (note_Write [n] _ _ _ _ (by exact rd_one n _ _ (by simp)) (by simp) (by intro x hx; rw [List.mem_singleton] at hx; subst hx; exact HV.out) (HT.out.below (by repeat (first | assumption | exact Below.refl _ _ | apply bel_alloc | apply bel_drew | apply bel_drewN | (refine bel_set ?_ (by first | assumption | omega | (simp; done) | (simp; omega)) _))))).mono ?_; rintro e w1 ⟨rfl, hw1⟩; rw [HW.out]; have CS : Blk w1 (w.heap.size + 1) 47 #[.int .i64 a, .int .i64 b] := ((Blk.new_at _ _ _ _ (by simp)).alloc _).below hw1; have HCS := Lib.hid CS; have s0 := CS.cell 0; have s1 := CS.cell 1; clear CS)))
  go_loopw [8] (fun v8 wr => ∃ k : Nat, k ≤ l.length ∧ v8 = .int .i64 (spent a b (l.take k)) ∧ wr = w1.iter ⟨l.toArray⟩ k) (fun _ wr => l.length - wr.iterPos w1.heap.size)
  case atStart => exact ⟨0, Nat.zero_le _, rfl, rfl⟩
  case round =>
    obtain ⟨k, hk, rfl, rfl⟩ := hrel
    have hsz : (⟨l.toArray⟩ : ByteArray).size = l.length := by simp [ByteArray.size]
    have HSZ := Lib.hid hsz
    clear hsz
    obtain ⟨bd1, bd2⟩ := spent_bound (letter := b) v3 v4 (l.take k) a
    have htl : (l.take k).length = k := by rw [List.length_take]; omega
    rw [htl] at bd2
    clear htl
    have CI2 : Blk (w1.iter ⟨l.toArray⟩ (k + 1)) (w.heap.size + 1) 47 #[.int .i64 a, .int .i64 b] := HCS.out.alloc _
    have i1 := CI2.cell 1
    clear CI2
    obtain ⟨sp, hsp⟩ : ∃ sp, spent a b (l.take k) = sp := ⟨_, rfl⟩
    rw [hsp] at bd1 bd2 ⊢
    have HSP := Lib.hid hsp
    clear hsp
    by_cases hp : k < l.length
    · obtain ⟨c, hc⟩ : ∃ c, l[k]? = some c := ⟨_, List.getElem?_eq_getElem hp⟩
      obtain ⟨hd, hs⟩ := decode_at l HA.out k c hc
      have hnx : ∀ ty, (Instr.next (.pointer (some ⟨w1.heap.size, 0, none⟩)) true ty).run Tryd.prog (w1.iter ⟨l.toArray⟩ k) = .ok (.tuple #[.bool true, .int .i64 k, .int .i32 (c.toNat : Nat)]) (w1.iter ⟨l.toArray⟩ (k + 1)) := fun ty => by rw [run_next_any w1 _ k ty hs, hd]
      have hst : Hid (spent a b (l.take (k + 1)) = if c = 32 then sp else sp + b) := Lib.hid (by rw [List.take_add_one, hc]; show spent a b (l.take k ++ [c]) = _; rw [spent_snoc, HSP.out])
      have h32 : (c = 32) ↔ (c.toNat = 32) := ⟨fun h => by rw [h]; rfl, fun h => UInt8.toNat_inj.1 h⟩
      have H32 := Lib.hid h32
      clear hc hd hs h32
      by_cases hz : (c.toNat : Int) = 32
      · have hb : (((c.toNat : Nat) : Int) != 32) = false := by simpa using hz
        have HZ := Lib.hid hz
        clear hz
        go_wp2
        go_roundw
        case rel => exact ⟨k + 1, by omega, by rw [hst.out, if_pos (H32.out.2 (by have := HZ.out; omega))], rfl⟩
        case measure => simp; omega
      · have hb : (((c.toNat : Nat) : Int) != 32) = true := by simpa using hz
        have HZ := Lib.hid hz
        clear hz
        go_wp2
        go_roundw
        case rel => exact ⟨k + 1, by omega, by rw [hst.out, if_neg (fun h => HZ.out (by have := H32.out.1 h; omega))], rfl⟩
        case measure => simp; omega
    · have hnx : ∀ ty, (Instr.next (.pointer (some ⟨w1.heap.size, 0, none⟩)) true ty).run Tryd.prog (w1.iter ⟨l.toArray⟩ k) = _ := fun ty => run_next_end w1 _ k ty (by rw [HSZ.out]; exact hp)
      have hk2 : k = l.length := by omega
      have HK := Lib.hid hk2
      clear hk2
      go_wp2
      go_ret2
      exact ⟨ret_int2 (by rw [← HSP.out, HK.out, List.take_length]) rfl, bel_then (by repeat (first | assumption | exact Below.refl _ _ | apply bel_alloc | apply bel_drew | apply bel_drewN | (refine bel_set ?_ (by first | assumption | omega | (simp; done) | (simp; omega)) _))) (bel_then hw1 (bel_alloc (Below.refl _ _) _))⟩
theorem pace_Lasts (n : Note) (v : Speech) (w : World) (hn : n.Valid) (hv : v.Valid) (ht : Tab w) :
    Calls Tryd.prog 25 #[.agg n.cells, .agg #[.int .i64 v.note, .int .i64 v.letter]] w fun e w' => e = .returned (.tuple #[.int .i64 (spent v.note v.letter (textOf n)), .int .i64 0]) ∧ Below w.heap.size w w' := by
  have hb : bo v.Valid = true := bo_true hv
  have HV := Lib.hid hv
  have HN := Lib.hid hn
  have HT := Lib.hid ht
  clear hn hv ht
  go_enter Tryd.func25, Tryd.ntmps25
  go_wp2_with (first
    | (go_at_call 67; go_must ((refine (pace_speech v _).mono ?_; rintro e w1 ⟨rfl, hw1⟩; have CS : Blk w1 (w.heap.size + 1) 47 #[.int .i64 v.note, .int .i64 v.letter] := (Blk.new_at _ _ _ _ (by simp)).below hw1; have CN : Blk w1 w.heap.size 45 n.cells := ((Blk.new w _ _).alloc _).below hw1; have s0 := CS.cell 0; have s1 := CS.cell 1; have n0 := CN.cell 0; have n1 := CN.cell 1; have n2 := CN.cell 2; have n3 := CN.cell 3; have n4 := CN.cell 4; have n5 := CN.cell 5; have n6 := CN.cell 6; have n7 := CN.cell 7; have n8 := CN.cell 8; have n9 := CN.cell 9; clear CS CN)))
    | (go_at_call 68; go_must ((refine (pace_lasts n v _ HN.out HV.out (HT.out.below (bel_then (by repeat (first | assumption | exact Below.refl _ _ | apply bel_alloc | apply bel_drew | apply bel_drewN | (refine bel_set ?_ (by first | assumption | omega | (simp; done) | (simp; omega)) _))) hw1))).mono ?_; rintro e w2 ⟨rfl, hw2⟩))))
  go_ret2
  exact ⟨rfl, bel_then (bel_then (by repeat (first | assumption | exact Below.refl _ _ | apply bel_alloc | apply bel_drew | apply bel_drewN | (refine bel_set ?_ (by first | assumption | omega | (simp; done) | (simp; omega)) _))) hw1) hw2⟩
end Go.Proofs.YtinglbcafcjhfaaDoor
