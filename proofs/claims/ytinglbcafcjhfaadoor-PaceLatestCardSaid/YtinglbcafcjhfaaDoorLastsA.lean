/- How long a note takes: the contracts of pace.speech, pace.lasts, pace.Lasts. -/
import Derived.Test.YtinglbcafcjhfaaDoorNoteD
import Derived.Laws.RangeAny
import Derived.Laws.RangeString
namespace Go.Proofs.YtinglbcafcjhfaaDoor
open Go.RowKit
set_option linter.unusedVariables false
set_option linter.unusedSimpArgs false

structure Speech where
  (note letter : Int)
def Speech.Valid (v : Speech) : Prop := 0 ≤ v.note ∧ v.note ≤ 10000000 ∧ 0 ≤ v.letter ∧ v.letter ≤ 1000000
theorem pace_speech (v : Speech) (w : World) : Calls Tryd.prog 67 #[.agg #[.int .i64 v.note, .int .i64 v.letter]] w fun e w' => e = .returned (.bool (bo v.Valid)) ∧ Below w.heap.size w w' := by
  obtain ⟨a, b⟩ := v
  dsimp only
  go_enter Tryd.func67, Tryd.ntmps67
  go_wp2_with (go_at_call 62; refine (pace_within _ _ _ _).mono ?_; rintro e w' ⟨rfl, rfl⟩)
  all_goals
    go_ret
    refine ⟨ret_bo ?_, (by repeat (first | assumption | exact Below.refl _ _ | apply bel_alloc | apply bel_drew | apply bel_drewN | (refine bel_set ?_ (by first | assumption | omega | (simp; done) | (simp; omega)) _)))⟩
    go_light; simp only [inB_iff, inB_iff_false, Bool.not_eq_true, Bool.not_eq_true', Bool.not_eq_false', bne_iff_ne, bne_eq_false_iff_eq, beq_iff_eq, beq_eq_false_iff_ne, ne_eq, decide_eq_true_eq, decide_eq_false_iff_not, true_iff, false_iff, iff_true, iff_false, reduceCtorEq, Bool.and_eq_true, Bool.or_eq_true] at *
    simp only [Speech.Valid]
    omega
/-- What the first letters add. -/
def spent (note letter : Int) (l : List UInt8) : Int := l.foldl (fun s c => if c = 32 then s else s + letter) note
theorem spent_snoc (note letter : Int) (l : List UInt8) (c : UInt8) : spent note letter (l ++ [c]) = if c = 32 then spent note letter l else spent note letter l + letter := by simp [spent]
theorem spent_bound {letter : Int} (h0 : 0 ≤ letter) (h1 : letter ≤ 1000000) : ∀ (l : List UInt8) (note : Int), note ≤ spent note letter l ∧ spent note letter l ≤ note + 1000000 * l.length
  | [], note => by simp [spent]
  | c :: l, note => by
    have e : spent note letter (c :: l) = spent (if c = 32 then note else note + letter) letter l := by simp [spent]
    rw [e, List.length_cons]
    rcases Decidable.em (c = 32) with h | h
    · rw [if_pos h]
      have := spent_bound h0 h1 l note
      omega
    · rw [if_neg h]
      have := spent_bound h0 h1 l (note + letter)
      omega
def Ascii (l : List UInt8) : Prop := ∀ c, c ∈ l → c.toNat < 128
theorem Ascii.app {a b : List UInt8} (ha : Ascii a) (hb : Ascii b) : Ascii (a ++ b) := fun c hc => by
  rcases List.mem_append.1 hc with h | h
  · exact ha c h
  · exact hb c h
theorem decDigits_ascii (u : Nat) : Ascii (Lib.decDigits u) := by
  induction u using Nat.strongRecOn with
  | _ u ih =>
    rw [Lib.decDigits]
    split
    · intro c hc
      rw [List.mem_singleton] at hc
      subst hc
      simp
      omega
    · refine (ih (u / 10) (by omega)).app fun c hc => ?_
      rw [List.mem_singleton] at hc
      subst hc
      simp
      omega
theorem itoa_ascii_ (x : Int) : Ascii (Lib.itoa x) := by
  unfold Lib.itoa
  split
  · intro c hc
    rcases List.mem_cons.1 hc with h | h
    · subst h; decide
    · exact decDigits_ascii _ c h
  · exact decDigits_ascii _
theorem dc_ascii (x : Int) : (dc x).toNat < 128 := by
  unfold dc
  rw [List.getD_eq_getElem?_getD]
  cases h : (Lib.decDigits x.toNat)[0]? with
  | none => decide
  | some c => exact decDigits_ascii _ c (List.mem_of_getElem? h)
theorem dg_ascii (x : Int) : Ascii (dg x) := fun c hc => by
  rw [dg, List.mem_singleton] at hc
  subst hc
  exact dc_ascii x
theorem asciiB {l : List UInt8} (h : (l.all fun c => decide (c.toNat < 128)) = true) : Ascii l := fun c hc => by simpa using List.all_eq_true.1 h c hc
theorem textOf_ascii (n : Note) : Ascii (textOf n) := by
  unfold textOf
  repeat' split
  all_goals
    repeat' (first | exact dg_ascii _ | exact itoa_ascii_ _ | refine Ascii.app ?_ ?_ | (refine asciiB ?_; decide))
  all_goals
    intro c hc
    rw [List.eq_of_mem_replicate hc]
    decide
theorem decode_at (l : List UInt8) (h : Ascii l) (k : Nat) (c : UInt8) (hc : l[k]? = some c) : Utf8.decode ⟨l.toArray⟩ k = ((c.toNat : Nat), 1) ∧ k < (⟨l.toArray⟩ : ByteArray).size := by
  obtain ⟨hk, rfl⟩ := List.getElem?_eq_some_iff.1 hc
  have hs : k < (⟨l.toArray⟩ : ByteArray).size := by simpa [ByteArray.size] using hk
  refine ⟨?_, hs⟩
  rw [decode_ascii _ _ hs (h _ (List.getElem_mem hk))]
  rfl
theorem rd_one (n : Note) (w : World) (B : Nat) (hB : B = w.heap.size) : Rd 10 Note.enc (w.alloc (.cells n.cells 45)) (some ⟨B, 0, none⟩) 1 [n] := by
  subst hB
  refine ⟨rfl, by omega, fun i x hx => ⟨_, rfl, fun j v hv => ?_⟩⟩
  obtain ⟨hi, rfl⟩ := List.getElem?_eq_some_iff.1 hx
  obtain rfl : i = 0 := by simpa using hi
  rw [Nat.zero_mul, Nat.zero_add, add_of_zero, (Blk.new w 45 n.cells).cell j]
  have h2 : ((Note.enc n).map (Value.int .i64))[j]? = some (.int .i64 v) := by rw [List.getElem?_map, show ([n][0]) = n from rfl] at *; rw [hv]; rfl
  rw [← h2, ← Array.getElem?_toList]
  rfl
set_option maxRecDepth 100000 in
set_option maxHeartbeats 2000000 in
theorem pace_lasts (n : Note) (v : Speech) (w : World) (hn : n.Valid) (hv : v.Valid) (ht : Tab w) :
    Calls Tryd.prog 68 #[.agg n.cells, .agg #[.int .i64 v.note, .int .i64 v.letter]] w fun e w' => e = .returned (.tuple #[.int .i64 (spent v.note v.letter (textOf n)), .int .i64 0]) ∧ Below w.heap.size w w' := by
  obtain ⟨l, hl⟩ : ∃ l, textOf n = l := ⟨_, rfl⟩
  have hlen : l.length ≤ 40 := by rw [← hl]; exact textOf_length hn
  have ha : Ascii l := by rw [← hl]; exact textOf_ascii n
  have hw : writeOf [n] = l := by rw [← hl]; exact Lib.join_one _ _
  rw [hl]
  have HW := Lib.hid hw
  have HA := Lib.hid ha
  have HV := Lib.hid hn
  have HT := Lib.hid ht
  obtain ⟨v1, v2, v3, v4⟩ := hv
  obtain ⟨a, b⟩ := v
  dsimp only at *
  clear hl ha hw hn ht
  go_enter Tryd.func68, Tryd.ntmps68
  go_wp2_with (go_at_call 106; go_must ((refine (note_Write [n] _ _ _ _ (by exact rd_one n _ _ (by simp)) (by simp) (by intro x hx; rw [List.mem_singleton] at hx; subst hx; exact HV.out) (HT.out.below (by repeat (first | assumption | exact Below.refl _ _ | apply bel_alloc | apply bel_drew | apply bel_drewN | (refine bel_set ?_ (by first | assumption | omega | (simp; done) | (simp; omega)) _))))).mono ?_; rintro e w1 ⟨rfl, hw1⟩; rw [HW.out]; have CS : Blk w1 (w.heap.size + 1) 47 #[.int .i64 a, .int .i64 b] := ((Blk.new_at _ _ _ _ (by simp)).alloc _).below hw1; have HCS := Lib.hid CS; have s0 := CS.cell 0; have s1 := CS.cell 1; clear CS)))
  go_loopw [8] (fun v8 wr => ∃ k : Nat, k ≤ l.length ∧ v8 = .int .i64 (spent a b (l.take k)) ∧ wr = w1.iter ⟨l.toArray⟩ k) (fun _ wr => l.length - wr.iterPos w1.heap.size)
  case atStart => exact ⟨0, Nat.zero_le _, rfl, rfl⟩
  case round =>
    obtain ⟨k, hk, rfl, rfl⟩ := hrel
    have hsz : (⟨l.toArray⟩ : ByteArray).size = l.length := by simp [ByteArray.size]
    have HSZ := Lib.hid hsz
    clear hsz
    obtain ⟨bd1, bd2⟩ := spent_bound (letter := b) v3 v4 (l.take k) a
    have htl : (l.take k).length = k := by rw [List.length_take]; omega
    rw [htl] at bd2
    clear htl
    have CI2 : Blk (w1.iter ⟨l.toArray⟩ (k + 1)) (w.heap.size + 1) 47 #[.int .i64 a, .int .i64 b] := HCS.out.alloc _
    have i1 := CI2.cell 1
    clear CI2
    obtain ⟨sp, hsp⟩ : ∃ sp, spent a b (l.take k) = sp := ⟨_, rfl⟩
    rw [hsp] at bd1 bd2 ⊢
    have HSP := Lib.hid hsp
    clear hsp
    by_cases hp : k < l.length
    · obtain ⟨c, hc⟩ : ∃ c, l[k]? = some c := ⟨_, List.getElem?_eq_getElem hp⟩
      obtain ⟨hd, hs⟩ := decode_at l HA.out k c hc
      have hnx : ∀ ty, (Instr.next (.pointer (some ⟨w1.heap.size, 0, none⟩)) true ty).run Tryd.prog (w1.iter ⟨l.toArray⟩ k) = .ok (.tuple #[.bool true, .int .i64 k, .int .i32 (c.toNat : Nat)]) (w1.iter ⟨l.toArray⟩ (k + 1)) := fun ty => by rw [run_next_any w1 _ k ty hs, hd]
      have hst : Hid (spent a b (l.take (k + 1)) = if c = 32 then sp else sp + b) := Lib.hid (by rw [List.take_add_one, hc]; show spent a b (l.take k ++ [c]) = _; rw [spent_snoc, HSP.out])
      have h32 : (c = 32) ↔ (c.toNat = 32) := ⟨fun h => by rw [h]; rfl, fun h => UInt8.toNat_inj.1 h⟩
      have H32 := Lib.hid h32
      clear hc hd hs h32
      by_cases hz : (c.toNat : Int) = 32
      · have hb : (((c.toNat : Nat) : Int) != 32) = false := by simpa using hz
        have HZ := Lib.hid hz
        clear hz
        go_wp2
        go_roundw
        case rel => exact ⟨k + 1, by omega, by rw [hst.out, if_pos (H32.out.2 (by have := HZ.out; omega))], rfl⟩
        case measure => simp; omega
      · have hb : (((c.toNat : Nat) : Int) != 32) = true := by simpa using hz
        have HZ := Lib.hid hz
        clear hz
        go_wp2
        go_roundw
        case rel => exact ⟨k + 1, by omega, by rw [hst.out, if_neg (fun h => HZ.out (by have := H32.out.1 h; omega))], rfl⟩
        case measure => simp; omega
    · have hnx : ∀ ty, (Instr.next (.pointer (some ⟨w1.heap.size, 0, none⟩)) true ty).run Tryd.prog (w1.iter ⟨l.toArray⟩ k) = _ := fun ty => run_next_end w1 _ k ty (by rw [HSZ.out]; exact hp)
      have hk2 : k = l.length := by omega
      have HK := Lib.hid hk2
      clear hk2
      go_wp2
      go_ret2
      exact ⟨ret_int2 (by rw [← HSP.out, HK.out, List.take_length]) rfl, bel_then (by repeat (first | assumption | exact Below.refl _ _ | apply bel_alloc | apply bel_drew | apply bel_drewN | (refine bel_set ?_ (by first | assumption | omega | (simp; done) | (simp; omega)) _))) (bel_then hw1 (bel_alloc (Below.refl _ _) _))⟩
theorem pace_Lasts (n : Note) (v : Speech) (w : World) (hn : n.Valid) (hv : v.Valid) (ht : Tab w) :
    Calls Tryd.prog 25 #[.agg n.cells, .agg #[.int .i64 v.note, .int .i64 v.letter]] w fun e w' => e = .returned (.tuple #[.int .i64 (spent v.note v.letter (textOf n)), .int .i64 0]) ∧ Below w.heap.size w w' := by
  have hb : bo v.Valid = true := bo_true hv
  have HV := Lib.hid hv
  have HN := Lib.hid hn
  have HT := Lib.hid ht
  clear hn hv ht
  go_enter Tryd.func25, Tryd.ntmps25
  go_wp2_with (first
    | (go_at_call 67; go_must ((refine (pace_speech v _).mono ?_; rintro e w1 ⟨rfl, hw1⟩; have CS : Blk w1 (w.heap.size + 1) 47 #[.int .i64 v.note, .int .i64 v.letter] := (Blk.new_at _ _ _ _ (by simp)).below hw1; have CN : Blk w1 w.heap.size 45 n.cells := ((Blk.new w _ _).alloc _).below hw1; have s0 := CS.cell 0; have s1 := CS.cell 1; have n0 := CN.cell 0; have n1 := CN.cell 1; have n2 := CN.cell 2; have n3 := CN.cell 3; have n4 := CN.cell 4; have n5 := CN.cell 5; have n6 := CN.cell 6; have n7 := CN.cell 7; have n8 := CN.cell 8; have n9 := CN.cell 9; clear CS CN)))
    | (go_at_call 68; go_must ((refine (pace_lasts n v _ HN.out HV.out (HT.out.below (bel_then (by repeat (first | assumption | exact Below.refl _ _ | apply bel_alloc | apply bel_drew | apply bel_drewN | (refine bel_set ?_ (by first | assumption | omega | (simp; done) | (simp; omega)) _))) hw1))).mono ?_; rintro e w2 ⟨rfl, hw2⟩))))
  go_ret2
  exact ⟨rfl, bel_then (bel_then (by repeat (first | assumption | exact Below.refl _ _ | apply bel_alloc | apply bel_drew | apply bel_drewN | (refine bel_set ?_ (by first | assumption | omega | (simp; done) | (simp; omega)) _))) hw1) hw2⟩
end Go.Proofs.YtinglbcafcjhfaaDoor
