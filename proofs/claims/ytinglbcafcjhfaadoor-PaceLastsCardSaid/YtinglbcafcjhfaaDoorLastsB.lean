/- The reference of notes' texts and of how long they take; pace.Lasts where an argument is not as defined. -/
import Derived.Test.YtinglbcafcjhfaaDoorLastsA
import Derived.Test.YtinglbcafcjhfaaDoorNoteB
import Derived.Test.YtinglbcafcjhfaaDoorRefB
namespace Go.Proofs.YtinglbcafcjhfaaDoor
open Go.RowKit
set_option linter.unusedVariables false
set_option linter.unusedSimpArgs false

theorem ref3_Speech (v : Speech) (w : World) : Calls Tryd.prog 27 #[.agg #[.int .i64 v.note, .int .i64 v.letter]] w fun e w' => e = .returned (.bool (bo v.Valid)) ∧ Below w.heap.size w w' := by
  obtain ⟨a, b⟩ := v
  dsimp only
  go_enter Tryd.func27, Tryd.ntmps27
  go_wp2_with (go_at_call 65; refine (ref3_in _ _ _ _).mono ?_; rintro e w' ⟨rfl, rfl⟩)
  all_goals
    go_ret
    refine ⟨ret_bo ?_, (by repeat (first | assumption | exact Below.refl _ _ | apply bel_alloc | apply bel_drew | apply bel_drewN | (refine bel_set ?_ (by first | assumption | omega | (simp; done) | (simp; omega)) _)))⟩
    go_light; simp only [inB_iff, inB_iff_false, Bool.not_eq_true, Bool.not_eq_true', Bool.not_eq_false', bne_iff_ne, bne_eq_false_iff_eq, beq_iff_eq, beq_eq_false_iff_ne, ne_eq, decide_eq_true_eq, decide_eq_false_iff_not, true_iff, false_iff, iff_true, iff_false, reduceCtorEq, Bool.and_eq_true, Bool.or_eq_true] at *
    simp only [Speech.Valid]
    omega
theorem note_Write_no (n : Note) (A : Option Addr) (m c : Nat) (w : World) (h : Rd 10 Note.enc w A m [n]) (hv : ¬n.Valid) :
    Calls Tryd.prog 106 #[.slice A m c] w fun e w' => e = .returned (.tuple #[.string ⟨#[]⟩, .int .i64 2]) ∧ Below w.heap.size w w' := by
  have he : notesErr [n] = 2 := by unfold notesErr; rw [if_neg (by simp), if_neg (by rw [bo_iff]; intro hh; exact hv (hh n (by simp)))]
  have HE := Lib.hid he
  have H := Lib.hid h
  clear h hv he
  go_enter Tryd.func106, Tryd.ntmps106
  go_wp2_with (go_at_call 116; refine (note_listed [n] _ _ _ _ H.out).mono ?_; rintro e w1 ⟨rfl, hw1⟩; rw [HE.out])
  go_ret2
  exact ⟨rfl, hw1⟩
theorem pace_lasts_no (n : Note) (a b : Int) (w : World) (hv : ¬n.Valid) :
    Calls Tryd.prog 68 #[.agg n.cells, .agg #[.int .i64 a, .int .i64 b]] w fun e w' => e = .returned (.tuple #[.int .i64 0, .int .i64 2]) ∧ Below w.heap.size w w' := by
  have HV := Lib.hid hv
  clear hv
  go_enter Tryd.func68, Tryd.ntmps68
  go_wp2_with (go_at_call 106; go_must ((refine (note_Write_no n _ _ _ _ (by exact rd_one n _ _ (by simp)) HV.out).mono ?_; rintro e w1 ⟨rfl, hw1⟩)))
  go_ret2
  exact ⟨rfl, bel_then (by repeat (first | assumption | exact Below.refl _ _ | apply bel_alloc | apply bel_drew | apply bel_drewN | (refine bel_set ?_ (by first | assumption | omega | (simp; done) | (simp; omega)) _))) hw1⟩
theorem pace_Lasts_no (n : Note) (v : Speech) (w : World) (hno : ¬(n.Valid ∧ v.Valid)) :
    Calls Tryd.prog 25 #[.agg n.cells, .agg #[.int .i64 v.note, .int .i64 v.letter]] w fun e w' => e = .returned (.tuple #[.int .i64 0, .int .i64 2]) ∧ Below w.heap.size w w' := by
  by_cases hs : v.Valid
  · have hb : bo v.Valid = true := bo_true hs
    have HN := Lib.hid (show ¬n.Valid from fun h => hno ⟨h, hs⟩)
    clear hno hs
    go_enter Tryd.func25, Tryd.ntmps25
    go_wp2_with (first
      | (go_at_call 67; go_must ((refine (pace_speech v _).mono ?_; rintro e w1 ⟨rfl, hw1⟩; have CS : Blk w1 (w.heap.size + 1) 47 #[.int .i64 v.note, .int .i64 v.letter] := (Blk.new_at _ _ _ _ (by simp)).below hw1; have CN : Blk w1 w.heap.size 45 n.cells := ((Blk.new w _ _).alloc _).below hw1; have s0 := CS.cell 0; have s1 := CS.cell 1; have n0 := CN.cell 0; have n1 := CN.cell 1; have n2 := CN.cell 2; have n3 := CN.cell 3; have n4 := CN.cell 4; have n5 := CN.cell 5; have n6 := CN.cell 6; have n7 := CN.cell 7; have n8 := CN.cell 8; have n9 := CN.cell 9; clear CS CN)))
      | (go_at_call 68; go_must ((refine (pace_lasts_no n _ _ _ HN.out).mono ?_; rintro e w2 ⟨rfl, hw2⟩))))
    go_ret2
    exact ⟨rfl, bel_then (bel_then (by repeat (first | assumption | exact Below.refl _ _ | apply bel_alloc | apply bel_drew | apply bel_drewN | (refine bel_set ?_ (by first | assumption | omega | (simp; done) | (simp; omega)) _))) hw1) hw2⟩
  · have hb : bo v.Valid = false := bo_false hs
    clear hno hs
    go_enter Tryd.func25, Tryd.ntmps25
    go_wp2_with (go_at_call 67; go_must ((refine (pace_speech v _).mono ?_; rintro e w1 ⟨rfl, hw1⟩)))
    go_ret2
    exact ⟨rfl, bel_then (by repeat (first | assumption | exact Below.refl _ _ | apply bel_alloc | apply bel_drew | apply bel_drewN | (refine bel_set ?_ (by first | assumption | omega | (simp; done) | (simp; omega)) _))) hw1⟩
set_option maxRecDepth 100000 in
set_option maxHeartbeats 4000000 in
theorem ref2_Text (n : Note) (w : World) (hv : n.Valid) (ht : Tab w) : Calls Tryd.prog 29 #[.agg n.cells] w fun e w' => e = .returned (.string ⟨(textOf n).toArray⟩) ∧ Below w.heap.size w w' := by
  obtain ⟨k, a, b, c, d, f, g, h, i, j⟩ := n
  have HT := Lib.hid ht
  clear ht
  dsimp only [Note.cells]
  obtain ⟨V, hV⟩ : ∃ V, textOf ⟨k, a, b, c, d, f, g, h, i, j⟩ = V := ⟨_, rfl⟩
  rw [hV]
  have HV := Lib.hid hV
  clear hV
  rcases hv with ⟨h1, ha, hb, hb', hc, hc', hd, hd', hf0, hfm, hf1, hg, hh, hi, hj⟩ | ⟨h1, hm, hm', hr, hh, hi, hj⟩ | ⟨h1, hr, hg, hh, hi, hj⟩ | ⟨h1, hs, hs', hr, hg, hi, hj⟩ | ⟨h1, hs, hs', hw, hw', hr, hg, hh⟩
  · dsimp only at *
    subst h1
    obtain rfl | rfl | rfl : c = -1 ∨ c = 0 ∨ c = 1 := by omega
    all_goals
      rcases ha with rfl | rfl
      all_goals
        obtain rfl | rfl | rfl : d = -1 ∨ d = 0 ∨ d = 1 := by omega
        · obtain ⟨q1, q2⟩ : 1 ≤ f ∧ f ≤ 9 := by have := hfm rfl; omega
          clear hf0 hfm hf1 hg hh hi hj hc hc' hd hd'
          go_enter Tryd.func29, Tryd.ntmps29
          go_wp2_with (go_at_call 70; (with_reducible refine (itoa_dg _ _ (by omega) (by omega)).mono ?_); rintro e w' ⟨rfl, rfl⟩)
          go_ret
          exact ⟨ret_str (by rw [← HV.out]; exact ByteArray.ext (by simp [textOf, dg])), (by repeat (first | assumption | exact Below.refl _ _ | apply bel_alloc | apply bel_drew | apply bel_drewN | (refine bel_set ?_ (by first | assumption | omega | (simp; done) | (simp; omega)) _)))⟩
        · clear hf0 hfm hf1 hg hh hi hj hc hc' hd hd'
          go_enter Tryd.func29, Tryd.ntmps29
          go_wp2_with (go_at_call 70; (with_reducible refine (itoa_dg _ _ (by omega) (by omega)).mono ?_); rintro e w' ⟨rfl, rfl⟩)
          go_ret
          exact ⟨ret_str (by rw [← HV.out]; exact ByteArray.ext (by simp [textOf, dg])), (by repeat (first | assumption | exact Below.refl _ _ | apply bel_alloc | apply bel_drew | apply bel_drewN | (refine bel_set ?_ (by first | assumption | omega | (simp; done) | (simp; omega)) _)))⟩
        · obtain ⟨q1, q2⟩ : 1 ≤ f ∧ f ≤ 9 := by have := hf1 rfl; omega
          clear hf0 hfm hf1 hg hh hi hj hc hc' hd hd'
          go_enter Tryd.func29, Tryd.ntmps29
          go_wp2_with (go_at_call 70; (with_reducible refine (itoa_dg _ _ (by omega) (by omega)).mono ?_); rintro e w' ⟨rfl, rfl⟩)
          go_ret
          exact ⟨ret_str (by rw [← HV.out]; exact ByteArray.ext (by simp [textOf, dg])), (by repeat (first | assumption | exact Below.refl _ _ | apply bel_alloc | apply bel_drew | apply bel_drewN | (refine bel_set ?_ (by first | assumption | omega | (simp; done) | (simp; omega)) _)))⟩
  · dsimp only at *
    subst h1
    clear hr hh hi hj
    go_enter Tryd.func29, Tryd.ntmps29
    go_wp2_with (go_at_call 70; go_must ((refine (Tryd.strconv_Itoa g (by omega) (by omega) _ (HT.out.below (by repeat (first | assumption | exact Below.refl _ _ | apply bel_alloc | apply bel_drew | apply bel_drewN | (refine bel_set ?_ (by first | assumption | omega | (simp; done) | (simp; omega)) _))))).mono ?_; rintro e w' ⟨rfl, m, os, rfl⟩)))
    go_ret
    exact ⟨ret_str (by rw [← HV.out]; exact ByteArray.ext (by simp [textOf])), bel_then (by repeat (first | assumption | exact Below.refl _ _ | apply bel_alloc | apply bel_drew | apply bel_drewN | (refine bel_set ?_ (by first | assumption | omega | (simp; done) | (simp; omega)) _))) (bel_grow _ _ _)⟩
  · dsimp only at *
    clear hr hg hh hi hj
    rcases h1 with rfl | rfl
    all_goals
      go_enter Tryd.func29, Tryd.ntmps29
      go_wp2
      go_ret
      exact ⟨ret_str (by rw [← HV.out]; exact ByteArray.ext (by simp [textOf, dg])), (by repeat (first | assumption | exact Below.refl _ _ | apply bel_alloc | apply bel_drew | apply bel_drewN | (refine bel_set ?_ (by first | assumption | omega | (simp; done) | (simp; omega)) _)))⟩
  · dsimp only at *
    clear hr hg hi hj
    rcases h1 with rfl | rfl
    · obtain rfl | rfl | rfl : h = 1 ∨ h = 2 ∨ h = 3 := by omega
      all_goals
        clear hs hs'
        go_enter Tryd.func29, Tryd.ntmps29
        go_wp2
        go_ret
        exact ⟨ret_str (by rw [← HV.out]; exact ByteArray.ext (by simp [textOf, dg])), (by repeat (first | assumption | exact Below.refl _ _ | apply bel_alloc | apply bel_drew | apply bel_drewN | (refine bel_set ?_ (by first | assumption | omega | (simp; done) | (simp; omega)) _)))⟩
    · obtain rfl | rfl | rfl : h = 1 ∨ h = 2 ∨ h = 3 := by omega
      all_goals
        clear hs hs'
        go_enter Tryd.func29, Tryd.ntmps29
        go_wp2
        go_ret
        exact ⟨ret_str (by rw [← HV.out]; exact ByteArray.ext (by simp [textOf, List.replicate])), (by repeat (first | assumption | exact Below.refl _ _ | apply bel_alloc | apply bel_drew | apply bel_drewN | (refine bel_set ?_ (by first | assumption | omega | (simp; done) | (simp; omega)) _)))⟩
  · dsimp only at *
    subst h1
    clear hr hg hh
    go_enter Tryd.func29, Tryd.ntmps29
    go_wp2
    go_quiet ((go_at_call 70; exact quiet_eq (itoa_dg _ _ (by omega) (by omega))))
    go_wp2
    go_ret
    exact ⟨ret_str (by rw [← HV.out]; exact ByteArray.ext (by simp [textOf, dg])), (by repeat (first | assumption | exact Below.refl _ _ | apply bel_alloc | apply bel_drew | apply bel_drewN | (refine bel_set ?_ (by first | assumption | omega | (simp; done) | (simp; omega)) _)))⟩
set_option maxRecDepth 100000 in
set_option maxHeartbeats 1000000 in
theorem ref3_Lasts (l : List UInt8) (v : Speech) (w : World) (hl : l.length ≤ 40) (hv : v.Valid) :
    Calls Tryd.prog 28 #[.string ⟨l.toArray⟩, .agg #[.int .i64 v.note, .int .i64 v.letter]] w fun e w' => e = .returned (.int .i64 (spent v.note v.letter l)) ∧ Below w.heap.size w w' := by
  obtain ⟨v1, v2, v3, v4⟩ := hv
  obtain ⟨a, b⟩ := v
  dsimp only at *
  have hsz : (⟨l.toArray⟩ : ByteArray).size = l.length := by simp [ByteArray.size]
  have HSZ := Lib.hid hsz
  clear hsz
  go_enter Tryd.func28, Tryd.ntmps28
  go_wp2
  go_loop [5, 6] (fun v5 v6 => ∃ k : Nat, k ≤ l.length ∧ v6 = .int .i64 k ∧ v5 = .int .i64 (spent a b (l.take k))) (fun _ i => l.length - (intOf i).toNat)
  case atStart => exact ⟨0, Nat.zero_le _, rfl, rfl⟩
  case round =>
    obtain ⟨k, hk, rfl, rfl⟩ := hrel
    obtain ⟨bd1, bd2⟩ := spent_bound (letter := b) v3 v4 (l.take k) a
    have htl : (l.take k).length = k := by rw [List.length_take]; omega
    rw [htl] at bd2
    clear htl
    obtain ⟨sp, hsp⟩ : ∃ sp, spent a b (l.take k) = sp := ⟨_, rfl⟩
    rw [hsp] at bd1 bd2 ⊢
    have HSP := Lib.hid hsp
    clear hsp
    by_cases hp : k < l.length
    · obtain ⟨c, hc⟩ : ∃ c, l[k]? = some c := ⟨_, List.getElem?_eq_getElem hp⟩
      have hst : Hid (spent a b (l.take (k + 1)) = if c = 32 then sp else sp + b) := Lib.hid (by rw [List.take_add_one, hc]; show spent a b (l.take k ++ [c]) = _; rw [spent_snoc, HSP.out])
      have hs : k < (⟨l.toArray⟩ : ByteArray).size := by rw [HSZ.out]; exact hp
      have hcv : (⟨l.toArray⟩ : ByteArray)[k]'hs = c := by obtain ⟨_, e⟩ := List.getElem?_eq_some_iff.1 hc; rw [← e]; rfl
      by_cases hz : c = 32
      · have hb : ((((⟨l.toArray⟩ : ByteArray)[k]'hs).toNat : Int) != 32) = false := by rw [hcv, hz]; rfl
        have HZ := Lib.hid hz
        clear hz hcv hc
        go_wp2
        go_round
        case rel => exact ⟨k + 1, by omega, by go_num, by rw [hst.out, if_pos HZ.out]⟩
        case measure => simp [intOf]; omega
      · have hb : ((((⟨l.toArray⟩ : ByteArray)[k]'hs).toNat : Int) != 32) = true := by
          rw [hcv, bne_iff_ne]
          intro h
          exact hz (UInt8.toNat_inj.1 (by have : c.toNat = 32 := by omega
                                          rw [this]; rfl))
        have HZ := Lib.hid hz
        clear hz hcv hc
        go_wp2
        go_round
        case rel => exact ⟨k + 1, by omega, by go_num, by rw [hst.out, if_neg HZ.out]⟩
        case measure => simp [intOf]; omega
    · have hk2 : k = l.length := by omega
      have HK := Lib.hid hk2
      clear hk2
      go_wp2
      go_ret
      exact ⟨ret_int (by rw [← HSP.out, HK.out, List.take_length]), (by repeat (first | assumption | exact Below.refl _ _ | apply bel_alloc | apply bel_drew | apply bel_drewN | (refine bel_set ?_ (by first | assumption | omega | (simp; done) | (simp; omega)) _)))⟩
end Go.Proofs.YtinglbcafcjhfaaDoor
