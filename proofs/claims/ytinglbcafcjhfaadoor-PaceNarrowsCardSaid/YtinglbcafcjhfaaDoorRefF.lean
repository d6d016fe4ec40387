/- Contracts of the reference's calls: Calls, lasts, late, greatest. The contract of the reference's greatest; plain laws on rooms. -/
import Derived.Test.YtinglbcafcjhfaaDoorRefD
import Derived.Test.YtinglbcafcjhfaaDoorPaceV
import Derived.Lib.QuietBelow
import Derived.Test.YtinglbcafcjhfaaDoorPaceI
import Derived.Deep.LoopGhost
namespace Go.Proofs.YtinglbcafcjhfaaDoor
open Go.RowKit
set_option linter.unusedVariables false
set_option linter.unusedSimpArgs false

theorem Calls.regrown_same {P : Program} {f : FuncId} {args : Array Value} {w : World} {d : Nat} {os : Array Obj} {v : Value}
    (h : Calls P f args (Sort.grow (redrawn w d) os) fun e w' => e = .returned v ∧ Sort.grow (redrawn w d) os = w') : Calls P f args (Sort.grow (redrawn w d) os) fun e w'' => e = .returned v ∧ ∃ p : Regrown, w'' = Sort.grow (redrawn w p.d) p.os :=
  h.mono fun _ _ ⟨he, hw⟩ => ⟨he, ⟨d, os⟩, hw.symm⟩
set_option maxRecDepth 100000 in
set_option maxHeartbeats 4000000 in
theorem ref3_Calls (r : Road) (l : List Call) (A0 A1 A2 C : Option Addr) (n0 n1 n2 c0 c1 c2 n c : Nat) (w : World) (h0 : Rd 5 Piece.enc w A0 n0 r.pieces) (h1 : Rd 5 Call.enc w C n l) (hf : r.Fit) :
    Calls Tryd.prog 32 #[.agg #[.slice A0 n0 c0, .slice A1 n1 c1, .slice A2 n2 c2], .slice C n c] w fun e w' => e = .returned (.bool (bo (CallsOk r.length l))) ∧ Below w.heap.size w w' := by
  have m1 := h1.2.1
  have H0 := Lib.hid h0
  have H1 := Lib.hid h1
  have HF := Lib.hid hf
  clear h0 h1 hf
  go_enter Tryd.func32, Tryd.ntmps32
  go_wp2
  go_loopw [5] (fun v5 wr => ∃ k : Nat, k ≤ n ∧ v5 = .int .i64 k ∧ Hid (CallsUp r.length l k) ∧ Hid (Blk wr w.heap.size 26 #[.slice A0 n0 c0, .slice A1 n1 c1, .slice A2 n2 c2]) ∧ Below w.heap.size w wr) (fun v5 _ => n - (intOf v5).toNat)
  case atStart => exact ⟨0, Nat.zero_le _, rfl, Lib.hid fun j hj => absurd hj (by omega), Lib.hid (Blk.new _ _ _), (by repeat (first | assumption | exact Below.refl _ _ | apply bel_alloc | apply bel_drew | apply bel_drewN | (refine bel_set ?_ (by first | assumption | omega | (simp; done) | (simp; omega)) _)))⟩
  case round =>
    obtain ⟨k, hk, rfl, HP, HK, HB⟩ := hrel
    by_cases hlt : k < n
    · obtain ⟨x, hx⟩ := H1.out.get hlt
      have HX := Lib.hid hx
      clear hx
      obtain ⟨ad, e, x0, x1, x2, x3, x4⟩ := (H1.out.below HB).atCall HX.out
      cases e
      rcases hb1 : inB x.place 0 r.length
      · go_wp2; obtain ⟨W2, hW2⟩ : ∃ W2, wr.alloc (.cells #[.int .i64 x.place, .int .i64 x.lasts, .int .i64 x.lead, .int .i64 x.ahead, .int .i64 x.value] 75) = W2 := ⟨_, rfl⟩; have hB2 : Below wr.heap.size wr W2 := (by rw [← hW2]; exact (by repeat (first | assumption | exact Below.refl _ _ | apply bel_alloc | apply bel_drew | apply bel_drewN | (refine bel_set ?_ (by first | assumption | omega | (simp; done) | (simp; omega)) _)))); have CX : Blk W2 wr.heap.size 75 #[.int .i64 x.place, .int .i64 x.lasts, .int .i64 x.lead, .int .i64 x.ahead, .int .i64 x.value] := (by rw [← hW2]; exact Blk.new _ _ _); have CR := HK.out.below hB2; rw [hW2]; clear hW2; have k0 := cell_regrown (show W2.cell? ⟨w.heap.size, 0, none⟩ = some (.slice A0 n0 c0) from CR.cell 0); have k1 := cell_regrown (show W2.cell? ⟨w.heap.size, 1, none⟩ = some (.slice A1 n1 c1) from CR.cell 1); have k2 := cell_regrown (show W2.cell? ⟨w.heap.size, 2, none⟩ = some (.slice A2 n2 c2) from CR.cell 2); have u0 := cell_regrown (show W2.cell? ⟨wr.heap.size, 0, none⟩ = some (.int .i64 x.place) from CX.cell 0); have u1 := cell_regrown (show W2.cell? ⟨wr.heap.size, 1, none⟩ = some (.int .i64 x.lasts) from CX.cell 1); have u2 := cell_regrown (show W2.cell? ⟨wr.heap.size, 2, none⟩ = some (.int .i64 x.lead) from CX.cell 2); have u3 := cell_regrown (show W2.cell? ⟨wr.heap.size, 3, none⟩ = some (.int .i64 x.ahead) from CX.cell 3); have u4 := cell_regrown (show W2.cell? ⟨wr.heap.size, 4, none⟩ = some (.int .i64 x.value) from CX.cell 4); skip; clear CX CR; have HB2 := Lib.hid hB2; clear hB2; refine wp_region_quiet_below (by kernel_rfl) (by kernel_rfl) ?_; (repeat (go_big_quiet_step ((first | (go_at_call 23; exact Calls.regrown_of (ref3_Length r A0 A1 A2 n0 n1 n2 c0 c1 c2 _ (((H0.out.below HB).below HB2.out).below (below_regrown W2 _ _)) HF.out)) | (go_at_call 65; exact Calls.regrown_same (ref3_in _ _ _ _)))))); refine wpQuiet_nil ?_; intro _ hw'; obtain ⟨⟨dq, osq⟩, hw''⟩ := hw'; subst hw''; obtain ⟨W3, hW3⟩ : ∃ W3, Sort.grow (redrawn W2 dq) osq = W3 := ⟨_, rfl⟩; have HB3 : Hid (Below W2.heap.size W2 W3) := Lib.hid (by rw [← hW3]; exact below_regrown W2 _ _); rw [hW3]; clear hW3 k0 k1 k2 u0 u1 u2 u3 u4; (try clear z1); (try clear q1 q2 q3 q4 q5); go_wp2
        go_ret
        exact ⟨ret_bool (bo_false fun v => Call.no1 HX.out hb1 (v.2 k (by have := H1.out.1; omega))).symm, bel_then (bel_then HB HB2.out) HB3.out⟩
      rcases Nat.eq_zero_or_pos k with hz | hz
      · have hd : decide (0 < k) = false := by rw [hz]; rfl
        have HZ := Lib.hid hz
        clear hz
        rcases hf0 : inB x.lasts 0 1125899906842624
        · have hnf : Hid (¬x.Fine) := Lib.hid fun hh => by rw [hh.1] at hf0; cases hf0
          go_wp2; obtain ⟨W2, hW2⟩ : ∃ W2, wr.alloc (.cells #[.int .i64 x.place, .int .i64 x.lasts, .int .i64 x.lead, .int .i64 x.ahead, .int .i64 x.value] 75) = W2 := ⟨_, rfl⟩; have hB2 : Below wr.heap.size wr W2 := (by rw [← hW2]; exact (by repeat (first | assumption | exact Below.refl _ _ | apply bel_alloc | apply bel_drew | apply bel_drewN | (refine bel_set ?_ (by first | assumption | omega | (simp; done) | (simp; omega)) _)))); have CX : Blk W2 wr.heap.size 75 #[.int .i64 x.place, .int .i64 x.lasts, .int .i64 x.lead, .int .i64 x.ahead, .int .i64 x.value] := (by rw [← hW2]; exact Blk.new _ _ _); have CR := HK.out.below hB2; rw [hW2]; clear hW2; have k0 := cell_regrown (show W2.cell? ⟨w.heap.size, 0, none⟩ = some (.slice A0 n0 c0) from CR.cell 0); have k1 := cell_regrown (show W2.cell? ⟨w.heap.size, 1, none⟩ = some (.slice A1 n1 c1) from CR.cell 1); have k2 := cell_regrown (show W2.cell? ⟨w.heap.size, 2, none⟩ = some (.slice A2 n2 c2) from CR.cell 2); have u0 := cell_regrown (show W2.cell? ⟨wr.heap.size, 0, none⟩ = some (.int .i64 x.place) from CX.cell 0); have u1 := cell_regrown (show W2.cell? ⟨wr.heap.size, 1, none⟩ = some (.int .i64 x.lasts) from CX.cell 1); have u2 := cell_regrown (show W2.cell? ⟨wr.heap.size, 2, none⟩ = some (.int .i64 x.lead) from CX.cell 2); have u3 := cell_regrown (show W2.cell? ⟨wr.heap.size, 3, none⟩ = some (.int .i64 x.ahead) from CX.cell 3); have u4 := cell_regrown (show W2.cell? ⟨wr.heap.size, 4, none⟩ = some (.int .i64 x.value) from CX.cell 4); skip; clear CX CR; have HB2 := Lib.hid hB2; clear hB2; refine wp_region_quiet_below (by kernel_rfl) (by kernel_rfl) ?_; (repeat (go_big_quiet_step ((first | (go_at_call 23; exact Calls.regrown_of (ref3_Length r A0 A1 A2 n0 n1 n2 c0 c1 c2 _ (((H0.out.below HB).below HB2.out).below (below_regrown W2 _ _)) HF.out)) | (go_at_call 65; exact Calls.regrown_same (ref3_in _ _ _ _)))))); refine wpQuiet_nil ?_; intro _ hw'; obtain ⟨⟨dq, osq⟩, hw''⟩ := hw'; subst hw''; obtain ⟨W3, hW3⟩ : ∃ W3, Sort.grow (redrawn W2 dq) osq = W3 := ⟨_, rfl⟩; have HB3 : Hid (Below W2.heap.size W2 W3) := Lib.hid (by rw [← hW3]; exact below_regrown W2 _ _); rw [hW3]; clear hW3 k0 k1 k2 u0 u1 u2 u3 u4; (try clear z1); (try clear q1 q2 q3 q4 q5); go_wp2
          go_ret
          exact ⟨ret_bool (bo_false fun v => Call.no3 HX.out hnf.out (v.2 k (by have := H1.out.1; omega))).symm, bel_then (bel_then HB HB2.out) HB3.out⟩
        rcases hf1 : inB x.lead 0 1125899906842624
        · have hnf : Hid (¬x.Fine) := Lib.hid fun hh => by rw [hh.2.1] at hf1; cases hf1
          go_wp2; obtain ⟨W2, hW2⟩ : ∃ W2, wr.alloc (.cells #[.int .i64 x.place, .int .i64 x.lasts, .int .i64 x.lead, .int .i64 x.ahead, .int .i64 x.value] 75) = W2 := ⟨_, rfl⟩; have hB2 : Below wr.heap.size wr W2 := (by rw [← hW2]; exact (by repeat (first | assumption | exact Below.refl _ _ | apply bel_alloc | apply bel_drew | apply bel_drewN | (refine bel_set ?_ (by first | assumption | omega | (simp; done) | (simp; omega)) _)))); have CX : Blk W2 wr.heap.size 75 #[.int .i64 x.place, .int .i64 x.lasts, .int .i64 x.lead, .int .i64 x.ahead, .int .i64 x.value] := (by rw [← hW2]; exact Blk.new _ _ _); have CR := HK.out.below hB2; rw [hW2]; clear hW2; have k0 := cell_regrown (show W2.cell? ⟨w.heap.size, 0, none⟩ = some (.slice A0 n0 c0) from CR.cell 0); have k1 := cell_regrown (show W2.cell? ⟨w.heap.size, 1, none⟩ = some (.slice A1 n1 c1) from CR.cell 1); have k2 := cell_regrown (show W2.cell? ⟨w.heap.size, 2, none⟩ = some (.slice A2 n2 c2) from CR.cell 2); have u0 := cell_regrown (show W2.cell? ⟨wr.heap.size, 0, none⟩ = some (.int .i64 x.place) from CX.cell 0); have u1 := cell_regrown (show W2.cell? ⟨wr.heap.size, 1, none⟩ = some (.int .i64 x.lasts) from CX.cell 1); have u2 := cell_regrown (show W2.cell? ⟨wr.heap.size, 2, none⟩ = some (.int .i64 x.lead) from CX.cell 2); have u3 := cell_regrown (show W2.cell? ⟨wr.heap.size, 3, none⟩ = some (.int .i64 x.ahead) from CX.cell 3); have u4 := cell_regrown (show W2.cell? ⟨wr.heap.size, 4, none⟩ = some (.int .i64 x.value) from CX.cell 4); skip; clear CX CR; have HB2 := Lib.hid hB2; clear hB2; refine wp_region_quiet_below (by kernel_rfl) (by kernel_rfl) ?_; (repeat (go_big_quiet_step ((first | (go_at_call 23; exact Calls.regrown_of (ref3_Length r A0 A1 A2 n0 n1 n2 c0 c1 c2 _ (((H0.out.below HB).below HB2.out).below (below_regrown W2 _ _)) HF.out)) | (go_at_call 65; exact Calls.regrown_same (ref3_in _ _ _ _)))))); refine wpQuiet_nil ?_; intro _ hw'; obtain ⟨⟨dq, osq⟩, hw''⟩ := hw'; subst hw''; obtain ⟨W3, hW3⟩ : ∃ W3, Sort.grow (redrawn W2 dq) osq = W3 := ⟨_, rfl⟩; have HB3 : Hid (Below W2.heap.size W2 W3) := Lib.hid (by rw [← hW3]; exact below_regrown W2 _ _); rw [hW3]; clear hW3 k0 k1 k2 u0 u1 u2 u3 u4; (try clear z1); (try clear q1 q2 q3 q4 q5); go_wp2
          go_ret
          exact ⟨ret_bool (bo_false fun v => Call.no3 HX.out hnf.out (v.2 k (by have := H1.out.1; omega))).symm, bel_then (bel_then HB HB2.out) HB3.out⟩
        rcases hf2 : inB x.ahead 0 1125899906842624
        · have hnf : Hid (¬x.Fine) := Lib.hid fun hh => by rw [hh.2.2.1] at hf2; cases hf2
          go_wp2; obtain ⟨W2, hW2⟩ : ∃ W2, wr.alloc (.cells #[.int .i64 x.place, .int .i64 x.lasts, .int .i64 x.lead, .int .i64 x.ahead, .int .i64 x.value] 75) = W2 := ⟨_, rfl⟩; have hB2 : Below wr.heap.size wr W2 := (by rw [← hW2]; exact (by repeat (first | assumption | exact Below.refl _ _ | apply bel_alloc | apply bel_drew | apply bel_drewN | (refine bel_set ?_ (by first | assumption | omega | (simp; done) | (simp; omega)) _)))); have CX : Blk W2 wr.heap.size 75 #[.int .i64 x.place, .int .i64 x.lasts, .int .i64 x.lead, .int .i64 x.ahead, .int .i64 x.value] := (by rw [← hW2]; exact Blk.new _ _ _); have CR := HK.out.below hB2; rw [hW2]; clear hW2; have k0 := cell_regrown (show W2.cell? ⟨w.heap.size, 0, none⟩ = some (.slice A0 n0 c0) from CR.cell 0); have k1 := cell_regrown (show W2.cell? ⟨w.heap.size, 1, none⟩ = some (.slice A1 n1 c1) from CR.cell 1); have k2 := cell_regrown (show W2.cell? ⟨w.heap.size, 2, none⟩ = some (.slice A2 n2 c2) from CR.cell 2); have u0 := cell_regrown (show W2.cell? ⟨wr.heap.size, 0, none⟩ = some (.int .i64 x.place) from CX.cell 0); have u1 := cell_regrown (show W2.cell? ⟨wr.heap.size, 1, none⟩ = some (.int .i64 x.lasts) from CX.cell 1); have u2 := cell_regrown (show W2.cell? ⟨wr.heap.size, 2, none⟩ = some (.int .i64 x.lead) from CX.cell 2); have u3 := cell_regrown (show W2.cell? ⟨wr.heap.size, 3, none⟩ = some (.int .i64 x.ahead) from CX.cell 3); have u4 := cell_regrown (show W2.cell? ⟨wr.heap.size, 4, none⟩ = some (.int .i64 x.value) from CX.cell 4); skip; clear CX CR; have HB2 := Lib.hid hB2; clear hB2; refine wp_region_quiet_below (by kernel_rfl) (by kernel_rfl) ?_; (repeat (go_big_quiet_step ((first | (go_at_call 23; exact Calls.regrown_of (ref3_Length r A0 A1 A2 n0 n1 n2 c0 c1 c2 _ (((H0.out.below HB).below HB2.out).below (below_regrown W2 _ _)) HF.out)) | (go_at_call 65; exact Calls.regrown_same (ref3_in _ _ _ _)))))); refine wpQuiet_nil ?_; intro _ hw'; obtain ⟨⟨dq, osq⟩, hw''⟩ := hw'; subst hw''; obtain ⟨W3, hW3⟩ : ∃ W3, Sort.grow (redrawn W2 dq) osq = W3 := ⟨_, rfl⟩; have HB3 : Hid (Below W2.heap.size W2 W3) := Lib.hid (by rw [← hW3]; exact below_regrown W2 _ _); rw [hW3]; clear hW3 k0 k1 k2 u0 u1 u2 u3 u4; (try clear z1); (try clear q1 q2 q3 q4 q5); go_wp2
          go_ret
          exact ⟨ret_bool (bo_false fun v => Call.no3 HX.out hnf.out (v.2 k (by have := H1.out.1; omega))).symm, bel_then (bel_then HB HB2.out) HB3.out⟩
        rcases hf3 : inB x.value 0 100
        · have hnf : Hid (¬x.Fine) := Lib.hid fun hh => by rw [hh.2.2.2] at hf3; cases hf3
          go_wp2; obtain ⟨W2, hW2⟩ : ∃ W2, wr.alloc (.cells #[.int .i64 x.place, .int .i64 x.lasts, .int .i64 x.lead, .int .i64 x.ahead, .int .i64 x.value] 75) = W2 := ⟨_, rfl⟩; have hB2 : Below wr.heap.size wr W2 := (by rw [← hW2]; exact (by repeat (first | assumption | exact Below.refl _ _ | apply bel_alloc | apply bel_drew | apply bel_drewN | (refine bel_set ?_ (by first | assumption | omega | (simp; done) | (simp; omega)) _)))); have CX : Blk W2 wr.heap.size 75 #[.int .i64 x.place, .int .i64 x.lasts, .int .i64 x.lead, .int .i64 x.ahead, .int .i64 x.value] := (by rw [← hW2]; exact Blk.new _ _ _); have CR := HK.out.below hB2; rw [hW2]; clear hW2; have k0 := cell_regrown (show W2.cell? ⟨w.heap.size, 0, none⟩ = some (.slice A0 n0 c0) from CR.cell 0); have k1 := cell_regrown (show W2.cell? ⟨w.heap.size, 1, none⟩ = some (.slice A1 n1 c1) from CR.cell 1); have k2 := cell_regrown (show W2.cell? ⟨w.heap.size, 2, none⟩ = some (.slice A2 n2 c2) from CR.cell 2); have u0 := cell_regrown (show W2.cell? ⟨wr.heap.size, 0, none⟩ = some (.int .i64 x.place) from CX.cell 0); have u1 := cell_regrown (show W2.cell? ⟨wr.heap.size, 1, none⟩ = some (.int .i64 x.lasts) from CX.cell 1); have u2 := cell_regrown (show W2.cell? ⟨wr.heap.size, 2, none⟩ = some (.int .i64 x.lead) from CX.cell 2); have u3 := cell_regrown (show W2.cell? ⟨wr.heap.size, 3, none⟩ = some (.int .i64 x.ahead) from CX.cell 3); have u4 := cell_regrown (show W2.cell? ⟨wr.heap.size, 4, none⟩ = some (.int .i64 x.value) from CX.cell 4); skip; clear CX CR; have HB2 := Lib.hid hB2; clear hB2; refine wp_region_quiet_below (by kernel_rfl) (by kernel_rfl) ?_; (repeat (go_big_quiet_step ((first | (go_at_call 23; exact Calls.regrown_of (ref3_Length r A0 A1 A2 n0 n1 n2 c0 c1 c2 _ (((H0.out.below HB).below HB2.out).below (below_regrown W2 _ _)) HF.out)) | (go_at_call 65; exact Calls.regrown_same (ref3_in _ _ _ _)))))); refine wpQuiet_nil ?_; intro _ hw'; obtain ⟨⟨dq, osq⟩, hw''⟩ := hw'; subst hw''; obtain ⟨W3, hW3⟩ : ∃ W3, Sort.grow (redrawn W2 dq) osq = W3 := ⟨_, rfl⟩; have HB3 : Hid (Below W2.heap.size W2 W3) := Lib.hid (by rw [← hW3]; exact below_regrown W2 _ _); rw [hW3]; clear hW3 k0 k1 k2 u0 u1 u2 u3 u4; (try clear z1); (try clear q1 q2 q3 q4 q5); go_wp2
          go_ret
          exact ⟨ret_bool (bo_false fun v => Call.no3 HX.out hnf.out (v.2 k (by have := H1.out.1; omega))).symm, bel_then (bel_then HB HB2.out) HB3.out⟩
        have hyf : Hid x.Fine := Lib.hid ⟨hf0, hf1, hf2, hf3⟩
        go_wp2; obtain ⟨W2, hW2⟩ : ∃ W2, wr.alloc (.cells #[.int .i64 x.place, .int .i64 x.lasts, .int .i64 x.lead, .int .i64 x.ahead, .int .i64 x.value] 75) = W2 := ⟨_, rfl⟩; have hB2 : Below wr.heap.size wr W2 := (by rw [← hW2]; exact (by repeat (first | assumption | exact Below.refl _ _ | apply bel_alloc | apply bel_drew | apply bel_drewN | (refine bel_set ?_ (by first | assumption | omega | (simp; done) | (simp; omega)) _)))); have CX : Blk W2 wr.heap.size 75 #[.int .i64 x.place, .int .i64 x.lasts, .int .i64 x.lead, .int .i64 x.ahead, .int .i64 x.value] := (by rw [← hW2]; exact Blk.new _ _ _); have CR := HK.out.below hB2; rw [hW2]; clear hW2; have k0 := cell_regrown (show W2.cell? ⟨w.heap.size, 0, none⟩ = some (.slice A0 n0 c0) from CR.cell 0); have k1 := cell_regrown (show W2.cell? ⟨w.heap.size, 1, none⟩ = some (.slice A1 n1 c1) from CR.cell 1); have k2 := cell_regrown (show W2.cell? ⟨w.heap.size, 2, none⟩ = some (.slice A2 n2 c2) from CR.cell 2); have u0 := cell_regrown (show W2.cell? ⟨wr.heap.size, 0, none⟩ = some (.int .i64 x.place) from CX.cell 0); have u1 := cell_regrown (show W2.cell? ⟨wr.heap.size, 1, none⟩ = some (.int .i64 x.lasts) from CX.cell 1); have u2 := cell_regrown (show W2.cell? ⟨wr.heap.size, 2, none⟩ = some (.int .i64 x.lead) from CX.cell 2); have u3 := cell_regrown (show W2.cell? ⟨wr.heap.size, 3, none⟩ = some (.int .i64 x.ahead) from CX.cell 3); have u4 := cell_regrown (show W2.cell? ⟨wr.heap.size, 4, none⟩ = some (.int .i64 x.value) from CX.cell 4); skip; clear CX CR; have HB2 := Lib.hid hB2; clear hB2; refine wp_region_quiet_below (by kernel_rfl) (by kernel_rfl) ?_; (repeat (go_big_quiet_step ((first | (go_at_call 23; exact Calls.regrown_of (ref3_Length r A0 A1 A2 n0 n1 n2 c0 c1 c2 _ (((H0.out.below HB).below HB2.out).below (below_regrown W2 _ _)) HF.out)) | (go_at_call 65; exact Calls.regrown_same (ref3_in _ _ _ _)))))); refine wpQuiet_nil ?_; intro _ hw'; obtain ⟨⟨dq, osq⟩, hw''⟩ := hw'; subst hw''; obtain ⟨W3, hW3⟩ : ∃ W3, Sort.grow (redrawn W2 dq) osq = W3 := ⟨_, rfl⟩; have HB3 : Hid (Below W2.heap.size W2 W3) := Lib.hid (by rw [← hW3]; exact below_regrown W2 _ _); rw [hW3]; clear hW3 k0 k1 k2 u0 u1 u2 u3 u4; (try clear z1); (try clear q1 q2 q3 q4 q5); go_wp2
        go_roundw
        case rel => exact ⟨k + 1, by omega, by go_num, Lib.hid (HP.out.succ (Call.yes HX.out hb1 (.inl HZ.out) hyf.out)), Lib.hid ((HK.out.below HB2.out).below HB3.out), bel_then (bel_then HB HB2.out) HB3.out⟩
        case measure => simp [intOf]; omega
      · obtain ⟨y, hy⟩ := H1.out.get (i := k - 1) (by omega)
        have HY := Lib.hid hy
        clear hy
        obtain ⟨ad', e, y0, y1, y2, y3, y4⟩ := (H1.out.below HB).atCall HY.out
        cases e
        have q1 : IntKind.i64.wrap ((k : Int) - 1) = (k : Int) - 1 := IntWalk.i64_in _ (by omega)
        have q2 : (0 : Int) ≤ (k : Int) - 1 := by omega
        have q3 : (1 : Int) ≤ (k : Int) := by omega
        have q4 : ((k : Int) - 1).toNat = k - 1 := by omega
        have q5 : (k : Int) - 1 < (n : Int) := by omega
        rcases hb2 : decide (x.place < y.place)
        rotate_left
        · go_wp2; obtain ⟨W2, hW2⟩ : ∃ W2, wr.alloc (.cells #[.int .i64 x.place, .int .i64 x.lasts, .int .i64 x.lead, .int .i64 x.ahead, .int .i64 x.value] 75) = W2 := ⟨_, rfl⟩; have hB2 : Below wr.heap.size wr W2 := (by rw [← hW2]; exact (by repeat (first | assumption | exact Below.refl _ _ | apply bel_alloc | apply bel_drew | apply bel_drewN | (refine bel_set ?_ (by first | assumption | omega | (simp; done) | (simp; omega)) _)))); have CX : Blk W2 wr.heap.size 75 #[.int .i64 x.place, .int .i64 x.lasts, .int .i64 x.lead, .int .i64 x.ahead, .int .i64 x.value] := (by rw [← hW2]; exact Blk.new _ _ _); have CR := HK.out.below hB2; rw [hW2]; clear hW2; have k0 := cell_regrown (show W2.cell? ⟨w.heap.size, 0, none⟩ = some (.slice A0 n0 c0) from CR.cell 0); have k1 := cell_regrown (show W2.cell? ⟨w.heap.size, 1, none⟩ = some (.slice A1 n1 c1) from CR.cell 1); have k2 := cell_regrown (show W2.cell? ⟨w.heap.size, 2, none⟩ = some (.slice A2 n2 c2) from CR.cell 2); have u0 := cell_regrown (show W2.cell? ⟨wr.heap.size, 0, none⟩ = some (.int .i64 x.place) from CX.cell 0); have u1 := cell_regrown (show W2.cell? ⟨wr.heap.size, 1, none⟩ = some (.int .i64 x.lasts) from CX.cell 1); have u2 := cell_regrown (show W2.cell? ⟨wr.heap.size, 2, none⟩ = some (.int .i64 x.lead) from CX.cell 2); have u3 := cell_regrown (show W2.cell? ⟨wr.heap.size, 3, none⟩ = some (.int .i64 x.ahead) from CX.cell 3); have u4 := cell_regrown (show W2.cell? ⟨wr.heap.size, 4, none⟩ = some (.int .i64 x.value) from CX.cell 4); have z1 := cell_regrown (bel_cell hB2 y0); clear CX CR; have HB2 := Lib.hid hB2; clear hB2; refine wp_region_quiet_below (by kernel_rfl) (by kernel_rfl) ?_; (repeat (go_big_quiet_step ((first | (go_at_call 23; exact Calls.regrown_of (ref3_Length r A0 A1 A2 n0 n1 n2 c0 c1 c2 _ (((H0.out.below HB).below HB2.out).below (below_regrown W2 _ _)) HF.out)) | (go_at_call 65; exact Calls.regrown_same (ref3_in _ _ _ _)))))); refine wpQuiet_nil ?_; intro _ hw'; obtain ⟨⟨dq, osq⟩, hw''⟩ := hw'; subst hw''; obtain ⟨W3, hW3⟩ : ∃ W3, Sort.grow (redrawn W2 dq) osq = W3 := ⟨_, rfl⟩; have HB3 : Hid (Below W2.heap.size W2 W3) := Lib.hid (by rw [← hW3]; exact below_regrown W2 _ _); rw [hW3]; clear hW3 k0 k1 k2 u0 u1 u2 u3 u4; (try clear z1); (try clear q1 q2 q3 q4 q5); go_wp2
          go_ret
          exact ⟨ret_bool (bo_false fun v => Call.no2 HX.out hz HY.out hb2 (v.2 k (by have := H1.out.1; omega))).symm, bel_then (bel_then HB HB2.out) HB3.out⟩
        rcases hf0 : inB x.lasts 0 1125899906842624
        · have hnf : Hid (¬x.Fine) := Lib.hid fun hh => by rw [hh.1] at hf0; cases hf0
          go_wp2; obtain ⟨W2, hW2⟩ : ∃ W2, wr.alloc (.cells #[.int .i64 x.place, .int .i64 x.lasts, .int .i64 x.lead, .int .i64 x.ahead, .int .i64 x.value] 75) = W2 := ⟨_, rfl⟩; have hB2 : Below wr.heap.size wr W2 := (by rw [← hW2]; exact (by repeat (first | assumption | exact Below.refl _ _ | apply bel_alloc | apply bel_drew | apply bel_drewN | (refine bel_set ?_ (by first | assumption | omega | (simp; done) | (simp; omega)) _)))); have CX : Blk W2 wr.heap.size 75 #[.int .i64 x.place, .int .i64 x.lasts, .int .i64 x.lead, .int .i64 x.ahead, .int .i64 x.value] := (by rw [← hW2]; exact Blk.new _ _ _); have CR := HK.out.below hB2; rw [hW2]; clear hW2; have k0 := cell_regrown (show W2.cell? ⟨w.heap.size, 0, none⟩ = some (.slice A0 n0 c0) from CR.cell 0); have k1 := cell_regrown (show W2.cell? ⟨w.heap.size, 1, none⟩ = some (.slice A1 n1 c1) from CR.cell 1); have k2 := cell_regrown (show W2.cell? ⟨w.heap.size, 2, none⟩ = some (.slice A2 n2 c2) from CR.cell 2); have u0 := cell_regrown (show W2.cell? ⟨wr.heap.size, 0, none⟩ = some (.int .i64 x.place) from CX.cell 0); have u1 := cell_regrown (show W2.cell? ⟨wr.heap.size, 1, none⟩ = some (.int .i64 x.lasts) from CX.cell 1); have u2 := cell_regrown (show W2.cell? ⟨wr.heap.size, 2, none⟩ = some (.int .i64 x.lead) from CX.cell 2); have u3 := cell_regrown (show W2.cell? ⟨wr.heap.size, 3, none⟩ = some (.int .i64 x.ahead) from CX.cell 3); have u4 := cell_regrown (show W2.cell? ⟨wr.heap.size, 4, none⟩ = some (.int .i64 x.value) from CX.cell 4); have z1 := cell_regrown (bel_cell hB2 y0); clear CX CR; have HB2 := Lib.hid hB2; clear hB2; refine wp_region_quiet_below (by kernel_rfl) (by kernel_rfl) ?_; (repeat (go_big_quiet_step ((first | (go_at_call 23; exact Calls.regrown_of (ref3_Length r A0 A1 A2 n0 n1 n2 c0 c1 c2 _ (((H0.out.below HB).below HB2.out).below (below_regrown W2 _ _)) HF.out)) | (go_at_call 65; exact Calls.regrown_same (ref3_in _ _ _ _)))))); refine wpQuiet_nil ?_; intro _ hw'; obtain ⟨⟨dq, osq⟩, hw''⟩ := hw'; subst hw''; obtain ⟨W3, hW3⟩ : ∃ W3, Sort.grow (redrawn W2 dq) osq = W3 := ⟨_, rfl⟩; have HB3 : Hid (Below W2.heap.size W2 W3) := Lib.hid (by rw [← hW3]; exact below_regrown W2 _ _); rw [hW3]; clear hW3 k0 k1 k2 u0 u1 u2 u3 u4; (try clear z1); (try clear q1 q2 q3 q4 q5); go_wp2
          go_ret
          exact ⟨ret_bool (bo_false fun v => Call.no3 HX.out hnf.out (v.2 k (by have := H1.out.1; omega))).symm, bel_then (bel_then HB HB2.out) HB3.out⟩
        rcases hf1 : inB x.lead 0 1125899906842624
        · have hnf : Hid (¬x.Fine) := Lib.hid fun hh => by rw [hh.2.1] at hf1; cases hf1
          go_wp2; obtain ⟨W2, hW2⟩ : ∃ W2, wr.alloc (.cells #[.int .i64 x.place, .int .i64 x.lasts, .int .i64 x.lead, .int .i64 x.ahead, .int .i64 x.value] 75) = W2 := ⟨_, rfl⟩; have hB2 : Below wr.heap.size wr W2 := (by rw [← hW2]; exact (by repeat (first | assumption | exact Below.refl _ _ | apply bel_alloc | apply bel_drew | apply bel_drewN | (refine bel_set ?_ (by first | assumption | omega | (simp; done) | (simp; omega)) _)))); have CX : Blk W2 wr.heap.size 75 #[.int .i64 x.place, .int .i64 x.lasts, .int .i64 x.lead, .int .i64 x.ahead, .int .i64 x.value] := (by rw [← hW2]; exact Blk.new _ _ _); have CR := HK.out.below hB2; rw [hW2]; clear hW2; have k0 := cell_regrown (show W2.cell? ⟨w.heap.size, 0, none⟩ = some (.slice A0 n0 c0) from CR.cell 0); have k1 := cell_regrown (show W2.cell? ⟨w.heap.size, 1, none⟩ = some (.slice A1 n1 c1) from CR.cell 1); have k2 := cell_regrown (show W2.cell? ⟨w.heap.size, 2, none⟩ = some (.slice A2 n2 c2) from CR.cell 2); have u0 := cell_regrown (show W2.cell? ⟨wr.heap.size, 0, none⟩ = some (.int .i64 x.place) from CX.cell 0); have u1 := cell_regrown (show W2.cell? ⟨wr.heap.size, 1, none⟩ = some (.int .i64 x.lasts) from CX.cell 1); have u2 := cell_regrown (show W2.cell? ⟨wr.heap.size, 2, none⟩ = some (.int .i64 x.lead) from CX.cell 2); have u3 := cell_regrown (show W2.cell? ⟨wr.heap.size, 3, none⟩ = some (.int .i64 x.ahead) from CX.cell 3); have u4 := cell_regrown (show W2.cell? ⟨wr.heap.size, 4, none⟩ = some (.int .i64 x.value) from CX.cell 4); have z1 := cell_regrown (bel_cell hB2 y0); clear CX CR; have HB2 := Lib.hid hB2; clear hB2; refine wp_region_quiet_below (by kernel_rfl) (by kernel_rfl) ?_; (repeat (go_big_quiet_step ((first | (go_at_call 23; exact Calls.regrown_of (ref3_Length r A0 A1 A2 n0 n1 n2 c0 c1 c2 _ (((H0.out.below HB).below HB2.out).below (below_regrown W2 _ _)) HF.out)) | (go_at_call 65; exact Calls.regrown_same (ref3_in _ _ _ _)))))); refine wpQuiet_nil ?_; intro _ hw'; obtain ⟨⟨dq, osq⟩, hw''⟩ := hw'; subst hw''; obtain ⟨W3, hW3⟩ : ∃ W3, Sort.grow (redrawn W2 dq) osq = W3 := ⟨_, rfl⟩; have HB3 : Hid (Below W2.heap.size W2 W3) := Lib.hid (by rw [← hW3]; exact below_regrown W2 _ _); rw [hW3]; clear hW3 k0 k1 k2 u0 u1 u2 u3 u4; (try clear z1); (try clear q1 q2 q3 q4 q5); go_wp2
          go_ret
          exact ⟨ret_bool (bo_false fun v => Call.no3 HX.out hnf.out (v.2 k (by have := H1.out.1; omega))).symm, bel_then (bel_then HB HB2.out) HB3.out⟩
        rcases hf2 : inB x.ahead 0 1125899906842624
        · have hnf : Hid (¬x.Fine) := Lib.hid fun hh => by rw [hh.2.2.1] at hf2; cases hf2
          go_wp2; obtain ⟨W2, hW2⟩ : ∃ W2, wr.alloc (.cells #[.int .i64 x.place, .int .i64 x.lasts, .int .i64 x.lead, .int .i64 x.ahead, .int .i64 x.value] 75) = W2 := ⟨_, rfl⟩; have hB2 : Below wr.heap.size wr W2 := (by rw [← hW2]; exact (by repeat (first | assumption | exact Below.refl _ _ | apply bel_alloc | apply bel_drew | apply bel_drewN | (refine bel_set ?_ (by first | assumption | omega | (simp; done) | (simp; omega)) _)))); have CX : Blk W2 wr.heap.size 75 #[.int .i64 x.place, .int .i64 x.lasts, .int .i64 x.lead, .int .i64 x.ahead, .int .i64 x.value] := (by rw [← hW2]; exact Blk.new _ _ _); have CR := HK.out.below hB2; rw [hW2]; clear hW2; have k0 := cell_regrown (show W2.cell? ⟨w.heap.size, 0, none⟩ = some (.slice A0 n0 c0) from CR.cell 0); have k1 := cell_regrown (show W2.cell? ⟨w.heap.size, 1, none⟩ = some (.slice A1 n1 c1) from CR.cell 1); have k2 := cell_regrown (show W2.cell? ⟨w.heap.size, 2, none⟩ = some (.slice A2 n2 c2) from CR.cell 2); have u0 := cell_regrown (show W2.cell? ⟨wr.heap.size, 0, none⟩ = some (.int .i64 x.place) from CX.cell 0); have u1 := cell_regrown (show W2.cell? ⟨wr.heap.size, 1, none⟩ = some (.int .i64 x.lasts) from CX.cell 1); have u2 := cell_regrown (show W2.cell? ⟨wr.heap.size, 2, none⟩ = some (.int .i64 x.lead) from CX.cell 2); have u3 := cell_regrown (show W2.cell? ⟨wr.heap.size, 3, none⟩ = some (.int .i64 x.ahead) from CX.cell 3); have u4 := cell_regrown (show W2.cell? ⟨wr.heap.size, 4, none⟩ = some (.int .i64 x.value) from CX.cell 4); have z1 := cell_regrown (bel_cell hB2 y0); clear CX CR; have HB2 := Lib.hid hB2; clear hB2; refine wp_region_quiet_below (by kernel_rfl) (by kernel_rfl) ?_; (repeat (go_big_quiet_step ((first | (go_at_call 23; exact Calls.regrown_of (ref3_Length r A0 A1 A2 n0 n1 n2 c0 c1 c2 _ (((H0.out.below HB).below HB2.out).below (below_regrown W2 _ _)) HF.out)) | (go_at_call 65; exact Calls.regrown_same (ref3_in _ _ _ _)))))); refine wpQuiet_nil ?_; intro _ hw'; obtain ⟨⟨dq, osq⟩, hw''⟩ := hw'; subst hw''; obtain ⟨W3, hW3⟩ : ∃ W3, Sort.grow (redrawn W2 dq) osq = W3 := ⟨_, rfl⟩; have HB3 : Hid (Below W2.heap.size W2 W3) := Lib.hid (by rw [← hW3]; exact below_regrown W2 _ _); rw [hW3]; clear hW3 k0 k1 k2 u0 u1 u2 u3 u4; (try clear z1); (try clear q1 q2 q3 q4 q5); go_wp2
          go_ret
          exact ⟨ret_bool (bo_false fun v => Call.no3 HX.out hnf.out (v.2 k (by have := H1.out.1; omega))).symm, bel_then (bel_then HB HB2.out) HB3.out⟩
        rcases hf3 : inB x.value 0 100
        · have hnf : Hid (¬x.Fine) := Lib.hid fun hh => by rw [hh.2.2.2] at hf3; cases hf3
          go_wp2; obtain ⟨W2, hW2⟩ : ∃ W2, wr.alloc (.cells #[.int .i64 x.place, .int .i64 x.lasts, .int .i64 x.lead, .int .i64 x.ahead, .int .i64 x.value] 75) = W2 := ⟨_, rfl⟩; have hB2 : Below wr.heap.size wr W2 := (by rw [← hW2]; exact (by repeat (first | assumption | exact Below.refl _ _ | apply bel_alloc | apply bel_drew | apply bel_drewN | (refine bel_set ?_ (by first | assumption | omega | (simp; done) | (simp; omega)) _)))); have CX : Blk W2 wr.heap.size 75 #[.int .i64 x.place, .int .i64 x.lasts, .int .i64 x.lead, .int .i64 x.ahead, .int .i64 x.value] := (by rw [← hW2]; exact Blk.new _ _ _); have CR := HK.out.below hB2; rw [hW2]; clear hW2; have k0 := cell_regrown (show W2.cell? ⟨w.heap.size, 0, none⟩ = some (.slice A0 n0 c0) from CR.cell 0); have k1 := cell_regrown (show W2.cell? ⟨w.heap.size, 1, none⟩ = some (.slice A1 n1 c1) from CR.cell 1); have k2 := cell_regrown (show W2.cell? ⟨w.heap.size, 2, none⟩ = some (.slice A2 n2 c2) from CR.cell 2); have u0 := cell_regrown (show W2.cell? ⟨wr.heap.size, 0, none⟩ = some (.int .i64 x.place) from CX.cell 0); have u1 := cell_regrown (show W2.cell? ⟨wr.heap.size, 1, none⟩ = some (.int .i64 x.lasts) from CX.cell 1); have u2 := cell_regrown (show W2.cell? ⟨wr.heap.size, 2, none⟩ = some (.int .i64 x.lead) from CX.cell 2); have u3 := cell_regrown (show W2.cell? ⟨wr.heap.size, 3, none⟩ = some (.int .i64 x.ahead) from CX.cell 3); have u4 := cell_regrown (show W2.cell? ⟨wr.heap.size, 4, none⟩ = some (.int .i64 x.value) from CX.cell 4); have z1 := cell_regrown (bel_cell hB2 y0); clear CX CR; have HB2 := Lib.hid hB2; clear hB2; refine wp_region_quiet_below (by kernel_rfl) (by kernel_rfl) ?_; (repeat (go_big_quiet_step ((first | (go_at_call 23; exact Calls.regrown_of (ref3_Length r A0 A1 A2 n0 n1 n2 c0 c1 c2 _ (((H0.out.below HB).below HB2.out).below (below_regrown W2 _ _)) HF.out)) | (go_at_call 65; exact Calls.regrown_same (ref3_in _ _ _ _)))))); refine wpQuiet_nil ?_; intro _ hw'; obtain ⟨⟨dq, osq⟩, hw''⟩ := hw'; subst hw''; obtain ⟨W3, hW3⟩ : ∃ W3, Sort.grow (redrawn W2 dq) osq = W3 := ⟨_, rfl⟩; have HB3 : Hid (Below W2.heap.size W2 W3) := Lib.hid (by rw [← hW3]; exact below_regrown W2 _ _); rw [hW3]; clear hW3 k0 k1 k2 u0 u1 u2 u3 u4; (try clear z1); (try clear q1 q2 q3 q4 q5); go_wp2
          go_ret
          exact ⟨ret_bool (bo_false fun v => Call.no3 HX.out hnf.out (v.2 k (by have := H1.out.1; omega))).symm, bel_then (bel_then HB HB2.out) HB3.out⟩
        have hyf : Hid x.Fine := Lib.hid ⟨hf0, hf1, hf2, hf3⟩
        go_wp2; obtain ⟨W2, hW2⟩ : ∃ W2, wr.alloc (.cells #[.int .i64 x.place, .int .i64 x.lasts, .int .i64 x.lead, .int .i64 x.ahead, .int .i64 x.value] 75) = W2 := ⟨_, rfl⟩; have hB2 : Below wr.heap.size wr W2 := (by rw [← hW2]; exact (by repeat (first | assumption | exact Below.refl _ _ | apply bel_alloc | apply bel_drew | apply bel_drewN | (refine bel_set ?_ (by first | assumption | omega | (simp; done) | (simp; omega)) _)))); have CX : Blk W2 wr.heap.size 75 #[.int .i64 x.place, .int .i64 x.lasts, .int .i64 x.lead, .int .i64 x.ahead, .int .i64 x.value] := (by rw [← hW2]; exact Blk.new _ _ _); have CR := HK.out.below hB2; rw [hW2]; clear hW2; have k0 := cell_regrown (show W2.cell? ⟨w.heap.size, 0, none⟩ = some (.slice A0 n0 c0) from CR.cell 0); have k1 := cell_regrown (show W2.cell? ⟨w.heap.size, 1, none⟩ = some (.slice A1 n1 c1) from CR.cell 1); have k2 := cell_regrown (show W2.cell? ⟨w.heap.size, 2, none⟩ = some (.slice A2 n2 c2) from CR.cell 2); have u0 := cell_regrown (show W2.cell? ⟨wr.heap.size, 0, none⟩ = some (.int .i64 x.place) from CX.cell 0); have u1 := cell_regrown (show W2.cell? ⟨wr.heap.size, 1, none⟩ = some (.int .i64 x.lasts) from CX.cell 1); have u2 := cell_regrown (show W2.cell? ⟨wr.heap.size, 2, none⟩ = some (.int .i64 x.lead) from CX.cell 2); have u3 := cell_regrown (show W2.cell? ⟨wr.heap.size, 3, none⟩ = some (.int .i64 x.ahead) from CX.cell 3); have u4 := cell_regrown (show W2.cell? ⟨wr.heap.size, 4, none⟩ = some (.int .i64 x.value) from CX.cell 4); have z1 := cell_regrown (bel_cell hB2 y0); clear CX CR; have HB2 := Lib.hid hB2; clear hB2; refine wp_region_quiet_below (by kernel_rfl) (by kernel_rfl) ?_; (repeat (go_big_quiet_step ((first | (go_at_call 23; exact Calls.regrown_of (ref3_Length r A0 A1 A2 n0 n1 n2 c0 c1 c2 _ (((H0.out.below HB).below HB2.out).below (below_regrown W2 _ _)) HF.out)) | (go_at_call 65; exact Calls.regrown_same (ref3_in _ _ _ _)))))); refine wpQuiet_nil ?_; intro _ hw'; obtain ⟨⟨dq, osq⟩, hw''⟩ := hw'; subst hw''; obtain ⟨W3, hW3⟩ : ∃ W3, Sort.grow (redrawn W2 dq) osq = W3 := ⟨_, rfl⟩; have HB3 : Hid (Below W2.heap.size W2 W3) := Lib.hid (by rw [← hW3]; exact below_regrown W2 _ _); rw [hW3]; clear hW3 k0 k1 k2 u0 u1 u2 u3 u4; (try clear z1); (try clear q1 q2 q3 q4 q5); go_wp2
        go_roundw
        case rel => exact ⟨k + 1, by omega, by go_num, Lib.hid (HP.out.succ (Call.yes HX.out hb1 (.inr ⟨y, HY.out, hb2⟩) hyf.out)), Lib.hid ((HK.out.below HB2.out).below HB3.out), bel_then (bel_then HB HB2.out) HB3.out⟩
        case measure => simp [intOf]; omega
    · obtain rfl : n = k := by omega
      go_wp2
      go_ret
      refine ⟨ret_bool ?_, HB⟩
      rw [Bool.eq_iff_iff, bo_iff]
      have e1 := H1.out.1
      have e2 : CallsUp r.length l l.length := by rw [e1]; exact HP.out
      go_light
      simp only [decide_eq_true_eq]
      exact ⟨fun hh => ⟨by omega, e2⟩, fun hh => by have := hh.1; omega⟩
set_option maxRecDepth 100000 in
set_option maxHeartbeats 1000000 in
theorem ref3_lasts (l : List Call) (C : Option Addr) (n c j i : Nat) (N : Int) (w : World) (h1 : Rd 5 Call.enc w C n l) (ho : CallsOk N l) (hji : j ≤ i) (hi : i < n) :
    Calls Tryd.prog 108 #[.slice C n c, .int .i64 j, .int .i64 i] w fun e w' => e = .returned (.int .i64 (rmS l j (i - j + 1))) ∧ w = w' := by
  have hn : n ≤ 300 := by have := ho.1; have := h1.1; omega
  have H1 := Lib.hid h1
  have HO := Lib.hid ho
  clear h1 ho
  go_enter Tryd.func108, Tryd.ntmps108
  go_wp2
  go_loop [7, 8] (fun v7 v8 => ∃ k : Nat, j + k ≤ i + 1 ∧ v8 = .int .i64 ((j + k : Nat) : Int) ∧ v7 = .int .i64 (rmS l j k)) (fun _ v8 => i + 1 - (intOf v8).toNat)
  case atStart => exact ⟨0, by omega, by simp, rfl⟩
  case round =>
    obtain ⟨k, hk, rfl, rfl⟩ := hrel
    obtain ⟨b1, b2⟩ := rmS_le HO.out j k
    have q2 : rmS l j k ≤ 1125899906842624 * 300 := by omega
    obtain ⟨sv, hsv⟩ : ∃ sv, rmS l j k = sv := ⟨_, rfl⟩
    rw [hsv] at b1 b2 q2 ⊢
    have HSV := Lib.hid hsv
    clear hsv b2
    by_cases hlt : j + k ≤ i
    · obtain ⟨x, hx⟩ := H1.out.get (i := j + k) (by omega)
      obtain ⟨p1, p2, p3, p4, _⟩ := HO.out.at_ hx
      have HX := Lib.hid hx
      clear hx
      obtain ⟨ad, e, x0, x1, x2, x3, x4⟩ := H1.out.atCall HX.out
      cases e
      have HN := Lib.hid (show rmS l j (k + 1) = sv + x.lasts by rw [rmS_succ HX.out, HSV.out])
      have hmin : sv + x.lasts ≤ 1152921504606846976 := by omega
      go_wp2
      all_goals
        go_round
        case rel => exact ⟨k + 1, by omega, by go_num, by first | rw [HN.out] | (rw [HN.out]; congr 1; omega)⟩
        case measure => simp [intOf]; omega
    · have he : i - j + 1 = k := by omega
      have HE := Lib.hid he
      clear he
      go_wp2
      go_ret
      exact ⟨ret_int (by rw [HE.out, HSV.out]), rfl⟩
/-! ### Plain: the least times grow -/
section
variable {s : Speeds} {r : Road}
theorem quickT_pos {p : Piece} (hs : s.Valid) (hp : p.Ok) : 1 ≤ quickT s p := by
  obtain ⟨h1, h2, h3⟩ := bnd_iff.1 (rowOf_bnd hs hp)
  obtain ⟨_, h4, h5⟩ := surfOf_get hs hp
  unfold quickT
  have h6 : 1 ≤ (rowOf s p).2 * surfOf s p := by
    have := Int.mul_le_mul (show (1 : Int) ≤ (rowOf s p).2 by omega) h4 (by omega) (by omega)
    omega
  have h7 : (rowOf s p).2 * surfOf s p ≤ 70000 := Int.le_trans (Int.mul_le_mul h3 h5 (by omega) (by omega)) (by omega)
  generalize (rowOf s p).2 * surfOf s p = m at *
  have hd : 1 ≤ (m + 99) / 100 := by omega
  have hd2 : (m + 99) / 100 ≤ 700 := by omega
  generalize (m + 99) / 100 = d at *
  exact Int.le_ediv_of_mul_le (by omega) (by omega)
theorem meterOf_pos (hs : s.Valid) (hr : r.Valid) {p : Int} (h0 : 0 ≤ p) (h1 : p < r.length) : 1 ≤ (meterOf s r p).1 := by
  have hm : meterOf s r p ∈ metersOf s r := List.mem_of_getElem? (metersOf_get hr h0 h1)
  unfold metersOf metersUp at hm
  obtain ⟨q, hq, hm⟩ := List.mem_flatMap.1 hm
  have hok := piecesOk_mem hr.pieces q (List.mem_of_mem_take hq)
  rw [(List.mem_replicate.1 hm).2]
  exact quickT_pos hs hok
theorem at1_lt (hs : s.Valid) (hr : r.Valid) {a : Int} (h0 : 0 ≤ a) : ∀ (d : Nat), a + d ≤ r.length → at1 (sumsOf s r) a + d ≤ at1 (sumsOf s r) (a + d)
  | 0, _ => by simp
  | d + 1, h => by
    have ih := at1_lt hs hr h0 d (by omega)
    have hb := meterOf_pos (s := s) hs hr (p := a + d) (by omega) (by omega)
    have e1 := at1_succ hs hr (p := a + d) (by omega) (by omega)
    rw [show a + ((d + 1 : Nat) : Int) = a + d + 1 by omega, e1]
    omega
theorem at1_strict (hs : s.Valid) (hr : r.Valid) {a b : Int} (h0 : 0 ≤ a) (h1 : a < b) (h2 : b ≤ r.length) : at1 (sumsOf s r) a < at1 (sumsOf s r) b := by
  have := at1_lt hs hr h0 (b - a).toNat (by omega)
  rw [show a + (((b - a).toNat : Nat) : Int) = b by omega] at this
  omega
theorem at1_le (hs : s.Valid) (hr : r.Valid) {a b : Int} (h0 : 0 ≤ a) (h1 : a ≤ b) (h2 : b ≤ r.length) : at1 (sumsOf s r) a ≤ at1 (sumsOf s r) b := by
  rcases Int.lt_or_eq_of_le h1 with h | h
  · exact Int.le_of_lt (at1_strict hs hr h0 h h2)
  · rw [h]; exact Int.le_refl _
theorem at1_zero : at1 (sumsOf s r) 0 = 0 := by
  unfold at1 sumsOf
  rw [List.getD_eq_getElem?_getD, show (0 : Int).toNat = 0 from rfl, wsums_get _ (Nat.zero_le _)]
  rfl
theorem at2_zero : at2 (sumsOf s r) 0 = 0 := by
  unfold at2 sumsOf
  rw [List.getD_eq_getElem?_getD, show (0 : Int).toNat = 0 from rfl, wsums_get _ (Nat.zero_le _)]
  rfl
theorem at1_range (hs : s.Valid) (hr : r.Valid) {p : Int} (h0 : 0 ≤ p) (h1 : p ≤ r.length) : 0 ≤ at1 (sumsOf s r) p ∧ at1 (sumsOf s r) p ≤ 1000000000000 := by
  have := btw_bound (s := s) hs hr (Int.le_refl 0) h0 h1
  unfold btwL at this
  rw [at1_zero] at this
  omega
theorem slack_eq {l : List Call} {j k : Nat} {c : Call} : slack (sumsOf s r) l j k c = at1 (sumsOf s r) c.place - rmS l j (k + 1) - c.lead := rfl
end
def LateB (s : Speeds) (r : Road) (l : List Call) (j i : Nat) (p : Int) : Bool := match l[i]? with
  | some c => decide (slack (sumsOf s r) l j (i - j) c < at1 (sumsOf s r) p)
  | none => false
theorem LateB_at {s : Speeds} {r : Road} {l : List Call} {j i : Nat} {p : Int} {c : Call} (h : l[i]? = some c) : LateB s r l j i p = decide (slack (sumsOf s r) l j (i - j) c < at1 (sumsOf s r) p) := by simp [LateB, h]
set_option maxRecDepth 100000 in
set_option maxHeartbeats 2000000 in
theorem ref3_late (s : Speeds) (r : Road) (l : List Call) (j i : Nat) (p : Int) (A0 A1 A2 B2 B3 C : Option Addr) (n0 n1 n2 m2 m3 c0 c1 c2 d2 d3 n c : Nat) (w : World)
    (h0 : Rd 5 Piece.enc w A0 n0 r.pieces) (g2 : Rd 3 SpeedRow.enc w B2 m2 s.rows) (g3 : Rd 1 intEnc w B3 m3 s.surface) (h1 : Rd 5 Call.enc w C n l) (hr : r.Valid) (hs : s.Valid) (ho : CallsOk r.length l) (hji : j ≤ i) (hi : i < n) (hp0 : 0 ≤ p) (hp1 : p ≤ r.length) :
    Calls Tryd.prog 75 #[.agg #[.slice A0 n0 c0, .slice A1 n1 c1, .slice A2 n2 c2], .agg #[.int .i64 s.least, .int .i64 s.most, .slice B2 m2 d2, .slice B3 m3 d3], .slice C n c, .int .i64 j, .int .i64 i, .int .i64 p] w fun e w' => e = .returned (.bool (LateB s r l j i p)) ∧ Below w.heap.size w w' := by
  have hn : n ≤ 300 := by have := ho.1; have := h1.1; omega
  obtain ⟨x, hx⟩ := h1.get hi
  obtain ⟨p1, p2, p3, p4, p5, p6, _⟩ := ho.at_ hx
  obtain ⟨b1, b2⟩ := rmS_le ho j (i - j + 1)
  have b3 : rmS l j (i - j + 1) ≤ 1125899906842624 * 300 := by omega
  obtain ⟨V, hV⟩ : ∃ V, LateB s r l j i p = V := ⟨_, rfl⟩
  rw [hV]
  rw [LateB_at hx, slack_eq] at hV
  have H0 := Lib.hid h0
  have G2 := Lib.hid g2
  have G3 := Lib.hid g3
  have H1 := Lib.hid h1
  have HR := Lib.hid hr
  have HS := Lib.hid hs
  have HO := Lib.hid ho
  have HX := Lib.hid hx
  clear h0 g2 g3 h1 hr hs ho hx b2
  obtain ⟨ad, e, x0, x1, x2, x3, x4⟩ := H1.out.atCall HX.out
  cases e
  have xb := World.block_lt_of_cell? _ _ x0
  by_cases hlt : x.place < p
  · have hst := at1_strict HS.out HR.out p1 hlt hp1
    obtain rfl : V = true := by rw [← hV]; simp; omega
    have hd : decide (x.place < p) = true := decide_eq_true hlt
    clear hV hst hlt
    go_enter Tryd.func75, Tryd.ntmps75
    go_wp2
    go_ret
    exact ⟨rfl, (by repeat (first | assumption | exact Below.refl _ _ | apply bel_alloc | apply bel_drew | apply bel_drewN | (refine bel_set ?_ (by first | assumption | omega | (simp; done) | (simp; omega)) _)))⟩
  · have hd : decide (x.place < p) = false := decide_eq_false hlt
    have hb := btw_bound (s := s) HS.out HR.out hp0 (show p ≤ x.place by omega) p2
    obtain ⟨z1, z2, z3, z4⟩ := hb
    have hV2 : V = decide (btwL s r p x.place < rmS l j (i - j + 1) + x.lead) := by rw [← hV]; unfold btwL; rw [decide_eq_decide]; omega
    have hok : BtwOk s r p x.place := ⟨HR.out, HS.out, hp0, by omega, p2⟩
    have HOK := Lib.hid hok
    have HV := Lib.hid hV2
    clear hV hV2 hok
    have hS : Hid (∀ w d os, Rd 5 Call.enc (Sort.grow (redrawn w d) os) (some ad) n l → Calls Tryd.prog 108 #[.slice (some ad) n c, .int .i64 j, .int .i64 i] (Sort.grow (redrawn w d) os) fun e w'' => e = .returned (.int .i64 (rmS l j (i - j + 1))) ∧ ∃ p : Regrown, w'' = Sort.grow (redrawn w p.d) p.os) := Lib.hid fun w d os h => Calls.regrown_same (ref3_lasts l _ n c j i r.length _ h HO.out hji hi)
    obtain ⟨sv, hsv⟩ : ∃ sv, rmS l j (i - j + 1) = sv := ⟨_, rfl⟩
    rw [hsv] at b1 b3 hS
    have HSV := Lib.hid hsv
    clear hsv
    go_enter Tryd.func75, Tryd.ntmps75
    go_wp2
    obtain ⟨W1, hW1⟩ : ∃ W1, (w.alloc (.cells #[.slice A0 n0 c0, .slice A1 n1 c1, .slice A2 n2 c2] 26)).alloc (.cells #[.int .i64 s.least, .int .i64 s.most, .slice B2 m2 d2, .slice B3 m3 d3] 30) = W1 := ⟨_, rfl⟩
    have hB1 : Below w.heap.size w W1 := by rw [← hW1]; exact (by repeat (first | assumption | exact Below.refl _ _ | apply bel_alloc | apply bel_drew | apply bel_drewN | (refine bel_set ?_ (by first | assumption | omega | (simp; done) | (simp; omega)) _)))
    have CR : Blk W1 w.heap.size 26 #[.slice A0 n0 c0, .slice A1 n1 c1, .slice A2 n2 c2] := by rw [← hW1]; exact (Blk.new _ _ _).alloc _
    have HCS : Hid (Blk W1 (w.heap.size + 1) 30 #[.int .i64 s.least, .int .i64 s.most, .slice B2 m2 d2, .slice B3 m3 d3]) := Lib.hid (by rw [← hW1]; exact Blk.new_at _ _ _ _ (by simp))
    rw [hW1]
    clear hW1
    have k0 := cell_regrown (show W1.cell? ⟨w.heap.size, 0, none⟩ = some (.slice A0 n0 c0) from CR.cell 0); have k1 := cell_regrown (show W1.cell? ⟨w.heap.size, 1, none⟩ = some (.slice A1 n1 c1) from CR.cell 1); have k2 := cell_regrown (show W1.cell? ⟨w.heap.size, 2, none⟩ = some (.slice A2 n2 c2) from CR.cell 2)
    have k3 := cell_regrown (show W1.cell? ⟨w.heap.size + 1, 0, none⟩ = some (.int .i64 s.least) from HCS.out.cell 0)
    have k4 := cell_regrown (show W1.cell? ⟨w.heap.size + 1, 1, none⟩ = some (.int .i64 s.most) from HCS.out.cell 1)
    have k5 := cell_regrown (show W1.cell? ⟨w.heap.size + 1, 2, none⟩ = some (.slice B2 m2 d2) from HCS.out.cell 2)
    have k6 := cell_regrown (show W1.cell? ⟨w.heap.size + 1, 3, none⟩ = some (.slice B3 m3 d3) from HCS.out.cell 3)
    have k7 := cell_regrown (bel_cell hB1 x0)
    have HB1 := Lib.hid hB1
    have y2 := bel_cell hB1 x2
    clear CR hB1 x0 x1 x2 x3 x4 xb
    refine wp_region_quiet_below (by kernel_rfl) (by kernel_rfl) ?_; (repeat (go_big_quiet_step ((go_at_call 24; exact Calls.regrown_of (ref3_Between s r A0 A1 A2 B2 B3 n0 n1 n2 m2 m3 c0 c1 c2 d2 d3 p x.place _ ((H0.out.below HB1.out).below (below_regrown W1 _ _)) ((G2.out.below HB1.out).below (below_regrown W1 _ _)) ((G3.out.below HB1.out).below (below_regrown W1 _ _)) HOK.out))))); refine wpQuiet_nil ?_; intro _ hw'; obtain ⟨⟨dq, osq⟩, hw''⟩ := hw'; subst hw''
    obtain ⟨W2, hW2⟩ : ∃ W2, Sort.grow (redrawn W1 dq) osq = W2 := ⟨_, rfl⟩
    have hB2 : Below W1.heap.size W1 W2 := by rw [← hW2]; exact below_regrown W1 _ _
    have z2' := cell_regrown (bel_cell hB2 y2)
    have HB2 := Lib.hid hB2
    rw [hW2]
    clear hW2 k0 k1 k2 k3 k4 k5 k6 k7 hB2 y2
    go_wp2
    refine wp_region_quiet_below (by kernel_rfl) (by kernel_rfl) ?_; (repeat (go_big_quiet_step ((go_at_call 108; exact hS.out _ _ _ (((H1.out.below HB1.out).below HB2.out).below (below_regrown W2 _ _)))))); refine wpQuiet_nil ?_; intro _ hw'; obtain ⟨⟨dq, osq⟩, hw''⟩ := hw'; subst hw''
    go_wp2
    go_ret
    exact ⟨ret_bool (by rw [HV.out, HSV.out]), bel_then (bel_then HB1.out HB2.out) (below_regrown W2 _ _)⟩
end Go.Proofs.YtinglbcafcjhfaaDoor

namespace Go.Proofs.YtinglbcafcjhfaaDoor
open Go.RowKit
set_option linter.unusedVariables false
set_option linter.unusedSimpArgs false

section
variable {sums : List (Int × Int)} {l : List Call} {a : Nat}
theorem rmR_le_iff (x : Int) : ∀ n : Nat, x ≤ rmR sums l a n ↔ x ≤ 1125899906842624 ∧ ∀ k c, k < n → l[a + k]? = some c → x ≤ slack sums l a k c
  | 0 => by simp [rmR]
  | n + 1 => by
    have ih := rmR_le_iff x n
    cases hc : l[a + n]? with
    | none =>
      simp only [rmR, hc]
      rw [ih]
      refine and_congr_right fun _ => ⟨fun h k c hk hkc => ?_, fun h k c hk hkc => h k c (by omega) hkc⟩
      rcases Nat.lt_or_ge k n with hl | hl
      · exact h k c hl hkc
      · obtain rfl : k = n := by omega
        rw [hc] at hkc
        cases hkc
    | some d =>
      rw [rmR_succ hc]
      constructor
      · intro h
        have h1 : x ≤ rmR sums l a n := by omega
        have h2 : x ≤ slack sums l a n d := by omega
        refine ⟨(ih.1 h1).1, fun k c hk hkc => ?_⟩
        rcases Nat.lt_or_ge k n with hl | hl
        · exact (ih.1 h1).2 k c hl hkc
        · obtain rfl : k = n := by omega
          rw [hc] at hkc
          cases hkc
          exact h2
      · intro ⟨h1, h2⟩
        have h3 := ih.2 ⟨h1, fun k c hk hkc => h2 k c (by omega) hkc⟩
        have h4 := h2 n d (by omega) hc
        omega
theorem rmL_neg_iff : ∀ n : Nat, rmL sums l a n < 0 ↔ ∀ k c, k < n → l[a + k]? = some c → 0 ≤ slack sums l a k c
  | 0 => by simp [rmL]
  | n + 1 => by
    have ih := rmL_neg_iff n
    cases hc : l[a + n]? with
    | none =>
      simp only [rmL, hc]
      rw [ih]
      refine ⟨fun h k c hk hkc => ?_, fun h k c hk hkc => h k c (by omega) hkc⟩
      rcases Nat.lt_or_ge k n with hl | hl
      · exact h k c hl hkc
      · obtain rfl : k = n := by omega
        rw [hc] at hkc
        cases hkc
    | some d =>
      rw [rmL_succ hc]
      constructor
      · intro h k c hk hkc
        by_cases hs : slack sums l a n d < 0 ∧ rmL sums l a n < 0
        · rw [if_pos hs] at h; omega
        · rw [if_neg hs] at h
          rcases Nat.lt_or_ge k n with hl | hl
          · exact ih.1 h k c hl hkc
          · obtain rfl : k = n := by omega
            rw [hc] at hkc
            cases hkc
            omega
      · intro h
        have h1 := h n d (by omega) hc
        rw [if_neg (by omega)]
        exact ih.2 fun k c hk hkc => h k c (by omega) hkc
theorem rmL_first : ∀ (n late : Nat), rmL sums l a n = late → a ≤ late ∧ late < a + n ∧ (∃ c, l[late]? = some c ∧ slack sums l a (late - a) c < 0) ∧ ∀ k c, a + k < late → l[a + k]? = some c → 0 ≤ slack sums l a k c
  | 0, late, h => by simp [rmL] at h
  | n + 1, late, h => by
    cases hc : l[a + n]? with
    | none =>
      simp only [rmL, hc] at h
      obtain ⟨h1, h2, h3, h4⟩ := rmL_first n late h
      exact ⟨h1, by omega, h3, h4⟩
    | some d =>
      rw [rmL_succ hc] at h
      by_cases hs : slack sums l a n d < 0 ∧ rmL sums l a n < 0
      · rw [if_pos hs] at h
        obtain rfl : late = a + n := by omega
        refine ⟨by omega, by omega, ⟨d, hc, by rw [show a + n - a = n by omega]; exact hs.1⟩, fun k c hk hkc => ?_⟩
        exact (rmL_neg_iff n).1 hs.2 k c (by omega) hkc
      · rw [if_neg hs] at h
        obtain ⟨h1, h2, h3, h4⟩ := rmL_first n late h
        exact ⟨h1, by omega, h3, h4⟩
theorem rmL_of_first {n late : Nat} (h1 : a ≤ late) (h2 : late < a + n) {c : Call} (hc : l[late]? = some c) (hs : slack sums l a (late - a) c < 0) (hb : ∀ k d, a + k < late → l[a + k]? = some d → 0 ≤ slack sums l a k d) : rmL sums l a n = late := by
  have hn : ¬rmL sums l a n < 0 := fun h => by
    have := (rmL_neg_iff n).1 h (late - a) c (by omega) (by rw [show a + (late - a) = late by omega]; exact hc)
    omega
  obtain ⟨m, hm⟩ : ∃ m : Nat, rmL sums l a n = m := ⟨(rmL sums l a n).toNat, by omega⟩
  obtain ⟨g1, g2, ⟨d, hd, g3⟩, g4⟩ := rmL_first n m hm
  rw [hm]
  rcases Nat.lt_trichotomy m late with h | h | h
  · have := hb (m - a) d (by omega) (by rw [show a + (m - a) = m by omega]; exact hd)
    omega
  · rw [h]
  · have := g4 (late - a) c (by omega) (by rw [show a + (late - a) = late by omega]; exact hc)
    omega
/-- Up to the m-th call from the j-th one, none ends late if the first begins at p. -/
def FineUp (sums : List (Int × Int)) (l : List Call) (j m : Nat) (p : Int) : Prop := ∀ k c, k < m → l[j + k]? = some c → at1 sums p ≤ slack sums l j k c
theorem FineUp.zero (j : Nat) (p : Int) : FineUp sums l j 0 p := fun k c hk => by omega
theorem FineUp.succ {j m : Nat} {p : Int} (h : FineUp sums l j m p) {c : Call} (hc : l[j + m]? = some c) (hs : at1 sums p ≤ slack sums l j m c) : FineUp sums l j (m + 1) p := fun k d hk hd => by
  rcases Nat.lt_or_ge k m with hl | hl
  · exact h k d hl hd
  · obtain rfl : k = m := by omega
    rw [hc] at hd
    cases hd
    exact hs
theorem FineUp.last {j m : Nat} {p : Int} (h : FineUp sums l j (m + 1) p) {c : Call} (hc : l[j + m]? = some c) : at1 sums p ≤ slack sums l j m c := h m c (by omega) hc
theorem FineUp.pred {j m : Nat} {p : Int} (h : FineUp sums l j (m + 1) p) : FineUp sums l j m p := fun k c hk hc => h k c (by omega) hc
end
theorem last_of_fine {s : Speeds} {r : Road} {l : List Call} {j : Nat} {b g : Int} (hs : s.Valid) (hr : r.Valid) (hb : b ≤ r.length) (h0 : 0 ≤ g) (h1 : g ≤ b) (hf : FineUp (sumsOf s r) l j (l.length - j) g) (hn : ∀ x, g < x → x ≤ b → ¬FineUp (sumsOf s r) l j (l.length - j) x) : LastIs (roomQ (sumsOf s r) l j) b g := by
  refine ⟨h0, h1, .inr ?_, ?_⟩
  · unfold roomQ
    rw [decide_eq_true_eq, rmR_le_iff]
    exact ⟨by have := at1_range (s := s) hs hr h0 (by omega); omega, hf⟩
  · rcases Int.lt_or_eq_of_le h1 with h | h
    · refine .inr ?_
      unfold roomQ
      rw [decide_eq_false_iff_not, rmR_le_iff]
      intro ⟨_, hh⟩
      exact hn (g + 1) (by omega) (by omega) hh
    · exact .inl h
theorem last_unique {s : Speeds} {r : Road} {l : List Call} {j : Nat} {b g g' : Int} (hs : s.Valid) (hr : r.Valid) (hb : b ≤ r.length) (h : LastIs (roomQ (sumsOf s r) l j) b g) (h' : LastIs (roomQ (sumsOf s r) l j) b g') : g = g' := by
  have key : ∀ {g g' : Int}, LastIs (roomQ (sumsOf s r) l j) b g → LastIs (roomQ (sumsOf s r) l j) b g' → ¬g < g' := by
    intro g g' ⟨a1, a2, a3, a4⟩ ⟨c1, c2, c3, c4⟩ hlt
    rcases a4 with a4 | a4
    · omega
    · rcases c3 with c3 | c3
      · omega
      · unfold roomQ at a4 c3
        rw [decide_eq_false_iff_not] at a4
        rw [decide_eq_true_eq] at c3
        have := at1_le (s := s) hs hr (show 0 ≤ g + 1 by omega) (show g + 1 ≤ g' by omega) (by omega)
        omega
  have k1 := key h h'
  have k2 := key h' h
  omega
def GreatPost (s : Speeds) (r : Road) (l : List Call) (j : Nat) (b : Int) (w : World) (e : Ending) (w' : World) : Prop := ∃ g, LastIs (roomQ (sumsOf s r) l j) b g ∧ e = .returned (.int .i64 g) ∧ Below w.heap.size w w'
set_option maxRecDepth 100000 in
set_option maxHeartbeats 4000000 in
theorem ref3_greatest (s : Speeds) (r : Road) (l : List Call) (j : Nat) (x : Call) (A0 A1 A2 B2 B3 C : Option Addr) (n0 n1 n2 m2 m3 c0 c1 c2 d2 d3 n c : Nat) (w : World)
    (h0 : Rd 5 Piece.enc w A0 n0 r.pieces) (g2 : Rd 3 SpeedRow.enc w B2 m2 s.rows) (g3 : Rd 1 intEnc w B3 m3 s.surface) (h1 : Rd 5 Call.enc w C n l) (hr : r.Valid) (hs : s.Valid) (ho : CallsOk r.length l) (hx : l[j]? = some x) (hin : rmL (sumsOf s r) l j (l.length - j) < 0) :
    Calls Tryd.prog 76 #[.agg #[.slice A0 n0 c0, .slice A1 n1 c1, .slice A2 n2 c2], .agg #[.int .i64 s.least, .int .i64 s.most, .slice B2 m2 d2, .slice B3 m3 d3], .slice C n c, .int .i64 j] w (GreatPost s r l j x.place w) := by
  have hn : n ≤ 300 := by have := ho.1; have := h1.1; omega
  have hj : j < n := by have := (List.getElem?_eq_some_iff.1 hx).1; have := h1.1; omega
  have hsh := hr.short
  obtain ⟨p1, p2, _⟩ := ho.at_ hx
  have hz : FineUp (sumsOf s r) l j (l.length - j) 0 := fun k c hk hc => by rw [at1_zero]; exact (rmL_neg_iff _).1 hin k c hk hc
  have H0 := Lib.hid h0
  have G2 := Lib.hid g2
  have G3 := Lib.hid g3
  have H1 := Lib.hid h1
  have HR := Lib.hid hr
  have HS := Lib.hid hs
  have HO := Lib.hid ho
  have HX := Lib.hid hx
  have HZ := Lib.hid hz
  have HN := Lib.hid h1.1
  clear h0 g2 g3 h1 hr hs ho hx hz hin
  obtain ⟨ad, e, x0, x1, x2, x3, x4⟩ := H1.out.atCall HX.out
  cases e
  have xb := World.block_lt_of_cell? _ _ x0
  go_enter Tryd.func76, Tryd.ntmps76
  go_wp2
  clear x0 x1 x2 x3 x4 xb
  go_loopw [9] (fun v9 wr => ∃ g : Int, v9 = .int .i64 g ∧ (0 ≤ g ∧ g ≤ x.place) ∧ Hid (∀ y, g < y → y ≤ x.place → ¬FineUp (sumsOf s r) l j (l.length - j) y) ∧ Hid (Blk wr w.heap.size 26 #[.slice A0 n0 c0, .slice A1 n1 c1, .slice A2 n2 c2]) ∧ Hid (Blk wr (w.heap.size + 1) 30 #[.int .i64 s.least, .int .i64 s.most, .slice B2 m2 d2, .slice B3 m3 d3]) ∧ Hid (Below w.heap.size w wr)) (fun v9 _ => (intOf v9).toNat)
  case atStart => exact ⟨x.place, rfl, ⟨p1, Int.le_refl _⟩, Lib.hid fun y h1 h2 => by omega, Lib.hid ((Blk.new _ _ _).alloc _), Lib.hid (Blk.new_at _ _ _ _ (by simp)), Lib.hid (by repeat (first | assumption | exact Below.refl _ _ | apply bel_alloc | apply bel_drew | apply bel_drewN | (refine bel_set ?_ (by first | assumption | omega | (simp; done) | (simp; omega)) _)))⟩
  case round =>
    obtain ⟨g, rfl, ⟨hg0, hg1⟩, HG, HKR, HKS, HB⟩ := hrel
    go_wp2
    obtain ⟨wo, hwo⟩ : ∃ wo : World, wr = wo := ⟨_, rfl⟩
    subst hwo
    go_loopw [10, 11] (fun v10 v11 wi => ∃ m : Nat, j + m ≤ n ∧ v11 = .int .i64 ((j + m : Nat) : Int) ∧ v10 = .bool (bo (FineUp (sumsOf s r) l j m g)) ∧ Hid (Blk wi w.heap.size 26 #[.slice A0 n0 c0, .slice A1 n1 c1, .slice A2 n2 c2]) ∧ Hid (Blk wi (w.heap.size + 1) 30 #[.int .i64 s.least, .int .i64 s.most, .slice B2 m2 d2, .slice B3 m3 d3]) ∧ Hid (Below w.heap.size w wi)) (fun _ v11 _ => n - (intOf v11).toNat)
    case atStart => exact ⟨0, by omega, by simp, by rw [bo_true (FineUp.zero _ _)], HKR, HKS, HB⟩
    case round =>
      obtain ⟨m, hm, rfl, rfl, HIR, HIS, HIB⟩ := hrel
      have r0 := HIR.out.cell 0
      have r1 := HIR.out.cell 1
      have r2 := HIR.out.cell 2
      have s0 := HIS.out.cell 0
      have s1 := HIS.out.cell 1
      have s2 := HIS.out.cell 2
      have s3 := HIS.out.cell 3
      by_cases hlt : j + m < n
      · obtain ⟨y, hy⟩ := H1.out.get hlt
        have HY := Lib.hid hy
        clear hy
        by_cases hf : FineUp (sumsOf s r) l j m g
        · have hb := bo_true hf
          have HF := Lib.hid hf
          clear hf
          by_cases hl : at1 (sumsOf s r) g ≤ slack (sumsOf s r) l j m y
          · have hv : LateB s r l j (j + m) g = false := by rw [LateB_at HY.out, show j + m - j = m by omega]; simp; omega
            have HN1 := Lib.hid (bo_true (HF.out.succ HY.out hl))
            clear hl
            go_wp2_with (go_at_call 75; go_must ((refine (ref3_late s r l j (j + m) g A0 A1 A2 B2 B3 _ n0 n1 n2 m2 m3 c0 c1 c2 d2 d3 n c _ (H0.out.below HIB.out) (G2.out.below HIB.out) (G3.out.below HIB.out) (H1.out.below HIB.out) HR.out HS.out HO.out (by omega) hlt hg0 (by omega)).mono ?_; rintro e w1 ⟨rfl, hw1⟩)))
            go_roundw
            case rel => exact ⟨m + 1, by omega, by go_num, by rw [HN1.out], Lib.hid (HIR.out.below hw1), Lib.hid (HIS.out.below hw1), Lib.hid (bel_then HIB.out hw1)⟩
            case measure => simp [intOf]; omega
          · have hv : LateB s r l j (j + m) g = true := by rw [LateB_at HY.out, show j + m - j = m by omega]; simp; omega
            have HN1 := Lib.hid (bo_false fun h : FineUp (sumsOf s r) l j (m + 1) g => hl (h.last HY.out))
            clear hl
            go_wp2_with (go_at_call 75; go_must ((refine (ref3_late s r l j (j + m) g A0 A1 A2 B2 B3 _ n0 n1 n2 m2 m3 c0 c1 c2 d2 d3 n c _ (H0.out.below HIB.out) (G2.out.below HIB.out) (G3.out.below HIB.out) (H1.out.below HIB.out) HR.out HS.out HO.out (by omega) hlt hg0 (by omega)).mono ?_; rintro e w1 ⟨rfl, hw1⟩)))
            go_roundw
            case rel => exact ⟨m + 1, by omega, by go_num, by rw [HN1.out], Lib.hid (HIR.out.below hw1), Lib.hid (HIS.out.below hw1), Lib.hid (bel_then HIB.out hw1)⟩
            case measure => simp [intOf]; omega
        · have hb := bo_false hf
          have HN1 := Lib.hid (bo_false fun h : FineUp (sumsOf s r) l j (m + 1) g => hf h.pred)
          clear hf
          go_wp2
          go_roundw
          case rel => exact ⟨m + 1, by omega, by go_num, by rw [HN1.out], HIR, HIS, HIB⟩
          case measure => simp [intOf]; omega
      · have hm2 : m = l.length - j := by have := HN.out; omega
        have HM := Lib.hid hm2
        clear hm2
        by_cases hf : FineUp (sumsOf s r) l j m g
        · have hb := bo_true hf
          have HF := Lib.hid hf
          clear hf
          go_wp2
          rotate_left
          · exact absurd (hb.symm.trans ‹bo (FineUp (sumsOf s r) l j m g) = false›) (by simp)
          go_ret
          exact ⟨g, last_of_fine HS.out HR.out p2 hg0 hg1 (by have := HF.out; rw [HM.out] at this; exact this) HG.out, rfl, HIB.out⟩
        · have hb := bo_false hf
          have hf2 : ¬FineUp (sumsOf s r) l j (l.length - j) g := by have := HM.out; rw [this] at hf; exact hf
          have hgp : 0 < g := by
            rcases Int.lt_or_eq_of_le hg0 with h | h
            · exact h
            · exact absurd (by rw [← h]; exact HZ.out) hf2
          have HN1 := Lib.hid (show ∀ y, g - 1 < y → y ≤ x.place → ¬FineUp (sumsOf s r) l j (l.length - j) y from fun y h1 h2 => by
            by_cases hy : y = g
            · rw [hy]; exact hf2
            · exact HG.out y (by omega) h2)
          clear hf hf2
          go_wp2
          · exact absurd (hb.symm.trans ‹bo (FineUp (sumsOf s r) l j m g) = true›) (by simp)
          go_roundw
          case rel => exact ⟨g - 1, rfl, ⟨by omega, by omega⟩, HN1, HIR, HIS, HIB⟩
          case measure => simp [intOf]; omega
end Go.Proofs.YtinglbcafcjhfaaDoor
