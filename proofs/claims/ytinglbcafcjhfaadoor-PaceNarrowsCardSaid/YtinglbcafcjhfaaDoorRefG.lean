/- The contract of the reference's Plan. -/
import Derived.Test.YtinglbcafcjhfaaDoorRefF
namespace Go.Proofs.YtinglbcafcjhfaaDoor
open Go.RowKit
set_option linter.unusedVariables false
set_option linter.unusedSimpArgs false

def RPlanPost (sums : List (Int × Int)) (l : List Call) (w : World) (e : Ending) (w' : World) : Prop := Below w.heap.size w w' ∧
  ((∃ j late : Nat, j < l.length ∧ InTimeUp sums l j ∧ rmL sums l j (l.length - j) = late ∧ e = .returned (.tuple #[.slice none 0 0, .agg #[.int .i64 j, .int .i64 late, .bool false], .bool false])) ∨
   (InTimeUp sums l l.length ∧
    ((∃ (j : Nat) (gs : List Int) (x : Call) (g : Int), GsIs sums l gs j ∧ (∀ i, i < j → ¬TooEarly sums l gs i) ∧ l[j]? = some x ∧ LastIs (roomQ sums l j) x.place g ∧ x.ahead < at2 sums x.place - at2 sums g ∧ e = .returned (.tuple #[.slice none 0 0, .agg #[.int .i64 j, .int .i64 j, .bool true], .bool false])) ∨
     (∃ gs, GsIs sums l gs l.length ∧ (∀ i, i < l.length → ¬TooEarly sums l gs i) ∧ ∃ A c, Rd 1 intEnc w' A l.length gs ∧ e = .returned (.tuple #[.slice A l.length c, .agg #[.int .i64 0, .int .i64 0, .bool false], .bool true])))))
set_option maxRecDepth 100000 in
set_option maxHeartbeats 4000000 in
theorem ref3_Plan (s : Speeds) (r : Road) (l : List Call) (A0 A1 A2 B2 B3 C : Option Addr) (n0 n1 n2 m2 m3 c0 c1 c2 d2 d3 n c : Nat) (w : World)
    (h0 : Rd 5 Piece.enc w A0 n0 r.pieces) (g2 : Rd 3 SpeedRow.enc w B2 m2 s.rows) (g3 : Rd 1 intEnc w B3 m3 s.surface) (h1 : Rd 5 Call.enc w C n l) (hr : r.Valid) (hs : s.Valid) (ho : CallsOk r.length l) :
    Calls Tryd.prog 33 #[.agg #[.slice A0 n0 c0, .slice A1 n1 c1, .slice A2 n2 c2], .agg #[.int .i64 s.least, .int .i64 s.most, .slice B2 m2 d2, .slice B3 m3 d3], .slice C n c] w (RPlanPost (sumsOf s r) l w) := by
  have hn : n ≤ 300 := by have := ho.1; have := h1.1; omega
  have hr0 : 0 ≤ r.length := (hr.fit.2 _ (Nat.le_refl _)).1
  obtain rfl : n = l.length := h1.1.symm
  have H0 := Lib.hid h0
  have G2 := Lib.hid g2
  have G3 := Lib.hid g3
  have H1 := Lib.hid h1
  have HR := Lib.hid hr
  have HS := Lib.hid hs
  have HO := Lib.hid ho
  clear h0 g2 g3 h1 hr hs ho
  go_enter Tryd.func33, Tryd.ntmps33
  go_wp2
  go_loopw [9] (fun v9 wr => ∃ k : Nat, k ≤ l.length ∧ v9 = .int .i64 k ∧ Hid (InTimeUp (sumsOf s r) l k) ∧ Hid (Blk wr w.heap.size 26 #[.slice A0 n0 c0, .slice A1 n1 c1, .slice A2 n2 c2]) ∧ Hid (Blk wr (w.heap.size + 1) 30 #[.int .i64 s.least, .int .i64 s.most, .slice B2 m2 d2, .slice B3 m3 d3]) ∧ Hid (Blk wr (w.heap.size + 1 + 1) 58 #[.int .i64 0, .int .i64 0, .bool false]) ∧ Hid (Below w.heap.size w wr)) (fun v9 _ => l.length - (intOf v9).toNat)
  case atStart => exact ⟨0, Nat.zero_le _, rfl, Lib.hid (fun i hi => by omega), Lib.hid (((Blk.new _ _ _).alloc _).alloc _), Lib.hid ((Blk.new_at _ _ _ _ (by simp)).alloc _), Lib.hid (Blk.new_at _ _ _ _ (by simp)), Lib.hid (by repeat (first | assumption | exact Below.refl _ _ | apply bel_alloc | apply bel_drew | apply bel_drewN | (refine bel_set ?_ (by first | assumption | omega | (simp; done) | (simp; omega)) _)))⟩
  case round =>
    obtain ⟨k, hk, rfl, HI, HKR, HKS, HKC, HB⟩ := hrel
    by_cases hkl : k < l.length
    · go_wp2
      obtain ⟨wo, hwo⟩ : ∃ wo : World, wr = wo := ⟨_, rfl⟩
      subst hwo
      go_loopw [10] (fun v10 wi => ∃ m : Nat, k + m ≤ l.length ∧ v10 = .int .i64 ((k + m : Nat) : Int) ∧ Hid (FineUp (sumsOf s r) l k m 0) ∧ Hid (Blk wi w.heap.size 26 #[.slice A0 n0 c0, .slice A1 n1 c1, .slice A2 n2 c2]) ∧ Hid (Blk wi (w.heap.size + 1) 30 #[.int .i64 s.least, .int .i64 s.most, .slice B2 m2 d2, .slice B3 m3 d3]) ∧ Hid (Blk wi (w.heap.size + 1 + 1) 58 #[.int .i64 0, .int .i64 0, .bool false]) ∧ Hid (Below w.heap.size w wi)) (fun v10 _ => l.length - (intOf v10).toNat)
      case atStart => exact ⟨0, by omega, by simp, Lib.hid (FineUp.zero _ _), HKR, HKS, HKC, HB⟩
      case round =>
        obtain ⟨m, hm, rfl, HF, HIR, HIS, HIC, HIB⟩ := hrel
        have r0 := HIR.out.cell 0
        have r1 := HIR.out.cell 1
        have r2 := HIR.out.cell 2
        have s0 := HIS.out.cell 0
        have s1 := HIS.out.cell 1
        have s2 := HIS.out.cell 2
        have s3 := HIS.out.cell 3
        by_cases hlt : k + m < l.length
        · obtain ⟨y, hy⟩ := H1.out.get hlt
          have HY := Lib.hid hy
          clear hy
          by_cases hl : 0 ≤ slack (sumsOf s r) l k m y
          · have hv : LateB s r l k (k + m) 0 = false := by rw [LateB_at HY.out, show k + m - k = m by omega, at1_zero]; simp; omega
            have HN1 := Lib.hid (HF.out.succ HY.out (by rw [at1_zero]; exact hl))
            clear hl
            go_wp2_with (go_at_call 75; go_must ((refine (ref3_late s r l k (k + m) 0 A0 A1 A2 B2 B3 C n0 n1 n2 m2 m3 c0 c1 c2 d2 d3 l.length c _ (H0.out.below HIB.out) (G2.out.below HIB.out) (G3.out.below HIB.out) (H1.out.below HIB.out) HR.out HS.out HO.out (by omega) hlt (Int.le_refl 0) hr0).mono ?_; rintro e w1 ⟨rfl, hw1⟩)))
            go_roundw
            case rel => exact ⟨m + 1, by omega, by go_num, HN1, Lib.hid (HIR.out.below hw1), Lib.hid (HIS.out.below hw1), Lib.hid (HIC.out.below hw1), Lib.hid (bel_then HIB.out hw1)⟩
            case measure => simp [intOf]; omega
          · have hv : LateB s r l k (k + m) 0 = true := by rw [LateB_at HY.out, show k + m - k = m by omega, at1_zero]; simp; omega
            have HN1 := Lib.hid (show rmL (sumsOf s r) l k (l.length - k) = ((k + m : Nat) : Int) from rmL_of_first (by omega) (by omega) HY.out (by rw [show k + m - k = m by omega]; omega) (fun i d hi hd => by have := HF.out i d (by omega) hd; rw [at1_zero] at this; exact this))
            clear hl
            go_wp2_with (go_at_call 75; go_must ((refine (ref3_late s r l k (k + m) 0 A0 A1 A2 B2 B3 C n0 n1 n2 m2 m3 c0 c1 c2 d2 d3 l.length c _ (H0.out.below HIB.out) (G2.out.below HIB.out) (G3.out.below HIB.out) (H1.out.below HIB.out) HR.out HS.out HO.out (by omega) hlt (Int.le_refl 0) hr0).mono ?_; rintro e w1 ⟨rfl, hw1⟩; have CC := HIC.out.below hw1; have d0' := CC.cell 0; have d1' := CC.cell 1; have d2' := CC.cell 2; have df0 := CC.frozen 0; have df1 := CC.frozen 1; have df2 := CC.frozen 2; have HCC := Lib.hid CC; clear CC)))
            have F7 := (((HCC.out.set 0 (.int .i64 k)).set 1 (.int .i64 ((k : Int) + (m : Int)))).set 2 (.bool false))
            have CB := bel_then HIB.out hw1
            have z0 := F7.cell 0
            have z1 := F7.cell 1
            have z2 := F7.cell 2
            clear d0' d1' d2' df0 df1 df2
            refine bodyPost_ret (v := .tuple #[.slice none 0 0, .agg #[.int .i64 k, .int .i64 ((k : Int) + (m : Int)), .bool false], .bool false]) (by simp [results, Tryd.results33, go_sem, z0, z1, z2]) rfl ⟨(by repeat (first | assumption | exact Below.refl _ _ | apply bel_alloc | apply bel_drew | apply bel_drewN | (refine bel_set ?_ (by first | assumption | omega | (simp; done) | (simp; omega)) _))), .inl ⟨k, k + m, hkl, HI.out, HN1.out, by simp⟩⟩
        · have hm2 : m = l.length - k := by omega
          have HN1 := Lib.hid (HI.out.succ ((rmL_neg_iff _).2 fun i d hi hd => by have := HF.out i d (by omega) hd; rw [at1_zero] at this; exact this))
          clear hm2
          go_wp2
          go_roundw
          case rel => exact ⟨k + 1, by omega, by go_num, HN1, HIR, HIS, HIC, HIB⟩
          case measure => simp [intOf]; omega
    · obtain rfl : k = l.length := by omega
      go_wp2
      obtain ⟨wo, hwo⟩ : ∃ wo : World, wr = wo := ⟨_, rfl⟩
      subst hwo
      go_loopw [11, 12] (fun v11 v12 wi => ∃ (j : Nat) (v : Value) (gs : List Int), j ≤ l.length ∧ v12 = .int .i64 j ∧ v11 = v ∧ Hid (GsIs (sumsOf s r) l gs j) ∧ Hid (∀ i, i < j → ¬TooEarly (sumsOf s r) l gs i) ∧ Hid (Own 1 intEnc 3 wi w.heap.size v gs) ∧ Hid (Blk wi w.heap.size 26 #[.slice A0 n0 c0, .slice A1 n1 c1, .slice A2 n2 c2]) ∧ Hid (Blk wi (w.heap.size + 1) 30 #[.int .i64 s.least, .int .i64 s.most, .slice B2 m2 d2, .slice B3 m3 d3]) ∧ Hid (Blk wi (w.heap.size + 1 + 1) 58 #[.int .i64 0, .int .i64 0, .bool false]) ∧ Hid (Below w.heap.size w wi)) (fun _ v12 _ => l.length - (intOf v12).toNat)
      case atStart => exact ⟨0, _, [], Nat.zero_le _, rfl, rfl, Lib.hid GsIs.zero, Lib.hid (fun i hi => by omega), Lib.hid Own.nil, HKR, HKS, HKC, HB⟩
      case round =>
        obtain ⟨j, v, gs, hj, rfl, rfl, HGs, HE, HO1, HIR, HIS, HIC, HIB⟩ := hrel
        have r0 := HIR.out.cell 0
        have r1 := HIR.out.cell 1
        have r2 := HIR.out.cell 2
        have s0 := HIS.out.cell 0
        have s1 := HIS.out.cell 1
        have s2 := HIS.out.cell 2
        have s3 := HIS.out.cell 3
        by_cases hjl : j < l.length
        · obtain ⟨x, hx⟩ := H1.out.get hjl
          obtain ⟨px1, px2, px3, px4, px5, px6, px7, px8, _, _⟩ := HO.out.at_ hx
          have HX := Lib.hid hx
          clear hx
          go_wp2_with (go_at_call 76; go_must ((refine (ref3_greatest s r l j x A0 A1 A2 B2 B3 C n0 n1 n2 m2 m3 c0 c1 c2 d2 d3 l.length c _ (H0.out.below HIB.out) (G2.out.below HIB.out) (G3.out.below HIB.out) (H1.out.below HIB.out) HR.out HS.out HO.out HX.out (HI.out j hjl)).mono ?_; rintro e w1 ⟨g, hg, rfl, hw1⟩)))
          obtain ⟨hg0, hg1, hg2, hg3⟩ := hg
          have HG : Hid (LastIs (roomQ (sumsOf s r) l j) x.place g) := Lib.hid ⟨hg0, hg1, hg2, hg3⟩
          clear hg2 hg3 r0 r1 r2 s0 s1 s2 s3
          have HR1 := Lib.hid (HIR.out.below hw1)
          have HS1 := Lib.hid (HIS.out.below hw1)
          have HC1 := Lib.hid (HIC.out.below hw1)
          have HO2 := Lib.hid (HO1.out.below hw1)
          have HB1 := Lib.hid (bel_then HIB.out hw1)
          obtain ⟨ad, e, x0, x1, x2, x3, x4⟩ := (H1.out.below HB1.out).atCall HX.out
          cases e
          have k0 := cell_regrown (show w1.cell? ⟨w.heap.size, 0, none⟩ = some (.slice A0 n0 c0) from HR1.out.cell 0)
          have k1 := cell_regrown (show w1.cell? ⟨w.heap.size, 1, none⟩ = some (.slice A1 n1 c1) from HR1.out.cell 1)
          have k2 := cell_regrown (show w1.cell? ⟨w.heap.size, 2, none⟩ = some (.slice A2 n2 c2) from HR1.out.cell 2)
          have k3 := cell_regrown (show w1.cell? ⟨w.heap.size + 1, 0, none⟩ = some (.int .i64 s.least) from HS1.out.cell 0)
          have k4 := cell_regrown (show w1.cell? ⟨w.heap.size + 1, 1, none⟩ = some (.int .i64 s.most) from HS1.out.cell 1)
          have k5 := cell_regrown (show w1.cell? ⟨w.heap.size + 1, 2, none⟩ = some (.slice B2 m2 d2) from HS1.out.cell 2)
          have k6 := cell_regrown (show w1.cell? ⟨w.heap.size + 1, 3, none⟩ = some (.slice B3 m3 d3) from HS1.out.cell 3)
          have k7 := cell_regrown x0
          clear hw1 x0 x1 x2 x4
          have hok : BtwOk s r g x.place := ⟨HR.out, HS.out, hg0, hg1, px2⟩
          have HOK := Lib.hid hok
          clear hok
          refine wp_region_quiet_below (by kernel_rfl) (by kernel_rfl) ?_; (repeat (go_big_quiet_step ((go_at_call 24; exact Calls.regrown_of (ref3_Between s r A0 A1 A2 B2 B3 n0 n1 n2 m2 m3 c0 c1 c2 d2 d3 g x.place _ ((H0.out.below HB1.out).below (below_regrown w1 _ _)) ((G2.out.below HB1.out).below (below_regrown w1 _ _)) ((G3.out.below HB1.out).below (below_regrown w1 _ _)) HOK.out))))); refine wpQuiet_nil ?_; intro _ hw'; obtain ⟨⟨dq, osq⟩, hw''⟩ := hw'; subst hw''
          obtain ⟨W2, hW2⟩ : ∃ W2, Sort.grow (redrawn w1 dq) osq = W2 := ⟨_, rfl⟩
          have hB2 : Below w1.heap.size w1 W2 := by rw [← hW2]; exact below_regrown w1 _ _
          have y3 := bel_cell hB2 x3
          have HR2 := Lib.hid (HR1.out.below hB2)
          have HS2 := Lib.hid (HS1.out.below hB2)
          have HC2 := Lib.hid (HC1.out.below hB2)
          have HO3 := Lib.hid (HO2.out.below hB2)
          have HB2 := Lib.hid (bel_then HB1.out hB2)
          rw [hW2]
          clear hW2 k0 k1 k2 k3 k4 k5 k6 k7 x3 hB2
          by_cases htl : x.ahead < btwM s r g x.place
          · have hd : decide (x.ahead < btwM s r g x.place) = true := decide_eq_true htl
            have HTL := Lib.hid htl
            have d0' := HC2.out.cell 0
            have d1' := HC2.out.cell 1
            have d2' := HC2.out.cell 2
            have df0 := HC2.out.frozen 0
            have df1 := HC2.out.frozen 1
            have df2 := HC2.out.frozen 2
            clear htl
            go_wp2
            have F7 := (((HC2.out.set 0 (.int .i64 j)).set 1 (.int .i64 j)).set 2 (.bool true))
            have CB := HB2.out
            have z0 := F7.cell 0
            have z1 := F7.cell 1
            have z2 := F7.cell 2
            clear d0' d1' d2' df0 df1 df2
            refine bodyPost_ret (v := .tuple #[.slice none 0 0, .agg #[.int .i64 j, .int .i64 j, .bool true], .bool false]) (by simp [results, Tryd.results33, go_sem, z0, z1, z2]) rfl ⟨(by repeat (first | assumption | exact Below.refl _ _ | apply bel_alloc | apply bel_drew | apply bel_drewN | (refine bel_set ?_ (by first | assumption | omega | (simp; done) | (simp; omega)) _))), .inr ⟨HI.out, .inl ⟨j, gs, x, g, HGs.out, HE.out, HX.out, HG.out, HTL.out, rfl⟩⟩⟩
          · have hd : decide (x.ahead < btwM s r g x.place) = false := decide_eq_false htl
            have HTL := Lib.hid htl
            clear htl
            have hgl : gs.length ≤ 300 := by have := HGs.out.1; omega
            have HE2 := Lib.hid (show ∀ i, i < j + 1 → ¬TooEarly (sumsOf s r) l (gs ++ [g]) i from fun i hi hh => by
              rcases Nat.lt_or_ge i j with hl | hl
              · exact HE.out i hl ((tooEarly_app HGs.out.1 hl).1 hh)
              · obtain rfl : i = j := by omega
                exact HTL.out ((tooEarly_last HGs.out.1 HX.out).1 hh))
            go_wp2_with (at_builtin; refine own_append (sz := 1) (enc := intEnc) intEnc_len rfl _ _ 28 (.int .i64 0) 8 rfl Tryd.underlying28 info_int rfl (by decide) (by decide) (g) #[.int .i64 (g)] rfl (w0 := w) (xs := gs) _ HO3.out rfl _ rfl (by simp) (by repeat (first | assumption | exact Below.refl _ _ | apply bel_alloc | apply bel_drew | apply bel_drewN | (refine bel_set ?_ (by first | assumption | omega | (simp; done) | (simp; omega)) _))) (by omega) ?_; intro g1 cap w9 hown hb9 hg9; (have M1 := Lib.hid (HR2.out.grown hg9 (HO3.out.ne HR2.out (by decide))); have M2 := Lib.hid (HS2.out.grown hg9 (HO3.out.ne HS2.out (by decide))); have M3 := Lib.hid (HC2.out.grown hg9 (HO3.out.ne HC2.out (by decide))); have MO := Lib.hid hown; have MB := Lib.hid hb9; clear hown hb9 hg9))
            go_roundw
            case rel => exact ⟨j + 1, _, gs ++ [g], by omega, by go_num, rfl, Lib.hid (HGs.out.succ HX.out HG.out), HE2, MO, M1, M2, M3, MB⟩
            case measure => simp [intOf]; omega
        · obtain rfl : j = l.length := by omega
          have d0' := HIC.out.cell 0
          have d1' := HIC.out.cell 1
          have d2' := HIC.out.cell 2
          have df0 := HIC.out.frozen 0
          have df1 := HIC.out.frozen 1
          have df2 := HIC.out.frozen 2
          go_wp2
          have hne := HO1.out.ne HIC.out (by decide)
          have F7 := (((HIC.out.set 0 (.int .i64 0)).set 1 (.int .i64 0)).set 2 (.bool false))
          have FO := ((HO1.out.far (p := ⟨w.heap.size + 1 + 1, 0, none⟩) hne (.int .i64 0)).far (p := ⟨w.heap.size + 1 + 1, 1, none⟩) hne (.int .i64 0)).far (p := ⟨w.heap.size + 1 + 1, 2, none⟩) hne (.bool false)
          have CB := HIB.out
          have z0 := F7.cell 0
          have z1 := F7.cell 1
          have z2 := F7.cell 2
          clear d0' d1' d2' df0 df1 df2
          refine bodyPost_ret (v := .tuple #[u11, .agg #[.int .i64 0, .int .i64 0, .bool false], .bool true]) (by simp [results, Tryd.results33, go_sem, z0, z1, z2]) rfl ⟨(by repeat (first | assumption | exact Below.refl _ _ | apply bel_alloc | apply bel_drew | apply bel_drewN | (refine bel_set ?_ (by first | assumption | omega | (simp; done) | (simp; omega)) _))), .inr ⟨HI.out, .inr ⟨gs, HGs.out, HE.out, ?_⟩⟩⟩
          obtain ⟨A, cc, hu, hcc, hrd⟩ := FO.reads intEnc_len
          have hgl := HGs.out.1
          rw [hgl] at hu hcc hrd
          exact ⟨A, cc, hrd, by rw [hu]⟩
end Go.Proofs.YtinglbcafcjhfaaDoor
