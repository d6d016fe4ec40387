/- pace.Fits of what is not as defined; the contract of the reference's Fits. -/
import Derived.Test.YtinglbcafcjhfaaDoorFitC
namespace Go.Proofs.YtinglbcafcjhfaaDoor
open Go.RowKit
set_option linter.unusedVariables false
set_option linter.unusedSimpArgs false

set_option maxRecDepth 100000 in
set_option maxHeartbeats 4000000 in
theorem pace_Fits_no (s : Speeds) (r : Road) (l : List Passing) (run : List Int) (A0 A1 A2 B2 B3 C D : Option Addr) (n0 n1 n2 m2 m3 c0 c1 c2 d2 d3 n c m d : Nat) (w : World) (h0 : Rd 5 Piece.enc w A0 n0 r.pieces) (h1 : Rd 2 Crest.enc w A1 n1 r.crests) (h2 : Rd 3 Junction.enc w A2 n2 r.juncs) (g2 : Rd 3 SpeedRow.enc w B2 m2 s.rows) (g3 : Rd 1 intEnc w B3 m3 s.surface) (hc : Rd 3 Passing.enc w C n l) (hd : Rd 1 intEnc w D m run) (hno : ¬(r.Valid ∧ s.Valid ∧ PassOk r.length l ∧ (run.length : Int) = r.length + 1)) :
    Calls Tryd.prog 35 #[.agg #[.slice A0 n0 c0, .slice A1 n1 c1, .slice A2 n2 c2], .agg #[.int .i64 s.least, .int .i64 s.most, .slice B2 m2 d2, .slice B3 m3 d3], .slice C n c, .slice D m d] w fun e w' => e = .returned (.tuple #[.bool false, .int .i64 2]) ∧ Below w.heap.size w w' := by
  have H0 := Lib.hid h0; have H1 := Lib.hid h1; have H2 := Lib.hid h2; have G2 := Lib.hid g2; have G3 := Lib.hid g3; clear h0 h1 h2 g2 g3
  have HC := Lib.hid hc
  have HD := Lib.hid hd
  obtain rfl : n = l.length := hc.1.symm
  obtain rfl : m = run.length := hd.1.symm
  by_cases hv : r.Valid ∧ s.Valid
  · have HR := Lib.hid hv.1
    have HS := Lib.hid hv.2
    have hl : 0 ≤ r.length := (hv.1.fit.2 _ (Nat.le_refl _)).1
    obtain ⟨N, hN⟩ : ∃ N : Nat, (N : Int) = r.length := ⟨r.length.toNat, by omega⟩
    have HN : Hid (r.length.toNat = N) := Lib.hid (by omega)
    have hcs : bo (PassOk N l) = false ∨ bo (PassOk N l) = true ∧ ((run.length : Int) != (N + 1 : Nat)) = true := by
      by_cases h : PassOk N l
      · refine .inr ⟨bo_true h, ?_⟩
        have : ¬(run.length : Int) = r.length + 1 := fun k => hno ⟨hv.1, hv.2, by rw [← hN]; exact h, k⟩
        simp only [bne_iff_ne, ne_eq]
        omega
      · exact .inl (bo_false h)
    clear hc hd hv hl hN hno
    rcases hcs with hbo | ⟨hbo, hne⟩
    all_goals
      go_enter Tryd.func35, Tryd.ntmps35
      go_wp2_with (go_at_call 58; refine (pace_begin_yes s r A0 A1 A2 B2 B3 n0 n1 n2 m2 m3 c0 c1 c2 d2 d3 _ (H0.out.below (by repeat (first | assumption | exact Below.refl _ _ | apply bel_alloc | apply bel_drew | apply bel_drewN | (refine bel_set ?_ (by first | assumption | omega | (simp; done) | (simp; omega)) _)))) (H1.out.below (by repeat (first | assumption | exact Below.refl _ _ | apply bel_alloc | apply bel_drew | apply bel_drewN | (refine bel_set ?_ (by first | assumption | omega | (simp; done) | (simp; omega)) _)))) (H2.out.below (by repeat (first | assumption | exact Below.refl _ _ | apply bel_alloc | apply bel_drew | apply bel_drewN | (refine bel_set ?_ (by first | assumption | omega | (simp; done) | (simp; omega)) _)))) (G2.out.below (by repeat (first | assumption | exact Below.refl _ _ | apply bel_alloc | apply bel_drew | apply bel_drewN | (refine bel_set ?_ (by first | assumption | omega | (simp; done) | (simp; omega)) _)))) (G3.out.below (by repeat (first | assumption | exact Below.refl _ _ | apply bel_alloc | apply bel_drew | apply bel_drewN | (refine bel_set ?_ (by first | assumption | omega | (simp; done) | (simp; omega)) _)))) HS.out HR.out).mono ?_; rintro e w1 ⟨g, rfl, ht, hw1⟩; rw [HN.out] at ht; have HT := Lib.hid ht; have HB7 : Hid (Blk w1 (w.heap.size + 1 + 1) 28 #[.slice D run.length d]) := Lib.hid ((Blk.new_at _ _ _ _ (by simp)).below hw1); have HB1 : Hid (Below w.heap.size w w1) := Lib.hid (bel_then (by repeat (first | assumption | exact Below.refl _ _ | apply bel_alloc | apply bel_drew | apply bel_drewN | (refine bel_set ?_ (by first | assumption | omega | (simp; done) | (simp; omega)) _))) hw1); clear ht hw1)
      obtain ⟨B, cb, t1, t2, t3, t4⟩ := HT.out
      have k0 := cell_regrown (show w1.cell? ⟨w.heap.size + 1 + 1, 0, none⟩ = some (.slice D run.length d) from HB7.out.cell 0)
      have k3 := cell_regrown (show w1.cell? ⟨g, 3, none⟩ = some (.slice (some B) (N + 1) cb) from t1.cell 3)
      clear t1 t2 t4
      refine wp_region_quiet_below (by kernel_rfl) (by kernel_rfl) ?_; (repeat (go_big_quiet_step ((go_at_call 77; exact Calls.regrown_of (track_passings l C _ c (HT.out.below (below_regrown w1 _ _)) ((HC.out.below HB1.out).below (below_regrown w1 _ _))))))); refine wpQuiet_nil ?_; intro _ hw'; obtain ⟨⟨dq, osq⟩, hw''⟩ := hw'; subst hw''
      clear k0 k3
      have HB2 := Lib.hid (bel_then HB1.out (below_regrown w1 dq osq))
      go_wp2
      go_ret2
      exact ⟨rfl, HB2.out⟩
  · have HV := Lib.hid hv
    clear hc hd hv hno
    go_enter Tryd.func35, Tryd.ntmps35
    go_wp2_with (go_at_call 58; refine (pace_begin_no s r A0 A1 A2 B2 B3 n0 n1 n2 m2 m3 c0 c1 c2 d2 d3 _ (H0.out.below (by repeat (first | assumption | exact Below.refl _ _ | apply bel_alloc | apply bel_drew | apply bel_drewN | (refine bel_set ?_ (by first | assumption | omega | (simp; done) | (simp; omega)) _)))) (H1.out.below (by repeat (first | assumption | exact Below.refl _ _ | apply bel_alloc | apply bel_drew | apply bel_drewN | (refine bel_set ?_ (by first | assumption | omega | (simp; done) | (simp; omega)) _)))) (H2.out.below (by repeat (first | assumption | exact Below.refl _ _ | apply bel_alloc | apply bel_drew | apply bel_drewN | (refine bel_set ?_ (by first | assumption | omega | (simp; done) | (simp; omega)) _)))) (G2.out.below (by repeat (first | assumption | exact Below.refl _ _ | apply bel_alloc | apply bel_drew | apply bel_drewN | (refine bel_set ?_ (by first | assumption | omega | (simp; done) | (simp; omega)) _)))) (G3.out.below (by repeat (first | assumption | exact Below.refl _ _ | apply bel_alloc | apply bel_drew | apply bel_drewN | (refine bel_set ?_ (by first | assumption | omega | (simp; done) | (simp; omega)) _)))) HV.out).mono ?_; rintro e w1 ⟨rfl, hw1⟩; have HB1 : Hid (Below w.heap.size w w1) := Lib.hid (bel_then (by repeat (first | assumption | exact Below.refl _ _ | apply bel_alloc | apply bel_drew | apply bel_drewN | (refine bel_set ?_ (by first | assumption | omega | (simp; done) | (simp; omega)) _))) hw1); clear hw1)
    go_quiet (fail)
    go_wp2
    go_ret2
    exact ⟨rfl, by have := HB1.out; exact (by repeat (first | assumption | exact Below.refl _ _ | apply bel_alloc | apply bel_drew | apply bel_drewN | (refine bel_set ?_ (by first | assumption | omega | (simp; done) | (simp; omega)) _)))⟩
theorem wrap_in {x y a b : Int} (hx : -9223372036854775808 ≤ x ∧ x ≤ 9223372036854775807) (h0 : 0 ≤ y) (h1 : y ≤ 10000000000000) (ha : 0 ≤ a) (hb : b ≤ 10000000) : inB (IntKind.i64.wrap (x - y)) a b = true ↔ y ≤ x ∧ inB (x - y) a b = true := by
  rw [inB_iff, inB_iff, IntKind.wrap_i64]
  omega
theorem RunUp.zero_at2 {s : Speeds} {r : Road} {run : List Int} {k : Nat} (h : RunUp (sumsOf s r) run k) (hs : s.Valid) (hr : r.Valid) (hl : (run.length : Int) = r.length + 1) {i : Nat} {z : Int} (hi : i < k) (hz : run[i]? = some z) : 0 ≤ z ∧ z ≤ 1000000000000 := by
  have h1 := RunUp.bound at2_zero h i z hi hz
  have hlt := (List.getElem?_eq_some_iff.1 hz).1
  have h2 := btw_bound (s := s) hs hr (Int.le_refl 0) (show (0 : Int) ≤ (i : Int) by omega) (by omega)
  unfold btwM at h2
  rw [at2_zero] at h2
  omega
set_option maxRecDepth 100000 in
set_option maxHeartbeats 4000000 in
theorem ref3_Fits (s : Speeds) (r : Road) (l : List Passing) (run : List Int) (A0 A1 A2 B2 B3 C D : Option Addr) (n0 n1 n2 m2 m3 c0 c1 c2 d2 d3 n c m d : Nat) (w : World)
    (h0 : Rd 5 Piece.enc w A0 n0 r.pieces) (g2 : Rd 3 SpeedRow.enc w B2 m2 s.rows) (g3 : Rd 1 intEnc w B3 m3 s.surface) (hc : Rd 3 Passing.enc w C n l) (hd : Rd 1 intEnc w D m run) (hr : r.Valid) (hs : s.Valid) (hl : PassOk r.length l) (ht : (run.length : Int) = r.length + 1) (hw : I64s run) :
    Calls Tryd.prog 37 #[.agg #[.slice A0 n0 c0, .slice A1 n1 c1, .slice A2 n2 c2], .agg #[.int .i64 s.least, .int .i64 s.most, .slice B2 m2 d2, .slice B3 m3 d3], .slice C n c, .slice D m d] w fun e w' => e = .returned (.bool (bo (FitsRun (sumsOf s r) l run))) ∧ Below w.heap.size w w' := by
  have hsh := hr.short
  have hr0 : 0 ≤ r.length := (hr.fit.2 _ (Nat.le_refl _)).1
  obtain rfl : n = l.length := hc.1.symm
  obtain rfl : m = run.length := hd.1.symm
  have hn3 := hl.1
  have hm1 : 0 < run.length := by omega
  have hm2 := hd.2.1
  have H0 := Lib.hid h0
  have G2 := Lib.hid g2
  have G3 := Lib.hid g3
  have HC := Lib.hid hc
  have HD := Lib.hid hd
  have HR := Lib.hid hr
  have HS := Lib.hid hs
  have HL := Lib.hid hl
  have HW := Lib.hid hw
  have HLen := Lib.hid ht
  clear h0 g2 g3 hc hd hr hs hl hw ht
  obtain ⟨z, hz⟩ := HD.out.get hm1
  have HZ := Lib.hid hz
  obtain ⟨ad, e, z0⟩ := HD.out.at1 hz
  cases e
  rw [show ad.add 0 = ad from rfl] at z0
  have zb := World.block_lt_of_cell? _ _ z0
  clear hz
  rcases hzz : (z != 0)
  rotate_left
  · go_enter Tryd.func37, Tryd.ntmps37
    go_wp2
    go_ret
    refine ⟨ret_bool (bo_false fun hg => ?_).symm, (by repeat (first | assumption | exact Below.refl _ _ | apply bel_alloc | apply bel_drew | apply bel_drewN | (refine bel_set ?_ (by first | assumption | omega | (simp; done) | (simp; omega)) _)))⟩
    have h1 := (hg.1 0 hm1 z HZ.out).1 rfl
    rw [h1] at hzz
    simp at hzz
  have HP0 : Hid (RunUp (sumsOf s r) run 1) := Lib.hid (fun i hi x hx => by
    obtain rfl : i = 0 := by omega
    rw [HZ.out] at hx
    cases hx
    exact ⟨fun _ => by simpa using hzz, fun y hk => by omega⟩)
  go_enter Tryd.func37, Tryd.ntmps37
  go_wp2
  clear zb z0
  go_loopw [9] (fun v9 wr => ∃ k : Nat, k + 1 ≤ run.length ∧ v9 = .int .i64 k ∧ Hid (RunUp (sumsOf s r) run (k + 1)) ∧ Hid (Blk wr w.heap.size 26 #[.slice A0 n0 c0, .slice A1 n1 c1, .slice A2 n2 c2]) ∧ Hid (Blk wr (w.heap.size + 1) 30 #[.int .i64 s.least, .int .i64 s.most, .slice B2 m2 d2, .slice B3 m3 d3]) ∧ Hid (Below w.heap.size w wr)) (fun v9 _ => run.length - (intOf v9).toNat)
  case atStart => exact ⟨0, by omega, rfl, HP0, Lib.hid ((Blk.new _ _ _).alloc _), Lib.hid (Blk.new_at _ _ _ _ (by simp)), Lib.hid (by repeat (first | assumption | exact Below.refl _ _ | apply bel_alloc | apply bel_drew | apply bel_drewN | (refine bel_set ?_ (by first | assumption | omega | (simp; done) | (simp; omega)) _)))⟩
  case round =>
    obtain ⟨k, hk, rfl, HP, HKR, HKS, HB⟩ := hrel
    have q1 : IntKind.i64.wrap ((k : Int) + 1) = (k : Int) + 1 := IntWalk.i64_in _ (by omega)
    by_cases hkl : k + 1 < run.length
    · obtain ⟨x, hx⟩ := HD.out.get hkl
      obtain ⟨y, hy⟩ := HD.out.get (show k < run.length by omega)
      obtain ⟨hy0, hy1⟩ := HP.out.zero_at2 HS.out HR.out HLen.out (by omega) hy
      have hx1 := HW.out x (List.mem_of_getElem? hx)
      have HX := Lib.hid hx
      have HY := Lib.hid hy
      have hkr : (k : Int) < r.length := by have := HLen.out; omega
      have hmb := meterOf_bound (s := s) HS.out HR.out (p := (k : Int)) (by omega) hkr
      have HE1 := Lib.hid (at1_succ (s := s) HS.out HR.out (p := (k : Int)) (by omega) hkr)
      have HE2 := Lib.hid (at2_succ (s := s) HS.out HR.out (p := (k : Int)) (by omega) hkr)
      have HWI := Lib.hid (wrap_in (x := x) (y := y) (a := (meterOf s r k).1) (b := (meterOf s r k).2) hx1 hy0 (by omega) hmb.1 hmb.2.2.2)
      obtain ⟨v, hv⟩ : ∃ v, IntKind.i64.wrap (x - y) = v := ⟨_, rfl⟩
      have HV := Lib.hid hv
      have hstep : RunStep (sumsOf s r) run (k + 1) ↔ inB v (meterOf s r k).1 (meterOf s r k).2 = true := by
        rw [← HV.out, HWI.out]
        have e1 : at1 (sumsOf s r) ((k + 1 : Nat) : Int) - at1 (sumsOf s r) (((k + 1 : Nat) : Int) - 1) = (meterOf s r k).1 := by
          rw [show (((k + 1 : Nat) : Int) - 1) = (k : Int) by omega, show ((k + 1 : Nat) : Int) = (k : Int) + 1 by omega, HE1.out]
          omega
        have e2 : at2 (sumsOf s r) ((k + 1 : Nat) : Int) - at2 (sumsOf s r) (((k + 1 : Nat) : Int) - 1) = (meterOf s r k).2 := by
          rw [show (((k + 1 : Nat) : Int) - 1) = (k : Int) by omega, show ((k + 1 : Nat) : Int) = (k : Int) + 1 by omega, HE2.out]
          omega
        constructor
        · intro h
          have := (h x HX.out).2 y (by omega) (by simpa using HY.out)
          rw [e1, e2] at this
          exact this
        · intro h x' hx'
          rw [HX.out] at hx'
          cases hx'
          refine ⟨fun h => by omega, fun y' _ hy' => ?_⟩
          rw [show k + 1 - 1 = k by omega, HY.out] at hy'
          cases hy'
          rw [e1, e2]
          exact h
      have HST := Lib.hid hstep
      clear hx hy hstep hmb hkr hy0 hy1 hx1
      have qa : (k : Int) + 1 < (run.length : Int) := by omega
      have qb : (0 : Int) ≤ (k : Int) + 1 := by omega
      have qc : ((k : Int) + 1).toNat = k + 1 := by omega
      have r0 := HKR.out.cell 0
      have r1 := HKR.out.cell 1
      have r2 := HKR.out.cell 2
      have s0 := HKS.out.cell 0
      have s1 := HKS.out.cell 1
      have s2 := HKS.out.cell 2
      have s3 := HKS.out.cell 3
      rcases hin : inB v (meterOf s r k).1 (meterOf s r k).2
      all_goals
        go_wp2_with (go_at_call 66; go_must ((refine (ref3_meter s r k A0 A1 A2 B2 B3 n0 n1 n2 m2 m3 c0 c1 c2 d2 d3 _ (H0.out.below HB.out) (G2.out.below HB.out) (G3.out.below HB.out) HR.out HS.out (by omega) (by have := HLen.out; omega)).mono ?_; rintro e w1 ⟨rfl, hw1⟩)))
        obtain ⟨ad2, e, x0⟩ := ((HD.out.below HB.out).below hw1).at1 HX.out
        cases e
        have x0' : w1.cell? ⟨ad.block, ad.off + (k + 1), none⟩ = some (.int .i64 x) := x0
        clear x0
        obtain ⟨ad3, e, y0⟩ := ((HD.out.below HB.out).below hw1).at1 HY.out
        cases e
        have HR1 := Lib.hid (HKR.out.below hw1)
        have HS1 := Lib.hid (HKS.out.below hw1)
        have HB1 := Lib.hid (bel_then HB.out hw1)
        clear r0 r1 r2 s0 s1 s2 s3 hw1
        go_quiet ((go_at_call 65; exact (ref3_in _ _ _ _).mono (fun e w9 ⟨he, hm⟩ => ⟨he, _, hm.symm⟩)))
        go_wp2
      · go_ret
        refine ⟨ret_bool (bo_false fun hg => ?_).symm, by have := HB1.out; exact (by repeat (first | assumption | exact Below.refl _ _ | apply bel_alloc | apply bel_drew | apply bel_drewN | (refine bel_set ?_ (by first | assumption | omega | (simp; done) | (simp; omega)) _)))⟩
        have h1 := HST.out.1 (hg.1 (k + 1) hkl)
        rw [hin] at h1
        cases h1
      · go_roundw
        case rel => exact ⟨k + 1, by omega, by go_num, Lib.hid (HP.out.succ (HST.out.2 hin)), Lib.hid (HR1.out.drewN _), Lib.hid (HS1.out.drewN _), Lib.hid (by have := HB1.out; exact (by repeat (first | assumption | exact Below.refl _ _ | apply bel_alloc | apply bel_drew | apply bel_drewN | (refine bel_set ?_ (by first | assumption | omega | (simp; done) | (simp; omega)) _))))⟩
        case measure => simp [intOf]; omega
    · obtain hkk : k + 1 = run.length := by omega
      have HPP : Hid (RunUp (sumsOf s r) run run.length) := Lib.hid (by rw [← hkk]; exact HP.out)
      go_wp2
      obtain ⟨wo, hwo⟩ : ∃ wo : World, wo = wr := ⟨_, rfl⟩
      subst hwo
      go_loopw [12] (fun v12 wi => ∃ j q : Nat, j ≤ l.length ∧ v12 = .int .i64 j ∧ Hid (∀ i x, i < j → l[i]? = some x → inB (runAt run x.place) x.earliest x.latest = true) ∧ wi = wo.drewN q) (fun v12 _ => l.length - (intOf v12).toNat)
      case atStart => exact ⟨0, 0, by omega, rfl, Lib.hid (fun i x hi => by omega), rfl⟩
      case round =>
        obtain ⟨j, q, hj, rfl, HJ, rfl⟩ := hrel
        by_cases hjl : j < l.length
        · obtain ⟨x, hx⟩ := HC.out.get hjl
          obtain ⟨px1, px2, _⟩ := HL.out.at_ hx
          have hxm : x.place < run.length := by have := HLen.out; omega
          obtain ⟨y, hy⟩ := HD.out.get (i := x.place.toNat) (by omega)
          have HX := Lib.hid hx
          have hv : runAt run x.place = y := by unfold runAt; rw [List.getD_eq_getElem?_getD, hy]; rfl
          have HV := Lib.hid hv
          obtain ⟨ad2, e, x0, x1, x2⟩ := (HC.out.below HB.out).atPassing hx
          cases e
          obtain ⟨ad3, e, y0⟩ := (HD.out.below HB.out).at1 hy
          cases e
          clear hx hy hv px2
          rcases hin : inB y x.earliest x.latest
          all_goals
            go_wp2
            go_quiet ((go_at_call 65; exact (ref3_in _ _ _ _).mono (fun e w9 ⟨he, hm⟩ => ⟨he, _, hm.symm⟩)))
            go_wp2
          · go_ret
            refine ⟨ret_bool (bo_false fun hg => ?_).symm, by have := HB.out; exact (by repeat (first | assumption | exact Below.refl _ _ | apply bel_alloc | apply bel_drew | apply bel_drewN | (refine bel_set ?_ (by first | assumption | omega | (simp; done) | (simp; omega)) _)))⟩
            have h1 := hg.2
            rw [List.any_eq_false] at h1
            have h2 := h1 x (List.mem_of_getElem? HX.out)
            rw [HV.out, hin] at h2
            simp at h2
          · go_roundw
            case rel =>
              refine ⟨j + 1, _, by omega, by go_num, Lib.hid (fun i x' hi hx' => ?_), by first | rfl | rw [World.drewN_drewN]⟩
              rcases Nat.lt_or_ge i j with hl | hl
              · exact HJ.out i x' hl hx'
              · obtain rfl : i = j := by omega
                rw [HX.out] at hx'
                cases hx'
                rw [HV.out]
                exact hin
            case measure => simp [intOf]; omega
        · obtain rfl : j = l.length := by omega
          go_wp2
          go_ret
          refine ⟨ret_bool (bo_true ⟨HPP.out, ?_⟩).symm, by have := HB.out; exact (by repeat (first | assumption | exact Below.refl _ _ | apply bel_alloc | apply bel_drew | apply bel_drewN | (refine bel_set ?_ (by first | assumption | omega | (simp; done) | (simp; omega)) _)))⟩
          rw [List.any_eq_false]
          intro x hx
          obtain ⟨i, hi⟩ := List.getElem?_of_mem hx
          rw [HJ.out i x (List.getElem?_eq_some_iff.1 hi).1 hi]
          simp
end Go.Proofs.YtinglbcafcjhfaaDoor
