/- The contract of the reference's Good. pace.Good of what is not as defined. -/
import Derived.Test.YtinglbcafcjhfaaDoorGoodB
import Derived.Test.YtinglbcafcjhfaaDoorRefF
namespace Go.Proofs.YtinglbcafcjhfaaDoor
open Go.RowKit
set_option linter.unusedVariables false
set_option linter.unusedSimpArgs false

theorem fine_le {s : Speeds} {r : Road} {l : List Call} {j : Nat} {p : Int} {x : Call} (hs : s.Valid) (hr : r.Valid) (ho : CallsOk r.length l) (hx : l[j]? = some x) (h0 : 0 ≤ p) (h1 : p ≤ r.length) (hf : FineUp (sumsOf s r) l j (l.length - j) p) : p ≤ x.place := by
  have hj : j < l.length := (List.getElem?_eq_some_iff.1 hx).1
  have h5 := hf 0 x (by omega) (by simpa using hx)
  rw [slack_eq] at h5
  have h6 := (rmS_le ho j 1).1
  have h7 := ho.at_ hx
  refine Classical.byContradiction fun hn => ?_
  have := at1_strict (s := s) hs hr (a := x.place) (b := p) h7.1 (by omega) h1
  simp only [Nat.zero_add] at h5
  omega
/-- That a trigger is in time, in the reference's words. -/
theorem goodAt_iff {s : Speeds} {r : Road} {l : List Call} {ts : List Int} {j : Nat} {p : Int} {x : Call} (hs : s.Valid) (hr : r.Valid) (ho : CallsOk r.length l) (hp : ts[j]? = some p) (hx : l[j]? = some x) (h0 : 0 ≤ p) (h1 : p ≤ r.length) :
    GoodAt (sumsOf s r) l ts j ↔ FineUp (sumsOf s r) l j (l.length - j) p ∧ at2 (sumsOf s r) x.place - at2 (sumsOf s r) p ≤ x.ahead := by
  have hj : j < l.length := (List.getElem?_eq_some_iff.1 hx).1
  constructor
  · rintro ⟨p', x', hp', hx', h2, h3, h4⟩
    rw [hp] at hp'
    rw [hx] at hx'
    cases hp'
    cases hx'
    exact ⟨((rmR_le_iff _ _).1 h3).2, h4⟩
  · rintro ⟨hf, h4⟩
    exact ⟨p, x, hp, hx, fine_le hs hr ho hx h0 h1 hf, (rmR_le_iff _ _).2 ⟨by have := at1_range (s := s) hs hr h0 h1; omega, hf⟩, h4⟩
set_option maxRecDepth 100000 in
set_option maxHeartbeats 4000000 in
theorem ref3_Good (s : Speeds) (r : Road) (l : List Call) (ts : List Int) (A0 A1 A2 B2 B3 C D : Option Addr) (n0 n1 n2 m2 m3 c0 c1 c2 d2 d3 n c m d : Nat) (w : World)
    (h0 : Rd 5 Piece.enc w A0 n0 r.pieces) (g2 : Rd 3 SpeedRow.enc w B2 m2 s.rows) (g3 : Rd 1 intEnc w B3 m3 s.surface) (h1 : Rd 5 Call.enc w C n l) (hd : Rd 1 intEnc w D m ts) (hr : r.Valid) (hs : s.Valid) (ho : CallsOk r.length l) (ht : TrigsOk r.length l.length ts) :
    Calls Tryd.prog 40 #[.agg #[.slice A0 n0 c0, .slice A1 n1 c1, .slice A2 n2 c2], .agg #[.int .i64 s.least, .int .i64 s.most, .slice B2 m2 d2, .slice B3 m3 d3], .slice C n c, .slice D m d] w fun e w' => e = .returned (.bool (bo (GoodPlan (sumsOf s r) l ts))) ∧ Below w.heap.size w w' := by
  have hn : n ≤ 300 := by have := ho.1; have := h1.1; omega
  have hr0 : 0 ≤ r.length := (hr.fit.2 _ (Nat.le_refl _)).1
  obtain rfl : n = l.length := h1.1.symm
  have hm : m = l.length := by have := hd.1; have := ht.1; omega
  obtain rfl := hm
  have H0 := Lib.hid h0
  have G2 := Lib.hid g2
  have G3 := Lib.hid g3
  have H1 := Lib.hid h1
  have HD := Lib.hid hd
  have HR := Lib.hid hr
  have HS := Lib.hid hs
  have HO := Lib.hid ho
  have HTs := Lib.hid ht
  clear h0 g2 g3 h1 hr hs ho hd ht
  go_enter Tryd.func40, Tryd.ntmps40
  go_wp2
  go_loopw [9] (fun v9 wr => ∃ k : Nat, k ≤ l.length ∧ v9 = .int .i64 k ∧ Hid (∀ j, j < k → GoodAt (sumsOf s r) l ts j) ∧ Hid (Blk wr w.heap.size 26 #[.slice A0 n0 c0, .slice A1 n1 c1, .slice A2 n2 c2]) ∧ Hid (Blk wr (w.heap.size + 1) 30 #[.int .i64 s.least, .int .i64 s.most, .slice B2 m2 d2, .slice B3 m3 d3]) ∧ Hid (Below w.heap.size w wr)) (fun v9 _ => l.length - (intOf v9).toNat)
  case atStart => exact ⟨0, Nat.zero_le _, rfl, Lib.hid (fun i hi => by omega), Lib.hid ((Blk.new _ _ _).alloc _), Lib.hid (Blk.new_at _ _ _ _ (by simp)), Lib.hid (by repeat (first | assumption | exact Below.refl _ _ | apply bel_alloc | apply bel_drew | apply bel_drewN | (refine bel_set ?_ (by first | assumption | omega | (simp; done) | (simp; omega)) _)))⟩
  case round =>
    obtain ⟨k, hk, rfl, HP, HKR, HKS, HB⟩ := hrel
    by_cases hkl : k < l.length
    · obtain ⟨x, hx⟩ := H1.out.get hkl
      obtain ⟨p, hp⟩ := HD.out.get hkl
      obtain ⟨px1, px2, _, _, _, _, px7, px8, _, _⟩ := HO.out.at_ hx
      obtain ⟨pp1, pp2⟩ := HTs.out.at_ hp
      have HX := Lib.hid hx
      have HPp := Lib.hid hp
      have HIF := Lib.hid (goodAt_iff HS.out HR.out HO.out hp hx pp1 pp2)
      clear hx hp
      go_wp2
      obtain ⟨wo, hwo⟩ : ∃ wo : World, wr = wo := ⟨_, rfl⟩
      subst hwo
      go_loopw [10] (fun v10 wi => ∃ m : Nat, k + m ≤ l.length ∧ v10 = .int .i64 ((k + m : Nat) : Int) ∧ Hid (FineUp (sumsOf s r) l k m p) ∧ Hid (Blk wi w.heap.size 26 #[.slice A0 n0 c0, .slice A1 n1 c1, .slice A2 n2 c2]) ∧ Hid (Blk wi (w.heap.size + 1) 30 #[.int .i64 s.least, .int .i64 s.most, .slice B2 m2 d2, .slice B3 m3 d3]) ∧ Hid (Below w.heap.size w wi)) (fun v10 _ => l.length - (intOf v10).toNat)
      case atStart => exact ⟨0, by omega, by simp, Lib.hid (FineUp.zero _ _), HKR, HKS, HB⟩
      case round =>
        obtain ⟨m, hm, rfl, HF, HIR, HIS, HIB⟩ := hrel
        obtain ⟨ad', e, y0⟩ := (HD.out.below HIB.out).at1 HPp.out
        cases e
        by_cases hlt : k + m < l.length
        · obtain ⟨y, hy⟩ := H1.out.get hlt
          have HY := Lib.hid hy
          clear hy
          have k0 := cell_regrown (show wr.cell? ⟨w.heap.size, 0, none⟩ = some (.slice A0 n0 c0) from HIR.out.cell 0); have k1 := cell_regrown (show wr.cell? ⟨w.heap.size, 1, none⟩ = some (.slice A1 n1 c1) from HIR.out.cell 1); have k2 := cell_regrown (show wr.cell? ⟨w.heap.size, 2, none⟩ = some (.slice A2 n2 c2) from HIR.out.cell 2); have k3 := cell_regrown (show wr.cell? ⟨w.heap.size + 1, 0, none⟩ = some (.int .i64 s.least) from HIS.out.cell 0); have k4 := cell_regrown (show wr.cell? ⟨w.heap.size + 1, 1, none⟩ = some (.int .i64 s.most) from HIS.out.cell 1); have k5 := cell_regrown (show wr.cell? ⟨w.heap.size + 1, 2, none⟩ = some (.slice B2 m2 d2) from HIS.out.cell 2); have k6 := cell_regrown (show wr.cell? ⟨w.heap.size + 1, 3, none⟩ = some (.slice B3 m3 d3) from HIS.out.cell 3)
          have k7 := cell_regrown y0
          clear y0
          obtain ⟨V, hV⟩ : ∃ V, LateB s r l k (k + m) p = V := ⟨_, rfl⟩
          have HCL := Lib.hid (fun (W : World) (hW : Below wr.heap.size wr W) => hV ▸ ref3_late s r l k (k + m) p A0 A1 A2 B2 B3 C n0 n1 n2 m2 m3 c0 c1 c2 d2 d3 l.length c W ((H0.out.below HIB.out).below hW) ((G2.out.below HIB.out).below hW) ((G3.out.below HIB.out).below hW) ((H1.out.below HIB.out).below hW) HR.out HS.out HO.out (by omega) hlt pp1 pp2)
          have HV := Lib.hid hV
          clear hV
          have hvc : V = true ∨ V = false := by cases V <;> simp
          rcases hvc with rfl | rfl
          · go_wp2
            refine wp_region_quiet_below (by kernel_rfl) (by kernel_rfl) ?_; (repeat (go_big_quiet_step ((go_at_call 75; exact Calls.regrown_of (HCL.out _ (below_regrown wr _ _)))))); refine wpQuiet_nil ?_; intro _ hw'; obtain ⟨⟨dq, osq⟩, hw''⟩ := hw'; subst hw''
            obtain ⟨W2, hW2⟩ : ∃ W2, Sort.grow (redrawn wr dq) osq = W2 := ⟨_, rfl⟩
            have hB2 : Below wr.heap.size wr W2 := by rw [← hW2]; exact below_regrown wr _ _
            rw [hW2]
            clear hW2 k0 k1 k2 k3 k4 k5 k6 k7
            go_wp2
            go_ret
            refine ⟨ret_bool (bo_false fun hg => ?_).symm, bel_then HIB.out hB2⟩
            have h1 := (HIF.out.1 (hg k hkl)).1 m y (by omega) HY.out
            have h2 := HV.out
            rw [LateB_at HY.out, show k + m - k = m by omega] at h2
            simp at h2
            omega
          · go_wp2
            refine wp_region_quiet_below (by kernel_rfl) (by kernel_rfl) ?_; (repeat (go_big_quiet_step ((go_at_call 75; exact Calls.regrown_of (HCL.out _ (below_regrown wr _ _)))))); refine wpQuiet_nil ?_; intro _ hw'; obtain ⟨⟨dq, osq⟩, hw''⟩ := hw'; subst hw''
            obtain ⟨W2, hW2⟩ : ∃ W2, Sort.grow (redrawn wr dq) osq = W2 := ⟨_, rfl⟩
            have hB2 : Below wr.heap.size wr W2 := by rw [← hW2]; exact below_regrown wr _ _
            rw [hW2]
            clear hW2 k0 k1 k2 k3 k4 k5 k6 k7
            go_wp2
            go_roundw
            case rel => exact ⟨m + 1, by omega, by go_num, Lib.hid (HF.out.succ HY.out (by have := HV.out; rw [LateB_at HY.out, show k + m - k = m by omega] at this; simpa using this)), Lib.hid (HIR.out.below hB2), Lib.hid (HIS.out.below hB2), Lib.hid (bel_then HIB.out hB2)⟩
            case measure => simp [intOf]; omega
        · have hm2 : m = l.length - k := by omega
          have HFF : Hid (FineUp (sumsOf s r) l k (l.length - k) p) := Lib.hid (by rw [← hm2]; exact HF.out)
          clear hm2
          have hpx := fine_le HS.out HR.out HO.out HX.out pp1 pp2 HFF.out
          have hok : BtwOk s r p x.place := ⟨HR.out, HS.out, pp1, hpx, px2⟩
          have HOK := Lib.hid hok
          clear hok
          obtain ⟨ad, e, x0, x1, x2, x3, x4⟩ := (H1.out.below HIB.out).atCall HX.out
          cases e
          have k0 := cell_regrown (show wr.cell? ⟨w.heap.size, 0, none⟩ = some (.slice A0 n0 c0) from HIR.out.cell 0); have k1 := cell_regrown (show wr.cell? ⟨w.heap.size, 1, none⟩ = some (.slice A1 n1 c1) from HIR.out.cell 1); have k2 := cell_regrown (show wr.cell? ⟨w.heap.size, 2, none⟩ = some (.slice A2 n2 c2) from HIR.out.cell 2); have k3 := cell_regrown (show wr.cell? ⟨w.heap.size + 1, 0, none⟩ = some (.int .i64 s.least) from HIS.out.cell 0); have k4 := cell_regrown (show wr.cell? ⟨w.heap.size + 1, 1, none⟩ = some (.int .i64 s.most) from HIS.out.cell 1); have k5 := cell_regrown (show wr.cell? ⟨w.heap.size + 1, 2, none⟩ = some (.slice B2 m2 d2) from HIS.out.cell 2); have k6 := cell_regrown (show wr.cell? ⟨w.heap.size + 1, 3, none⟩ = some (.slice B3 m3 d3) from HIS.out.cell 3)
          have k7 := cell_regrown y0
          have k8 := cell_regrown x0
          clear y0 x0 x1 x2 x4
          go_wp2
          refine wp_region_quiet_below (by kernel_rfl) (by kernel_rfl) ?_; (repeat (go_big_quiet_step ((go_at_call 24; exact Calls.regrown_of (ref3_Between s r A0 A1 A2 B2 B3 n0 n1 n2 m2 m3 c0 c1 c2 d2 d3 p x.place _ ((H0.out.below HIB.out).below (below_regrown wr _ _)) ((G2.out.below HIB.out).below (below_regrown wr _ _)) ((G3.out.below HIB.out).below (below_regrown wr _ _)) HOK.out))))); refine wpQuiet_nil ?_; intro _ hw'; obtain ⟨⟨dq, osq⟩, hw''⟩ := hw'; subst hw''
          obtain ⟨W2, hW2⟩ : ∃ W2, Sort.grow (redrawn wr dq) osq = W2 := ⟨_, rfl⟩
          have hB2 : Below wr.heap.size wr W2 := by rw [← hW2]; exact below_regrown wr _ _
          have y3 := bel_cell hB2 x3
          have HR2 := Lib.hid (HIR.out.below hB2)
          have HS2 := Lib.hid (HIS.out.below hB2)
          have HB2 := Lib.hid (bel_then HIB.out hB2)
          rw [hW2]
          clear hW2 k0 k1 k2 k3 k4 k5 k6 k7 k8 x3 hB2
          by_cases htl : x.ahead < btwM s r p x.place
          · have hd : decide (x.ahead < btwM s r p x.place) = true := decide_eq_true htl
            have HTL := Lib.hid htl
            clear htl
            go_wp2
            go_ret
            refine ⟨ret_bool (bo_false fun hg => ?_).symm, HB2.out⟩
            have h1 := (HIF.out.1 (hg k hkl)).2
            have h2 := HTL.out
            unfold btwM at h2
            omega
          · have hd : decide (x.ahead < btwM s r p x.place) = false := decide_eq_false htl
            have HGA := Lib.hid (HIF.out.2 ⟨HFF.out, by unfold btwM at htl; omega⟩)
            clear htl
            go_wp2
            go_roundw
            case rel =>
              refine ⟨k + 1, by omega, by go_num, Lib.hid (fun j hj => ?_), HR2, HS2, HB2⟩
              rcases Nat.lt_or_ge j k with hl | hl
              · exact HP.out j hl
              · obtain rfl : j = k := by omega
                exact HGA.out
            case measure => simp [intOf]; omega
    · obtain rfl : k = l.length := by omega
      go_wp2
      go_ret
      exact ⟨ret_bool (bo_true HP.out).symm, HB.out⟩
end Go.Proofs.YtinglbcafcjhfaaDoor

namespace Go.Proofs.YtinglbcafcjhfaaDoor
open Go.RowKit
set_option linter.unusedVariables false
set_option linter.unusedSimpArgs false

set_option maxRecDepth 100000 in
set_option maxHeartbeats 4000000 in
theorem pace_Good_no (s : Speeds) (r : Road) (l : List Call) (ts : List Int) (A0 A1 A2 B2 B3 C D : Option Addr) (n0 n1 n2 m2 m3 c0 c1 c2 d2 d3 n c m d : Nat) (w : World) (h0 : Rd 5 Piece.enc w A0 n0 r.pieces) (h1 : Rd 2 Crest.enc w A1 n1 r.crests) (h2 : Rd 3 Junction.enc w A2 n2 r.juncs) (g2 : Rd 3 SpeedRow.enc w B2 m2 s.rows) (g3 : Rd 1 intEnc w B3 m3 s.surface) (hc : Rd 5 Call.enc w C n l) (hd : Rd 1 intEnc w D m ts) (hno : ¬(r.Valid ∧ s.Valid ∧ CallsOk r.length l ∧ TrigsOk r.length l.length ts)) :
    Calls Tryd.prog 38 #[.agg #[.slice A0 n0 c0, .slice A1 n1 c1, .slice A2 n2 c2], .agg #[.int .i64 s.least, .int .i64 s.most, .slice B2 m2 d2, .slice B3 m3 d3], .slice C n c, .slice D m d] w fun e w' => e = .returned (.tuple #[.bool false, .int .i64 2]) ∧ Below w.heap.size w w' := by
  have H0 := Lib.hid h0; have H1 := Lib.hid h1; have H2 := Lib.hid h2; have G2 := Lib.hid g2; have G3 := Lib.hid g3; clear h0 h1 h2 g2 g3
  have HC := Lib.hid hc
  have HD := Lib.hid hd
  obtain rfl : n = l.length := hc.1.symm
  by_cases hv : r.Valid ∧ s.Valid
  · have HR := Lib.hid hv.1
    have HS := Lib.hid hv.2
    have hl : 0 ≤ r.length := (hv.1.fit.2 _ (Nat.le_refl _)).1
    obtain ⟨N, hN⟩ : ∃ N : Nat, (N : Int) = r.length := ⟨r.length.toNat, by omega⟩
    have HN : Hid (r.length.toNat = N) := Lib.hid (by omega)
    have hcs : bo (CallsOk N l) = false ∨ bo (CallsOk N l) = true ∧ bo (TrigsOk N l.length ts) = false := by
      by_cases h : CallsOk N l
      · exact .inr ⟨bo_true h, bo_false fun k => hno ⟨hv.1, hv.2, by rw [← hN]; exact h, by rw [← hN]; exact k⟩⟩
      · exact .inl (bo_false h)
    clear hc hd hv hl hN hno
    rcases hcs with hbo | ⟨hbo, hbt⟩
    all_goals
      go_enter Tryd.func38, Tryd.ntmps38
      go_wp2_with (first
        | (go_at_call 58; refine (pace_begin_yes s r A0 A1 A2 B2 B3 n0 n1 n2 m2 m3 c0 c1 c2 d2 d3 _ (H0.out.below (by repeat (first | assumption | exact Below.refl _ _ | apply bel_alloc | apply bel_drew | apply bel_drewN | (refine bel_set ?_ (by first | assumption | omega | (simp; done) | (simp; omega)) _)))) (H1.out.below (by repeat (first | assumption | exact Below.refl _ _ | apply bel_alloc | apply bel_drew | apply bel_drewN | (refine bel_set ?_ (by first | assumption | omega | (simp; done) | (simp; omega)) _)))) (H2.out.below (by repeat (first | assumption | exact Below.refl _ _ | apply bel_alloc | apply bel_drew | apply bel_drewN | (refine bel_set ?_ (by first | assumption | omega | (simp; done) | (simp; omega)) _)))) (G2.out.below (by repeat (first | assumption | exact Below.refl _ _ | apply bel_alloc | apply bel_drew | apply bel_drewN | (refine bel_set ?_ (by first | assumption | omega | (simp; done) | (simp; omega)) _)))) (G3.out.below (by repeat (first | assumption | exact Below.refl _ _ | apply bel_alloc | apply bel_drew | apply bel_drewN | (refine bel_set ?_ (by first | assumption | omega | (simp; done) | (simp; omega)) _)))) HS.out HR.out).mono ?_; rintro e w1 ⟨g, rfl, ht, hw1⟩; rw [HN.out] at ht; have HT := Lib.hid ht; have HB1 : Hid (Below w.heap.size w w1) := Lib.hid (bel_then (by repeat (first | assumption | exact Below.refl _ _ | apply bel_alloc | apply bel_drew | apply bel_drewN | (refine bel_set ?_ (by first | assumption | omega | (simp; done) | (simp; omega)) _))) hw1); clear ht hw1)
        | (go_at_call 71; refine (track_calls l C _ c HT.out (HC.out.below HB1.out)).mono ?_; rintro e w2 ⟨rfl, hw2⟩; have HT2 := Lib.hid (HT.out.below hw2); have HB2 := Lib.hid (bel_then HB1.out hw2); clear hw2)
        | (go_at_call 80; refine (track_triggers ts C D _ c _ d HT2.out (HD.out.below HB2.out)).mono ?_; rintro e w' ⟨rfl, rfl⟩))
      go_ret2
      exact ⟨rfl, HB2.out⟩
  · have HV := Lib.hid hv
    clear hc hd hv hno
    go_enter Tryd.func38, Tryd.ntmps38
    go_wp2_with (go_at_call 58; refine (pace_begin_no s r A0 A1 A2 B2 B3 n0 n1 n2 m2 m3 c0 c1 c2 d2 d3 _ (H0.out.below (by repeat (first | assumption | exact Below.refl _ _ | apply bel_alloc | apply bel_drew | apply bel_drewN | (refine bel_set ?_ (by first | assumption | omega | (simp; done) | (simp; omega)) _)))) (H1.out.below (by repeat (first | assumption | exact Below.refl _ _ | apply bel_alloc | apply bel_drew | apply bel_drewN | (refine bel_set ?_ (by first | assumption | omega | (simp; done) | (simp; omega)) _)))) (H2.out.below (by repeat (first | assumption | exact Below.refl _ _ | apply bel_alloc | apply bel_drew | apply bel_drewN | (refine bel_set ?_ (by first | assumption | omega | (simp; done) | (simp; omega)) _)))) (G2.out.below (by repeat (first | assumption | exact Below.refl _ _ | apply bel_alloc | apply bel_drew | apply bel_drewN | (refine bel_set ?_ (by first | assumption | omega | (simp; done) | (simp; omega)) _)))) (G3.out.below (by repeat (first | assumption | exact Below.refl _ _ | apply bel_alloc | apply bel_drew | apply bel_drewN | (refine bel_set ?_ (by first | assumption | omega | (simp; done) | (simp; omega)) _)))) HV.out).mono ?_; rintro e w1 ⟨rfl, hw1⟩; have HB1 : Hid (Below w.heap.size w w1) := Lib.hid (bel_then (by repeat (first | assumption | exact Below.refl _ _ | apply bel_alloc | apply bel_drew | apply bel_drewN | (refine bel_set ?_ (by first | assumption | omega | (simp; done) | (simp; omega)) _))) hw1); clear hw1)
    go_ret2
    exact ⟨rfl, HB1.out⟩
end Go.Proofs.YtinglbcafcjhfaaDoor
