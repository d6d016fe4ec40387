/- The contracts of road.measure and road.Length. -/
import Derived.Test.YtinglbcafcjhfaaDoorRoadB
import Derived.Deep.DeepMust
namespace Go.Proofs.YtinglbcafcjhfaaDoor
open Go.RowKit
set_option linter.unusedVariables false
set_option linter.unusedSimpArgs false

theorem info_int : (Tryd.prog.info? 3).map (fun i => (i.zero, i.size, i.bytes)) = some (some (.int .i64 0), 1, 8) := by kernel_rfl

/-- Block g holds a measured road. -/
def IsMeasured (w : World) (g : Nat) (r : Road) (A0 A1 A2 : Option Addr) (n0 n1 n2 c0 c1 c2 : Nat) : Prop :=
  ∃ B cb, Blk w g 170 #[.slice A0 n0 c0, .slice A1 n1 c1, .slice A2 n2 c2, .slice (some B) (n0 + 1) cb] ∧ Rd 1 intEnc w (some B) (n0 + 1) (begins r.pieces (n0 + 1))
theorem IsMeasured.below {w w1 : World} {g : Nat} {r : Road} {A0 A1 A2 : Option Addr} {n0 n1 n2 c0 c1 c2 : Nat} (h : IsMeasured w g r A0 A1 A2 n0 n1 n2 c0 c1 c2) (hb : Below w.heap.size w w1) : IsMeasured w1 g r A0 A1 A2 n0 n1 n2 c0 c1 c2 := by
  obtain ⟨B, cb, h1, h2⟩ := h
  exact ⟨B, cb, h1.below hb, h2.below hb⟩

set_option maxRecDepth 100000 in
set_option maxHeartbeats 1000000 in
theorem road_measure (r : Road) (A0 A1 A2 : Option Addr) (n0 n1 n2 c0 c1 c2 : Nat) (w : World) (h0 : Rd 5 Piece.enc w A0 n0 r.pieces) (hf : r.Fit) :
    Calls Tryd.prog 91 #[.agg #[.slice A0 n0 c0, .slice A1 n1 c1, .slice A2 n2 c2]] w fun e w' => ∃ g, e = .returned (.pointer (some ⟨g, 0, none⟩)) ∧ IsMeasured w' g r A0 A1 A2 n0 n1 n2 c0 c1 c2 ∧ Below w.heap.size w w' := by
  have m0 := h0.2.1
  have H0 := Lib.hid h0
  have HF := Lib.hid hf
  have hn : n0 ≤ 1000000 := by rw [← h0.1]; exact hf.1
  clear h0 hf
  go_enter Tryd.func91, Tryd.ntmps91
  go_wp2
  go_loopw [4, 13] (fun v4 v13 wr => ∃ (k : Nat) (v : Value), k ≤ n0 ∧ v13 = .int .i64 k ∧ v4 = .int .i64 (sumLen r.pieces k) ∧ Hid (Own 1 intEnc 3 wr w.heap.size v (begins r.pieces k)) ∧ Hid (Blk wr w.heap.size 26 #[.slice A0 n0 c0, .slice A1 n1 c1, .slice A2 n2 c2]) ∧ Hid (Blk wr (w.heap.size + 1) 170 #[.slice A0 n0 c0, .slice A1 n1 c1, .slice A2 n2 c2, v]) ∧ Below w.heap.size w wr) (fun _ i _ => n0 - (intOf i).toNat)
  case atStart => exact ⟨0, .slice none 0 0, Nat.zero_le _, rfl, by rw [sumLen_zero], Own.nil, (Blk.new _ _ _).alloc _, Blk.new_at _ _ _ _ (by simp), (by repeat (first | assumption | exact Below.refl _ _ | apply bel_alloc | apply bel_drew | apply bel_drewN | (refine bel_set ?_ (by first | assumption | omega | (simp; done) | (simp; omega)) _)))⟩
  case round =>
    obtain ⟨k, v, hk, rfl, rfl, HO, HK, HM, HB⟩ := hrel
    have hB0 := HB.size
    have hM := HM.out.lt
    have k0 := HK.out.cell 0
    have k1 := HK.out.cell 1
    have k2 := HK.out.cell 2
    have j0 := HM.out.cell 0
    have j1 := HM.out.cell 1
    have j2 := HM.out.cell 2
    have j3 := HM.out.cell 3
    have f3 := HM.out.frozen 3
    have hbl : (begins r.pieces k).length = k := begins_length _ _
    have HL := Lib.hid hbl
    clear hbl
    have hs := HF.out.2 k (by have := H0.out.1; omega)
    obtain ⟨hs1, hs2⟩ := hs
    by_cases hlt : k < n0
    · obtain ⟨x, hx⟩ := H0.out.get hlt
      have hs3 := HF.out.2 (k + 1) (by have := H0.out.1; omega)
      rw [sumLen_succ hx] at hs3
      obtain ⟨hs4, hs5⟩ := hs3
      have HX := Lib.hid hx
      clear hx
      obtain ⟨ad, e, x0, x1, x2, x3, x4⟩ := (H0.out.below HB).atPiece HX.out
      cases e
      go_wp2_with (at_builtin; (refine own_append (sz := 1) (enc := intEnc) intEnc_len rfl _ _ 28 (.int .i64 0) 8 rfl Tryd.underlying28 info_int rfl (by decide) (by decide) (sumLen r.pieces k) #[.int .i64 (sumLen r.pieces k)] rfl (w0 := w) (xs := begins r.pieces k) _ (HO.out.alloc _) rfl _ rfl (by simp) (by repeat (first | assumption | exact Below.refl _ _ | apply bel_alloc | apply bel_drew | apply bel_drewN | (refine bel_set ?_ (by first | assumption | omega | (simp; done) | (simp; omega)) _))) (by rw [HL.out]; omega) ?_); intro g cap w1 hown hb1 hg1; go_must (have M1 := (HM.out.alloc _).grown hg1 (HO.out.ne HM.out (by decide)); have X0 := Blk.new wr 105 #[.int .i64 x.len, .int .i64 x.turn, .int .i64 x.radius, .int .i64 x.width, .int .i64 x.surface]; have X1 := X0.grown hg1 ((HO.out.alloc _).ne X0 (by decide)); have R1 := (HK.out.alloc _).grown hg1 (HO.out.ne HK.out (by decide)); have m3 := M1.cell 3; have g3 := M1.frozen 3; have y0 := X1.cell 0; have HM1 := Lib.hid M1; have HR1 := Lib.hid R1; have HO1 := Lib.hid hown; clear M1 X0 X1 R1 hown))
      go_roundw
      case rel => exact ⟨k + 1, _, by omega, by go_num, by rw [sumLen_succ HX.out], by rw [begins_succ]; exact (HO1.out.far (HO1.out.ne HM1.out (by decide)) _), HR1.out.far (by simp) _, HM1.out.set 3 _, (by repeat (first | assumption | exact Below.refl _ _ | apply bel_alloc | apply bel_drew | apply bel_drewN | (refine bel_set ?_ (by first | assumption | omega | (simp; done) | (simp; omega)) _)))⟩
      case measure => simp [intOf]; omega
    · obtain rfl : n0 = k := by omega
      go_wp2_with (at_builtin; (refine own_append (sz := 1) (enc := intEnc) intEnc_len rfl _ _ 28 (.int .i64 0) 8 rfl Tryd.underlying28 info_int rfl (by decide) (by decide) (sumLen r.pieces n0) #[.int .i64 (sumLen r.pieces n0)] rfl (w0 := w) (xs := begins r.pieces n0) _ HO.out rfl _ rfl (by simp) (by repeat (first | assumption | exact Below.refl _ _ | apply bel_alloc | apply bel_drew | apply bel_drewN | (refine bel_set ?_ (by first | assumption | omega | (simp; done) | (simp; omega)) _))) (by rw [HL.out]; omega) ?_); intro g cap w1 hown hb1 hg1; go_must (have M1 := HM.out.grown hg1 (HO.out.ne HM.out (by decide)); have m3 := M1.cell 3; have g3 := M1.frozen 3; have HM1 := Lib.hid M1; have HO1 := Lib.hid hown; clear M1 hown))
      have HO2 := HO1.out.far (p := ⟨w.heap.size + 1, 3, none⟩) (HO1.out.ne HM1.out (by decide)) (.slice (some ⟨g, 0, none⟩) ((begins r.pieces n0).length + 1) cap)
      have HM2 := HM1.out.set 3 (.slice (some ⟨g, 0, none⟩) ((begins r.pieces n0).length + 1) cap)
      rw [← begins_succ] at HO2
      rw [HL.out] at HO2 HM2
      obtain ⟨B, cb, e, hcb, hrd⟩ := HO2.reads intEnc_len
      obtain ⟨e1, _, e2⟩ := Value.slice.inj e
      subst e1 e2
      rw [begins_length] at hrd
      go_ret
      rw [HL.out]
      exact ⟨_, rfl, ⟨_, _, HM2, hrd⟩, (by repeat (first | assumption | exact Below.refl _ _ | apply bel_alloc | apply bel_drew | apply bel_drewN | (refine bel_set ?_ (by first | assumption | omega | (simp; done) | (simp; omega)) _)))⟩

set_option maxRecDepth 100000 in
set_option maxHeartbeats 1000000 in
theorem road_measured_length (g : Nat) (r : Road) (A0 A1 A2 : Option Addr) (n0 n1 n2 c0 c1 c2 : Nat) (w : World) (h : IsMeasured w g r A0 A1 A2 n0 n1 n2 c0 c1 c2) (hn : n0 = r.pieces.length) (hm : n0 ≤ 1000000) :
    Calls Tryd.prog 92 #[.pointer (some ⟨g, 0, none⟩)] w fun e w' => e = .returned (.int .i64 r.length) ∧ ∃ n, w' = w.drewN n := by
  obtain ⟨B, cb, hk, hrd⟩ := h
  obtain ⟨ad, e, hc⟩ := hrd.at1 (begins_get r.pieces (k := n0 + 1) (i := n0) (by omega))
  cases e
  have hL : sumLen r.pieces n0 = r.length := by rw [hn]; rfl
  rw [hL] at hc
  have k0 := hk.cell 0
  have k3 := hk.cell 3
  have q1 : (n0 : Int) < (n0 : Int) + 1 := by omega
  clear hn hL
  go_enter Tryd.func92, Tryd.ntmps92
  go_wp2
  go_quiet (fail)
  go_wp2
  go_ret
  exact ⟨rfl, _, rfl⟩

set_option maxRecDepth 100000 in
set_option maxHeartbeats 1000000 in
theorem road_Length (r : Road) (A0 A1 A2 : Option Addr) (n0 n1 n2 c0 c1 c2 : Nat) (w : World) (h0 : Rd 5 Piece.enc w A0 n0 r.pieces) (h1 : Rd 2 Crest.enc w A1 n1 r.crests) (h2 : Rd 3 Junction.enc w A2 n2 r.juncs) :
    Calls Tryd.prog 81 #[.agg #[.slice A0 n0 c0, .slice A1 n1 c1, .slice A2 n2 c2]] w fun e w' => e = .returned (.tuple #[.int .i64 r.lenOr, .int .i64 r.chk]) ∧ Below w.heap.size w w' := by
  by_cases hv : r.Valid
  · have hk := Road.chk_ok hv
    have hl : r.lenOr = r.length := by unfold Road.lenOr; rw [bo_true hv]; simp
    have HV := Lib.hid hv
    have hn := h0.1
    have hm : n0 ≤ 1000000 := by rw [← hn]; exact hv.fit.1
    have HN := Lib.hid hn
    have H0 := Lib.hid h0
    have H1 := Lib.hid h1
    have H2 := Lib.hid h2
    clear h0 h1 h2 hv hn
    rw [hl, hk]
    have HK := Lib.hid hk
    clear hl hk
    go_enter Tryd.func81, Tryd.ntmps81
    go_wp2_with (first
      | (go_at_call 90; refine (road_Check r A0 A1 A2 n0 n1 n2 c0 c1 c2 _ (H0.out.below (by repeat (first | assumption | exact Below.refl _ _ | apply bel_alloc | apply bel_drew | apply bel_drewN | (refine bel_set ?_ (by first | assumption | omega | (simp; done) | (simp; omega)) _)))) (H1.out.below (by repeat (first | assumption | exact Below.refl _ _ | apply bel_alloc | apply bel_drew | apply bel_drewN | (refine bel_set ?_ (by first | assumption | omega | (simp; done) | (simp; omega)) _)))) (H2.out.below (by repeat (first | assumption | exact Below.refl _ _ | apply bel_alloc | apply bel_drew | apply bel_drewN | (refine bel_set ?_ (by first | assumption | omega | (simp; done) | (simp; omega)) _))))).mono ?_; rintro e w1 ⟨rfl, hb1⟩; rw [HK.out]; obtain ⟨hc, hf⟩ := bcell hb1)
      | (go_at_call 91; refine (road_measure r A0 A1 A2 n0 n1 n2 c0 c1 c2 _ (H0.out.below (bel_then (by repeat (first | assumption | exact Below.refl _ _ | apply bel_alloc | apply bel_drew | apply bel_drewN | (refine bel_set ?_ (by first | assumption | omega | (simp; done) | (simp; omega)) _))) hb1)) HV.out.fit).mono ?_; rintro e w2 ⟨g, rfl, hm1, hb2⟩; have HM1 := Lib.hid hm1; clear hm1)
      | (go_at_call 92; refine (road_measured_length _ r A0 A1 A2 n0 n1 n2 c0 c1 c2 _ HM1.out HN.out.symm hm).mono ?_; rintro e w3 ⟨rfl, nq, rfl⟩))
    go_ret2
    exact ⟨rfl, bel_drewN (bel_then (bel_then (by repeat (first | assumption | exact Below.refl _ _ | apply bel_alloc | apply bel_drew | apply bel_drewN | (refine bel_set ?_ (by first | assumption | omega | (simp; done) | (simp; omega)) _))) hb1) hb2) _⟩
  · have hk := Road.chk_no hv
    have hl : r.lenOr = 0 := by unfold Road.lenOr; rw [bo_false hv]; simp
    have H0 := Lib.hid h0
    have H1 := Lib.hid h1
    have H2 := Lib.hid h2
    clear h0 h1 h2 hv
    rw [hl, hk]
    have HK := Lib.hid hk
    clear hl hk
    go_enter Tryd.func81, Tryd.ntmps81
    go_wp2_with (go_at_call 90; refine (road_Check r A0 A1 A2 n0 n1 n2 c0 c1 c2 _ (H0.out.below (by repeat (first | assumption | exact Below.refl _ _ | apply bel_alloc | apply bel_drew | apply bel_drewN | (refine bel_set ?_ (by first | assumption | omega | (simp; done) | (simp; omega)) _)))) (H1.out.below (by repeat (first | assumption | exact Below.refl _ _ | apply bel_alloc | apply bel_drew | apply bel_drewN | (refine bel_set ?_ (by first | assumption | omega | (simp; done) | (simp; omega)) _)))) (H2.out.below (by repeat (first | assumption | exact Below.refl _ _ | apply bel_alloc | apply bel_drew | apply bel_drewN | (refine bel_set ?_ (by first | assumption | omega | (simp; done) | (simp; omega)) _))))).mono ?_; rintro e w1 ⟨rfl, hb1⟩; rw [HK.out])
    go_ret2
    exact ⟨rfl, bel_then (by repeat (first | assumption | exact Below.refl _ _ | apply bel_alloc | apply bel_drew | apply bel_drewN | (refine bel_set ?_ (by first | assumption | omega | (simp; done) | (simp; omega)) _))) hb1⟩

end Go.Proofs.YtinglbcafcjhfaaDoor
