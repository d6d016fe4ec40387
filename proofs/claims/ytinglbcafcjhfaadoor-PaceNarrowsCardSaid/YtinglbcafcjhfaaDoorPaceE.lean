/- The contract of pace.begin: the track of a road. -/
import Derived.Test.YtinglbcafcjhfaaDoorPaceD
import Derived.Test.YtinglbcafcjhfaaDoorInv
import Derived.Test.YtinglbcafcjhfaaDoorPaceBase
import Derived.Test.YtinglbcafcjhfaaDoorPaceV
import Derived.Test.YtinglbcafcjhfaaDoorRoadC
import Derived.RegionIn
import Derived.BigRegionIn
import Derived.Sort.CutIn
namespace Go.Proofs.YtinglbcafcjhfaaDoor
open Go.RowKit Go.Shelf
set_option linter.unusedVariables false
set_option linter.unusedSimpArgs false
attribute [local go_sem] Oper.semAt_some

theorem info_times : (Tryd.prog.info? 122).map (fun i => (i.zero, i.size, i.bytes)) = some (some (.agg #[.int .i64 0, .int .i64 0]), 2, 16) := by kernel_rfl

theorem pace_meters (s0 s1 s2 s3 r0 r1 r2 : Value) (w : World) :
    Calls Tryd.prog 103 #[.agg #[s0, s1, s2, s3], .agg #[r0, r1, r2]] w fun e w' => e = .returned (.func (.func 113) #[] #[.pointer (some ⟨w.heap.size, 0, none⟩), .pointer (some ⟨w.heap.size + 1, 0, none⟩)]) ∧ w' = (w.alloc (.cells #[s0, s1, s2, s3] 160)).alloc (.cells #[r0, r1, r2] 26) := by
  go_enter Tryd.func103, Tryd.ntmps103
  go_wp2
  go_ret
  exact ⟨rfl, rfl⟩

set_option maxRecDepth 100000 in
set_option maxHeartbeats 2000000 in
theorem pace_begin_yes (s : Speeds) (r : Road) (A0 A1 A2 B2 B3 : Option Addr) (n0 n1 n2 m2 m3 c0 c1 c2 d2 d3 : Nat) (w : World)
    (h0 : Rd 5 Piece.enc w A0 n0 r.pieces) (h1 : Rd 2 Crest.enc w A1 n1 r.crests) (h2 : Rd 3 Junction.enc w A2 n2 r.juncs) (g2 : Rd 3 SpeedRow.enc w B2 m2 s.rows) (g3 : Rd 1 intEnc w B3 m3 s.surface) (hs : s.Valid) (hr : r.Valid) :
    Calls Tryd.prog 58 #[.agg #[.slice A0 n0 c0, .slice A1 n1 c1, .slice A2 n2 c2], .agg #[.int .i64 s.least, .int .i64 s.most, .slice B2 m2 d2, .slice B3 m3 d3]] w fun e w' => ∃ g, e = .returned (.tuple #[.pointer (some ⟨g, 0, none⟩), .bool true]) ∧ IsTrack w' g (wsums (metersUp s r.pieces r.pieces.length)) (.slice A0 n0 c0) (.slice A1 n1 c1) (.slice A2 n2 c2) r.length.toNat ∧ Below w.heap.size w w' := by
  have hck := Road.chk_ok hr
  have hsk := Speeds.chk_ok hs
  have hln : r.lenOr = r.length := by unfold Road.lenOr; rw [bo_true hr]; simp
  have hl1 : 1 ≤ r.length := by
    have h := hr.pieces.sum (Nat.le_refl _)
    have := hr.some_
    have := h.1
    show 1 ≤ sumLen _ _
    omega
  have hl2 := hr.short
  have H0 := Lib.hid h0
  have H1 := Lib.hid h1
  have H2 := Lib.hid h2
  have G2 := Lib.hid g2
  have G3 := Lib.hid g3
  have HS := Lib.hid hs
  have HR := Lib.hid hr
  have HCK := Lib.hid hck
  have HSK := Lib.hid hsk
  have HLN := Lib.hid hln
  clear h0 h1 h2 g2 g3 hs hr hck hsk hln
  obtain ⟨N1, hN1⟩ : ∃ N1 : Nat, N1 = (r.length + 1).toNat := ⟨_, rfl⟩
  have hn1 : (N1 : Int) = r.length + 1 := by omega
  have hmk0 : ∀ W : World, (Instr.makeSlice 123 (.int .i64 1) (.int .i64 (r.length + 1))).run Tryd.prog W = .ok (.slice (some ⟨W.heap.size, 0, none⟩) 1 N1) (W.alloc (.cells (madeCells #[.int .i64 0, .int .i64 0] (N1 * 2)) 122)) := fun W => by
    obtain ⟨i0, hi, hzz⟩ := Option.map_eq_some_iff.1 info_times
    simp only [Prod.mk.injEq] at hzz
    obtain ⟨hz0, hz1, hz2⟩ := hzz
    have h := run_make (P := Tryd.prog) W 123 122 i0 _ Tryd.underlying123 hi hz0 .i64 .i64 1 (r.length + 1) (by omega) (by omega) (by rw [hz2]; omega) (by omega)
    rw [hz1, ← hN1] at h
    exact h
  have hmc1 : (madeCells #[Value.int .i64 0, .int .i64 0] (N1 * 2)).size = N1 * 2 := size_madeCells _ _
  have hmc2 : (madeCells #[Value.int .i64 0, .int .i64 0] (N1 * 2)).toList.take (1 * 2) = flat timesEnc [(0, 0)] := by
    have hN : 1 ≤ N1 := by omega
    obtain ⟨m, rfl⟩ : ∃ m, N1 = m + 1 := ⟨N1 - 1, by omega⟩
    apply List.ext_getElem?
    intro j
    match j with
    | 0 => simp [madeCells, flat, timesEnc]
    | 1 =>
      have h3 : 1 < (m + 1) * 2 := by omega
      simp [madeCells, flat, timesEnc, h3]
    | j + 2 =>
      rw [List.getElem?_eq_none (by rw [List.length_take]; omega), List.getElem?_eq_none (by simp [flat, timesEnc])]
  obtain ⟨mc, hmc⟩ : ∃ mc, madeCells #[Value.int .i64 0, .int .i64 0] (N1 * 2) = mc := ⟨_, rfl⟩
  rw [hmc] at hmc1 hmc2
  simp only [hmc] at hmk0
  have HMC1 := Lib.hid hmc1
  have HMC2 := Lib.hid hmc2
  have HN1 := Lib.hid hn1
  clear hmc hmc1 hmc2 hN1 hn1
  refine (callsIn_wide (n := 9)).1 ?_
  refine callsIn_of_wp_marks Tryd.func58 rfl trivial ?_ rfl
  simp only [Tryd.ntmps58, List.size_toArray, List.length_cons, List.length_nil, Nat.reduceAdd, Nat.reduceSub, Array.replicate_succ, Array.replicate_zero, List.push_toArray, List.append_toArray, List.nil_append, List.cons_append]
  gi_wp2_with (first
    | (refine ⟨trivial, ?_⟩; gi_at_call 81; go_must (refine (callsIn_wide.2 (road_Length r A0 A1 A2 n0 n1 n2 c0 c1 c2 _ (H0.out.below (by repeat (first | assumption | exact Below.refl _ _ | apply bel_alloc | apply bel_drew | apply bel_drewN | (refine bel_set ?_ (by first | assumption | omega | (simp; done) | (simp; omega)) _)))) (H1.out.below (by repeat (first | assumption | exact Below.refl _ _ | apply bel_alloc | apply bel_drew | apply bel_drewN | (refine bel_set ?_ (by first | assumption | omega | (simp; done) | (simp; omega)) _)))) (H2.out.below (by repeat (first | assumption | exact Below.refl _ _ | apply bel_alloc | apply bel_drew | apply bel_drewN | (refine bel_set ?_ (by first | assumption | omega | (simp; done) | (simp; omega)) _)))))).mono ?_); rintro e w1 ⟨rfl, hw1⟩; rw [HCK.out, HLN.out]; obtain ⟨hc1, hf1⟩ := bcell hw1; have hz1 : w.heap.size + 1 < w1.heap.size := by have := hw1.size; simp at this; omega)
    | (refine ⟨trivial, ?_⟩; gi_at_call 20; go_must (refine (callsIn_wide.2 (pace_Check s B2 B3 m2 m3 d2 d3 _ (G2.out.below (bel_then (by repeat (first | assumption | exact Below.refl _ _ | apply bel_alloc | apply bel_drew | apply bel_drewN | (refine bel_set ?_ (by first | assumption | omega | (simp; done) | (simp; omega)) _))) hw1)) (G3.out.below (bel_then (by repeat (first | assumption | exact Below.refl _ _ | apply bel_alloc | apply bel_drew | apply bel_drewN | (refine bel_set ?_ (by first | assumption | omega | (simp; done) | (simp; omega)) _))) hw1)))).mono ?_); rintro e w2 ⟨rfl, hw2⟩; rw [HSK.out]; obtain ⟨hc2, hf2⟩ := bcell hw2; have hz2 : w.heap.size + 1 < w2.heap.size := by have := hw2.size; omega))
  have RB := (((Blk.new w 26 #[.slice A0 n0 c0, .slice A1 n1 c1, .slice A2 n2 c2]).alloc (.cells #[.int .i64 s.least, .int .i64 s.most, .slice B2 m2 d2, .slice B3 m3 d3] 30)).below hw1).below hw2
  have SB := ((Blk.new_at (w.alloc (.cells #[.slice A0 n0 c0, .slice A1 n1 c1, .slice A2 n2 c2] 26)) (w.heap.size + 1) 30 #[.int .i64 s.least, .int .i64 s.most, .slice B2 m2 d2, .slice B3 m3 d3] (by simp)).below hw1).below hw2
  have HB2 : Hid (Below w.heap.size w w2) := Lib.hid (bel_then (bel_then (by repeat (first | assumption | exact Below.refl _ _ | apply bel_alloc | apply bel_drew | apply bel_drewN | (refine bel_set ?_ (by first | assumption | omega | (simp; done) | (simp; omega)) _))) hw1) hw2)
  have k0 := RB.cell 0
  have k1 := RB.cell 1
  have k2 := RB.cell 2
  have j0 := SB.cell 0
  have j1 := SB.cell 1
  have j2 := SB.cell 2
  have j3 := SB.cell 3
  have hz3 : w.heap.size < w2.heap.size := by omega
  have HRB := Lib.hid RB
  have HSB := Lib.hid SB
  clear hc1 hf1 hc2 hf2 hz1 hw1 hw2 RB SB

  gi_cut [8] from 23 (fun s8 wc => ∃ g b8 B : Nat, s8 = .pointer (some ⟨b8, 0, none⟩) ∧ Hid (Blk wc b8 108 #[.pointer (some ⟨g, 0, none⟩)]) ∧ Hid (Blk wc g 125 #[.slice A0 n0 c0, .slice A1 n1 c1, .slice A2 n2 c2, .slice (some ⟨B, 0, none⟩) 1 N1]) ∧ Hid (Own 2 timesEnc 122 wc w.heap.size (.slice (some ⟨B, 0, none⟩) 1 N1) [(0, 0)]) ∧ Hid (Below w2.heap.size w2 wc) ∧ Hid (w2.heap.size ≤ g ∧ w2.heap.size ≤ b8))
  case first =>
    gi_region
    all_goals
      gi_wp2
      gi_meet
      case rel => exact ⟨_, _, _, rfl, Lib.hid (by repeat (first | assumption | exact Blk.new_at _ _ _ _ (by simp) | refine Blk.drew ?_ | refine Blk.drewN ?_ _ | refine Blk.alloc ?_ _)), Lib.hid (by repeat (first | assumption | exact Blk.new_at _ _ _ _ (by simp) | refine Blk.drew ?_ | refine Blk.drewN ?_ _ | refine Blk.alloc ?_ _)), Lib.hid (own_of_blk timesEnc_len (mc := mc) (xs := [(0, 0)]) (by repeat (first | assumption | exact Blk.new_at _ _ _ _ (by simp) | refine Blk.drew ?_ | refine Blk.drewN ?_ _ | refine Blk.alloc ?_ _)) (by first | omega | (simp; omega)) (by have := HN1.out; show 1 ≤ N1; omega) (by have := HN1.out; omega) HMC1.out HMC2.out), Lib.hid (by repeat (first | assumption | exact Below.refl _ _ | apply bel_alloc | apply bel_drew | apply bel_drewN | (refine bel_set ?_ (by first | assumption | omega | (simp; done) | (simp; omega)) _))), Lib.hid (by refine ⟨?_, ?_⟩ <;> omega)⟩
  case rest =>
    obtain ⟨g, b8, B, rfl, HT, HG, HO, HBB, HGE⟩ := hcut
    obtain ⟨hge1, hge2⟩ := HGE.out
    have HOc := HO.out.lt B rfl
    obtain ⟨hB1, hB2⟩ := HOc
    have RB := HRB.out.below HBB.out
    have SB := HSB.out.below HBB.out
    have k0 := RB.cell 0
    have k1 := RB.cell 1
    have k2 := RB.cell 2
    have j0 := SB.cell 0
    have j1 := SB.cell 1
    have j2 := SB.cell 2
    have j3 := SB.cell 3
    have hz4 := SB.lt
    have hz5 := RB.lt
    have hgl := HG.out.lt
    have htl := HT.out.lt
    have HB3 : Hid (Below w.heap.size w wc) := Lib.hid (bel_then HB2.out HBB.out)
    gi_wp2_with (refine ⟨trivial, ?_⟩; gi_at_call 103; refine (callsIn_wide.2 (pace_meters _ _ _ _ _ _ _ _)).mono ?_; rintro e w' ⟨rfl, rfl⟩)
    obtain ⟨Wl, hWl⟩ : ∃ Wl, (((wc.alloc (.cells #[.int .i64 0, .int .i64 0] 122)).alloc (.cells #[.int .i64 s.least, .int .i64 s.most, .slice B2 m2 d2, .slice B3 m3 d3] 160)).alloc (.cells #[.slice A0 n0 c0, .slice A1 n1 c1, .slice A2 n2 c2] 26)) = Wl := ⟨_, rfl⟩
    have bN : Blk Wl wc.heap.size 122 #[.int .i64 0, .int .i64 0] := by rw [← hWl]; exact (by repeat (first | assumption | exact Blk.new_at _ _ _ _ (by simp) | refine Blk.drew ?_ | refine Blk.drewN ?_ _ | refine Blk.alloc ?_ _))
    have bT : Blk Wl (wc.heap.size + 1) 160 #[.int .i64 s.least, .int .i64 s.most, .slice B2 m2 d2, .slice B3 m3 d3] := by rw [← hWl]; exact (by repeat (first | assumption | exact Blk.new_at _ _ _ _ (by simp) | refine Blk.drew ?_ | refine Blk.drewN ?_ _ | refine Blk.alloc ?_ _))
    have bR : Blk Wl (wc.heap.size + 1 + 1) 26 #[.slice A0 n0 c0, .slice A1 n1 c1, .slice A2 n2 c2] := by rw [← hWl]; exact (by repeat (first | assumption | exact Blk.new_at _ _ _ _ (by simp) | refine Blk.drew ?_ | refine Blk.drewN ?_ _ | refine Blk.alloc ?_ _))
    have bG : Blk Wl g 125 #[.slice A0 n0 c0, .slice A1 n1 c1, .slice A2 n2 c2, .slice (some ⟨B, 0, none⟩) 1 N1] := by rw [← hWl]; exact ((HG.out.alloc _).alloc _).alloc _
    have bP : Blk Wl b8 108 #[.pointer (some ⟨g, 0, none⟩)] := by rw [← hWl]; exact ((HT.out.alloc _).alloc _).alloc _
    have bO : Own 2 timesEnc 122 Wl w.heap.size (.slice (some ⟨B, 0, none⟩) 1 N1) [(0, 0)] := by rw [← hWl]; exact ((HO.out.alloc _).alloc _).alloc _
    have hsz : Wl.heap.size = wc.heap.size + 3 := by rw [← hWl]; simp
    have bB : Below w.heap.size w Wl := by rw [← hWl]; exact bel_alloc (bel_alloc (bel_alloc HB3.out _) _) _
    rw [hWl]
    have hw2 := HB2.out.size
    have hwc := HB3.out.size
    have hmm := (metersUp_length (s := s) HR.out.pieces (Nat.le_refl _))
    have hap : Ap [g, wc.heap.size] g 3 Wl (fun k => k < w.heap.size ∨ k = wc.heap.size + 1 ∨ k = wc.heap.size + 1 + 1) := by
      refine ⟨by simp, fun k hd => ?_⟩
      rcases hd with hd | ⟨ad, n, c, hc, hk⟩
      · simp only [List.mem_cons, List.not_mem_nil, or_false] at hd
        omega
      · rw [bG.cell 3] at hc
        simp at hc
        obtain ⟨rfl, _⟩ := hc
        simp at hk
        omega
    have hsm : Sm w Wl := (Sm.refl w).below bB
    clear hWl k0 k1 k2 j0 j1 j2 j3 RB SB HG HO HT HBB HRB HSB hmk0 hz3 hz2
    refine wpIn_rangeFunc_ownH rfl (by decide) (gf := 113) (lb := #[.pointer (some ⟨wc.heap.size + 1, 0, none⟩), .pointer (some ⟨wc.heap.size + 1 + 1, 0, none⟩)]) rfl trivial (enters_of Tryd.func113 (by kernel_rfl) rfl)
      (meters_stops s r A0 A1 A2 B2 B3 n0 n1 n2 m2 m3 c0 c1 c2 d2 d3 w Wl (wc.heap.size + 1) (wc.heap.size + 1 + 1) H0.out G2.out G3.out HS.out HR.out hsm bT bR [g, wc.heap.size] g 3 hap 8 (by decide)) KpD.trans (KpD.of_putObj (by omega)) (Below.refl _ _) (fun _ => rfl)
      (fun pre W => (∃ B' cap, Blk W g 125 #[.slice A0 n0 c0, .slice A1 n1 c1, .slice A2 n2 c2, .slice (some ⟨B', 0, none⟩) (pre.length + 1) cap] ∧ Own 2 timesEnc 122 W w.heap.size (.slice (some ⟨B', 0, none⟩) (pre.length + 1) cap) (wsums pre) ∧ B' ≠ wc.heap.size)
        ∧ Blk W wc.heap.size 122 #[.int .i64 (wtot pre).1, .int .i64 (wtot pre).2] ∧ Blk W b8 108 #[.pointer (some ⟨g, 0, none⟩)] ∧ Below w.heap.size w W ∧ Wl.heap.size ≤ W.heap.size)
      (fun _ _ _ => False) ?hI (fun _ _ _ _ _ h _ _ => h) ?h0
      (fun x a' W => ∃ Bx, a' = { tmps := #[.agg #[.slice A0 n0 c0, .slice A1 n1 c1, .slice A2 n2 c2], .agg #[.int .i64 s.least, .int .i64 s.most, .slice B2 m2 d2, .slice B3 m3 d3], .pointer (some ⟨w.heap.size, 0, none⟩), .pointer (some ⟨w.heap.size + 1, 0, none⟩), .pointer none, .bool false, .int .i64 r.length, .int .i64 0, .pointer (some ⟨b8, 0, none⟩), .pointer (some ⟨wc.heap.size, 0, none⟩), .pointer (some ⟨Bx, 0, none⟩), .tuple #[.int .i64 r.length, .int .i64 0], .agg #[.slice A0 n0 c0, .slice A1 n1 c1, .slice A2 n2 c2], .tuple #[.int .i64 r.length, .int .i64 0], .int .i64 r.length, .int .i64 0, .int .i64 0, .bool false, .bool false, .agg #[.int .i64 s.least, .int .i64 s.most, .slice B2 m2 d2, .slice B3 m3 d3], .int .i64 0, .bool false, .bool false, u23, u24, u25, u26, u27, u28, .agg #[.int .i64 s.least, .int .i64 s.most, .slice B2 m2 d2, .slice B3 m3 d3], .agg #[.int .i64 s.least, .int .i64 s.most, .slice B2 m2 d2, .slice B3 m3 d3], .agg #[.slice A0 n0 c0, .slice A1 n1 c1, .slice A2 n2 c2], .func (.func 113) #[] #[.pointer (some ⟨wc.heap.size + 1, 0, none⟩), .pointer (some ⟨wc.heap.size + 1 + 1, 0, none⟩)], .agg #[.int .i64 x.1, .int .i64 x.2], u34, u35, u36, u37, u38, u39, u40, u41, u42, u43, u44, u45, u46, u47, u48, u49, u50, u51, u52, u53, u54, u55, u56, u57, u58, u59, u60, u61, u62, u63, u64, u65, u66, u67, u68], defers := [] } ∧ Blk W Bx 122 #[.int .i64 x.1, .int .i64 x.2] ∧ Wl.heap.size ≤ Bx ∧ ∃ cs, Blk W g 125 cs ∧ ∀ u, cs[3]? = some u → u.ownBlock ≠ some Bx)
      ?hAx ?assign ?body ?done ?stop
    case hI =>
      rintro pre W W' row ⟨⟨B', cap, h1, h2, h2'⟩, h3, h4, h5, h6⟩ hg hr
      exact ⟨⟨B', cap, h1.from_ hg hr, h2.from_ hg hr, h2'⟩, h3.from_ hg hr, h4.from_ hg hr, Below.from_ h5 bB.size hg hr, Nat.le_trans h6 hg.size⟩
    case h0 => exact ⟨⟨B, N1, bG, bO, by omega⟩, bN, bP, bB, Nat.le_refl _⟩
    case hAx =>
      rintro x a' _ W W' row ⟨Bx, rfl, h1, h2, cs, h3, h4⟩ hg hr
      exact ⟨Bx, rfl, h1.from_ hg hr, h2, cs, h3.from_ hg hr, h4⟩
    case assign =>
      rintro l pre x W K ⟨⟨B', cap, h1, h2, h2'⟩, h3, h4, h5, h6⟩ hK
      have hlt := (h2.lt B' rfl).2
      have K1 := Lib.hid h1
      have K2 := Lib.hid h2
      have K3 := Lib.hid h3
      have K4 := Lib.hid h4
      have HK := Lib.hid hK
      clear h1 h2 h3 h4 hK
      gi_wp2
      exact HK.out _ _ ((KeepsOthers.alloc _ _).from _) (KpD.below K1.out.lt (bel_alloc (Below.refl _ _) _)) ⟨⟨B', cap, K1.out.alloc _, K2.out.alloc _, h2'⟩, K3.out.alloc _, K4.out.alloc _, bel_alloc h5 _, by simp; omega⟩
        ⟨W.heap.size, rfl, Blk.new _ _ _, h6, _, K1.out.alloc _, fun u hu => by
          simp at hu
          subst hu
          simp [Value.ownBlock]
          omega⟩
    case body =>
      rintro l pre x a' W hl ⟨rr, hrr⟩ ⟨⟨B', cap, h1, h2, hBs⟩, h3, h4, h5, h6⟩ ⟨Bx, rfl, hx, hxB, cs, hcs, hne⟩ hlt
      have hce := h1.inj hcs
      subst hce
      have hBx : B' ≠ Bx := fun e => hne _ rfl (by simp [Value.ownBlock, e])
      have K1 := Lib.hid h1
      have K2 := Lib.hid h2
      have K3 := Lib.hid h3
      have K4 := Lib.hid h4
      have KX := Lib.hid hx
      have e0 := h3.cell 0
      have e1 := h3.cell 1
      have f0 := h3.frozen 0
      have f1 := h3.frozen 1
      have x0 := hx.cell 0
      have x1 := hx.cell 1
      have g0 := h1.cell 0
      have g1 := h1.cell 1
      have g2 := h1.cell 2
      have g3 := h1.cell 3
      have p0 := h4.cell 0
      have ls1 := h3.lt
      have ls2 := hx.lt
      have ls3 := h1.lt
      have ls4 := h4.lt
      have hne1 : Bx ≠ wc.heap.size := by omega
      have hne2 : wc.heap.size ≠ Bx := by omega
      clear h1 h2 h3 h4 hx hcs hne
      have hmx : Tryd.prog.follows .mixedOrders = true := by kernel_rfl
      clear bN bT bR bG bP bO hap hsm H0 H1 H2 G2 G3 HS HR HCK HSK HLN HMC1 HMC2 HB2 HB3 HGE
      gi_wp2
      obtain ⟨W0, hW0⟩ : ∃ W0, W0 = W.drew := ⟨_, rfl⟩
      refine wpIn_region_inv (fun b a' W' => a' = { tmps := #[.agg #[.slice A0 n0 c0, .slice A1 n1 c1, .slice A2 n2 c2], .agg #[.int .i64 s.least, .int .i64 s.most, .slice B2 m2 d2, .slice B3 m3 d3], .pointer (some ⟨w.heap.size, 0, none⟩), .pointer (some ⟨w.heap.size + 1, 0, none⟩), .pointer none, .bool false, .int .i64 r.length, .int .i64 0, .pointer (some ⟨b8, 0, none⟩), .pointer (some ⟨wc.heap.size, 0, none⟩), .pointer (some ⟨Bx, 0, none⟩), .tuple #[.int .i64 r.length, .int .i64 0], .agg #[.slice A0 n0 c0, .slice A1 n1 c1, .slice A2 n2 c2], .tuple #[.int .i64 r.length, .int .i64 0], .int .i64 r.length, .int .i64 0, .int .i64 0, .bool false, .bool false, .agg #[.int .i64 s.least, .int .i64 s.most, .slice B2 m2 d2, .slice B3 m3 d3], .int .i64 0, .bool false, .bool false, u23, u24, u25, u26, u27, u28, .agg #[.int .i64 s.least, .int .i64 s.most, .slice B2 m2 d2, .slice B3 m3 d3], .agg #[.int .i64 s.least, .int .i64 s.most, .slice B2 m2 d2, .slice B3 m3 d3], .agg #[.slice A0 n0 c0, .slice A1 n1 c1, .slice A2 n2 c2], .func (.func 113) #[] #[.pointer (some ⟨wc.heap.size + 1, 0, none⟩), .pointer (some ⟨wc.heap.size + 1 + 1, 0, none⟩)], .agg #[.int .i64 x.1, .int .i64 x.2], cond (b 0) (.pointer (some ⟨wc.heap.size, 0, none⟩)) u34, cond (b 1) (.int .i64 (wtot pre).1) u35, cond (b 2) (.pointer (some ⟨Bx, 0, none⟩)) u36, cond (b 3) (.int .i64 x.1) u37, cond (b 4) (.int .i64 (IntKind.wrap .i64 ((wtot pre).1 + x.1))) u38, cond (b 5) (.pointer (some ⟨wc.heap.size, 1, none⟩)) u39, cond (b 6) (.int .i64 (wtot pre).2) u40, cond (b 7) (.pointer (some ⟨Bx, 1, none⟩)) u41, cond (b 8) (.int .i64 x.2) u42, cond (b 9) (.int .i64 (IntKind.wrap .i64 ((wtot pre).2 + x.2))) u43, cond (b 10) (.pointer (some ⟨wc.heap.size, 0, none⟩)) u44, cond (b 12) (.pointer (some ⟨wc.heap.size, 1, none⟩)) u45, u46, u47, u48, u49, u50, u51, u52, u53, u54, u55, u56, u57, u58, u59, u60, u61, u62, u63, u64, u65, u66, u67, u68], defers := [] }
          ∧ W' = cond (b 13) ((W.setCell ⟨wc.heap.size, 0, none⟩ (.int .i64 (IntKind.wrap .i64 ((wtot pre).1 + x.1)))).setCell ⟨wc.heap.size, 1, none⟩ (.int .i64 (IntKind.wrap .i64 ((wtot pre).2 + x.2)))).drew (cond (b 11) ((W.setCell ⟨wc.heap.size, 0, none⟩ (.int .i64 (IntKind.wrap .i64 ((wtot pre).1 + x.1)))).drew) W.drew)
          ∧ (b 11 = true → b 1 = true ∧ b 3 = true ∧ b 6 = true) ∧ (b 13 = true → b 11 = true ∧ b 8 = true)) hmx (by kernel_rfl) ?_ ?_ ?_
      · refine ⟨rfl, rfl, ?_, ?_⟩ <;> (intro h; cases h)
      · intro i hi
        rcases i with _ | _ | _ | _ | _ | _ | _ | _ | _ | _ | _ | _ | _ | _ | i
        · refine step_of [] _ (by kernel_rfl) rfl rfl ?_; rintro b a' W' hb hns ⟨rfl, rfl, hc1, hc2⟩ K hK; simp only [List.forall_mem_cons, List.not_mem_nil, false_implies, implies_true, and_true] at hns; (try simp only [Nat.zero_add, Nat.reduceAdd] at hb)
          generalize hWg : cond (b 13) _ _ = Wg; (try simp only [hb, hns, cond_true, cond_false]); go_simp; exact hK _ _ ⟨by first | rfl | (simp [upb, hb, hns]; done) | (simp [upb, hb]; done) | (simp [upb, *]; done), by first | (rw [← hWg]; simp [upb]; done) | (simp [upb, hb, hns, *]; done), by first | (intro h; have h9 := hc1 (by simpa [upb] using h); simp [upb, h9]; done) | (simp [upb, hns, *]; done), by first | (intro h; have h9 := hc2 (by simpa [upb] using h); simp [upb, h9]; done) | (simp [upb, hns, *]; done)⟩
        · refine step_of [0] _ (by kernel_rfl) rfl rfl ?_; rintro b a' W' hb hns ⟨rfl, rfl, hc1, hc2⟩ K hK; simp only [List.forall_mem_cons, List.not_mem_nil, false_implies, implies_true, and_true] at hns; (try simp only [Nat.zero_add, Nat.reduceAdd] at hb)
          have e11 : b 11 = false := (by cases h : b 11 with | false => rfl | true => (have := hc1 h; simp_all)); have e13 : b 13 = false := (by cases h : b 13 with | false => rfl | true => (have := hc2 h; simp_all)); simp only [hb, hns, e11, e13, cond_true, cond_false]; go_simp; exact hK _ _ ⟨by first | rfl | (simp [upb, hb, hns]; done) | (simp [upb, hb]; done) | (simp [upb, *]; done), by first | (rw [← hWg]; simp [upb]; done) | (simp [upb, hb, hns, *]; done), by first | (intro h; have h9 := hc1 (by simpa [upb] using h); simp [upb, h9]; done) | (simp [upb, hns, *]; done), by first | (intro h; have h9 := hc2 (by simpa [upb] using h); simp [upb, h9]; done) | (simp [upb, hns, *]; done)⟩
        · refine step_of [] _ (by kernel_rfl) rfl rfl ?_; rintro b a' W' hb hns ⟨rfl, rfl, hc1, hc2⟩ K hK; simp only [List.forall_mem_cons, List.not_mem_nil, false_implies, implies_true, and_true] at hns; (try simp only [Nat.zero_add, Nat.reduceAdd] at hb)
          generalize hWg : cond (b 13) _ _ = Wg; (try simp only [hb, hns, cond_true, cond_false]); go_simp; exact hK _ _ ⟨by first | rfl | (simp [upb, hb, hns]; done) | (simp [upb, hb]; done) | (simp [upb, *]; done), by first | (rw [← hWg]; simp [upb]; done) | (simp [upb, hb, hns, *]; done), by first | (intro h; have h9 := hc1 (by simpa [upb] using h); simp [upb, h9]; done) | (simp [upb, hns, *]; done), by first | (intro h; have h9 := hc2 (by simpa [upb] using h); simp [upb, h9]; done) | (simp [upb, hns, *]; done)⟩
        · refine step_of [2] _ (by kernel_rfl) rfl rfl ?_; rintro b a' W' hb hns ⟨rfl, rfl, hc1, hc2⟩ K hK; simp only [List.forall_mem_cons, List.not_mem_nil, false_implies, implies_true, and_true] at hns; (try simp only [Nat.zero_add, Nat.reduceAdd] at hb)
          have e11 : b 11 = false := (by cases h : b 11 with | false => rfl | true => (have := hc1 h; simp_all)); have e13 : b 13 = false := (by cases h : b 13 with | false => rfl | true => (have := hc2 h; simp_all)); simp only [hb, hns, e11, e13, cond_true, cond_false]; go_simp; exact hK _ _ ⟨by first | rfl | (simp [upb, hb, hns]; done) | (simp [upb, hb]; done) | (simp [upb, *]; done), by first | (rw [← hWg]; simp [upb]; done) | (simp [upb, hb, hns, *]; done), by first | (intro h; have h9 := hc1 (by simpa [upb] using h); simp [upb, h9]; done) | (simp [upb, hns, *]; done), by first | (intro h; have h9 := hc2 (by simpa [upb] using h); simp [upb, h9]; done) | (simp [upb, hns, *]; done)⟩
        · refine step_of [1, 3] _ (by kernel_rfl) rfl rfl ?_; rintro b a' W' hb hns ⟨rfl, rfl, hc1, hc2⟩ K hK; simp only [List.forall_mem_cons, List.not_mem_nil, false_implies, implies_true, and_true] at hns; (try simp only [Nat.zero_add, Nat.reduceAdd] at hb)
          generalize hWg : cond (b 13) _ _ = Wg; (try simp only [hb, hns, cond_true, cond_false]); go_simp; exact hK _ _ ⟨by first | rfl | (simp [upb, hb, hns]; done) | (simp [upb, hb]; done) | (simp [upb, *]; done), by first | (rw [← hWg]; simp [upb]; done) | (simp [upb, hb, hns, *]; done), by first | (intro h; have h9 := hc1 (by simpa [upb] using h); simp [upb, h9]; done) | (simp [upb, hns, *]; done), by first | (intro h; have h9 := hc2 (by simpa [upb] using h); simp [upb, h9]; done) | (simp [upb, hns, *]; done)⟩
        · refine step_of [] _ (by kernel_rfl) rfl rfl ?_; rintro b a' W' hb hns ⟨rfl, rfl, hc1, hc2⟩ K hK; simp only [List.forall_mem_cons, List.not_mem_nil, false_implies, implies_true, and_true] at hns; (try simp only [Nat.zero_add, Nat.reduceAdd] at hb)
          generalize hWg : cond (b 13) _ _ = Wg; (try simp only [hb, hns, cond_true, cond_false]); go_simp; exact hK _ _ ⟨by first | rfl | (simp [upb, hb, hns]; done) | (simp [upb, hb]; done) | (simp [upb, *]; done), by first | (rw [← hWg]; simp [upb]; done) | (simp [upb, hb, hns, *]; done), by first | (intro h; have h9 := hc1 (by simpa [upb] using h); simp [upb, h9]; done) | (simp [upb, hns, *]; done), by first | (intro h; have h9 := hc2 (by simpa [upb] using h); simp [upb, h9]; done) | (simp [upb, hns, *]; done)⟩
        · refine step_of [5] _ (by kernel_rfl) rfl rfl ?_; rintro b a' W' hb hns ⟨rfl, rfl, hc1, hc2⟩ K hK; simp only [List.forall_mem_cons, List.not_mem_nil, false_implies, implies_true, and_true] at hns; (try simp only [Nat.zero_add, Nat.reduceAdd] at hb)
          have e11 : b 11 = false := (by cases h : b 11 with | false => rfl | true => (have := hc1 h; simp_all)); have e13 : b 13 = false := (by cases h : b 13 with | false => rfl | true => (have := hc2 h; simp_all)); simp only [hb, hns, e11, e13, cond_true, cond_false]; go_simp; exact hK _ _ ⟨by first | rfl | (simp [upb, hb, hns]; done) | (simp [upb, hb]; done) | (simp [upb, *]; done), by first | (rw [← hWg]; simp [upb]; done) | (simp [upb, hb, hns, *]; done), by first | (intro h; have h9 := hc1 (by simpa [upb] using h); simp [upb, h9]; done) | (simp [upb, hns, *]; done), by first | (intro h; have h9 := hc2 (by simpa [upb] using h); simp [upb, h9]; done) | (simp [upb, hns, *]; done)⟩
        · refine step_of [] _ (by kernel_rfl) rfl rfl ?_; rintro b a' W' hb hns ⟨rfl, rfl, hc1, hc2⟩ K hK; simp only [List.forall_mem_cons, List.not_mem_nil, false_implies, implies_true, and_true] at hns; (try simp only [Nat.zero_add, Nat.reduceAdd] at hb)
          generalize hWg : cond (b 13) _ _ = Wg; (try simp only [hb, hns, cond_true, cond_false]); go_simp; exact hK _ _ ⟨by first | rfl | (simp [upb, hb, hns]; done) | (simp [upb, hb]; done) | (simp [upb, *]; done), by first | (rw [← hWg]; simp [upb]; done) | (simp [upb, hb, hns, *]; done), by first | (intro h; have h9 := hc1 (by simpa [upb] using h); simp [upb, h9]; done) | (simp [upb, hns, *]; done), by first | (intro h; have h9 := hc2 (by simpa [upb] using h); simp [upb, h9]; done) | (simp [upb, hns, *]; done)⟩
        · refine step_of [7] _ (by kernel_rfl) rfl rfl ?_; rintro b a' W' hb hns ⟨rfl, rfl, hc1, hc2⟩ K hK; simp only [List.forall_mem_cons, List.not_mem_nil, false_implies, implies_true, and_true] at hns; (try simp only [Nat.zero_add, Nat.reduceAdd] at hb)
          have e13 : b 13 = false := (by cases h : b 13 with | false => rfl | true => (have := hc2 h; simp_all))
          simp only [hb, hns, e13, cond_true, cond_false]
          cases h11 : b 11 <;> simp only [cond_true, cond_false] <;> (go_simp; exact hK _ _ ⟨by first | rfl | (simp [upb, hb, hns]; done) | (simp [upb, hb]; done) | (simp [upb, *]; done), by first | (rw [← hWg]; simp [upb]; done) | (simp [upb, hb, hns, *]; done), by first | (intro h; have h9 := hc1 (by simpa [upb] using h); simp [upb, h9]; done) | (simp [upb, hns, *]; done), by first | (intro h; have h9 := hc2 (by simpa [upb] using h); simp [upb, h9]; done) | (simp [upb, hns, *]; done)⟩)
        · refine step_of [6, 8] _ (by kernel_rfl) rfl rfl ?_; rintro b a' W' hb hns ⟨rfl, rfl, hc1, hc2⟩ K hK; simp only [List.forall_mem_cons, List.not_mem_nil, false_implies, implies_true, and_true] at hns; (try simp only [Nat.zero_add, Nat.reduceAdd] at hb)
          generalize hWg : cond (b 13) _ _ = Wg; (try simp only [hb, hns, cond_true, cond_false]); go_simp; exact hK _ _ ⟨by first | rfl | (simp [upb, hb, hns]; done) | (simp [upb, hb]; done) | (simp [upb, *]; done), by first | (rw [← hWg]; simp [upb]; done) | (simp [upb, hb, hns, *]; done), by first | (intro h; have h9 := hc1 (by simpa [upb] using h); simp [upb, h9]; done) | (simp [upb, hns, *]; done), by first | (intro h; have h9 := hc2 (by simpa [upb] using h); simp [upb, h9]; done) | (simp [upb, hns, *]; done)⟩
        · refine step_of [0, 1, 2, 3, 4, 5, 6] _ (by kernel_rfl) rfl rfl ?_; rintro b a' W' hb hns ⟨rfl, rfl, hc1, hc2⟩ K hK; simp only [List.forall_mem_cons, List.not_mem_nil, false_implies, implies_true, and_true] at hns; (try simp only [Nat.zero_add, Nat.reduceAdd] at hb)
          generalize hWg : cond (b 13) _ _ = Wg; (try simp only [hb, hns, cond_true, cond_false]); go_simp; exact hK _ _ ⟨by first | rfl | (simp [upb, hb, hns]; done) | (simp [upb, hb]; done) | (simp [upb, *]; done), by first | (rw [← hWg]; simp [upb]; done) | (simp [upb, hb, hns, *]; done), by first | (intro h; have h9 := hc1 (by simpa [upb] using h); simp [upb, h9]; done) | (simp [upb, hns, *]; done), by first | (intro h; have h9 := hc2 (by simpa [upb] using h); simp [upb, h9]; done) | (simp [upb, hns, *]; done)⟩
        · refine step_of [10, 4, 0, 1, 2, 3, 4, 5, 6] _ (by kernel_rfl) rfl rfl ?_; rintro b a' W' hb hns ⟨rfl, rfl, hc1, hc2⟩ K hK; simp only [List.forall_mem_cons, List.not_mem_nil, false_implies, implies_true, and_true] at hns; (try simp only [Nat.zero_add, Nat.reduceAdd] at hb)
          have e13 : b 13 = false := (by cases h : b 13 with | false => rfl | true => (have := hc2 h; simp_all))
          simp only [hb, hns, e13, cond_true, cond_false]
          go_simp
          exact hK _ _ ⟨by first | rfl | (simp [upb, hb, hns]; done) | (simp [upb, hb]; done) | (simp [upb, *]; done), by first | (rw [← hWg]; simp [upb]; done) | (simp [upb, hb, hns, *]; done), by first | (intro h; have h9 := hc1 (by simpa [upb] using h); simp [upb, h9]; done) | (simp [upb, hns, *]; done), by first | (intro h; have h9 := hc2 (by simpa [upb] using h); simp [upb, h9]; done) | (simp [upb, hns, *]; done)⟩
        · refine step_of [0, 1, 2, 3, 4, 5, 6, 7, 8, 9, 10, 11] _ (by kernel_rfl) rfl rfl ?_; rintro b a' W' hb hns ⟨rfl, rfl, hc1, hc2⟩ K hK; simp only [List.forall_mem_cons, List.not_mem_nil, false_implies, implies_true, and_true] at hns; (try simp only [Nat.zero_add, Nat.reduceAdd] at hb)
          generalize hWg : cond (b 13) _ _ = Wg; (try simp only [hb, hns, cond_true, cond_false]); go_simp; exact hK _ _ ⟨by first | rfl | (simp [upb, hb, hns]; done) | (simp [upb, hb]; done) | (simp [upb, *]; done), by first | (rw [← hWg]; simp [upb]; done) | (simp [upb, hb, hns, *]; done), by first | (intro h; have h9 := hc1 (by simpa [upb] using h); simp [upb, h9]; done) | (simp [upb, hns, *]; done), by first | (intro h; have h9 := hc2 (by simpa [upb] using h); simp [upb, h9]; done) | (simp [upb, hns, *]; done)⟩
        · refine step_of [12, 9, 11, 0, 1, 2, 3, 4, 5, 6, 7, 8, 9, 10, 11] _ (by kernel_rfl) rfl rfl ?_; rintro b a' W' hb hns ⟨rfl, rfl, hc1, hc2⟩ K hK; simp only [List.forall_mem_cons, List.not_mem_nil, false_implies, implies_true, and_true] at hns; (try simp only [Nat.zero_add, Nat.reduceAdd] at hb)
          simp only [hb, hns, cond_true, cond_false]
          go_simp
          exact hK _ _ ⟨by first | rfl | (simp [upb, hb, hns]; done) | (simp [upb, hb]; done) | (simp [upb, *]; done), by first | (rw [← hWg]; simp [upb]; done) | (simp [upb, hb, hns, *]; done), by first | (intro h; have h9 := hc1 (by simpa [upb] using h); simp [upb, h9]; done) | (simp [upb, hns, *]; done), by first | (intro h; have h9 := hc2 (by simpa [upb] using h); simp [upb, h9]; done) | (simp [upb, hns, *]; done)⟩
        · exact absurd hi (by simp)
      · rintro b a' W' hall ⟨rfl, rfl, -, -⟩
        have c0 := hall 0 (by decide)
        have c1 := hall 1 (by decide)
        have c2 := hall 2 (by decide)
        have c3 := hall 3 (by decide)
        have c4 := hall 4 (by decide)
        have c5 := hall 5 (by decide)
        have c6 := hall 6 (by decide)
        have c7 := hall 7 (by decide)
        have c8 := hall 8 (by decide)
        have c9 := hall 9 (by decide)
        have c10 := hall 10 (by decide)
        have c12 := hall 12 (by decide)
        have c13 := hall 13 (by decide)
        simp only [c0, c1, c2, c3, c4, c5, c6, c7, c8, c9, c10, c12, c13, cond_true]
        clear c0 c1 c2 c3 c4 c5 c6 c7 c8 c9 c10 c12 c13 hall
        obtain ⟨s1, hs1⟩ : ∃ s1, IntKind.wrap .i64 ((wtot pre).1 + x.1) = s1 := ⟨_, rfl⟩
        obtain ⟨s2, hs2⟩ : ∃ s2, IntKind.wrap .i64 ((wtot pre).2 + x.2) = s2 := ⟨_, rfl⟩
        rw [hs1, hs2]
        obtain ⟨W8, hW8⟩ : ∃ W8, ((W.setCell ⟨wc.heap.size, 0, none⟩ (.int .i64 s1)).setCell ⟨wc.heap.size, 1, none⟩ (.int .i64 s2)).drew = W8 := ⟨_, rfl⟩
        have S8 : Hid (Blk W8 wc.heap.size 122 #[.int .i64 s1, .int .i64 s2]) := Lib.hid (by rw [← hW8]; exact (K3.out.set 0 _).set 1 _)
        have G8 : Hid (Blk W8 g 125 #[.slice A0 n0 c0, .slice A1 n1 c1, .slice A2 n2 c2, .slice (some ⟨B', 0, none⟩) (pre.length + 1) cap]) := Lib.hid (by rw [← hW8]; exact (K1.out.far (by show g ≠ wc.heap.size; omega) _).far (by show g ≠ wc.heap.size; omega) _)
        have P8 : Hid (Blk W8 b8 108 #[.pointer (some ⟨g, 0, none⟩)]) := Lib.hid (by rw [← hW8]; exact (K4.out.far (by show b8 ≠ wc.heap.size; omega) _).far (by show b8 ≠ wc.heap.size; omega) _)
        have O8 : Hid (Own 2 timesEnc 122 W8 w.heap.size (.slice (some ⟨B', 0, none⟩) (pre.length + 1) cap) (wsums pre)) := Lib.hid (by rw [← hW8]; exact (K2.out.far (by simp [Value.ownBlock, Ne.symm hBs]) _).far (by simp [Value.ownBlock, Ne.symm hBs]) _)
        rw [hW8]
        have p8 := P8.out.cell 0
        have g80 := G8.out.cell 3
        have s80 := S8.out.cell 0
        have s81 := S8.out.cell 1
        have l81 := P8.out.lt
        have l82 := G8.out.lt
        have l83 := S8.out.lt
        have p8a := (P8.out.alloc (.cells #[.int .i64 s1, .int .i64 s2] 122)).cell 0
        have p8b := (P8.out.alloc (.cells #[.int .i64 s1, .int .i64 s2] 122)).drew.cell 0
        have g8a := (G8.out.alloc (.cells #[.int .i64 s1, .int .i64 s2] 122)).cell 3
        have g8b := (G8.out.alloc (.cells #[.int .i64 s1, .int .i64 s2] 122)).drew.cell 3
        have n81 : b8 ≠ W8.heap.size := by omega
        have n82 : g ≠ W8.heap.size := by omega
        have n83 : W8.heap.size ≠ b8 := by omega
        have n84 : W8.heap.size ≠ g := by omega
        have hB8 : Hid (Below w.heap.size w W8) := Lib.hid (by rw [← hW8]; exact bel_drew (bel_set (bel_set h5 (by show w.heap.size ≤ wc.heap.size; omega) _) (by show w.heap.size ≤ wc.heap.size; omega) _))
        have hW8a : Hid (KeepsOthers W W8) := Lib.hid (by rw [← hW8]; exact ((KeepsOthers.setCell _ _ _).trans (KeepsOthers.setCell _ _ _)).trans (KeepsOthers.drew _))
        have hW8b : Hid (∀ k, k ≠ wc.heap.size → W8.heap[k]? = W.heap[k]?) := Lib.hid (by rw [← hW8]; intro k hk; exact (Below.heap_setCell _ _ _ _ hk).trans (Below.heap_setCell _ _ _ _ hk))
        have hO8c : Hid (∀ (j : Nat) (o : Obj), some B' = some j → W8.heap[j]? = some o → o.isCells = true) := Lib.hid (by
          intro j o hj ho
          cases hj
          rcases O8.out.2 with ⟨hn, _⟩ | ⟨g', cap', cur, hn, _, hh, _⟩
          · cases hn
          · simp at hn
            rw [← hn.1] at hh
            rw [ho] at hh
            cases hh
            rfl)
        have hpl : pre.length ≤ 100000 := by
          have h9 : ((metersUp s r.pieces r.pieces.length).length : Int) = r.length := hmm
          omega
        have hsz8 : W8.heap.size = W.heap.size := by rw [← hW8]; simp
        clear hW8 K2 K3 K4 KX e0 e1 f0 f1 x0 x1 g0 g1 g2 g3 p0 ls1 ls2 ls3 ls4
        gi_wp2
        refine wpIn_region_inv (fun b a' W' => ∃ (sl : Value) (w9 : World), a' = { tmps := #[.agg #[.slice A0 n0 c0, .slice A1 n1 c1, .slice A2 n2 c2], .agg #[.int .i64 s.least, .int .i64 s.most, .slice B2 m2 d2, .slice B3 m3 d3], .pointer (some ⟨w.heap.size, 0, none⟩), .pointer (some ⟨w.heap.size + 1, 0, none⟩), .pointer none, .bool false, .int .i64 r.length, .int .i64 0, .pointer (some ⟨b8, 0, none⟩), .pointer (some ⟨wc.heap.size, 0, none⟩), .pointer (some ⟨Bx, 0, none⟩), .tuple #[.int .i64 r.length, .int .i64 0], .agg #[.slice A0 n0 c0, .slice A1 n1 c1, .slice A2 n2 c2], .tuple #[.int .i64 r.length, .int .i64 0], .int .i64 r.length, .int .i64 0, .int .i64 0, .bool false, .bool false, .agg #[.int .i64 s.least, .int .i64 s.most, .slice B2 m2 d2, .slice B3 m3 d3], .int .i64 0, .bool false, .bool false, u23, u24, u25, u26, u27, u28, .agg #[.int .i64 s.least, .int .i64 s.most, .slice B2 m2 d2, .slice B3 m3 d3], .agg #[.int .i64 s.least, .int .i64 s.most, .slice B2 m2 d2, .slice B3 m3 d3], .agg #[.slice A0 n0 c0, .slice A1 n1 c1, .slice A2 n2 c2], .func (.func 113) #[] #[.pointer (some ⟨wc.heap.size + 1, 0, none⟩), .pointer (some ⟨wc.heap.size + 1 + 1, 0, none⟩)], .agg #[.int .i64 x.1, .int .i64 x.2], .pointer (some ⟨wc.heap.size, 0, none⟩), .int .i64 (wtot pre).1, .pointer (some ⟨Bx, 0, none⟩), .int .i64 x.1, .int .i64 s1, .pointer (some ⟨wc.heap.size, 1, none⟩), .int .i64 (wtot pre).2, .pointer (some ⟨Bx, 1, none⟩), .int .i64 x.2, .int .i64 s2, .pointer (some ⟨wc.heap.size, 0, none⟩), .pointer (some ⟨wc.heap.size, 1, none⟩), cond (b 0) (.pointer (some ⟨g, 0, none⟩)) u46, cond (b 1) (.pointer (some ⟨g, 0, none⟩)) u47, cond (b 2) (.pointer (some ⟨g, 0, none⟩)) u48, cond (b 3) (.pointer (some ⟨g, 3, none⟩)) u49, cond (b 4) (.slice (some ⟨B', 0, none⟩) (pre.length + 1) cap) u50, cond (b 5) (.agg #[.int .i64 s1, .int .i64 s2]) u51, cond (b 6) (.slice (some ⟨W8.heap.size, 0, none⟩) 1 1) u52, cond (b 7) sl u53, cond (b 8) (.pointer (some ⟨g, 0, none⟩)) u54, cond (b 9) (.pointer (some ⟨g, 3, none⟩)) u55, u56, u57, u58, u59, u60, u61, u62, u63, u64, u65, u66, u67, u68], defers := [] }
          ∧ W' = cond (b 10) (w9.setCell ⟨g, 3, none⟩ sl) (cond (b 7) w9 (cond (b 6) ((W8.alloc (.cells #[.int .i64 s1, .int .i64 s2] 122)).drew) W8.drew))
          ∧ (b 7 = true → Hid (∃ g1 cap1, sl = .slice (some ⟨g1, 0, none⟩) (pre.length + 1 + 1) cap1 ∧ Own 2 timesEnc 122 w9 w.heap.size sl (wsums pre ++ [(s1, s2)]) ∧ Below w.heap.size w w9 ∧ Blk w9 g 125 #[.slice A0 n0 c0, .slice A1 n1 c1, .slice A2 n2 c2, .slice (some ⟨B', 0, none⟩) (pre.length + 1) cap] ∧ Blk w9 b8 108 #[.pointer (some ⟨g, 0, none⟩)] ∧ Blk w9 wc.heap.size 122 #[.int .i64 s1, .int .i64 s2] ∧ W8.heap.size ≤ w9.heap.size ∧ g1 ≠ wc.heap.size ∧ W8.grownBy w9 (some B') ∧ (g1 = B' ∨ g1 = W8.heap.size + 1)))
          ∧ (b 6 = true → b 5 = true) ∧ (b 7 = true → b 1 = true ∧ b 4 = true ∧ b 6 = true) ∧ (b 10 = true → b 0 = true ∧ b 7 = true) ∧ ((b 2 = true ∨ b 3 = true ∨ b 4 = true) → b 1 = true)) hmx (by kernel_rfl) ?_ ?_ ?_
        · refine ⟨undef, W8, rfl, rfl, ?_, ?_, ?_, ?_, ?_⟩ <;> (intro h; simp at h)
        · intro i hi
          rcases i with _ | _ | _ | _ | _ | _ | _ | _ | _ | _ | _ | i
          · refine step_of [] _ (by kernel_rfl) rfl rfl ?_; rintro b a' W' hb hns ⟨sl, w9, rfl, rfl, hF, hc6, hc7, hc10, hcA⟩ K hK; simp only [List.forall_mem_cons, List.not_mem_nil, false_implies, implies_true, and_true] at hns; (try simp only [Nat.zero_add, Nat.reduceAdd] at hb)
            have e10 : b 10 = false := (by cases h : b 10 with | false => rfl | true => (have := hc10 h; simp_all))
            cases h7 : b 7 with
            | false =>
              simp only [hb, e10, cond_true, cond_false]
              cases h6 : b 6 <;> simp only [cond_true, cond_false] <;> (go_simp; exact hK _ _ ⟨sl, w9, by first | rfl | (simp [upb, hb, hns]; done) | (simp [upb, hb]; done) | (simp [upb, *]; done), by first | (rw [← hWg]; simp [upb]; done) | (simp [upb, hb, *]; done) | (simp [upb, hb, hns, *]; done), fun h => hF (by simpa [upb] using h), by first | (intro h; have h9 := hc6 (by simpa [upb] using h); simp [upb, h9]; done) | (simp [upb, hns, *]; done), by first | (intro h; have h9 := hc7 (by simpa [upb] using h); simp [upb, h9]; done) | (simp [upb, hns, *]; done), by first | (intro h; have h9 := hc10 (by simpa [upb] using h); simp [upb, h9]; done) | (simp [upb, hns, *]; done), by first | (intro h; have h9 := hcA (by simpa [upb] using h); simp [upb, h9]; done) | (simp [upb, hns, *]; done)⟩)
            | true =>
              obtain ⟨g1, cap1, hsl, hO, hBe, hG, hP, hS, hsz, hgn, hgr, hwh⟩ := (hF h7).out
              have p9 := hP.cell 0
              have hG := Lib.hid hG
              have hS := Lib.hid hS
              have hO := Lib.hid hO
              simp only [hb, e10, cond_true, cond_false]
              go_simp
              exact hK _ _ ⟨sl, w9, by first | rfl | (simp [upb, hb, hns]; done) | (simp [upb, hb]; done) | (simp [upb, *]; done), by first | (rw [← hWg]; simp [upb]; done) | (simp [upb, hb, *]; done) | (simp [upb, hb, hns, *]; done), fun h => hF (by simpa [upb] using h), by first | (intro h; have h9 := hc6 (by simpa [upb] using h); simp [upb, h9]; done) | (simp [upb, hns, *]; done), by first | (intro h; have h9 := hc7 (by simpa [upb] using h); simp [upb, h9]; done) | (simp [upb, hns, *]; done), by first | (intro h; have h9 := hc10 (by simpa [upb] using h); simp [upb, h9]; done) | (simp [upb, hns, *]; done), by first | (intro h; have h9 := hcA (by simpa [upb] using h); simp [upb, h9]; done) | (simp [upb, hns, *]; done)⟩
          · refine step_of [] _ (by kernel_rfl) rfl rfl ?_; rintro b a' W' hb hns ⟨sl, w9, rfl, rfl, hF, hc6, hc7, hc10, hcA⟩ K hK; simp only [List.forall_mem_cons, List.not_mem_nil, false_implies, implies_true, and_true] at hns; (try simp only [Nat.zero_add, Nat.reduceAdd] at hb)
            have e7 : b 7 = false := (by cases h : b 7 with | false => rfl | true => (have := hc7 h; simp_all))
            have e10 : b 10 = false := (by cases h : b 10 with | false => rfl | true => (have := hc10 h; simp_all))
            simp only [hb, e7, e10, cond_true, cond_false]
            cases h6 : b 6 <;> simp only [cond_true, cond_false] <;> (go_simp; exact hK _ _ ⟨sl, w9, by first | rfl | (simp [upb, hb, hns]; done) | (simp [upb, hb]; done) | (simp [upb, *]; done), by first | (rw [← hWg]; simp [upb]; done) | (simp [upb, hb, *]; done) | (simp [upb, hb, hns, *]; done), fun h => hF (by simpa [upb] using h), by first | (intro h; have h9 := hc6 (by simpa [upb] using h); simp [upb, h9]; done) | (simp [upb, hns, *]; done), by first | (intro h; have h9 := hc7 (by simpa [upb] using h); simp [upb, h9]; done) | (simp [upb, hns, *]; done), by first | (intro h; have h9 := hc10 (by simpa [upb] using h); simp [upb, h9]; done) | (simp [upb, hns, *]; done), by first | (intro h; have h9 := hcA (by simpa [upb] using h); simp [upb, h9]; done) | (simp [upb, hns, *]; done)⟩)
          · refine step_of [1] _ (by kernel_rfl) rfl rfl ?_; rintro b a' W' hb hns ⟨sl, w9, rfl, rfl, hF, hc6, hc7, hc10, hcA⟩ K hK; simp only [List.forall_mem_cons, List.not_mem_nil, false_implies, implies_true, and_true] at hns; (try simp only [Nat.zero_add, Nat.reduceAdd] at hb)
            generalize hWg : cond (b 10) _ _ = Wg; (try simp only [hb, hns, cond_true, cond_false]); go_simp; exact hK _ _ ⟨sl, w9, by first | rfl | (simp [upb, hb, hns]; done) | (simp [upb, hb]; done) | (simp [upb, *]; done), by first | (rw [← hWg]; simp [upb]; done) | (simp [upb, hb, *]; done) | (simp [upb, hb, hns, *]; done), fun h => hF (by simpa [upb] using h), by first | (intro h; have h9 := hc6 (by simpa [upb] using h); simp [upb, h9]; done) | (simp [upb, hns, *]; done), by first | (intro h; have h9 := hc7 (by simpa [upb] using h); simp [upb, h9]; done) | (simp [upb, hns, *]; done), by first | (intro h; have h9 := hc10 (by simpa [upb] using h); simp [upb, h9]; done) | (simp [upb, hns, *]; done), by first | (intro h; have h9 := hcA (by simpa [upb] using h); simp [upb, h9]; done) | (simp [upb, hns, *]; done)⟩
          · refine step_of [2] _ (by kernel_rfl) rfl rfl ?_; rintro b a' W' hb hns ⟨sl, w9, rfl, rfl, hF, hc6, hc7, hc10, hcA⟩ K hK; simp only [List.forall_mem_cons, List.not_mem_nil, false_implies, implies_true, and_true] at hns; (try simp only [Nat.zero_add, Nat.reduceAdd] at hb)
            generalize hWg : cond (b 10) _ _ = Wg; (try simp only [hb, hns, cond_true, cond_false]); go_simp; exact hK _ _ ⟨sl, w9, by first | rfl | (simp [upb, hb, hns]; done) | (simp [upb, hb]; done) | (simp [upb, *]; done), by first | (rw [← hWg]; simp [upb]; done) | (simp [upb, hb, *]; done) | (simp [upb, hb, hns, *]; done), fun h => hF (by simpa [upb] using h), by first | (intro h; have h9 := hc6 (by simpa [upb] using h); simp [upb, h9]; done) | (simp [upb, hns, *]; done), by first | (intro h; have h9 := hc7 (by simpa [upb] using h); simp [upb, h9]; done) | (simp [upb, hns, *]; done), by first | (intro h; have h9 := hc10 (by simpa [upb] using h); simp [upb, h9]; done) | (simp [upb, hns, *]; done), by first | (intro h; have h9 := hcA (by simpa [upb] using h); simp [upb, h9]; done) | (simp [upb, hns, *]; done)⟩
          · refine step_of [3] _ (by kernel_rfl) rfl rfl ?_; rintro b a' W' hb hns ⟨sl, w9, rfl, rfl, hF, hc6, hc7, hc10, hcA⟩ K hK; simp only [List.forall_mem_cons, List.not_mem_nil, false_implies, implies_true, and_true] at hns; (try simp only [Nat.zero_add, Nat.reduceAdd] at hb)
            have e7 : b 7 = false := (by cases h : b 7 with | false => rfl | true => (have := hc7 h; simp_all))
            have e10 : b 10 = false := (by cases h : b 10 with | false => rfl | true => (have := hc10 h; simp_all))
            simp only [hb, hns, e7, e10, cond_true, cond_false]
            cases h6 : b 6 <;> simp only [cond_true, cond_false] <;> (go_simp; exact hK _ _ ⟨sl, w9, by first | rfl | (simp [upb, hb, hns]; done) | (simp [upb, hb]; done) | (simp [upb, *]; done), by first | (rw [← hWg]; simp [upb]; done) | (simp [upb, hb, *]; done) | (simp [upb, hb, hns, *]; done), fun h => hF (by simpa [upb] using h), by first | (intro h; have h9 := hc6 (by simpa [upb] using h); simp [upb, h9]; done) | (simp [upb, hns, *]; done), by first | (intro h; have h9 := hc7 (by simpa [upb] using h); simp [upb, h9]; done) | (simp [upb, hns, *]; done), by first | (intro h; have h9 := hc10 (by simpa [upb] using h); simp [upb, h9]; done) | (simp [upb, hns, *]; done), by first | (intro h; have h9 := hcA (by simpa [upb] using h); simp [upb, h9]; done) | (simp [upb, hns, *]; done)⟩)
          · refine step_of [] _ (by kernel_rfl) rfl rfl ?_; rintro b a' W' hb hns ⟨sl, w9, rfl, rfl, hF, hc6, hc7, hc10, hcA⟩ K hK; simp only [List.forall_mem_cons, List.not_mem_nil, false_implies, implies_true, and_true] at hns; (try simp only [Nat.zero_add, Nat.reduceAdd] at hb)
            have e6 : b 6 = false := (by cases h : b 6 with | false => rfl | true => (have := hc6 h; simp_all))
            have e7 : b 7 = false := (by cases h : b 7 with | false => rfl | true => (have := hc7 h; simp_all))
            have e10 : b 10 = false := (by cases h : b 10 with | false => rfl | true => (have := hc10 h; simp_all))
            simp only [hb, e6, e7, e10, cond_true, cond_false]
            go_simp
            exact hK _ _ ⟨sl, w9, by first | rfl | (simp [upb, hb, hns]; done) | (simp [upb, hb]; done) | (simp [upb, *]; done), by first | (rw [← hWg]; simp [upb]; done) | (simp [upb, hb, *]; done) | (simp [upb, hb, hns, *]; done), fun h => hF (by simpa [upb] using h), by first | (intro h; have h9 := hc6 (by simpa [upb] using h); simp [upb, h9]; done) | (simp [upb, hns, *]; done), by first | (intro h; have h9 := hc7 (by simpa [upb] using h); simp [upb, h9]; done) | (simp [upb, hns, *]; done), by first | (intro h; have h9 := hc10 (by simpa [upb] using h); simp [upb, h9]; done) | (simp [upb, hns, *]; done), by first | (intro h; have h9 := hcA (by simpa [upb] using h); simp [upb, h9]; done) | (simp [upb, hns, *]; done)⟩
          · refine step_of [5] _ (by kernel_rfl) rfl rfl ?_; rintro b a' W' hb hns ⟨sl, w9, rfl, rfl, hF, hc6, hc7, hc10, hcA⟩ K hK; simp only [List.forall_mem_cons, List.not_mem_nil, false_implies, implies_true, and_true] at hns; (try simp only [Nat.zero_add, Nat.reduceAdd] at hb)
            have e7 : b 7 = false := (by cases h : b 7 with | false => rfl | true => (have := hc7 h; simp_all))
            have e10 : b 10 = false := (by cases h : b 10 with | false => rfl | true => (have := hc10 h; simp_all))
            simp only [hb, hns, e7, e10, cond_true, cond_false]
            go_simp
            exact hK _ _ ⟨sl, w9, by first | rfl | (simp [upb, hb, hns]; done) | (simp [upb, hb]; done) | (simp [upb, *]; done), by first | (rw [← hWg]; simp [upb]; done) | (simp [upb, hb, *]; done) | (simp [upb, hb, hns, *]; done), fun h => hF (by simpa [upb] using h), by first | (intro h; have h9 := hc6 (by simpa [upb] using h); simp [upb, h9]; done) | (simp [upb, hns, *]; done), by first | (intro h; have h9 := hc7 (by simpa [upb] using h); simp [upb, h9]; done) | (simp [upb, hns, *]; done), by first | (intro h; have h9 := hc10 (by simpa [upb] using h); simp [upb, h9]; done) | (simp [upb, hns, *]; done), by first | (intro h; have h9 := hcA (by simpa [upb] using h); simp [upb, h9]; done) | (simp [upb, hns, *]; done)⟩
          · refine step_of [4, 6] _ (by kernel_rfl) rfl rfl ?_; rintro b a' W' hb hns ⟨sl, w9, rfl, rfl, hF, hc6, hc7, hc10, hcA⟩ K hK; simp only [List.forall_mem_cons, List.not_mem_nil, false_implies, implies_true, and_true] at hns; (try simp only [Nat.zero_add, Nat.reduceAdd] at hb)
            have e10 : b 10 = false := (by cases h : b 10 with | false => rfl | true => (have := hc10 h; simp_all))
            simp only [hb, hns, e10, cond_true, cond_false]
            refine own_append_in timesEnc_len _ _ 123 (.agg #[.int .i64 0, .int .i64 0]) 16 rfl Tryd.underlying123 info_times rfl (by decide) (by decide) (s1, s2) #[.int .i64 s1, .int .i64 s2] rfl (w0 := w) (xs := wsums pre) W8.drew (v := .slice (some ⟨B', 0, none⟩) (pre.length + 1) cap) O8.out.drew rfl _ rfl rfl (bel_drew hB8.out) ?_ ?_
            · rw [wsums_length]
              omega
            intro g1 cap1 w9' hown hb9 hg9 hwh
            refine hK _ _ ⟨.slice (some ⟨g1, 0, none⟩) (pre.length + 1 + 1) cap1, w9', ?_, by simp [upb, hb, hns, e10], fun _ => Lib.hid ⟨g1, cap1, rfl, ?_, hb9, ?_, ?_, ?_, ?_, ?_, ⟨hg9.os, hg9.tape, hg9.output, hg9.size, hg9.block⟩, ?_⟩, by first | (intro h; have h9 := hc6 (by simpa [upb] using h); simp [upb, h9]; done) | (simp [upb, hns, *]; done), by first | (intro h; have h9 := hc7 (by simpa [upb] using h); simp [upb, h9]; done) | (simp [upb, hns, *]; done), by first | (intro h; have h9 := hc10 (by simpa [upb] using h); simp [upb, h9]; done) | (simp [upb, hns, *]; done), by first | (intro h; have h9 := hcA (by simpa [upb] using h); simp [upb, h9]; done) | (simp [upb, hns, *]; done)⟩
            · rw [wsums_length]
              simp [Act.put, upb, hb, hns]
            · rw [wsums_length] at hown
              exact hown
            · exact Blk.grown (G8.out.drew) hg9 (O8.out.ne G8.out (by decide))
            · exact Blk.grown (P8.out.drew) hg9 (O8.out.ne P8.out (by decide))
            · exact Blk.grown (S8.out.drew) hg9 (by simp [Value.ownBlock]; omega)
            · have := hg9.size
              simpa using this
            · rcases hwh with h | h
              · simp [Value.ownBlock] at h; omega
              · simp at h; omega
            · rcases hwh with h | h
              · simp [Value.ownBlock] at h; omega
              · simp at h; omega
          · refine step_of [0, 0, 1, 2, 3, 4, 5, 6, 7] _ (by kernel_rfl) rfl rfl ?_; rintro b a' W' hb hns ⟨sl, w9, rfl, rfl, hF, hc6, hc7, hc10, hcA⟩ K hK; simp only [List.forall_mem_cons, List.not_mem_nil, false_implies, implies_true, and_true] at hns; (try simp only [Nat.zero_add, Nat.reduceAdd] at hb)
            generalize hWg : cond (b 10) _ _ = Wg; (try simp only [hb, hns, cond_true, cond_false]); go_simp; exact hK _ _ ⟨sl, w9, by first | rfl | (simp [upb, hb, hns]; done) | (simp [upb, hb]; done) | (simp [upb, *]; done), by first | (rw [← hWg]; simp [upb]; done) | (simp [upb, hb, *]; done) | (simp [upb, hb, hns, *]; done), fun h => hF (by simpa [upb] using h), by first | (intro h; have h9 := hc6 (by simpa [upb] using h); simp [upb, h9]; done) | (simp [upb, hns, *]; done), by first | (intro h; have h9 := hc7 (by simpa [upb] using h); simp [upb, h9]; done) | (simp [upb, hns, *]; done), by first | (intro h; have h9 := hc10 (by simpa [upb] using h); simp [upb, h9]; done) | (simp [upb, hns, *]; done), by first | (intro h; have h9 := hcA (by simpa [upb] using h); simp [upb, h9]; done) | (simp [upb, hns, *]; done)⟩
          · refine step_of [8, 0, 1, 2, 3, 4, 5, 6, 7] _ (by kernel_rfl) rfl rfl ?_; rintro b a' W' hb hns ⟨sl, w9, rfl, rfl, hF, hc6, hc7, hc10, hcA⟩ K hK; simp only [List.forall_mem_cons, List.not_mem_nil, false_implies, implies_true, and_true] at hns; (try simp only [Nat.zero_add, Nat.reduceAdd] at hb)
            generalize hWg : cond (b 10) _ _ = Wg; (try simp only [hb, hns, cond_true, cond_false]); go_simp; exact hK _ _ ⟨sl, w9, by first | rfl | (simp [upb, hb, hns]; done) | (simp [upb, hb]; done) | (simp [upb, *]; done), by first | (rw [← hWg]; simp [upb]; done) | (simp [upb, hb, *]; done) | (simp [upb, hb, hns, *]; done), fun h => hF (by simpa [upb] using h), by first | (intro h; have h9 := hc6 (by simpa [upb] using h); simp [upb, h9]; done) | (simp [upb, hns, *]; done), by first | (intro h; have h9 := hc7 (by simpa [upb] using h); simp [upb, h9]; done) | (simp [upb, hns, *]; done), by first | (intro h; have h9 := hc10 (by simpa [upb] using h); simp [upb, h9]; done) | (simp [upb, hns, *]; done), by first | (intro h; have h9 := hcA (by simpa [upb] using h); simp [upb, h9]; done) | (simp [upb, hns, *]; done)⟩
          · refine step_of [9, 7, 7, 0, 1, 2, 3, 4, 5, 6, 7] _ (by kernel_rfl) rfl rfl ?_; rintro b a' W' hb hns ⟨sl, w9, rfl, rfl, hF, hc6, hc7, hc10, hcA⟩ K hK; simp only [List.forall_mem_cons, List.not_mem_nil, false_implies, implies_true, and_true] at hns; (try simp only [Nat.zero_add, Nat.reduceAdd] at hb)
            obtain ⟨g1, cap1, hsl, hO, hBe, hG, hP, hS, hsz, hgn, hgr, hwh⟩ := (hF hns.2.1).out
            have p9 := hP.cell 0
            have q9 := hG.cell 3
            have q9f := hG.frozen 3
            have q9l := hG.lt
            have hG := Lib.hid hG
            have hS := Lib.hid hS
            have hO := Lib.hid hO
            simp only [hb, hns, cond_true, cond_false]
            go_simp
            exact hK _ _ ⟨sl, w9, by first | rfl | (simp [upb, hb, hns]; done) | (simp [upb, hb]; done) | (simp [upb, *]; done), by first | (rw [← hWg]; simp [upb]; done) | (simp [upb, hb, *]; done) | (simp [upb, hb, hns, *]; done), fun h => hF (by simpa [upb] using h), by first | (intro h; have h9 := hc6 (by simpa [upb] using h); simp [upb, h9]; done) | (simp [upb, hns, *]; done), by first | (intro h; have h9 := hc7 (by simpa [upb] using h); simp [upb, h9]; done) | (simp [upb, hns, *]; done), by first | (intro h; have h9 := hc10 (by simpa [upb] using h); simp [upb, h9]; done) | (simp [upb, hns, *]; done), by first | (intro h; have h9 := hcA (by simpa [upb] using h); simp [upb, h9]; done) | (simp [upb, hns, *]; done)⟩
          · exact absurd hi (by simp)
        · rintro b a' W' hall ⟨sl, w9, rfl, rfl, hF, -, -, -, -⟩
          obtain ⟨g1, cap1, rfl, hO, hBe, hG, hP, hS, hsz, hgn, hgr, hwh⟩ := (hF (hall 7 (by decide))).out
          have c0 := hall 0 (by decide)
          have c1 := hall 1 (by decide)
          have c2 := hall 2 (by decide)
          have c3 := hall 3 (by decide)
          have c4 := hall 4 (by decide)
          have c5 := hall 5 (by decide)
          have c6 := hall 6 (by decide)
          have c7 := hall 7 (by decide)
          have c8 := hall 8 (by decide)
          have c9 := hall 9 (by decide)
          have c10 := hall 10 (by decide)
          simp only [c0, c1, c2, c3, c4, c5, c6, c7, c8, c9, c10, cond_true]
          clear c0 c1 c2 c3 c4 c5 c6 c7 c8 c9 c10 hall hF
          gi_wp2
          have hws : wtot (pre ++ [x]) = (s1, s2) := by rw [wtot_snoc, ← hs1, ← hs2, wrap_eq64, wrap_eq64]; rfl
          have hgc := K1.out.cell 3
          have hgl9 := hG.lt
          have hol := hO.lt g1 rfl
          have hset := hG.set 3 (.slice (some ⟨g1, 0, none⟩) (pre.length + 1 + 1) cap1)
          have hsc := hset.cell 3
          refine ⟨((hW8a.out.trans (KeepsOthers.of_grownBy hgr hO8c.out)).trans (KeepsOthers.setCell _ _ _)).from _, ⟨by simp; omega, fun k o hk ho hd => ?_, fun k hk => ?_, fun h k hk => ?_⟩, ⟨g1, cap1, ?_, ?_, hgn⟩, ?_, ?_, ?_, ?_⟩
          · have hkg : k ≠ g := fun e => hd (.inl (by simp [e]))
            have hkw : k ≠ wc.heap.size := fun e => hd (.inl (by simp [e]))
            have hkB : k ≠ B' := fun e => hd (.inr ⟨⟨B', 0, none⟩, _, _, by rw [hgc]; rfl, e.symm⟩)
            have hkl := (Array.getElem?_eq_some_iff.1 hk).1
            rw [Below.heap_setCell _ _ _ _ hkg, hgr.block k (by omega) (by simpa using hkB), hW8b.out k hkw]
            exact hk
          · rcases hk with hk | ⟨ad, n, c, hc, rfl⟩
            · exact .inl (.inl hk)
            · rw [hsc] at hc
              simp at hc
              obtain ⟨rfl, _⟩ := hc
              rcases hwh with h | h
              · exact .inl (.inr ⟨⟨B', 0, none⟩, _, _, by rw [hgc]; rfl, h.symm⟩)
              · right
                show W.heap.size ≤ g1
                omega
          · rcases hk with hk | ⟨ad, n, c, hc, rfl⟩
            · have := h k (.inl hk)
              simp
              omega
            · rw [hsc] at hc
              simp at hc
              obtain ⟨rfl, _⟩ := hc
              simp
              exact hol.2
          · rw [List.length_append]
            exact hset
          · rw [List.length_append, wsums_snoc, hws]
            exact hO.far (hO.ne hG (by decide)) _
          · rw [hws]
            exact hS.far (by show wc.heap.size ≠ g; omega) _
          · exact hP.far (by show b8 ≠ g; intro e; rw [e] at hP; unfold Blk at hP hG; rw [hG] at hP; simp at hP) _
          · exact bel_set hBe (by show w.heap.size ≤ g; omega) _
          · simp
            omega
    case done =>
      rintro D xs W hD rfl ⟨⟨B', cap, h1, h2, h2'⟩, h3, h4, h5, h6⟩ hK
      have K1 := Lib.hid h1
      have K2 := Lib.hid h2
      have K3 := Lib.hid h3
      have K4 := Lib.hid h4
      have hNx : ((metersUp s r.pieces r.pieces.length).length : Int) = r.length := hmm
      obtain ⟨xs, hxs⟩ : ∃ xs, metersUp s r.pieces r.pieces.length = xs := ⟨_, rfl⟩
      rw [hxs] at K1 K2 K3 hNx
      have p0 := h4.cell 0
      have g3 := K1.out.cell 3
      have f3 := K1.out.frozen 3
      have lp := h4.lt
      have lg := h1.lt
      obtain ⟨A9, c9, e9, hcap, hrd⟩ := K2.out.reads timesEnc_len
      rw [wsums_length] at e9 hcap hrd
      simp only [Value.slice.injEq, true_and] at e9
      obtain ⟨e9, rfl⟩ := e9
      subst e9
      have hK9 := Lib.hid hK
      clear h1 h2 h3 h4 hap hsm
      gi_wp2
      gi_region
      have hsl : (r.length + 1).toNat = xs.length + 1 := by omega
      rw [hsl]
      obtain ⟨W9, hW9⟩ : ∃ W9, (W.setCell ⟨g, 3, none⟩ (.slice (some ⟨B', 0, none⟩) (xs.length + 1) (xs.length + 1))).drew = W9 := ⟨_, rfl⟩
      have hne : b8 ≠ g := by
        intro e
        have q1 := K4.out
        have q2 := K1.out
        rw [e] at q1
        unfold Blk at q1 q2
        rw [q2] at q1
        simp at q1
      have G9 : Hid (Blk W9 g 125 #[.slice A0 n0 c0, .slice A1 n1 c1, .slice A2 n2 c2, .slice (some ⟨B', 0, none⟩) (xs.length + 1) (xs.length + 1)]) := Lib.hid (by rw [← hW9]; exact K1.out.set 3 _)
      have P9 : Hid (Blk W9 b8 108 #[.pointer (some ⟨g, 0, none⟩)]) := Lib.hid (by rw [← hW9]; exact K4.out.far hne _)
      have O9 : Hid (Own 2 timesEnc 122 W9 w.heap.size (.slice (some ⟨B', 0, none⟩) (xs.length + 1) cap) (wsums xs)) := Lib.hid (by rw [← hW9]; exact K2.out.far (K2.out.ne K1.out (by decide)) _)
      have B9 : Hid (Below w.heap.size w W9) := Lib.hid (by rw [← hW9]; exact bel_drew (bel_set h5 (by show w.heap.size ≤ g; omega) _))
      have D9 : Hid (W9.heap[D]? = some (Obj.deferred (some []))) := Lib.hid (by
        rw [← hW9]
        refine (Below.heap_setCell _ _ _ _ ?_).trans hK9.out
        intro e
        have q1 := K1.out
        unfold Blk at q1
        rw [e] at hK9
        have q2 := hK9.out
        rw [show (⟨g, 3, none⟩ : Addr).block = g from rfl, q1] at q2
        cases q2)
      have t0 := P9.out.cell 0
      have lt0 := P9.out.lt
      rw [hW9]
      clear hW9 p0 g3 f3
      gi_wp2
      refine ⟨by simp, .inl ⟨_, _, rfl, run_takeDeferred D9.out, ?_⟩⟩
      have hr : ∀ r', some D = some r' → Wl.heap.size ≤ r' ∧ ∃ o : Obj, W9.heap[r']? = some o ∧ o.isCells = false := fun r' e => by
        cases e
        exact ⟨hD, _, D9.out, rfl⟩
      have GF := G9.out.from_ (grownBy_putObj' W9 D (.deferred none)) hr
      have OF := O9.out.from_ (grownBy_putObj' W9 D (.deferred none)) hr
      have BF := Below.from_ B9.out bB.size (grownBy_putObj' W9 D (.deferred none)) hr
      obtain ⟨A7, c7, e7, hcap7, hrd7⟩ := OF.reads timesEnc_len
      rw [wsums_length] at e7 hrd7
      simp only [Value.slice.injEq, true_and] at e7
      obtain ⟨rfl, rfl⟩ := e7
      have hNat : r.length.toNat = xs.length := by omega
      refine ⟨.tuple #[.pointer (some ⟨g, 0, none⟩), .bool true], ?_, g, rfl, ?_, BF⟩
      · simp [results, Tryd.f58, go_sem]
      · rw [hNat, hxs]
        refine ⟨⟨B', 0, none⟩, xs.length + 1, GF, hrd7, by omega, fun i x hx => wsums_bound (fun y hy => ?_) (by omega) hx⟩
        rw [← hxs] at hy
        exact metersUp_bound HS.out (piecesOk_mem HR.out.pieces) hy
    case stop =>
      rintro D c pre W _ _ h _
      exact h.elim
end Go.Proofs.YtinglbcafcjhfaaDoor
