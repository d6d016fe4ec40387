/- The contract of the reference's Narrow. -/
import Derived.Test.YtinglbcafcjhfaaDoorNarrowC
import Derived.Test.YtinglbcafcjhfaaDoorRefD
import Derived.BigRegion
import Derived.Lib.QuietBelow
import Derived.Deep.DeepCutAuto
namespace Go.Proofs.YtinglbcafcjhfaaDoor
open Go.RowKit
set_option linter.unusedVariables false
set_option linter.unusedSimpArgs false

def RNarrowPost (sums : List (Int × Int)) (l : List Passing) (w : World) (e : Ending) (w' : World) : Prop := Below w.heap.size w w' ∧
  (((narrowed sums l).any (fun x => decide (x.latest < x.earliest)) = false ∧ ∃ A c, e = .returned (.tuple #[.slice A l.length c, .bool true]) ∧ Rd 3 Passing.enc w' A l.length (narrowed sums l)) ∨ ((narrowed sums l).any (fun x => decide (x.latest < x.earliest)) = true ∧ e = .returned (.tuple #[.slice none 0 0, .bool false])))
theorem any_upto {l : List Passing} {k : Nat} (hk : k = l.length) (h : ∀ j x, j < k → l[j]? = some x → decide (x.latest < x.earliest) = false) : l.any (fun x => decide (x.latest < x.earliest)) = false := by
  rw [List.any_eq_false]
  intro x hx
  obtain ⟨j, hj⟩ := List.getElem?_of_mem hx
  have := h j x (by have := (List.getElem?_eq_some_iff.1 hj).1; omega) hj
  simp [this]
set_option maxRecDepth 100000 in
set_option maxHeartbeats 8000000 in
theorem ref3_Narrow (s : Speeds) (r : Road) (l : List Passing) (A0 A1 A2 B2 B3 C : Option Addr) (n0 n1 n2 m2 m3 c0 c1 c2 d2 d3 n c : Nat) (w : World)
    (h0 : Rd 5 Piece.enc w A0 n0 r.pieces) (g2 : Rd 3 SpeedRow.enc w B2 m2 s.rows) (g3 : Rd 1 intEnc w B3 m3 s.surface) (hc : Rd 3 Passing.enc w C n l) (hr : r.Valid) (hs : s.Valid) (hl : PassOk r.length l) :
    Calls Tryd.prog 46 #[.agg #[.slice A0 n0 c0, .slice A1 n1 c1, .slice A2 n2 c2], .agg #[.int .i64 s.least, .int .i64 s.most, .slice B2 m2 d2, .slice B3 m3 d3], .slice C n c] w (RNarrowPost (sumsOf s r) l w) := by
  obtain rfl : n = l.length := hc.1.symm
  have hn3 := hl.1
  have H0 := Lib.hid h0
  have G2 := Lib.hid g2
  have G3 := Lib.hid g3
  have HC := Lib.hid hc
  have HR := Lib.hid hr
  have HS := Lib.hid hs
  have HL := Lib.hid hl
  clear h0 g2 g3 hc hr hs hl
  rcases Nat.eq_zero_or_pos l.length with hz | hz
  · obtain rfl : l = [] := List.eq_nil_of_length_eq_zero hz
    clear hz hn3
    have HC0 : Hid (Rd 3 Passing.enc w C 0 ([] : List Passing)) := Lib.hid HC.out
    cases C with
    | none =>
      go_enter Tryd.func46, Tryd.ntmps46
      go_wp2
      obtain ⟨W0, hW0⟩ : ∃ W0, (w.alloc (.cells #[.slice A0 n0 c0, .slice A1 n1 c1, .slice A2 n2 c2] 26)).alloc (.cells #[.int .i64 s.least, .int .i64 s.most, .slice B2 m2 d2, .slice B3 m3 d3] 30) = W0 := ⟨_, rfl⟩
      have HB0 : Hid (Below w.heap.size w W0) := Lib.hid (by rw [← hW0]; exact (by repeat (first | assumption | exact Below.refl _ _ | apply bel_alloc | apply bel_drew | apply bel_drewN | (refine bel_set ?_ (by first | assumption | omega | (simp; done) | (simp; omega)) _))))
      have HR0 : Hid (Rd 3 Passing.enc W0 none 0 ([] : List Passing)) := Lib.hid Rd.nil
      rw [hW0]
      clear hW0
      go_loopw [9] (fun v9 wr => v9 = .int .i64 0 ∧ W0 = wr) (fun _ _ => 0)
      case atStart => exact ⟨rfl, rfl⟩
      case round =>
        obtain ⟨rfl, rfl⟩ := hrel
        go_wp2
        go_loopw [15] (fun v15 wr => v15 = .int .i64 (-2) ∧ W0 = wr) (fun _ _ => 0)
        case atStart => exact ⟨rfl, rfl⟩
        case round =>
          obtain ⟨rfl, rfl⟩ := hrel
          go_wp2
          go_loopw [18] (fun v18 wr => v18 = .int .i64 0 ∧ W0 = wr) (fun _ _ => 0)
          case atStart => exact ⟨rfl, rfl⟩
          case round =>
            obtain ⟨rfl, rfl⟩ := hrel
            go_wp2
            go_ret2
            exact ⟨HB0.out, .inl ⟨rfl, _, _, rfl, HR0.out⟩⟩
    | some AC =>
      go_enter Tryd.func46, Tryd.ntmps46
      go_wp2_with (at_builtin; refine own_append_all (w0 := w) Passing.enc_len rfl (.const (.slice none 0 0)) (.tmp 19) 66 (.agg #[.int .i64 0, .int .i64 0, .int .i64 0]) 24 rfl Tryd.underlying66 info_pass rfl (by decide) (by decide) Own.nil rfl AC 0 c rfl (HC0.out.below (by repeat (first | assumption | exact Below.refl _ _ | apply bel_alloc | apply bel_drew | apply bel_drewN | (refine bel_set ?_ (by first | assumption | omega | (simp; done) | (simp; omega)) _)))) (by repeat (first | assumption | exact Below.refl _ _ | apply bel_alloc | apply bel_drew | apply bel_drewN | (refine bel_set ?_ (by first | assumption | omega | (simp; done) | (simp; omega)) _))) (by simp) ?_; intro v w1 hown hb hg; rw [List.nil_append] at hown; obtain ⟨Av, cv, rfl, _, hrd⟩ := hown.reads Passing.enc_len; have HRd : Hid (Rd 3 Passing.enc w1 Av 0 ([] : List Passing)) := Lib.hid hrd; have HB1 := Lib.hid hb; clear hown hb hg hrd)
      obtain ⟨W0, rfl⟩ : ∃ W0 : World, W0 = w1 := ⟨_, rfl⟩
      have HB0 := HB1
      have HR0 := HRd
      go_loopw [9] (fun v9 wr => v9 = .int .i64 0 ∧ W0 = wr) (fun _ _ => 0)
      case atStart => exact ⟨rfl, rfl⟩
      case round =>
        obtain ⟨rfl, rfl⟩ := hrel
        go_wp2
        go_loopw [15] (fun v15 wr => v15 = .int .i64 (-2) ∧ W0 = wr) (fun _ _ => 0)
        case atStart => exact ⟨rfl, rfl⟩
        case round =>
          obtain ⟨rfl, rfl⟩ := hrel
          go_wp2
          go_loopw [18] (fun v18 wr => v18 = .int .i64 0 ∧ W0 = wr) (fun _ _ => 0)
          case atStart => exact ⟨rfl, rfl⟩
          case round =>
            obtain ⟨rfl, rfl⟩ := hrel
            go_wp2
            go_ret2
            exact ⟨HB0.out, .inl ⟨rfl, _, _, rfl, HR0.out⟩⟩
  obtain ⟨AC, hAC⟩ : ∃ a, C = some a := by
    obtain ⟨x, hx⟩ := HC.out.get hz
    obtain ⟨ad, e, _⟩ := HC.out.2.2 _ _ hx
    exact ⟨ad, e⟩
  subst hAC
  go_enter Tryd.func46, Tryd.ntmps46
  go_wp2_with (at_builtin; refine own_append_all (w0 := w) Passing.enc_len rfl (.const (.slice none 0 0)) (.tmp 19) 66 (.agg #[.int .i64 0, .int .i64 0, .int .i64 0]) 24 rfl Tryd.underlying66 info_pass rfl (by decide) (by decide) Own.nil rfl AC _ c rfl (HC.out.below (by repeat (first | assumption | exact Below.refl _ _ | apply bel_alloc | apply bel_drew | apply bel_drewN | (refine bel_set ?_ (by first | assumption | omega | (simp; done) | (simp; omega)) _)))) (by repeat (first | assumption | exact Below.refl _ _ | apply bel_alloc | apply bel_drew | apply bel_drewN | (refine bel_set ?_ (by first | assumption | omega | (simp; done) | (simp; omega)) _))) (by simp; omega) ?_; intro v w1 hown hb hg; rw [List.nil_append] at hown; obtain ⟨gv, cv, rfl⟩ := hown.form_ hz; have HOw := Lib.hid hown; have HB1 := Lib.hid hb; have HKR : Hid (Blk w1 w.heap.size 26 #[.slice A0 n0 c0, .slice A1 n1 c1, .slice A2 n2 c2]) := Lib.hid (((Blk.new w _ _).alloc _).grown hg (by simp [Value.ownBlock])); have HKS : Hid (Blk w1 (w.heap.size + 1) 30 #[.int .i64 s.least, .int .i64 s.most, .slice B2 m2 d2, .slice B3 m3 d3]) := Lib.hid ((Blk.new_at _ _ _ _ (by simp)).grown hg (by simp [Value.ownBlock])); clear hown hb hg)
  obtain ⟨hgv1, hgv2⟩ := HOw.out.blk_lt
  have hne1 : w.heap.size ≠ gv := fun h => HOw.out.ne HKR.out (by decide) (by simp [Value.ownBlock, h])
  have hne2 : w.heap.size + 1 ≠ gv := fun h => HOw.out.ne HKS.out (by decide) (by simp [Value.ownBlock, h])
  go_loopw [9] (fun v9 wr => ∃ k : Nat, k ≤ l.length ∧ v9 = .int .i64 k ∧ Hid (Own 3 Passing.enc 89 wr w.heap.size (.slice (some ⟨gv, 0, none⟩) l.length cv) (ups (sumsOf s r) l k)) ∧ Hid (Blk wr w.heap.size 26 #[.slice A0 n0 c0, .slice A1 n1 c1, .slice A2 n2 c2]) ∧ Hid (Blk wr (w.heap.size + 1) 30 #[.int .i64 s.least, .int .i64 s.most, .slice B2 m2 d2, .slice B3 m3 d3]) ∧ Hid (Below w.heap.size w wr)) (fun v9 _ => l.length - (intOf v9).toNat)
  case atStart => exact ⟨0, Nat.zero_le _, rfl, Lib.hid (by rw [ups_zero]; exact HOw.out), HKR, HKS, HB1⟩
  case round =>
    obtain ⟨k, hk, rfl, HOk, HKr, HKs, HBk⟩ := hrel
    by_cases hlt : k < l.length
    · obtain ⟨x, hx⟩ := HC.out.get hlt
      obtain ⟨q1, q2, q3, q4, q5⟩ := HL.out.at_ hx
      have hbf := bef_in HS.out HR.out HL.out hx
      have hux : (ups (sumsOf s r) l k)[k]? = some x := by rw [ups_old (Nat.le_refl _)]; exact hx
      have hup := upAt_bef (sums := sumsOf s r) hx
      have hsc := ups_succ (sums := sumsOf s r) hlt
      have HBB := Lib.hid hbf
      obtain ⟨bp, hbp⟩ : ∃ bp, (befAt (sumsOf s r) l k).place = bp := ⟨_, rfl⟩
      obtain ⟨be, hbe⟩ : ∃ be, (befAt (sumsOf s r) l k).earliest = be := ⟨_, rfl⟩
      obtain ⟨bl, hbl⟩ : ∃ bl, (befAt (sumsOf s r) l k).latest = bl := ⟨_, rfl⟩
      have HBF : Hid (befAt (sumsOf s r) l k = ⟨bp, be, bl⟩) := Lib.hid (by rw [← hbp, ← hbe, ← hbl])
      rw [hbp, hbe, hbl] at hbf
      obtain ⟨f1, f2, f3, f4, f5, f6, f7⟩ := hbf
      have hd1 := at1_le (s := s) HS.out HR.out f1 f2 f3
      have hd2 := at1_range (s := s) HS.out HR.out q1 q2
      have hd3 := at1_range (s := s) HS.out HR.out f1 (by omega)
      have hd4 := at2_le (s := s) HS.out HR.out f1 f2 f3
      have hd5 := at2_range (s := s) HS.out HR.out q1 q2
      have hd6 := at2_range (s := s) HS.out HR.out f1 (by omega)
      obtain ⟨d1, hd1v⟩ : ∃ d1, btwL s r bp x.place = d1 := ⟨_, rfl⟩
      obtain ⟨d2', hd2v⟩ : ∃ d2', btwM s r bp x.place = d2' := ⟨_, rfl⟩
      have g1 : 0 ≤ d1 ∧ d1 ≤ 1000000000000 := by rw [← hd1v]; unfold btwL; omega
      have g2 : 0 ≤ d2' ∧ d2' ≤ 1000000000000 := by rw [← hd2v]; unfold btwM; omega
      obtain ⟨g1, g1'⟩ := g1
      obtain ⟨g2, g2'⟩ := g2
      have hwr : IntKind.i64.wrap (be + d1) = be + d1 := IntWalk.i64_in _ (by omega)
      have hwr2 : IntKind.i64.wrap (bl + d2') = bl + d2' := IntWalk.i64_in _ (by omega)
      have hki : (k : Int) < (l.length : Int) := by omega
      have HD1 := Lib.hid hd1v
      have HD2 := Lib.hid hd2v
      have HUP := Lib.hid hup
      have HSC := Lib.hid hsc
      have HUX := Lib.hid hux
      have HBO : Hid (BtwOk s r bp x.place) := Lib.hid ⟨HR.out, HS.out, f1, f2, q2⟩
      clear hx hup hsc hd1 hd2 hd3 hd4 hd5 hd6 hd1v hd2v
      obtain ⟨T, hT⟩ : ∃ T, decide (0 < k) = T := ⟨_, rfl⟩
      go_upto_if 28 with (fail)
      go_cut [10, 11, 12] from 21 to 84 (fun v10 v11 v12 wc => v10 = .int .i64 bp ∧ v11 = .int .i64 be ∧ v12 = .int .i64 bl ∧ ∃ q, wc = wr.drewN q)
      case first =>
        rcases Nat.eq_zero_or_pos k with hk0 | hk0
        · obtain rfl : T = false := by rw [← hT, hk0]; rfl
          clear hT
          have hb0 : 0 = bp ∧ 0 = be ∧ 0 = bl := by rw [← hbp, ← hbe, ← hbl, hk0]; exact ⟨rfl, rfl, rfl⟩
          have HK0 := Lib.hid hk0
          have HB0 := Lib.hid hb0
          clear hk0 hbp hbe hbl hb0
          go_wp2
          go_meet
          case rel => exact ⟨by rw [← HB0.out.1], by rw [← HB0.out.2.1], by rw [← HB0.out.2.2], 0, rfl⟩
        · obtain rfl : T = true := by rw [← hT]; simp; omega
          clear hT
          have hu0 : (ups (sumsOf s r) l k)[k - 1]? = some (upAt (sumsOf s r) l (k - 1)) := ups_new (by omega)
          have hub : befAt (sumsOf s r) l k = upAt (sumsOf s r) l (k - 1) := by obtain ⟨j, rfl⟩ : ∃ j, k = j + 1 := ⟨k - 1, by omega⟩; rfl
          rw [← hub, HBF.out] at hu0
          have x0 := HOk.out.cellAt Passing.enc_len hu0 (j := 0) rfl
          have x1 := HOk.out.cellAt Passing.enc_len hu0 (j := 1) rfl
          have x2 := HOk.out.cellAt Passing.enc_len hu0 (j := 2) rfl
          rw [Nat.add_zero] at x0
          have k1 : IntKind.i64.wrap ((k : Int) - 1) = (k : Int) - 1 := IntWalk.i64_in _ (by omega)
          have k2 : (0 : Int) ≤ (k : Int) - 1 := by omega
          have k3 : (1 : Int) ≤ (k : Int) := by omega
          have k4 : ((k : Int) - 1).toNat = k - 1 := by omega
          have k5 : (k : Int) - 1 < (l.length : Int) := by omega
          clear hu0 hub hbp hbe hbl
          go_wp2
          go_quiet (fail)
          go_wp2
          go_meet
          case rel => exact ⟨rfl, rfl, rfl, _, rfl⟩
      case rest =>
        obtain ⟨rfl, rfl, rfl, q, hq⟩ := hcut
        clear hT
        clear hbp hbe hbl
        have HOc : Hid (Own 3 Passing.enc 89 wc w.heap.size (.slice (some ⟨gv, 0, none⟩) l.length cv) (ups (sumsOf s r) l k)) := Lib.hid (by rw [hq]; exact HOk.out.drewN q)
        have HKrc : Hid (Blk wc w.heap.size 26 #[.slice A0 n0 c0, .slice A1 n1 c1, .slice A2 n2 c2]) := Lib.hid (by rw [hq]; exact HKr.out.drewN q)
        have HKsc : Hid (Blk wc (w.heap.size + 1) 30 #[.int .i64 s.least, .int .i64 s.most, .slice B2 m2 d2, .slice B3 m3 d3]) := Lib.hid (by rw [hq]; exact HKs.out.drewN q)
        have HBc : Hid (Below w.heap.size w wc) := Lib.hid (by rw [hq]; exact bel_drewN HBk.out q)
        clear hq
        have CR := HKrc.out
        have CS := HKsc.out
        have k0 := cell_regrown (show wc.cell? ⟨w.heap.size, 0, none⟩ = some (.slice A0 n0 c0) from CR.cell 0)
        have k1 := cell_regrown (show wc.cell? ⟨w.heap.size, 1, none⟩ = some (.slice A1 n1 c1) from CR.cell 1)
        have k2 := cell_regrown (show wc.cell? ⟨w.heap.size, 2, none⟩ = some (.slice A2 n2 c2) from CR.cell 2)
        have k3 := cell_regrown (show wc.cell? ⟨w.heap.size + 1, 0, none⟩ = some (.int .i64 s.least) from CS.cell 0)
        have k4 := cell_regrown (show wc.cell? ⟨w.heap.size + 1, 1, none⟩ = some (.int .i64 s.most) from CS.cell 1)
        have k5 := cell_regrown (show wc.cell? ⟨w.heap.size + 1, 2, none⟩ = some (.slice B2 m2 d2) from CS.cell 2)
        have k6 := cell_regrown (show wc.cell? ⟨w.heap.size + 1, 3, none⟩ = some (.slice B3 m3 d3) from CS.cell 3)
        have xx := HOc.out.cellAt Passing.enc_len hux (j := 0) rfl
        rw [Nat.add_zero] at xx
        have x0 := cell_regrown xx
        have HBT : Hid (∀ (dq : Nat) (os : Array Obj), Calls Tryd.prog 24 #[.agg #[.slice A0 n0 c0, .slice A1 n1 c1, .slice A2 n2 c2], .agg #[.int .i64 s.least, .int .i64 s.most, .slice B2 m2 d2, .slice B3 m3 d3], .int .i64 bp, .int .i64 x.place] (Sort.grow (redrawn wc dq) os) fun e w' => e = .returned (.tuple #[.int .i64 d1, .int .i64 d2']) ∧ Below (Sort.grow (redrawn wc dq) os).heap.size (Sort.grow (redrawn wc dq) os) w') := Lib.hid (fun dq os => by
          rw [← HD1.out, ← HD2.out]
          exact ref3_Between s r A0 A1 A2 B2 B3 n0 n1 n2 m2 m3 c0 c1 c2 d2 d3 bp x.place _ ((H0.out.below HBc.out).below (below_regrown wc dq os)) ((G2.out.below HBc.out).below (below_regrown wc dq os)) ((G3.out.below HBc.out).below (below_regrown wc dq os)) HBO.out)
        clear CR CS xx hux
        go_wp2
        refine wp_region_quiet_below (by kernel_rfl) (by kernel_rfl) ?_; (repeat (go_big_quiet_step ((go_at_call 24; exact Calls.regrown_of (HBT.out _ _))))); refine wpQuiet_nil ?_; intro _ hw'; obtain ⟨⟨dq, osq⟩, hw''⟩ := hw'; subst hw''
        obtain ⟨W3, hW3⟩ : ∃ W3, Sort.grow (redrawn wc dq) osq = W3 := ⟨_, rfl⟩
        have hB3 : Below wc.heap.size wc W3 := by rw [← hW3]; exact below_regrown wc _ _
        have HO3 := Lib.hid (HOc.out.below hB3)
        have HK3 := Lib.hid (HKrc.out.below hB3)
        have HS3 := Lib.hid (HKsc.out.below hB3)
        have HB3 := Lib.hid (bel_then HBc.out hB3)
        rw [hW3]
        clear hW3 hB3 k0 k1 k2 k3 k4 k5 k6 x0 HBT
        have x1 := HO3.out.cellAt Passing.enc_len HUX.out (j := 1) rfl
        have x2 := HO3.out.cellAt Passing.enc_len HUX.out (j := 2) rfl
        have xf1 := HO3.out.free (by rw [ups_len hk]) (k * 3 + 1)
        have xf2 := HO3.out.free (by rw [ups_len hk]) (k * 3 + 2)
        have hg3 := HO3.out.blk_lt.2
        go_wp2
        refine wp_region_does [.slice (some ⟨gv, 0, none⟩) l.length cv, .int .i64 k, .slice (some ⟨gv, 0, none⟩) l.length cv, .int .i64 k, .slice (some ⟨gv, 0, none⟩) l.length cv, .int .i64 k, .pointer (some ⟨gv, k * 3, none⟩), .pointer (some ⟨gv, k * 3 + 1, none⟩), .int .i64 x.earliest, .int .i64 be, .int .i64 d1, .int .i64 (be + d1), .int .i64 (max x.earliest (be + d1)), .slice (some ⟨gv, 0, none⟩) l.length cv, .int .i64 k, .pointer (some ⟨gv, k * 3, none⟩), .pointer (some ⟨gv, k * 3 + 2, none⟩), .int .i64 x.latest, .int .i64 bl, .int .i64 d2', .int .i64 (bl + d2'), .int .i64 (min x.latest (bl + d2')), .pointer (some ⟨gv, k * 3, none⟩), .pointer (some ⟨gv, k * 3 + 1, none⟩), undef, .pointer (some ⟨gv, k * 3, none⟩), .pointer (some ⟨gv, k * 3 + 2, none⟩), undef] (fun b => Sto2 W3 ⟨gv, k * 3 + 1, none⟩ (.int .i64 (max x.earliest (be + d1))) ⟨gv, k * 3 + 2, none⟩ (.int .i64 (min x.latest (bl + d2'))) (b 24) (b 27)) (by kernel_rfl) (by kernel_rfl) (by kernel_rfl) (by kernel_rfl) rfl ?_; intro af haf; simp only [frameL, Act.put, List.setIfInBounds_toArray, List.set_cons_succ, List.set_cons_zero] at haf; subst haf; refine ⟨Sto2.start, ?_, ?_⟩
        · intro i hi
          rcases i with _ | _ | _ | _ | _ | _ | _ | _ | _ | _ | _ | _ | _ | _ | _ | _ | _ | _ | _ | _ | _ | _ | _ | _ | _ | _ | _ | _ | i
          iterate 2 (focus (refine by_step _ rfl ?_; intro b hb hc hn W hW; have e2 : b 27 = false := hc.last (n := 27) (by kernel_rfl) _ _ rfl (by decide) hb; have e1 : b 24 = false := hc.no hb (needs_of (by kernel_rfl)); rw [e1, e2] at hW; obtain ⟨m, rfl⟩ := hW; clear hc hn; simp only [does, cond_false]; go_simp; first | exact ⟨m, by simp [upb, e1, e2]⟩ | exact ⟨rfl, m, by simp [upb, e1, e2]⟩))
          iterate 2 (focus (refine by_step _ rfl ?_; intro b hb hc hn W hW; have e2 : b 27 = false := hc.last (n := 27) (by kernel_rfl) _ _ rfl (by decide) hb; rw [e2] at hW; obtain ⟨m, rfl⟩ := hW; clear hc hn; rcases e1 : b 24 <;> simp only [does, cond_false, cond_true] <;> go_simp <;> first | exact ⟨m, by simp [upb, e1, e2]⟩ | exact ⟨rfl, m, by simp [upb, e1, e2]⟩))
          iterate 9 (focus (refine by_step _ rfl ?_; intro b hb hc hn W hW; have e2 : b 27 = false := hc.last (n := 27) (by kernel_rfl) _ _ rfl (by decide) hb; have e1 : b 24 = false := hc.no hb (needs_of (by kernel_rfl)); rw [e1, e2] at hW; obtain ⟨m, rfl⟩ := hW; clear hc hn; simp only [does, cond_false]; go_simp; first | exact ⟨m, by simp [upb, e1, e2]⟩ | exact ⟨rfl, m, by simp [upb, e1, e2]⟩))
          iterate 4 (focus (refine by_step _ rfl ?_; intro b hb hc hn W hW; have e2 : b 27 = false := hc.last (n := 27) (by kernel_rfl) _ _ rfl (by decide) hb; rw [e2] at hW; obtain ⟨m, rfl⟩ := hW; clear hc hn; rcases e1 : b 24 <;> simp only [does, cond_false, cond_true] <;> go_simp <;> first | exact ⟨m, by simp [upb, e1, e2]⟩ | exact ⟨rfl, m, by simp [upb, e1, e2]⟩))
          iterate 1 (focus (refine by_step _ rfl ?_; intro b hb hc hn W hW; have e2 : b 27 = false := hc.last (n := 27) (by kernel_rfl) _ _ rfl (by decide) hb; have e1 : b 24 = false := hc.no hb (needs_of (by kernel_rfl)); rw [e1, e2] at hW; obtain ⟨m, rfl⟩ := hW; clear hc hn; simp only [does, cond_false]; go_simp; first | exact ⟨m, by simp [upb, e1, e2]⟩ | exact ⟨rfl, m, by simp [upb, e1, e2]⟩))
          iterate 4 (focus (refine by_step _ rfl ?_; intro b hb hc hn W hW; have e2 : b 27 = false := hc.last (n := 27) (by kernel_rfl) _ _ rfl (by decide) hb; rw [e2] at hW; obtain ⟨m, rfl⟩ := hW; clear hc hn; rcases e1 : b 24 <;> simp only [does, cond_false, cond_true] <;> go_simp <;> first | exact ⟨m, by simp [upb, e1, e2]⟩ | exact ⟨rfl, m, by simp [upb, e1, e2]⟩))
          iterate 1 (focus (refine by_step _ rfl ?_; intro b hb hc hn W hW; have e2 : b 27 = false := hc.last (n := 27) (by kernel_rfl) _ _ rfl (by decide) hb; have e0 : b 23 = false := hc.no hb (needs_of (by kernel_rfl)); have e1 : b 24 = false := hc.no e0 (needs_of (by kernel_rfl)); rw [e1, e2] at hW; obtain ⟨m, rfl⟩ := hW; clear hc hn; simp only [does, cond_false]; go_simp; first | exact ⟨m, by simp [upb, e1, e2]⟩ | exact ⟨rfl, m, by simp [upb, e1, e2]⟩))
          iterate 1 (focus (refine by_step _ rfl ?_; intro b hb hc hn W hW; have e2 : b 27 = false := hc.last (n := 27) (by kernel_rfl) _ _ rfl (by decide) hb; have e1 : b 24 = false := hc.no hb (needs_of (by kernel_rfl)); rw [e1, e2] at hW; obtain ⟨m, rfl⟩ := hW; clear hc hn; simp only [does, cond_false]; go_simp; first | exact ⟨m, by simp [upb, e1, e2]⟩ | exact ⟨rfl, m, by simp [upb, e1, e2]⟩))
          iterate 1 (focus (refine by_step _ rfl ?_; intro b hb hc hn W hW; have e2 : b 27 = false := hc.last (n := 27) (by kernel_rfl) _ _ rfl (by decide) hb; rw [hb, e2] at hW; obtain ⟨m, rfl⟩ := hW; clear hc hn; simp only [does, cond_false]; go_simp; exact ⟨m, by simp [upb, e2]⟩))
          iterate 2 (focus (refine by_step _ rfl ?_; intro b hb hc hn W hW; have e2 : b 27 = false := hc.last (n := 27) (by kernel_rfl) _ _ rfl (by decide) hb; have e1 : b 24 = true := hn 24 (needs_of (by kernel_rfl)); rw [e1, e2] at hW; obtain ⟨m, rfl⟩ := hW; clear hc hn; simp only [does, cond_false, cond_true]; go_simp; first | exact ⟨m, by simp [upb, e1, e2]⟩ | exact ⟨rfl, m, by simp [upb, e1, e2]⟩))
          iterate 1 (focus (refine by_step _ rfl ?_; intro b hb hc hn W hW; have e1 : b 24 = true := hn 24 (needs_of (by kernel_rfl)); rw [e1, hb] at hW; obtain ⟨m, rfl⟩ := hW; clear hc hn; simp only [does, cond_false, cond_true]; go_simp; exact ⟨m, by simp [upb, e1]⟩))
          exact absurd hi (by simp)
        · intro b W hall hW
          rw [hall 24 (by decide), hall 27 (by decide)] at hW
          obtain ⟨m, rfl⟩ := hW
          clear hall
          simp only [cond_true]
          have HO4 := (HO3.out.drewN m).set Passing.enc_len (by rw [ups_len hk]) HUX.out (y := ⟨x.place, max x.earliest (be + d1), x.latest⟩) (j := 1) (u := max x.earliest (be + d1)) (by omega) rfl
          have HO5 := HO4.set Passing.enc_len (by rw [List.length_set, ups_len hk]) (x := ⟨x.place, max x.earliest (be + d1), x.latest⟩) (by rw [List.getElem?_set, if_pos rfl, if_pos (by rw [ups_len hk]; exact hlt)]) (y := ⟨x.place, max x.earliest (be + d1), min x.latest (bl + d2')⟩) (j := 2) (u := min x.latest (bl + d2')) (by omega) rfl
          rw [List.set_set, show (⟨x.place, max x.earliest (be + d1), min x.latest (bl + d2')⟩ : Passing) = upAt (sumsOf s r) l k by rw [HUP.out, HBF.out, ← HD1.out, ← HD2.out]; rfl, ← HSC.out] at HO5
          have HO6 := Lib.hid HO5
          have HK6 := Lib.hid (((HK3.out.drewN m).far (p := ⟨gv, k * 3 + 1, none⟩) hne1 (.int .i64 (max x.earliest (be + d1)))).far (p := ⟨gv, k * 3 + 2, none⟩) hne1 (.int .i64 (min x.latest (bl + d2'))))
          have HS6 := Lib.hid (((HS3.out.drewN m).far (p := ⟨gv, k * 3 + 1, none⟩) hne2 (.int .i64 (max x.earliest (be + d1)))).far (p := ⟨gv, k * 3 + 2, none⟩) hne2 (.int .i64 (min x.latest (bl + d2'))))
          have HB6 := Lib.hid (bel_set (p := ⟨gv, k * 3 + 2, none⟩) (bel_set (p := ⟨gv, k * 3 + 1, none⟩) (bel_drewN HB3.out m) hgv1 (.int .i64 (max x.earliest (be + d1)))) hgv1 (.int .i64 (min x.latest (bl + d2'))))
          clear HO4 HO5 x1 x2 xf1 xf2 hg3
          go_wp2
          go_roundw
          case rel => exact ⟨k + 1, by omega, by go_num, HO6, HK6, HS6, HB6⟩
          case measure => simp [intOf]; omega
    · obtain rfl : k = l.length := by omega
      obtain ⟨M, hM⟩ : ∃ M, ups (sumsOf s r) l l.length = M := ⟨_, rfl⟩
      have hMl : M.length = l.length := by rw [← hM]; exact ups_len (Nat.le_refl _)
      have HMO : Hid (UpsOk s r M) := Lib.hid (by rw [← hM]; exact ups_ok HS.out HR.out HL.out _ (Nat.le_refl _))
      rw [hM] at HOk
      have HML := Lib.hid hMl
      have hnn : Hid (narrowed (sumsOf s r) l = downs (sumsOf s r) M (l.length - 1)) := Lib.hid (by rw [narrowed_some hz, hM])
      clear hM hMl
      have hw2 : IntKind.i64.wrap ((l.length : Int) - 2) = (l.length : Int) - 2 := IntWalk.i64_in _ (by omega)
      obtain ⟨wo, rfl⟩ : ∃ wo : World, wo = wr := ⟨_, rfl⟩
      go_wp2
      go_loopw [15] (fun v15 wr => ∃ i : Int, (-1 ≤ i ∧ i + 2 ≤ l.length) ∧ v15 = .int .i64 i ∧ Hid (Own 3 Passing.enc 89 wr w.heap.size (.slice (some ⟨gv, 0, none⟩) l.length cv) (downs (sumsOf s r) M (l.length - 2 - i).toNat)) ∧ Hid (Blk wr w.heap.size 26 #[.slice A0 n0 c0, .slice A1 n1 c1, .slice A2 n2 c2]) ∧ Hid (Blk wr (w.heap.size + 1) 30 #[.int .i64 s.least, .int .i64 s.most, .slice B2 m2 d2, .slice B3 m3 d3]) ∧ Hid (Below w.heap.size w wr)) (fun v15 _ => (intOf v15 + 1).toNat)
      case atStart => exact ⟨(l.length : Int) - 2, by omega, rfl, Lib.hid (by rw [show ((l.length : Int) - 2 - ((l.length : Int) - 2)).toNat = 0 by omega, downs_zero (by rw [HML.out]; exact hz)]; exact HOk.out), HKr, HKs, HBk⟩
      case round =>
        obtain ⟨i, ⟨hi1, hi2⟩, rfl, HOi, HKi, HSi, HBi⟩ := hrel
        by_cases hi0 : 0 ≤ i
        · obtain ⟨p, rfl⟩ : ∃ p : Nat, i = p := ⟨i.toNat, by omega⟩
          have hp1 : p + 1 < l.length := by omega
          have hrk : (l.length - 2 - (p : Int)).toNat = l.length - 2 - p := by omega
          rw [hrk] at HOi
          have hkM : l.length - 2 - p < M.length := by rw [HML.out]; omega
          have hMx : M[p]? = some (M[p]'(by rw [HML.out]; omega)) := List.getElem?_eq_getElem _
          obtain ⟨x, hxv⟩ : ∃ x, M[p]'(by rw [HML.out]; omega) = x := ⟨_, rfl⟩
          rw [hxv] at hMx
          obtain ⟨q1, q2, q3, q4, q5, q6⟩ := HMO.out.2.1 p x hMx
          obtain ⟨y, hy⟩ : ∃ y, downAt (sumsOf s r) M (l.length - 2 - p) = y := ⟨_, rfl⟩
          have hdx : (downs (sumsOf s r) M (l.length - 2 - p))[p]? = some x := by rw [downs_old (by rw [HML.out]; omega)]; exact hMx
          have hdy : (downs (sumsOf s r) M (l.length - 2 - p))[p + 1]? = some y := by rw [downs_new hkM (by rw [HML.out]; omega) (by rw [HML.out]; exact hp1), HML.out, show l.length - 1 - (p + 1) = l.length - 2 - p by omega, hy]
          obtain ⟨yz, hyz, hyp, hyin⟩ := HMO.out.down_in HS.out HR.out (l.length - 2 - p) hkM
          rw [hy] at hyp hyin
          rw [HML.out, show l.length - 1 - (l.length - 2 - p) = p + 1 by omega] at hyz
          have hlt := HMO.out.2.2 p yz x hyz hMx
          obtain ⟨u1, u2, u3, u4, u5, u6⟩ := hyin
          have hsc : downs (sumsOf s r) M (l.length - 2 - p + 1) = (downs (sumsOf s r) M (l.length - 2 - p)).set p (Passing.down (sumsOf s r) x y) := by
            rw [downs_succ (by rw [HML.out]; omega), HML.out, show l.length - 1 - (l.length - 2 - p + 1) = p by omega, downAt_succ (x := x) (by rw [HML.out, show l.length - 1 - (l.length - 2 - p + 1) = p by omega]; exact hMx), hy]
          have hdl : (downs (sumsOf s r) M (l.length - 2 - p)).length = l.length := by rw [downs_len hkM, HML.out]
          have hd1 := at1_le (s := s) HS.out HR.out q1 (b := y.place) (by omega) u2
          have hd2 := at1_range (s := s) HS.out HR.out q1 q2
          have hd3 := at1_range (s := s) HS.out HR.out u1 u2
          have hd4 := at2_le (s := s) HS.out HR.out q1 (b := y.place) (by omega) u2
          have hd5 := at2_range (s := s) HS.out HR.out q1 q2
          have hd6 := at2_range (s := s) HS.out HR.out u1 u2
          obtain ⟨d1, hd1v⟩ : ∃ d1, btwL s r x.place y.place = d1 := ⟨_, rfl⟩
          obtain ⟨d2', hd2v⟩ : ∃ d2', btwM s r x.place y.place = d2' := ⟨_, rfl⟩
          have g1 : 0 ≤ d1 ∧ d1 ≤ 1000000000000 := by rw [← hd1v]; unfold btwL; omega
          have g2 : 0 ≤ d2' ∧ d2' ≤ 1000000000000 := by rw [← hd2v]; unfold btwM; omega
          obtain ⟨g1, g1'⟩ := g1
          obtain ⟨g2, g2'⟩ := g2
          have k3 : x.earliest ≤ 2000000000000000 := by omega
          have k4 : -1000000000000 ≤ x.latest := by omega
          have k5 : x.latest ≤ 2000000000000000 := by omega
          have k6 : 0 ≤ y.earliest := by omega
          have k7 : y.earliest ≤ 2000000000000000 := by omega
          have k8 : -1000000000000 ≤ y.latest := by omega
          have k9 : y.latest ≤ 2000000000000000 := by omega
          have hwr : IntKind.i64.wrap (y.earliest - d2') = y.earliest - d2' := IntWalk.i64_in _ (by omega)
          have hwr2 : IntKind.i64.wrap (y.latest - d1) = y.latest - d1 := IntWalk.i64_in _ (by omega)
          have hwp : IntKind.i64.wrap ((p : Int) + 1) = (p : Int) + 1 := IntWalk.i64_in _ (by omega)
          have hpn : ((p : Int) + 1).toNat = p + 1 := by omega
          have hpi : (p : Int) + 1 < (l.length : Int) := by omega
          have hpi2 : (p : Int) < (l.length : Int) := by omega
          have HD1 := Lib.hid hd1v
          have HD2 := Lib.hid hd2v
          have HSC := Lib.hid hsc
          have HDX := Lib.hid hdx
          have HDY := Lib.hid hdy
          have HDL := Lib.hid hdl
          have HBO : Hid (BtwOk s r x.place y.place) := Lib.hid ⟨HR.out, HS.out, q1, by omega, u2⟩
          have CR := HKi.out
          have CS := HSi.out
          have k0 := cell_regrown (show wr.cell? ⟨w.heap.size, 0, none⟩ = some (.slice A0 n0 c0) from CR.cell 0)
          have k1 := cell_regrown (show wr.cell? ⟨w.heap.size, 1, none⟩ = some (.slice A1 n1 c1) from CR.cell 1)
          have k2 := cell_regrown (show wr.cell? ⟨w.heap.size, 2, none⟩ = some (.slice A2 n2 c2) from CR.cell 2)
          have j3 := cell_regrown (show wr.cell? ⟨w.heap.size + 1, 0, none⟩ = some (.int .i64 s.least) from CS.cell 0)
          have j4 := cell_regrown (show wr.cell? ⟨w.heap.size + 1, 1, none⟩ = some (.int .i64 s.most) from CS.cell 1)
          have j5 := cell_regrown (show wr.cell? ⟨w.heap.size + 1, 2, none⟩ = some (.slice B2 m2 d2) from CS.cell 2)
          have j6 := cell_regrown (show wr.cell? ⟨w.heap.size + 1, 3, none⟩ = some (.slice B3 m3 d3) from CS.cell 3)
          have xx := HOi.out.cellAt Passing.enc_len hdx (j := 0) rfl
          have yy := HOi.out.cellAt Passing.enc_len hdy (j := 0) rfl
          rw [Nat.add_zero] at xx yy
          have x0 := cell_regrown xx
          have y0 := cell_regrown yy
          have HBT : Hid (∀ (dq : Nat) (os : Array Obj), Calls Tryd.prog 24 #[.agg #[.slice A0 n0 c0, .slice A1 n1 c1, .slice A2 n2 c2], .agg #[.int .i64 s.least, .int .i64 s.most, .slice B2 m2 d2, .slice B3 m3 d3], .int .i64 x.place, .int .i64 y.place] (Sort.grow (redrawn wr dq) os) fun e w' => e = .returned (.tuple #[.int .i64 d1, .int .i64 d2']) ∧ Below (Sort.grow (redrawn wr dq) os).heap.size (Sort.grow (redrawn wr dq) os) w') := Lib.hid (fun dq os => by
            rw [← HD1.out, ← HD2.out]
            exact ref3_Between s r A0 A1 A2 B2 B3 n0 n1 n2 m2 m3 c0 c1 c2 d2 d3 x.place y.place _ ((H0.out.below HBi.out).below (below_regrown wr dq os)) ((G2.out.below HBi.out).below (below_regrown wr dq os)) ((G3.out.below HBi.out).below (below_regrown wr dq os)) HBO.out)
          clear hrk hkM hMx hxv hy hdx hdy hyz hyp hlt hsc hdl hd1 hd2 hd3 hd4 hd5 hd6 hd1v hd2v hi1 hi2 CR CS xx yy
          go_wp2
          refine wp_region_quiet_below (by kernel_rfl) (by kernel_rfl) ?_; (repeat (go_big_quiet_step ((go_at_call 24; exact Calls.regrown_of (HBT.out _ _))))); refine wpQuiet_nil ?_; intro _ hw'; obtain ⟨⟨dq, osq⟩, hw''⟩ := hw'; subst hw''
          obtain ⟨W3, hW3⟩ : ∃ W3, Sort.grow (redrawn wr dq) osq = W3 := ⟨_, rfl⟩
          have hB3 : Below wr.heap.size wr W3 := by rw [← hW3]; exact below_regrown wr _ _
          have HO3 := Lib.hid (HOi.out.below hB3)
          have HK3 := Lib.hid (HKi.out.below hB3)
          have HS3 := Lib.hid (HSi.out.below hB3)
          have HB3 := Lib.hid (bel_then HBi.out hB3)
          rw [hW3]
          clear hW3 hB3 k0 k1 k2 j3 j4 j5 j6 x0 y0 HBT
          have x1 := HO3.out.cellAt Passing.enc_len HDX.out (j := 1) rfl
          have x2 := HO3.out.cellAt Passing.enc_len HDX.out (j := 2) rfl
          have y1 := HO3.out.cellAt Passing.enc_len HDY.out (j := 1) rfl
          have y2 := HO3.out.cellAt Passing.enc_len HDY.out (j := 2) rfl
          have xf1 := HO3.out.free HDL.out.symm (p * 3 + 1)
          have xf2 := HO3.out.free HDL.out.symm (p * 3 + 2)
          have hg3 := HO3.out.blk_lt.2
          go_wp2
          refine wp_region_does [.slice (some ⟨gv, 0, none⟩) l.length cv, .int .i64 p, .slice (some ⟨gv, 0, none⟩) l.length cv, .int .i64 p, .slice (some ⟨gv, 0, none⟩) l.length cv, .int .i64 p, .pointer (some ⟨gv, p * 3, none⟩), .pointer (some ⟨gv, p * 3 + 1, none⟩), .int .i64 x.earliest, .slice (some ⟨gv, 0, none⟩) l.length cv, .int .i64 p, .int .i64 ((p : Int) + 1), .pointer (some ⟨gv, (p + 1) * 3, none⟩), .pointer (some ⟨gv, (p + 1) * 3 + 1, none⟩), .int .i64 y.earliest, .int .i64 d2', .int .i64 (y.earliest - d2'), .int .i64 (max x.earliest (y.earliest - d2')), .slice (some ⟨gv, 0, none⟩) l.length cv, .int .i64 p, .pointer (some ⟨gv, p * 3, none⟩), .pointer (some ⟨gv, p * 3 + 2, none⟩), .int .i64 x.latest, .slice (some ⟨gv, 0, none⟩) l.length cv, .int .i64 p, .int .i64 ((p : Int) + 1), .pointer (some ⟨gv, (p + 1) * 3, none⟩), .pointer (some ⟨gv, (p + 1) * 3 + 2, none⟩), .int .i64 y.latest, .int .i64 d1, .int .i64 (y.latest - d1), .int .i64 (min x.latest (y.latest - d1)), .pointer (some ⟨gv, p * 3, none⟩), .pointer (some ⟨gv, p * 3 + 1, none⟩), undef, .pointer (some ⟨gv, p * 3, none⟩), .pointer (some ⟨gv, p * 3 + 2, none⟩), undef] (fun b => Sto2 W3 ⟨gv, p * 3 + 1, none⟩ (.int .i64 (max x.earliest (y.earliest - d2'))) ⟨gv, p * 3 + 2, none⟩ (.int .i64 (min x.latest (y.latest - d1))) (b 34) (b 37)) (by kernel_rfl) (by kernel_rfl) (by kernel_rfl) (by kernel_rfl) rfl ?_; intro af haf; simp only [frameL, Act.put, List.setIfInBounds_toArray, List.set_cons_succ, List.set_cons_zero] at haf; subst haf; refine ⟨Sto2.start, ?_, ?_⟩
          · intro i hi
            rcases i with _ | _ | _ | _ | _ | _ | _ | _ | _ | _ | _ | _ | _ | _ | _ | _ | _ | _ | _ | _ | _ | _ | _ | _ | _ | _ | _ | _ | _ | _ | _ | _ | _ | _ | _ | _ | _ | _ | i
            iterate 2 (focus (refine by_step _ rfl ?_; intro b hb hc hn W hW; have e2 : b 37 = false := hc.last (n := 37) (by kernel_rfl) _ _ rfl (by decide) hb; have e1 : b 34 = false := hc.no hb (needs_of (by kernel_rfl)); rw [e1, e2] at hW; obtain ⟨m, rfl⟩ := hW; clear hc hn; simp only [does, cond_false]; go_simp; first | exact ⟨m, by simp [upb, e1, e2]⟩ | exact ⟨rfl, m, by simp [upb, e1, e2]⟩))
            iterate 2 (focus (refine by_step _ rfl ?_; intro b hb hc hn W hW; have e2 : b 37 = false := hc.last (n := 37) (by kernel_rfl) _ _ rfl (by decide) hb; rw [e2] at hW; obtain ⟨m, rfl⟩ := hW; clear hc hn; rcases e1 : b 34 <;> simp only [does, cond_false, cond_true] <;> go_simp <;> first | exact ⟨m, by simp [upb, e1, e2]⟩ | exact ⟨rfl, m, by simp [upb, e1, e2]⟩))
            iterate 14 (focus (refine by_step _ rfl ?_; intro b hb hc hn W hW; have e2 : b 37 = false := hc.last (n := 37) (by kernel_rfl) _ _ rfl (by decide) hb; have e1 : b 34 = false := hc.no hb (needs_of (by kernel_rfl)); rw [e1, e2] at hW; obtain ⟨m, rfl⟩ := hW; clear hc hn; simp only [does, cond_false]; go_simp; first | exact ⟨m, by simp [upb, e1, e2]⟩ | exact ⟨rfl, m, by simp [upb, e1, e2]⟩))
            iterate 4 (focus (refine by_step _ rfl ?_; intro b hb hc hn W hW; have e2 : b 37 = false := hc.last (n := 37) (by kernel_rfl) _ _ rfl (by decide) hb; rw [e2] at hW; obtain ⟨m, rfl⟩ := hW; clear hc hn; rcases e1 : b 34 <;> simp only [does, cond_false, cond_true] <;> go_simp <;> first | exact ⟨m, by simp [upb, e1, e2]⟩ | exact ⟨rfl, m, by simp [upb, e1, e2]⟩))
            iterate 1 (focus (refine by_step _ rfl ?_; intro b hb hc hn W hW; have e2 : b 37 = false := hc.last (n := 37) (by kernel_rfl) _ _ rfl (by decide) hb; have e1 : b 34 = false := hc.no hb (needs_of (by kernel_rfl)); rw [e1, e2] at hW; obtain ⟨m, rfl⟩ := hW; clear hc hn; simp only [does, cond_false]; go_simp; first | exact ⟨m, by simp [upb, e1, e2]⟩ | exact ⟨rfl, m, by simp [upb, e1, e2]⟩))
            iterate 5 (focus (refine by_step _ rfl ?_; intro b hb hc hn W hW; have e2 : b 37 = false := hc.last (n := 37) (by kernel_rfl) _ _ rfl (by decide) hb; rw [e2] at hW; obtain ⟨m, rfl⟩ := hW; clear hc hn; rcases e1 : b 34 <;> simp only [does, cond_false, cond_true] <;> go_simp <;> first | exact ⟨m, by simp [upb, e1, e2]⟩ | exact ⟨rfl, m, by simp [upb, e1, e2]⟩))
            iterate 1 (focus (refine by_step _ rfl ?_; intro b hb hc hn W hW; have e2 : b 37 = false := hc.last (n := 37) (by kernel_rfl) _ _ rfl (by decide) hb; have e1 : b 34 = false := hc.no hb (needs_of (by kernel_rfl)); rw [e1, e2] at hW; obtain ⟨m, rfl⟩ := hW; clear hc hn; simp only [does, cond_false]; go_simp; first | exact ⟨m, by simp [upb, e1, e2]⟩ | exact ⟨rfl, m, by simp [upb, e1, e2]⟩))
            iterate 3 (focus (refine by_step _ rfl ?_; intro b hb hc hn W hW; have e2 : b 37 = false := hc.last (n := 37) (by kernel_rfl) _ _ rfl (by decide) hb; rw [e2] at hW; obtain ⟨m, rfl⟩ := hW; clear hc hn; rcases e1 : b 34 <;> simp only [does, cond_false, cond_true] <;> go_simp <;> first | exact ⟨m, by simp [upb, e1, e2]⟩ | exact ⟨rfl, m, by simp [upb, e1, e2]⟩))
            iterate 1 (focus (refine by_step _ rfl ?_; intro b hb hc hn W hW; have e2 : b 37 = false := hc.last (n := 37) (by kernel_rfl) _ _ rfl (by decide) hb; have e0 : b 33 = false := hc.no hb (needs_of (by kernel_rfl)); have e1 : b 34 = false := hc.no e0 (needs_of (by kernel_rfl)); rw [e1, e2] at hW; obtain ⟨m, rfl⟩ := hW; clear hc hn; simp only [does, cond_false]; go_simp; first | exact ⟨m, by simp [upb, e1, e2]⟩ | exact ⟨rfl, m, by simp [upb, e1, e2]⟩))
            iterate 1 (focus (refine by_step _ rfl ?_; intro b hb hc hn W hW; have e2 : b 37 = false := hc.last (n := 37) (by kernel_rfl) _ _ rfl (by decide) hb; have e1 : b 34 = false := hc.no hb (needs_of (by kernel_rfl)); rw [e1, e2] at hW; obtain ⟨m, rfl⟩ := hW; clear hc hn; simp only [does, cond_false]; go_simp; first | exact ⟨m, by simp [upb, e1, e2]⟩ | exact ⟨rfl, m, by simp [upb, e1, e2]⟩))
            iterate 1 (focus (refine by_step _ rfl ?_; intro b hb hc hn W hW; have e2 : b 37 = false := hc.last (n := 37) (by kernel_rfl) _ _ rfl (by decide) hb; rw [hb, e2] at hW; obtain ⟨m, rfl⟩ := hW; clear hc hn; simp only [does, cond_false]; go_simp; exact ⟨m, by simp [upb, e2]⟩))
            iterate 2 (focus (refine by_step _ rfl ?_; intro b hb hc hn W hW; have e2 : b 37 = false := hc.last (n := 37) (by kernel_rfl) _ _ rfl (by decide) hb; have e1 : b 34 = true := hn 34 (needs_of (by kernel_rfl)); rw [e1, e2] at hW; obtain ⟨m, rfl⟩ := hW; clear hc hn; simp only [does, cond_false, cond_true]; go_simp; first | exact ⟨m, by simp [upb, e1, e2]⟩ | exact ⟨rfl, m, by simp [upb, e1, e2]⟩))
            iterate 1 (focus (refine by_step _ rfl ?_; intro b hb hc hn W hW; have e1 : b 34 = true := hn 34 (needs_of (by kernel_rfl)); rw [e1, hb] at hW; obtain ⟨m, rfl⟩ := hW; clear hc hn; simp only [does, cond_false, cond_true]; go_simp; exact ⟨m, by simp [upb, e1]⟩))
            exact absurd hi (by simp)
          · intro b W hall hW
            rw [hall 34 (by decide), hall 37 (by decide)] at hW
            obtain ⟨m, rfl⟩ := hW
            clear hall
            simp only [cond_true]
            have HO4 := (HO3.out.drewN m).set Passing.enc_len HDL.out.symm HDX.out (y := ⟨x.place, max x.earliest (y.earliest - d2'), x.latest⟩) (j := 1) (u := max x.earliest (y.earliest - d2')) (by omega) rfl
            have HO5 := HO4.set Passing.enc_len (by rw [List.length_set, HDL.out]) (x := ⟨x.place, max x.earliest (y.earliest - d2'), x.latest⟩) (by rw [List.getElem?_set, if_pos rfl, if_pos (by rw [HDL.out]; omega)]) (y := ⟨x.place, max x.earliest (y.earliest - d2'), min x.latest (y.latest - d1)⟩) (j := 2) (u := min x.latest (y.latest - d1)) (by omega) rfl
            rw [List.set_set, show (⟨x.place, max x.earliest (y.earliest - d2'), min x.latest (y.latest - d1)⟩ : Passing) = Passing.down (sumsOf s r) x y by rw [← HD1.out, ← HD2.out]; rfl, ← HSC.out] at HO5
            have HO6 := Lib.hid HO5
            have HK6 := Lib.hid (((HK3.out.drewN m).far (p := ⟨gv, p * 3 + 1, none⟩) hne1 (.int .i64 (max x.earliest (y.earliest - d2')))).far (p := ⟨gv, p * 3 + 2, none⟩) hne1 (.int .i64 (min x.latest (y.latest - d1))))
            have HS6 := Lib.hid (((HS3.out.drewN m).far (p := ⟨gv, p * 3 + 1, none⟩) hne2 (.int .i64 (max x.earliest (y.earliest - d2')))).far (p := ⟨gv, p * 3 + 2, none⟩) hne2 (.int .i64 (min x.latest (y.latest - d1))))
            have HB6 := Lib.hid (bel_set (p := ⟨gv, p * 3 + 2, none⟩) (bel_set (p := ⟨gv, p * 3 + 1, none⟩) (bel_drewN HB3.out m) hgv1 (.int .i64 (max x.earliest (y.earliest - d2')))) hgv1 (.int .i64 (min x.latest (y.latest - d1))))
            clear HO4 HO5 x1 x2 y1 y2 xf1 xf2 hg3
            go_wp2
            go_roundw
            case rel => exact ⟨(p : Int) - 1, ⟨by omega, by omega⟩, by first | rfl | go_num, Lib.hid (by rw [show (l.length - 2 - ((p : Int) - 1)).toNat = l.length - 2 - p + 1 by omega]; exact HO6.out), HK6, HS6, HB6⟩
            case measure => simp [intOf]
        · obtain rfl : i = -1 := by omega
          rw [show (l.length - 2 - (-1 : Int)).toNat = l.length - 1 by omega, ← hnn.out] at HOi
          have HRd := Lib.hid (HOi.out.rd Passing.enc_len)
          obtain ⟨N, hN⟩ : ∃ N, narrowed (sumsOf s r) l = N := ⟨_, rfl⟩
          rw [hN] at HRd
          have HN := Lib.hid hN
          have HNl : Hid (N.length = l.length) := Lib.hid (by rw [← hN]; exact narrowed_len)
          clear hN HOi
          obtain ⟨w5, rfl⟩ : ∃ w5 : World, w5 = wr := ⟨_, rfl⟩
          go_wp2
          go_loopw [18] (fun v18 wr => ∃ k q : Nat, k ≤ l.length ∧ v18 = .int .i64 k ∧ Hid (∀ j x, j < k → N[j]? = some x → decide (x.latest < x.earliest) = false) ∧ wr = w5.drewN q) (fun v18 _ => l.length - (intOf v18).toNat)
          case atStart => exact ⟨0, 0, Nat.zero_le _, rfl, Lib.hid (fun j x h => by omega), rfl⟩
          case round =>
            obtain ⟨k, q, hk, rfl, HP, rfl⟩ := hrel
            by_cases hlt : k < l.length
            · obtain ⟨x, hx⟩ := HRd.out.get hlt
              have HX := Lib.hid hx
              obtain ⟨ad, e, x0, x1, x2⟩ := HRd.out.atPassing hx
              simp only [Option.some.injEq] at e
              subst e
              rw [add_own] at x0 x1 x2
              have hki : (k : Int) < (l.length : Int) := by omega
              clear hx
              rcases hb : decide (x.latest < x.earliest)
              · go_wp2
                go_quiet (fail)
                go_wp2
                go_roundw
                case rel => exact ⟨k + 1, _, by omega, by go_num, Lib.hid (fun j y hj hy => by
                  rcases Nat.lt_or_ge j k with hl | hl
                  · exact HP.out j y hl hy
                  · obtain rfl : j = k := by omega
                    rw [HX.out] at hy
                    cases hy
                    exact hb), by first | rfl | rw [World.drewN_drewN]⟩
                case measure => simp [intOf]; omega
              · go_wp2
                go_quiet (fail)
                go_wp2
                go_ret2
                refine ⟨by have := HBi.out; exact (by repeat (first | assumption | exact Below.refl _ _ | apply bel_alloc | apply bel_drew | apply bel_drewN | (refine bel_set ?_ (by first | assumption | omega | (simp; done) | (simp; omega)) _))), .inr ⟨?_, rfl⟩⟩
                rw [HN.out, List.any_eq_true]
                exact ⟨x, List.mem_of_getElem? HX.out, hb⟩
            · obtain rfl : k = l.length := by omega
              go_wp2
              go_ret2
              refine ⟨by have := HBi.out; exact (by repeat (first | assumption | exact Below.refl _ _ | apply bel_alloc | apply bel_drew | apply bel_drewN | (refine bel_set ?_ (by first | assumption | omega | (simp; done) | (simp; omega)) _))), .inl ⟨?_, _, _, rfl, ?_⟩⟩
              · rw [HN.out]
                exact any_upto HNl.out.symm HP.out
              · rw [HN.out]
                exact HRd.out.below (by repeat (first | assumption | exact Below.refl _ _ | apply bel_alloc | apply bel_drew | apply bel_drewN | (refine bel_set ?_ (by first | assumption | omega | (simp; done) | (simp; omega)) _)))
end Go.Proofs.YtinglbcafcjhfaaDoor
