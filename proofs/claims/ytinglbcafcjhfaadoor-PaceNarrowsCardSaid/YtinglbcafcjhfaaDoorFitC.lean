/- The contract of pace.Fits. -/
import Derived.Test.YtinglbcafcjhfaaDoorFitB
import Derived.Test.YtinglbcafcjhfaaDoorGoodB
import Derived.Lib.QuietBelow
namespace Go.Proofs.YtinglbcafcjhfaaDoor
open Go.RowKit
set_option linter.unusedVariables false
set_option linter.unusedSimpArgs false

def I64s (zs : List Int) : Prop := ∀ z, z ∈ zs → -9223372036854775808 ≤ z ∧ z ≤ 9223372036854775807
/-- The i-th time of a list follows as the speeds allow. -/
def RunStep (sums : List (Int × Int)) (run : List Int) (i : Nat) : Prop := ∀ x, run[i]? = some x → (i = 0 → x = 0) ∧ ∀ y, 0 < i → run[i - 1]? = some y → y ≤ x ∧ inB (x - y) (at1 sums (i : Int) - at1 sums ((i : Int) - 1)) (at2 sums (i : Int) - at2 sums ((i : Int) - 1)) = true
def RunUp (sums : List (Int × Int)) (run : List Int) (k : Nat) : Prop := ∀ i, i < k → RunStep sums run i
/-- A list of times is a run that fits passings. -/
def FitsRun (sums : List (Int × Int)) (l : List Passing) (run : List Int) : Prop := RunUp sums run run.length ∧ l.any (fun x => !inB (runAt run x.place) x.earliest x.latest) = false
section
variable {sums : List (Int × Int)} {run : List Int} {k : Nat} {x y : Int}
theorem RunUp.succ (h : RunUp sums run k) (hk : RunStep sums run k) : RunUp sums run (k + 1) := fun j hj => by
  rcases Nat.lt_or_ge j k with hl | hl
  · exact h j hl
  · obtain rfl : j = k := by omega
    exact hk
theorem RunUp.bound (h0 : at2 sums 0 = 0) (h : RunUp sums run k) : ∀ (i : Nat) (z : Int), i < k → run[i]? = some z → 0 ≤ z ∧ z ≤ at2 sums (i : Int)
  | 0, z, hi, hz => by
    have := (h 0 hi z hz).1 rfl
    rw [show ((0 : Nat) : Int) = 0 from rfl, h0]
    omega
  | i + 1, z, hi, hz => by
    have hlt : i + 1 < run.length := (List.getElem?_eq_some_iff.1 hz).1
    have hy : run[i]? = some run[i] := List.getElem?_eq_getElem (by omega)
    obtain ⟨b1, b2⟩ := RunUp.bound h0 h i _ (by omega) hy
    obtain ⟨c1, c2⟩ := (h (i + 1) hi z hz).2 _ (by omega) (by rw [Nat.add_sub_cancel]; exact hy)
    rw [inB_iff] at c2
    rw [show (((i + 1 : Nat) : Int) - 1) = (i : Int) by omega] at c2
    omega
end
set_option maxRecDepth 100000 in
set_option maxHeartbeats 4000000 in
theorem pace_Fits_yes (s : Speeds) (r : Road) (l : List Passing) (run : List Int) (A0 A1 A2 B2 B3 C D : Option Addr) (n0 n1 n2 m2 m3 c0 c1 c2 d2 d3 n c m d : Nat) (w : World) (h0 : Rd 5 Piece.enc w A0 n0 r.pieces) (h1 : Rd 2 Crest.enc w A1 n1 r.crests) (h2 : Rd 3 Junction.enc w A2 n2 r.juncs) (g2 : Rd 3 SpeedRow.enc w B2 m2 s.rows) (g3 : Rd 1 intEnc w B3 m3 s.surface) (hc : Rd 3 Passing.enc w C n l) (hd : Rd 1 intEnc w D m run) (hr : r.Valid) (hs : s.Valid) (hl : PassOk r.length l) (ht : (run.length : Int) = r.length + 1) (hw : I64s run) :
    Calls Tryd.prog 35 #[.agg #[.slice A0 n0 c0, .slice A1 n1 c1, .slice A2 n2 c2], .agg #[.int .i64 s.least, .int .i64 s.most, .slice B2 m2 d2, .slice B3 m3 d3], .slice C n c, .slice D m d] w fun e w' => e = .returned (.tuple #[.bool (bo (FitsRun (sumsOf s r) l run)), .int .i64 0]) ∧ Below w.heap.size w w' := by
  obtain ⟨N, hN⟩ : ∃ N : Nat, (N : Int) = r.length := ⟨r.length.toNat, by have := (hr.fit.2 _ (Nat.le_refl _)).1; show ((sumLen r.pieces r.pieces.length).toNat : Int) = sumLen r.pieces r.pieces.length; omega⟩
  have HN : Hid (r.length.toNat = N) := Lib.hid (by omega)
  rw [← hN] at hl ht
  have H00 := Lib.hid (at2_zero (s := s) (r := r))
  have H0 := Lib.hid h0; have H1 := Lib.hid h1; have H2 := Lib.hid h2; have G2 := Lib.hid g2; have G3 := Lib.hid g3; clear h0 h1 h2 g2 g3
  have HC := Lib.hid hc
  have HD := Lib.hid hd
  have HS := Lib.hid hs
  have HR := Lib.hid hr
  have HLs := Lib.hid hl
  have HW := Lib.hid hw
  have hbo := bo_true hl
  have hn := hc.1
  obtain rfl : n = l.length := hn.symm
  have hm : m = N + 1 := by have := hd.1; omega
  subst hm
  have hn3 := hl.1
  have hne : (((N + 1 : Nat) : Int) != (N + 1 : Nat)) = false := by simp
  clear hs hr hN hl hc hd ht hw
  go_enter Tryd.func35, Tryd.ntmps35
  obtain ⟨sums, hsums⟩ : ∃ sums, sumsOf s r = sums := ⟨_, rfl⟩
  have HSU : Hid (wsums (metersUp s r.pieces r.pieces.length) = sums) := Lib.hid hsums
  rw [hsums] at H00
  rw [hsums]
  clear hsums
  go_wp2_with (go_at_call 58; refine (pace_begin_yes s r A0 A1 A2 B2 B3 n0 n1 n2 m2 m3 c0 c1 c2 d2 d3 _ (H0.out.below (by repeat (first | assumption | exact Below.refl _ _ | apply bel_alloc | apply bel_drew | apply bel_drewN | (refine bel_set ?_ (by first | assumption | omega | (simp; done) | (simp; omega)) _)))) (H1.out.below (by repeat (first | assumption | exact Below.refl _ _ | apply bel_alloc | apply bel_drew | apply bel_drewN | (refine bel_set ?_ (by first | assumption | omega | (simp; done) | (simp; omega)) _)))) (H2.out.below (by repeat (first | assumption | exact Below.refl _ _ | apply bel_alloc | apply bel_drew | apply bel_drewN | (refine bel_set ?_ (by first | assumption | omega | (simp; done) | (simp; omega)) _)))) (G2.out.below (by repeat (first | assumption | exact Below.refl _ _ | apply bel_alloc | apply bel_drew | apply bel_drewN | (refine bel_set ?_ (by first | assumption | omega | (simp; done) | (simp; omega)) _)))) (G3.out.below (by repeat (first | assumption | exact Below.refl _ _ | apply bel_alloc | apply bel_drew | apply bel_drewN | (refine bel_set ?_ (by first | assumption | omega | (simp; done) | (simp; omega)) _)))) HS.out HR.out).mono ?_; rintro e w1 ⟨g, rfl, ht, hw1⟩; rw [HN.out, HSU.out] at ht; have HT := Lib.hid ht; have HB7 : Hid (Blk w1 (w.heap.size + 1 + 1) 28 #[.slice D (N + 1) d]) := Lib.hid ((Blk.new_at _ _ _ _ (by simp)).below hw1); have HB1 : Hid (Below w.heap.size w w1) := Lib.hid (bel_then (by repeat (first | assumption | exact Below.refl _ _ | apply bel_alloc | apply bel_drew | apply bel_drewN | (refine bel_set ?_ (by first | assumption | omega | (simp; done) | (simp; omega)) _))) hw1); clear ht hw1)
  obtain ⟨B, cb, t1, t2, t3, t4⟩ := HT.out
  have k0 := cell_regrown (show w1.cell? ⟨w.heap.size + 1 + 1, 0, none⟩ = some (.slice D (N + 1) d) from HB7.out.cell 0)
  have k3 := cell_regrown (show w1.cell? ⟨g, 3, none⟩ = some (.slice (some B) (N + 1) cb) from t1.cell 3)
  clear t1 t2 t4
  refine wp_region_quiet_below (by kernel_rfl) (by kernel_rfl) ?_; (repeat (go_big_quiet_step ((go_at_call 77; exact Calls.regrown_of (track_passings l C _ c (HT.out.below (below_regrown w1 _ _)) ((HC.out.below HB1.out).below (below_regrown w1 _ _))))))); refine wpQuiet_nil ?_; intro _ hw'; obtain ⟨⟨dq, osq⟩, hw''⟩ := hw'; subst hw''
  obtain ⟨w2, hw2⟩ : ∃ w2, Sort.grow (redrawn w1 dq) osq = w2 := ⟨_, rfl⟩
  have hB2 : Below w1.heap.size w1 w2 := by rw [← hw2]; exact below_regrown w1 _ _
  have HT2 := Lib.hid (HT.out.below hB2)
  have HK7 := Lib.hid (HB7.out.below hB2)
  have HB2 := Lib.hid (bel_then HB1.out hB2)
  rw [hw2]
  clear hw2 k0 k3 hB2
  have z7 := HK7.out.cell 0
  go_wp2
  go_loopw [40] (fun v40 wr => ∃ k q : Nat, k ≤ N + 1 ∧ v40 = .int .i64 k ∧ Hid (RunUp sums run k) ∧ wr = w2.drewN q) (fun v40 _ => N + 1 - (intOf v40).toNat)
  case atStart => exact ⟨0, 0, Nat.zero_le _, rfl, Lib.hid fun j hj => absurd hj (by omega), rfl⟩
  case round =>
    obtain ⟨k, q, hk, rfl, HP, rfl⟩ := hrel
    by_cases hlt : k < N + 1
    · obtain ⟨x, hx⟩ := HD.out.get hlt
      obtain ⟨hx1, hx2⟩ := HW.out x (List.mem_of_getElem? hx)
      have HX := Lib.hid hx
      obtain ⟨ad, e, x0⟩ := (HD.out.below HB2.out).at1 hx
      cases e
      clear hx
      rcases Nat.eq_zero_or_pos k with hz | hz
      · have hd : decide (0 < k) = false := by rw [hz]; rfl
        have he : ((k : Int) == 0) = true := by rw [hz]; rfl
        have HZ := Lib.hid hz
        clear hz
        rcases hxz : (x != 0)
        · go_wp2
          go_quiet (fail)
          go_wp2
          go_roundw
          case rel => exact ⟨k + 1, _, by omega, by go_num, Lib.hid (HP.out.succ (fun x' hx' => by rw [HX.out] at hx'; cases hx'; exact ⟨fun _ => by simpa using hxz, fun y hk => by have := HZ.out; omega⟩)), by first | rfl | rw [World.drewN_drewN]⟩
          case measure => simp [intOf]; omega
        · go_wp2
          go_quiet (fail)
          go_wp2
          go_ret2
          refine ⟨ret_bi (bo_false fun hg => ?_).symm, by have := HB2.out; exact (by repeat (first | assumption | exact Below.refl _ _ | apply bel_alloc | apply bel_drew | apply bel_drewN | (refine bel_set ?_ (by first | assumption | omega | (simp; done) | (simp; omega)) _)))⟩
          have h1 := (hg.1 k (by have := HD.out.1; omega) x HX.out).1 HZ.out
          rw [h1] at hxz
          simp at hxz
      · obtain ⟨y, hy⟩ := HD.out.get (i := k - 1) (by omega)
        obtain ⟨hy1, hy2⟩ := HP.out.bound H00.out (k - 1) y (by omega) hy
        have HY := Lib.hid hy
        obtain ⟨ad', e, y0⟩ := (HD.out.below HB2.out).at1 hy
        cases e
        clear hy
        obtain ⟨u, hu⟩ := HT2.out.get (i := k - 1) (by omega)
        obtain ⟨_, _, _, _, _, t4⟩ := HT2.out
        obtain ⟨uu1, uu2, uu3, uu4⟩ := t4 _ _ hu
        have hyb : y ≤ 10000000000000 := by
          have : at2 sums ((k - 1 : Nat) : Int) = u.2 := by unfold at2; rw [List.getD_eq_getElem?_getD, show (((k - 1 : Nat) : Int)).toNat = k - 1 by omega, hu]; rfl
          omega
        clear hu t4 uu1 uu2 uu3 uu4 hy2
        have hd : decide (0 < k) = true := by simp; omega
        have he : ((k : Int) == 0) = false := by simp; omega
        have q1 : IntKind.i64.wrap ((k : Int) - 1) = (k : Int) - 1 := IntWalk.i64_in _ (by omega)
        have q2 : (0 : Int) ≤ (k : Int) - 1 := by omega
        have q3 : (1 : Int) ≤ (k : Int) := by omega
        have q4 : ((k : Int) - 1).toNat = k - 1 := by omega
        have q5 : (k : Int) - 1 < ((N + 1 : Nat) : Int) := by omega
        have q5b : (k : Int) - 1 < (N : Int) + 1 := by omega
        have q6 : (k : Int) ≤ (N : Int) := by omega
        have q7 : (k : Int) - 1 ≤ (N : Int) := by omega
        have q8 : (0 : Int) ≤ (k : Int) := by omega
        obtain ⟨a1, ha1⟩ : ∃ a1, at1 sums (k : Int) - at1 sums ((k : Int) - 1) = a1 := ⟨_, rfl⟩
        obtain ⟨a2, ha2⟩ : ∃ a2, at2 sums (k : Int) - at2 sums ((k : Int) - 1) = a2 := ⟨_, rfl⟩
        have HBL : Hid (∀ i, Calls Tryd.prog 60 #[.pointer (some ⟨g, 0, none⟩), .int .i64 0, .int .i64 ((k : Int) - 1), .int .i64 (k : Int)] (w2.drewN (q + i)) fun e w' => e = .returned (.int .i64 a1) ∧ ∃ m, w' = w2.drewN (q + m)) := Lib.hid (fun i => by rw [← ha1]; exact (between_least ((k : Int) - 1) (k : Int) q2 q8 q7 q6 (HT2.out.drewN (q + i))).mono (fun e w' ⟨he, m, hm⟩ => ⟨he, i + m, hm.trans (by rw [World.drewN_drewN, Nat.add_assoc])⟩))
        have HBM : Hid (∀ i, Calls Tryd.prog 60 #[.pointer (some ⟨g, 0, none⟩), .int .i64 1, .int .i64 ((k : Int) - 1), .int .i64 (k : Int)] (w2.drewN (q + i)) fun e w' => e = .returned (.int .i64 a2) ∧ ∃ m, w' = w2.drewN (q + m)) := Lib.hid (fun i => by rw [← ha2]; exact (between_most ((k : Int) - 1) (k : Int) q2 q8 q7 q6 (HT2.out.drewN (q + i))).mono (fun e w' ⟨he, m, hm⟩ => ⟨he, i + m, hm.trans (by rw [World.drewN_drewN, Nat.add_assoc])⟩))
        have HA1 := Lib.hid ha1
        have HA2 := Lib.hid ha2
        clear ha1 ha2 q6 q7 q8 hn3
        rcases hyx : decide (x < y)
        · have hsub : IntKind.i64.wrap (x - y) = x - y := IntWalk.i64_in _ (by rw [decide_eq_false_iff_not] at hyx; omega)
          rcases hin : inB (x - y) a1 a2
          · go_wp2
            go_quiet ((first | (go_at_call 62; go_must (exact (pace_within _ _ _ _).mono (fun e w9 ⟨he, hm⟩ => ⟨he, _, hm.symm⟩))) | (go_at_call 60; go_must (first | with_reducible exact HBM.out _ | with_reducible exact HBL.out _))))
            go_wp2
            go_ret2
            refine ⟨ret_bi (bo_false fun hg => ?_).symm, by have := HB2.out; exact (by repeat (first | assumption | exact Below.refl _ _ | apply bel_alloc | apply bel_drew | apply bel_drewN | (refine bel_set ?_ (by first | assumption | omega | (simp; done) | (simp; omega)) _)))⟩
            have h1 := ((hg.1 k (by have := HD.out.1; omega) x HX.out).2 y hz HY.out).2
            rw [HA1.out, HA2.out, hin] at h1
            cases h1
          · go_wp2
            go_quiet ((first | (go_at_call 62; go_must (exact (pace_within _ _ _ _).mono (fun e w9 ⟨he, hm⟩ => ⟨he, _, hm.symm⟩))) | (go_at_call 60; go_must (first | with_reducible exact HBM.out _ | with_reducible exact HBL.out _))))
            go_wp2
            go_roundw
            case rel => exact ⟨k + 1, _, by omega, by go_num, Lib.hid (HP.out.succ (fun x' hx' => by rw [HX.out] at hx'; cases hx'; exact ⟨fun h => by omega, fun y' _ hy' => by rw [HY.out] at hy'; cases hy'; exact ⟨by rw [decide_eq_false_iff_not] at hyx; omega, by rw [HA1.out, HA2.out]; exact hin⟩⟩)), by first | rfl | rw [World.drewN_drewN]⟩
            case measure => simp [intOf]; omega
        · go_wp2
          go_quiet ((first | (go_at_call 62; go_must (exact (pace_within _ _ _ _).mono (fun e w9 ⟨he, hm⟩ => ⟨he, _, hm.symm⟩))) | (go_at_call 60; go_must (first | with_reducible exact HBM.out _ | with_reducible exact HBL.out _))))
          go_wp2
          go_ret2
          refine ⟨ret_bi (bo_false fun hg => ?_).symm, by have := HB2.out; exact (by repeat (first | assumption | exact Below.refl _ _ | apply bel_alloc | apply bel_drew | apply bel_drewN | (refine bel_set ?_ (by first | assumption | omega | (simp; done) | (simp; omega)) _)))⟩
          have h1 := ((hg.1 k (by have := HD.out.1; omega) x HX.out).2 y hz HY.out).1
          rw [decide_eq_true_eq] at hyx
          omega
    · obtain rfl : k = N + 1 := by omega
      go_wp2_with (go_at_call 78; refine (contains_pass 79 (.pointer (some ⟨w.heap.size + 1 + 1, 0, none⟩)) (fun x => !inB (runAt run x.place) x.earliest x.latest) l _ _ _ _ (HC.out.below (by have := HB2.out; exact (by repeat (first | assumption | exact Below.refl _ _ | apply bel_alloc | apply bel_drew | apply bel_drewN | (refine bel_set ?_ (by first | assumption | omega | (simp; done) | (simp; omega)) _))))) call_Fits1 (fun x W hx hW => fits_holds _ x run D (N + 1) d ((HD.out.below (by have := HB2.out; exact (by repeat (first | assumption | exact Below.refl _ _ | apply bel_alloc | apply bel_drew | apply bel_drewN | (refine bel_set ?_ (by first | assumption | omega | (simp; done) | (simp; omega)) _))))).below hW) (Blk.below (HK7.out.drewN _) hW) (by obtain ⟨i, hi⟩ := List.getElem?_of_mem hx; have := HLs.out.at_ hi; omega) (by obtain ⟨i, hi⟩ := List.getElem?_of_mem hx; have := HLs.out.at_ hi; omega))).mono ?_; rintro e w3 ⟨rfl, hw3⟩)
      go_ret2
      refine ⟨ret_bi ?_, bel_then (by have := HB2.out; exact (by repeat (first | assumption | exact Below.refl _ _ | apply bel_alloc | apply bel_drew | apply bel_drewN | (refine bel_set ?_ (by first | assumption | omega | (simp; done) | (simp; omega)) _)))) hw3⟩
      have hup : RunUp sums run run.length := by have := HD.out.1; rw [this]; exact HP.out
      rcases hany : l.any (fun x => !inB (runAt run x.place) x.earliest x.latest)
      · exact (bo_true ⟨hup, hany⟩).symm
      · exact (bo_false fun h => by rw [h.2] at hany; cases hany).symm
end Go.Proofs.YtinglbcafcjhfaaDoor
