/- Which lists are plans for calls: the program's triggers and the reference's. -/
import Derived.Test.YtinglbcafcjhfaaDoorRefE
namespace Go.Proofs.YtinglbcafcjhfaaDoor
open Go.RowKit
set_option linter.unusedVariables false
set_option linter.unusedSimpArgs false

def TrigOk (N : Int) (ts : List Int) (i : Nat) : Prop := ∀ p, ts[i]? = some p → inB p 0 N = true ∧ ∀ q, 0 < i → ts[i - 1]? = some q → decide (p < q) = false
def TrigsUp (N : Int) (ts : List Int) (k : Nat) : Prop := ∀ j, j < k → TrigOk N ts j
/-- A list is a plan for m calls on a road of N meters. -/
def TrigsOk (N : Int) (m : Nat) (ts : List Int) : Prop := ts.length = m ∧ TrigsUp N ts ts.length
section
variable {N : Int} {ts : List Int} {k m : Nat} {x y : Int}
theorem TrigsUp.succ (h : TrigsUp N ts k) (hk : TrigOk N ts k) : TrigsUp N ts (k + 1) := fun j hj => by
  rcases Nat.lt_or_ge j k with hl | hl
  · exact h j hl
  · obtain rfl : j = k := by omega
    exact hk
theorem TrigOk.no1 (hx : ts[k]? = some x) (h : inB x 0 N = false) : ¬TrigOk N ts k := fun hk => by rw [(hk x hx).1] at h; cases h
theorem TrigOk.no2 (hx : ts[k]? = some x) (h0 : 0 < k) (hy : ts[k - 1]? = some y) (h : decide (x < y) = true) : ¬TrigOk N ts k := fun hk => by rw [(hk x hx).2 y h0 hy] at h; cases h
theorem TrigOk.yes (hx : ts[k]? = some x) (h1 : inB x 0 N = true) (h2 : k = 0 ∨ ∃ y, ts[k - 1]? = some y ∧ decide (x < y) = false) : TrigOk N ts k := fun c hc => by
  rw [hx] at hc
  cases hc
  refine ⟨h1, fun d hk hd => ?_⟩
  rcases h2 with h2 | ⟨y, hy, h2⟩
  · omega
  · rw [hy] at hd
    cases hd
    exact h2
theorem TrigsOk.at_ (h : TrigsOk N m ts) (hx : ts[k]? = some x) : 0 ≤ x ∧ x ≤ N := by
  have := (h.2 k (List.getElem?_eq_some_iff.1 hx).1 x hx).1
  rw [inB_iff] at this
  omega
end
set_option maxRecDepth 100000 in
set_option maxHeartbeats 4000000 in
theorem track_triggers {w : World} {g N : Nat} {sums : List (Int × Int)} {s0 s1 s2 : Value} (ts : List Int) (A B : Option Addr) (n c m d : Nat) (h : IsTrack w g sums s0 s1 s2 N) (h2 : Rd 1 intEnc w B m ts) :
    Calls Tryd.prog 80 #[.pointer (some ⟨g, 0, none⟩), .slice A n c, .slice B m d] w fun e w' => e = .returned (.bool (bo (TrigsOk N n ts))) ∧ w = w' := by
  have m1 := h2.2.1
  have HT := Lib.hid h
  have H2 := Lib.hid h2
  clear h h2
  go_enter Tryd.func80, Tryd.ntmps80
  go_wp2
  go_loop [11] (fun v11 => ∃ k : Nat, k ≤ m ∧ v11 = .int .i64 k ∧ Hid (TrigsUp N ts k)) (fun v11 => m - (intOf v11).toNat)
  case atStart => exact ⟨0, Nat.zero_le _, rfl, Lib.hid fun j hj => absurd hj (by omega)⟩
  case round =>
    obtain ⟨k, hk, rfl, HP⟩ := hrel
    by_cases hlt : k < m
    · obtain ⟨x, hx⟩ := H2.out.get hlt
      have HX := Lib.hid hx
      obtain ⟨ad, e, x0⟩ := H2.out.at1 hx
      cases e
      clear hx
      rcases hb1 : inB x 0 N
      · go_wp2_with (go_at_call 59; refine (track_place _ HT.out).mono ?_; rintro e w' ⟨rfl, rfl⟩)
        go_ret
        exact ⟨ret_bool (bo_false fun v => TrigOk.no1 HX.out hb1 (v.2 k (by have := H2.out.1; omega))).symm, rfl⟩
      rcases Nat.eq_zero_or_pos k with hz | hz
      · have hd : decide (0 < k) = false := by rw [hz]; rfl
        have HZ := Lib.hid hz
        clear hz
        go_wp2_with (go_at_call 59; refine (track_place _ HT.out).mono ?_; rintro e w' ⟨rfl, rfl⟩)
        go_round
        case rel => exact ⟨k + 1, by omega, by go_num, Lib.hid (HP.out.succ (TrigOk.yes HX.out hb1 (.inl HZ.out)))⟩
        case measure => simp [intOf]; omega
      · obtain ⟨y, hy⟩ := H2.out.get (i := k - 1) (by omega)
        have HY := Lib.hid hy
        obtain ⟨ad', e, y0⟩ := H2.out.at1 hy
        cases e
        clear hy
        have q1 : IntKind.i64.wrap ((k : Int) - 1) = (k : Int) - 1 := IntWalk.i64_in _ (by omega)
        have q2 : (0 : Int) ≤ (k : Int) - 1 := by omega
        have q3 : (1 : Int) ≤ (k : Int) := by omega
        have q4 : ((k : Int) - 1).toNat = k - 1 := by omega
        have q5 : (k : Int) - 1 < (m : Int) := by omega
        rcases hb2 : decide (x < y)
        · go_wp2_with (go_at_call 59; refine (track_place _ HT.out).mono ?_; rintro e w' ⟨rfl, rfl⟩)
          go_round
          case rel => exact ⟨k + 1, by omega, by go_num, Lib.hid (HP.out.succ (TrigOk.yes HX.out hb1 (.inr ⟨y, HY.out, hb2⟩)))⟩
          case measure => simp [intOf]; omega
        · go_wp2_with (go_at_call 59; refine (track_place _ HT.out).mono ?_; rintro e w' ⟨rfl, rfl⟩)
          go_ret
          exact ⟨ret_bool (bo_false fun v => TrigOk.no2 HX.out hz HY.out hb2 (v.2 k (by have := H2.out.1; omega))).symm, rfl⟩
    · obtain rfl : m = k := by omega
      go_wp2
      go_ret
      refine ⟨ret_bool ?_, rfl⟩
      rw [Bool.eq_iff_iff, bo_iff]
      have e1 := H2.out.1
      have e2 : TrigsUp N ts ts.length := by rw [e1]; exact HP.out
      go_light
      simp only [decide_eq_true_eq, beq_iff_eq]
      exact ⟨fun hh => ⟨by omega, e2⟩, fun hh => by have := hh.1; omega⟩
set_option maxRecDepth 100000 in
set_option maxHeartbeats 4000000 in
theorem ref3_Triggers (r : Road) (ts : List Int) (A0 A1 A2 C B : Option Addr) (n0 n1 n2 c0 c1 c2 n c m d : Nat) (w : World) (h0 : Rd 5 Piece.enc w A0 n0 r.pieces) (h1 : Rd 1 intEnc w B m ts) (hf : r.Fit) :
    Calls Tryd.prog 39 #[.agg #[.slice A0 n0 c0, .slice A1 n1 c1, .slice A2 n2 c2], .slice C n c, .slice B m d] w fun e w' => e = .returned (.bool (bo (TrigsOk r.length n ts))) ∧ Below w.heap.size w w' := by
  have m1 := h1.2.1
  have H0 := Lib.hid h0
  have H1 := Lib.hid h1
  have HF := Lib.hid hf
  clear h0 h1 hf
  by_cases hmn : (m : Int) = (n : Int)
  rotate_left
  · have hne : bo (TrigsOk r.length n ts) = false := bo_false fun h => hmn (by have := h.1; have := H1.out.1; omega)
    have HNE := Lib.hid hne
    have hd : ((m : Int) != (n : Int)) = true := by simp; omega
    clear hne hmn
    go_enter Tryd.func39, Tryd.ntmps39
    go_wp2
    go_ret
    exact ⟨ret_bool HNE.out.symm, (by repeat (first | assumption | exact Below.refl _ _ | apply bel_alloc | apply bel_drew | apply bel_drewN | (refine bel_set ?_ (by first | assumption | omega | (simp; done) | (simp; omega)) _)))⟩
  have HMN : Hid (m = n) := Lib.hid (by omega)
  have hd : ((m : Int) != (n : Int)) = false := by simp; omega
  clear hmn
  go_enter Tryd.func39, Tryd.ntmps39
  go_wp2
  go_loopw [7] (fun v7 wr => ∃ k : Nat, k ≤ m ∧ v7 = .int .i64 k ∧ Hid (TrigsUp r.length ts k) ∧ Hid (Blk wr w.heap.size 26 #[.slice A0 n0 c0, .slice A1 n1 c1, .slice A2 n2 c2]) ∧ Hid (Below w.heap.size w wr)) (fun v7 _ => m - (intOf v7).toNat)
  case atStart => exact ⟨0, Nat.zero_le _, rfl, Lib.hid fun j hj => absurd hj (by omega), Lib.hid (Blk.new _ _ _), Lib.hid (by repeat (first | assumption | exact Below.refl _ _ | apply bel_alloc | apply bel_drew | apply bel_drewN | (refine bel_set ?_ (by first | assumption | omega | (simp; done) | (simp; omega)) _)))⟩
  case round =>
    obtain ⟨k, hk, rfl, HP, HK, HB⟩ := hrel
    by_cases hlt : k < m
    · obtain ⟨x, hx⟩ := H1.out.get hlt
      have HX := Lib.hid hx
      obtain ⟨ad, e, x0⟩ := (H1.out.below HB.out).at1 hx
      cases e
      clear hx
      rcases hb1 : inB x 0 r.length
      · have CR := HK.out; have k0 := cell_regrown (show wr.cell? ⟨w.heap.size, 0, none⟩ = some (.slice A0 n0 c0) from CR.cell 0); have k1 := cell_regrown (show wr.cell? ⟨w.heap.size, 1, none⟩ = some (.slice A1 n1 c1) from CR.cell 1); have k2 := cell_regrown (show wr.cell? ⟨w.heap.size, 2, none⟩ = some (.slice A2 n2 c2) from CR.cell 2); have x0' := cell_regrown x0; skip; clear CR x0; (try clear y0); go_wp2; refine wp_region_quiet_below (by kernel_rfl) (by kernel_rfl) ?_; (repeat (go_big_quiet_step ((first | (go_at_call 23; exact Calls.regrown_of (ref3_Length r A0 A1 A2 n0 n1 n2 c0 c1 c2 _ ((H0.out.below HB.out).below (below_regrown wr _ _)) HF.out)) | (go_at_call 65; exact Calls.regrown_same (ref3_in _ _ _ _)))))); refine wpQuiet_nil ?_; intro _ hw'; obtain ⟨⟨dq, osq⟩, hw''⟩ := hw'; subst hw''; obtain ⟨W3, hW3⟩ : ∃ W3, Sort.grow (redrawn wr dq) osq = W3 := ⟨_, rfl⟩; have HB3 : Hid (Below wr.heap.size wr W3) := Lib.hid (by rw [← hW3]; exact below_regrown wr _ _); rw [hW3]; clear hW3 k0 k1 k2 x0'; (try clear z1); (try clear q1 q2 q3 q4 q5); go_wp2
        go_ret
        exact ⟨ret_bool (bo_false fun v => TrigOk.no1 HX.out hb1 (v.2 k (by have := H1.out.1; omega))).symm, bel_then HB.out HB3.out⟩
      rcases Nat.eq_zero_or_pos k with hz | hz
      · have hd : decide (0 < k) = false := by rw [hz]; rfl
        have HZ := Lib.hid hz
        clear hz
        have CR := HK.out; have k0 := cell_regrown (show wr.cell? ⟨w.heap.size, 0, none⟩ = some (.slice A0 n0 c0) from CR.cell 0); have k1 := cell_regrown (show wr.cell? ⟨w.heap.size, 1, none⟩ = some (.slice A1 n1 c1) from CR.cell 1); have k2 := cell_regrown (show wr.cell? ⟨w.heap.size, 2, none⟩ = some (.slice A2 n2 c2) from CR.cell 2); have x0' := cell_regrown x0; skip; clear CR x0; (try clear y0); go_wp2; refine wp_region_quiet_below (by kernel_rfl) (by kernel_rfl) ?_; (repeat (go_big_quiet_step ((first | (go_at_call 23; exact Calls.regrown_of (ref3_Length r A0 A1 A2 n0 n1 n2 c0 c1 c2 _ ((H0.out.below HB.out).below (below_regrown wr _ _)) HF.out)) | (go_at_call 65; exact Calls.regrown_same (ref3_in _ _ _ _)))))); refine wpQuiet_nil ?_; intro _ hw'; obtain ⟨⟨dq, osq⟩, hw''⟩ := hw'; subst hw''; obtain ⟨W3, hW3⟩ : ∃ W3, Sort.grow (redrawn wr dq) osq = W3 := ⟨_, rfl⟩; have HB3 : Hid (Below wr.heap.size wr W3) := Lib.hid (by rw [← hW3]; exact below_regrown wr _ _); rw [hW3]; clear hW3 k0 k1 k2 x0'; (try clear z1); (try clear q1 q2 q3 q4 q5); go_wp2
        go_roundw
        case rel => exact ⟨k + 1, by omega, by go_num, Lib.hid (HP.out.succ (TrigOk.yes HX.out hb1 (.inl HZ.out))), Lib.hid (HK.out.below HB3.out), Lib.hid (bel_then HB.out HB3.out)⟩
        case measure => simp [intOf]; omega
      · obtain ⟨y, hy⟩ := H1.out.get (i := k - 1) (by omega)
        have HY := Lib.hid hy
        obtain ⟨ad', e, y0⟩ := (H1.out.below HB.out).at1 hy
        cases e
        clear hy
        have q1 : IntKind.i64.wrap ((k : Int) - 1) = (k : Int) - 1 := IntWalk.i64_in _ (by omega)
        have q2 : (0 : Int) ≤ (k : Int) - 1 := by omega
        have q3 : (1 : Int) ≤ (k : Int) := by omega
        have q4 : ((k : Int) - 1).toNat = k - 1 := by omega
        have q5 : (k : Int) - 1 < (m : Int) := by omega
        rcases hb2 : decide (x < y)
        · have CR := HK.out; have k0 := cell_regrown (show wr.cell? ⟨w.heap.size, 0, none⟩ = some (.slice A0 n0 c0) from CR.cell 0); have k1 := cell_regrown (show wr.cell? ⟨w.heap.size, 1, none⟩ = some (.slice A1 n1 c1) from CR.cell 1); have k2 := cell_regrown (show wr.cell? ⟨w.heap.size, 2, none⟩ = some (.slice A2 n2 c2) from CR.cell 2); have x0' := cell_regrown x0; have z1 := cell_regrown y0; clear CR x0; (try clear y0); go_wp2; refine wp_region_quiet_below (by kernel_rfl) (by kernel_rfl) ?_; (repeat (go_big_quiet_step ((first | (go_at_call 23; exact Calls.regrown_of (ref3_Length r A0 A1 A2 n0 n1 n2 c0 c1 c2 _ ((H0.out.below HB.out).below (below_regrown wr _ _)) HF.out)) | (go_at_call 65; exact Calls.regrown_same (ref3_in _ _ _ _)))))); refine wpQuiet_nil ?_; intro _ hw'; obtain ⟨⟨dq, osq⟩, hw''⟩ := hw'; subst hw''; obtain ⟨W3, hW3⟩ : ∃ W3, Sort.grow (redrawn wr dq) osq = W3 := ⟨_, rfl⟩; have HB3 : Hid (Below wr.heap.size wr W3) := Lib.hid (by rw [← hW3]; exact below_regrown wr _ _); rw [hW3]; clear hW3 k0 k1 k2 x0'; (try clear z1); (try clear q1 q2 q3 q4 q5); go_wp2
          go_roundw
          case rel => exact ⟨k + 1, by omega, by go_num, Lib.hid (HP.out.succ (TrigOk.yes HX.out hb1 (.inr ⟨y, HY.out, hb2⟩))), Lib.hid (HK.out.below HB3.out), Lib.hid (bel_then HB.out HB3.out)⟩
          case measure => simp [intOf]; omega
        · have CR := HK.out; have k0 := cell_regrown (show wr.cell? ⟨w.heap.size, 0, none⟩ = some (.slice A0 n0 c0) from CR.cell 0); have k1 := cell_regrown (show wr.cell? ⟨w.heap.size, 1, none⟩ = some (.slice A1 n1 c1) from CR.cell 1); have k2 := cell_regrown (show wr.cell? ⟨w.heap.size, 2, none⟩ = some (.slice A2 n2 c2) from CR.cell 2); have x0' := cell_regrown x0; have z1 := cell_regrown y0; clear CR x0; (try clear y0); go_wp2; refine wp_region_quiet_below (by kernel_rfl) (by kernel_rfl) ?_; (repeat (go_big_quiet_step ((first | (go_at_call 23; exact Calls.regrown_of (ref3_Length r A0 A1 A2 n0 n1 n2 c0 c1 c2 _ ((H0.out.below HB.out).below (below_regrown wr _ _)) HF.out)) | (go_at_call 65; exact Calls.regrown_same (ref3_in _ _ _ _)))))); refine wpQuiet_nil ?_; intro _ hw'; obtain ⟨⟨dq, osq⟩, hw''⟩ := hw'; subst hw''; obtain ⟨W3, hW3⟩ : ∃ W3, Sort.grow (redrawn wr dq) osq = W3 := ⟨_, rfl⟩; have HB3 : Hid (Below wr.heap.size wr W3) := Lib.hid (by rw [← hW3]; exact below_regrown wr _ _); rw [hW3]; clear hW3 k0 k1 k2 x0'; (try clear z1); (try clear q1 q2 q3 q4 q5); go_wp2
          go_ret
          exact ⟨ret_bool (bo_false fun v => TrigOk.no2 HX.out hz HY.out hb2 (v.2 k (by have := H1.out.1; omega))).symm, bel_then HB.out HB3.out⟩
    · obtain rfl : m = k := by omega
      go_wp2
      go_ret
      refine ⟨ret_bool ?_, HB.out⟩
      have e1 := H1.out.1
      have e2 : TrigsUp r.length ts ts.length := by rw [e1]; exact HP.out
      exact (bo_true ⟨by have := HMN.out; omega, e2⟩).symm
end Go.Proofs.YtinglbcafcjhfaaDoor
