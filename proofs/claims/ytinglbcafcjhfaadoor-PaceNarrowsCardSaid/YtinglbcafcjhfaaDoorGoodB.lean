/- Which lists are plans for calls: the program's triggers and the reference's. The contract of pace.Good. -/
import Derived.Test.YtinglbcafcjhfaaDoorRefF
import Derived.Test.YtinglbcafcjhfaaDoorPaceI
namespace Go.Proofs.YtinglbcafcjhfaaDoor
open Go.RowKit
set_option linter.unusedVariables false
set_option linter.unusedSimpArgs false

def TrigOk (N : Int) (ts : List Int) (i : Nat) : Prop := ∀ p, ts[i]? = some p → inB p 0 N = true ∧ ∀ q, 0 < i → ts[i - 1]? = some q → decide (p < q) = false
def TrigsUp (N : Int) (ts : List Int) (k : Nat) : Prop := ∀ j, j < k → TrigOk N ts j
/-- A list is a plan for m calls on a road of N meters. -/
def TrigsOk (N : Int) (m : Nat) (ts : List Int) : Prop := ts.length = m ∧ TrigsUp N ts ts.length
section
variable {N : Int} {ts : List Int} {k m : Nat} {x y : Int}
theorem TrigsUp.succ (h : TrigsUp N ts k) (hk : TrigOk N ts k) : TrigsUp N ts (k + 1) := fun j hj => by
  rcases Nat.lt_or_ge j k with hl | hl
  · exact h j hl
  · obtain rfl : j = k := by omega
    exact hk
theorem TrigOk.no1 (hx : ts[k]? = some x) (h : inB x 0 N = false) : ¬TrigOk N ts k := fun hk => by rw [(hk x hx).1] at h; cases h
theorem TrigOk.no2 (hx : ts[k]? = some x) (h0 : 0 < k) (hy : ts[k - 1]? = some y) (h : decide (x < y) = true) : ¬TrigOk N ts k := fun hk => by rw [(hk x hx).2 y h0 hy] at h; cases h
theorem TrigOk.yes (hx : ts[k]? = some x) (h1 : inB x 0 N = true) (h2 : k = 0 ∨ ∃ y, ts[k - 1]? = some y ∧ decide (x < y) = false) : TrigOk N ts k := fun c hc => by
  rw [hx] at hc
  cases hc
  refine ⟨h1, fun d hk hd => ?_⟩
  rcases h2 with h2 | ⟨y, hy, h2⟩
  · omega
  · rw [hy] at hd
    cases hd
    exact h2
theorem TrigsOk.at_ (h : TrigsOk N m ts) (hx : ts[k]? = some x) : 0 ≤ x ∧ x ≤ N := by
  have := (h.2 k (List.getElem?_eq_some_iff.1 hx).1 x hx).1
  rw [inB_iff] at this
  omega
end
set_option maxRecDepth 100000 in
set_option maxHeartbeats 4000000 in
theorem track_triggers {w : World} {g N : Nat} {sums : List (Int × Int)} {s0 s1 s2 : Value} (ts : List Int) (A B : Option Addr) (n c m d : Nat) (h : IsTrack w g sums s0 s1 s2 N) (h2 : Rd 1 intEnc w B m ts) :
    Calls Tryd.prog 80 #[.pointer (some ⟨g, 0, none⟩), .slice A n c, .slice B m d] w fun e w' => e = .returned (.bool (bo (TrigsOk N n ts))) ∧ w = w' := by
  have m1 := h2.2.1
  have HT := Lib.hid h
  have H2 := Lib.hid h2
  clear h h2
  go_enter Tryd.func80, Tryd.ntmps80
  go_wp2
  go_loop [11] (fun v11 => ∃ k : Nat, k ≤ m ∧ v11 = .int .i64 k ∧ Hid (TrigsUp N ts k)) (fun v11 => m - (intOf v11).toNat)
  case atStart => exact ⟨0, Nat.zero_le _, rfl, Lib.hid fun j hj => absurd hj (by omega)⟩
  case round =>
    obtain ⟨k, hk, rfl, HP⟩ := hrel
    by_cases hlt : k < m
    · obtain ⟨x, hx⟩ := H2.out.get hlt
      have HX := Lib.hid hx
      obtain ⟨ad, e, x0⟩ := H2.out.at1 hx
      cases e
      clear hx
      rcases hb1 : inB x 0 N
      · go_wp2_with (go_at_call 59; refine (track_place _ HT.out).mono ?_; rintro e w' ⟨rfl, rfl⟩)
        go_ret
        exact ⟨ret_bool (bo_false fun v => TrigOk.no1 HX.out hb1 (v.2 k (by have := H2.out.1; omega))).symm, rfl⟩
      rcases Nat.eq_zero_or_pos k with hz | hz
      · have hd : decide (0 < k) = false := by rw [hz]; rfl
        have HZ := Lib.hid hz
        clear hz
        go_wp2_with (go_at_call 59; refine (track_place _ HT.out).mono ?_; rintro e w' ⟨rfl, rfl⟩)
        go_round
        case rel => exact ⟨k + 1, by omega, by go_num, Lib.hid (HP.out.succ (TrigOk.yes HX.out hb1 (.inl HZ.out)))⟩
        case measure => simp [intOf]; omega
      · obtain ⟨y, hy⟩ := H2.out.get (i := k - 1) (by omega)
        have HY := Lib.hid hy
        obtain ⟨ad', e, y0⟩ := H2.out.at1 hy
        cases e
        clear hy
        have q1 : IntKind.i64.wrap ((k : Int) - 1) = (k : Int) - 1 := IntWalk.i64_in _ (by omega)
        have q2 : (0 : Int) ≤ (k : Int) - 1 := by omega
        have q3 : (1 : Int) ≤ (k : Int) := by omega
        have q4 : ((k : Int) - 1).toNat = k - 1 := by omega
        have q5 : (k : Int) - 1 < (m : Int) := by omega
        rcases hb2 : decide (x < y)
        · go_wp2_with (go_at_call 59; refine (track_place _ HT.out).mono ?_; rintro e w' ⟨rfl, rfl⟩)
          go_round
          case rel => exact ⟨k + 1, by omega, by go_num, Lib.hid (HP.out.succ (TrigOk.yes HX.out hb1 (.inr ⟨y, HY.out, hb2⟩)))⟩
          case measure => simp [intOf]; omega
        · go_wp2_with (go_at_call 59; refine (track_place _ HT.out).mono ?_; rintro e w' ⟨rfl, rfl⟩)
          go_ret
          exact ⟨ret_bool (bo_false fun v => TrigOk.no2 HX.out hz HY.out hb2 (v.2 k (by have := H2.out.1; omega))).symm, rfl⟩
    · obtain rfl : m = k := by omega
      go_wp2
      go_ret
      refine ⟨ret_bool ?_, rfl⟩
      rw [Bool.eq_iff_iff, bo_iff]
      have e1 := H2.out.1
      have e2 : TrigsUp N ts ts.length := by rw [e1]; exact HP.out
      go_light
      simp only [decide_eq_true_eq, beq_iff_eq]
      exact ⟨fun hh => ⟨by omega, e2⟩, fun hh => by have := hh.1; omega⟩
set_option maxRecDepth 100000 in
set_option maxHeartbeats 4000000 in
theorem ref3_Triggers (r : Road) (ts : List Int) (A0 A1 A2 C B : Option Addr) (n0 n1 n2 c0 c1 c2 n c m d : Nat) (w : World) (h0 : Rd 5 Piece.enc w A0 n0 r.pieces) (h1 : Rd 1 intEnc w B m ts) (hf : r.Fit) :
    Calls Tryd.prog 39 #[.agg #[.slice A0 n0 c0, .slice A1 n1 c1, .slice A2 n2 c2], .slice C n c, .slice B m d] w fun e w' => e = .returned (.bool (bo (TrigsOk r.length n ts))) ∧ Below w.heap.size w w' := by
  have m1 := h1.2.1
  have H0 := Lib.hid h0
  have H1 := Lib.hid h1
  have HF := Lib.hid hf
  clear h0 h1 hf
  by_cases hmn : (m : Int) = (n : Int)
  rotate_left
  · have hne : bo (TrigsOk r.length n ts) = false := bo_false fun h => hmn (by have := h.1; have := H1.out.1; omega)
    have HNE := Lib.hid hne
    have hd : ((m : Int) != (n : Int)) = true := by simp; omega
    clear hne hmn
    go_enter Tryd.func39, Tryd.ntmps39
    go_wp2
    go_ret
    exact ⟨ret_bool HNE.out.symm, (by repeat (first | assumption | exact Below.refl _ _ | apply bel_alloc | apply bel_drew | apply bel_drewN | (refine bel_set ?_ (by first | assumption | omega | (simp; done) | (simp; omega)) _)))⟩
  have HMN : Hid (m = n) := Lib.hid (by omega)
  have hd : ((m : Int) != (n : Int)) = false := by simp; omega
  clear hmn
  go_enter Tryd.func39, Tryd.ntmps39
  go_wp2
  go_loopw [7] (fun v7 wr => ∃ k : Nat, k ≤ m ∧ v7 = .int .i64 k ∧ Hid (TrigsUp r.length ts k) ∧ Hid (Blk wr w.heap.size 26 #[.slice A0 n0 c0, .slice A1 n1 c1, .slice A2 n2 c2]) ∧ Hid (Below w.heap.size w wr)) (fun v7 _ => m - (intOf v7).toNat)
  case atStart => exact ⟨0, Nat.zero_le _, rfl, Lib.hid fun j hj => absurd hj (by omega), Lib.hid (Blk.new _ _ _), Lib.hid (by repeat (first | assumption | exact Below.refl _ _ | apply bel_alloc | apply bel_drew | apply bel_drewN | (refine bel_set ?_ (by first | assumption | omega | (simp; done) | (simp; omega)) _)))⟩
  case round =>
    obtain ⟨k, hk, rfl, HP, HK, HB⟩ := hrel
    by_cases hlt : k < m
    · obtain ⟨x, hx⟩ := H1.out.get hlt
      have HX := Lib.hid hx
      obtain ⟨ad, e, x0⟩ := (H1.out.below HB.out).at1 hx
      cases e
      clear hx
      rcases hb1 : inB x 0 r.length
      · have CR := HK.out; have k0 := cell_regrown (show wr.cell? ⟨w.heap.size, 0, none⟩ = some (.slice A0 n0 c0) from CR.cell 0); have k1 := cell_regrown (show wr.cell? ⟨w.heap.size, 1, none⟩ = some (.slice A1 n1 c1) from CR.cell 1); have k2 := cell_regrown (show wr.cell? ⟨w.heap.size, 2, none⟩ = some (.slice A2 n2 c2) from CR.cell 2); have x0' := cell_regrown x0; skip; clear CR x0; (try clear y0); go_wp2; refine wp_region_quiet_below (by kernel_rfl) (by kernel_rfl) ?_; (repeat (go_big_quiet_step ((first | (go_at_call 23; exact Calls.regrown_of (ref3_Length r A0 A1 A2 n0 n1 n2 c0 c1 c2 _ ((H0.out.below HB.out).below (below_regrown wr _ _)) HF.out)) | (go_at_call 65; exact Calls.regrown_same (ref3_in _ _ _ _)))))); refine wpQuiet_nil ?_; intro _ hw'; obtain ⟨⟨dq, osq⟩, hw''⟩ := hw'; subst hw''; obtain ⟨W3, hW3⟩ : ∃ W3, Sort.grow (redrawn wr dq) osq = W3 := ⟨_, rfl⟩; have HB3 : Hid (Below wr.heap.size wr W3) := Lib.hid (by rw [← hW3]; exact below_regrown wr _ _); rw [hW3]; clear hW3 k0 k1 k2 x0'; (try clear z1); (try clear q1 q2 q3 q4 q5); go_wp2
        go_ret
        exact ⟨ret_bool (bo_false fun v => TrigOk.no1 HX.out hb1 (v.2 k (by have := H1.out.1; omega))).symm, bel_then HB.out HB3.out⟩
      rcases Nat.eq_zero_or_pos k with hz | hz
      · have hd : decide (0 < k) = false := by rw [hz]; rfl
        have HZ := Lib.hid hz
        clear hz
        have CR := HK.out; have k0 := cell_regrown (show wr.cell? ⟨w.heap.size, 0, none⟩ = some (.slice A0 n0 c0) from CR.cell 0); have k1 := cell_regrown (show wr.cell? ⟨w.heap.size, 1, none⟩ = some (.slice A1 n1 c1) from CR.cell 1); have k2 := cell_regrown (show wr.cell? ⟨w.heap.size, 2, none⟩ = some (.slice A2 n2 c2) from CR.cell 2); have x0' := cell_regrown x0; skip; clear CR x0; (try clear y0); go_wp2; refine wp_region_quiet_below (by kernel_rfl) (by kernel_rfl) ?_; (repeat (go_big_quiet_step ((first | (go_at_call 23; exact Calls.regrown_of (ref3_Length r A0 A1 A2 n0 n1 n2 c0 c1 c2 _ ((H0.out.below HB.out).below (below_regrown wr _ _)) HF.out)) | (go_at_call 65; exact Calls.regrown_same (ref3_in _ _ _ _)))))); refine wpQuiet_nil ?_; intro _ hw'; obtain ⟨⟨dq, osq⟩, hw''⟩ := hw'; subst hw''; obtain ⟨W3, hW3⟩ : ∃ W3, Sort.grow (redrawn wr dq) osq = W3 := ⟨_, rfl⟩; have HB3 : Hid (Below wr.heap.size wr W3) := Lib.hid (by rw [← hW3]; exact below_regrown wr _ _); rw [hW3]; clear hW3 k0 k1 k2 x0'; (try clear z1); (try clear q1 q2 q3 q4 q5); go_wp2
        go_roundw
        case rel => exact ⟨k + 1, by omega, by go_num, Lib.hid (HP.out.succ (TrigOk.yes HX.out hb1 (.inl HZ.out))), Lib.hid (HK.out.below HB3.out), Lib.hid (bel_then HB.out HB3.out)⟩
        case measure => simp [intOf]; omega
      · obtain ⟨y, hy⟩ := H1.out.get (i := k - 1) (by omega)
        have HY := Lib.hid hy
        obtain ⟨ad', e, y0⟩ := (H1.out.below HB.out).at1 hy
        cases e
        clear hy
        have q1 : IntKind.i64.wrap ((k : Int) - 1) = (k : Int) - 1 := IntWalk.i64_in _ (by omega)
        have q2 : (0 : Int) ≤ (k : Int) - 1 := by omega
        have q3 : (1 : Int) ≤ (k : Int) := by omega
        have q4 : ((k : Int) - 1).toNat = k - 1 := by omega
        have q5 : (k : Int) - 1 < (m : Int) := by omega
        rcases hb2 : decide (x < y)
        · have CR := HK.out; have k0 := cell_regrown (show wr.cell? ⟨w.heap.size, 0, none⟩ = some (.slice A0 n0 c0) from CR.cell 0); have k1 := cell_regrown (show wr.cell? ⟨w.heap.size, 1, none⟩ = some (.slice A1 n1 c1) from CR.cell 1); have k2 := cell_regrown (show wr.cell? ⟨w.heap.size, 2, none⟩ = some (.slice A2 n2 c2) from CR.cell 2); have x0' := cell_regrown x0; have z1 := cell_regrown y0; clear CR x0; (try clear y0); go_wp2; refine wp_region_quiet_below (by kernel_rfl) (by kernel_rfl) ?_; (repeat (go_big_quiet_step ((first | (go_at_call 23; exact Calls.regrown_of (ref3_Length r A0 A1 A2 n0 n1 n2 c0 c1 c2 _ ((H0.out.below HB.out).below (below_regrown wr _ _)) HF.out)) | (go_at_call 65; exact Calls.regrown_same (ref3_in _ _ _ _)))))); refine wpQuiet_nil ?_; intro _ hw'; obtain ⟨⟨dq, osq⟩, hw''⟩ := hw'; subst hw''; obtain ⟨W3, hW3⟩ : ∃ W3, Sort.grow (redrawn wr dq) osq = W3 := ⟨_, rfl⟩; have HB3 : Hid (Below wr.heap.size wr W3) := Lib.hid (by rw [← hW3]; exact below_regrown wr _ _); rw [hW3]; clear hW3 k0 k1 k2 x0'; (try clear z1); (try clear q1 q2 q3 q4 q5); go_wp2
          go_roundw
          case rel => exact ⟨k + 1, by omega, by go_num, Lib.hid (HP.out.succ (TrigOk.yes HX.out hb1 (.inr ⟨y, HY.out, hb2⟩))), Lib.hid (HK.out.below HB3.out), Lib.hid (bel_then HB.out HB3.out)⟩
          case measure => simp [intOf]; omega
        · have CR := HK.out; have k0 := cell_regrown (show wr.cell? ⟨w.heap.size, 0, none⟩ = some (.slice A0 n0 c0) from CR.cell 0); have k1 := cell_regrown (show wr.cell? ⟨w.heap.size, 1, none⟩ = some (.slice A1 n1 c1) from CR.cell 1); have k2 := cell_regrown (show wr.cell? ⟨w.heap.size, 2, none⟩ = some (.slice A2 n2 c2) from CR.cell 2); have x0' := cell_regrown x0; have z1 := cell_regrown y0; clear CR x0; (try clear y0); go_wp2; refine wp_region_quiet_below (by kernel_rfl) (by kernel_rfl) ?_; (repeat (go_big_quiet_step ((first | (go_at_call 23; exact Calls.regrown_of (ref3_Length r A0 A1 A2 n0 n1 n2 c0 c1 c2 _ ((H0.out.below HB.out).below (below_regrown wr _ _)) HF.out)) | (go_at_call 65; exact Calls.regrown_same (ref3_in _ _ _ _)))))); refine wpQuiet_nil ?_; intro _ hw'; obtain ⟨⟨dq, osq⟩, hw''⟩ := hw'; subst hw''; obtain ⟨W3, hW3⟩ : ∃ W3, Sort.grow (redrawn wr dq) osq = W3 := ⟨_, rfl⟩; have HB3 : Hid (Below wr.heap.size wr W3) := Lib.hid (by rw [← hW3]; exact below_regrown wr _ _); rw [hW3]; clear hW3 k0 k1 k2 x0'; (try clear z1); (try clear q1 q2 q3 q4 q5); go_wp2
          go_ret
          exact ⟨ret_bool (bo_false fun v => TrigOk.no2 HX.out hz HY.out hb2 (v.2 k (by have := H1.out.1; omega))).symm, bel_then HB.out HB3.out⟩
    · obtain rfl : m = k := by omega
      go_wp2
      go_ret
      refine ⟨ret_bool ?_, HB.out⟩
      have e1 := H1.out.1
      have e2 : TrigsUp r.length ts ts.length := by rw [e1]; exact HP.out
      exact (bo_true ⟨by have := HMN.out; omega, e2⟩).symm
end Go.Proofs.YtinglbcafcjhfaaDoor

namespace Go.Proofs.YtinglbcafcjhfaaDoor
open Go.RowKit
set_option linter.unusedVariables false
set_option linter.unusedSimpArgs false

def GoodAt (sums : List (Int × Int)) (l : List Call) (ts : List Int) (j : Nat) : Prop := ∃ p x, ts[j]? = some p ∧ l[j]? = some x ∧ p ≤ x.place ∧ at1 sums p ≤ rmR sums l j (l.length - j) ∧ at2 sums x.place - at2 sums p ≤ x.ahead
def GoodPlan (sums : List (Int × Int)) (l : List Call) (ts : List Int) : Prop := ∀ j, j < l.length → GoodAt sums l ts j
theorem goodAt_is {sums : List (Int × Int)} {l : List Call} {ts : List Int} {j : Nat} {p : Int} {x : Call} (hp : ts[j]? = some p) (hx : l[j]? = some x) : GoodAt sums l ts j ↔ p ≤ x.place ∧ at1 sums p ≤ rmR sums l j (l.length - j) ∧ at2 sums x.place - at2 sums p ≤ x.ahead := by
  unfold GoodAt
  constructor
  · rintro ⟨p', x', h1, h2, h3⟩
    rw [hp] at h1
    rw [hx] at h2
    cases h1
    cases h2
    exact h3
  · exact fun h => ⟨p, x, hp, hx, h⟩
theorem ret_bi {a b : Bool} {c : Int} (h : a = b) : Ending.returned (.tuple #[.bool a, .int .i64 c]) = .returned (.tuple #[.bool b, .int .i64 c]) := by rw [h]
set_option maxRecDepth 100000 in
set_option maxHeartbeats 4000000 in
theorem pace_Good_yes (s : Speeds) (r : Road) (l : List Call) (ts : List Int) (A0 A1 A2 B2 B3 C D : Option Addr) (n0 n1 n2 m2 m3 c0 c1 c2 d2 d3 n c m d : Nat) (w : World) (h0 : Rd 5 Piece.enc w A0 n0 r.pieces) (h1 : Rd 2 Crest.enc w A1 n1 r.crests) (h2 : Rd 3 Junction.enc w A2 n2 r.juncs) (g2 : Rd 3 SpeedRow.enc w B2 m2 s.rows) (g3 : Rd 1 intEnc w B3 m3 s.surface) (hc : Rd 5 Call.enc w C n l) (hd : Rd 1 intEnc w D m ts) (hr : r.Valid) (hs : s.Valid) (hl : CallsOk r.length l) (ht : TrigsOk r.length l.length ts) :
    Calls Tryd.prog 38 #[.agg #[.slice A0 n0 c0, .slice A1 n1 c1, .slice A2 n2 c2], .agg #[.int .i64 s.least, .int .i64 s.most, .slice B2 m2 d2, .slice B3 m3 d3], .slice C n c, .slice D m d] w fun e w' => e = .returned (.tuple #[.bool (bo (GoodPlan (sumsOf s r) l ts)), .int .i64 0]) ∧ Below w.heap.size w w' := by
  obtain ⟨N, hN⟩ : ∃ N : Nat, (N : Int) = r.length := ⟨r.length.toNat, by have := (hr.fit.2 _ (Nat.le_refl _)).1; show ((sumLen r.pieces r.pieces.length).toNat : Int) = sumLen r.pieces r.pieces.length; omega⟩
  have HN : Hid (r.length.toNat = N) := Lib.hid (by omega)
  rw [← hN] at hl ht
  have hs' := hs
  have H0 := Lib.hid h0; have H1 := Lib.hid h1; have H2 := Lib.hid h2; have G2 := Lib.hid g2; have G3 := Lib.hid g3; clear h0 h1 h2 g2 g3
  have HC := Lib.hid hc
  have HD := Lib.hid hd
  have HS := Lib.hid hs
  have HR := Lib.hid hr
  have HLs := Lib.hid hl
  have HTs := Lib.hid ht
  have hbo := bo_true hl
  have hn := hc.1
  obtain rfl : n = l.length := hn.symm
  have hbt := bo_true ht
  have hm : m = l.length := by have := hd.1; have := ht.1; omega
  obtain rfl := hm
  have hn3 := hl.1
  clear hs hr hN hl hc hd ht hs'
  go_enter Tryd.func38, Tryd.ntmps38
  obtain ⟨sums, hsums⟩ : ∃ sums, sumsOf s r = sums := ⟨_, rfl⟩
  have HSU : Hid (wsums (metersUp s r.pieces r.pieces.length) = sums) := Lib.hid hsums
  rw [hsums]
  clear hsums
  go_wp2_with (first
    | (go_at_call 58; refine (pace_begin_yes s r A0 A1 A2 B2 B3 n0 n1 n2 m2 m3 c0 c1 c2 d2 d3 _ (H0.out.below (by repeat (first | assumption | exact Below.refl _ _ | apply bel_alloc | apply bel_drew | apply bel_drewN | (refine bel_set ?_ (by first | assumption | omega | (simp; done) | (simp; omega)) _)))) (H1.out.below (by repeat (first | assumption | exact Below.refl _ _ | apply bel_alloc | apply bel_drew | apply bel_drewN | (refine bel_set ?_ (by first | assumption | omega | (simp; done) | (simp; omega)) _)))) (H2.out.below (by repeat (first | assumption | exact Below.refl _ _ | apply bel_alloc | apply bel_drew | apply bel_drewN | (refine bel_set ?_ (by first | assumption | omega | (simp; done) | (simp; omega)) _)))) (G2.out.below (by repeat (first | assumption | exact Below.refl _ _ | apply bel_alloc | apply bel_drew | apply bel_drewN | (refine bel_set ?_ (by first | assumption | omega | (simp; done) | (simp; omega)) _)))) (G3.out.below (by repeat (first | assumption | exact Below.refl _ _ | apply bel_alloc | apply bel_drew | apply bel_drewN | (refine bel_set ?_ (by first | assumption | omega | (simp; done) | (simp; omega)) _)))) HS.out HR.out).mono ?_; rintro e w1 ⟨g, rfl, ht, hw1⟩; rw [HN.out, HSU.out] at ht; have HT := Lib.hid ht; have HB1 : Hid (Below w.heap.size w w1) := Lib.hid (bel_then (by repeat (first | assumption | exact Below.refl _ _ | apply bel_alloc | apply bel_drew | apply bel_drewN | (refine bel_set ?_ (by first | assumption | omega | (simp; done) | (simp; omega)) _))) hw1); clear ht hw1)
    | (go_at_call 71; refine (track_calls l C _ c HT.out (HC.out.below HB1.out)).mono ?_; rintro e w2 ⟨rfl, hw2⟩; have HT2 := Lib.hid (HT.out.below hw2); have HB2 := Lib.hid (bel_then HB1.out hw2); clear hw2)
    | (go_at_call 80; refine (track_triggers ts C D _ c _ d HT2.out (HD.out.below HB2.out)).mono ?_; rintro e w' ⟨rfl, rfl⟩))
  go_loopw [39] (fun v39 wr => ∃ k q : Nat, k ≤ l.length ∧ v39 = .int .i64 k ∧ Hid (∀ j, j < k → GoodAt sums l ts j) ∧ wr = w2.drewN q) (fun v39 _ => l.length - (intOf v39).toNat)
  case atStart => exact ⟨0, 0, Nat.zero_le _, rfl, Lib.hid fun j hj => absurd hj (by omega), rfl⟩
  case round =>
    obtain ⟨k, q, hk, rfl, HP, rfl⟩ := hrel
    by_cases hlt : k < l.length
    · obtain ⟨x, hx⟩ := HC.out.get hlt
      obtain ⟨p, hp⟩ := HD.out.get hlt
      obtain ⟨px1, px2, _, _, _, _, px7, px8, _, _⟩ := HLs.out.at_ hx
      obtain ⟨pp1, pp2⟩ := HTs.out.at_ hp
      have HX := Lib.hid hx
      have HPp := Lib.hid hp
      obtain ⟨ad, e, x0, x1, x2, x3, x4⟩ := (HC.out.below HB2.out).atCall hx
      cases e
      obtain ⟨ad', e, y0⟩ := (HD.out.below HB2.out).at1 hp
      cases e
      obtain ⟨y, hy⟩ := HT2.out.get (i := p.toNat) (by omega)
      obtain ⟨B, cb, t1, t2, t3, t4⟩ := HT2.out
      obtain ⟨bd, e, z0, z1⟩ := t2.atTimes hy
      cases e
      obtain ⟨yy1, yy2, yy3, yy4⟩ := t4 _ _ hy
      have k3 := t1.cell 3
      have q1 : p < (N : Int) + 1 := by omega
      have hv : Hid (at1 sums p = y.1) := Lib.hid (by unfold at1; rw [List.getD_eq_getElem?_getD, hy]; rfl)
      obtain ⟨rv, hrv⟩ : ∃ rv, rmR sums l k (l.length - k) = rv := ⟨_, rfl⟩
      obtain ⟨lv, hlv⟩ : ∃ lv, rmL sums l k (l.length - k) = lv := ⟨_, rfl⟩
      have HRV := Lib.hid hrv
      have HLV := Lib.hid hlv
      clear hx hp hy t1 t2 t4 hrv hlv
      rcases ha : decide (x.place < p)
      rotate_left
      · go_wp2_with (go_at_call 72; refine (track_room l _ _ c k (IsTrack.drewN HT2.out _) (HC.out.below (by have := HB2.out; exact (by repeat (first | assumption | exact Below.refl _ _ | apply bel_alloc | apply bel_drew | apply bel_drewN | (refine bel_set ?_ (by first | assumption | omega | (simp; done) | (simp; omega)) _))))) HLs.out (by omega)).mono ?_; rintro e w' ⟨rfl, q2, rfl⟩; rw [HRV.out, HLV.out])
        go_quiet ((go_at_call 60; go_must (exact (between_most p x.place pp1 px1 pp2 px2 (HT2.out.drewN _)).mono (fun e w' ⟨he, m, hm⟩ => ⟨he, _, hm.trans (by rw [World.drewN_drewN, Nat.add_assoc])⟩))))
        go_wp2
        go_ret2
        refine ⟨ret_bi (bo_false fun hg => ?_).symm, by have := HB2.out; exact (by repeat (first | assumption | exact Below.refl _ _ | apply bel_alloc | apply bel_drew | apply bel_drewN | (refine bel_set ?_ (by first | assumption | omega | (simp; done) | (simp; omega)) _)))⟩
        have h1 := (goodAt_is HPp.out HX.out).1 (hg k hlt)
        rw [decide_eq_true_eq] at ha
        have h2 := hv.out
        have h3 := HRV.out
        omega
      rcases hb : decide (rv < y.1)
      rotate_left
      · go_wp2_with (go_at_call 72; refine (track_room l _ _ c k (IsTrack.drewN HT2.out _) (HC.out.below (by have := HB2.out; exact (by repeat (first | assumption | exact Below.refl _ _ | apply bel_alloc | apply bel_drew | apply bel_drewN | (refine bel_set ?_ (by first | assumption | omega | (simp; done) | (simp; omega)) _))))) HLs.out (by omega)).mono ?_; rintro e w' ⟨rfl, q2, rfl⟩; rw [HRV.out, HLV.out])
        go_quiet ((go_at_call 60; go_must (exact (between_most p x.place pp1 px1 pp2 px2 (HT2.out.drewN _)).mono (fun e w' ⟨he, m, hm⟩ => ⟨he, _, hm.trans (by rw [World.drewN_drewN, Nat.add_assoc])⟩))))
        go_wp2
        go_ret2
        refine ⟨ret_bi (bo_false fun hg => ?_).symm, by have := HB2.out; exact (by repeat (first | assumption | exact Below.refl _ _ | apply bel_alloc | apply bel_drew | apply bel_drewN | (refine bel_set ?_ (by first | assumption | omega | (simp; done) | (simp; omega)) _)))⟩
        have h1 := (goodAt_is HPp.out HX.out).1 (hg k hlt)
        rw [decide_eq_true_eq] at hb
        have h2 := hv.out
        have h3 := HRV.out
        omega
      rcases hcc : decide (x.ahead < at2 sums x.place - at2 sums p)
      rotate_left
      · go_wp2_with (go_at_call 72; refine (track_room l _ _ c k (IsTrack.drewN HT2.out _) (HC.out.below (by have := HB2.out; exact (by repeat (first | assumption | exact Below.refl _ _ | apply bel_alloc | apply bel_drew | apply bel_drewN | (refine bel_set ?_ (by first | assumption | omega | (simp; done) | (simp; omega)) _))))) HLs.out (by omega)).mono ?_; rintro e w' ⟨rfl, q2, rfl⟩; rw [HRV.out, HLV.out])
        go_quiet ((go_at_call 60; go_must (exact (between_most p x.place pp1 px1 pp2 px2 (HT2.out.drewN _)).mono (fun e w' ⟨he, m, hm⟩ => ⟨he, _, hm.trans (by rw [World.drewN_drewN, Nat.add_assoc])⟩))))
        go_wp2
        go_ret2
        refine ⟨ret_bi (bo_false fun hg => ?_).symm, by have := HB2.out; exact (by repeat (first | assumption | exact Below.refl _ _ | apply bel_alloc | apply bel_drew | apply bel_drewN | (refine bel_set ?_ (by first | assumption | omega | (simp; done) | (simp; omega)) _)))⟩
        have h1 := (goodAt_is HPp.out HX.out).1 (hg k hlt)
        rw [decide_eq_true_eq] at hcc
        have h2 := hv.out
        have h3 := HRV.out
        omega
      go_wp2_with (go_at_call 72; refine (track_room l _ _ c k (IsTrack.drewN HT2.out _) (HC.out.below (by have := HB2.out; exact (by repeat (first | assumption | exact Below.refl _ _ | apply bel_alloc | apply bel_drew | apply bel_drewN | (refine bel_set ?_ (by first | assumption | omega | (simp; done) | (simp; omega)) _))))) HLs.out (by omega)).mono ?_; rintro e w' ⟨rfl, q2, rfl⟩; rw [HRV.out, HLV.out])
      go_quiet ((go_at_call 60; go_must (exact (between_most p x.place pp1 px1 pp2 px2 (HT2.out.drewN _)).mono (fun e w' ⟨he, m, hm⟩ => ⟨he, _, hm.trans (by rw [World.drewN_drewN, Nat.add_assoc])⟩))))
      go_wp2
      go_roundw
      case rel =>
        rw [decide_eq_false_iff_not] at ha hb hcc
        refine ⟨k + 1, _, by omega, by go_num, Lib.hid (fun j hj => ?_), by first | rfl | rw [World.drewN_drewN]⟩
        rcases Nat.lt_or_ge j k with hl | hl
        · exact HP.out j hl
        · obtain rfl : j = k := by omega
          have h2 := hv.out
          have h3 := HRV.out
          exact (goodAt_is HPp.out HX.out).2 ⟨by omega, by omega, by omega⟩
      case measure => simp [intOf]; omega
    · obtain rfl : k = l.length := by omega
      go_wp2
      go_ret2
      exact ⟨ret_bi (bo_true HP.out).symm, by have := HB2.out; exact (by repeat (first | assumption | exact Below.refl _ _ | apply bel_alloc | apply bel_drew | apply bel_drewN | (refine bel_set ?_ (by first | assumption | omega | (simp; done) | (simp; omega)) _)))⟩
end Go.Proofs.YtinglbcafcjhfaaDoor
