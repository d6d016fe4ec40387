/- Passings: which are as defined, by the program and by the reference. slices.ContainsFunc over passings, and what pace.Fits hands to it. -/
import Derived.Test.YtinglbcafcjhfaaDoorRefF
namespace Go.Proofs.YtinglbcafcjhfaaDoor
open Go.RowKit
set_option linter.unusedVariables false
set_option linter.unusedSimpArgs false

structure Passing where
  (place earliest latest : Int)
def Passing.enc (c : Passing) : List Int := [c.place, c.earliest, c.latest]
theorem Passing.enc_len (c : Passing) : c.enc.length = 3 := rfl
theorem Rd.atPassing {w : World} {A : Option Addr} {n i : Nat} {xs : List Passing} (h : Rd 3 Passing.enc w A n xs) {x : Passing} (hx : xs[i]? = some x) : ∃ ad, A = some ad ∧ w.cell? (ad.add (i * 3)) = some (.int .i64 x.place) ∧ w.cell? ⟨(ad.add (i * 3)).block, (ad.add (i * 3)).off + 1, none⟩ = some (.int .i64 x.earliest) ∧ w.cell? ⟨(ad.add (i * 3)).block, (ad.add (i * 3)).off + 2, none⟩ = some (.int .i64 x.latest) := by
  obtain ⟨ad, e, hc⟩ := h.2.2 i x hx
  exact ⟨ad, e, hc 0 _ rfl, by rw [← add_field _ _ 1 (by omega)]; exact hc 1 _ rfl, by rw [← add_field _ _ 2 (by omega)]; exact hc 2 _ rfl⟩
def Passing.Fine (c : Passing) : Prop := decide (c.earliest < 0) = false ∧ decide (c.latest < c.earliest) = false ∧ decide (1125899906842624 < c.latest) = false
def Passing.Ok (N : Int) (l : List Passing) (i : Nat) : Prop := ∀ x, l[i]? = some x → inB x.place 0 N = true ∧ (∀ y, 0 < i → l[i - 1]? = some y → decide (x.place ≤ y.place) = false) ∧ x.Fine
def PassUp (N : Int) (l : List Passing) (k : Nat) : Prop := ∀ j, j < k → Passing.Ok N l j
/-- Passings as defined on a road of N meters. -/
def PassOk (N : Int) (l : List Passing) : Prop := l.length ≤ 200 ∧ PassUp N l l.length
section
variable {N : Int} {l : List Passing} {k : Nat} {x y : Passing}
theorem PassUp.succ (h : PassUp N l k) (hk : Passing.Ok N l k) : PassUp N l (k + 1) := fun j hj => by
  rcases Nat.lt_or_ge j k with hl | hl
  · exact h j hl
  · obtain rfl : j = k := by omega
    exact hk
theorem Passing.no1 (hx : l[k]? = some x) (h : inB x.place 0 N = false) : ¬Passing.Ok N l k := fun hk => by rw [(hk x hx).1] at h; cases h
theorem Passing.no2 (hx : l[k]? = some x) (h0 : 0 < k) (hy : l[k - 1]? = some y) (h : decide (x.place ≤ y.place) = true) : ¬Passing.Ok N l k := fun hk => by rw [(hk x hx).2.1 y h0 hy] at h; cases h
theorem Passing.no3 (hx : l[k]? = some x) (h : ¬x.Fine) : ¬Passing.Ok N l k := fun hk => h (hk x hx).2.2
theorem Passing.yes (hx : l[k]? = some x) (h1 : inB x.place 0 N = true) (h2 : k = 0 ∨ ∃ y, l[k - 1]? = some y ∧ decide (x.place ≤ y.place) = false) (h3 : x.Fine) : Passing.Ok N l k := fun c hc => by
  rw [hx] at hc
  cases hc
  refine ⟨h1, fun d hk hd => ?_, h3⟩
  rcases h2 with h2 | ⟨y, hy, h2⟩
  · omega
  · rw [hy] at hd
    cases hd
    exact h2
theorem PassOk.at_ (h : PassOk N l) (hx : l[k]? = some x) : 0 ≤ x.place ∧ x.place ≤ N ∧ 0 ≤ x.earliest ∧ x.earliest ≤ x.latest ∧ x.latest ≤ 1125899906842624 := by
  obtain ⟨h1, _, h3, h4, h5⟩ := h.2 k (List.getElem?_eq_some_iff.1 hx).1 x hx
  rw [inB_iff] at h1
  simp only [decide_eq_false_iff_not] at h3 h4 h5
  omega
theorem PassOk.lt (h : PassOk N l) (hx : l[k + 1]? = some x) (hy : l[k]? = some y) : y.place < x.place := by
  have := (h.2 (k + 1) (List.getElem?_eq_some_iff.1 hx).1 x hx).2.1 y (by omega) hy
  rw [decide_eq_false_iff_not] at this
  omega
end
set_option maxRecDepth 100000 in
set_option maxHeartbeats 4000000 in
theorem track_passings {w : World} {g N : Nat} {sums : List (Int × Int)} {s0 s1 s2 : Value} (l : List Passing) (A : Option Addr) (n c : Nat) (h : IsTrack w g sums s0 s1 s2 N) (h1 : Rd 3 Passing.enc w A n l) :
    Calls Tryd.prog 77 #[.pointer (some ⟨g, 0, none⟩), .slice A n c] w fun e w' => e = .returned (.bool (bo (PassOk N l))) ∧ Below w.heap.size w w' := by
  have m1 := h1.2.1
  have HT := Lib.hid h
  have H1 := Lib.hid h1
  clear h h1
  go_enter Tryd.func77, Tryd.ntmps77
  go_wp2
  go_loopw [9] (fun v9 wr => ∃ k : Nat, k ≤ n ∧ v9 = .int .i64 k ∧ Hid (PassUp N l k) ∧ Below w.heap.size w wr) (fun v9 _ => n - (intOf v9).toNat)
  case atStart => exact ⟨0, Nat.zero_le _, rfl, Lib.hid fun j hj => absurd hj (by omega), Below.refl _ _⟩
  case round =>
    obtain ⟨k, hk, rfl, HP, HB⟩ := hrel
    by_cases hlt : k < n
    · obtain ⟨x, hx⟩ := H1.out.get hlt
      have HX := Lib.hid hx
      clear hx
      obtain ⟨ad, e, x0, x1, x2⟩ := (H1.out.below HB).atPassing HX.out
      cases e
      rcases hb1 : inB x.place 0 N
      · go_wp2; go_quiet ((first | (go_at_call 59; exact quiet_eq (track_place _ (IsTrack.drewN (HT.out.below (by repeat (first | assumption | exact Below.refl _ _ | apply bel_alloc | apply bel_drew | apply bel_drewN | (refine bel_set ?_ (by first | assumption | omega | (simp; done) | (simp; omega)) _)))) _))) | (go_at_call 62; exact quiet_eq (pace_within _ _ _ _)))); (try clear q1 q2 q3 q4 q5); go_wp2
        go_ret
        exact ⟨ret_bool (bo_false fun v => Passing.no1 HX.out hb1 (v.2 k (by have := H1.out.1; omega))).symm, (by repeat (first | assumption | exact Below.refl _ _ | apply bel_alloc | apply bel_drew | apply bel_drewN | (refine bel_set ?_ (by first | assumption | omega | (simp; done) | (simp; omega)) _)))⟩
      rcases Nat.eq_zero_or_pos k with hz | hz
      · have hd : decide (0 < k) = false := by rw [hz]; rfl
        have HZ := Lib.hid hz
        clear hz
        rcases ha : decide (x.earliest < 0)
        rotate_left
        · have hnf : Hid (¬x.Fine) := Lib.hid (fun hh => by rw [hh.1] at ha; cases ha)
          go_wp2; go_quiet ((first | (go_at_call 59; exact quiet_eq (track_place _ (IsTrack.drewN (HT.out.below (by repeat (first | assumption | exact Below.refl _ _ | apply bel_alloc | apply bel_drew | apply bel_drewN | (refine bel_set ?_ (by first | assumption | omega | (simp; done) | (simp; omega)) _)))) _))) | (go_at_call 62; exact quiet_eq (pace_within _ _ _ _)))); (try clear q1 q2 q3 q4 q5); go_wp2
          go_ret
          exact ⟨ret_bool (bo_false fun v => Passing.no3 HX.out hnf.out (v.2 k (by have := H1.out.1; omega))).symm, (by repeat (first | assumption | exact Below.refl _ _ | apply bel_alloc | apply bel_drew | apply bel_drewN | (refine bel_set ?_ (by first | assumption | omega | (simp; done) | (simp; omega)) _)))⟩
        rcases hb : decide (x.latest < x.earliest)
        rotate_left
        · have hnf : Hid (¬x.Fine) := Lib.hid (fun hh => by rw [hh.2.1] at hb; cases hb)
          go_wp2; go_quiet ((first | (go_at_call 59; exact quiet_eq (track_place _ (IsTrack.drewN (HT.out.below (by repeat (first | assumption | exact Below.refl _ _ | apply bel_alloc | apply bel_drew | apply bel_drewN | (refine bel_set ?_ (by first | assumption | omega | (simp; done) | (simp; omega)) _)))) _))) | (go_at_call 62; exact quiet_eq (pace_within _ _ _ _)))); (try clear q1 q2 q3 q4 q5); go_wp2
          go_ret
          exact ⟨ret_bool (bo_false fun v => Passing.no3 HX.out hnf.out (v.2 k (by have := H1.out.1; omega))).symm, (by repeat (first | assumption | exact Below.refl _ _ | apply bel_alloc | apply bel_drew | apply bel_drewN | (refine bel_set ?_ (by first | assumption | omega | (simp; done) | (simp; omega)) _)))⟩
        rcases hc : decide (1125899906842624 < x.latest)
        rotate_left
        · have hnf : Hid (¬x.Fine) := Lib.hid (fun hh => by rw [hh.2.2] at hc; cases hc)
          go_wp2; go_quiet ((first | (go_at_call 59; exact quiet_eq (track_place _ (IsTrack.drewN (HT.out.below (by repeat (first | assumption | exact Below.refl _ _ | apply bel_alloc | apply bel_drew | apply bel_drewN | (refine bel_set ?_ (by first | assumption | omega | (simp; done) | (simp; omega)) _)))) _))) | (go_at_call 62; exact quiet_eq (pace_within _ _ _ _)))); (try clear q1 q2 q3 q4 q5); go_wp2
          go_ret
          exact ⟨ret_bool (bo_false fun v => Passing.no3 HX.out hnf.out (v.2 k (by have := H1.out.1; omega))).symm, (by repeat (first | assumption | exact Below.refl _ _ | apply bel_alloc | apply bel_drew | apply bel_drewN | (refine bel_set ?_ (by first | assumption | omega | (simp; done) | (simp; omega)) _)))⟩
        have hyf : Hid x.Fine := Lib.hid ⟨ha, hb, hc⟩
        go_wp2; go_quiet ((first | (go_at_call 59; exact quiet_eq (track_place _ (IsTrack.drewN (HT.out.below (by repeat (first | assumption | exact Below.refl _ _ | apply bel_alloc | apply bel_drew | apply bel_drewN | (refine bel_set ?_ (by first | assumption | omega | (simp; done) | (simp; omega)) _)))) _))) | (go_at_call 62; exact quiet_eq (pace_within _ _ _ _)))); (try clear q1 q2 q3 q4 q5); go_wp2
        go_roundw
        case rel => exact ⟨k + 1, by omega, by go_num, HP.out.succ (Passing.yes HX.out hb1 (.inl HZ.out) hyf.out), (by repeat (first | assumption | exact Below.refl _ _ | apply bel_alloc | apply bel_drew | apply bel_drewN | (refine bel_set ?_ (by first | assumption | omega | (simp; done) | (simp; omega)) _)))⟩
        case measure => simp [intOf]; omega
      · obtain ⟨y, hy⟩ := H1.out.get (i := k - 1) (by omega)
        have HY := Lib.hid hy
        clear hy
        obtain ⟨ad', e, y0, y1, y2⟩ := (H1.out.below HB).atPassing HY.out
        cases e
        have yb := World.block_lt_of_cell? _ _ y0
        have q1 : IntKind.i64.wrap ((k : Int) - 1) = (k : Int) - 1 := IntWalk.i64_in _ (by omega)
        have q2 : (0 : Int) ≤ (k : Int) - 1 := by omega
        have q3 : (1 : Int) ≤ (k : Int) := by omega
        have q4 : ((k : Int) - 1).toNat = k - 1 := by omega
        have q5 : (k : Int) - 1 < (n : Int) := by omega
        rcases hb2 : decide (x.place ≤ y.place)
        rotate_left
        · go_wp2; go_quiet ((first | (go_at_call 59; exact quiet_eq (track_place _ (IsTrack.drewN (HT.out.below (by repeat (first | assumption | exact Below.refl _ _ | apply bel_alloc | apply bel_drew | apply bel_drewN | (refine bel_set ?_ (by first | assumption | omega | (simp; done) | (simp; omega)) _)))) _))) | (go_at_call 62; exact quiet_eq (pace_within _ _ _ _)))); (try clear q1 q2 q3 q4 q5); go_wp2
          go_ret
          exact ⟨ret_bool (bo_false fun v => Passing.no2 HX.out hz HY.out hb2 (v.2 k (by have := H1.out.1; omega))).symm, (by repeat (first | assumption | exact Below.refl _ _ | apply bel_alloc | apply bel_drew | apply bel_drewN | (refine bel_set ?_ (by first | assumption | omega | (simp; done) | (simp; omega)) _)))⟩
        rcases ha : decide (x.earliest < 0)
        rotate_left
        · have hnf : Hid (¬x.Fine) := Lib.hid (fun hh => by rw [hh.1] at ha; cases ha)
          go_wp2; go_quiet ((first | (go_at_call 59; exact quiet_eq (track_place _ (IsTrack.drewN (HT.out.below (by repeat (first | assumption | exact Below.refl _ _ | apply bel_alloc | apply bel_drew | apply bel_drewN | (refine bel_set ?_ (by first | assumption | omega | (simp; done) | (simp; omega)) _)))) _))) | (go_at_call 62; exact quiet_eq (pace_within _ _ _ _)))); (try clear q1 q2 q3 q4 q5); go_wp2
          go_ret
          exact ⟨ret_bool (bo_false fun v => Passing.no3 HX.out hnf.out (v.2 k (by have := H1.out.1; omega))).symm, (by repeat (first | assumption | exact Below.refl _ _ | apply bel_alloc | apply bel_drew | apply bel_drewN | (refine bel_set ?_ (by first | assumption | omega | (simp; done) | (simp; omega)) _)))⟩
        rcases hb : decide (x.latest < x.earliest)
        rotate_left
        · have hnf : Hid (¬x.Fine) := Lib.hid (fun hh => by rw [hh.2.1] at hb; cases hb)
          go_wp2; go_quiet ((first | (go_at_call 59; exact quiet_eq (track_place _ (IsTrack.drewN (HT.out.below (by repeat (first | assumption | exact Below.refl _ _ | apply bel_alloc | apply bel_drew | apply bel_drewN | (refine bel_set ?_ (by first | assumption | omega | (simp; done) | (simp; omega)) _)))) _))) | (go_at_call 62; exact quiet_eq (pace_within _ _ _ _)))); (try clear q1 q2 q3 q4 q5); go_wp2
          go_ret
          exact ⟨ret_bool (bo_false fun v => Passing.no3 HX.out hnf.out (v.2 k (by have := H1.out.1; omega))).symm, (by repeat (first | assumption | exact Below.refl _ _ | apply bel_alloc | apply bel_drew | apply bel_drewN | (refine bel_set ?_ (by first | assumption | omega | (simp; done) | (simp; omega)) _)))⟩
        rcases hc : decide (1125899906842624 < x.latest)
        rotate_left
        · have hnf : Hid (¬x.Fine) := Lib.hid (fun hh => by rw [hh.2.2] at hc; cases hc)
          go_wp2; go_quiet ((first | (go_at_call 59; exact quiet_eq (track_place _ (IsTrack.drewN (HT.out.below (by repeat (first | assumption | exact Below.refl _ _ | apply bel_alloc | apply bel_drew | apply bel_drewN | (refine bel_set ?_ (by first | assumption | omega | (simp; done) | (simp; omega)) _)))) _))) | (go_at_call 62; exact quiet_eq (pace_within _ _ _ _)))); (try clear q1 q2 q3 q4 q5); go_wp2
          go_ret
          exact ⟨ret_bool (bo_false fun v => Passing.no3 HX.out hnf.out (v.2 k (by have := H1.out.1; omega))).symm, (by repeat (first | assumption | exact Below.refl _ _ | apply bel_alloc | apply bel_drew | apply bel_drewN | (refine bel_set ?_ (by first | assumption | omega | (simp; done) | (simp; omega)) _)))⟩
        have hyf : Hid x.Fine := Lib.hid ⟨ha, hb, hc⟩
        go_wp2; go_quiet ((first | (go_at_call 59; exact quiet_eq (track_place _ (IsTrack.drewN (HT.out.below (by repeat (first | assumption | exact Below.refl _ _ | apply bel_alloc | apply bel_drew | apply bel_drewN | (refine bel_set ?_ (by first | assumption | omega | (simp; done) | (simp; omega)) _)))) _))) | (go_at_call 62; exact quiet_eq (pace_within _ _ _ _)))); (try clear q1 q2 q3 q4 q5); go_wp2
        go_roundw
        case rel => exact ⟨k + 1, by omega, by go_num, HP.out.succ (Passing.yes HX.out hb1 (.inr ⟨y, HY.out, hb2⟩) hyf.out), (by repeat (first | assumption | exact Below.refl _ _ | apply bel_alloc | apply bel_drew | apply bel_drewN | (refine bel_set ?_ (by first | assumption | omega | (simp; done) | (simp; omega)) _)))⟩
        case measure => simp [intOf]; omega
    · obtain rfl : n = k := by omega
      go_wp2
      go_ret
      refine ⟨ret_bool ?_, HB⟩
      rw [Bool.eq_iff_iff, bo_iff]
      have e1 := H1.out.1
      have e2 : PassUp N l l.length := by rw [e1]; exact HP.out
      go_light
      simp only [decide_eq_true_eq]
      exact ⟨fun hh => ⟨by omega, e2⟩, fun hh => by have := hh.1; omega⟩
set_option maxRecDepth 100000 in
set_option maxHeartbeats 4000000 in
theorem ref3_Passings (r : Road) (l : List Passing) (A0 A1 A2 C : Option Addr) (n0 n1 n2 c0 c1 c2 n c : Nat) (w : World) (h0 : Rd 5 Piece.enc w A0 n0 r.pieces) (h1 : Rd 3 Passing.enc w C n l) (hf : r.Fit) :
    Calls Tryd.prog 36 #[.agg #[.slice A0 n0 c0, .slice A1 n1 c1, .slice A2 n2 c2], .slice C n c] w fun e w' => e = .returned (.bool (bo (PassOk r.length l))) ∧ Below w.heap.size w w' := by
  have m1 := h1.2.1
  have H0 := Lib.hid h0
  have H1 := Lib.hid h1
  have HF := Lib.hid hf
  clear h0 h1 hf
  go_enter Tryd.func36, Tryd.ntmps36
  go_wp2
  go_loopw [5] (fun v5 wr => ∃ k : Nat, k ≤ n ∧ v5 = .int .i64 k ∧ Hid (PassUp r.length l k) ∧ Hid (Blk wr w.heap.size 26 #[.slice A0 n0 c0, .slice A1 n1 c1, .slice A2 n2 c2]) ∧ Below w.heap.size w wr) (fun v5 _ => n - (intOf v5).toNat)
  case atStart => exact ⟨0, Nat.zero_le _, rfl, Lib.hid fun j hj => absurd hj (by omega), Lib.hid (Blk.new _ _ _), (by repeat (first | assumption | exact Below.refl _ _ | apply bel_alloc | apply bel_drew | apply bel_drewN | (refine bel_set ?_ (by first | assumption | omega | (simp; done) | (simp; omega)) _)))⟩
  case round =>
    obtain ⟨k, hk, rfl, HP, HK, HB⟩ := hrel
    by_cases hlt : k < n
    · obtain ⟨x, hx⟩ := H1.out.get hlt
      have HX := Lib.hid hx
      clear hx
      obtain ⟨ad, e, x0, x1, x2⟩ := (H1.out.below HB).atPassing HX.out
      cases e
      rcases hb1 : inB x.place 0 r.length
      · go_wp2; obtain ⟨W2, hW2⟩ : ∃ W2, wr.alloc (.cells #[.int .i64 x.place, .int .i64 x.earliest, .int .i64 x.latest] 89) = W2 := ⟨_, rfl⟩; have hB2 : Below wr.heap.size wr W2 := (by rw [← hW2]; exact (by repeat (first | assumption | exact Below.refl _ _ | apply bel_alloc | apply bel_drew | apply bel_drewN | (refine bel_set ?_ (by first | assumption | omega | (simp; done) | (simp; omega)) _)))); have CX : Blk W2 wr.heap.size 89 #[.int .i64 x.place, .int .i64 x.earliest, .int .i64 x.latest] := (by rw [← hW2]; exact Blk.new _ _ _); have CR := HK.out.below hB2; rw [hW2]; clear hW2; have k0 := cell_regrown (show W2.cell? ⟨w.heap.size, 0, none⟩ = some (.slice A0 n0 c0) from CR.cell 0); have k1 := cell_regrown (show W2.cell? ⟨w.heap.size, 1, none⟩ = some (.slice A1 n1 c1) from CR.cell 1); have k2 := cell_regrown (show W2.cell? ⟨w.heap.size, 2, none⟩ = some (.slice A2 n2 c2) from CR.cell 2); have u0 := cell_regrown (show W2.cell? ⟨wr.heap.size, 0, none⟩ = some (.int .i64 x.place) from CX.cell 0); have u1 := cell_regrown (show W2.cell? ⟨wr.heap.size, 1, none⟩ = some (.int .i64 x.earliest) from CX.cell 1); have u2 := cell_regrown (show W2.cell? ⟨wr.heap.size, 2, none⟩ = some (.int .i64 x.latest) from CX.cell 2); skip; clear CX CR; have HB2 := Lib.hid hB2; clear hB2; refine wp_region_quiet_below (by kernel_rfl) (by kernel_rfl) ?_; (repeat (go_big_quiet_step ((first | (go_at_call 23; exact Calls.regrown_of (ref3_Length r A0 A1 A2 n0 n1 n2 c0 c1 c2 _ (((H0.out.below HB).below HB2.out).below (below_regrown W2 _ _)) HF.out)) | (go_at_call 65; exact Calls.regrown_same (ref3_in _ _ _ _)))))); refine wpQuiet_nil ?_; intro _ hw'; obtain ⟨⟨dq, osq⟩, hw''⟩ := hw'; subst hw''; obtain ⟨W3, hW3⟩ : ∃ W3, Sort.grow (redrawn W2 dq) osq = W3 := ⟨_, rfl⟩; have HB3 : Hid (Below W2.heap.size W2 W3) := Lib.hid (by rw [← hW3]; exact below_regrown W2 _ _); rw [hW3]; clear hW3 k0 k1 k2 u0 u1 u2; (try clear z1); (try clear q1 q2 q3 q4 q5); go_wp2
        go_ret
        exact ⟨ret_bool (bo_false fun v => Passing.no1 HX.out hb1 (v.2 k (by have := H1.out.1; omega))).symm, bel_then (bel_then HB HB2.out) HB3.out⟩
      rcases ha : decide (x.earliest < 0)
      rotate_left
      · have hnf : Hid (¬x.Fine) := Lib.hid (fun hh => by rw [hh.1] at ha; cases ha)
        go_wp2; obtain ⟨W2, hW2⟩ : ∃ W2, wr.alloc (.cells #[.int .i64 x.place, .int .i64 x.earliest, .int .i64 x.latest] 89) = W2 := ⟨_, rfl⟩; have hB2 : Below wr.heap.size wr W2 := (by rw [← hW2]; exact (by repeat (first | assumption | exact Below.refl _ _ | apply bel_alloc | apply bel_drew | apply bel_drewN | (refine bel_set ?_ (by first | assumption | omega | (simp; done) | (simp; omega)) _)))); have CX : Blk W2 wr.heap.size 89 #[.int .i64 x.place, .int .i64 x.earliest, .int .i64 x.latest] := (by rw [← hW2]; exact Blk.new _ _ _); have CR := HK.out.below hB2; rw [hW2]; clear hW2; have k0 := cell_regrown (show W2.cell? ⟨w.heap.size, 0, none⟩ = some (.slice A0 n0 c0) from CR.cell 0); have k1 := cell_regrown (show W2.cell? ⟨w.heap.size, 1, none⟩ = some (.slice A1 n1 c1) from CR.cell 1); have k2 := cell_regrown (show W2.cell? ⟨w.heap.size, 2, none⟩ = some (.slice A2 n2 c2) from CR.cell 2); have u0 := cell_regrown (show W2.cell? ⟨wr.heap.size, 0, none⟩ = some (.int .i64 x.place) from CX.cell 0); have u1 := cell_regrown (show W2.cell? ⟨wr.heap.size, 1, none⟩ = some (.int .i64 x.earliest) from CX.cell 1); have u2 := cell_regrown (show W2.cell? ⟨wr.heap.size, 2, none⟩ = some (.int .i64 x.latest) from CX.cell 2); skip; clear CX CR; have HB2 := Lib.hid hB2; clear hB2; refine wp_region_quiet_below (by kernel_rfl) (by kernel_rfl) ?_; (repeat (go_big_quiet_step ((first | (go_at_call 23; exact Calls.regrown_of (ref3_Length r A0 A1 A2 n0 n1 n2 c0 c1 c2 _ (((H0.out.below HB).below HB2.out).below (below_regrown W2 _ _)) HF.out)) | (go_at_call 65; exact Calls.regrown_same (ref3_in _ _ _ _)))))); refine wpQuiet_nil ?_; intro _ hw'; obtain ⟨⟨dq, osq⟩, hw''⟩ := hw'; subst hw''; obtain ⟨W3, hW3⟩ : ∃ W3, Sort.grow (redrawn W2 dq) osq = W3 := ⟨_, rfl⟩; have HB3 : Hid (Below W2.heap.size W2 W3) := Lib.hid (by rw [← hW3]; exact below_regrown W2 _ _); rw [hW3]; clear hW3 k0 k1 k2 u0 u1 u2; (try clear z1); (try clear q1 q2 q3 q4 q5); go_wp2
        go_ret
        exact ⟨ret_bool (bo_false fun v => Passing.no3 HX.out hnf.out (v.2 k (by have := H1.out.1; omega))).symm, bel_then (bel_then HB HB2.out) HB3.out⟩
      rcases hb : decide (x.latest < x.earliest)
      rotate_left
      · have hnf : Hid (¬x.Fine) := Lib.hid (fun hh => by rw [hh.2.1] at hb; cases hb)
        go_wp2; obtain ⟨W2, hW2⟩ : ∃ W2, wr.alloc (.cells #[.int .i64 x.place, .int .i64 x.earliest, .int .i64 x.latest] 89) = W2 := ⟨_, rfl⟩; have hB2 : Below wr.heap.size wr W2 := (by rw [← hW2]; exact (by repeat (first | assumption | exact Below.refl _ _ | apply bel_alloc | apply bel_drew | apply bel_drewN | (refine bel_set ?_ (by first | assumption | omega | (simp; done) | (simp; omega)) _)))); have CX : Blk W2 wr.heap.size 89 #[.int .i64 x.place, .int .i64 x.earliest, .int .i64 x.latest] := (by rw [← hW2]; exact Blk.new _ _ _); have CR := HK.out.below hB2; rw [hW2]; clear hW2; have k0 := cell_regrown (show W2.cell? ⟨w.heap.size, 0, none⟩ = some (.slice A0 n0 c0) from CR.cell 0); have k1 := cell_regrown (show W2.cell? ⟨w.heap.size, 1, none⟩ = some (.slice A1 n1 c1) from CR.cell 1); have k2 := cell_regrown (show W2.cell? ⟨w.heap.size, 2, none⟩ = some (.slice A2 n2 c2) from CR.cell 2); have u0 := cell_regrown (show W2.cell? ⟨wr.heap.size, 0, none⟩ = some (.int .i64 x.place) from CX.cell 0); have u1 := cell_regrown (show W2.cell? ⟨wr.heap.size, 1, none⟩ = some (.int .i64 x.earliest) from CX.cell 1); have u2 := cell_regrown (show W2.cell? ⟨wr.heap.size, 2, none⟩ = some (.int .i64 x.latest) from CX.cell 2); skip; clear CX CR; have HB2 := Lib.hid hB2; clear hB2; refine wp_region_quiet_below (by kernel_rfl) (by kernel_rfl) ?_; (repeat (go_big_quiet_step ((first | (go_at_call 23; exact Calls.regrown_of (ref3_Length r A0 A1 A2 n0 n1 n2 c0 c1 c2 _ (((H0.out.below HB).below HB2.out).below (below_regrown W2 _ _)) HF.out)) | (go_at_call 65; exact Calls.regrown_same (ref3_in _ _ _ _)))))); refine wpQuiet_nil ?_; intro _ hw'; obtain ⟨⟨dq, osq⟩, hw''⟩ := hw'; subst hw''; obtain ⟨W3, hW3⟩ : ∃ W3, Sort.grow (redrawn W2 dq) osq = W3 := ⟨_, rfl⟩; have HB3 : Hid (Below W2.heap.size W2 W3) := Lib.hid (by rw [← hW3]; exact below_regrown W2 _ _); rw [hW3]; clear hW3 k0 k1 k2 u0 u1 u2; (try clear z1); (try clear q1 q2 q3 q4 q5); go_wp2
        go_ret
        exact ⟨ret_bool (bo_false fun v => Passing.no3 HX.out hnf.out (v.2 k (by have := H1.out.1; omega))).symm, bel_then (bel_then HB HB2.out) HB3.out⟩
      rcases hc : decide (1125899906842624 < x.latest)
      rotate_left
      · have hnf : Hid (¬x.Fine) := Lib.hid (fun hh => by rw [hh.2.2] at hc; cases hc)
        go_wp2; obtain ⟨W2, hW2⟩ : ∃ W2, wr.alloc (.cells #[.int .i64 x.place, .int .i64 x.earliest, .int .i64 x.latest] 89) = W2 := ⟨_, rfl⟩; have hB2 : Below wr.heap.size wr W2 := (by rw [← hW2]; exact (by repeat (first | assumption | exact Below.refl _ _ | apply bel_alloc | apply bel_drew | apply bel_drewN | (refine bel_set ?_ (by first | assumption | omega | (simp; done) | (simp; omega)) _)))); have CX : Blk W2 wr.heap.size 89 #[.int .i64 x.place, .int .i64 x.earliest, .int .i64 x.latest] := (by rw [← hW2]; exact Blk.new _ _ _); have CR := HK.out.below hB2; rw [hW2]; clear hW2; have k0 := cell_regrown (show W2.cell? ⟨w.heap.size, 0, none⟩ = some (.slice A0 n0 c0) from CR.cell 0); have k1 := cell_regrown (show W2.cell? ⟨w.heap.size, 1, none⟩ = some (.slice A1 n1 c1) from CR.cell 1); have k2 := cell_regrown (show W2.cell? ⟨w.heap.size, 2, none⟩ = some (.slice A2 n2 c2) from CR.cell 2); have u0 := cell_regrown (show W2.cell? ⟨wr.heap.size, 0, none⟩ = some (.int .i64 x.place) from CX.cell 0); have u1 := cell_regrown (show W2.cell? ⟨wr.heap.size, 1, none⟩ = some (.int .i64 x.earliest) from CX.cell 1); have u2 := cell_regrown (show W2.cell? ⟨wr.heap.size, 2, none⟩ = some (.int .i64 x.latest) from CX.cell 2); skip; clear CX CR; have HB2 := Lib.hid hB2; clear hB2; refine wp_region_quiet_below (by kernel_rfl) (by kernel_rfl) ?_; (repeat (go_big_quiet_step ((first | (go_at_call 23; exact Calls.regrown_of (ref3_Length r A0 A1 A2 n0 n1 n2 c0 c1 c2 _ (((H0.out.below HB).below HB2.out).below (below_regrown W2 _ _)) HF.out)) | (go_at_call 65; exact Calls.regrown_same (ref3_in _ _ _ _)))))); refine wpQuiet_nil ?_; intro _ hw'; obtain ⟨⟨dq, osq⟩, hw''⟩ := hw'; subst hw''; obtain ⟨W3, hW3⟩ : ∃ W3, Sort.grow (redrawn W2 dq) osq = W3 := ⟨_, rfl⟩; have HB3 : Hid (Below W2.heap.size W2 W3) := Lib.hid (by rw [← hW3]; exact below_regrown W2 _ _); rw [hW3]; clear hW3 k0 k1 k2 u0 u1 u2; (try clear z1); (try clear q1 q2 q3 q4 q5); go_wp2
        go_ret
        exact ⟨ret_bool (bo_false fun v => Passing.no3 HX.out hnf.out (v.2 k (by have := H1.out.1; omega))).symm, bel_then (bel_then HB HB2.out) HB3.out⟩
      have hyf : Hid x.Fine := Lib.hid ⟨ha, hb, hc⟩
      rcases Nat.eq_zero_or_pos k with hz | hz
      · have hd : decide (0 < k) = false := by rw [hz]; rfl
        have HZ := Lib.hid hz
        clear hz
        go_wp2; obtain ⟨W2, hW2⟩ : ∃ W2, wr.alloc (.cells #[.int .i64 x.place, .int .i64 x.earliest, .int .i64 x.latest] 89) = W2 := ⟨_, rfl⟩; have hB2 : Below wr.heap.size wr W2 := (by rw [← hW2]; exact (by repeat (first | assumption | exact Below.refl _ _ | apply bel_alloc | apply bel_drew | apply bel_drewN | (refine bel_set ?_ (by first | assumption | omega | (simp; done) | (simp; omega)) _)))); have CX : Blk W2 wr.heap.size 89 #[.int .i64 x.place, .int .i64 x.earliest, .int .i64 x.latest] := (by rw [← hW2]; exact Blk.new _ _ _); have CR := HK.out.below hB2; rw [hW2]; clear hW2; have k0 := cell_regrown (show W2.cell? ⟨w.heap.size, 0, none⟩ = some (.slice A0 n0 c0) from CR.cell 0); have k1 := cell_regrown (show W2.cell? ⟨w.heap.size, 1, none⟩ = some (.slice A1 n1 c1) from CR.cell 1); have k2 := cell_regrown (show W2.cell? ⟨w.heap.size, 2, none⟩ = some (.slice A2 n2 c2) from CR.cell 2); have u0 := cell_regrown (show W2.cell? ⟨wr.heap.size, 0, none⟩ = some (.int .i64 x.place) from CX.cell 0); have u1 := cell_regrown (show W2.cell? ⟨wr.heap.size, 1, none⟩ = some (.int .i64 x.earliest) from CX.cell 1); have u2 := cell_regrown (show W2.cell? ⟨wr.heap.size, 2, none⟩ = some (.int .i64 x.latest) from CX.cell 2); skip; clear CX CR; have HB2 := Lib.hid hB2; clear hB2; refine wp_region_quiet_below (by kernel_rfl) (by kernel_rfl) ?_; (repeat (go_big_quiet_step ((first | (go_at_call 23; exact Calls.regrown_of (ref3_Length r A0 A1 A2 n0 n1 n2 c0 c1 c2 _ (((H0.out.below HB).below HB2.out).below (below_regrown W2 _ _)) HF.out)) | (go_at_call 65; exact Calls.regrown_same (ref3_in _ _ _ _)))))); refine wpQuiet_nil ?_; intro _ hw'; obtain ⟨⟨dq, osq⟩, hw''⟩ := hw'; subst hw''; obtain ⟨W3, hW3⟩ : ∃ W3, Sort.grow (redrawn W2 dq) osq = W3 := ⟨_, rfl⟩; have HB3 : Hid (Below W2.heap.size W2 W3) := Lib.hid (by rw [← hW3]; exact below_regrown W2 _ _); rw [hW3]; clear hW3 k0 k1 k2 u0 u1 u2; (try clear z1); (try clear q1 q2 q3 q4 q5); go_wp2
        go_roundw
        case rel => exact ⟨k + 1, by omega, by go_num, Lib.hid (HP.out.succ (Passing.yes HX.out hb1 (.inl HZ.out) hyf.out)), Lib.hid ((HK.out.below HB2.out).below HB3.out), bel_then (bel_then HB HB2.out) HB3.out⟩
        case measure => simp [intOf]; omega
      · obtain ⟨y, hy⟩ := H1.out.get (i := k - 1) (by omega)
        have HY := Lib.hid hy
        clear hy
        obtain ⟨ad', e, y0, y1, y2⟩ := (H1.out.below HB).atPassing HY.out
        cases e
        have yb := World.block_lt_of_cell? _ _ y0
        have q1 : IntKind.i64.wrap ((k : Int) - 1) = (k : Int) - 1 := IntWalk.i64_in _ (by omega)
        have q2 : (0 : Int) ≤ (k : Int) - 1 := by omega
        have q3 : (1 : Int) ≤ (k : Int) := by omega
        have q4 : ((k : Int) - 1).toNat = k - 1 := by omega
        have q5 : (k : Int) - 1 < (n : Int) := by omega
        rcases hb2 : decide (x.place ≤ y.place)
        rotate_left
        · go_wp2; obtain ⟨W2, hW2⟩ : ∃ W2, wr.alloc (.cells #[.int .i64 x.place, .int .i64 x.earliest, .int .i64 x.latest] 89) = W2 := ⟨_, rfl⟩; have hB2 : Below wr.heap.size wr W2 := (by rw [← hW2]; exact (by repeat (first | assumption | exact Below.refl _ _ | apply bel_alloc | apply bel_drew | apply bel_drewN | (refine bel_set ?_ (by first | assumption | omega | (simp; done) | (simp; omega)) _)))); have CX : Blk W2 wr.heap.size 89 #[.int .i64 x.place, .int .i64 x.earliest, .int .i64 x.latest] := (by rw [← hW2]; exact Blk.new _ _ _); have CR := HK.out.below hB2; rw [hW2]; clear hW2; have k0 := cell_regrown (show W2.cell? ⟨w.heap.size, 0, none⟩ = some (.slice A0 n0 c0) from CR.cell 0); have k1 := cell_regrown (show W2.cell? ⟨w.heap.size, 1, none⟩ = some (.slice A1 n1 c1) from CR.cell 1); have k2 := cell_regrown (show W2.cell? ⟨w.heap.size, 2, none⟩ = some (.slice A2 n2 c2) from CR.cell 2); have u0 := cell_regrown (show W2.cell? ⟨wr.heap.size, 0, none⟩ = some (.int .i64 x.place) from CX.cell 0); have u1 := cell_regrown (show W2.cell? ⟨wr.heap.size, 1, none⟩ = some (.int .i64 x.earliest) from CX.cell 1); have u2 := cell_regrown (show W2.cell? ⟨wr.heap.size, 2, none⟩ = some (.int .i64 x.latest) from CX.cell 2); have z1 := cell_regrown (bel_cell hB2 y0); clear CX CR; have HB2 := Lib.hid hB2; clear hB2; refine wp_region_quiet_below (by kernel_rfl) (by kernel_rfl) ?_; (repeat (go_big_quiet_step ((first | (go_at_call 23; exact Calls.regrown_of (ref3_Length r A0 A1 A2 n0 n1 n2 c0 c1 c2 _ (((H0.out.below HB).below HB2.out).below (below_regrown W2 _ _)) HF.out)) | (go_at_call 65; exact Calls.regrown_same (ref3_in _ _ _ _)))))); refine wpQuiet_nil ?_; intro _ hw'; obtain ⟨⟨dq, osq⟩, hw''⟩ := hw'; subst hw''; obtain ⟨W3, hW3⟩ : ∃ W3, Sort.grow (redrawn W2 dq) osq = W3 := ⟨_, rfl⟩; have HB3 : Hid (Below W2.heap.size W2 W3) := Lib.hid (by rw [← hW3]; exact below_regrown W2 _ _); rw [hW3]; clear hW3 k0 k1 k2 u0 u1 u2; (try clear z1); (try clear q1 q2 q3 q4 q5); go_wp2
          go_ret
          exact ⟨ret_bool (bo_false fun v => Passing.no2 HX.out hz HY.out hb2 (v.2 k (by have := H1.out.1; omega))).symm, bel_then (bel_then HB HB2.out) HB3.out⟩
        go_wp2; obtain ⟨W2, hW2⟩ : ∃ W2, wr.alloc (.cells #[.int .i64 x.place, .int .i64 x.earliest, .int .i64 x.latest] 89) = W2 := ⟨_, rfl⟩; have hB2 : Below wr.heap.size wr W2 := (by rw [← hW2]; exact (by repeat (first | assumption | exact Below.refl _ _ | apply bel_alloc | apply bel_drew | apply bel_drewN | (refine bel_set ?_ (by first | assumption | omega | (simp; done) | (simp; omega)) _)))); have CX : Blk W2 wr.heap.size 89 #[.int .i64 x.place, .int .i64 x.earliest, .int .i64 x.latest] := (by rw [← hW2]; exact Blk.new _ _ _); have CR := HK.out.below hB2; rw [hW2]; clear hW2; have k0 := cell_regrown (show W2.cell? ⟨w.heap.size, 0, none⟩ = some (.slice A0 n0 c0) from CR.cell 0); have k1 := cell_regrown (show W2.cell? ⟨w.heap.size, 1, none⟩ = some (.slice A1 n1 c1) from CR.cell 1); have k2 := cell_regrown (show W2.cell? ⟨w.heap.size, 2, none⟩ = some (.slice A2 n2 c2) from CR.cell 2); have u0 := cell_regrown (show W2.cell? ⟨wr.heap.size, 0, none⟩ = some (.int .i64 x.place) from CX.cell 0); have u1 := cell_regrown (show W2.cell? ⟨wr.heap.size, 1, none⟩ = some (.int .i64 x.earliest) from CX.cell 1); have u2 := cell_regrown (show W2.cell? ⟨wr.heap.size, 2, none⟩ = some (.int .i64 x.latest) from CX.cell 2); have z1 := cell_regrown (bel_cell hB2 y0); clear CX CR; have HB2 := Lib.hid hB2; clear hB2; refine wp_region_quiet_below (by kernel_rfl) (by kernel_rfl) ?_; (repeat (go_big_quiet_step ((first | (go_at_call 23; exact Calls.regrown_of (ref3_Length r A0 A1 A2 n0 n1 n2 c0 c1 c2 _ (((H0.out.below HB).below HB2.out).below (below_regrown W2 _ _)) HF.out)) | (go_at_call 65; exact Calls.regrown_same (ref3_in _ _ _ _)))))); refine wpQuiet_nil ?_; intro _ hw'; obtain ⟨⟨dq, osq⟩, hw''⟩ := hw'; subst hw''; obtain ⟨W3, hW3⟩ : ∃ W3, Sort.grow (redrawn W2 dq) osq = W3 := ⟨_, rfl⟩; have HB3 : Hid (Below W2.heap.size W2 W3) := Lib.hid (by rw [← hW3]; exact below_regrown W2 _ _); rw [hW3]; clear hW3 k0 k1 k2 u0 u1 u2; (try clear z1); (try clear q1 q2 q3 q4 q5); go_wp2
        go_roundw
        case rel => exact ⟨k + 1, by omega, by go_num, Lib.hid (HP.out.succ (Passing.yes HX.out hb1 (.inr ⟨y, HY.out, hb2⟩) hyf.out)), Lib.hid ((HK.out.below HB2.out).below HB3.out), bel_then (bel_then HB HB2.out) HB3.out⟩
        case measure => simp [intOf]; omega
    · obtain rfl : n = k := by omega
      go_wp2
      go_ret
      refine ⟨ret_bool ?_, HB⟩
      rw [Bool.eq_iff_iff, bo_iff]
      have e1 := H1.out.1
      have e2 : PassUp r.length l l.length := by rw [e1]; exact HP.out
      go_light
      simp only [decide_eq_true_eq]
      exact ⟨fun hh => ⟨by omega, e2⟩, fun hh => by have := hh.1; omega⟩
end Go.Proofs.YtinglbcafcjhfaaDoor

namespace Go.Proofs.YtinglbcafcjhfaaDoor
open Go.RowKit
set_option linter.unusedVariables false
set_option linter.unusedSimpArgs false

def Passing.val (x : Passing) : Value := .agg #[.int .i64 x.place, .int .i64 x.earliest, .int .i64 x.latest]
set_option maxRecDepth 100000 in
set_option maxHeartbeats 400000 in
theorem index_pass (K : FuncId) (cap : Value) (q : Passing → Bool) (xs : List Passing) (A : Option Addr) (n c : Nat) (w : World) (h : Rd 3 Passing.enc w A n xs)
    (hcf : ∀ a W, Sem.run Tryd.prog (callFunc K a) W = .ok (.enter K a) W)
    (hq : ∀ x W, x ∈ xs → Below w.heap.size w W → Calls Tryd.prog K #[.agg #[.int .i64 x.place, .int .i64 x.earliest, .int .i64 x.latest], cap] W fun e w' => e = .returned (.bool (q x)) ∧ Below W.heap.size W w') :
    Calls Tryd.prog 109 #[.slice A n c, .func (.func K) #[] #[cap]] w fun e w' => e = .returned (.int .i64 (firstAt q xs)) ∧ Below w.heap.size w w' := by
  have hm := h.2.1
  have HQ := Lib.hid hq
  have H := Lib.hid h
  clear h hq
  go_enter Tryd.func109, Tryd.ntmps109
  go_wp2
  go_loopw [8] (fun v8 wr => ∃ k : Nat, k ≤ n ∧ v8 = .int .i64 k ∧ Hid (∀ j y, j < k → xs[j]? = some y → q y = false) ∧ Below w.heap.size w wr) (fun v _ => n - (intOf v).toNat)
  case atStart => exact ⟨0, Nat.zero_le _, rfl, fun j y hj => by omega, Below.refl _ _⟩
  case round =>
    obtain ⟨k, hk, rfl, HP, HB⟩ := hrel
    by_cases hlt : k < n
    · obtain ⟨x, hx⟩ := H.out.get hlt
      have HX := Lib.hid hx
      clear hx
      obtain ⟨ad, e, x0, x1, x2⟩ := (H.out.below HB).atPassing HX.out
      cases e
      rcases hqx : q x
      all_goals
        go_wp2_with ((with_reducible refine (HQ.out x _ (List.mem_of_getElem? HX.out) HB).mono ?_); rintro e w' ⟨rfl, hw'⟩; rw [hqx])
      · go_roundw
        case rel => exact ⟨k + 1, by omega, by go_num, fun j y hj hy => by
          rcases Nat.lt_or_ge j k with hl | hl
          · exact HP.out j y hl hy
          · obtain rfl : j = k := by omega
            rw [HX.out] at hy
            cases hy
            exact hqx, bel_then HB hw'⟩
        case measure => simp [intOf]; omega
      · go_ret
        exact ⟨ret_int (firstAt_some HX.out hqx HP.out).symm, bel_then HB hw'⟩
    · obtain rfl : n = k := by omega
      go_wp2
      go_ret
      exact ⟨ret_int (firstAt_none (fun j y hj hy => HP.out j y (by have := H.out.1; omega) hy)).symm, HB⟩
theorem contains_pass (K : FuncId) (cap : Value) (q : Passing → Bool) (xs : List Passing) (A : Option Addr) (n c : Nat) (w : World) (h : Rd 3 Passing.enc w A n xs)
    (hcf : ∀ a W, Sem.run Tryd.prog (callFunc K a) W = .ok (.enter K a) W)
    (hq : ∀ x W, x ∈ xs → Below w.heap.size w W → Calls Tryd.prog K #[.agg #[.int .i64 x.place, .int .i64 x.earliest, .int .i64 x.latest], cap] W fun e w' => e = .returned (.bool (q x)) ∧ Below W.heap.size W w') :
    Calls Tryd.prog 78 #[.slice A n c, .func (.func K) #[] #[cap]] w fun e w' => e = .returned (.bool (xs.any q)) ∧ Below w.heap.size w w' := by
  have HQ := Lib.hid hq
  have H := Lib.hid h
  have HC := Lib.hid hcf
  clear h hq hcf
  go_enter Tryd.func78, Tryd.ntmps78
  go_wp2_with (go_at_call 109; refine (index_pass K cap q xs _ _ _ _ H.out HC.out HQ.out).mono ?_; rintro e w' ⟨rfl, hw'⟩)
  go_ret
  refine ⟨ret_bool ?_, hw'⟩
  rw [Bool.eq_iff_iff, ← firstAt_ge]
  simp
theorem call_Fits1 : ∀ a W, Sem.run Tryd.prog (callFunc 79 a) W = .ok (.enter 79 a) W := fun _ _ => by kernel_rfl
/-- The time of a run at a place. -/
def runAt (run : List Int) (p : Int) : Int := run.getD p.toNat 0
set_option maxRecDepth 100000 in
theorem fits_holds {w : World} (b : Nat) (x : Passing) (run : List Int) (D : Option Addr) (m d : Nat) (h : Rd 1 intEnc w D m run) (hb : Blk w b 28 #[.slice D m d]) (h0 : 0 ≤ x.place) (h1 : x.place < m) :
    Calls Tryd.prog 79 #[.agg #[.int .i64 x.place, .int .i64 x.earliest, .int .i64 x.latest], .pointer (some ⟨b, 0, none⟩)] w fun e w' => e = .returned (.bool (!inB (runAt run x.place) x.earliest x.latest)) ∧ Below w.heap.size w w' := by
  obtain ⟨y, hy⟩ := h.get (i := x.place.toNat) (by omega)
  obtain ⟨ad, e, y0⟩ := h.at1 hy
  cases e
  have hv : runAt run x.place = y := by unfold runAt; rw [List.getD_eq_getElem?_getD, hy]; rfl
  rw [hv]
  have b0 := hb.cell 0
  have bl := hb.lt
  have yb := World.block_lt_of_cell? _ _ y0
  clear h hy hv hb
  go_enter Tryd.func79, Tryd.ntmps79
  go_wp2
  go_quiet ((go_at_call 62; exact quiet_eq (pace_within _ _ _ _)))
  go_wp2
  go_ret
  exact ⟨rfl, (by repeat (first | assumption | exact Below.refl _ _ | apply bel_alloc | apply bel_drew | apply bel_drewN | (refine bel_set ?_ (by first | assumption | omega | (simp; done) | (simp; omega)) _)))⟩
end Go.Proofs.YtinglbcafcjhfaaDoor
