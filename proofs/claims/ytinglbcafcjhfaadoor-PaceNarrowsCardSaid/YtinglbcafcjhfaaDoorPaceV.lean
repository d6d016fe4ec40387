/- Contracts of the methods of pace's track that only read: length, place, between. The contract of (*track).calls: which calls are as defined. The contracts of (*track).room, last[int] and the closure of Plan. -/
import Derived.Test.YtinglbcafcjhfaaDoorPaceD
namespace Go.Proofs.YtinglbcafcjhfaaDoor
open Go.RowKit
set_option linter.unusedVariables false
set_option linter.unusedSimpArgs false

theorem Rd.atTimes {w : World} {A : Option Addr} {n i : Nat} {xs : List (Int × Int)} (h : Rd 2 timesEnc w A n xs) {x : Int × Int} (hx : xs[i]? = some x) : ∃ ad, A = some ad ∧ w.cell? (ad.add (i * 2)) = some (.int .i64 x.1) ∧ w.cell? ⟨(ad.add (i * 2)).block, (ad.add (i * 2)).off + 1, none⟩ = some (.int .i64 x.2) := by
  obtain ⟨ad, e, hc⟩ := h.2.2 i x hx
  exact ⟨ad, e, hc 0 _ rfl, by rw [← add_field _ _ 1 (by omega)]; exact hc 1 _ rfl⟩

structure Call where
  (place lasts lead ahead value : Int)
def Call.enc (c : Call) : List Int := [c.place, c.lasts, c.lead, c.ahead, c.value]
theorem Call.enc_len (c : Call) : c.enc.length = 5 := rfl
theorem Rd.atCall {w : World} {A : Option Addr} {n i : Nat} {xs : List Call} (h : Rd 5 Call.enc w A n xs) {x : Call} (hx : xs[i]? = some x) : ∃ ad, A = some ad ∧ w.cell? (ad.add (i * 5)) = some (.int .i64 x.place) ∧ w.cell? ⟨(ad.add (i * 5)).block, (ad.add (i * 5)).off + 1, none⟩ = some (.int .i64 x.lasts) ∧ w.cell? ⟨(ad.add (i * 5)).block, (ad.add (i * 5)).off + 2, none⟩ = some (.int .i64 x.lead) ∧ w.cell? ⟨(ad.add (i * 5)).block, (ad.add (i * 5)).off + 3, none⟩ = some (.int .i64 x.ahead) ∧ w.cell? ⟨(ad.add (i * 5)).block, (ad.add (i * 5)).off + 4, none⟩ = some (.int .i64 x.value) := by
  obtain ⟨ad, e, hc⟩ := h.2.2 i x hx
  exact ⟨ad, e, hc 0 _ rfl, by rw [← add_field _ _ 1 (by omega)]; exact hc 1 _ rfl, by rw [← add_field _ _ 2 (by omega)]; exact hc 2 _ rfl, by rw [← add_field _ _ 3 (by omega)]; exact hc 3 _ rfl, by rw [← add_field _ _ 4 (by omega)]; exact hc 4 _ rfl⟩
def Call.Fine (c : Call) : Prop := inB c.lasts 0 1125899906842624 = true ∧ inB c.lead 0 1125899906842624 = true ∧ inB c.ahead 0 1125899906842624 = true ∧ inB c.value 0 100 = true
def Call.Ok (n : Int) (l : List Call) (i : Nat) : Prop := ∀ c, l[i]? = some c → inB c.place 0 n = true ∧ (∀ d, 0 < i → l[i - 1]? = some d → decide (c.place < d.place) = false) ∧ c.Fine
def CallsUp (n : Int) (l : List Call) (k : Nat) : Prop := ∀ j, j < k → Call.Ok n l j
def CallsOk (n : Int) (l : List Call) : Prop := l.length ≤ 300 ∧ CallsUp n l l.length
theorem CallsUp.succ {n : Int} {l : List Call} {k : Nat} (h : CallsUp n l k) (hk : Call.Ok n l k) : CallsUp n l (k + 1) := fun j hj => by
  rcases Nat.lt_or_ge j k with hl | hl
  · exact h j hl
  · obtain rfl : j = k := by omega
    exact hk
theorem Call.no1 {n : Int} {l : List Call} {k : Nat} {x : Call} (hx : l[k]? = some x) (h : inB x.place 0 n = false) : ¬Call.Ok n l k := fun hk => by rw [(hk x hx).1] at h; cases h
theorem Call.no2 {n : Int} {l : List Call} {k : Nat} {x y : Call} (hx : l[k]? = some x) (h0 : 0 < k) (hy : l[k - 1]? = some y) (h : decide (x.place < y.place) = true) : ¬Call.Ok n l k := fun hk => by rw [(hk x hx).2.1 y h0 hy] at h; cases h
theorem Call.no3 {n : Int} {l : List Call} {k : Nat} {x : Call} (hx : l[k]? = some x) (h : ¬x.Fine) : ¬Call.Ok n l k := fun hk => h (hk x hx).2.2
theorem Call.yes {n : Int} {l : List Call} {k : Nat} {x : Call} (hx : l[k]? = some x) (h1 : inB x.place 0 n = true) (h2 : k = 0 ∨ ∃ y, l[k - 1]? = some y ∧ decide (x.place < y.place) = false) (h3 : x.Fine) : Call.Ok n l k := fun c hc => by
  rw [hx] at hc
  cases hc
  refine ⟨h1, fun d hk hd => ?_, h3⟩
  rcases h2 with h2 | ⟨y, hy, h2⟩
  · omega
  · rw [hy] at hd
    cases hd
    exact h2

/-- Block g holds a track: the sums of the times up to each of the N + 1 places. -/
def IsTrack (w : World) (g : Nat) (sums : List (Int × Int)) (s0 s1 s2 : Value) (N : Nat) : Prop :=
  ∃ B cb, Blk w g 125 #[s0, s1, s2, .slice (some B) (N + 1) cb] ∧ Rd 2 timesEnc w (some B) (N + 1) sums ∧ N ≤ 1000000000 ∧ ∀ (i : Nat) (x : Int × Int), sums[i]? = some x → 0 ≤ x.1 ∧ x.1 ≤ 10000000000000 ∧ 0 ≤ x.2 ∧ x.2 ≤ 10000000000000
section
variable {w w1 : World} {g N : Nat} {sums : List (Int × Int)} {s0 s1 s2 : Value}
theorem IsTrack.below (h : IsTrack w g sums s0 s1 s2 N) (hb : Below w.heap.size w w1) : IsTrack w1 g sums s0 s1 s2 N := by
  obtain ⟨B, cb, h1, h2, h3⟩ := h
  exact ⟨B, cb, h1.below hb, h2.below hb, h3⟩
theorem IsTrack.drewN (h : IsTrack w g sums s0 s1 s2 N) (n : Nat) : IsTrack (w.drewN n) g sums s0 s1 s2 N := h
theorem IsTrack.get (h : IsTrack w g sums s0 s1 s2 N) {i : Nat} (hi : i ≤ N) : ∃ x, sums[i]? = some x := by
  obtain ⟨B, cb, h1, h2, h3⟩ := h
  exact h2.get (by omega)

theorem track_length (h : IsTrack w g sums s0 s1 s2 N) : Calls Tryd.prog 104 #[.pointer (some ⟨g, 0, none⟩)] w fun e w' => e = .returned (.int .i64 N) ∧ w = w' := by
  obtain ⟨B, cb, h1, h2, h3, h4⟩ := h
  have k3 := h1.cell 3
  clear h1 h2 h4
  go_enter Tryd.func104, Tryd.ntmps104
  go_wp2
  go_ret
  exact ⟨by simp, rfl⟩
theorem track_place (p : Int) (h : IsTrack w g sums s0 s1 s2 N) : Calls Tryd.prog 59 #[.pointer (some ⟨g, 0, none⟩), .int .i64 p] w fun e w' => e = .returned (.bool (inB p 0 N)) ∧ w = w' := by
  have H := Lib.hid h
  clear h
  go_enter Tryd.func59, Tryd.ntmps59
  go_wp2_with (first | (go_at_call 104; refine (track_length H.out).mono ?_; rintro e w' ⟨rfl, rfl⟩) | (go_at_call 62; refine (pace_within _ _ _ _).mono ?_; rintro e w' ⟨rfl, rfl⟩))
  go_ret
  exact ⟨rfl, rfl⟩
set_option maxRecDepth 100000 in
theorem track_least (a b : Int) (ha : 0 ≤ a) (hb : 0 ≤ b) (ha1 : a ≤ N) (hb1 : b ≤ N) (x y : Int × Int) (hx : sums[a.toNat]? = some x) (hy : sums[b.toNat]? = some y) (h : IsTrack w g sums s0 s1 s2 N) :
    Calls Tryd.prog 60 #[.pointer (some ⟨g, 0, none⟩), .int .i64 0, .int .i64 a, .int .i64 b] w fun e w' => e = .returned (.int .i64 (y.1 - x.1)) ∧ ∃ n, w' = w.drewN n := by
  obtain ⟨B, cb, h1, h2, h3, h4⟩ := h
  have k3 := h1.cell 3
  obtain ⟨ad, e, x0, x1⟩ := h2.atTimes hx
  obtain ⟨ad', e', y0, y1⟩ := h2.atTimes hy
  cases e
  cases e'
  obtain ⟨p1, p2, p3, p4⟩ := h4 _ _ hx
  obtain ⟨p5, p6, p7, p8⟩ := h4 _ _ hy
  have q1 : a < (N : Int) + 1 := by omega
  have q2 : b < (N : Int) + 1 := by omega
  clear h1 h2 h4 hx hy
  go_enter Tryd.func60, Tryd.ntmps60
  go_wp2
  go_quiet (fail)
  go_wp2
  go_ret
  exact ⟨rfl, _, rfl⟩
set_option maxRecDepth 100000 in
theorem track_most (a b : Int) (ha : 0 ≤ a) (hb : 0 ≤ b) (ha1 : a ≤ N) (hb1 : b ≤ N) (x y : Int × Int) (hx : sums[a.toNat]? = some x) (hy : sums[b.toNat]? = some y) (h : IsTrack w g sums s0 s1 s2 N) :
    Calls Tryd.prog 60 #[.pointer (some ⟨g, 0, none⟩), .int .i64 1, .int .i64 a, .int .i64 b] w fun e w' => e = .returned (.int .i64 (y.2 - x.2)) ∧ ∃ n, w' = w.drewN n := by
  obtain ⟨B, cb, h1, h2, h3, h4⟩ := h
  have k3 := h1.cell 3
  obtain ⟨ad, e, x0, x1⟩ := h2.atTimes hx
  obtain ⟨ad', e', y0, y1⟩ := h2.atTimes hy
  cases e
  cases e'
  obtain ⟨p1, p2, p3, p4⟩ := h4 _ _ hx
  obtain ⟨p5, p6, p7, p8⟩ := h4 _ _ hy
  have q1 : a < (N : Int) + 1 := by omega
  have q2 : b < (N : Int) + 1 := by omega
  clear h1 h2 h4 hx hy
  go_enter Tryd.func60, Tryd.ntmps60
  go_wp2
  go_quiet (fail)
  go_wp2
  go_ret
  exact ⟨rfl, _, rfl⟩
end
end Go.Proofs.YtinglbcafcjhfaaDoor

namespace Go.Proofs.YtinglbcafcjhfaaDoor
open Go.RowKit
set_option linter.unusedVariables false
set_option linter.unusedSimpArgs false
set_option maxRecDepth 100000 in
set_option maxHeartbeats 4000000 in
theorem track_calls {w : World} {g N : Nat} {sums : List (Int × Int)} {s0 s1 s2 : Value} (l : List Call) (A : Option Addr) (n c : Nat) (h : IsTrack w g sums s0 s1 s2 N) (h1 : Rd 5 Call.enc w A n l) :
    Calls Tryd.prog 71 #[.pointer (some ⟨g, 0, none⟩), .slice A n c] w fun e w' => e = .returned (.bool (bo (CallsOk N l))) ∧ Below w.heap.size w w' := by
  have m1 := h1.2.1
  have HT := Lib.hid h
  have H1 := Lib.hid h1
  clear h h1
  go_enter Tryd.func71, Tryd.ntmps71
  go_wp2
  go_loopw [9] (fun v9 wr => ∃ k : Nat, k ≤ n ∧ v9 = .int .i64 k ∧ Hid (CallsUp N l k) ∧ Below w.heap.size w wr) (fun v9 _ => n - (intOf v9).toNat)
  case atStart => exact ⟨0, Nat.zero_le _, rfl, Lib.hid fun j hj => absurd hj (by omega), Below.refl _ _⟩
  case round =>
    obtain ⟨k, hk, rfl, HP, HB⟩ := hrel
    by_cases hlt : k < n
    · obtain ⟨x, hx⟩ := H1.out.get hlt
      have HX := Lib.hid hx
      clear hx
      obtain ⟨ad, e, x0, x1, x2, x3, x4⟩ := (H1.out.below HB).atCall HX.out
      cases e
      rcases hb1 : inB x.place 0 N
      · go_wp2; go_quiet ((first | (go_at_call 59; exact quiet_eq (track_place _ (IsTrack.drewN (HT.out.below (by repeat (first | assumption | exact Below.refl _ _ | apply bel_alloc | apply bel_drew | apply bel_drewN | (refine bel_set ?_ (by first | assumption | omega | (simp; done) | (simp; omega)) _)))) _))) | (go_at_call 62; exact quiet_eq (pace_within _ _ _ _)))); (try clear q1 q2 q3 q4 q5); go_wp2
        go_ret
        exact ⟨ret_bool (bo_false fun v => Call.no1 HX.out hb1 (v.2 k (by have := H1.out.1; omega))).symm, (by repeat (first | assumption | exact Below.refl _ _ | apply bel_alloc | apply bel_drew | apply bel_drewN | (refine bel_set ?_ (by first | assumption | omega | (simp; done) | (simp; omega)) _)))⟩
      rcases Nat.eq_zero_or_pos k with hz | hz
      · have hd : decide (0 < k) = false := by rw [hz]; rfl
        have HZ := Lib.hid hz
        clear hz
        rcases hf0 : inB x.lasts 0 1125899906842624
        · have hnf : Hid (¬x.Fine) := Lib.hid fun hh => by rw [hh.1] at hf0; cases hf0
          go_wp2; go_quiet ((first | (go_at_call 59; exact quiet_eq (track_place _ (IsTrack.drewN (HT.out.below (by repeat (first | assumption | exact Below.refl _ _ | apply bel_alloc | apply bel_drew | apply bel_drewN | (refine bel_set ?_ (by first | assumption | omega | (simp; done) | (simp; omega)) _)))) _))) | (go_at_call 62; exact quiet_eq (pace_within _ _ _ _)))); (try clear q1 q2 q3 q4 q5); go_wp2
          go_ret
          exact ⟨ret_bool (bo_false fun v => Call.no3 HX.out hnf.out (v.2 k (by have := H1.out.1; omega))).symm, (by repeat (first | assumption | exact Below.refl _ _ | apply bel_alloc | apply bel_drew | apply bel_drewN | (refine bel_set ?_ (by first | assumption | omega | (simp; done) | (simp; omega)) _)))⟩
        rcases hf1 : inB x.lead 0 1125899906842624
        · have hnf : Hid (¬x.Fine) := Lib.hid fun hh => by rw [hh.2.1] at hf1; cases hf1
          go_wp2; go_quiet ((first | (go_at_call 59; exact quiet_eq (track_place _ (IsTrack.drewN (HT.out.below (by repeat (first | assumption | exact Below.refl _ _ | apply bel_alloc | apply bel_drew | apply bel_drewN | (refine bel_set ?_ (by first | assumption | omega | (simp; done) | (simp; omega)) _)))) _))) | (go_at_call 62; exact quiet_eq (pace_within _ _ _ _)))); (try clear q1 q2 q3 q4 q5); go_wp2
          go_ret
          exact ⟨ret_bool (bo_false fun v => Call.no3 HX.out hnf.out (v.2 k (by have := H1.out.1; omega))).symm, (by repeat (first | assumption | exact Below.refl _ _ | apply bel_alloc | apply bel_drew | apply bel_drewN | (refine bel_set ?_ (by first | assumption | omega | (simp; done) | (simp; omega)) _)))⟩
        rcases hf2 : inB x.ahead 0 1125899906842624
        · have hnf : Hid (¬x.Fine) := Lib.hid fun hh => by rw [hh.2.2.1] at hf2; cases hf2
          go_wp2; go_quiet ((first | (go_at_call 59; exact quiet_eq (track_place _ (IsTrack.drewN (HT.out.below (by repeat (first | assumption | exact Below.refl _ _ | apply bel_alloc | apply bel_drew | apply bel_drewN | (refine bel_set ?_ (by first | assumption | omega | (simp; done) | (simp; omega)) _)))) _))) | (go_at_call 62; exact quiet_eq (pace_within _ _ _ _)))); (try clear q1 q2 q3 q4 q5); go_wp2
          go_ret
          exact ⟨ret_bool (bo_false fun v => Call.no3 HX.out hnf.out (v.2 k (by have := H1.out.1; omega))).symm, (by repeat (first | assumption | exact Below.refl _ _ | apply bel_alloc | apply bel_drew | apply bel_drewN | (refine bel_set ?_ (by first | assumption | omega | (simp; done) | (simp; omega)) _)))⟩
        rcases hf3 : inB x.value 0 100
        · have hnf : Hid (¬x.Fine) := Lib.hid fun hh => by rw [hh.2.2.2] at hf3; cases hf3
          go_wp2; go_quiet ((first | (go_at_call 59; exact quiet_eq (track_place _ (IsTrack.drewN (HT.out.below (by repeat (first | assumption | exact Below.refl _ _ | apply bel_alloc | apply bel_drew | apply bel_drewN | (refine bel_set ?_ (by first | assumption | omega | (simp; done) | (simp; omega)) _)))) _))) | (go_at_call 62; exact quiet_eq (pace_within _ _ _ _)))); (try clear q1 q2 q3 q4 q5); go_wp2
          go_ret
          exact ⟨ret_bool (bo_false fun v => Call.no3 HX.out hnf.out (v.2 k (by have := H1.out.1; omega))).symm, (by repeat (first | assumption | exact Below.refl _ _ | apply bel_alloc | apply bel_drew | apply bel_drewN | (refine bel_set ?_ (by first | assumption | omega | (simp; done) | (simp; omega)) _)))⟩
        have hyf : Hid x.Fine := Lib.hid ⟨hf0, hf1, hf2, hf3⟩
        go_wp2; go_quiet ((first | (go_at_call 59; exact quiet_eq (track_place _ (IsTrack.drewN (HT.out.below (by repeat (first | assumption | exact Below.refl _ _ | apply bel_alloc | apply bel_drew | apply bel_drewN | (refine bel_set ?_ (by first | assumption | omega | (simp; done) | (simp; omega)) _)))) _))) | (go_at_call 62; exact quiet_eq (pace_within _ _ _ _)))); (try clear q1 q2 q3 q4 q5); go_wp2
        go_roundw
        case rel => exact ⟨k + 1, by omega, by go_num, HP.out.succ (Call.yes HX.out hb1 (.inl HZ.out) hyf.out), (by repeat (first | assumption | exact Below.refl _ _ | apply bel_alloc | apply bel_drew | apply bel_drewN | (refine bel_set ?_ (by first | assumption | omega | (simp; done) | (simp; omega)) _)))⟩
        case measure => simp [intOf]; omega
      · obtain ⟨y, hy⟩ := H1.out.get (i := k - 1) (by omega)
        have HY := Lib.hid hy
        clear hy
        obtain ⟨ad', e, y0, y1, y2, y3, y4⟩ := (H1.out.below HB).atCall HY.out
        cases e
        have yb := World.block_lt_of_cell? _ _ y0
        have q1 : IntKind.i64.wrap ((k : Int) - 1) = (k : Int) - 1 := IntWalk.i64_in _ (by omega)
        have q2 : (0 : Int) ≤ (k : Int) - 1 := by omega
        have q3 : (1 : Int) ≤ (k : Int) := by omega
        have q4 : ((k : Int) - 1).toNat = k - 1 := by omega
        have q5 : (k : Int) - 1 < (n : Int) := by omega
        rcases hb2 : decide (x.place < y.place)
        rotate_left
        · go_wp2; go_quiet ((first | (go_at_call 59; exact quiet_eq (track_place _ (IsTrack.drewN (HT.out.below (by repeat (first | assumption | exact Below.refl _ _ | apply bel_alloc | apply bel_drew | apply bel_drewN | (refine bel_set ?_ (by first | assumption | omega | (simp; done) | (simp; omega)) _)))) _))) | (go_at_call 62; exact quiet_eq (pace_within _ _ _ _)))); (try clear q1 q2 q3 q4 q5); go_wp2
          go_ret
          exact ⟨ret_bool (bo_false fun v => Call.no2 HX.out hz HY.out hb2 (v.2 k (by have := H1.out.1; omega))).symm, (by repeat (first | assumption | exact Below.refl _ _ | apply bel_alloc | apply bel_drew | apply bel_drewN | (refine bel_set ?_ (by first | assumption | omega | (simp; done) | (simp; omega)) _)))⟩
        rcases hf0 : inB x.lasts 0 1125899906842624
        · have hnf : Hid (¬x.Fine) := Lib.hid fun hh => by rw [hh.1] at hf0; cases hf0
          go_wp2; go_quiet ((first | (go_at_call 59; exact quiet_eq (track_place _ (IsTrack.drewN (HT.out.below (by repeat (first | assumption | exact Below.refl _ _ | apply bel_alloc | apply bel_drew | apply bel_drewN | (refine bel_set ?_ (by first | assumption | omega | (simp; done) | (simp; omega)) _)))) _))) | (go_at_call 62; exact quiet_eq (pace_within _ _ _ _)))); (try clear q1 q2 q3 q4 q5); go_wp2
          go_ret
          exact ⟨ret_bool (bo_false fun v => Call.no3 HX.out hnf.out (v.2 k (by have := H1.out.1; omega))).symm, (by repeat (first | assumption | exact Below.refl _ _ | apply bel_alloc | apply bel_drew | apply bel_drewN | (refine bel_set ?_ (by first | assumption | omega | (simp; done) | (simp; omega)) _)))⟩
        rcases hf1 : inB x.lead 0 1125899906842624
        · have hnf : Hid (¬x.Fine) := Lib.hid fun hh => by rw [hh.2.1] at hf1; cases hf1
          go_wp2; go_quiet ((first | (go_at_call 59; exact quiet_eq (track_place _ (IsTrack.drewN (HT.out.below (by repeat (first | assumption | exact Below.refl _ _ | apply bel_alloc | apply bel_drew | apply bel_drewN | (refine bel_set ?_ (by first | assumption | omega | (simp; done) | (simp; omega)) _)))) _))) | (go_at_call 62; exact quiet_eq (pace_within _ _ _ _)))); (try clear q1 q2 q3 q4 q5); go_wp2
          go_ret
          exact ⟨ret_bool (bo_false fun v => Call.no3 HX.out hnf.out (v.2 k (by have := H1.out.1; omega))).symm, (by repeat (first | assumption | exact Below.refl _ _ | apply bel_alloc | apply bel_drew | apply bel_drewN | (refine bel_set ?_ (by first | assumption | omega | (simp; done) | (simp; omega)) _)))⟩
        rcases hf2 : inB x.ahead 0 1125899906842624
        · have hnf : Hid (¬x.Fine) := Lib.hid fun hh => by rw [hh.2.2.1] at hf2; cases hf2
          go_wp2; go_quiet ((first | (go_at_call 59; exact quiet_eq (track_place _ (IsTrack.drewN (HT.out.below (by repeat (first | assumption | exact Below.refl _ _ | apply bel_alloc | apply bel_drew | apply bel_drewN | (refine bel_set ?_ (by first | assumption | omega | (simp; done) | (simp; omega)) _)))) _))) | (go_at_call 62; exact quiet_eq (pace_within _ _ _ _)))); (try clear q1 q2 q3 q4 q5); go_wp2
          go_ret
          exact ⟨ret_bool (bo_false fun v => Call.no3 HX.out hnf.out (v.2 k (by have := H1.out.1; omega))).symm, (by repeat (first | assumption | exact Below.refl _ _ | apply bel_alloc | apply bel_drew | apply bel_drewN | (refine bel_set ?_ (by first | assumption | omega | (simp; done) | (simp; omega)) _)))⟩
        rcases hf3 : inB x.value 0 100
        · have hnf : Hid (¬x.Fine) := Lib.hid fun hh => by rw [hh.2.2.2] at hf3; cases hf3
          go_wp2; go_quiet ((first | (go_at_call 59; exact quiet_eq (track_place _ (IsTrack.drewN (HT.out.below (by repeat (first | assumption | exact Below.refl _ _ | apply bel_alloc | apply bel_drew | apply bel_drewN | (refine bel_set ?_ (by first | assumption | omega | (simp; done) | (simp; omega)) _)))) _))) | (go_at_call 62; exact quiet_eq (pace_within _ _ _ _)))); (try clear q1 q2 q3 q4 q5); go_wp2
          go_ret
          exact ⟨ret_bool (bo_false fun v => Call.no3 HX.out hnf.out (v.2 k (by have := H1.out.1; omega))).symm, (by repeat (first | assumption | exact Below.refl _ _ | apply bel_alloc | apply bel_drew | apply bel_drewN | (refine bel_set ?_ (by first | assumption | omega | (simp; done) | (simp; omega)) _)))⟩
        have hyf : Hid x.Fine := Lib.hid ⟨hf0, hf1, hf2, hf3⟩
        go_wp2; go_quiet ((first | (go_at_call 59; exact quiet_eq (track_place _ (IsTrack.drewN (HT.out.below (by repeat (first | assumption | exact Below.refl _ _ | apply bel_alloc | apply bel_drew | apply bel_drewN | (refine bel_set ?_ (by first | assumption | omega | (simp; done) | (simp; omega)) _)))) _))) | (go_at_call 62; exact quiet_eq (pace_within _ _ _ _)))); (try clear q1 q2 q3 q4 q5); go_wp2
        go_roundw
        case rel => exact ⟨k + 1, by omega, by go_num, HP.out.succ (Call.yes HX.out hb1 (.inr ⟨y, HY.out, hb2⟩) hyf.out), (by repeat (first | assumption | exact Below.refl _ _ | apply bel_alloc | apply bel_drew | apply bel_drewN | (refine bel_set ?_ (by first | assumption | omega | (simp; done) | (simp; omega)) _)))⟩
        case measure => simp [intOf]; omega
    · obtain rfl : n = k := by omega
      go_wp2
      go_ret
      refine ⟨ret_bool ?_, HB⟩
      rw [Bool.eq_iff_iff, bo_iff]
      have e1 := H1.out.1
      have e2 : CallsUp N l l.length := by rw [e1]; exact HP.out
      go_light
      simp only [decide_eq_true_eq]
      exact ⟨fun hh => ⟨by omega, e2⟩, fun hh => by have := hh.1; omega⟩
end Go.Proofs.YtinglbcafcjhfaaDoor

namespace Go.Proofs.YtinglbcafcjhfaaDoor
open Go.RowKit
set_option linter.unusedVariables false
set_option linter.unusedSimpArgs false

/-- What k calls from the a-th on take; the least slack of their ends (at most the bound of times); the first that has none. -/
def rmS (l : List Call) (a : Nat) : Nat → Int
  | 0 => 0
  | k + 1 => match l[a + k]? with
    | some c => rmS l a k + c.lasts
    | none => rmS l a k
def slack (sums : List (Int × Int)) (l : List Call) (a k : Nat) (c : Call) : Int := (sums.getD c.place.toNat (0, 0)).1 - rmS l a (k + 1) - c.lead
def rmR (sums : List (Int × Int)) (l : List Call) (a : Nat) : Nat → Int
  | 0 => 1125899906842624
  | k + 1 => match l[a + k]? with
    | some c => min (rmR sums l a k) (slack sums l a k c)
    | none => rmR sums l a k
def rmL (sums : List (Int × Int)) (l : List Call) (a : Nat) : Nat → Int
  | 0 => -1
  | k + 1 => match l[a + k]? with
    | some c => if slack sums l a k c < 0 ∧ rmL sums l a k < 0 then ((a + k : Nat) : Int) else rmL sums l a k
    | none => rmL sums l a k
section
variable {sums : List (Int × Int)} {l : List Call} {a k : Nat} {c : Call} {N : Int}
theorem rmS_succ (h : l[a + k]? = some c) : rmS l a (k + 1) = rmS l a k + c.lasts := by simp [rmS, h]
theorem rmR_succ (h : l[a + k]? = some c) : rmR sums l a (k + 1) = min (rmR sums l a k) (slack sums l a k c) := by simp [rmR, h]
theorem rmL_succ (h : l[a + k]? = some c) : rmL sums l a (k + 1) = if slack sums l a k c < 0 ∧ rmL sums l a k < 0 then ((a + k : Nat) : Int) else rmL sums l a k := by simp [rmL, h]
theorem CallsOk.at_ (h : CallsOk N l) {i : Nat} (hc : l[i]? = some c) : 0 ≤ c.place ∧ c.place ≤ N ∧ 0 ≤ c.lasts ∧ c.lasts ≤ 1125899906842624 ∧ 0 ≤ c.lead ∧ c.lead ≤ 1125899906842624 ∧ 0 ≤ c.ahead ∧ c.ahead ≤ 1125899906842624 ∧ 0 ≤ c.value ∧ c.value ≤ 100 := by
  obtain ⟨h1, _, h3, h4, h5, h6⟩ := h.2 i (List.getElem?_eq_some_iff.1 hc).1 c hc
  rw [inB_iff] at *
  omega
theorem rmS_le (h : CallsOk N l) (a : Nat) : ∀ k, 0 ≤ rmS l a k ∧ rmS l a k ≤ 1125899906842624 * k
  | 0 => by simp [rmS]
  | k + 1 => by
    have ih := rmS_le h a k
    cases hc : l[a + k]? with
    | none => simp only [rmS, hc]; omega
    | some c =>
      rw [rmS_succ hc]
      have := h.at_ hc
      omega
end

set_option maxRecDepth 100000 in
set_option maxHeartbeats 2000000 in
theorem track_room {w : World} {g N : Nat} {sums : List (Int × Int)} {s0 s1 s2 : Value} (l : List Call) (A : Option Addr) (n c a : Nat) (h : IsTrack w g sums s0 s1 s2 N) (h1 : Rd 5 Call.enc w A n l) (ho : CallsOk N l) (ha : a ≤ n) :
    Calls Tryd.prog 72 #[.pointer (some ⟨g, 0, none⟩), .slice A n c, .int .i64 a] w fun e w' => e = .returned (.tuple #[.int .i64 (rmR sums l a (n - a)), .int .i64 (rmL sums l a (n - a))]) ∧ ∃ m, w' = w.drewN m := by
  have hn : n ≤ 300 := by have := ho.1; have := h1.1; omega
  have HT := Lib.hid h
  have H1 := Lib.hid h1
  have HO := Lib.hid ho
  clear h h1 ho
  go_enter Tryd.func72, Tryd.ntmps72
  go_wp2
  go_loopw [8, 9, 10, 11] (fun v8 v9 v10 v11 wr => ∃ k m : Nat, a + k ≤ n ∧ v11 = .int .i64 ((a + k : Nat) : Int) ∧ v10 = .int .i64 (rmS l a k) ∧ v8 = .int .i64 (rmR sums l a k) ∧ v9 = .int .i64 (rmL sums l a k) ∧ (-1000000000000000000000 ≤ rmR sums l a k ∧ rmR sums l a k ≤ 1125899906842624) ∧ wr = w.drewN m) (fun _ _ _ v11 _ => n - (intOf v11).toNat)
  case atStart => exact ⟨0, 0, by omega, by simp, rfl, rfl, rfl, by simp [rmR], rfl⟩
  case round =>
    obtain ⟨k, m, hk, rfl, rfl, rfl, rfl, hR, rfl⟩ := hrel
    by_cases hlt : a + k < n
    · obtain ⟨x, hx⟩ := H1.out.get hlt
      obtain ⟨p1, p2, p3, p4, p5, p6, _⟩ := HO.out.at_ hx
      obtain ⟨b1, b2⟩ := rmS_le HO.out a k
      have HX := Lib.hid hx
      obtain ⟨y, hy⟩ := HT.out.get (i := x.place.toNat) (by omega)
      obtain ⟨B, cb, t1, t2, t3, t4⟩ := HT.out
      obtain ⟨y1, y2, y3, y4⟩ := t4 _ _ hy
      obtain ⟨bd, e, z0, z1⟩ := t2.atTimes hy
      obtain ⟨ad, e', x0, x1, x2, x3, x4⟩ := H1.out.atCall HX.out
      cases e
      cases e'
      have k3 := t1.cell 3
      have q1 : x.place < (N : Int) + 1 := by omega
      have hsl : Hid (slack sums l a k x = y.1 - (rmS l a k + x.lasts) - x.lead) := Lib.hid (by unfold slack; rw [rmS_succ hx, List.getD_eq_getElem?_getD, hy]; rfl)
      have q2 : rmS l a k ≤ 1125899906842624 * 300 := by omega
      obtain ⟨sv, hsv⟩ : ∃ sv, rmS l a k = sv := ⟨_, rfl⟩
      obtain ⟨rv, hrv⟩ : ∃ rv, rmR sums l a k = rv := ⟨_, rfl⟩
      obtain ⟨lv, hlv⟩ : ∃ lv, rmL sums l a k = lv := ⟨_, rfl⟩
      rw [hsv] at b1 b2 q2 hsl
      rw [hrv] at hR
      have HSV := Lib.hid hsv
      have HRV := Lib.hid hrv
      have HLV := Lib.hid hlv
      rw [hsv, hrv, hlv]
      obtain ⟨hR1, hR2⟩ := hR
      clear hx hy t1 t2 t4 hsv hrv hlv b2
      go_wp2
      go_quiet (fail)
      go_wp2
      all_goals
        go_roundw
        case rel =>
          have e1 := rmR_succ (sums := sums) HX.out
          rw [hsl.out, HRV.out] at e1
          have e2 := rmL_succ (sums := sums) HX.out
          rw [hsl.out, HLV.out] at e2
          have e3 := rmS_succ HX.out
          rw [HSV.out] at e3
          go_light
          refine ⟨k + 1, m + nq, by omega, ?_, by rw [e3], ?_, ?_, ?_, by first | rfl | rw [World.drewN_drewN]⟩
          · congr 1
          · rw [e1]; congr 1; omega
          · rw [e2]; first | (rw [if_pos ⟨by assumption, by assumption⟩]; done) | (rw [if_neg (by omega)]; done) | (congr 1; rw [if_pos ⟨by omega, by omega⟩]; omega)
          · rw [e1]; omega
        case measure => simp [intOf]; omega
    · obtain rfl : n = a + k := by omega
      go_wp2
      go_ret2
      exact ⟨ret_int2 (by rw [show a + k - a = k by omega]) (by rw [show a + k - a = k by omega]), _, rfl⟩
/-- What a search by halves finds. -/
def LastIs (q : Int → Bool) (bound low : Int) : Prop := 0 ≤ low ∧ low ≤ bound ∧ (low = 0 ∨ q low = true) ∧ (low = bound ∨ q (low + 1) = false)
def LastPost (q : Int → Bool) (bound : Int) (w : World) (e : Ending) (w' : World) : Prop := ∃ low, LastIs q bound low ∧ e = .returned (.int .i64 low) ∧ ∃ m, w' = w.drewN m
set_option maxRecDepth 100000 in
set_option maxHeartbeats 2000000 in
theorem last_int (K : FuncId) (c0 c1 : Value) (bound : Int) (q : Int → Bool) (w : World) (hb0 : 0 ≤ bound) (hb1 : bound ≤ 1000000000)
    (hcf : ∀ a W, Sem.run Tryd.prog (callFunc K a) W = .ok (.enter K a) W)
    (hq : ∀ x m, 0 ≤ x → x ≤ bound → Calls Tryd.prog K #[.int .i64 x, c0, c1] (w.drewN m) fun e w' => e = .returned (.bool (q x)) ∧ ∃ n, w' = w.drewN n) :
    Calls Tryd.prog 73 #[.int .i64 bound, .func (.func K) #[] #[c0, c1]] w (LastPost q bound w) := by
  have HQ := Lib.hid hq
  clear hq
  go_enter Tryd.func73, Tryd.ntmps73
  go_wp2
  go_loopw [5, 6] (fun v5 v6 wr => ∃ (low high : Int) (m : Nat), v5 = .int .i64 low ∧ v6 = .int .i64 high ∧ (0 ≤ low ∧ low < high ∧ high ≤ bound + 1) ∧ Hid (low = 0 ∨ q low = true) ∧ Hid (high = bound + 1 ∨ q high = false) ∧ wr = w.drewN m) (fun v5 v6 _ => (intOf v6 - intOf v5).toNat)
  case atStart => exact ⟨0, bound + 1, 0, rfl, rfl, ⟨by omega, by omega, by omega⟩, .inl rfl, .inl rfl, rfl⟩
  case round =>
    obtain ⟨low, high, m, rfl, rfl, ⟨l1, l2, l3⟩, HL, HH, rfl⟩ := hrel
    by_cases hlt : 1 < high - low
    · have z1 : 0 ≤ (high - low) / 2 := by omega
      have z2 : low + (high - low) / 2 ≤ bound := by omega
      rcases hqx : q (low + (high - low) / 2)
      all_goals
        have HX := Lib.hid hqx
        clear hqx
        go_wp2_with ((with_reducible refine (HQ.out _ _ (by omega) (by omega)).mono ?_); rintro e w' ⟨rfl, m', rfl⟩; rw [HX.out])
        go_roundw
        case rel =>
          first
            | exact ⟨low, low + (high - low) / 2, m', rfl, rfl, ⟨by omega, by omega, by omega⟩, HL, .inr HX.out, rfl⟩
            | exact ⟨low + (high - low) / 2, high, m', rfl, rfl, ⟨by omega, by omega, by omega⟩, .inr HX.out, HH, rfl⟩
        case measure => simp [intOf]; omega
    · go_wp2
      go_ret
      refine ⟨low, ⟨l1, by omega, HL.out, ?_⟩, rfl, _, rfl⟩
      rcases HH.out with h | h
      · exact .inl (by omega)
      · exact .inr (by rw [show low + 1 = high by omega]; exact h)
theorem call_Plan1 : ∀ a W, Sem.run Tryd.prog (callFunc 74 a) W = .ok (.enter 74 a) W := fun _ _ => by kernel_rfl
/-- The least time up to a place. -/
def at1 (sums : List (Int × Int)) (p : Int) : Int := (sums.getD p.toNat (0, 0)).1
def at2 (sums : List (Int × Int)) (p : Int) : Int := (sums.getD p.toNat (0, 0)).2
theorem between_least {w : World} {g N : Nat} {sums : List (Int × Int)} {s0 s1 s2 : Value} (a b : Int) (ha : 0 ≤ a) (hb : 0 ≤ b) (ha1 : a ≤ N) (hb1 : b ≤ N) (h : IsTrack w g sums s0 s1 s2 N) :
    Calls Tryd.prog 60 #[.pointer (some ⟨g, 0, none⟩), .int .i64 0, .int .i64 a, .int .i64 b] w fun e w' => e = .returned (.int .i64 (at1 sums b - at1 sums a)) ∧ ∃ n, w' = w.drewN n := by
  obtain ⟨x, hx⟩ := h.get (i := a.toNat) (by omega)
  obtain ⟨y, hy⟩ := h.get (i := b.toNat) (by omega)
  have e1 : at1 sums a = x.1 := by unfold at1; rw [List.getD_eq_getElem?_getD, hx]; rfl
  have e2 : at1 sums b = y.1 := by unfold at1; rw [List.getD_eq_getElem?_getD, hy]; rfl
  rw [e1, e2]
  exact track_least a b ha hb ha1 hb1 x y hx hy h
theorem between_most {w : World} {g N : Nat} {sums : List (Int × Int)} {s0 s1 s2 : Value} (a b : Int) (ha : 0 ≤ a) (hb : 0 ≤ b) (ha1 : a ≤ N) (hb1 : b ≤ N) (h : IsTrack w g sums s0 s1 s2 N) :
    Calls Tryd.prog 60 #[.pointer (some ⟨g, 0, none⟩), .int .i64 1, .int .i64 a, .int .i64 b] w fun e w' => e = .returned (.int .i64 (at2 sums b - at2 sums a)) ∧ ∃ n, w' = w.drewN n := by
  obtain ⟨x, hx⟩ := h.get (i := a.toNat) (by omega)
  obtain ⟨y, hy⟩ := h.get (i := b.toNat) (by omega)
  have e1 : at2 sums a = x.2 := by unfold at2; rw [List.getD_eq_getElem?_getD, hx]; rfl
  have e2 : at2 sums b = y.2 := by unfold at2; rw [List.getD_eq_getElem?_getD, hy]; rfl
  rw [e1, e2]
  exact track_most a b ha hb ha1 hb1 x y hx hy h
set_option maxRecDepth 100000 in
theorem plan_holds {w : World} {g N : Nat} {sums : List (Int × Int)} {s0 s1 s2 : Value} (bt br : Nat) (rv p : Int) (h : IsTrack w g sums s0 s1 s2 N) (ht : Blk w bt 108 #[.pointer (some ⟨g, 0, none⟩)]) (hr : Blk w br 3 #[.int .i64 rv]) (h0 : 0 ≤ p) (hN : p ≤ N) (m : Nat) :
    Calls Tryd.prog 74 #[.int .i64 p, .pointer (some ⟨bt, 0, none⟩), .pointer (some ⟨br, 0, none⟩)] (w.drewN m) fun e w' => e = .returned (.bool (decide (at1 sums p ≤ rv))) ∧ ∃ n, w' = w.drewN n := by
  obtain ⟨y, hy⟩ := h.get (i := p.toNat) (by omega)
  obtain ⟨B, cb, t1, t2, t3, t4⟩ := h
  obtain ⟨bd, e, z0, z1⟩ := t2.atTimes hy
  cases e
  have k3 := t1.cell 3
  have b0 := ht.cell 0
  have b1 := hr.cell 0
  have q1 : p < (N : Int) + 1 := by omega
  have hv : at1 sums p = y.1 := by unfold at1; rw [List.getD_eq_getElem?_getD, hy]; rfl
  rw [hv]
  clear hy t1 t2 t4 ht hr hv
  go_enter Tryd.func74, Tryd.ntmps74
  go_wp2
  go_quiet (fail)
  go_wp2
  go_ret
  exact ⟨rfl, m + nq, by first | rfl | rw [World.drewN_drewN]⟩
end Go.Proofs.YtinglbcafcjhfaaDoor
