/- Reading aloud: what the times of the calls' ends are; the reference's Run and Said. -/
import Derived.Test.YtinglbcafcjhfaaDoorGoodA
import Derived.Test.YtinglbcafcjhfaaDoorFitB
import Derived.Lib.MinMax
namespace Go.Proofs.YtinglbcafcjhfaaDoor
open Go.RowKit
set_option linter.unusedVariables false
set_option linter.unusedSimpArgs false

/-- A list of times can be read by. -/
def RunOk (N : Int) (run : List Int) : Prop := (run.length : Int) = N + 1 ∧ TrigsUp 1125899906842624 run run.length
/-- When the k-th call ends. -/
def endAt (l : List Call) (ts run : List Int) : Nat → Int
  | 0 => 0
  | k + 1 => max (endAt l ts run k) (runAt run (ts.getD k 0)) + (match l[k]? with | some c => c.lasts | none => 0)
def ends (l : List Call) (ts run : List Int) (k : Nat) : List Int := (List.range k).map fun i => endAt l ts run (i + 1)
section
variable {N : Int} {l : List Call} {ts run : List Int} {k : Nat} {x : Call} {t y : Int}
theorem ends_len : (ends l ts run k).length = k := by simp [ends]
theorem ends_succ : ends l ts run (k + 1) = ends l ts run k ++ [endAt l ts run (k + 1)] := by simp [ends, List.range_succ]
theorem endAt_succ (hx : l[k]? = some x) (ht : ts[k]? = some t) (hy : run[t.toNat]? = some y) : endAt l ts run (k + 1) = max (endAt l ts run k) y + x.lasts := by
  have e1 : ts.getD k 0 = t := by rw [List.getD_eq_getElem?_getD, ht]; rfl
  have e2 : runAt run t = y := by unfold runAt; rw [List.getD_eq_getElem?_getD, hy]; rfl
  show max _ (runAt run (ts.getD k 0)) + _ = _
  rw [e1, e2, hx]
theorem RunOk.at_ (h : RunOk N run) {i : Nat} (hy : run[i]? = some y) : 0 ≤ y ∧ y ≤ 1125899906842624 := by
  have := (h.2 i (List.getElem?_eq_some_iff.1 hy).1 y hy).1
  rw [inB_iff] at this
  omega
theorem endAt_bound (h : RunOk N run) (ho : CallsOk N l) : ∀ k : Nat, 0 ≤ endAt l ts run k ∧ endAt l ts run k ≤ 1125899906842624 * (k + 1)
  | 0 => by simp [endAt]
  | k + 1 => by
    have ih := endAt_bound h ho k
    have h1 : 0 ≤ runAt run (ts.getD k 0) ∧ runAt run (ts.getD k 0) ≤ 1125899906842624 := by
      unfold runAt
      rw [List.getD_eq_getElem?_getD (l := run)]
      cases hy : run[(ts.getD k 0).toNat]? with
      | some y => exact h.at_ hy
      | none => simp
    have h2 : 0 ≤ (match l[k]? with | some c => c.lasts | none => 0) ∧ (match l[k]? with | some c => c.lasts | none => 0) ≤ 1125899906842624 := by
      cases hc : l[k]? with
      | some c => have := ho.at_ hc; exact ⟨by simp; omega, by simp; omega⟩
      | none => simp
    show 0 ≤ max _ _ + _ ∧ max _ _ + _ ≤ _
    omega
end
set_option maxRecDepth 100000 in
set_option maxHeartbeats 4000000 in
theorem ref3_Run (r : Road) (ts : List Int) (A0 A1 A2 B : Option Addr) (n0 n1 n2 c0 c1 c2 m d : Nat) (w : World) (h0 : Rd 5 Piece.enc w A0 n0 r.pieces) (h1 : Rd 1 intEnc w B m ts) (hv : r.Valid) :
    Calls Tryd.prog 43 #[.agg #[.slice A0 n0 c0, .slice A1 n1 c1, .slice A2 n2 c2], .slice B m d] w fun e w' => e = .returned (.bool (bo (RunOk r.length ts))) ∧ Below w.heap.size w w' := by
  have m1 := h1.2.1
  have hf := hv.fit
  have hr0 : 0 ≤ r.length := (hf.2 _ (Nat.le_refl _)).1
  have hr1 := hv.short
  have hwr : IntKind.i64.wrap (r.length + 1) = r.length + 1 := IntWalk.i64_in _ (by omega)
  have H0 := Lib.hid h0
  have H1 := Lib.hid h1
  have HF := Lib.hid hf
  clear h0 h1 hf hv
  by_cases hmn : (m : Int) = r.length + 1
  rotate_left
  · have hne : bo (RunOk r.length ts) = false := bo_false fun h => hmn (by have := h.1; have := H1.out.1; omega)
    have HNE := Lib.hid hne
    have hd : ((m : Int) != r.length + 1) = true := by simp only [bne_iff_ne, ne_eq]; exact hmn
    clear hne hmn
    go_enter Tryd.func43, Tryd.ntmps43
    go_wp2_with (go_at_call 23; go_must ((refine (ref3_Length r A0 A1 A2 n0 n1 n2 c0 c1 c2 _ (H0.out.below (by repeat (first | assumption | exact Below.refl _ _ | apply bel_alloc | apply bel_drew | apply bel_drewN | (refine bel_set ?_ (by first | assumption | omega | (simp; done) | (simp; omega)) _)))) HF.out).mono ?_; rintro e w1 ⟨rfl, hw1⟩)))
    go_ret
    exact ⟨ret_bool HNE.out.symm, bel_then (by repeat (first | assumption | exact Below.refl _ _ | apply bel_alloc | apply bel_drew | apply bel_drewN | (refine bel_set ?_ (by first | assumption | omega | (simp; done) | (simp; omega)) _))) hw1⟩
  have HMN := Lib.hid hmn
  have hd : ((m : Int) != r.length + 1) = false := by simp only [bne_eq_false_iff_eq]; exact hmn
  clear hmn
  go_enter Tryd.func43, Tryd.ntmps43
  go_wp2_with (go_at_call 23; go_must ((refine (ref3_Length r A0 A1 A2 n0 n1 n2 c0 c1 c2 _ (H0.out.below (by repeat (first | assumption | exact Below.refl _ _ | apply bel_alloc | apply bel_drew | apply bel_drewN | (refine bel_set ?_ (by first | assumption | omega | (simp; done) | (simp; omega)) _)))) HF.out).mono ?_; rintro e w1 ⟨rfl, hw1⟩; have HB1 : Hid (Below w.heap.size w w1) := Lib.hid (bel_then (by repeat (first | assumption | exact Below.refl _ _ | apply bel_alloc | apply bel_drew | apply bel_drewN | (refine bel_set ?_ (by first | assumption | omega | (simp; done) | (simp; omega)) _))) hw1); clear hw1)))
  clear hd hwr hr0 hr1
  go_loopw [5] (fun v5 wr => ∃ k q : Nat, k ≤ m ∧ v5 = .int .i64 k ∧ Hid (TrigsUp 1125899906842624 ts k) ∧ wr = w1.drewN q) (fun v5 _ => m - (intOf v5).toNat)
  case atStart => exact ⟨0, 0, Nat.zero_le _, rfl, Lib.hid fun j hj => absurd hj (by omega), rfl⟩
  case round =>
    obtain ⟨k, q, hk, rfl, HP, rfl⟩ := hrel
    by_cases hlt : k < m
    · obtain ⟨x, hx⟩ := H1.out.get hlt
      have HX := Lib.hid hx
      obtain ⟨ad, e, x0⟩ := (H1.out.below HB1.out).at1 hx
      cases e
      clear hx
      rcases hb1 : inB x 0 1125899906842624
      · go_wp2
        go_quiet ((go_at_call 65; exact (ref3_in _ _ _ _).mono (fun e w9 ⟨he, hm⟩ => ⟨he, _, hm.symm⟩)))
        go_wp2
        go_ret
        exact ⟨ret_bool (bo_false fun v => TrigOk.no1 HX.out hb1 (v.2 k (by have := H1.out.1; omega))).symm, by have := HB1.out; exact (by repeat (first | assumption | exact Below.refl _ _ | apply bel_alloc | apply bel_drew | apply bel_drewN | (refine bel_set ?_ (by first | assumption | omega | (simp; done) | (simp; omega)) _)))⟩
      rcases Nat.eq_zero_or_pos k with hz | hz
      · have hd : decide (0 < k) = false := by rw [hz]; rfl
        have HZ := Lib.hid hz
        clear hz
        go_wp2
        go_quiet ((go_at_call 65; exact (ref3_in _ _ _ _).mono (fun e w9 ⟨he, hm⟩ => ⟨he, _, hm.symm⟩)))
        go_wp2
        go_roundw
        case rel => exact ⟨k + 1, _, by omega, by go_num, Lib.hid (HP.out.succ (TrigOk.yes HX.out hb1 (.inl HZ.out))), by first | rfl | rw [World.drewN_drewN]⟩
        case measure => simp [intOf]; omega
      · obtain ⟨y, hy⟩ := H1.out.get (i := k - 1) (by omega)
        have HY := Lib.hid hy
        obtain ⟨ad', e, y0⟩ := (H1.out.below HB1.out).at1 hy
        cases e
        clear hy
        have q1 : IntKind.i64.wrap ((k : Int) - 1) = (k : Int) - 1 := IntWalk.i64_in _ (by omega)
        have q2 : (0 : Int) ≤ (k : Int) - 1 := by omega
        have q3 : (1 : Int) ≤ (k : Int) := by omega
        have q4 : ((k : Int) - 1).toNat = k - 1 := by omega
        have q5 : (k : Int) - 1 < (m : Int) := by omega
        rcases hb2 : decide (x < y)
        · go_wp2
          go_quiet ((go_at_call 65; exact (ref3_in _ _ _ _).mono (fun e w9 ⟨he, hm⟩ => ⟨he, _, hm.symm⟩)))
          go_wp2
          go_roundw
          case rel => exact ⟨k + 1, _, by omega, by go_num, Lib.hid (HP.out.succ (TrigOk.yes HX.out hb1 (.inr ⟨y, HY.out, hb2⟩))), by first | rfl | rw [World.drewN_drewN]⟩
          case measure => simp [intOf]; omega
        · go_wp2
          go_quiet ((go_at_call 65; exact (ref3_in _ _ _ _).mono (fun e w9 ⟨he, hm⟩ => ⟨he, _, hm.symm⟩)))
          go_wp2
          go_ret
          exact ⟨ret_bool (bo_false fun v => TrigOk.no2 HX.out hz HY.out hb2 (v.2 k (by have := H1.out.1; omega))).symm, by have := HB1.out; exact (by repeat (first | assumption | exact Below.refl _ _ | apply bel_alloc | apply bel_drew | apply bel_drewN | (refine bel_set ?_ (by first | assumption | omega | (simp; done) | (simp; omega)) _)))⟩
    · obtain rfl : m = k := by omega
      go_wp2
      go_ret
      refine ⟨ret_bool ?_, by have := HB1.out; exact (by repeat (first | assumption | exact Below.refl _ _ | apply bel_alloc | apply bel_drew | apply bel_drewN | (refine bel_set ?_ (by first | assumption | omega | (simp; done) | (simp; omega)) _)))⟩
      have e1 := H1.out.1
      have e2 : TrigsUp 1125899906842624 ts ts.length := by rw [e1]; exact HP.out
      exact (bo_true ⟨by have := HMN.out; omega, e2⟩).symm
set_option maxRecDepth 100000 in
set_option maxHeartbeats 4000000 in
theorem ref3_Said (l : List Call) (ts run : List Int) (N : Int) (C B D : Option Addr) (n c m d q e : Nat) (w : World) (hc : Rd 5 Call.enc w C n l) (h1 : Rd 1 intEnc w B m ts) (h2 : Rd 1 intEnc w D q run) (hl : CallsOk N l) (ht : TrigsOk N l.length ts) (hr : RunOk N run) :
    Calls Tryd.prog 44 #[.slice C n c, .slice B m d, .slice D q e] w fun e w' => ∃ A k, e = .returned (.slice A n k) ∧ Rd 1 intEnc w' A n (ends l ts run n) ∧ Below w.heap.size w w' := by
  have hn3 := hl.1
  obtain rfl : n = l.length := hc.1.symm
  obtain rfl : m = l.length := by have := h1.1; have := ht.1; omega
  obtain rfl : q = run.length := h2.1.symm
  have q2 := h2.2.1
  have HC := Lib.hid hc
  have H1 := Lib.hid h1
  have H2 := Lib.hid h2
  have HL := Lib.hid hl
  have HT := Lib.hid ht
  have HR := Lib.hid hr
  clear hc h1 h2 hl ht hr
  go_enter Tryd.func44, Tryd.ntmps44
  go_wp2
  go_loopw [7, 8, 9] (fun v7 v8 v9 wr => ∃ (k : Nat) (v : Value), k ≤ l.length ∧ v9 = .int .i64 k ∧ v8 = .int .i64 (endAt l ts run k) ∧ v7 = v ∧ Hid (Own 1 intEnc 3 wr w.heap.size v (ends l ts run k)) ∧ Hid (Below w.heap.size w wr)) (fun _ _ v9 _ => l.length - (intOf v9).toNat)
  case atStart => exact ⟨0, _, Nat.zero_le _, rfl, rfl, rfl, Lib.hid Own.nil, Lib.hid (Below.refl _ _)⟩
  case round =>
    obtain ⟨k, v, hk, rfl, rfl, rfl, HO, HB⟩ := hrel
    by_cases hlt : k < l.length
    · obtain ⟨x, hx⟩ := HC.out.get hlt
      obtain ⟨t, htt⟩ := H1.out.get hlt
      obtain ⟨t1, t2⟩ := HT.out.at_ htt
      have hq : t.toNat < run.length := by have := HR.out.1; omega
      obtain ⟨y, hy⟩ := H2.out.get hq
      obtain ⟨y1, y2⟩ := HR.out.at_ hy
      obtain ⟨px1, px2, px3, px4, _⟩ := HL.out.at_ hx
      obtain ⟨b1, b2⟩ := endAt_bound (ts := ts) HR.out HL.out k
      have HE := Lib.hid (endAt_succ hx htt hy)
      obtain ⟨ad, e, x0, x1, x2, x3, x4⟩ := (HC.out.below HB.out).atCall hx
      cases e
      obtain ⟨ad', e, t0⟩ := (H1.out.below HB.out).at1 htt
      cases e
      obtain ⟨ad'', e, y0⟩ := (H2.out.below HB.out).at1 hy
      cases e
      have hqi : t < (run.length : Int) := by omega
      obtain ⟨ev, hev⟩ : ∃ ev, endAt l ts run k = ev := ⟨_, rfl⟩
      have HEV := Lib.hid hev
      rw [hev] at b1 b2
      rw [hev]
      have b3 : ev ≤ 1125899906842624 * 301 := by omega
      clear hx htt hy hev px1 px2 b2 hq
      have hel : (ends l ts run k).length ≤ 300 := by rw [ends_len]; omega
      have CB := HB.out
      rcases Nat.eq_zero_or_pos k with hz | hz
      · have hd : decide (0 < k) = false := by rw [hz]; rfl
        have he0 : ev = 0 := by rw [← HEV.out, hz]; rfl
        have HN : Hid (endAt l ts run (k + 1) = y + x.lasts) := Lib.hid (by rw [HE.out, HEV.out, he0]; omega)
        clear he0 hz
        go_wp2_with (at_builtin; refine own_append (sz := 1) (enc := intEnc) intEnc_len rfl _ _ 28 (.int .i64 0) 8 rfl Tryd.underlying28 info_int rfl (by decide) (by decide) ((y + x.lasts)) #[.int .i64 ((y + x.lasts))] rfl (w0 := w) (xs := (ends l ts run k)) _ HO.out rfl _ rfl (by simp) (by repeat (first | assumption | exact Below.refl _ _ | apply bel_alloc | apply bel_drew | apply bel_drewN | (refine bel_set ?_ (by first | assumption | omega | (simp; done) | (simp; omega)) _))) (by omega) ?_; intro g1 cap w9 hown hb9 hg9; (have MO := Lib.hid hown; have MB := Lib.hid hb9; clear hown hb9 hg9))
        go_roundw
        case rel => exact ⟨k + 1, _, by omega, by go_num, by rw [HN.out], rfl, Lib.hid (by rw [ends_succ, HN.out]; exact MO.out), MB⟩
        case measure => simp [intOf]; omega
      · have hd : decide (0 < k) = true := by simp; omega
        have HN : Hid (endAt l ts run (k + 1) = max y ev + x.lasts) := Lib.hid (by rw [HE.out, HEV.out]; omega)
        rcases Int.le_total y ev with hye | hye
        · have hmx : max y ev = ev := by omega
          rw [hmx] at HN
          go_wp2_with (at_builtin; refine own_append (sz := 1) (enc := intEnc) intEnc_len rfl _ _ 28 (.int .i64 0) 8 rfl Tryd.underlying28 info_int rfl (by decide) (by decide) ((ev + x.lasts)) #[.int .i64 ((ev + x.lasts))] rfl (w0 := w) (xs := (ends l ts run k)) _ HO.out rfl _ rfl (by simp) (by repeat (first | assumption | exact Below.refl _ _ | apply bel_alloc | apply bel_drew | apply bel_drewN | (refine bel_set ?_ (by first | assumption | omega | (simp; done) | (simp; omega)) _))) (by omega) ?_; intro g1 cap w9 hown hb9 hg9; (have MO := Lib.hid hown; have MB := Lib.hid hb9; clear hown hb9 hg9))
          go_roundw
          case rel => exact ⟨k + 1, _, by omega, by go_num, by rw [HN.out], rfl, Lib.hid (by rw [ends_succ, HN.out]; exact MO.out), MB⟩
          case measure => simp [intOf]; omega
        · have hmx : max y ev = y := by omega
          rw [hmx] at HN
          go_wp2_with (at_builtin; refine own_append (sz := 1) (enc := intEnc) intEnc_len rfl _ _ 28 (.int .i64 0) 8 rfl Tryd.underlying28 info_int rfl (by decide) (by decide) ((y + x.lasts)) #[.int .i64 ((y + x.lasts))] rfl (w0 := w) (xs := (ends l ts run k)) _ HO.out rfl _ rfl (by simp) (by repeat (first | assumption | exact Below.refl _ _ | apply bel_alloc | apply bel_drew | apply bel_drewN | (refine bel_set ?_ (by first | assumption | omega | (simp; done) | (simp; omega)) _))) (by omega) ?_; intro g1 cap w9 hown hb9 hg9; (have MO := Lib.hid hown; have MB := Lib.hid hb9; clear hown hb9 hg9))
          go_roundw
          case rel => exact ⟨k + 1, _, by omega, by go_num, by rw [HN.out], rfl, Lib.hid (by rw [ends_succ, HN.out]; exact MO.out), MB⟩
          case measure => simp [intOf]; omega
    · obtain rfl : k = l.length := by omega
      go_wp2
      go_ret
      obtain ⟨A, cc, hu, hcc, hrd⟩ := HO.out.reads intEnc_len
      rw [ends_len] at hu hcc hrd
      exact ⟨A, cc, by rw [hu]; rfl, hrd, HB.out⟩
end Go.Proofs.YtinglbcafcjhfaaDoor
