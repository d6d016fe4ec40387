/- Reading aloud: what the times of the calls' ends are; the reference's Run and Said. The contract of pace.Said. -/
import Derived.Test.YtinglbcafcjhfaaDoorGoodB
import Derived.Test.YtinglbcafcjhfaaDoorFitB
import Derived.Lib.MinMax
import Derived.Test.YtinglbcafcjhfaaDoorPaceI
namespace Go.Proofs.YtinglbcafcjhfaaDoor
open Go.RowKit
set_option linter.unusedVariables false
set_option linter.unusedSimpArgs false

/-- A list of times can be read by. -/
def RunOk (N : Int) (run : List Int) : Prop := (run.length : Int) = N + 1 ∧ TrigsUp 1125899906842624 run run.length
/-- When the k-th call ends. -/
def endAt (l : List Call) (ts run : List Int) : Nat → Int
  | 0 => 0
  | k + 1 => max (endAt l ts run k) (runAt run (ts.getD k 0)) + (match l[k]? with | some c => c.lasts | none => 0)
def ends (l : List Call) (ts run : List Int) (k : Nat) : List Int := (List.range k).map fun i => endAt l ts run (i + 1)
section
variable {N : Int} {l : List Call} {ts run : List Int} {k : Nat} {x : Call} {t y : Int}
theorem ends_len : (ends l ts run k).length = k := by simp [ends]
theorem ends_succ : ends l ts run (k + 1) = ends l ts run k ++ [endAt l ts run (k + 1)] := by simp [ends, List.range_succ]
theorem endAt_succ (hx : l[k]? = some x) (ht : ts[k]? = some t) (hy : run[t.toNat]? = some y) : endAt l ts run (k + 1) = max (endAt l ts run k) y + x.lasts := by
  have e1 : ts.getD k 0 = t := by rw [List.getD_eq_getElem?_getD, ht]; rfl
  have e2 : runAt run t = y := by unfold runAt; rw [List.getD_eq_getElem?_getD, hy]; rfl
  show max _ (runAt run (ts.getD k 0)) + _ = _
  rw [e1, e2, hx]
theorem RunOk.at_ (h : RunOk N run) {i : Nat} (hy : run[i]? = some y) : 0 ≤ y ∧ y ≤ 1125899906842624 := by
  have := (h.2 i (List.getElem?_eq_some_iff.1 hy).1 y hy).1
  rw [inB_iff] at this
  omega
theorem endAt_bound (h : RunOk N run) (ho : CallsOk N l) : ∀ k : Nat, 0 ≤ endAt l ts run k ∧ endAt l ts run k ≤ 1125899906842624 * (k + 1)
  | 0 => by simp [endAt]
  | k + 1 => by
    have ih := endAt_bound h ho k
    have h1 : 0 ≤ runAt run (ts.getD k 0) ∧ runAt run (ts.getD k 0) ≤ 1125899906842624 := by
      unfold runAt
      rw [List.getD_eq_getElem?_getD (l := run)]
      cases hy : run[(ts.getD k 0).toNat]? with
      | some y => exact h.at_ hy
      | none => simp
    have h2 : 0 ≤ (match l[k]? with | some c => c.lasts | none => 0) ∧ (match l[k]? with | some c => c.lasts | none => 0) ≤ 1125899906842624 := by
      cases hc : l[k]? with
      | some c => have := ho.at_ hc; exact ⟨by simp; omega, by simp; omega⟩
      | none => simp
    show 0 ≤ max _ _ + _ ∧ max _ _ + _ ≤ _
    omega
end
set_option maxRecDepth 100000 in
set_option maxHeartbeats 4000000 in
theorem ref3_Run (r : Road) (ts : List Int) (A0 A1 A2 B : Option Addr) (n0 n1 n2 c0 c1 c2 m d : Nat) (w : World) (h0 : Rd 5 Piece.enc w A0 n0 r.pieces) (h1 : Rd 1 intEnc w B m ts) (hv : r.Valid) :
    Calls Tryd.prog 43 #[.agg #[.slice A0 n0 c0, .slice A1 n1 c1, .slice A2 n2 c2], .slice B m d] w fun e w' => e = .returned (.bool (bo (RunOk r.length ts))) ∧ Below w.heap.size w w' := by
  have m1 := h1.2.1
  have hf := hv.fit
  have hr0 : 0 ≤ r.length := (hf.2 _ (Nat.le_refl _)).1
  have hr1 := hv.short
  have hwr : IntKind.i64.wrap (r.length + 1) = r.length + 1 := IntWalk.i64_in _ (by omega)
  have H0 := Lib.hid h0
  have H1 := Lib.hid h1
  have HF := Lib.hid hf
  clear h0 h1 hf hv
  by_cases hmn : (m : Int) = r.length + 1
  rotate_left
  · have hne : bo (RunOk r.length ts) = false := bo_false fun h => hmn (by have := h.1; have := H1.out.1; omega)
    have HNE := Lib.hid hne
    have hd : ((m : Int) != r.length + 1) = true := by simp only [bne_iff_ne, ne_eq]; exact hmn
    clear hne hmn
    go_enter Tryd.func43, Tryd.ntmps43
    go_wp2_with (go_at_call 23; go_must ((refine (ref3_Length r A0 A1 A2 n0 n1 n2 c0 c1 c2 _ (H0.out.below (by repeat (first | assumption | exact Below.refl _ _ | apply bel_alloc | apply bel_drew | apply bel_drewN | (refine bel_set ?_ (by first | assumption | omega | (simp; done) | (simp; omega)) _)))) HF.out).mono ?_; rintro e w1 ⟨rfl, hw1⟩)))
    go_ret
    exact ⟨ret_bool HNE.out.symm, bel_then (by repeat (first | assumption | exact Below.refl _ _ | apply bel_alloc | apply bel_drew | apply bel_drewN | (refine bel_set ?_ (by first | assumption | omega | (simp; done) | (simp; omega)) _))) hw1⟩
  have HMN := Lib.hid hmn
  have hd : ((m : Int) != r.length + 1) = false := by simp only [bne_eq_false_iff_eq]; exact hmn
  clear hmn
  go_enter Tryd.func43, Tryd.ntmps43
  go_wp2_with (go_at_call 23; go_must ((refine (ref3_Length r A0 A1 A2 n0 n1 n2 c0 c1 c2 _ (H0.out.below (by repeat (first | assumption | exact Below.refl _ _ | apply bel_alloc | apply bel_drew | apply bel_drewN | (refine bel_set ?_ (by first | assumption | omega | (simp; done) | (simp; omega)) _)))) HF.out).mono ?_; rintro e w1 ⟨rfl, hw1⟩; have HB1 : Hid (Below w.heap.size w w1) := Lib.hid (bel_then (by repeat (first | assumption | exact Below.refl _ _ | apply bel_alloc | apply bel_drew | apply bel_drewN | (refine bel_set ?_ (by first | assumption | omega | (simp; done) | (simp; omega)) _))) hw1); clear hw1)))
  clear hd hwr hr0 hr1
  go_loopw [5] (fun v5 wr => ∃ k q : Nat, k ≤ m ∧ v5 = .int .i64 k ∧ Hid (TrigsUp 1125899906842624 ts k) ∧ wr = w1.drewN q) (fun v5 _ => m - (intOf v5).toNat)
  case atStart => exact ⟨0, 0, Nat.zero_le _, rfl, Lib.hid fun j hj => absurd hj (by omega), rfl⟩
  case round =>
    obtain ⟨k, q, hk, rfl, HP, rfl⟩ := hrel
    by_cases hlt : k < m
    · obtain ⟨x, hx⟩ := H1.out.get hlt
      have HX := Lib.hid hx
      obtain ⟨ad, e, x0⟩ := (H1.out.below HB1.out).at1 hx
      cases e
      clear hx
      rcases hb1 : inB x 0 1125899906842624
      · go_wp2
        go_quiet ((go_at_call 65; exact (ref3_in _ _ _ _).mono (fun e w9 ⟨he, hm⟩ => ⟨he, _, hm.symm⟩)))
        go_wp2
        go_ret
        exact ⟨ret_bool (bo_false fun v => TrigOk.no1 HX.out hb1 (v.2 k (by have := H1.out.1; omega))).symm, by have := HB1.out; exact (by repeat (first | assumption | exact Below.refl _ _ | apply bel_alloc | apply bel_drew | apply bel_drewN | (refine bel_set ?_ (by first | assumption | omega | (simp; done) | (simp; omega)) _)))⟩
      rcases Nat.eq_zero_or_pos k with hz | hz
      · have hd : decide (0 < k) = false := by rw [hz]; rfl
        have HZ := Lib.hid hz
        clear hz
        go_wp2
        go_quiet ((go_at_call 65; exact (ref3_in _ _ _ _).mono (fun e w9 ⟨he, hm⟩ => ⟨he, _, hm.symm⟩)))
        go_wp2
        go_roundw
        case rel => exact ⟨k + 1, _, by omega, by go_num, Lib.hid (HP.out.succ (TrigOk.yes HX.out hb1 (.inl HZ.out))), by first | rfl | rw [World.drewN_drewN]⟩
        case measure => simp [intOf]; omega
      · obtain ⟨y, hy⟩ := H1.out.get (i := k - 1) (by omega)
        have HY := Lib.hid hy
        obtain ⟨ad', e, y0⟩ := (H1.out.below HB1.out).at1 hy
        cases e
        clear hy
        have q1 : IntKind.i64.wrap ((k : Int) - 1) = (k : Int) - 1 := IntWalk.i64_in _ (by omega)
        have q2 : (0 : Int) ≤ (k : Int) - 1 := by omega
        have q3 : (1 : Int) ≤ (k : Int) := by omega
        have q4 : ((k : Int) - 1).toNat = k - 1 := by omega
        have q5 : (k : Int) - 1 < (m : Int) := by omega
        rcases hb2 : decide (x < y)
        · go_wp2
          go_quiet ((go_at_call 65; exact (ref3_in _ _ _ _).mono (fun e w9 ⟨he, hm⟩ => ⟨he, _, hm.symm⟩)))
          go_wp2
          go_roundw
          case rel => exact ⟨k + 1, _, by omega, by go_num, Lib.hid (HP.out.succ (TrigOk.yes HX.out hb1 (.inr ⟨y, HY.out, hb2⟩))), by first | rfl | rw [World.drewN_drewN]⟩
          case measure => simp [intOf]; omega
        · go_wp2
          go_quiet ((go_at_call 65; exact (ref3_in _ _ _ _).mono (fun e w9 ⟨he, hm⟩ => ⟨he, _, hm.symm⟩)))
          go_wp2
          go_ret
          exact ⟨ret_bool (bo_false fun v => TrigOk.no2 HX.out hz HY.out hb2 (v.2 k (by have := H1.out.1; omega))).symm, by have := HB1.out; exact (by repeat (first | assumption | exact Below.refl _ _ | apply bel_alloc | apply bel_drew | apply bel_drewN | (refine bel_set ?_ (by first | assumption | omega | (simp; done) | (simp; omega)) _)))⟩
    · obtain rfl : m = k := by omega
      go_wp2
      go_ret
      refine ⟨ret_bool ?_, by have := HB1.out; exact (by repeat (first | assumption | exact Below.refl _ _ | apply bel_alloc | apply bel_drew | apply bel_drewN | (refine bel_set ?_ (by first | assumption | omega | (simp; done) | (simp; omega)) _)))⟩
      have e1 := H1.out.1
      have e2 : TrigsUp 1125899906842624 ts ts.length := by rw [e1]; exact HP.out
      exact (bo_true ⟨by have := HMN.out; omega, e2⟩).symm
set_option maxRecDepth 100000 in
set_option maxHeartbeats 4000000 in
theorem ref3_Said (l : List Call) (ts run : List Int) (N : Int) (C B D : Option Addr) (n c m d q e : Nat) (w : World) (hc : Rd 5 Call.enc w C n l) (h1 : Rd 1 intEnc w B m ts) (h2 : Rd 1 intEnc w D q run) (hl : CallsOk N l) (ht : TrigsOk N l.length ts) (hr : RunOk N run) :
    Calls Tryd.prog 44 #[.slice C n c, .slice B m d, .slice D q e] w fun e w' => ∃ A k, e = .returned (.slice A n k) ∧ Rd 1 intEnc w' A n (ends l ts run n) ∧ Below w.heap.size w w' := by
  have hn3 := hl.1
  obtain rfl : n = l.length := hc.1.symm
  obtain rfl : m = l.length := by have := h1.1; have := ht.1; omega
  obtain rfl : q = run.length := h2.1.symm
  have q2 := h2.2.1
  have HC := Lib.hid hc
  have H1 := Lib.hid h1
  have H2 := Lib.hid h2
  have HL := Lib.hid hl
  have HT := Lib.hid ht
  have HR := Lib.hid hr
  clear hc h1 h2 hl ht hr
  go_enter Tryd.func44, Tryd.ntmps44
  go_wp2
  go_loopw [7, 8, 9] (fun v7 v8 v9 wr => ∃ (k : Nat) (v : Value), k ≤ l.length ∧ v9 = .int .i64 k ∧ v8 = .int .i64 (endAt l ts run k) ∧ v7 = v ∧ Hid (Own 1 intEnc 3 wr w.heap.size v (ends l ts run k)) ∧ Hid (Below w.heap.size w wr)) (fun _ _ v9 _ => l.length - (intOf v9).toNat)
  case atStart => exact ⟨0, _, Nat.zero_le _, rfl, rfl, rfl, Lib.hid Own.nil, Lib.hid (Below.refl _ _)⟩
  case round =>
    obtain ⟨k, v, hk, rfl, rfl, rfl, HO, HB⟩ := hrel
    by_cases hlt : k < l.length
    · obtain ⟨x, hx⟩ := HC.out.get hlt
      obtain ⟨t, htt⟩ := H1.out.get hlt
      obtain ⟨t1, t2⟩ := HT.out.at_ htt
      have hq : t.toNat < run.length := by have := HR.out.1; omega
      obtain ⟨y, hy⟩ := H2.out.get hq
      obtain ⟨y1, y2⟩ := HR.out.at_ hy
      obtain ⟨px1, px2, px3, px4, _⟩ := HL.out.at_ hx
      obtain ⟨b1, b2⟩ := endAt_bound (ts := ts) HR.out HL.out k
      have HE := Lib.hid (endAt_succ hx htt hy)
      obtain ⟨ad, e, x0, x1, x2, x3, x4⟩ := (HC.out.below HB.out).atCall hx
      cases e
      obtain ⟨ad', e, t0⟩ := (H1.out.below HB.out).at1 htt
      cases e
      obtain ⟨ad'', e, y0⟩ := (H2.out.below HB.out).at1 hy
      cases e
      have hqi : t < (run.length : Int) := by omega
      obtain ⟨ev, hev⟩ : ∃ ev, endAt l ts run k = ev := ⟨_, rfl⟩
      have HEV := Lib.hid hev
      rw [hev] at b1 b2
      rw [hev]
      have b3 : ev ≤ 1125899906842624 * 301 := by omega
      clear hx htt hy hev px1 px2 b2 hq
      have hel : (ends l ts run k).length ≤ 300 := by rw [ends_len]; omega
      have CB := HB.out
      rcases Nat.eq_zero_or_pos k with hz | hz
      · have hd : decide (0 < k) = false := by rw [hz]; rfl
        have he0 : ev = 0 := by rw [← HEV.out, hz]; rfl
        have HN : Hid (endAt l ts run (k + 1) = y + x.lasts) := Lib.hid (by rw [HE.out, HEV.out, he0]; omega)
        clear he0 hz
        go_wp2_with (at_builtin; refine own_append (sz := 1) (enc := intEnc) intEnc_len rfl _ _ 28 (.int .i64 0) 8 rfl Tryd.underlying28 info_int rfl (by decide) (by decide) ((y + x.lasts)) #[.int .i64 ((y + x.lasts))] rfl (w0 := w) (xs := (ends l ts run k)) _ HO.out rfl _ rfl (by simp) (by repeat (first | assumption | exact Below.refl _ _ | apply bel_alloc | apply bel_drew | apply bel_drewN | (refine bel_set ?_ (by first | assumption | omega | (simp; done) | (simp; omega)) _))) (by omega) ?_; intro g1 cap w9 hown hb9 hg9; (have MO := Lib.hid hown; have MB := Lib.hid hb9; clear hown hb9 hg9))
        go_roundw
        case rel => exact ⟨k + 1, _, by omega, by go_num, by rw [HN.out], rfl, Lib.hid (by rw [ends_succ, HN.out]; exact MO.out), MB⟩
        case measure => simp [intOf]; omega
      · have hd : decide (0 < k) = true := by simp; omega
        have HN : Hid (endAt l ts run (k + 1) = max y ev + x.lasts) := Lib.hid (by rw [HE.out, HEV.out]; omega)
        rcases Int.le_total y ev with hye | hye
        · have hmx : max y ev = ev := by omega
          rw [hmx] at HN
          go_wp2_with (at_builtin; refine own_append (sz := 1) (enc := intEnc) intEnc_len rfl _ _ 28 (.int .i64 0) 8 rfl Tryd.underlying28 info_int rfl (by decide) (by decide) ((ev + x.lasts)) #[.int .i64 ((ev + x.lasts))] rfl (w0 := w) (xs := (ends l ts run k)) _ HO.out rfl _ rfl (by simp) (by repeat (first | assumption | exact Below.refl _ _ | apply bel_alloc | apply bel_drew | apply bel_drewN | (refine bel_set ?_ (by first | assumption | omega | (simp; done) | (simp; omega)) _))) (by omega) ?_; intro g1 cap w9 hown hb9 hg9; (have MO := Lib.hid hown; have MB := Lib.hid hb9; clear hown hb9 hg9))
          go_roundw
          case rel => exact ⟨k + 1, _, by omega, by go_num, by rw [HN.out], rfl, Lib.hid (by rw [ends_succ, HN.out]; exact MO.out), MB⟩
          case measure => simp [intOf]; omega
        · have hmx : max y ev = y := by omega
          rw [hmx] at HN
          go_wp2_with (at_builtin; refine own_append (sz := 1) (enc := intEnc) intEnc_len rfl _ _ 28 (.int .i64 0) 8 rfl Tryd.underlying28 info_int rfl (by decide) (by decide) ((y + x.lasts)) #[.int .i64 ((y + x.lasts))] rfl (w0 := w) (xs := (ends l ts run k)) _ HO.out rfl _ rfl (by simp) (by repeat (first | assumption | exact Below.refl _ _ | apply bel_alloc | apply bel_drew | apply bel_drewN | (refine bel_set ?_ (by first | assumption | omega | (simp; done) | (simp; omega)) _))) (by omega) ?_; intro g1 cap w9 hown hb9 hg9; (have MO := Lib.hid hown; have MB := Lib.hid hb9; clear hown hb9 hg9))
          go_roundw
          case rel => exact ⟨k + 1, _, by omega, by go_num, by rw [HN.out], rfl, Lib.hid (by rw [ends_succ, HN.out]; exact MO.out), MB⟩
          case measure => simp [intOf]; omega
    · obtain rfl : k = l.length := by omega
      go_wp2
      go_ret
      obtain ⟨A, cc, hu, hcc, hrd⟩ := HO.out.reads intEnc_len
      rw [ends_len] at hu hcc hrd
      exact ⟨A, cc, by rw [hu]; rfl, hrd, HB.out⟩
end Go.Proofs.YtinglbcafcjhfaaDoor

namespace Go.Proofs.YtinglbcafcjhfaaDoor
open Go.RowKit Go.Shelf
set_option linter.unusedVariables false
set_option linter.unusedSimpArgs false

theorem made_get (n k : Nat) (hk : k < n) : (madeCells #[Value.int .i64 0, .int .i64 0] n)[k]? = some (.int .i64 0) := by
  unfold madeCells
  rw [Array.getElem?_map, Array.getElem?_range, if_pos hk]
  rcases Nat.mod_two_eq_zero_or_one k with h | h
  · simp [h]
  · simp [h]
theorem track_made {w : World} {g B N : Nat} {s0 s1 s2 : Value} {mc : Array Value} (hN : N ≤ 1000000000) (h : Blk w g 125 #[s0, s1, s2, .slice (some ⟨B, 0, none⟩) (N + 1) (N + 1)]) (hb : Blk w B 122 mc) (hm : ∀ k, k < (N + 1) * 2 → mc[k]? = some (.int .i64 0)) :
    IsTrack w g (List.replicate (N + 1) (0, 0)) s0 s1 s2 N := by
  refine ⟨⟨B, 0, none⟩, N + 1, h, ⟨by simp, by omega, fun i x hx => ⟨_, rfl, fun j v hv => ?_⟩⟩, hN, fun i x hx => ?_⟩
  · have hi : i < N + 1 := by have := (List.getElem?_eq_some_iff.1 hx).1; simpa using this
    rw [List.getElem?_replicate, if_pos hi] at hx
    cases hx
    rw [show (⟨B, 0, none⟩ : Addr).add (i * 2 + j) = ⟨B, i * 2 + j, none⟩ from by unfold Addr.add; split <;> simp_all, hb.cell]
    match j, hv with
    | 0, hv => cases hv; exact hm _ (by omega)
    | 1, hv => cases hv; exact hm _ (by omega)
  · have := List.eq_of_mem_replicate (List.mem_of_getElem? hx)
    subst this
    simp
def SaidOk (r : Road) (l : List Call) (ts run : List Int) : Prop := r.Valid ∧ CallsOk r.length l ∧ TrigsOk r.length l.length ts ∧ RunOk r.length run
def SaidPost (r : Road) (l : List Call) (ts run : List Int) (w : World) (e : Ending) (w' : World) : Prop := Below w.heap.size w w' ∧
  ((SaidOk r l ts run ∧ ∃ A k, e = .returned (.tuple #[.slice A l.length k, .int .i64 0]) ∧ Rd 1 intEnc w' A l.length (ends l ts run l.length)) ∨ (¬SaidOk r l ts run ∧ e = .returned (.tuple #[.slice none 0 0, .int .i64 2])))
set_option maxRecDepth 100000 in
set_option maxHeartbeats 4000000 in
theorem pace_Said (r : Road) (l : List Call) (ts run : List Int) (A0 A1 A2 C B D : Option Addr) (n0 n1 n2 c0 c1 c2 n c m d q e : Nat) (w : World) (h0 : Rd 5 Piece.enc w A0 n0 r.pieces) (h1 : Rd 2 Crest.enc w A1 n1 r.crests) (h2 : Rd 3 Junction.enc w A2 n2 r.juncs) (hc : Rd 5 Call.enc w C n l) (g1 : Rd 1 intEnc w B m ts) (g2 : Rd 1 intEnc w D q run) :
    Calls Tryd.prog 41 #[.agg #[.slice A0 n0 c0, .slice A1 n1 c1, .slice A2 n2 c2], .slice C n c, .slice B m d, .slice D q e] w (SaidPost r l ts run w) := by
  obtain rfl : n = l.length := hc.1.symm
  obtain rfl : m = ts.length := g1.1.symm
  obtain rfl : q = run.length := g2.1.symm
  have q2 := g2.2.1
  have H0 := Lib.hid h0
  have H1 := Lib.hid h1
  have H2 := Lib.hid h2
  have HC := Lib.hid hc
  have G1 := Lib.hid g1
  have G2 := Lib.hid g2
  clear h0 h1 h2 hc g1 g2
  by_cases hv : r.Valid
  rotate_left
  · have hck : Hid (r.chk = 2) := Lib.hid (Road.chk_no hv)
    have HNO : Hid (¬SaidOk r l ts run) := Lib.hid fun h => hv h.1
    clear hv
    go_enter Tryd.func41, Tryd.ntmps41
    go_wp2_with (go_at_call 81; go_must (refine (road_Length r A0 A1 A2 n0 n1 n2 c0 c1 c2 _ (H0.out.below (by repeat (first | assumption | exact Below.refl _ _ | apply bel_alloc | apply bel_drew | apply bel_drewN | (refine bel_set ?_ (by first | assumption | omega | (simp; done) | (simp; omega)) _)))) (H1.out.below (by repeat (first | assumption | exact Below.refl _ _ | apply bel_alloc | apply bel_drew | apply bel_drewN | (refine bel_set ?_ (by first | assumption | omega | (simp; done) | (simp; omega)) _)))) (H2.out.below (by repeat (first | assumption | exact Below.refl _ _ | apply bel_alloc | apply bel_drew | apply bel_drewN | (refine bel_set ?_ (by first | assumption | omega | (simp; done) | (simp; omega)) _))))).mono ?_); rintro e w1 ⟨rfl, hw1⟩; rw [hck.out]; have HB1 : Hid (Below w.heap.size w w1) := Lib.hid (bel_then (by repeat (first | assumption | exact Below.refl _ _ | apply bel_alloc | apply bel_drew | apply bel_drewN | (refine bel_set ?_ (by first | assumption | omega | (simp; done) | (simp; omega)) _))) hw1); clear hw1)
    go_ret2
    exact ⟨HB1.out, .inr ⟨HNO.out, rfl⟩⟩
  have hr0 : 0 ≤ r.length := (hv.fit.2 _ (Nat.le_refl _)).1
  have hr1 := hv.short
  have HCK : Hid (r.chk = 0) := Lib.hid (Road.chk_ok hv)
  have HLN : Hid (r.lenOr = r.length) := Lib.hid (by unfold Road.lenOr; rw [bo_true hv]; simp)
  obtain ⟨N, hN⟩ : ∃ N : Nat, (N : Int) = r.length := ⟨r.length.toNat, by omega⟩
  have HV := Lib.hid hv
  have hmk0 : ∀ W : World, (Instr.makeSlice 123 (.int .i64 ((N : Int) + 1)) (.int .i64 ((N : Int) + 1))).run Tryd.prog W = .ok (.slice (some ⟨W.heap.size, 0, none⟩) (N + 1) (N + 1)) (W.alloc (.cells (madeCells #[.int .i64 0, .int .i64 0] ((N + 1) * 2)) 122)) := fun W => by
    obtain ⟨i0, hi, hzz⟩ := Option.map_eq_some_iff.1 info_times
    simp only [Prod.mk.injEq] at hzz
    obtain ⟨hz0, hz1, hz2⟩ := hzz
    have h := run_make (P := Tryd.prog) W 123 122 i0 _ Tryd.underlying123 hi hz0 .i64 .i64 ((N : Int) + 1) ((N : Int) + 1) (by omega) (by omega) (by rw [hz2]; omega) (by omega)
    rw [hz1, show ((N : Int) + 1).toNat = N + 1 by omega] at h
    exact h
  obtain ⟨mc, hmc⟩ : ∃ mc, madeCells #[Value.int .i64 0, .int .i64 0] ((N + 1) * 2) = mc := ⟨_, rfl⟩
  have HMC : Hid (∀ k, k < (N + 1) * 2 → mc[k]? = some (.int .i64 0)) := Lib.hid (by rw [← hmc]; exact fun k hk => made_get _ k hk)
  simp only [hmc] at hmk0
  have hwr : IntKind.i64.wrap ((N : Int) + 1) = (N : Int) + 1 := IntWalk.i64_in _ (by omega)
  have HNN := Lib.hid hN
  have hN9 : (N : Int) ≤ 100000 := by omega
  clear hmc hv hr0 hr1 hN
  go_enter Tryd.func41, Tryd.ntmps41
  go_wp2_with (go_at_call 81; go_must (refine (road_Length r A0 A1 A2 n0 n1 n2 c0 c1 c2 _ (H0.out.below (by repeat (first | assumption | exact Below.refl _ _ | apply bel_alloc | apply bel_drew | apply bel_drewN | (refine bel_set ?_ (by first | assumption | omega | (simp; done) | (simp; omega)) _)))) (H1.out.below (by repeat (first | assumption | exact Below.refl _ _ | apply bel_alloc | apply bel_drew | apply bel_drewN | (refine bel_set ?_ (by first | assumption | omega | (simp; done) | (simp; omega)) _)))) (H2.out.below (by repeat (first | assumption | exact Below.refl _ _ | apply bel_alloc | apply bel_drew | apply bel_drewN | (refine bel_set ?_ (by first | assumption | omega | (simp; done) | (simp; omega)) _))))).mono ?_); rintro e w1 ⟨rfl, hw1⟩; rw [HCK.out, HLN.out, ← HNN.out]; have HRB : Hid (Blk w1 w.heap.size 26 #[.slice A0 n0 c0, .slice A1 n1 c1, .slice A2 n2 c2]) := Lib.hid ((Blk.new w _ _).below hw1); have HB1 : Hid (Below w.heap.size w w1) := Lib.hid (bel_then (by repeat (first | assumption | exact Below.refl _ _ | apply bel_alloc | apply bel_drew | apply bel_drewN | (refine bel_set ?_ (by first | assumption | omega | (simp; done) | (simp; omega)) _))) hw1); clear hw1)
  have k0 := HRB.out.cell 0
  have k1 := HRB.out.cell 1
  have k2 := HRB.out.cell 2
  have kl := HRB.out.lt
  go_cut [12] from 26 (fun s12 wc => ∃ g : Nat, s12 = .pointer (some ⟨g, 0, none⟩) ∧ Hid (IsTrack wc g (List.replicate (N + 1) (0, 0)) (.slice A0 n0 c0) (.slice A1 n1 c1) (.slice A2 n2 c2) N) ∧ Hid (Below w1.heap.size w1 wc))
  case first =>
    go_region
    all_goals
      go_wp2
      go_meet
      case rel => exact ⟨_, rfl, Lib.hid (track_made (mc := mc) (by omega) (by repeat (first | assumption | exact Blk.new_at _ _ _ _ (by simp) | refine Blk.drew ?_ | refine Blk.drewN ?_ _ | refine Blk.alloc ?_ _)) (by repeat (first | assumption | exact Blk.new_at _ _ _ _ (by simp) | refine Blk.drew ?_ | refine Blk.drewN ?_ _ | refine Blk.alloc ?_ _)) HMC.out), Lib.hid (by repeat (first | assumption | exact Below.refl _ _ | apply bel_alloc | apply bel_drew | apply bel_drewN | (refine bel_set ?_ (by first | assumption | omega | (simp; done) | (simp; omega)) _)))⟩
  case rest =>
    obtain ⟨g, rfl, HT, HBc⟩ := hcut
    have HB2 := Lib.hid (bel_then HB1.out HBc.out)
    have hcases : bo (CallsOk N l) = false ∨ bo (CallsOk N l) = true ∧ bo (TrigsOk N l.length ts) = false ∨ bo (CallsOk N l) = true ∧ bo (TrigsOk N l.length ts) = true ∧ ((run.length : Int) != (N : Int) + 1) = true ∨ bo (CallsOk N l) = true ∧ bo (TrigsOk N l.length ts) = true ∧ ((run.length : Int) != (N : Int) + 1) = false := by
      rcases bo (CallsOk N l) <;> rcases bo (TrigsOk N l.length ts) <;> rcases ((run.length : Int) != (N : Int) + 1) <;> simp
    rcases hcases with hb1 | ⟨hb1, hb2⟩ | ⟨hb1, hb2, hb3⟩ | ⟨hb1, hb2, hb3⟩
    · have HNO : Hid (¬SaidOk r l ts run) := Lib.hid fun h => by
        have := h.2.1
        rw [← HNN.out] at this
        rw [bo_true this] at hb1
        cases hb1
      go_wp2_with (first | (go_at_call 71; refine (track_calls l C _ c HT.out (HC.out.below HB2.out)).mono ?_; rintro e9 w2 ⟨rfl, hw2⟩; have HT2 := Lib.hid (HT.out.below hw2); have HB3 := Lib.hid (bel_then HB2.out hw2); clear hw2) | (go_at_call 80; refine (track_triggers ts C B _ c _ d HT2.out (G1.out.below HB3.out)).mono ?_; rintro e w' ⟨rfl, rfl⟩))
      go_ret2
      exact ⟨HB3.out, .inr ⟨HNO.out, rfl⟩⟩
    · have HNO : Hid (¬SaidOk r l ts run) := Lib.hid fun h => by
        have := h.2.2.1
        rw [← HNN.out] at this
        rw [bo_true this] at hb2
        cases hb2
      go_wp2_with (first | (go_at_call 71; refine (track_calls l C _ c HT.out (HC.out.below HB2.out)).mono ?_; rintro e9 w2 ⟨rfl, hw2⟩; have HT2 := Lib.hid (HT.out.below hw2); have HB3 := Lib.hid (bel_then HB2.out hw2); clear hw2) | (go_at_call 80; refine (track_triggers ts C B _ c _ d HT2.out (G1.out.below HB3.out)).mono ?_; rintro e w' ⟨rfl, rfl⟩))
      go_ret2
      exact ⟨HB3.out, .inr ⟨HNO.out, rfl⟩⟩
    · have HNO : Hid (¬SaidOk r l ts run) := Lib.hid fun h => by
        have := h.2.2.2.1
        rw [← HNN.out] at this
        rw [this] at hb3
        simp at hb3
      go_wp2_with (first | (go_at_call 71; refine (track_calls l C _ c HT.out (HC.out.below HB2.out)).mono ?_; rintro e9 w2 ⟨rfl, hw2⟩; have HT2 := Lib.hid (HT.out.below hw2); have HB3 := Lib.hid (bel_then HB2.out hw2); clear hw2) | (go_at_call 80; refine (track_triggers ts C B _ c _ d HT2.out (G1.out.below HB3.out)).mono ?_; rintro e w' ⟨rfl, rfl⟩))
      go_ret2
      exact ⟨HB3.out, .inr ⟨HNO.out, rfl⟩⟩
    have HLs : Hid (CallsOk N l) := Lib.hid (bo_iff.1 hb1)
    have HTs : Hid (TrigsOk N l.length ts) := Lib.hid (bo_iff.1 hb2)
    have hlen : (run.length : Int) = (N : Int) + 1 := by simpa using hb3
    have HLen := Lib.hid hlen
    have hln3 := HLs.out.1
    clear hlen
    go_wp2_with (first | (go_at_call 71; refine (track_calls l C _ c HT.out (HC.out.below HB2.out)).mono ?_; rintro e9 w2 ⟨rfl, hw2⟩; have HT2 := Lib.hid (HT.out.below hw2); have HB3 := Lib.hid (bel_then HB2.out hw2); clear hw2) | (go_at_call 80; refine (track_triggers ts C B _ c _ d HT2.out (G1.out.below HB3.out)).mono ?_; rintro e w' ⟨rfl, rfl⟩))
    go_loop [52] (fun v52 => ∃ k : Nat, k ≤ run.length ∧ v52 = .int .i64 k ∧ Hid (TrigsUp 1125899906842624 run k)) (fun v52 => run.length - (intOf v52).toNat)
    case atStart => exact ⟨0, Nat.zero_le _, rfl, Lib.hid fun j hj => absurd hj (by omega)⟩
    case round =>
      obtain ⟨k, hk, rfl, HP⟩ := hrel
      by_cases hlt : k < run.length
      · obtain ⟨x, hx⟩ := G2.out.get hlt
        have HX := Lib.hid hx
        obtain ⟨ad, e1, x0⟩ := (G2.out.below HB3.out).at1 hx
        cases e1
        clear hx
        rcases hc1 : inB x 0 1125899906842624
        · go_wp2_with (go_at_call 62; refine (pace_within _ _ _ _).mono ?_; rintro e w' ⟨rfl, rfl⟩)
          go_ret2
          exact ⟨HB3.out, .inr ⟨fun h => TrigOk.no1 HX.out hc1 (h.2.2.2.2 k hlt), rfl⟩⟩
        rcases Nat.eq_zero_or_pos k with hz | hz
        · have hd : decide (0 < k) = false := by rw [hz]; rfl
          have HZ := Lib.hid hz
          clear hz
          go_wp2_with (go_at_call 62; refine (pace_within _ _ _ _).mono ?_; rintro e w' ⟨rfl, rfl⟩)
          go_round
          case rel => exact ⟨k + 1, by omega, by go_num, Lib.hid (HP.out.succ (TrigOk.yes HX.out hc1 (.inl HZ.out)))⟩
          case measure => simp [intOf]; omega
        · obtain ⟨y, hy⟩ := G2.out.get (i := k - 1) (by omega)
          have HY := Lib.hid hy
          obtain ⟨ad', e1, y0⟩ := (G2.out.below HB3.out).at1 hy
          cases e1
          clear hy
          have q1 : IntKind.i64.wrap ((k : Int) - 1) = (k : Int) - 1 := IntWalk.i64_in _ (by omega)
          have q2' : (0 : Int) ≤ (k : Int) - 1 := by omega
          have q3 : (1 : Int) ≤ (k : Int) := by omega
          have q4 : ((k : Int) - 1).toNat = k - 1 := by omega
          have q5 : (k : Int) - 1 < (run.length : Int) := by omega
          rcases hc2 : decide (x < y)
          · go_wp2_with (go_at_call 62; refine (pace_within _ _ _ _).mono ?_; rintro e w' ⟨rfl, rfl⟩)
            go_round
            case rel => exact ⟨k + 1, by omega, by go_num, Lib.hid (HP.out.succ (TrigOk.yes HX.out hc1 (.inr ⟨y, HY.out, hc2⟩)))⟩
            case measure => simp [intOf]; omega
          · go_wp2_with (go_at_call 62; refine (pace_within _ _ _ _).mono ?_; rintro e w' ⟨rfl, rfl⟩)
            go_ret2
            exact ⟨HB3.out, .inr ⟨fun h => TrigOk.no2 HX.out hz HY.out hc2 (h.2.2.2.2 k hlt), rfl⟩⟩
      · obtain rfl : k = run.length := by omega
        have HRun : Hid (RunOk N run) := Lib.hid ⟨HLen.out, HP.out⟩
        have HOK : Hid (SaidOk r l ts run) := Lib.hid ⟨HV.out, by rw [← HNN.out]; exact HLs.out, by rw [← HNN.out]; exact HTs.out, by rw [← HNN.out]; exact HRun.out⟩
        go_wp2
        go_loopw [15, 16, 76] (fun v15 v16 v76 wr => ∃ (k : Nat) (v : Value), k ≤ l.length ∧ v76 = .int .i64 k ∧ v16 = .int .i64 (endAt l ts run k) ∧ v15 = v ∧ Hid (Own 1 intEnc 3 wr w.heap.size v (ends l ts run k)) ∧ Hid (Below w.heap.size w wr)) (fun _ _ v76 _ => l.length - (intOf v76).toNat)
        case atStart => exact ⟨0, _, Nat.zero_le _, rfl, rfl, rfl, Lib.hid Own.nil, Lib.hid HB3.out⟩
        case round =>
          obtain ⟨k, v, hk, rfl, rfl, rfl, HO, HB⟩ := hrel
          by_cases hlt : k < l.length
          · obtain ⟨x, hx⟩ := HC.out.get hlt
            have hlt' : k < ts.length := by have := HTs.out.1; omega
            obtain ⟨t, htt⟩ := G1.out.get hlt'
            obtain ⟨t1, t2⟩ := HTs.out.at_ htt
            have hq : t.toNat < run.length := by have := HLen.out; omega
            obtain ⟨y, hy⟩ := G2.out.get hq
            obtain ⟨y1, y2⟩ := HRun.out.at_ hy
            obtain ⟨px1, px2, px3, px4, _⟩ := HLs.out.at_ hx
            obtain ⟨b1, b2⟩ := endAt_bound (ts := ts) HRun.out HLs.out k
            have HE := Lib.hid (endAt_succ hx htt hy)
            obtain ⟨ad, e1, x0, x1, x2, x3, x4⟩ := (HC.out.below HB.out).atCall hx
            cases e1
            obtain ⟨ad', e1, t0⟩ := (G1.out.below HB.out).at1 htt
            cases e1
            obtain ⟨ad'', e1, y0⟩ := (G2.out.below HB.out).at1 hy
            cases e1
            have tb := World.block_lt_of_cell? _ _ t0
            have yb := World.block_lt_of_cell? _ _ y0
            have hqi : t < (run.length : Int) := by have := HLen.out; omega
            have hki : (k : Int) < (ts.length : Int) := by omega
            obtain ⟨ev, hev⟩ : ∃ ev, endAt l ts run k = ev := ⟨_, rfl⟩
            have HEV := Lib.hid hev
            rw [hev] at b1 b2
            rw [hev]
            have b3 : ev ≤ 1125899906842624 * 301 := by omega
            have hb4 : 0 ≤ max ev y := by omega
            have hb5 : max ev y ≤ 1125899906842624 * 301 := by omega
            obtain ⟨mx, hmx⟩ : ∃ mx, max ev y = mx := ⟨_, rfl⟩
            rw [hmx] at hb4 hb5
            have HN : Hid (endAt l ts run (k + 1) = mx + x.lasts) := Lib.hid (by rw [HE.out, HEV.out, hmx])
            clear hx htt hy hev px1 px2 b2 hq b1 b3 t2
            have hel : (ends l ts run k).length ≤ 300 := by rw [ends_len]; omega
            have CB := HB.out
            go_wp2
            go_quiet (fail)
            go_wp2_with (at_builtin; refine own_append (sz := 1) (enc := intEnc) intEnc_len rfl _ _ 28 (.int .i64 0) 8 rfl Tryd.underlying28 info_int rfl (by decide) (by decide) ((mx + x.lasts)) #[.int .i64 ((mx + x.lasts))] rfl (w0 := w) (xs := (ends l ts run k)) _ ((HO.out.alloc _).drewN _) rfl _ rfl (by simp) (by repeat (first | assumption | exact Below.refl _ _ | apply bel_alloc | apply bel_drew | apply bel_drewN | (refine bel_set ?_ (by first | assumption | omega | (simp; done) | (simp; omega)) _))) (by omega) ?_; intro g1 cap w9 hown hb9 hg9; (have MO := Lib.hid hown; have MB := Lib.hid hb9; clear hown hb9 hg9))
            go_roundw
            case rel => exact ⟨k + 1, _, by omega, by go_num, by rw [HN.out], rfl, Lib.hid (by rw [ends_succ, HN.out]; exact MO.out), MB⟩
            case measure => simp [intOf]; omega
          · obtain rfl : k = l.length := by omega
            go_wp2
            go_ret2
            obtain ⟨A, cc, hu, hcc, hrd⟩ := HO.out.reads intEnc_len
            rw [ends_len] at hu hcc hrd
            exact ⟨HB.out, .inl ⟨HOK.out, A, cc, by rw [hu]; rfl, hrd⟩⟩
theorem SaidPost.yes {r : Road} {l : List Call} {ts run : List Int} {w w' : World} {e : Ending} (h : SaidPost r l ts run w e w') (hok : SaidOk r l ts run) : ∃ A k, e = .returned (.tuple #[.slice A l.length k, .int .i64 0]) ∧ Rd 1 intEnc w' A l.length (ends l ts run l.length) ∧ Below w.heap.size w w' := by
  obtain ⟨hb, ⟨_, A, k, h1, h2⟩ | ⟨h1, _⟩⟩ := h
  · exact ⟨A, k, h1, h2, hb⟩
  · exact absurd hok h1
theorem SaidPost.no {r : Road} {l : List Call} {ts run : List Int} {w w' : World} {e : Ending} (h : SaidPost r l ts run w e w') (hno : ¬SaidOk r l ts run) : e = .returned (.tuple #[.slice none 0 0, .int .i64 2]) ∧ Below w.heap.size w w' := by
  obtain ⟨hb, ⟨h1, _⟩ | ⟨_, h1⟩⟩ := h
  · exact absurd h1 hno
  · exact ⟨h1, hb⟩
end Go.Proofs.YtinglbcafcjhfaaDoor
