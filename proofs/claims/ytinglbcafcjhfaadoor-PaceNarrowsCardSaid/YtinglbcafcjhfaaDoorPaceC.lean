/- Contracts of package pace: row, quick and slow: how long a meter of a piece takes. -/
import Derived.Test.YtinglbcafcjhfaaDoorPaceB
namespace Go.Proofs.YtinglbcafcjhfaaDoor
open Go.RowKit
set_option linter.unusedVariables false
set_option linter.unusedSimpArgs false

set_option maxRecDepth 100000 in
set_option maxHeartbeats 1000000 in
theorem pace_row (s : Speeds) (p : Piece) (A2 A3 : Option Addr) (n2 n3 c2 c3 : Nat) (w : World) (h2 : Rd 3 SpeedRow.enc w A2 n2 s.rows) (hs : s.Valid) (hp : p.Ok) :
    Calls Tryd.prog 120 #[.agg #[.int .i64 s.least, .int .i64 s.most, .slice A2 n2 c2, .slice A3 n3 c3], .agg #[.int .i64 p.len, .int .i64 p.turn, .int .i64 p.radius, .int .i64 p.width, .int .i64 p.surface]] w fun e w' => e = .returned (.tuple #[.int .i64 (rowOf s p).1, .int .i64 (rowOf s p).2]) ∧ Below w.heap.size w w' := by
  have m2 := h2.2.1
  have hn1 : 1 ≤ n2 := by have := hs.some_; have := h2.1; omega
  have hn2 : n2 ≤ 30 := by have := hs.few; have := h2.1; omega
  have H2 := Lib.hid h2
  have HS := Lib.hid hs
  have HP := Lib.hid hp
  clear h2 hs hp
  by_cases ht : p.turn = 0
  · have hr : rowOf s p = (s.least, s.most) := by unfold rowOf; rw [if_pos ht]
    have htb : (p.turn == 0) = true := by simpa using ht
    rw [hr]
    clear hr ht
    go_enter Tryd.func120, Tryd.ntmps120
    go_wp2
    go_quiet (fail)
    go_wp2
    go_ret2
    exact ⟨rfl, (by repeat (first | assumption | exact Below.refl _ _ | apply bel_alloc | apply bel_drew | apply bel_drewN | (refine bel_set ?_ (by first | assumption | omega | (simp; done) | (simp; omega)) _)))⟩
  · have hr : rowOf s p = rowDown s.rows p.radius n2 := by unfold rowOf; rw [if_neg ht, H2.out.1]
    have htb : (p.turn == 0) = false := by simpa using ht
    have h5 : 5 ≤ p.radius := (HP.out.2.2.2.2.2.2.2.2.2 ht).1
    rw [hr]
    clear hr ht
    go_enter Tryd.func120, Tryd.ntmps120
    go_wp2
    obtain ⟨W1, hW1⟩ : ∃ W1, (w.alloc (.cells #[.int .i64 s.least, .int .i64 s.most, .slice A2 n2 c2, .slice A3 n3 c3] 160)).alloc (.cells #[.int .i64 p.len, .int .i64 p.turn, .int .i64 p.radius, .int .i64 p.width, .int .i64 p.surface] 105) = W1 := ⟨_, rfl⟩
    have HB : Below w.heap.size w W1 := by rw [← hW1]; exact (by repeat (first | assumption | exact Below.refl _ _ | apply bel_alloc | apply bel_drew | apply bel_drewN | (refine bel_set ?_ (by first | assumption | omega | (simp; done) | (simp; omega)) _)))
    have HT : Hid (Blk W1 w.heap.size 160 #[.int .i64 s.least, .int .i64 s.most, .slice A2 n2 c2, .slice A3 n3 c3]) := by rw [← hW1]; exact (Blk.new _ _ _).alloc _
    have HX : Hid (Blk W1 (w.heap.size + 1) 105 #[.int .i64 p.len, .int .i64 p.turn, .int .i64 p.radius, .int .i64 p.width, .int .i64 p.surface]) := by rw [← hW1]; exact Blk.new_at _ _ _ _ (by simp)
    rw [hW1]
    clear hW1
    go_loopw [6] (fun v6 wr => ∃ j : Nat, j < n2 ∧ v6 = .int .i64 j ∧ Hid (rowDown s.rows p.radius (j + 1) = rowDown s.rows p.radius n2) ∧ Hid (Blk wr w.heap.size 160 #[.int .i64 s.least, .int .i64 s.most, .slice A2 n2 c2, .slice A3 n3 c3]) ∧ Hid (Blk wr (w.heap.size + 1) 105 #[.int .i64 p.len, .int .i64 p.turn, .int .i64 p.radius, .int .i64 p.width, .int .i64 p.surface]) ∧ Below w.heap.size w wr) (fun v6 _ => (intOf v6).toNat)
    case atStart => exact ⟨n2 - 1, by omega, by rw [show ((n2 : Int) - 1) = ((n2 - 1 : Nat) : Int) by omega], Lib.hid (by rw [show n2 - 1 + 1 = n2 by omega]), HT, HX, HB⟩
    case round =>
      clear HT HX HB
      obtain ⟨j, hj, rfl, HR, HT, HX, HB⟩ := hrel
      obtain ⟨x, hx⟩ := H2.out.get hj
      have HE := Lib.hid hx
      clear hx
      obtain ⟨ad, e, x0, x1, x2⟩ := (H2.out.below HB).atRow HE.out
      cases e
      have t2 := HT.out.cell 2
      have p2 := HX.out.cell 2
      by_cases hr : x.radius ≤ p.radius
      · have hd : decide (p.radius < x.radius) = false := by simp; omega
        have HY : Hid (rowDown s.rows p.radius n2 = (x.least, x.most)) := Lib.hid (by rw [← HR.out, rowDown_yes HE.out hr])
        clear hr
        go_wp2
        go_quiet (fail)
        go_wp2
        go_quiet (fail)
        go_wp2
        go_ret2
        exact ⟨ret_int2 (by rw [HY.out]) (by rw [HY.out]), (by repeat (first | assumption | exact Below.refl _ _ | apply bel_alloc | apply bel_drew | apply bel_drewN | (refine bel_set ?_ (by first | assumption | omega | (simp; done) | (simp; omega)) _)))⟩
      · have hd : decide (p.radius < x.radius) = true := by simp; omega
        have hj0 : 0 < j := by
          rcases Nat.eq_zero_or_pos j with h | h
          · have := HS.out.five x (by rw [← h]; exact HE.out)
            omega
          · exact h
        have HY : Hid (rowDown s.rows p.radius (j - 1 + 1) = rowDown s.rows p.radius n2) := Lib.hid (by rw [← HR.out, rowDown_no HE.out (by omega), show j - 1 + 1 = j by omega])
        clear hr
        go_wp2
        go_quiet (fail)
        go_wp2
        go_roundw
        case rel => exact ⟨j - 1, by omega, by rw [show ((j : Int) - 1) = ((j - 1 : Nat) : Int) by omega], HY, HT, HX, (by repeat (first | assumption | exact Below.refl _ _ | apply bel_alloc | apply bel_drew | apply bel_drewN | (refine bel_set ?_ (by first | assumption | omega | (simp; done) | (simp; omega)) _)))⟩
        case measure => simp [intOf]; omega

set_option maxRecDepth 100000 in
set_option maxHeartbeats 1000000 in
theorem pace_quick (s : Speeds) (p : Piece) (A2 A3 : Option Addr) (n2 n3 c2 c3 : Nat) (w : World) (h2 : Rd 3 SpeedRow.enc w A2 n2 s.rows) (h3 : Rd 1 intEnc w A3 n3 s.surface) (hs : s.Valid) (hp : p.Ok) :
    Calls Tryd.prog 114 #[.agg #[.int .i64 s.least, .int .i64 s.most, .slice A2 n2 c2, .slice A3 n3 c3], .agg #[.int .i64 p.len, .int .i64 p.turn, .int .i64 p.radius, .int .i64 p.width, .int .i64 p.surface]] w fun e w' => e = .returned (.int .i64 (quickT s p)) ∧ Below w.heap.size w w' := by
  have hb := bnd_iff.1 (rowOf_bnd hs hp)
  obtain ⟨hb1, hb2, hb3⟩ := hb
  obtain ⟨hg, hg1, hg2⟩ := surfOf_get hs hp
  obtain ⟨ad, e, x0⟩ := h3.at1 hg
  cases e
  have n9 : n3 = 9 := by have := hs.nine; have := h3.1; omega
  have HP := Lib.hid hp
  obtain ⟨_, _, _, _, _, _, q1, q2, _, _⟩ := hp
  rw [show (p.surface - 1).toNat = p.surface.toNat - 1 by omega] at x0
  have q3 : p.surface - 1 < n3 := by omega
  have H2 := Lib.hid h2
  have HS := Lib.hid hs
  clear h2 h3 hs hg n9
  unfold quickT
  obtain ⟨m, hm⟩ : ∃ m, (rowOf s p).2 = m := ⟨_, rfl⟩
  obtain ⟨l, hl⟩ : ∃ l, (rowOf s p).1 = l := ⟨_, rfl⟩
  rw [hm] at hb2 hb3 ⊢
  rw [hl] at hb1 hb2
  have HM := Lib.hid hm
  have HL := Lib.hid hl
  clear hm hl
  obtain ⟨z, hz⟩ : ∃ z, surfOf s p = z := ⟨_, rfl⟩
  rw [hz] at hg1 hg2 x0 ⊢
  clear hz
  have hmz1 : 1 ≤ m * z := by have := Int.mul_le_mul (show 1 ≤ m by omega) hg1 (by omega) (by omega); omega
  have hmz2 : m * z ≤ 70000 := Int.le_trans (Int.mul_le_mul hb3 hg2 (by omega) (by omega)) (by omega)
  have hmz3 : 1 ≤ (m * z + 99) / 100 := by omega
  have hmz4 : ((m * z + 99) / 100 == 0) = false := by simp; omega
  go_enter Tryd.func114, Tryd.ntmps114
  go_wp2_with (go_at_call 120; refine (pace_row s p A2 (some ad) n2 n3 c2 c3 _ (H2.out.below (by repeat (first | assumption | exact Below.refl _ _ | apply bel_alloc | apply bel_drew | apply bel_drewN | (refine bel_set ?_ (by first | assumption | omega | (simp; done) | (simp; omega)) _)))) HS.out HP.out).mono ?_; rintro e w1 ⟨rfl, hw1⟩; rw [HM.out, HL.out]; obtain ⟨hc, hf⟩ := bcell hw1; have xx0 := bel_cell (bel_then (by repeat (first | assumption | exact Below.refl _ _ | apply bel_alloc | apply bel_drew | apply bel_drewN | (refine bel_set ?_ (by first | assumption | omega | (simp; done) | (simp; omega)) _))) hw1) x0)
  go_ret
  exact ⟨rfl, bel_then (by repeat (first | assumption | exact Below.refl _ _ | apply bel_alloc | apply bel_drew | apply bel_drewN | (refine bel_set ?_ (by first | assumption | omega | (simp; done) | (simp; omega)) _))) hw1⟩

set_option maxRecDepth 100000 in
set_option maxHeartbeats 1000000 in
theorem pace_slow (s : Speeds) (p : Piece) (A2 A3 : Option Addr) (n2 n3 c2 c3 : Nat) (w : World) (h2 : Rd 3 SpeedRow.enc w A2 n2 s.rows) (h3 : Rd 1 intEnc w A3 n3 s.surface) (hs : s.Valid) (hp : p.Ok) :
    Calls Tryd.prog 115 #[.agg #[.int .i64 s.least, .int .i64 s.most, .slice A2 n2 c2, .slice A3 n3 c3], .agg #[.int .i64 p.len, .int .i64 p.turn, .int .i64 p.radius, .int .i64 p.width, .int .i64 p.surface]] w fun e w' => e = .returned (.int .i64 (slowT s p)) ∧ Below w.heap.size w w' := by
  have hb := bnd_iff.1 (rowOf_bnd hs hp)
  obtain ⟨hb1, hb2, hb3⟩ := hb
  obtain ⟨hg, hg1, hg2⟩ := surfOf_get hs hp
  obtain ⟨ad, e, x0⟩ := h3.at1 hg
  cases e
  have n9 : n3 = 9 := by have := hs.nine; have := h3.1; omega
  have HP := Lib.hid hp
  obtain ⟨_, _, _, _, _, _, q1, q2, _, _⟩ := hp
  rw [show (p.surface - 1).toNat = p.surface.toNat - 1 by omega] at x0
  have q3 : p.surface - 1 < n3 := by omega
  have H2 := Lib.hid h2
  have HS := Lib.hid hs
  clear h2 h3 hs hg n9
  unfold slowT
  obtain ⟨m, hm⟩ : ∃ m, (rowOf s p).2 = m := ⟨_, rfl⟩
  obtain ⟨l, hl⟩ : ∃ l, (rowOf s p).1 = l := ⟨_, rfl⟩
  rw [hm] at hb2 hb3
  rw [hl] at hb1 hb2 ⊢
  have HM := Lib.hid hm
  have HL := Lib.hid hl
  clear hm hl
  obtain ⟨z, hz⟩ : ∃ z, surfOf s p = z := ⟨_, rfl⟩
  rw [hz] at hg1 hg2 x0 ⊢
  clear hz
  have hmz1 : 1 ≤ l * z := by have := Int.mul_le_mul hb1 hg1 (by omega) (by omega); omega
  have hmz2 : l * z ≤ 70000 := Int.le_trans (Int.mul_le_mul (show l ≤ 700 by omega) hg2 (by omega) (by omega)) (by omega)
  have hmz3 : 1 ≤ max 1 (l * z / 100) := by omega
  have hmz5 : max 1 (l * z / 100) ≤ 700 := by omega
  have hmz4 : (max 1 (l * z / 100) == 0) = false := by simp; omega
  go_enter Tryd.func115, Tryd.ntmps115
  go_wp2_with (go_at_call 120; refine (pace_row s p A2 (some ad) n2 n3 c2 c3 _ (H2.out.below (by repeat (first | assumption | exact Below.refl _ _ | apply bel_alloc | apply bel_drew | apply bel_drewN | (refine bel_set ?_ (by first | assumption | omega | (simp; done) | (simp; omega)) _)))) HS.out HP.out).mono ?_; rintro e w1 ⟨rfl, hw1⟩; rw [HM.out, HL.out]; obtain ⟨hc, hf⟩ := bcell hw1; have xx0 := bel_cell (bel_then (by repeat (first | assumption | exact Below.refl _ _ | apply bel_alloc | apply bel_drew | apply bel_drewN | (refine bel_set ?_ (by first | assumption | omega | (simp; done) | (simp; omega)) _))) hw1) x0)
  all_goals
    go_ret
    exact ⟨ret_int (by first | (rw [show max 1 (l * z / 100) = l * z / 100 by omega]; done) | (rw [show max 1 (l * z / 100) = 1 by omega]; rfl) | rfl), bel_then (by repeat (first | assumption | exact Below.refl _ _ | apply bel_alloc | apply bel_drew | apply bel_drewN | (refine bel_set ?_ (by first | assumption | omega | (simp; done) | (simp; omega)) _))) hw1⟩
end Go.Proofs.YtinglbcafcjhfaaDoor
