/- Contracts of the reference of package pace: how long a meter takes, and the times between two places. The contract of the reference's Between. -/
import Derived.Test.YtinglbcafcjhfaaDoorRefB
import Derived.Test.YtinglbcafcjhfaaDoorKnownA
import Derived.Test.YtinglbcafcjhfaaDoorPaceC
import Derived.Deep.DeepMust
namespace Go.Proofs.YtinglbcafcjhfaaDoor
open Go.RowKit
set_option linter.unusedVariables false
set_option linter.unusedSimpArgs false

theorem metersUp_prefix (s : Speeds) (l : List Piece) {k m : Nat} (h : k ≤ m) : ∃ t, metersUp s l m = metersUp s l k ++ t := by
  induction h with
  | refl => exact ⟨[], by simp⟩
  | step h ih =>
    rename_i m
    obtain ⟨t, ht⟩ := ih
    cases hp : l[m]? with
    | none =>
      have : l.take (m + 1) = l.take m := by rw [List.take_add_one, hp]; simp
      exact ⟨t, by rw [← ht]; unfold metersUp; rw [this]⟩
    | some p => exact ⟨t ++ List.replicate p.len.toNat (quickT s p, slowT s p), by rw [metersUp_succ hp, ht, List.append_assoc]⟩
/-- The times of the meter that begins at a place. -/
def meterOf (s : Speeds) (r : Road) (p : Int) : Int × Int := (metersOf s r).getD p.toNat (0, 0)
theorem meterOf_eq {s : Speeds} {r : Road} (hr : r.Valid) {k : Nat} {x : Piece} (hx : r.pieces[k]? = some x) {p : Int} (h0 : sumLen r.pieces k ≤ p) (h1 : p < sumLen r.pieces k + x.len) : meterOf s r p = (quickT s x, slowT s x) := by
  have hk : k < r.pieces.length := (List.getElem?_eq_some_iff.1 hx).1
  have hl := metersUp_length (s := s) (k := k) (fun j q hj => hr.pieces j q (by omega)) (by omega)
  obtain ⟨t, ht⟩ := metersUp_prefix s r.pieces (show k + 1 ≤ r.pieces.length by omega)
  have hs0 := (hr.fit.2 k (by omega)).1
  have : (metersOf s r)[p.toNat]? = some (quickT s x, slowT s x) := by
    unfold metersOf
    rw [ht, metersUp_succ hx, List.append_assoc, List.getElem?_append_right (by omega), List.getElem?_append_left (by rw [List.length_replicate]; omega), List.getElem?_replicate, if_pos (by omega)]
  unfold meterOf
  rw [List.getD_eq_getElem?_getD, this]
  rfl
def MeterPost (s : Speeds) (r : Road) (p : Int) (w : World) (e : Ending) (w' : World) : Prop := e = .returned (.tuple #[.int .i64 (meterOf s r p).1, .int .i64 (meterOf s r p).2]) ∧ Below w.heap.size w w'
set_option maxRecDepth 100000 in
set_option maxHeartbeats 4000000 in
theorem ref3_meter (s : Speeds) (r : Road) (p : Int) (A0 A1 A2 B2 B3 : Option Addr) (n0 n1 n2 m2 m3 c0 c1 c2 d2 d3 : Nat) (w : World)
    (h0 : Rd 5 Piece.enc w A0 n0 r.pieces) (g2 : Rd 3 SpeedRow.enc w B2 m2 s.rows) (g3 : Rd 1 intEnc w B3 m3 s.surface) (hr : r.Valid) (hs : s.Valid) (hp0 : 0 ≤ p) (hp1 : p < r.length) :
    Calls Tryd.prog 66 #[.agg #[.slice A0 n0 c0, .slice A1 n1 c1, .slice A2 n2 c2], .agg #[.int .i64 s.least, .int .i64 s.most, .slice B2 m2 d2, .slice B3 m3 d3], .int .i64 p] w (MeterPost s r p w) := by
  have hn0 : n0 ≤ 2000 := by have := hr.few; have := h0.1; omega
  have hm2 : 1 ≤ m2 ∧ m2 ≤ 30 := by have := hs.some_; have := hs.few; have := g2.1; omega
  obtain ⟨hm2a, hm2b⟩ := hm2
  have hlen : Hid (r.length = sumLen r.pieces n0) := Lib.hid (by rw [← h0.1]; rfl)
  have hsh := hr.short
  have n9 : m3 = 9 := by have := hs.nine; have := g3.1; omega
  have H0 := Lib.hid h0
  have G2 := Lib.hid g2
  have G3 := Lib.hid g3
  have HR := Lib.hid hr
  have HS := Lib.hid hs
  clear h0 g2 g3 hr hs
  subst n9
  go_enter Tryd.func66, Tryd.ntmps66
  go_wp2
  obtain ⟨W1, hW1⟩ : ∃ W1, (w.alloc (.cells #[.slice A0 n0 c0, .slice A1 n1 c1, .slice A2 n2 c2] 26)).alloc (.cells #[.int .i64 s.least, .int .i64 s.most, .slice B2 m2 d2, .slice B3 9 d3] 30) = W1 := ⟨_, rfl⟩
  have HB : Below w.heap.size w W1 := by rw [← hW1]; exact (by repeat (first | assumption | exact Below.refl _ _ | apply bel_alloc | apply bel_drew | apply bel_drewN | (refine bel_set ?_ (by first | assumption | omega | (simp; done) | (simp; omega)) _)))
  have CR : Blk W1 w.heap.size 26 #[.slice A0 n0 c0, .slice A1 n1 c1, .slice A2 n2 c2] := by rw [← hW1]; exact (Blk.new _ _ _).alloc _
  have CS : Blk W1 (w.heap.size + 1) 30 #[.int .i64 s.least, .int .i64 s.most, .slice B2 m2 d2, .slice B3 9 d3] := by rw [← hW1]; exact Blk.new_at _ _ _ _ (by simp)
  rw [hW1]
  clear hW1
  have r0 := CR.cell 0
  have s0 := CS.cell 0
  have s1 := CS.cell 1
  have s2 := CS.cell 2
  have s3 := CS.cell 3
  have lr := CR.lt
  have ls := CS.lt
  have HCS := Lib.hid CS
  clear CR CS
  go_loop [2, 8] (fun v2 v8 => ∃ (k : Nat) (q : Int), k < n0 ∧ v8 = .int .i64 k ∧ v2 = .int .i64 q ∧ (0 ≤ q ∧ q ≤ 100000) ∧ Hid (q = p - sumLen r.pieces k)) (fun _ i => n0 - (intOf i).toNat)
  case atStart => exact ⟨0, p, by have := HR.out.some_; have := H0.out.1; omega, rfl, rfl, ⟨by omega, by omega⟩, Lib.hid (by rw [sumLen_zero]; omega)⟩
  case round =>
    obtain ⟨k, q, hk, rfl, rfl, ⟨hq0, hq1⟩, HQ⟩ := hrel
    obtain ⟨x, hx⟩ := H0.out.get hk
    obtain ⟨ad, e, x0, x1, x2, x3, x4⟩ := (H0.out.below HB).atPiece hx
    cases e
    have hok := HR.out.pieces k x (by have := H0.out.1; omega) hx
    have hl0 := hok.1
    have hl1 := hok.2.1
    have HX := Lib.hid hx
    have HOK := Lib.hid hok
    clear hx hok
    by_cases hge : x.len ≤ q
    · have hd : decide (x.len ≤ q) = true := decide_eq_true hge
      have hk1 : k + 1 < n0 := by
        rcases Nat.lt_or_ge (k + 1) n0 with h | h
        · exact h
        · obtain rfl : n0 = k + 1 := by omega
          have h1 := hlen.out
          rw [sumLen_succ HX.out] at h1
          have := HQ.out
          omega
      go_wp2
      go_round
      case rel => exact ⟨k + 1, q - x.len, hk1, by go_num, rfl, ⟨by omega, by omega⟩, Lib.hid (by rw [sumLen_succ HX.out, HQ.out]; omega)⟩
      case measure => simp [intOf]; omega
    · have hd : decide (x.len ≤ q) = false := decide_eq_false hge
      have hme : meterOf s r p = (quickT s x, slowT s x) := meterOf_eq HR.out HX.out (by have := HQ.out; omega) (by have := HQ.out; omega)
      have HME := Lib.hid hme
      clear hme
      obtain ⟨hg, hg1, hg2⟩ := surfOf_get HS.out HOK.out
      obtain ⟨bd, e, y0⟩ := (G3.out.below HB).at1 hg
      cases e
      have q1 := HOK.out.2.2.2.2.2.2.1
      have q2 := HOK.out.2.2.2.2.2.2.2.1
      rw [show (x.surface - 1).toNat = x.surface.toNat - 1 by omega] at y0
      have q3 : x.surface - 1 < 9 := by omega
      obtain ⟨z, hz⟩ : ∃ z, surfOf s x = z := ⟨_, rfl⟩
      rw [hz] at hg1 hg2 y0
      have HZ := Lib.hid hz
      clear hg hz
      have yb := World.block_lt_of_cell? _ _ y0
      by_cases ht : x.turn = 0
      · have htb : (x.turn != 0) = false := by simp [ht]
        have hro : rowOf s x = (s.least, s.most) := by unfold rowOf; rw [if_pos ht]
        have HRO := Lib.hid hro
        obtain ⟨hb1, hb2, hb3⟩ := bnd_iff.1 HS.out.bounds
        clear ht hro
        have e1 : 1 ≤ s.least * z := (by have := Int.mul_le_mul (show 1 ≤ s.least by omega) hg1 (by omega) (by omega); omega); have e2 : s.least * z ≤ 70000 := Int.le_trans (Int.mul_le_mul (show s.least ≤ 700 by omega) hg2 (by omega) (by omega)) (by omega); have e3 : 1 ≤ s.most * z := (by have := Int.mul_le_mul (show 1 ≤ s.most by omega) hg1 (by omega) (by omega); omega); have e4 : s.most * z ≤ 70000 := Int.le_trans (Int.mul_le_mul (show s.most ≤ 700 by omega) hg2 (by omega) (by omega)) (by omega); have f1 : 1 ≤ (s.most * z + 99) / 100 := (by omega); have f2 : ((s.most * z + 99) / 100 == 0) = false := (by simp; omega)
        rcases Decidable.em (s.least * z / 100 ≤ 1) with hmx | hmx
        · go_wp2
          go_quiet (fail)
          go_wp2
          go_quiet (fail); go_wp2; go_ret2; refine ⟨ret_int2 (by rw [HME.out]; show _ = quickT s x; unfold quickT; rw [HRO.out, HZ.out]) (by rw [HME.out]; show _ = slowT s x; unfold slowT; rw [HRO.out, HZ.out]; first | (rw [show max 1 (s.least * z / 100) = 1 by omega]; rfl) | (rw [show max 1 (s.least * z / 100) = s.least * z / 100 by omega])), (by repeat (first | assumption | exact Below.refl _ _ | apply bel_alloc | apply bel_drew | apply bel_drewN | (refine bel_set ?_ (by first | assumption | omega | (simp; done) | (simp; omega)) _)))⟩
        · have f3 : (s.least * z / 100 == 0) = false := by simp; omega
          go_wp2
          go_quiet (fail)
          go_wp2
          go_quiet (fail); go_wp2; go_ret2; refine ⟨ret_int2 (by rw [HME.out]; show _ = quickT s x; unfold quickT; rw [HRO.out, HZ.out]) (by rw [HME.out]; show _ = slowT s x; unfold slowT; rw [HRO.out, HZ.out]; first | (rw [show max 1 (s.least * z / 100) = 1 by omega]; rfl) | (rw [show max 1 (s.least * z / 100) = s.least * z / 100 by omega])), (by repeat (first | assumption | exact Below.refl _ _ | apply bel_alloc | apply bel_drew | apply bel_drewN | (refine bel_set ?_ (by first | assumption | omega | (simp; done) | (simp; omega)) _)))⟩
      · have htb : (x.turn != 0) = true := by simp [ht]
        have hro : rowOf s x = rowDown s.rows x.radius m2 := by unfold rowOf; rw [if_neg ht, G2.out.1]
        have h5 : 5 ≤ x.radius := (HOK.out.2.2.2.2.2.2.2.2.2 ht).1
        have HRO := Lib.hid hro
        clear ht hro
        go_wp2
        go_quiet (fail)
        go_wp2
        obtain ⟨W2, hW2⟩ : ∃ W2, (W1.alloc (.cells #[.int .i64 x.len, .int .i64 x.turn, .int .i64 x.radius, .int .i64 x.width, .int .i64 x.surface] 105)).drewN nq = W2 := ⟨_, rfl⟩
        have hB2 : Below W1.heap.size W1 W2 := by rw [← hW2]; exact (by repeat (first | assumption | exact Below.refl _ _ | apply bel_alloc | apply bel_drew | apply bel_drewN | (refine bel_set ?_ (by first | assumption | omega | (simp; done) | (simp; omega)) _)))
        have HCS2 := Lib.hid (HCS.out.below hB2)
        have HCX : Blk W2 W1.heap.size 105 #[.int .i64 x.len, .int .i64 x.turn, .int .i64 x.radius, .int .i64 x.width, .int .i64 x.surface] := by rw [← hW2]; exact (Blk.new _ _ _).drewN _
        have HB2 := Lib.hid hB2
        have y1 := bel_cell hB2 y0
        have p2 := HCX.cell 2
        have p4 := HCX.cell 4
        have s2' := HCS2.out.cell 2
        have s3' := HCS2.out.cell 3
        have lq := HCX.lt
        have ls2 := HCS2.out.lt
        rw [hW2]
        clear hW2 hB2 HCX y0 yb r0 s0 s1 s2 s3 x0 x1 x2 x3 x4
        go_loopw [10, 11, 12] (fun v10 v11 v12 wr => ∃ (j m : Nat) (lv mv : Int), j ≤ m2 ∧ v12 = .int .i64 j ∧ v10 = .int .i64 lv ∧ v11 = .int .i64 mv ∧ Hid ((lv, mv) = if j = 0 then (s.least, s.most) else rowDown s.rows x.radius j) ∧ wr = W2.drewN m) (fun _ _ v12 _ => m2 - (intOf v12).toNat)
        case atStart => exact ⟨0, 0, _, _, Nat.zero_le _, rfl, rfl, rfl, Lib.hid rfl, rfl⟩
        case round =>
          obtain ⟨j, m, lv, mv, hj, rfl, rfl, rfl, HLM, rfl⟩ := hrel
          by_cases hjl : j < m2
          · obtain ⟨y, hy⟩ := G2.out.get hjl
            have HY := Lib.hid hy
            clear hy
            obtain ⟨cd, e, z0, z1, z2⟩ := (G2.out.below (bel_then HB HB2.out)).atRow HY.out
            cases e
            by_cases hr : y.radius ≤ x.radius
            · have hd2 : decide (y.radius ≤ x.radius) = true := decide_eq_true hr
              have HN := Lib.hid (show ((y.least, y.most) = if j + 1 = 0 then (s.least, s.most) else rowDown s.rows x.radius (j + 1)) by rw [if_neg (by omega), rowDown_yes HY.out hr])
              clear hr
              go_wp2
              go_quiet (fail)
              go_wp2
              go_quiet (fail)
              go_wp2
              go_roundw
              case rel => exact ⟨j + 1, _, y.least, y.most, by omega, by go_num, rfl, rfl, HN, by first | rfl | (rw [World.drewN_drewN]; done) | (rw [World.drewN_drewN, World.drewN_drewN]; done)⟩
              case measure => simp [intOf]; omega
            · have hd2 : decide (y.radius ≤ x.radius) = false := decide_eq_false hr
              have hj0 : 0 < j := by
                rcases Nat.eq_zero_or_pos j with h | h
                · have := HS.out.five y (by rw [← h]; exact HY.out)
                  omega
                · exact h
              have HN := Lib.hid (show ((lv, mv) = if j + 1 = 0 then (s.least, s.most) else rowDown s.rows x.radius (j + 1)) by rw [if_neg (by omega), rowDown_no HY.out (by omega), HLM.out, if_neg (by omega)])
              clear hr
              go_wp2
              go_quiet (fail)
              go_wp2
              go_roundw
              case rel => exact ⟨j + 1, _, lv, mv, by omega, by go_num, rfl, rfl, HN, by first | rfl | (rw [World.drewN_drewN]; done)⟩
              case measure => simp [intOf]; omega
          · obtain rfl : m2 = j := by omega
            have hlm : rowDown s.rows x.radius m2 = (lv, mv) := by rw [HLM.out, if_neg (by omega)]
            have hbd := rowDown_bnd HS.out h5 m2 (by have := G2.out.1; omega) (by omega)
            rw [hlm] at hbd
            obtain ⟨hb1, hb2, hb3⟩ := bnd_iff.1 hbd
            have HRO2 := HRO.out
            rw [hlm] at HRO2
            have HRO := Lib.hid HRO2
            clear hlm hbd HRO2
            dsimp only at hb1 hb2 hb3
            have e1 : 1 ≤ lv * z := (by have := Int.mul_le_mul (show 1 ≤ lv by omega) hg1 (by omega) (by omega); omega); have e2 : lv * z ≤ 70000 := Int.le_trans (Int.mul_le_mul (show lv ≤ 700 by omega) hg2 (by omega) (by omega)) (by omega); have e3 : 1 ≤ mv * z := (by have := Int.mul_le_mul (show 1 ≤ mv by omega) hg1 (by omega) (by omega); omega); have e4 : mv * z ≤ 70000 := Int.le_trans (Int.mul_le_mul (show mv ≤ 700 by omega) hg2 (by omega) (by omega)) (by omega); have f1 : 1 ≤ (mv * z + 99) / 100 := (by omega); have f2 : ((mv * z + 99) / 100 == 0) = false := (by simp; omega)
            rcases Decidable.em (lv * z / 100 ≤ 1) with hmx | hmx
            · go_wp2
              go_quiet (fail); go_wp2; go_ret2; refine ⟨ret_int2 (by rw [HME.out]; show _ = quickT s x; unfold quickT; rw [HRO.out, HZ.out]) (by rw [HME.out]; show _ = slowT s x; unfold slowT; rw [HRO.out, HZ.out]; first | (rw [show max 1 (lv * z / 100) = 1 by omega]; rfl) | (rw [show max 1 (lv * z / 100) = lv * z / 100 by omega])), (bel_drewN (bel_drewN (bel_then HB HB2.out) _) _)⟩
            · have f3 : (lv * z / 100 == 0) = false := by simp; omega
              go_wp2
              go_quiet (fail); go_wp2; go_ret2; refine ⟨ret_int2 (by rw [HME.out]; show _ = quickT s x; unfold quickT; rw [HRO.out, HZ.out]) (by rw [HME.out]; show _ = slowT s x; unfold slowT; rw [HRO.out, HZ.out]; first | (rw [show max 1 (lv * z / 100) = 1 by omega]; rfl) | (rw [show max 1 (lv * z / 100) = lv * z / 100 by omega])), (bel_drewN (bel_drewN (bel_then HB HB2.out) _) _)⟩
end Go.Proofs.YtinglbcafcjhfaaDoor

namespace Go.Proofs.YtinglbcafcjhfaaDoor
open Go.RowKit
set_option linter.unusedVariables false
set_option linter.unusedSimpArgs false

section
variable {s : Speeds} {r : Road}
theorem metersOf_get (hr : r.Valid) {p : Int} (h0 : 0 ≤ p) (h1 : p < r.length) : (metersOf s r)[p.toNat]? = some (meterOf s r p) := by
  have hl := metersOf_length (s := s) hr
  unfold meterOf
  rw [List.getD_eq_getElem?_getD, List.getElem?_eq_getElem (by omega)]
  rfl
theorem at1_succ (hs : s.Valid) (hr : r.Valid) {p : Int} (h0 : 0 ≤ p) (h1 : p < r.length) : at1 (sumsOf s r) (p + 1) = at1 (sumsOf s r) p + (meterOf s r p).1 := by
  rw [at1_eq hs hr (by omega) (by omega), at1_eq hs hr h0 (by omega), show (p + 1).toNat = p.toNat + 1 by omega, List.take_add_one, metersOf_get hr h0 h1]
  show sum1 (_ ++ [meterOf s r p]) = _
  rw [sum1_app]
  simp [sum1]
theorem at2_succ (hs : s.Valid) (hr : r.Valid) {p : Int} (h0 : 0 ≤ p) (h1 : p < r.length) : at2 (sumsOf s r) (p + 1) = at2 (sumsOf s r) p + (meterOf s r p).2 := by
  rw [at2_eq hs hr (by omega) (by omega), at2_eq hs hr h0 (by omega), show (p + 1).toNat = p.toNat + 1 by omega, List.take_add_one, metersOf_get hr h0 h1]
  show sum2 (_ ++ [meterOf s r p]) = _
  rw [sum2_app]
  simp [sum2]
theorem meterOf_bound (hs : s.Valid) (hr : r.Valid) {p : Int} (h0 : 0 ≤ p) (h1 : p < r.length) : 0 ≤ (meterOf s r p).1 ∧ (meterOf s r p).1 ≤ 10000000 ∧ 0 ≤ (meterOf s r p).2 ∧ (meterOf s r p).2 ≤ 10000000 :=
  metersOf_bound hs hr _ (List.mem_of_getElem? (metersOf_get hr h0 h1))
theorem at_mono (hs : s.Valid) (hr : r.Valid) {a : Int} (h0 : 0 ≤ a) : ∀ (d : Nat), a + d ≤ r.length → (at1 (sumsOf s r) a ≤ at1 (sumsOf s r) (a + d) ∧ at1 (sumsOf s r) (a + d) ≤ at1 (sumsOf s r) a + 10000000 * d) ∧ (at2 (sumsOf s r) a ≤ at2 (sumsOf s r) (a + d) ∧ at2 (sumsOf s r) (a + d) ≤ at2 (sumsOf s r) a + 10000000 * d)
  | 0, _ => by simp
  | d + 1, h => by
    have ih := at_mono hs hr h0 d (by omega)
    have hb := meterOf_bound (s := s) hs hr (p := a + d) (by omega) (by omega)
    have e1 := at1_succ hs hr (p := a + d) (by omega) (by omega)
    have e2 := at2_succ hs hr (p := a + d) (by omega) (by omega)
    rw [show a + ((d + 1 : Nat) : Int) = a + d + 1 by omega, e1, e2]
    omega
theorem btw_bound (hs : s.Valid) (hr : r.Valid) {a b : Int} (h0 : 0 ≤ a) (h1 : a ≤ b) (h2 : b ≤ r.length) : 0 ≤ btwL s r a b ∧ btwL s r a b ≤ 1000000000000 ∧ 0 ≤ btwM s r a b ∧ btwM s r a b ≤ 1000000000000 := by
  have := at_mono hs hr h0 (b - a).toNat (by omega)
  rw [show a + (((b - a).toNat : Nat) : Int) = b by omega] at this
  have := hr.short
  unfold btwL btwM
  omega
end
def Between3Post (s : Speeds) (r : Road) (a b : Int) (w : World) (e : Ending) (w' : World) : Prop := e = .returned (.tuple #[.int .i64 (btwL s r a b), .int .i64 (btwM s r a b)]) ∧ Below w.heap.size w w'
set_option maxRecDepth 100000 in
set_option maxHeartbeats 2000000 in
theorem ref3_Between (s : Speeds) (r : Road) (A0 A1 A2 B2 B3 : Option Addr) (n0 n1 n2 m2 m3 c0 c1 c2 d2 d3 : Nat) (a b : Int) (w : World)
    (h0 : Rd 5 Piece.enc w A0 n0 r.pieces) (g2 : Rd 3 SpeedRow.enc w B2 m2 s.rows) (g3 : Rd 1 intEnc w B3 m3 s.surface) (hok : BtwOk s r a b) :
    Calls Tryd.prog 24 #[.agg #[.slice A0 n0 c0, .slice A1 n1 c1, .slice A2 n2 c2], .agg #[.int .i64 s.least, .int .i64 s.most, .slice B2 m2 d2, .slice B3 m3 d3], .int .i64 a, .int .i64 b] w (Between3Post s r a b w) := by
  obtain ⟨hr, hs, ha, hab, hb⟩ := hok
  have hsh := hr.short
  have H0 := Lib.hid h0
  have G2 := Lib.hid g2
  have G3 := Lib.hid g3
  have HR := Lib.hid hr
  have HS := Lib.hid hs
  clear h0 g2 g3 hr hs
  go_enter Tryd.func24, Tryd.ntmps24
  go_wp2
  go_loopw [10, 11, 12] (fun v10 v11 v12 wr => ∃ (q lv mv : Int), (a ≤ q ∧ q ≤ b) ∧ v12 = .int .i64 q ∧ v10 = .int .i64 lv ∧ v11 = .int .i64 mv ∧ Hid (lv = btwL s r a q ∧ mv = btwM s r a q) ∧ Hid (Blk wr w.heap.size 26 #[.slice A0 n0 c0, .slice A1 n1 c1, .slice A2 n2 c2]) ∧ Hid (Blk wr (w.heap.size + 1) 30 #[.int .i64 s.least, .int .i64 s.most, .slice B2 m2 d2, .slice B3 m3 d3]) ∧ Hid (Below w.heap.size w wr)) (fun _ _ v12 _ => (b - intOf v12).toNat)
  case atStart => exact ⟨a, 0, 0, ⟨Int.le_refl _, hab⟩, rfl, rfl, rfl, Lib.hid (by unfold btwL btwM; omega), Lib.hid ((Blk.new _ _ _).alloc _), Lib.hid (Blk.new_at _ _ _ _ (by simp)), Lib.hid (by repeat (first | assumption | exact Below.refl _ _ | apply bel_alloc | apply bel_drew | apply bel_drewN | (refine bel_set ?_ (by first | assumption | omega | (simp; done) | (simp; omega)) _)))⟩
  case round =>
    obtain ⟨q, lv, mv, ⟨hq0, hq1⟩, rfl, rfl, rfl, HV, HKR, HKS, HB⟩ := hrel
    have r0 := HKR.out.cell 0
    have r1 := HKR.out.cell 1
    have r2 := HKR.out.cell 2
    have s0 := HKS.out.cell 0
    have s1 := HKS.out.cell 1
    have s2 := HKS.out.cell 2
    have s3 := HKS.out.cell 3
    by_cases hlt : q < b
    · have hbb := btw_bound HS.out HR.out ha hq0 (by omega)
      rw [← HV.out.1, ← HV.out.2] at hbb
      obtain ⟨b1, b2, b3, b4⟩ := hbb
      have hmb := meterOf_bound HS.out HR.out (p := q) (by omega) (by omega)
      obtain ⟨xm, hxm⟩ : ∃ xm, (meterOf s r q).1 = xm := ⟨_, rfl⟩
      obtain ⟨ym, hym⟩ : ∃ ym, (meterOf s r q).2 = ym := ⟨_, rfl⟩
      rw [hxm, hym] at hmb
      obtain ⟨b5, b6, b7, b8⟩ := hmb
      have HX := Lib.hid hxm
      have HY := Lib.hid hym
      have HN := Lib.hid (show lv + xm = btwL s r a (q + 1) ∧ mv + ym = btwM s r a (q + 1) by
        have e1 := at1_succ HS.out HR.out (p := q) (by omega) (by omega)
        have e2 := at2_succ HS.out HR.out (p := q) (by omega) (by omega)
        rw [hxm] at e1
        rw [hym] at e2
        rw [HV.out.1, HV.out.2]
        unfold btwL btwM
        rw [e1, e2]
        omega)
      clear hxm hym
      go_wp2_with (go_at_call 66; go_must ((refine (ref3_meter s r q A0 A1 A2 B2 B3 n0 n1 n2 m2 m3 c0 c1 c2 d2 d3 _ (H0.out.below HB.out) (G2.out.below HB.out) (G3.out.below HB.out) HR.out HS.out (by omega) (by omega)).mono ?_; rintro e w1 ⟨rfl, hw1⟩; rw [HX.out, HY.out])))
      go_roundw
      case rel => exact ⟨q + 1, lv + xm, mv + ym, ⟨by omega, by omega⟩, rfl, rfl, rfl, HN, Lib.hid (HKR.out.below hw1), Lib.hid (HKS.out.below hw1), Lib.hid (bel_then HB.out hw1)⟩
      case measure => simp [intOf]; omega
    · obtain rfl : q = b := by omega
      go_wp2
      go_ret2
      exact ⟨ret_int2 HV.out.1 HV.out.2, HB.out⟩
end Go.Proofs.YtinglbcafcjhfaaDoor
