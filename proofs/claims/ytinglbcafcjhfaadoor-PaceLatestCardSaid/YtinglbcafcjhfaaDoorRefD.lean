/- The contract of the reference's Between. -/
import Derived.Test.YtinglbcafcjhfaaDoorRefC
namespace Go.Proofs.YtinglbcafcjhfaaDoor
open Go.RowKit
set_option linter.unusedVariables false
set_option linter.unusedSimpArgs false

section
variable {s : Speeds} {r : Road}
theorem metersOf_get (hr : r.Valid) {p : Int} (h0 : 0 ≤ p) (h1 : p < r.length) : (metersOf s r)[p.toNat]? = some (meterOf s r p) := by
  have hl := metersOf_length (s := s) hr
  unfold meterOf
  rw [List.getD_eq_getElem?_getD, List.getElem?_eq_getElem (by omega)]
  rfl
theorem at1_succ (hs : s.Valid) (hr : r.Valid) {p : Int} (h0 : 0 ≤ p) (h1 : p < r.length) : at1 (sumsOf s r) (p + 1) = at1 (sumsOf s r) p + (meterOf s r p).1 := by
  rw [at1_eq hs hr (by omega) (by omega), at1_eq hs hr h0 (by omega), show (p + 1).toNat = p.toNat + 1 by omega, List.take_add_one, metersOf_get hr h0 h1]
  show sum1 (_ ++ [meterOf s r p]) = _
  rw [sum1_app]
  simp [sum1]
theorem at2_succ (hs : s.Valid) (hr : r.Valid) {p : Int} (h0 : 0 ≤ p) (h1 : p < r.length) : at2 (sumsOf s r) (p + 1) = at2 (sumsOf s r) p + (meterOf s r p).2 := by
  rw [at2_eq hs hr (by omega) (by omega), at2_eq hs hr h0 (by omega), show (p + 1).toNat = p.toNat + 1 by omega, List.take_add_one, metersOf_get hr h0 h1]
  show sum2 (_ ++ [meterOf s r p]) = _
  rw [sum2_app]
  simp [sum2]
theorem meterOf_bound (hs : s.Valid) (hr : r.Valid) {p : Int} (h0 : 0 ≤ p) (h1 : p < r.length) : 0 ≤ (meterOf s r p).1 ∧ (meterOf s r p).1 ≤ 10000000 ∧ 0 ≤ (meterOf s r p).2 ∧ (meterOf s r p).2 ≤ 10000000 :=
  metersOf_bound hs hr _ (List.mem_of_getElem? (metersOf_get hr h0 h1))
theorem at_mono (hs : s.Valid) (hr : r.Valid) {a : Int} (h0 : 0 ≤ a) : ∀ (d : Nat), a + d ≤ r.length → (at1 (sumsOf s r) a ≤ at1 (sumsOf s r) (a + d) ∧ at1 (sumsOf s r) (a + d) ≤ at1 (sumsOf s r) a + 10000000 * d) ∧ (at2 (sumsOf s r) a ≤ at2 (sumsOf s r) (a + d) ∧ at2 (sumsOf s r) (a + d) ≤ at2 (sumsOf s r) a + 10000000 * d)
  | 0, _ => by simp
  | d + 1, h => by
    have ih := at_mono hs hr h0 d (by omega)
    have hb := meterOf_bound (s := s) hs hr (p := a + d) (by omega) (by omega)
    have e1 := at1_succ hs hr (p := a + d) (by omega) (by omega)
    have e2 := at2_succ hs hr (p := a + d) (by omega) (by omega)
    rw [show a + ((d + 1 : Nat) : Int) = a + d + 1 by omega, e1, e2]
    omega
theorem btw_bound (hs : s.Valid) (hr : r.Valid) {a b : Int} (h0 : 0 ≤ a) (h1 : a ≤ b) (h2 : b ≤ r.length) : 0 ≤ btwL s r a b ∧ btwL s r a b ≤ 1000000000000 ∧ 0 ≤ btwM s r a b ∧ btwM s r a b ≤ 1000000000000 := by
  have := at_mono hs hr h0 (b - a).toNat (by omega)
  rw [show a + (((b - a).toNat : Nat) : Int) = b by omega] at this
  have := hr.short
  unfold btwL btwM
  omega
end
def Between3Post (s : Speeds) (r : Road) (a b : Int) (w : World) (e : Ending) (w' : World) : Prop := e = .returned (.tuple #[.int .i64 (btwL s r a b), .int .i64 (btwM s r a b)]) ∧ Below w.heap.size w w'
set_option maxRecDepth 100000 in
set_option maxHeartbeats 2000000 in
theorem ref3_Between (s : Speeds) (r : Road) (A0 A1 A2 B2 B3 : Option Addr) (n0 n1 n2 m2 m3 c0 c1 c2 d2 d3 : Nat) (a b : Int) (w : World)
    (h0 : Rd 5 Piece.enc w A0 n0 r.pieces) (g2 : Rd 3 SpeedRow.enc w B2 m2 s.rows) (g3 : Rd 1 intEnc w B3 m3 s.surface) (hok : BtwOk s r a b) :
    Calls Tryd.prog 24 #[.agg #[.slice A0 n0 c0, .slice A1 n1 c1, .slice A2 n2 c2], .agg #[.int .i64 s.least, .int .i64 s.most, .slice B2 m2 d2, .slice B3 m3 d3], .int .i64 a, .int .i64 b] w (Between3Post s r a b w) := by
  obtain ⟨hr, hs, ha, hab, hb⟩ := hok
  have hsh := hr.short
  have H0 := Lib.hid h0
  have G2 := Lib.hid g2
  have G3 := Lib.hid g3
  have HR := Lib.hid hr
  have HS := Lib.hid hs
  clear h0 g2 g3 hr hs
  go_enter Tryd.func24, Tryd.ntmps24
  go_wp2
  go_loopw [10, 11, 12] (fun v10 v11 v12 wr => ∃ (q lv mv : Int), (a ≤ q ∧ q ≤ b) ∧ v12 = .int .i64 q ∧ v10 = .int .i64 lv ∧ v11 = .int .i64 mv ∧ Hid (lv = btwL s r a q ∧ mv = btwM s r a q) ∧ Hid (Blk wr w.heap.size 26 #[.slice A0 n0 c0, .slice A1 n1 c1, .slice A2 n2 c2]) ∧ Hid (Blk wr (w.heap.size + 1) 30 #[.int .i64 s.least, .int .i64 s.most, .slice B2 m2 d2, .slice B3 m3 d3]) ∧ Hid (Below w.heap.size w wr)) (fun _ _ v12 _ => (b - intOf v12).toNat)
  case atStart => exact ⟨a, 0, 0, ⟨Int.le_refl _, hab⟩, rfl, rfl, rfl, Lib.hid (by unfold btwL btwM; omega), Lib.hid ((Blk.new _ _ _).alloc _), Lib.hid (Blk.new_at _ _ _ _ (by simp)), Lib.hid (by repeat (first | assumption | exact Below.refl _ _ | apply bel_alloc | apply bel_drew | apply bel_drewN | (refine bel_set ?_ (by first | assumption | omega | (simp; done) | (simp; omega)) _)))⟩
  case round =>
    obtain ⟨q, lv, mv, ⟨hq0, hq1⟩, rfl, rfl, rfl, HV, HKR, HKS, HB⟩ := hrel
    have r0 := HKR.out.cell 0
    have r1 := HKR.out.cell 1
    have r2 := HKR.out.cell 2
    have s0 := HKS.out.cell 0
    have s1 := HKS.out.cell 1
    have s2 := HKS.out.cell 2
    have s3 := HKS.out.cell 3
    by_cases hlt : q < b
    · have hbb := btw_bound HS.out HR.out ha hq0 (by omega)
      rw [← HV.out.1, ← HV.out.2] at hbb
      obtain ⟨b1, b2, b3, b4⟩ := hbb
      have hmb := meterOf_bound HS.out HR.out (p := q) (by omega) (by omega)
      obtain ⟨xm, hxm⟩ : ∃ xm, (meterOf s r q).1 = xm := ⟨_, rfl⟩
      obtain ⟨ym, hym⟩ : ∃ ym, (meterOf s r q).2 = ym := ⟨_, rfl⟩
      rw [hxm, hym] at hmb
      obtain ⟨b5, b6, b7, b8⟩ := hmb
      have HX := Lib.hid hxm
      have HY := Lib.hid hym
      have HN := Lib.hid (show lv + xm = btwL s r a (q + 1) ∧ mv + ym = btwM s r a (q + 1) by
        have e1 := at1_succ HS.out HR.out (p := q) (by omega) (by omega)
        have e2 := at2_succ HS.out HR.out (p := q) (by omega) (by omega)
        rw [hxm] at e1
        rw [hym] at e2
        rw [HV.out.1, HV.out.2]
        unfold btwL btwM
        rw [e1, e2]
        omega)
      clear hxm hym
      go_wp2_with (go_at_call 66; go_must ((refine (ref3_meter s r q A0 A1 A2 B2 B3 n0 n1 n2 m2 m3 c0 c1 c2 d2 d3 _ (H0.out.below HB.out) (G2.out.below HB.out) (G3.out.below HB.out) HR.out HS.out (by omega) (by omega)).mono ?_; rintro e w1 ⟨rfl, hw1⟩; rw [HX.out, HY.out])))
      go_roundw
      case rel => exact ⟨q + 1, lv + xm, mv + ym, ⟨by omega, by omega⟩, rfl, rfl, rfl, HN, Lib.hid (HKR.out.below hw1), Lib.hid (HKS.out.below hw1), Lib.hid (bel_then HB.out hw1)⟩
      case measure => simp [intOf]; omega
    · obtain rfl : q = b := by omega
      go_wp2
      go_ret2
      exact ⟨ret_int2 HV.out.1 HV.out.2, HB.out⟩
end Go.Proofs.YtinglbcafcjhfaaDoor
