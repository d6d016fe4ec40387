/- The contract of pace.begin where the road or the speeds are not valid. The contract of pace.Between. -/
import Derived.Test.YtinglbcafcjhfaaDoorPaceE
import Derived.Test.YtinglbcafcjhfaaDoorPaceV
namespace Go.Proofs.YtinglbcafcjhfaaDoor
open Go.RowKit
set_option linter.unusedVariables false
theorem pace_begin_no (s : Speeds) (r : Road) (A0 A1 A2 B2 B3 : Option Addr) (n0 n1 n2 m2 m3 c0 c1 c2 d2 d3 : Nat) (w : World)
    (h0 : Rd 5 Piece.enc w A0 n0 r.pieces) (h1 : Rd 2 Crest.enc w A1 n1 r.crests) (h2 : Rd 3 Junction.enc w A2 n2 r.juncs) (g2 : Rd 3 SpeedRow.enc w B2 m2 s.rows) (g3 : Rd 1 intEnc w B3 m3 s.surface) (hn : ¬(r.Valid ∧ s.Valid)) :
    Calls Tryd.prog 58 #[.agg #[.slice A0 n0 c0, .slice A1 n1 c1, .slice A2 n2 c2], .agg #[.int .i64 s.least, .int .i64 s.most, .slice B2 m2 d2, .slice B3 m3 d3]] w fun e w' => e = .returned (.tuple #[.pointer none, .bool false]) ∧ Below w.heap.size w w' := by
  have H0 := Lib.hid h0
  have H1 := Lib.hid h1
  have H2 := Lib.hid h2
  have G2 := Lib.hid g2
  have G3 := Lib.hid g3
  clear h0 h1 h2 g2 g3
  go_enter Tryd.func58, Tryd.ntmps58
  by_cases hr : r.Valid
  · have hs : ¬s.Valid := fun h => hn ⟨hr, h⟩
    have HCK := Lib.hid (Road.chk_ok hr)
    have HSK := Lib.hid (Speeds.chk_no hs)
    clear hn
    go_wp2_with (first
      | (go_at_call 81; refine (road_Length r A0 A1 A2 n0 n1 n2 c0 c1 c2 _ (H0.out.below (by repeat (first | assumption | exact Below.refl _ _ | apply bel_alloc | apply bel_drew | apply bel_drewN | (refine bel_set ?_ (by first | assumption | omega | (simp; done) | (simp; omega)) _)))) (H1.out.below (by repeat (first | assumption | exact Below.refl _ _ | apply bel_alloc | apply bel_drew | apply bel_drewN | (refine bel_set ?_ (by first | assumption | omega | (simp; done) | (simp; omega)) _)))) (H2.out.below (by repeat (first | assumption | exact Below.refl _ _ | apply bel_alloc | apply bel_drew | apply bel_drewN | (refine bel_set ?_ (by first | assumption | omega | (simp; done) | (simp; omega)) _))))).mono ?_; rintro e w1 ⟨rfl, hw1⟩; rw [HCK.out]; obtain ⟨hc1, hf1⟩ := bcell hw1; have hz1 : w.heap.size + 1 < w1.heap.size := by have := hw1.size; simp at this; omega)
      | (go_at_call 20; refine (pace_Check s B2 B3 m2 m3 d2 d3 _ (G2.out.below (bel_then (by repeat (first | assumption | exact Below.refl _ _ | apply bel_alloc | apply bel_drew | apply bel_drewN | (refine bel_set ?_ (by first | assumption | omega | (simp; done) | (simp; omega)) _))) hw1)) (G3.out.below (bel_then (by repeat (first | assumption | exact Below.refl _ _ | apply bel_alloc | apply bel_drew | apply bel_drewN | (refine bel_set ?_ (by first | assumption | omega | (simp; done) | (simp; omega)) _))) hw1))).mono ?_; rintro e w2 ⟨rfl, hw2⟩; rw [HSK.out]))
    exact bodyPost_ret (v := .tuple #[.pointer none, .bool false]) (by simp [results, Tryd.f58, go_sem]) rfl ⟨rfl, bel_then (bel_then (by repeat (first | assumption | exact Below.refl _ _ | apply bel_alloc | apply bel_drew | apply bel_drewN | (refine bel_set ?_ (by first | assumption | omega | (simp; done) | (simp; omega)) _))) hw1) hw2⟩
  · have HCK := Lib.hid (Road.chk_no hr)
    clear hn
    go_wp2_with (go_at_call 81; refine (road_Length r A0 A1 A2 n0 n1 n2 c0 c1 c2 _ (H0.out.below (by repeat (first | assumption | exact Below.refl _ _ | apply bel_alloc | apply bel_drew | apply bel_drewN | (refine bel_set ?_ (by first | assumption | omega | (simp; done) | (simp; omega)) _)))) (H1.out.below (by repeat (first | assumption | exact Below.refl _ _ | apply bel_alloc | apply bel_drew | apply bel_drewN | (refine bel_set ?_ (by first | assumption | omega | (simp; done) | (simp; omega)) _)))) (H2.out.below (by repeat (first | assumption | exact Below.refl _ _ | apply bel_alloc | apply bel_drew | apply bel_drewN | (refine bel_set ?_ (by first | assumption | omega | (simp; done) | (simp; omega)) _))))).mono ?_; rintro e w1 ⟨rfl, hw1⟩; rw [HCK.out])
    exact bodyPost_ret (v := .tuple #[.pointer none, .bool false]) (by simp [results, Tryd.f58, go_sem]) rfl ⟨rfl, bel_then (by repeat (first | assumption | exact Below.refl _ _ | apply bel_alloc | apply bel_drew | apply bel_drewN | (refine bel_set ?_ (by first | assumption | omega | (simp; done) | (simp; omega)) _))) hw1⟩
end Go.Proofs.YtinglbcafcjhfaaDoor

namespace Go.Proofs.YtinglbcafcjhfaaDoor
open Go.RowKit
set_option linter.unusedVariables false
set_option linter.unusedSimpArgs false
/-- The sums of the times up to each place of a road. -/
def sumsOf (s : Speeds) (r : Road) : List (Int × Int) := wsums (metersUp s r.pieces r.pieces.length)
def btwL (s : Speeds) (r : Road) (a b : Int) : Int := at1 (sumsOf s r) b - at1 (sumsOf s r) a
def btwM (s : Speeds) (r : Road) (a b : Int) : Int := at2 (sumsOf s r) b - at2 (sumsOf s r) a
def BtwOk (s : Speeds) (r : Road) (a b : Int) : Prop := r.Valid ∧ s.Valid ∧ 0 ≤ a ∧ a ≤ b ∧ b ≤ r.length
theorem ret_int3 {a b c d e f : Int} (h : a = d) (k : b = e) (m : c = f) : Ending.returned (.tuple #[.int .i64 a, .int .i64 b, .int .i64 c]) = .returned (.tuple #[.int .i64 d, .int .i64 e, .int .i64 f]) := by rw [h, k, m]
set_option maxRecDepth 100000 in
set_option maxHeartbeats 2000000 in
theorem pace_Between_yes (s : Speeds) (r : Road) (A0 A1 A2 B2 B3 : Option Addr) (n0 n1 n2 m2 m3 c0 c1 c2 d2 d3 : Nat) (a b : Int) (w : World)
    (h0 : Rd 5 Piece.enc w A0 n0 r.pieces) (h1 : Rd 2 Crest.enc w A1 n1 r.crests) (h2 : Rd 3 Junction.enc w A2 n2 r.juncs) (g2 : Rd 3 SpeedRow.enc w B2 m2 s.rows) (g3 : Rd 1 intEnc w B3 m3 s.surface) (hok : BtwOk s r a b) :
    Calls Tryd.prog 19 #[.agg #[.slice A0 n0 c0, .slice A1 n1 c1, .slice A2 n2 c2], .agg #[.int .i64 s.least, .int .i64 s.most, .slice B2 m2 d2, .slice B3 m3 d3], .int .i64 a, .int .i64 b] w fun e w' => e = .returned (.tuple #[.int .i64 (btwL s r a b), .int .i64 (btwM s r a b), .int .i64 0]) ∧ Below w.heap.size w w' := by
  obtain ⟨hr, hs, ha, hab, hb⟩ := hok
  have H0 := Lib.hid h0
  have H1 := Lib.hid h1
  have H2 := Lib.hid h2
  have G2 := Lib.hid g2
  have G3 := Lib.hid g3
  have HS := Lib.hid hs
  have HR := Lib.hid hr
  obtain ⟨N, hN⟩ : ∃ N : Nat, (N : Int) = r.length := ⟨r.length.toNat, by omega⟩
  have HN : Hid (r.length.toNat = N) := Lib.hid (by omega)
  have hbN : b ≤ (N : Int) := by omega
  have i1 : inB a 0 N = true := inB_iff.2 ⟨ha, by omega⟩
  have i2 : inB b 0 N = true := inB_iff.2 ⟨by omega, hbN⟩
  have i3 : decide (b < a) = false := by simp; omega
  clear h0 h1 h2 g2 g3 hs hr hb hN
  go_enter Tryd.func19, Tryd.ntmps19
  go_wp2_with (first
    | (go_at_call 58; refine (pace_begin_yes s r A0 A1 A2 B2 B3 n0 n1 n2 m2 m3 c0 c1 c2 d2 d3 _ (H0.out.below (by repeat (first | assumption | exact Below.refl _ _ | apply bel_alloc | apply bel_drew | apply bel_drewN | (refine bel_set ?_ (by first | assumption | omega | (simp; done) | (simp; omega)) _)))) (H1.out.below (by repeat (first | assumption | exact Below.refl _ _ | apply bel_alloc | apply bel_drew | apply bel_drewN | (refine bel_set ?_ (by first | assumption | omega | (simp; done) | (simp; omega)) _)))) (H2.out.below (by repeat (first | assumption | exact Below.refl _ _ | apply bel_alloc | apply bel_drew | apply bel_drewN | (refine bel_set ?_ (by first | assumption | omega | (simp; done) | (simp; omega)) _)))) (G2.out.below (by repeat (first | assumption | exact Below.refl _ _ | apply bel_alloc | apply bel_drew | apply bel_drewN | (refine bel_set ?_ (by first | assumption | omega | (simp; done) | (simp; omega)) _)))) (G3.out.below (by repeat (first | assumption | exact Below.refl _ _ | apply bel_alloc | apply bel_drew | apply bel_drewN | (refine bel_set ?_ (by first | assumption | omega | (simp; done) | (simp; omega)) _)))) HS.out HR.out).mono ?_; rintro e w1 ⟨g, rfl, ht, hw1⟩; rw [HN.out] at ht; have HT := Lib.hid ht; clear ht)
    | (go_at_call 59; refine (track_place _ HT.out).mono ?_; rintro e w' ⟨rfl, rfl⟩)
    | (go_at_call 60; (with_reducible refine (between_least _ _ ha (by omega) (by omega) hbN HT.out).mono ?_); rintro e w' ⟨rfl, nq, rfl⟩)
    | (go_at_call 60; (with_reducible refine (between_most _ _ ha (by omega) (by omega) hbN (HT.out.drewN _)).mono ?_); rintro e w' ⟨rfl, nq2, rfl⟩))
  go_ret3
  exact ⟨rfl, bel_drewN (bel_then (by repeat (first | assumption | exact Below.refl _ _ | apply bel_alloc | apply bel_drew | apply bel_drewN | (refine bel_set ?_ (by first | assumption | omega | (simp; done) | (simp; omega)) _))) hw1) _⟩

set_option maxRecDepth 100000 in
set_option maxHeartbeats 2000000 in
theorem pace_Between_no (s : Speeds) (r : Road) (A0 A1 A2 B2 B3 : Option Addr) (n0 n1 n2 m2 m3 c0 c1 c2 d2 d3 : Nat) (a b : Int) (w : World)
    (h0 : Rd 5 Piece.enc w A0 n0 r.pieces) (h1 : Rd 2 Crest.enc w A1 n1 r.crests) (h2 : Rd 3 Junction.enc w A2 n2 r.juncs) (g2 : Rd 3 SpeedRow.enc w B2 m2 s.rows) (g3 : Rd 1 intEnc w B3 m3 s.surface) (hok : ¬BtwOk s r a b) :
    Calls Tryd.prog 19 #[.agg #[.slice A0 n0 c0, .slice A1 n1 c1, .slice A2 n2 c2], .agg #[.int .i64 s.least, .int .i64 s.most, .slice B2 m2 d2, .slice B3 m3 d3], .int .i64 a, .int .i64 b] w fun e w' => e = .returned (.tuple #[.int .i64 0, .int .i64 0, .int .i64 2]) ∧ Below w.heap.size w w' := by
  have H0 := Lib.hid h0
  have H1 := Lib.hid h1
  have H2 := Lib.hid h2
  have G2 := Lib.hid g2
  have G3 := Lib.hid g3
  by_cases hv : r.Valid ∧ s.Valid
  · have HR := Lib.hid hv.1
    have HS := Lib.hid hv.2
    have hl : 0 ≤ r.length := (hv.1.fit.2 _ (Nat.le_refl _)).1
    obtain ⟨N, hN⟩ : ∃ N : Nat, (N : Int) = r.length := ⟨r.length.toNat, by omega⟩
    have HN : Hid (r.length.toNat = N) := Lib.hid (by omega)
    have hout : inB a 0 N = false ∨ inB b 0 N = false ∨ decide (b < a) = true := by
      rw [inB_iff_false, inB_iff_false, decide_eq_true_eq]
      refine Classical.byContradiction fun h => hok ⟨hv.1, hv.2, ?_, ?_, ?_⟩ <;> omega
    have HOK := Lib.hid hok
    clear h0 h1 h2 g2 g3 hv hl hN hok
    rcases i1 : inB a 0 N <;> rcases i2 : inB b 0 N <;> rcases i3 : decide (b < a)
    case true.true.false => rw [i1, i2, i3] at hout; simp at hout
    all_goals
      clear hout
      go_enter Tryd.func19, Tryd.ntmps19
      go_wp2_with (first
        | (go_at_call 58; refine (pace_begin_yes s r A0 A1 A2 B2 B3 n0 n1 n2 m2 m3 c0 c1 c2 d2 d3 _ (H0.out.below (by repeat (first | assumption | exact Below.refl _ _ | apply bel_alloc | apply bel_drew | apply bel_drewN | (refine bel_set ?_ (by first | assumption | omega | (simp; done) | (simp; omega)) _)))) (H1.out.below (by repeat (first | assumption | exact Below.refl _ _ | apply bel_alloc | apply bel_drew | apply bel_drewN | (refine bel_set ?_ (by first | assumption | omega | (simp; done) | (simp; omega)) _)))) (H2.out.below (by repeat (first | assumption | exact Below.refl _ _ | apply bel_alloc | apply bel_drew | apply bel_drewN | (refine bel_set ?_ (by first | assumption | omega | (simp; done) | (simp; omega)) _)))) (G2.out.below (by repeat (first | assumption | exact Below.refl _ _ | apply bel_alloc | apply bel_drew | apply bel_drewN | (refine bel_set ?_ (by first | assumption | omega | (simp; done) | (simp; omega)) _)))) (G3.out.below (by repeat (first | assumption | exact Below.refl _ _ | apply bel_alloc | apply bel_drew | apply bel_drewN | (refine bel_set ?_ (by first | assumption | omega | (simp; done) | (simp; omega)) _)))) HS.out HR.out).mono ?_; rintro e w1 ⟨g, rfl, ht, hw1⟩; rw [HN.out] at ht; have HT := Lib.hid ht; clear ht)
        | (go_at_call 59; refine (track_place _ HT.out).mono ?_; rintro e w' ⟨rfl, rfl⟩))
      go_ret3
      exact ⟨rfl, bel_then (by repeat (first | assumption | exact Below.refl _ _ | apply bel_alloc | apply bel_drew | apply bel_drewN | (refine bel_set ?_ (by first | assumption | omega | (simp; done) | (simp; omega)) _))) hw1⟩
  · have HV := Lib.hid hv
    clear h0 h1 h2 g2 g3 hv hok
    go_enter Tryd.func19, Tryd.ntmps19
    go_wp2_with (go_at_call 58; refine (pace_begin_no s r A0 A1 A2 B2 B3 n0 n1 n2 m2 m3 c0 c1 c2 d2 d3 _ (H0.out.below (by repeat (first | assumption | exact Below.refl _ _ | apply bel_alloc | apply bel_drew | apply bel_drewN | (refine bel_set ?_ (by first | assumption | omega | (simp; done) | (simp; omega)) _)))) (H1.out.below (by repeat (first | assumption | exact Below.refl _ _ | apply bel_alloc | apply bel_drew | apply bel_drewN | (refine bel_set ?_ (by first | assumption | omega | (simp; done) | (simp; omega)) _)))) (H2.out.below (by repeat (first | assumption | exact Below.refl _ _ | apply bel_alloc | apply bel_drew | apply bel_drewN | (refine bel_set ?_ (by first | assumption | omega | (simp; done) | (simp; omega)) _)))) (G2.out.below (by repeat (first | assumption | exact Below.refl _ _ | apply bel_alloc | apply bel_drew | apply bel_drewN | (refine bel_set ?_ (by first | assumption | omega | (simp; done) | (simp; omega)) _)))) (G3.out.below (by repeat (first | assumption | exact Below.refl _ _ | apply bel_alloc | apply bel_drew | apply bel_drewN | (refine bel_set ?_ (by first | assumption | omega | (simp; done) | (simp; omega)) _)))) HV.out).mono ?_; rintro e w1 ⟨rfl, hw1⟩)
    go_ret3
    exact ⟨rfl, bel_then (by repeat (first | assumption | exact Below.refl _ _ | apply bel_alloc | apply bel_drew | apply bel_drewN | (refine bel_set ?_ (by first | assumption | omega | (simp; done) | (simp; omega)) _))) hw1⟩
end Go.Proofs.YtinglbcafcjhfaaDoor
