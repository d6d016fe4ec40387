/- The contract of pace.begin where the road or the speeds are not valid. -/
import Derived.Test.YtinglbcafcjhfaaDoorPaceE
import Derived.Test.YtinglbcafcjhfaaDoorPaceV
namespace Go.Proofs.YtinglbcafcjhfaaDoor
open Go.RowKit
set_option linter.unusedVariables false
theorem pace_begin_no (s : Speeds) (r : Road) (A0 A1 A2 B2 B3 : Option Addr) (n0 n1 n2 m2 m3 c0 c1 c2 d2 d3 : Nat) (w : World)
    (h0 : Rd 5 Piece.enc w A0 n0 r.pieces) (h1 : Rd 2 Crest.enc w A1 n1 r.crests) (h2 : Rd 3 Junction.enc w A2 n2 r.juncs) (g2 : Rd 3 SpeedRow.enc w B2 m2 s.rows) (g3 : Rd 1 intEnc w B3 m3 s.surface) (hn : ¬(r.Valid ∧ s.Valid)) :
    Calls Tryd.prog 58 #[.agg #[.slice A0 n0 c0, .slice A1 n1 c1, .slice A2 n2 c2], .agg #[.int .i64 s.least, .int .i64 s.most, .slice B2 m2 d2, .slice B3 m3 d3]] w fun e w' => e = .returned (.tuple #[.pointer none, .bool false]) ∧ Below w.heap.size w w' := by
  have H0 := Lib.hid h0
  have H1 := Lib.hid h1
  have H2 := Lib.hid h2
  have G2 := Lib.hid g2
  have G3 := Lib.hid g3
  clear h0 h1 h2 g2 g3
  go_enter Tryd.func58, Tryd.ntmps58
  by_cases hr : r.Valid
  · have hs : ¬s.Valid := fun h => hn ⟨hr, h⟩
    have HCK := Lib.hid (Road.chk_ok hr)
    have HSK := Lib.hid (Speeds.chk_no hs)
    clear hn
    go_wp2_with (first
      | (go_at_call 81; refine (road_Length r A0 A1 A2 n0 n1 n2 c0 c1 c2 _ (H0.out.below (by repeat (first | assumption | exact Below.refl _ _ | apply bel_alloc | apply bel_drew | apply bel_drewN | (refine bel_set ?_ (by first | assumption | omega | (simp; done) | (simp; omega)) _)))) (H1.out.below (by repeat (first | assumption | exact Below.refl _ _ | apply bel_alloc | apply bel_drew | apply bel_drewN | (refine bel_set ?_ (by first | assumption | omega | (simp; done) | (simp; omega)) _)))) (H2.out.below (by repeat (first | assumption | exact Below.refl _ _ | apply bel_alloc | apply bel_drew | apply bel_drewN | (refine bel_set ?_ (by first | assumption | omega | (simp; done) | (simp; omega)) _))))).mono ?_; rintro e w1 ⟨rfl, hw1⟩; rw [HCK.out]; obtain ⟨hc1, hf1⟩ := bcell hw1; have hz1 : w.heap.size + 1 < w1.heap.size := by have := hw1.size; simp at this; omega)
      | (go_at_call 20; refine (pace_Check s B2 B3 m2 m3 d2 d3 _ (G2.out.below (bel_then (by repeat (first | assumption | exact Below.refl _ _ | apply bel_alloc | apply bel_drew | apply bel_drewN | (refine bel_set ?_ (by first | assumption | omega | (simp; done) | (simp; omega)) _))) hw1)) (G3.out.below (bel_then (by repeat (first | assumption | exact Below.refl _ _ | apply bel_alloc | apply bel_drew | apply bel_drewN | (refine bel_set ?_ (by first | assumption | omega | (simp; done) | (simp; omega)) _))) hw1))).mono ?_; rintro e w2 ⟨rfl, hw2⟩; rw [HSK.out]))
    exact bodyPost_ret (v := .tuple #[.pointer none, .bool false]) (by simp [results, Tryd.f58, go_sem]) rfl ⟨rfl, bel_then (bel_then (by repeat (first | assumption | exact Below.refl _ _ | apply bel_alloc | apply bel_drew | apply bel_drewN | (refine bel_set ?_ (by first | assumption | omega | (simp; done) | (simp; omega)) _))) hw1) hw2⟩
  · have HCK := Lib.hid (Road.chk_no hr)
    clear hn
    go_wp2_with (go_at_call 81; refine (road_Length r A0 A1 A2 n0 n1 n2 c0 c1 c2 _ (H0.out.below (by repeat (first | assumption | exact Below.refl _ _ | apply bel_alloc | apply bel_drew | apply bel_drewN | (refine bel_set ?_ (by first | assumption | omega | (simp; done) | (simp; omega)) _)))) (H1.out.below (by repeat (first | assumption | exact Below.refl _ _ | apply bel_alloc | apply bel_drew | apply bel_drewN | (refine bel_set ?_ (by first | assumption | omega | (simp; done) | (simp; omega)) _)))) (H2.out.below (by repeat (first | assumption | exact Below.refl _ _ | apply bel_alloc | apply bel_drew | apply bel_drewN | (refine bel_set ?_ (by first | assumption | omega | (simp; done) | (simp; omega)) _))))).mono ?_; rintro e w1 ⟨rfl, hw1⟩; rw [HCK.out])
    exact bodyPost_ret (v := .tuple #[.pointer none, .bool false]) (by simp [results, Tryd.f58, go_sem]) rfl ⟨rfl, bel_then (by repeat (first | assumption | exact Below.refl _ _ | apply bel_alloc | apply bel_drew | apply bel_drewN | (refine bel_set ?_ (by first | assumption | omega | (simp; done) | (simp; omega)) _))) hw1⟩
end Go.Proofs.YtinglbcafcjhfaaDoor
