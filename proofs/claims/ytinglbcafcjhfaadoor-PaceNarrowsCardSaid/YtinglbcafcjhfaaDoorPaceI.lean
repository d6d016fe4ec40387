/- The contract of pace.Plan. -/
import Derived.Test.YtinglbcafcjhfaaDoorPaceH
import Derived.Test.YtinglbcafcjhfaaDoorRoadC
import Derived.WalkMore
import Derived.Outline
import Derived.Deep.DeepMust
import Derived.RegionTactic
namespace Go.Proofs.YtinglbcafcjhfaaDoor
open Go.RowKit
set_option linter.unusedVariables false
set_option linter.unusedSimpArgs false
/-- What Plan finds: the triggers so far; the first call that begins too early; the first calls that cannot be in time. -/
def roomQ (sums : List (Int × Int)) (l : List Call) (i : Nat) (p : Int) : Bool := decide (at1 sums p ≤ rmR sums l i (l.length - i))
def InTimeUp (sums : List (Int × Int)) (l : List Call) (k : Nat) : Prop := ∀ i, i < k → rmL sums l i (l.length - i) < 0
def GsIs (sums : List (Int × Int)) (l : List Call) (gs : List Int) (k : Nat) : Prop := gs.length = k ∧ ∀ i c, i < k → l[i]? = some c → ∃ g, gs[i]? = some g ∧ LastIs (roomQ sums l i) c.place g
def TooEarly (sums : List (Int × Int)) (l : List Call) (gs : List Int) (i : Nat) : Prop := ∃ c g, l[i]? = some c ∧ gs[i]? = some g ∧ c.ahead < at2 sums c.place - at2 sums g
def EarlyIs (sums : List (Int × Int)) (l : List Call) (gs : List Int) (k : Nat) (ev : Int) : Prop := (ev = -1 ∧ ∀ i, i < k → ¬TooEarly sums l gs i) ∨ ∃ j : Nat, j < k ∧ ev = j ∧ TooEarly sums l gs j ∧ ∀ i, i < j → ¬TooEarly sums l gs i
def PlanPost (sums : List (Int × Int)) (l : List Call) (w : World) (e : Ending) (w' : World) : Prop := Below w.heap.size w w' ∧
  ((∃ j late : Nat, j < l.length ∧ InTimeUp sums l j ∧ rmL sums l j (l.length - j) = late ∧ e = .returned (.tuple #[.slice none 0 0, .agg #[.int .i64 j, .int .i64 late, .bool false], .int .i64 5])) ∨
   (InTimeUp sums l l.length ∧ ∃ gs, GsIs sums l gs l.length ∧
    ((∃ ev : Nat, EarlyIs sums l gs l.length ev ∧ e = .returned (.tuple #[.slice none 0 0, .agg #[.int .i64 ev, .int .i64 ev, .bool true], .int .i64 5])) ∨
     (EarlyIs sums l gs l.length (-1) ∧ ∃ A c, Rd 1 intEnc w' A l.length gs ∧ l.length ≤ c ∧ e = .returned (.tuple #[.slice A l.length c, .agg #[.int .i64 0, .int .i64 0, .bool false], .int .i64 0])))))
section
variable {sums : List (Int × Int)} {l : List Call} {gs : List Int} {k i : Nat} {x : Call} {low ev : Int}
theorem InTimeUp.succ (h : InTimeUp sums l k) (hl : rmL sums l k (l.length - k) < 0) : InTimeUp sums l (k + 1) := fun j hj => by
  rcases Nat.lt_or_ge j k with hk | hk
  · exact h j hk
  · obtain rfl : j = k := by omega
    exact hl
theorem GsIs.zero : GsIs sums l [] 0 := ⟨rfl, fun i c hi => by omega⟩
theorem GsIs.succ (h : GsIs sums l gs k) (hx : l[k]? = some x) (hl : LastIs (roomQ sums l k) x.place low) : GsIs sums l (gs ++ [low]) (k + 1) := by
  refine ⟨by simp [h.1], fun i c hi hc => ?_⟩
  rcases Nat.lt_or_ge i k with hk | hk
  · obtain ⟨g, hg, h2⟩ := h.2 i c hk hc
    exact ⟨g, by rw [List.getElem?_append_left (by have := h.1; omega)]; exact hg, h2⟩
  · obtain rfl : i = k := by omega
    rw [hx] at hc
    cases hc
    refine ⟨low, ?_, hl⟩
    rw [List.getElem?_append_right (by have := h.1; omega), h.1]
    simp
theorem tooEarly_app (h : gs.length = k) (hi : i < k) : TooEarly sums l (gs ++ [low]) i ↔ TooEarly sums l gs i := by
  unfold TooEarly
  rw [List.getElem?_append_left (by omega)]
theorem tooEarly_last (h : gs.length = k) (hx : l[k]? = some x) : TooEarly sums l (gs ++ [low]) k ↔ x.ahead < at2 sums x.place - at2 sums low := by
  unfold TooEarly
  rw [List.getElem?_append_right (by omega), h, hx]
  simp
theorem EarlyIs.zero : EarlyIs sums l [] 0 (-1) := .inl ⟨rfl, fun i hi => by omega⟩
theorem EarlyIs.keep (h : EarlyIs sums l gs k ev) (hg : gs.length = k) (h0 : 0 ≤ ev) : EarlyIs sums l (gs ++ [low]) (k + 1) ev := by
  rcases h with ⟨h, _⟩ | ⟨j, h1, h2, h3, h4⟩
  · omega
  · exact .inr ⟨j, by omega, h2, (tooEarly_app hg h1).2 h3, fun i hi hh => h4 i hi ((tooEarly_app hg (by omega)).1 hh)⟩
theorem EarlyIs.not (h : EarlyIs sums l gs k ev) (hg : gs.length = k) (h0 : ev < 0) (hx : l[k]? = some x) (hn : ¬x.ahead < at2 sums x.place - at2 sums low) : EarlyIs sums l (gs ++ [low]) (k + 1) ev := by
  rcases h with ⟨h, h1⟩ | ⟨j, h1, h2, h3, h4⟩
  · refine .inl ⟨h, fun i hi hh => ?_⟩
    rcases Nat.lt_or_ge i k with hk | hk
    · exact h1 i hk ((tooEarly_app hg hk).1 hh)
    · obtain rfl : i = k := by omega
      exact hn ((tooEarly_last hg hx).1 hh)
  · omega
theorem EarlyIs.here (h : EarlyIs sums l gs k ev) (hg : gs.length = k) (h0 : ev < 0) (hx : l[k]? = some x) (hn : x.ahead < at2 sums x.place - at2 sums low) : EarlyIs sums l (gs ++ [low]) (k + 1) k := by
  rcases h with ⟨h, h1⟩ | ⟨j, h1, h2, h3, h4⟩
  · exact .inr ⟨k, by omega, rfl, (tooEarly_last hg hx).2 hn, fun i hi hh => h1 i hi ((tooEarly_app hg hi).1 hh)⟩
  · omega
end
set_option maxRecDepth 100000 in
set_option maxHeartbeats 4000000 in
theorem pace_Plan_yes (s : Speeds) (r : Road) (l : List Call) (A0 A1 A2 B2 B3 C : Option Addr) (n0 n1 n2 m2 m3 c0 c1 c2 d2 d3 n c : Nat) (w : World)
    (h0 : Rd 5 Piece.enc w A0 n0 r.pieces) (h1 : Rd 2 Crest.enc w A1 n1 r.crests) (h2 : Rd 3 Junction.enc w A2 n2 r.juncs) (g2 : Rd 3 SpeedRow.enc w B2 m2 s.rows) (g3 : Rd 1 intEnc w B3 m3 s.surface) (hc : Rd 5 Call.enc w C n l) (hr : r.Valid) (hs : s.Valid) (hl : CallsOk r.length l) :
    Calls Tryd.prog 31 #[.agg #[.slice A0 n0 c0, .slice A1 n1 c1, .slice A2 n2 c2], .agg #[.int .i64 s.least, .int .i64 s.most, .slice B2 m2 d2, .slice B3 m3 d3], .slice C n c] w (PlanPost (sumsOf s r) l w) := by
  obtain ⟨N, hN⟩ : ∃ N : Nat, (N : Int) = r.length := ⟨r.length.toNat, by have := (hr.fit.2 _ (Nat.le_refl _)).1; show ((sumLen r.pieces r.pieces.length).toNat : Int) = sumLen r.pieces r.pieces.length; omega⟩
  have HN : Hid (r.length.toNat = N) := Lib.hid (by omega)
  rw [← hN] at hl
  have H0 := Lib.hid h0
  have H1 := Lib.hid h1
  have H2 := Lib.hid h2
  have G2 := Lib.hid g2
  have G3 := Lib.hid g3
  have HC := Lib.hid hc
  have HS := Lib.hid hs
  have HR := Lib.hid hr
  have HLs := Lib.hid hl
  have hbo := bo_true hl
  clear h0 h1 h2 g2 g3 hs hr hN hl hc
  go_enter Tryd.func31, Tryd.ntmps31
  have hn := HC.out.1
  obtain rfl : n = l.length := hn.symm
  have hn3 := HLs.out.1
  obtain ⟨sums, hsums⟩ : ∃ sums, sumsOf s r = sums := ⟨_, rfl⟩
  have HSU : Hid (wsums (metersUp s r.pieces r.pieces.length) = sums) := Lib.hid hsums
  rw [hsums]
  clear hsums
  go_wp2
  go_step3
  go_wp2_with (first
    | (go_at_call 58; refine (pace_begin_yes s r A0 A1 A2 B2 B3 n0 n1 n2 m2 m3 c0 c1 c2 d2 d3 _ (H0.out.below (by repeat (first | assumption | exact Below.refl _ _ | apply bel_alloc | apply bel_drew | apply bel_drewN | (refine bel_set ?_ (by first | assumption | omega | (simp; done) | (simp; omega)) _)))) (H1.out.below (by repeat (first | assumption | exact Below.refl _ _ | apply bel_alloc | apply bel_drew | apply bel_drewN | (refine bel_set ?_ (by first | assumption | omega | (simp; done) | (simp; omega)) _)))) (H2.out.below (by repeat (first | assumption | exact Below.refl _ _ | apply bel_alloc | apply bel_drew | apply bel_drewN | (refine bel_set ?_ (by first | assumption | omega | (simp; done) | (simp; omega)) _)))) (G2.out.below (by repeat (first | assumption | exact Below.refl _ _ | apply bel_alloc | apply bel_drew | apply bel_drewN | (refine bel_set ?_ (by first | assumption | omega | (simp; done) | (simp; omega)) _)))) (G3.out.below (by repeat (first | assumption | exact Below.refl _ _ | apply bel_alloc | apply bel_drew | apply bel_drewN | (refine bel_set ?_ (by first | assumption | omega | (simp; done) | (simp; omega)) _)))) HS.out HR.out).mono ?_; rintro e w1 ⟨g, rfl, ht, hw1⟩; rw [HN.out, HSU.out] at ht; have HT := Lib.hid ht; clear ht)
    | (go_at_call 71; refine (track_calls l C _ c (HT.out.below (by repeat (first | assumption | exact Below.refl _ _ | apply bel_alloc | apply bel_drew | apply bel_drewN | (refine bel_set ?_ (by first | assumption | omega | (simp; done) | (simp; omega)) _)))) (HC.out.below (bel_alloc (bel_then (by repeat (first | assumption | exact Below.refl _ _ | apply bel_alloc | apply bel_drew | apply bel_drewN | (refine bel_set ?_ (by first | assumption | omega | (simp; done) | (simp; omega)) _))) hw1) _))).mono ?_; rintro e w2 ⟨rfl, hw2⟩))
  go_step3
  go_wp2
  refine wp_loop_rounds 1 ?_
  rw [rounds_succ]
  go_wp2
  go_loopw [11, 12, 36] (fun v11 v12 v36 wr => ∃ (k : Nat) (v : Value) (gs : List Int) (ev : Int), k ≤ l.length ∧ v36 = .int .i64 k ∧ v11 = v ∧ v12 = .int .i64 ev ∧ (-1 ≤ ev ∧ ev ≤ 300)
      ∧ Hid (InTimeUp sums l k) ∧ Hid (GsIs sums l gs k) ∧ Hid (EarlyIs sums l gs k ev) ∧ Hid (Own 1 intEnc 3 wr w1.heap.size v gs)
      ∧ Hid (Blk wr w1.heap.size 108 #[.pointer (some ⟨g, 0, none⟩)]) ∧ Hid (Blk wr w2.heap.size 58 #[.int .i64 0, .int .i64 0, .bool false]) ∧ Hid (Blk wr (w.heap.size + 1 + 1) 58 #[.int .i64 0, .int .i64 0, .bool false]) ∧ Hid (Below w1.heap.size w1 wr)) (fun _ _ v36 _ => l.length - (intOf v36).toNat)
  case atStart =>
    exact ⟨0, _, [], -1, Nat.zero_le _, by go_num, rfl, rfl, ⟨by omega, by omega⟩, Lib.hid (fun i hi => by omega), Lib.hid GsIs.zero, Lib.hid EarlyIs.zero, Lib.hid Own.nil, Lib.hid (((Blk.new w1 _ _).below hw2).alloc _), Lib.hid (Blk.new w2 _ _), Lib.hid (((((Blk.new_at _ _ _ _ (by simp)).below hw1).alloc _).below hw2).alloc _), Lib.hid (by have h12 := bel_then (bel_alloc (Below.refl _ _) _) hw2; exact (by repeat (first | assumption | exact Below.refl _ _ | apply bel_alloc | apply bel_drew | apply bel_drewN | (refine bel_set ?_ (by first | assumption | omega | (simp; done) | (simp; omega)) _))))⟩
  case round =>
    obtain ⟨k, v, gs, ev, hk, rfl, rfl, rfl, ⟨he1, he2⟩, HI, HGs, HE, HO, HB9, HB13, HB7, HB⟩ := hrel
    have l1 := HB9.out.lt
    have l2 := HB13.out.lt
    have l3 := HB7.out.lt
    have b9 := HB9.out.cell 0
    have d0 := HB13.out.cell 0
    have d1 := HB13.out.cell 1
    have d2 := HB13.out.cell 2
    have df0 := HB13.out.frozen 0
    have df1 := HB13.out.frozen 1
    have df2 := HB13.out.frozen 2
    have r0 := HB7.out.cell 0
    have r1 := HB7.out.cell 1
    have r2 := HB7.out.cell 2
    have rf0 := HB7.out.frozen 0
    have rf1 := HB7.out.frozen 1
    have rf2 := HB7.out.frozen 2
    have hw12 : w.heap.size + 1 + 1 < w2.heap.size := by have := hw1.size; have := hw2.size; simp at *; omega
    have hw13 : w1.heap.size < w2.heap.size := by have := hw2.size; simp at *; omega
    by_cases hkl : k < l.length
    · obtain ⟨x, hx⟩ := HC.out.get hkl
      have HX := Lib.hid hx
      clear hx
      obtain ⟨ad, e, x0, x1, x2, x3, x4⟩ := ((HC.out.below (bel_then (by repeat (first | assumption | exact Below.refl _ _ | apply bel_alloc | apply bel_drew | apply bel_drewN | (refine bel_set ?_ (by first | assumption | omega | (simp; done) | (simp; omega)) _))) hw1)).below HB.out).atCall HX.out
      cases e
      obtain ⟨rr, hrr⟩ : ∃ rr, rmR sums l k (l.length - k) = rr := ⟨_, rfl⟩
      obtain ⟨lt, hlt⟩ : ∃ lt, rmL sums l k (l.length - k) = lt := ⟨_, rfl⟩
      have HRR := Lib.hid hrr
      have HLT := Lib.hid hlt
      clear hrr hlt
      by_cases hlate : 0 ≤ lt
      · go_wp2_with (go_at_call 72; refine (track_room l (some ad) l.length c k ((HT.out.below HB.out).below (by repeat (first | assumption | exact Below.refl _ _ | apply bel_alloc | apply bel_drew | apply bel_drewN | (refine bel_set ?_ (by first | assumption | omega | (simp; done) | (simp; omega)) _)))) (((HC.out.below (bel_then (by repeat (first | assumption | exact Below.refl _ _ | apply bel_alloc | apply bel_drew | apply bel_drewN | (refine bel_set ?_ (by first | assumption | omega | (simp; done) | (simp; omega)) _))) hw1)).below HB.out).below (by repeat (first | assumption | exact Below.refl _ _ | apply bel_alloc | apply bel_drew | apply bel_drewN | (refine bel_set ?_ (by first | assumption | omega | (simp; done) | (simp; omega)) _)))) HLs.out (by omega)).mono ?_; rintro e w5 ⟨rfl, nq, rfl⟩; rw [HRR.out, HLT.out])
        obtain ⟨W7, hW7⟩ : ∃ W7, (((((wr.alloc (.cells #[.int .i64 x.place, .int .i64 x.lasts, .int .i64 x.lead, .int .i64 x.ahead, .int .i64 x.value] 75)).drewN nq).setCell ⟨w2.heap.size, 0, none⟩ (.int .i64 k)).setCell ⟨w2.heap.size, 1, none⟩ (.int .i64 lt)).setCell ⟨w2.heap.size, 2, none⟩ (.bool false)).alloc (.cells #[.int .i64 rr] 3) = W7 := ⟨_, rfl⟩
        have C13 : Blk W7 w2.heap.size 58 #[.int .i64 k, .int .i64 lt, .bool false] := by rw [← hW7]; exact (((((HB13.out.alloc _).drewN _).set 0 _).set 1 _).set 2 _).alloc _
        have C7 : Blk W7 (w.heap.size + 1 + 1) 58 #[.int .i64 0, .int .i64 0, .bool false] := by rw [← hW7]; exact (((((HB7.out.alloc _).drewN _).far (by show w.heap.size + 1 + 1 ≠ w2.heap.size; omega) _).far (by show w.heap.size + 1 + 1 ≠ w2.heap.size; omega) _).far (by show w.heap.size + 1 + 1 ≠ w2.heap.size; omega) _).alloc _
        have hbx := HB.out
        have CB1 : Below w1.heap.size w1 W7 := by rw [← hW7]; exact (by repeat (first | assumption | exact Below.refl _ _ | apply bel_alloc | apply bel_drew | apply bel_drewN | (refine bel_set ?_ (by first | assumption | omega | (simp; done) | (simp; omega)) _)))
        have CB : Below w.heap.size w W7 := bel_then (bel_then (by repeat (first | assumption | exact Below.refl _ _ | apply bel_alloc | apply bel_drew | apply bel_drewN | (refine bel_set ?_ (by first | assumption | omega | (simp; done) | (simp; omega)) _))) hw1) CB1
        rw [hW7]
        have d0 := C13.cell 0
        have d1 := C13.cell 1
        have d2 := C13.cell 2
        have r0 := C7.cell 0
        have r1 := C7.cell 1
        have r2 := C7.cell 2
        have rf0 := C7.frozen 0
        have rf1 := C7.frozen 1
        have rf2 := C7.frozen 2
        clear hW7 df0 df1 df2 x0 x1 x2 x3 x4 b9
        go_region
        all_goals
          go_wp2
          try rw [Exit.noGoto_ret]
          have F7 := (((C7.set 0 (.int .i64 k)).set 1 (.int .i64 lt)).set 2 (.bool false)).drew
          have CB8 : Below w.heap.size w (((W7.setCell ⟨w.heap.size + 1 + 1, 0, none⟩ (.int .i64 k)).setCell ⟨w.heap.size + 1 + 1, 1, none⟩ (.int .i64 lt)).setCell ⟨w.heap.size + 1 + 1, 2, none⟩ (.bool false)).drew := (by repeat (first | assumption | exact Below.refl _ _ | apply bel_alloc | apply bel_drew | apply bel_drewN | (refine bel_set ?_ (by first | assumption | omega | (simp; done) | (simp; omega)) _)))
          obtain ⟨W8, hW8⟩ : ∃ W8, (((W7.setCell ⟨w.heap.size + 1 + 1, 0, none⟩ (.int .i64 k)).setCell ⟨w.heap.size + 1 + 1, 1, none⟩ (.int .i64 lt)).setCell ⟨w.heap.size + 1 + 1, 2, none⟩ (.bool false)).drew = W8 := ⟨_, rfl⟩
          rw [hW8] at F7 CB8 ⊢
          have z0 := F7.cell 0
          have z1 := F7.cell 1
          have z2 := F7.cell 2
          clear d0 d1 d2 r0 r1 r2 rf0 rf1 rf2 hW8
          refine bodyPost_ret (v := .tuple #[.slice none 0 0, .agg #[.int .i64 k, .int .i64 lt, .bool false], .int .i64 5]) (by simp [results, Tryd.results31, go_sem, z0, z1, z2]) rfl ⟨CB8, .inl ⟨k, lt.toNat, by assumption, HI.out, ?_, ?_⟩⟩
          · rw [HLT.out]; omega
          · rw [show ((lt.toNat : Nat) : Int) = lt by omega]
      · have hlt0 : lt < 0 := by omega
        clear hlate
        obtain ⟨px1, px2, px3, px4, px5, px6, px7, px8, _, _⟩ := HLs.out.at_ HX.out
        go_wp2_with (go_at_call 72; refine (track_room l (some ad) l.length c k ((HT.out.below HB.out).below (by repeat (first | assumption | exact Below.refl _ _ | apply bel_alloc | apply bel_drew | apply bel_drewN | (refine bel_set ?_ (by first | assumption | omega | (simp; done) | (simp; omega)) _)))) (((HC.out.below (bel_then (by repeat (first | assumption | exact Below.refl _ _ | apply bel_alloc | apply bel_drew | apply bel_drewN | (refine bel_set ?_ (by first | assumption | omega | (simp; done) | (simp; omega)) _))) hw1)).below HB.out).below (by repeat (first | assumption | exact Below.refl _ _ | apply bel_alloc | apply bel_drew | apply bel_drewN | (refine bel_set ?_ (by first | assumption | omega | (simp; done) | (simp; omega)) _)))) HLs.out (by omega)).mono ?_; rintro e w5 ⟨rfl, nq, rfl⟩; rw [HRR.out, HLT.out])
        obtain ⟨W7, hW7⟩ : ∃ W7, (((wr.alloc (.cells #[.int .i64 x.place, .int .i64 x.lasts, .int .i64 x.lead, .int .i64 x.ahead, .int .i64 x.value] 75)).drewN nq).alloc (.cells #[.int .i64 rr] 3)) = W7 := ⟨_, rfl⟩
        have hbx := HB.out
        have CB1 : Below w1.heap.size w1 W7 := by rw [← hW7]; exact (by repeat (first | assumption | exact Below.refl _ _ | apply bel_alloc | apply bel_drew | apply bel_drewN | (refine bel_set ?_ (by first | assumption | omega | (simp; done) | (simp; omega)) _)))
        have CBr : Below wr.heap.size wr W7 := by rw [← hW7]; exact (by repeat (first | assumption | exact Below.refl _ _ | apply bel_alloc | apply bel_drew | apply bel_drewN | (refine bel_set ?_ (by first | assumption | omega | (simp; done) | (simp; omega)) _)))
        have C13 := HB13.out.below CBr
        have C7 := HB7.out.below CBr
        have C9 := HB9.out.below CBr
        have CO := HO.out.below CBr
        have CX : Blk W7 wr.heap.size 75 #[.int .i64 x.place, .int .i64 x.lasts, .int .i64 x.lead, .int .i64 x.ahead, .int .i64 x.value] := by rw [← hW7]; exact ((Blk.new _ _ _).drewN _).alloc _
        have CR : Blk W7 (wr.heap.size + 1) 3 #[.int .i64 rr] := by rw [← hW7]; exact Blk.new_at _ _ _ _ (by simp)
        have CT := HT.out.below CB1
        rw [hW7]
        have lx := CX.lt
        have l1 := C9.lt
        have l2 := C13.lt
        have l3 := C7.lt
        have lr := CR.lt
        have c9 := C9.cell 0
        have cx0 := CX.cell 0
        have cx3 := CX.cell 3
        have K13 := Lib.hid C13
        have K7 := Lib.hid C7
        have K9 := Lib.hid C9
        have KO := Lib.hid CO
        have KX := Lib.hid CX
        have KR := Lib.hid CR
        have KT := Lib.hid CT
        have KB := Lib.hid CB1
        clear hW7 hbx CB1 CBr C13 C7 C9 CO CX CR CT d0 d1 d2 df0 df1 df2 r0 r1 r2 rf0 rf1 rf2 b9 x0 x1 x2 x3 x4
        go_wp2_with ((with_reducible go_at_call 73); refine (last_int 74 (.pointer (some ⟨w1.heap.size, 0, none⟩)) (.pointer (some ⟨wr.heap.size + 1, 0, none⟩)) x.place (fun p => decide (at1 sums p ≤ rr)) W7 px1 (by have := KT.out; obtain ⟨_, _, _, _, h, _⟩ := this; omega) call_Plan1 (fun y m h0 h1 => plan_holds w1.heap.size (wr.heap.size + 1) rr y KT.out K9.out KR.out h0 (by omega) m)).mono ?_; rintro e w6 ⟨low, hlow, rfl, nq6, rfl⟩)
        obtain ⟨hlo0, hlo1, hlo2, hlo3⟩ := hlow
        have hlow : Hid (LastIs (fun p => decide (at1 sums p ≤ rr)) x.place low) := Lib.hid ⟨hlo0, hlo1, hlo2, hlo3⟩
        clear hlo2 hlo3
        rcases Decidable.em (ev < 0) with hev | hev
        · have hev1 : decide (ev < 0) = true := by simpa using hev
          rcases Decidable.em (x.ahead < at2 sums x.place - at2 sums low) with htl | htl
          · have htl1 : decide (x.ahead < at2 sums x.place - at2 sums low) = true := by simpa using htl
            go_wp2
            go_quiet ((go_at_call 60; go_must (exact (between_most low x.place hlo0 (by omega) (by omega) (by omega) (KT.out.drewN _)).mono (fun e w' ⟨he, m, hm⟩ => ⟨he, _, hm.trans (by rw [World.drewN_drewN, Nat.add_assoc])⟩))))
            obtain ⟨W6, hW6⟩ : ∃ W6, (W7.drewN nq6).drewN nq = W6 := ⟨_, rfl⟩
            have Z13 := Lib.hid (show Blk W6 _ _ _ by rw [← hW6]; exact (K13.out.drewN _).drewN _)
            have Z7 := Lib.hid (show Blk W6 _ _ _ by rw [← hW6]; exact (K7.out.drewN _).drewN _)
            have Z9 := Lib.hid (show Blk W6 _ _ _ by rw [← hW6]; exact (K9.out.drewN _).drewN _)
            have ZO := Lib.hid (show Own 1 intEnc 3 W6 w1.heap.size u11 gs by rw [← hW6]; exact (KO.out.drewN _).drewN _)
            have ZB := Lib.hid (show Below w1.heap.size w1 W6 by rw [← hW6]; exact bel_drewN (bel_drewN KB.out _) _)
            rw [hW6]
            have hgl : gs.length ≤ 300 := by have := HGs.out.1; omega
            go_wp2_with (at_builtin; refine own_append (sz := 1) (enc := intEnc) intEnc_len rfl _ _ 28 (.int .i64 0) 8 rfl Tryd.underlying28 info_int rfl (by decide) (by decide) (low) #[.int .i64 (low)] rfl (w0 := w1) (xs := gs) _ ZO.out rfl _ rfl (by simp) (by repeat (first | assumption | exact Below.refl _ _ | apply bel_alloc | apply bel_drew | apply bel_drewN | (refine bel_set ?_ (by first | assumption | omega | (simp; done) | (simp; omega)) _))) (by omega) ?_; intro g1 cap w9 hown hb9 hg9; (have M13 := Lib.hid (Z13.out.grown hg9 (ZO.out.ne Z13.out (by decide))); have M7 := Lib.hid (Z7.out.grown hg9 (ZO.out.ne Z7.out (by decide))); have M9 := Lib.hid (Z9.out.grown hg9 (ZO.out.ne Z9.out (by decide))); have MO := Lib.hid hown; have MB := Lib.hid hb9; clear hown hb9 hg9))
            go_roundw
            case rel => exact ⟨k + 1, _, gs ++ [low], k, by omega, by go_num, rfl, rfl, ⟨by omega, by omega⟩, Lib.hid (HI.out.succ (by rw [HLT.out]; exact hlt0)), Lib.hid (HGs.out.succ HX.out (by unfold roomQ; rw [HRR.out]; exact hlow.out)), Lib.hid (HE.out.here HGs.out.1 hev HX.out htl), MO, M9, M13, M7, MB⟩
            case measure => simp [intOf]; omega
          · have htl1 : decide (x.ahead < at2 sums x.place - at2 sums low) = false := by simpa using htl
            go_wp2
            go_quiet ((go_at_call 60; go_must (exact (between_most low x.place hlo0 (by omega) (by omega) (by omega) (KT.out.drewN _)).mono (fun e w' ⟨he, m, hm⟩ => ⟨he, _, hm.trans (by rw [World.drewN_drewN, Nat.add_assoc])⟩))))
            obtain ⟨W6, hW6⟩ : ∃ W6, (W7.drewN nq6).drewN nq = W6 := ⟨_, rfl⟩
            have Z13 := Lib.hid (show Blk W6 _ _ _ by rw [← hW6]; exact (K13.out.drewN _).drewN _)
            have Z7 := Lib.hid (show Blk W6 _ _ _ by rw [← hW6]; exact (K7.out.drewN _).drewN _)
            have Z9 := Lib.hid (show Blk W6 _ _ _ by rw [← hW6]; exact (K9.out.drewN _).drewN _)
            have ZO := Lib.hid (show Own 1 intEnc 3 W6 w1.heap.size u11 gs by rw [← hW6]; exact (KO.out.drewN _).drewN _)
            have ZB := Lib.hid (show Below w1.heap.size w1 W6 by rw [← hW6]; exact bel_drewN (bel_drewN KB.out _) _)
            rw [hW6]
            have hgl : gs.length ≤ 300 := by have := HGs.out.1; omega
            go_wp2_with (at_builtin; refine own_append (sz := 1) (enc := intEnc) intEnc_len rfl _ _ 28 (.int .i64 0) 8 rfl Tryd.underlying28 info_int rfl (by decide) (by decide) (low) #[.int .i64 (low)] rfl (w0 := w1) (xs := gs) _ ZO.out rfl _ rfl (by simp) (by repeat (first | assumption | exact Below.refl _ _ | apply bel_alloc | apply bel_drew | apply bel_drewN | (refine bel_set ?_ (by first | assumption | omega | (simp; done) | (simp; omega)) _))) (by omega) ?_; intro g1 cap w9 hown hb9 hg9; (have M13 := Lib.hid (Z13.out.grown hg9 (ZO.out.ne Z13.out (by decide))); have M7 := Lib.hid (Z7.out.grown hg9 (ZO.out.ne Z7.out (by decide))); have M9 := Lib.hid (Z9.out.grown hg9 (ZO.out.ne Z9.out (by decide))); have MO := Lib.hid hown; have MB := Lib.hid hb9; clear hown hb9 hg9))
            go_roundw
            case rel => exact ⟨k + 1, _, gs ++ [low], ev, by omega, by go_num, rfl, rfl, ⟨by omega, by omega⟩, Lib.hid (HI.out.succ (by rw [HLT.out]; exact hlt0)), Lib.hid (HGs.out.succ HX.out (by unfold roomQ; rw [HRR.out]; exact hlow.out)), Lib.hid (HE.out.not HGs.out.1 hev HX.out (by omega)), MO, M9, M13, M7, MB⟩
            case measure => simp [intOf]; omega
        · have hev1 : decide (ev < 0) = false := by simpa using hev
          go_wp2
          go_quiet (skip)
          obtain ⟨W6, hW6⟩ : ∃ W6, (W7.drewN nq6).drewN nq = W6 := ⟨_, rfl⟩
          have Z13 := Lib.hid (show Blk W6 _ _ _ by rw [← hW6]; exact (K13.out.drewN _).drewN _)
          have Z7 := Lib.hid (show Blk W6 _ _ _ by rw [← hW6]; exact (K7.out.drewN _).drewN _)
          have Z9 := Lib.hid (show Blk W6 _ _ _ by rw [← hW6]; exact (K9.out.drewN _).drewN _)
          have ZO := Lib.hid (show Own 1 intEnc 3 W6 w1.heap.size u11 gs by rw [← hW6]; exact (KO.out.drewN _).drewN _)
          have ZB := Lib.hid (show Below w1.heap.size w1 W6 by rw [← hW6]; exact bel_drewN (bel_drewN KB.out _) _)
          rw [hW6]
          have hgl : gs.length ≤ 300 := by have := HGs.out.1; omega
          go_wp2_with (at_builtin; refine own_append (sz := 1) (enc := intEnc) intEnc_len rfl _ _ 28 (.int .i64 0) 8 rfl Tryd.underlying28 info_int rfl (by decide) (by decide) (low) #[.int .i64 (low)] rfl (w0 := w1) (xs := gs) _ ZO.out rfl _ rfl (by simp) (by repeat (first | assumption | exact Below.refl _ _ | apply bel_alloc | apply bel_drew | apply bel_drewN | (refine bel_set ?_ (by first | assumption | omega | (simp; done) | (simp; omega)) _))) (by omega) ?_; intro g1 cap w9 hown hb9 hg9; (have M13 := Lib.hid (Z13.out.grown hg9 (ZO.out.ne Z13.out (by decide))); have M7 := Lib.hid (Z7.out.grown hg9 (ZO.out.ne Z7.out (by decide))); have M9 := Lib.hid (Z9.out.grown hg9 (ZO.out.ne Z9.out (by decide))); have MO := Lib.hid hown; have MB := Lib.hid hb9; clear hown hb9 hg9))
          go_roundw
          case rel => exact ⟨k + 1, _, gs ++ [low], ev, by omega, by go_num, rfl, rfl, ⟨by omega, by omega⟩, Lib.hid (HI.out.succ (by rw [HLT.out]; exact hlt0)), Lib.hid (HGs.out.succ HX.out (by unfold roomQ; rw [HRR.out]; exact hlow.out)), Lib.hid (HE.out.keep HGs.out.1 (by omega)), MO, M9, M13, M7, MB⟩
          case measure => simp [intOf]; omega
    · obtain rfl : k = l.length := by omega
      rcases Decidable.em (ev < 0) with hev | hev
      · have hev1 : decide (ev < 0) = true := by simpa using hev
        go_wp2
        have hbx := HB.out
        have CB : Below w.heap.size w wr := bel_then (bel_then (by repeat (first | assumption | exact Below.refl _ _ | apply bel_alloc | apply bel_drew | apply bel_drewN | (refine bel_set ?_ (by first | assumption | omega | (simp; done) | (simp; omega)) _))) hw1) hbx
        clear hbx
        go_region
        all_goals
          go_wp2
          try rw [Exit.noGoto_ret]
          have hne := HO.out.ne HB7.out (by decide)
          have F7 := (((HB7.out.set 0 (.int .i64 0)).set 1 (.int .i64 0)).set 2 (.bool false)).drew
          have FO : Own 1 intEnc 3 ((((wr.setCell ⟨w.heap.size + 1 + 1, 0, none⟩ (.int .i64 0)).setCell ⟨w.heap.size + 1 + 1, 1, none⟩ (.int .i64 0)).setCell ⟨w.heap.size + 1 + 1, 2, none⟩ (.bool false)).drew) w1.heap.size u11 gs := ((HO.out.far hne _).far hne _).far hne _
          have CB8 : Below w.heap.size w ((((wr.setCell ⟨w.heap.size + 1 + 1, 0, none⟩ (.int .i64 0)).setCell ⟨w.heap.size + 1 + 1, 1, none⟩ (.int .i64 0)).setCell ⟨w.heap.size + 1 + 1, 2, none⟩ (.bool false)).drew) := (by repeat (first | assumption | exact Below.refl _ _ | apply bel_alloc | apply bel_drew | apply bel_drewN | (refine bel_set ?_ (by first | assumption | omega | (simp; done) | (simp; omega)) _)))
          obtain ⟨W8, hW8⟩ : ∃ W8, (((wr.setCell ⟨w.heap.size + 1 + 1, 0, none⟩ (.int .i64 0)).setCell ⟨w.heap.size + 1 + 1, 1, none⟩ (.int .i64 0)).setCell ⟨w.heap.size + 1 + 1, 2, none⟩ (.bool false)).drew = W8 := ⟨_, rfl⟩
          rw [hW8] at F7 CB8 FO ⊢
          have z0 := F7.cell 0
          have z1 := F7.cell 1
          have z2 := F7.cell 2
          clear d0 d1 d2 r0 r1 r2 rf0 rf1 rf2 hW8
          refine bodyPost_ret (v := .tuple #[u11, .agg #[.int .i64 0, .int .i64 0, .bool false], .int .i64 0]) (by simp [results, Tryd.results31, go_sem, z0, z1, z2]) rfl ⟨CB8, .inr ⟨HI.out, gs, HGs.out, .inr ⟨by rw [show (-1 : Int) = ev by omega]; exact HE.out, ?_⟩⟩⟩
          obtain ⟨A, cc, hu, hcc, hrd⟩ := FO.reads intEnc_len
          have hgl := HGs.out.1
          rw [hgl] at hu hcc hrd
          exact ⟨A, cc, hrd, hcc, by rw [hu]⟩
      · have hev1 : decide (ev < 0) = false := by simpa using hev
        go_wp2
        obtain ⟨W7, hW7⟩ : ∃ W7, ((wr.setCell ⟨w2.heap.size, 0, none⟩ (.int .i64 ev)).setCell ⟨w2.heap.size, 1, none⟩ (.int .i64 ev)).setCell ⟨w2.heap.size, 2, none⟩ (.bool true) = W7 := ⟨_, rfl⟩
        have C13 : Blk W7 w2.heap.size 58 #[.int .i64 ev, .int .i64 ev, .bool true] := by rw [← hW7]; exact ((HB13.out.set 0 _).set 1 _).set 2 _
        have C7 : Blk W7 (w.heap.size + 1 + 1) 58 #[.int .i64 0, .int .i64 0, .bool false] := by rw [← hW7]; exact (((HB7.out).far (by show w.heap.size + 1 + 1 ≠ w2.heap.size; omega) _).far (by show w.heap.size + 1 + 1 ≠ w2.heap.size; omega) _).far (by show w.heap.size + 1 + 1 ≠ w2.heap.size; omega) _
        have hbx := HB.out
        have CB1 : Below w1.heap.size w1 W7 := by rw [← hW7]; exact (by repeat (first | assumption | exact Below.refl _ _ | apply bel_alloc | apply bel_drew | apply bel_drewN | (refine bel_set ?_ (by first | assumption | omega | (simp; done) | (simp; omega)) _)))
        have CB : Below w.heap.size w W7 := bel_then (bel_then (by repeat (first | assumption | exact Below.refl _ _ | apply bel_alloc | apply bel_drew | apply bel_drewN | (refine bel_set ?_ (by first | assumption | omega | (simp; done) | (simp; omega)) _))) hw1) CB1
        rw [hW7]
        have d0 := C13.cell 0
        have d1 := C13.cell 1
        have d2 := C13.cell 2
        have r0 := C7.cell 0
        have r1 := C7.cell 1
        have r2 := C7.cell 2
        have rf0 := C7.frozen 0
        have rf1 := C7.frozen 1
        have rf2 := C7.frozen 2
        clear hW7 df0 df1 df2
        go_region
        all_goals
          go_wp2
          try rw [Exit.noGoto_ret]
          have F7 := (((C7.set 0 (.int .i64 ev)).set 1 (.int .i64 ev)).set 2 (.bool true)).drew
          have CB8 : Below w.heap.size w (((W7.setCell ⟨w.heap.size + 1 + 1, 0, none⟩ (.int .i64 ev)).setCell ⟨w.heap.size + 1 + 1, 1, none⟩ (.int .i64 ev)).setCell ⟨w.heap.size + 1 + 1, 2, none⟩ (.bool true)).drew := (by repeat (first | assumption | exact Below.refl _ _ | apply bel_alloc | apply bel_drew | apply bel_drewN | (refine bel_set ?_ (by first | assumption | omega | (simp; done) | (simp; omega)) _)))
          obtain ⟨W8, hW8⟩ : ∃ W8, (((W7.setCell ⟨w.heap.size + 1 + 1, 0, none⟩ (.int .i64 ev)).setCell ⟨w.heap.size + 1 + 1, 1, none⟩ (.int .i64 ev)).setCell ⟨w.heap.size + 1 + 1, 2, none⟩ (.bool true)).drew = W8 := ⟨_, rfl⟩
          rw [hW8] at F7 CB8 ⊢
          have z0 := F7.cell 0
          have z1 := F7.cell 1
          have z2 := F7.cell 2
          clear d0 d1 d2 r0 r1 r2 rf0 rf1 rf2 hW8
          refine bodyPost_ret (v := .tuple #[.slice none 0 0, .agg #[.int .i64 ev, .int .i64 ev, .bool true], .int .i64 5]) (by simp [results, Tryd.results31, go_sem, z0, z1, z2]) rfl ⟨CB8, .inr ⟨HI.out, gs, HGs.out, .inl ⟨ev.toNat, ?_, ?_⟩⟩⟩
          · rw [show ((ev.toNat : Nat) : Int) = ev by omega]; exact HE.out
          · rw [show ((ev.toNat : Nat) : Int) = ev by omega]
set_option maxRecDepth 100000 in
set_option maxHeartbeats 4000000 in
theorem pace_Plan_no (s : Speeds) (r : Road) (l : List Call) (A0 A1 A2 B2 B3 C : Option Addr) (n0 n1 n2 m2 m3 c0 c1 c2 d2 d3 n c : Nat) (w : World)
    (h0 : Rd 5 Piece.enc w A0 n0 r.pieces) (h1 : Rd 2 Crest.enc w A1 n1 r.crests) (h2 : Rd 3 Junction.enc w A2 n2 r.juncs) (g2 : Rd 3 SpeedRow.enc w B2 m2 s.rows) (g3 : Rd 1 intEnc w B3 m3 s.surface) (hc : Rd 5 Call.enc w C n l) (hno : ¬(r.Valid ∧ s.Valid ∧ CallsOk r.length l)) :
    Calls Tryd.prog 31 #[.agg #[.slice A0 n0 c0, .slice A1 n1 c1, .slice A2 n2 c2], .agg #[.int .i64 s.least, .int .i64 s.most, .slice B2 m2 d2, .slice B3 m3 d3], .slice C n c] w fun e w' => e = .returned (.tuple #[.slice none 0 0, .agg #[.int .i64 0, .int .i64 0, .bool false], .int .i64 2]) ∧ Below w.heap.size w w' := by
  have H0 := Lib.hid h0
  have H1 := Lib.hid h1
  have H2 := Lib.hid h2
  have G2 := Lib.hid g2
  have G3 := Lib.hid g3
  have HC := Lib.hid hc
  by_cases hv : r.Valid ∧ s.Valid
  · have HR := Lib.hid hv.1
    have HS := Lib.hid hv.2
    have hl : 0 ≤ r.length := (hv.1.fit.2 _ (Nat.le_refl _)).1
    obtain ⟨N, hN⟩ : ∃ N : Nat, (N : Int) = r.length := ⟨r.length.toNat, by omega⟩
    have HN : Hid (r.length.toNat = N) := Lib.hid (by omega)
    have hbo : bo (CallsOk N l) = false := bo_false fun k => hno ⟨hv.1, hv.2, by rw [← hN]; exact k⟩
    clear h0 h1 h2 g2 g3 hc hv hl hN hno
    go_enter Tryd.func31, Tryd.ntmps31
    go_wp2
    go_step3
    go_wp2_with (first
      | (go_at_call 58; refine (pace_begin_yes s r A0 A1 A2 B2 B3 n0 n1 n2 m2 m3 c0 c1 c2 d2 d3 _ (H0.out.below (by repeat (first | assumption | exact Below.refl _ _ | apply bel_alloc | apply bel_drew | apply bel_drewN | (refine bel_set ?_ (by first | assumption | omega | (simp; done) | (simp; omega)) _)))) (H1.out.below (by repeat (first | assumption | exact Below.refl _ _ | apply bel_alloc | apply bel_drew | apply bel_drewN | (refine bel_set ?_ (by first | assumption | omega | (simp; done) | (simp; omega)) _)))) (H2.out.below (by repeat (first | assumption | exact Below.refl _ _ | apply bel_alloc | apply bel_drew | apply bel_drewN | (refine bel_set ?_ (by first | assumption | omega | (simp; done) | (simp; omega)) _)))) (G2.out.below (by repeat (first | assumption | exact Below.refl _ _ | apply bel_alloc | apply bel_drew | apply bel_drewN | (refine bel_set ?_ (by first | assumption | omega | (simp; done) | (simp; omega)) _)))) (G3.out.below (by repeat (first | assumption | exact Below.refl _ _ | apply bel_alloc | apply bel_drew | apply bel_drewN | (refine bel_set ?_ (by first | assumption | omega | (simp; done) | (simp; omega)) _)))) HS.out HR.out).mono ?_; rintro e w1 ⟨g, rfl, ht, hw1⟩; rw [HN.out] at ht; have HT := Lib.hid ht; clear ht)
      | (go_at_call 71; refine (track_calls l C _ c (HT.out.below (by repeat (first | assumption | exact Below.refl _ _ | apply bel_alloc | apply bel_drew | apply bel_drewN | (refine bel_set ?_ (by first | assumption | omega | (simp; done) | (simp; omega)) _)))) (HC.out.below (bel_alloc (bel_then (by repeat (first | assumption | exact Below.refl _ _ | apply bel_alloc | apply bel_drew | apply bel_drewN | (refine bel_set ?_ (by first | assumption | omega | (simp; done) | (simp; omega)) _))) hw1) _))).mono ?_; rintro e w2 ⟨rfl, hw2⟩; have C7 := (((show Blk w1 (w.heap.size + 1 + 1) 58 #[.int .i64 0, .int .i64 0, .bool false] from (Blk.new_at _ _ _ _ (by simp)).below hw1).alloc (.cells #[.pointer (some ⟨g, 0, none⟩)] 108)).below hw2); have r0 := C7.cell 0; have r1 := C7.cell 1; have r2 := C7.cell 2; have rf0 := C7.frozen 0; have rf1 := C7.frozen 1; have rf2 := C7.frozen 2; have l3 := C7.lt))
    try rw [Exit.noGoto_ret]
    have z0 := (((C7.set 0 (.int .i64 0)).set 1 (.int .i64 0)).set 2 (.bool false)).cell 0
    have z1 := (((C7.set 0 (.int .i64 0)).set 1 (.int .i64 0)).set 2 (.bool false)).cell 1
    have z2 := (((C7.set 0 (.int .i64 0)).set 1 (.int .i64 0)).set 2 (.bool false)).cell 2
    have CB : Below w.heap.size w w2 := bel_then (bel_then (by repeat (first | assumption | exact Below.refl _ _ | apply bel_alloc | apply bel_drew | apply bel_drewN | (refine bel_set ?_ (by first | assumption | omega | (simp; done) | (simp; omega)) _))) hw1) (bel_then (by repeat (first | assumption | exact Below.refl _ _ | apply bel_alloc | apply bel_drew | apply bel_drewN | (refine bel_set ?_ (by first | assumption | omega | (simp; done) | (simp; omega)) _))) hw2)
    clear r0 r1 r2 rf0 rf1 rf2
    refine bodyPost_ret (v := .tuple #[.slice none 0 0, .agg #[.int .i64 0, .int .i64 0, .bool false], .int .i64 2]) (by simp [results, Tryd.results31, go_sem, z0, z1, z2]) rfl ⟨rfl, (by repeat (first | assumption | exact Below.refl _ _ | apply bel_alloc | apply bel_drew | apply bel_drewN | (refine bel_set ?_ (by first | assumption | omega | (simp; done) | (simp; omega)) _)))⟩
  · have HV := Lib.hid hv
    clear h0 h1 h2 g2 g3 hc hv hno
    go_enter Tryd.func31, Tryd.ntmps31
    go_wp2
    go_step3
    go_wp2_with (go_at_call 58; refine (pace_begin_no s r A0 A1 A2 B2 B3 n0 n1 n2 m2 m3 c0 c1 c2 d2 d3 _ (H0.out.below (by repeat (first | assumption | exact Below.refl _ _ | apply bel_alloc | apply bel_drew | apply bel_drewN | (refine bel_set ?_ (by first | assumption | omega | (simp; done) | (simp; omega)) _)))) (H1.out.below (by repeat (first | assumption | exact Below.refl _ _ | apply bel_alloc | apply bel_drew | apply bel_drewN | (refine bel_set ?_ (by first | assumption | omega | (simp; done) | (simp; omega)) _)))) (H2.out.below (by repeat (first | assumption | exact Below.refl _ _ | apply bel_alloc | apply bel_drew | apply bel_drewN | (refine bel_set ?_ (by first | assumption | omega | (simp; done) | (simp; omega)) _)))) (G2.out.below (by repeat (first | assumption | exact Below.refl _ _ | apply bel_alloc | apply bel_drew | apply bel_drewN | (refine bel_set ?_ (by first | assumption | omega | (simp; done) | (simp; omega)) _)))) (G3.out.below (by repeat (first | assumption | exact Below.refl _ _ | apply bel_alloc | apply bel_drew | apply bel_drewN | (refine bel_set ?_ (by first | assumption | omega | (simp; done) | (simp; omega)) _)))) HV.out).mono ?_; rintro e w1 ⟨rfl, hw1⟩; have C7 := (show Blk w1 (w.heap.size + 1 + 1) 58 #[.int .i64 0, .int .i64 0, .bool false] from (Blk.new_at _ _ _ _ (by simp)).below hw1); have r0 := C7.cell 0; have r1 := C7.cell 1; have r2 := C7.cell 2; have rf0 := C7.frozen 0; have rf1 := C7.frozen 1; have rf2 := C7.frozen 2; have l3 := C7.lt)
    try rw [Exit.noGoto_ret]
    have C8 := ((((C7.set 0 (.int .i64 0)).set 1 (.int .i64 0)).set 2 (.bool false)).alloc (.cells #[.pointer none] 108))
    have z0 := C8.cell 0
    have z1 := C8.cell 1
    have z2 := C8.cell 2
    have CB : Below w.heap.size w w1 := bel_then (by repeat (first | assumption | exact Below.refl _ _ | apply bel_alloc | apply bel_drew | apply bel_drewN | (refine bel_set ?_ (by first | assumption | omega | (simp; done) | (simp; omega)) _))) hw1
    clear r0 r1 r2 rf0 rf1 rf2
    refine bodyPost_ret (v := .tuple #[.slice none 0 0, .agg #[.int .i64 0, .int .i64 0, .bool false], .int .i64 2]) (by simp [results, Tryd.results31, go_sem, z0, z1, z2]) rfl ⟨rfl, (by repeat (first | assumption | exact Below.refl _ _ | apply bel_alloc | apply bel_drew | apply bel_drewN | (refine bel_set ?_ (by first | assumption | omega | (simp; done) | (simp; omega)) _)))⟩
end Go.Proofs.YtinglbcafcjhfaaDoor
