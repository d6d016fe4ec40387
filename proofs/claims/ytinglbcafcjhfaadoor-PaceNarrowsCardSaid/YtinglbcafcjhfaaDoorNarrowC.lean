/- The contract of pace.Narrow. -/
import Derived.Test.YtinglbcafcjhfaaDoorNarrowB
import Derived.Test.YtinglbcafcjhfaaDoorGoodB
import Derived.Test.YtinglbcafcjhfaaDoorInv
import Derived.Lib.MinMax
namespace Go.Proofs.YtinglbcafcjhfaaDoor
open Go.RowKit
set_option linter.unusedVariables false
set_option linter.unusedSimpArgs false

theorem call_Narrow1 : ∀ a W, Sem.run Tryd.prog (callFunc 86 a) W = .ok (.enter 86 a) W := fun _ _ => by kernel_rfl
theorem narrow_empty {w : World} (x : Passing) : Calls Tryd.prog 86 #[.agg #[.int .i64 x.place, .int .i64 x.earliest, .int .i64 x.latest]] w fun e w' => e = .returned (.bool (decide (x.latest < x.earliest))) ∧ Below w.heap.size w w' := by
  go_enter Tryd.func86, Tryd.ntmps86
  go_wp2
  go_ret
  exact ⟨rfl, (by repeat (first | assumption | exact Below.refl _ _ | apply bel_alloc | apply bel_drew | apply bel_drewN | (refine bel_set ?_ (by first | assumption | omega | (simp; done) | (simp; omega)) _)))⟩
set_option maxRecDepth 100000 in
set_option maxHeartbeats 400000 in
theorem index_pass0 (K : FuncId) (q : Passing → Bool) (xs : List Passing) (A : Option Addr) (n c : Nat) (w : World) (h : Rd 3 Passing.enc w A n xs)
    (hcf : ∀ a W, Sem.run Tryd.prog (callFunc K a) W = .ok (.enter K a) W)
    (hq : ∀ x W, x ∈ xs → Below w.heap.size w W → Calls Tryd.prog K #[.agg #[.int .i64 x.place, .int .i64 x.earliest, .int .i64 x.latest]] W fun e w' => e = .returned (.bool (q x)) ∧ Below W.heap.size W w') :
    Calls Tryd.prog 109 #[.slice A n c, .func (.func K) #[] #[]] w fun e w' => e = .returned (.int .i64 (firstAt q xs)) ∧ Below w.heap.size w w' := by
  have hm := h.2.1
  have HQ := Lib.hid hq
  have H := Lib.hid h
  clear h hq
  go_enter Tryd.func109, Tryd.ntmps109
  go_wp2
  go_loopw [8] (fun v8 wr => ∃ k : Nat, k ≤ n ∧ v8 = .int .i64 k ∧ Hid (∀ j y, j < k → xs[j]? = some y → q y = false) ∧ Below w.heap.size w wr) (fun v _ => n - (intOf v).toNat)
  case atStart => exact ⟨0, Nat.zero_le _, rfl, fun j y hj => by omega, Below.refl _ _⟩
  case round =>
    obtain ⟨k, hk, rfl, HP, HB⟩ := hrel
    by_cases hlt : k < n
    · obtain ⟨x, hx⟩ := H.out.get hlt
      have HX := Lib.hid hx
      clear hx
      obtain ⟨ad, e, x0, x1, x2⟩ := (H.out.below HB).atPassing HX.out
      cases e
      rcases hqx : q x
      all_goals
        go_wp2_with ((with_reducible refine (HQ.out x _ (List.mem_of_getElem? HX.out) HB).mono ?_); rintro e w' ⟨rfl, hw'⟩; rw [hqx])
      · go_roundw
        case rel => exact ⟨k + 1, by omega, by go_num, fun j y hj hy => by
          rcases Nat.lt_or_ge j k with hl | hl
          · exact HP.out j y hl hy
          · obtain rfl : j = k := by omega
            rw [HX.out] at hy
            cases hy
            exact hqx, bel_then HB hw'⟩
        case measure => simp [intOf]; omega
      · go_ret
        exact ⟨ret_int (firstAt_some HX.out hqx HP.out).symm, bel_then HB hw'⟩
    · obtain rfl : n = k := by omega
      go_wp2
      go_ret
      exact ⟨ret_int (firstAt_none (fun j y hj hy => HP.out j y (by have := H.out.1; omega) hy)).symm, HB⟩
theorem contains_pass0 (K : FuncId) (q : Passing → Bool) (xs : List Passing) (A : Option Addr) (n c : Nat) (w : World) (h : Rd 3 Passing.enc w A n xs)
    (hcf : ∀ a W, Sem.run Tryd.prog (callFunc K a) W = .ok (.enter K a) W)
    (hq : ∀ x W, x ∈ xs → Below w.heap.size w W → Calls Tryd.prog K #[.agg #[.int .i64 x.place, .int .i64 x.earliest, .int .i64 x.latest]] W fun e w' => e = .returned (.bool (q x)) ∧ Below W.heap.size W w') :
    Calls Tryd.prog 78 #[.slice A n c, .func (.func K) #[] #[]] w fun e w' => e = .returned (.bool (xs.any q)) ∧ Below w.heap.size w w' := by
  have HQ := Lib.hid hq
  have H := Lib.hid h
  have HC := Lib.hid hcf
  clear h hq hcf
  go_enter Tryd.func78, Tryd.ntmps78
  go_wp2_with (go_at_call 109; refine (index_pass0 K q xs _ _ _ _ H.out HC.out HQ.out).mono ?_; rintro e w' ⟨rfl, hw'⟩)
  go_ret
  refine ⟨ret_bool ?_, hw'⟩
  rw [Bool.eq_iff_iff, ← firstAt_ge]
  simp

/-- The passing before the k-th one, as the program keeps it. -/
def befAt (sums : List (Int × Int)) (l : List Passing) : Nat → Passing
  | 0 => pass0
  | k + 1 => upAt sums l k
theorem upAt_bef {sums : List (Int × Int)} {l : List Passing} {k : Nat} {x : Passing} (hx : l[k]? = some x) : upAt sums l k = Passing.up sums (befAt sums l k) x := by
  cases k with
  | zero => exact upAt_zero hx
  | succ k => exact upAt_succ hx
def Passing.cells (x : Passing) : Array Value := #[.int .i64 x.place, .int .i64 x.earliest, .int .i64 x.latest]
theorem bef_in {s : Speeds} {r : Road} {l : List Passing} (hs : s.Valid) (hr : r.Valid) (h : PassOk r.length l) {k : Nat} {x : Passing} (hx : l[k]? = some x) :
    0 ≤ (befAt (sumsOf s r) l k).place ∧ (befAt (sumsOf s r) l k).place ≤ x.place ∧ x.place ≤ r.length ∧ 0 ≤ (befAt (sumsOf s r) l k).earliest ∧ (befAt (sumsOf s r) l k).earliest ≤ 2000000000000000 ∧ -1000000000000 ≤ (befAt (sumsOf s r) l k).latest ∧ (befAt (sumsOf s r) l k).latest ≤ 2000000000000000 := by
  obtain ⟨h1, h2, h3, h4, h5⟩ := h.at_ hx
  cases k with
  | zero => exact ⟨Int.le_refl _, h1, h2, Int.le_refl _, by show (0 : Int) ≤ _; omega, by show _ ≤ (0 : Int); omega, by show (0 : Int) ≤ _; omega⟩
  | succ k =>
    have hk := (List.getElem?_eq_some_iff.1 hx).1
    obtain ⟨y, hy, g1, ⟨g2, g3, g4, g5, g6, g7⟩, g8⟩ := h.up_in hs hr k (by omega)
    have hlt := h.lt hx hy
    have e1 := at1_range (s := s) hs hr g2 g3
    show 0 ≤ (upAt (sumsOf s r) l k).place ∧ (upAt (sumsOf s r) l k).place ≤ x.place ∧ _ ∧ 0 ≤ (upAt (sumsOf s r) l k).earliest ∧ (upAt (sumsOf s r) l k).earliest ≤ _ ∧ _ ≤ (upAt (sumsOf s r) l k).latest ∧ (upAt (sumsOf s r) l k).latest ≤ _
    omega
def NarrowPost (sums : List (Int × Int)) (l : List Passing) (w : World) (e : Ending) (w' : World) : Prop := Below w.heap.size w w' ∧
  (((narrowed sums l).any (fun x => decide (x.latest < x.earliest)) = false ∧ ∃ A c, e = .returned (.tuple #[.slice A l.length c, .int .i64 0]) ∧ Rd 3 Passing.enc w' A l.length (narrowed sums l)) ∨ ((narrowed sums l).any (fun x => decide (x.latest < x.earliest)) = true ∧ e = .returned (.tuple #[.slice none 0 0, .int .i64 5])))
set_option maxRecDepth 100000 in
set_option maxHeartbeats 8000000 in
theorem pace_Narrow_yes (s : Speeds) (r : Road) (l : List Passing) (A0 A1 A2 B2 B3 C : Option Addr) (n0 n1 n2 m2 m3 c0 c1 c2 d2 d3 n c : Nat) (w : World) (h0 : Rd 5 Piece.enc w A0 n0 r.pieces) (h1 : Rd 2 Crest.enc w A1 n1 r.crests) (h2 : Rd 3 Junction.enc w A2 n2 r.juncs) (g2 : Rd 3 SpeedRow.enc w B2 m2 s.rows) (g3 : Rd 1 intEnc w B3 m3 s.surface) (hc : Rd 3 Passing.enc w C n l) (hr : r.Valid) (hs : s.Valid) (hl : PassOk r.length l) :
    Calls Tryd.prog 45 #[.agg #[.slice A0 n0 c0, .slice A1 n1 c1, .slice A2 n2 c2], .agg #[.int .i64 s.least, .int .i64 s.most, .slice B2 m2 d2, .slice B3 m3 d3], .slice C n c] w (NarrowPost (sumsOf s r) l w) := by
  obtain ⟨N, hN⟩ : ∃ N : Nat, (N : Int) = r.length := ⟨r.length.toNat, by have := (hr.fit.2 _ (Nat.le_refl _)).1; show ((sumLen r.pieces r.pieces.length).toNat : Int) = sumLen r.pieces r.pieces.length; omega⟩
  have HN : Hid (r.length.toNat = N) := Lib.hid (by omega)
  have HLs := Lib.hid hl
  have hbo := bo_true hl
  rw [← hN] at hbo
  have H0 := Lib.hid h0; have H1 := Lib.hid h1; have H2 := Lib.hid h2; have G2 := Lib.hid g2; have G3 := Lib.hid g3; clear h0 h1 h2 g2 g3
  have HC := Lib.hid hc
  have HS := Lib.hid hs
  have HR := Lib.hid hr
  have hn := hc.1
  obtain rfl : n = l.length := hn.symm
  have hn3 := hl.1
  have HNN := Lib.hid hN
  clear hs hr hN hl hc
  rcases Nat.eq_zero_or_pos l.length with hz | hz
  · obtain rfl : l = [] := List.eq_nil_of_length_eq_zero hz
    clear hz hn3
    have HC0 : Hid (Rd 3 Passing.enc w C 0 ([] : List Passing)) := Lib.hid HC.out
    go_enter Tryd.func45, Tryd.ntmps45
    go_wp2_with (first
      | (go_at_call 58; go_must ((refine (pace_begin_yes s r A0 A1 A2 B2 B3 n0 n1 n2 m2 m3 c0 c1 c2 d2 d3 _ (H0.out.below (by repeat (first | assumption | exact Below.refl _ _ | apply bel_alloc | apply bel_drew | apply bel_drewN | (refine bel_set ?_ (by first | assumption | omega | (simp; done) | (simp; omega)) _)))) (H1.out.below (by repeat (first | assumption | exact Below.refl _ _ | apply bel_alloc | apply bel_drew | apply bel_drewN | (refine bel_set ?_ (by first | assumption | omega | (simp; done) | (simp; omega)) _)))) (H2.out.below (by repeat (first | assumption | exact Below.refl _ _ | apply bel_alloc | apply bel_drew | apply bel_drewN | (refine bel_set ?_ (by first | assumption | omega | (simp; done) | (simp; omega)) _)))) (G2.out.below (by repeat (first | assumption | exact Below.refl _ _ | apply bel_alloc | apply bel_drew | apply bel_drewN | (refine bel_set ?_ (by first | assumption | omega | (simp; done) | (simp; omega)) _)))) (G3.out.below (by repeat (first | assumption | exact Below.refl _ _ | apply bel_alloc | apply bel_drew | apply bel_drewN | (refine bel_set ?_ (by first | assumption | omega | (simp; done) | (simp; omega)) _)))) HS.out HR.out).mono ?_; rintro e w1 ⟨g, rfl, ht, hw1⟩; rw [HN.out] at ht; have HT : Hid (IsTrack w1 g (sumsOf s r) _ _ _ N) := Lib.hid ht; have HB1 : Hid (Below w.heap.size w w1) := Lib.hid (bel_then (by repeat (first | assumption | exact Below.refl _ _ | apply bel_alloc | apply bel_drew | apply bel_drewN | (refine bel_set ?_ (by first | assumption | omega | (simp; done) | (simp; omega)) _))) hw1); clear ht hw1)))
      | (go_at_call 77; go_must ((refine (track_passings [] C 0 c HT.out (HC0.out.below HB1.out)).mono ?_; rintro e w2 ⟨rfl, hw2⟩; have HT2 := Lib.hid (HT.out.below hw2); have HB2 := Lib.hid (bel_then HB1.out hw2); clear hw2)))
      | (go_at_call 85; go_must ((refine (clone_pass [] C 0 c _ (HC0.out.below HB2.out) (by omega)).mono ?_; rintro e w3 ⟨v, rfl, hown, hw3⟩; obtain ⟨Av, cv, rfl, _, hrd⟩ := hown.reads Passing.enc_len; have HRd : Hid (Rd 3 Passing.enc w3 Av 0 ([] : List Passing)) := Lib.hid hrd; clear hrd; have HB3 := Lib.hid hw3; clear hown hw3))))
    obtain ⟨W0, hW0⟩ : ∃ W0, (w3.alloc (.cells #[.int .i64 0, .int .i64 0, .int .i64 0] 89)) = W0 := ⟨_, rfl⟩
    have HB0 : Hid (Below w3.heap.size w3 W0) := Lib.hid (by rw [← hW0]; exact (by repeat (first | assumption | exact Below.refl _ _ | apply bel_alloc | apply bel_drew | apply bel_drewN | (refine bel_set ?_ (by first | assumption | omega | (simp; done) | (simp; omega)) _))))
    rw [hW0]
    clear hW0
    go_loopw [35] (fun v35 wr => v35 = .int .i64 0 ∧ W0 = wr) (fun _ _ => 0)
    case atStart => exact ⟨rfl, rfl⟩
    case round =>
      obtain ⟨rfl, rfl⟩ := hrel
      go_wp2
      go_loopw [14] (fun v14 wr => v14 = .int .i64 (-2) ∧ W0 = wr) (fun _ _ => 0)
      case atStart => exact ⟨rfl, rfl⟩
      case round =>
        obtain ⟨rfl, rfl⟩ := hrel
        go_wp2_with (go_at_call 78; go_must ((refine (contains_pass0 86 (fun x => decide (x.latest < x.earliest)) [] _ _ _ _ (HRd.out.below HB0.out) call_Narrow1 (fun x W hx hW => narrow_empty x)).mono ?_; rintro e w9 ⟨rfl, hw9⟩)))
        go_ret2
        exact ⟨bel_then (bel_then HB2.out (bel_then HB3.out HB0.out)) hw9, .inl ⟨rfl, _, _, rfl, (HRd.out.below HB0.out).below hw9⟩⟩
  go_enter Tryd.func45, Tryd.ntmps45
  go_wp2_with (first
    | (go_at_call 58; go_must ((refine (pace_begin_yes s r A0 A1 A2 B2 B3 n0 n1 n2 m2 m3 c0 c1 c2 d2 d3 _ (H0.out.below (by repeat (first | assumption | exact Below.refl _ _ | apply bel_alloc | apply bel_drew | apply bel_drewN | (refine bel_set ?_ (by first | assumption | omega | (simp; done) | (simp; omega)) _)))) (H1.out.below (by repeat (first | assumption | exact Below.refl _ _ | apply bel_alloc | apply bel_drew | apply bel_drewN | (refine bel_set ?_ (by first | assumption | omega | (simp; done) | (simp; omega)) _)))) (H2.out.below (by repeat (first | assumption | exact Below.refl _ _ | apply bel_alloc | apply bel_drew | apply bel_drewN | (refine bel_set ?_ (by first | assumption | omega | (simp; done) | (simp; omega)) _)))) (G2.out.below (by repeat (first | assumption | exact Below.refl _ _ | apply bel_alloc | apply bel_drew | apply bel_drewN | (refine bel_set ?_ (by first | assumption | omega | (simp; done) | (simp; omega)) _)))) (G3.out.below (by repeat (first | assumption | exact Below.refl _ _ | apply bel_alloc | apply bel_drew | apply bel_drewN | (refine bel_set ?_ (by first | assumption | omega | (simp; done) | (simp; omega)) _)))) HS.out HR.out).mono ?_; rintro e w1 ⟨g, rfl, ht, hw1⟩; rw [HN.out] at ht; have HT : Hid (IsTrack w1 g (sumsOf s r) _ _ _ N) := Lib.hid ht; have HB1 : Hid (Below w.heap.size w w1) := Lib.hid (bel_then (by repeat (first | assumption | exact Below.refl _ _ | apply bel_alloc | apply bel_drew | apply bel_drewN | (refine bel_set ?_ (by first | assumption | omega | (simp; done) | (simp; omega)) _))) hw1); clear ht hw1)))
    | (go_at_call 77; go_must ((refine (track_passings l C _ c HT.out (HC.out.below HB1.out)).mono ?_; rintro e w2 ⟨rfl, hw2⟩; have HT2 := Lib.hid (HT.out.below hw2); have HB2 := Lib.hid (bel_then HB1.out hw2); clear hw2)))
    | (go_at_call 85; go_must ((refine (clone_pass l C l.length c _ (HC.out.below HB2.out) (by omega)).mono ?_; rintro e w3 ⟨v, rfl, hown, hw3⟩; obtain ⟨gv, cv, rfl⟩ := hown.form_ hz; have HOw := Lib.hid hown; have HB3 := Lib.hid hw3; clear hown hw3))))
  have hgv : w2.heap.size ≤ gv ∧ gv < w3.heap.size := HOw.out.blk_lt
  obtain ⟨hgv1, hgv2⟩ := hgv
  have hW0 : Hid (Below w3.heap.size w3 (w3.alloc (.cells #[.int .i64 0, .int .i64 0, .int .i64 0] 89))) := Lib.hid (by repeat (first | assumption | exact Below.refl _ _ | apply bel_alloc | apply bel_drew | apply bel_drewN | (refine bel_set ?_ (by first | assumption | omega | (simp; done) | (simp; omega)) _)))
  go_loopw [35] (fun v35 wr => ∃ k : Nat, k ≤ l.length ∧ v35 = .int .i64 k ∧ Hid (Own 3 Passing.enc 89 wr w2.heap.size (.slice (some ⟨gv, 0, none⟩) l.length cv) (ups (sumsOf s r) l k)) ∧ Hid (Blk wr w3.heap.size 89 (befAt (sumsOf s r) l k).cells) ∧ Hid (Below w2.heap.size w2 wr)) (fun v35 _ => l.length - (intOf v35).toNat)
  case atStart => exact ⟨0, Nat.zero_le _, rfl, Lib.hid (by rw [ups_zero]; exact HOw.out.alloc _), Lib.hid (Blk.new _ _ _), Lib.hid (bel_alloc HB3.out _)⟩
  case round =>
    obtain ⟨k, hk, rfl, HOk, HBf, HBk⟩ := hrel
    by_cases hlt : k < l.length
    · obtain ⟨x, hx⟩ := HC.out.get hlt
      obtain ⟨q1, q2, q3, q4, q5⟩ := HLs.out.at_ hx
      have hbf := bef_in HS.out HR.out HLs.out hx
      have hux : (ups (sumsOf s r) l k)[k]? = some x := by rw [ups_old (Nat.le_refl _)]; exact hx
      have hup := upAt_bef (sums := sumsOf s r) hx
      have hsc := ups_succ (sums := sumsOf s r) hlt
      obtain ⟨bp, hbp⟩ : ∃ bp, (befAt (sumsOf s r) l k).place = bp := ⟨_, rfl⟩
      obtain ⟨be, hbe⟩ : ∃ be, (befAt (sumsOf s r) l k).earliest = be := ⟨_, rfl⟩
      obtain ⟨bl, hbl⟩ : ∃ bl, (befAt (sumsOf s r) l k).latest = bl := ⟨_, rfl⟩
      have HBF : Hid (befAt (sumsOf s r) l k = ⟨bp, be, bl⟩) := Lib.hid (by rw [← hbp, ← hbe, ← hbl])
      rw [hbp, hbe, hbl] at hbf
      obtain ⟨f1, f2, f3, f4, f5, f6, f7⟩ := hbf
      have hd1 := at1_le (s := s) HS.out HR.out f1 f2 f3
      have hd2 := at1_range (s := s) HS.out HR.out q1 q2
      have hd3 := at1_range (s := s) HS.out HR.out f1 (by omega)
      have hd4 := at2_le (s := s) HS.out HR.out f1 f2 f3
      have hd5 := at2_range (s := s) HS.out HR.out q1 q2
      have hd6 := at2_range (s := s) HS.out HR.out f1 (by omega)
      obtain ⟨d1, hd1v⟩ : ∃ d1, at1 (sumsOf s r) x.place - at1 (sumsOf s r) bp = d1 := ⟨_, rfl⟩
      obtain ⟨d2', hd2v⟩ : ∃ d2', at2 (sumsOf s r) x.place - at2 (sumsOf s r) bp = d2' := ⟨_, rfl⟩
      have g1 : 0 ≤ d1 ∧ d1 ≤ 1000000000000 := by omega
      have g2 : 0 ≤ d2' ∧ d2' ≤ 1000000000000 := by omega
      obtain ⟨g1, g1'⟩ := g1
      obtain ⟨g2, g2'⟩ := g2
      have bq0 := HBf.out.cell 0
      have bq1 := HBf.out.cell 1
      have bq2 := HBf.out.cell 2
      rw [HBF.out] at bq0 bq1 bq2
      simp [Passing.cells] at bq0 bq1 bq2
      have x0 := HOk.out.cellAt Passing.enc_len hux (j := 0) rfl
      have x1 := HOk.out.cellAt Passing.enc_len hux (j := 1) rfl
      have x2 := HOk.out.cellAt Passing.enc_len hux (j := 2) rfl
      rw [Nat.add_zero] at x0
      have xf1 := HOk.out.free (by rw [ups_len hk]) (k * 3 + 1)
      have xf2 := HOk.out.free (by rw [ups_len hk]) (k * 3 + 2)
      have hgl := HOk.out.blk_lt.2
      have hbl' := HBf.out.lt
      have hwr : IntKind.i64.wrap (be + d1) = be + d1 := IntWalk.i64_in _ (by omega)
      have hwr2 : IntKind.i64.wrap (bl + d2') = bl + d2' := IntWalk.i64_in _ (by omega)
      have HTr : Hid (IsTrack wr g (sumsOf s r) (.slice A0 n0 c0) (.slice A1 n1 c1) (.slice A2 n2 c2) N) := Lib.hid (HT2.out.below HBk.out)
      have HD1 := Lib.hid hd1v
      have HD2 := Lib.hid hd2v
      have HUP := Lib.hid hup
      have HSC := Lib.hid hsc
      have HUX := Lib.hid hux
      have HBT : Hid (∀ i, Calls Tryd.prog 60 #[.pointer (some ⟨g, 0, none⟩), .int .i64 0, .int .i64 bp, .int .i64 x.place] (wr.drewN i) fun e w' => e = .returned (.int .i64 d1) ∧ ∃ m, w' = wr.drewN m) := Lib.hid (fun i => by
        rw [← hd1v]
        exact (between_least bp x.place f1 (by omega) (by have := HNN.out; omega) (by have := HNN.out; omega) (HTr.out.drewN i)).mono (fun e w' ⟨he, m, hm⟩ => ⟨he, i + m, hm.trans (by rw [World.drewN_drewN])⟩))
      clear hx hux hup hsc hbp hbe hbl hd1 hd2 hd3 hd4 hd5 hd6 hd1v hd2v
      go_wp2
      refine wp_region_does [.pointer (some ⟨gv, k * 3, none⟩), .pointer (some ⟨gv, k * 3, none⟩), .pointer (some ⟨gv, k * 3, none⟩), .pointer (some ⟨gv, k * 3 + 1, none⟩), .int .i64 x.earliest, .pointer (some ⟨w3.heap.size, 1, none⟩), .int .i64 be, .pointer (some ⟨g, 0, none⟩), .pointer (some ⟨w3.heap.size, 0, none⟩), .int .i64 bp, .pointer (some ⟨gv, k * 3, none⟩), .pointer (some ⟨gv, k * 3, none⟩), .pointer (some ⟨gv, k * 3, none⟩), .int .i64 x.place, .int .i64 d1, .int .i64 (be + d1), .int .i64 (max x.earliest (be + d1)), .pointer (some ⟨gv, k * 3, none⟩), .pointer (some ⟨gv, k * 3 + 1, none⟩), undef] (fun b => Sto1 wr ⟨gv, k * 3 + 1, none⟩ (.int .i64 (max x.earliest (be + d1))) (b 19)) (by kernel_rfl) (by kernel_rfl) (by kernel_rfl) (by kernel_rfl) rfl ?_; intro af haf; simp only [frameL, Act.put, List.setIfInBounds_toArray, List.set_cons_succ, List.set_cons_zero] at haf; subst haf; refine ⟨Sto1.start, ?_, ?_⟩
      · intro i hi
        rcases i with _ | _ | _ | _ | _ | _ | _ | _ | _ | _ | _ | _ | _ | _ | _ | _ | _ | _ | _ | _ | i
        iterate 14 (focus (refine by_step _ rfl ?_; intro b hb hc hn W hW; have e : b 19 = false := hc.last (n := 19) (by kernel_rfl) _ _ rfl (by decide) hb; rw [e] at hW; obtain ⟨m, rfl⟩ := hW; clear hc hn; simp only [does]; go_simp; exact ⟨m, by simp [upb, e]⟩))
        · refine by_step _ rfl ?_; intro b hb hc hn W hW; have e : b 19 = false := hc.last (n := 19) (by kernel_rfl) _ _ rfl (by decide) hb; rw [e] at hW; obtain ⟨m, rfl⟩ := hW; clear hc hn; simp only [does]; go_simp
          exact (HBT.out m).mono (fun e9 w9 ⟨he, m9, hm9⟩ => ⟨_, he, rfl, m9, by rw [hm9]; simp [upb, e]⟩)
        iterate 4 (focus (refine by_step _ rfl ?_; intro b hb hc hn W hW; have e : b 19 = false := hc.last (n := 19) (by kernel_rfl) _ _ rfl (by decide) hb; rw [e] at hW; obtain ⟨m, rfl⟩ := hW; clear hc hn; simp only [does]; go_simp; exact ⟨m, by simp [upb, e]⟩))
        · refine by_step _ rfl ?_; intro b hb hc hn W hW; rw [hb] at hW; obtain ⟨m, rfl⟩ := hW; clear hc hn; simp only [does, cond_false]; go_simp
          exact ⟨m, by simp [upb]⟩
        · exact absurd hi (by simp)
      · intro b W hall hW
        rw [hall 19 (by decide)] at hW
        obtain ⟨m, rfl⟩ := hW
        clear hall
        simp only [cond_true]
        have HO1 := HOk.out.set Passing.enc_len (by rw [ups_len hk]) HUX.out (y := ⟨x.place, max x.earliest (be + d1), x.latest⟩) (j := 1) (u := max x.earliest (be + d1)) (by omega) rfl
        obtain ⟨W1, hW1⟩ : ∃ W1, ((wr.drewN m).setCell ⟨gv, k * 3 + 1, none⟩ (.int .i64 (max x.earliest (be + d1)))) = W1 := ⟨_, rfl⟩
        have HO1' : Hid (Own 3 Passing.enc 89 W1 w2.heap.size (.slice (some ⟨gv, 0, none⟩) l.length cv) ((ups (sumsOf s r) l k).set k ⟨x.place, max x.earliest (be + d1), x.latest⟩)) := Lib.hid (by rw [← hW1]; exact HO1)
        have hgne : gv ≠ w3.heap.size := by omega
        have HBf1 : Hid (Blk W1 w3.heap.size 89 (befAt (sumsOf s r) l k).cells) := Lib.hid (by rw [← hW1]; exact (HBf.out.drewN m).far (by show w3.heap.size ≠ gv; omega) _)
        have HBk1 : Hid (Below w2.heap.size w2 W1) := Lib.hid (by rw [← hW1]; exact bel_set (bel_drewN HBk.out m) hgv1 _)
        rw [hW1]
        clear hW1 HO1 bq0 bq1 bq2 x0 x1 x2 xf1 xf2 hgl hbl' HTr HBT
        obtain ⟨me, hme⟩ : ∃ me, max x.earliest (be + d1) = me := ⟨_, rfl⟩
        rw [hme] at HO1'
        rw [hme]
        have HME := Lib.hid hme
        clear hme
        have hu1 : ((ups (sumsOf s r) l k).set k ⟨x.place, me, x.latest⟩)[k]? = some ⟨x.place, me, x.latest⟩ := by rw [List.getElem?_set, if_pos rfl, if_pos (by rw [ups_len hk]; exact hlt)]
        have hl1 : ((ups (sumsOf s r) l k).set k ⟨x.place, me, x.latest⟩).length = l.length := by rw [List.length_set, ups_len hk]
        have bq0 := HBf1.out.cell 0
        have bq1 := HBf1.out.cell 1
        have bq2 := HBf1.out.cell 2
        rw [HBF.out] at bq0 bq1 bq2
        simp [Passing.cells] at bq0 bq1 bq2
        have x0 := HO1'.out.cellAt Passing.enc_len hu1 (j := 0) rfl
        have x2 := HO1'.out.cellAt Passing.enc_len hu1 (j := 2) rfl
        rw [Nat.add_zero] at x0
        have xf2 := HO1'.out.free hl1.symm (k * 3 + 2)
        have hgl := HO1'.out.blk_lt.2
        have hbl' := HBf1.out.lt
        have HBT : Hid (∀ i, Calls Tryd.prog 60 #[.pointer (some ⟨g, 0, none⟩), .int .i64 1, .int .i64 bp, .int .i64 x.place] (W1.drewN i) fun e w' => e = .returned (.int .i64 d2') ∧ ∃ m, w' = W1.drewN m) := Lib.hid (fun i => by
          rw [← HD2.out]
          exact (between_most bp x.place f1 (by omega) (by have := HNN.out; omega) (by have := HNN.out; omega) ((HT2.out.below HBk1.out).drewN i)).mono (fun e w' ⟨he, m, hm⟩ => ⟨he, i + m, hm.trans (by rw [World.drewN_drewN])⟩))
        have HU1 := Lib.hid hu1
        have HL1 := Lib.hid hl1
        clear hu1 hl1
        go_wp2
        refine wp_region_does [.pointer (some ⟨gv, k * 3, none⟩), .pointer (some ⟨gv, k * 3, none⟩), .pointer (some ⟨gv, k * 3, none⟩), .pointer (some ⟨gv, k * 3 + 2, none⟩), .int .i64 x.latest, .pointer (some ⟨w3.heap.size, 2, none⟩), .int .i64 bl, .pointer (some ⟨g, 0, none⟩), .pointer (some ⟨w3.heap.size, 0, none⟩), .int .i64 bp, .pointer (some ⟨gv, k * 3, none⟩), .pointer (some ⟨gv, k * 3, none⟩), .pointer (some ⟨gv, k * 3, none⟩), .int .i64 x.place, .int .i64 d2', .int .i64 (bl + d2'), .int .i64 (min x.latest (bl + d2')), .pointer (some ⟨gv, k * 3, none⟩), .pointer (some ⟨gv, k * 3 + 2, none⟩), undef] (fun b => Sto1 W1 ⟨gv, k * 3 + 2, none⟩ (.int .i64 (min x.latest (bl + d2'))) (b 19)) (by kernel_rfl) (by kernel_rfl) (by kernel_rfl) (by kernel_rfl) rfl ?_; intro af haf; simp only [frameL, Act.put, List.setIfInBounds_toArray, List.set_cons_succ, List.set_cons_zero] at haf; subst haf; refine ⟨Sto1.start, ?_, ?_⟩
        · intro i hi
          rcases i with _ | _ | _ | _ | _ | _ | _ | _ | _ | _ | _ | _ | _ | _ | _ | _ | _ | _ | _ | _ | i
          iterate 14 (focus (refine by_step _ rfl ?_; intro b hb hc hn W hW; have e : b 19 = false := hc.last (n := 19) (by kernel_rfl) _ _ rfl (by decide) hb; rw [e] at hW; obtain ⟨m, rfl⟩ := hW; clear hc hn; simp only [does]; go_simp; exact ⟨m, by simp [upb, e]⟩))
          · refine by_step _ rfl ?_; intro b hb hc hn W hW; have e : b 19 = false := hc.last (n := 19) (by kernel_rfl) _ _ rfl (by decide) hb; rw [e] at hW; obtain ⟨m, rfl⟩ := hW; clear hc hn; simp only [does]; go_simp
            exact (HBT.out m).mono (fun e9 w9 ⟨he, m9, hm9⟩ => ⟨_, he, rfl, m9, by rw [hm9]; simp [upb, e]⟩)
          iterate 4 (focus (refine by_step _ rfl ?_; intro b hb hc hn W hW; have e : b 19 = false := hc.last (n := 19) (by kernel_rfl) _ _ rfl (by decide) hb; rw [e] at hW; obtain ⟨m, rfl⟩ := hW; clear hc hn; simp only [does]; go_simp; exact ⟨m, by simp [upb, e]⟩))
          · refine by_step _ rfl ?_; intro b hb hc hn W hW; rw [hb] at hW; obtain ⟨m, rfl⟩ := hW; clear hc hn; simp only [does, cond_false]; go_simp
            exact ⟨m, by simp [upb]⟩
          · exact absurd hi (by simp)
        · intro b W hall hW
          rw [hall 19 (by decide)] at hW
          obtain ⟨m, rfl⟩ := hW
          clear hall
          simp only [cond_true]
          have HO2 := HO1'.out.set Passing.enc_len HL1.out.symm HU1.out (y := ⟨x.place, me, min x.latest (bl + d2')⟩) (j := 2) (u := min x.latest (bl + d2')) (by omega) rfl
          rw [List.set_set, show (⟨x.place, me, min x.latest (bl + d2')⟩ : Passing) = upAt (sumsOf s r) l k by rw [HUP.out, HBF.out, ← HME.out, ← HD1.out, ← HD2.out]; rfl, ← HSC.out] at HO2
          obtain ⟨W2, hW2⟩ : ∃ W2, ((W1.drewN m).setCell ⟨gv, k * 3 + 2, none⟩ (.int .i64 (min x.latest (bl + d2')))) = W2 := ⟨_, rfl⟩
          have HO2' : Hid (Own 3 Passing.enc 89 W2 w2.heap.size (.slice (some ⟨gv, 0, none⟩) l.length cv) (ups (sumsOf s r) l (k + 1))) := Lib.hid (by rw [← hW2]; exact HO2)
          have HBf2 : Hid (Blk W2 w3.heap.size 89 (befAt (sumsOf s r) l k).cells) := Lib.hid (by rw [← hW2]; exact (HBf1.out.drewN m).far (by show w3.heap.size ≠ gv; omega) _)
          have HBk2 : Hid (Below w2.heap.size w2 W2) := Lib.hid (by rw [← hW2]; exact bel_set (bel_drewN HBk1.out m) hgv1 _)
          rw [hW2]
          clear hW2 HO2 bq0 bq1 bq2 x0 x2 xf2 hgl hbl' HBT
          obtain ⟨ml, hml⟩ : ∃ ml, min x.latest (bl + d2') = ml := ⟨_, rfl⟩
          rw [hml]
          have hun : upAt (sumsOf s r) l k = ⟨x.place, me, ml⟩ := by rw [HUP.out, HBF.out, ← HME.out, ← hml, ← HD1.out, ← HD2.out]; rfl
          have HUN := Lib.hid hun
          have hu2 : (ups (sumsOf s r) l (k + 1))[k]? = some ⟨x.place, me, ml⟩ := by rw [ups_new (by omega), hun]
          clear hun hml
          have x0 := HO2'.out.cellAt Passing.enc_len hu2 (j := 0) rfl
          have x1 := HO2'.out.cellAt Passing.enc_len hu2 (j := 1) rfl
          have x2 := HO2'.out.cellAt Passing.enc_len hu2 (j := 2) rfl
          rw [Nat.add_zero] at x0
          have bq0 := HBf2.out.cell 0
          have bq1 := HBf2.out.cell 1
          have bq2 := HBf2.out.cell 2
          rw [HBF.out] at bq0 bq1 bq2
          simp [Passing.cells] at bq0 bq1 bq2
          have bf0 := HBf2.out.frozen 0
          have bf1 := HBf2.out.frozen 1
          have bf2 := HBf2.out.frozen 2
          have hgl := HO2'.out.blk_lt.2
          have hbl' := HBf2.out.lt
          clear hu2
          have hs23 := HB3.out.size
          go_wp2
          go_roundw
          case rel => exact ⟨k + 1, by omega, by go_num, Lib.hid (((HO2'.out.far (p := ⟨w3.heap.size, 0, none⟩) (by simp [Value.ownBlock]; omega) _).far (p := ⟨w3.heap.size, 1, none⟩) (by simp [Value.ownBlock]; omega) _).far (p := ⟨w3.heap.size, 2, none⟩) (by simp [Value.ownBlock]; omega) _), Lib.hid (by
            show Blk _ _ _ (upAt (sumsOf s r) l k).cells
            rw [HUN.out]
            have := ((HBf2.out.set 0 (.int .i64 x.place)).set 1 (.int .i64 me)).set 2 (.int .i64 ml)
            rw [HBF.out] at this
            exact this), Lib.hid (bel_set (bel_set (bel_set HBk2.out hs23 _) hs23 _) hs23 _)⟩
          case measure => simp [intOf]; omega
    · obtain rfl : k = l.length := by omega
      obtain ⟨M, hM⟩ : ∃ M, ups (sumsOf s r) l l.length = M := ⟨_, rfl⟩
      have hMl : M.length = l.length := by rw [← hM]; exact ups_len (Nat.le_refl _)
      have HMO : Hid (UpsOk s r M) := Lib.hid (by rw [← hM]; exact ups_ok HS.out HR.out HLs.out _ (Nat.le_refl _))
      have HM := Lib.hid hM
      rw [hM] at HOk
      have HML := Lib.hid hMl
      have hnn : Hid (narrowed (sumsOf s r) l = downs (sumsOf s r) M (l.length - 1)) := Lib.hid (by rw [narrowed_some hz, hM])
      clear hM hMl
      have hw2 : IntKind.i64.wrap ((l.length : Int) - 2) = (l.length : Int) - 2 := IntWalk.i64_in _ (by omega)
      obtain ⟨wo, rfl⟩ : ∃ wo : World, wo = wr := ⟨_, rfl⟩
      clear hW0 HBf
      go_wp2
      go_loopw [14] (fun v14 wr => ∃ i : Int, (-1 ≤ i ∧ i + 2 ≤ l.length) ∧ v14 = .int .i64 i ∧ Hid (Own 3 Passing.enc 89 wr w2.heap.size (.slice (some ⟨gv, 0, none⟩) l.length cv) (downs (sumsOf s r) M (l.length - 2 - i).toNat)) ∧ Hid (Below w2.heap.size w2 wr)) (fun v14 _ => (intOf v14 + 1).toNat)
      case atStart => exact ⟨(l.length : Int) - 2, by omega, rfl, Lib.hid (by rw [show ((l.length : Int) - 2 - ((l.length : Int) - 2)).toNat = 0 by omega, downs_zero (by rw [HML.out]; exact hz)]; exact HOk.out), HBk⟩
      case round =>
        obtain ⟨i, ⟨hi1, hi2⟩, rfl, HOi, HBi⟩ := hrel
        by_cases hi0 : 0 ≤ i
        · obtain ⟨p, rfl⟩ : ∃ p : Nat, i = p := ⟨i.toNat, by omega⟩
          have hp1 : p + 1 < l.length := by omega
          have hrk : (l.length - 2 - (p : Int)).toNat = l.length - 2 - p := by omega
          rw [hrk] at HOi
          have hkM : l.length - 2 - p < M.length := by rw [HML.out]; omega
          have hMx : M[p]? = some (M[p]'(by rw [HML.out]; omega)) := List.getElem?_eq_getElem _
          obtain ⟨x, hxv⟩ : ∃ x, M[p]'(by rw [HML.out]; omega) = x := ⟨_, rfl⟩
          rw [hxv] at hMx
          obtain ⟨q1, q2, q3, q4, q5, q6⟩ := HMO.out.2.1 p x hMx
          obtain ⟨y, hy⟩ : ∃ y, downAt (sumsOf s r) M (l.length - 2 - p) = y := ⟨_, rfl⟩
          have hdx : (downs (sumsOf s r) M (l.length - 2 - p))[p]? = some x := by rw [downs_old (by rw [HML.out]; omega)]; exact hMx
          have hdy : (downs (sumsOf s r) M (l.length - 2 - p))[p + 1]? = some y := by rw [downs_new hkM (by rw [HML.out]; omega) (by rw [HML.out]; exact hp1), HML.out, show l.length - 1 - (p + 1) = l.length - 2 - p by omega, hy]
          obtain ⟨yz, hyz, hyp, hyin⟩ := HMO.out.down_in HS.out HR.out (l.length - 2 - p) hkM
          rw [hy] at hyp hyin
          rw [HML.out, show l.length - 1 - (l.length - 2 - p) = p + 1 by omega] at hyz
          have hlt := HMO.out.2.2 p yz x hyz hMx
          obtain ⟨u1, u2, u3, u4, u5, u6⟩ := hyin
          have hsc : downs (sumsOf s r) M (l.length - 2 - p + 1) = (downs (sumsOf s r) M (l.length - 2 - p)).set p (Passing.down (sumsOf s r) x y) := by
            rw [downs_succ (by rw [HML.out]; omega), HML.out, show l.length - 1 - (l.length - 2 - p + 1) = p by omega, downAt_succ (x := x) (by rw [HML.out, show l.length - 1 - (l.length - 2 - p + 1) = p by omega]; exact hMx), hy]
          have hdl : (downs (sumsOf s r) M (l.length - 2 - p)).length = l.length := by rw [downs_len hkM, HML.out]
          have hd1 := at1_le (s := s) HS.out HR.out q1 (b := y.place) (by omega) u2
          have hd2 := at1_range (s := s) HS.out HR.out q1 q2
          have hd3 := at1_range (s := s) HS.out HR.out u1 u2
          have hd4 := at2_le (s := s) HS.out HR.out q1 (b := y.place) (by omega) u2
          have hd5 := at2_range (s := s) HS.out HR.out q1 q2
          have hd6 := at2_range (s := s) HS.out HR.out u1 u2
          obtain ⟨d1, hd1v⟩ : ∃ d1, at1 (sumsOf s r) y.place - at1 (sumsOf s r) x.place = d1 := ⟨_, rfl⟩
          obtain ⟨d2', hd2v⟩ : ∃ d2', at2 (sumsOf s r) y.place - at2 (sumsOf s r) x.place = d2' := ⟨_, rfl⟩
          have g1 : 0 ≤ d1 ∧ d1 ≤ 1000000000000 := by omega
          have g2 : 0 ≤ d2' ∧ d2' ≤ 1000000000000 := by omega
          obtain ⟨g1, g1'⟩ := g1
          obtain ⟨g2, g2'⟩ := g2
          have k3 : x.earliest ≤ 2000000000000000 := by omega
          have k4 : -1000000000000 ≤ x.latest := by omega
          have k5 : x.latest ≤ 2000000000000000 := by omega
          have k6 : 0 ≤ y.earliest := by omega
          have k7 : y.earliest ≤ 2000000000000000 := by omega
          have k8 : -1000000000000 ≤ y.latest := by omega
          have k9 : y.latest ≤ 2000000000000000 := by omega
          have hwr : IntKind.i64.wrap (y.earliest - d2') = y.earliest - d2' := IntWalk.i64_in _ (by omega)
          have hwr2 : IntKind.i64.wrap (y.latest - d1) = y.latest - d1 := IntWalk.i64_in _ (by omega)
          have hwp : IntKind.i64.wrap ((p : Int) + 1) = (p : Int) + 1 := IntWalk.i64_in _ (by omega)
          have hpn : ((p : Int) + 1).toNat = p + 1 := by omega
          have hpi : (p : Int) + 1 < (l.length : Int) := by omega
          have hpi2 : (p : Int) < (l.length : Int) := by omega
          have x0 := HOi.out.cellAt Passing.enc_len hdx (j := 0) rfl
          have x1 := HOi.out.cellAt Passing.enc_len hdx (j := 1) rfl
          have x2 := HOi.out.cellAt Passing.enc_len hdx (j := 2) rfl
          rw [Nat.add_zero] at x0
          have y0 := HOi.out.cellAt Passing.enc_len hdy (j := 0) rfl
          have y1 := HOi.out.cellAt Passing.enc_len hdy (j := 1) rfl
          have y2 := HOi.out.cellAt Passing.enc_len hdy (j := 2) rfl
          rw [Nat.add_zero] at y0
          have hgl := HOi.out.blk_lt.2
          have hwr2s : w2.heap.size ≤ wr.heap.size := HBi.out.size
          have ya : ∀ m o j v, wr.cell? ⟨gv, j, none⟩ = some v → ((wr.drewN m).alloc o).cell? ⟨gv, j, none⟩ = some v := fun m o j v h => bel_cell (w := wr) (bel_alloc (bel_drewN (Below.refl _ _) m) o) h
          have y0a := fun m o => ya m o _ _ y0
          have y1a := fun m o => ya m o _ _ y1
          have y2a := fun m o => ya m o _ _ y2
          have z0 := fun m => (Blk.new_at (wr.drewN m) wr.heap.size 89 #[.int .i64 0, .int .i64 0, .int .i64 0] rfl).cell 0
          have z1 := fun m => (Blk.new_at (wr.drewN m) wr.heap.size 89 #[.int .i64 0, .int .i64 0, .int .i64 0] rfl).cell 1
          have z2 := fun m => (Blk.new_at (wr.drewN m) wr.heap.size 89 #[.int .i64 0, .int .i64 0, .int .i64 0] rfl).cell 2
          have zf0 := fun m => (Blk.new_at (wr.drewN m) wr.heap.size 89 #[.int .i64 0, .int .i64 0, .int .i64 0] rfl).frozen 0
          have zf1 := fun m => (Blk.new_at (wr.drewN m) wr.heap.size 89 #[.int .i64 0, .int .i64 0, .int .i64 0] rfl).frozen 1
          have zf2 := fun m => (Blk.new_at (wr.drewN m) wr.heap.size 89 #[.int .i64 0, .int .i64 0, .int .i64 0] rfl).frozen 2
          clear ya
          have HD1 := Lib.hid hd1v
          have HD2 := Lib.hid hd2v
          have HSC := Lib.hid hsc
          have HDX := Lib.hid hdx
          have HDL := Lib.hid hdl
          have hplt : x.place ≤ y.place := by omega
          have u2N : y.place ≤ (N : Int) := by have := HNN.out; omega
          have q2N : x.place ≤ (N : Int) := by have := HNN.out; omega
          clear hrk hkM hMx hxv hy hdx hdy hyz hyp hlt hsc hdl hd1 hd2 hd3 hd4 hd5 hd6 hd1v hd2v hi1 hi2
          go_wp2
          refine wp_region_does [.slice (some ⟨gv, 0, none⟩) l.length cv, .int .i64 p, .pointer (some ⟨gv, p * 3, none⟩), .slice (some ⟨gv, 0, none⟩) l.length cv, .int .i64 p, .int .i64 ((p : Int) + 1), .pointer (some ⟨gv, (p + 1) * 3, none⟩), .agg #[.int .i64 y.place, .int .i64 y.earliest, .int .i64 y.latest], .pointer (some ⟨wr.heap.size, 0, none⟩), .pointer (some ⟨gv, p * 3, none⟩), undef] (fun b => Al3 wr (.cells #[.int .i64 0, .int .i64 0, .int .i64 0] 89) wr.heap.size (.int .i64 y.place) (.int .i64 y.earliest) (.int .i64 y.latest) (b 8) (b 10)) (by kernel_rfl) (by kernel_rfl) (by kernel_rfl) (by kernel_rfl) rfl ?_
          intro af haf
          simp only [frameL, Act.put, List.setIfInBounds_toArray, List.set_cons_succ, List.set_cons_zero] at haf
          subst haf
          refine ⟨Al3.start, ?_, ?_⟩
          · intro i hi
            rcases i with _ | _ | _ | _ | _ | _ | _ | _ | _ | _ | _ | i
            iterate 8 (focus (refine by_step _ rfl ?_; intro b hb hc hn W hW; have e : b 10 = false := hc.last (n := 10) (by kernel_rfl) _ _ rfl (by decide) hb; rw [e] at hW; obtain ⟨m, rfl⟩ := hW; clear hc hn; rcases e8 : b 8 <;> simp only [does, cond_false, cond_true] <;> go_simp <;> first | exact ⟨m, by simp [upb, e, e8]⟩ | exact ⟨rfl, m, by simp [upb, e, e8]⟩))
            · refine by_step _ rfl ?_
              intro b hb hc hn W hW
              have e : b 10 = false := hc.last (n := 10) (by kernel_rfl) _ _ rfl (by decide) hb
              rw [e, hb] at hW
              obtain ⟨m, rfl⟩ := hW
              clear hc hn
              simp only [does, cond_false]
              go_simp
              exact ⟨m, by simp [upb, e]⟩
            iterate 1 (focus (refine by_step _ rfl ?_; intro b hb hc hn W hW; have e : b 10 = false := hc.last (n := 10) (by kernel_rfl) _ _ rfl (by decide) hb; rw [e] at hW; obtain ⟨m, rfl⟩ := hW; clear hc hn; rcases e8 : b 8 <;> simp only [does, cond_false, cond_true] <;> go_simp <;> first | exact ⟨m, by simp [upb, e, e8]⟩ | exact ⟨rfl, m, by simp [upb, e, e8]⟩))
            · refine by_step _ rfl ?_
              intro b hb hc hn W hW
              have e8 : b 8 = true := hn 8 (needs_of (by kernel_rfl))
              rw [e8, hb] at hW
              obtain ⟨m, rfl⟩ := hW
              clear hc hn
              simp only [does, cond_false, cond_true]
              go_simp
              exact ⟨m, by simp [upb]⟩
            · exact absurd hi (by simp)
          · intro b W hall hW
            rw [hall 8 (by decide), hall 10 (by decide)] at hW
            obtain ⟨m, rfl⟩ := hW
            clear hall
            simp only [cond_true]
            obtain ⟨WA, hWA⟩ : ∃ WA, (((((wr.drewN m).alloc (.cells #[.int .i64 0, .int .i64 0, .int .i64 0] 89)).setCell ⟨wr.heap.size, 0, none⟩ (.int .i64 y.place)).setCell ⟨wr.heap.size, 1, none⟩ (.int .i64 y.earliest)).setCell ⟨wr.heap.size, 2, none⟩ (.int .i64 y.latest)) = WA := ⟨_, rfl⟩
            have HOA : Hid (Own 3 Passing.enc 89 WA w2.heap.size (.slice (some ⟨gv, 0, none⟩) l.length cv) (downs (sumsOf s r) M (l.length - 2 - p))) := Lib.hid (by rw [← hWA]; exact ((((HOi.out.drewN m).alloc _).far (p := ⟨wr.heap.size, 0, none⟩) (by simp [Value.ownBlock]; omega) _).far (p := ⟨wr.heap.size, 1, none⟩) (by simp [Value.ownBlock]; omega) _).far (p := ⟨wr.heap.size, 2, none⟩) (by simp [Value.ownBlock]; omega) _)
            have HBn : Hid (Blk WA wr.heap.size 89 y.cells) := Lib.hid (by rw [← hWA]; exact (((Blk.new_at (wr.drewN m) wr.heap.size _ #[.int .i64 0, .int .i64 0, .int .i64 0] rfl).set 0 (.int .i64 y.place)).set 1 (.int .i64 y.earliest)).set 2 (.int .i64 y.latest))
            have HBa : Hid (Below w2.heap.size w2 WA) := Lib.hid (by rw [← hWA]; exact bel_set (bel_set (bel_set (bel_alloc (bel_drewN HBi.out m) _) hwr2s _) hwr2s _) hwr2s _)
            rw [hWA]
            clear hWA x0 x1 x2 y0 y1 y2 y0a y1a y2a z0 z1 z2 zf0 zf1 zf2
            have x0 := HOA.out.cellAt Passing.enc_len HDX.out (j := 0) rfl
            have x1 := HOA.out.cellAt Passing.enc_len HDX.out (j := 1) rfl
            rw [Nat.add_zero] at x0
            have xf1 := HOA.out.free HDL.out.symm (p * 3 + 1)
            have bq0 := HBn.out.cell 0
            have bq1 := HBn.out.cell 1
            simp [Passing.cells] at bq0 bq1
            have hgA := HOA.out.blk_lt.2
            have hbl' := HBn.out.lt
            have HBT : Hid (∀ i, Calls Tryd.prog 60 #[.pointer (some ⟨g, 0, none⟩), .int .i64 1, .int .i64 x.place, .int .i64 y.place] (WA.drewN i) fun e w' => e = .returned (.int .i64 d2') ∧ ∃ m, w' = WA.drewN m) := Lib.hid (fun i => by
              rw [← HD2.out]
              exact (between_most x.place y.place q1 (by omega) (by omega) (by omega) ((HT2.out.below HBa.out).drewN i)).mono (fun e w' ⟨he, m, hm⟩ => ⟨he, i + m, hm.trans (by rw [World.drewN_drewN])⟩))
            go_wp2
            refine wp_region_does [.pointer (some ⟨gv, p * 3, none⟩), .pointer (some ⟨gv, p * 3, none⟩), .pointer (some ⟨gv, p * 3, none⟩), .pointer (some ⟨gv, p * 3 + 1, none⟩), .int .i64 x.earliest, .pointer (some ⟨wr.heap.size, 1, none⟩), .int .i64 y.earliest, .pointer (some ⟨g, 0, none⟩), .pointer (some ⟨gv, p * 3, none⟩), .pointer (some ⟨gv, p * 3, none⟩), .pointer (some ⟨gv, p * 3, none⟩), .int .i64 x.place, .pointer (some ⟨wr.heap.size, 0, none⟩), .int .i64 y.place, .int .i64 d2', .int .i64 (y.earliest - d2'), .int .i64 (max x.earliest (y.earliest - d2')), .pointer (some ⟨gv, p * 3, none⟩), .pointer (some ⟨gv, p * 3 + 1, none⟩), undef] (fun b => Sto1 WA ⟨gv, p * 3 + 1, none⟩ (.int .i64 (max x.earliest (y.earliest - d2'))) (b 19)) (by kernel_rfl) (by kernel_rfl) (by kernel_rfl) (by kernel_rfl) rfl ?_; intro af haf; simp only [frameL, Act.put, List.setIfInBounds_toArray, List.set_cons_succ, List.set_cons_zero] at haf; subst haf; refine ⟨Sto1.start, ?_, ?_⟩
            · intro i hi
              rcases i with _ | _ | _ | _ | _ | _ | _ | _ | _ | _ | _ | _ | _ | _ | _ | _ | _ | _ | _ | _ | i
              iterate 14 (focus (refine by_step _ rfl ?_; intro b hb hc hn W hW; have e : b 19 = false := hc.last (n := 19) (by kernel_rfl) _ _ rfl (by decide) hb; rw [e] at hW; obtain ⟨m, rfl⟩ := hW; clear hc hn; simp only [does]; go_simp; exact ⟨m, by simp [upb, e]⟩))
              · refine by_step _ rfl ?_; intro b hb hc hn W hW; have e : b 19 = false := hc.last (n := 19) (by kernel_rfl) _ _ rfl (by decide) hb; rw [e] at hW; obtain ⟨m, rfl⟩ := hW; clear hc hn; simp only [does]; go_simp
                exact (HBT.out m).mono (fun e9 w9 ⟨he, m9, hm9⟩ => ⟨_, he, rfl, m9, by rw [hm9]; simp [upb, e]⟩)
              iterate 4 (focus (refine by_step _ rfl ?_; intro b hb hc hn W hW; have e : b 19 = false := hc.last (n := 19) (by kernel_rfl) _ _ rfl (by decide) hb; rw [e] at hW; obtain ⟨m, rfl⟩ := hW; clear hc hn; simp only [does]; go_simp; exact ⟨m, by simp [upb, e]⟩))
              · refine by_step _ rfl ?_; intro b hb hc hn W hW; rw [hb] at hW; obtain ⟨m, rfl⟩ := hW; clear hc hn; simp only [does, cond_false]; go_simp
                exact ⟨m, by simp [upb]⟩
              · exact absurd hi (by simp)
            · intro b W hall hW
              rw [hall 19 (by decide)] at hW
              obtain ⟨m2, rfl⟩ := hW
              clear hall
              simp only [cond_true]
              have HO1 := HOA.out.set Passing.enc_len HDL.out.symm HDX.out (y := ⟨x.place, max x.earliest (y.earliest - d2'), x.latest⟩) (j := 1) (u := max x.earliest (y.earliest - d2')) (by omega) rfl
              obtain ⟨W1, hW1⟩ : ∃ W1, ((WA.drewN m2).setCell ⟨gv, p * 3 + 1, none⟩ (.int .i64 (max x.earliest (y.earliest - d2')))) = W1 := ⟨_, rfl⟩
              have HO1' : Hid (Own 3 Passing.enc 89 W1 w2.heap.size (.slice (some ⟨gv, 0, none⟩) l.length cv) ((downs (sumsOf s r) M (l.length - 2 - p)).set p ⟨x.place, max x.earliest (y.earliest - d2'), x.latest⟩)) := Lib.hid (by rw [← hW1]; exact HO1)
              have HBn1 : Hid (Blk W1 wr.heap.size 89 y.cells) := Lib.hid (by rw [← hW1]; exact (HBn.out.drewN m2).far (by show wr.heap.size ≠ gv; omega) _)
              have HBk1 : Hid (Below w2.heap.size w2 W1) := Lib.hid (by rw [← hW1]; exact bel_set (bel_drewN HBa.out m2) hgv1 _)
              rw [hW1]
              clear hW1 HO1 bq0 bq1 x0 x1 xf1 hbl' HBT hgA
              obtain ⟨me, hme⟩ : ∃ me, max x.earliest (y.earliest - d2') = me := ⟨_, rfl⟩
              rw [hme] at HO1'
              rw [hme]
              have HME := Lib.hid hme
              clear hme
              have hu1 : ((downs (sumsOf s r) M (l.length - 2 - p)).set p ⟨x.place, me, x.latest⟩)[p]? = some ⟨x.place, me, x.latest⟩ := by rw [List.getElem?_set, if_pos rfl, if_pos (by rw [HDL.out]; omega)]
              have hl1 : ((downs (sumsOf s r) M (l.length - 2 - p)).set p ⟨x.place, me, x.latest⟩).length = l.length := by rw [List.length_set, HDL.out]
              have bq0 := HBn1.out.cell 0
              have bq2 := HBn1.out.cell 2
              simp [Passing.cells] at bq0 bq2
              have x0 := HO1'.out.cellAt Passing.enc_len hu1 (j := 0) rfl
              have x2 := HO1'.out.cellAt Passing.enc_len hu1 (j := 2) rfl
              rw [Nat.add_zero] at x0
              have xf2 := HO1'.out.free hl1.symm (p * 3 + 2)
              have hg1 := HO1'.out.blk_lt.2
              have hbl' := HBn1.out.lt
              have HBT : Hid (∀ i, Calls Tryd.prog 60 #[.pointer (some ⟨g, 0, none⟩), .int .i64 0, .int .i64 x.place, .int .i64 y.place] (W1.drewN i) fun e w' => e = .returned (.int .i64 d1) ∧ ∃ m, w' = W1.drewN m) := Lib.hid (fun i => by
                rw [← HD1.out]
                exact (between_least x.place y.place q1 (by omega) (by omega) (by omega) ((HT2.out.below HBk1.out).drewN i)).mono (fun e w' ⟨he, m, hm⟩ => ⟨he, i + m, hm.trans (by rw [World.drewN_drewN])⟩))
              have HU1 := Lib.hid hu1
              have HL1 := Lib.hid hl1
              clear hu1 hl1
              go_wp2
              refine wp_region_does [.pointer (some ⟨gv, p * 3, none⟩), .pointer (some ⟨gv, p * 3, none⟩), .pointer (some ⟨gv, p * 3, none⟩), .pointer (some ⟨gv, p * 3 + 2, none⟩), .int .i64 x.latest, .pointer (some ⟨wr.heap.size, 2, none⟩), .int .i64 y.latest, .pointer (some ⟨g, 0, none⟩), .pointer (some ⟨gv, p * 3, none⟩), .pointer (some ⟨gv, p * 3, none⟩), .pointer (some ⟨gv, p * 3, none⟩), .int .i64 x.place, .pointer (some ⟨wr.heap.size, 0, none⟩), .int .i64 y.place, .int .i64 d1, .int .i64 (y.latest - d1), .int .i64 (min x.latest (y.latest - d1)), .pointer (some ⟨gv, p * 3, none⟩), .pointer (some ⟨gv, p * 3 + 2, none⟩), undef] (fun b => Sto1 W1 ⟨gv, p * 3 + 2, none⟩ (.int .i64 (min x.latest (y.latest - d1))) (b 19)) (by kernel_rfl) (by kernel_rfl) (by kernel_rfl) (by kernel_rfl) rfl ?_; intro af haf; simp only [frameL, Act.put, List.setIfInBounds_toArray, List.set_cons_succ, List.set_cons_zero] at haf; subst haf; refine ⟨Sto1.start, ?_, ?_⟩
              · intro i hi
                rcases i with _ | _ | _ | _ | _ | _ | _ | _ | _ | _ | _ | _ | _ | _ | _ | _ | _ | _ | _ | _ | i
                iterate 14 (focus (refine by_step _ rfl ?_; intro b hb hc hn W hW; have e : b 19 = false := hc.last (n := 19) (by kernel_rfl) _ _ rfl (by decide) hb; rw [e] at hW; obtain ⟨m, rfl⟩ := hW; clear hc hn; simp only [does]; go_simp; exact ⟨m, by simp [upb, e]⟩))
                · refine by_step _ rfl ?_; intro b hb hc hn W hW; have e : b 19 = false := hc.last (n := 19) (by kernel_rfl) _ _ rfl (by decide) hb; rw [e] at hW; obtain ⟨m, rfl⟩ := hW; clear hc hn; simp only [does]; go_simp
                  exact (HBT.out m).mono (fun e9 w9 ⟨he, m9, hm9⟩ => ⟨_, he, rfl, m9, by rw [hm9]; simp [upb, e]⟩)
                iterate 4 (focus (refine by_step _ rfl ?_; intro b hb hc hn W hW; have e : b 19 = false := hc.last (n := 19) (by kernel_rfl) _ _ rfl (by decide) hb; rw [e] at hW; obtain ⟨m, rfl⟩ := hW; clear hc hn; simp only [does]; go_simp; exact ⟨m, by simp [upb, e]⟩))
                · refine by_step _ rfl ?_; intro b hb hc hn W hW; rw [hb] at hW; obtain ⟨m, rfl⟩ := hW; clear hc hn; simp only [does, cond_false]; go_simp
                  exact ⟨m, by simp [upb]⟩
                · exact absurd hi (by simp)
              · intro b W hall hW
                rw [hall 19 (by decide)] at hW
                obtain ⟨m3, rfl⟩ := hW
                clear hall
                simp only [cond_true]
                have HO2 := HO1'.out.set Passing.enc_len HL1.out.symm HU1.out (y := ⟨x.place, me, min x.latest (y.latest - d1)⟩) (j := 2) (u := min x.latest (y.latest - d1)) (by omega) rfl
                rw [List.set_set, show (⟨x.place, me, min x.latest (y.latest - d1)⟩ : Passing) = Passing.down (sumsOf s r) x y by rw [← HME.out, ← HD1.out, ← HD2.out]; rfl, ← HSC.out] at HO2
                have HO2' := Lib.hid HO2
                have HB2' := Lib.hid (bel_set (p := ⟨gv, p * 3 + 2, none⟩) (bel_drewN HBk1.out m3) hgv1 (.int .i64 (min x.latest (y.latest - d1))))
                clear HO2 bq0 bq2 x0 x2 xf2 hg1 hbl' HBT
                go_wp2
                go_roundw
                case rel => exact ⟨(p : Int) - 1, ⟨by omega, by omega⟩, by first | rfl | go_num, Lib.hid (by rw [show (l.length - 2 - ((p : Int) - 1)).toNat = l.length - 2 - p + 1 by omega]; exact HO2'.out), HB2'⟩
                case measure => simp [intOf]
        · obtain rfl : i = -1 := by omega
          rw [show (l.length - 2 - (-1 : Int)).toNat = l.length - 1 by omega, ← hnn.out] at HOi
          have hrd := HOi.out.rd Passing.enc_len
          have HRd := Lib.hid hrd
          obtain ⟨V, hV⟩ : ∃ V, (narrowed (sumsOf s r) l).any (fun x => decide (x.latest < x.earliest)) = V := ⟨_, rfl⟩
          have HV := Lib.hid hV
          clear hrd hV
          rcases V with _ | _
          · go_wp2_with (go_at_call 78; go_must ((refine (contains_pass0 86 (fun x => decide (x.latest < x.earliest)) (narrowed (sumsOf s r) l) _ _ _ _ HRd.out call_Narrow1 (fun x W hx hW => narrow_empty x)).mono ?_; rw [HV.out]; rintro e w9 ⟨rfl, hw9⟩)))
            go_ret2
            exact ⟨bel_then (bel_then HB2.out HBi.out) hw9, .inl ⟨HV.out, _, _, rfl, HRd.out.below hw9⟩⟩
          · go_wp2_with (go_at_call 78; go_must ((refine (contains_pass0 86 (fun x => decide (x.latest < x.earliest)) (narrowed (sumsOf s r) l) _ _ _ _ HRd.out call_Narrow1 (fun x W hx hW => narrow_empty x)).mono ?_; rw [HV.out]; rintro e w9 ⟨rfl, hw9⟩)))
            go_ret2
            exact ⟨bel_then (bel_then HB2.out HBi.out) hw9, .inr ⟨HV.out, rfl⟩⟩
set_option maxRecDepth 100000 in
set_option maxHeartbeats 2000000 in
theorem pace_Narrow_no (s : Speeds) (r : Road) (l : List Passing) (A0 A1 A2 B2 B3 C : Option Addr) (n0 n1 n2 m2 m3 c0 c1 c2 d2 d3 n c : Nat) (w : World) (h0 : Rd 5 Piece.enc w A0 n0 r.pieces) (h1 : Rd 2 Crest.enc w A1 n1 r.crests) (h2 : Rd 3 Junction.enc w A2 n2 r.juncs) (g2 : Rd 3 SpeedRow.enc w B2 m2 s.rows) (g3 : Rd 1 intEnc w B3 m3 s.surface) (hc : Rd 3 Passing.enc w C n l) (hno : ¬(r.Valid ∧ s.Valid ∧ PassOk r.length l)) :
    Calls Tryd.prog 45 #[.agg #[.slice A0 n0 c0, .slice A1 n1 c1, .slice A2 n2 c2], .agg #[.int .i64 s.least, .int .i64 s.most, .slice B2 m2 d2, .slice B3 m3 d3], .slice C n c] w fun e w' => e = .returned (.tuple #[.slice none 0 0, .int .i64 2]) ∧ Below w.heap.size w w' := by
  have H0 := Lib.hid h0; have H1 := Lib.hid h1; have H2 := Lib.hid h2; have G2 := Lib.hid g2; have G3 := Lib.hid g3; clear h0 h1 h2 g2 g3
  have HC := Lib.hid hc
  obtain rfl : n = l.length := hc.1.symm
  by_cases hv : r.Valid ∧ s.Valid
  · have HR := Lib.hid hv.1
    have HS := Lib.hid hv.2
    have hl : 0 ≤ r.length := (hv.1.fit.2 _ (Nat.le_refl _)).1
    obtain ⟨N, hN⟩ : ∃ N : Nat, (N : Int) = r.length := ⟨r.length.toNat, by omega⟩
    have HN : Hid (r.length.toNat = N) := Lib.hid (by omega)
    have hbo : bo (PassOk N l) = false := bo_false fun h => hno ⟨hv.1, hv.2, by rw [← hN]; exact h⟩
    clear hc hv hl hN hno
    go_enter Tryd.func45, Tryd.ntmps45
    go_wp2_with (first
      | (go_at_call 58; go_must ((refine (pace_begin_yes s r A0 A1 A2 B2 B3 n0 n1 n2 m2 m3 c0 c1 c2 d2 d3 _ (H0.out.below (by repeat (first | assumption | exact Below.refl _ _ | apply bel_alloc | apply bel_drew | apply bel_drewN | (refine bel_set ?_ (by first | assumption | omega | (simp; done) | (simp; omega)) _)))) (H1.out.below (by repeat (first | assumption | exact Below.refl _ _ | apply bel_alloc | apply bel_drew | apply bel_drewN | (refine bel_set ?_ (by first | assumption | omega | (simp; done) | (simp; omega)) _)))) (H2.out.below (by repeat (first | assumption | exact Below.refl _ _ | apply bel_alloc | apply bel_drew | apply bel_drewN | (refine bel_set ?_ (by first | assumption | omega | (simp; done) | (simp; omega)) _)))) (G2.out.below (by repeat (first | assumption | exact Below.refl _ _ | apply bel_alloc | apply bel_drew | apply bel_drewN | (refine bel_set ?_ (by first | assumption | omega | (simp; done) | (simp; omega)) _)))) (G3.out.below (by repeat (first | assumption | exact Below.refl _ _ | apply bel_alloc | apply bel_drew | apply bel_drewN | (refine bel_set ?_ (by first | assumption | omega | (simp; done) | (simp; omega)) _)))) HS.out HR.out).mono ?_; rintro e w1 ⟨g, rfl, ht, hw1⟩; rw [HN.out] at ht; have HT := Lib.hid ht; have HB1 : Hid (Below w.heap.size w w1) := Lib.hid (bel_then (by repeat (first | assumption | exact Below.refl _ _ | apply bel_alloc | apply bel_drew | apply bel_drewN | (refine bel_set ?_ (by first | assumption | omega | (simp; done) | (simp; omega)) _))) hw1); clear ht hw1)))
      | (go_at_call 77; go_must ((refine (track_passings l C _ c HT.out (HC.out.below HB1.out)).mono ?_; rintro e w2 ⟨rfl, hw2⟩; have HB2 := Lib.hid (bel_then HB1.out hw2); clear hw2))))
    go_ret2
    exact ⟨rfl, HB2.out⟩
  · have HV := Lib.hid hv
    clear hc hv hno
    go_enter Tryd.func45, Tryd.ntmps45
    go_wp2_with (go_at_call 58; go_must ((refine (pace_begin_no s r A0 A1 A2 B2 B3 n0 n1 n2 m2 m3 c0 c1 c2 d2 d3 _ (H0.out.below (by repeat (first | assumption | exact Below.refl _ _ | apply bel_alloc | apply bel_drew | apply bel_drewN | (refine bel_set ?_ (by first | assumption | omega | (simp; done) | (simp; omega)) _)))) (H1.out.below (by repeat (first | assumption | exact Below.refl _ _ | apply bel_alloc | apply bel_drew | apply bel_drewN | (refine bel_set ?_ (by first | assumption | omega | (simp; done) | (simp; omega)) _)))) (H2.out.below (by repeat (first | assumption | exact Below.refl _ _ | apply bel_alloc | apply bel_drew | apply bel_drewN | (refine bel_set ?_ (by first | assumption | omega | (simp; done) | (simp; omega)) _)))) (G2.out.below (by repeat (first | assumption | exact Below.refl _ _ | apply bel_alloc | apply bel_drew | apply bel_drewN | (refine bel_set ?_ (by first | assumption | omega | (simp; done) | (simp; omega)) _)))) (G3.out.below (by repeat (first | assumption | exact Below.refl _ _ | apply bel_alloc | apply bel_drew | apply bel_drewN | (refine bel_set ?_ (by first | assumption | omega | (simp; done) | (simp; omega)) _)))) HV.out).mono ?_; rintro e w1 ⟨rfl, hw1⟩; have HB1 : Hid (Below w.heap.size w w1) := Lib.hid (bel_then (by repeat (first | assumption | exact Below.refl _ _ | apply bel_alloc | apply bel_drew | apply bel_drewN | (refine bel_set ?_ (by first | assumption | omega | (simp; done) | (simp; omega)) _))) hw1); clear hw1)))
    go_ret2
    exact ⟨rfl, HB1.out⟩
end Go.Proofs.YtinglbcafcjhfaaDoor
