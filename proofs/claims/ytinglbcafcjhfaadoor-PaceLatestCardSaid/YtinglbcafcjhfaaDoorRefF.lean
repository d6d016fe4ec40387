/- The contract of the reference's greatest; plain laws on rooms. -/
import Derived.Test.YtinglbcafcjhfaaDoorRefE
import Derived.Test.YtinglbcafcjhfaaDoorPaceI
import Derived.Deep.LoopGhost
namespace Go.Proofs.YtinglbcafcjhfaaDoor
open Go.RowKit
set_option linter.unusedVariables false
set_option linter.unusedSimpArgs false

section
variable {sums : List (Int × Int)} {l : List Call} {a : Nat}
theorem rmR_le_iff (x : Int) : ∀ n : Nat, x ≤ rmR sums l a n ↔ x ≤ 1125899906842624 ∧ ∀ k c, k < n → l[a + k]? = some c → x ≤ slack sums l a k c
  | 0 => by simp [rmR]
  | n + 1 => by
    have ih := rmR_le_iff x n
    cases hc : l[a + n]? with
    | none =>
      simp only [rmR, hc]
      rw [ih]
      refine and_congr_right fun _ => ⟨fun h k c hk hkc => ?_, fun h k c hk hkc => h k c (by omega) hkc⟩
      rcases Nat.lt_or_ge k n with hl | hl
      · exact h k c hl hkc
      · obtain rfl : k = n := by omega
        rw [hc] at hkc
        cases hkc
    | some d =>
      rw [rmR_succ hc]
      constructor
      · intro h
        have h1 : x ≤ rmR sums l a n := by omega
        have h2 : x ≤ slack sums l a n d := by omega
        refine ⟨(ih.1 h1).1, fun k c hk hkc => ?_⟩
        rcases Nat.lt_or_ge k n with hl | hl
        · exact (ih.1 h1).2 k c hl hkc
        · obtain rfl : k = n := by omega
          rw [hc] at hkc
          cases hkc
          exact h2
      · intro ⟨h1, h2⟩
        have h3 := ih.2 ⟨h1, fun k c hk hkc => h2 k c (by omega) hkc⟩
        have h4 := h2 n d (by omega) hc
        omega
theorem rmL_neg_iff : ∀ n : Nat, rmL sums l a n < 0 ↔ ∀ k c, k < n → l[a + k]? = some c → 0 ≤ slack sums l a k c
  | 0 => by simp [rmL]
  | n + 1 => by
    have ih := rmL_neg_iff n
    cases hc : l[a + n]? with
    | none =>
      simp only [rmL, hc]
      rw [ih]
      refine ⟨fun h k c hk hkc => ?_, fun h k c hk hkc => h k c (by omega) hkc⟩
      rcases Nat.lt_or_ge k n with hl | hl
      · exact h k c hl hkc
      · obtain rfl : k = n := by omega
        rw [hc] at hkc
        cases hkc
    | some d =>
      rw [rmL_succ hc]
      constructor
      · intro h k c hk hkc
        by_cases hs : slack sums l a n d < 0 ∧ rmL sums l a n < 0
        · rw [if_pos hs] at h; omega
        · rw [if_neg hs] at h
          rcases Nat.lt_or_ge k n with hl | hl
          · exact ih.1 h k c hl hkc
          · obtain rfl : k = n := by omega
            rw [hc] at hkc
            cases hkc
            omega
      · intro h
        have h1 := h n d (by omega) hc
        rw [if_neg (by omega)]
        exact ih.2 fun k c hk hkc => h k c (by omega) hkc
theorem rmL_first : ∀ (n late : Nat), rmL sums l a n = late → a ≤ late ∧ late < a + n ∧ (∃ c, l[late]? = some c ∧ slack sums l a (late - a) c < 0) ∧ ∀ k c, a + k < late → l[a + k]? = some c → 0 ≤ slack sums l a k c
  | 0, late, h => by simp [rmL] at h
  | n + 1, late, h => by
    cases hc : l[a + n]? with
    | none =>
      simp only [rmL, hc] at h
      obtain ⟨h1, h2, h3, h4⟩ := rmL_first n late h
      exact ⟨h1, by omega, h3, h4⟩
    | some d =>
      rw [rmL_succ hc] at h
      by_cases hs : slack sums l a n d < 0 ∧ rmL sums l a n < 0
      · rw [if_pos hs] at h
        obtain rfl : late = a + n := by omega
        refine ⟨by omega, by omega, ⟨d, hc, by rw [show a + n - a = n by omega]; exact hs.1⟩, fun k c hk hkc => ?_⟩
        exact (rmL_neg_iff n).1 hs.2 k c (by omega) hkc
      · rw [if_neg hs] at h
        obtain ⟨h1, h2, h3, h4⟩ := rmL_first n late h
        exact ⟨h1, by omega, h3, h4⟩
theorem rmL_of_first {n late : Nat} (h1 : a ≤ late) (h2 : late < a + n) {c : Call} (hc : l[late]? = some c) (hs : slack sums l a (late - a) c < 0) (hb : ∀ k d, a + k < late → l[a + k]? = some d → 0 ≤ slack sums l a k d) : rmL sums l a n = late := by
  have hn : ¬rmL sums l a n < 0 := fun h => by
    have := (rmL_neg_iff n).1 h (late - a) c (by omega) (by rw [show a + (late - a) = late by omega]; exact hc)
    omega
  obtain ⟨m, hm⟩ : ∃ m : Nat, rmL sums l a n = m := ⟨(rmL sums l a n).toNat, by omega⟩
  obtain ⟨g1, g2, ⟨d, hd, g3⟩, g4⟩ := rmL_first n m hm
  rw [hm]
  rcases Nat.lt_trichotomy m late with h | h | h
  · have := hb (m - a) d (by omega) (by rw [show a + (m - a) = m by omega]; exact hd)
    omega
  · rw [h]
  · have := g4 (late - a) c (by omega) (by rw [show a + (late - a) = late by omega]; exact hc)
    omega
/-- Up to the m-th call from the j-th one, none ends late if the first begins at p. -/
def FineUp (sums : List (Int × Int)) (l : List Call) (j m : Nat) (p : Int) : Prop := ∀ k c, k < m → l[j + k]? = some c → at1 sums p ≤ slack sums l j k c
theorem FineUp.zero (j : Nat) (p : Int) : FineUp sums l j 0 p := fun k c hk => by omega
theorem FineUp.succ {j m : Nat} {p : Int} (h : FineUp sums l j m p) {c : Call} (hc : l[j + m]? = some c) (hs : at1 sums p ≤ slack sums l j m c) : FineUp sums l j (m + 1) p := fun k d hk hd => by
  rcases Nat.lt_or_ge k m with hl | hl
  · exact h k d hl hd
  · obtain rfl : k = m := by omega
    rw [hc] at hd
    cases hd
    exact hs
theorem FineUp.last {j m : Nat} {p : Int} (h : FineUp sums l j (m + 1) p) {c : Call} (hc : l[j + m]? = some c) : at1 sums p ≤ slack sums l j m c := h m c (by omega) hc
theorem FineUp.pred {j m : Nat} {p : Int} (h : FineUp sums l j (m + 1) p) : FineUp sums l j m p := fun k c hk hc => h k c (by omega) hc
end
theorem last_of_fine {s : Speeds} {r : Road} {l : List Call} {j : Nat} {b g : Int} (hs : s.Valid) (hr : r.Valid) (hb : b ≤ r.length) (h0 : 0 ≤ g) (h1 : g ≤ b) (hf : FineUp (sumsOf s r) l j (l.length - j) g) (hn : ∀ x, g < x → x ≤ b → ¬FineUp (sumsOf s r) l j (l.length - j) x) : LastIs (roomQ (sumsOf s r) l j) b g := by
  refine ⟨h0, h1, .inr ?_, ?_⟩
  · unfold roomQ
    rw [decide_eq_true_eq, rmR_le_iff]
    exact ⟨by have := at1_range (s := s) hs hr h0 (by omega); omega, hf⟩
  · rcases Int.lt_or_eq_of_le h1 with h | h
    · refine .inr ?_
      unfold roomQ
      rw [decide_eq_false_iff_not, rmR_le_iff]
      intro ⟨_, hh⟩
      exact hn (g + 1) (by omega) (by omega) hh
    · exact .inl h
theorem last_unique {s : Speeds} {r : Road} {l : List Call} {j : Nat} {b g g' : Int} (hs : s.Valid) (hr : r.Valid) (hb : b ≤ r.length) (h : LastIs (roomQ (sumsOf s r) l j) b g) (h' : LastIs (roomQ (sumsOf s r) l j) b g') : g = g' := by
  have key : ∀ {g g' : Int}, LastIs (roomQ (sumsOf s r) l j) b g → LastIs (roomQ (sumsOf s r) l j) b g' → ¬g < g' := by
    intro g g' ⟨a1, a2, a3, a4⟩ ⟨c1, c2, c3, c4⟩ hlt
    rcases a4 with a4 | a4
    · omega
    · rcases c3 with c3 | c3
      · omega
      · unfold roomQ at a4 c3
        rw [decide_eq_false_iff_not] at a4
        rw [decide_eq_true_eq] at c3
        have := at1_le (s := s) hs hr (show 0 ≤ g + 1 by omega) (show g + 1 ≤ g' by omega) (by omega)
        omega
  have k1 := key h h'
  have k2 := key h' h
  omega
def GreatPost (s : Speeds) (r : Road) (l : List Call) (j : Nat) (b : Int) (w : World) (e : Ending) (w' : World) : Prop := ∃ g, LastIs (roomQ (sumsOf s r) l j) b g ∧ e = .returned (.int .i64 g) ∧ Below w.heap.size w w'
set_option maxRecDepth 100000 in
set_option maxHeartbeats 4000000 in
theorem ref3_greatest (s : Speeds) (r : Road) (l : List Call) (j : Nat) (x : Call) (A0 A1 A2 B2 B3 C : Option Addr) (n0 n1 n2 m2 m3 c0 c1 c2 d2 d3 n c : Nat) (w : World)
    (h0 : Rd 5 Piece.enc w A0 n0 r.pieces) (g2 : Rd 3 SpeedRow.enc w B2 m2 s.rows) (g3 : Rd 1 intEnc w B3 m3 s.surface) (h1 : Rd 5 Call.enc w C n l) (hr : r.Valid) (hs : s.Valid) (ho : CallsOk r.length l) (hx : l[j]? = some x) (hin : rmL (sumsOf s r) l j (l.length - j) < 0) :
    Calls Tryd.prog 76 #[.agg #[.slice A0 n0 c0, .slice A1 n1 c1, .slice A2 n2 c2], .agg #[.int .i64 s.least, .int .i64 s.most, .slice B2 m2 d2, .slice B3 m3 d3], .slice C n c, .int .i64 j] w (GreatPost s r l j x.place w) := by
  have hn : n ≤ 300 := by have := ho.1; have := h1.1; omega
  have hj : j < n := by have := (List.getElem?_eq_some_iff.1 hx).1; have := h1.1; omega
  have hsh := hr.short
  obtain ⟨p1, p2, _⟩ := ho.at_ hx
  have hz : FineUp (sumsOf s r) l j (l.length - j) 0 := fun k c hk hc => by rw [at1_zero]; exact (rmL_neg_iff _).1 hin k c hk hc
  have H0 := Lib.hid h0
  have G2 := Lib.hid g2
  have G3 := Lib.hid g3
  have H1 := Lib.hid h1
  have HR := Lib.hid hr
  have HS := Lib.hid hs
  have HO := Lib.hid ho
  have HX := Lib.hid hx
  have HZ := Lib.hid hz
  have HN := Lib.hid h1.1
  clear h0 g2 g3 h1 hr hs ho hx hz hin
  obtain ⟨ad, e, x0, x1, x2, x3, x4⟩ := H1.out.atCall HX.out
  cases e
  have xb := World.block_lt_of_cell? _ _ x0
  go_enter Tryd.func76, Tryd.ntmps76
  go_wp2
  clear x0 x1 x2 x3 x4 xb
  go_loopw [9] (fun v9 wr => ∃ g : Int, v9 = .int .i64 g ∧ (0 ≤ g ∧ g ≤ x.place) ∧ Hid (∀ y, g < y → y ≤ x.place → ¬FineUp (sumsOf s r) l j (l.length - j) y) ∧ Hid (Blk wr w.heap.size 26 #[.slice A0 n0 c0, .slice A1 n1 c1, .slice A2 n2 c2]) ∧ Hid (Blk wr (w.heap.size + 1) 30 #[.int .i64 s.least, .int .i64 s.most, .slice B2 m2 d2, .slice B3 m3 d3]) ∧ Hid (Below w.heap.size w wr)) (fun v9 _ => (intOf v9).toNat)
  case atStart => exact ⟨x.place, rfl, ⟨p1, Int.le_refl _⟩, Lib.hid fun y h1 h2 => by omega, Lib.hid ((Blk.new _ _ _).alloc _), Lib.hid (Blk.new_at _ _ _ _ (by simp)), Lib.hid (by repeat (first | assumption | exact Below.refl _ _ | apply bel_alloc | apply bel_drew | apply bel_drewN | (refine bel_set ?_ (by first | assumption | omega | (simp; done) | (simp; omega)) _)))⟩
  case round =>
    obtain ⟨g, rfl, ⟨hg0, hg1⟩, HG, HKR, HKS, HB⟩ := hrel
    go_wp2
    obtain ⟨wo, hwo⟩ : ∃ wo : World, wr = wo := ⟨_, rfl⟩
    subst hwo
    go_loopw [10, 11] (fun v10 v11 wi => ∃ m : Nat, j + m ≤ n ∧ v11 = .int .i64 ((j + m : Nat) : Int) ∧ v10 = .bool (bo (FineUp (sumsOf s r) l j m g)) ∧ Hid (Blk wi w.heap.size 26 #[.slice A0 n0 c0, .slice A1 n1 c1, .slice A2 n2 c2]) ∧ Hid (Blk wi (w.heap.size + 1) 30 #[.int .i64 s.least, .int .i64 s.most, .slice B2 m2 d2, .slice B3 m3 d3]) ∧ Hid (Below w.heap.size w wi)) (fun _ v11 _ => n - (intOf v11).toNat)
    case atStart => exact ⟨0, by omega, by simp, by rw [bo_true (FineUp.zero _ _)], HKR, HKS, HB⟩
    case round =>
      obtain ⟨m, hm, rfl, rfl, HIR, HIS, HIB⟩ := hrel
      have r0 := HIR.out.cell 0
      have r1 := HIR.out.cell 1
      have r2 := HIR.out.cell 2
      have s0 := HIS.out.cell 0
      have s1 := HIS.out.cell 1
      have s2 := HIS.out.cell 2
      have s3 := HIS.out.cell 3
      by_cases hlt : j + m < n
      · obtain ⟨y, hy⟩ := H1.out.get hlt
        have HY := Lib.hid hy
        clear hy
        by_cases hf : FineUp (sumsOf s r) l j m g
        · have hb := bo_true hf
          have HF := Lib.hid hf
          clear hf
          by_cases hl : at1 (sumsOf s r) g ≤ slack (sumsOf s r) l j m y
          · have hv : LateB s r l j (j + m) g = false := by rw [LateB_at HY.out, show j + m - j = m by omega]; simp; omega
            have HN1 := Lib.hid (bo_true (HF.out.succ HY.out hl))
            clear hl
            go_wp2_with (go_at_call 75; go_must ((refine (ref3_late s r l j (j + m) g A0 A1 A2 B2 B3 _ n0 n1 n2 m2 m3 c0 c1 c2 d2 d3 n c _ (H0.out.below HIB.out) (G2.out.below HIB.out) (G3.out.below HIB.out) (H1.out.below HIB.out) HR.out HS.out HO.out (by omega) hlt hg0 (by omega)).mono ?_; rintro e w1 ⟨rfl, hw1⟩)))
            go_roundw
            case rel => exact ⟨m + 1, by omega, by go_num, by rw [HN1.out], Lib.hid (HIR.out.below hw1), Lib.hid (HIS.out.below hw1), Lib.hid (bel_then HIB.out hw1)⟩
            case measure => simp [intOf]; omega
          · have hv : LateB s r l j (j + m) g = true := by rw [LateB_at HY.out, show j + m - j = m by omega]; simp; omega
            have HN1 := Lib.hid (bo_false fun h : FineUp (sumsOf s r) l j (m + 1) g => hl (h.last HY.out))
            clear hl
            go_wp2_with (go_at_call 75; go_must ((refine (ref3_late s r l j (j + m) g A0 A1 A2 B2 B3 _ n0 n1 n2 m2 m3 c0 c1 c2 d2 d3 n c _ (H0.out.below HIB.out) (G2.out.below HIB.out) (G3.out.below HIB.out) (H1.out.below HIB.out) HR.out HS.out HO.out (by omega) hlt hg0 (by omega)).mono ?_; rintro e w1 ⟨rfl, hw1⟩)))
            go_roundw
            case rel => exact ⟨m + 1, by omega, by go_num, by rw [HN1.out], Lib.hid (HIR.out.below hw1), Lib.hid (HIS.out.below hw1), Lib.hid (bel_then HIB.out hw1)⟩
            case measure => simp [intOf]; omega
        · have hb := bo_false hf
          have HN1 := Lib.hid (bo_false fun h : FineUp (sumsOf s r) l j (m + 1) g => hf h.pred)
          clear hf
          go_wp2
          go_roundw
          case rel => exact ⟨m + 1, by omega, by go_num, by rw [HN1.out], HIR, HIS, HIB⟩
          case measure => simp [intOf]; omega
      · have hm2 : m = l.length - j := by have := HN.out; omega
        have HM := Lib.hid hm2
        clear hm2
        by_cases hf : FineUp (sumsOf s r) l j m g
        · have hb := bo_true hf
          have HF := Lib.hid hf
          clear hf
          go_wp2
          rotate_left
          · exact absurd (hb.symm.trans ‹bo (FineUp (sumsOf s r) l j m g) = false›) (by simp)
          go_ret
          exact ⟨g, last_of_fine HS.out HR.out p2 hg0 hg1 (by have := HF.out; rw [HM.out] at this; exact this) HG.out, rfl, HIB.out⟩
        · have hb := bo_false hf
          have hf2 : ¬FineUp (sumsOf s r) l j (l.length - j) g := by have := HM.out; rw [this] at hf; exact hf
          have hgp : 0 < g := by
            rcases Int.lt_or_eq_of_le hg0 with h | h
            · exact h
            · exact absurd (by rw [← h]; exact HZ.out) hf2
          have HN1 := Lib.hid (show ∀ y, g - 1 < y → y ≤ x.place → ¬FineUp (sumsOf s r) l j (l.length - j) y from fun y h1 h2 => by
            by_cases hy : y = g
            · rw [hy]; exact hf2
            · exact HG.out y (by omega) h2)
          clear hf hf2
          go_wp2
          · exact absurd (hb.symm.trans ‹bo (FineUp (sumsOf s r) l j m g) = true›) (by simp)
          go_roundw
          case rel => exact ⟨g - 1, rfl, ⟨by omega, by omega⟩, HN1, HIR, HIS, HIB⟩
          case measure => simp [intOf]; omega
end Go.Proofs.YtinglbcafcjhfaaDoor
