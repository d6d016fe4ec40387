/- Plain laws of reading aloud: a run that takes shares of what each meter can take fits, and by a good plan each call ends in time. -/
import Derived.Test.YtinglbcafcjhfaaDoorLatestA
import Derived.Test.YtinglbcafcjhfaaDoorSaidB
import Derived.Test.YtinglbcafcjhfaaDoorFitC
namespace Go.Proofs.YtinglbcafcjhfaaDoor
open Go.RowKit
set_option linter.unusedVariables false

theorem runAt_get {run : List Int} {p x : Int} (h : run[p.toNat]? = some x) : runAt run p = x := by unfold runAt; rw [List.getD_eq_getElem?_getD, h]; rfl
section
variable {s : Speeds} {r : Road} {l : List Call} {ts run : List Int}
/-- Between two places a run takes what the speeds allow. -/
theorem RunUp.between {sums : List (Int × Int)} {k : Nat} (h : RunUp sums run k) {a : Int} (h0 : 0 ≤ a) (hk : k ≤ run.length) : ∀ d : Nat, a + d < k → at1 sums (a + d) - at1 sums a ≤ runAt run (a + d) - runAt run a ∧ runAt run (a + d) - runAt run a ≤ at2 sums (a + d) - at2 sums a
  | 0, _ => by simp
  | d + 1, hd => by
    have ih := RunUp.between h h0 hk d (by omega)
    have hx : run[(a + (d + 1 : Nat)).toNat]? = some (run[(a + (d + 1 : Nat)).toNat]'(by omega)) := List.getElem?_eq_getElem _
    have hy : run[(a + (d + 1 : Nat)).toNat - 1]? = some (run[(a + (d + 1 : Nat)).toNat - 1]'(by omega)) := List.getElem?_eq_getElem _
    have h1 := ((h (a + (d + 1 : Nat)).toNat (by omega) _ hx).2 _ (by omega) hy).2
    rw [inB_iff] at h1
    rw [show (((a + (d + 1 : Nat)).toNat : Nat) : Int) = a + (d + 1 : Nat) by omega, show a + ((d + 1 : Nat) : Int) - 1 = a + d by omega] at h1
    have e1 := runAt_get hx
    have e2 := runAt_get (p := a + d) (by rw [← hy]; congr 1; omega)
    omega
theorem RunUp.le {sums : List (Int × Int)} (h : RunUp sums run run.length) {a b : Int} (h0 : 0 ≤ a) (hab : a ≤ b) (hb : b < run.length) : at1 sums b - at1 sums a ≤ runAt run b - runAt run a ∧ runAt run b - runAt run a ≤ at2 sums b - at2 sums a := by
  have := h.between h0 (Nat.le_refl _) (b - a).toNat (by omega)
  rwa [show a + (((b - a).toNat : Nat) : Int) = b by omega] at this
/-- The last call's end is some trigger's time and what the calls from there on take. -/
theorem endAt_from (h0 : ∀ j, 0 ≤ runAt run (ts.getD j 0)) : ∀ i, i < l.length → ∃ j, j ≤ i ∧ endAt l ts run (i + 1) = runAt run (ts.getD j 0) + rmS l j (i + 1 - j)
  | 0, hi => ⟨0, Nat.le_refl _, by
      have hc : l[0]? = some l[0] := List.getElem?_eq_getElem hi
      show max 0 (runAt run (ts.getD 0 0)) + (match l[0]? with | some c => c.lasts | none => 0) = _
      have := h0 0
      simp only [rmS, hc, Nat.zero_add, Nat.sub_zero]
      omega⟩
  | i + 1, hi => by
    obtain ⟨j, hj, e⟩ := endAt_from h0 i (by omega)
    have hc : l[i + 1]? = some l[i + 1] := List.getElem?_eq_getElem hi
    have he : endAt l ts run (i + 1 + 1) = max (endAt l ts run (i + 1)) (runAt run (ts.getD (i + 1) 0)) + l[i + 1].lasts := by
      show max _ _ + (match l[i + 1]? with | some c => c.lasts | none => 0) = _
      rw [hc]
    rcases Int.le_total (endAt l ts run (i + 1)) (runAt run (ts.getD (i + 1) 0)) with hm | hm
    · refine ⟨i + 1, Nat.le_refl _, ?_⟩
      rw [he, show i + 1 + 1 - (i + 1) = 0 + 1 by omega, rmS_succ (l := l) (a := i + 1) (k := 0) (c := l[i + 1]) hc]
      simp only [rmS]
      omega
    · refine ⟨j, by omega, ?_⟩
      rw [he, show i + 1 + 1 - j = (i + 1 - j) + 1 by omega, rmS_succ (c := l[i + 1]) (by rw [show j + (i + 1 - j) = i + 1 by omega]; exact hc)]
      omega
/-- By a good plan, a run that the speeds allow hears each call in time. -/
theorem heard {N : Int} (ho : CallsOk N l) (hg : GoodPlan (sumsOf s r) l ts) (ht : TrigsOk N l.length ts) (hu : RunUp (sumsOf s r) run run.length) (hl : (run.length : Int) = N + 1) (hp : ∀ j, 0 ≤ runAt run j) {i : Nat} {x : Call} {p : Int} (hx : l[i]? = some x) (hpp : ts[i]? = some p) :
    endAt l ts run (i + 1) + x.lead ≤ runAt run x.place ∧ runAt run x.place - runAt run p ≤ x.ahead := by
  have hi : i < l.length := (List.getElem?_eq_some_iff.1 hx).1
  have hxo := ho.at_ hx
  constructor
  · obtain ⟨j, hj, e⟩ := endAt_from (l := l) (ts := ts) (run := run) (fun j => hp _) i hi
    obtain ⟨q, y, g1, g2, g3, g4, g5⟩ := hg j (by omega)
    have hq := ht.at_ g1
    rw [rmR_le_iff] at g4
    have g6 := g4.2 (i - j) x (by omega) (by rw [show j + (i - j) = i by omega]; exact hx)
    rw [slack_eq, show i - j + 1 = i + 1 - j by omega] at g6
    have hyx : y.place ≤ x.place := by
      have mono : ∀ m : Nat, ∀ c : Call, l[j + m]? = some c → y.place ≤ c.place := by
        intro m
        induction m with
        | zero => intro c hc; rw [Nat.add_zero, g2] at hc; cases hc; omega
        | succ m ih =>
          intro c hc
          have hlt := (List.getElem?_eq_some_iff.1 hc).1
          have hc' : l[j + m]? = some l[j + m] := List.getElem?_eq_getElem (by omega)
          have h1 := ih _ hc'
          have h2 := (ho.2 (j + (m + 1)) hlt c hc).2.1 l[j + m] (by omega) (by rw [show j + (m + 1) - 1 = j + m by omega]; exact hc')
          rw [decide_eq_false_iff_not] at h2
          omega
      exact mono (i - j) x (by rw [show j + (i - j) = i by omega]; exact hx)
    have hb := (hu.le (a := q) (b := x.place) hq.1 (by omega) (by omega)).1
    have eq : ts.getD j 0 = q := by rw [List.getD_eq_getElem?_getD, g1]; rfl
    rw [e, eq]
    omega
  · obtain ⟨q, y, g1, g2, g3, g4, g5⟩ := hg i hi
    rw [hpp] at g1
    cases g1
    rw [hx] at g2
    cases g2
    have hq := ht.at_ hpp
    have hb := (hu.le (a := p) (b := x.place) hq.1 (by omega) (by omega)).2
    omega

/-! ### The run that the law makes -/
def share (sh : List Int) (i : Nat) : Int := match sh[i]? with
  | some x => min 100 (max 0 x)
  | none => 0
def shareAt (s : Speeds) (r : Road) (sh : List Int) : Nat → Int
  | 0 => 0
  | k + 1 => shareAt s r sh k + (btwL s r k (k + 1 : Nat) + (btwM s r k (k + 1 : Nat) - btwL s r k (k + 1 : Nat)) * share sh k / 100)
def shareRun (s : Speeds) (r : Road) (sh : List Int) (k : Nat) : List Int := (List.range k).map (shareAt s r sh)
theorem share_bound (sh : List Int) (i : Nat) : 0 ≤ share sh i ∧ share sh i ≤ 100 := by
  unfold share
  cases sh[i]? <;> simp <;> omega
theorem btw_one (hs : s.Valid) (hr : r.Valid) {k : Nat} (hk : (k : Int) < r.length) : 0 ≤ btwL s r k (k + 1 : Nat) ∧ btwL s r k (k + 1 : Nat) ≤ btwM s r k (k + 1 : Nat) ∧ btwM s r k (k + 1 : Nat) ≤ 10000000 := by
  have h1 := at1_succ (p := (k : Int)) hs hr (by omega) hk
  have h2 := at2_succ (p := (k : Int)) hs hr (by omega) hk
  have h3 := meterOf_le hs hr (p := (k : Int)) (by omega) hk
  have h4 := meterOf_bound hs hr (p := (k : Int)) (by omega) hk
  unfold btwL btwM
  rw [show ((k + 1 : Nat) : Int) = (k : Int) + 1 by omega, h1, h2]
  omega
theorem share_step (hs : s.Valid) (hr : r.Valid) (sh : List Int) {k : Nat} (hk : (k : Int) < r.length) : btwL s r k (k + 1 : Nat) ≤ shareAt s r sh (k + 1) - shareAt s r sh k ∧ shareAt s r sh (k + 1) - shareAt s r sh k ≤ btwM s r k (k + 1 : Nat) := by
  have hb := btw_one hs hr hk
  obtain ⟨h1, h2⟩ := share_bound sh k
  have e : shareAt s r sh (k + 1) = shareAt s r sh k + (btwL s r k (k + 1 : Nat) + (btwM s r k (k + 1 : Nat) - btwL s r k (k + 1 : Nat)) * share sh k / 100) := rfl
  have e1 : 0 ≤ (btwM s r k (k + 1 : Nat) - btwL s r k (k + 1 : Nat)) * share sh k := Int.mul_nonneg (by omega) h1
  have e2 : (btwM s r k (k + 1 : Nat) - btwL s r k (k + 1 : Nat)) * share sh k ≤ (btwM s r k (k + 1 : Nat) - btwL s r k (k + 1 : Nat)) * 100 := Int.mul_le_mul_of_nonneg_left h2 (by omega)
  rw [e]
  omega
theorem shareAt_bound (hs : s.Valid) (hr : r.Valid) (sh : List Int) : ∀ k : Nat, (k : Int) ≤ r.length → 0 ≤ shareAt s r sh k ∧ shareAt s r sh k ≤ 10000000 * k
  | 0, _ => by simp [shareAt]
  | k + 1, hk => by
    have ih := shareAt_bound hs hr sh k (by omega)
    have h1 := share_step hs hr sh (k := k) (by omega)
    have h2 := btw_one hs hr (k := k) (by omega)
    omega
theorem shareRun_len (sh : List Int) (k : Nat) : (shareRun s r sh k).length = k := by simp [shareRun]
theorem shareRun_get (sh : List Int) {k i : Nat} (h : i < k) : (shareRun s r sh k)[i]? = some (shareAt s r sh i) := by simp [shareRun, h]
theorem shareRun_succ (sh : List Int) (k : Nat) : shareRun s r sh (k + 1) = shareRun s r sh k ++ [shareAt s r sh k] := by simp [shareRun, List.range_succ]
/-- The list that the law fills. -/
def shareFill (s : Speeds) (r : Road) (sh : List Int) (n k : Nat) : List Int := (List.range n).map fun i => if i < k then shareAt s r sh i else 0
theorem shareFill_len (sh : List Int) (n k : Nat) : (shareFill s r sh n k).length = n := by simp [shareFill]
theorem shareFill_get (sh : List Int) {n k i : Nat} (h : i < n) : (shareFill s r sh n k)[i]? = some (if i < k then shareAt s r sh i else 0) := by simp [shareFill, h]
theorem shareFill_one (sh : List Int) (n : Nat) : shareFill s r sh n 1 = List.replicate n 0 := by
  apply List.ext_getElem?
  intro i
  by_cases h : i < n
  · rw [shareFill_get sh h, List.getElem?_replicate, if_pos h]
    congr 1
    split
    · obtain rfl : i = 0 := by omega
      rfl
    · rfl
  · rw [List.getElem?_eq_none (by rw [shareFill_len]; omega), List.getElem?_eq_none (by simp; omega)]
theorem shareFill_set (sh : List Int) {n k : Nat} (h : k < n) : (shareFill s r sh n k).set k (shareAt s r sh k) = shareFill s r sh n (k + 1) := by
  apply List.ext_getElem?
  intro i
  rw [List.getElem?_set]
  by_cases hi : k = i
  · subst hi
    rw [if_pos rfl, if_pos (by rw [shareFill_len]; exact h), shareFill_get sh h, if_pos (by omega)]
  · rw [if_neg hi]
    by_cases hn : i < n
    · rw [shareFill_get sh hn, shareFill_get sh hn]
      congr 1
      by_cases h1 : i < k
      · rw [if_pos h1, if_pos (by omega)]
      · rw [if_neg h1, if_neg (by omega)]
    · rw [List.getElem?_eq_none (by rw [shareFill_len]; omega), List.getElem?_eq_none (by rw [shareFill_len]; omega)]
theorem shareFill_all (sh : List Int) (n : Nat) : shareFill s r sh n n = shareRun s r sh n := by
  apply List.ext_getElem?
  intro i
  by_cases h : i < n
  · rw [shareFill_get sh h, shareRun_get sh h, if_pos h]
  · rw [List.getElem?_eq_none (by rw [shareFill_len]; omega), List.getElem?_eq_none (by rw [shareRun_len]; omega)]
theorem shareRun_up (hs : s.Valid) (hr : r.Valid) (sh : List Int) {n : Nat} (hn : (n : Int) = r.length + 1) : RunUp (sumsOf s r) (shareRun s r sh n) n := by
  intro i hi x hx
  rw [shareRun_get sh hi] at hx
  cases hx
  refine ⟨fun h => by rw [h]; rfl, fun y hk hy => ?_⟩
  obtain ⟨k, rfl⟩ : ∃ k, i = k + 1 := ⟨i - 1, by omega⟩
  rw [Nat.add_sub_cancel, shareRun_get sh (by omega)] at hy
  cases hy
  have h1 := share_step hs hr sh (k := k) (by omega)
  have h2 := btw_one hs hr (k := k) (by omega)
  rw [inB_iff, show (((k + 1 : Nat) : Int) - 1) = (k : Int) by omega]
  unfold btwL btwM at *
  omega
theorem shareRun_fits (hs : s.Valid) (hr : r.Valid) (sh : List Int) {n : Nat} (hn : (n : Int) = r.length + 1) : FitsRun (sumsOf s r) [] (shareRun s r sh n) := ⟨by rw [shareRun_len]; exact shareRun_up hs hr sh hn, rfl⟩
theorem shareRun_ok (hs : s.Valid) (hr : r.Valid) (sh : List Int) {n : Nat} (hn : (n : Int) = r.length + 1) : RunOk r.length (shareRun s r sh n) := by
  have hsh := hr.short
  refine ⟨by rw [shareRun_len]; exact hn, fun i hi x hx => ?_⟩
  rw [shareRun_len] at hi
  rw [shareRun_get sh hi] at hx
  cases hx
  have h1 := shareAt_bound hs hr sh i (by omega)
  refine ⟨by rw [inB_iff]; omega, fun y hk hy => ?_⟩
  obtain ⟨k, rfl⟩ : ∃ k, i = k + 1 := ⟨i - 1, by omega⟩
  rw [Nat.add_sub_cancel, shareRun_get sh (by omega)] at hy
  cases hy
  have h1 := share_step hs hr sh (k := k) (by omega)
  have h2 := btw_one hs hr (k := k) (by omega)
  rw [decide_eq_false_iff_not]
  omega
theorem shareRun_pos (hs : s.Valid) (hr : r.Valid) (sh : List Int) {n : Nat} (hn : (n : Int) = r.length + 1) (j : Int) : 0 ≤ runAt (shareRun s r sh n) j := by
  unfold runAt
  rw [List.getD_eq_getElem?_getD]
  by_cases h : j.toNat < n
  · rw [shareRun_get sh h]
    exact (shareAt_bound hs hr sh _ (by omega)).1
  · rw [List.getElem?_eq_none (by rw [shareRun_len]; omega)]
    simp
end
end Go.Proofs.YtinglbcafcjhfaaDoor
