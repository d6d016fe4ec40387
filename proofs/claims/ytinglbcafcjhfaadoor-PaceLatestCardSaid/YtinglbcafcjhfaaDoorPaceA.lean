/- Contracts of package pace: within, bounds, slices.IndexFunc and ContainsFunc over numbers, Check. -/
import Derived.Test.YtinglbcafcjhfaaDoorProg
import Derived.Test.YtinglbcafcjhfaaDoorPaceBase
import Derived.Deep.DeepMust
import Derived.Outline
namespace Go.Proofs.YtinglbcafcjhfaaDoor
open Go.RowKit
set_option linter.unusedVariables false
set_option linter.unusedSimpArgs false

theorem pace_within (x a b : Int) (w : World) : Calls Tryd.prog 62 #[.int .i64 x, .int .i64 a, .int .i64 b] w fun e w' => e = .returned (.bool (inB x a b)) ∧ w = w' := by
  by_cases h : a ≤ x
  · have h1 : decide (a ≤ x) = true := decide_eq_true h
    go_enter Tryd.func62, Tryd.ntmps62
    go_wp2
    go_ret
    exact ⟨by simp [inB, h], rfl⟩
  · have h1 : decide (a ≤ x) = false := decide_eq_false h
    go_enter Tryd.func62, Tryd.ntmps62
    go_wp2
    go_ret
    exact ⟨by simp [inB]; omega, rfl⟩
theorem ret_int2 {a b c d : Int} (h : a = c) (k : b = d) : Ending.returned (.tuple #[.int .i64 a, .int .i64 b]) = .returned (.tuple #[.int .i64 c, .int .i64 d]) := by rw [h, k]
theorem ret_bool {a b : Bool} (h : a = b) : Ending.returned (.bool a) = .returned (.bool b) := by rw [h]
theorem pace_bounds (a b : Int) (w : World) : Calls Tryd.prog 61 #[.int .i64 a, .int .i64 b] w fun e w' => e = .returned (.bool (bnd a b)) ∧ w = w' := by
  go_enter Tryd.func61, Tryd.ntmps61
  go_wp2
  all_goals
    go_ret
    refine ⟨ret_bool ?_, rfl⟩
    rw [Bool.eq_iff_iff, bnd_iff]
    go_light; simp only [inB_iff, inB_iff_false, Bool.not_eq_true, Bool.not_eq_true', Bool.not_eq_false', bne_iff_ne, bne_eq_false_iff_eq, beq_iff_eq, beq_eq_false_iff_ne, ne_eq, decide_eq_true_eq, decide_eq_false_iff_not, true_iff, false_iff, iff_true, iff_false, reduceCtorEq, Bool.and_eq_true, Bool.or_eq_true] at *
    omega

theorem pace_Check1 (x : Int) (w : World) : Calls Tryd.prog 64 #[.int .i64 x] w fun e w' => e = .returned (.bool (!inB x 1 100)) ∧ w = w' := by
  go_enter Tryd.func64, Tryd.ntmps64
  go_wp2_with (go_at_call 62; refine (pace_within _ _ _ _).mono ?_; rintro e w' ⟨rfl, rfl⟩)
  go_ret
  exact ⟨rfl, rfl⟩

set_option maxRecDepth 100000 in
set_option maxHeartbeats 400000 in
theorem index_int (K : FuncId) (q : Int → Bool) (xs : List Int) (A : Option Addr) (n c : Nat) (w : World) (h : Rd 1 intEnc w A n xs)
    (hcf : ∀ a W, Sem.run Tryd.prog (callFunc K a) W = .ok (.enter K a) W)
    (hq : ∀ x, Calls Tryd.prog K #[.int .i64 x] w fun e w' => e = .returned (.bool (q x)) ∧ w = w') :
    Calls Tryd.prog 105 #[.slice A n c, .func (.func K) #[] #[]] w fun e w' => e = .returned (.int .i64 (firstAt q xs)) ∧ w = w' := by
  have hm := h.2.1
  have HQ := Lib.hid hq
  have H := Lib.hid h
  clear h hq
  go_enter Tryd.func105, Tryd.ntmps105
  go_wp2
  go_loop [8] (fun v8 => ∃ k : Nat, k ≤ n ∧ v8 = .int .i64 k ∧ Hid (∀ j y, j < k → xs[j]? = some y → q y = false)) (fun v => n - (intOf v).toNat)
  case atStart => exact ⟨0, Nat.zero_le _, rfl, fun j y hj => by omega⟩
  case round =>
    obtain ⟨k, hk, rfl, HP⟩ := hrel
    by_cases hlt : k < n
    · obtain ⟨x, hx⟩ := H.out.get hlt
      have HX := Lib.hid hx
      clear hx
      obtain ⟨ad, e, x0⟩ := H.out.at1 HX.out
      cases e
      rcases hqx : q x
      all_goals
        go_wp2_with ((with_reducible refine (HQ.out x).mono ?_); rintro e w' ⟨rfl, rfl⟩)
      · go_round
        case rel => exact ⟨k + 1, by omega, by go_num, fun j y hj hy => by
          rcases Nat.lt_or_ge j k with hl | hl
          · exact HP.out j y hl hy
          · obtain rfl : j = k := by omega
            rw [HX.out] at hy
            cases hy
            exact hqx⟩
        case measure => simp [intOf]; omega
      · go_ret
        exact ⟨ret_int (firstAt_some HX.out hqx HP.out).symm, rfl⟩
    · obtain rfl : n = k := by omega
      go_wp2
      go_ret
      exact ⟨ret_int (firstAt_none (fun j y hj hy => HP.out j y (by have := H.out.1; omega) hy)).symm, rfl⟩
theorem contains_int (K : FuncId) (q : Int → Bool) (xs : List Int) (A : Option Addr) (n c : Nat) (w : World) (h : Rd 1 intEnc w A n xs)
    (hcf : ∀ a W, Sem.run Tryd.prog (callFunc K a) W = .ok (.enter K a) W)
    (hq : ∀ x, Calls Tryd.prog K #[.int .i64 x] w fun e w' => e = .returned (.bool (q x)) ∧ w = w') :
    Calls Tryd.prog 63 #[.slice A n c, .func (.func K) #[] #[]] w fun e w' => e = .returned (.bool (xs.any q)) ∧ w = w' := by
  have HQ := Lib.hid hq
  have H := Lib.hid h
  have HC := Lib.hid hcf
  clear h hq hcf
  go_enter Tryd.func63, Tryd.ntmps63
  go_wp2_with (go_at_call 105; refine (index_int K q xs _ _ _ _ H.out HC.out HQ.out).mono ?_; rintro e w' ⟨rfl, rfl⟩)
  go_ret
  refine ⟨ret_bool ?_, rfl⟩
  rw [Bool.eq_iff_iff, ← firstAt_ge]
  simp

end Go.Proofs.YtinglbcafcjhfaaDoor
