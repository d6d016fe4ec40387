/- slices.ContainsFunc over passings, and what pace.Fits hands to it. -/
import Derived.Test.YtinglbcafcjhfaaDoorFitA
namespace Go.Proofs.YtinglbcafcjhfaaDoor
open Go.RowKit
set_option linter.unusedVariables false
set_option linter.unusedSimpArgs false

def Passing.val (x : Passing) : Value := .agg #[.int .i64 x.place, .int .i64 x.earliest, .int .i64 x.latest]
set_option maxRecDepth 100000 in
set_option maxHeartbeats 400000 in
theorem index_pass (K : FuncId) (cap : Value) (q : Passing → Bool) (xs : List Passing) (A : Option Addr) (n c : Nat) (w : World) (h : Rd 3 Passing.enc w A n xs)
    (hcf : ∀ a W, Sem.run Tryd.prog (callFunc K a) W = .ok (.enter K a) W)
    (hq : ∀ x W, x ∈ xs → Below w.heap.size w W → Calls Tryd.prog K #[.agg #[.int .i64 x.place, .int .i64 x.earliest, .int .i64 x.latest], cap] W fun e w' => e = .returned (.bool (q x)) ∧ Below W.heap.size W w') :
    Calls Tryd.prog 109 #[.slice A n c, .func (.func K) #[] #[cap]] w fun e w' => e = .returned (.int .i64 (firstAt q xs)) ∧ Below w.heap.size w w' := by
  have hm := h.2.1
  have HQ := Lib.hid hq
  have H := Lib.hid h
  clear h hq
  go_enter Tryd.func109, Tryd.ntmps109
  go_wp2
  go_loopw [8] (fun v8 wr => ∃ k : Nat, k ≤ n ∧ v8 = .int .i64 k ∧ Hid (∀ j y, j < k → xs[j]? = some y → q y = false) ∧ Below w.heap.size w wr) (fun v _ => n - (intOf v).toNat)
  case atStart => exact ⟨0, Nat.zero_le _, rfl, fun j y hj => by omega, Below.refl _ _⟩
  case round =>
    obtain ⟨k, hk, rfl, HP, HB⟩ := hrel
    by_cases hlt : k < n
    · obtain ⟨x, hx⟩ := H.out.get hlt
      have HX := Lib.hid hx
      clear hx
      obtain ⟨ad, e, x0, x1, x2⟩ := (H.out.below HB).atPassing HX.out
      cases e
      rcases hqx : q x
      all_goals
        go_wp2_with ((with_reducible refine (HQ.out x _ (List.mem_of_getElem? HX.out) HB).mono ?_); rintro e w' ⟨rfl, hw'⟩; rw [hqx])
      · go_roundw
        case rel => exact ⟨k + 1, by omega, by go_num, fun j y hj hy => by
          rcases Nat.lt_or_ge j k with hl | hl
          · exact HP.out j y hl hy
          · obtain rfl : j = k := by omega
            rw [HX.out] at hy
            cases hy
            exact hqx, bel_then HB hw'⟩
        case measure => simp [intOf]; omega
      · go_ret
        exact ⟨ret_int (firstAt_some HX.out hqx HP.out).symm, bel_then HB hw'⟩
    · obtain rfl : n = k := by omega
      go_wp2
      go_ret
      exact ⟨ret_int (firstAt_none (fun j y hj hy => HP.out j y (by have := H.out.1; omega) hy)).symm, HB⟩
theorem contains_pass (K : FuncId) (cap : Value) (q : Passing → Bool) (xs : List Passing) (A : Option Addr) (n c : Nat) (w : World) (h : Rd 3 Passing.enc w A n xs)
    (hcf : ∀ a W, Sem.run Tryd.prog (callFunc K a) W = .ok (.enter K a) W)
    (hq : ∀ x W, x ∈ xs → Below w.heap.size w W → Calls Tryd.prog K #[.agg #[.int .i64 x.place, .int .i64 x.earliest, .int .i64 x.latest], cap] W fun e w' => e = .returned (.bool (q x)) ∧ Below W.heap.size W w') :
    Calls Tryd.prog 78 #[.slice A n c, .func (.func K) #[] #[cap]] w fun e w' => e = .returned (.bool (xs.any q)) ∧ Below w.heap.size w w' := by
  have HQ := Lib.hid hq
  have H := Lib.hid h
  have HC := Lib.hid hcf
  clear h hq hcf
  go_enter Tryd.func78, Tryd.ntmps78
  go_wp2_with (go_at_call 109; refine (index_pass K cap q xs _ _ _ _ H.out HC.out HQ.out).mono ?_; rintro e w' ⟨rfl, hw'⟩)
  go_ret
  refine ⟨ret_bool ?_, hw'⟩
  rw [Bool.eq_iff_iff, ← firstAt_ge]
  simp
theorem call_Fits1 : ∀ a W, Sem.run Tryd.prog (callFunc 79 a) W = .ok (.enter 79 a) W := fun _ _ => by kernel_rfl
/-- The time of a run at a place. -/
def runAt (run : List Int) (p : Int) : Int := run.getD p.toNat 0
set_option maxRecDepth 100000 in
theorem fits_holds {w : World} (b : Nat) (x : Passing) (run : List Int) (D : Option Addr) (m d : Nat) (h : Rd 1 intEnc w D m run) (hb : Blk w b 28 #[.slice D m d]) (h0 : 0 ≤ x.place) (h1 : x.place < m) :
    Calls Tryd.prog 79 #[.agg #[.int .i64 x.place, .int .i64 x.earliest, .int .i64 x.latest], .pointer (some ⟨b, 0, none⟩)] w fun e w' => e = .returned (.bool (!inB (runAt run x.place) x.earliest x.latest)) ∧ Below w.heap.size w w' := by
  obtain ⟨y, hy⟩ := h.get (i := x.place.toNat) (by omega)
  obtain ⟨ad, e, y0⟩ := h.at1 hy
  cases e
  have hv : runAt run x.place = y := by unfold runAt; rw [List.getD_eq_getElem?_getD, hy]; rfl
  rw [hv]
  have b0 := hb.cell 0
  have bl := hb.lt
  have yb := World.block_lt_of_cell? _ _ y0
  clear h hy hv hb
  go_enter Tryd.func79, Tryd.ntmps79
  go_wp2
  go_quiet ((go_at_call 62; exact quiet_eq (pace_within _ _ _ _)))
  go_wp2
  go_ret
  exact ⟨rfl, (by repeat (first | assumption | exact Below.refl _ _ | apply bel_alloc | apply bel_drew | apply bel_drewN | (refine bel_set ?_ (by first | assumption | omega | (simp; done) | (simp; omega)) _)))⟩
end Go.Proofs.YtinglbcafcjhfaaDoor
