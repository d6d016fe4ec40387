/- Plain: how large the times of meters and their sums are. -/
import Derived.Test.YtinglbcafcjhfaaDoorPaceBase
namespace Go.Proofs.YtinglbcafcjhfaaDoor
open Go.RowKit
set_option linter.unusedVariables false

theorem quickT_bound {s : Speeds} {p : Piece} (hs : s.Valid) (hp : p.Ok) : 0 ≤ quickT s p ∧ quickT s p ≤ 10000000 := by
  obtain ⟨h1, h2, h3⟩ := bnd_iff.1 (rowOf_bnd hs hp)
  obtain ⟨_, h4, h5⟩ := surfOf_get hs hp
  unfold quickT
  have h6 : 1 ≤ (rowOf s p).2 * surfOf s p := by
    have := Int.mul_le_mul (show (1 : Int) ≤ (rowOf s p).2 by omega) h4 (by omega) (by omega)
    omega
  generalize (rowOf s p).2 * surfOf s p = m at *
  have hd : 1 ≤ (m + 99) / 100 := by omega
  generalize (m + 99) / 100 = d at *
  refine ⟨Int.ediv_nonneg (by omega) (by omega), Int.ediv_le_of_le_mul (by omega) (by omega)⟩
theorem slowT_bound {s : Speeds} {p : Piece} : 0 ≤ slowT s p ∧ slowT s p ≤ 10000000 := by
  unfold slowT
  have hd : 1 ≤ max 1 ((rowOf s p).1 * surfOf s p / 100) := by omega
  generalize max 1 ((rowOf s p).1 * surfOf s p / 100) = d at *
  refine ⟨Int.ediv_nonneg (by omega) (by omega), Int.ediv_le_of_le_mul (by omega) (by omega)⟩
theorem metersUp_bound {s : Speeds} {l : List Piece} (hs : s.Valid) (hl : ∀ p, p ∈ l → p.Ok) {k : Nat} {x : Int × Int} (hx : x ∈ metersUp s l k) : 0 ≤ x.1 ∧ x.1 ≤ 10000000 ∧ 0 ≤ x.2 ∧ x.2 ≤ 10000000 := by
  unfold metersUp at hx
  obtain ⟨p, hp, hm⟩ := List.mem_flatMap.1 hx
  have hok := hl p (List.mem_of_mem_take hp)
  obtain rfl := (List.mem_replicate.1 hm).2
  exact ⟨(quickT_bound hs hok).1, (quickT_bound hs hok).2, slowT_bound.1, slowT_bound.2⟩
theorem wadd_fold : ∀ (xs : List (Int × Int)) (a : Int × Int) (M : Int), (∀ x, x ∈ xs → 0 ≤ x.1 ∧ x.1 ≤ 10000000 ∧ 0 ≤ x.2 ∧ x.2 ≤ 10000000) → 0 ≤ a.1 → a.1 ≤ M → 0 ≤ a.2 → a.2 ≤ M → M + 10000000 * xs.length ≤ 10000000000000 →
    0 ≤ (xs.foldl wadd a).1 ∧ (xs.foldl wadd a).1 ≤ M + 10000000 * xs.length ∧ 0 ≤ (xs.foldl wadd a).2 ∧ (xs.foldl wadd a).2 ≤ M + 10000000 * xs.length
  | [], a, M, _, h1, h2, h3, h4, _ => by simp; omega
  | x :: xs, a, M, h, h1, h2, h3, h4, h5 => by
    have hx := h x (by simp)
    simp only [List.length_cons, List.foldl_cons] at h5 ⊢
    have e1 : (wadd a x).1 = a.1 + x.1 := by simp only [wadd, wrap64]; omega
    have e2 : (wadd a x).2 = a.2 + x.2 := by simp only [wadd, wrap64]; omega
    have := wadd_fold xs (wadd a x) (M + 10000000) (fun y hy => h y (by simp [hy])) (by omega) (by omega) (by omega) (by omega) (by omega)
    omega
theorem wsums_bound {xs : List (Int × Int)} (h : ∀ x, x ∈ xs → 0 ≤ x.1 ∧ x.1 ≤ 10000000 ∧ 0 ≤ x.2 ∧ x.2 ≤ 10000000) (hl : xs.length ≤ 1000000) {i : Nat} {x : Int × Int} (hx : (wsums xs)[i]? = some x) : 0 ≤ x.1 ∧ x.1 ≤ 10000000000000 ∧ 0 ≤ x.2 ∧ x.2 ≤ 10000000000000 := by
  have hm := List.mem_of_getElem? hx
  unfold wsums at hm
  obtain ⟨j, hj, rfl⟩ := List.mem_map.1 hm
  have h2 : (xs.take j).length ≤ xs.length := by rw [List.length_take]; omega
  have := wadd_fold (xs.take j) (0, 0) 0 (fun y hy => h y (List.mem_of_mem_take hy)) (by simp) (by simp) (by simp) (by simp) (by omega)
  unfold wtot
  omega
theorem piecesOk_mem {l : List Piece} (h : PiecesOk l l.length) : ∀ p, p ∈ l → p.Ok := fun p hp => by
  obtain ⟨i, hi, rfl⟩ := List.mem_iff_getElem.1 hp
  exact h i _ hi (List.getElem?_eq_getElem hi)
theorem wrap_eq64 (x : Int) : IntKind.wrap .i64 x = wrap64 x := by
  have h : IntKind.wrap .i64 x = if (9223372036854775808 : Int) ≤ x % 18446744073709551616 then x % 18446744073709551616 - 18446744073709551616 else x % 18446744073709551616 := by
    simp [IntKind.wrap, IntKind.signed, IntKind.bits]
  rw [h]
  unfold wrap64
  split <;> omega
end Go.Proofs.YtinglbcafcjhfaaDoor
