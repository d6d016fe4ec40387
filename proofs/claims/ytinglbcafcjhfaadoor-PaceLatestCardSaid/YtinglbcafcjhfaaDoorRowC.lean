/- From the row's form to the walks, part three: calls and lists of numbers. -/
import Derived.Test.YtinglbcafcjhfaaDoorRowA
import Derived.Test.YtinglbcafcjhfaaDoorRowB
namespace Go.Proofs.YtinglbcafcjhfaaDoor
open Go.Joins Go.ChangeShapes Go.WideShapes Go.ChangeAt Go.RowKit Go.Deep
set_option linter.unusedVariables false
section
variable {H : Type} {enc : TypeId × Value → H} {W : World} {b0 : Nat} {v : Value} {d : DataW H} {p : List MemPlace}
set_option maxRecDepth 100000 in
theorem open_calls (hv : Value.okWide Tryd.prog W .any b0 55 v) (h : DataW.Trod enc Tryd.prog W 0 (fun _ => true) true 55 v d p) :
    ∃ (l : List Call) (C : Option Addr) (n c : Nat), v = .slice C n c ∧ Rd 5 Call.enc W C n l ∧ ∀ x, x ∈ l → ∀ z, z ∈ Call.enc x → (Lit.int .i64 z).wf = true := by
  obtain ⟨a, len, cap, rfl⟩ := okWide_slice Tryd.underlying55 hv
  obtain ⟨fuel, hf⟩ := h
  obtain ⟨C, n, c, F, e, m0, f0⟩ := open_int_fields Tryd.underlying55 Tryd.underlying75 (by kernel_rfl) (by kernel_rfl) (fun j f hj => by obtain ⟨hl, rfl⟩ := Array.getElem?_eq_some_iff.1 hj; match j, hl with | 0, _ => exact Tryd.underlying3 | 1, _ => exact Tryd.underlying3 | 2, _ => exact Tryd.underlying3 | 3, _ => exact Tryd.underlying3 | 4, _ => exact Tryd.underlying3) hf
  exact ⟨_, C, n, c, e, rd_of_fields (fun g => ⟨g 0, g 1, g 2, g 3, g 4⟩) (fun g => rfl) m0 f0, wf_of_fields (α := Call) (enc := Call.enc) (fun g => ⟨g 0, g 1, g 2, g 3, g 4⟩) (fun g => rfl) f0⟩
set_option maxRecDepth 100000 in
theorem open_nums (hv : Value.okWide Tryd.prog W .any b0 28 v) (h : DataW.Trod enc Tryd.prog W 0 (fun _ => true) true 28 v d p) :
    ∃ (zs : List Int) (C : Option Addr) (n c : Nat), v = .slice C n c ∧ Rd 1 intEnc W C n zs ∧ ∀ z, z ∈ zs → (Lit.int .i64 z).wf = true := by
  obtain ⟨a, len, cap, rfl⟩ := okWide_slice Tryd.underlying28 hv
  obtain ⟨fuel, hf⟩ := h
  obtain ⟨C, n, c, zs, e, hz, hw⟩ := open_int_slice Tryd.underlying28 Tryd.underlying3 (by kernel_rfl) hf
  exact ⟨zs, C, n, c, e, hz, hw⟩
end
end Go.Proofs.YtinglbcafcjhfaaDoor
