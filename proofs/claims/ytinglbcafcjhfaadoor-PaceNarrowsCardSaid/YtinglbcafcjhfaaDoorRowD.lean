/- From the row's form to the walks, part four: passings. -/
import Derived.Test.YtinglbcafcjhfaaDoorRowA
import Derived.Test.YtinglbcafcjhfaaDoorFitB
import Derived.OpenShut
namespace Go.Proofs.YtinglbcafcjhfaaDoor
open Go.Joins Go.ChangeShapes Go.WideShapes Go.ChangeAt Go.RowKit Go.Deep
set_option linter.unusedVariables false
section
variable {H : Type} {enc : TypeId × Value → H} {W : World} {b0 : Nat} {v : Value} {d : DataW H} {p : List MemPlace}
set_option maxRecDepth 100000 in
theorem open_passings (hv : Value.okWide Tryd.prog W .any b0 66 v) (h : DataW.Trod enc Tryd.prog W 0 (fun _ => true) true 66 v d p) :
    ∃ (l : List Passing) (C : Option Addr) (n c : Nat), v = .slice C n c ∧ Rd 3 Passing.enc W C n l ∧ ∀ x, x ∈ l → ∀ z, z ∈ Passing.enc x → (Lit.int .i64 z).wf = true := by
  obtain ⟨a, len, cap, rfl⟩ := okWide_slice Tryd.underlying66 hv
  obtain ⟨fuel, hf⟩ := h
  obtain ⟨C, n, c, F, e, m0, f0⟩ := open_int_fields Tryd.underlying66 Tryd.underlying89 (by kernel_rfl) (by kernel_rfl) (fun j f hj => by obtain ⟨hl, rfl⟩ := Array.getElem?_eq_some_iff.1 hj; match j, hl with | 0, _ => exact Tryd.underlying3 | 1, _ => exact Tryd.underlying3 | 2, _ => exact Tryd.underlying3) hf
  exact ⟨_, C, n, c, e, rd_of_fields (fun g => ⟨g 0, g 1, g 2⟩) (fun g => rfl) m0 f0, wf_of_fields (α := Passing) (enc := Passing.enc) (fun g => ⟨g 0, g 1, g 2⟩) (fun g => rfl) f0⟩
end
end Go.Proofs.YtinglbcafcjhfaaDoor
