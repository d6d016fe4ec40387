/- From the row's form to the walks, part two: structs of whole numbers by value; the witness's listed variables. From the row's form to the walks, part three: calls and lists of numbers. -/
import Derived.Test.YtinglbcafcjhfaaDoorCards
import Derived.Test.YtinglbcafcjhfaaDoorTie
import Derived.Test.YtinglbcafcjhfaaDoorRowA
import Derived.Test.YtinglbcafcjhfaaDoorLastsA
import Derived.Deep.DeepHandedRow
namespace Go.Proofs.YtinglbcafcjhfaaDoor
open Go.Joins Go.ChangeShapes Go.WideShapes Go.ChangeAt Go.RowKit Go.Deep
set_option linter.unusedVariables false
theorem open_struct_ints {H : Type} {enc : TypeId × Value → H} {P : Program} {w : World} {base : Nat} {held : Bool} {r : Reach} {b0 : Nat} {t : TypeId} {fs : Array Field} {v : Value} {d : DataW H} {p : List MemPlace} (hs : P.underlying t = some (.struct fs)) (hone : oneCellFields P fs = true) (hC : P.cellsOf t = fs.size)
    (hint : ∀ (j : Nat) (f : Field), fs[j]? = some f → P.underlying f.type = some (.int .i64)) (hv : Value.okWide P w r b0 t v) (h : DataW.Trod enc P w base (fun _ => true) held t v d p) :
    ∃ F : Nat → Int, v = .agg ⟨(List.range fs.size).map fun j => .int .i64 (F j)⟩ ∧ ∀ j, j < fs.size → (Lit.int .i64 (F j)).wf = true := by
  obtain ⟨cs, rfl, hsz⟩ := okWide_struct hs hv
  obtain ⟨fuel, hf⟩ := h
  obtain ⟨xs, n, _, hx, _, hlen, hg⟩ := DataW.trod_struct hs hf
  have hex : ∀ j : Nat, ∃ z : Int, j < fs.size → cs.toList[j]? = some (.int .i64 z) ∧ (Lit.int .i64 z).wf = true := by
    intro j
    by_cases hj : j < fs.size
    · have hfj : fs[j]? = some fs[j] := Array.getElem?_eq_getElem hj
      obtain ⟨o0, k0⟩ := hone_of hone j fs[j] hfj
      have h1 := hg j fs[j] hfj
      have hjl : j < cs.toList.length := by simp; omega
      rw [o0, k0] at h1
      have h2 : ((Value.agg cs).cells.toList.drop j).take 1 = [cs.toList[j]] := by
        show (cs.toList.drop j).take 1 = _
        rw [List.drop_eq_getElem_cons hjl]
        rfl
      rw [h2] at h1
      have hxs : xs[j]? = some (xs[j]'(by omega)) := List.getElem?_eq_getElem (by omega)
      obtain ⟨k, e1, _, hw⟩ := DataW.trod_int (hint j _ hfj) (h1.trans hxs)
      injection e1 with e1
      exact ⟨k, fun _ => ⟨by rw [List.getElem?_eq_getElem hjl, e1], hw⟩⟩
    · exact ⟨0, fun h => absurd h hj⟩
  refine ⟨fun j => (hex j).choose, ?_, fun j hj => ((hex j).choose_spec hj).2⟩
  congr 1
  apply Array.ext'
  apply List.ext_getElem?
  intro j
  by_cases hj : j < fs.size
  · rw [((hex j).choose_spec hj).1]
    simp [hj]
  · rw [List.getElem?_eq_none (by simp; omega), List.getElem?_eq_none (by simp; omega)]
theorem laid_row (os : Os) (args : Array Value) : laidMet Tryd.prog laids ((World.doorLaid Tryd.prog 400 os).forCall (fun _ _ => 0) ⟨#[], args, []⟩).memory :=
  laidMet_of_run' 8 (by kernel_rfl) (by kernel_rfl)
section
variable {H : Type} {enc : TypeId × Value → H} {W : World} {b0 : Nat} {v : Value} {d : DataW H} {p : List MemPlace}
set_option maxRecDepth 100000 in
theorem open_note (hv : Value.okWide Tryd.prog W .any b0 45 v) (h : DataW.Trod enc Tryd.prog W 0 (fun _ => true) true 45 v d p) : ∃ n : Note, v = .agg n.cells := by
  obtain ⟨F, rfl, _⟩ := open_struct_ints Tryd.underlying45 (by kernel_rfl) (by kernel_rfl) (fun j f hj => by obtain ⟨hl, rfl⟩ := Array.getElem?_eq_some_iff.1 hj; match j, hl with | 0, _ => exact Tryd.underlying43 | 1, _ => exact Tryd.underlying3 | 2, _ => exact Tryd.underlying3 | 3, _ => exact Tryd.underlying3 | 4, _ => exact Tryd.underlying3 | 5, _ => exact Tryd.underlying3 | 6, _ => exact Tryd.underlying3 | 7, _ => exact Tryd.underlying3 | 8, _ => exact Tryd.underlying3 | 9, _ => exact Tryd.underlying3) hv h
  exact ⟨⟨F 0, F 1, F 2, F 3, F 4, F 5, F 6, F 7, F 8, F 9⟩, rfl⟩
set_option maxRecDepth 100000 in
theorem open_speech (hv : Value.okWide Tryd.prog W .any b0 47 v) (h : DataW.Trod enc Tryd.prog W 0 (fun _ => true) true 47 v d p) : ∃ s : Speech, v = .agg #[.int .i64 s.note, .int .i64 s.letter] := by
  obtain ⟨F, rfl, _⟩ := open_struct_ints Tryd.underlying47 (by kernel_rfl) (by kernel_rfl) (fun j f hj => by obtain ⟨hl, rfl⟩ := Array.getElem?_eq_some_iff.1 hj; match j, hl with | 0, _ => exact Tryd.underlying3 | 1, _ => exact Tryd.underlying3) hv h
  exact ⟨⟨F 0, F 1⟩, rfl⟩
end
end Go.Proofs.YtinglbcafcjhfaaDoor

namespace Go.Proofs.YtinglbcafcjhfaaDoor
open Go.Joins Go.ChangeShapes Go.WideShapes Go.ChangeAt Go.RowKit Go.Deep
set_option linter.unusedVariables false
section
variable {H : Type} {enc : TypeId × Value → H} {W : World} {b0 : Nat} {v : Value} {d : DataW H} {p : List MemPlace}
set_option maxRecDepth 100000 in
theorem open_calls (hv : Value.okWide Tryd.prog W .any b0 55 v) (h : DataW.Trod enc Tryd.prog W 0 (fun _ => true) true 55 v d p) :
    ∃ (l : List Call) (C : Option Addr) (n c : Nat), v = .slice C n c ∧ Rd 5 Call.enc W C n l ∧ ∀ x, x ∈ l → ∀ z, z ∈ Call.enc x → (Lit.int .i64 z).wf = true := by
  obtain ⟨a, len, cap, rfl⟩ := okWide_slice Tryd.underlying55 hv
  obtain ⟨fuel, hf⟩ := h
  obtain ⟨C, n, c, F, e, m0, f0⟩ := open_int_fields Tryd.underlying55 Tryd.underlying75 (by kernel_rfl) (by kernel_rfl) (fun j f hj => by obtain ⟨hl, rfl⟩ := Array.getElem?_eq_some_iff.1 hj; match j, hl with | 0, _ => exact Tryd.underlying3 | 1, _ => exact Tryd.underlying3 | 2, _ => exact Tryd.underlying3 | 3, _ => exact Tryd.underlying3 | 4, _ => exact Tryd.underlying3) hf
  exact ⟨_, C, n, c, e, rd_of_fields (fun g => ⟨g 0, g 1, g 2, g 3, g 4⟩) (fun g => rfl) m0 f0, wf_of_fields (α := Call) (enc := Call.enc) (fun g => ⟨g 0, g 1, g 2, g 3, g 4⟩) (fun g => rfl) f0⟩
set_option maxRecDepth 100000 in
theorem open_nums (hv : Value.okWide Tryd.prog W .any b0 28 v) (h : DataW.Trod enc Tryd.prog W 0 (fun _ => true) true 28 v d p) :
    ∃ (zs : List Int) (C : Option Addr) (n c : Nat), v = .slice C n c ∧ Rd 1 intEnc W C n zs ∧ ∀ z, z ∈ zs → (Lit.int .i64 z).wf = true := by
  obtain ⟨a, len, cap, rfl⟩ := okWide_slice Tryd.underlying28 hv
  obtain ⟨fuel, hf⟩ := h
  obtain ⟨C, n, c, zs, e, hz, hw⟩ := open_int_slice Tryd.underlying28 Tryd.underlying3 (by kernel_rfl) hf
  exact ⟨zs, C, n, c, e, hz, hw⟩
end
end Go.Proofs.YtinglbcafcjhfaaDoor
