/- From the row's form to the walks: what arguments hold; the table of strconv; closed facts that all rows use. -/
import Derived.Test.YtinglbcafcjhfaaDoorRows
import Derived.Test.YtinglbcafcjhfaaDoorNoteC
import Derived.Test.YtinglbcafcjhfaaDoorPaceV
import Derived.WalkKit
import Derived.ProofKit
import Derived.OpenShut
import Derived.ShutString
import Derived.ChangeOld
import Derived.Below
import Derived.Deep.Slices
import Derived.Deep.Fields
import Derived.ChangeSame
import Derived.Lib.SmallJoins
import Derived.LaidMore
import Derived.MakeChecks
import Derived.Stop.LaidErr
import Derived.Lib.LaidTab
namespace Go.Proofs.YtinglbcafcjhfaaDoor
open Go.Joins Go.ChangeShapes Go.WideShapes Go.ChangeAt Go.RowKit Go.Deep
set_option linter.unusedVariables false

theorem own : ownKnob Tryd.prog.godebug = none := by kernel_rfl
theorem laidOut : laidOutB Tryd.prog = true := by kernel_rfl
section
variable {H : Type} {enc : TypeId × Value → H} {P : Program} {w : World} {base : Nat} {spare : Nat → Bool} {held : Bool}
theorem open_slice_fields {t e : TypeId} {fs : Array Field} {fuel : Nat} {cs : List Value} {x : DataW H × List MemPlace} (ht : P.underlying t = some (.slice e)) (he : P.underlying e = some (.struct fs))
    (hone : oneCellFields P fs = true) (hC : P.cellsOf e = fs.size) (h : DataW.trod enc P w base spare held fuel t cs = some x) :
    (cs = [.slice none 0 0] ∧ x = (.nil, [])) ∨
    ∃ (a : Addr) (len cap m : Nat) (D : Nat → DataW H) (Pl : Nat → List MemPlace), cs = [.slice (some a) len cap] ∧ base ≤ a.block ∧ len ≤ cap ∧ cap ≤ maxLen ∧ m = (if spare a.block then cap else len) ∧
      x = (.slice ((List.range len).map D) ((List.range (m - len)).map fun j => D (len + j)), MemPlace.row a (m * fs.size) ++ (List.range m).flatMap Pl) ∧
      ∀ i, i < m → ∃ (ys : List (DataW H × List MemPlace)) (n : Nat), D i = .agg (ys.map (·.1)) ∧ Pl i = ys.flatMap (·.2) ∧ ys.length = fs.size ∧
        ∀ (j : Nat) (f : Field), fs[j]? = some f → ∃ (v : Value) (y : DataW H × List MemPlace), w.cell? (a.add (i * fs.size + j)) = some v ∧ ys[j]? = some y ∧ DataW.trod enc P w base spare held n f.type [v] = some y := by
  rcases open_slice ht h with h0 | ⟨a, len, cap, m, n, D, Pl, hcs, hb, hl, hm, hmm, hx, hi⟩
  · exact .inl h0
  · refine .inr ⟨a, len, cap, m, D, Pl, hcs, hb, hl, hm, hmm, by rw [hC] at hx; exact hx, fun i him => ?_⟩
    obtain ⟨cs', hc, ht'⟩ := hi i him
    rw [hC] at hc
    obtain ⟨ys, n', hn', hy, hlen, hyl, hf⟩ := DataW.trod_struct he ht'
    obtain ⟨_, hcl, hat⟩ := World.cells?_some hc
    simp only [Prod.mk.injEq] at hy
    refine ⟨ys, n', hy.1, hy.2, hyl, fun j f hj => ?_⟩
    obtain ⟨ho, hk⟩ := hone_of hone j f hj
    have hjl : j < fs.size := (Array.getElem?_eq_some_iff.1 hj).1
    have hcell := hat j hjl
    have hv : cs'[j]? = some (cs'[j]'(by omega)) := List.getElem?_eq_getElem (by omega)
    have h1 := hf j f hj
    rw [ho, hk] at h1
    have hone' : (cs'.drop j).take 1 = [cs'[j]'(by omega)] := by
      rw [List.drop_eq_getElem_cons (by omega)]
      rfl
    rw [hone'] at h1
    have hys : ys[j]? = some (ys[j]'(by omega)) := List.getElem?_eq_getElem (by omega)
    refine ⟨_, _, ?_, hys, h1.trans hys⟩
    rw [← Go.Deep.add_add, hcell, hv]
/-- A slice of structs of whole numbers, as its numbers. -/
theorem open_int_fields {t e : TypeId} {fs : Array Field} {fuel : Nat} {A : Value} {x : DataW H × List MemPlace} (ht : P.underlying t = some (.slice e)) (he : P.underlying e = some (.struct fs))
    (hone : oneCellFields P fs = true) (hC : P.cellsOf e = fs.size) (hint : ∀ (j : Nat) (f : Field), fs[j]? = some f → P.underlying f.type = some (.int .i64)) (h : DataW.trod enc P w base (fun _ => true) held fuel t [A] = some x) :
    ∃ (a : Option Addr) (n c : Nat) (F : Nat → Nat → Int), A = .slice a n c ∧ n ≤ maxLen ∧ ∀ i, i < n → ∃ ad, a = some ad ∧ ∀ j, j < fs.size → w.cell? (ad.add (i * fs.size + j)) = some (.int .i64 (F i j)) ∧ (Lit.int .i64 (F i j)).wf = true := by
  rcases open_slice_fields ht he hone hC h with ⟨hcs, _⟩ | ⟨a, len, cap, m, D, Pl, hcs, _, hl, hm, hmm, _, hi⟩
  · injection hcs with hcs
    exact ⟨none, 0, 0, fun _ _ => 0, hcs, by omega, fun i h => by omega⟩
  · injection hcs with hcs
    have hex : ∀ i j : Nat, ∃ v : Int, i < len → j < fs.size → w.cell? (a.add (i * fs.size + j)) = some (.int .i64 v) ∧ (Lit.int .i64 v).wf = true := by
      intro i j
      by_cases hil : i < len
      · by_cases hjl : j < fs.size
        · obtain ⟨ys, n, _, _, _, hf⟩ := hi i (by rw [hmm]; simp; omega)
          obtain ⟨v, y, hcell, _, htr⟩ := hf j fs[j] (Array.getElem?_eq_getElem hjl)
          obtain ⟨k, e1, _, hw⟩ := DataW.trod_int (hint j _ (Array.getElem?_eq_getElem hjl)) htr
          injection e1 with e1
          exact ⟨k, fun _ _ => ⟨by rw [hcell, e1], hw⟩⟩
        · exact ⟨0, fun _ h => absurd h hjl⟩
      · exact ⟨0, fun h => absurd h hil⟩
    refine ⟨some a, len, cap, fun i j => (hex i j).choose, hcs, by omega, fun i hil => ⟨a, rfl, fun j hjl => (hex i j).choose_spec hil hjl⟩⟩
theorem open_int_slice {t e : TypeId} {fuel : Nat} {A : Value} {x : DataW H × List MemPlace} (ht : P.underlying t = some (.slice e)) (he : P.underlying e = some (.int .i64)) (hc : P.cellsOf e = 1) (h : DataW.trod enc P w base (fun _ => true) held fuel t [A] = some x) :
    ∃ (a : Option Addr) (n c : Nat) (zs : List Int), A = .slice a n c ∧ Rd 1 intEnc w a n zs ∧ ∀ z, z ∈ zs → (Lit.int .i64 z).wf = true := by
  rcases open_ints ht he hc h with ⟨hcs, _⟩ | ⟨a, len, cap, zs, hcs, _, hl, hm, hz, _, hcell, hwz⟩
  · injection hcs with hcs
    exact ⟨none, 0, 0, [], hcs, Rd.nil, fun z h => by simp at h⟩
  · injection hcs with hcs
    simp only [if_true] at hz
    refine ⟨some a, len, cap, zs.take len, hcs, ⟨by rw [List.length_take]; omega, by unfold maxLen at hm; omega, fun i x hx => ⟨a, rfl, fun j v hv => ?_⟩⟩, fun z h => hwz z (List.mem_of_mem_take h)⟩
    have hx2 := List.getElem?_take_of_lt (l := zs) (i := i) (j := len) (by have := (List.getElem?_eq_some_iff.1 hx).1; rw [List.length_take] at this; omega)
    rw [hx2] at hx
    obtain ⟨hi, rfl⟩ := List.getElem?_eq_some_iff.1 hx
    obtain ⟨hj, rfl⟩ := List.getElem?_eq_some_iff.1 hv
    obtain rfl : j = 0 := by simpa [intEnc] using hj
    have := hcell i hi
    rw [List.getD_eq_getElem?_getD, List.getElem?_eq_getElem hi] at this
    simpa [intEnc] using this
/-- Of numbers at cells to records. -/
theorem rd_of_fields {α : Type} {sz : Nat} {enc : α → List Int} (mk : (Nat → Int) → α) (hmk : ∀ g, enc (mk g) = (List.range sz).map g) {a : Option Addr} {n : Nat} {F : Nat → Nat → Int} (hn : n ≤ maxLen)
    (h : ∀ i, i < n → ∃ ad, a = some ad ∧ ∀ j, j < sz → w.cell? (ad.add (i * sz + j)) = some (.int .i64 (F i j)) ∧ (Lit.int .i64 (F i j)).wf = true) : Rd sz enc w a n ((List.range n).map fun i => mk (F i)) := by
  refine ⟨by simp, by unfold maxLen at hn; omega, fun i x hx => ?_⟩
  rw [List.getElem?_map] at hx
  obtain ⟨i', hi', rfl⟩ := Option.map_eq_some_iff.1 hx
  obtain ⟨hlt, e⟩ := List.getElem?_eq_some_iff.1 hi'
  rw [List.length_range] at hlt
  rw [List.getElem_range] at e
  subst e
  obtain ⟨ad, e, hc⟩ := h i hlt
  refine ⟨ad, e, fun j v hv => ?_⟩
  rw [hmk, List.getElem?_map] at hv
  obtain ⟨j', hj', rfl⟩ := Option.map_eq_some_iff.1 hv
  obtain ⟨hjlt, e⟩ := List.getElem?_eq_some_iff.1 hj'
  rw [List.length_range] at hjlt
  rw [List.getElem_range] at e
  subst e
  exact (hc j hjlt).1
theorem wf_of_fields {α : Type} {sz : Nat} {enc : α → List Int} (mk : (Nat → Int) → α) (hmk : ∀ g, enc (mk g) = (List.range sz).map g) {a : Option Addr} {n : Nat} {F : Nat → Nat → Int}
    (h : ∀ i, i < n → ∃ ad, a = some ad ∧ ∀ j, j < sz → w.cell? (ad.add (i * sz + j)) = some (.int .i64 (F i j)) ∧ (Lit.int .i64 (F i j)).wf = true) : ∀ x, x ∈ (List.range n).map (fun i => mk (F i)) → ∀ v, v ∈ enc x → (Lit.int .i64 v).wf = true := by
  intro x hx v hv
  obtain ⟨i, hi, rfl⟩ := List.mem_map.1 hx
  rw [List.mem_range] at hi
  obtain ⟨ad, _, hc⟩ := h i hi
  rw [hmk] at hv
  obtain ⟨j, hj, rfl⟩ := List.mem_map.1 hv
  rw [List.mem_range] at hj
  exact (hc j hj).2
end
section
variable {H : Type} {enc : TypeId × Value → H} {W : World} {b0 : Nat} {v : Value} {d : DataW H} {p : List MemPlace}
set_option maxRecDepth 100000 in
theorem open_road (hv : Value.okWide Tryd.prog W .any b0 26 v) (h : DataW.Trod enc Tryd.prog W 0 (fun _ => true) true 26 v d p) :
    ∃ (r : Road) (A0 A1 A2 : Option Addr) (n0 n1 n2 c0 c1 c2 : Nat), v = .agg #[.slice A0 n0 c0, .slice A1 n1 c1, .slice A2 n2 c2] ∧ Rd 5 Piece.enc W A0 n0 r.pieces ∧ Rd 2 Crest.enc W A1 n1 r.crests ∧ Rd 3 Junction.enc W A2 n2 r.juncs := by
  obtain ⟨v0, v1, v2, y0, y1, y2, n, rfl, _, _, t0, t1, t2⟩ := open_agg3 Tryd.underlying26 (by kernel_rfl) (by kernel_rfl) hv h
  obtain ⟨A0, n0, c0, F0, rfl, m0, f0⟩ := open_int_fields Tryd.underlying22 Tryd.underlying105 (by kernel_rfl) (by kernel_rfl) (fun j f hj => by obtain ⟨hl, rfl⟩ := Array.getElem?_eq_some_iff.1 hj; match j, hl with | 0, _ => exact Tryd.underlying3 | 1, _ => exact Tryd.underlying3 | 2, _ => exact Tryd.underlying3 | 3, _ => exact Tryd.underlying3 | 4, _ => exact Tryd.underlying3) t0
  obtain ⟨A1, n1, c1, F1, rfl, m1, f1⟩ := open_int_fields Tryd.underlying23 Tryd.underlying134 (by kernel_rfl) (by kernel_rfl) (fun j f hj => by obtain ⟨hl, rfl⟩ := Array.getElem?_eq_some_iff.1 hj; match j, hl with | 0, _ => exact Tryd.underlying3 | 1, _ => exact Tryd.underlying3) t1
  obtain ⟨A2, n2, c2, F2, rfl, m2, f2⟩ := open_int_fields Tryd.underlying24 Tryd.underlying136 (by kernel_rfl) (by kernel_rfl) (fun j f hj => by obtain ⟨hl, rfl⟩ := Array.getElem?_eq_some_iff.1 hj; match j, hl with | 0, _ => exact Tryd.underlying3 | 1, _ => exact Tryd.underlying3 | 2, _ => exact Tryd.underlying3) t2
  exact ⟨⟨_, _, _⟩, A0, A1, A2, n0, n1, n2, c0, c1, c2, rfl, rd_of_fields (fun g => ⟨g 0, g 1, g 2, g 3, g 4⟩) (fun g => rfl) m0 f0, rd_of_fields (fun g => ⟨g 0, g 1⟩) (fun g => rfl) m1 f1, rd_of_fields (fun g => ⟨g 0, g 1, g 2⟩) (fun g => rfl) m2 f2⟩
set_option maxRecDepth 100000 in
theorem open_speeds (hv : Value.okWide Tryd.prog W .any b0 30 v) (h : DataW.Trod enc Tryd.prog W 0 (fun _ => true) true 30 v d p) :
    ∃ (s : Speeds) (B2 B3 : Option Addr) (m2 m3 d2 d3 : Nat), v = .agg #[.int .i64 s.least, .int .i64 s.most, .slice B2 m2 d2, .slice B3 m3 d3] ∧ Rd 3 SpeedRow.enc W B2 m2 s.rows ∧ Rd 1 intEnc W B3 m3 s.surface := by
  obtain ⟨v0, v1, v2, v3, y0, y1, y2, y3, n, rfl, _, _, t0, t1, t2, t3⟩ := open_agg4 Tryd.underlying30 (by kernel_rfl) (by kernel_rfl) hv h
  obtain ⟨l, e0, _, _⟩ := DataW.trod_int Tryd.underlying3 t0
  obtain ⟨m, e1, _, _⟩ := DataW.trod_int Tryd.underlying3 t1
  injection e0 with e0
  injection e1 with e1
  subst e0
  subst e1
  obtain ⟨B2, m2, d2, F2, rfl, k2, f2⟩ := open_int_fields Tryd.underlying27 Tryd.underlying77 (by kernel_rfl) (by kernel_rfl) (fun j f hj => by obtain ⟨hl, rfl⟩ := Array.getElem?_eq_some_iff.1 hj; match j, hl with | 0, _ => exact Tryd.underlying3 | 1, _ => exact Tryd.underlying3 | 2, _ => exact Tryd.underlying3) t2
  obtain ⟨B3, m3, d3, zs, rfl, hz, _⟩ := open_int_slice Tryd.underlying28 Tryd.underlying3 (by kernel_rfl) t3
  exact ⟨⟨l, m, _, zs⟩, B2, B3, m2, m3, d2, d3, rfl, rd_of_fields (fun g => ⟨g 0, g 1, g 2⟩) (fun g => rfl) k2 f2, hz⟩
end

/-! ### The listed variables -/
theorem gPow : Tryd.prog.globalNamed "internal/strconv.uint64pow10" = some 0 := by kernel_rfl
theorem tPow : (Tryd.prog.globals[0]?).map (·.type) = some 209 := by kernel_rfl
abbrev laids : List (String × DataW Unit) := [("math/bits.deBruijn32tab", Rows.laid_math_bits_deBruijn32tab), ("math/bits.deBruijn64tab", Rows.laid_math_bits_deBruijn64tab), ("internal/strconv.uint64pow10", Rows.laid_internal_strconv_uint64pow10)]
theorem tab_of_laid {W : World} (h : laidMetH Tryd.prog laids W) : Tab W := by
  rw [MakeChecks.laidMetH_plain _ _ _ (by kernel_rfl)] at h
  have h2 := h.tail.tail
  exact Lib.tabIs_of_head (zs := Lib.pow10Tab) (n := 20) gPow tPow Tryd.underlying209 Tryd.underlying196 (by kernel_rfl) (by kernel_rfl) h2
theorem door_met (os : Os) (args : Array Value) : laidMetH Tryd.prog laids ((World.doorLaid Tryd.prog 400 os).forCall (fun _ _ => 0) ⟨#[], args, []⟩).memory := by
  rw [MakeChecks.laidMetH_plain _ _ _ (by kernel_rfl)]
  exact laidMet_of_run' 8 (by kernel_rfl) (by kernel_rfl)
end Go.Proofs.YtinglbcafcjhfaaDoor
