/- What is proved: the tied card of the law PaceNarrows: for every road, speeds and passings (whatever memory they share), pace.Narrow gives the reference's narrowed passings, or the errors. Conditions: the listed variables of the library hold what the program's text lays (the card ties this); nothing else. -/
import Derived.Test.YtinglbcafcjhfaaDoorCards
import Derived.Test.YtinglbcafcjhfaaDoorTie
import Derived.Test.YtinglbcafcjhfaaDoorRowA
import Derived.Test.YtinglbcafcjhfaaDoorRowB
import Derived.Test.YtinglbcafcjhfaaDoorRowD
import Derived.Test.YtinglbcafcjhfaaDoorLawNarrows
import Derived.Deep.DeepHandedRow
namespace Go.Proofs.YtinglbcafcjhfaaDoor
open Go.Joins Go.ChangeShapes Go.WideShapes Go.ChangeAt Go.RowKit Go.Deep
set_option linter.unusedVariables false

set_option maxRecDepth 100000 in
theorem paceNarrows_contract (H : Type) (enc : TypeId × Value → H) (W : World) (base : Nat) (args : Array Value) (ds gs : List (DataW H)) (before : List MemPlace)
    (hval : ∀ (j : Nat) t v, Tryd.f10.params[j]? = some t → args[j]? = some v → Value.okWide Tryd.prog W .any base t v)
    (hW : DataW.Whole enc Tryd.prog Tryd.f10.params.toList Rows.paceNarrowsSpec.vars false W args.toList ds gs before) (hL : laidMetH Tryd.prog Rows.paceNarrowsRow.laid W) :
    Calls Tryd.prog 10 args W fun e W' => ∃ v, e = .returned v ∧ Rows.paceNarrowsSpec.post enc Tryd.prog Tryd.f10 false true false false W args v W' := by
  have hW' := hW
  obtain ⟨p, q, hA0, hV, rfl, hfz, hnd⟩ := hW
  have hA : DataW.TrodAll enc Tryd.prog W 0 (fun _ => true) true Tryd.f10.params.toList args.toList ds p := hA0
  rw [Tryd.params10] at hA hval
  obtain ⟨v0, vs0, d0, ds0, p0, q0, hargs, rfl, rfl, h0, r0_⟩ := trodAll_cons hA
  obtain ⟨v1, vs1, d1, ds1, p1, q1, rfl, rfl, rfl, h1, r1_⟩ := trodAll_cons r0_
  obtain ⟨v2, vs2, d2, ds2, p2, q2, rfl, rfl, rfl, h2, r2_⟩ := trodAll_cons r1_
  obtain ⟨rfl, rfl, rfl⟩ := trodAll_nil r2_
  obtain rfl : args = #[v0, v1, v2] := by cases args; simp_all
  obtain ⟨rfl, rfl⟩ := trodVars_none hV
  have k0 := h0
  have lt0 : ∀ x ∈ p0, x.block < W.heap.size := by obtain ⟨m, hm⟩ := k0; exact DataW.trod_lt m _ _ _ hm
  have k1 := h1
  have lt1 : ∀ x ∈ p1, x.block < W.heap.size := by obtain ⟨m, hm⟩ := k1; exact DataW.trod_lt m _ _ _ hm
  have k2 := h2
  have lt2 : ∀ x ∈ p2, x.block < W.heap.size := by obtain ⟨m, hm⟩ := k2; exact DataW.trod_lt m _ _ _ hm
  obtain ⟨r0, A00, A01, A02, n00, n01, n02, c00, c01, c02, rfl, a00, a01, a02⟩ := open_road (hval 0 26 v0 rfl rfl) h0
  obtain ⟨s1, B12, B13, m12, m13, d12, d13, rfl, b12, b13⟩ := open_speeds (hval 1 30 v1 rfl rfl) h1
  obtain ⟨g2, C2, n2, c2, rfl, a2, w2⟩ := open_passings (hval 2 66 v2 rfl rfl) h2
  clear hA0
  refine (law_PaceNarrows s1 r0 g2 A00 A01 A02 B12 B13 n00 n01 n02 m12 m13 c00 c01 c02 d12 d13 C2 n2 c2 W a00 a01 a02 b12 b13 a2 (tab_of_laid hL)).mono fun e W' ⟨he, bel⟩ => ?_
  subst he
  exact ⟨_, rfl, _, _, _, [], _, [], hW', trodAll_mk1 (shut_bool Tryd.underlying4 _), (trodAll_cons_mk (Below.trod laidOut (by kernel_rfl) (of_decide_eq_true (by kernel_rfl)) k0 bel lt0) (trodAll_cons_mk (Below.trod laidOut (by kernel_rfl) (of_decide_eq_true (by kernel_rfl)) k1 bel lt1) (trodAll_cons_mk (Below.trod laidOut (by kernel_rfl) (of_decide_eq_true (by kernel_rfl)) k2 bel lt2) trodAll_mk0))), rfl, bel.frame _, fun h => by cases h⟩

abbrev paceNarrows_args : Array Value := #[.agg #[.slice none 0 0, .slice none 0 0, .slice none 0 0], .agg #[.int .i64 0, .int .i64 0, .slice none 0 0, .slice none 0 0], .slice none 0 0]
theorem paceNarrows_reads (os : Os) {H : Type} (enc : TypeId × Value → H) : ∃ places, DataW.whole enc Tryd.prog ((World.doorLaid Tryd.prog 400 os).forCall (fun _ _ => 0) ⟨#[], paceNarrows_args, []⟩).memory Tryd.f10.params.toList Rows.paceNarrowsSpec.vars false paceNarrows_args.toList 8 = some ([.agg [.nil, .nil, .nil], .agg [.lit (.int .i64 0), .lit (.int .i64 0), .nil, .nil], .nil], [], places) :=
  ⟨[], by kernel_rfl⟩
set_option maxRecDepth 100000 in
theorem paceNarrows_lifted (os : Os) (started : os.Started) (H : Type) (enc : TypeId × Value → H) (F : Stop.Interp) :
    ReturnsInHanded {} Tryd.checked os 10 .any ((OpenSpec.ofChange Rows.paceNarrowsSpec).preRow enc Tryd.prog Tryd.f10 Rows.paceNarrowsRow.domain false Rows.paceNarrowsRow.laid) (((OpenSpec.ofChange Rows.paceNarrowsSpec).at F).post enc Tryd.prog Tryd.f10 false true false false) := by
  obtain ⟨places, hx⟩ := paceNarrows_reads os enc
  refine returnsInHanded_of_row (C := Tryd.checked) (s := OpenSpec.ofChange Rows.paceNarrowsSpec) own started (by kernel_rfl) Tryd.func10
    (witness_row_at (enc := enc) (C := Tryd.checked) false (World.doorLaid Tryd.prog 400 os) paceNarrows_args rfl (by kernel_rfl) (by kernel_rfl) (by kernel_rfl)
      (OpenSpec.preRow_of_cond 8 hx (by kernel_rfl) (fun k hk => by cases hk) (by kernel_rfl) (laid_row os _))) ?_
  intro W base args ds gs before hval hW _ _ _ hL _ _
  exact paceNarrows_contract H enc W base args ds gs before hval hW hL
theorem paceNarrows_said : Rows.PaceNarrowsSaid :=
  OpenClaim.holds_of_cond 10 Tryd.f10 rfl rfl rfl rfl rfl rfl rfl ⟨rfl, rfl, rfl, rfl, rfl⟩ rfl rfl rfl rfl rfl (by kernel_rfl) Tryd.func10 (by kernel_rfl)
    (of_decide_eq_true (by kernel_rfl)) (by unfold Func.isWrapper; first | (rw [if_pos (by decide +kernel)]; kernel_rfl) | (rw [if_neg (by decide +kernel)]; exact ⟨rfl, rfl⟩))
    (fun os started H enc _ F => by rw [OpenClaim.pre_eq_preRow]; exact paceNarrows_lifted os started H enc F)
theorem paceNarrows_plain (f : FuncId) (fn : Func) (hf : Tryd.pinned.checked.prog.funcNamed "hairpin/hairpinlaw03.PaceNarrows" = some f) (hfn : Tryd.pinned.checked.prog.funcs[f]? = some fn) :
    false = Tryd.pinned.checked.prog.looks [] ∧ ∀ (j : Nat) t, fn.params[j]? = some t → Tryd.pinned.checked.prog.wantsStandIn t = false := by
  obtain rfl : f = 10 := Option.some.inj ((show Tryd.prog.funcNamed "hairpin/hairpinlaw03.PaceNarrows" = some 10 by kernel_rfl).symm.trans hf) |>.symm
  obtain rfl : fn = Tryd.f10 := (Option.some.inj (Tryd.func10.symm.trans hfn)).symm
  refine ⟨by kernel_rfl, fun j t ht => ?_⟩
  rw [Tryd.params10] at ht
  have hm := Array.mem_of_getElem? ht
  simp only [List.mem_toArray, List.mem_cons, List.not_mem_nil, or_false] at hm
  rcases hm with rfl | rfl | rfl
  · exact (show Tryd.prog.wantsStandIn 26 = false by kernel_rfl)
  · exact (show Tryd.prog.wantsStandIn 30 = false by kernel_rfl)
  · exact (show Tryd.prog.wantsStandIn 66 = false by kernel_rfl)
/-- THE CARD. -/
theorem paceNarrows_card : Rows.PaceNarrowsCardSaid :=
  Claim7.holds_tied_plain_at .later [] _ _ _ _ paceNarrows_said (fun _ h => by cases h) (by kernel_rfl) (fun _ h => by cases h) paceNarrows_row_tie rfl ⟨rfl, rfl⟩ (by kernel_rfl) rfl paceNarrows_plain (by kernel_rfl)
#print axioms paceNarrows_card
end Go.Proofs.YtinglbcafcjhfaaDoor
