/- The iterator of package pace: (table).meters yields how long each meter of a road takes. -/
import Derived.Test.YtinglbcafcjhfaaDoorPaceC
import Derived.Test.YtinglbcafcjhfaaDoorInv
import Derived.Laws.EntriesVeiled
namespace Go.Proofs.YtinglbcafcjhfaaDoor
open Go.RowKit Go.Shelf
set_option linter.unusedVariables false
set_option linter.unusedSimpArgs false
attribute [local go_sem] Oper.semAt_some

def timesEnc (x : Int × Int) : List Int := [x.1, x.2]
theorem timesEnc_len (x : Int × Int) : (timesEnc x).length = 2 := rfl

theorem side0 (x y : Value) (w : World) : (Instr.index 176 (.agg #[x, y]) (.int .i64 0)).run Tryd.prog w = .ok x w := by kernel_rfl
theorem side1 (x y : Value) (w : World) : (Instr.index 176 (.agg #[x, y]) (.int .i64 1)).run Tryd.prog w = .ok y w := by kernel_rfl

set_option maxRecDepth 100000 in
set_option maxHeartbeats 2000000 in
theorem meters_stops (s : Speeds) (r : Road) (A0 A1 A2 B2 B3 : Option Addr) (n0 n1 n2 m2 m3 c0 c1 c2 d2 d3 : Nat) (wd w0 : World) (bt br : Nat)
    (h0 : Rd 5 Piece.enc wd A0 n0 r.pieces) (g2 : Rd 3 SpeedRow.enc wd B2 m2 s.rows) (g3 : Rd 1 intEnc wd B3 m3 s.surface) (hs : s.Valid) (hr : r.Valid) (hsm : Sm wd w0)
    (hbt : Blk w0 bt 160 #[.int .i64 s.least, .int .i64 s.most, .slice B2 m2 d2, .slice B3 m3 d3]) (hbr : Blk w0 br 26 #[.slice A0 n0 c0, .slice A1 n1 c1, .slice A2 n2 c2])
    (L : List Nat) (g j : Nat) (hap : Ap L g j w0 (fun k => k < wd.heap.size ∨ k = bt ∨ k = br)) (n : Nat) (hn : 3 ≤ n) :
    SeqStopsK Fence.wide n Tryd.prog 113 #[.pointer (some ⟨bt, 0, none⟩), .pointer (some ⟨br, 0, none⟩)] (fun x : Int × Int => #[Value.agg #[.int .i64 x.1, .int .i64 x.2]]) (KpD L g j)
      (fun xs => xs = metersUp s r.pieces r.pieces.length) (fun _ => True) (metersUp s r.pieces r.pieces.length).length w0 := fun l J Jx W hW hJ hJx hY hJ0 => by
  have hbt' := hbt.below hW
  have hbr' := hbr.below hW
  have hsm' := hsm.below hW
  have hap' := hap.below hW
  clear hbt hbr hsm hap
  have t0 := hbt'.cell 0
  have t1 := hbt'.cell 1
  have t2 := hbt'.cell 2
  have t3 := hbt'.cell 3
  have q0 := hbr'.cell 0
  have q1 := hbr'.cell 1
  have q2 := hbr'.cell 2
  have lt := hbt'.lt
  have lr := hbr'.lt
  have H0 := Lib.hid h0
  have G2 := Lib.hid g2
  have G3 := Lib.hid g3
  have HS := Lib.hid hs
  have HR := Lib.hid hr
  have HBt := Lib.hid hbt'
  have HBr := Lib.hid hbr'
  have HSm := Lib.hid hsm'
  have HAp := Lib.hid hap'
  have HY := Lib.hid hY
  have HJ := Lib.hid hJ
  have HJ0 := Lib.hid hJ0
  clear h0 g2 g3 hs hr hbt' hbr' hsm' hap' hY hJ hJ0 hJx hW
  refine callsIn_of_wp Tryd.func113 rfl trivial ?_ rfl
  simp only [Tryd.ntmps113, List.size_toArray, List.length_cons, List.length_nil, Nat.reduceAdd, Nat.reduceSub, Array.replicate_succ, Array.replicate_zero, List.push_toArray, List.append_toArray, List.nil_append, List.cons_append]
  gi_wp2
  obtain ⟨tb, htb⟩ : ∃ tb : Value, tb = .agg #[.int .i64 s.least, .int .i64 s.most, .slice B2 m2 d2, .slice B3 m3 d3] := ⟨_, rfl⟩
  gi_loopw [18] (fun v18 wr => ∃ k : Nat, k ≤ n0 ∧ v18 = .int .i64 k ∧ Hid (J (metersUp s r.pieces k) wr)
      ∧ Hid (Blk wr bt 160 #[.int .i64 s.least, .int .i64 s.most, .slice B2 m2 d2, .slice B3 m3 d3]) ∧ Hid (Blk wr br 26 #[.slice A0 n0 c0, .slice A1 n1 c1, .slice A2 n2 c2])
      ∧ Hid (Blk wr W.heap.size 176 #[.func (.func 114) #[.agg #[.int .i64 s.least, .int .i64 s.most, .slice B2 m2 d2, .slice B3 m3 d3]] #[], .func (.func 115) #[.agg #[.int .i64 s.least, .int .i64 s.most, .slice B2 m2 d2, .slice B3 m3 d3]] #[]])
      ∧ Hid (Ap L g j wr (fun k => (k < wd.heap.size ∨ k = bt ∨ k = br) ∨ k = W.heap.size)) ∧ Hid (Sm wd wr)) (fun v18 _ => n0 - (intOf v18).toNat)
  case atStart => exact ⟨0, Nat.zero_le _, rfl, abides_bel HJ.out HJ0.out (by repeat (first | assumption | exact Below.refl _ _ | apply bel_alloc | apply bel_drew | apply bel_drewN | (refine bel_set ?_ (by first | assumption | omega | (simp; done) | (simp; omega)) _))), HBt.out.alloc _, HBr.out.alloc _, Blk.new _ _ _, HAp.out.new (by repeat (first | assumption | exact Below.refl _ _ | apply bel_alloc | apply bel_drew | apply bel_drewN | (refine bel_set ?_ (by first | assumption | omega | (simp; done) | (simp; omega)) _))) _ (Nat.le_refl _), HSm.out.below (by repeat (first | assumption | exact Below.refl _ _ | apply bel_alloc | apply bel_drew | apply bel_drewN | (refine bel_set ?_ (by first | assumption | omega | (simp; done) | (simp; omega)) _)))⟩
  case round =>
    clear HBt HBr HAp HSm HJ0 t0 t1 t2 t3 q0 q1 q2 lt lr
    obtain ⟨k, hk, rfl, HJ0, HBt, HBr, HBs, HAp, HSm⟩ := hrel
    have mm := H0.out.2.1
    have b0 := HBr.out.cell 0
    have b1 := HBr.out.cell 1
    have b2 := HBr.out.cell 2
    by_cases hlt : k < n0
    · obtain ⟨x, hx⟩ := H0.out.get hlt
      have HX := Lib.hid hx
      have HPk := Lib.hid (HR.out.pieces k x (by have := H0.out.1; omega) hx)
      clear hx
      obtain ⟨ad, e, x0, x1, x2, x3, x4⟩ := (H0.out.sm HSm.out).atPiece HX.out
      cases e
      have ls := HBs.out.lt
      have lt := HBt.out.lt
      have lr := HBr.out.lt
      have s0 := HBs.out.cell 0
      have s1 := HBs.out.cell 1
      have i0 := side0
      have i1 := side1
      gi_wp2
      refine wpIn_loop_rounds 3 ?_
      rw [roundsIn_succ]
      have hsz : wr.heap.size + 1 < ((wr.alloc (.cells #[.int .i64 x.len, .int .i64 x.turn, .int .i64 x.radius, .int .i64 x.width, .int .i64 x.surface] 105)).alloc (.cells #[.int .i64 0, .int .i64 0] 122)).heap.size := by simp
      gi_wp2_with (first
        | (refine ⟨trivial, fun h => (by cases h), ?_⟩; gi_at_call 114; go_must (refine (callsIn_wide.2 (pace_quick s x B2 B3 m2 m3 d2 d3 _ ((G2.out.sm HSm.out).below (by repeat (first | assumption | exact Below.refl _ _ | apply bel_alloc | apply bel_drew | apply bel_drewN | (refine bel_set ?_ (by first | assumption | omega | (simp; done) | (simp; omega)) _)))) ((G3.out.sm HSm.out).below (by repeat (first | assumption | exact Below.refl _ _ | apply bel_alloc | apply bel_drew | apply bel_drewN | (refine bel_set ?_ (by first | assumption | omega | (simp; done) | (simp; omega)) _)))) HS.out HPk.out)).mono ?_); rintro e w1 ⟨rfl, hw1⟩; obtain ⟨hc1, hf1⟩ := bcell hw1; have hz1 : wr.heap.size + 1 < w1.heap.size := by have := hw1.size; simp at this; omega))
      rw [roundsIn_succ]
      gi_wp2_with (first
        | (refine ⟨trivial, fun h => (by cases h), ?_⟩; gi_at_call 115; refine (callsIn_wide.2 (pace_slow s x B2 B3 m2 m3 d2 d3 _ ((G2.out.sm HSm.out).below (bel_set (bel_then (by repeat (first | assumption | exact Below.refl _ _ | apply bel_alloc | apply bel_drew | apply bel_drewN | (refine bel_set ?_ (by first | assumption | omega | (simp; done) | (simp; omega)) _))) hw1) (by simp) _)) ((G3.out.sm HSm.out).below (bel_set (bel_then (by repeat (first | assumption | exact Below.refl _ _ | apply bel_alloc | apply bel_drew | apply bel_drewN | (refine bel_set ?_ (by first | assumption | omega | (simp; done) | (simp; omega)) _))) hw1) (by simp) _)) HS.out HPk.out)).mono ?_; rintro e w2 ⟨rfl, hw2⟩; obtain ⟨hc2, hf2⟩ := bcell hw2; have hz2 : wr.heap.size + 1 < w2.heap.size := by have := hw2.size; simp at this; omega))
      have hA : Below wr.heap.size wr w1 := bel_then (by repeat (first | assumption | exact Below.refl _ _ | apply bel_alloc | apply bel_drew | apply bel_drewN | (refine bel_set ?_ (by first | assumption | omega | (simp; done) | (simp; omega)) _))) hw1
      have hB : Below wr.heap.size wr (w1.setCell ⟨wr.heap.size + 1, 0, none⟩ (.int .i64 (quickT s x))) := bel_set hA (by simp) _
      have hC : Below wr.heap.size wr w2 := bel_then hB hw2
      have hD : Below wr.heap.size wr (w2.setCell ⟨wr.heap.size + 1, 1, none⟩ (.int .i64 (slowT s x))) := bel_set hC (by simp) _
      have hM : Blk (w2.setCell ⟨wr.heap.size + 1, 1, none⟩ (.int .i64 (slowT s x))) (wr.heap.size + 1) 122 #[.int .i64 (quickT s x), .int .i64 (slowT s x)] :=
        ((((Blk.new_at (wr.alloc (.cells #[.int .i64 x.len, .int .i64 x.turn, .int .i64 x.radius, .int .i64 x.width, .int .i64 x.surface] 105)) (wr.heap.size + 1) 122 #[.int .i64 0, .int .i64 0] (by simp)).below hw1).set 0 _).below hw2).set 1 _
      rw [roundsIn_succ]
      obtain ⟨W5, hW5⟩ : ∃ W5, w2.setCell ⟨wr.heap.size + 1, 1, none⟩ (.int .i64 (slowT s x)) = W5 := ⟨_, rfl⟩
      rw [hW5] at hD hM ⊢
      have p0 := ((((Blk.new wr 105 #[.int .i64 x.len, .int .i64 x.turn, .int .i64 x.radius, .int .i64 x.width, .int .i64 x.surface]).alloc (.cells #[.int .i64 0, .int .i64 0] 122)).below hw1).far (p := ⟨wr.heap.size + 1, 0, none⟩) (by simp) (.int .i64 (quickT s x))).below hw2
      have p1 := p0.far (p := ⟨wr.heap.size + 1, 1, none⟩) (by simp) (.int .i64 (slowT s x))
      rw [hW5] at p1
      clear hc1 hf1 hc2 hf2 hz1 hz2 hsz hA hB hC hW5 hw1 hw2 i0 i1 x0 x1 x2 x3 x4 p0
      have hl1 := HPk.out.1
      have hl2 := HPk.out.2.1
      have HD := Lib.hid hD
      have HM := Lib.hid hM
      have pp := p1.cell 0
      have m0 := hM.cell 0
      have m1 := hM.cell 1
      have lD := hD.size
      clear hD p1
      gi_wp2
      have HA2 := Lib.hid ((HAp.out.new HD.out (wr.heap.size + 1) (by omega)))
      have HS2 := Lib.hid (HSm.out.below HD.out)
      have lw := HSm.out.1
      obtain ⟨wo, rfl⟩ : ∃ wo : World, wo = wr := ⟨_, rfl⟩
      gi_loopw [35] (fun v35 wr => ∃ i : Nat, (i : Int) ≤ x.len ∧ v35 = .int .i64 i ∧ Hid (J (metersUp s r.pieces k ++ List.replicate i (quickT s x, slowT s x)) wr)
        ∧ Hid (Blk wr bt 160 #[.int .i64 s.least, .int .i64 s.most, .slice B2 m2 d2, .slice B3 m3 d3]) ∧ Hid (Blk wr br 26 #[.slice (some ad) n0 c0, .slice A1 n1 c1, .slice A2 n2 c2])
        ∧ Hid (Blk wr W.heap.size 176 #[.func (.func 114) #[.agg #[.int .i64 s.least, .int .i64 s.most, .slice B2 m2 d2, .slice B3 m3 d3]] #[], .func (.func 115) #[.agg #[.int .i64 s.least, .int .i64 s.most, .slice B2 m2 d2, .slice B3 m3 d3]] #[]])
        ∧ Hid (Blk wr (wo.heap.size + 1) 122 #[.int .i64 (quickT s x), .int .i64 (slowT s x)])
        ∧ Hid (Ap L g j wr (fun k => ((k < wd.heap.size ∨ k = bt ∨ k = br) ∨ k = W.heap.size) ∨ k = wo.heap.size + 1)) ∧ Hid (Sm wd wr)) (fun v35 _ => (x.len - intOf v35).toNat)
      case atStart => exact ⟨0, by simp; omega, rfl, Lib.hid (by simpa using abides_bel (B := W.heap.size) HJ.out HJ0.out HD.out), HBt.out.below HD.out, HBr.out.below HD.out, HBs.out.below HD.out, HM, HA2, HS2⟩
      case round =>
        clear m0 m1 pp HM HD hM lD HA2 HS2
        obtain ⟨i, hi, rfl, HJi, HBt2, HBr2, HBs2, HM, HA2, HS2⟩ := hrel
        have m0 := HM.out.cell 0
        have m1 := HM.out.cell 1
        have lm := HM.out.lt
        have lt2 := HBt2.out.lt
        have lr2 := HBr2.out.lt
        have ls2 := HBs2.out.lt
        by_cases hil : (i : Int) < x.len
        · have hlen : (metersUp s r.pieces k ++ List.replicate i (quickT s x, slowT s x)).length < (metersUp s r.pieces r.pieces.length).length := by
            have h1 := metersUp_mono s r.pieces (show k + 1 ≤ r.pieces.length by have := H0.out.1; omega)
            rw [metersUp_succ HX.out, List.length_append, List.length_replicate] at h1
            rw [List.length_append, List.length_replicate]
            omega
          obtain ⟨fn, tmps, assign, body, hy, hR⟩ := HY.out _ (quickT s x, slowT s x) wr HJi.out hlen
          have HRR := Lib.hid hR
          clear hR hlen
          dsimp only at hy
          gi_wp2
          refine ⟨fun h => (by cases h), HRR.out.mono ?_⟩
          rintro e W6 (⟨rfl, hJ6, hk6⟩ | ⟨rfl, hJx6⟩)
          · have hS : ∀ k, (((k < wd.heap.size ∨ k = bt ∨ k = br) ∨ k = W.heap.size) ∨ k = wo.heap.size + 1) → k < wr.heap.size := by
              have := HS2.out.1
              intro k hk
              omega
            have HJ6 := Lib.hid hJ6
            have HK6 := Lib.hid hk6
            have HS6 := Lib.hid hS
            clear hJ6 hk6 hS
            gi_wp2
            go_roundw
            case rel => exact ⟨i + 1, by omega, by go_num, Lib.hid (by have := HJ6.out; rwa [List.append_assoc, ← List.replicate_succ'] at this), HBt2.out.kp HK6.out HA2.out (by simp), HBr2.out.kp HK6.out HA2.out (by simp), HBs2.out.kp HK6.out HA2.out (by simp), HM.out.kp HK6.out HA2.out (by simp), HA2.out.kp HK6.out HS6.out, HS2.out.kp HK6.out HA2.out (fun k h => .inl (.inl (.inl h)))⟩
            case measure => simp [intOf]; omega
          · gi_wp2
            refine bodyPost_ret (results_none rfl _ _ _) rfl ?_
            exact ⟨⟨_, rfl⟩, .inr ⟨_, trivial, hJx6⟩⟩
        · have hie : i = x.len.toNat := by omega
          have HI := Lib.hid hie
          clear hie
          gi_wp2
          go_roundw
          case rel => exact ⟨k + 1, by omega, by go_num, Lib.hid (by rw [metersUp_succ HX.out, ← HI.out]; exact HJi.out), HBt2, HBr2, HBs2, HA2.out.mono (fun k h => .inl h), HS2⟩
          case measure => simp [intOf]; omega
    · obtain rfl : n0 = k := by omega
      have HN := H0.out.1
      gi_wp2
      go_end0
      exact ⟨⟨_, rfl⟩, .inl ⟨_, rfl, by rw [HN]; exact HJ0.out⟩⟩
end Go.Proofs.YtinglbcafcjhfaaDoor
