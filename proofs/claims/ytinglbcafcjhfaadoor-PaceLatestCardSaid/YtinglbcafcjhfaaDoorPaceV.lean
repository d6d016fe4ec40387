/- The contracts of (*track).room, last[int] and the closure of Plan. -/
import Derived.Test.YtinglbcafcjhfaaDoorPaceU
namespace Go.Proofs.YtinglbcafcjhfaaDoor
open Go.RowKit
set_option linter.unusedVariables false
set_option linter.unusedSimpArgs false

/-- What k calls from the a-th on take; the least slack of their ends (at most the bound of times); the first that has none. -/
def rmS (l : List Call) (a : Nat) : Nat → Int
  | 0 => 0
  | k + 1 => match l[a + k]? with
    | some c => rmS l a k + c.lasts
    | none => rmS l a k
def slack (sums : List (Int × Int)) (l : List Call) (a k : Nat) (c : Call) : Int := (sums.getD c.place.toNat (0, 0)).1 - rmS l a (k + 1) - c.lead
def rmR (sums : List (Int × Int)) (l : List Call) (a : Nat) : Nat → Int
  | 0 => 1125899906842624
  | k + 1 => match l[a + k]? with
    | some c => min (rmR sums l a k) (slack sums l a k c)
    | none => rmR sums l a k
def rmL (sums : List (Int × Int)) (l : List Call) (a : Nat) : Nat → Int
  | 0 => -1
  | k + 1 => match l[a + k]? with
    | some c => if slack sums l a k c < 0 ∧ rmL sums l a k < 0 then ((a + k : Nat) : Int) else rmL sums l a k
    | none => rmL sums l a k
section
variable {sums : List (Int × Int)} {l : List Call} {a k : Nat} {c : Call} {N : Int}
theorem rmS_succ (h : l[a + k]? = some c) : rmS l a (k + 1) = rmS l a k + c.lasts := by simp [rmS, h]
theorem rmR_succ (h : l[a + k]? = some c) : rmR sums l a (k + 1) = min (rmR sums l a k) (slack sums l a k c) := by simp [rmR, h]
theorem rmL_succ (h : l[a + k]? = some c) : rmL sums l a (k + 1) = if slack sums l a k c < 0 ∧ rmL sums l a k < 0 then ((a + k : Nat) : Int) else rmL sums l a k := by simp [rmL, h]
theorem CallsOk.at_ (h : CallsOk N l) {i : Nat} (hc : l[i]? = some c) : 0 ≤ c.place ∧ c.place ≤ N ∧ 0 ≤ c.lasts ∧ c.lasts ≤ 1125899906842624 ∧ 0 ≤ c.lead ∧ c.lead ≤ 1125899906842624 ∧ 0 ≤ c.ahead ∧ c.ahead ≤ 1125899906842624 ∧ 0 ≤ c.value ∧ c.value ≤ 100 := by
  obtain ⟨h1, _, h3, h4, h5, h6⟩ := h.2 i (List.getElem?_eq_some_iff.1 hc).1 c hc
  rw [inB_iff] at *
  omega
theorem rmS_le (h : CallsOk N l) (a : Nat) : ∀ k, 0 ≤ rmS l a k ∧ rmS l a k ≤ 1125899906842624 * k
  | 0 => by simp [rmS]
  | k + 1 => by
    have ih := rmS_le h a k
    cases hc : l[a + k]? with
    | none => simp only [rmS, hc]; omega
    | some c =>
      rw [rmS_succ hc]
      have := h.at_ hc
      omega
end

set_option maxRecDepth 100000 in
set_option maxHeartbeats 2000000 in
theorem track_room {w : World} {g N : Nat} {sums : List (Int × Int)} {s0 s1 s2 : Value} (l : List Call) (A : Option Addr) (n c a : Nat) (h : IsTrack w g sums s0 s1 s2 N) (h1 : Rd 5 Call.enc w A n l) (ho : CallsOk N l) (ha : a ≤ n) :
    Calls Tryd.prog 72 #[.pointer (some ⟨g, 0, none⟩), .slice A n c, .int .i64 a] w fun e w' => e = .returned (.tuple #[.int .i64 (rmR sums l a (n - a)), .int .i64 (rmL sums l a (n - a))]) ∧ ∃ m, w' = w.drewN m := by
  have hn : n ≤ 300 := by have := ho.1; have := h1.1; omega
  have HT := Lib.hid h
  have H1 := Lib.hid h1
  have HO := Lib.hid ho
  clear h h1 ho
  go_enter Tryd.func72, Tryd.ntmps72
  go_wp2
  go_loopw [8, 9, 10, 11] (fun v8 v9 v10 v11 wr => ∃ k m : Nat, a + k ≤ n ∧ v11 = .int .i64 ((a + k : Nat) : Int) ∧ v10 = .int .i64 (rmS l a k) ∧ v8 = .int .i64 (rmR sums l a k) ∧ v9 = .int .i64 (rmL sums l a k) ∧ (-1000000000000000000000 ≤ rmR sums l a k ∧ rmR sums l a k ≤ 1125899906842624) ∧ wr = w.drewN m) (fun _ _ _ v11 _ => n - (intOf v11).toNat)
  case atStart => exact ⟨0, 0, by omega, by simp, rfl, rfl, rfl, by simp [rmR], rfl⟩
  case round =>
    obtain ⟨k, m, hk, rfl, rfl, rfl, rfl, hR, rfl⟩ := hrel
    by_cases hlt : a + k < n
    · obtain ⟨x, hx⟩ := H1.out.get hlt
      obtain ⟨p1, p2, p3, p4, p5, p6, _⟩ := HO.out.at_ hx
      obtain ⟨b1, b2⟩ := rmS_le HO.out a k
      have HX := Lib.hid hx
      obtain ⟨y, hy⟩ := HT.out.get (i := x.place.toNat) (by omega)
      obtain ⟨B, cb, t1, t2, t3, t4⟩ := HT.out
      obtain ⟨y1, y2, y3, y4⟩ := t4 _ _ hy
      obtain ⟨bd, e, z0, z1⟩ := t2.atTimes hy
      obtain ⟨ad, e', x0, x1, x2, x3, x4⟩ := H1.out.atCall HX.out
      cases e
      cases e'
      have k3 := t1.cell 3
      have q1 : x.place < (N : Int) + 1 := by omega
      have hsl : Hid (slack sums l a k x = y.1 - (rmS l a k + x.lasts) - x.lead) := Lib.hid (by unfold slack; rw [rmS_succ hx, List.getD_eq_getElem?_getD, hy]; rfl)
      have q2 : rmS l a k ≤ 1125899906842624 * 300 := by omega
      obtain ⟨sv, hsv⟩ : ∃ sv, rmS l a k = sv := ⟨_, rfl⟩
      obtain ⟨rv, hrv⟩ : ∃ rv, rmR sums l a k = rv := ⟨_, rfl⟩
      obtain ⟨lv, hlv⟩ : ∃ lv, rmL sums l a k = lv := ⟨_, rfl⟩
      rw [hsv] at b1 b2 q2 hsl
      rw [hrv] at hR
      have HSV := Lib.hid hsv
      have HRV := Lib.hid hrv
      have HLV := Lib.hid hlv
      rw [hsv, hrv, hlv]
      obtain ⟨hR1, hR2⟩ := hR
      clear hx hy t1 t2 t4 hsv hrv hlv b2
      go_wp2
      go_quiet (fail)
      go_wp2
      all_goals
        go_roundw
        case rel =>
          have e1 := rmR_succ (sums := sums) HX.out
          rw [hsl.out, HRV.out] at e1
          have e2 := rmL_succ (sums := sums) HX.out
          rw [hsl.out, HLV.out] at e2
          have e3 := rmS_succ HX.out
          rw [HSV.out] at e3
          go_light
          refine ⟨k + 1, m + nq, by omega, ?_, by rw [e3], ?_, ?_, ?_, by first | rfl | rw [World.drewN_drewN]⟩
          · congr 1
          · rw [e1]; congr 1; omega
          · rw [e2]; first | (rw [if_pos ⟨by assumption, by assumption⟩]; done) | (rw [if_neg (by omega)]; done) | (congr 1; rw [if_pos ⟨by omega, by omega⟩]; omega)
          · rw [e1]; omega
        case measure => simp [intOf]; omega
    · obtain rfl : n = a + k := by omega
      go_wp2
      go_ret2
      exact ⟨ret_int2 (by rw [show a + k - a = k by omega]) (by rw [show a + k - a = k by omega]), _, rfl⟩
/-- What a search by halves finds. -/
def LastIs (q : Int → Bool) (bound low : Int) : Prop := 0 ≤ low ∧ low ≤ bound ∧ (low = 0 ∨ q low = true) ∧ (low = bound ∨ q (low + 1) = false)
def LastPost (q : Int → Bool) (bound : Int) (w : World) (e : Ending) (w' : World) : Prop := ∃ low, LastIs q bound low ∧ e = .returned (.int .i64 low) ∧ ∃ m, w' = w.drewN m
set_option maxRecDepth 100000 in
set_option maxHeartbeats 2000000 in
theorem last_int (K : FuncId) (c0 c1 : Value) (bound : Int) (q : Int → Bool) (w : World) (hb0 : 0 ≤ bound) (hb1 : bound ≤ 1000000000)
    (hcf : ∀ a W, Sem.run Tryd.prog (callFunc K a) W = .ok (.enter K a) W)
    (hq : ∀ x m, 0 ≤ x → x ≤ bound → Calls Tryd.prog K #[.int .i64 x, c0, c1] (w.drewN m) fun e w' => e = .returned (.bool (q x)) ∧ ∃ n, w' = w.drewN n) :
    Calls Tryd.prog 73 #[.int .i64 bound, .func (.func K) #[] #[c0, c1]] w (LastPost q bound w) := by
  have HQ := Lib.hid hq
  clear hq
  go_enter Tryd.func73, Tryd.ntmps73
  go_wp2
  go_loopw [5, 6] (fun v5 v6 wr => ∃ (low high : Int) (m : Nat), v5 = .int .i64 low ∧ v6 = .int .i64 high ∧ (0 ≤ low ∧ low < high ∧ high ≤ bound + 1) ∧ Hid (low = 0 ∨ q low = true) ∧ Hid (high = bound + 1 ∨ q high = false) ∧ wr = w.drewN m) (fun v5 v6 _ => (intOf v6 - intOf v5).toNat)
  case atStart => exact ⟨0, bound + 1, 0, rfl, rfl, ⟨by omega, by omega, by omega⟩, .inl rfl, .inl rfl, rfl⟩
  case round =>
    obtain ⟨low, high, m, rfl, rfl, ⟨l1, l2, l3⟩, HL, HH, rfl⟩ := hrel
    by_cases hlt : 1 < high - low
    · have z1 : 0 ≤ (high - low) / 2 := by omega
      have z2 : low + (high - low) / 2 ≤ bound := by omega
      rcases hqx : q (low + (high - low) / 2)
      all_goals
        have HX := Lib.hid hqx
        clear hqx
        go_wp2_with ((with_reducible refine (HQ.out _ _ (by omega) (by omega)).mono ?_); rintro e w' ⟨rfl, m', rfl⟩; rw [HX.out])
        go_roundw
        case rel =>
          first
            | exact ⟨low, low + (high - low) / 2, m', rfl, rfl, ⟨by omega, by omega, by omega⟩, HL, .inr HX.out, rfl⟩
            | exact ⟨low + (high - low) / 2, high, m', rfl, rfl, ⟨by omega, by omega, by omega⟩, .inr HX.out, HH, rfl⟩
        case measure => simp [intOf]; omega
    · go_wp2
      go_ret
      refine ⟨low, ⟨l1, by omega, HL.out, ?_⟩, rfl, _, rfl⟩
      rcases HH.out with h | h
      · exact .inl (by omega)
      · exact .inr (by rw [show low + 1 = high by omega]; exact h)
theorem call_Plan1 : ∀ a W, Sem.run Tryd.prog (callFunc 74 a) W = .ok (.enter 74 a) W := fun _ _ => by kernel_rfl
/-- The least time up to a place. -/
def at1 (sums : List (Int × Int)) (p : Int) : Int := (sums.getD p.toNat (0, 0)).1
def at2 (sums : List (Int × Int)) (p : Int) : Int := (sums.getD p.toNat (0, 0)).2
theorem between_least {w : World} {g N : Nat} {sums : List (Int × Int)} {s0 s1 s2 : Value} (a b : Int) (ha : 0 ≤ a) (hb : 0 ≤ b) (ha1 : a ≤ N) (hb1 : b ≤ N) (h : IsTrack w g sums s0 s1 s2 N) :
    Calls Tryd.prog 60 #[.pointer (some ⟨g, 0, none⟩), .int .i64 0, .int .i64 a, .int .i64 b] w fun e w' => e = .returned (.int .i64 (at1 sums b - at1 sums a)) ∧ ∃ n, w' = w.drewN n := by
  obtain ⟨x, hx⟩ := h.get (i := a.toNat) (by omega)
  obtain ⟨y, hy⟩ := h.get (i := b.toNat) (by omega)
  have e1 : at1 sums a = x.1 := by unfold at1; rw [List.getD_eq_getElem?_getD, hx]; rfl
  have e2 : at1 sums b = y.1 := by unfold at1; rw [List.getD_eq_getElem?_getD, hy]; rfl
  rw [e1, e2]
  exact track_least a b ha hb ha1 hb1 x y hx hy h
theorem between_most {w : World} {g N : Nat} {sums : List (Int × Int)} {s0 s1 s2 : Value} (a b : Int) (ha : 0 ≤ a) (hb : 0 ≤ b) (ha1 : a ≤ N) (hb1 : b ≤ N) (h : IsTrack w g sums s0 s1 s2 N) :
    Calls Tryd.prog 60 #[.pointer (some ⟨g, 0, none⟩), .int .i64 1, .int .i64 a, .int .i64 b] w fun e w' => e = .returned (.int .i64 (at2 sums b - at2 sums a)) ∧ ∃ n, w' = w.drewN n := by
  obtain ⟨x, hx⟩ := h.get (i := a.toNat) (by omega)
  obtain ⟨y, hy⟩ := h.get (i := b.toNat) (by omega)
  have e1 : at2 sums a = x.2 := by unfold at2; rw [List.getD_eq_getElem?_getD, hx]; rfl
  have e2 : at2 sums b = y.2 := by unfold at2; rw [List.getD_eq_getElem?_getD, hy]; rfl
  rw [e1, e2]
  exact track_most a b ha hb ha1 hb1 x y hx hy h
set_option maxRecDepth 100000 in
theorem plan_holds {w : World} {g N : Nat} {sums : List (Int × Int)} {s0 s1 s2 : Value} (bt br : Nat) (rv p : Int) (h : IsTrack w g sums s0 s1 s2 N) (ht : Blk w bt 108 #[.pointer (some ⟨g, 0, none⟩)]) (hr : Blk w br 3 #[.int .i64 rv]) (h0 : 0 ≤ p) (hN : p ≤ N) (m : Nat) :
    Calls Tryd.prog 74 #[.int .i64 p, .pointer (some ⟨bt, 0, none⟩), .pointer (some ⟨br, 0, none⟩)] (w.drewN m) fun e w' => e = .returned (.bool (decide (at1 sums p ≤ rv))) ∧ ∃ n, w' = w.drewN n := by
  obtain ⟨y, hy⟩ := h.get (i := p.toNat) (by omega)
  obtain ⟨B, cb, t1, t2, t3, t4⟩ := h
  obtain ⟨bd, e, z0, z1⟩ := t2.atTimes hy
  cases e
  have k3 := t1.cell 3
  have b0 := ht.cell 0
  have b1 := hr.cell 0
  have q1 : p < (N : Int) + 1 := by omega
  have hv : at1 sums p = y.1 := by unfold at1; rw [List.getD_eq_getElem?_getD, hy]; rfl
  rw [hv]
  clear hy t1 t2 t4 ht hr hv
  go_enter Tryd.func74, Tryd.ntmps74
  go_wp2
  go_quiet (fail)
  go_wp2
  go_ret
  exact ⟨rfl, m + nq, by first | rfl | rw [World.drewN_drewN]⟩
end Go.Proofs.YtinglbcafcjhfaaDoor
