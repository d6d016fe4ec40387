/- Contracts of the methods of pace's track that only read: length, place, between. -/
import Derived.Test.YtinglbcafcjhfaaDoorPaceD
namespace Go.Proofs.YtinglbcafcjhfaaDoor
open Go.RowKit
set_option linter.unusedVariables false
set_option linter.unusedSimpArgs false

theorem Rd.atTimes {w : World} {A : Option Addr} {n i : Nat} {xs : List (Int × Int)} (h : Rd 2 timesEnc w A n xs) {x : Int × Int} (hx : xs[i]? = some x) : ∃ ad, A = some ad ∧ w.cell? (ad.add (i * 2)) = some (.int .i64 x.1) ∧ w.cell? ⟨(ad.add (i * 2)).block, (ad.add (i * 2)).off + 1, none⟩ = some (.int .i64 x.2) := by
  obtain ⟨ad, e, hc⟩ := h.2.2 i x hx
  exact ⟨ad, e, hc 0 _ rfl, by rw [← add_field _ _ 1 (by omega)]; exact hc 1 _ rfl⟩

structure Call where
  (place lasts lead ahead value : Int)
def Call.enc (c : Call) : List Int := [c.place, c.lasts, c.lead, c.ahead, c.value]
theorem Call.enc_len (c : Call) : c.enc.length = 5 := rfl
theorem Rd.atCall {w : World} {A : Option Addr} {n i : Nat} {xs : List Call} (h : Rd 5 Call.enc w A n xs) {x : Call} (hx : xs[i]? = some x) : ∃ ad, A = some ad ∧ w.cell? (ad.add (i * 5)) = some (.int .i64 x.place) ∧ w.cell? ⟨(ad.add (i * 5)).block, (ad.add (i * 5)).off + 1, none⟩ = some (.int .i64 x.lasts) ∧ w.cell? ⟨(ad.add (i * 5)).block, (ad.add (i * 5)).off + 2, none⟩ = some (.int .i64 x.lead) ∧ w.cell? ⟨(ad.add (i * 5)).block, (ad.add (i * 5)).off + 3, none⟩ = some (.int .i64 x.ahead) ∧ w.cell? ⟨(ad.add (i * 5)).block, (ad.add (i * 5)).off + 4, none⟩ = some (.int .i64 x.value) := by
  obtain ⟨ad, e, hc⟩ := h.2.2 i x hx
  exact ⟨ad, e, hc 0 _ rfl, by rw [← add_field _ _ 1 (by omega)]; exact hc 1 _ rfl, by rw [← add_field _ _ 2 (by omega)]; exact hc 2 _ rfl, by rw [← add_field _ _ 3 (by omega)]; exact hc 3 _ rfl, by rw [← add_field _ _ 4 (by omega)]; exact hc 4 _ rfl⟩
def Call.Fine (c : Call) : Prop := inB c.lasts 0 1125899906842624 = true ∧ inB c.lead 0 1125899906842624 = true ∧ inB c.ahead 0 1125899906842624 = true ∧ inB c.value 0 100 = true
def Call.Ok (n : Int) (l : List Call) (i : Nat) : Prop := ∀ c, l[i]? = some c → inB c.place 0 n = true ∧ (∀ d, 0 < i → l[i - 1]? = some d → decide (c.place < d.place) = false) ∧ c.Fine
def CallsUp (n : Int) (l : List Call) (k : Nat) : Prop := ∀ j, j < k → Call.Ok n l j
def CallsOk (n : Int) (l : List Call) : Prop := l.length ≤ 300 ∧ CallsUp n l l.length
theorem CallsUp.succ {n : Int} {l : List Call} {k : Nat} (h : CallsUp n l k) (hk : Call.Ok n l k) : CallsUp n l (k + 1) := fun j hj => by
  rcases Nat.lt_or_ge j k with hl | hl
  · exact h j hl
  · obtain rfl : j = k := by omega
    exact hk
theorem Call.no1 {n : Int} {l : List Call} {k : Nat} {x : Call} (hx : l[k]? = some x) (h : inB x.place 0 n = false) : ¬Call.Ok n l k := fun hk => by rw [(hk x hx).1] at h; cases h
theorem Call.no2 {n : Int} {l : List Call} {k : Nat} {x y : Call} (hx : l[k]? = some x) (h0 : 0 < k) (hy : l[k - 1]? = some y) (h : decide (x.place < y.place) = true) : ¬Call.Ok n l k := fun hk => by rw [(hk x hx).2.1 y h0 hy] at h; cases h
theorem Call.no3 {n : Int} {l : List Call} {k : Nat} {x : Call} (hx : l[k]? = some x) (h : ¬x.Fine) : ¬Call.Ok n l k := fun hk => h (hk x hx).2.2
theorem Call.yes {n : Int} {l : List Call} {k : Nat} {x : Call} (hx : l[k]? = some x) (h1 : inB x.place 0 n = true) (h2 : k = 0 ∨ ∃ y, l[k - 1]? = some y ∧ decide (x.place < y.place) = false) (h3 : x.Fine) : Call.Ok n l k := fun c hc => by
  rw [hx] at hc
  cases hc
  refine ⟨h1, fun d hk hd => ?_, h3⟩
  rcases h2 with h2 | ⟨y, hy, h2⟩
  · omega
  · rw [hy] at hd
    cases hd
    exact h2

/-- Block g holds a track: the sums of the times up to each of the N + 1 places. -/
def IsTrack (w : World) (g : Nat) (sums : List (Int × Int)) (s0 s1 s2 : Value) (N : Nat) : Prop :=
  ∃ B cb, Blk w g 125 #[s0, s1, s2, .slice (some B) (N + 1) cb] ∧ Rd 2 timesEnc w (some B) (N + 1) sums ∧ N ≤ 1000000000 ∧ ∀ (i : Nat) (x : Int × Int), sums[i]? = some x → 0 ≤ x.1 ∧ x.1 ≤ 10000000000000 ∧ 0 ≤ x.2 ∧ x.2 ≤ 10000000000000
section
variable {w w1 : World} {g N : Nat} {sums : List (Int × Int)} {s0 s1 s2 : Value}
theorem IsTrack.below (h : IsTrack w g sums s0 s1 s2 N) (hb : Below w.heap.size w w1) : IsTrack w1 g sums s0 s1 s2 N := by
  obtain ⟨B, cb, h1, h2, h3⟩ := h
  exact ⟨B, cb, h1.below hb, h2.below hb, h3⟩
theorem IsTrack.drewN (h : IsTrack w g sums s0 s1 s2 N) (n : Nat) : IsTrack (w.drewN n) g sums s0 s1 s2 N := h
theorem IsTrack.get (h : IsTrack w g sums s0 s1 s2 N) {i : Nat} (hi : i ≤ N) : ∃ x, sums[i]? = some x := by
  obtain ⟨B, cb, h1, h2, h3⟩ := h
  exact h2.get (by omega)

theorem track_length (h : IsTrack w g sums s0 s1 s2 N) : Calls Tryd.prog 104 #[.pointer (some ⟨g, 0, none⟩)] w fun e w' => e = .returned (.int .i64 N) ∧ w = w' := by
  obtain ⟨B, cb, h1, h2, h3, h4⟩ := h
  have k3 := h1.cell 3
  clear h1 h2 h4
  go_enter Tryd.func104, Tryd.ntmps104
  go_wp2
  go_ret
  exact ⟨by simp, rfl⟩
theorem track_place (p : Int) (h : IsTrack w g sums s0 s1 s2 N) : Calls Tryd.prog 59 #[.pointer (some ⟨g, 0, none⟩), .int .i64 p] w fun e w' => e = .returned (.bool (inB p 0 N)) ∧ w = w' := by
  have H := Lib.hid h
  clear h
  go_enter Tryd.func59, Tryd.ntmps59
  go_wp2_with (first | (go_at_call 104; refine (track_length H.out).mono ?_; rintro e w' ⟨rfl, rfl⟩) | (go_at_call 62; refine (pace_within _ _ _ _).mono ?_; rintro e w' ⟨rfl, rfl⟩))
  go_ret
  exact ⟨rfl, rfl⟩
set_option maxRecDepth 100000 in
theorem track_least (a b : Int) (ha : 0 ≤ a) (hb : 0 ≤ b) (ha1 : a ≤ N) (hb1 : b ≤ N) (x y : Int × Int) (hx : sums[a.toNat]? = some x) (hy : sums[b.toNat]? = some y) (h : IsTrack w g sums s0 s1 s2 N) :
    Calls Tryd.prog 60 #[.pointer (some ⟨g, 0, none⟩), .int .i64 0, .int .i64 a, .int .i64 b] w fun e w' => e = .returned (.int .i64 (y.1 - x.1)) ∧ ∃ n, w' = w.drewN n := by
  obtain ⟨B, cb, h1, h2, h3, h4⟩ := h
  have k3 := h1.cell 3
  obtain ⟨ad, e, x0, x1⟩ := h2.atTimes hx
  obtain ⟨ad', e', y0, y1⟩ := h2.atTimes hy
  cases e
  cases e'
  obtain ⟨p1, p2, p3, p4⟩ := h4 _ _ hx
  obtain ⟨p5, p6, p7, p8⟩ := h4 _ _ hy
  have q1 : a < (N : Int) + 1 := by omega
  have q2 : b < (N : Int) + 1 := by omega
  clear h1 h2 h4 hx hy
  go_enter Tryd.func60, Tryd.ntmps60
  go_wp2
  go_quiet (fail)
  go_wp2
  go_ret
  exact ⟨rfl, _, rfl⟩
set_option maxRecDepth 100000 in
theorem track_most (a b : Int) (ha : 0 ≤ a) (hb : 0 ≤ b) (ha1 : a ≤ N) (hb1 : b ≤ N) (x y : Int × Int) (hx : sums[a.toNat]? = some x) (hy : sums[b.toNat]? = some y) (h : IsTrack w g sums s0 s1 s2 N) :
    Calls Tryd.prog 60 #[.pointer (some ⟨g, 0, none⟩), .int .i64 1, .int .i64 a, .int .i64 b] w fun e w' => e = .returned (.int .i64 (y.2 - x.2)) ∧ ∃ n, w' = w.drewN n := by
  obtain ⟨B, cb, h1, h2, h3, h4⟩ := h
  have k3 := h1.cell 3
  obtain ⟨ad, e, x0, x1⟩ := h2.atTimes hx
  obtain ⟨ad', e', y0, y1⟩ := h2.atTimes hy
  cases e
  cases e'
  obtain ⟨p1, p2, p3, p4⟩ := h4 _ _ hx
  obtain ⟨p5, p6, p7, p8⟩ := h4 _ _ hy
  have q1 : a < (N : Int) + 1 := by omega
  have q2 : b < (N : Int) + 1 := by omega
  clear h1 h2 h4 hx hy
  go_enter Tryd.func60, Tryd.ntmps60
  go_wp2
  go_quiet (fail)
  go_wp2
  go_ret
  exact ⟨rfl, _, rfl⟩
end
end Go.Proofs.YtinglbcafcjhfaaDoor
