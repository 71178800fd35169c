/- The law NumDivides, walked. -/
import Derived.Test.YtkebkmjffbnihaaDigDiv
import Derived.Test.YtkebkmjffbnihaaNumG
namespace Go.Proofs.Ytkebkmjffbnihaa
open Go.RowKit
theorem dDiv_no (a b : Int) (w : World) (h : divB a b = false) : Calls Try.prog 10 #[.int .i64 a, .int .i64 b] w fun e w' => e = .returned (.tuple #[.int .i64 0, .int .i64 0, .bool false]) ∧ Below w.heap.size w w' := by
  have hc : b = 0 ∨ (a = -9223372036854775808 ∧ b = -1) := by
    unfold divB at h
    by_cases hb : b = 0
    · exact .inl hb
    · simp [hb] at h
      exact .inr h
  rcases hc with rfl | ⟨rfl, rfl⟩
  · refine (dDiv_0 a w).mono ?_
    rintro e w' ⟨he, rfl⟩
    exact ⟨he, Below.refl _ _⟩
  · exact dDiv_big w
/-- Both quotients are one. -/
def DivV (a b : Int) (q r : Int) (ok : Bool) : Prop := if divB a b = true then ok = true ∧ DivR a b q r else ok = false ∧ q = 0 ∧ r = 0
theorem DivV.uniq {a b q r q' r' : Int} {ok ok' : Bool} (h : DivV a b q r ok) (h' : DivV a b q' r' ok') : q = q' ∧ r = r' ∧ ok = ok' := by
  unfold DivV at h h'
  by_cases hd : divB a b = true
  · rw [if_pos hd] at h h'
    have hb0 : b ≠ 0 := by unfold divB at hd; simp at hd; exact hd.1
    obtain ⟨h1, h2⟩ := h.2.uniq hb0 h'.2
    exact ⟨h1, h2, by rw [h.1, h'.1]⟩
  · rw [if_neg hd] at h h'
    exact ⟨by rw [h.2.1, h'.2.1], by rw [h.2.2, h'.2.2], by rw [h.1, h'.1]⟩
theorem ndiv_all (a b : Int) (ha : I64 a) (hb : I64 b) (w : World) : Calls Try.prog 9 #[.int .i64 a, .int .i64 b] w fun e w' => (∃ q r ok, e = .returned (.tuple #[.int .i64 q, .int .i64 r, .bool ok]) ∧ DivV a b q r ok) ∧ Below w.heap.size w w' := by
  cases hd : divB a b with
  | true =>
    refine (ndiv a b ha hb hd w).mono ?_
    rintro e w' ⟨⟨q, r, he, h⟩, n, rfl⟩
    exact ⟨⟨q, r, true, he, by unfold DivV; rw [if_pos hd]; exact ⟨rfl, h⟩⟩, below_dr (Below.refl _ _) n⟩
  | false =>
    refine (ndiv_no a b hd w).mono ?_
    rintro e w' ⟨he, rfl⟩
    exact ⟨⟨0, 0, false, he, by unfold DivV; rw [if_neg (by rw [hd]; simp)]; exact ⟨rfl, rfl, rfl⟩⟩, Below.refl _ _⟩
theorem dDiv_all (a b : Int) (ha : I64 a) (hb : I64 b) (w : World) : Calls Try.prog 10 #[.int .i64 a, .int .i64 b] w fun e w' => (∃ q r ok, e = .returned (.tuple #[.int .i64 q, .int .i64 r, .bool ok]) ∧ DivV a b q r ok) ∧ Below w.heap.size w w' := by
  cases hd : divB a b with
  | true =>
    refine (dDiv a b w ha hb hd).mono ?_
    rintro e w' ⟨⟨q, r, he, h⟩, hb⟩
    exact ⟨⟨q, r, true, he, by unfold DivV; rw [if_pos hd]; exact ⟨rfl, h⟩⟩, hb⟩
  | false =>
    refine (dDiv_no a b w hd).mono ?_
    rintro e w' ⟨he, hb⟩
    exact ⟨⟨0, 0, false, he, by unfold DivV; rw [if_neg (by rw [hd]; simp)]; exact ⟨rfl, rfl, rfl⟩⟩, hb⟩
theorem dMulDiv_all (a b c : Int) (ha : I64 a) (hb : I64 b) (hc : I64 c) (w : World) : Calls Try.prog 12 #[.int .i64 a, .int .i64 b, .int .i64 c] w fun e w' => e = .returned (.tuple #[.int .i64 (if c < 1 then 0 else fitV (mulDivV a b c)), .bool (decide (1 ≤ c) && fitB (mulDivV a b c))]) ∧ Below w.heap.size w w' := by
  by_cases h1 : c < 1
  · have h2 : decide (1 ≤ c) = false := by simp; omega
    rw [if_pos h1, h2]
    refine (dMulDiv_0 a b c w h1).mono ?_
    rintro e w' ⟨he, rfl⟩
    exact ⟨he, Below.refl _ _⟩
  · have h2 : decide (1 ≤ c) = true := by simp; omega
    rw [if_neg h1, h2, Bool.true_and]
    exact dMulDiv a b c w ha hb hc (by omega)
set_option maxRecDepth 100000 in
set_option maxHeartbeats 4000000 in
theorem divides_law (a b c : Int) (ha : I64 a) (hb : I64 b) (hc : I64 c) (w : World) : Calls Try.prog 3 #[.int .i64 a, .int .i64 b, .int .i64 c] w fun e w' => e = .returned (.bool true) ∧ Below w.heap.size w w' := by
  have HL := Lib.hid (fun W => lives01 W)
  have H1 := Lib.hid (fun W => ndiv_all a b ha hb W)
  have H2 := Lib.hid (fun W => dDiv_all a b ha hb W)
  have H3 := Lib.hid (fun W => nmuldiv a b c ha hb hc W)
  have H4 := Lib.hid (fun W => dMulDiv_all a b c ha hb hc W)
  generalize (if c < 1 then 0 else fitV (mulDivV a b c)) = p1 at *
  generalize (decide (1 ≤ c) && fitB (mulDivV a b c)) = q1 at *
  have e1 : (p1 == p1) = true := by simp
  have e2 : (q1 == q1) = true := by simp
  go_enter Try.func3, Try.ntmps3
  go_wp2_with (go_at_call 9; (with_reducible refine (H1.out _).mono ?_); rintro e w1 ⟨⟨q, r, ok, rfl, hv1⟩, hb1⟩)
  have HV1 := Lib.hid hv1
  clear hv1
  go_wp2_with (go_at_call 10; (with_reducible refine (H2.out _).mono ?_); rintro e w2 ⟨⟨q', r', ok', rfl, hv2⟩, hb2⟩; obtain ⟨rfl, rfl, rfl⟩ := HV1.out.uniq hv2; clear hv2; have e3 : (q == q) = true := (by simp); have e4 : (r == r) = true := (by simp); have e5 : (ok == ok) = true := (by simp))
  go_wp2_with (go_at_call 11; (with_reducible refine (H3.out _).mono ?_); rintro e w3 ⟨rfl, hb3⟩)
  go_wp2_with (go_at_call 12; (with_reducible refine (H4.out _).mono ?_); rintro e w4 ⟨rfl, hb4⟩)
  go_wp2_with (go_at_call 13; (with_reducible refine (HL.out _).mono ?_); rintro e w7 ⟨rfl, hb7⟩)
  go_ret
  exact ⟨rfl, below_tr (below_tr (below_tr (below_tr hb1 hb2) hb3) hb4) hb7⟩
end Go.Proofs.Ytkebkmjffbnihaa
