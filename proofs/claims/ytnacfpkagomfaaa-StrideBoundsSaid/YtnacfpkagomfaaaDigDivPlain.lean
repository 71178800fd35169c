/- Whole parts and rests: plain. -/
import Derived.Test.YtnacfpkagomfaaaDivR
namespace Go.Proofs.Ytnacfpkagomfaaa
theorem DivR.uniq {a b q r q' r' : Int} (hb : b ≠ 0) (h : DivR a b q r) (h' : DivR a b q' r') : q = q' ∧ r = r' := by
  have e := h.eq
  have e' := h'.eq
  have hq : q = q' := by
    rcases Int.lt_trichotomy q q' with hl | hl | hl
    · exfalso
      rcases Int.lt_or_gt_of_ne hb with hn | hp
      · have := h.neg hn
        have := h'.neg hn
        have h1 := Int.mul_le_mul_of_nonpos_right (show q + 1 ≤ q' by omega) (show b ≤ 0 by omega)
        rw [Int.add_mul, Int.one_mul] at h1
        omega
      · have := h.pos hp
        have := h'.pos hp
        have h1 := Int.mul_le_mul_of_nonneg_right (show q + 1 ≤ q' by omega) (show 0 ≤ b by omega)
        rw [Int.add_mul, Int.one_mul] at h1
        omega
    · exact hl
    · exfalso
      rcases Int.lt_or_gt_of_ne hb with hn | hp
      · have := h.neg hn
        have := h'.neg hn
        have h1 := Int.mul_le_mul_of_nonpos_right (show q' + 1 ≤ q by omega) (show b ≤ 0 by omega)
        rw [Int.add_mul, Int.one_mul] at h1
        omega
      · have := h.pos hp
        have := h'.pos hp
        have h1 := Int.mul_le_mul_of_nonneg_right (show q' + 1 ≤ q by omega) (show 0 ≤ b by omega)
        rw [Int.add_mul, Int.one_mul] at h1
        omega
  subst hq
  exact ⟨rfl, by omega⟩
/-- A quotient of ints is one, but for the least one by -1. -/
theorem DivR.fits {a b q r : Int} (ha : I64 a) (hb : I64 b) (hd : divB a b = true) (h : DivR a b q r) : I64 q ∧ I64 r := by
  have hb0 : b ≠ 0 := by unfold divB at hd; simp at hd; exact hd.1
  have hno : ¬ (a = -9223372036854775808 ∧ b = -1) := by
    rintro ⟨rfl, rfl⟩
    exact absurd hd (by decide)
  have e := h.eq
  unfold I64 at *
  rcases Int.lt_or_gt_of_ne hb0 with hn | hp
  · have hr := h.neg hn
    refine ⟨⟨?_, ?_⟩, by omega, by omega⟩
    · rcases Int.lt_or_le q (-9223372036854775808) with h1 | h1
      · exfalso
        have h2 := Int.mul_le_mul_of_nonpos_right (show q ≤ -9223372036854775809 by omega) (show b ≤ 0 by omega)
        omega
      · exact h1
    · rcases Int.lt_or_le q 9223372036854775808 with h1 | h1
      · exact h1
      · exfalso
        have h2 := Int.mul_le_mul_of_nonpos_right h1 (show b ≤ 0 by omega)
        by_cases hb1 : b = -1
        · omega
        · omega
  · have hr := h.pos hp
    refine ⟨⟨?_, ?_⟩, by omega, by omega⟩
    · rcases Int.lt_or_le q (-9223372036854775808) with h1 | h1
      · exfalso
        have h2 := Int.mul_le_mul_of_nonneg_right (show q ≤ -9223372036854775809 by omega) (show 0 ≤ b by omega)
        omega
      · exact h1
    · rcases Int.lt_or_le q 9223372036854775808 with h1 | h1
      · exact h1
      · exfalso
        have h2 := Int.mul_le_mul_of_nonneg_right h1 (show 0 ≤ b by omega)
        omega
/-- The least one by -1. -/
theorem DivR.big {q r : Int} (h : DivR (-9223372036854775808) (-1) q r) : ¬ I64 q := by
  have e := h.eq
  have := h.neg (by omega)
  unfold I64
  omega
theorem DivR.floor {p c q r : Int} (hc : 0 < c) (h : DivR p c q r) : p / c = q := by
  have e := h.eq
  have h1 := h.pos hc
  rw [e, Int.add_comm, Int.add_mul_ediv_right _ _ (by omega), Int.ediv_eq_zero_of_lt h1.1 h1.2]
  omega
end Go.Proofs.Ytnacfpkagomfaaa
