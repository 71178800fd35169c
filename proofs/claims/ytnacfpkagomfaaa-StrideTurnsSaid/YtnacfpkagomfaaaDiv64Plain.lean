/- Division of two words by one, in half words: plain. -/
import Derived.WalkKit
namespace Go.Proofs.Ytnacfpkagomfaaa
/-- A trial digit: never too small. -/
structure Trial (u v d1 d0 q r : Nat) : Prop where
  eq : q * d1 + r = u
  lo : (u * 4294967296 + v) / (d1 * 4294967296 + d0) ≤ q
  hi : q ≤ 4294967297
theorem trial_first {u v d1 d0 : Nat} (hd1 : 2147483648 ≤ d1) (hd0 : d0 < 4294967296) (hu : u < d1 * 4294967296 + d0) (hv : v < 4294967296) : Trial u v d1 d0 (u / d1) (u % d1) := by
  have hp : 0 < d1 := by omega
  refine ⟨by rw [Nat.mul_comm]; exact Nat.div_add_mod u d1, ?_, ?_⟩
  · calc (u * 4294967296 + v) / (d1 * 4294967296 + d0) ≤ (u * 4294967296 + v) / (4294967296 * d1) := Nat.div_le_div_left (by omega) (by omega)
      _ = (u * 4294967296 + v) / 4294967296 / d1 := by rw [Nat.div_div_eq_div_mul]
      _ = u / d1 := by rw [show (u * 4294967296 + v) / 4294967296 = u by omega]
  · apply Nat.le_of_lt_succ
    rw [Nat.div_lt_iff_lt_mul hp]
    omega
theorem trial_done {u v d1 d0 q r : Nat} (hd1 : 0 < d1) (h : Trial u v d1 d0 q r) (hc : q * d0 ≤ 4294967296 * r + v) : q = (u * 4294967296 + v) / (d1 * 4294967296 + d0) := by
  apply Nat.le_antisymm _ h.lo
  rw [Nat.le_div_iff_mul_le (by omega)]
  have e : q * (d1 * 4294967296 + d0) = (q * d1) * 4294967296 + q * d0 := by rw [Nat.mul_add, Nat.mul_assoc]
  have := h.eq
  rw [e, ← this, Nat.add_mul]
  omega
theorem trial_less {u v d1 d0 q r : Nat} (_hd1 : 0 < d1) (hu : u < d1 * 4294967296 + d0) (hv : v < 4294967296) (h : Trial u v d1 d0 q r) (hc : 4294967296 ≤ q ∨ 4294967296 * r + v < q * d0) : 0 < q ∧ Trial u v d1 d0 (q - 1) (r + d1) := by
  have hlt : (u * 4294967296 + v) / (d1 * 4294967296 + d0) < q := by
    rw [Nat.div_lt_iff_lt_mul (by omega)]
    have e : q * (d1 * 4294967296 + d0) = (q * d1) * 4294967296 + q * d0 := by rw [Nat.mul_add, Nat.mul_assoc]
    have h1 := h.eq
    rcases hc with hc | hc
    · have h2 : 4294967296 * (d1 * 4294967296 + d0) ≤ q * (d1 * 4294967296 + d0) := Nat.mul_le_mul_right _ hc
      omega
    · rw [e, ← h1, Nat.add_mul]
      omega
  have hq0 : 0 < q := Nat.lt_of_le_of_lt (Nat.zero_le _) hlt
  obtain ⟨p, rfl⟩ : ∃ p, q = p + 1 := ⟨q - 1, by omega⟩
  refine ⟨by omega, ?_, Nat.le_of_lt_succ hlt, by have := h.hi; omega⟩
  have := h.eq
  simp only [Nat.add_sub_cancel]
  rw [Nat.add_mul] at this
  omega
theorem trial_break {u v d1 d0 q r : Nat} (hd1 : 0 < d1) (hd0 : d0 < 4294967296) (h : Trial u v d1 d0 q r) (hq : q ≤ 4294967296) (hr : 4294967296 ≤ r) : q = (u * 4294967296 + v) / (d1 * 4294967296 + d0) := by
  refine trial_done hd1 h ?_
  have h1 : q * d0 ≤ 4294967296 * 4294967296 := Nat.mul_le_mul hq (by omega)
  have h2 : 4294967296 * 4294967296 ≤ 4294967296 * r := Nat.mul_le_mul_left _ hr
  omega
theorem dig_aux {B U a x1 r1 b x0 r0 : Nat} (h1 : U + a = x1 + r1) (h0 : r1 * B + b = x0 + r0) : U * B + (a * B + b) = x1 * B + x0 + r0 := by
  have h := congrArg (· * B) h1
  simp only [Nat.add_mul] at h
  omega
set_option maxRecDepth 100000 in
/-- The whole from two digits. -/
theorem two_digits {N y s u a b q1 q0 r1 r0 : Nat} (hy : 0 < y) (hN : N * 2 ^ s = u * 18446744073709551616 + (a * 4294967296 + b)) (h1 : u * 4294967296 + a = q1 * (y * 2 ^ s) + r1) (h0 : r1 * 4294967296 + b = q0 * (y * 2 ^ s) + r0) (hr : r0 < y * 2 ^ s) :
    N / y = q1 * 4294967296 + q0 ∧ N % y = r0 / 2 ^ s := by
  have hp : 0 < 2 ^ s := Nat.two_pow_pos s
  have e1 : N * 2 ^ s = (q1 * 4294967296 + q0) * (y * 2 ^ s) + r0 := by
    have e3 : (q1 * 4294967296 + q0) * (y * 2 ^ s) = q1 * (y * 2 ^ s) * 4294967296 + q0 * (y * 2 ^ s) := by rw [Nat.add_mul, Nat.mul_right_comm]
    have e4 : u * 18446744073709551616 = u * 4294967296 * 4294967296 := by rw [Nat.mul_assoc]
    rw [hN, e3, e4]
    exact dig_aux h1 h0
  have hd : 2 ^ s ∣ r0 := by
    have h2 : 2 ^ s ∣ N * 2 ^ s := Nat.dvd_mul_left _ _
    rw [e1, ← Nat.mul_assoc] at h2
    exact (Nat.dvd_add_right (Nat.dvd_mul_left _ _)).1 h2
  obtain ⟨r, rfl⟩ := hd
  have e2 : N = (q1 * 4294967296 + q0) * y + r := by
    apply Nat.eq_of_mul_eq_mul_right hp
    rw [e1, Nat.add_mul _ r (2 ^ s), Nat.mul_assoc, Nat.mul_comm (2 ^ s) r]
  have hry : r < y := by
    rw [Nat.mul_comm y] at hr
    exact Nat.lt_of_mul_lt_mul_left hr
  rw [Nat.mul_div_cancel_left _ hp, e2]
  refine ⟨?_, ?_⟩
  · rw [Nat.mul_comm, Nat.mul_add_div hy, Nat.div_eq_of_lt hry, Nat.add_zero]
  · rw [Nat.mul_comm, Nat.mul_add_mod, Nat.mod_eq_of_lt hry]
end Go.Proofs.Ytnacfpkagomfaaa
