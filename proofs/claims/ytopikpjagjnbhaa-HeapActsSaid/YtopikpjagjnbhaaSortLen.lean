/- The sort: how many bits a length has, and the power of two above it. -/
import Derived.Test.YtopikpjagjnbhaaLen64
import Derived.Test.YtopikpjagjnbhaaBase
namespace Go.Proofs.Ytopikpjagjnbhaa
open Go.RowKit
theorem bitLen_fits : ∀ (k n : Nat), n < 2 ^ k → k ≤ 62 → (0 < n → 2 ^ Lib.bitLen n ≤ 2 * n) ∧ Lib.bitLen n ≤ k := by
  intro k
  induction k with
  | zero =>
    intro n h _
    have : n = 0 := by simpa using h
    subst this
    exact ⟨fun h => absurd h (by omega), Nat.le_of_eq rfl⟩
  | succ k ih =>
    intro n h hk
    by_cases h0 : n = 0
    · subst h0
      exact ⟨fun h => absurd h (by omega), Nat.zero_le _⟩
    · have h64 : (2 : Nat) ^ (k + 1) ≤ 2 ^ 63 := Nat.pow_le_pow_right (by decide) (by omega)
      have hb := Lib.bitLen_half n h0 (by omega)
      have hp : (2 : Nat) ^ (k + 1) = 2 * 2 ^ k := by rw [Nat.pow_succ, Nat.mul_comm]
      have h2 := ih (n / 2) (by omega) (by omega)
      rw [hb]
      refine ⟨fun _ => ?_, by omega⟩
      rw [Nat.add_comm, Nat.pow_succ, Nat.mul_comm]
      by_cases h1 : n / 2 = 0
      · rw [h1, show Lib.bitLen 0 = 0 from rfl]
        omega
      · have := h2.1 (by omega)
        omega
theorem bitLen_some (n : Nat) (h : n ≤ 4096) : (0 < n → 2 ^ Lib.bitLen n ≤ 2 * n) ∧ Lib.bitLen n ≤ 13 := bitLen_fits 13 n (by omega) (by omega)
theorem blen (x : Int) (w : World) (h0 : 0 ≤ x) (h1 : x ≤ 18446744073709551615) :
    Calls Try.prog 58 #[.int .u64 x] w fun e w' => e = .returned (.int .i64 (Lib.bitLen x.toNat)) ∧ w = w' := by
  go_enter Try.func58, Try.ntmps58
  go_wp2_with (go_at_call 73; refine (blen64 x _ h0 h1).mono ?_; rintro e w' ⟨rfl, rfl⟩)
  go_ret
  exact ⟨rfl, rfl⟩
theorem npower (n : Nat) (hn : n ≤ 4096) (w : World) :
    Calls Try.prog 80 #[.int .i64 n] w fun e w' => e = .returned (.int .u64 ((2 ^ Lib.bitLen n : Nat) : Int)) ∧ w = w' := by
  have hLen := Lib.hid (fun w => blen (n : Int) w (by omega) (by omega))
  have hk := (bitLen_some n hn).2
  obtain ⟨k, hkk⟩ : ∃ k, k = Lib.bitLen n := ⟨_, rfl⟩
  have e0 : Lib.bitLen (n : Int).toNat = k := by rw [hkk]; rfl
  rw [← hkk] at hk ⊢
  have e1 : IntKind.u64.wrap ((2 : Int) ^ k) = ((2 ^ k : Nat) : Int) := by
    have h : (2 : Nat) ^ k ≤ 2 ^ 13 := Nat.pow_le_pow_right (by decide) hk
    rw [IntKind.wrap_u64, show ((2 : Int) ^ k) = ((2 ^ k : Nat) : Int) by push_cast; rfl]
    generalize (2 : Nat) ^ k = p at h
    omega
  have e2 : (0 : Int) ≤ k := by omega
  have e3 : ((k : Nat) : Int).toNat = k := rfl
  clear hkk
  go_enter Try.func80, Try.ntmps80
  go_wp2_with (go_at_call 58; refine (hLen.out _).mono ?_; rintro e w' ⟨rfl, rfl⟩; rw [e0])
  go_ret
  exact ⟨rfl, rfl⟩
end Go.Proofs.Ytopikpjagjnbhaa
