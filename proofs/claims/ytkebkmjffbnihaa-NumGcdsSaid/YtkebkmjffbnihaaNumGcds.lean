/- NumGcds, walked. -/
import Derived.Test.YtkebkmjffbnihaaNumG
namespace Go.Proofs.Ytkebkmjffbnihaa
open Go.RowKit
theorem gcdV_comm (a b : Int) : gcdV a b = gcdV b a := Nat.gcd_comm _ _
theorem gcdV_le (a b : Int) : gcdV a b ≤ 9223372036854775807 := by
  unfold gcdV
  have h1 := capN_le a
  have h2 := capN_le b
  rcases Nat.eq_zero_or_pos (capN a) with h | h
  · rw [h, Nat.gcd_zero_left]; exact h2
  · exact Nat.le_trans (Nat.gcd_le_left _ h) h1
theorem capN_id {a : Int} (h : I64 a) (h2 : a ≠ -9223372036854775808) : capN a = a.natAbs := by
  unfold I64 at h
  unfold capN
  omega
theorem gcd_dvd {a b : Int} (ha : I64 a) (h2 : a ≠ -9223372036854775808) : a.tmod (gcdV a b : Int) = 0 := by
  have h : gcdV a b ∣ a.natAbs := by rw [← capN_id ha h2]; exact Nat.gcd_dvd_left _ _
  exact Int.tmod_eq_zero_of_dvd (Int.ofNat_dvd_left.2 h)
theorem gcd_seven (m : Nat) (h : m ≤ 65536) : gcdV (m : Int) ((m : Int) * 7) = m := by
  have e1 : capN (m : Int) = m := by unfold capN; omega
  have e2 : capN ((m : Int) * 7) = m * 7 := by unfold capN; omega
  unfold gcdV
  rw [e1, e2]
  exact Nat.gcd_eq_left (Nat.dvd_mul_right m 7)
theorem gcd_zero {a b : Int} (h : gcdV a b = 0) : a = 0 ∧ b = 0 := by
  unfold gcdV at h
  have h1 := Nat.eq_zero_of_gcd_eq_zero_left h
  have h2 := Nat.eq_zero_of_gcd_eq_zero_right h
  unfold capN at h1 h2
  omega
set_option maxRecDepth 100000 in
set_option maxHeartbeats 4000000 in
theorem gcds_law (a b k : Int) (ha : I64 a) (hb : I64 b) (hk : 0 ≤ k ∧ k ≤ 65535) (w : World) : Calls Try.prog 4 #[.int .i64 a, .int .i64 b, .int .u16 k] w fun e w' => e = .returned (.bool true) ∧ Below w.heap.size w w' := by
  have HL := Lib.hid (fun W => lives01 W)
  have HA := Lib.hid (fun W => ngcd a b ha hb W)
  have HB := Lib.hid (fun W => ngcd b a hb ha W)
  rw [gcdV_comm b a] at HB
  have HZ := Lib.hid (fun h => gcd_zero (a := a) (b := b) h)
  have hg := gcdV_le a b
  have HDA : Hid (a ≠ -9223372036854775808 → a.tmod (gcdV a b : Int) = 0) := fun h => gcd_dvd ha h
  have HDB : Hid (b ≠ -9223372036854775808 → b.tmod (gcdV a b : Int) = 0) := fun h => by rw [gcdV_comm]; exact gcd_dvd hb h
  have HC := Lib.hid (fun W => ngcd ((k.toNat + 1 : Nat) : Int) (((k.toNat + 1 : Nat) : Int) * 7) (by unfold I64; omega) (by unfold I64; omega) W)
  rw [gcd_seven (k.toNat + 1) (by omega)] at HC
  rw [show ((k.toNat + 1 : Nat) : Int) = k + 1 by omega] at HC
  generalize gcdV a b = g at *
  obtain ⟨hk1, hk2⟩ := hk
  have gg : ((g : Int) == (g : Int)) = true := by simp
  cases qa : (a == -9223372036854775808)
  · cases qb : (b == -9223372036854775808)
    · have na : a ≠ -9223372036854775808 := by intro h; rw [h] at qa; simp at qa
      have nb : b ≠ -9223372036854775808 := by intro h; rw [h] at qb; simp at qb
      have ta := HDA.out na
      have tb := HDB.out nb
      have HG := Lib.hid hg
      clear na nb ha hb HDA HDB hg
      by_cases g0 : g = 0
      · obtain ⟨rfl, rfl⟩ := HZ.out g0
        subst g0
        clear ta tb
        have tok : True := trivial
        go_enter Try.func4, Try.ntmps4
        go_wp2_with (first | (have _t := tok; (with_reducible refine (HA.out _).mono ?_); rintro e w1 ⟨rfl, hb1⟩; clear tok) | ((with_reducible refine (HA.out _).mono ?_); rintro e w2 ⟨rfl, hb2⟩) | ((with_reducible refine (HL.out _).mono ?_); rintro e w4 ⟨rfl, hb4⟩))
        go_ret
        exact ⟨rfl, below_tr (below_tr hb1 hb2) hb4⟩
      · have gz : ((g : Int) == 0) = false := by simp; omega
        go_enter Try.func4, Try.ntmps4
        go_wp2_with (first | ((with_reducible refine (HA.out _).mono ?_); rintro e w1 ⟨rfl, hb1⟩) | ((with_reducible refine (HB.out _).mono ?_); rintro e w2 ⟨rfl, hb2⟩) | ((with_reducible refine (HC.out _).mono ?_); rintro e w3 ⟨rfl, hb3⟩) | ((with_reducible refine (HL.out _).mono ?_); rintro e w4 ⟨rfl, hb4⟩))
        go_ret
        exact ⟨rfl, below_tr (below_tr (below_tr hb1 hb2) hb3) hb4⟩
    · clear ha hb HDA HDB hg
      go_enter Try.func4, Try.ntmps4
      go_wp2_with (first | ((with_reducible refine (HA.out _).mono ?_); rintro e w1 ⟨rfl, hb1⟩) | ((with_reducible refine (HB.out _).mono ?_); rintro e w2 ⟨rfl, hb2⟩) | ((with_reducible refine (HL.out _).mono ?_); rintro e w4 ⟨rfl, hb4⟩))
      go_ret
      exact ⟨rfl, below_tr (below_tr hb1 hb2) hb4⟩
  · clear ha hb HDA HDB hg
    go_enter Try.func4, Try.ntmps4
    go_wp2_with (first | ((with_reducible refine (HA.out _).mono ?_); rintro e w1 ⟨rfl, hb1⟩) | ((with_reducible refine (HB.out _).mono ?_); rintro e w2 ⟨rfl, hb2⟩) | ((with_reducible refine (HL.out _).mono ?_); rintro e w4 ⟨rfl, hb4⟩))
    go_ret
    exact ⟨rfl, below_tr (below_tr hb1 hb2) hb4⟩
end Go.Proofs.Ytkebkmjffbnihaa
