/- wherryref01: Gcd, Clamp. -/
import Derived.Test.YtkebkmjffbnihaaNumG
import Derived.Test.YtkebkmjffbnihaaNum
namespace Go.Proofs.Ytkebkmjffbnihaa
open Go.RowKit
theorem dClamp (x l m : Int) (w : World) : Calls Try.prog 26 #[.int .i64 x, .int .i64 l, .int .i64 m] w fun e w' => e = .returned (.int .i64 (clampV x l m)) ∧ w = w' := by
  have HV : Hid (clampV x l m = if (if m < x then m else x) < l then l else (if m < x then m else x)) := by
    show _ = _
    unfold clampV
    by_cases h1 : m < x <;> by_cases h2 : m < l <;> by_cases h3 : x < l <;> simp [h1, h2, h3] <;> omega
  generalize clampV x l m = r at *
  by_cases h1 : m < x
  · by_cases h2 : m < l
    · skip
      have hr : r = l := by rw [HV.out]; simp [h1, h2]
      subst hr
      clear HV
      go_enter Try.func26, Try.ntmps26
      go_wp2
      go_ret
      exact ⟨rfl, rfl⟩
    · skip
      have hr : r = m := by rw [HV.out]; simp [h1, h2]
      subst hr
      clear HV
      go_enter Try.func26, Try.ntmps26
      go_wp2
      go_ret
      exact ⟨rfl, rfl⟩
  · by_cases h2 : x < l
    · skip
      have hr : r = l := by rw [HV.out]; simp [h1, h2]
      subst hr
      clear HV
      go_enter Try.func26, Try.ntmps26
      go_wp2
      go_ret
      exact ⟨rfl, rfl⟩
    · skip
      have hr : r = x := by rw [HV.out]; simp [h1, h2]
      subst hr
      clear HV
      go_enter Try.func26, Try.ntmps26
      go_wp2
      go_ret
      exact ⟨rfl, rfl⟩
theorem cap_spec (a : Int) (_ha : I64 a) : (0 ≤ a → ((capN a : Nat) : Int) = a) ∧ (a < 0 → -9223372036854775807 ≤ a → ((capN a : Nat) : Int) = -a) ∧ (a = -9223372036854775808 → ((capN a : Nat) : Int) = 9223372036854775807) := by
  unfold I64 at _ha
  unfold capN
  omega
set_option maxRecDepth 100000 in
set_option maxHeartbeats 4000000 in
theorem dGcd (a b : Int) (ha : I64 a) (hb : I64 b) (w : World) : Calls Try.prog 27 #[.int .i64 a, .int .i64 b] w fun e w' => e = .returned (.int .i64 (gcdV a b)) ∧ Below w.heap.size w w' := by
  have HX := Lib.hid (cap_spec a ha)
  have HY := Lib.hid (cap_spec b hb)
  have HG : Hid (gcdV a b = Nat.gcd (capN a) (capN b)) := rfl
  have HBX := Lib.hid (capN_le a)
  have HBY := Lib.hid (capN_le b)
  generalize gcdV a b = g at *
  generalize capN a = x0 at *
  generalize capN b = y0 at *
  have hca : 0 ≤ a ∨ a = -9223372036854775808 ∨ (a < 0 ∧ -9223372036854775807 ≤ a) := by unfold I64 at ha; omega
  have hcb : 0 ≤ b ∨ b = -9223372036854775808 ∨ (b < 0 ∧ -9223372036854775807 ≤ b) := by unfold I64 at hb; omega
  unfold I64 at ha hb
  obtain ⟨a1, a2⟩ := ha
  obtain ⟨b1, b2⟩ := hb
  rcases hca with h1 | rfl | ⟨h1, h2⟩ <;> rcases hcb with h3 | rfl | ⟨h3, h4⟩
  all_goals
    first
    | have na : (a == -9223372036854775808) = false := by simp; omega
    | skip
    first
    | have nb : (b == -9223372036854775808) = false := by simp; omega
    | skip
    go_enter Try.func27, Try.ntmps27
    go_wp2
    go_loopw [0, 1] (fun s t wr => ∃ x y : Nat, s = .int .i64 x ∧ t = .int .i64 y ∧ Hid (Nat.gcd x y = g) ∧ Hid (x ≤ 9223372036854775807) ∧ Hid (y ≤ 9223372036854775807) ∧ Below w.heap.size w wr) (fun _ t _ => (intOf t).toNat)
    case atStart => exact ⟨x0, y0, congrArg (Value.int .i64) (by first | (have := HX.out; omega) | (have := HX.out.2.2 trivial; omega)), congrArg (Value.int .i64) (by first | (have := HY.out; omega) | (have := HY.out.2.2 trivial; omega)), HG.out.symm, HBX, HBY, Below.refl _ _⟩
    case round =>
      obtain ⟨x, y, rfl, rfl, HGG, HXX, HYY, hbw⟩ := hrel
      by_cases h : 0 < y
      · have hz : (0 : Int) < y := by omega
        have hy0 : ¬ ((y : Int) = 0) := by omega
        have HM : Hid ((x : Int) % (y : Int) = ((x % y : Nat) : Int)) := by show _ = _; rw [Int.natCast_emod]
        have HGN : Hid (Nat.gcd y (x % y) = g) := by show _ = _; rw [← HGG.out, Nat.gcd_comm x y, Nat.gcd_rec y x, Nat.gcd_comm]
        have HYN : Hid (x % y ≤ 9223372036854775807) := by show _ ≤ _; have h1 : x % y < y := Nat.mod_lt _ h; have := HYY.out; omega
        have HLT : Hid (x % y < y) := Nat.mod_lt _ h
        clear h
        go_wp2
        go_quiet (fail)
        go_wp2
        go_roundw
        case rel => exact ⟨y, x % y, rfl, congrArg (Value.int .i64) HM.out, HGN, HYY, HYN, below_dr hbw _⟩
        case measure => simp only [intOf]; rw [HM.out]; have := HLT.out; omega
      · obtain rfl : y = 0 := by omega
        have hgx : Hid (x = g) := by show _ = _; rw [← HGG.out]; simp
        go_wp2
        go_ret
        exact ⟨ret_int (by rw [hgx.out]), hbw⟩
end Go.Proofs.Ytkebkmjffbnihaa
