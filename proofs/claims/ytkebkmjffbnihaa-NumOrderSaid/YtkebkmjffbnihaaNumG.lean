/- Package num: Gcd; wherrylaw01.lives. -/
import Derived.Test.YtkebkmjffbnihaaNumM
import Derived.Test.YtkebkmjffbnihaaNumE
namespace Go.Proofs.Ytkebkmjffbnihaa
open Go.RowKit
def capN (a : Int) : Nat := min a.natAbs 9223372036854775807
def gcdV (a b : Int) : Nat := Nat.gcd (capN a) (capN b)
theorem capN_le (a : Int) : capN a ≤ 9223372036854775807 := Nat.min_le_right _ _
theorem minU (x : Nat) : min (x : Int) 9223372036854775807 = ((min x 9223372036854775807 : Nat) : Int) := by omega
set_option maxRecDepth 100000 in
set_option maxHeartbeats 1000000 in
theorem ngcd (a b : Int) (ha : I64 a) (hb : I64 b) (w : World) : Calls Try.prog 14 #[.int .i64 a, .int .i64 b] w fun e w' => e = .returned (.int .i64 (gcdV a b)) ∧ Below w.heap.size w w' := by
  have HA := Lib.hid (fun W => nsize a ha W)
  have HB := Lib.hid (fun W => nsize b hb W)
  have HG : Hid (gcdV a b = Nat.gcd (min a.natAbs 9223372036854775807) (min b.natAbs 9223372036854775807)) := rfl
  generalize gcdV a b = g at HG ⊢
  have m1 := minU a.natAbs
  have m2 := minU b.natAbs
  have HX : Hid (min a.natAbs 9223372036854775807 ≤ 9223372036854775807) := Nat.min_le_right _ _
  have HY : Hid (min b.natAbs 9223372036854775807 ≤ 9223372036854775807) := Nat.min_le_right _ _
  generalize a.natAbs = p at *
  generalize b.natAbs = q at *
  generalize min p 9223372036854775807 = x0 at *
  generalize min q 9223372036854775807 = y0 at *
  clear ha hb
  go_enter Try.func14, Try.ntmps14
  go_wp2_with (first | ((with_reducible refine (HA.out _).mono ?_); rintro e w1 ⟨rfl, rfl⟩) | ((with_reducible refine (HB.out _).mono ?_); rintro e w1 ⟨rfl, rfl⟩))
  go_loopw [5, 6] (fun s t wr => ∃ x y : Nat, s = .int .u64 x ∧ t = .int .u64 y ∧ Hid (Nat.gcd x y = g) ∧ Hid (x ≤ 9223372036854775807) ∧ Hid (y ≤ 9223372036854775807) ∧ Below w.heap.size w wr) (fun _ t _ => (intOf t).toNat)
  case atStart => exact ⟨x0, y0, rfl, rfl, HG.out.symm, HX, HY, Below.refl _ _⟩
  case round =>
    obtain ⟨x, y, rfl, rfl, HGG, HXX, HYY, hbw⟩ := hrel
    clear m1 m2
    by_cases h : 0 < y
    · have hz : (0 : Int) < y := by omega
      have hy0 : ¬ ((y : Int) = 0) := by omega
      have hw : IntKind.u64.wrap ((x : Int) % (y : Int)) = ((x % y : Nat) : Int) := by
        have h1 : x % y < y := Nat.mod_lt _ h
        exact Mul64.wrapN (x % y) (Nat.lt_trans h1 (by have := HYY.out; omega))
      have HGN : Hid (Nat.gcd y (x % y) = g) := by show _ = _; rw [← HGG.out, Nat.gcd_comm x y, Nat.gcd_rec y x, Nat.gcd_comm]
      have HYN : Hid (x % y ≤ 9223372036854775807) := by show _ ≤ _; have h1 : x % y < y := Nat.mod_lt _ h; have := HYY.out; omega
      have HLT : Hid (x % y < y) := Nat.mod_lt _ h
      clear h
      go_wp2
      go_quiet (fail)
      go_wp2
      go_roundw
      case rel => exact ⟨y, x % y, rfl, rfl, HGN, HYY, HYN, below_dr hbw _⟩
      case measure => simp [intOf]; have := HLT.out; omega
    · obtain rfl : y = 0 := by omega
      have hgx : Hid (x = g) := by show _ = _; rw [← HGG.out]; simp
      have hw : wrap64 (x : Int) = (x : Int) := by have := HXX.out; unfold wrap64; omega
      go_wp2
      go_ret
      exact ⟨ret_int (by rw [hw, hgx.out]), hbw⟩
set_option maxRecDepth 100000 in
set_option maxHeartbeats 1000000 in
theorem lives01 (w : World) : Calls Try.prog 13 #[] w fun e w' => e = .returned (.bool true) ∧ Below w.heap.size w w' := by
  have H1 := Lib.hid (fun W => ndiv (-7) 2 (by decide) (by decide) (by decide) W)
  have H2 := Lib.hid (fun W => nmuldiv 4611686018427387904 6 2 (by decide) (by decide) (by decide) W)
  rw [show (if (2 : Int) < 1 then 0 else fitV (mulDivV 4611686018427387904 6 2)) = 0 by decide, show (decide ((1 : Int) ≤ 2) && fitB (mulDivV 4611686018427387904 6 2)) = false by decide] at H2
  have H3 := Lib.hid (fun W => ncross 1 3 2 6 (by decide) (by decide) (by decide) (by decide) W)
  rw [show cmpV (1 * 6) (2 * 3) = 0 by decide] at H3
  go_enter Try.func13, Try.ntmps13
  go_wp2_with (first | ((with_reducible refine (H1.out _).mono ?_); rintro e w1 ⟨⟨q, r, rfl, hd⟩, n1, rfl⟩; obtain rfl : q = -4 := (by have e1 := hd.eq; have e2 := hd.pos (by decide); omega); obtain rfl : r = 1 := (by have e1 := hd.eq; omega); clear hd) | ((with_reducible refine (H2.out _).mono ?_); rintro e w2 ⟨rfl, hb2⟩) | ((with_reducible refine (H3.out _).mono ?_); rintro e w3 ⟨rfl, hb3⟩))
  go_ret
  exact ⟨rfl, below_tr (below_tr (below_dr (Below.refl _ _) n1) hb2) hb3⟩
end Go.Proofs.Ytkebkmjffbnihaa
