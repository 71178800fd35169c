/- Whole numbers in two words with a sign: plain. -/
import Derived.Test.YtabdipfpfbdghaaNumPlain
namespace Go.Proofs.Ytabdipfpfbdghaa
open Go.RowKit
theorem sub_law {a b : Int} (ha : I64 a) (hb : I64 b) : I64 (a - b) ↔ ¬ (¬ (0 ≤ a ↔ 0 ≤ b) ∧ ¬ (0 ≤ wrap64 (a - b) ↔ 0 ≤ a)) := sub_test ha hb
def hiN (p : Int) : Nat := p.natAbs / 18446744073709551616
def loN (p : Int) : Nat := p.natAbs % 18446744073709551616
/-- A number as a wide one. -/
def wideV (p : Int) : Value := .agg #[.bool (decide (p < 0)), .int .u64 (hiN p), .int .u64 (loN p)]
def cmpV (p q : Int) : Int := if p < q then -1 else if q < p then 1 else 0
theorem abs_lt {a : Int} (h : I64 a) : a.natAbs ≤ 9223372036854775808 := by unfold I64 at h; omega
theorem mul_abs_le {a b : Int} (ha : I64 a) (hb : I64 b) : (a * b).natAbs ≤ 85070591730234615865843651857942052864 := by
  rw [Int.natAbs_mul]
  exact Nat.le_trans (Nat.mul_le_mul (abs_lt ha) (abs_lt hb)) (by decide)
theorem hi_lt {p : Int} (h : p.natAbs ≤ 85070591730234615865843651857942052864) : hiN p ≤ 4611686018427387904 := by unfold hiN; omega
theorem lo_lt (p : Int) : loN p < 18446744073709551616 := by unfold loN; omega
theorem abs_hl (p : Int) : p.natAbs = hiN p * 18446744073709551616 + loN p := by unfold hiN loN; omega
/-- The sign of a product. -/
theorem neg_mul (a b : Int) : decide (a * b < 0) = (decide (a * b ≠ 0) && (decide (a < 0) != decide (b < 0))) := by
  rcases Int.lt_trichotomy a 0 with h | h | h <;> rcases Int.lt_trichotomy b 0 with h' | h' | h'
  · have := Int.mul_pos_of_neg_of_neg h h'
    have h1 : ¬ a * b < 0 := by omega
    simp [h, h', h1]
  · simp [h']
  · have := Int.mul_neg_of_neg_of_pos h h'
    have h2 : ¬ b < 0 := by omega
    have h3 : a * b ≠ 0 := by omega
    simp [h, h2, h3, this]
  · simp [h]
  · simp [h]
  · simp [h]
  · have := Int.mul_neg_of_pos_of_neg h h'
    have h2 : ¬ a < 0 := by omega
    have h3 : a * b ≠ 0 := by omega
    simp [h', h2, h3, this]
  · simp [h']
  · have := Int.mul_pos h h'
    have h2 : ¬ a < 0 := by omega
    have h3 : ¬ b < 0 := by omega
    have h1 : ¬ a * b < 0 := by omega
    simp [h2, h3, h1]
/-- How sizes stand, high words first. -/
def sizeCmp (p q : Int) : Int := if p.natAbs < q.natAbs then -1 else if q.natAbs < p.natAbs then 1 else 0
def cmpN (a b : Nat) : Int := if a < b then -1 else if b < a then 1 else 0
theorem sizeCmp_words (p q : Int) : sizeCmp p q = if cmpN (hiN p) (hiN q) = 0 then cmpN (loN p) (loN q) else cmpN (hiN p) (hiN q) := by
  unfold sizeCmp cmpN
  have h1 := abs_hl p
  have h2 := abs_hl q
  have h3 := lo_lt p
  have h4 := lo_lt q
  rcases Nat.lt_trichotomy (hiN p) (hiN q) with h | h | h <;> rcases Nat.lt_trichotomy (loN p) (loN q) with h' | h' | h' <;> (repeat' split) <;> first | rfl | (exfalso; omega) | omega
/-- How numbers stand, of signs and sizes. -/
theorem cmpV_parts (p q : Int) : cmpV p q = if decide (p < 0) = decide (q < 0) then (if p < 0 then - sizeCmp p q else sizeCmp p q) else (if p < 0 then -1 else 1) := by
  unfold cmpV sizeCmp
  by_cases h1 : p < 0 <;> by_cases h2 : q < 0 <;> simp [h1, h2] <;> (repeat' split) <;> first | rfl | (exfalso; omega) | omega
end Go.Proofs.Ytabdipfpfbdghaa
