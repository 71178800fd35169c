/- Sums of ints that may be too great: plain numbers, no program. -/
import Derived.WalkKit
import Derived.IntWalk
namespace Go.Proofs.Ytopikpjagjnbhaa
open Go.RowKit
/-- n is an int. -/
def I64 (n : Int) : Prop := -9223372036854775808 ≤ n ∧ n < 9223372036854775808
instance (n : Int) : Decidable (I64 n) := by unfold I64; infer_instance
theorem i64_of_wf {n : Int} (h : (Lit.int .i64 n).wf = true) : I64 n := by
  have hmin : IntKind.i64.min = -9223372036854775808 := rfl
  have hmax : IntKind.i64.max = 9223372036854775807 := rfl
  simp only [Lit.wf, Bool.and_eq_true, decide_eq_true_eq] at h
  unfold I64
  omega
/-- n, or 0 where it is no int. -/
def fitV (n : Int) : Int := if I64 n then n else 0
def fitB (n : Int) : Bool := decide (I64 n)
theorem fit_yes {n : Int} (h : I64 n) : fitV n = n ∧ fitB n = true := by simp [fitV, fitB, h]
theorem fit_no {n : Int} (h : ¬ I64 n) : fitV n = 0 ∧ fitB n = false := by simp [fitV, fitB, h]
theorem wrap64_id {n : Int} (h : I64 n) : wrap64 n = n := by unfold I64 at h; unfold wrap64; omega
theorem wrap64_i64 (n : Int) : I64 (wrap64 n) := by unfold I64 wrap64; omega
/-- The law of Go's own test of a sum. -/
theorem add_test {a b : Int} (ha : I64 a) (hb : I64 b) : I64 (a + b) ↔ ¬ ((0 ≤ a ↔ 0 ≤ b) ∧ ¬ (0 ≤ wrap64 (a + b) ↔ 0 ≤ a)) := by
  unfold I64 at *
  unfold wrap64
  omega
theorem sub_test {a b : Int} (ha : I64 a) (hb : I64 b) : I64 (a - b) ↔ ¬ (¬ (0 ≤ a ↔ 0 ≤ b) ∧ ¬ (0 ≤ wrap64 (a - b) ↔ 0 ≤ a)) := by
  unfold I64 at *
  unfold wrap64
  omega
/-- Clamp: x, between two others. -/
def clampV (x least most : Int) : Int := max (min x most) least
theorem ret_ib {a b : Int} {x y : Bool} (h : a = b) (h' : x = y) : Ending.returned (.tuple #[.int .i64 a, .bool x]) = .returned (.tuple #[.int .i64 b, .bool y]) := by rw [h, h']
end Go.Proofs.Ytopikpjagjnbhaa
