/- Package num: Near. -/
import Derived.Test.YtabdipfpfbdghaaNumN
namespace Go.Proofs.Ytabdipfpfbdghaa
open Go.RowKit
def nearV (p q m : Int) : Bool := decide (((p - q).natAbs : Int) ≤ m)
theorem near_parts (p q m : Int) : nearV p q m = (!decide (m < 0) && decide (sizeCmp ((p - q).natAbs : Int) m ≤ 0)) := by
  unfold nearV sizeCmp
  by_cases h : m < 0
  · have h2 : ¬ ((p - q).natAbs : Int) ≤ m := by omega
    simp [h, h2]
  · simp only [h, decide_false, Bool.not_false, Bool.true_and]
    rw [Bool.eq_iff_iff]
    simp only [decide_eq_true_eq]
    split <;> (try split) <;> omega
end Go.Proofs.Ytabdipfpfbdghaa
