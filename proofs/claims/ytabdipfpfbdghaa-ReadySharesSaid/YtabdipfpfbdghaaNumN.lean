/- Package num: differences of wide ones, Near. -/
import Derived.Test.YtabdipfpfbdghaaNumC
import Derived.Test.YtabdipfpfbdghaaChg
import Derived.Laws.Externs
import Derived.Shelf.Spec.BitsCarry
namespace Go.Proofs.Ytabdipfpfbdghaa
open Go.RowKit
theorem wide_nat (n : Nat) : wideV (n : Int) = .agg #[.bool false, .int .u64 ((n / 18446744073709551616 : Nat) : Int), .int .u64 ((n % 18446744073709551616 : Nat) : Int)] := by
  have h : ¬ (n : Int) < 0 := by omega
  simp [wideV, hiN, loN, h]
/-- A sum in words. -/
theorem sum_words {h l h' l' : Nat} (hh : h ≤ 4611686018427387904) (hh' : h' ≤ 4611686018427387904) (hl : l < 18446744073709551616) (hl' : l' < 18446744073709551616) :
    (h + h' + (l + l' + 0) / 18446744073709551616) % 18446744073709551616 = (h * 18446744073709551616 + l + (h' * 18446744073709551616 + l')) / 18446744073709551616 ∧ (h + h' + (l + l' + 0) / 18446744073709551616) / 18446744073709551616 = 0 ∧
    (l + l' + 0) % 18446744073709551616 = (h * 18446744073709551616 + l + (h' * 18446744073709551616 + l')) % 18446744073709551616 := by omega
/-- A difference in words. -/
theorem diff_words {h l h' l' : Nat} (hh : h ≤ 4611686018427387904) (hl : l < 18446744073709551616) (hl' : l' < 18446744073709551616) (hle : h' * 18446744073709551616 + l' ≤ h * 18446744073709551616 + l) :
    (h + 18446744073709551616 - h' - (if l < l' + 0 then 1 else 0)) % 18446744073709551616 = (h * 18446744073709551616 + l - (h' * 18446744073709551616 + l')) / 18446744073709551616 ∧
    (l + 18446744073709551616 - l' - 0) % 18446744073709551616 = (h * 18446744073709551616 + l - (h' * 18446744073709551616 + l')) % 18446744073709551616 := by
  split <;> omega
theorem abs_diff_sum {p q : Int} (h : decide (p < 0) ≠ decide (q < 0)) : (p - q).natAbs = p.natAbs + q.natAbs := by
  by_cases h1 : p < 0 <;> by_cases h2 : q < 0 <;> simp [h1, h2] at h <;> omega
theorem abs_diff_sub {p q : Int} (h : decide (p < 0) = decide (q < 0)) (hle : q.natAbs ≤ p.natAbs) : (p - q).natAbs = p.natAbs - q.natAbs := by
  by_cases h1 : p < 0 <;> by_cases h2 : q < 0 <;> simp [h1, h2] at h <;> omega
theorem abs_diff_comm (p q : Int) : (p - q).natAbs = (q - p).natAbs := by omega
/-- A wide one in a block of its own. -/
structure BoxW (w : World) (b : Nat) (n : Bool) (h l : Nat) : Prop where
  c0 : Box w b 0 (.bool n)
  c1 : Box w b 1 (.int .u64 h)
  c2 : Box w b 2 (.int .u64 l)
theorem BoxW.below {w w1 : World} {b : Nat} {n : Bool} {h l : Nat} (k : BoxW w b n h l) (hb : Below w.heap.size w w1) : BoxW w1 b n h l := ⟨k.c0.below hb, k.c1.below hb, k.c2.below hb⟩
theorem BoxW.new (w : World) (n : Bool) (h l : Nat) (e : TypeId) : BoxW (w.alloc (.cells #[.bool n, .int .u64 h, .int .u64 l] e)) w.heap.size n h l := by
  constructor <;> constructor <;> go_simp
end Go.Proofs.Ytabdipfpfbdghaa
