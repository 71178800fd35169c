/- wherryref17: Stride, Enter, Ahead, Within; stride: Charge, Ahead, Within. -/
import Derived.Test.YtabdipfpfbdghaaStride
import Derived.Test.YtabdipfpfbdghaaDigAdd
import Derived.Test.YtabdipfpfbdghaaDigClamp
import Derived.Test.YtabdipfpfbdghaaDigNear
namespace Go.Proofs.Ytabdipfpfbdghaa
open Go.RowKit
theorem wright (t : Int) (w : World) : Calls Try.prog 36 #[.int .i64 t] w fun e w' => e = .returned (.bool (rightT t)) ∧ w = w' := by
  have HV : Hid (rightT t = (decide (1 ≤ t) && decide (t ≤ 65536))) := by show _ = _; unfold rightT; simp
  generalize rightT t = r at *
  by_cases h1 : 1 ≤ t
  · by_cases h2 : t ≤ 65536
    all_goals
      have hr : r = decide (t ≤ 65536) := by rw [HV.out]; simp [h1]
      have HR := Lib.hid hr
      clear HV hr
      go_enter Try.func36, Try.ntmps36
      go_wp2
      go_ret
      exact ⟨ret_bool (by rw [HR.out]; simp [h2]), rfl⟩
  · have hr : r = false := by rw [HV.out]; simp [h1]
    subst hr
    clear HV
    go_enter Try.func36, Try.ntmps36
    go_wp2
    go_ret
    exact ⟨rfl, rfl⟩
theorem scharge (p s : Int) (hp : I64 p) (hs : I64 s) (w : World) : Calls Try.prog 34 #[.int .i64 p, .int .i64 s] w fun e w' => e = .returned (.tuple #[.int .i64 (fitV (p + s)), .bool (fitB (p + s))]) ∧ w = w' := by
  have HA := Lib.hid (nadd p s hp hs w)
  generalize fitV (p + s) = a at *
  generalize fitB (p + s) = b at *
  clear hp hs
  go_enter Try.func34, Try.ntmps34
  go_wp2_with (go_at_call 56; (with_reducible refine HA.out.mono ?_); rintro e w1 ⟨rfl, rfl⟩)
  go_ret2
  exact ⟨rfl, rfl⟩
def aheadV (p i q j : Int) : Bool := decide (p < q) || (decide (p = q) && decide (i < j))
end Go.Proofs.Ytabdipfpfbdghaa
