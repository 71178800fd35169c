/- Package num: sums and differences, and a number between two others. -/
import Derived.Test.YtabdipfpfbdghaaRows
import Derived.Test.YtabdipfpfbdghaaBase
import Derived.Test.YtabdipfpfbdghaaNumPlain
namespace Go.Proofs.Ytabdipfpfbdghaa
open Go.RowKit
set_option maxHeartbeats 1000000 in
theorem nadd (a b : Int) (ha : I64 a) (hb : I64 b) (w : World) :
    Calls Try.prog 56 #[.int .i64 a, .int .i64 b] w fun e w' => e = .returned (.tuple #[.int .i64 (fitV (a + b)), .bool (fitB (a + b))]) ∧ w = w' := by
  have HT := Lib.hid (add_test ha hb)
  have HW := Lib.hid (fun h : I64 (a + b) => wrap64_id h)
  clear ha hb
  by_cases h1 : 0 ≤ a <;> by_cases h2 : 0 ≤ b <;> by_cases h3 : 0 ≤ wrap64 (a + b)
  all_goals
    go_enter Try.func56, Try.ntmps56
    go_wp2
    go_ret2
    first
    | (have hf := fit_yes (HT.out.2 (by omega))
       refine ⟨ret_ib ?_ hf.2.symm, rfl⟩
       rw [hf.1]
       exact HW.out (HT.out.2 (by omega)))
    | (have hf := fit_no (fun h => HT.out.1 h (by omega))
       exact ⟨ret_ib hf.1.symm hf.2.symm, rfl⟩)
set_option maxHeartbeats 400000 in
theorem nclamp (x l m : Int) (w : World) : Calls Try.prog 72 #[.int .i64 x, .int .i64 l, .int .i64 m] w fun e w' => e = .returned (.int .i64 (clampV x l m)) ∧ w = w' := by
  go_enter Try.func72, Try.ntmps72
  go_wp2
  all_goals
    go_ret
    exact ⟨ret_int (by unfold clampV; omega), rfl⟩
end Go.Proofs.Ytabdipfpfbdghaa
