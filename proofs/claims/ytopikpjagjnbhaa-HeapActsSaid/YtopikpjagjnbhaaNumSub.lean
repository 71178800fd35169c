/- Package num: differences. -/
import Derived.Test.YtopikpjagjnbhaaRows
import Derived.Test.YtopikpjagjnbhaaBase
import Derived.Test.YtopikpjagjnbhaaNumPlain
namespace Go.Proofs.Ytopikpjagjnbhaa
open Go.RowKit
set_option maxHeartbeats 1000000 in
theorem nsub (a b : Int) (ha : I64 a) (hb : I64 b) (w : World) :
    Calls Try.prog 41 #[.int .i64 a, .int .i64 b] w fun e w' => e = .returned (.tuple #[.int .i64 (fitV (a - b)), .bool (fitB (a - b))]) ∧ w = w' := by
  have HT := Lib.hid (sub_test ha hb)
  have HW := Lib.hid (fun h : I64 (a - b) => wrap64_id h)
  clear ha hb
  by_cases h1 : 0 ≤ a <;> by_cases h2 : 0 ≤ b <;> by_cases h3 : 0 ≤ wrap64 (a - b)
  all_goals
    go_enter Try.func41, Try.ntmps41
    go_wp2
    go_ret2
    first
    | (have hf := fit_yes (HT.out.2 (by omega))
       refine ⟨ret_ib ?_ hf.2.symm, rfl⟩
       rw [hf.1]
       exact HW.out (HT.out.2 (by omega)))
    | (have hf := fit_no (fun h => HT.out.1 h (by omega))
       exact ⟨ret_ib hf.1.symm hf.2.symm, rfl⟩)
end Go.Proofs.Ytopikpjagjnbhaa
