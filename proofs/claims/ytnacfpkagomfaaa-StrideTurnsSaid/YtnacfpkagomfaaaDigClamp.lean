/- wherryref01: Clamp. -/
import Derived.Test.YtnacfpkagomfaaaNum
namespace Go.Proofs.Ytnacfpkagomfaaa
open Go.RowKit
theorem dClamp (x l m : Int) (w : World) : Calls Try.prog 40 #[.int .i64 x, .int .i64 l, .int .i64 m] w fun e w' => e = .returned (.int .i64 (clampV x l m)) ∧ w = w' := by
  have HV : Hid (clampV x l m = if (if m < x then m else x) < l then l else (if m < x then m else x)) := by
    show _ = _
    unfold clampV
    by_cases h1 : m < x <;> by_cases h2 : m < l <;> by_cases h3 : x < l <;> simp [h1, h2, h3] <;> omega
  generalize clampV x l m = r at *
  by_cases h1 : m < x
  · by_cases h2 : m < l
    · skip
      have hr : r = l := by rw [HV.out]; simp [h1, h2]
      subst hr
      clear HV
      go_enter Try.func40, Try.ntmps40
      go_wp2
      go_ret
      exact ⟨rfl, rfl⟩
    · skip
      have hr : r = m := by rw [HV.out]; simp [h1, h2]
      subst hr
      clear HV
      go_enter Try.func40, Try.ntmps40
      go_wp2
      go_ret
      exact ⟨rfl, rfl⟩
  · by_cases h2 : x < l
    · skip
      have hr : r = l := by rw [HV.out]; simp [h1, h2]
      subst hr
      clear HV
      go_enter Try.func40, Try.ntmps40
      go_wp2
      go_ret
      exact ⟨rfl, rfl⟩
    · skip
      have hr : r = x := by rw [HV.out]; simp [h1, h2]
      subst hr
      clear HV
      go_enter Try.func40, Try.ntmps40
      go_wp2
      go_ret
      exact ⟨rfl, rfl⟩
end Go.Proofs.Ytnacfpkagomfaaa
