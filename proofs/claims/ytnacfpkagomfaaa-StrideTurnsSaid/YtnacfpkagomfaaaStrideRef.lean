/- wherryref17: Stride, Enter, Ahead, Within; stride: Charge, Ahead, Within. -/
import Derived.Test.YtnacfpkagomfaaaStride
import Derived.Test.YtnacfpkagomfaaaDigAdd
import Derived.Test.YtnacfpkagomfaaaDigClamp
import Derived.Test.YtnacfpkagomfaaaDigNear
namespace Go.Proofs.Ytnacfpkagomfaaa
open Go.RowKit
theorem wright (t : Int) (w : World) : Calls Try.prog 39 #[.int .i64 t] w fun e w' => e = .returned (.bool (rightT t)) ∧ w = w' := by
  have HV : Hid (rightT t = (decide (1 ≤ t) && decide (t ≤ 65536))) := by show _ = _; unfold rightT; simp
  generalize rightT t = r at *
  by_cases h1 : 1 ≤ t
  · by_cases h2 : t ≤ 65536
    all_goals
      have hr : r = decide (t ≤ 65536) := by rw [HV.out]; simp [h1]
      have HR := Lib.hid hr
      clear HV hr
      go_enter Try.func39, Try.ntmps39
      go_wp2
      go_ret
      exact ⟨ret_bool (by rw [HR.out]; simp [h2]), rfl⟩
  · have hr : r = false := by rw [HV.out]; simp [h1]
    subst hr
    clear HV
    go_enter Try.func39, Try.ntmps39
    go_wp2
    go_ret
    exact ⟨rfl, rfl⟩
theorem wstride (t : Int) (w : World) : Calls Try.prog 17 #[.int .i64 t] w fun e w' => e = .returned (.int .i64 (strideV t)) ∧ w = w' := by
  have HR := Lib.hid (wright t w)
  cases h : rightT t with
  | true =>
    rw [h] at HR
    have hv : strideV t = 1099511627776 / t := by unfold strideV; rw [if_pos h]
    rw [hv]
    have h1 : 1 ≤ t ∧ t ≤ 65536 := by unfold rightT at h; simpa using h
    obtain ⟨h2, h3⟩ := h1
    clear hv h
    go_enter Try.func17, Try.ntmps17
    go_wp2_with (go_at_call 39; (with_reducible refine HR.out.mono ?_); rintro e w1 ⟨rfl, rfl⟩)
    go_ret
    exact ⟨rfl, rfl⟩
  | false =>
    rw [h] at HR
    have hv : strideV t = 0 := by unfold strideV; rw [if_neg (by rw [h]; simp)]
    rw [hv]
    clear hv h
    go_enter Try.func17, Try.ntmps17
    go_wp2_with (go_at_call 39; (with_reducible refine HR.out.mono ?_); rintro e w1 ⟨rfl, rfl⟩)
    go_ret
    exact ⟨rfl, rfl⟩
set_option maxRecDepth 100000 in
set_option maxHeartbeats 400000 in
theorem wenter (p n s : Int) (hn : I64 n) (hs : I64 s) (w : World) : Calls Try.prog 18 #[.int .i64 p, .int .i64 n, .int .i64 s] w fun e w' => e = .returned (.int .i64 (enterV p n s)) ∧ Below w.heap.size w w' := by
  have HA := Lib.hid (dAdd n s w hn hs)
  have HV : Hid (enterV p n s = clampV p n (if I64 (n + s) then n + s else if s < 0 then -9223372036854775808 else 9223372036854775807)) := rfl
  generalize enterV p n s = r at *
  clear hn hs
  by_cases h : I64 (n + s)
  · rw [(fit_yes h).1, (fit_yes h).2] at HA
    have hr := HV.out
    rw [if_pos h] at hr
    have HC := Lib.hid (fun W => dClamp p n (n + s) W)
    rw [← hr] at HC
    generalize n + s = m at *
    clear hr HV h
    go_enter Try.func18, Try.ntmps18
    go_wp2_with (first | (go_at_call 16; (with_reducible refine HA.out.mono ?_); rintro e w1 ⟨rfl, hb1⟩) | (go_at_call 40; (with_reducible refine (HC.out _).mono ?_); rintro e w1 ⟨rfl, rfl⟩))
    go_ret
    exact ⟨rfl, hb1⟩
  · rw [(fit_no h).1, (fit_no h).2] at HA
    have hr := HV.out
    rw [if_neg h] at hr
    clear h HV
    by_cases h2 : s < 0
    all_goals
      first
      | (rw [if_pos h2] at hr)
      | (rw [if_neg h2] at hr)
      first
      | have HC := Lib.hid (fun W => dClamp p n (-9223372036854775808) W)
        rw [← hr] at HC
      | have HC := Lib.hid (fun W => dClamp p n 9223372036854775807 W)
        rw [← hr] at HC
      clear hr
      go_enter Try.func18, Try.ntmps18
      go_wp2_with (first | (go_at_call 16; (with_reducible refine HA.out.mono ?_); rintro e w1 ⟨rfl, hb1⟩) | (go_at_call 40; (with_reducible refine (HC.out _).mono ?_); rintro e w1 ⟨rfl, rfl⟩))
      go_ret
      exact ⟨rfl, hb1⟩
theorem scharge (p s : Int) (hp : I64 p) (hs : I64 s) (w : World) : Calls Try.prog 15 #[.int .i64 p, .int .i64 s] w fun e w' => e = .returned (.tuple #[.int .i64 (fitV (p + s)), .bool (fitB (p + s))]) ∧ w = w' := by
  have HA := Lib.hid (nadd p s hp hs w)
  generalize fitV (p + s) = a at *
  generalize fitB (p + s) = b at *
  clear hp hs
  go_enter Try.func15, Try.ntmps15
  go_wp2_with (go_at_call 24; (with_reducible refine HA.out.mono ?_); rintro e w1 ⟨rfl, rfl⟩)
  go_ret2
  exact ⟨rfl, rfl⟩
def aheadV (p i q j : Int) : Bool := decide (p < q) || (decide (p = q) && decide (i < j))
theorem sahead (p i q j : Int) (w : World) : Calls Try.prog 19 #[.int .i64 p, .int .i64 i, .int .i64 q, .int .i64 j] w fun e w' => e = .returned (.bool (aheadV p i q j)) ∧ w = w' := by
  by_cases h : p = q
  · subst h
    have hv : aheadV p i p j = decide (i < j) := by unfold aheadV; simp
    rw [hv]
    have hn : (p != p) = false := by simp
    clear hv
    go_enter Try.func19, Try.ntmps19
    go_wp2
    go_ret
    exact ⟨rfl, rfl⟩
  · have hv : aheadV p i q j = decide (p < q) := by unfold aheadV; simp [h]
    rw [hv]
    have hn : (p != q) = true := by simp [h]
    clear hv h
    go_enter Try.func19, Try.ntmps19
    go_wp2
    go_ret
    exact ⟨rfl, rfl⟩
theorem wahead (p i q j : Int) (w : World) : Calls Try.prog 20 #[.int .i64 p, .int .i64 i, .int .i64 q, .int .i64 j] w fun e w' => e = .returned (.bool (aheadV p i q j)) ∧ w = w' := by
  by_cases h1 : p < q
  · have hv : aheadV p i q j = true := by unfold aheadV; simp [h1]
    rw [hv]
    clear hv
    go_enter Try.func20, Try.ntmps20
    go_wp2
    go_ret
    exact ⟨rfl, rfl⟩
  · by_cases h : p = q
    · subst h
      have hv : aheadV p i p j = decide (i < j) := by unfold aheadV; simp
      rw [hv]
      have hn : (p == p) = true := by simp
      clear hv
      go_enter Try.func20, Try.ntmps20
      go_wp2
      go_ret
      exact ⟨rfl, rfl⟩
    · have hv : aheadV p i q j = false := by unfold aheadV; simp [h, h1]
      rw [hv]
      have hn : (p == q) = false := by simp [h]
      clear hv h
      go_enter Try.func20, Try.ntmps20
      go_wp2
      go_ret
      exact ⟨rfl, rfl⟩
end Go.Proofs.Ytnacfpkagomfaaa
