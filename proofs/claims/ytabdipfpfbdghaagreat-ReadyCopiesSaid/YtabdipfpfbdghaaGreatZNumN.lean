/- Package num: differences of wide ones, Near. -/
import Derived.Test.YtabdipfpfbdghaaGreatZDigPlain
import Derived.Test.YtabdipfpfbdghaaGreatZChg
import Derived.Laws.Externs
import Derived.Shelf.Spec.BitsCarry
import Derived.Test.YtabdipfpfbdghaaGreatZDigSum
import Derived.Test.YtabdipfpfbdghaaGreatZNumPlain
namespace Go.Proofs.YtabdipfpfbdghaaGreat
open Go.RowKit
theorem wide_nat (n : Nat) : wideV (n : Int) = .agg #[.bool false, .int .u64 ((n / 18446744073709551616 : Nat) : Int), .int .u64 ((n % 18446744073709551616 : Nat) : Int)] := by
  have h : ¬ (n : Int) < 0 := by omega
  simp [wideV, hiN, loN, h]
/-- A sum in words. -/
theorem sum_words {h l h' l' : Nat} (hh : h ≤ 4611686018427387904) (hh' : h' ≤ 4611686018427387904) (hl : l < 18446744073709551616) (hl' : l' < 18446744073709551616) :
    (h + h' + (l + l' + 0) / 18446744073709551616) % 18446744073709551616 = (h * 18446744073709551616 + l + (h' * 18446744073709551616 + l')) / 18446744073709551616 ∧ (h + h' + (l + l' + 0) / 18446744073709551616) / 18446744073709551616 = 0 ∧
    (l + l' + 0) % 18446744073709551616 = (h * 18446744073709551616 + l + (h' * 18446744073709551616 + l')) % 18446744073709551616 := by omega
/-- A difference in words. -/
theorem diff_words {h l h' l' : Nat} (hh : h ≤ 4611686018427387904) (hl : l < 18446744073709551616) (hl' : l' < 18446744073709551616) (hle : h' * 18446744073709551616 + l' ≤ h * 18446744073709551616 + l) :
    (h + 18446744073709551616 - h' - (if l < l' + 0 then 1 else 0)) % 18446744073709551616 = (h * 18446744073709551616 + l - (h' * 18446744073709551616 + l')) / 18446744073709551616 ∧
    (l + 18446744073709551616 - l' - 0) % 18446744073709551616 = (h * 18446744073709551616 + l - (h' * 18446744073709551616 + l')) % 18446744073709551616 := by
  split <;> omega
theorem abs_diff_sum {p q : Int} (h : decide (p < 0) ≠ decide (q < 0)) : (p - q).natAbs = p.natAbs + q.natAbs := by
  by_cases h1 : p < 0 <;> by_cases h2 : q < 0 <;> simp [h1, h2] at h <;> omega
theorem abs_diff_sub {p q : Int} (h : decide (p < 0) = decide (q < 0)) (hle : q.natAbs ≤ p.natAbs) : (p - q).natAbs = p.natAbs - q.natAbs := by
  by_cases h1 : p < 0 <;> by_cases h2 : q < 0 <;> simp [h1, h2] at h <;> omega
theorem abs_diff_comm (p q : Int) : (p - q).natAbs = (q - p).natAbs := by omega
/-- A wide one in a block of its own. -/
structure BoxW (w : World) (b : Nat) (n : Bool) (h l : Nat) : Prop where
  c0 : Box w b 0 (.bool n)
  c1 : Box w b 1 (.int .u64 h)
  c2 : Box w b 2 (.int .u64 l)
theorem BoxW.below {w w1 : World} {b : Nat} {n : Bool} {h l : Nat} (k : BoxW w b n h l) (hb : Below w.heap.size w w1) : BoxW w1 b n h l := ⟨k.c0.below hb, k.c1.below hb, k.c2.below hb⟩
theorem BoxW.new (w : World) (n : Bool) (h l : Nat) (e : TypeId) : BoxW (w.alloc (.cells #[.bool n, .int .u64 h, .int .u64 l] e)) w.heap.size n h l := by
  constructor <;> constructor <;> go_simp
end Go.Proofs.YtabdipfpfbdghaaGreat

/- Package num: Near. -/
namespace Go.Proofs.YtabdipfpfbdghaaGreat
open Go.RowKit
def nearV (p q m : Int) : Bool := decide (((p - q).natAbs : Int) ≤ m)
theorem near_parts (p q m : Int) : nearV p q m = (!decide (m < 0) && decide (sizeCmp ((p - q).natAbs : Int) m ≤ 0)) := by
  unfold nearV sizeCmp
  by_cases h : m < 0
  · have h2 : ¬ ((p - q).natAbs : Int) ≤ m := by omega
    simp [h, h2]
  · simp only [h, decide_false, Bool.not_false, Bool.true_and]
    rw [Bool.eq_iff_iff]
    simp only [decide_eq_true_eq]
    split <;> (try split) <;> omega
end Go.Proofs.YtabdipfpfbdghaaGreat

/- wherryref01: Near. -/
namespace Go.Proofs.YtabdipfpfbdghaaGreat
open Go.RowKit
theorem cmp_leq (a b : Int) : decide (cmpV a b ≤ 0) = decide (a ≤ b) := by
  unfold cmpV
  by_cases h : a < b
  · rw [if_pos h]; simp; omega
  · rw [if_neg h]
    by_cases h2 : b < a
    · rw [if_pos h2]; simp; omega
    · rw [if_neg h2]; simp; omega
end Go.Proofs.YtabdipfpfbdghaaGreat

/- wherryref17: Stride, Enter, Ahead, Within; stride: Charge, Ahead, Within. -/
namespace Go.Proofs.YtabdipfpfbdghaaGreat
open Go.RowKit
theorem wright (t : Int) (w : World) : Calls Tryz.prog 82 #[.int .i64 t] w fun e w' => e = .returned (.bool (rightT t)) ∧ w = w' := by
  have HV : Hid (rightT t = (decide (1 ≤ t) && decide (t ≤ 65536))) := by show _ = _; unfold rightT; simp
  generalize rightT t = r at *
  by_cases h1 : 1 ≤ t
  · by_cases h2 : t ≤ 65536
    all_goals
      have hr : r = decide (t ≤ 65536) := by rw [HV.out]; simp [h1]
      have HR := Lib.hid hr
      clear HV hr
      go_enter Tryz.func82, Tryz.ntmps82
      go_wp2
      go_ret
      exact ⟨ret_bool (by rw [HR.out]; simp [h2]), rfl⟩
  · have hr : r = false := by rw [HV.out]; simp [h1]
    subst hr
    clear HV
    go_enter Tryz.func82, Tryz.ntmps82
    go_wp2
    go_ret
    exact ⟨rfl, rfl⟩
theorem wstride (t : Int) (w : World) : Calls Tryz.prog 60 #[.int .i64 t] w fun e w' => e = .returned (.int .i64 (strideV t)) ∧ w = w' := by
  have HR := Lib.hid (wright t w)
  cases h : rightT t with
  | true =>
    rw [h] at HR
    have hv : strideV t = 1099511627776 / t := by unfold strideV; rw [if_pos h]
    rw [hv]
    have h1 : 1 ≤ t ∧ t ≤ 65536 := by unfold rightT at h; simpa using h
    obtain ⟨h2, h3⟩ := h1
    clear hv h
    go_enter Tryz.func60, Tryz.ntmps60
    go_wp2_with (go_at_call 82; (with_reducible refine HR.out.mono ?_); rintro e w1 ⟨rfl, rfl⟩)
    go_ret
    exact ⟨rfl, rfl⟩
  | false =>
    rw [h] at HR
    have hv : strideV t = 0 := by unfold strideV; rw [if_neg (by rw [h]; simp)]
    rw [hv]
    clear hv h
    go_enter Tryz.func60, Tryz.ntmps60
    go_wp2_with (go_at_call 82; (with_reducible refine HR.out.mono ?_); rintro e w1 ⟨rfl, rfl⟩)
    go_ret
    exact ⟨rfl, rfl⟩
set_option maxRecDepth 100000 in
set_option maxHeartbeats 400000 in
theorem wenter (p n s : Int) (hn : I64 n) (hs : I64 s) (w : World) : Calls Tryz.prog 83 #[.int .i64 p, .int .i64 n, .int .i64 s] w fun e w' => e = .returned (.int .i64 (enterV p n s)) ∧ Below w.heap.size w w' := by
  have HA := Lib.hid (dAdd n s w hn hs)
  have HV : Hid (enterV p n s = clampV p n (if I64 (n + s) then n + s else if s < 0 then -9223372036854775808 else 9223372036854775807)) := rfl
  generalize enterV p n s = r at *
  clear hn hs
  by_cases h : I64 (n + s)
  · rw [(fit_yes h).1, (fit_yes h).2] at HA
    have hr := HV.out
    rw [if_pos h] at hr
    have HC := Lib.hid (fun W => dClamp p n (n + s) W)
    rw [← hr] at HC
    generalize n + s = m at *
    clear hr HV h
    go_enter Tryz.func83, Tryz.ntmps83
    go_wp2_with (first | (go_at_call 100; (with_reducible refine HA.out.mono ?_); rintro e w1 ⟨rfl, hb1⟩) | (go_at_call 101; (with_reducible refine (HC.out _).mono ?_); rintro e w1 ⟨rfl, rfl⟩))
    go_ret
    exact ⟨rfl, hb1⟩
  · rw [(fit_no h).1, (fit_no h).2] at HA
    have hr := HV.out
    rw [if_neg h] at hr
    clear h HV
    by_cases h2 : s < 0
    all_goals
      first
      | (rw [if_pos h2] at hr)
      | (rw [if_neg h2] at hr)
      first
      | have HC := Lib.hid (fun W => dClamp p n (-9223372036854775808) W)
        rw [← hr] at HC
      | have HC := Lib.hid (fun W => dClamp p n 9223372036854775807 W)
        rw [← hr] at HC
      clear hr
      go_enter Tryz.func83, Tryz.ntmps83
      go_wp2_with (first | (go_at_call 100; (with_reducible refine HA.out.mono ?_); rintro e w1 ⟨rfl, hb1⟩) | (go_at_call 101; (with_reducible refine (HC.out _).mono ?_); rintro e w1 ⟨rfl, rfl⟩))
      go_ret
      exact ⟨rfl, hb1⟩
theorem scharge (p s : Int) (hp : I64 p) (hs : I64 s) (w : World) : Calls Tryz.prog 56 #[.int .i64 p, .int .i64 s] w fun e w' => e = .returned (.tuple #[.int .i64 (fitV (p + s)), .bool (fitB (p + s))]) ∧ w = w' := by
  have HA := Lib.hid (nadd p s hp hs w)
  generalize fitV (p + s) = a at *
  generalize fitB (p + s) = b at *
  clear hp hs
  go_enter Tryz.func56, Tryz.ntmps56
  go_wp2_with (go_at_call 78; (with_reducible refine HA.out.mono ?_); rintro e w1 ⟨rfl, rfl⟩)
  go_ret2
  exact ⟨rfl, rfl⟩
def aheadV (p i q j : Int) : Bool := decide (p < q) || (decide (p = q) && decide (i < j))
theorem wahead (p i q j : Int) (w : World) : Calls Tryz.prog 67 #[.int .i64 p, .int .i64 i, .int .i64 q, .int .i64 j] w fun e w' => e = .returned (.bool (aheadV p i q j)) ∧ w = w' := by
  by_cases h1 : p < q
  · have hv : aheadV p i q j = true := by unfold aheadV; simp [h1]
    rw [hv]
    clear hv
    go_enter Tryz.func67, Tryz.ntmps67
    go_wp2
    go_ret
    exact ⟨rfl, rfl⟩
  · by_cases h : p = q
    · subst h
      have hv : aheadV p i p j = decide (i < j) := by unfold aheadV; simp
      rw [hv]
      have hn : (p == p) = true := by simp
      clear hv
      go_enter Tryz.func67, Tryz.ntmps67
      go_wp2
      go_ret
      exact ⟨rfl, rfl⟩
    · have hv : aheadV p i q j = false := by unfold aheadV; simp [h, h1]
      rw [hv]
      have hn : (p == q) = false := by simp [h]
      clear hv h
      go_enter Tryz.func67, Tryz.ntmps67
      go_wp2
      go_ret
      exact ⟨rfl, rfl⟩
end Go.Proofs.YtabdipfpfbdghaaGreat
