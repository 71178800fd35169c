/- wherryref01: Cmp. -/
import Derived.Test.YtabdipfpfbdghaaDigTrim
namespace Go.Proofs.Ytabdipfpfbdghaa
open Go.RowKit
theorem natAbs_pos {z : Int} (h : 0 ≤ z) : (z.natAbs : Int) = z := by omega
theorem cmp_neg (x y : Int) (hx : x < 0) (hy : y < 0) : cmpV y.natAbs x.natAbs = cmpV x y := by
  unfold cmpV
  by_cases h1 : x < y
  · rw [if_pos h1, if_pos (by omega)]
  · rw [if_neg h1, if_neg (by omega)]
    by_cases h2 : y < x
    · rw [if_pos h2, if_pos (by omega)]
    · rw [if_neg h2, if_neg (by omega)]
set_option maxRecDepth 100000 in
set_option maxHeartbeats 2000000 in
theorem dCmp (v u : Value) (x y : Int) (N M : Nat) (w : World) (hv : Wd w v x N) (hu : Wd w u y M) :
    Calls Try.prog 61 #[v, u] w fun e w' => e = .returned (.int .i64 (cmpV x y)) ∧ Below w.heap.size w w' := by
  obtain ⟨A, n, c, a, rfl, hr, hd, ht, hva, _⟩ := hv
  obtain ⟨B, m, d, b, rfl, hr2, hd2, ht2, hvb, _⟩ := hu
  have HS1 := Lib.hid (fun W h1 h2 => dsize A n c a B m d b W h1 h2 hd hd2 ht ht2)
  have HS2 := Lib.hid (fun W h1 h2 => dsize B m d b A n c a W h1 h2 hd2 hd ht2 ht)
  rw [hva, hvb] at HS1 HS2
  obtain ⟨r, hrr⟩ : ∃ r, r = cmpV x y := ⟨_, rfl⟩
  rw [← hrr]
  by_cases hx : x < 0 <;> by_cases hy : y < 0
  · rw [cmp_neg x y hx hy, ← hrr] at HS2
    have sx : decide (x < 0) = true := by simp [hx]
    have sy : decide (y < 0) = true := by simp [hy]
    rw [sx, sy]
    clear hrr
    go_enter Try.func61, Try.ntmps61
    go_wp2_with (go_at_call 75; (with_reducible refine (HS2.out _ (hr2.below (below_al (below_al (Below.refl _ _) _) _)) (hr.below (below_al (below_al (Below.refl _ _) _) _))).mono ?_); rintro e w1 ⟨rfl, hb1⟩)
    go_ret
    exact ⟨rfl, below_tr (below_al (below_al (Below.refl _ _) _) _) hb1⟩
  · have hv : r = -1 := by rw [hrr]; unfold cmpV; rw [if_pos (by omega)]
    have sx : decide (x < 0) = true := by simp [hx]
    have sy : decide (y < 0) = false := by simp; omega
    rw [sx, sy, hv]
    clear hrr hv
    go_enter Try.func61, Try.ntmps61
    go_wp2
    go_ret
    exact ⟨rfl, below_al (below_al (Below.refl _ _) _) _⟩
  · have hv : r = 1 := by rw [hrr]; unfold cmpV; rw [if_neg (by omega), if_pos (by omega)]
    have sx : decide (x < 0) = false := by simp; omega
    have sy : decide (y < 0) = true := by simp [hy]
    rw [sx, sy, hv]
    clear hrr hv
    go_enter Try.func61, Try.ntmps61
    go_wp2
    go_ret
    exact ⟨rfl, below_al (below_al (Below.refl _ _) _) _⟩
  · rw [natAbs_pos (by omega), natAbs_pos (by omega), ← hrr] at HS1
    have sx : decide (x < 0) = false := by simp; omega
    have sy : decide (y < 0) = false := by simp; omega
    rw [sx, sy]
    clear hrr
    go_enter Try.func61, Try.ntmps61
    go_wp2_with (go_at_call 75; (with_reducible refine (HS1.out _ (hr.below (below_al (below_al (Below.refl _ _) _) _)) (hr2.below (below_al (below_al (Below.refl _ _) _) _))).mono ?_); rintro e w1 ⟨rfl, hb1⟩)
    go_ret
    exact ⟨rfl, below_tr (below_al (below_al (Below.refl _ _) _) _) hb1⟩
end Go.Proofs.Ytabdipfpfbdghaa
