/- The law StrideEnters: whatever pass, now and tickets: true. -/
import Derived.Test.YtnacfpkagomfaaaStride
namespace Go.Proofs.Ytnacfpkagomfaaa
open Go.RowKit
theorem strideV_bd (t : Int) (h0 : 0 ≤ t) (h1 : t ≤ 65535) : 0 < strideV (1 + t) ∧ strideV (1 + t) ≤ 1099511627776 := by
  unfold strideV rightT
  rw [if_pos (by simp; omega)]
  constructor
  · have : 1 ≤ 1099511627776 / (1 + t) := by
      rw [Int.le_ediv_iff_mul_le (by omega)]
      omega
    omega
  · exact Int.ediv_le_self _ (by omega)
theorem enterV_in {p n s : Int} (h : I64 (n + s)) : enterV p n s = max (min p (n + s)) n := by
  unfold enterV satAdd clampV
  rw [if_pos h]
set_option maxRecDepth 100000 in
set_option maxHeartbeats 2000000 in
theorem entersLaw (p n t : Int) (hn : I64 n) (h0 : 0 ≤ t) (h1 : t ≤ 65535) (w : World) :
    Calls Try.prog 3 #[.int .i64 p, .int .i64 n, .int .u16 t] w fun e w' => e = .returned (.bool true) ∧ Below w.heap.size w w' := by
  obtain ⟨hs0, hs1⟩ := strideV_bd t h0 h1
  have HS := Lib.hid (fun W => sstride (1 + t) W)
  generalize strideV (1 + t) = s at hs0 hs1 HS
  have hs : I64 s := by unfold I64; omega
  by_cases hbig : 4611686018427387904 < n
  · clear hn
    go_enter Try.func3, Try.ntmps3
    go_wp2_with (first | (go_at_call 8; refine (HS.out _).mono ?_; rintro e w1 ⟨rfl, hb1⟩) | (go_at_call 9; refine (lives17 _).mono ?_; rintro e w2 ⟨rfl, hb2⟩))
    go_ret
    exact ⟨rfl, below_tr hb1 hb2⟩
  · have hf : I64 (n + s) := by unfold I64 at *; omega
    have hw : wrap64 (n + s) = n + s := wrap64_id hf
    have HE := Lib.hid (fun x W => (senter x n s hn hs W))
    have HV := Lib.hid (fun x => enterV_in (p := x) hf)
    have hq : ∃ q, n ≤ q ∧ q ≤ n + s ∧ enterV p n s = q ∧ enterV q n s = q ∧ ((n ≤ p ∧ p ≤ n + s ∧ q = p) ∨ (p < n ∧ q = n) ∨ (n + s < p ∧ q = n + s)) := by
      refine ⟨enterV p n s, ?_, ?_, rfl, ?_, ?_⟩
      all_goals
        rw [HV.out]
        try rw [HV.out]
        omega
    obtain ⟨q, hq1, hq2, hq3, hq4, hq5⟩ := hq
    have HQ3 := Lib.hid (show ∀ W, _ from fun W => HE.out p W)
    have HQ4 := Lib.hid (show ∀ W, _ from fun W => HE.out q W)
    rw [hq3] at HQ3
    rw [hq4] at HQ4
    have hw2 : wrap64 (q - n) = q - n := wrap64_id (by unfold I64; omega)
    clear hq3 hq4 HV HE hf hn hs
    rcases hq5 with ⟨k1, k2, rfl⟩ | ⟨k1, k2⟩ | ⟨k1, k2⟩
    · skip
      go_enter Try.func3, Try.ntmps3
      go_wp2_with fail
      refine (HS.out _).mono ?_; rintro e w1 ⟨rfl, hb1⟩
      go_wp2_with fail
      refine (HQ3.out _).mono ?_; rintro e w2 ⟨rfl, rfl⟩
      go_wp2_with fail
      refine (HQ4.out _).mono ?_; rintro e w2 ⟨rfl, rfl⟩
      go_wp2_with (go_at_call 9; refine (lives17 _).mono ?_; rintro e w2 ⟨rfl, hb2⟩)
      go_ret
      exact ⟨rfl, below_tr hb1 hb2⟩
    · subst k2
      have hne : (q == p) = false := by simp; omega
      go_enter Try.func3, Try.ntmps3
      go_wp2_with fail
      refine (HS.out _).mono ?_; rintro e w1 ⟨rfl, hb1⟩
      go_wp2_with fail
      refine (HQ3.out _).mono ?_; rintro e w2 ⟨rfl, rfl⟩
      go_wp2_with fail
      refine (HQ4.out _).mono ?_; rintro e w2 ⟨rfl, rfl⟩
      go_wp2_with (go_at_call 9; refine (lives17 _).mono ?_; rintro e w2 ⟨rfl, hb2⟩)
      go_ret
      exact ⟨rfl, below_tr hb1 hb2⟩
    · subst k2
      have hne : (n + s == p) = false := by simp; omega
      have hlt : ¬ p < n := by omega
      have hge : n ≤ n + s := by omega
      go_enter Try.func3, Try.ntmps3
      go_wp2_with fail
      refine (HS.out _).mono ?_; rintro e w1 ⟨rfl, hb1⟩
      go_wp2_with fail
      refine (HQ3.out _).mono ?_; rintro e w2 ⟨rfl, rfl⟩
      go_wp2_with fail
      refine (HQ4.out _).mono ?_; rintro e w2 ⟨rfl, rfl⟩
      go_wp2_with (go_at_call 9; refine (lives17 _).mono ?_; rintro e w2 ⟨rfl, hb2⟩)
      go_ret
      exact ⟨rfl, below_tr hb1 hb2⟩
end Go.Proofs.Ytnacfpkagomfaaa
