/- NumBack, walked. -/
import Derived.Test.YtkebkmjffbnihaaNumG
namespace Go.Proofs.Ytkebkmjffbnihaa
open Go.RowKit
theorem wrap_back {a b q r : Int} (ha : I64 a) (h : DivR a b q r) : wrap64 (wrap64 (q * b) + r) = a := by
  have := h.eq
  generalize q * b = m at *
  unfold I64 at ha
  unfold wrap64
  omega
set_option maxRecDepth 100000 in
set_option maxHeartbeats 4000000 in
theorem back_law (a b : Int) (ha : I64 a) (hb : I64 b) (w : World) : Calls Try.prog 5 #[.int .i64 a, .int .i64 b] w fun e w' => e = .returned (.bool true) ∧ Below w.heap.size w w' := by
  have HL := Lib.hid (fun W => lives01 W)
  have HA := Lib.hid (fun W => nadd a b ha hb W)
  have aa : (a == a) = true := by simp
  cases hd : divB a b with
  | false =>
    have HD := Lib.hid (fun W => ndiv_no a b hd W)
    have hc : b = 0 ∨ (a = -9223372036854775808 ∧ b = -1) := by
      unfold divB at hd
      by_cases hb : b = 0
      · exact .inl hb
      · simp [hb] at hd
        exact .inr hd
    by_cases hs : I64 (a + b)
    · have HS := Lib.hid (fun W => nsub (a + b) b hs hb W)
      rw [show a + b - b = a by omega, (fit_yes ha).1, (fit_yes ha).2] at HS
      rw [(fit_yes hs).1, (fit_yes hs).2] at HA
      generalize a + b = s at *
      have HC := Lib.hid hc
      clear hd hs ha hb hc
      rcases HC.out with rfl | ⟨rfl, rfl⟩
      all_goals
        go_enter Try.func5, Try.ntmps5
        go_wp2_with (first | ((with_reducible refine (HA.out _).mono ?_); rintro e w1 ⟨rfl, rfl⟩) | ((with_reducible refine (HS.out _).mono ?_); rintro e w1 ⟨rfl, rfl⟩) | ((with_reducible refine (HD.out _).mono ?_); rintro e w1 ⟨rfl, rfl⟩) | ((with_reducible refine (HL.out _).mono ?_); rintro e w4 ⟨rfl, hb4⟩))
        go_ret
        exact ⟨rfl, hb4⟩
    · rw [(fit_no hs).1, (fit_no hs).2] at HA
      have HC := Lib.hid hc
      clear hd hs ha hb hc
      rcases HC.out with rfl | ⟨rfl, rfl⟩
      all_goals
        go_enter Try.func5, Try.ntmps5
        go_wp2_with (first | ((with_reducible refine (HA.out _).mono ?_); rintro e w1 ⟨rfl, rfl⟩) | ((with_reducible refine (HD.out _).mono ?_); rintro e w1 ⟨rfl, rfl⟩) | ((with_reducible refine (HL.out _).mono ?_); rintro e w4 ⟨rfl, hb4⟩))
        go_ret
        exact ⟨rfl, hb4⟩
  | true =>
    have HD := Lib.hid (fun W => ndiv a b ha hb hd W)
    have HI := Lib.hid ha
    have hb0 : b ≠ 0 := by unfold divB at hd; simp at hd; exact hd.1
    by_cases hs : I64 (a + b)
    · have HS := Lib.hid (fun W => nsub (a + b) b hs hb W)
      rw [show a + b - b = a by omega, (fit_yes ha).1, (fit_yes ha).2] at HS
      rw [(fit_yes hs).1, (fit_yes hs).2] at HA
      generalize a + b = s at *
      clear hd hs ha hb
      by_cases hp : 0 < b
      · go_enter Try.func5, Try.ntmps5
        go_wp2_with (first | ((with_reducible refine (HA.out _).mono ?_); rintro e w1 ⟨rfl, rfl⟩) | ((with_reducible refine (HS.out _).mono ?_); rintro e w1 ⟨rfl, rfl⟩) | ((with_reducible refine (HD.out _).mono ?_); rintro e w1 ⟨⟨q, r, rfl, hd⟩, n1, rfl⟩; have hE := wrap_back HI.out hd; obtain ⟨hr1, hr2⟩ := hd.pos hp; clear hd) | ((with_reducible refine (HL.out _).mono ?_); rintro e w4 ⟨rfl, hb4⟩))
        go_ret
        exact ⟨rfl, below_tr (below_dr (Below.refl _ _) n1) hb4⟩
      · have hn : b < 0 := by omega
        go_enter Try.func5, Try.ntmps5
        go_wp2_with (first | ((with_reducible refine (HA.out _).mono ?_); rintro e w1 ⟨rfl, rfl⟩) | ((with_reducible refine (HS.out _).mono ?_); rintro e w1 ⟨rfl, rfl⟩) | ((with_reducible refine (HD.out _).mono ?_); rintro e w1 ⟨⟨q, r, rfl, hd⟩, n1, rfl⟩; have hE := wrap_back HI.out hd; obtain ⟨hr1, hr2⟩ := hd.neg hn; clear hd) | ((with_reducible refine (HL.out _).mono ?_); rintro e w4 ⟨rfl, hb4⟩))
        go_ret
        exact ⟨rfl, below_tr (below_dr (Below.refl _ _) n1) hb4⟩
    · rw [(fit_no hs).1, (fit_no hs).2] at HA
      clear hd hs ha hb
      by_cases hp : 0 < b
      · go_enter Try.func5, Try.ntmps5
        go_wp2_with (first | ((with_reducible refine (HA.out _).mono ?_); rintro e w1 ⟨rfl, rfl⟩) | ((with_reducible refine (HD.out _).mono ?_); rintro e w1 ⟨⟨q, r, rfl, hd⟩, n1, rfl⟩; have hE := wrap_back HI.out hd; obtain ⟨hr1, hr2⟩ := hd.pos hp; clear hd) | ((with_reducible refine (HL.out _).mono ?_); rintro e w4 ⟨rfl, hb4⟩))
        go_ret
        exact ⟨rfl, below_tr (below_dr (Below.refl _ _) n1) hb4⟩
      · have hn : b < 0 := by omega
        go_enter Try.func5, Try.ntmps5
        go_wp2_with (first | ((with_reducible refine (HA.out _).mono ?_); rintro e w1 ⟨rfl, rfl⟩) | ((with_reducible refine (HD.out _).mono ?_); rintro e w1 ⟨⟨q, r, rfl, hd⟩, n1, rfl⟩; have hE := wrap_back HI.out hd; obtain ⟨hr1, hr2⟩ := hd.neg hn; clear hd) | ((with_reducible refine (HL.out _).mono ?_); rintro e w4 ⟨rfl, hb4⟩))
        go_ret
        exact ⟨rfl, below_tr (below_dr (Below.refl _ _) n1) hb4⟩
end Go.Proofs.Ytkebkmjffbnihaa
