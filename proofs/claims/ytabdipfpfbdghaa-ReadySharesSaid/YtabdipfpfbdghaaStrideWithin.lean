/- Within, of both. -/
import Derived.Test.YtabdipfpfbdghaaStrideRef
namespace Go.Proofs.Ytabdipfpfbdghaa
open Go.RowKit
def withinV (n1 t1 n2 t2 k : Int) : Bool := if k < 0 ∨ 64 < k then false else if rightT t1 && rightT t2 then nearV (n1 * t2) (n2 * t1) ((k + 1) * (t1 + t2)) else false
theorem right_i64 {t : Int} (h : rightT t = true) : 1 ≤ t ∧ t ≤ 65536 := by simpa [rightT] using h
set_option maxRecDepth 100000 in
set_option maxHeartbeats 2000000 in
theorem wwithin (n1 t1 n2 t2 k : Int) (h1 : I64 n1) (h2 : I64 t1) (h3 : I64 n2) (h4 : I64 t2) (w : World) :
    Calls Try.prog 14 #[.int .i64 n1, .int .i64 t1, .int .i64 n2, .int .i64 t2, .int .i64 k] w fun e w' => e = .returned (.bool (withinV n1 t1 n2 t2 k)) ∧ Below w.heap.size w w' := by
  by_cases hk : k < 0
  · rw [show withinV n1 t1 n2 t2 k = false by unfold withinV; rw [if_pos (.inl hk)]]
    go_enter Try.func14, Try.ntmps14
    go_wp2
    go_ret
    exact ⟨rfl, Below.refl _ _⟩
  · by_cases hk2 : 64 < k
    · rw [show withinV n1 t1 n2 t2 k = false by unfold withinV; rw [if_pos (.inr hk2)]]
      go_enter Try.func14, Try.ntmps14
      go_wp2
      go_ret
      exact ⟨rfl, Below.refl _ _⟩
    · have hv : withinV n1 t1 n2 t2 k = if rightT t1 && rightT t2 then nearV (n1 * t2) (n2 * t1) ((k + 1) * (t1 + t2)) else false := by unfold withinV; rw [if_neg (by omega)]
      have H1 := Lib.hid (wright t1 w)
      have H2 := Lib.hid (wright t2 w)
      cases r1 : rightT t1 with
      | false =>
        rw [r1] at H1 hv
        rw [hv, if_neg (by simp)]
        clear hv h1 h2 h3 h4 r1
        go_enter Try.func14, Try.ntmps14
        go_wp2_with (go_at_call 36; (with_reducible refine H1.out.mono ?_); rintro e w1 ⟨rfl, rfl⟩)
        go_ret
        exact ⟨rfl, Below.refl _ _⟩
      | true =>
        rw [r1] at H1 hv
        cases r2 : rightT t2 with
        | false =>
          rw [r2] at H2 hv
          rw [hv, if_neg (by simp)]
          clear hv h1 h2 h3 h4 r1 r2
          go_enter Try.func14, Try.ntmps14
          go_wp2_with (first | (go_at_call 36; (with_reducible refine H1.out.mono ?_); rintro e w1 ⟨rfl, rfl⟩) | (go_at_call 36; (with_reducible refine H2.out.mono ?_); rintro e w1 ⟨rfl, rfl⟩))
          go_ret
          exact ⟨rfl, Below.refl _ _⟩
        | true =>
          rw [r2] at H2 hv
          rw [hv, if_pos (show (true && true) = true from rfl)]
          obtain ⟨a1, a2⟩ := right_i64 r1
          obtain ⟨b1, b2⟩ := right_i64 r2
          have HN := Lib.hid (fun W => dNear n1 t1 n2 t2 (k + 1) (t1 + t2) W h1 h2 h3 h4 (by unfold I64; omega) (by unfold I64; omega))
          generalize nearV (n1 * t2) (n2 * t1) ((k + 1) * (t1 + t2)) = r at *
          clear hv h1 h2 h3 h4 r1 r2
          go_enter Try.func14, Try.ntmps14
          go_wp2_with (first | (go_at_call 36; (with_reducible refine H1.out.mono ?_); rintro e w1 ⟨rfl, rfl⟩) | (go_at_call 36; (with_reducible refine H2.out.mono ?_); rintro e w1 ⟨rfl, rfl⟩))
          go_wp2_with (go_at_call 37; (with_reducible refine (HN.out _).mono ?_); rintro e w2 ⟨rfl, hb2⟩)
          go_ret
          exact ⟨rfl, hb2⟩
end Go.Proofs.Ytabdipfpfbdghaa
