/- The reference's Good, of any event: the code's. -/
import Derived.Test.YtdnddoiemaifjaaRefGood
namespace Go.Proofs.Ytdnddoiemaifjaa
open Go.RowKit
set_option maxRecDepth 100000 in
set_option maxHeartbeats 4000000 in
theorem rgood0 (e0 e1 e2 e3 e4 e5 e6 e7 e8 e9 e10 e11 e12 e13 e14 : Int) (hk : e0 < 1 ∨ 7 < e0) (w : World) : Calls Try.prog 34 #[.agg #[.int .i64 e0, .int .i64 e1, .int .i64 e2, .int .i64 e3, .int .i64 e4, .int .i64 e5, .int .i64 e6, .int .i64 e7, .int .i64 e8, .int .i64 e9, .int .i64 e10, .int .i64 e11, .int .i64 e12, .int .i64 e13, .int .i64 e14]] w fun x w' => x = .returned (.bool (goodB ⟨e0, e1, e2, e3, e4, e5, e6, e7, e8, e9, e10, e11, e12, e13, e14⟩)) ∧ Below w.heap.size w w' := by
  have HAL : Hid (Below w.heap.size w (w.alloc (.cells #[.int .i64 e0, .int .i64 e1, .int .i64 e2, .int .i64 e3, .int .i64 e4, .int .i64 e5, .int .i64 e6, .int .i64 e7, .int .i64 e8, .int .i64 e9, .int .i64 e10, .int .i64 e11, .int .i64 e12, .int .i64 e13, .int .i64 e14] 30))) := below_al (Below.refl _ _) _
  have hg : goodB (⟨e0, e1, e2, e3, e4, e5, e6, e7, e8, e9, e10, e11, e12, e13, e14⟩ : Ev) = false := by
    have hK : tK e0 = false := by simp [tK]; omega
    simp [goodB, hK]
  rw [hg]
  clear hg
  by_cases h1 : e0 < 1
  · have d1 : decide (e0 < 1) = true := decide_eq_true h1
    clear hk h1
    go_enter Try.func34, Try.ntmps34
    go_wp2
    go_ret
    exact ⟨rfl, HAL.out⟩
  · have d1 : decide (e0 < 1) = false := decide_eq_false h1
    have d2 : decide (7 < e0) = true := decide_eq_true (by omega)
    clear hk h1
    go_enter Try.func34, Try.ntmps34
    go_wp2
    go_ret
    exact ⟨rfl, HAL.out⟩
theorem rgood (e : Ev) (w : World) : Calls Try.prog 34 #[evV e] w fun x w' => x = .returned (.bool (goodB e)) ∧ Below w.heap.size w w' := by
  obtain ⟨e0, e1, e2, e3, e4, e5, e6, e7, e8, e9, e10, e11, e12, e13, e14⟩ := e
  by_cases h0 : e0 < 1 ∨ 7 < e0
  · exact rgood0 e0 e1 e2 e3 e4 e5 e6 e7 e8 e9 e10 e11 e12 e13 e14 h0 w
  · have h : e0 = 1 ∨ e0 = 2 ∨ e0 = 3 ∨ e0 = 4 ∨ e0 = 5 ∨ e0 = 6 ∨ e0 = 7 := by omega
    rcases h with rfl | rfl | rfl | rfl | rfl | rfl | rfl
    · exact rgood1 e1 e2 e3 e4 e5 e6 e7 e8 e9 e10 e11 e12 e13 e14 w
    · exact rgood2 e1 e2 e3 e4 e5 e6 e7 e8 e9 e10 e11 e12 e13 e14 w
    · exact rgood3 e1 e2 e3 e4 e5 e6 e7 e8 e9 e10 e11 e12 e13 e14 w
    · exact rgood4 e1 e2 e3 e4 e5 e6 e7 e8 e9 e10 e11 e12 e13 e14 w
    · exact rgood5 e1 e2 e3 e4 e5 e6 e7 e8 e9 e10 e11 e12 e13 e14 w
    · exact rgood6 e1 e2 e3 e4 e5 e6 e7 e8 e9 e10 e11 e12 e13 e14 w
    · exact rgood7 e1 e2 e3 e4 e5 e6 e7 e8 e9 e10 e11 e12 e13 e14 w
end Go.Proofs.Ytdnddoiemaifjaa
