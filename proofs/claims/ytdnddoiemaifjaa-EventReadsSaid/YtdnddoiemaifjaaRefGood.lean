/- The reference's Good, of any event: the code's. -/
import Derived.Test.YtdnddoiemaifjaaEvGood2
namespace Go.Proofs.Ytdnddoiemaifjaa
open Go.RowKit
set_option linter.unusedSimpArgs false
set_option maxHeartbeats 2000000 in
theorem rid (n : Int) (w : World) : Calls Try.prog 55 #[.int .i64 n] w fun e w' => e = .returned (.bool (inB true n 1 1099511627776)) ∧ w = w' := by
  have e1 : inB true n 1 1099511627776 = (decide (1 ≤ n) && decide (n ≤ 1099511627776)) := rfl
  rw [e1]
  by_cases h1 : 1 ≤ n
  · have d1 : decide (1 ≤ n) = true := decide_eq_true h1
    rw [d1, Bool.true_and]
    go_enter Try.func55, Try.ntmps55
    go_wp2
    go_ret
    exact ⟨rfl, rfl⟩
  · have d1 : decide (1 ≤ n) = false := decide_eq_false h1
    rw [d1, Bool.false_and]
    clear h1
    go_enter Try.func55, Try.ntmps55
    go_wp2
    go_ret
    exact ⟨rfl, rfl⟩
set_option maxHeartbeats 2000000 in
theorem rthreads (k : Int) (w : World) : Calls Try.prog 45 #[.int .i64 k] w fun e w' => e = .returned (.bool (tT k)) ∧ w = w' := by
  have e1 : tT k = (k == 3 || k == 2 || k == 4) := rfl
  rw [e1]
  cases h2 : k == 2
  · cases h3 : k == 3
    · cases h4 : k == 4
      all_goals
        simp only [Bool.or_false, Bool.or_true]
        go_enter Try.func45, Try.ntmps45
        go_wp2
        go_ret
        exact ⟨rfl, rfl⟩
    · simp only [Bool.or_false, Bool.true_or]
      go_enter Try.func45, Try.ntmps45
      go_wp2
      go_ret
      exact ⟨rfl, rfl⟩
  · simp only [Bool.or_true, Bool.true_or]
    go_enter Try.func45, Try.ntmps45
    go_wp2
    go_ret
    exact ⟨rfl, rfl⟩
set_option maxHeartbeats 2000000 in
theorem rvalues (k : Int) (w : World) : Calls Try.prog 46 #[.int .i64 k] w fun e w' => e = .returned (.bool (tV k)) ∧ w = w' := by
  have e1 : tV k = (k == 4 || k == 5) := rfl
  rw [e1]
  cases h5 : k == 5
  · cases h4 : k == 4
    all_goals
      simp only [Bool.or_false]
      go_enter Try.func46, Try.ntmps46
      go_wp2
      go_ret
      exact ⟨rfl, rfl⟩
  · simp only [Bool.or_true]
    go_enter Try.func46, Try.ntmps46
    go_wp2
    go_ret
    exact ⟨rfl, rfl⟩
theorem inB_f (n a b : Int) : inB false n a b = (n == 0) := rfl
set_option maxRecDepth 100000 in
set_option maxHeartbeats 16000000 in
theorem rgood1 (e1 e2 e3 e4 e5 e6 e7 e8 e9 e10 e11 e12 e13 e14 : Int) (w : World) : Calls Try.prog 34 #[.agg #[.int .i64 1, .int .i64 e1, .int .i64 e2, .int .i64 e3, .int .i64 e4, .int .i64 e5, .int .i64 e6, .int .i64 e7, .int .i64 e8, .int .i64 e9, .int .i64 e10, .int .i64 e11, .int .i64 e12, .int .i64 e13, .int .i64 e14]] w fun x w' => x = .returned (.bool (goodB ⟨1, e1, e2, e3, e4, e5, e6, e7, e8, e9, e10, e11, e12, e13, e14⟩)) ∧ Below w.heap.size w w' := by
  have HAL : Hid (Below w.heap.size w (w.alloc (.cells #[.int .i64 1, .int .i64 e1, .int .i64 e2, .int .i64 e3, .int .i64 e4, .int .i64 e5, .int .i64 e6, .int .i64 e7, .int .i64 e8, .int .i64 e9, .int .i64 e10, .int .i64 e11, .int .i64 e12, .int .i64 e13, .int .i64 e14] 30))) := below_al (Below.refl _ _) _
  have r1 := fun W => rid e1 W
  have r2 := fun W => rid e2 W
  have RT := Lib.hid (fun W => (rthreads 1 W : Calls Try.prog 45 #[.int .i64 1] W fun e w' => e = .returned (.bool false) ∧ W = w'))
  have RV := Lib.hid (fun W => (rvalues 1 W : Calls Try.prog 46 #[.int .i64 1] W fun e w' => e = .returned (.bool false) ∧ W = w'))
  cases h1 : inB true e1 1 1099511627776
  · simp only [h1] at r1
    rw [show goodB (⟨1, e1, e2, e3, e4, e5, e6, e7, e8, e9, e10, e11, e12, e13, e14⟩ : Ev) = false from by simp [goodB, tK, tA, tT, tV, tC, inB_f, h1]]
    have R1 := Lib.hid r1
    have R2 := Lib.hid r2
    clear r1 r2
    go_enter Try.func34, Try.ntmps34
    go_wp2_with (first
      | (go_at_call 55; (with_reducible refine (R1.out _).mono ?_); rintro e w' ⟨rfl, rfl⟩)
      | (go_at_call 55; (with_reducible refine (R2.out _).mono ?_); rintro e w' ⟨rfl, rfl⟩)
      | (go_at_call 45; (with_reducible refine (RT.out _).mono ?_); rintro e w' ⟨rfl, rfl⟩)
      | (go_at_call 46; (with_reducible refine (RV.out _).mono ?_); rintro e w' ⟨rfl, rfl⟩))
    go_ret
    exact ⟨rfl, HAL.out⟩
  · simp only [h1] at r1
    cases h2 : e2 == 0
    · have n2 : (e2 != 0) = true := by simp [bne, h2]
      rw [show goodB (⟨1, e1, e2, e3, e4, e5, e6, e7, e8, e9, e10, e11, e12, e13, e14⟩ : Ev) = false from by simp [goodB, tK, tA, tT, tV, tC, inB_f, h1, h2]]
      have R1 := Lib.hid r1
      have R2 := Lib.hid r2
      clear r1 r2
      go_enter Try.func34, Try.ntmps34
      go_wp2_with (first
        | (go_at_call 55; (with_reducible refine (R1.out _).mono ?_); rintro e w' ⟨rfl, rfl⟩)
        | (go_at_call 55; (with_reducible refine (R2.out _).mono ?_); rintro e w' ⟨rfl, rfl⟩)
        | (go_at_call 45; (with_reducible refine (RT.out _).mono ?_); rintro e w' ⟨rfl, rfl⟩)
        | (go_at_call 46; (with_reducible refine (RV.out _).mono ?_); rintro e w' ⟨rfl, rfl⟩))
      go_ret
      exact ⟨rfl, HAL.out⟩
    · have n2 : (e2 != 0) = false := by simp [bne, h2]
      cases h3 : e3 == 0
      · have n3 : (e3 != 0) = true := by simp [bne, h3]
        rw [show goodB (⟨1, e1, e2, e3, e4, e5, e6, e7, e8, e9, e10, e11, e12, e13, e14⟩ : Ev) = false from by simp [goodB, tK, tA, tT, tV, tC, inB_f, h1, h2, h3]]
        have R1 := Lib.hid r1
        have R2 := Lib.hid r2
        clear r1 r2
        go_enter Try.func34, Try.ntmps34
        go_wp2_with (first
          | (go_at_call 55; (with_reducible refine (R1.out _).mono ?_); rintro e w' ⟨rfl, rfl⟩)
          | (go_at_call 55; (with_reducible refine (R2.out _).mono ?_); rintro e w' ⟨rfl, rfl⟩)
          | (go_at_call 45; (with_reducible refine (RT.out _).mono ?_); rintro e w' ⟨rfl, rfl⟩)
          | (go_at_call 46; (with_reducible refine (RV.out _).mono ?_); rintro e w' ⟨rfl, rfl⟩))
        go_ret
        exact ⟨rfl, HAL.out⟩
      · have n3 : (e3 != 0) = false := by simp [bne, h3]
        have hcx := fun w => ctx_eq0 e4 e5 e6 e7 e8 e9 e10 e11 e12 e13 e14 w
        rw [show goodB (⟨1, e1, e2, e3, e4, e5, e6, e7, e8, e9, e10, e11, e12, e13, e14⟩ : Ev) = (e4 == 0 && (e5 == 0 && ((e6 == 0 && (e7 == 0 && (e8 == 0 && (e9 == 0 && (e10 == 0 && (e11 == 0 && (e12 == 0 && e13 == 0))))))) && e14 == 0))) from by simp [goodB, tK, tA, tT, tV, tC, inB_f, ctx0, h1, h2, h3]]
        generalize (e4 == 0 && (e5 == 0 && ((e6 == 0 && (e7 == 0 && (e8 == 0 && (e9 == 0 && (e10 == 0 && (e11 == 0 && (e12 == 0 && e13 == 0))))))) && e14 == 0))) = bx at hcx ⊢
        have R1 := Lib.hid r1
        have R2 := Lib.hid r2
        clear r1 r2
        go_enter Try.func34, Try.ntmps34
        go_wp2_with (first
          | (go_at_call 55; (with_reducible refine (R1.out _).mono ?_); rintro e w' ⟨rfl, rfl⟩)
          | (go_at_call 55; (with_reducible refine (R2.out _).mono ?_); rintro e w' ⟨rfl, rfl⟩)
          | (go_at_call 45; (with_reducible refine (RT.out _).mono ?_); rintro e w' ⟨rfl, rfl⟩)
          | (go_at_call 46; (with_reducible refine (RV.out _).mono ?_); rintro e w' ⟨rfl, rfl⟩))
        go_ret
        exact ⟨rfl, below_al HAL.out _⟩
set_option maxRecDepth 100000 in
set_option maxHeartbeats 16000000 in
theorem rgood2 (e1 e2 e3 e4 e5 e6 e7 e8 e9 e10 e11 e12 e13 e14 : Int) (w : World) : Calls Try.prog 34 #[.agg #[.int .i64 2, .int .i64 e1, .int .i64 e2, .int .i64 e3, .int .i64 e4, .int .i64 e5, .int .i64 e6, .int .i64 e7, .int .i64 e8, .int .i64 e9, .int .i64 e10, .int .i64 e11, .int .i64 e12, .int .i64 e13, .int .i64 e14]] w fun x w' => x = .returned (.bool (goodB ⟨2, e1, e2, e3, e4, e5, e6, e7, e8, e9, e10, e11, e12, e13, e14⟩)) ∧ Below w.heap.size w w' := by
  have HAL : Hid (Below w.heap.size w (w.alloc (.cells #[.int .i64 2, .int .i64 e1, .int .i64 e2, .int .i64 e3, .int .i64 e4, .int .i64 e5, .int .i64 e6, .int .i64 e7, .int .i64 e8, .int .i64 e9, .int .i64 e10, .int .i64 e11, .int .i64 e12, .int .i64 e13, .int .i64 e14] 30))) := below_al (Below.refl _ _) _
  have r1 := fun W => rid e1 W
  have r2 := fun W => rid e2 W
  have RT := Lib.hid (fun W => (rthreads 2 W : Calls Try.prog 45 #[.int .i64 2] W fun e w' => e = .returned (.bool true) ∧ W = w'))
  have RV := Lib.hid (fun W => (rvalues 2 W : Calls Try.prog 46 #[.int .i64 2] W fun e w' => e = .returned (.bool false) ∧ W = w'))
  cases h1 : inB true e1 1 1099511627776
  · simp only [h1] at r1
    rw [show goodB (⟨2, e1, e2, e3, e4, e5, e6, e7, e8, e9, e10, e11, e12, e13, e14⟩ : Ev) = false from by simp [goodB, tK, tA, tT, tV, tC, inB_f, h1]]
    have R1 := Lib.hid r1
    have R2 := Lib.hid r2
    clear r1 r2
    go_enter Try.func34, Try.ntmps34
    go_wp2_with (first
      | (go_at_call 55; (with_reducible refine (R1.out _).mono ?_); rintro e w' ⟨rfl, rfl⟩)
      | (go_at_call 55; (with_reducible refine (R2.out _).mono ?_); rintro e w' ⟨rfl, rfl⟩)
      | (go_at_call 45; (with_reducible refine (RT.out _).mono ?_); rintro e w' ⟨rfl, rfl⟩)
      | (go_at_call 46; (with_reducible refine (RV.out _).mono ?_); rintro e w' ⟨rfl, rfl⟩))
    go_ret
    exact ⟨rfl, HAL.out⟩
  · simp only [h1] at r1
    cases h2 : inB true e2 1 1099511627776
    · simp only [h2] at r2
      rw [show goodB (⟨2, e1, e2, e3, e4, e5, e6, e7, e8, e9, e10, e11, e12, e13, e14⟩ : Ev) = false from by simp [goodB, tK, tA, tT, tV, tC, inB_f, h1, h2]]
      have R1 := Lib.hid r1
      have R2 := Lib.hid r2
      clear r1 r2
      go_enter Try.func34, Try.ntmps34
      go_wp2_with (first
        | (go_at_call 55; (with_reducible refine (R1.out _).mono ?_); rintro e w' ⟨rfl, rfl⟩)
        | (go_at_call 55; (with_reducible refine (R2.out _).mono ?_); rintro e w' ⟨rfl, rfl⟩)
        | (go_at_call 45; (with_reducible refine (RT.out _).mono ?_); rintro e w' ⟨rfl, rfl⟩)
        | (go_at_call 46; (with_reducible refine (RV.out _).mono ?_); rintro e w' ⟨rfl, rfl⟩))
      go_ret
      exact ⟨rfl, HAL.out⟩
    · simp only [h2] at r2
      cases h3 : e3 == 0
      · have n3 : (e3 != 0) = true := by simp [bne, h3]
        rw [show goodB (⟨2, e1, e2, e3, e4, e5, e6, e7, e8, e9, e10, e11, e12, e13, e14⟩ : Ev) = false from by simp [goodB, tK, tA, tT, tV, tC, inB_f, h1, h2, h3]]
        have R1 := Lib.hid r1
        have R2 := Lib.hid r2
        clear r1 r2
        go_enter Try.func34, Try.ntmps34
        go_wp2_with (first
          | (go_at_call 55; (with_reducible refine (R1.out _).mono ?_); rintro e w' ⟨rfl, rfl⟩)
          | (go_at_call 55; (with_reducible refine (R2.out _).mono ?_); rintro e w' ⟨rfl, rfl⟩)
          | (go_at_call 45; (with_reducible refine (RT.out _).mono ?_); rintro e w' ⟨rfl, rfl⟩)
          | (go_at_call 46; (with_reducible refine (RV.out _).mono ?_); rintro e w' ⟨rfl, rfl⟩))
        go_ret
        exact ⟨rfl, HAL.out⟩
      · have n3 : (e3 != 0) = false := by simp [bne, h3]
        by_cases f0 : 0 ≤ e4
        · have k0 : decide (0 ≤ e4) = true := decide_eq_true f0
          by_cases f1 : e4 ≤ 7
          · have k1 : decide (e4 ≤ 7) = true := decide_eq_true f1
            by_cases f2 : 0 ≤ e5
            · have k2 : decide (0 ≤ e5) = true := decide_eq_true f2
              by_cases f3 : e5 ≤ 64
              · have k3 : decide (e5 ≤ 64) = true := decide_eq_true f3
                by_cases f4 : 0 ≤ e14
                · have k4 : decide (0 ≤ e14) = true := decide_eq_true f4
                  by_cases f5 : e14 ≤ 8
                  · have k5 : decide (e14 ≤ 8) = true := decide_eq_true f5
                    have hf : fitsB (⟨2, e1, e2, e3, e4, e5, e6, e7, e8, e9, e10, e11, e12, e13, e14⟩ : Ev) = true := by simp [fitsB, inB]; omega
                    rw [show goodB (⟨2, e1, e2, e3, e4, e5, e6, e7, e8, e9, e10, e11, e12, e13, e14⟩ : Ev) = true from by simp [goodB, tK, tA, tT, tV, tC, inB_f, h1, h2, h3, hf]]
                    clear f0 f1 f2 f3 f4 f5 hf
                    have R1 := Lib.hid r1
                    have R2 := Lib.hid r2
                    clear r1 r2
                    go_enter Try.func34, Try.ntmps34
                    go_wp2_with (first
                      | (go_at_call 55; (with_reducible refine (R1.out _).mono ?_); rintro e w' ⟨rfl, rfl⟩)
                      | (go_at_call 55; (with_reducible refine (R2.out _).mono ?_); rintro e w' ⟨rfl, rfl⟩)
                      | (go_at_call 45; (with_reducible refine (RT.out _).mono ?_); rintro e w' ⟨rfl, rfl⟩)
                      | (go_at_call 46; (with_reducible refine (RV.out _).mono ?_); rintro e w' ⟨rfl, rfl⟩))
                    go_ret
                    exact ⟨rfl, below_al HAL.out _⟩
                  · have k5 : decide (e14 ≤ 8) = false := decide_eq_false f5
                    have hf : fitsB (⟨2, e1, e2, e3, e4, e5, e6, e7, e8, e9, e10, e11, e12, e13, e14⟩ : Ev) = false := by simp [fitsB, inB]; omega
                    rw [show goodB (⟨2, e1, e2, e3, e4, e5, e6, e7, e8, e9, e10, e11, e12, e13, e14⟩ : Ev) = false from by simp [goodB, tK, tA, tT, tV, tC, inB_f, h1, h2, h3, hf]]
                    clear f0 f1 f2 f3 f4 f5 hf
                    have R1 := Lib.hid r1
                    have R2 := Lib.hid r2
                    clear r1 r2
                    go_enter Try.func34, Try.ntmps34
                    go_wp2_with (first
                      | (go_at_call 55; (with_reducible refine (R1.out _).mono ?_); rintro e w' ⟨rfl, rfl⟩)
                      | (go_at_call 55; (with_reducible refine (R2.out _).mono ?_); rintro e w' ⟨rfl, rfl⟩)
                      | (go_at_call 45; (with_reducible refine (RT.out _).mono ?_); rintro e w' ⟨rfl, rfl⟩)
                      | (go_at_call 46; (with_reducible refine (RV.out _).mono ?_); rintro e w' ⟨rfl, rfl⟩))
                    go_ret
                    exact ⟨rfl, below_al HAL.out _⟩
                · have k4 : decide (0 ≤ e14) = false := decide_eq_false f4
                  have hf : fitsB (⟨2, e1, e2, e3, e4, e5, e6, e7, e8, e9, e10, e11, e12, e13, e14⟩ : Ev) = false := by simp [fitsB, inB]; omega
                  rw [show goodB (⟨2, e1, e2, e3, e4, e5, e6, e7, e8, e9, e10, e11, e12, e13, e14⟩ : Ev) = false from by simp [goodB, tK, tA, tT, tV, tC, inB_f, h1, h2, h3, hf]]
                  clear f0 f1 f2 f3 f4 hf
                  have R1 := Lib.hid r1
                  have R2 := Lib.hid r2
                  clear r1 r2
                  go_enter Try.func34, Try.ntmps34
                  go_wp2_with (first
                    | (go_at_call 55; (with_reducible refine (R1.out _).mono ?_); rintro e w' ⟨rfl, rfl⟩)
                    | (go_at_call 55; (with_reducible refine (R2.out _).mono ?_); rintro e w' ⟨rfl, rfl⟩)
                    | (go_at_call 45; (with_reducible refine (RT.out _).mono ?_); rintro e w' ⟨rfl, rfl⟩)
                    | (go_at_call 46; (with_reducible refine (RV.out _).mono ?_); rintro e w' ⟨rfl, rfl⟩))
                  go_ret
                  exact ⟨rfl, below_al HAL.out _⟩
              · have k3 : decide (e5 ≤ 64) = false := decide_eq_false f3
                have hf : fitsB (⟨2, e1, e2, e3, e4, e5, e6, e7, e8, e9, e10, e11, e12, e13, e14⟩ : Ev) = false := by simp [fitsB, inB]; omega
                rw [show goodB (⟨2, e1, e2, e3, e4, e5, e6, e7, e8, e9, e10, e11, e12, e13, e14⟩ : Ev) = false from by simp [goodB, tK, tA, tT, tV, tC, inB_f, h1, h2, h3, hf]]
                clear f0 f1 f2 f3 hf
                have R1 := Lib.hid r1
                have R2 := Lib.hid r2
                clear r1 r2
                go_enter Try.func34, Try.ntmps34
                go_wp2_with (first
                  | (go_at_call 55; (with_reducible refine (R1.out _).mono ?_); rintro e w' ⟨rfl, rfl⟩)
                  | (go_at_call 55; (with_reducible refine (R2.out _).mono ?_); rintro e w' ⟨rfl, rfl⟩)
                  | (go_at_call 45; (with_reducible refine (RT.out _).mono ?_); rintro e w' ⟨rfl, rfl⟩)
                  | (go_at_call 46; (with_reducible refine (RV.out _).mono ?_); rintro e w' ⟨rfl, rfl⟩))
                go_ret
                exact ⟨rfl, below_al HAL.out _⟩
            · have k2 : decide (0 ≤ e5) = false := decide_eq_false f2
              have hf : fitsB (⟨2, e1, e2, e3, e4, e5, e6, e7, e8, e9, e10, e11, e12, e13, e14⟩ : Ev) = false := by simp [fitsB, inB]; omega
              rw [show goodB (⟨2, e1, e2, e3, e4, e5, e6, e7, e8, e9, e10, e11, e12, e13, e14⟩ : Ev) = false from by simp [goodB, tK, tA, tT, tV, tC, inB_f, h1, h2, h3, hf]]
              clear f0 f1 f2 hf
              have R1 := Lib.hid r1
              have R2 := Lib.hid r2
              clear r1 r2
              go_enter Try.func34, Try.ntmps34
              go_wp2_with (first
                | (go_at_call 55; (with_reducible refine (R1.out _).mono ?_); rintro e w' ⟨rfl, rfl⟩)
                | (go_at_call 55; (with_reducible refine (R2.out _).mono ?_); rintro e w' ⟨rfl, rfl⟩)
                | (go_at_call 45; (with_reducible refine (RT.out _).mono ?_); rintro e w' ⟨rfl, rfl⟩)
                | (go_at_call 46; (with_reducible refine (RV.out _).mono ?_); rintro e w' ⟨rfl, rfl⟩))
              go_ret
              exact ⟨rfl, below_al HAL.out _⟩
          · have k1 : decide (e4 ≤ 7) = false := decide_eq_false f1
            have hf : fitsB (⟨2, e1, e2, e3, e4, e5, e6, e7, e8, e9, e10, e11, e12, e13, e14⟩ : Ev) = false := by simp [fitsB, inB]; omega
            rw [show goodB (⟨2, e1, e2, e3, e4, e5, e6, e7, e8, e9, e10, e11, e12, e13, e14⟩ : Ev) = false from by simp [goodB, tK, tA, tT, tV, tC, inB_f, h1, h2, h3, hf]]
            clear f0 f1 hf
            have R1 := Lib.hid r1
            have R2 := Lib.hid r2
            clear r1 r2
            go_enter Try.func34, Try.ntmps34
            go_wp2_with (first
              | (go_at_call 55; (with_reducible refine (R1.out _).mono ?_); rintro e w' ⟨rfl, rfl⟩)
              | (go_at_call 55; (with_reducible refine (R2.out _).mono ?_); rintro e w' ⟨rfl, rfl⟩)
              | (go_at_call 45; (with_reducible refine (RT.out _).mono ?_); rintro e w' ⟨rfl, rfl⟩)
              | (go_at_call 46; (with_reducible refine (RV.out _).mono ?_); rintro e w' ⟨rfl, rfl⟩))
            go_ret
            exact ⟨rfl, below_al HAL.out _⟩
        · have k0 : decide (0 ≤ e4) = false := decide_eq_false f0
          have hf : fitsB (⟨2, e1, e2, e3, e4, e5, e6, e7, e8, e9, e10, e11, e12, e13, e14⟩ : Ev) = false := by simp [fitsB, inB]; omega
          rw [show goodB (⟨2, e1, e2, e3, e4, e5, e6, e7, e8, e9, e10, e11, e12, e13, e14⟩ : Ev) = false from by simp [goodB, tK, tA, tT, tV, tC, inB_f, h1, h2, h3, hf]]
          clear f0 hf
          have R1 := Lib.hid r1
          have R2 := Lib.hid r2
          clear r1 r2
          go_enter Try.func34, Try.ntmps34
          go_wp2_with (first
            | (go_at_call 55; (with_reducible refine (R1.out _).mono ?_); rintro e w' ⟨rfl, rfl⟩)
            | (go_at_call 55; (with_reducible refine (R2.out _).mono ?_); rintro e w' ⟨rfl, rfl⟩)
            | (go_at_call 45; (with_reducible refine (RT.out _).mono ?_); rintro e w' ⟨rfl, rfl⟩)
            | (go_at_call 46; (with_reducible refine (RV.out _).mono ?_); rintro e w' ⟨rfl, rfl⟩))
          go_ret
          exact ⟨rfl, below_al HAL.out _⟩
set_option maxRecDepth 100000 in
set_option maxHeartbeats 16000000 in
theorem rgood3 (e1 e2 e3 e4 e5 e6 e7 e8 e9 e10 e11 e12 e13 e14 : Int) (w : World) : Calls Try.prog 34 #[.agg #[.int .i64 3, .int .i64 e1, .int .i64 e2, .int .i64 e3, .int .i64 e4, .int .i64 e5, .int .i64 e6, .int .i64 e7, .int .i64 e8, .int .i64 e9, .int .i64 e10, .int .i64 e11, .int .i64 e12, .int .i64 e13, .int .i64 e14]] w fun x w' => x = .returned (.bool (goodB ⟨3, e1, e2, e3, e4, e5, e6, e7, e8, e9, e10, e11, e12, e13, e14⟩)) ∧ Below w.heap.size w w' := by
  have HAL : Hid (Below w.heap.size w (w.alloc (.cells #[.int .i64 3, .int .i64 e1, .int .i64 e2, .int .i64 e3, .int .i64 e4, .int .i64 e5, .int .i64 e6, .int .i64 e7, .int .i64 e8, .int .i64 e9, .int .i64 e10, .int .i64 e11, .int .i64 e12, .int .i64 e13, .int .i64 e14] 30))) := below_al (Below.refl _ _) _
  have r1 := fun W => rid e1 W
  have r2 := fun W => rid e2 W
  have RT := Lib.hid (fun W => (rthreads 3 W : Calls Try.prog 45 #[.int .i64 3] W fun e w' => e = .returned (.bool true) ∧ W = w'))
  have RV := Lib.hid (fun W => (rvalues 3 W : Calls Try.prog 46 #[.int .i64 3] W fun e w' => e = .returned (.bool false) ∧ W = w'))
  cases h1 : inB true e1 1 1099511627776
  · simp only [h1] at r1
    rw [show goodB (⟨3, e1, e2, e3, e4, e5, e6, e7, e8, e9, e10, e11, e12, e13, e14⟩ : Ev) = false from by simp [goodB, tK, tA, tT, tV, tC, inB_f, h1]]
    have R1 := Lib.hid r1
    have R2 := Lib.hid r2
    clear r1 r2
    go_enter Try.func34, Try.ntmps34
    go_wp2_with (first
      | (go_at_call 55; (with_reducible refine (R1.out _).mono ?_); rintro e w' ⟨rfl, rfl⟩)
      | (go_at_call 55; (with_reducible refine (R2.out _).mono ?_); rintro e w' ⟨rfl, rfl⟩)
      | (go_at_call 45; (with_reducible refine (RT.out _).mono ?_); rintro e w' ⟨rfl, rfl⟩)
      | (go_at_call 46; (with_reducible refine (RV.out _).mono ?_); rintro e w' ⟨rfl, rfl⟩))
    go_ret
    exact ⟨rfl, HAL.out⟩
  · simp only [h1] at r1
    cases h2 : inB true e2 1 1099511627776
    · simp only [h2] at r2
      rw [show goodB (⟨3, e1, e2, e3, e4, e5, e6, e7, e8, e9, e10, e11, e12, e13, e14⟩ : Ev) = false from by simp [goodB, tK, tA, tT, tV, tC, inB_f, h1, h2]]
      have R1 := Lib.hid r1
      have R2 := Lib.hid r2
      clear r1 r2
      go_enter Try.func34, Try.ntmps34
      go_wp2_with (first
        | (go_at_call 55; (with_reducible refine (R1.out _).mono ?_); rintro e w' ⟨rfl, rfl⟩)
        | (go_at_call 55; (with_reducible refine (R2.out _).mono ?_); rintro e w' ⟨rfl, rfl⟩)
        | (go_at_call 45; (with_reducible refine (RT.out _).mono ?_); rintro e w' ⟨rfl, rfl⟩)
        | (go_at_call 46; (with_reducible refine (RV.out _).mono ?_); rintro e w' ⟨rfl, rfl⟩))
      go_ret
      exact ⟨rfl, HAL.out⟩
    · simp only [h2] at r2
      cases h3 : e3 == 0
      · have n3 : (e3 != 0) = true := by simp [bne, h3]
        rw [show goodB (⟨3, e1, e2, e3, e4, e5, e6, e7, e8, e9, e10, e11, e12, e13, e14⟩ : Ev) = false from by simp [goodB, tK, tA, tT, tV, tC, inB_f, h1, h2, h3]]
        have R1 := Lib.hid r1
        have R2 := Lib.hid r2
        clear r1 r2
        go_enter Try.func34, Try.ntmps34
        go_wp2_with (first
          | (go_at_call 55; (with_reducible refine (R1.out _).mono ?_); rintro e w' ⟨rfl, rfl⟩)
          | (go_at_call 55; (with_reducible refine (R2.out _).mono ?_); rintro e w' ⟨rfl, rfl⟩)
          | (go_at_call 45; (with_reducible refine (RT.out _).mono ?_); rintro e w' ⟨rfl, rfl⟩)
          | (go_at_call 46; (with_reducible refine (RV.out _).mono ?_); rintro e w' ⟨rfl, rfl⟩))
        go_ret
        exact ⟨rfl, HAL.out⟩
      · have n3 : (e3 != 0) = false := by simp [bne, h3]
        have hcx := fun w => ctx_eq0 e4 e5 e6 e7 e8 e9 e10 e11 e12 e13 e14 w
        rw [show goodB (⟨3, e1, e2, e3, e4, e5, e6, e7, e8, e9, e10, e11, e12, e13, e14⟩ : Ev) = (e4 == 0 && (e5 == 0 && ((e6 == 0 && (e7 == 0 && (e8 == 0 && (e9 == 0 && (e10 == 0 && (e11 == 0 && (e12 == 0 && e13 == 0))))))) && e14 == 0))) from by simp [goodB, tK, tA, tT, tV, tC, inB_f, ctx0, h1, h2, h3]]
        generalize (e4 == 0 && (e5 == 0 && ((e6 == 0 && (e7 == 0 && (e8 == 0 && (e9 == 0 && (e10 == 0 && (e11 == 0 && (e12 == 0 && e13 == 0))))))) && e14 == 0))) = bx at hcx ⊢
        have R1 := Lib.hid r1
        have R2 := Lib.hid r2
        clear r1 r2
        go_enter Try.func34, Try.ntmps34
        go_wp2_with (first
          | (go_at_call 55; (with_reducible refine (R1.out _).mono ?_); rintro e w' ⟨rfl, rfl⟩)
          | (go_at_call 55; (with_reducible refine (R2.out _).mono ?_); rintro e w' ⟨rfl, rfl⟩)
          | (go_at_call 45; (with_reducible refine (RT.out _).mono ?_); rintro e w' ⟨rfl, rfl⟩)
          | (go_at_call 46; (with_reducible refine (RV.out _).mono ?_); rintro e w' ⟨rfl, rfl⟩))
        go_ret
        exact ⟨rfl, below_al HAL.out _⟩
set_option maxRecDepth 100000 in
set_option maxHeartbeats 16000000 in
theorem rgood4 (e1 e2 e3 e4 e5 e6 e7 e8 e9 e10 e11 e12 e13 e14 : Int) (w : World) : Calls Try.prog 34 #[.agg #[.int .i64 4, .int .i64 e1, .int .i64 e2, .int .i64 e3, .int .i64 e4, .int .i64 e5, .int .i64 e6, .int .i64 e7, .int .i64 e8, .int .i64 e9, .int .i64 e10, .int .i64 e11, .int .i64 e12, .int .i64 e13, .int .i64 e14]] w fun x w' => x = .returned (.bool (goodB ⟨4, e1, e2, e3, e4, e5, e6, e7, e8, e9, e10, e11, e12, e13, e14⟩)) ∧ Below w.heap.size w w' := by
  have HAL : Hid (Below w.heap.size w (w.alloc (.cells #[.int .i64 4, .int .i64 e1, .int .i64 e2, .int .i64 e3, .int .i64 e4, .int .i64 e5, .int .i64 e6, .int .i64 e7, .int .i64 e8, .int .i64 e9, .int .i64 e10, .int .i64 e11, .int .i64 e12, .int .i64 e13, .int .i64 e14] 30))) := below_al (Below.refl _ _) _
  have r1 := fun W => rid e1 W
  have r2 := fun W => rid e2 W
  have RT := Lib.hid (fun W => (rthreads 4 W : Calls Try.prog 45 #[.int .i64 4] W fun e w' => e = .returned (.bool true) ∧ W = w'))
  have RV := Lib.hid (fun W => (rvalues 4 W : Calls Try.prog 46 #[.int .i64 4] W fun e w' => e = .returned (.bool true) ∧ W = w'))
  cases h1 : inB true e1 1 1099511627776
  · simp only [h1] at r1
    rw [show goodB (⟨4, e1, e2, e3, e4, e5, e6, e7, e8, e9, e10, e11, e12, e13, e14⟩ : Ev) = false from by simp [goodB, tK, tA, tT, tV, tC, inB_f, h1]]
    have R1 := Lib.hid r1
    have R2 := Lib.hid r2
    clear r1 r2
    go_enter Try.func34, Try.ntmps34
    go_wp2_with (first
      | (go_at_call 55; (with_reducible refine (R1.out _).mono ?_); rintro e w' ⟨rfl, rfl⟩)
      | (go_at_call 55; (with_reducible refine (R2.out _).mono ?_); rintro e w' ⟨rfl, rfl⟩)
      | (go_at_call 45; (with_reducible refine (RT.out _).mono ?_); rintro e w' ⟨rfl, rfl⟩)
      | (go_at_call 46; (with_reducible refine (RV.out _).mono ?_); rintro e w' ⟨rfl, rfl⟩))
    go_ret
    exact ⟨rfl, HAL.out⟩
  · simp only [h1] at r1
    cases h2 : inB true e2 1 1099511627776
    · simp only [h2] at r2
      rw [show goodB (⟨4, e1, e2, e3, e4, e5, e6, e7, e8, e9, e10, e11, e12, e13, e14⟩ : Ev) = false from by simp [goodB, tK, tA, tT, tV, tC, inB_f, h1, h2]]
      have R1 := Lib.hid r1
      have R2 := Lib.hid r2
      clear r1 r2
      go_enter Try.func34, Try.ntmps34
      go_wp2_with (first
        | (go_at_call 55; (with_reducible refine (R1.out _).mono ?_); rintro e w' ⟨rfl, rfl⟩)
        | (go_at_call 55; (with_reducible refine (R2.out _).mono ?_); rintro e w' ⟨rfl, rfl⟩)
        | (go_at_call 45; (with_reducible refine (RT.out _).mono ?_); rintro e w' ⟨rfl, rfl⟩)
        | (go_at_call 46; (with_reducible refine (RV.out _).mono ?_); rintro e w' ⟨rfl, rfl⟩))
      go_ret
      exact ⟨rfl, HAL.out⟩
    · simp only [h2] at r2
      by_cases g1 : e3 < 0
      · have d1 : decide (e3 < 0) = true := decide_eq_true g1
        have h3 : inB true e3 0 1000 = false := by simp [inB]; omega
        rw [show goodB (⟨4, e1, e2, e3, e4, e5, e6, e7, e8, e9, e10, e11, e12, e13, e14⟩ : Ev) = false from by simp [goodB, tK, tA, tT, tV, tC, inB_f, h1, h2, h3]]
        clear g1 h3
        have R1 := Lib.hid r1
        have R2 := Lib.hid r2
        clear r1 r2
        go_enter Try.func34, Try.ntmps34
        go_wp2_with (first
          | (go_at_call 55; (with_reducible refine (R1.out _).mono ?_); rintro e w' ⟨rfl, rfl⟩)
          | (go_at_call 55; (with_reducible refine (R2.out _).mono ?_); rintro e w' ⟨rfl, rfl⟩)
          | (go_at_call 45; (with_reducible refine (RT.out _).mono ?_); rintro e w' ⟨rfl, rfl⟩)
          | (go_at_call 46; (with_reducible refine (RV.out _).mono ?_); rintro e w' ⟨rfl, rfl⟩))
        go_ret
        exact ⟨rfl, HAL.out⟩
      · have d1 : decide (e3 < 0) = false := decide_eq_false g1
        by_cases g2 : 1000 < e3
        · have d2 : decide (1000 < e3) = true := decide_eq_true g2
          have h3 : inB true e3 0 1000 = false := by simp [inB]; omega
          rw [show goodB (⟨4, e1, e2, e3, e4, e5, e6, e7, e8, e9, e10, e11, e12, e13, e14⟩ : Ev) = false from by simp [goodB, tK, tA, tT, tV, tC, inB_f, h1, h2, h3]]
          clear g1 g2 h3
          have R1 := Lib.hid r1
          have R2 := Lib.hid r2
          clear r1 r2
          go_enter Try.func34, Try.ntmps34
          go_wp2_with (first
            | (go_at_call 55; (with_reducible refine (R1.out _).mono ?_); rintro e w' ⟨rfl, rfl⟩)
            | (go_at_call 55; (with_reducible refine (R2.out _).mono ?_); rintro e w' ⟨rfl, rfl⟩)
            | (go_at_call 45; (with_reducible refine (RT.out _).mono ?_); rintro e w' ⟨rfl, rfl⟩)
            | (go_at_call 46; (with_reducible refine (RV.out _).mono ?_); rintro e w' ⟨rfl, rfl⟩))
          go_ret
          exact ⟨rfl, HAL.out⟩
        · have d2 : decide (1000 < e3) = false := decide_eq_false g2
          have h3 : inB true e3 0 1000 = true := by simp [inB]; omega
          clear g1 g2
          have hcx := fun w => ctx_eq0 e4 e5 e6 e7 e8 e9 e10 e11 e12 e13 e14 w
          rw [show goodB (⟨4, e1, e2, e3, e4, e5, e6, e7, e8, e9, e10, e11, e12, e13, e14⟩ : Ev) = (e4 == 0 && (e5 == 0 && ((e6 == 0 && (e7 == 0 && (e8 == 0 && (e9 == 0 && (e10 == 0 && (e11 == 0 && (e12 == 0 && e13 == 0))))))) && e14 == 0))) from by simp [goodB, tK, tA, tT, tV, tC, inB_f, ctx0, h1, h2, h3]]
          generalize (e4 == 0 && (e5 == 0 && ((e6 == 0 && (e7 == 0 && (e8 == 0 && (e9 == 0 && (e10 == 0 && (e11 == 0 && (e12 == 0 && e13 == 0))))))) && e14 == 0))) = bx at hcx ⊢
          have R1 := Lib.hid r1
          have R2 := Lib.hid r2
          clear r1 r2
          go_enter Try.func34, Try.ntmps34
          go_wp2_with (first
            | (go_at_call 55; (with_reducible refine (R1.out _).mono ?_); rintro e w' ⟨rfl, rfl⟩)
            | (go_at_call 55; (with_reducible refine (R2.out _).mono ?_); rintro e w' ⟨rfl, rfl⟩)
            | (go_at_call 45; (with_reducible refine (RT.out _).mono ?_); rintro e w' ⟨rfl, rfl⟩)
            | (go_at_call 46; (with_reducible refine (RV.out _).mono ?_); rintro e w' ⟨rfl, rfl⟩))
          go_ret
          exact ⟨rfl, below_al HAL.out _⟩
set_option maxRecDepth 100000 in
set_option maxHeartbeats 16000000 in
theorem rgood5 (e1 e2 e3 e4 e5 e6 e7 e8 e9 e10 e11 e12 e13 e14 : Int) (w : World) : Calls Try.prog 34 #[.agg #[.int .i64 5, .int .i64 e1, .int .i64 e2, .int .i64 e3, .int .i64 e4, .int .i64 e5, .int .i64 e6, .int .i64 e7, .int .i64 e8, .int .i64 e9, .int .i64 e10, .int .i64 e11, .int .i64 e12, .int .i64 e13, .int .i64 e14]] w fun x w' => x = .returned (.bool (goodB ⟨5, e1, e2, e3, e4, e5, e6, e7, e8, e9, e10, e11, e12, e13, e14⟩)) ∧ Below w.heap.size w w' := by
  have HAL : Hid (Below w.heap.size w (w.alloc (.cells #[.int .i64 5, .int .i64 e1, .int .i64 e2, .int .i64 e3, .int .i64 e4, .int .i64 e5, .int .i64 e6, .int .i64 e7, .int .i64 e8, .int .i64 e9, .int .i64 e10, .int .i64 e11, .int .i64 e12, .int .i64 e13, .int .i64 e14] 30))) := below_al (Below.refl _ _) _
  have r1 := fun W => rid e1 W
  have r2 := fun W => rid e2 W
  have RT := Lib.hid (fun W => (rthreads 5 W : Calls Try.prog 45 #[.int .i64 5] W fun e w' => e = .returned (.bool false) ∧ W = w'))
  have RV := Lib.hid (fun W => (rvalues 5 W : Calls Try.prog 46 #[.int .i64 5] W fun e w' => e = .returned (.bool true) ∧ W = w'))
  cases h1 : e1 == 0
  · have n1 : (e1 != 0) = true := by simp [bne, h1]
    rw [show goodB (⟨5, e1, e2, e3, e4, e5, e6, e7, e8, e9, e10, e11, e12, e13, e14⟩ : Ev) = false from by simp [goodB, tK, tA, tT, tV, tC, inB_f, h1]]
    have R1 := Lib.hid r1
    have R2 := Lib.hid r2
    clear r1 r2
    go_enter Try.func34, Try.ntmps34
    go_wp2_with (first
      | (go_at_call 55; (with_reducible refine (R1.out _).mono ?_); rintro e w' ⟨rfl, rfl⟩)
      | (go_at_call 55; (with_reducible refine (R2.out _).mono ?_); rintro e w' ⟨rfl, rfl⟩)
      | (go_at_call 45; (with_reducible refine (RT.out _).mono ?_); rintro e w' ⟨rfl, rfl⟩)
      | (go_at_call 46; (with_reducible refine (RV.out _).mono ?_); rintro e w' ⟨rfl, rfl⟩))
    go_ret
    exact ⟨rfl, HAL.out⟩
  · have n1 : (e1 != 0) = false := by simp [bne, h1]
    cases h2 : e2 == 0
    · have n2 : (e2 != 0) = true := by simp [bne, h2]
      rw [show goodB (⟨5, e1, e2, e3, e4, e5, e6, e7, e8, e9, e10, e11, e12, e13, e14⟩ : Ev) = false from by simp [goodB, tK, tA, tT, tV, tC, inB_f, h1, h2]]
      have R1 := Lib.hid r1
      have R2 := Lib.hid r2
      clear r1 r2
      go_enter Try.func34, Try.ntmps34
      go_wp2_with (first
        | (go_at_call 55; (with_reducible refine (R1.out _).mono ?_); rintro e w' ⟨rfl, rfl⟩)
        | (go_at_call 55; (with_reducible refine (R2.out _).mono ?_); rintro e w' ⟨rfl, rfl⟩)
        | (go_at_call 45; (with_reducible refine (RT.out _).mono ?_); rintro e w' ⟨rfl, rfl⟩)
        | (go_at_call 46; (with_reducible refine (RV.out _).mono ?_); rintro e w' ⟨rfl, rfl⟩))
      go_ret
      exact ⟨rfl, HAL.out⟩
    · have n2 : (e2 != 0) = false := by simp [bne, h2]
      by_cases g1 : e3 < 0
      · have d1 : decide (e3 < 0) = true := decide_eq_true g1
        have h3 : inB true e3 0 1000 = false := by simp [inB]; omega
        rw [show goodB (⟨5, e1, e2, e3, e4, e5, e6, e7, e8, e9, e10, e11, e12, e13, e14⟩ : Ev) = false from by simp [goodB, tK, tA, tT, tV, tC, inB_f, h1, h2, h3]]
        clear g1 h3
        have R1 := Lib.hid r1
        have R2 := Lib.hid r2
        clear r1 r2
        go_enter Try.func34, Try.ntmps34
        go_wp2_with (first
          | (go_at_call 55; (with_reducible refine (R1.out _).mono ?_); rintro e w' ⟨rfl, rfl⟩)
          | (go_at_call 55; (with_reducible refine (R2.out _).mono ?_); rintro e w' ⟨rfl, rfl⟩)
          | (go_at_call 45; (with_reducible refine (RT.out _).mono ?_); rintro e w' ⟨rfl, rfl⟩)
          | (go_at_call 46; (with_reducible refine (RV.out _).mono ?_); rintro e w' ⟨rfl, rfl⟩))
        go_ret
        exact ⟨rfl, HAL.out⟩
      · have d1 : decide (e3 < 0) = false := decide_eq_false g1
        by_cases g2 : 1000 < e3
        · have d2 : decide (1000 < e3) = true := decide_eq_true g2
          have h3 : inB true e3 0 1000 = false := by simp [inB]; omega
          rw [show goodB (⟨5, e1, e2, e3, e4, e5, e6, e7, e8, e9, e10, e11, e12, e13, e14⟩ : Ev) = false from by simp [goodB, tK, tA, tT, tV, tC, inB_f, h1, h2, h3]]
          clear g1 g2 h3
          have R1 := Lib.hid r1
          have R2 := Lib.hid r2
          clear r1 r2
          go_enter Try.func34, Try.ntmps34
          go_wp2_with (first
            | (go_at_call 55; (with_reducible refine (R1.out _).mono ?_); rintro e w' ⟨rfl, rfl⟩)
            | (go_at_call 55; (with_reducible refine (R2.out _).mono ?_); rintro e w' ⟨rfl, rfl⟩)
            | (go_at_call 45; (with_reducible refine (RT.out _).mono ?_); rintro e w' ⟨rfl, rfl⟩)
            | (go_at_call 46; (with_reducible refine (RV.out _).mono ?_); rintro e w' ⟨rfl, rfl⟩))
          go_ret
          exact ⟨rfl, HAL.out⟩
        · have d2 : decide (1000 < e3) = false := decide_eq_false g2
          have h3 : inB true e3 0 1000 = true := by simp [inB]; omega
          clear g1 g2
          have hcx := fun w => ctx_eq0 e4 e5 e6 e7 e8 e9 e10 e11 e12 e13 e14 w
          rw [show goodB (⟨5, e1, e2, e3, e4, e5, e6, e7, e8, e9, e10, e11, e12, e13, e14⟩ : Ev) = (e4 == 0 && (e5 == 0 && ((e6 == 0 && (e7 == 0 && (e8 == 0 && (e9 == 0 && (e10 == 0 && (e11 == 0 && (e12 == 0 && e13 == 0))))))) && e14 == 0))) from by simp [goodB, tK, tA, tT, tV, tC, inB_f, ctx0, h1, h2, h3]]
          generalize (e4 == 0 && (e5 == 0 && ((e6 == 0 && (e7 == 0 && (e8 == 0 && (e9 == 0 && (e10 == 0 && (e11 == 0 && (e12 == 0 && e13 == 0))))))) && e14 == 0))) = bx at hcx ⊢
          have R1 := Lib.hid r1
          have R2 := Lib.hid r2
          clear r1 r2
          go_enter Try.func34, Try.ntmps34
          go_wp2_with (first
            | (go_at_call 55; (with_reducible refine (R1.out _).mono ?_); rintro e w' ⟨rfl, rfl⟩)
            | (go_at_call 55; (with_reducible refine (R2.out _).mono ?_); rintro e w' ⟨rfl, rfl⟩)
            | (go_at_call 45; (with_reducible refine (RT.out _).mono ?_); rintro e w' ⟨rfl, rfl⟩)
            | (go_at_call 46; (with_reducible refine (RV.out _).mono ?_); rintro e w' ⟨rfl, rfl⟩))
          go_ret
          exact ⟨rfl, below_al HAL.out _⟩
set_option maxRecDepth 100000 in
set_option maxHeartbeats 16000000 in
theorem rgood6 (e1 e2 e3 e4 e5 e6 e7 e8 e9 e10 e11 e12 e13 e14 : Int) (w : World) : Calls Try.prog 34 #[.agg #[.int .i64 6, .int .i64 e1, .int .i64 e2, .int .i64 e3, .int .i64 e4, .int .i64 e5, .int .i64 e6, .int .i64 e7, .int .i64 e8, .int .i64 e9, .int .i64 e10, .int .i64 e11, .int .i64 e12, .int .i64 e13, .int .i64 e14]] w fun x w' => x = .returned (.bool (goodB ⟨6, e1, e2, e3, e4, e5, e6, e7, e8, e9, e10, e11, e12, e13, e14⟩)) ∧ Below w.heap.size w w' := by
  have HAL : Hid (Below w.heap.size w (w.alloc (.cells #[.int .i64 6, .int .i64 e1, .int .i64 e2, .int .i64 e3, .int .i64 e4, .int .i64 e5, .int .i64 e6, .int .i64 e7, .int .i64 e8, .int .i64 e9, .int .i64 e10, .int .i64 e11, .int .i64 e12, .int .i64 e13, .int .i64 e14] 30))) := below_al (Below.refl _ _) _
  have r1 := fun W => rid e1 W
  have r2 := fun W => rid e2 W
  have RT := Lib.hid (fun W => (rthreads 6 W : Calls Try.prog 45 #[.int .i64 6] W fun e w' => e = .returned (.bool false) ∧ W = w'))
  have RV := Lib.hid (fun W => (rvalues 6 W : Calls Try.prog 46 #[.int .i64 6] W fun e w' => e = .returned (.bool false) ∧ W = w'))
  cases h1 : inB true e1 1 1099511627776
  · simp only [h1] at r1
    rw [show goodB (⟨6, e1, e2, e3, e4, e5, e6, e7, e8, e9, e10, e11, e12, e13, e14⟩ : Ev) = false from by simp [goodB, tK, tA, tT, tV, tC, inB_f, h1]]
    have R1 := Lib.hid r1
    have R2 := Lib.hid r2
    clear r1 r2
    go_enter Try.func34, Try.ntmps34
    go_wp2_with (first
      | (go_at_call 55; (with_reducible refine (R1.out _).mono ?_); rintro e w' ⟨rfl, rfl⟩)
      | (go_at_call 55; (with_reducible refine (R2.out _).mono ?_); rintro e w' ⟨rfl, rfl⟩)
      | (go_at_call 45; (with_reducible refine (RT.out _).mono ?_); rintro e w' ⟨rfl, rfl⟩)
      | (go_at_call 46; (with_reducible refine (RV.out _).mono ?_); rintro e w' ⟨rfl, rfl⟩))
    go_ret
    exact ⟨rfl, HAL.out⟩
  · simp only [h1] at r1
    cases h2 : e2 == 0
    · have n2 : (e2 != 0) = true := by simp [bne, h2]
      rw [show goodB (⟨6, e1, e2, e3, e4, e5, e6, e7, e8, e9, e10, e11, e12, e13, e14⟩ : Ev) = false from by simp [goodB, tK, tA, tT, tV, tC, inB_f, h1, h2]]
      have R1 := Lib.hid r1
      have R2 := Lib.hid r2
      clear r1 r2
      go_enter Try.func34, Try.ntmps34
      go_wp2_with (first
        | (go_at_call 55; (with_reducible refine (R1.out _).mono ?_); rintro e w' ⟨rfl, rfl⟩)
        | (go_at_call 55; (with_reducible refine (R2.out _).mono ?_); rintro e w' ⟨rfl, rfl⟩)
        | (go_at_call 45; (with_reducible refine (RT.out _).mono ?_); rintro e w' ⟨rfl, rfl⟩)
        | (go_at_call 46; (with_reducible refine (RV.out _).mono ?_); rintro e w' ⟨rfl, rfl⟩))
      go_ret
      exact ⟨rfl, HAL.out⟩
    · have n2 : (e2 != 0) = false := by simp [bne, h2]
      cases h3 : e3 == 0
      · have n3 : (e3 != 0) = true := by simp [bne, h3]
        rw [show goodB (⟨6, e1, e2, e3, e4, e5, e6, e7, e8, e9, e10, e11, e12, e13, e14⟩ : Ev) = false from by simp [goodB, tK, tA, tT, tV, tC, inB_f, h1, h2, h3]]
        have R1 := Lib.hid r1
        have R2 := Lib.hid r2
        clear r1 r2
        go_enter Try.func34, Try.ntmps34
        go_wp2_with (first
          | (go_at_call 55; (with_reducible refine (R1.out _).mono ?_); rintro e w' ⟨rfl, rfl⟩)
          | (go_at_call 55; (with_reducible refine (R2.out _).mono ?_); rintro e w' ⟨rfl, rfl⟩)
          | (go_at_call 45; (with_reducible refine (RT.out _).mono ?_); rintro e w' ⟨rfl, rfl⟩)
          | (go_at_call 46; (with_reducible refine (RV.out _).mono ?_); rintro e w' ⟨rfl, rfl⟩))
        go_ret
        exact ⟨rfl, HAL.out⟩
      · have n3 : (e3 != 0) = false := by simp [bne, h3]
        have hcx := fun w => ctx_eq0 e4 e5 e6 e7 e8 e9 e10 e11 e12 e13 e14 w
        rw [show goodB (⟨6, e1, e2, e3, e4, e5, e6, e7, e8, e9, e10, e11, e12, e13, e14⟩ : Ev) = (e4 == 0 && (e5 == 0 && ((e6 == 0 && (e7 == 0 && (e8 == 0 && (e9 == 0 && (e10 == 0 && (e11 == 0 && (e12 == 0 && e13 == 0))))))) && e14 == 0))) from by simp [goodB, tK, tA, tT, tV, tC, inB_f, ctx0, h1, h2, h3]]
        generalize (e4 == 0 && (e5 == 0 && ((e6 == 0 && (e7 == 0 && (e8 == 0 && (e9 == 0 && (e10 == 0 && (e11 == 0 && (e12 == 0 && e13 == 0))))))) && e14 == 0))) = bx at hcx ⊢
        have R1 := Lib.hid r1
        have R2 := Lib.hid r2
        clear r1 r2
        go_enter Try.func34, Try.ntmps34
        go_wp2_with (first
          | (go_at_call 55; (with_reducible refine (R1.out _).mono ?_); rintro e w' ⟨rfl, rfl⟩)
          | (go_at_call 55; (with_reducible refine (R2.out _).mono ?_); rintro e w' ⟨rfl, rfl⟩)
          | (go_at_call 45; (with_reducible refine (RT.out _).mono ?_); rintro e w' ⟨rfl, rfl⟩)
          | (go_at_call 46; (with_reducible refine (RV.out _).mono ?_); rintro e w' ⟨rfl, rfl⟩))
        go_ret
        exact ⟨rfl, below_al HAL.out _⟩
set_option maxRecDepth 100000 in
set_option maxHeartbeats 16000000 in
theorem rgood7 (e1 e2 e3 e4 e5 e6 e7 e8 e9 e10 e11 e12 e13 e14 : Int) (w : World) : Calls Try.prog 34 #[.agg #[.int .i64 7, .int .i64 e1, .int .i64 e2, .int .i64 e3, .int .i64 e4, .int .i64 e5, .int .i64 e6, .int .i64 e7, .int .i64 e8, .int .i64 e9, .int .i64 e10, .int .i64 e11, .int .i64 e12, .int .i64 e13, .int .i64 e14]] w fun x w' => x = .returned (.bool (goodB ⟨7, e1, e2, e3, e4, e5, e6, e7, e8, e9, e10, e11, e12, e13, e14⟩)) ∧ Below w.heap.size w w' := by
  have HAL : Hid (Below w.heap.size w (w.alloc (.cells #[.int .i64 7, .int .i64 e1, .int .i64 e2, .int .i64 e3, .int .i64 e4, .int .i64 e5, .int .i64 e6, .int .i64 e7, .int .i64 e8, .int .i64 e9, .int .i64 e10, .int .i64 e11, .int .i64 e12, .int .i64 e13, .int .i64 e14] 30))) := below_al (Below.refl _ _) _
  have r1 := fun W => rid e1 W
  have r2 := fun W => rid e2 W
  have RT := Lib.hid (fun W => (rthreads 7 W : Calls Try.prog 45 #[.int .i64 7] W fun e w' => e = .returned (.bool false) ∧ W = w'))
  have RV := Lib.hid (fun W => (rvalues 7 W : Calls Try.prog 46 #[.int .i64 7] W fun e w' => e = .returned (.bool false) ∧ W = w'))
  cases h1 : inB true e1 1 1099511627776
  · simp only [h1] at r1
    rw [show goodB (⟨7, e1, e2, e3, e4, e5, e6, e7, e8, e9, e10, e11, e12, e13, e14⟩ : Ev) = false from by simp [goodB, tK, tA, tT, tV, tC, inB_f, h1]]
    have R1 := Lib.hid r1
    have R2 := Lib.hid r2
    clear r1 r2
    go_enter Try.func34, Try.ntmps34
    go_wp2_with (first
      | (go_at_call 55; (with_reducible refine (R1.out _).mono ?_); rintro e w' ⟨rfl, rfl⟩)
      | (go_at_call 55; (with_reducible refine (R2.out _).mono ?_); rintro e w' ⟨rfl, rfl⟩)
      | (go_at_call 45; (with_reducible refine (RT.out _).mono ?_); rintro e w' ⟨rfl, rfl⟩)
      | (go_at_call 46; (with_reducible refine (RV.out _).mono ?_); rintro e w' ⟨rfl, rfl⟩))
    go_ret
    exact ⟨rfl, HAL.out⟩
  · simp only [h1] at r1
    cases h2 : e2 == 0
    · have n2 : (e2 != 0) = true := by simp [bne, h2]
      rw [show goodB (⟨7, e1, e2, e3, e4, e5, e6, e7, e8, e9, e10, e11, e12, e13, e14⟩ : Ev) = false from by simp [goodB, tK, tA, tT, tV, tC, inB_f, h1, h2]]
      have R1 := Lib.hid r1
      have R2 := Lib.hid r2
      clear r1 r2
      go_enter Try.func34, Try.ntmps34
      go_wp2_with (first
        | (go_at_call 55; (with_reducible refine (R1.out _).mono ?_); rintro e w' ⟨rfl, rfl⟩)
        | (go_at_call 55; (with_reducible refine (R2.out _).mono ?_); rintro e w' ⟨rfl, rfl⟩)
        | (go_at_call 45; (with_reducible refine (RT.out _).mono ?_); rintro e w' ⟨rfl, rfl⟩)
        | (go_at_call 46; (with_reducible refine (RV.out _).mono ?_); rintro e w' ⟨rfl, rfl⟩))
      go_ret
      exact ⟨rfl, HAL.out⟩
    · have n2 : (e2 != 0) = false := by simp [bne, h2]
      cases h3 : e3 == 0
      · have n3 : (e3 != 0) = true := by simp [bne, h3]
        rw [show goodB (⟨7, e1, e2, e3, e4, e5, e6, e7, e8, e9, e10, e11, e12, e13, e14⟩ : Ev) = false from by simp [goodB, tK, tA, tT, tV, tC, inB_f, h1, h2, h3]]
        have R1 := Lib.hid r1
        have R2 := Lib.hid r2
        clear r1 r2
        go_enter Try.func34, Try.ntmps34
        go_wp2_with (first
          | (go_at_call 55; (with_reducible refine (R1.out _).mono ?_); rintro e w' ⟨rfl, rfl⟩)
          | (go_at_call 55; (with_reducible refine (R2.out _).mono ?_); rintro e w' ⟨rfl, rfl⟩)
          | (go_at_call 45; (with_reducible refine (RT.out _).mono ?_); rintro e w' ⟨rfl, rfl⟩)
          | (go_at_call 46; (with_reducible refine (RV.out _).mono ?_); rintro e w' ⟨rfl, rfl⟩))
        go_ret
        exact ⟨rfl, HAL.out⟩
      · have n3 : (e3 != 0) = false := by simp [bne, h3]
        have hcx := fun w => ctx_eq0 e4 e5 e6 e7 e8 e9 e10 e11 e12 e13 e14 w
        rw [show goodB (⟨7, e1, e2, e3, e4, e5, e6, e7, e8, e9, e10, e11, e12, e13, e14⟩ : Ev) = (e4 == 0 && (e5 == 0 && ((e6 == 0 && (e7 == 0 && (e8 == 0 && (e9 == 0 && (e10 == 0 && (e11 == 0 && (e12 == 0 && e13 == 0))))))) && e14 == 0))) from by simp [goodB, tK, tA, tT, tV, tC, inB_f, ctx0, h1, h2, h3]]
        generalize (e4 == 0 && (e5 == 0 && ((e6 == 0 && (e7 == 0 && (e8 == 0 && (e9 == 0 && (e10 == 0 && (e11 == 0 && (e12 == 0 && e13 == 0))))))) && e14 == 0))) = bx at hcx ⊢
        have R1 := Lib.hid r1
        have R2 := Lib.hid r2
        clear r1 r2
        go_enter Try.func34, Try.ntmps34
        go_wp2_with (first
          | (go_at_call 55; (with_reducible refine (R1.out _).mono ?_); rintro e w' ⟨rfl, rfl⟩)
          | (go_at_call 55; (with_reducible refine (R2.out _).mono ?_); rintro e w' ⟨rfl, rfl⟩)
          | (go_at_call 45; (with_reducible refine (RT.out _).mono ?_); rintro e w' ⟨rfl, rfl⟩)
          | (go_at_call 46; (with_reducible refine (RV.out _).mono ?_); rintro e w' ⟨rfl, rfl⟩))
        go_ret
        exact ⟨rfl, below_al HAL.out _⟩
end Go.Proofs.Ytdnddoiemaifjaa
