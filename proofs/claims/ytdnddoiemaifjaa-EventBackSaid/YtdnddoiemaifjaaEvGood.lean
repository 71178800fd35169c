/- Package event: tells, in, Fits, Good, Up: of any event. -/
import Derived.Test.YtdnddoiemaifjaaEvSame
import Derived.Test.YtdnddoiemaifjaaChg
namespace Go.Proofs.Ytdnddoiemaifjaa
open Go.RowKit
def inB (t : Bool) (n a b : Int) : Bool := if t then decide (a ≤ n) && decide (n ≤ b) else n == 0
def tA (k : Int) : Bool := k == 1 || k == 6 || k == 7 || k == 3 || k == 2 || k == 4
def tT (k : Int) : Bool := k == 3 || k == 2 || k == 4
def tV (k : Int) : Bool := k == 4 || k == 5
def tC (k : Int) : Bool := k == 2
def tK (k : Int) : Bool := k == 1 || k == 6 || k == 7 || k == 3 || k == 2 || k == 4 || k == 5
def fitsB (e : Ev) : Bool := inB true e.program 0 7 && inB true e.pc 0 64 && inB true e.depth 0 8
def ctx0 (e : Ev) : Bool := e.program == 0 && (e.pc == 0 && ((e.r0 == 0 && (e.r1 == 0 && (e.r2 == 0 && (e.r3 == 0 && (e.r4 == 0 && (e.r5 == 0 && (e.r6 == 0 && e.r7 == 0))))))) && e.depth == 0))
def goodB (e : Ev) : Bool := tK e.kind && (inB (tA e.kind) e.act 1 1099511627776 && (inB (tT e.kind) e.thread 1 1099511627776 && (inB (tV e.kind) e.value 0 1000 && if tC e.kind then fitsB e else ctx0 e)))
set_option maxHeartbeats 2000000 in
theorem ein (t : Bool) (n a b : Int) (w : World) : Calls Try.prog 40 #[.bool t, .int .i64 n, .int .i64 a, .int .i64 b] w fun e w' => e = .returned (.bool (inB t n a b)) ∧ w = w' := by
  cases t
  · have e1 : inB false n a b = (n == 0) := rfl
    rw [e1]
    go_enter Try.func40, Try.ntmps40
    go_wp2
    go_ret
    exact ⟨rfl, rfl⟩
  · have e1 : inB true n a b = (decide (a ≤ n) && decide (n ≤ b)) := rfl
    rw [e1]
    by_cases h1 : a ≤ n
    · have d1 : decide (a ≤ n) = true := decide_eq_true h1
      rw [d1, Bool.true_and]
      go_enter Try.func40, Try.ntmps40
      go_wp2
      go_ret
      exact ⟨rfl, rfl⟩
    · have d1 : decide (a ≤ n) = false := decide_eq_false h1
      rw [d1, Bool.false_and]
      clear h1
      go_enter Try.func40, Try.ntmps40
      go_wp2
      go_ret
      exact ⟨rfl, rfl⟩
set_option maxRecDepth 100000 in
set_option maxHeartbeats 8000000 in
theorem etells (k : Int) (w : World) : Calls Try.prog 39 #[.int .i64 k] w fun e w' => e = .returned (.tuple #[.agg #[.bool (tA k), .bool (tT k), .bool (tV k), .bool (tC k)], .bool (tK k)]) ∧ Below w.heap.size w w' := by
  have one : ∀ k : Int, (k = 1 ∨ k = 2 ∨ k = 3 ∨ k = 4 ∨ k = 5 ∨ k = 6 ∨ k = 7) ∨ (k ≠ 1 ∧ k ≠ 2 ∧ k ≠ 3 ∧ k ≠ 4 ∧ k ≠ 5 ∧ k ≠ 6 ∧ k ≠ 7) := by omega
  rcases one k with h | ⟨h1, h2, h3, h4, h5, h6, h7⟩
  · rcases h with rfl | rfl | rfl | rfl | rfl | rfl | rfl
    all_goals
      simp only [tA, tT, tV, tC, tK, Int.reduceBEq, Bool.or_false, Bool.or_true]
      go_enter Try.func39, Try.ntmps39
      go_wp2
      exact bodyPost_ret (v := .tuple #[.agg #[.bool _, .bool _, .bool _, .bool _], .bool _]) (by simp [results, Try.results39, go_sem]) rfl ⟨rfl, below_al (Below.refl _ _) _⟩
  · have g1 : (k == 1) = false := by simpa using h1
    have g2 : (k == 2) = false := by simpa using h2
    have g3 : (k == 3) = false := by simpa using h3
    have g4 : (k == 4) = false := by simpa using h4
    have g5 : (k == 5) = false := by simpa using h5
    have g6 : (k == 6) = false := by simpa using h6
    have g7 : (k == 7) = false := by simpa using h7
    simp only [tA, tT, tV, tC, tK, g1, g2, g3, g4, g5, g6, g7, Bool.or_false]
    clear h1 h2 h3 h4 h5 h6 h7 one
    go_enter Try.func39, Try.ntmps39
    go_wp2
    exact bodyPost_ret (v := .tuple #[.agg #[.bool false, .bool false, .bool false, .bool false], .bool false]) (by simp [results, Try.results39, go_sem]) rfl ⟨rfl, below_al (Below.refl _ _) _⟩
set_option maxRecDepth 100000 in
set_option maxHeartbeats 8000000 in
theorem efits (a4 a5 a6 a7 a8 a9 a10 a11 a12 a13 a14 : Int) (w : World) : Calls Try.prog 41 #[.agg #[.int .i64 a4, .int .i64 a5, .int .i64 a6, .int .i64 a7, .int .i64 a8, .int .i64 a9, .int .i64 a10, .int .i64 a11, .int .i64 a12, .int .i64 a13, .int .i64 a14]] w fun e w' => e = .returned (.bool (inB true a4 0 7 && inB true a5 0 64 && inB true a14 0 8)) ∧ Below w.heap.size w w' := by
  have H1 := Lib.hid (fun W => ein true a4 0 7 W)
  have H2 := Lib.hid (fun W => ein true a5 0 64 W)
  have H3 := Lib.hid (fun W => ein true a14 0 8 W)
  generalize inB true a4 0 7 = b1 at H1 ⊢
  generalize inB true a5 0 64 = b2 at H2 ⊢
  generalize inB true a14 0 8 = b3 at H3 ⊢
  have hal : Below w.heap.size w (w.alloc (.cells #[.int .i64 a4, .int .i64 a5, .int .i64 a6, .int .i64 a7, .int .i64 a8, .int .i64 a9, .int .i64 a10, .int .i64 a11, .int .i64 a12, .int .i64 a13, .int .i64 a14] 28)) := below_al (Below.refl _ _) _
  have HAL := Lib.hid hal
  clear hal
  cases b1 <;> cases b2 <;> cases b3
  all_goals
    go_enter Try.func41, Try.ntmps41
    go_wp2_with (first
      | (go_at_call 40; (with_reducible refine (H1.out _).mono ?_); rintro e w' ⟨rfl, rfl⟩)
      | (go_at_call 40; (with_reducible refine (H2.out _).mono ?_); rintro e w' ⟨rfl, rfl⟩)
      | (go_at_call 40; (with_reducible refine (H3.out _).mono ?_); rintro e w' ⟨rfl, rfl⟩))
    go_ret
    exact ⟨rfl, HAL.out⟩
set_option maxRecDepth 100000 in
set_option maxHeartbeats 8000000 in
theorem eqRegs0 (d : Nat) (a0 a1 a2 a3 a4 a5 a6 a7 : Int) (w : World) : (Op.equalIn (d + 1 + 1) 26 (.agg #[.int .i64 a0, .int .i64 a1, .int .i64 a2, .int .i64 a3, .int .i64 a4, .int .i64 a5, .int .i64 a6, .int .i64 a7]) (.agg #[.int .i64 0, .int .i64 0, .int .i64 0, .int .i64 0, .int .i64 0, .int .i64 0, .int .i64 0, .int .i64 0])).run Try.prog w = .ok (a0 == 0 && (a1 == 0 && (a2 == 0 && (a3 == 0 && (a4 == 0 && (a5 == 0 && (a6 == 0 && a7 == 0))))))) w := by
  rw [Op.equalIn]
  simp only [Sem.run_bind, run_underlying Try.underlying26, Result.andThen_ok]
  simp only [Std.Legacy.Range.forIn_eq_forIn_range', Std.Legacy.Range.size, Nat.sub_zero, Nat.add_sub_cancel, Nat.div_one, List.range'_succ, List.range'_zero, List.forIn_cons, List.forIn_nil]
  cases h0 : a0 == 0
  · go_simp
  · cases h1 : a1 == 0
    · go_simp
    · cases h2 : a2 == 0
      · go_simp
      · cases h3 : a3 == 0
        · go_simp
        · cases h4 : a4 == 0
          · go_simp
          · cases h5 : a5 == 0
            · go_simp
            · cases h6 : a6 == 0
              · go_simp
              · cases h7 : a7 == 0
                · go_simp
                · go_simp
end Go.Proofs.Ytdnddoiemaifjaa
