/- Package num: Div. -/
import Derived.Test.YtkebkmjffbnihaaRows
import Derived.Test.YtkebkmjffbnihaaBase
import Derived.Test.YtkebkmjffbnihaaWide
namespace Go.Proofs.Ytkebkmjffbnihaa
open Go.RowKit
def divB (a b : Int) : Bool := decide (b ≠ 0) && !(decide (a = -9223372036854775808) && decide (b = -1))
/-- The whole number not above a / b, and the rest. -/
structure DivR (a b q r : Int) : Prop where
  eq : a = q * b + r
  pos : 0 < b → 0 ≤ r ∧ r < b
  neg : b < 0 → b < r ∧ r ≤ 0
theorem tdiv_facts {a b : Int} (ha : I64 a) (hb : I64 b) (h : divB a b = true) : b ≠ 0 ∧ I64 (a.tdiv b) ∧ a = a.tdiv b * b + a.tmod b ∧ (a.tmod b).natAbs < b.natAbs ∧ (0 ≤ a → 0 ≤ a.tmod b) ∧ (a ≤ 0 → a.tmod b ≤ 0) := by
  have hb0 : b ≠ 0 := by unfold divB at h; simp at h; exact h.1
  have h1 : a = a.tdiv b * b + a.tmod b := by have := Int.mul_tdiv_add_tmod a b; rw [Int.mul_comm] at this; exact this.symm
  have h2 : (a.tmod b).natAbs < b.natAbs := by rw [Int.natAbs_tmod]; exact Nat.mod_lt _ (by omega)
  have h3 : 0 ≤ a → 0 ≤ a.tmod b := fun h => Int.tmod_nonneg _ h
  have h4 : a ≤ 0 → a.tmod b ≤ 0 := fun h => by
    have := Int.tmod_nonneg b (a := -a) (by omega)
    rw [Int.neg_tmod] at this
    omega
  have h5 : (a.tdiv b).natAbs = a.natAbs / b.natAbs := Int.natAbs_tdiv a b
  refine ⟨hb0, ?_, h1, h2, h3, h4⟩
  have ha' := abs_lt ha
  by_cases q1 : b.natAbs = 1
  · rcases Int.natAbs_eq b with e | e
    · rw [q1] at e
      subst e
      simpa using ha
    · rw [q1] at e
      have e2 : b = -1 := by omega
      subst e2
      have : a ≠ -9223372036854775808 := by unfold divB at h; simp at h; exact h
      simp
      unfold I64 at *
      omega
  · have : a.natAbs / b.natAbs ≤ a.natAbs / 2 := Nat.div_le_div_left (by omega) (by omega)
    unfold I64
    omega
def wantMove (b r : Int) : Bool := decide (r ≠ 0) && (decide (r < 0) != decide (b < 0))
theorem div_move {a b q r : Int} (_hb : b ≠ 0) (h1 : a = q * b + r) (h2 : r.natAbs < b.natAbs) (hm : wantMove b r = true) : DivR a b (q - 1) (r + b) := by
  unfold wantMove at hm
  simp only [Bool.and_eq_true, decide_eq_true_eq, bne_iff_ne, ne_eq, decide_eq_decide] at hm
  obtain ⟨m1, m2⟩ := hm
  refine ⟨by rw [h1, Int.sub_mul]; omega, fun h => ?_, fun h => ?_⟩
  · have : r < 0 := by
      apply Classical.byContradiction
      intro hr
      exact m2 ⟨fun h' => absurd h' hr, fun h' => by omega⟩
    omega
  · have : 0 < r := by
      apply Classical.byContradiction
      intro hr
      exact m2 ⟨fun _ => h, fun _ => by omega⟩
    omega
theorem div_stay {a b q r : Int} (_hb : b ≠ 0) (h1 : a = q * b + r) (h2 : r.natAbs < b.natAbs) (hm : wantMove b r = false) : DivR a b q r := by
  unfold wantMove at hm
  refine ⟨h1, fun h => ?_, fun h => ?_⟩
  · have hb' : ¬ b < 0 := by omega
    by_cases hr : r < 0
    · have : r ≠ 0 := by omega
      simp [hr, hb', this] at hm
    · omega
  · by_cases hr : r < 0
    · omega
    · by_cases h0 : r = 0
      · omega
      · simp [hr, h, h0] at hm
set_option maxHeartbeats 1000000 in
theorem ndiv_no (a b : Int) (h : divB a b = false) (w : World) : Calls Try.prog 9 #[.int .i64 a, .int .i64 b] w fun e w' => e = .returned (.tuple #[.int .i64 0, .int .i64 0, .bool false]) ∧ w = w' := by
  have hc : b = 0 ∨ (a = -9223372036854775808 ∧ b = -1) := by
    unfold divB at h
    by_cases hb : b = 0
    · exact .inl hb
    · simp [hb] at h
      exact .inr h
  clear h
  rcases hc with rfl | ⟨rfl, rfl⟩
  all_goals
    go_enter Try.func9, Try.ntmps9
    go_wp2
    go_ret3
    exact ⟨rfl, rfl⟩
set_option maxHeartbeats 1000000 in
theorem ndiv (a b : Int) (ha : I64 a) (hb : I64 b) (h : divB a b = true) (w : World) : Calls Try.prog 9 #[.int .i64 a, .int .i64 b] w fun e w' => (∃ q r, e = .returned (.tuple #[.int .i64 q, .int .i64 r, .bool true]) ∧ DivR a b q r) ∧ ∃ n, w' = w.drewN n := by
  obtain ⟨hb0, hq, h1, h2, h3, h4⟩ := tdiv_facts ha hb h
  have b0 : (b == 0) = false := by simp [hb0]
  have hov : (a == -9223372036854775808) = true → (b == -1) = false := by
    intro h1
    have h1 : a = -9223372036854775808 := by simpa using h1
    unfold divB at h
    simp only [Bool.and_eq_true, Bool.not_eq_true', Bool.and_eq_false_iff, decide_eq_true_eq, decide_eq_false_iff_not] at h
    rcases h.2 with h2 | h2
    · exact absurd h1 h2
    · simp [h2]
  have D1 := Lib.hid (fun hm : wantMove b (a.tmod b) = true => div_move hb0 h1 h2 hm)
  have D2 := Lib.hid (fun hm : wantMove b (a.tmod b) = false => div_stay hb0 h1 h2 hm)
  have hI : I64 (a.tdiv b - 1) ∨ wantMove b (a.tmod b) = false := by
    by_cases hm : wantMove b (a.tmod b) = true
    · left
      have h6 : (a.tdiv b).natAbs = a.natAbs / b.natAbs := Int.natAbs_tdiv a b
      have h5 : b.natAbs ≠ 1 := by
        intro e
        have : a.tmod b = 0 := by omega
        unfold wantMove at hm
        simp [this] at hm
      have h7 : a.natAbs / b.natAbs ≤ a.natAbs / 2 := Nat.div_le_div_left (by omega) (by omega)
      have := abs_lt ha
      unfold I64
      omega
    · right; simpa using hm
  have hw : wantMove b (a.tmod b) = (decide (a.tmod b ≠ 0) && (decide (a.tmod b < 0) != decide (b < 0))) := rfl
  have hR : I64 (a.tmod b) := by unfold I64 at *; omega
  have hRb : wantMove b (a.tmod b) = true → I64 (a.tmod b + b) := by
    intro hm
    have := div_move hb0 h1 h2 hm
    have h5 := this.pos
    have h6 := this.neg
    unfold I64 at *
    omega
  clear h1 h2 h3 h4 h
  obtain ⟨q0, hq0⟩ : ∃ q0, a.tdiv b = q0 := ⟨_, rfl⟩
  obtain ⟨r0, hr0⟩ : ∃ r0, a.tmod b = r0 := ⟨_, rfl⟩
  rw [hq0] at hq hI D1 D2
  rw [hr0] at hw hR D1 D2 hI hRb
  have hA := ha
  have hB := hb
  unfold I64 at hq hR
  have HW := Lib.hid hw
  have HRB := Lib.hid hRb
  have HI := Lib.hid hI
  clear hw hRb hI ha hb hA hB
  have bz : (r0 == 0) = decide (r0 = 0) := by rw [Bool.eq_iff_iff]; simp
  cases ha1 : (a == -9223372036854775808)
  all_goals
    have hb1 : (a == -9223372036854775808) = true → (b == -1) = false := hov
    clear hov
    try rw [ha1] at hb1
    try (have hb1 := hb1 rfl)
    by_cases s0 : r0 = 0 <;> by_cases s1 : r0 < 0 <;> by_cases s2 : b < 0
  all_goals first
    | (exfalso; omega)
    | skip
  all_goals
    have d1 : decide (r0 < 0) = decide (r0 < 0) := rfl
    have d2 : decide (b < 0) = decide (b < 0) := rfl
    have d0 : (r0 != 0) = !decide (r0 = 0) := by rw [Bool.eq_iff_iff]; simp
    conv at d1 => rhs; simp only [s1, decide_true, decide_false]
    conv at d2 => rhs; simp only [s2, decide_true, decide_false]
    conv at d0 => rhs; simp only [s0, decide_true, decide_false, Bool.not_true, Bool.not_false]
    have hwm := HW.out
    rw [d1, d2] at hwm
    conv at hwm => rhs; simp only [ne_eq, s0, not_true_eq_false, not_false_eq_true, decide_true, decide_false, Bool.true_and, Bool.false_and, bne_self_eq_false, Bool.true_bne, Bool.false_bne, Bool.not_true, Bool.not_false]
    clear HW bz s0
    first
    | (have hri := HRB.out hwm
       have hqi : I64 (q0 - 1) := by rcases HI.out with h | h; exact h; rw [hwm] at h; cases h
       have HD := Lib.hid (D1.out hwm)
       unfold I64 at hri hqi
       clear D1 D2 HRB HI hwm)
    | (have HD := Lib.hid (D2.out hwm)
       clear D1 D2 HRB HI hwm)
    go_enter Try.func9, Try.ntmps9
    go_wp2
    go_quiet (fail)
    go_wp2
    go_ret3
    exact ⟨⟨_, _, rfl, HD.out⟩, _, rfl⟩
end Go.Proofs.Ytkebkmjffbnihaa
