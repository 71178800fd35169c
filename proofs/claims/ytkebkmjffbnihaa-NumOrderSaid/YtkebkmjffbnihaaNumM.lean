/- Package num: MulDiv, Gcd; wherrylaw01.lives. -/
import Derived.Test.YtkebkmjffbnihaaNumI
import Derived.Test.YtkebkmjffbnihaaNumD
import Derived.Test.YtkebkmjffbnihaaDiv64
namespace Go.Proofs.Ytkebkmjffbnihaa
open Go.RowKit
theorem bdiv64_any (hi lo y : Nat) (w : World) (hlo : lo < 18446744073709551616) (hy : y < 18446744073709551616) (hh : hi < y) :
    Calls Try.prog 32 #[.int .u64 hi, .int .u64 lo, .int .u64 y] w fun e w' => e = .returned (.tuple #[.int .u64 (((hi * 18446744073709551616 + lo) / y : Nat) : Int), .int .u64 (((hi * 18446744073709551616 + lo) % y : Nat) : Int)]) ∧ ∃ n, w' = w.drewN n := by
  rcases Nat.eq_zero_or_pos hi with rfl | h
  · have := bdiv64_0 lo y w hlo (by omega) hy
    simpa using this
  · exact bdiv64 hi lo y w h hlo hy hh
/-- A number whose size is one word. -/
theorem wide_of (neg : Bool) (q : Nat) (hq : q < 18446744073709551616) : Value.agg #[.bool (neg && decide (0 < q)), .int .u64 0, .int .u64 q] = wideV (if neg then -(q : Int) else q) := by
  unfold wideV hiN loN
  cases neg
  · have h1 : ¬ (q : Int) < 0 := by omega
    simp [h1]
    omega
  · by_cases h0 : 0 < q
    · have h1 : -(q : Int) < 0 := by omega
      simp [h0]
      omega
    · have h2 : q = 0 := by omega
      subst h2
      simp
/-- The floor of a quotient, of sizes. -/
theorem floor_of (p : Int) (c : Nat) (hc : 0 < c) : p / (c : Int) = if p < 0 then (if p.natAbs % c = 0 then -((p.natAbs / c : Nat) : Int) else -((p.natAbs / c + 1 : Nat) : Int)) else ((p.natAbs / c : Nat) : Int) := by
  by_cases hp : p < 0
  · rw [if_pos hp]
    have hd := Nat.div_add_mod p.natAbs c
    have hm := Nat.mod_lt p.natAbs hc
    have e : p = -((c * (p.natAbs / c) + p.natAbs % c : Nat) : Int) := by rw [hd]; omega
    generalize p.natAbs / c = q at *
    generalize p.natAbs % c = r at *
    rw [e]
    split
    · rename_i h0
      subst h0
      rw [Nat.add_zero, Int.natCast_mul, ← Int.mul_neg, Int.mul_ediv_cancel_left _ (by omega)]
    · rename_i h0
      have hc0 : (c : Int) ≠ 0 := by omega
      have e2 : -((c * q + r : Nat) : Int) = ((c : Int) - r) + (c : Int) * (-((q + 1 : Nat) : Int)) := by
        push_cast
        rw [Int.mul_neg, Int.mul_add]
        omega
      rw [e2, Int.add_mul_ediv_left _ _ hc0, Int.ediv_eq_zero_of_lt (by omega) (by omega), Int.zero_add]
  · rw [if_neg hp]
    have e : p = ((p.natAbs : Nat) : Int) := by omega
    rw [e, ← Int.natCast_ediv]
    simp
def mulDivV (a b c : Int) : Int := a * b / c
theorem not_fit_big {p : Int} {c : Nat} (hc : 0 < c) (h : c ≤ hiN p) : ¬ I64 (p / (c : Int)) := by
  have h1 := abs_hl p
  have h2 : 18446744073709551616 ≤ p.natAbs / c := by
    rw [Nat.le_div_iff_mul_le hc]
    have : c * 18446744073709551616 ≤ hiN p * 18446744073709551616 := Nat.mul_le_mul_right _ h
    rw [Nat.mul_comm]
    omega
  rw [floor_of p c hc]
  unfold I64
  split <;> (try split) <;> omega
set_option maxRecDepth 100000 in
set_option maxHeartbeats 2000000 in
theorem nmuldiv (a b c : Int) (ha : I64 a) (hb : I64 b) (hc : I64 c) (w : World) : Calls Try.prog 11 #[.int .i64 a, .int .i64 b, .int .i64 c] w fun e w' => e = .returned (.tuple #[.int .i64 (if c < 1 then 0 else fitV (mulDivV a b c)), .bool (decide (1 ≤ c) && fitB (mulDivV a b c))]) ∧ Below w.heap.size w w' := by
  by_cases h1 : c < 1
  · have h2 : decide (1 ≤ c) = false := by simp; omega
    rw [if_pos h1, h2]
    clear ha hb hc h2
    go_enter Try.func11, Try.ntmps11
    go_wp2
    go_ret2
    exact ⟨rfl, Below.refl _ _⟩
  · have h2 : decide (1 ≤ c) = true := by simp; omega
    rw [if_neg h1, h2, Bool.true_and]
    obtain ⟨k, rfl⟩ : ∃ k : Nat, c = k := ⟨c.toNat, by omega⟩
    have hk0 : 0 < k := by omega
    have hk1 : Hid (k < 18446744073709551616) := by show _ < _; unfold I64 at hc; omega
    have HPR := Lib.hid (fun W => nproduct a b ha hb W)
    unfold mulDivV
    have hl := lo_lt (a * b)
    have HAB := Lib.hid (abs_hl (a * b))
    generalize a * b = p at *
    have HFL := Lib.hid (floor_of p k hk0)
    have HNF := Lib.hid (fun h => not_fit_big (p := p) hk0 h)
    have HHL := Lib.hid hl
    unfold wideV at HPR
    have hC : IntKind.u64.wrap (k : Int) = (k : Int) := Mul64.wrapN _ hk1.out
    by_cases h3 : k ≤ hiN p
    · have hf := fit_no (HNF.out h3)
      rw [hf.1, hf.2]
      generalize hiN p = h at *
      generalize loN p = l at *
      generalize decide (p < 0) = sg at *
      clear ha hb hc h2 hl hf h1
      go_enter Try.func11, Try.ntmps11
      go_wp2_with ((with_reducible refine (HPR.out _).mono ?_); rintro e w1 ⟨rfl, hb1⟩)
      go_ret2
      exact ⟨rfl, below_al hb1 _⟩
    · have h4 : hiN p < k := by omega
      have HD := Lib.hid (fun W => bdiv64_any (hiN p) (loN p) k W hl hk1.out h4)
      rw [← HAB.out] at HD
      have hqs : Hid (p.natAbs / k < 18446744073709551616) := by
        show _ < _
        rw [Nat.div_lt_iff_lt_mul hk0, HAB.out]
        have h5 := HHL.out
        have : (hiN p + 1) * 18446744073709551616 ≤ k * 18446744073709551616 := Nat.mul_le_mul_right _ h4
        rw [Nat.mul_comm 18446744073709551616]
        omega
      generalize hiN p = h at *
      generalize loN p = l at *
      generalize hq : p.natAbs / k = q at *
      generalize hr : p.natAbs % k = r at *
      by_cases hp : p < 0
      · have hd : decide (p < 0) = true := by simp [hp]
        rw [hd] at HPR
        by_cases hr0 : r = 0
        · subst hr0
          have hv : Hid (p / (k : Int) = -(q : Int)) := by have := HFL.out; rw [if_pos hp, if_pos rfl] at this; exact this
          rw [hv.out]
          have HI := Lib.hid (fun W => nint (-(q : Int)) W)
          have HWD : Hid (Value.agg #[.bool (decide (0 < q)), .int .u64 0, .int .u64 q] = wideV (-(q : Int))) := wide_of true q hqs.out
          rw [← HWD.out] at HI
          clear ha hb hc h2 hl h1 hp hd hk0 h3
          by_cases q0 : 0 < q
          all_goals
            have hqd : decide (0 < q) = decide (0 < q) := rfl
            conv at hqd => rhs; simp only [q0, decide_true, decide_false]
            rw [hqd] at HI
            clear hqd
            go_enter Try.func11, Try.ntmps11
            go_wp2_with (first | ((with_reducible refine (HPR.out _).mono ?_); rintro e w1 ⟨rfl, hb1⟩) | ((with_reducible refine (HD.out _).mono ?_); rintro e w2 ⟨rfl, n2, rfl⟩) | ((with_reducible refine (HI.out _).mono ?_); rintro e w3 ⟨rfl, hb3⟩))
            go_ret2
            exact ⟨rfl, below_tr (below_al (below_dr (below_al hb1 _) n2) _) hb3⟩
        · have hv : Hid (p / (k : Int) = -((q + 1 : Nat) : Int)) := by have := HFL.out; rw [if_pos hp, if_neg hr0] at this; exact this
          rw [hv.out]
          have hrp : 0 < r := by omega
          by_cases hq1 : q = 18446744073709551615
          · have hf := fit_no (show ¬ I64 (-((q + 1 : Nat) : Int)) by unfold I64; omega)
            rw [hf.1, hf.2]
            have hwq : IntKind.u64.wrap ((q : Int) + 1) = 0 := by rw [IntKind.wrap_u64]; omega
            clear ha hb hc h2 hl h1 hp hd hk0 h3 hf hq1 hr0
            go_enter Try.func11, Try.ntmps11
            go_wp2_with (first | ((with_reducible refine (HPR.out _).mono ?_); rintro e w1 ⟨rfl, hb1⟩) | ((with_reducible refine (HD.out _).mono ?_); rintro e w2 ⟨rfl, n2, rfl⟩))
            go_ret2
            exact ⟨rfl, below_dr (below_al hb1 _) n2⟩
          · have HI := Lib.hid (fun W => nint (-((q + 1 : Nat) : Int)) W)
            have HWD : Hid (Value.agg #[.bool true, .int .u64 0, .int .u64 ((q : Int) + 1)] = wideV (-((q + 1 : Nat) : Int))) := by
              have := wide_of true (q + 1) (by have := hqs.out; omega)
              show _ = _
              have e : ((q + 1 : Nat) : Int) = (q : Int) + 1 := by omega
              simp only [Bool.true_and, if_true, decide_eq_true (Nat.succ_pos q)] at this
              rw [← e]
              exact this
            rw [← HWD.out] at HI
            have hwq : IntKind.u64.wrap ((q : Int) + 1) = (q : Int) + 1 := by have := hqs.out; rw [IntKind.wrap_u64]; omega
            have hqb : (((q : Int) + 1) == 0) = false := by simp; omega
            clear ha hb hc h2 hl h1 hp hd hk0 h3 hq1 hr0
            go_enter Try.func11, Try.ntmps11
            go_wp2_with (first | ((with_reducible refine (HPR.out _).mono ?_); rintro e w1 ⟨rfl, hb1⟩) | ((with_reducible refine (HD.out _).mono ?_); rintro e w2 ⟨rfl, n2, rfl⟩) | ((with_reducible refine (HI.out _).mono ?_); rintro e w3 ⟨rfl, hb3⟩))
            go_ret2
            exact ⟨rfl, below_tr (below_al (below_dr (below_al hb1 _) n2) _) hb3⟩
      · have hd : decide (p < 0) = false := by simp [hp]
        rw [hd] at HPR
        have hv : Hid (p / (k : Int) = (q : Int)) := by have := HFL.out; rw [if_neg hp] at this; exact this
        rw [hv.out]
        have HI := Lib.hid (fun W => nint (q : Int) W)
        have HWD : Hid (Value.agg #[.bool false, .int .u64 0, .int .u64 q] = wideV (q : Int)) := wide_of false q hqs.out
        rw [← HWD.out] at HI
        clear ha hb hc h2 hl h1 hp hd hk0 h3
        go_enter Try.func11, Try.ntmps11
        go_wp2_with (first | ((with_reducible refine (HPR.out _).mono ?_); rintro e w1 ⟨rfl, hb1⟩) | ((with_reducible refine (HD.out _).mono ?_); rintro e w2 ⟨rfl, n2, rfl⟩) | ((with_reducible refine (HI.out _).mono ?_); rintro e w3 ⟨rfl, hb3⟩))
        go_ret2
        exact ⟨rfl, below_tr (below_al (below_dr (below_al hb1 _) n2) _) hb3⟩
end Go.Proofs.Ytkebkmjffbnihaa
