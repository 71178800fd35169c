/- Package num: sizes, products. -/
import Derived.Test.YtnacfpkagomfaaaRows
import Derived.Test.YtnacfpkagomfaaaBase
import Derived.Test.YtnacfpkagomfaaaWide
import Derived.Lib.Mul64
import Derived.Laws.Bits64b
import Derived.Shelf.Bits.Mul64
import Derived.Laws.StructEq
namespace Go.Proofs.Ytnacfpkagomfaaa
open Go.RowKit
theorem u64_neg {a : Int} (h : I64 a) (hn : a < 0) : IntKind.u64.wrap (- IntKind.u64.wrap a) = (a.natAbs : Int) := by
  unfold I64 at h
  rw [IntKind.wrap_u64, IntKind.wrap_u64]
  omega
theorem u64_pos {a : Int} (h : I64 a) (hn : ¬ a < 0) : IntKind.u64.wrap a = (a.natAbs : Int) := by
  unfold I64 at h
  rw [IntKind.wrap_u64]
  omega
set_option maxHeartbeats 400000 in
theorem nsize (a : Int) (h : I64 a) (w : World) : Calls Try.prog 60 #[.int .i64 a] w fun e w' => e = .returned (.int .u64 (a.natAbs : Int)) ∧ w = w' := by
  by_cases hn : a < 0
  · have H := Lib.hid (u64_neg h hn)
    clear h
    go_enter Try.func60, Try.ntmps60
    go_wp2
    go_ret
    exact ⟨ret_int H.out, rfl⟩
  · have H := Lib.hid (u64_pos h hn)
    clear h
    go_enter Try.func60, Try.ntmps60
    go_wp2
    go_ret
    exact ⟨ret_int H.out, rfl⟩
set_option maxHeartbeats 1000000 in
theorem bmul64 (x y : Nat) (hx : x < 18446744073709551616) (hy : y < 18446744073709551616) (w : World) :
    Calls Try.prog 29 #[.int .u64 x, .int .u64 y] w fun e w' => e = .returned (.tuple #[.int .u64 ((x * y / 18446744073709551616 : Nat) : Int), .int .u64 ((x * y % 18446744073709551616 : Nat) : Int)]) ∧ w = w' := by
  obtain ⟨bd, bt, bw, hhi⟩ := Lib.mul64_hi x y hx hy
  have ba := Lib.half_mul_le (a := x / 4294967296) (b := y / 4294967296) (by omega) (by omega)
  have bb := Lib.half_mul_le (a := x / 4294967296) (b := y % 4294967296) (by omega) (by omega)
  have bc := Lib.half_mul_le (a := x % 4294967296) (b := y / 4294967296) (by omega) (by omega)
  have ba' : x / 4294967296 * (y / 4294967296) < 18446744073709551616 := by omega
  have bb' : x / 4294967296 * (y % 4294967296) < 18446744073709551616 := by omega
  have bc' : x % 4294967296 * (y / 4294967296) < 18446744073709551616 := by omega
  have bh1 : x / 4294967296 * (y / 4294967296) + (x / 4294967296 * (y % 4294967296) + x % 4294967296 * (y % 4294967296) / 4294967296) / 4294967296 < 18446744073709551616 := by omega
  have bh : x / 4294967296 * (y / 4294967296) + (x / 4294967296 * (y % 4294967296) + x % 4294967296 * (y % 4294967296) / 4294967296) / 4294967296 + ((x / 4294967296 * (y % 4294967296) + x % 4294967296 * (y % 4294967296) / 4294967296) % 4294967296 + x % 4294967296 * (y / 4294967296)) / 4294967296 < 18446744073709551616 := by omega
  go_enter Try.func29, Try.ntmps29
  go_wp2
  simp only [Mul64.maskN x hx, Mul64.maskN y hy, Mul64.divN, Mul64.mulN, Mul64.addN, Mul64.wrapN _ bd, Mul64.wrapN _ bb', Mul64.wrapN _ bt, Mul64.maskN _ bt, Mul64.wrapN _ bc', Mul64.wrapN _ bw, Mul64.wrapN _ ba', Mul64.wrapN _ bh1, Mul64.wrapN _ bh, Mul64.wrapM (x * y)]
  rw [hhi]
  go_ret2
  exact ⟨rfl, rfl⟩
set_option maxHeartbeats 1000000 in
theorem nproduct (a b : Int) (ha : I64 a) (hb : I64 b) (w : World) : Calls Try.prog 53 #[.int .i64 a, .int .i64 b] w fun e w' => e = .returned (wideV (a * b)) ∧ Below w.heap.size w w' := by
  have HA := Lib.hid (nsize a ha)
  have HB := Lib.hid (nsize b hb)
  have h1 := abs_lt ha
  have h2 := abs_lt hb
  have HM := Lib.hid (bmul64 a.natAbs b.natAbs (by omega) (by omega))
  rw [← Int.natAbs_mul] at HM
  have HN := Lib.hid (neg_mul a b)
  have HP := Lib.hid (abs_hl (a * b))
  unfold wideV
  generalize hp : a * b = p at *
  have e1 : p.natAbs / 18446744073709551616 = hiN p := rfl
  have e2 : p.natAbs % 18446744073709551616 = loN p := rfl
  rw [e1, e2] at HM
  generalize hiN p = h at HM HP ⊢
  generalize loN p = l at HM HP ⊢
  by_cases hz : h = 0 ∧ l = 0
  · obtain ⟨rfl, rfl⟩ := hz
    have hp0 : decide (p < 0) = false := by have := HP.out; simp; omega
    rw [hp0]
    clear hp0 ha hb h1 h2 e1 e2
    go_enter Try.func53, Try.ntmps53
    go_wp2_with (first | (with_reducible refine (HA.out _).mono ?_; rintro e w1 ⟨rfl, rfl⟩) | (with_reducible refine (HB.out _).mono ?_; rintro e w1 ⟨rfl, rfl⟩) | (with_reducible refine (HM.out _).mono ?_; rintro e w1 ⟨rfl, rfl⟩))
    exact bodyPost_ret (v := .agg #[.bool false, .int .u64 0, .int .u64 0]) (by simp [results, Try.results53, go_sem]) rfl ⟨rfl, below_al (below_al (Below.refl _ _) _) _⟩
  · have hpn : decide (p ≠ 0) = true := by have := HP.out; simp; omega
    rw [hpn] at HN
    clear ha hb h1 h2 e1 e2
    have hzz : ((h : Int) == 0 && (l : Int) == 0) = false := by
      by_cases q1 : h = 0 <;> by_cases q2 : l = 0 <;> simp_all
    have HN2 : Hid (decide (p < 0) = (decide (a < 0) != decide (b < 0))) := by have := HN.out; rw [Bool.true_and] at this; exact this
    generalize decide (p < 0) = sg at HN2 ⊢
    clear HN hpn
    by_cases q1 : h = 0
    · subst q1
      have q2 : ¬ l = 0 := fun e => hz ⟨rfl, e⟩
      have b2 : ((l : Int) == 0) = false := by simp [q2]
      clear hzz hz
      by_cases s1 : a < 0 <;> by_cases s2 : b < 0
      all_goals
        have hs := HN2.out
        simp only [s1, s2, decide_true, decide_false] at hs
        clear HN2
        subst hs
        go_enter Try.func53, Try.ntmps53
        go_wp2_with (first | (with_reducible refine (HA.out _).mono ?_; rintro e w1 ⟨rfl, rfl⟩) | (with_reducible refine (HB.out _).mono ?_; rintro e w1 ⟨rfl, rfl⟩) | (with_reducible refine (HM.out _).mono ?_; rintro e w1 ⟨rfl, rfl⟩))
        exact bodyPost_ret (v := .agg #[.bool _, .int .u64 0, .int .u64 l]) (by simp [results, Try.results53, go_sem]; try omega) rfl ⟨rfl, below_al (below_al (Below.refl _ _) _) _⟩
    · have b1 : ((h : Int) == 0) = false := by simp [q1]
      clear hzz hz
      by_cases s1 : a < 0 <;> by_cases s2 : b < 0
      all_goals
        have hs := HN2.out
        simp only [s1, s2, decide_true, decide_false] at hs
        clear HN2
        subst hs
        go_enter Try.func53, Try.ntmps53
        go_wp2_with (first | (with_reducible refine (HA.out _).mono ?_; rintro e w1 ⟨rfl, rfl⟩) | (with_reducible refine (HB.out _).mono ?_; rintro e w1 ⟨rfl, rfl⟩) | (with_reducible refine (HM.out _).mono ?_; rintro e w1 ⟨rfl, rfl⟩))
        exact bodyPost_ret (v := .agg #[.bool _, .int .u64 h, .int .u64 l]) (by simp [results, Try.results53, go_sem]; try omega) rfl ⟨rfl, below_al (below_al (Below.refl _ _) _) _⟩
end Go.Proofs.Ytnacfpkagomfaaa
