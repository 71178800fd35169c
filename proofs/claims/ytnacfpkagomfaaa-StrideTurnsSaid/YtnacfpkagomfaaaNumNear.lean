/- Package num: Near. -/
import Derived.Test.YtnacfpkagomfaaaNumN
namespace Go.Proofs.Ytnacfpkagomfaaa
open Go.RowKit
def nearV (p q m : Int) : Bool := decide (((p - q).natAbs : Int) ≤ m)
theorem near_parts (p q m : Int) : nearV p q m = (!decide (m < 0) && decide (sizeCmp ((p - q).natAbs : Int) m ≤ 0)) := by
  unfold nearV sizeCmp
  by_cases h : m < 0
  · have h2 : ¬ ((p - q).natAbs : Int) ≤ m := by omega
    simp [h, h2]
  · simp only [h, decide_false, Bool.not_false, Bool.true_and]
    rw [Bool.eq_iff_iff]
    simp only [decide_eq_true_eq]
    split <;> (try split) <;> omega
set_option maxRecDepth 100000 in
set_option maxHeartbeats 4000000 in
theorem nnear (a b c d e f : Int) (ha : I64 a) (hb : I64 b) (hc : I64 c) (hd : I64 d) (he : I64 e) (hf : I64 f) (w : World) :
    Calls Try.prog 41 #[.int .i64 a, .int .i64 b, .int .i64 c, .int .i64 d, .int .i64 e, .int .i64 f] w fun e' w' => e' = .returned (.bool (nearV (a * d) (c * b) (e * f))) ∧ Below w.heap.size w w' := by
  have H1 := Lib.hid (fun W => nproduct a d ha hd W)
  have H2 := Lib.hid (fun W => nproduct c b hc hb W)
  have H3 := Lib.hid (fun W => ndiff (a * d) (c * b) (mul_abs_le ha hd) (mul_abs_le hc hb) W)
  have H4 := Lib.hid (fun W => nproduct e f he hf W)
  have HN := Lib.hid (near_parts (a * d) (c * b) (e * f))
  have H5 := Lib.hid (fun W => nbigger (decide ((((a * d) - (c * b)).natAbs : Int) < 0)) (hiN (((a * d) - (c * b)).natAbs : Int)) (loN (((a * d) - (c * b)).natAbs : Int)) (decide (e * f < 0)) (hiN (e * f)) (loN (e * f)) W)
  rw [bigV_size] at H5
  unfold wideV at H1 H2 H3 H4
  generalize nearV (a * d) (c * b) (e * f) = r at HN ⊢
  generalize (((a * d) - (c * b)).natAbs : Int) = n at *
  generalize sizeCmp n (e * f) = z at *
  generalize hiN (e * f) = mh at *
  generalize loN (e * f) = ml at *
  generalize hiN n = nh at *
  generalize loN n = nl at *
  generalize hiN (a * d) = ph at *
  generalize loN (a * d) = pl at *
  generalize hiN (c * b) = qh at *
  generalize loN (c * b) = ql at *
  generalize decide (e * f < 0) = ms at *
  generalize decide (n < 0) = ns at *
  generalize decide (a * d < 0) = ps at *
  generalize decide (c * b < 0) = qs at *
  clear ha hb hc hd he hf
  have tok : True := trivial
  cases ms with
  | true =>
    have hr : r = false := by have := HN.out; simpa using this
    subst hr
    clear HN
    go_enter Try.func41, Try.ntmps41
    go_wp2_with (first | ((with_reducible refine (H1.out _).mono ?_); rintro e w1 ⟨rfl, hb1⟩) | ((with_reducible refine (H2.out _).mono ?_); rintro e w2 ⟨rfl, hb2⟩) | ((with_reducible refine (H3.out _).mono ?_); rintro e w3 ⟨rfl, hb3⟩; have B4 := BoxW.new w3 ns nh nl 69) | ((with_reducible refine (H4.out _).mono ?_); rintro e w4 ⟨rfl, hb4⟩))
    go_ret
    exact ⟨rfl, below_al (below_tr (below_al (below_tr (below_tr hb1 hb2) hb3) _) hb4) _⟩
  | false =>
    by_cases hz : z ≤ 0
    all_goals
      have hr : r = decide (z ≤ 0) := by have := HN.out; simpa using this
      have HR := Lib.hid hr
      clear HN hr
      go_enter Try.func41, Try.ntmps41
      go_wp2_with (first | ((with_reducible refine (H1.out _).mono ?_); rintro e w1 ⟨rfl, hb1⟩) | ((with_reducible refine (H2.out _).mono ?_); rintro e w2 ⟨rfl, hb2⟩) | ((with_reducible refine (H3.out _).mono ?_); rintro e w3 ⟨rfl, hb3⟩; have B4 := BoxW.new w3 ns nh nl 69) | ((with_reducible refine (H4.out _).mono ?_); rintro e w4 ⟨rfl, hb4⟩; have C4 := B4.below hb4; have e0 := C4.c0.cell; have e1 := C4.c1.cell; have e2 := C4.c2.cell; have e3 := World.block_lt_of_cell? _ _ e0) | ((with_reducible refine (H5.out _).mono ?_); rintro e w5 ⟨rfl, hb5⟩))
      go_ret
      refine ⟨ret_bool ?_, below_tr (below_al (below_tr (below_al (below_tr (below_tr hb1 hb2) hb3) _) hb4) _) hb5⟩
      rw [HR.out]
      try simp [hz]
end Go.Proofs.Ytnacfpkagomfaaa
