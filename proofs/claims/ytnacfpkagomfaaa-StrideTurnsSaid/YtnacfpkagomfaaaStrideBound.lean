/- Bound, of both; the rows of tickets. -/
import Derived.Test.YtnacfpkagomfaaaStrideRef
import Derived.Test.YtnacfpkagomfaaaIdeal
namespace Go.Proofs.Ytnacfpkagomfaaa
open Go.RowKit
def boundF (m t : Int) : Int := 2 + m / strideV t
def boundV (xs : List Int) (i : Int) : Int := if allV xs i then sumF (boundF (strideV (xs.getD i.toNat 0))) xs else 0
theorem allV_iff {xs : List Int} {i : Int} : allV xs i = true ↔ xs.length ≤ 32 ∧ 0 ≤ i ∧ i < xs.length ∧ ∀ t ∈ xs, 1 ≤ t ∧ t ≤ 65536 := by
  unfold allV
  simp only [Bool.and_eq_true, decide_eq_true_eq, List.all_eq_true]
  constructor
  · rintro ⟨⟨⟨h1, h2⟩, h3⟩, h4⟩
    exact ⟨h1, h2, h3, fun t ht => by have := h4 t ht; simpa [rightT] using this⟩
  · rintro ⟨h1, h2, h3, h4⟩
    exact ⟨⟨⟨h1, h2⟩, h3⟩, fun t ht => by have := h4 t ht; simpa [rightT] using this⟩
theorem strideV_in {t : Int} (h : 1 ≤ t ∧ t ≤ 65536) : 16777216 ≤ strideV t ∧ strideV t ≤ 1099511627776 := by
  unfold strideV rightT
  rw [if_pos (by simp; omega)]
  constructor
  · rw [Int.le_ediv_iff_mul_le (by omega)]; omega
  · exact Int.ediv_le_self _ (by omega)
theorem boundF_in {m t : Int} (hm : 0 ≤ m ∧ m ≤ 1099511627776) (h : 1 ≤ t ∧ t ≤ 65536) : 0 ≤ boundF m t ∧ boundF m t ≤ 1099511627778 := by
  have hs := strideV_in h
  have h1 : 0 ≤ m / strideV t := Int.ediv_nonneg hm.1 (by omega)
  have h2 : m / strideV t ≤ m := Int.ediv_le_self _ hm.1
  unfold boundF
  omega
set_option maxRecDepth 100000 in
set_option maxHeartbeats 2000000 in
theorem sbound1 (t m : Int) (b : Nat) (w : World) (hm : 0 ≤ m ∧ m ≤ 1099511627776) (h : 1 ≤ t ∧ t ≤ 65536) (hc : w.cell? ⟨b, 0, none⟩ = some (.int .i64 m)) :
    Calls Try.prog 36 #[.int .i64 t, .pointer (some ⟨b, 0, none⟩)] w fun e w' => e = .returned (.int .i64 (boundF m t)) ∧ Below w.heap.size w w' := by
  have hs := strideV_in h
  have hbf := boundF_in hm h
  have HS := Lib.hid (fun W => sstride t W)
  have HB : Hid (boundF m t = 2 + m / strideV t) := rfl
  generalize boundF m t = r at *
  generalize strideV t = s at *
  obtain ⟨m0, m1⟩ := hm
  have h1 : 0 ≤ m / s := Int.ediv_nonneg m0 (by omega)
  have h2 : m / s ≤ m := Int.ediv_le_self _ m0
  clear h
  go_enter Try.func36, Try.ntmps36
  go_wp2
  obtain ⟨T, hT⟩ : ∃ T : Nat → Fact, ∀ t_, T t_ = ([Fact.eq (.int .i64 m), Fact.eq (.int .i64 t), Fact.eq (.int .i64 s), Fact.eq (.int .i64 (m / s)), Fact.eq (.int .i64 (2 + m / s)), Fact.eq (.int .i64 (2 + m / s))] : List (Fact)).getD t_ Fact.any := ⟨_, fun _ => rfl⟩
  refine region_tab [(0, 4), (1, 5), (2, 6), (3, 7), (4, 8), (5, 3)] T (by kernel_rfl) (by kernel_rfl) (by kernel_rfl) (by kernel_rfl) (by kernel_rfl) ?_ ?_
  · skip
    refine stepsAll_cons (k := 0) ?_ ?_
    · intro fa fx fW hF fB hE K fK
      have ev1 : fa.tmps[1]?.getD undef = .pointer (some ⟨b, 0, none⟩) := hF.eo 1 (by kernel_rfl)
      have z := cell_below fB hc
      refine wpOp_val rfl (wanted_none rfl) ?_ (fK (.int .i64 m) fW (Below.refl _ _) (by rw [hT]; exact rfl))
      clear fK hE hF
      go_simp
    refine stepsAll_cons (k := 1) ?_ ?_
    · intro fa fx fW hF fB hE K fK
      have ev0 : fa.tmps[0]?.getD undef = .int .i64 t := hF.eo 0 (by kernel_rfl)
      refine wpOp_val rfl (wanted_none rfl) ?_ (fK (.int .i64 t) fW (Below.refl _ _) (by rw [hT]; exact rfl))
      clear fK hE hF
      go_simp
    refine stepsAll_cons (k := 2) ?_ ?_
    · intro fa fx fW hF fB hE K fK
      have q1 : fx 1 = .int .i64 t := by have q := hE ⟨1, .data⟩ (by simp) rfl; rw [hT] at q; exact q
      have ev5 : fa.tmps[5]?.getD undef = .int .i64 t := (hF.ev 1 5 (by kernel_rfl)).trans q1
      refine wpOp_call rfl (wanted_none rfl) (by go_simp; exact ⟨rfl, rfl⟩) ?_
      refine (HS.out fW).mono ?_
      rintro e' w' ⟨rfl, hbb⟩
      exact ⟨_, rfl, fK (.int .i64 s) (w') (hbb) (by rw [hT]; exact rfl)⟩
    refine stepsAll_cons (k := 3) ?_ ?_
    · intro fa fx fW hF fB hE K fK
      have q0 : fx 0 = .int .i64 m := by have q := hE ⟨0, .data⟩ (by simp) rfl; rw [hT] at q; exact q
      have q2 : fx 2 = .int .i64 s := by have q := hE ⟨2, .data⟩ (by simp) rfl; rw [hT] at q; exact q
      have ev4 : fa.tmps[4]?.getD undef = .int .i64 m := (hF.ev 0 4 (by kernel_rfl)).trans q0
      have ev6 : fa.tmps[6]?.getD undef = .int .i64 s := (hF.ev 2 6 (by kernel_rfl)).trans q2
      refine wpOp_val rfl (wanted_none rfl) ?_ (fK (.int .i64 (m / s)) fW (Below.refl _ _) (by rw [hT]; exact rfl))
      clear fK hE hF
      go_simp
      rw [if_neg (by omega), Int.tdiv_eq_ediv_of_nonneg m0, IntWalk.i64_in _ (by omega)]
    refine stepsAll_cons (k := 4) ?_ ?_
    · intro fa fx fW hF fB hE K fK
      have q3 : fx 3 = .int .i64 (m / s) := by have q := hE ⟨3, .data⟩ (by simp) rfl; rw [hT] at q; exact q
      have ev7 : fa.tmps[7]?.getD undef = .int .i64 (m / s) := (hF.ev 3 7 (by kernel_rfl)).trans q3
      refine wpOp_val rfl (wanted_none rfl) ?_ (fK (.int .i64 (2 + m / s)) fW (Below.refl _ _) (by rw [hT]; exact rfl))
      clear fK hE hF
      go_simp
      exact IntWalk.i64_in _ (by omega)
    refine stepsAll_cons (k := 5) ?_ ?_
    · intro fa fx fW hF fB hE K fK
      have q4 : fx 4 = .int .i64 (2 + m / s) := by have q := hE ⟨4, .data⟩ (by simp) rfl; rw [hT] at q; exact q
      have ev8 : fa.tmps[8]?.getD undef = .int .i64 (2 + m / s) := (hF.ev 4 8 (by kernel_rfl)).trans q4
      refine wpOp_val rfl (wanted_none rfl) ?_ (fK (.int .i64 (2 + m / s)) fW (Below.refl _ _) (by rw [hT]; exact rfl))
      clear fK hE hF
      go_simp
    exact stepsAll_nil
  intro fa fx fW hF fB hx
  have q5 : fx 5 = .int .i64 (2 + m / s) := by have q := hx 5 (by decide); rw [hT] at q; exact q
  have ev3 : fa.tmps[3]?.getD undef = .int .i64 (2 + m / s) := (hF.ev 5 3 (by kernel_rfl)).trans q5
  rw [hF.eq]
  clear hF hx
  simp only [putAll, Act.put, List.setIfInBounds_toArray, List.set_cons_zero, List.set_cons_succ, q5]
  go_wp2
  go_ret
  exact ⟨ret_int HB.out.symm, fB⟩
end Go.Proofs.Ytnacfpkagomfaaa
