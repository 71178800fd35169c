/- The law NumOrder, walked. -/
import Derived.Test.YtkebkmjffbnihaaThree
import Derived.Test.YtkebkmjffbnihaaNumE
import Derived.Test.YtkebkmjffbnihaaNumNear
import Derived.Test.YtkebkmjffbnihaaNumG
namespace Go.Proofs.Ytkebkmjffbnihaa
open Go.RowKit
theorem cmpV_in (p q : Int) : cmpV p q = -1 ∨ cmpV p q = 0 ∨ cmpV p q = 1 := by unfold cmpV; split <;> (try split) <;> simp
theorem cmpV_neg (p q : Int) : cmpV q p = - cmpV p q := by
  unfold cmpV
  by_cases h1 : p < q
  · rw [if_pos h1, if_neg (by omega), if_pos h1]; rfl
  · by_cases h2 : q < p
    · rw [if_pos h2, if_neg h1, if_pos h2]
    · rw [if_neg h2, if_neg h1, if_neg h1, if_neg h2]; rfl
theorem cmpV_le {p q : Int} : cmpV p q ≤ 0 ↔ p ≤ q := by
  unfold cmpV
  split
  · omega
  · split <;> omega
/-- Fractions stand in a row. -/
theorem cross_le {a b c wa wb wc : Int} (hb : 1 ≤ wb) (ha : 1 ≤ wa) (hc : 1 ≤ wc) (h1 : a * wb ≤ b * wa) (h2 : b * wc ≤ c * wb) : a * wc ≤ c * wa := by
  have h3 : a * wb * wc ≤ b * wa * wc := Int.mul_le_mul_of_nonneg_right h1 (by omega)
  have h4 : b * wc * wa ≤ c * wb * wa := Int.mul_le_mul_of_nonneg_right h2 (by omega)
  have e1 : b * wa * wc = b * wc * wa := by rw [Int.mul_assoc, Int.mul_comm wa wc, ← Int.mul_assoc]
  have e2 : a * wb * wc = a * wc * wb := by rw [Int.mul_assoc, Int.mul_comm wb wc, ← Int.mul_assoc]
  have e3 : c * wb * wa = c * wa * wb := by rw [Int.mul_assoc, Int.mul_comm wb wa, ← Int.mul_assoc]
  rw [e1, e2] at h3
  rw [e3] at h4
  exact Int.le_of_mul_le_mul_right (Int.le_trans h3 h4) (by omega)
set_option maxRecDepth 100000 in
set_option maxHeartbeats 8000000 in
theorem order_law (a0 a1 b0 b1 c0 c1 : Int) (ha0 : 0 ≤ a0 ∧ a0 ≤ 4294967295) (ha1 : 0 ≤ a1 ∧ a1 ≤ 4294967295) (hb0 : 0 ≤ b0 ∧ b0 ≤ 4294967295) (hb1 : 0 ≤ b1 ∧ b1 ≤ 4294967295) (hc0 : 0 ≤ c0 ∧ c0 ≤ 4294967295) (hc1 : 0 ≤ c1 ∧ c1 ≤ 4294967295) (w : World) :
    Calls Try.prog 7 #[.agg #[.int .u32 a0, .int .u32 a1], .agg #[.int .u32 b0, .int .u32 b1], .agg #[.int .u32 c0, .int .u32 c1]] w fun e' w' => e' = .returned (.bool true) ∧ Below w.heap.size w w' := by
  have HL := Lib.hid (fun W => lives01 W)
  have H1 := Lib.hid (fun W => ncross a0 (1 + a1) b0 (1 + b1) (by unfold I64; omega) (by unfold I64; omega) (by unfold I64; omega) (by unfold I64; omega) W)
  have H2 := Lib.hid (fun W => ncross b0 (1 + b1) a0 (1 + a1) (by unfold I64; omega) (by unfold I64; omega) (by unfold I64; omega) (by unfold I64; omega) W)
  have H3 := Lib.hid (fun W => ncross b0 (1 + b1) c0 (1 + c1) (by unfold I64; omega) (by unfold I64; omega) (by unfold I64; omega) (by unfold I64; omega) W)
  have H4 := Lib.hid (fun W => ncross a0 (1 + a1) c0 (1 + c1) (by unfold I64; omega) (by unfold I64; omega) (by unfold I64; omega) (by unfold I64; omega) W)
  have H5 := Lib.hid (fun W => nnear a0 (1 + a1) a0 (1 + a1) 0 5 (by unfold I64; omega) (by unfold I64; omega) (by unfold I64; omega) (by unfold I64; omega) (by decide) (by decide) W)
  rw [show nearV (a0 * (1 + a1)) (a0 * (1 + a1)) (0 * 5) = true by unfold nearV; simp] at H5
  rw [cmpV_neg] at H2
  have hr := cmpV_in (a0 * (1 + b1)) (b0 * (1 + a1))
  have hq := cmpV_in (b0 * (1 + c1)) (c0 * (1 + b1))
  have hs := cmpV_in (a0 * (1 + c1)) (c0 * (1 + a1))
  have htr : cmpV (a0 * (1 + b1)) (b0 * (1 + a1)) ≤ 0 → cmpV (b0 * (1 + c1)) (c0 * (1 + b1)) ≤ 0 → cmpV (a0 * (1 + c1)) (c0 * (1 + a1)) ≤ 0 := by
    intro h1 h2
    rw [cmpV_le] at *
    exact cross_le (by omega) (by omega) (by omega) h1 h2
  have HTR := Lib.hid htr
  generalize cmpV (a0 * (1 + b1)) (b0 * (1 + a1)) = r at *
  generalize cmpV (b0 * (1 + c1)) (c0 * (1 + b1)) = u at *
  generalize cmpV (a0 * (1 + c1)) (c0 * (1 + a1)) = v at *
  clear htr
  obtain ⟨a00, a01⟩ := ha0
  obtain ⟨a10, a11⟩ := ha1
  obtain ⟨b00, b01⟩ := hb0
  obtain ⟨b10, b11⟩ := hb1
  obtain ⟨c00, c01⟩ := hc0
  obtain ⟨c10, c11⟩ := hc1
  go_enter Try.func7, Try.ntmps7
  go_wp2
  obtain ⟨W0, hW0⟩ : ∃ W0, W0 = ((w.alloc (.cells #[.int .u32 a0, .int .u32 a1] 34)).alloc (.cells #[.int .u32 b0, .int .u32 b1] 34)).alloc (.cells #[.int .u32 c0, .int .u32 c1] 34) := ⟨_, rfl⟩
  have hB0 : Below w.heap.size w W0 := by rw [hW0]; exact below_al (below_al (below_al (Below.refl _ _) _) _) _
  have p0 : W0.cell? ⟨w.heap.size, 0, none⟩ = some (.int .u32 a0) := by rw [hW0]; go_simp
  have p1 : W0.cell? ⟨w.heap.size, 1, none⟩ = some (.int .u32 a1) := by rw [hW0]; go_simp
  have p2 : W0.cell? ⟨w.heap.size + 1, 0, none⟩ = some (.int .u32 b0) := by rw [hW0]; go_simp
  have p3 : W0.cell? ⟨w.heap.size + 1, 1, none⟩ = some (.int .u32 b1) := by rw [hW0]; go_simp
  have p4 : W0.cell? ⟨w.heap.size + 1 + 1, 0, none⟩ = some (.int .u32 c0) := by rw [hW0]; go_simp
  have p5 : W0.cell? ⟨w.heap.size + 1 + 1, 1, none⟩ = some (.int .u32 c1) := by rw [hW0]; go_simp
  rw [← hW0]
  obtain ⟨k1, hk1⟩ : ∃ b, b = w.heap.size := ⟨_, rfl⟩
  obtain ⟨k2, hk2⟩ : ∃ b, b = w.heap.size + 1 := ⟨_, rfl⟩
  obtain ⟨k3, hk3⟩ : ∃ b, b = w.heap.size + 1 + 1 := ⟨_, rfl⟩
  rw [show Value.pointer (some ⟨w.heap.size, 0, none⟩) = Value.pointer (some ⟨k1, 0, none⟩) by rw [hk1], show Value.pointer (some ⟨w.heap.size + 1, 0, none⟩) = Value.pointer (some ⟨k2, 0, none⟩) by rw [hk2], show Value.pointer (some ⟨w.heap.size + 1 + 1, 0, none⟩) = Value.pointer (some ⟨k3, 0, none⟩) by rw [hk3]]
  rw [← hk1] at p0 p1
  rw [← hk2] at p2 p3
  rw [← hk3] at p4 p5
  clear hk1 hk2 hk3 hW0
  obtain ⟨S_, hS_⟩ : ∃ S_ : World → World → Prop, S_ = (fun _ _ => True) := ⟨_, rfl⟩
  have hR_ : ∀ W, S_ W W := by intro W; rw [hS_]; exact trivial
  obtain ⟨T, hT⟩ : ∃ T : Nat → FactS S_, ∀ t_, T t_ = ([FactS.eq (.pointer (some ⟨k1, 0, none⟩)), FactS.eq (.int .u32 a0), FactS.eq (.int .i64 a0), FactS.eq (.pointer (some ⟨k1, 1, none⟩)), FactS.eq (.int .u32 a1), FactS.eq (.int .i64 a1), FactS.eq (.int .i64 (1 + a1)), FactS.eq (.agg #[.int .i64 a0, .int .i64 (1 + a1)]), FactS.eq (.pointer (some ⟨k2, 0, none⟩)), FactS.eq (.int .u32 b0), FactS.eq (.int .i64 b0), FactS.eq (.pointer (some ⟨k2, 1, none⟩)), FactS.eq (.int .u32 b1), FactS.eq (.int .i64 b1), FactS.eq (.int .i64 (1 + b1)), FactS.eq (.agg #[.int .i64 b0, .int .i64 (1 + b1)]), FactS.eq (.pointer (some ⟨k3, 0, none⟩)), FactS.eq (.int .u32 c0), FactS.eq (.int .i64 c0), FactS.eq (.pointer (some ⟨k3, 1, none⟩)), FactS.eq (.int .u32 c1), FactS.eq (.int .i64 c1), FactS.eq (.int .i64 (1 + c1)), FactS.eq (.agg #[.int .i64 c0, .int .i64 (1 + c1)]), FactS.any, FactS.any, FactS.any, FactS.eq (undef), FactS.eq (undef), FactS.eq (undef)] : List (FactS S_)).getD t_ FactS.any := ⟨_, fun _ => rfl⟩
  have hP_ : ∀ i_ v_ (y_ : Nat → Option Value) W_, ([24, 25, 26, 27, 28, 29].contains i_) = false → (ThreeG W0 #[.int .i64 a0, .int .i64 (1 + a1)] #[.int .i64 b0, .int .i64 (1 + b1)] #[.int .i64 c0, .int .i64 (1 + c1)]) (y_ 24) (y_ 25) (y_ 26) (y_ 27) (y_ 28) (y_ 29) W_ → (ThreeG W0 #[.int .i64 a0, .int .i64 (1 + a1)] #[.int .i64 b0, .int .i64 (1 + b1)] #[.int .i64 c0, .int .i64 (1 + c1)]) (updY y_ i_ v_ 24) (updY y_ i_ v_ 25) (updY y_ i_ v_ 26) (updY y_ i_ v_ 27) (updY y_ i_ v_ 28) (updY y_ i_ v_ 29) W_ := by
    intro i_ v_ y_ W_ hi_ h_
    simp only [List.contains_cons, List.contains_nil, Bool.or_false, Bool.or_eq_false_iff, beq_eq_false_iff_ne, ne_eq] at hi_
    obtain ⟨i24_, i25_, i26_, i27_, i28_, i29_⟩ := hi_
    rw [updY_ne y_ i_ v_ i24_, updY_ne y_ i_ v_ i25_, updY_ne y_ i_ v_ i26_, updY_ne y_ i_ v_ i27_, updY_ne y_ i_ v_ i28_, updY_ne y_ i_ v_ i29_]
    exact h_
  refine region_tabJ [(0, 14), (1, 15), (2, 16), (3, 17), (4, 18), (5, 19), (6, 20), (7, 21), (8, 22), (9, 23), (10, 24), (11, 25), (12, 26), (13, 27), (14, 28), (15, 29), (16, 30), (17, 31), (18, 32), (19, 33), (20, 34), (21, 35), (22, 36), (23, 37), (24, 7), (25, 8), (26, 9)] S_ T (fun y_ W_ => (ThreeG W0 #[.int .i64 a0, .int .i64 (1 + a1)] #[.int .i64 b0, .int .i64 (1 + b1)] #[.int .i64 c0, .int .i64 (1 + c1)]) (y_ 24) (y_ 25) (y_ 26) (y_ 27) (y_ 28) (y_ 29) W_) (by kernel_rfl) (by kernel_rfl) (by kernel_rfl) (by kernel_rfl) (by kernel_rfl) ?_ ?_ ?_
  · skip
    exact ⟨below_dr (Below.refl _ _) 1, (fun v e => by cases e), (fun v e => by cases e), (fun v e => by cases e), (fun v u e => by cases e), (fun v u e => by cases e), (fun v u e => by cases e), (fun e => by cases e), (fun e => by cases e), (fun e => by cases e)⟩
  · skip
    refine stepsAll_cons (k := 0) ?_ ?_
    · intro fa fx fW fy hF hN hJ hE K fK
      have hJ : (ThreeG W0 #[.int .i64 a0, .int .i64 (1 + a1)] #[.int .i64 b0, .int .i64 (1 + b1)] #[.int .i64 c0, .int .i64 (1 + c1)]) (fy 24) (fy 25) (fy 26) (fy 27) (fy 28) (fy 29) fW := hJ
      have ev3 : fa.tmps[3]?.getD undef = .pointer (some ⟨k1, 0, none⟩) := hF.eo 3 (by kernel_rfl)
      refine wpOp_val rfl (wanted_none rfl) ?_ (fK (.pointer (some ⟨k1, 0, none⟩)) fW (hR_ fW) (by rw [hT]; exact rfl) (hP_ 0 _ fy fW rfl hJ))
      clear fK hE hF hJ hN
      go_simp
    refine stepsAll_cons (k := 1) ?_ ?_
    · intro fa fx fW fy hF hN hJ hE K fK
      have hJ : (ThreeG W0 #[.int .i64 a0, .int .i64 (1 + a1)] #[.int .i64 b0, .int .i64 (1 + b1)] #[.int .i64 c0, .int .i64 (1 + c1)]) (fy 24) (fy 25) (fy 26) (fy 27) (fy 28) (fy 29) fW := hJ
      have q0 : fx 0 = .pointer (some ⟨k1, 0, none⟩) := by have q := (hE ⟨0, .data⟩ (by simp) rfl).2; rw [hT] at q; exact q
      have ev14 : fa.tmps[14]?.getD undef = .pointer (some ⟨k1, 0, none⟩) := (hF.ev 0 14 (by kernel_rfl)).trans q0
      have z := cell_below hJ.be p0
      refine wpOp_val rfl (wanted_none rfl) ?_ (fK (.int .u32 a0) fW (hR_ fW) (by rw [hT]; exact rfl) (hP_ 1 _ fy fW rfl hJ))
      clear fK hE hF hJ hN
      go_simp
    refine stepsAll_cons (k := 2) ?_ ?_
    · intro fa fx fW fy hF hN hJ hE K fK
      have hJ : (ThreeG W0 #[.int .i64 a0, .int .i64 (1 + a1)] #[.int .i64 b0, .int .i64 (1 + b1)] #[.int .i64 c0, .int .i64 (1 + c1)]) (fy 24) (fy 25) (fy 26) (fy 27) (fy 28) (fy 29) fW := hJ
      have q1 : fx 1 = .int .u32 a0 := by have q := (hE ⟨1, .data⟩ (by simp) rfl).2; rw [hT] at q; exact q
      have ev15 : fa.tmps[15]?.getD undef = .int .u32 a0 := (hF.ev 1 15 (by kernel_rfl)).trans q1
      refine wpOp_val rfl (wanted_none rfl) ?_ (fK (.int .i64 a0) fW (hR_ fW) (by rw [hT]; exact rfl) (hP_ 2 _ fy fW rfl hJ))
      clear fK hE hF hJ hN
      go_simp
      exact IntWalk.i64_in _ (by omega)
    refine stepsAll_cons (k := 3) ?_ ?_
    · intro fa fx fW fy hF hN hJ hE K fK
      have hJ : (ThreeG W0 #[.int .i64 a0, .int .i64 (1 + a1)] #[.int .i64 b0, .int .i64 (1 + b1)] #[.int .i64 c0, .int .i64 (1 + c1)]) (fy 24) (fy 25) (fy 26) (fy 27) (fy 28) (fy 29) fW := hJ
      have ev3 : fa.tmps[3]?.getD undef = .pointer (some ⟨k1, 0, none⟩) := hF.eo 3 (by kernel_rfl)
      refine wpOp_val rfl (wanted_none rfl) ?_ (fK (.pointer (some ⟨k1, 1, none⟩)) fW (hR_ fW) (by rw [hT]; exact rfl) (hP_ 3 _ fy fW rfl hJ))
      clear fK hE hF hJ hN
      go_simp
    refine stepsAll_cons (k := 4) ?_ ?_
    · intro fa fx fW fy hF hN hJ hE K fK
      have hJ : (ThreeG W0 #[.int .i64 a0, .int .i64 (1 + a1)] #[.int .i64 b0, .int .i64 (1 + b1)] #[.int .i64 c0, .int .i64 (1 + c1)]) (fy 24) (fy 25) (fy 26) (fy 27) (fy 28) (fy 29) fW := hJ
      have q3 : fx 3 = .pointer (some ⟨k1, 1, none⟩) := by have q := (hE ⟨3, .data⟩ (by simp) rfl).2; rw [hT] at q; exact q
      have ev17 : fa.tmps[17]?.getD undef = .pointer (some ⟨k1, 1, none⟩) := (hF.ev 3 17 (by kernel_rfl)).trans q3
      have z := cell_below hJ.be p1
      refine wpOp_val rfl (wanted_none rfl) ?_ (fK (.int .u32 a1) fW (hR_ fW) (by rw [hT]; exact rfl) (hP_ 4 _ fy fW rfl hJ))
      clear fK hE hF hJ hN
      go_simp
    refine stepsAll_cons (k := 5) ?_ ?_
    · intro fa fx fW fy hF hN hJ hE K fK
      have hJ : (ThreeG W0 #[.int .i64 a0, .int .i64 (1 + a1)] #[.int .i64 b0, .int .i64 (1 + b1)] #[.int .i64 c0, .int .i64 (1 + c1)]) (fy 24) (fy 25) (fy 26) (fy 27) (fy 28) (fy 29) fW := hJ
      have q4 : fx 4 = .int .u32 a1 := by have q := (hE ⟨4, .data⟩ (by simp) rfl).2; rw [hT] at q; exact q
      have ev18 : fa.tmps[18]?.getD undef = .int .u32 a1 := (hF.ev 4 18 (by kernel_rfl)).trans q4
      refine wpOp_val rfl (wanted_none rfl) ?_ (fK (.int .i64 a1) fW (hR_ fW) (by rw [hT]; exact rfl) (hP_ 5 _ fy fW rfl hJ))
      clear fK hE hF hJ hN
      go_simp
      exact IntWalk.i64_in _ (by omega)
    refine stepsAll_cons (k := 6) ?_ ?_
    · intro fa fx fW fy hF hN hJ hE K fK
      have hJ : (ThreeG W0 #[.int .i64 a0, .int .i64 (1 + a1)] #[.int .i64 b0, .int .i64 (1 + b1)] #[.int .i64 c0, .int .i64 (1 + c1)]) (fy 24) (fy 25) (fy 26) (fy 27) (fy 28) (fy 29) fW := hJ
      have q5 : fx 5 = .int .i64 a1 := by have q := (hE ⟨5, .data⟩ (by simp) rfl).2; rw [hT] at q; exact q
      have ev19 : fa.tmps[19]?.getD undef = .int .i64 a1 := (hF.ev 5 19 (by kernel_rfl)).trans q5
      refine wpOp_val rfl (wanted_none rfl) ?_ (fK (.int .i64 (1 + a1)) fW (hR_ fW) (by rw [hT]; exact rfl) (hP_ 6 _ fy fW rfl hJ))
      clear fK hE hF hJ hN
      go_simp
      exact IntWalk.i64_in _ (by omega)
    refine stepsAll_cons (k := 7) ?_ ?_
    · intro fa fx fW fy hF hN hJ hE K fK
      have hJ : (ThreeG W0 #[.int .i64 a0, .int .i64 (1 + a1)] #[.int .i64 b0, .int .i64 (1 + b1)] #[.int .i64 c0, .int .i64 (1 + c1)]) (fy 24) (fy 25) (fy 26) (fy 27) (fy 28) (fy 29) fW := hJ
      have q2 : fx 2 = .int .i64 a0 := by have q := (hE ⟨2, .data⟩ (by simp) rfl).2; rw [hT] at q; exact q
      have q6 : fx 6 = .int .i64 (1 + a1) := by have q := (hE ⟨6, .data⟩ (by simp) rfl).2; rw [hT] at q; exact q
      have ev16 : fa.tmps[16]?.getD undef = .int .i64 a0 := (hF.ev 2 16 (by kernel_rfl)).trans q2
      have ev20 : fa.tmps[20]?.getD undef = .int .i64 (1 + a1) := (hF.ev 6 20 (by kernel_rfl)).trans q6
      refine wpOp_val rfl (wanted_none rfl) ?_ (fK (.agg #[.int .i64 a0, .int .i64 (1 + a1)]) fW (hR_ fW) (by rw [hT]; exact rfl) (hP_ 7 _ fy fW rfl hJ))
      clear fK hE hF hJ hN
      go_simp
    refine stepsAll_cons (k := 8) ?_ ?_
    · intro fa fx fW fy hF hN hJ hE K fK
      have hJ : (ThreeG W0 #[.int .i64 a0, .int .i64 (1 + a1)] #[.int .i64 b0, .int .i64 (1 + b1)] #[.int .i64 c0, .int .i64 (1 + c1)]) (fy 24) (fy 25) (fy 26) (fy 27) (fy 28) (fy 29) fW := hJ
      have ev4 : fa.tmps[4]?.getD undef = .pointer (some ⟨k2, 0, none⟩) := hF.eo 4 (by kernel_rfl)
      refine wpOp_val rfl (wanted_none rfl) ?_ (fK (.pointer (some ⟨k2, 0, none⟩)) fW (hR_ fW) (by rw [hT]; exact rfl) (hP_ 8 _ fy fW rfl hJ))
      clear fK hE hF hJ hN
      go_simp
    refine stepsAll_cons (k := 9) ?_ ?_
    · intro fa fx fW fy hF hN hJ hE K fK
      have hJ : (ThreeG W0 #[.int .i64 a0, .int .i64 (1 + a1)] #[.int .i64 b0, .int .i64 (1 + b1)] #[.int .i64 c0, .int .i64 (1 + c1)]) (fy 24) (fy 25) (fy 26) (fy 27) (fy 28) (fy 29) fW := hJ
      have q8 : fx 8 = .pointer (some ⟨k2, 0, none⟩) := by have q := (hE ⟨8, .data⟩ (by simp) rfl).2; rw [hT] at q; exact q
      have ev22 : fa.tmps[22]?.getD undef = .pointer (some ⟨k2, 0, none⟩) := (hF.ev 8 22 (by kernel_rfl)).trans q8
      have z := cell_below hJ.be p2
      refine wpOp_val rfl (wanted_none rfl) ?_ (fK (.int .u32 b0) fW (hR_ fW) (by rw [hT]; exact rfl) (hP_ 9 _ fy fW rfl hJ))
      clear fK hE hF hJ hN
      go_simp
    refine stepsAll_cons (k := 10) ?_ ?_
    · intro fa fx fW fy hF hN hJ hE K fK
      have hJ : (ThreeG W0 #[.int .i64 a0, .int .i64 (1 + a1)] #[.int .i64 b0, .int .i64 (1 + b1)] #[.int .i64 c0, .int .i64 (1 + c1)]) (fy 24) (fy 25) (fy 26) (fy 27) (fy 28) (fy 29) fW := hJ
      have q9 : fx 9 = .int .u32 b0 := by have q := (hE ⟨9, .data⟩ (by simp) rfl).2; rw [hT] at q; exact q
      have ev23 : fa.tmps[23]?.getD undef = .int .u32 b0 := (hF.ev 9 23 (by kernel_rfl)).trans q9
      refine wpOp_val rfl (wanted_none rfl) ?_ (fK (.int .i64 b0) fW (hR_ fW) (by rw [hT]; exact rfl) (hP_ 10 _ fy fW rfl hJ))
      clear fK hE hF hJ hN
      go_simp
      exact IntWalk.i64_in _ (by omega)
    refine stepsAll_cons (k := 11) ?_ ?_
    · intro fa fx fW fy hF hN hJ hE K fK
      have hJ : (ThreeG W0 #[.int .i64 a0, .int .i64 (1 + a1)] #[.int .i64 b0, .int .i64 (1 + b1)] #[.int .i64 c0, .int .i64 (1 + c1)]) (fy 24) (fy 25) (fy 26) (fy 27) (fy 28) (fy 29) fW := hJ
      have ev4 : fa.tmps[4]?.getD undef = .pointer (some ⟨k2, 0, none⟩) := hF.eo 4 (by kernel_rfl)
      refine wpOp_val rfl (wanted_none rfl) ?_ (fK (.pointer (some ⟨k2, 1, none⟩)) fW (hR_ fW) (by rw [hT]; exact rfl) (hP_ 11 _ fy fW rfl hJ))
      clear fK hE hF hJ hN
      go_simp
    refine stepsAll_cons (k := 12) ?_ ?_
    · intro fa fx fW fy hF hN hJ hE K fK
      have hJ : (ThreeG W0 #[.int .i64 a0, .int .i64 (1 + a1)] #[.int .i64 b0, .int .i64 (1 + b1)] #[.int .i64 c0, .int .i64 (1 + c1)]) (fy 24) (fy 25) (fy 26) (fy 27) (fy 28) (fy 29) fW := hJ
      have q11 : fx 11 = .pointer (some ⟨k2, 1, none⟩) := by have q := (hE ⟨11, .data⟩ (by simp) rfl).2; rw [hT] at q; exact q
      have ev25 : fa.tmps[25]?.getD undef = .pointer (some ⟨k2, 1, none⟩) := (hF.ev 11 25 (by kernel_rfl)).trans q11
      have z := cell_below hJ.be p3
      refine wpOp_val rfl (wanted_none rfl) ?_ (fK (.int .u32 b1) fW (hR_ fW) (by rw [hT]; exact rfl) (hP_ 12 _ fy fW rfl hJ))
      clear fK hE hF hJ hN
      go_simp
    refine stepsAll_cons (k := 13) ?_ ?_
    · intro fa fx fW fy hF hN hJ hE K fK
      have hJ : (ThreeG W0 #[.int .i64 a0, .int .i64 (1 + a1)] #[.int .i64 b0, .int .i64 (1 + b1)] #[.int .i64 c0, .int .i64 (1 + c1)]) (fy 24) (fy 25) (fy 26) (fy 27) (fy 28) (fy 29) fW := hJ
      have q12 : fx 12 = .int .u32 b1 := by have q := (hE ⟨12, .data⟩ (by simp) rfl).2; rw [hT] at q; exact q
      have ev26 : fa.tmps[26]?.getD undef = .int .u32 b1 := (hF.ev 12 26 (by kernel_rfl)).trans q12
      refine wpOp_val rfl (wanted_none rfl) ?_ (fK (.int .i64 b1) fW (hR_ fW) (by rw [hT]; exact rfl) (hP_ 13 _ fy fW rfl hJ))
      clear fK hE hF hJ hN
      go_simp
      exact IntWalk.i64_in _ (by omega)
    refine stepsAll_cons (k := 14) ?_ ?_
    · intro fa fx fW fy hF hN hJ hE K fK
      have hJ : (ThreeG W0 #[.int .i64 a0, .int .i64 (1 + a1)] #[.int .i64 b0, .int .i64 (1 + b1)] #[.int .i64 c0, .int .i64 (1 + c1)]) (fy 24) (fy 25) (fy 26) (fy 27) (fy 28) (fy 29) fW := hJ
      have q13 : fx 13 = .int .i64 b1 := by have q := (hE ⟨13, .data⟩ (by simp) rfl).2; rw [hT] at q; exact q
      have ev27 : fa.tmps[27]?.getD undef = .int .i64 b1 := (hF.ev 13 27 (by kernel_rfl)).trans q13
      refine wpOp_val rfl (wanted_none rfl) ?_ (fK (.int .i64 (1 + b1)) fW (hR_ fW) (by rw [hT]; exact rfl) (hP_ 14 _ fy fW rfl hJ))
      clear fK hE hF hJ hN
      go_simp
      exact IntWalk.i64_in _ (by omega)
    refine stepsAll_cons (k := 15) ?_ ?_
    · intro fa fx fW fy hF hN hJ hE K fK
      have hJ : (ThreeG W0 #[.int .i64 a0, .int .i64 (1 + a1)] #[.int .i64 b0, .int .i64 (1 + b1)] #[.int .i64 c0, .int .i64 (1 + c1)]) (fy 24) (fy 25) (fy 26) (fy 27) (fy 28) (fy 29) fW := hJ
      have q10 : fx 10 = .int .i64 b0 := by have q := (hE ⟨10, .data⟩ (by simp) rfl).2; rw [hT] at q; exact q
      have q14 : fx 14 = .int .i64 (1 + b1) := by have q := (hE ⟨14, .data⟩ (by simp) rfl).2; rw [hT] at q; exact q
      have ev24 : fa.tmps[24]?.getD undef = .int .i64 b0 := (hF.ev 10 24 (by kernel_rfl)).trans q10
      have ev28 : fa.tmps[28]?.getD undef = .int .i64 (1 + b1) := (hF.ev 14 28 (by kernel_rfl)).trans q14
      refine wpOp_val rfl (wanted_none rfl) ?_ (fK (.agg #[.int .i64 b0, .int .i64 (1 + b1)]) fW (hR_ fW) (by rw [hT]; exact rfl) (hP_ 15 _ fy fW rfl hJ))
      clear fK hE hF hJ hN
      go_simp
    refine stepsAll_cons (k := 16) ?_ ?_
    · intro fa fx fW fy hF hN hJ hE K fK
      have hJ : (ThreeG W0 #[.int .i64 a0, .int .i64 (1 + a1)] #[.int .i64 b0, .int .i64 (1 + b1)] #[.int .i64 c0, .int .i64 (1 + c1)]) (fy 24) (fy 25) (fy 26) (fy 27) (fy 28) (fy 29) fW := hJ
      have ev5 : fa.tmps[5]?.getD undef = .pointer (some ⟨k3, 0, none⟩) := hF.eo 5 (by kernel_rfl)
      refine wpOp_val rfl (wanted_none rfl) ?_ (fK (.pointer (some ⟨k3, 0, none⟩)) fW (hR_ fW) (by rw [hT]; exact rfl) (hP_ 16 _ fy fW rfl hJ))
      clear fK hE hF hJ hN
      go_simp
    refine stepsAll_cons (k := 17) ?_ ?_
    · intro fa fx fW fy hF hN hJ hE K fK
      have hJ : (ThreeG W0 #[.int .i64 a0, .int .i64 (1 + a1)] #[.int .i64 b0, .int .i64 (1 + b1)] #[.int .i64 c0, .int .i64 (1 + c1)]) (fy 24) (fy 25) (fy 26) (fy 27) (fy 28) (fy 29) fW := hJ
      have q16 : fx 16 = .pointer (some ⟨k3, 0, none⟩) := by have q := (hE ⟨16, .data⟩ (by simp) rfl).2; rw [hT] at q; exact q
      have ev30 : fa.tmps[30]?.getD undef = .pointer (some ⟨k3, 0, none⟩) := (hF.ev 16 30 (by kernel_rfl)).trans q16
      have z := cell_below hJ.be p4
      refine wpOp_val rfl (wanted_none rfl) ?_ (fK (.int .u32 c0) fW (hR_ fW) (by rw [hT]; exact rfl) (hP_ 17 _ fy fW rfl hJ))
      clear fK hE hF hJ hN
      go_simp
    refine stepsAll_cons (k := 18) ?_ ?_
    · intro fa fx fW fy hF hN hJ hE K fK
      have hJ : (ThreeG W0 #[.int .i64 a0, .int .i64 (1 + a1)] #[.int .i64 b0, .int .i64 (1 + b1)] #[.int .i64 c0, .int .i64 (1 + c1)]) (fy 24) (fy 25) (fy 26) (fy 27) (fy 28) (fy 29) fW := hJ
      have q17 : fx 17 = .int .u32 c0 := by have q := (hE ⟨17, .data⟩ (by simp) rfl).2; rw [hT] at q; exact q
      have ev31 : fa.tmps[31]?.getD undef = .int .u32 c0 := (hF.ev 17 31 (by kernel_rfl)).trans q17
      refine wpOp_val rfl (wanted_none rfl) ?_ (fK (.int .i64 c0) fW (hR_ fW) (by rw [hT]; exact rfl) (hP_ 18 _ fy fW rfl hJ))
      clear fK hE hF hJ hN
      go_simp
      exact IntWalk.i64_in _ (by omega)
    refine stepsAll_cons (k := 19) ?_ ?_
    · intro fa fx fW fy hF hN hJ hE K fK
      have hJ : (ThreeG W0 #[.int .i64 a0, .int .i64 (1 + a1)] #[.int .i64 b0, .int .i64 (1 + b1)] #[.int .i64 c0, .int .i64 (1 + c1)]) (fy 24) (fy 25) (fy 26) (fy 27) (fy 28) (fy 29) fW := hJ
      have ev5 : fa.tmps[5]?.getD undef = .pointer (some ⟨k3, 0, none⟩) := hF.eo 5 (by kernel_rfl)
      refine wpOp_val rfl (wanted_none rfl) ?_ (fK (.pointer (some ⟨k3, 1, none⟩)) fW (hR_ fW) (by rw [hT]; exact rfl) (hP_ 19 _ fy fW rfl hJ))
      clear fK hE hF hJ hN
      go_simp
    refine stepsAll_cons (k := 20) ?_ ?_
    · intro fa fx fW fy hF hN hJ hE K fK
      have hJ : (ThreeG W0 #[.int .i64 a0, .int .i64 (1 + a1)] #[.int .i64 b0, .int .i64 (1 + b1)] #[.int .i64 c0, .int .i64 (1 + c1)]) (fy 24) (fy 25) (fy 26) (fy 27) (fy 28) (fy 29) fW := hJ
      have q19 : fx 19 = .pointer (some ⟨k3, 1, none⟩) := by have q := (hE ⟨19, .data⟩ (by simp) rfl).2; rw [hT] at q; exact q
      have ev33 : fa.tmps[33]?.getD undef = .pointer (some ⟨k3, 1, none⟩) := (hF.ev 19 33 (by kernel_rfl)).trans q19
      have z := cell_below hJ.be p5
      refine wpOp_val rfl (wanted_none rfl) ?_ (fK (.int .u32 c1) fW (hR_ fW) (by rw [hT]; exact rfl) (hP_ 20 _ fy fW rfl hJ))
      clear fK hE hF hJ hN
      go_simp
    refine stepsAll_cons (k := 21) ?_ ?_
    · intro fa fx fW fy hF hN hJ hE K fK
      have hJ : (ThreeG W0 #[.int .i64 a0, .int .i64 (1 + a1)] #[.int .i64 b0, .int .i64 (1 + b1)] #[.int .i64 c0, .int .i64 (1 + c1)]) (fy 24) (fy 25) (fy 26) (fy 27) (fy 28) (fy 29) fW := hJ
      have q20 : fx 20 = .int .u32 c1 := by have q := (hE ⟨20, .data⟩ (by simp) rfl).2; rw [hT] at q; exact q
      have ev34 : fa.tmps[34]?.getD undef = .int .u32 c1 := (hF.ev 20 34 (by kernel_rfl)).trans q20
      refine wpOp_val rfl (wanted_none rfl) ?_ (fK (.int .i64 c1) fW (hR_ fW) (by rw [hT]; exact rfl) (hP_ 21 _ fy fW rfl hJ))
      clear fK hE hF hJ hN
      go_simp
      exact IntWalk.i64_in _ (by omega)
    refine stepsAll_cons (k := 22) ?_ ?_
    · intro fa fx fW fy hF hN hJ hE K fK
      have hJ : (ThreeG W0 #[.int .i64 a0, .int .i64 (1 + a1)] #[.int .i64 b0, .int .i64 (1 + b1)] #[.int .i64 c0, .int .i64 (1 + c1)]) (fy 24) (fy 25) (fy 26) (fy 27) (fy 28) (fy 29) fW := hJ
      have q21 : fx 21 = .int .i64 c1 := by have q := (hE ⟨21, .data⟩ (by simp) rfl).2; rw [hT] at q; exact q
      have ev35 : fa.tmps[35]?.getD undef = .int .i64 c1 := (hF.ev 21 35 (by kernel_rfl)).trans q21
      refine wpOp_val rfl (wanted_none rfl) ?_ (fK (.int .i64 (1 + c1)) fW (hR_ fW) (by rw [hT]; exact rfl) (hP_ 22 _ fy fW rfl hJ))
      clear fK hE hF hJ hN
      go_simp
      exact IntWalk.i64_in _ (by omega)
    refine stepsAll_cons (k := 23) ?_ ?_
    · intro fa fx fW fy hF hN hJ hE K fK
      have hJ : (ThreeG W0 #[.int .i64 a0, .int .i64 (1 + a1)] #[.int .i64 b0, .int .i64 (1 + b1)] #[.int .i64 c0, .int .i64 (1 + c1)]) (fy 24) (fy 25) (fy 26) (fy 27) (fy 28) (fy 29) fW := hJ
      have q18 : fx 18 = .int .i64 c0 := by have q := (hE ⟨18, .data⟩ (by simp) rfl).2; rw [hT] at q; exact q
      have q22 : fx 22 = .int .i64 (1 + c1) := by have q := (hE ⟨22, .data⟩ (by simp) rfl).2; rw [hT] at q; exact q
      have ev32 : fa.tmps[32]?.getD undef = .int .i64 c0 := (hF.ev 18 32 (by kernel_rfl)).trans q18
      have ev36 : fa.tmps[36]?.getD undef = .int .i64 (1 + c1) := (hF.ev 22 36 (by kernel_rfl)).trans q22
      refine wpOp_val rfl (wanted_none rfl) ?_ (fK (.agg #[.int .i64 c0, .int .i64 (1 + c1)]) fW (hR_ fW) (by rw [hT]; exact rfl) (hP_ 23 _ fy fW rfl hJ))
      clear fK hE hF hJ hN
      go_simp
    refine stepsAll_cons (k := 24) ?_ ?_
    · intro fa fx fW fy hF hN hJ hE K fK
      have hJ : (ThreeG W0 #[.int .i64 a0, .int .i64 (1 + a1)] #[.int .i64 b0, .int .i64 (1 + b1)] #[.int .i64 c0, .int .i64 (1 + c1)]) (fy 24) (fy 25) (fy 26) (fy 27) (fy 28) (fy 29) fW := hJ
      refine wpOp_to rfl (wanted_none rfl) (v := .pointer (some ⟨fW.heap.size, 0, none⟩)) (W' := fW.alloc (.cells #[.int .i64 0, .int .i64 0] TB)) ?_ (fK _ _ (by rw [hS_]; trivial) (by rw [hT]; exact trivial) ?_)
      · clear fK hE hF hJ hN
        go_simp
      · rw [hN] at hJ
        exact hJ.mk1 _ _
    refine stepsAll_cons (k := 25) ?_ ?_
    · intro fa fx fW fy hF hN hJ hE K fK
      have hJ : (ThreeG W0 #[.int .i64 a0, .int .i64 (1 + a1)] #[.int .i64 b0, .int .i64 (1 + b1)] #[.int .i64 c0, .int .i64 (1 + c1)]) (fy 24) (fy 25) (fy 26) (fy 27) (fy 28) (fy 29) fW := hJ
      refine wpOp_to rfl (wanted_none rfl) (v := .pointer (some ⟨fW.heap.size, 0, none⟩)) (W' := fW.alloc (.cells #[.int .i64 0, .int .i64 0] TB)) ?_ (fK _ _ (by rw [hS_]; trivial) (by rw [hT]; exact trivial) ?_)
      · clear fK hE hF hJ hN
        go_simp
      · rw [hN] at hJ
        exact ((hJ.rot).mk1 _ _).rot.rot
    refine stepsAll_cons (k := 26) ?_ ?_
    · intro fa fx fW fy hF hN hJ hE K fK
      have hJ : (ThreeG W0 #[.int .i64 a0, .int .i64 (1 + a1)] #[.int .i64 b0, .int .i64 (1 + b1)] #[.int .i64 c0, .int .i64 (1 + c1)]) (fy 24) (fy 25) (fy 26) (fy 27) (fy 28) (fy 29) fW := hJ
      refine wpOp_to rfl (wanted_none rfl) (v := .pointer (some ⟨fW.heap.size, 0, none⟩)) (W' := fW.alloc (.cells #[.int .i64 0, .int .i64 0] TB)) ?_ (fK _ _ (by rw [hS_]; trivial) (by rw [hT]; exact trivial) ?_)
      · clear fK hE hF hJ hN
        go_simp
      · rw [hN] at hJ
        exact ((hJ.rot.rot).mk1 _ _).rot
    refine stepsAll_cons (k := 27) ?_ ?_
    · intro fa fx fW fy hF hN hJ hE K fK
      have hJ : (ThreeG W0 #[.int .i64 a0, .int .i64 (1 + a1)] #[.int .i64 b0, .int .i64 (1 + b1)] #[.int .i64 c0, .int .i64 (1 + c1)]) (fy 24) (fy 25) (fy 26) (fy 27) (fy 28) (fy 29) fW := hJ
      have q7 : fx 7 = .agg #[.int .i64 a0, .int .i64 (1 + a1)] := by have q := (hE ⟨7, .data⟩ (by simp) rfl).2; rw [hT] at q; exact q
      have q24 : (FactS.any : FactS S_).p (fx 24) fW := by have q := (hE ⟨24, .data⟩ (by simp) rfl).2; rw [hT] at q; exact q
      have y24 : fy 24 = some (fx 24) := (hE ⟨24, .data⟩ (by simp) rfl).1
      have ev21 : fa.tmps[21]?.getD undef = .agg #[.int .i64 a0, .int .i64 (1 + a1)] := (hF.ev 7 21 (by kernel_rfl)).trans q7
      have ev7 : fa.tmps[7]?.getD undef = fx 24 := hF.ev 24 7 (by kernel_rfl)
      have hJ0 := hJ
      rw [y24] at hJ
      obtain ⟨k0, x0, y0, g1, l1, bw1, _⟩ := hJ.la _ rfl
      rw [g1] at ev7 hJ
      have i0 := cell_of_row fW k0 0 _ _ _ bw1
      have i1 := cell_of_row fW k0 1 _ _ _ bw1
      have f0 := frozen_of_row fW k0 0 _ _ bw1
      have f1 := frozen_of_row fW k0 1 _ _ bw1
      simp at i0 i1
      refine wpOp_done rfl (wanted_none rfl) (W' := (fW.setCell ⟨k0, 0, none⟩ (.int .i64 a0)).setCell ⟨k0, 1, none⟩ (.int .i64 (1 + a1))) ?_ (fK undef _ (by rw [hS_]; trivial) (by rw [hT]; exact rfl) ?_)
      · clear fK hE hF hJ hJ0 hN bw1
        go_simp
      · have h9 := hJ.st1 rfl rfl undef
        rw [← g1, ← y24] at h9
        exact h9
    refine stepsAll_cons (k := 28) ?_ ?_
    · intro fa fx fW fy hF hN hJ hE K fK
      have hJ : (ThreeG W0 #[.int .i64 a0, .int .i64 (1 + a1)] #[.int .i64 b0, .int .i64 (1 + b1)] #[.int .i64 c0, .int .i64 (1 + c1)]) (fy 24) (fy 25) (fy 26) (fy 27) (fy 28) (fy 29) fW := hJ
      have q15 : fx 15 = .agg #[.int .i64 b0, .int .i64 (1 + b1)] := by have q := (hE ⟨15, .data⟩ (by simp) rfl).2; rw [hT] at q; exact q
      have q25 : (FactS.any : FactS S_).p (fx 25) fW := by have q := (hE ⟨25, .data⟩ (by simp) rfl).2; rw [hT] at q; exact q
      have y25 : fy 25 = some (fx 25) := (hE ⟨25, .data⟩ (by simp) rfl).1
      have ev29 : fa.tmps[29]?.getD undef = .agg #[.int .i64 b0, .int .i64 (1 + b1)] := (hF.ev 15 29 (by kernel_rfl)).trans q15
      have ev8 : fa.tmps[8]?.getD undef = fx 25 := hF.ev 25 8 (by kernel_rfl)
      have hJ0 := hJ
      rw [y25] at hJ
      obtain ⟨k0, x0, y0, g1, l1, bw1, _⟩ := hJ.lb _ rfl
      rw [g1] at ev8 hJ
      have i0 := cell_of_row fW k0 0 _ _ _ bw1
      have i1 := cell_of_row fW k0 1 _ _ _ bw1
      have f0 := frozen_of_row fW k0 0 _ _ bw1
      have f1 := frozen_of_row fW k0 1 _ _ bw1
      simp at i0 i1
      refine wpOp_done rfl (wanted_none rfl) (W' := (fW.setCell ⟨k0, 0, none⟩ (.int .i64 b0)).setCell ⟨k0, 1, none⟩ (.int .i64 (1 + b1))) ?_ (fK undef _ (by rw [hS_]; trivial) (by rw [hT]; exact rfl) ?_)
      · clear fK hE hF hJ hJ0 hN bw1
        go_simp
      · have h9 := ((hJ.rot).st1 rfl rfl undef).rot.rot
        rw [← g1, ← y25] at h9
        exact h9
    refine stepsAll_cons (k := 29) ?_ ?_
    · intro fa fx fW fy hF hN hJ hE K fK
      have hJ : (ThreeG W0 #[.int .i64 a0, .int .i64 (1 + a1)] #[.int .i64 b0, .int .i64 (1 + b1)] #[.int .i64 c0, .int .i64 (1 + c1)]) (fy 24) (fy 25) (fy 26) (fy 27) (fy 28) (fy 29) fW := hJ
      have q23 : fx 23 = .agg #[.int .i64 c0, .int .i64 (1 + c1)] := by have q := (hE ⟨23, .data⟩ (by simp) rfl).2; rw [hT] at q; exact q
      have q26 : (FactS.any : FactS S_).p (fx 26) fW := by have q := (hE ⟨26, .data⟩ (by simp) rfl).2; rw [hT] at q; exact q
      have y26 : fy 26 = some (fx 26) := (hE ⟨26, .data⟩ (by simp) rfl).1
      have ev37 : fa.tmps[37]?.getD undef = .agg #[.int .i64 c0, .int .i64 (1 + c1)] := (hF.ev 23 37 (by kernel_rfl)).trans q23
      have ev9 : fa.tmps[9]?.getD undef = fx 26 := hF.ev 26 9 (by kernel_rfl)
      have hJ0 := hJ
      rw [y26] at hJ
      obtain ⟨k0, x0, y0, g1, l1, bw1, _⟩ := hJ.lc _ rfl
      rw [g1] at ev9 hJ
      have i0 := cell_of_row fW k0 0 _ _ _ bw1
      have i1 := cell_of_row fW k0 1 _ _ _ bw1
      have f0 := frozen_of_row fW k0 0 _ _ bw1
      have f1 := frozen_of_row fW k0 1 _ _ bw1
      simp at i0 i1
      refine wpOp_done rfl (wanted_none rfl) (W' := (fW.setCell ⟨k0, 0, none⟩ (.int .i64 c0)).setCell ⟨k0, 1, none⟩ (.int .i64 (1 + c1))) ?_ (fK undef _ (by rw [hS_]; trivial) (by rw [hT]; exact rfl) ?_)
      · clear fK hE hF hJ hJ0 hN bw1
        go_simp
      · have h9 := ((hJ.rot.rot).st1 rfl rfl undef).rot
        rw [← g1, ← y26] at h9
        exact h9
    exact stepsAll_nil
  intro fa fx fW fy hF hJ0 hx
  have y24 : fy 24 = some (fx 24) := (hx 24 (by decide)).1
  have y25 : fy 25 = some (fx 25) := (hx 25 (by decide)).1
  have y26 : fy 26 = some (fx 26) := (hx 26 (by decide)).1
  have y27 : fy 27 = some (fx 27) := (hx 27 (by decide)).1
  have y28 : fy 28 = some (fx 28) := (hx 28 (by decide)).1
  have y29 : fy 29 = some (fx 29) := (hx 29 (by decide)).1
  have hJ : (ThreeG W0 #[.int .i64 a0, .int .i64 (1 + a1)] #[.int .i64 b0, .int .i64 (1 + b1)] #[.int .i64 c0, .int .i64 (1 + c1)]) (fy 24) (fy 25) (fy 26) (fy 27) (fy 28) (fy 29) fW := hJ0
  clear hJ0
  rw [y24, y25, y26, y27, y28, y29] at hJ
  rw [hF.eq]
  clear hF hx hT T hP_ hR_ y24 y25 y26 y27 y28 y29
  simp only [putAll, Act.put, List.setIfInBounds_toArray, List.set_cons_zero, List.set_cons_succ, ]
  obtain ⟨m1, x1, y1, g1, l1, e1, f1⟩ := hJ.la _ rfl
  obtain ⟨m2, x2, y2, g2, l2, e2, f2⟩ := hJ.lb _ rfl
  obtain ⟨m3, x3, y3, g3, l3, e3, f3⟩ := hJ.lc _ rfl
  rw [f1 rfl] at e1
  rw [f2 rfl] at e2
  rw [f3 rfl] at e3
  have hB5 := below_then hB0 hB0.size hJ.be
  rw [g1, g2, g3]
  have q10 := cell_of_row fW m1 0 _ _ _ e1
  have q11 := cell_of_row fW m1 1 _ _ _ e1
  have q20 := cell_of_row fW m2 0 _ _ _ e2
  have q21 := cell_of_row fW m2 1 _ _ _ e2
  have q30 := cell_of_row fW m3 0 _ _ _ e3
  have q31 := cell_of_row fW m3 1 _ _ _ e3
  simp at q10 q11 q20 q21 q30 q31
  obtain ⟨W5, rfl⟩ : ∃ x, x = fW := ⟨_, rfl⟩
  clear g1 g2 g3 f1 f2 f3 e1 e2 e3 hJ hB0 p0 p1 p2 p3 p4 p5
  go_wp2
  obtain ⟨T, hT⟩ : ∃ T : Nat → Fact, ∀ t_, T t_ = ([Fact.eq (.pointer (some ⟨m1, 0, none⟩)), Fact.eq (.int .i64 a0), Fact.eq (.pointer (some ⟨m1, 1, none⟩)), Fact.eq (.int .i64 (1 + a1)), Fact.eq (.pointer (some ⟨m2, 0, none⟩)), Fact.eq (.int .i64 b0), Fact.eq (.pointer (some ⟨m2, 1, none⟩)), Fact.eq (.int .i64 (1 + b1)), Fact.eq (.int .i64 r), Fact.eq (.pointer (some ⟨m2, 0, none⟩)), Fact.eq (.int .i64 b0), Fact.eq (.pointer (some ⟨m2, 1, none⟩)), Fact.eq (.int .i64 (1 + b1)), Fact.eq (.pointer (some ⟨m1, 0, none⟩)), Fact.eq (.int .i64 a0), Fact.eq (.pointer (some ⟨m1, 1, none⟩)), Fact.eq (.int .i64 (1 + a1)), Fact.eq (.int .i64 (-r)), Fact.eq (.pointer (some ⟨m2, 0, none⟩)), Fact.eq (.int .i64 b0), Fact.eq (.pointer (some ⟨m2, 1, none⟩)), Fact.eq (.int .i64 (1 + b1)), Fact.eq (.pointer (some ⟨m3, 0, none⟩)), Fact.eq (.int .i64 c0), Fact.eq (.pointer (some ⟨m3, 1, none⟩)), Fact.eq (.int .i64 (1 + c1)), Fact.eq (.int .i64 u), Fact.eq (.pointer (some ⟨m1, 0, none⟩)), Fact.eq (.int .i64 a0), Fact.eq (.pointer (some ⟨m1, 1, none⟩)), Fact.eq (.int .i64 (1 + a1)), Fact.eq (.pointer (some ⟨m3, 0, none⟩)), Fact.eq (.int .i64 c0), Fact.eq (.pointer (some ⟨m3, 1, none⟩)), Fact.eq (.int .i64 (1 + c1)), Fact.eq (.int .i64 v), Fact.eq (.int .i64 r), Fact.eq (.int .i64 (-r)), Fact.eq (.int .i64 u), Fact.eq (.int .i64 v)] : List (Fact)).getD t_ Fact.any := ⟨_, fun _ => rfl⟩
  refine region_tab [(0, 38), (1, 39), (2, 40), (3, 41), (4, 42), (5, 43), (6, 44), (7, 45), (8, 46), (9, 47), (10, 48), (11, 49), (12, 50), (13, 51), (14, 52), (15, 53), (16, 54), (17, 55), (18, 56), (19, 57), (20, 58), (21, 59), (22, 60), (23, 61), (24, 62), (25, 63), (26, 64), (27, 65), (28, 66), (29, 67), (30, 68), (31, 69), (32, 70), (33, 71), (34, 72), (35, 73), (36, 10), (37, 11), (38, 12), (39, 13)] T (by kernel_rfl) (by kernel_rfl) (by kernel_rfl) (by kernel_rfl) (by kernel_rfl) ?_ ?_
  · skip
    refine stepsAll_cons (k := 0) ?_ ?_
    · intro fa fx fW hF fB hE K fK
      have ev7 : fa.tmps[7]?.getD undef = .pointer (some ⟨m1, 0, none⟩) := hF.eo 7 (by kernel_rfl)
      refine wpOp_val rfl (wanted_none rfl) ?_ (fK (.pointer (some ⟨m1, 0, none⟩)) fW (Below.refl _ _) (by rw [hT]; exact rfl))
      clear fK hE hF
      go_simp
    refine stepsAll_cons (k := 1) ?_ ?_
    · intro fa fx fW hF fB hE K fK
      have q0 : fx 0 = .pointer (some ⟨m1, 0, none⟩) := by have q := hE ⟨0, .data⟩ (by simp) rfl; rw [hT] at q; exact q
      have ev38 : fa.tmps[38]?.getD undef = .pointer (some ⟨m1, 0, none⟩) := (hF.ev 0 38 (by kernel_rfl)).trans q0
      have z := cell_below fB q10
      refine wpOp_val rfl (wanted_none rfl) ?_ (fK (.int .i64 a0) fW (Below.refl _ _) (by rw [hT]; exact rfl))
      clear fK hE hF
      go_simp
    refine stepsAll_cons (k := 2) ?_ ?_
    · intro fa fx fW hF fB hE K fK
      have ev7 : fa.tmps[7]?.getD undef = .pointer (some ⟨m1, 0, none⟩) := hF.eo 7 (by kernel_rfl)
      refine wpOp_val rfl (wanted_none rfl) ?_ (fK (.pointer (some ⟨m1, 1, none⟩)) fW (Below.refl _ _) (by rw [hT]; exact rfl))
      clear fK hE hF
      go_simp
    refine stepsAll_cons (k := 3) ?_ ?_
    · intro fa fx fW hF fB hE K fK
      have q2 : fx 2 = .pointer (some ⟨m1, 1, none⟩) := by have q := hE ⟨2, .data⟩ (by simp) rfl; rw [hT] at q; exact q
      have ev40 : fa.tmps[40]?.getD undef = .pointer (some ⟨m1, 1, none⟩) := (hF.ev 2 40 (by kernel_rfl)).trans q2
      have z := cell_below fB q11
      refine wpOp_val rfl (wanted_none rfl) ?_ (fK (.int .i64 (1 + a1)) fW (Below.refl _ _) (by rw [hT]; exact rfl))
      clear fK hE hF
      go_simp
    refine stepsAll_cons (k := 4) ?_ ?_
    · intro fa fx fW hF fB hE K fK
      have ev8 : fa.tmps[8]?.getD undef = .pointer (some ⟨m2, 0, none⟩) := hF.eo 8 (by kernel_rfl)
      refine wpOp_val rfl (wanted_none rfl) ?_ (fK (.pointer (some ⟨m2, 0, none⟩)) fW (Below.refl _ _) (by rw [hT]; exact rfl))
      clear fK hE hF
      go_simp
    refine stepsAll_cons (k := 5) ?_ ?_
    · intro fa fx fW hF fB hE K fK
      have q4 : fx 4 = .pointer (some ⟨m2, 0, none⟩) := by have q := hE ⟨4, .data⟩ (by simp) rfl; rw [hT] at q; exact q
      have ev42 : fa.tmps[42]?.getD undef = .pointer (some ⟨m2, 0, none⟩) := (hF.ev 4 42 (by kernel_rfl)).trans q4
      have z := cell_below fB q20
      refine wpOp_val rfl (wanted_none rfl) ?_ (fK (.int .i64 b0) fW (Below.refl _ _) (by rw [hT]; exact rfl))
      clear fK hE hF
      go_simp
    refine stepsAll_cons (k := 6) ?_ ?_
    · intro fa fx fW hF fB hE K fK
      have ev8 : fa.tmps[8]?.getD undef = .pointer (some ⟨m2, 0, none⟩) := hF.eo 8 (by kernel_rfl)
      refine wpOp_val rfl (wanted_none rfl) ?_ (fK (.pointer (some ⟨m2, 1, none⟩)) fW (Below.refl _ _) (by rw [hT]; exact rfl))
      clear fK hE hF
      go_simp
    refine stepsAll_cons (k := 7) ?_ ?_
    · intro fa fx fW hF fB hE K fK
      have q6 : fx 6 = .pointer (some ⟨m2, 1, none⟩) := by have q := hE ⟨6, .data⟩ (by simp) rfl; rw [hT] at q; exact q
      have ev44 : fa.tmps[44]?.getD undef = .pointer (some ⟨m2, 1, none⟩) := (hF.ev 6 44 (by kernel_rfl)).trans q6
      have z := cell_below fB q21
      refine wpOp_val rfl (wanted_none rfl) ?_ (fK (.int .i64 (1 + b1)) fW (Below.refl _ _) (by rw [hT]; exact rfl))
      clear fK hE hF
      go_simp
    refine stepsAll_cons (k := 8) ?_ ?_
    · intro fa fx fW hF fB hE K fK
      have q1 : fx 1 = .int .i64 a0 := by have q := hE ⟨1, .data⟩ (by simp) rfl; rw [hT] at q; exact q
      have q3 : fx 3 = .int .i64 (1 + a1) := by have q := hE ⟨3, .data⟩ (by simp) rfl; rw [hT] at q; exact q
      have q5 : fx 5 = .int .i64 b0 := by have q := hE ⟨5, .data⟩ (by simp) rfl; rw [hT] at q; exact q
      have q7 : fx 7 = .int .i64 (1 + b1) := by have q := hE ⟨7, .data⟩ (by simp) rfl; rw [hT] at q; exact q
      have ev39 : fa.tmps[39]?.getD undef = .int .i64 a0 := (hF.ev 1 39 (by kernel_rfl)).trans q1
      have ev41 : fa.tmps[41]?.getD undef = .int .i64 (1 + a1) := (hF.ev 3 41 (by kernel_rfl)).trans q3
      have ev43 : fa.tmps[43]?.getD undef = .int .i64 b0 := (hF.ev 5 43 (by kernel_rfl)).trans q5
      have ev45 : fa.tmps[45]?.getD undef = .int .i64 (1 + b1) := (hF.ev 7 45 (by kernel_rfl)).trans q7
      refine wpOp_call rfl (wanted_none rfl) (by go_simp; exact ⟨rfl, rfl⟩) ?_
      refine (H1.out fW).mono ?_
      rintro e' w' ⟨rfl, hbb⟩
      exact ⟨_, rfl, fK (.int .i64 r) (w') (hbb) (by rw [hT]; exact rfl)⟩
    refine stepsAll_cons (k := 9) ?_ ?_
    · intro fa fx fW hF fB hE K fK
      have ev8 : fa.tmps[8]?.getD undef = .pointer (some ⟨m2, 0, none⟩) := hF.eo 8 (by kernel_rfl)
      refine wpOp_val rfl (wanted_none rfl) ?_ (fK (.pointer (some ⟨m2, 0, none⟩)) fW (Below.refl _ _) (by rw [hT]; exact rfl))
      clear fK hE hF
      go_simp
    refine stepsAll_cons (k := 10) ?_ ?_
    · intro fa fx fW hF fB hE K fK
      have q9 : fx 9 = .pointer (some ⟨m2, 0, none⟩) := by have q := hE ⟨9, .data⟩ (by simp) rfl; rw [hT] at q; exact q
      have ev47 : fa.tmps[47]?.getD undef = .pointer (some ⟨m2, 0, none⟩) := (hF.ev 9 47 (by kernel_rfl)).trans q9
      have z := cell_below fB q20
      refine wpOp_val rfl (wanted_none rfl) ?_ (fK (.int .i64 b0) fW (Below.refl _ _) (by rw [hT]; exact rfl))
      clear fK hE hF
      go_simp
    refine stepsAll_cons (k := 11) ?_ ?_
    · intro fa fx fW hF fB hE K fK
      have ev8 : fa.tmps[8]?.getD undef = .pointer (some ⟨m2, 0, none⟩) := hF.eo 8 (by kernel_rfl)
      refine wpOp_val rfl (wanted_none rfl) ?_ (fK (.pointer (some ⟨m2, 1, none⟩)) fW (Below.refl _ _) (by rw [hT]; exact rfl))
      clear fK hE hF
      go_simp
    refine stepsAll_cons (k := 12) ?_ ?_
    · intro fa fx fW hF fB hE K fK
      have q11 : fx 11 = .pointer (some ⟨m2, 1, none⟩) := by have q := hE ⟨11, .data⟩ (by simp) rfl; rw [hT] at q; exact q
      have ev49 : fa.tmps[49]?.getD undef = .pointer (some ⟨m2, 1, none⟩) := (hF.ev 11 49 (by kernel_rfl)).trans q11
      have z := cell_below fB q21
      refine wpOp_val rfl (wanted_none rfl) ?_ (fK (.int .i64 (1 + b1)) fW (Below.refl _ _) (by rw [hT]; exact rfl))
      clear fK hE hF
      go_simp
    refine stepsAll_cons (k := 13) ?_ ?_
    · intro fa fx fW hF fB hE K fK
      have ev7 : fa.tmps[7]?.getD undef = .pointer (some ⟨m1, 0, none⟩) := hF.eo 7 (by kernel_rfl)
      refine wpOp_val rfl (wanted_none rfl) ?_ (fK (.pointer (some ⟨m1, 0, none⟩)) fW (Below.refl _ _) (by rw [hT]; exact rfl))
      clear fK hE hF
      go_simp
    refine stepsAll_cons (k := 14) ?_ ?_
    · intro fa fx fW hF fB hE K fK
      have q13 : fx 13 = .pointer (some ⟨m1, 0, none⟩) := by have q := hE ⟨13, .data⟩ (by simp) rfl; rw [hT] at q; exact q
      have ev51 : fa.tmps[51]?.getD undef = .pointer (some ⟨m1, 0, none⟩) := (hF.ev 13 51 (by kernel_rfl)).trans q13
      have z := cell_below fB q10
      refine wpOp_val rfl (wanted_none rfl) ?_ (fK (.int .i64 a0) fW (Below.refl _ _) (by rw [hT]; exact rfl))
      clear fK hE hF
      go_simp
    refine stepsAll_cons (k := 15) ?_ ?_
    · intro fa fx fW hF fB hE K fK
      have ev7 : fa.tmps[7]?.getD undef = .pointer (some ⟨m1, 0, none⟩) := hF.eo 7 (by kernel_rfl)
      refine wpOp_val rfl (wanted_none rfl) ?_ (fK (.pointer (some ⟨m1, 1, none⟩)) fW (Below.refl _ _) (by rw [hT]; exact rfl))
      clear fK hE hF
      go_simp
    refine stepsAll_cons (k := 16) ?_ ?_
    · intro fa fx fW hF fB hE K fK
      have q15 : fx 15 = .pointer (some ⟨m1, 1, none⟩) := by have q := hE ⟨15, .data⟩ (by simp) rfl; rw [hT] at q; exact q
      have ev53 : fa.tmps[53]?.getD undef = .pointer (some ⟨m1, 1, none⟩) := (hF.ev 15 53 (by kernel_rfl)).trans q15
      have z := cell_below fB q11
      refine wpOp_val rfl (wanted_none rfl) ?_ (fK (.int .i64 (1 + a1)) fW (Below.refl _ _) (by rw [hT]; exact rfl))
      clear fK hE hF
      go_simp
    refine stepsAll_cons (k := 17) ?_ ?_
    · intro fa fx fW hF fB hE K fK
      have q10 : fx 10 = .int .i64 b0 := by have q := hE ⟨10, .data⟩ (by simp) rfl; rw [hT] at q; exact q
      have q12 : fx 12 = .int .i64 (1 + b1) := by have q := hE ⟨12, .data⟩ (by simp) rfl; rw [hT] at q; exact q
      have q14 : fx 14 = .int .i64 a0 := by have q := hE ⟨14, .data⟩ (by simp) rfl; rw [hT] at q; exact q
      have q16 : fx 16 = .int .i64 (1 + a1) := by have q := hE ⟨16, .data⟩ (by simp) rfl; rw [hT] at q; exact q
      have ev48 : fa.tmps[48]?.getD undef = .int .i64 b0 := (hF.ev 10 48 (by kernel_rfl)).trans q10
      have ev50 : fa.tmps[50]?.getD undef = .int .i64 (1 + b1) := (hF.ev 12 50 (by kernel_rfl)).trans q12
      have ev52 : fa.tmps[52]?.getD undef = .int .i64 a0 := (hF.ev 14 52 (by kernel_rfl)).trans q14
      have ev54 : fa.tmps[54]?.getD undef = .int .i64 (1 + a1) := (hF.ev 16 54 (by kernel_rfl)).trans q16
      refine wpOp_call rfl (wanted_none rfl) (by go_simp; exact ⟨rfl, rfl⟩) ?_
      refine (H2.out fW).mono ?_
      rintro e' w' ⟨rfl, hbb⟩
      exact ⟨_, rfl, fK (.int .i64 (-r)) (w') (hbb) (by rw [hT]; exact rfl)⟩
    refine stepsAll_cons (k := 18) ?_ ?_
    · intro fa fx fW hF fB hE K fK
      have ev8 : fa.tmps[8]?.getD undef = .pointer (some ⟨m2, 0, none⟩) := hF.eo 8 (by kernel_rfl)
      refine wpOp_val rfl (wanted_none rfl) ?_ (fK (.pointer (some ⟨m2, 0, none⟩)) fW (Below.refl _ _) (by rw [hT]; exact rfl))
      clear fK hE hF
      go_simp
    refine stepsAll_cons (k := 19) ?_ ?_
    · intro fa fx fW hF fB hE K fK
      have q18 : fx 18 = .pointer (some ⟨m2, 0, none⟩) := by have q := hE ⟨18, .data⟩ (by simp) rfl; rw [hT] at q; exact q
      have ev56 : fa.tmps[56]?.getD undef = .pointer (some ⟨m2, 0, none⟩) := (hF.ev 18 56 (by kernel_rfl)).trans q18
      have z := cell_below fB q20
      refine wpOp_val rfl (wanted_none rfl) ?_ (fK (.int .i64 b0) fW (Below.refl _ _) (by rw [hT]; exact rfl))
      clear fK hE hF
      go_simp
    refine stepsAll_cons (k := 20) ?_ ?_
    · intro fa fx fW hF fB hE K fK
      have ev8 : fa.tmps[8]?.getD undef = .pointer (some ⟨m2, 0, none⟩) := hF.eo 8 (by kernel_rfl)
      refine wpOp_val rfl (wanted_none rfl) ?_ (fK (.pointer (some ⟨m2, 1, none⟩)) fW (Below.refl _ _) (by rw [hT]; exact rfl))
      clear fK hE hF
      go_simp
    refine stepsAll_cons (k := 21) ?_ ?_
    · intro fa fx fW hF fB hE K fK
      have q20 : fx 20 = .pointer (some ⟨m2, 1, none⟩) := by have q := hE ⟨20, .data⟩ (by simp) rfl; rw [hT] at q; exact q
      have ev58 : fa.tmps[58]?.getD undef = .pointer (some ⟨m2, 1, none⟩) := (hF.ev 20 58 (by kernel_rfl)).trans q20
      have z := cell_below fB q21
      refine wpOp_val rfl (wanted_none rfl) ?_ (fK (.int .i64 (1 + b1)) fW (Below.refl _ _) (by rw [hT]; exact rfl))
      clear fK hE hF
      go_simp
    refine stepsAll_cons (k := 22) ?_ ?_
    · intro fa fx fW hF fB hE K fK
      have ev9 : fa.tmps[9]?.getD undef = .pointer (some ⟨m3, 0, none⟩) := hF.eo 9 (by kernel_rfl)
      refine wpOp_val rfl (wanted_none rfl) ?_ (fK (.pointer (some ⟨m3, 0, none⟩)) fW (Below.refl _ _) (by rw [hT]; exact rfl))
      clear fK hE hF
      go_simp
    refine stepsAll_cons (k := 23) ?_ ?_
    · intro fa fx fW hF fB hE K fK
      have q22 : fx 22 = .pointer (some ⟨m3, 0, none⟩) := by have q := hE ⟨22, .data⟩ (by simp) rfl; rw [hT] at q; exact q
      have ev60 : fa.tmps[60]?.getD undef = .pointer (some ⟨m3, 0, none⟩) := (hF.ev 22 60 (by kernel_rfl)).trans q22
      have z := cell_below fB q30
      refine wpOp_val rfl (wanted_none rfl) ?_ (fK (.int .i64 c0) fW (Below.refl _ _) (by rw [hT]; exact rfl))
      clear fK hE hF
      go_simp
    refine stepsAll_cons (k := 24) ?_ ?_
    · intro fa fx fW hF fB hE K fK
      have ev9 : fa.tmps[9]?.getD undef = .pointer (some ⟨m3, 0, none⟩) := hF.eo 9 (by kernel_rfl)
      refine wpOp_val rfl (wanted_none rfl) ?_ (fK (.pointer (some ⟨m3, 1, none⟩)) fW (Below.refl _ _) (by rw [hT]; exact rfl))
      clear fK hE hF
      go_simp
    refine stepsAll_cons (k := 25) ?_ ?_
    · intro fa fx fW hF fB hE K fK
      have q24 : fx 24 = .pointer (some ⟨m3, 1, none⟩) := by have q := hE ⟨24, .data⟩ (by simp) rfl; rw [hT] at q; exact q
      have ev62 : fa.tmps[62]?.getD undef = .pointer (some ⟨m3, 1, none⟩) := (hF.ev 24 62 (by kernel_rfl)).trans q24
      have z := cell_below fB q31
      refine wpOp_val rfl (wanted_none rfl) ?_ (fK (.int .i64 (1 + c1)) fW (Below.refl _ _) (by rw [hT]; exact rfl))
      clear fK hE hF
      go_simp
    refine stepsAll_cons (k := 26) ?_ ?_
    · intro fa fx fW hF fB hE K fK
      have q19 : fx 19 = .int .i64 b0 := by have q := hE ⟨19, .data⟩ (by simp) rfl; rw [hT] at q; exact q
      have q21 : fx 21 = .int .i64 (1 + b1) := by have q := hE ⟨21, .data⟩ (by simp) rfl; rw [hT] at q; exact q
      have q23 : fx 23 = .int .i64 c0 := by have q := hE ⟨23, .data⟩ (by simp) rfl; rw [hT] at q; exact q
      have q25 : fx 25 = .int .i64 (1 + c1) := by have q := hE ⟨25, .data⟩ (by simp) rfl; rw [hT] at q; exact q
      have ev57 : fa.tmps[57]?.getD undef = .int .i64 b0 := (hF.ev 19 57 (by kernel_rfl)).trans q19
      have ev59 : fa.tmps[59]?.getD undef = .int .i64 (1 + b1) := (hF.ev 21 59 (by kernel_rfl)).trans q21
      have ev61 : fa.tmps[61]?.getD undef = .int .i64 c0 := (hF.ev 23 61 (by kernel_rfl)).trans q23
      have ev63 : fa.tmps[63]?.getD undef = .int .i64 (1 + c1) := (hF.ev 25 63 (by kernel_rfl)).trans q25
      refine wpOp_call rfl (wanted_none rfl) (by go_simp; exact ⟨rfl, rfl⟩) ?_
      refine (H3.out fW).mono ?_
      rintro e' w' ⟨rfl, hbb⟩
      exact ⟨_, rfl, fK (.int .i64 u) (w') (hbb) (by rw [hT]; exact rfl)⟩
    refine stepsAll_cons (k := 27) ?_ ?_
    · intro fa fx fW hF fB hE K fK
      have ev7 : fa.tmps[7]?.getD undef = .pointer (some ⟨m1, 0, none⟩) := hF.eo 7 (by kernel_rfl)
      refine wpOp_val rfl (wanted_none rfl) ?_ (fK (.pointer (some ⟨m1, 0, none⟩)) fW (Below.refl _ _) (by rw [hT]; exact rfl))
      clear fK hE hF
      go_simp
    refine stepsAll_cons (k := 28) ?_ ?_
    · intro fa fx fW hF fB hE K fK
      have q27 : fx 27 = .pointer (some ⟨m1, 0, none⟩) := by have q := hE ⟨27, .data⟩ (by simp) rfl; rw [hT] at q; exact q
      have ev65 : fa.tmps[65]?.getD undef = .pointer (some ⟨m1, 0, none⟩) := (hF.ev 27 65 (by kernel_rfl)).trans q27
      have z := cell_below fB q10
      refine wpOp_val rfl (wanted_none rfl) ?_ (fK (.int .i64 a0) fW (Below.refl _ _) (by rw [hT]; exact rfl))
      clear fK hE hF
      go_simp
    refine stepsAll_cons (k := 29) ?_ ?_
    · intro fa fx fW hF fB hE K fK
      have ev7 : fa.tmps[7]?.getD undef = .pointer (some ⟨m1, 0, none⟩) := hF.eo 7 (by kernel_rfl)
      refine wpOp_val rfl (wanted_none rfl) ?_ (fK (.pointer (some ⟨m1, 1, none⟩)) fW (Below.refl _ _) (by rw [hT]; exact rfl))
      clear fK hE hF
      go_simp
    refine stepsAll_cons (k := 30) ?_ ?_
    · intro fa fx fW hF fB hE K fK
      have q29 : fx 29 = .pointer (some ⟨m1, 1, none⟩) := by have q := hE ⟨29, .data⟩ (by simp) rfl; rw [hT] at q; exact q
      have ev67 : fa.tmps[67]?.getD undef = .pointer (some ⟨m1, 1, none⟩) := (hF.ev 29 67 (by kernel_rfl)).trans q29
      have z := cell_below fB q11
      refine wpOp_val rfl (wanted_none rfl) ?_ (fK (.int .i64 (1 + a1)) fW (Below.refl _ _) (by rw [hT]; exact rfl))
      clear fK hE hF
      go_simp
    refine stepsAll_cons (k := 31) ?_ ?_
    · intro fa fx fW hF fB hE K fK
      have ev9 : fa.tmps[9]?.getD undef = .pointer (some ⟨m3, 0, none⟩) := hF.eo 9 (by kernel_rfl)
      refine wpOp_val rfl (wanted_none rfl) ?_ (fK (.pointer (some ⟨m3, 0, none⟩)) fW (Below.refl _ _) (by rw [hT]; exact rfl))
      clear fK hE hF
      go_simp
    refine stepsAll_cons (k := 32) ?_ ?_
    · intro fa fx fW hF fB hE K fK
      have q31 : fx 31 = .pointer (some ⟨m3, 0, none⟩) := by have q := hE ⟨31, .data⟩ (by simp) rfl; rw [hT] at q; exact q
      have ev69 : fa.tmps[69]?.getD undef = .pointer (some ⟨m3, 0, none⟩) := (hF.ev 31 69 (by kernel_rfl)).trans q31
      have z := cell_below fB q30
      refine wpOp_val rfl (wanted_none rfl) ?_ (fK (.int .i64 c0) fW (Below.refl _ _) (by rw [hT]; exact rfl))
      clear fK hE hF
      go_simp
    refine stepsAll_cons (k := 33) ?_ ?_
    · intro fa fx fW hF fB hE K fK
      have ev9 : fa.tmps[9]?.getD undef = .pointer (some ⟨m3, 0, none⟩) := hF.eo 9 (by kernel_rfl)
      refine wpOp_val rfl (wanted_none rfl) ?_ (fK (.pointer (some ⟨m3, 1, none⟩)) fW (Below.refl _ _) (by rw [hT]; exact rfl))
      clear fK hE hF
      go_simp
    refine stepsAll_cons (k := 34) ?_ ?_
    · intro fa fx fW hF fB hE K fK
      have q33 : fx 33 = .pointer (some ⟨m3, 1, none⟩) := by have q := hE ⟨33, .data⟩ (by simp) rfl; rw [hT] at q; exact q
      have ev71 : fa.tmps[71]?.getD undef = .pointer (some ⟨m3, 1, none⟩) := (hF.ev 33 71 (by kernel_rfl)).trans q33
      have z := cell_below fB q31
      refine wpOp_val rfl (wanted_none rfl) ?_ (fK (.int .i64 (1 + c1)) fW (Below.refl _ _) (by rw [hT]; exact rfl))
      clear fK hE hF
      go_simp
    refine stepsAll_cons (k := 35) ?_ ?_
    · intro fa fx fW hF fB hE K fK
      have q28 : fx 28 = .int .i64 a0 := by have q := hE ⟨28, .data⟩ (by simp) rfl; rw [hT] at q; exact q
      have q30 : fx 30 = .int .i64 (1 + a1) := by have q := hE ⟨30, .data⟩ (by simp) rfl; rw [hT] at q; exact q
      have q32 : fx 32 = .int .i64 c0 := by have q := hE ⟨32, .data⟩ (by simp) rfl; rw [hT] at q; exact q
      have q34 : fx 34 = .int .i64 (1 + c1) := by have q := hE ⟨34, .data⟩ (by simp) rfl; rw [hT] at q; exact q
      have ev66 : fa.tmps[66]?.getD undef = .int .i64 a0 := (hF.ev 28 66 (by kernel_rfl)).trans q28
      have ev68 : fa.tmps[68]?.getD undef = .int .i64 (1 + a1) := (hF.ev 30 68 (by kernel_rfl)).trans q30
      have ev70 : fa.tmps[70]?.getD undef = .int .i64 c0 := (hF.ev 32 70 (by kernel_rfl)).trans q32
      have ev72 : fa.tmps[72]?.getD undef = .int .i64 (1 + c1) := (hF.ev 34 72 (by kernel_rfl)).trans q34
      refine wpOp_call rfl (wanted_none rfl) (by go_simp; exact ⟨rfl, rfl⟩) ?_
      refine (H4.out fW).mono ?_
      rintro e' w' ⟨rfl, hbb⟩
      exact ⟨_, rfl, fK (.int .i64 v) (w') (hbb) (by rw [hT]; exact rfl)⟩
    refine stepsAll_cons (k := 36) ?_ ?_
    · intro fa fx fW hF fB hE K fK
      have q8 : fx 8 = .int .i64 r := by have q := hE ⟨8, .data⟩ (by simp) rfl; rw [hT] at q; exact q
      have ev46 : fa.tmps[46]?.getD undef = .int .i64 r := (hF.ev 8 46 (by kernel_rfl)).trans q8
      refine wpOp_val rfl (wanted_none rfl) ?_ (fK (.int .i64 r) fW (Below.refl _ _) (by rw [hT]; exact rfl))
      clear fK hE hF
      go_simp
    refine stepsAll_cons (k := 37) ?_ ?_
    · intro fa fx fW hF fB hE K fK
      have q17 : fx 17 = .int .i64 (-r) := by have q := hE ⟨17, .data⟩ (by simp) rfl; rw [hT] at q; exact q
      have ev55 : fa.tmps[55]?.getD undef = .int .i64 (-r) := (hF.ev 17 55 (by kernel_rfl)).trans q17
      refine wpOp_val rfl (wanted_none rfl) ?_ (fK (.int .i64 (-r)) fW (Below.refl _ _) (by rw [hT]; exact rfl))
      clear fK hE hF
      go_simp
    refine stepsAll_cons (k := 38) ?_ ?_
    · intro fa fx fW hF fB hE K fK
      have q26 : fx 26 = .int .i64 u := by have q := hE ⟨26, .data⟩ (by simp) rfl; rw [hT] at q; exact q
      have ev64 : fa.tmps[64]?.getD undef = .int .i64 u := (hF.ev 26 64 (by kernel_rfl)).trans q26
      refine wpOp_val rfl (wanted_none rfl) ?_ (fK (.int .i64 u) fW (Below.refl _ _) (by rw [hT]; exact rfl))
      clear fK hE hF
      go_simp
    refine stepsAll_cons (k := 39) ?_ ?_
    · intro fa fx fW hF fB hE K fK
      have q35 : fx 35 = .int .i64 v := by have q := hE ⟨35, .data⟩ (by simp) rfl; rw [hT] at q; exact q
      have ev73 : fa.tmps[73]?.getD undef = .int .i64 v := (hF.ev 35 73 (by kernel_rfl)).trans q35
      refine wpOp_val rfl (wanted_none rfl) ?_ (fK (.int .i64 v) fW (Below.refl _ _) (by rw [hT]; exact rfl))
      clear fK hE hF
      go_simp
    exact stepsAll_nil
  intro fa fx fW hF fB hx
  have q36 : fx 36 = .int .i64 r := by have q := hx 36 (by decide); rw [hT] at q; exact q
  have ev10 : fa.tmps[10]?.getD undef = .int .i64 r := (hF.ev 36 10 (by kernel_rfl)).trans q36
  have q37 : fx 37 = .int .i64 (-r) := by have q := hx 37 (by decide); rw [hT] at q; exact q
  have ev11 : fa.tmps[11]?.getD undef = .int .i64 (-r) := (hF.ev 37 11 (by kernel_rfl)).trans q37
  have q38 : fx 38 = .int .i64 u := by have q := hx 38 (by decide); rw [hT] at q; exact q
  have ev12 : fa.tmps[12]?.getD undef = .int .i64 u := (hF.ev 38 12 (by kernel_rfl)).trans q38
  have q39 : fx 39 = .int .i64 v := by have q := hx 39 (by decide); rw [hT] at q; exact q
  have ev13 : fa.tmps[13]?.getD undef = .int .i64 v := (hF.ev 39 13 (by kernel_rfl)).trans q39
  rw [hF.eq]
  clear hF hx
  simp only [putAll, Act.put, List.setIfInBounds_toArray, List.set_cons_zero, List.set_cons_succ, q36, q37, q38, q39]
  have z10 := cell_below fB q10
  have z11 := cell_below fB q11
  have hB6 := below_tr hB5 fB
  have hnn : (r != r) = false := by simp
  clear q10 q11 q20 q21 q30 q31 hB5 fB
  rcases hr with rfl | rfl | rfl
  · rcases hq with rfl | rfl | rfl
    · have hv := HTR.out (by omega) (by omega)
      clear hs
      go_wp2_with (first | (go_at_call 22; (with_reducible refine (H5.out _).mono ?_); rintro e w7 ⟨rfl, hb7⟩) | (go_at_call 13; (with_reducible refine (HL.out _).mono ?_); rintro e w8 ⟨rfl, hb8⟩))
      go_ret
      exact ⟨rfl, below_tr (below_tr hB6 hb7) hb8⟩
    · have hv := HTR.out (by omega) (by omega)
      clear hs
      go_wp2_with (first | (go_at_call 22; (with_reducible refine (H5.out _).mono ?_); rintro e w7 ⟨rfl, hb7⟩) | (go_at_call 13; (with_reducible refine (HL.out _).mono ?_); rintro e w8 ⟨rfl, hb8⟩))
      go_ret
      exact ⟨rfl, below_tr (below_tr hB6 hb7) hb8⟩
    · clear hs
      go_wp2_with (first | (go_at_call 22; (with_reducible refine (H5.out _).mono ?_); rintro e w7 ⟨rfl, hb7⟩) | (go_at_call 13; (with_reducible refine (HL.out _).mono ?_); rintro e w8 ⟨rfl, hb8⟩))
      go_ret
      exact ⟨rfl, below_tr (below_tr hB6 hb7) hb8⟩
  · rcases hq with rfl | rfl | rfl
    · have hv := HTR.out (by omega) (by omega)
      clear hs
      go_wp2_with (first | (go_at_call 22; (with_reducible refine (H5.out _).mono ?_); rintro e w7 ⟨rfl, hb7⟩) | (go_at_call 13; (with_reducible refine (HL.out _).mono ?_); rintro e w8 ⟨rfl, hb8⟩))
      go_ret
      exact ⟨rfl, below_tr (below_tr hB6 hb7) hb8⟩
    · have hv := HTR.out (by omega) (by omega)
      clear hs
      go_wp2_with (first | (go_at_call 22; (with_reducible refine (H5.out _).mono ?_); rintro e w7 ⟨rfl, hb7⟩) | (go_at_call 13; (with_reducible refine (HL.out _).mono ?_); rintro e w8 ⟨rfl, hb8⟩))
      go_ret
      exact ⟨rfl, below_tr (below_tr hB6 hb7) hb8⟩
    · clear hs
      go_wp2_with (first | (go_at_call 22; (with_reducible refine (H5.out _).mono ?_); rintro e w7 ⟨rfl, hb7⟩) | (go_at_call 13; (with_reducible refine (HL.out _).mono ?_); rintro e w8 ⟨rfl, hb8⟩))
      go_ret
      exact ⟨rfl, below_tr (below_tr hB6 hb7) hb8⟩
  · clear hs hq
    go_wp2_with (first | (go_at_call 22; (with_reducible refine (H5.out _).mono ?_); rintro e w7 ⟨rfl, hb7⟩) | (go_at_call 13; (with_reducible refine (HL.out _).mono ?_); rintro e w8 ⟨rfl, hb8⟩))
    go_ret
    exact ⟨rfl, below_tr (below_tr hB6 hb7) hb8⟩
end Go.Proofs.Ytkebkmjffbnihaa
