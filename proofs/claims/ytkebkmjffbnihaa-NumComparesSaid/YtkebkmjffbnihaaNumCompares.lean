/- The law NumCompares, walked. -/
import Derived.Test.YtkebkmjffbnihaaDigNear
import Derived.Test.YtkebkmjffbnihaaDigCross
import Derived.Test.YtkebkmjffbnihaaDigGcd
import Derived.Test.YtkebkmjffbnihaaNumNear
import Derived.Test.YtkebkmjffbnihaaNumE
namespace Go.Proofs.Ytkebkmjffbnihaa
open Go.RowKit
set_option maxRecDepth 100000 in
set_option maxHeartbeats 8000000 in
theorem compares_law (a b c d e f : Int) (ha : I64 a) (hb : I64 b) (hc : I64 c) (hd : I64 d) (he : I64 e) (hf : I64 f) (w : World) : Calls Try.prog 8 #[.agg #[.int .i64 a, .int .i64 b, .int .i64 c, .int .i64 d, .int .i64 e, .int .i64 f]] w fun e' w' => e' = .returned (.bool true) ∧ Below w.heap.size w w' := by
  have HL := Lib.hid (fun W => lives01 W)
  have H1 := Lib.hid (fun W => ncross a b c d ha hb hc hd W)
  have H2 := Lib.hid (fun W => dCross a b c d W ha hb hc hd)
  have H3 := Lib.hid (fun W => nnear a b c d e f ha hb hc hd he hf W)
  have H4 := Lib.hid (fun W => dNear a b c d e f W ha hb hc hd he hf)
  have H5 := Lib.hid (fun W => nclamp a b c W)
  have H6 := Lib.hid (fun W => dClamp a b c W)
  have H7 := Lib.hid (fun W => ngcd a b ha hb W)
  have H8 := Lib.hid (fun W => dGcd a b ha hb W)
  generalize cmpV (a * d) (c * b) = r1 at *
  generalize nearV (a * d) (c * b) (e * f) = r2 at *
  generalize clampV a b c = r3 at *
  generalize ((gcdV a b : Nat) : Int) = r4 at *
  have e1 : (r1 == r1) = true := by simp
  have e2 : (r2 == r2) = true := by simp
  have e3 : (r3 == r3) = true := by simp
  have e4 : (r4 == r4) = true := by simp
  clear ha hb hc hd he hf
  go_enter Try.func8, Try.ntmps8
  go_wp2
  obtain ⟨W0, hW0⟩ : ∃ W0, W0 = w.alloc (.cells #[.int .i64 a, .int .i64 b, .int .i64 c, .int .i64 d, .int .i64 e, .int .i64 f] 40) := ⟨_, rfl⟩
  have hB0 : Below w.heap.size w W0 := by rw [hW0]; exact below_al (Below.refl _ _) _
  have c0 : W0.cell? ⟨w.heap.size, 0, none⟩ = some (.int .i64 a) := by rw [hW0]; go_simp
  have c1 : W0.cell? ⟨w.heap.size, 1, none⟩ = some (.int .i64 b) := by rw [hW0]; go_simp
  have c2 : W0.cell? ⟨w.heap.size, 2, none⟩ = some (.int .i64 c) := by rw [hW0]; go_simp
  have c3 : W0.cell? ⟨w.heap.size, 3, none⟩ = some (.int .i64 d) := by rw [hW0]; go_simp
  have c4 : W0.cell? ⟨w.heap.size, 4, none⟩ = some (.int .i64 e) := by rw [hW0]; go_simp
  have c5 : W0.cell? ⟨w.heap.size, 5, none⟩ = some (.int .i64 f) := by rw [hW0]; go_simp
  rw [← hW0]
  obtain ⟨b0, hb0⟩ : ∃ b, b = w.heap.size := ⟨_, rfl⟩
  rw [show Value.pointer (some ⟨w.heap.size, 0, none⟩) = Value.pointer (some ⟨b0, 0, none⟩) by rw [hb0]]
  rw [← hb0] at c0 c1 c2 c3 c4 c5
  clear hW0 hb0
  obtain ⟨T, hT⟩ : ∃ T : Nat → Fact, ∀ t_, T t_ = ([Fact.eq (.pointer (some ⟨b0, 0, none⟩)), Fact.eq (.int .i64 a), Fact.eq (.pointer (some ⟨b0, 1, none⟩)), Fact.eq (.int .i64 b), Fact.eq (.pointer (some ⟨b0, 2, none⟩)), Fact.eq (.int .i64 c), Fact.eq (.pointer (some ⟨b0, 3, none⟩)), Fact.eq (.int .i64 d), Fact.eq (.int .i64 r1), Fact.eq (.pointer (some ⟨b0, 0, none⟩)), Fact.eq (.int .i64 a), Fact.eq (.pointer (some ⟨b0, 1, none⟩)), Fact.eq (.int .i64 b), Fact.eq (.pointer (some ⟨b0, 2, none⟩)), Fact.eq (.int .i64 c), Fact.eq (.pointer (some ⟨b0, 3, none⟩)), Fact.eq (.int .i64 d), Fact.eq (.int .i64 r1), Fact.eq (.bool true), Fact.eq (.bool true), Fact.eq (.pointer (some ⟨b0, 0, none⟩)), Fact.eq (.int .i64 a), Fact.eq (.pointer (some ⟨b0, 1, none⟩)), Fact.eq (.int .i64 b), Fact.eq (.pointer (some ⟨b0, 2, none⟩)), Fact.eq (.int .i64 c), Fact.eq (.pointer (some ⟨b0, 3, none⟩)), Fact.eq (.int .i64 d), Fact.eq (.pointer (some ⟨b0, 4, none⟩)), Fact.eq (.int .i64 e), Fact.eq (.pointer (some ⟨b0, 5, none⟩)), Fact.eq (.int .i64 f), Fact.eq (.bool r2), Fact.eq (.pointer (some ⟨b0, 0, none⟩)), Fact.eq (.int .i64 a), Fact.eq (.pointer (some ⟨b0, 1, none⟩)), Fact.eq (.int .i64 b), Fact.eq (.pointer (some ⟨b0, 2, none⟩)), Fact.eq (.int .i64 c), Fact.eq (.pointer (some ⟨b0, 3, none⟩)), Fact.eq (.int .i64 d), Fact.eq (.pointer (some ⟨b0, 4, none⟩)), Fact.eq (.int .i64 e), Fact.eq (.pointer (some ⟨b0, 5, none⟩)), Fact.eq (.int .i64 f), Fact.eq (.bool r2), Fact.eq (.bool true), Fact.eq (.bool true), Fact.eq (.bool true), Fact.eq (.pointer (some ⟨b0, 0, none⟩)), Fact.eq (.int .i64 a), Fact.eq (.pointer (some ⟨b0, 1, none⟩)), Fact.eq (.int .i64 b), Fact.eq (.pointer (some ⟨b0, 2, none⟩)), Fact.eq (.int .i64 c), Fact.eq (.int .i64 r3), Fact.eq (.pointer (some ⟨b0, 0, none⟩)), Fact.eq (.int .i64 a), Fact.eq (.pointer (some ⟨b0, 1, none⟩)), Fact.eq (.int .i64 b), Fact.eq (.pointer (some ⟨b0, 2, none⟩)), Fact.eq (.int .i64 c), Fact.eq (.int .i64 r3), Fact.eq (.bool true), Fact.eq (.bool true), Fact.eq (.bool true), Fact.eq (.pointer (some ⟨b0, 0, none⟩)), Fact.eq (.int .i64 a), Fact.eq (.pointer (some ⟨b0, 1, none⟩)), Fact.eq (.int .i64 b), Fact.eq (.int .i64 r4), Fact.eq (.pointer (some ⟨b0, 0, none⟩)), Fact.eq (.int .i64 a), Fact.eq (.pointer (some ⟨b0, 1, none⟩)), Fact.eq (.int .i64 b), Fact.eq (.int .i64 r4), Fact.eq (.bool true), Fact.eq (.bool true), Fact.eq (.bool true), Fact.eq (.bool true), Fact.eq (.bool true), Fact.eq (.bool true)] : List (Fact)).getD t_ Fact.any := ⟨_, fun _ => rfl⟩
  refine region_tab [(0, 3), (1, 4), (2, 5), (3, 6), (4, 7), (5, 8), (6, 9), (7, 10), (8, 11), (9, 12), (10, 13), (11, 14), (12, 15), (13, 16), (14, 17), (15, 18), (16, 19), (17, 20), (18, 21), (19, 22), (20, 23), (21, 24), (22, 25), (23, 26), (24, 27), (25, 28), (26, 29), (27, 30), (28, 31), (29, 32), (30, 33), (31, 34), (32, 35), (33, 36), (34, 37), (35, 38), (36, 39), (37, 40), (38, 41), (39, 42), (40, 43), (41, 44), (42, 45), (43, 46), (44, 47), (45, 48), (46, 49), (47, 50), (48, 51), (49, 52), (50, 53), (51, 54), (52, 55), (53, 56), (54, 57), (55, 58), (56, 59), (57, 60), (58, 61), (59, 62), (60, 63), (61, 64), (62, 65), (63, 66), (64, 67), (65, 68), (66, 69), (67, 70), (68, 71), (69, 72), (70, 73), (71, 74), (72, 75), (73, 76), (74, 77), (75, 78), (76, 79), (77, 80), (78, 81), (79, 82), (80, 83), (81, 2)] T (by kernel_rfl) (by kernel_rfl) (by kernel_rfl) (by kernel_rfl) (by kernel_rfl) ?_ ?_
  · skip
    refine stepsAll_cons (k := 0) ?_ ?_
    · intro fa fx fW hF fB hE K fK
      have ev1 : fa.tmps[1]?.getD undef = .pointer (some ⟨b0, 0, none⟩) := hF.eo 1 (by kernel_rfl)
      refine wpOp_val rfl (wanted_none rfl) ?_ (fK (.pointer (some ⟨b0, 0, none⟩)) fW (Below.refl _ _) (by rw [hT]; exact rfl))
      clear fK hE hF
      go_simp
    refine stepsAll_cons (k := 1) ?_ ?_
    · intro fa fx fW hF fB hE K fK
      have q0 : fx 0 = .pointer (some ⟨b0, 0, none⟩) := by have q := hE ⟨0, .data⟩ (by simp) rfl; rw [hT] at q; exact q
      have ev3 : fa.tmps[3]?.getD undef = .pointer (some ⟨b0, 0, none⟩) := (hF.ev 0 3 (by kernel_rfl)).trans q0
      have z := cell_below fB c0
      refine wpOp_val rfl (wanted_none rfl) ?_ (fK (.int .i64 a) fW (Below.refl _ _) (by rw [hT]; exact rfl))
      clear fK hE hF
      go_simp
    refine stepsAll_cons (k := 2) ?_ ?_
    · intro fa fx fW hF fB hE K fK
      have ev1 : fa.tmps[1]?.getD undef = .pointer (some ⟨b0, 0, none⟩) := hF.eo 1 (by kernel_rfl)
      refine wpOp_val rfl (wanted_none rfl) ?_ (fK (.pointer (some ⟨b0, 1, none⟩)) fW (Below.refl _ _) (by rw [hT]; exact rfl))
      clear fK hE hF
      go_simp
    refine stepsAll_cons (k := 3) ?_ ?_
    · intro fa fx fW hF fB hE K fK
      have q2 : fx 2 = .pointer (some ⟨b0, 1, none⟩) := by have q := hE ⟨2, .data⟩ (by simp) rfl; rw [hT] at q; exact q
      have ev5 : fa.tmps[5]?.getD undef = .pointer (some ⟨b0, 1, none⟩) := (hF.ev 2 5 (by kernel_rfl)).trans q2
      have z := cell_below fB c1
      refine wpOp_val rfl (wanted_none rfl) ?_ (fK (.int .i64 b) fW (Below.refl _ _) (by rw [hT]; exact rfl))
      clear fK hE hF
      go_simp
    refine stepsAll_cons (k := 4) ?_ ?_
    · intro fa fx fW hF fB hE K fK
      have ev1 : fa.tmps[1]?.getD undef = .pointer (some ⟨b0, 0, none⟩) := hF.eo 1 (by kernel_rfl)
      refine wpOp_val rfl (wanted_none rfl) ?_ (fK (.pointer (some ⟨b0, 2, none⟩)) fW (Below.refl _ _) (by rw [hT]; exact rfl))
      clear fK hE hF
      go_simp
    refine stepsAll_cons (k := 5) ?_ ?_
    · intro fa fx fW hF fB hE K fK
      have q4 : fx 4 = .pointer (some ⟨b0, 2, none⟩) := by have q := hE ⟨4, .data⟩ (by simp) rfl; rw [hT] at q; exact q
      have ev7 : fa.tmps[7]?.getD undef = .pointer (some ⟨b0, 2, none⟩) := (hF.ev 4 7 (by kernel_rfl)).trans q4
      have z := cell_below fB c2
      refine wpOp_val rfl (wanted_none rfl) ?_ (fK (.int .i64 c) fW (Below.refl _ _) (by rw [hT]; exact rfl))
      clear fK hE hF
      go_simp
    refine stepsAll_cons (k := 6) ?_ ?_
    · intro fa fx fW hF fB hE K fK
      have ev1 : fa.tmps[1]?.getD undef = .pointer (some ⟨b0, 0, none⟩) := hF.eo 1 (by kernel_rfl)
      refine wpOp_val rfl (wanted_none rfl) ?_ (fK (.pointer (some ⟨b0, 3, none⟩)) fW (Below.refl _ _) (by rw [hT]; exact rfl))
      clear fK hE hF
      go_simp
    refine stepsAll_cons (k := 7) ?_ ?_
    · intro fa fx fW hF fB hE K fK
      have q6 : fx 6 = .pointer (some ⟨b0, 3, none⟩) := by have q := hE ⟨6, .data⟩ (by simp) rfl; rw [hT] at q; exact q
      have ev9 : fa.tmps[9]?.getD undef = .pointer (some ⟨b0, 3, none⟩) := (hF.ev 6 9 (by kernel_rfl)).trans q6
      have z := cell_below fB c3
      refine wpOp_val rfl (wanted_none rfl) ?_ (fK (.int .i64 d) fW (Below.refl _ _) (by rw [hT]; exact rfl))
      clear fK hE hF
      go_simp
    refine stepsAll_cons (k := 8) ?_ ?_
    · intro fa fx fW hF fB hE K fK
      have q1 : fx 1 = .int .i64 a := by have q := hE ⟨1, .data⟩ (by simp) rfl; rw [hT] at q; exact q
      have q3 : fx 3 = .int .i64 b := by have q := hE ⟨3, .data⟩ (by simp) rfl; rw [hT] at q; exact q
      have q5 : fx 5 = .int .i64 c := by have q := hE ⟨5, .data⟩ (by simp) rfl; rw [hT] at q; exact q
      have q7 : fx 7 = .int .i64 d := by have q := hE ⟨7, .data⟩ (by simp) rfl; rw [hT] at q; exact q
      have ev4 : fa.tmps[4]?.getD undef = .int .i64 a := (hF.ev 1 4 (by kernel_rfl)).trans q1
      have ev6 : fa.tmps[6]?.getD undef = .int .i64 b := (hF.ev 3 6 (by kernel_rfl)).trans q3
      have ev8 : fa.tmps[8]?.getD undef = .int .i64 c := (hF.ev 5 8 (by kernel_rfl)).trans q5
      have ev10 : fa.tmps[10]?.getD undef = .int .i64 d := (hF.ev 7 10 (by kernel_rfl)).trans q7
      refine wpOp_call rfl (wanted_none rfl) (by go_simp; exact ⟨rfl, rfl⟩) ?_
      refine (H1.out fW).mono ?_
      rintro e' w' ⟨rfl, hbb⟩
      exact ⟨_, rfl, fK (.int .i64 r1) (w') (hbb) (by rw [hT]; exact rfl)⟩
    refine stepsAll_cons (k := 9) ?_ ?_
    · intro fa fx fW hF fB hE K fK
      have ev1 : fa.tmps[1]?.getD undef = .pointer (some ⟨b0, 0, none⟩) := hF.eo 1 (by kernel_rfl)
      refine wpOp_val rfl (wanted_none rfl) ?_ (fK (.pointer (some ⟨b0, 0, none⟩)) fW (Below.refl _ _) (by rw [hT]; exact rfl))
      clear fK hE hF
      go_simp
    refine stepsAll_cons (k := 10) ?_ ?_
    · intro fa fx fW hF fB hE K fK
      have q9 : fx 9 = .pointer (some ⟨b0, 0, none⟩) := by have q := hE ⟨9, .data⟩ (by simp) rfl; rw [hT] at q; exact q
      have ev12 : fa.tmps[12]?.getD undef = .pointer (some ⟨b0, 0, none⟩) := (hF.ev 9 12 (by kernel_rfl)).trans q9
      have z := cell_below fB c0
      refine wpOp_val rfl (wanted_none rfl) ?_ (fK (.int .i64 a) fW (Below.refl _ _) (by rw [hT]; exact rfl))
      clear fK hE hF
      go_simp
    refine stepsAll_cons (k := 11) ?_ ?_
    · intro fa fx fW hF fB hE K fK
      have ev1 : fa.tmps[1]?.getD undef = .pointer (some ⟨b0, 0, none⟩) := hF.eo 1 (by kernel_rfl)
      refine wpOp_val rfl (wanted_none rfl) ?_ (fK (.pointer (some ⟨b0, 1, none⟩)) fW (Below.refl _ _) (by rw [hT]; exact rfl))
      clear fK hE hF
      go_simp
    refine stepsAll_cons (k := 12) ?_ ?_
    · intro fa fx fW hF fB hE K fK
      have q11 : fx 11 = .pointer (some ⟨b0, 1, none⟩) := by have q := hE ⟨11, .data⟩ (by simp) rfl; rw [hT] at q; exact q
      have ev14 : fa.tmps[14]?.getD undef = .pointer (some ⟨b0, 1, none⟩) := (hF.ev 11 14 (by kernel_rfl)).trans q11
      have z := cell_below fB c1
      refine wpOp_val rfl (wanted_none rfl) ?_ (fK (.int .i64 b) fW (Below.refl _ _) (by rw [hT]; exact rfl))
      clear fK hE hF
      go_simp
    refine stepsAll_cons (k := 13) ?_ ?_
    · intro fa fx fW hF fB hE K fK
      have ev1 : fa.tmps[1]?.getD undef = .pointer (some ⟨b0, 0, none⟩) := hF.eo 1 (by kernel_rfl)
      refine wpOp_val rfl (wanted_none rfl) ?_ (fK (.pointer (some ⟨b0, 2, none⟩)) fW (Below.refl _ _) (by rw [hT]; exact rfl))
      clear fK hE hF
      go_simp
    refine stepsAll_cons (k := 14) ?_ ?_
    · intro fa fx fW hF fB hE K fK
      have q13 : fx 13 = .pointer (some ⟨b0, 2, none⟩) := by have q := hE ⟨13, .data⟩ (by simp) rfl; rw [hT] at q; exact q
      have ev16 : fa.tmps[16]?.getD undef = .pointer (some ⟨b0, 2, none⟩) := (hF.ev 13 16 (by kernel_rfl)).trans q13
      have z := cell_below fB c2
      refine wpOp_val rfl (wanted_none rfl) ?_ (fK (.int .i64 c) fW (Below.refl _ _) (by rw [hT]; exact rfl))
      clear fK hE hF
      go_simp
    refine stepsAll_cons (k := 15) ?_ ?_
    · intro fa fx fW hF fB hE K fK
      have ev1 : fa.tmps[1]?.getD undef = .pointer (some ⟨b0, 0, none⟩) := hF.eo 1 (by kernel_rfl)
      refine wpOp_val rfl (wanted_none rfl) ?_ (fK (.pointer (some ⟨b0, 3, none⟩)) fW (Below.refl _ _) (by rw [hT]; exact rfl))
      clear fK hE hF
      go_simp
    refine stepsAll_cons (k := 16) ?_ ?_
    · intro fa fx fW hF fB hE K fK
      have q15 : fx 15 = .pointer (some ⟨b0, 3, none⟩) := by have q := hE ⟨15, .data⟩ (by simp) rfl; rw [hT] at q; exact q
      have ev18 : fa.tmps[18]?.getD undef = .pointer (some ⟨b0, 3, none⟩) := (hF.ev 15 18 (by kernel_rfl)).trans q15
      have z := cell_below fB c3
      refine wpOp_val rfl (wanted_none rfl) ?_ (fK (.int .i64 d) fW (Below.refl _ _) (by rw [hT]; exact rfl))
      clear fK hE hF
      go_simp
    refine stepsAll_cons (k := 17) ?_ ?_
    · intro fa fx fW hF fB hE K fK
      have q10 : fx 10 = .int .i64 a := by have q := hE ⟨10, .data⟩ (by simp) rfl; rw [hT] at q; exact q
      have q12 : fx 12 = .int .i64 b := by have q := hE ⟨12, .data⟩ (by simp) rfl; rw [hT] at q; exact q
      have q14 : fx 14 = .int .i64 c := by have q := hE ⟨14, .data⟩ (by simp) rfl; rw [hT] at q; exact q
      have q16 : fx 16 = .int .i64 d := by have q := hE ⟨16, .data⟩ (by simp) rfl; rw [hT] at q; exact q
      have ev13 : fa.tmps[13]?.getD undef = .int .i64 a := (hF.ev 10 13 (by kernel_rfl)).trans q10
      have ev15 : fa.tmps[15]?.getD undef = .int .i64 b := (hF.ev 12 15 (by kernel_rfl)).trans q12
      have ev17 : fa.tmps[17]?.getD undef = .int .i64 c := (hF.ev 14 17 (by kernel_rfl)).trans q14
      have ev19 : fa.tmps[19]?.getD undef = .int .i64 d := (hF.ev 16 19 (by kernel_rfl)).trans q16
      refine wpOp_call rfl (wanted_none rfl) (by go_simp; exact ⟨rfl, rfl⟩) ?_
      refine (H2.out fW).mono ?_
      rintro e' w' ⟨rfl, hbb⟩
      exact ⟨_, rfl, fK (.int .i64 r1) (w') (hbb) (by rw [hT]; exact rfl)⟩
    refine stepsAll_cons (k := 18) ?_ ?_
    · intro fa fx fW hF fB hE K fK
      have q8 : fx 8 = .int .i64 r1 := by have q := hE ⟨8, .data⟩ (by simp) rfl; rw [hT] at q; exact q
      have q17 : fx 17 = .int .i64 r1 := by have q := hE ⟨17, .data⟩ (by simp) rfl; rw [hT] at q; exact q
      have ev11 : fa.tmps[11]?.getD undef = .int .i64 r1 := (hF.ev 8 11 (by kernel_rfl)).trans q8
      have ev20 : fa.tmps[20]?.getD undef = .int .i64 r1 := (hF.ev 17 20 (by kernel_rfl)).trans q17
      refine wpOp_val rfl (wanted_none rfl) ?_ (fK (.bool true) fW (Below.refl _ _) (by rw [hT]; exact rfl))
      clear fK hE hF
      go_simp
    refine stepsAll_cons (k := 19) ?_ ?_
    · intro fa fx fW hF fB hE K fK
      have q18 : fx 18 = .bool true := by have q := hE ⟨18, .data⟩ (by simp) rfl; rw [hT] at q; exact q
      have ev21 : fa.tmps[21]?.getD undef = .bool true := (hF.ev 18 21 (by kernel_rfl)).trans q18
      refine wpOp_val rfl (wanted_none rfl) ?_ (fK (.bool true) fW (Below.refl _ _) (by rw [hT]; exact rfl))
      clear fK hE hF
      go_simp
    refine stepsAll_cons (k := 20) ?_ ?_
    · intro fa fx fW hF fB hE K fK
      have q19 : fx 19 = .bool true := by have q := hE ⟨19, .guard⟩ (by simp) rfl; rw [hT] at q; exact q
      have ev1 : fa.tmps[1]?.getD undef = .pointer (some ⟨b0, 0, none⟩) := hF.eo 1 (by kernel_rfl)
      refine wpOp_val rfl (wanted_yes rfl (hF.yes 19 22 (by kernel_rfl) true q19)) ?_ (fK (.pointer (some ⟨b0, 0, none⟩)) fW (Below.refl _ _) (by rw [hT]; exact rfl))
      clear fK hE hF
      go_simp
    refine stepsAll_cons (k := 21) ?_ ?_
    · intro fa fx fW hF fB hE K fK
      have q19 : fx 19 = .bool true := by have q := hE ⟨19, .guard⟩ (by simp) rfl; rw [hT] at q; exact q
      have q20 : fx 20 = .pointer (some ⟨b0, 0, none⟩) := by have q := hE ⟨20, .data⟩ (by simp) rfl; rw [hT] at q; exact q
      have ev23 : fa.tmps[23]?.getD undef = .pointer (some ⟨b0, 0, none⟩) := (hF.ev 20 23 (by kernel_rfl)).trans q20
      have z := cell_below fB c0
      refine wpOp_val rfl (wanted_yes rfl (hF.yes 19 22 (by kernel_rfl) true q19)) ?_ (fK (.int .i64 a) fW (Below.refl _ _) (by rw [hT]; exact rfl))
      clear fK hE hF
      go_simp
    refine stepsAll_cons (k := 22) ?_ ?_
    · intro fa fx fW hF fB hE K fK
      have q19 : fx 19 = .bool true := by have q := hE ⟨19, .guard⟩ (by simp) rfl; rw [hT] at q; exact q
      have ev1 : fa.tmps[1]?.getD undef = .pointer (some ⟨b0, 0, none⟩) := hF.eo 1 (by kernel_rfl)
      refine wpOp_val rfl (wanted_yes rfl (hF.yes 19 22 (by kernel_rfl) true q19)) ?_ (fK (.pointer (some ⟨b0, 1, none⟩)) fW (Below.refl _ _) (by rw [hT]; exact rfl))
      clear fK hE hF
      go_simp
    refine stepsAll_cons (k := 23) ?_ ?_
    · intro fa fx fW hF fB hE K fK
      have q19 : fx 19 = .bool true := by have q := hE ⟨19, .guard⟩ (by simp) rfl; rw [hT] at q; exact q
      have q22 : fx 22 = .pointer (some ⟨b0, 1, none⟩) := by have q := hE ⟨22, .data⟩ (by simp) rfl; rw [hT] at q; exact q
      have ev25 : fa.tmps[25]?.getD undef = .pointer (some ⟨b0, 1, none⟩) := (hF.ev 22 25 (by kernel_rfl)).trans q22
      have z := cell_below fB c1
      refine wpOp_val rfl (wanted_yes rfl (hF.yes 19 22 (by kernel_rfl) true q19)) ?_ (fK (.int .i64 b) fW (Below.refl _ _) (by rw [hT]; exact rfl))
      clear fK hE hF
      go_simp
    refine stepsAll_cons (k := 24) ?_ ?_
    · intro fa fx fW hF fB hE K fK
      have q19 : fx 19 = .bool true := by have q := hE ⟨19, .guard⟩ (by simp) rfl; rw [hT] at q; exact q
      have ev1 : fa.tmps[1]?.getD undef = .pointer (some ⟨b0, 0, none⟩) := hF.eo 1 (by kernel_rfl)
      refine wpOp_val rfl (wanted_yes rfl (hF.yes 19 22 (by kernel_rfl) true q19)) ?_ (fK (.pointer (some ⟨b0, 2, none⟩)) fW (Below.refl _ _) (by rw [hT]; exact rfl))
      clear fK hE hF
      go_simp
    refine stepsAll_cons (k := 25) ?_ ?_
    · intro fa fx fW hF fB hE K fK
      have q19 : fx 19 = .bool true := by have q := hE ⟨19, .guard⟩ (by simp) rfl; rw [hT] at q; exact q
      have q24 : fx 24 = .pointer (some ⟨b0, 2, none⟩) := by have q := hE ⟨24, .data⟩ (by simp) rfl; rw [hT] at q; exact q
      have ev27 : fa.tmps[27]?.getD undef = .pointer (some ⟨b0, 2, none⟩) := (hF.ev 24 27 (by kernel_rfl)).trans q24
      have z := cell_below fB c2
      refine wpOp_val rfl (wanted_yes rfl (hF.yes 19 22 (by kernel_rfl) true q19)) ?_ (fK (.int .i64 c) fW (Below.refl _ _) (by rw [hT]; exact rfl))
      clear fK hE hF
      go_simp
    refine stepsAll_cons (k := 26) ?_ ?_
    · intro fa fx fW hF fB hE K fK
      have q19 : fx 19 = .bool true := by have q := hE ⟨19, .guard⟩ (by simp) rfl; rw [hT] at q; exact q
      have ev1 : fa.tmps[1]?.getD undef = .pointer (some ⟨b0, 0, none⟩) := hF.eo 1 (by kernel_rfl)
      refine wpOp_val rfl (wanted_yes rfl (hF.yes 19 22 (by kernel_rfl) true q19)) ?_ (fK (.pointer (some ⟨b0, 3, none⟩)) fW (Below.refl _ _) (by rw [hT]; exact rfl))
      clear fK hE hF
      go_simp
    refine stepsAll_cons (k := 27) ?_ ?_
    · intro fa fx fW hF fB hE K fK
      have q19 : fx 19 = .bool true := by have q := hE ⟨19, .guard⟩ (by simp) rfl; rw [hT] at q; exact q
      have q26 : fx 26 = .pointer (some ⟨b0, 3, none⟩) := by have q := hE ⟨26, .data⟩ (by simp) rfl; rw [hT] at q; exact q
      have ev29 : fa.tmps[29]?.getD undef = .pointer (some ⟨b0, 3, none⟩) := (hF.ev 26 29 (by kernel_rfl)).trans q26
      have z := cell_below fB c3
      refine wpOp_val rfl (wanted_yes rfl (hF.yes 19 22 (by kernel_rfl) true q19)) ?_ (fK (.int .i64 d) fW (Below.refl _ _) (by rw [hT]; exact rfl))
      clear fK hE hF
      go_simp
    refine stepsAll_cons (k := 28) ?_ ?_
    · intro fa fx fW hF fB hE K fK
      have q19 : fx 19 = .bool true := by have q := hE ⟨19, .guard⟩ (by simp) rfl; rw [hT] at q; exact q
      have ev1 : fa.tmps[1]?.getD undef = .pointer (some ⟨b0, 0, none⟩) := hF.eo 1 (by kernel_rfl)
      refine wpOp_val rfl (wanted_yes rfl (hF.yes 19 22 (by kernel_rfl) true q19)) ?_ (fK (.pointer (some ⟨b0, 4, none⟩)) fW (Below.refl _ _) (by rw [hT]; exact rfl))
      clear fK hE hF
      go_simp
    refine stepsAll_cons (k := 29) ?_ ?_
    · intro fa fx fW hF fB hE K fK
      have q19 : fx 19 = .bool true := by have q := hE ⟨19, .guard⟩ (by simp) rfl; rw [hT] at q; exact q
      have q28 : fx 28 = .pointer (some ⟨b0, 4, none⟩) := by have q := hE ⟨28, .data⟩ (by simp) rfl; rw [hT] at q; exact q
      have ev31 : fa.tmps[31]?.getD undef = .pointer (some ⟨b0, 4, none⟩) := (hF.ev 28 31 (by kernel_rfl)).trans q28
      have z := cell_below fB c4
      refine wpOp_val rfl (wanted_yes rfl (hF.yes 19 22 (by kernel_rfl) true q19)) ?_ (fK (.int .i64 e) fW (Below.refl _ _) (by rw [hT]; exact rfl))
      clear fK hE hF
      go_simp
    refine stepsAll_cons (k := 30) ?_ ?_
    · intro fa fx fW hF fB hE K fK
      have q19 : fx 19 = .bool true := by have q := hE ⟨19, .guard⟩ (by simp) rfl; rw [hT] at q; exact q
      have ev1 : fa.tmps[1]?.getD undef = .pointer (some ⟨b0, 0, none⟩) := hF.eo 1 (by kernel_rfl)
      refine wpOp_val rfl (wanted_yes rfl (hF.yes 19 22 (by kernel_rfl) true q19)) ?_ (fK (.pointer (some ⟨b0, 5, none⟩)) fW (Below.refl _ _) (by rw [hT]; exact rfl))
      clear fK hE hF
      go_simp
    refine stepsAll_cons (k := 31) ?_ ?_
    · intro fa fx fW hF fB hE K fK
      have q19 : fx 19 = .bool true := by have q := hE ⟨19, .guard⟩ (by simp) rfl; rw [hT] at q; exact q
      have q30 : fx 30 = .pointer (some ⟨b0, 5, none⟩) := by have q := hE ⟨30, .data⟩ (by simp) rfl; rw [hT] at q; exact q
      have ev33 : fa.tmps[33]?.getD undef = .pointer (some ⟨b0, 5, none⟩) := (hF.ev 30 33 (by kernel_rfl)).trans q30
      have z := cell_below fB c5
      refine wpOp_val rfl (wanted_yes rfl (hF.yes 19 22 (by kernel_rfl) true q19)) ?_ (fK (.int .i64 f) fW (Below.refl _ _) (by rw [hT]; exact rfl))
      clear fK hE hF
      go_simp
    refine stepsAll_cons (k := 32) ?_ ?_
    · intro fa fx fW hF fB hE K fK
      have q19 : fx 19 = .bool true := by have q := hE ⟨19, .chain⟩ (by simp) rfl; rw [hT] at q; exact q
      have q21 : fx 21 = .int .i64 a := by have q := hE ⟨21, .data⟩ (by simp) rfl; rw [hT] at q; exact q
      have q23 : fx 23 = .int .i64 b := by have q := hE ⟨23, .data⟩ (by simp) rfl; rw [hT] at q; exact q
      have q25 : fx 25 = .int .i64 c := by have q := hE ⟨25, .data⟩ (by simp) rfl; rw [hT] at q; exact q
      have q27 : fx 27 = .int .i64 d := by have q := hE ⟨27, .data⟩ (by simp) rfl; rw [hT] at q; exact q
      have q29 : fx 29 = .int .i64 e := by have q := hE ⟨29, .data⟩ (by simp) rfl; rw [hT] at q; exact q
      have q31 : fx 31 = .int .i64 f := by have q := hE ⟨31, .data⟩ (by simp) rfl; rw [hT] at q; exact q
      have ev24 : fa.tmps[24]?.getD undef = .int .i64 a := (hF.ev 21 24 (by kernel_rfl)).trans q21
      have ev26 : fa.tmps[26]?.getD undef = .int .i64 b := (hF.ev 23 26 (by kernel_rfl)).trans q23
      have ev28 : fa.tmps[28]?.getD undef = .int .i64 c := (hF.ev 25 28 (by kernel_rfl)).trans q25
      have ev30 : fa.tmps[30]?.getD undef = .int .i64 d := (hF.ev 27 30 (by kernel_rfl)).trans q27
      have ev32 : fa.tmps[32]?.getD undef = .int .i64 e := (hF.ev 29 32 (by kernel_rfl)).trans q29
      have ev34 : fa.tmps[34]?.getD undef = .int .i64 f := (hF.ev 31 34 (by kernel_rfl)).trans q31
      refine wpOp_call rfl (wanted_yes rfl (hF.yes 19 22 (by kernel_rfl) true q19)) (by go_simp; exact ⟨rfl, rfl⟩) ?_
      refine (H3.out fW).mono ?_
      rintro e' w' ⟨rfl, hbb⟩
      exact ⟨_, rfl, fK (.bool r2) (w') (hbb) (by rw [hT]; exact rfl)⟩
    refine stepsAll_cons (k := 33) ?_ ?_
    · intro fa fx fW hF fB hE K fK
      have q19 : fx 19 = .bool true := by have q := hE ⟨19, .guard⟩ (by simp) rfl; rw [hT] at q; exact q
      have ev1 : fa.tmps[1]?.getD undef = .pointer (some ⟨b0, 0, none⟩) := hF.eo 1 (by kernel_rfl)
      refine wpOp_val rfl (wanted_yes rfl (hF.yes 19 22 (by kernel_rfl) true q19)) ?_ (fK (.pointer (some ⟨b0, 0, none⟩)) fW (Below.refl _ _) (by rw [hT]; exact rfl))
      clear fK hE hF
      go_simp
    refine stepsAll_cons (k := 34) ?_ ?_
    · intro fa fx fW hF fB hE K fK
      have q19 : fx 19 = .bool true := by have q := hE ⟨19, .guard⟩ (by simp) rfl; rw [hT] at q; exact q
      have q33 : fx 33 = .pointer (some ⟨b0, 0, none⟩) := by have q := hE ⟨33, .data⟩ (by simp) rfl; rw [hT] at q; exact q
      have ev36 : fa.tmps[36]?.getD undef = .pointer (some ⟨b0, 0, none⟩) := (hF.ev 33 36 (by kernel_rfl)).trans q33
      have z := cell_below fB c0
      refine wpOp_val rfl (wanted_yes rfl (hF.yes 19 22 (by kernel_rfl) true q19)) ?_ (fK (.int .i64 a) fW (Below.refl _ _) (by rw [hT]; exact rfl))
      clear fK hE hF
      go_simp
    refine stepsAll_cons (k := 35) ?_ ?_
    · intro fa fx fW hF fB hE K fK
      have q19 : fx 19 = .bool true := by have q := hE ⟨19, .guard⟩ (by simp) rfl; rw [hT] at q; exact q
      have ev1 : fa.tmps[1]?.getD undef = .pointer (some ⟨b0, 0, none⟩) := hF.eo 1 (by kernel_rfl)
      refine wpOp_val rfl (wanted_yes rfl (hF.yes 19 22 (by kernel_rfl) true q19)) ?_ (fK (.pointer (some ⟨b0, 1, none⟩)) fW (Below.refl _ _) (by rw [hT]; exact rfl))
      clear fK hE hF
      go_simp
    refine stepsAll_cons (k := 36) ?_ ?_
    · intro fa fx fW hF fB hE K fK
      have q19 : fx 19 = .bool true := by have q := hE ⟨19, .guard⟩ (by simp) rfl; rw [hT] at q; exact q
      have q35 : fx 35 = .pointer (some ⟨b0, 1, none⟩) := by have q := hE ⟨35, .data⟩ (by simp) rfl; rw [hT] at q; exact q
      have ev38 : fa.tmps[38]?.getD undef = .pointer (some ⟨b0, 1, none⟩) := (hF.ev 35 38 (by kernel_rfl)).trans q35
      have z := cell_below fB c1
      refine wpOp_val rfl (wanted_yes rfl (hF.yes 19 22 (by kernel_rfl) true q19)) ?_ (fK (.int .i64 b) fW (Below.refl _ _) (by rw [hT]; exact rfl))
      clear fK hE hF
      go_simp
    refine stepsAll_cons (k := 37) ?_ ?_
    · intro fa fx fW hF fB hE K fK
      have q19 : fx 19 = .bool true := by have q := hE ⟨19, .guard⟩ (by simp) rfl; rw [hT] at q; exact q
      have ev1 : fa.tmps[1]?.getD undef = .pointer (some ⟨b0, 0, none⟩) := hF.eo 1 (by kernel_rfl)
      refine wpOp_val rfl (wanted_yes rfl (hF.yes 19 22 (by kernel_rfl) true q19)) ?_ (fK (.pointer (some ⟨b0, 2, none⟩)) fW (Below.refl _ _) (by rw [hT]; exact rfl))
      clear fK hE hF
      go_simp
    refine stepsAll_cons (k := 38) ?_ ?_
    · intro fa fx fW hF fB hE K fK
      have q19 : fx 19 = .bool true := by have q := hE ⟨19, .guard⟩ (by simp) rfl; rw [hT] at q; exact q
      have q37 : fx 37 = .pointer (some ⟨b0, 2, none⟩) := by have q := hE ⟨37, .data⟩ (by simp) rfl; rw [hT] at q; exact q
      have ev40 : fa.tmps[40]?.getD undef = .pointer (some ⟨b0, 2, none⟩) := (hF.ev 37 40 (by kernel_rfl)).trans q37
      have z := cell_below fB c2
      refine wpOp_val rfl (wanted_yes rfl (hF.yes 19 22 (by kernel_rfl) true q19)) ?_ (fK (.int .i64 c) fW (Below.refl _ _) (by rw [hT]; exact rfl))
      clear fK hE hF
      go_simp
    refine stepsAll_cons (k := 39) ?_ ?_
    · intro fa fx fW hF fB hE K fK
      have q19 : fx 19 = .bool true := by have q := hE ⟨19, .guard⟩ (by simp) rfl; rw [hT] at q; exact q
      have ev1 : fa.tmps[1]?.getD undef = .pointer (some ⟨b0, 0, none⟩) := hF.eo 1 (by kernel_rfl)
      refine wpOp_val rfl (wanted_yes rfl (hF.yes 19 22 (by kernel_rfl) true q19)) ?_ (fK (.pointer (some ⟨b0, 3, none⟩)) fW (Below.refl _ _) (by rw [hT]; exact rfl))
      clear fK hE hF
      go_simp
    refine stepsAll_cons (k := 40) ?_ ?_
    · intro fa fx fW hF fB hE K fK
      have q19 : fx 19 = .bool true := by have q := hE ⟨19, .guard⟩ (by simp) rfl; rw [hT] at q; exact q
      have q39 : fx 39 = .pointer (some ⟨b0, 3, none⟩) := by have q := hE ⟨39, .data⟩ (by simp) rfl; rw [hT] at q; exact q
      have ev42 : fa.tmps[42]?.getD undef = .pointer (some ⟨b0, 3, none⟩) := (hF.ev 39 42 (by kernel_rfl)).trans q39
      have z := cell_below fB c3
      refine wpOp_val rfl (wanted_yes rfl (hF.yes 19 22 (by kernel_rfl) true q19)) ?_ (fK (.int .i64 d) fW (Below.refl _ _) (by rw [hT]; exact rfl))
      clear fK hE hF
      go_simp
    refine stepsAll_cons (k := 41) ?_ ?_
    · intro fa fx fW hF fB hE K fK
      have q19 : fx 19 = .bool true := by have q := hE ⟨19, .guard⟩ (by simp) rfl; rw [hT] at q; exact q
      have ev1 : fa.tmps[1]?.getD undef = .pointer (some ⟨b0, 0, none⟩) := hF.eo 1 (by kernel_rfl)
      refine wpOp_val rfl (wanted_yes rfl (hF.yes 19 22 (by kernel_rfl) true q19)) ?_ (fK (.pointer (some ⟨b0, 4, none⟩)) fW (Below.refl _ _) (by rw [hT]; exact rfl))
      clear fK hE hF
      go_simp
    refine stepsAll_cons (k := 42) ?_ ?_
    · intro fa fx fW hF fB hE K fK
      have q19 : fx 19 = .bool true := by have q := hE ⟨19, .guard⟩ (by simp) rfl; rw [hT] at q; exact q
      have q41 : fx 41 = .pointer (some ⟨b0, 4, none⟩) := by have q := hE ⟨41, .data⟩ (by simp) rfl; rw [hT] at q; exact q
      have ev44 : fa.tmps[44]?.getD undef = .pointer (some ⟨b0, 4, none⟩) := (hF.ev 41 44 (by kernel_rfl)).trans q41
      have z := cell_below fB c4
      refine wpOp_val rfl (wanted_yes rfl (hF.yes 19 22 (by kernel_rfl) true q19)) ?_ (fK (.int .i64 e) fW (Below.refl _ _) (by rw [hT]; exact rfl))
      clear fK hE hF
      go_simp
    refine stepsAll_cons (k := 43) ?_ ?_
    · intro fa fx fW hF fB hE K fK
      have q19 : fx 19 = .bool true := by have q := hE ⟨19, .guard⟩ (by simp) rfl; rw [hT] at q; exact q
      have ev1 : fa.tmps[1]?.getD undef = .pointer (some ⟨b0, 0, none⟩) := hF.eo 1 (by kernel_rfl)
      refine wpOp_val rfl (wanted_yes rfl (hF.yes 19 22 (by kernel_rfl) true q19)) ?_ (fK (.pointer (some ⟨b0, 5, none⟩)) fW (Below.refl _ _) (by rw [hT]; exact rfl))
      clear fK hE hF
      go_simp
    refine stepsAll_cons (k := 44) ?_ ?_
    · intro fa fx fW hF fB hE K fK
      have q19 : fx 19 = .bool true := by have q := hE ⟨19, .guard⟩ (by simp) rfl; rw [hT] at q; exact q
      have q43 : fx 43 = .pointer (some ⟨b0, 5, none⟩) := by have q := hE ⟨43, .data⟩ (by simp) rfl; rw [hT] at q; exact q
      have ev46 : fa.tmps[46]?.getD undef = .pointer (some ⟨b0, 5, none⟩) := (hF.ev 43 46 (by kernel_rfl)).trans q43
      have z := cell_below fB c5
      refine wpOp_val rfl (wanted_yes rfl (hF.yes 19 22 (by kernel_rfl) true q19)) ?_ (fK (.int .i64 f) fW (Below.refl _ _) (by rw [hT]; exact rfl))
      clear fK hE hF
      go_simp
    refine stepsAll_cons (k := 45) ?_ ?_
    · intro fa fx fW hF fB hE K fK
      have q19 : fx 19 = .bool true := by have q := hE ⟨19, .guard⟩ (by simp) rfl; rw [hT] at q; exact q
      have q34 : fx 34 = .int .i64 a := by have q := hE ⟨34, .data⟩ (by simp) rfl; rw [hT] at q; exact q
      have q36 : fx 36 = .int .i64 b := by have q := hE ⟨36, .data⟩ (by simp) rfl; rw [hT] at q; exact q
      have q38 : fx 38 = .int .i64 c := by have q := hE ⟨38, .data⟩ (by simp) rfl; rw [hT] at q; exact q
      have q40 : fx 40 = .int .i64 d := by have q := hE ⟨40, .data⟩ (by simp) rfl; rw [hT] at q; exact q
      have q42 : fx 42 = .int .i64 e := by have q := hE ⟨42, .data⟩ (by simp) rfl; rw [hT] at q; exact q
      have q44 : fx 44 = .int .i64 f := by have q := hE ⟨44, .data⟩ (by simp) rfl; rw [hT] at q; exact q
      have ev37 : fa.tmps[37]?.getD undef = .int .i64 a := (hF.ev 34 37 (by kernel_rfl)).trans q34
      have ev39 : fa.tmps[39]?.getD undef = .int .i64 b := (hF.ev 36 39 (by kernel_rfl)).trans q36
      have ev41 : fa.tmps[41]?.getD undef = .int .i64 c := (hF.ev 38 41 (by kernel_rfl)).trans q38
      have ev43 : fa.tmps[43]?.getD undef = .int .i64 d := (hF.ev 40 43 (by kernel_rfl)).trans q40
      have ev45 : fa.tmps[45]?.getD undef = .int .i64 e := (hF.ev 42 45 (by kernel_rfl)).trans q42
      have ev47 : fa.tmps[47]?.getD undef = .int .i64 f := (hF.ev 44 47 (by kernel_rfl)).trans q44
      refine wpOp_call rfl (wanted_yes rfl (hF.yes 19 22 (by kernel_rfl) true q19)) (by go_simp; exact ⟨rfl, rfl⟩) ?_
      refine (H4.out fW).mono ?_
      rintro e' w' ⟨rfl, hbb⟩
      exact ⟨_, rfl, fK (.bool r2) (w') (hbb) (by rw [hT]; exact rfl)⟩
    refine stepsAll_cons (k := 46) ?_ ?_
    · intro fa fx fW hF fB hE K fK
      have q19 : fx 19 = .bool true := by have q := hE ⟨19, .guard⟩ (by simp) rfl; rw [hT] at q; exact q
      have q32 : fx 32 = .bool r2 := by have q := hE ⟨32, .data⟩ (by simp) rfl; rw [hT] at q; exact q
      have q45 : fx 45 = .bool r2 := by have q := hE ⟨45, .data⟩ (by simp) rfl; rw [hT] at q; exact q
      have ev35 : fa.tmps[35]?.getD undef = .bool r2 := (hF.ev 32 35 (by kernel_rfl)).trans q32
      have ev48 : fa.tmps[48]?.getD undef = .bool r2 := (hF.ev 45 48 (by kernel_rfl)).trans q45
      refine wpOp_val rfl (wanted_yes rfl (hF.yes 19 22 (by kernel_rfl) true q19)) ?_ (fK (.bool true) fW (Below.refl _ _) (by rw [hT]; exact rfl))
      clear fK hE hF
      go_simp
    refine stepsAll_cons (k := 47) ?_ ?_
    · intro fa fx fW hF fB hE K fK
      have q19 : fx 19 = .bool true := by have q := hE ⟨19, .data⟩ (by simp) rfl; rw [hT] at q; exact q
      have q46 : fx 46 = .bool true := by have q := hE ⟨46, .data⟩ (by simp) rfl; rw [hT] at q; exact q
      have ev22 : fa.tmps[22]?.getD undef = .bool true := (hF.ev 19 22 (by kernel_rfl)).trans q19
      have ev49 : fa.tmps[49]?.getD undef = .bool true := (hF.ev 46 49 (by kernel_rfl)).trans q46
      refine wpOp_val rfl (wanted_none rfl) ?_ (fK (.bool true) fW (Below.refl _ _) (by rw [hT]; exact rfl))
      clear fK hE hF
      go_simp
    refine stepsAll_cons (k := 48) ?_ ?_
    · intro fa fx fW hF fB hE K fK
      have q47 : fx 47 = .bool true := by have q := hE ⟨47, .data⟩ (by simp) rfl; rw [hT] at q; exact q
      have ev50 : fa.tmps[50]?.getD undef = .bool true := (hF.ev 47 50 (by kernel_rfl)).trans q47
      refine wpOp_val rfl (wanted_none rfl) ?_ (fK (.bool true) fW (Below.refl _ _) (by rw [hT]; exact rfl))
      clear fK hE hF
      go_simp
    refine stepsAll_cons (k := 49) ?_ ?_
    · intro fa fx fW hF fB hE K fK
      have q48 : fx 48 = .bool true := by have q := hE ⟨48, .guard⟩ (by simp) rfl; rw [hT] at q; exact q
      have ev1 : fa.tmps[1]?.getD undef = .pointer (some ⟨b0, 0, none⟩) := hF.eo 1 (by kernel_rfl)
      refine wpOp_val rfl (wanted_yes rfl (hF.yes 48 51 (by kernel_rfl) true q48)) ?_ (fK (.pointer (some ⟨b0, 0, none⟩)) fW (Below.refl _ _) (by rw [hT]; exact rfl))
      clear fK hE hF
      go_simp
    refine stepsAll_cons (k := 50) ?_ ?_
    · intro fa fx fW hF fB hE K fK
      have q48 : fx 48 = .bool true := by have q := hE ⟨48, .guard⟩ (by simp) rfl; rw [hT] at q; exact q
      have q49 : fx 49 = .pointer (some ⟨b0, 0, none⟩) := by have q := hE ⟨49, .data⟩ (by simp) rfl; rw [hT] at q; exact q
      have ev52 : fa.tmps[52]?.getD undef = .pointer (some ⟨b0, 0, none⟩) := (hF.ev 49 52 (by kernel_rfl)).trans q49
      have z := cell_below fB c0
      refine wpOp_val rfl (wanted_yes rfl (hF.yes 48 51 (by kernel_rfl) true q48)) ?_ (fK (.int .i64 a) fW (Below.refl _ _) (by rw [hT]; exact rfl))
      clear fK hE hF
      go_simp
    refine stepsAll_cons (k := 51) ?_ ?_
    · intro fa fx fW hF fB hE K fK
      have q48 : fx 48 = .bool true := by have q := hE ⟨48, .guard⟩ (by simp) rfl; rw [hT] at q; exact q
      have ev1 : fa.tmps[1]?.getD undef = .pointer (some ⟨b0, 0, none⟩) := hF.eo 1 (by kernel_rfl)
      refine wpOp_val rfl (wanted_yes rfl (hF.yes 48 51 (by kernel_rfl) true q48)) ?_ (fK (.pointer (some ⟨b0, 1, none⟩)) fW (Below.refl _ _) (by rw [hT]; exact rfl))
      clear fK hE hF
      go_simp
    refine stepsAll_cons (k := 52) ?_ ?_
    · intro fa fx fW hF fB hE K fK
      have q48 : fx 48 = .bool true := by have q := hE ⟨48, .guard⟩ (by simp) rfl; rw [hT] at q; exact q
      have q51 : fx 51 = .pointer (some ⟨b0, 1, none⟩) := by have q := hE ⟨51, .data⟩ (by simp) rfl; rw [hT] at q; exact q
      have ev54 : fa.tmps[54]?.getD undef = .pointer (some ⟨b0, 1, none⟩) := (hF.ev 51 54 (by kernel_rfl)).trans q51
      have z := cell_below fB c1
      refine wpOp_val rfl (wanted_yes rfl (hF.yes 48 51 (by kernel_rfl) true q48)) ?_ (fK (.int .i64 b) fW (Below.refl _ _) (by rw [hT]; exact rfl))
      clear fK hE hF
      go_simp
    refine stepsAll_cons (k := 53) ?_ ?_
    · intro fa fx fW hF fB hE K fK
      have q48 : fx 48 = .bool true := by have q := hE ⟨48, .guard⟩ (by simp) rfl; rw [hT] at q; exact q
      have ev1 : fa.tmps[1]?.getD undef = .pointer (some ⟨b0, 0, none⟩) := hF.eo 1 (by kernel_rfl)
      refine wpOp_val rfl (wanted_yes rfl (hF.yes 48 51 (by kernel_rfl) true q48)) ?_ (fK (.pointer (some ⟨b0, 2, none⟩)) fW (Below.refl _ _) (by rw [hT]; exact rfl))
      clear fK hE hF
      go_simp
    refine stepsAll_cons (k := 54) ?_ ?_
    · intro fa fx fW hF fB hE K fK
      have q48 : fx 48 = .bool true := by have q := hE ⟨48, .guard⟩ (by simp) rfl; rw [hT] at q; exact q
      have q53 : fx 53 = .pointer (some ⟨b0, 2, none⟩) := by have q := hE ⟨53, .data⟩ (by simp) rfl; rw [hT] at q; exact q
      have ev56 : fa.tmps[56]?.getD undef = .pointer (some ⟨b0, 2, none⟩) := (hF.ev 53 56 (by kernel_rfl)).trans q53
      have z := cell_below fB c2
      refine wpOp_val rfl (wanted_yes rfl (hF.yes 48 51 (by kernel_rfl) true q48)) ?_ (fK (.int .i64 c) fW (Below.refl _ _) (by rw [hT]; exact rfl))
      clear fK hE hF
      go_simp
    refine stepsAll_cons (k := 55) ?_ ?_
    · intro fa fx fW hF fB hE K fK
      have q48 : fx 48 = .bool true := by have q := hE ⟨48, .chain⟩ (by simp) rfl; rw [hT] at q; exact q
      have q50 : fx 50 = .int .i64 a := by have q := hE ⟨50, .data⟩ (by simp) rfl; rw [hT] at q; exact q
      have q52 : fx 52 = .int .i64 b := by have q := hE ⟨52, .data⟩ (by simp) rfl; rw [hT] at q; exact q
      have q54 : fx 54 = .int .i64 c := by have q := hE ⟨54, .data⟩ (by simp) rfl; rw [hT] at q; exact q
      have ev53 : fa.tmps[53]?.getD undef = .int .i64 a := (hF.ev 50 53 (by kernel_rfl)).trans q50
      have ev55 : fa.tmps[55]?.getD undef = .int .i64 b := (hF.ev 52 55 (by kernel_rfl)).trans q52
      have ev57 : fa.tmps[57]?.getD undef = .int .i64 c := (hF.ev 54 57 (by kernel_rfl)).trans q54
      refine wpOp_call rfl (wanted_yes rfl (hF.yes 48 51 (by kernel_rfl) true q48)) (by go_simp; exact ⟨rfl, rfl⟩) ?_
      refine (H5.out fW).mono ?_
      rintro e' w' ⟨rfl, rfl⟩
      exact ⟨_, rfl, fK (.int .i64 r3) (fW) (Below.refl _ _) (by rw [hT]; exact rfl)⟩
    refine stepsAll_cons (k := 56) ?_ ?_
    · intro fa fx fW hF fB hE K fK
      have q48 : fx 48 = .bool true := by have q := hE ⟨48, .guard⟩ (by simp) rfl; rw [hT] at q; exact q
      have ev1 : fa.tmps[1]?.getD undef = .pointer (some ⟨b0, 0, none⟩) := hF.eo 1 (by kernel_rfl)
      refine wpOp_val rfl (wanted_yes rfl (hF.yes 48 51 (by kernel_rfl) true q48)) ?_ (fK (.pointer (some ⟨b0, 0, none⟩)) fW (Below.refl _ _) (by rw [hT]; exact rfl))
      clear fK hE hF
      go_simp
    refine stepsAll_cons (k := 57) ?_ ?_
    · intro fa fx fW hF fB hE K fK
      have q48 : fx 48 = .bool true := by have q := hE ⟨48, .guard⟩ (by simp) rfl; rw [hT] at q; exact q
      have q56 : fx 56 = .pointer (some ⟨b0, 0, none⟩) := by have q := hE ⟨56, .data⟩ (by simp) rfl; rw [hT] at q; exact q
      have ev59 : fa.tmps[59]?.getD undef = .pointer (some ⟨b0, 0, none⟩) := (hF.ev 56 59 (by kernel_rfl)).trans q56
      have z := cell_below fB c0
      refine wpOp_val rfl (wanted_yes rfl (hF.yes 48 51 (by kernel_rfl) true q48)) ?_ (fK (.int .i64 a) fW (Below.refl _ _) (by rw [hT]; exact rfl))
      clear fK hE hF
      go_simp
    refine stepsAll_cons (k := 58) ?_ ?_
    · intro fa fx fW hF fB hE K fK
      have q48 : fx 48 = .bool true := by have q := hE ⟨48, .guard⟩ (by simp) rfl; rw [hT] at q; exact q
      have ev1 : fa.tmps[1]?.getD undef = .pointer (some ⟨b0, 0, none⟩) := hF.eo 1 (by kernel_rfl)
      refine wpOp_val rfl (wanted_yes rfl (hF.yes 48 51 (by kernel_rfl) true q48)) ?_ (fK (.pointer (some ⟨b0, 1, none⟩)) fW (Below.refl _ _) (by rw [hT]; exact rfl))
      clear fK hE hF
      go_simp
    refine stepsAll_cons (k := 59) ?_ ?_
    · intro fa fx fW hF fB hE K fK
      have q48 : fx 48 = .bool true := by have q := hE ⟨48, .guard⟩ (by simp) rfl; rw [hT] at q; exact q
      have q58 : fx 58 = .pointer (some ⟨b0, 1, none⟩) := by have q := hE ⟨58, .data⟩ (by simp) rfl; rw [hT] at q; exact q
      have ev61 : fa.tmps[61]?.getD undef = .pointer (some ⟨b0, 1, none⟩) := (hF.ev 58 61 (by kernel_rfl)).trans q58
      have z := cell_below fB c1
      refine wpOp_val rfl (wanted_yes rfl (hF.yes 48 51 (by kernel_rfl) true q48)) ?_ (fK (.int .i64 b) fW (Below.refl _ _) (by rw [hT]; exact rfl))
      clear fK hE hF
      go_simp
    refine stepsAll_cons (k := 60) ?_ ?_
    · intro fa fx fW hF fB hE K fK
      have q48 : fx 48 = .bool true := by have q := hE ⟨48, .guard⟩ (by simp) rfl; rw [hT] at q; exact q
      have ev1 : fa.tmps[1]?.getD undef = .pointer (some ⟨b0, 0, none⟩) := hF.eo 1 (by kernel_rfl)
      refine wpOp_val rfl (wanted_yes rfl (hF.yes 48 51 (by kernel_rfl) true q48)) ?_ (fK (.pointer (some ⟨b0, 2, none⟩)) fW (Below.refl _ _) (by rw [hT]; exact rfl))
      clear fK hE hF
      go_simp
    refine stepsAll_cons (k := 61) ?_ ?_
    · intro fa fx fW hF fB hE K fK
      have q48 : fx 48 = .bool true := by have q := hE ⟨48, .guard⟩ (by simp) rfl; rw [hT] at q; exact q
      have q60 : fx 60 = .pointer (some ⟨b0, 2, none⟩) := by have q := hE ⟨60, .data⟩ (by simp) rfl; rw [hT] at q; exact q
      have ev63 : fa.tmps[63]?.getD undef = .pointer (some ⟨b0, 2, none⟩) := (hF.ev 60 63 (by kernel_rfl)).trans q60
      have z := cell_below fB c2
      refine wpOp_val rfl (wanted_yes rfl (hF.yes 48 51 (by kernel_rfl) true q48)) ?_ (fK (.int .i64 c) fW (Below.refl _ _) (by rw [hT]; exact rfl))
      clear fK hE hF
      go_simp
    refine stepsAll_cons (k := 62) ?_ ?_
    · intro fa fx fW hF fB hE K fK
      have q48 : fx 48 = .bool true := by have q := hE ⟨48, .guard⟩ (by simp) rfl; rw [hT] at q; exact q
      have q57 : fx 57 = .int .i64 a := by have q := hE ⟨57, .data⟩ (by simp) rfl; rw [hT] at q; exact q
      have q59 : fx 59 = .int .i64 b := by have q := hE ⟨59, .data⟩ (by simp) rfl; rw [hT] at q; exact q
      have q61 : fx 61 = .int .i64 c := by have q := hE ⟨61, .data⟩ (by simp) rfl; rw [hT] at q; exact q
      have ev60 : fa.tmps[60]?.getD undef = .int .i64 a := (hF.ev 57 60 (by kernel_rfl)).trans q57
      have ev62 : fa.tmps[62]?.getD undef = .int .i64 b := (hF.ev 59 62 (by kernel_rfl)).trans q59
      have ev64 : fa.tmps[64]?.getD undef = .int .i64 c := (hF.ev 61 64 (by kernel_rfl)).trans q61
      refine wpOp_call rfl (wanted_yes rfl (hF.yes 48 51 (by kernel_rfl) true q48)) (by go_simp; exact ⟨rfl, rfl⟩) ?_
      refine (H6.out fW).mono ?_
      rintro e' w' ⟨rfl, rfl⟩
      exact ⟨_, rfl, fK (.int .i64 r3) (fW) (Below.refl _ _) (by rw [hT]; exact rfl)⟩
    refine stepsAll_cons (k := 63) ?_ ?_
    · intro fa fx fW hF fB hE K fK
      have q48 : fx 48 = .bool true := by have q := hE ⟨48, .guard⟩ (by simp) rfl; rw [hT] at q; exact q
      have q55 : fx 55 = .int .i64 r3 := by have q := hE ⟨55, .data⟩ (by simp) rfl; rw [hT] at q; exact q
      have q62 : fx 62 = .int .i64 r3 := by have q := hE ⟨62, .data⟩ (by simp) rfl; rw [hT] at q; exact q
      have ev58 : fa.tmps[58]?.getD undef = .int .i64 r3 := (hF.ev 55 58 (by kernel_rfl)).trans q55
      have ev65 : fa.tmps[65]?.getD undef = .int .i64 r3 := (hF.ev 62 65 (by kernel_rfl)).trans q62
      refine wpOp_val rfl (wanted_yes rfl (hF.yes 48 51 (by kernel_rfl) true q48)) ?_ (fK (.bool true) fW (Below.refl _ _) (by rw [hT]; exact rfl))
      clear fK hE hF
      go_simp
    refine stepsAll_cons (k := 64) ?_ ?_
    · intro fa fx fW hF fB hE K fK
      have q48 : fx 48 = .bool true := by have q := hE ⟨48, .data⟩ (by simp) rfl; rw [hT] at q; exact q
      have q63 : fx 63 = .bool true := by have q := hE ⟨63, .data⟩ (by simp) rfl; rw [hT] at q; exact q
      have ev51 : fa.tmps[51]?.getD undef = .bool true := (hF.ev 48 51 (by kernel_rfl)).trans q48
      have ev66 : fa.tmps[66]?.getD undef = .bool true := (hF.ev 63 66 (by kernel_rfl)).trans q63
      refine wpOp_val rfl (wanted_none rfl) ?_ (fK (.bool true) fW (Below.refl _ _) (by rw [hT]; exact rfl))
      clear fK hE hF
      go_simp
    refine stepsAll_cons (k := 65) ?_ ?_
    · intro fa fx fW hF fB hE K fK
      have q64 : fx 64 = .bool true := by have q := hE ⟨64, .data⟩ (by simp) rfl; rw [hT] at q; exact q
      have ev67 : fa.tmps[67]?.getD undef = .bool true := (hF.ev 64 67 (by kernel_rfl)).trans q64
      refine wpOp_val rfl (wanted_none rfl) ?_ (fK (.bool true) fW (Below.refl _ _) (by rw [hT]; exact rfl))
      clear fK hE hF
      go_simp
    refine stepsAll_cons (k := 66) ?_ ?_
    · intro fa fx fW hF fB hE K fK
      have q65 : fx 65 = .bool true := by have q := hE ⟨65, .guard⟩ (by simp) rfl; rw [hT] at q; exact q
      have ev1 : fa.tmps[1]?.getD undef = .pointer (some ⟨b0, 0, none⟩) := hF.eo 1 (by kernel_rfl)
      refine wpOp_val rfl (wanted_yes rfl (hF.yes 65 68 (by kernel_rfl) true q65)) ?_ (fK (.pointer (some ⟨b0, 0, none⟩)) fW (Below.refl _ _) (by rw [hT]; exact rfl))
      clear fK hE hF
      go_simp
    refine stepsAll_cons (k := 67) ?_ ?_
    · intro fa fx fW hF fB hE K fK
      have q65 : fx 65 = .bool true := by have q := hE ⟨65, .guard⟩ (by simp) rfl; rw [hT] at q; exact q
      have q66 : fx 66 = .pointer (some ⟨b0, 0, none⟩) := by have q := hE ⟨66, .data⟩ (by simp) rfl; rw [hT] at q; exact q
      have ev69 : fa.tmps[69]?.getD undef = .pointer (some ⟨b0, 0, none⟩) := (hF.ev 66 69 (by kernel_rfl)).trans q66
      have z := cell_below fB c0
      refine wpOp_val rfl (wanted_yes rfl (hF.yes 65 68 (by kernel_rfl) true q65)) ?_ (fK (.int .i64 a) fW (Below.refl _ _) (by rw [hT]; exact rfl))
      clear fK hE hF
      go_simp
    refine stepsAll_cons (k := 68) ?_ ?_
    · intro fa fx fW hF fB hE K fK
      have q65 : fx 65 = .bool true := by have q := hE ⟨65, .guard⟩ (by simp) rfl; rw [hT] at q; exact q
      have ev1 : fa.tmps[1]?.getD undef = .pointer (some ⟨b0, 0, none⟩) := hF.eo 1 (by kernel_rfl)
      refine wpOp_val rfl (wanted_yes rfl (hF.yes 65 68 (by kernel_rfl) true q65)) ?_ (fK (.pointer (some ⟨b0, 1, none⟩)) fW (Below.refl _ _) (by rw [hT]; exact rfl))
      clear fK hE hF
      go_simp
    refine stepsAll_cons (k := 69) ?_ ?_
    · intro fa fx fW hF fB hE K fK
      have q65 : fx 65 = .bool true := by have q := hE ⟨65, .guard⟩ (by simp) rfl; rw [hT] at q; exact q
      have q68 : fx 68 = .pointer (some ⟨b0, 1, none⟩) := by have q := hE ⟨68, .data⟩ (by simp) rfl; rw [hT] at q; exact q
      have ev71 : fa.tmps[71]?.getD undef = .pointer (some ⟨b0, 1, none⟩) := (hF.ev 68 71 (by kernel_rfl)).trans q68
      have z := cell_below fB c1
      refine wpOp_val rfl (wanted_yes rfl (hF.yes 65 68 (by kernel_rfl) true q65)) ?_ (fK (.int .i64 b) fW (Below.refl _ _) (by rw [hT]; exact rfl))
      clear fK hE hF
      go_simp
    refine stepsAll_cons (k := 70) ?_ ?_
    · intro fa fx fW hF fB hE K fK
      have q65 : fx 65 = .bool true := by have q := hE ⟨65, .chain⟩ (by simp) rfl; rw [hT] at q; exact q
      have q67 : fx 67 = .int .i64 a := by have q := hE ⟨67, .data⟩ (by simp) rfl; rw [hT] at q; exact q
      have q69 : fx 69 = .int .i64 b := by have q := hE ⟨69, .data⟩ (by simp) rfl; rw [hT] at q; exact q
      have ev70 : fa.tmps[70]?.getD undef = .int .i64 a := (hF.ev 67 70 (by kernel_rfl)).trans q67
      have ev72 : fa.tmps[72]?.getD undef = .int .i64 b := (hF.ev 69 72 (by kernel_rfl)).trans q69
      refine wpOp_call rfl (wanted_yes rfl (hF.yes 65 68 (by kernel_rfl) true q65)) (by go_simp; exact ⟨rfl, rfl⟩) ?_
      refine (H7.out fW).mono ?_
      rintro e' w' ⟨rfl, hbb⟩
      exact ⟨_, rfl, fK (.int .i64 r4) (w') (hbb) (by rw [hT]; exact rfl)⟩
    refine stepsAll_cons (k := 71) ?_ ?_
    · intro fa fx fW hF fB hE K fK
      have q65 : fx 65 = .bool true := by have q := hE ⟨65, .guard⟩ (by simp) rfl; rw [hT] at q; exact q
      have ev1 : fa.tmps[1]?.getD undef = .pointer (some ⟨b0, 0, none⟩) := hF.eo 1 (by kernel_rfl)
      refine wpOp_val rfl (wanted_yes rfl (hF.yes 65 68 (by kernel_rfl) true q65)) ?_ (fK (.pointer (some ⟨b0, 0, none⟩)) fW (Below.refl _ _) (by rw [hT]; exact rfl))
      clear fK hE hF
      go_simp
    refine stepsAll_cons (k := 72) ?_ ?_
    · intro fa fx fW hF fB hE K fK
      have q65 : fx 65 = .bool true := by have q := hE ⟨65, .guard⟩ (by simp) rfl; rw [hT] at q; exact q
      have q71 : fx 71 = .pointer (some ⟨b0, 0, none⟩) := by have q := hE ⟨71, .data⟩ (by simp) rfl; rw [hT] at q; exact q
      have ev74 : fa.tmps[74]?.getD undef = .pointer (some ⟨b0, 0, none⟩) := (hF.ev 71 74 (by kernel_rfl)).trans q71
      have z := cell_below fB c0
      refine wpOp_val rfl (wanted_yes rfl (hF.yes 65 68 (by kernel_rfl) true q65)) ?_ (fK (.int .i64 a) fW (Below.refl _ _) (by rw [hT]; exact rfl))
      clear fK hE hF
      go_simp
    refine stepsAll_cons (k := 73) ?_ ?_
    · intro fa fx fW hF fB hE K fK
      have q65 : fx 65 = .bool true := by have q := hE ⟨65, .guard⟩ (by simp) rfl; rw [hT] at q; exact q
      have ev1 : fa.tmps[1]?.getD undef = .pointer (some ⟨b0, 0, none⟩) := hF.eo 1 (by kernel_rfl)
      refine wpOp_val rfl (wanted_yes rfl (hF.yes 65 68 (by kernel_rfl) true q65)) ?_ (fK (.pointer (some ⟨b0, 1, none⟩)) fW (Below.refl _ _) (by rw [hT]; exact rfl))
      clear fK hE hF
      go_simp
    refine stepsAll_cons (k := 74) ?_ ?_
    · intro fa fx fW hF fB hE K fK
      have q65 : fx 65 = .bool true := by have q := hE ⟨65, .guard⟩ (by simp) rfl; rw [hT] at q; exact q
      have q73 : fx 73 = .pointer (some ⟨b0, 1, none⟩) := by have q := hE ⟨73, .data⟩ (by simp) rfl; rw [hT] at q; exact q
      have ev76 : fa.tmps[76]?.getD undef = .pointer (some ⟨b0, 1, none⟩) := (hF.ev 73 76 (by kernel_rfl)).trans q73
      have z := cell_below fB c1
      refine wpOp_val rfl (wanted_yes rfl (hF.yes 65 68 (by kernel_rfl) true q65)) ?_ (fK (.int .i64 b) fW (Below.refl _ _) (by rw [hT]; exact rfl))
      clear fK hE hF
      go_simp
    refine stepsAll_cons (k := 75) ?_ ?_
    · intro fa fx fW hF fB hE K fK
      have q65 : fx 65 = .bool true := by have q := hE ⟨65, .guard⟩ (by simp) rfl; rw [hT] at q; exact q
      have q72 : fx 72 = .int .i64 a := by have q := hE ⟨72, .data⟩ (by simp) rfl; rw [hT] at q; exact q
      have q74 : fx 74 = .int .i64 b := by have q := hE ⟨74, .data⟩ (by simp) rfl; rw [hT] at q; exact q
      have ev75 : fa.tmps[75]?.getD undef = .int .i64 a := (hF.ev 72 75 (by kernel_rfl)).trans q72
      have ev77 : fa.tmps[77]?.getD undef = .int .i64 b := (hF.ev 74 77 (by kernel_rfl)).trans q74
      refine wpOp_call rfl (wanted_yes rfl (hF.yes 65 68 (by kernel_rfl) true q65)) (by go_simp; exact ⟨rfl, rfl⟩) ?_
      refine (H8.out fW).mono ?_
      rintro e' w' ⟨rfl, hbb⟩
      exact ⟨_, rfl, fK (.int .i64 r4) (w') (hbb) (by rw [hT]; exact rfl)⟩
    refine stepsAll_cons (k := 76) ?_ ?_
    · intro fa fx fW hF fB hE K fK
      have q65 : fx 65 = .bool true := by have q := hE ⟨65, .guard⟩ (by simp) rfl; rw [hT] at q; exact q
      have q70 : fx 70 = .int .i64 r4 := by have q := hE ⟨70, .data⟩ (by simp) rfl; rw [hT] at q; exact q
      have q75 : fx 75 = .int .i64 r4 := by have q := hE ⟨75, .data⟩ (by simp) rfl; rw [hT] at q; exact q
      have ev73 : fa.tmps[73]?.getD undef = .int .i64 r4 := (hF.ev 70 73 (by kernel_rfl)).trans q70
      have ev78 : fa.tmps[78]?.getD undef = .int .i64 r4 := (hF.ev 75 78 (by kernel_rfl)).trans q75
      refine wpOp_val rfl (wanted_yes rfl (hF.yes 65 68 (by kernel_rfl) true q65)) ?_ (fK (.bool true) fW (Below.refl _ _) (by rw [hT]; exact rfl))
      clear fK hE hF
      go_simp
    refine stepsAll_cons (k := 77) ?_ ?_
    · intro fa fx fW hF fB hE K fK
      have q65 : fx 65 = .bool true := by have q := hE ⟨65, .data⟩ (by simp) rfl; rw [hT] at q; exact q
      have q76 : fx 76 = .bool true := by have q := hE ⟨76, .data⟩ (by simp) rfl; rw [hT] at q; exact q
      have ev68 : fa.tmps[68]?.getD undef = .bool true := (hF.ev 65 68 (by kernel_rfl)).trans q65
      have ev79 : fa.tmps[79]?.getD undef = .bool true := (hF.ev 76 79 (by kernel_rfl)).trans q76
      refine wpOp_val rfl (wanted_none rfl) ?_ (fK (.bool true) fW (Below.refl _ _) (by rw [hT]; exact rfl))
      clear fK hE hF
      go_simp
    refine stepsAll_cons (k := 78) ?_ ?_
    · intro fa fx fW hF fB hE K fK
      have q77 : fx 77 = .bool true := by have q := hE ⟨77, .data⟩ (by simp) rfl; rw [hT] at q; exact q
      have ev80 : fa.tmps[80]?.getD undef = .bool true := (hF.ev 77 80 (by kernel_rfl)).trans q77
      refine wpOp_val rfl (wanted_none rfl) ?_ (fK (.bool true) fW (Below.refl _ _) (by rw [hT]; exact rfl))
      clear fK hE hF
      go_simp
    refine stepsAll_cons (k := 79) ?_ ?_
    · intro fa fx fW hF fB hE K fK
      have q78 : fx 78 = .bool true := by have q := hE ⟨78, .chain⟩ (by simp) rfl; rw [hT] at q; exact q
      refine wpOp_call rfl (wanted_yes rfl (hF.yes 78 81 (by kernel_rfl) true q78)) (by go_simp; exact ⟨rfl, rfl⟩) ?_
      refine (HL.out fW).mono ?_
      rintro e' w' ⟨rfl, hbb⟩
      exact ⟨_, rfl, fK (.bool true) (w') (hbb) (by rw [hT]; exact rfl)⟩
    refine stepsAll_cons (k := 80) ?_ ?_
    · intro fa fx fW hF fB hE K fK
      have q78 : fx 78 = .bool true := by have q := hE ⟨78, .data⟩ (by simp) rfl; rw [hT] at q; exact q
      have q79 : fx 79 = .bool true := by have q := hE ⟨79, .data⟩ (by simp) rfl; rw [hT] at q; exact q
      have ev81 : fa.tmps[81]?.getD undef = .bool true := (hF.ev 78 81 (by kernel_rfl)).trans q78
      have ev82 : fa.tmps[82]?.getD undef = .bool true := (hF.ev 79 82 (by kernel_rfl)).trans q79
      refine wpOp_val rfl (wanted_none rfl) ?_ (fK (.bool true) fW (Below.refl _ _) (by rw [hT]; exact rfl))
      clear fK hE hF
      go_simp
    refine stepsAll_cons (k := 81) ?_ ?_
    · intro fa fx fW hF fB hE K fK
      have q80 : fx 80 = .bool true := by have q := hE ⟨80, .data⟩ (by simp) rfl; rw [hT] at q; exact q
      have ev83 : fa.tmps[83]?.getD undef = .bool true := (hF.ev 80 83 (by kernel_rfl)).trans q80
      refine wpOp_val rfl (wanted_none rfl) ?_ (fK (.bool true) fW (Below.refl _ _) (by rw [hT]; exact rfl))
      clear fK hE hF
      go_simp
    exact stepsAll_nil
  intro fa fx fW hF fB hx
  have q81 : fx 81 = .bool true := by have q := hx 81 (by decide); rw [hT] at q; exact q
  have ev2 : fa.tmps[2]?.getD undef = .bool true := (hF.ev 81 2 (by kernel_rfl)).trans q81
  rw [hF.eq]
  clear hF hx
  simp only [putAll, Act.put, List.setIfInBounds_toArray, List.set_cons_zero, List.set_cons_succ, q81]
  go_wp2
  go_ret
  exact ⟨rfl, below_tr hB0 fB⟩
end Go.Proofs.Ytkebkmjffbnihaa
