/- The law StrideSays, walked. -/
import Derived.Test.YtnacfpkagomfaaaStrideWithin
namespace Go.Proofs.Ytnacfpkagomfaaa
open Go.RowKit
set_option maxRecDepth 100000 in
set_option maxHeartbeats 8000000 in
theorem says_law (a b c d e : Int) (ha : I64 a) (hb : I64 b) (hc : I64 c) (hd : I64 d) (w : World) : Calls Try.prog 6 #[.agg #[.int .i64 a, .int .i64 b, .int .i64 c, .int .i64 d, .int .i64 e]] w fun e' w' => e' = .returned (.bool true) ∧ Below w.heap.size w w' := by
  have HL := Lib.hid (fun W => lives17 W)
  have H1 := Lib.hid (fun W => scharge a b ha hb W)
  have H2 := Lib.hid (fun W => dAdd a b W ha hb)
  have H3 := Lib.hid (fun W => sstride a W)
  have H4 := Lib.hid (fun W => wstride a W)
  have H5 := Lib.hid (fun W => senter a b c hb hc W)
  have H6 := Lib.hid (fun W => wenter a b c hb hc W)
  have H7 := Lib.hid (fun W => sahead a b c d W)
  have H8 := Lib.hid (fun W => wahead a b c d W)
  have H9 := Lib.hid (fun W => swithin a b c d e ha hb hc hd W)
  have H10 := Lib.hid (fun W => wwithin a b c d e ha hb hc hd W)
  generalize fitV (a + b) = p at *
  generalize fitB (a + b) = q at *
  generalize strideV a = r1 at *
  generalize enterV a b c = r2 at *
  generalize aheadV a b c d = r3 at *
  generalize withinV a b c d e = r4 at *
  have e1 : (r1 == r1) = true := by simp
  have e2 : (r2 == r2) = true := by simp
  have e3 : (r3 == r3) = true := by simp
  have e4 : (r4 == r4) = true := by simp
  have e5 : (p == p) = true := by simp
  have e6 : (q == q) = true := by simp
  clear ha hb hc hd
  go_enter Try.func6, Try.ntmps6
  obtain ⟨W0, hW0⟩ : ∃ W0, W0 = w.alloc (.cells #[.int .i64 a, .int .i64 b, .int .i64 c, .int .i64 d, .int .i64 e] 35) := ⟨_, rfl⟩
  have hB0 : Below w.heap.size w W0 := by rw [hW0]; exact below_al (Below.refl _ _) _
  have c0 : W0.cell? ⟨w.heap.size, 0, none⟩ = some (.int .i64 a) := by rw [hW0]; go_simp
  have c1 : W0.cell? ⟨w.heap.size, 1, none⟩ = some (.int .i64 b) := by rw [hW0]; go_simp
  have c2 : W0.cell? ⟨w.heap.size, 2, none⟩ = some (.int .i64 c) := by rw [hW0]; go_simp
  have c3 : W0.cell? ⟨w.heap.size, 3, none⟩ = some (.int .i64 d) := by rw [hW0]; go_simp
  have c4 : W0.cell? ⟨w.heap.size, 4, none⟩ = some (.int .i64 e) := by rw [hW0]; go_simp
  go_wp2_with (go_at_call 15; (with_reducible refine (H1.out _).mono ?_); rintro e' w1 ⟨rfl, rfl⟩)
  rw [← hW0]
  go_wp2_with (go_at_call 16; (with_reducible refine (H2.out _).mono ?_); rintro e' w2 ⟨rfl, hb2⟩)
  have c0 := cell_below hb2 c0
  have c1 := cell_below hb2 c1
  have c2 := cell_below hb2 c2
  have c3 := cell_below hb2 c3
  have c4 := cell_below hb2 c4
  have hB0 := below_tr hB0 hb2
  obtain ⟨b0, hb0⟩ : ∃ b, b = w.heap.size := ⟨_, rfl⟩
  rw [show Value.pointer (some ⟨w.heap.size, 0, none⟩) = Value.pointer (some ⟨b0, 0, none⟩) by rw [hb0]]
  rw [← hb0] at c0 c1 c2 c3 c4
  clear hW0 hb0 hb2
  obtain ⟨T, hT⟩ : ∃ T : Nat → Fact, ∀ t_, T t_ = ([Fact.eq (.pointer (some ⟨b0, 0, none⟩)), Fact.eq (.int .i64 a), Fact.eq (.int .i64 r1), Fact.eq (.pointer (some ⟨b0, 0, none⟩)), Fact.eq (.int .i64 a), Fact.eq (.int .i64 r1), Fact.eq (.bool true), Fact.eq (.bool true), Fact.eq (.pointer (some ⟨b0, 0, none⟩)), Fact.eq (.int .i64 a), Fact.eq (.pointer (some ⟨b0, 1, none⟩)), Fact.eq (.int .i64 b), Fact.eq (.pointer (some ⟨b0, 2, none⟩)), Fact.eq (.int .i64 c), Fact.eq (.int .i64 r2), Fact.eq (.pointer (some ⟨b0, 0, none⟩)), Fact.eq (.int .i64 a), Fact.eq (.pointer (some ⟨b0, 1, none⟩)), Fact.eq (.int .i64 b), Fact.eq (.pointer (some ⟨b0, 2, none⟩)), Fact.eq (.int .i64 c), Fact.eq (.int .i64 r2), Fact.eq (.bool true), Fact.eq (.bool true), Fact.eq (.bool true), Fact.eq (.int .i64 p), Fact.eq (.int .i64 p), Fact.eq (.bool true), Fact.eq (.bool true), Fact.eq (.bool true), Fact.eq (.bool q), Fact.eq (.bool q), Fact.eq (.bool true), Fact.eq (.bool true), Fact.eq (.bool true), Fact.eq (.pointer (some ⟨b0, 0, none⟩)), Fact.eq (.int .i64 a), Fact.eq (.pointer (some ⟨b0, 1, none⟩)), Fact.eq (.int .i64 b), Fact.eq (.pointer (some ⟨b0, 2, none⟩)), Fact.eq (.int .i64 c), Fact.eq (.pointer (some ⟨b0, 3, none⟩)), Fact.eq (.int .i64 d), Fact.eq (.bool r3), Fact.eq (.pointer (some ⟨b0, 0, none⟩)), Fact.eq (.int .i64 a), Fact.eq (.pointer (some ⟨b0, 1, none⟩)), Fact.eq (.int .i64 b), Fact.eq (.pointer (some ⟨b0, 2, none⟩)), Fact.eq (.int .i64 c), Fact.eq (.pointer (some ⟨b0, 3, none⟩)), Fact.eq (.int .i64 d), Fact.eq (.bool r3), Fact.eq (.bool true), Fact.eq (.bool true), Fact.eq (.bool true), Fact.eq (.pointer (some ⟨b0, 0, none⟩)), Fact.eq (.int .i64 a), Fact.eq (.pointer (some ⟨b0, 1, none⟩)), Fact.eq (.int .i64 b), Fact.eq (.pointer (some ⟨b0, 2, none⟩)), Fact.eq (.int .i64 c), Fact.eq (.pointer (some ⟨b0, 3, none⟩)), Fact.eq (.int .i64 d), Fact.eq (.pointer (some ⟨b0, 4, none⟩)), Fact.eq (.int .i64 e), Fact.eq (.bool r4), Fact.eq (.pointer (some ⟨b0, 0, none⟩)), Fact.eq (.int .i64 a), Fact.eq (.pointer (some ⟨b0, 1, none⟩)), Fact.eq (.int .i64 b), Fact.eq (.pointer (some ⟨b0, 2, none⟩)), Fact.eq (.int .i64 c), Fact.eq (.pointer (some ⟨b0, 3, none⟩)), Fact.eq (.int .i64 d), Fact.eq (.pointer (some ⟨b0, 4, none⟩)), Fact.eq (.int .i64 e), Fact.eq (.bool r4), Fact.eq (.bool true), Fact.eq (.bool true), Fact.eq (.bool true), Fact.eq (.bool true), Fact.eq (.bool true), Fact.eq (.bool true)] : List (Fact)).getD t_ Fact.any := ⟨_, fun _ => rfl⟩
  refine region_tab [(0, 23), (1, 24), (2, 25), (3, 26), (4, 27), (5, 28), (6, 29), (7, 30), (8, 31), (9, 32), (10, 33), (11, 34), (12, 35), (13, 36), (14, 37), (15, 38), (16, 39), (17, 40), (18, 41), (19, 42), (20, 43), (21, 44), (22, 45), (23, 46), (24, 47), (25, 48), (26, 49), (27, 50), (28, 51), (29, 52), (30, 53), (31, 54), (32, 55), (33, 56), (34, 57), (35, 58), (36, 59), (37, 60), (38, 61), (39, 62), (40, 63), (41, 64), (42, 65), (43, 66), (44, 67), (45, 68), (46, 69), (47, 70), (48, 71), (49, 72), (50, 73), (51, 74), (52, 75), (53, 76), (54, 77), (55, 78), (56, 79), (57, 80), (58, 81), (59, 82), (60, 83), (61, 84), (62, 85), (63, 86), (64, 87), (65, 88), (66, 89), (67, 90), (68, 91), (69, 92), (70, 93), (71, 94), (72, 95), (73, 96), (74, 97), (75, 98), (76, 99), (77, 100), (78, 101), (79, 102), (80, 103), (81, 104), (82, 105), (83, 2)] T (by kernel_rfl) (by kernel_rfl) (by kernel_rfl) (by kernel_rfl) (by kernel_rfl) ?_ ?_
  · skip
    refine stepsAll_cons (k := 0) ?_ ?_
    · intro fa fx fW hF fB hE K fK
      have ev1 : fa.tmps[1]?.getD undef = .pointer (some ⟨b0, 0, none⟩) := hF.eo 1 (by kernel_rfl)
      refine wpOp_val rfl (wanted_none rfl) ?_ (fK (.pointer (some ⟨b0, 0, none⟩)) fW (Below.refl _ _) (by rw [hT]; exact rfl))
      clear fK hE hF
      go_simp
    refine stepsAll_cons (k := 1) ?_ ?_
    · intro fa fx fW hF fB hE K fK
      have q0 : fx 0 = .pointer (some ⟨b0, 0, none⟩) := by have q := hE ⟨0, .data⟩ (by simp) rfl; rw [hT] at q; exact q
      have ev23 : fa.tmps[23]?.getD undef = .pointer (some ⟨b0, 0, none⟩) := (hF.ev 0 23 (by kernel_rfl)).trans q0
      have z := cell_below fB c0
      refine wpOp_val rfl (wanted_none rfl) ?_ (fK (.int .i64 a) fW (Below.refl _ _) (by rw [hT]; exact rfl))
      clear fK hE hF
      go_simp
    refine stepsAll_cons (k := 2) ?_ ?_
    · intro fa fx fW hF fB hE K fK
      have q1 : fx 1 = .int .i64 a := by have q := hE ⟨1, .data⟩ (by simp) rfl; rw [hT] at q; exact q
      have ev24 : fa.tmps[24]?.getD undef = .int .i64 a := (hF.ev 1 24 (by kernel_rfl)).trans q1
      refine wpOp_call rfl (wanted_none rfl) (by go_simp; exact ⟨rfl, rfl⟩) ?_
      refine (H3.out fW).mono ?_
      rintro e' w' ⟨rfl, hbb⟩
      exact ⟨_, rfl, fK (.int .i64 r1) (w') (hbb) (by rw [hT]; exact rfl)⟩
    refine stepsAll_cons (k := 3) ?_ ?_
    · intro fa fx fW hF fB hE K fK
      have ev1 : fa.tmps[1]?.getD undef = .pointer (some ⟨b0, 0, none⟩) := hF.eo 1 (by kernel_rfl)
      refine wpOp_val rfl (wanted_none rfl) ?_ (fK (.pointer (some ⟨b0, 0, none⟩)) fW (Below.refl _ _) (by rw [hT]; exact rfl))
      clear fK hE hF
      go_simp
    refine stepsAll_cons (k := 4) ?_ ?_
    · intro fa fx fW hF fB hE K fK
      have q3 : fx 3 = .pointer (some ⟨b0, 0, none⟩) := by have q := hE ⟨3, .data⟩ (by simp) rfl; rw [hT] at q; exact q
      have ev26 : fa.tmps[26]?.getD undef = .pointer (some ⟨b0, 0, none⟩) := (hF.ev 3 26 (by kernel_rfl)).trans q3
      have z := cell_below fB c0
      refine wpOp_val rfl (wanted_none rfl) ?_ (fK (.int .i64 a) fW (Below.refl _ _) (by rw [hT]; exact rfl))
      clear fK hE hF
      go_simp
    refine stepsAll_cons (k := 5) ?_ ?_
    · intro fa fx fW hF fB hE K fK
      have q4 : fx 4 = .int .i64 a := by have q := hE ⟨4, .data⟩ (by simp) rfl; rw [hT] at q; exact q
      have ev27 : fa.tmps[27]?.getD undef = .int .i64 a := (hF.ev 4 27 (by kernel_rfl)).trans q4
      refine wpOp_call rfl (wanted_none rfl) (by go_simp; exact ⟨rfl, rfl⟩) ?_
      refine (H4.out fW).mono ?_
      rintro e' w' ⟨rfl, rfl⟩
      exact ⟨_, rfl, fK (.int .i64 r1) (fW) (Below.refl _ _) (by rw [hT]; exact rfl)⟩
    refine stepsAll_cons (k := 6) ?_ ?_
    · intro fa fx fW hF fB hE K fK
      have q2 : fx 2 = .int .i64 r1 := by have q := hE ⟨2, .data⟩ (by simp) rfl; rw [hT] at q; exact q
      have q5 : fx 5 = .int .i64 r1 := by have q := hE ⟨5, .data⟩ (by simp) rfl; rw [hT] at q; exact q
      have ev25 : fa.tmps[25]?.getD undef = .int .i64 r1 := (hF.ev 2 25 (by kernel_rfl)).trans q2
      have ev28 : fa.tmps[28]?.getD undef = .int .i64 r1 := (hF.ev 5 28 (by kernel_rfl)).trans q5
      refine wpOp_val rfl (wanted_none rfl) ?_ (fK (.bool true) fW (Below.refl _ _) (by rw [hT]; exact rfl))
      clear fK hE hF
      go_simp
    refine stepsAll_cons (k := 7) ?_ ?_
    · intro fa fx fW hF fB hE K fK
      have q6 : fx 6 = .bool true := by have q := hE ⟨6, .data⟩ (by simp) rfl; rw [hT] at q; exact q
      have ev29 : fa.tmps[29]?.getD undef = .bool true := (hF.ev 6 29 (by kernel_rfl)).trans q6
      refine wpOp_val rfl (wanted_none rfl) ?_ (fK (.bool true) fW (Below.refl _ _) (by rw [hT]; exact rfl))
      clear fK hE hF
      go_simp
    refine stepsAll_cons (k := 8) ?_ ?_
    · intro fa fx fW hF fB hE K fK
      have q7 : fx 7 = .bool true := by have q := hE ⟨7, .guard⟩ (by simp) rfl; rw [hT] at q; exact q
      have ev1 : fa.tmps[1]?.getD undef = .pointer (some ⟨b0, 0, none⟩) := hF.eo 1 (by kernel_rfl)
      refine wpOp_val rfl (wanted_yes rfl (hF.yes 7 30 (by kernel_rfl) true q7)) ?_ (fK (.pointer (some ⟨b0, 0, none⟩)) fW (Below.refl _ _) (by rw [hT]; exact rfl))
      clear fK hE hF
      go_simp
    refine stepsAll_cons (k := 9) ?_ ?_
    · intro fa fx fW hF fB hE K fK
      have q7 : fx 7 = .bool true := by have q := hE ⟨7, .guard⟩ (by simp) rfl; rw [hT] at q; exact q
      have q8 : fx 8 = .pointer (some ⟨b0, 0, none⟩) := by have q := hE ⟨8, .data⟩ (by simp) rfl; rw [hT] at q; exact q
      have ev31 : fa.tmps[31]?.getD undef = .pointer (some ⟨b0, 0, none⟩) := (hF.ev 8 31 (by kernel_rfl)).trans q8
      have z := cell_below fB c0
      refine wpOp_val rfl (wanted_yes rfl (hF.yes 7 30 (by kernel_rfl) true q7)) ?_ (fK (.int .i64 a) fW (Below.refl _ _) (by rw [hT]; exact rfl))
      clear fK hE hF
      go_simp
    refine stepsAll_cons (k := 10) ?_ ?_
    · intro fa fx fW hF fB hE K fK
      have q7 : fx 7 = .bool true := by have q := hE ⟨7, .guard⟩ (by simp) rfl; rw [hT] at q; exact q
      have ev1 : fa.tmps[1]?.getD undef = .pointer (some ⟨b0, 0, none⟩) := hF.eo 1 (by kernel_rfl)
      refine wpOp_val rfl (wanted_yes rfl (hF.yes 7 30 (by kernel_rfl) true q7)) ?_ (fK (.pointer (some ⟨b0, 1, none⟩)) fW (Below.refl _ _) (by rw [hT]; exact rfl))
      clear fK hE hF
      go_simp
    refine stepsAll_cons (k := 11) ?_ ?_
    · intro fa fx fW hF fB hE K fK
      have q7 : fx 7 = .bool true := by have q := hE ⟨7, .guard⟩ (by simp) rfl; rw [hT] at q; exact q
      have q10 : fx 10 = .pointer (some ⟨b0, 1, none⟩) := by have q := hE ⟨10, .data⟩ (by simp) rfl; rw [hT] at q; exact q
      have ev33 : fa.tmps[33]?.getD undef = .pointer (some ⟨b0, 1, none⟩) := (hF.ev 10 33 (by kernel_rfl)).trans q10
      have z := cell_below fB c1
      refine wpOp_val rfl (wanted_yes rfl (hF.yes 7 30 (by kernel_rfl) true q7)) ?_ (fK (.int .i64 b) fW (Below.refl _ _) (by rw [hT]; exact rfl))
      clear fK hE hF
      go_simp
    refine stepsAll_cons (k := 12) ?_ ?_
    · intro fa fx fW hF fB hE K fK
      have q7 : fx 7 = .bool true := by have q := hE ⟨7, .guard⟩ (by simp) rfl; rw [hT] at q; exact q
      have ev1 : fa.tmps[1]?.getD undef = .pointer (some ⟨b0, 0, none⟩) := hF.eo 1 (by kernel_rfl)
      refine wpOp_val rfl (wanted_yes rfl (hF.yes 7 30 (by kernel_rfl) true q7)) ?_ (fK (.pointer (some ⟨b0, 2, none⟩)) fW (Below.refl _ _) (by rw [hT]; exact rfl))
      clear fK hE hF
      go_simp
    refine stepsAll_cons (k := 13) ?_ ?_
    · intro fa fx fW hF fB hE K fK
      have q7 : fx 7 = .bool true := by have q := hE ⟨7, .guard⟩ (by simp) rfl; rw [hT] at q; exact q
      have q12 : fx 12 = .pointer (some ⟨b0, 2, none⟩) := by have q := hE ⟨12, .data⟩ (by simp) rfl; rw [hT] at q; exact q
      have ev35 : fa.tmps[35]?.getD undef = .pointer (some ⟨b0, 2, none⟩) := (hF.ev 12 35 (by kernel_rfl)).trans q12
      have z := cell_below fB c2
      refine wpOp_val rfl (wanted_yes rfl (hF.yes 7 30 (by kernel_rfl) true q7)) ?_ (fK (.int .i64 c) fW (Below.refl _ _) (by rw [hT]; exact rfl))
      clear fK hE hF
      go_simp
    refine stepsAll_cons (k := 14) ?_ ?_
    · intro fa fx fW hF fB hE K fK
      have q7 : fx 7 = .bool true := by have q := hE ⟨7, .chain⟩ (by simp) rfl; rw [hT] at q; exact q
      have q9 : fx 9 = .int .i64 a := by have q := hE ⟨9, .data⟩ (by simp) rfl; rw [hT] at q; exact q
      have q11 : fx 11 = .int .i64 b := by have q := hE ⟨11, .data⟩ (by simp) rfl; rw [hT] at q; exact q
      have q13 : fx 13 = .int .i64 c := by have q := hE ⟨13, .data⟩ (by simp) rfl; rw [hT] at q; exact q
      have ev32 : fa.tmps[32]?.getD undef = .int .i64 a := (hF.ev 9 32 (by kernel_rfl)).trans q9
      have ev34 : fa.tmps[34]?.getD undef = .int .i64 b := (hF.ev 11 34 (by kernel_rfl)).trans q11
      have ev36 : fa.tmps[36]?.getD undef = .int .i64 c := (hF.ev 13 36 (by kernel_rfl)).trans q13
      refine wpOp_call rfl (wanted_yes rfl (hF.yes 7 30 (by kernel_rfl) true q7)) (by go_simp; exact ⟨rfl, rfl⟩) ?_
      refine (H5.out fW).mono ?_
      rintro e' w' ⟨rfl, rfl⟩
      exact ⟨_, rfl, fK (.int .i64 r2) (fW) (Below.refl _ _) (by rw [hT]; exact rfl)⟩
    refine stepsAll_cons (k := 15) ?_ ?_
    · intro fa fx fW hF fB hE K fK
      have q7 : fx 7 = .bool true := by have q := hE ⟨7, .guard⟩ (by simp) rfl; rw [hT] at q; exact q
      have ev1 : fa.tmps[1]?.getD undef = .pointer (some ⟨b0, 0, none⟩) := hF.eo 1 (by kernel_rfl)
      refine wpOp_val rfl (wanted_yes rfl (hF.yes 7 30 (by kernel_rfl) true q7)) ?_ (fK (.pointer (some ⟨b0, 0, none⟩)) fW (Below.refl _ _) (by rw [hT]; exact rfl))
      clear fK hE hF
      go_simp
    refine stepsAll_cons (k := 16) ?_ ?_
    · intro fa fx fW hF fB hE K fK
      have q7 : fx 7 = .bool true := by have q := hE ⟨7, .guard⟩ (by simp) rfl; rw [hT] at q; exact q
      have q15 : fx 15 = .pointer (some ⟨b0, 0, none⟩) := by have q := hE ⟨15, .data⟩ (by simp) rfl; rw [hT] at q; exact q
      have ev38 : fa.tmps[38]?.getD undef = .pointer (some ⟨b0, 0, none⟩) := (hF.ev 15 38 (by kernel_rfl)).trans q15
      have z := cell_below fB c0
      refine wpOp_val rfl (wanted_yes rfl (hF.yes 7 30 (by kernel_rfl) true q7)) ?_ (fK (.int .i64 a) fW (Below.refl _ _) (by rw [hT]; exact rfl))
      clear fK hE hF
      go_simp
    refine stepsAll_cons (k := 17) ?_ ?_
    · intro fa fx fW hF fB hE K fK
      have q7 : fx 7 = .bool true := by have q := hE ⟨7, .guard⟩ (by simp) rfl; rw [hT] at q; exact q
      have ev1 : fa.tmps[1]?.getD undef = .pointer (some ⟨b0, 0, none⟩) := hF.eo 1 (by kernel_rfl)
      refine wpOp_val rfl (wanted_yes rfl (hF.yes 7 30 (by kernel_rfl) true q7)) ?_ (fK (.pointer (some ⟨b0, 1, none⟩)) fW (Below.refl _ _) (by rw [hT]; exact rfl))
      clear fK hE hF
      go_simp
    refine stepsAll_cons (k := 18) ?_ ?_
    · intro fa fx fW hF fB hE K fK
      have q7 : fx 7 = .bool true := by have q := hE ⟨7, .guard⟩ (by simp) rfl; rw [hT] at q; exact q
      have q17 : fx 17 = .pointer (some ⟨b0, 1, none⟩) := by have q := hE ⟨17, .data⟩ (by simp) rfl; rw [hT] at q; exact q
      have ev40 : fa.tmps[40]?.getD undef = .pointer (some ⟨b0, 1, none⟩) := (hF.ev 17 40 (by kernel_rfl)).trans q17
      have z := cell_below fB c1
      refine wpOp_val rfl (wanted_yes rfl (hF.yes 7 30 (by kernel_rfl) true q7)) ?_ (fK (.int .i64 b) fW (Below.refl _ _) (by rw [hT]; exact rfl))
      clear fK hE hF
      go_simp
    refine stepsAll_cons (k := 19) ?_ ?_
    · intro fa fx fW hF fB hE K fK
      have q7 : fx 7 = .bool true := by have q := hE ⟨7, .guard⟩ (by simp) rfl; rw [hT] at q; exact q
      have ev1 : fa.tmps[1]?.getD undef = .pointer (some ⟨b0, 0, none⟩) := hF.eo 1 (by kernel_rfl)
      refine wpOp_val rfl (wanted_yes rfl (hF.yes 7 30 (by kernel_rfl) true q7)) ?_ (fK (.pointer (some ⟨b0, 2, none⟩)) fW (Below.refl _ _) (by rw [hT]; exact rfl))
      clear fK hE hF
      go_simp
    refine stepsAll_cons (k := 20) ?_ ?_
    · intro fa fx fW hF fB hE K fK
      have q7 : fx 7 = .bool true := by have q := hE ⟨7, .guard⟩ (by simp) rfl; rw [hT] at q; exact q
      have q19 : fx 19 = .pointer (some ⟨b0, 2, none⟩) := by have q := hE ⟨19, .data⟩ (by simp) rfl; rw [hT] at q; exact q
      have ev42 : fa.tmps[42]?.getD undef = .pointer (some ⟨b0, 2, none⟩) := (hF.ev 19 42 (by kernel_rfl)).trans q19
      have z := cell_below fB c2
      refine wpOp_val rfl (wanted_yes rfl (hF.yes 7 30 (by kernel_rfl) true q7)) ?_ (fK (.int .i64 c) fW (Below.refl _ _) (by rw [hT]; exact rfl))
      clear fK hE hF
      go_simp
    refine stepsAll_cons (k := 21) ?_ ?_
    · intro fa fx fW hF fB hE K fK
      have q7 : fx 7 = .bool true := by have q := hE ⟨7, .guard⟩ (by simp) rfl; rw [hT] at q; exact q
      have q16 : fx 16 = .int .i64 a := by have q := hE ⟨16, .data⟩ (by simp) rfl; rw [hT] at q; exact q
      have q18 : fx 18 = .int .i64 b := by have q := hE ⟨18, .data⟩ (by simp) rfl; rw [hT] at q; exact q
      have q20 : fx 20 = .int .i64 c := by have q := hE ⟨20, .data⟩ (by simp) rfl; rw [hT] at q; exact q
      have ev39 : fa.tmps[39]?.getD undef = .int .i64 a := (hF.ev 16 39 (by kernel_rfl)).trans q16
      have ev41 : fa.tmps[41]?.getD undef = .int .i64 b := (hF.ev 18 41 (by kernel_rfl)).trans q18
      have ev43 : fa.tmps[43]?.getD undef = .int .i64 c := (hF.ev 20 43 (by kernel_rfl)).trans q20
      refine wpOp_call rfl (wanted_yes rfl (hF.yes 7 30 (by kernel_rfl) true q7)) (by go_simp; exact ⟨rfl, rfl⟩) ?_
      refine (H6.out fW).mono ?_
      rintro e' w' ⟨rfl, hbb⟩
      exact ⟨_, rfl, fK (.int .i64 r2) (w') (hbb) (by rw [hT]; exact rfl)⟩
    refine stepsAll_cons (k := 22) ?_ ?_
    · intro fa fx fW hF fB hE K fK
      have q7 : fx 7 = .bool true := by have q := hE ⟨7, .guard⟩ (by simp) rfl; rw [hT] at q; exact q
      have q14 : fx 14 = .int .i64 r2 := by have q := hE ⟨14, .data⟩ (by simp) rfl; rw [hT] at q; exact q
      have q21 : fx 21 = .int .i64 r2 := by have q := hE ⟨21, .data⟩ (by simp) rfl; rw [hT] at q; exact q
      have ev37 : fa.tmps[37]?.getD undef = .int .i64 r2 := (hF.ev 14 37 (by kernel_rfl)).trans q14
      have ev44 : fa.tmps[44]?.getD undef = .int .i64 r2 := (hF.ev 21 44 (by kernel_rfl)).trans q21
      refine wpOp_val rfl (wanted_yes rfl (hF.yes 7 30 (by kernel_rfl) true q7)) ?_ (fK (.bool true) fW (Below.refl _ _) (by rw [hT]; exact rfl))
      clear fK hE hF
      go_simp
    refine stepsAll_cons (k := 23) ?_ ?_
    · intro fa fx fW hF fB hE K fK
      have q7 : fx 7 = .bool true := by have q := hE ⟨7, .data⟩ (by simp) rfl; rw [hT] at q; exact q
      have q22 : fx 22 = .bool true := by have q := hE ⟨22, .data⟩ (by simp) rfl; rw [hT] at q; exact q
      have ev30 : fa.tmps[30]?.getD undef = .bool true := (hF.ev 7 30 (by kernel_rfl)).trans q7
      have ev45 : fa.tmps[45]?.getD undef = .bool true := (hF.ev 22 45 (by kernel_rfl)).trans q22
      refine wpOp_val rfl (wanted_none rfl) ?_ (fK (.bool true) fW (Below.refl _ _) (by rw [hT]; exact rfl))
      clear fK hE hF
      go_simp
    refine stepsAll_cons (k := 24) ?_ ?_
    · intro fa fx fW hF fB hE K fK
      have q23 : fx 23 = .bool true := by have q := hE ⟨23, .data⟩ (by simp) rfl; rw [hT] at q; exact q
      have ev46 : fa.tmps[46]?.getD undef = .bool true := (hF.ev 23 46 (by kernel_rfl)).trans q23
      refine wpOp_val rfl (wanted_none rfl) ?_ (fK (.bool true) fW (Below.refl _ _) (by rw [hT]; exact rfl))
      clear fK hE hF
      go_simp
    refine stepsAll_cons (k := 25) ?_ ?_
    · intro fa fx fW hF fB hE K fK
      have q24 : fx 24 = .bool true := by have q := hE ⟨24, .guard⟩ (by simp) rfl; rw [hT] at q; exact q
      have ev3 : fa.tmps[3]?.getD undef = .int .i64 p := hF.eo 3 (by kernel_rfl)
      refine wpOp_val rfl (wanted_yes rfl (hF.yes 24 47 (by kernel_rfl) true q24)) ?_ (fK (.int .i64 p) fW (Below.refl _ _) (by rw [hT]; exact rfl))
      clear fK hE hF
      go_simp
    refine stepsAll_cons (k := 26) ?_ ?_
    · intro fa fx fW hF fB hE K fK
      have q24 : fx 24 = .bool true := by have q := hE ⟨24, .guard⟩ (by simp) rfl; rw [hT] at q; exact q
      have ev5 : fa.tmps[5]?.getD undef = .int .i64 p := hF.eo 5 (by kernel_rfl)
      refine wpOp_val rfl (wanted_yes rfl (hF.yes 24 47 (by kernel_rfl) true q24)) ?_ (fK (.int .i64 p) fW (Below.refl _ _) (by rw [hT]; exact rfl))
      clear fK hE hF
      go_simp
    refine stepsAll_cons (k := 27) ?_ ?_
    · intro fa fx fW hF fB hE K fK
      have q24 : fx 24 = .bool true := by have q := hE ⟨24, .guard⟩ (by simp) rfl; rw [hT] at q; exact q
      have q25 : fx 25 = .int .i64 p := by have q := hE ⟨25, .data⟩ (by simp) rfl; rw [hT] at q; exact q
      have q26 : fx 26 = .int .i64 p := by have q := hE ⟨26, .data⟩ (by simp) rfl; rw [hT] at q; exact q
      have ev48 : fa.tmps[48]?.getD undef = .int .i64 p := (hF.ev 25 48 (by kernel_rfl)).trans q25
      have ev49 : fa.tmps[49]?.getD undef = .int .i64 p := (hF.ev 26 49 (by kernel_rfl)).trans q26
      refine wpOp_val rfl (wanted_yes rfl (hF.yes 24 47 (by kernel_rfl) true q24)) ?_ (fK (.bool true) fW (Below.refl _ _) (by rw [hT]; exact rfl))
      clear fK hE hF
      go_simp
    refine stepsAll_cons (k := 28) ?_ ?_
    · intro fa fx fW hF fB hE K fK
      have q24 : fx 24 = .bool true := by have q := hE ⟨24, .data⟩ (by simp) rfl; rw [hT] at q; exact q
      have q27 : fx 27 = .bool true := by have q := hE ⟨27, .data⟩ (by simp) rfl; rw [hT] at q; exact q
      have ev47 : fa.tmps[47]?.getD undef = .bool true := (hF.ev 24 47 (by kernel_rfl)).trans q24
      have ev50 : fa.tmps[50]?.getD undef = .bool true := (hF.ev 27 50 (by kernel_rfl)).trans q27
      refine wpOp_val rfl (wanted_none rfl) ?_ (fK (.bool true) fW (Below.refl _ _) (by rw [hT]; exact rfl))
      clear fK hE hF
      go_simp
    refine stepsAll_cons (k := 29) ?_ ?_
    · intro fa fx fW hF fB hE K fK
      have q28 : fx 28 = .bool true := by have q := hE ⟨28, .data⟩ (by simp) rfl; rw [hT] at q; exact q
      have ev51 : fa.tmps[51]?.getD undef = .bool true := (hF.ev 28 51 (by kernel_rfl)).trans q28
      refine wpOp_val rfl (wanted_none rfl) ?_ (fK (.bool true) fW (Below.refl _ _) (by rw [hT]; exact rfl))
      clear fK hE hF
      go_simp
    refine stepsAll_cons (k := 30) ?_ ?_
    · intro fa fx fW hF fB hE K fK
      have q29 : fx 29 = .bool true := by have q := hE ⟨29, .guard⟩ (by simp) rfl; rw [hT] at q; exact q
      have ev4 : fa.tmps[4]?.getD undef = .bool q := hF.eo 4 (by kernel_rfl)
      refine wpOp_val rfl (wanted_yes rfl (hF.yes 29 52 (by kernel_rfl) true q29)) ?_ (fK (.bool q) fW (Below.refl _ _) (by rw [hT]; exact rfl))
      clear fK hE hF
      go_simp
    refine stepsAll_cons (k := 31) ?_ ?_
    · intro fa fx fW hF fB hE K fK
      have q29 : fx 29 = .bool true := by have q := hE ⟨29, .guard⟩ (by simp) rfl; rw [hT] at q; exact q
      have ev6 : fa.tmps[6]?.getD undef = .bool q := hF.eo 6 (by kernel_rfl)
      refine wpOp_val rfl (wanted_yes rfl (hF.yes 29 52 (by kernel_rfl) true q29)) ?_ (fK (.bool q) fW (Below.refl _ _) (by rw [hT]; exact rfl))
      clear fK hE hF
      go_simp
    refine stepsAll_cons (k := 32) ?_ ?_
    · intro fa fx fW hF fB hE K fK
      have q29 : fx 29 = .bool true := by have q := hE ⟨29, .guard⟩ (by simp) rfl; rw [hT] at q; exact q
      have q30 : fx 30 = .bool q := by have q := hE ⟨30, .data⟩ (by simp) rfl; rw [hT] at q; exact q
      have q31 : fx 31 = .bool q := by have q := hE ⟨31, .data⟩ (by simp) rfl; rw [hT] at q; exact q
      have ev53 : fa.tmps[53]?.getD undef = .bool q := (hF.ev 30 53 (by kernel_rfl)).trans q30
      have ev54 : fa.tmps[54]?.getD undef = .bool q := (hF.ev 31 54 (by kernel_rfl)).trans q31
      refine wpOp_val rfl (wanted_yes rfl (hF.yes 29 52 (by kernel_rfl) true q29)) ?_ (fK (.bool true) fW (Below.refl _ _) (by rw [hT]; exact rfl))
      clear fK hE hF
      go_simp
    refine stepsAll_cons (k := 33) ?_ ?_
    · intro fa fx fW hF fB hE K fK
      have q29 : fx 29 = .bool true := by have q := hE ⟨29, .data⟩ (by simp) rfl; rw [hT] at q; exact q
      have q32 : fx 32 = .bool true := by have q := hE ⟨32, .data⟩ (by simp) rfl; rw [hT] at q; exact q
      have ev52 : fa.tmps[52]?.getD undef = .bool true := (hF.ev 29 52 (by kernel_rfl)).trans q29
      have ev55 : fa.tmps[55]?.getD undef = .bool true := (hF.ev 32 55 (by kernel_rfl)).trans q32
      refine wpOp_val rfl (wanted_none rfl) ?_ (fK (.bool true) fW (Below.refl _ _) (by rw [hT]; exact rfl))
      clear fK hE hF
      go_simp
    refine stepsAll_cons (k := 34) ?_ ?_
    · intro fa fx fW hF fB hE K fK
      have q33 : fx 33 = .bool true := by have q := hE ⟨33, .data⟩ (by simp) rfl; rw [hT] at q; exact q
      have ev56 : fa.tmps[56]?.getD undef = .bool true := (hF.ev 33 56 (by kernel_rfl)).trans q33
      refine wpOp_val rfl (wanted_none rfl) ?_ (fK (.bool true) fW (Below.refl _ _) (by rw [hT]; exact rfl))
      clear fK hE hF
      go_simp
    refine stepsAll_cons (k := 35) ?_ ?_
    · intro fa fx fW hF fB hE K fK
      have q34 : fx 34 = .bool true := by have q := hE ⟨34, .guard⟩ (by simp) rfl; rw [hT] at q; exact q
      have ev1 : fa.tmps[1]?.getD undef = .pointer (some ⟨b0, 0, none⟩) := hF.eo 1 (by kernel_rfl)
      refine wpOp_val rfl (wanted_yes rfl (hF.yes 34 57 (by kernel_rfl) true q34)) ?_ (fK (.pointer (some ⟨b0, 0, none⟩)) fW (Below.refl _ _) (by rw [hT]; exact rfl))
      clear fK hE hF
      go_simp
    refine stepsAll_cons (k := 36) ?_ ?_
    · intro fa fx fW hF fB hE K fK
      have q34 : fx 34 = .bool true := by have q := hE ⟨34, .guard⟩ (by simp) rfl; rw [hT] at q; exact q
      have q35 : fx 35 = .pointer (some ⟨b0, 0, none⟩) := by have q := hE ⟨35, .data⟩ (by simp) rfl; rw [hT] at q; exact q
      have ev58 : fa.tmps[58]?.getD undef = .pointer (some ⟨b0, 0, none⟩) := (hF.ev 35 58 (by kernel_rfl)).trans q35
      have z := cell_below fB c0
      refine wpOp_val rfl (wanted_yes rfl (hF.yes 34 57 (by kernel_rfl) true q34)) ?_ (fK (.int .i64 a) fW (Below.refl _ _) (by rw [hT]; exact rfl))
      clear fK hE hF
      go_simp
    refine stepsAll_cons (k := 37) ?_ ?_
    · intro fa fx fW hF fB hE K fK
      have q34 : fx 34 = .bool true := by have q := hE ⟨34, .guard⟩ (by simp) rfl; rw [hT] at q; exact q
      have ev1 : fa.tmps[1]?.getD undef = .pointer (some ⟨b0, 0, none⟩) := hF.eo 1 (by kernel_rfl)
      refine wpOp_val rfl (wanted_yes rfl (hF.yes 34 57 (by kernel_rfl) true q34)) ?_ (fK (.pointer (some ⟨b0, 1, none⟩)) fW (Below.refl _ _) (by rw [hT]; exact rfl))
      clear fK hE hF
      go_simp
    refine stepsAll_cons (k := 38) ?_ ?_
    · intro fa fx fW hF fB hE K fK
      have q34 : fx 34 = .bool true := by have q := hE ⟨34, .guard⟩ (by simp) rfl; rw [hT] at q; exact q
      have q37 : fx 37 = .pointer (some ⟨b0, 1, none⟩) := by have q := hE ⟨37, .data⟩ (by simp) rfl; rw [hT] at q; exact q
      have ev60 : fa.tmps[60]?.getD undef = .pointer (some ⟨b0, 1, none⟩) := (hF.ev 37 60 (by kernel_rfl)).trans q37
      have z := cell_below fB c1
      refine wpOp_val rfl (wanted_yes rfl (hF.yes 34 57 (by kernel_rfl) true q34)) ?_ (fK (.int .i64 b) fW (Below.refl _ _) (by rw [hT]; exact rfl))
      clear fK hE hF
      go_simp
    refine stepsAll_cons (k := 39) ?_ ?_
    · intro fa fx fW hF fB hE K fK
      have q34 : fx 34 = .bool true := by have q := hE ⟨34, .guard⟩ (by simp) rfl; rw [hT] at q; exact q
      have ev1 : fa.tmps[1]?.getD undef = .pointer (some ⟨b0, 0, none⟩) := hF.eo 1 (by kernel_rfl)
      refine wpOp_val rfl (wanted_yes rfl (hF.yes 34 57 (by kernel_rfl) true q34)) ?_ (fK (.pointer (some ⟨b0, 2, none⟩)) fW (Below.refl _ _) (by rw [hT]; exact rfl))
      clear fK hE hF
      go_simp
    refine stepsAll_cons (k := 40) ?_ ?_
    · intro fa fx fW hF fB hE K fK
      have q34 : fx 34 = .bool true := by have q := hE ⟨34, .guard⟩ (by simp) rfl; rw [hT] at q; exact q
      have q39 : fx 39 = .pointer (some ⟨b0, 2, none⟩) := by have q := hE ⟨39, .data⟩ (by simp) rfl; rw [hT] at q; exact q
      have ev62 : fa.tmps[62]?.getD undef = .pointer (some ⟨b0, 2, none⟩) := (hF.ev 39 62 (by kernel_rfl)).trans q39
      have z := cell_below fB c2
      refine wpOp_val rfl (wanted_yes rfl (hF.yes 34 57 (by kernel_rfl) true q34)) ?_ (fK (.int .i64 c) fW (Below.refl _ _) (by rw [hT]; exact rfl))
      clear fK hE hF
      go_simp
    refine stepsAll_cons (k := 41) ?_ ?_
    · intro fa fx fW hF fB hE K fK
      have q34 : fx 34 = .bool true := by have q := hE ⟨34, .guard⟩ (by simp) rfl; rw [hT] at q; exact q
      have ev1 : fa.tmps[1]?.getD undef = .pointer (some ⟨b0, 0, none⟩) := hF.eo 1 (by kernel_rfl)
      refine wpOp_val rfl (wanted_yes rfl (hF.yes 34 57 (by kernel_rfl) true q34)) ?_ (fK (.pointer (some ⟨b0, 3, none⟩)) fW (Below.refl _ _) (by rw [hT]; exact rfl))
      clear fK hE hF
      go_simp
    refine stepsAll_cons (k := 42) ?_ ?_
    · intro fa fx fW hF fB hE K fK
      have q34 : fx 34 = .bool true := by have q := hE ⟨34, .guard⟩ (by simp) rfl; rw [hT] at q; exact q
      have q41 : fx 41 = .pointer (some ⟨b0, 3, none⟩) := by have q := hE ⟨41, .data⟩ (by simp) rfl; rw [hT] at q; exact q
      have ev64 : fa.tmps[64]?.getD undef = .pointer (some ⟨b0, 3, none⟩) := (hF.ev 41 64 (by kernel_rfl)).trans q41
      have z := cell_below fB c3
      refine wpOp_val rfl (wanted_yes rfl (hF.yes 34 57 (by kernel_rfl) true q34)) ?_ (fK (.int .i64 d) fW (Below.refl _ _) (by rw [hT]; exact rfl))
      clear fK hE hF
      go_simp
    refine stepsAll_cons (k := 43) ?_ ?_
    · intro fa fx fW hF fB hE K fK
      have q34 : fx 34 = .bool true := by have q := hE ⟨34, .chain⟩ (by simp) rfl; rw [hT] at q; exact q
      have q36 : fx 36 = .int .i64 a := by have q := hE ⟨36, .data⟩ (by simp) rfl; rw [hT] at q; exact q
      have q38 : fx 38 = .int .i64 b := by have q := hE ⟨38, .data⟩ (by simp) rfl; rw [hT] at q; exact q
      have q40 : fx 40 = .int .i64 c := by have q := hE ⟨40, .data⟩ (by simp) rfl; rw [hT] at q; exact q
      have q42 : fx 42 = .int .i64 d := by have q := hE ⟨42, .data⟩ (by simp) rfl; rw [hT] at q; exact q
      have ev59 : fa.tmps[59]?.getD undef = .int .i64 a := (hF.ev 36 59 (by kernel_rfl)).trans q36
      have ev61 : fa.tmps[61]?.getD undef = .int .i64 b := (hF.ev 38 61 (by kernel_rfl)).trans q38
      have ev63 : fa.tmps[63]?.getD undef = .int .i64 c := (hF.ev 40 63 (by kernel_rfl)).trans q40
      have ev65 : fa.tmps[65]?.getD undef = .int .i64 d := (hF.ev 42 65 (by kernel_rfl)).trans q42
      refine wpOp_call rfl (wanted_yes rfl (hF.yes 34 57 (by kernel_rfl) true q34)) (by go_simp; exact ⟨rfl, rfl⟩) ?_
      refine (H7.out fW).mono ?_
      rintro e' w' ⟨rfl, rfl⟩
      exact ⟨_, rfl, fK (.bool r3) (fW) (Below.refl _ _) (by rw [hT]; exact rfl)⟩
    refine stepsAll_cons (k := 44) ?_ ?_
    · intro fa fx fW hF fB hE K fK
      have q34 : fx 34 = .bool true := by have q := hE ⟨34, .guard⟩ (by simp) rfl; rw [hT] at q; exact q
      have ev1 : fa.tmps[1]?.getD undef = .pointer (some ⟨b0, 0, none⟩) := hF.eo 1 (by kernel_rfl)
      refine wpOp_val rfl (wanted_yes rfl (hF.yes 34 57 (by kernel_rfl) true q34)) ?_ (fK (.pointer (some ⟨b0, 0, none⟩)) fW (Below.refl _ _) (by rw [hT]; exact rfl))
      clear fK hE hF
      go_simp
    refine stepsAll_cons (k := 45) ?_ ?_
    · intro fa fx fW hF fB hE K fK
      have q34 : fx 34 = .bool true := by have q := hE ⟨34, .guard⟩ (by simp) rfl; rw [hT] at q; exact q
      have q44 : fx 44 = .pointer (some ⟨b0, 0, none⟩) := by have q := hE ⟨44, .data⟩ (by simp) rfl; rw [hT] at q; exact q
      have ev67 : fa.tmps[67]?.getD undef = .pointer (some ⟨b0, 0, none⟩) := (hF.ev 44 67 (by kernel_rfl)).trans q44
      have z := cell_below fB c0
      refine wpOp_val rfl (wanted_yes rfl (hF.yes 34 57 (by kernel_rfl) true q34)) ?_ (fK (.int .i64 a) fW (Below.refl _ _) (by rw [hT]; exact rfl))
      clear fK hE hF
      go_simp
    refine stepsAll_cons (k := 46) ?_ ?_
    · intro fa fx fW hF fB hE K fK
      have q34 : fx 34 = .bool true := by have q := hE ⟨34, .guard⟩ (by simp) rfl; rw [hT] at q; exact q
      have ev1 : fa.tmps[1]?.getD undef = .pointer (some ⟨b0, 0, none⟩) := hF.eo 1 (by kernel_rfl)
      refine wpOp_val rfl (wanted_yes rfl (hF.yes 34 57 (by kernel_rfl) true q34)) ?_ (fK (.pointer (some ⟨b0, 1, none⟩)) fW (Below.refl _ _) (by rw [hT]; exact rfl))
      clear fK hE hF
      go_simp
    refine stepsAll_cons (k := 47) ?_ ?_
    · intro fa fx fW hF fB hE K fK
      have q34 : fx 34 = .bool true := by have q := hE ⟨34, .guard⟩ (by simp) rfl; rw [hT] at q; exact q
      have q46 : fx 46 = .pointer (some ⟨b0, 1, none⟩) := by have q := hE ⟨46, .data⟩ (by simp) rfl; rw [hT] at q; exact q
      have ev69 : fa.tmps[69]?.getD undef = .pointer (some ⟨b0, 1, none⟩) := (hF.ev 46 69 (by kernel_rfl)).trans q46
      have z := cell_below fB c1
      refine wpOp_val rfl (wanted_yes rfl (hF.yes 34 57 (by kernel_rfl) true q34)) ?_ (fK (.int .i64 b) fW (Below.refl _ _) (by rw [hT]; exact rfl))
      clear fK hE hF
      go_simp
    refine stepsAll_cons (k := 48) ?_ ?_
    · intro fa fx fW hF fB hE K fK
      have q34 : fx 34 = .bool true := by have q := hE ⟨34, .guard⟩ (by simp) rfl; rw [hT] at q; exact q
      have ev1 : fa.tmps[1]?.getD undef = .pointer (some ⟨b0, 0, none⟩) := hF.eo 1 (by kernel_rfl)
      refine wpOp_val rfl (wanted_yes rfl (hF.yes 34 57 (by kernel_rfl) true q34)) ?_ (fK (.pointer (some ⟨b0, 2, none⟩)) fW (Below.refl _ _) (by rw [hT]; exact rfl))
      clear fK hE hF
      go_simp
    refine stepsAll_cons (k := 49) ?_ ?_
    · intro fa fx fW hF fB hE K fK
      have q34 : fx 34 = .bool true := by have q := hE ⟨34, .guard⟩ (by simp) rfl; rw [hT] at q; exact q
      have q48 : fx 48 = .pointer (some ⟨b0, 2, none⟩) := by have q := hE ⟨48, .data⟩ (by simp) rfl; rw [hT] at q; exact q
      have ev71 : fa.tmps[71]?.getD undef = .pointer (some ⟨b0, 2, none⟩) := (hF.ev 48 71 (by kernel_rfl)).trans q48
      have z := cell_below fB c2
      refine wpOp_val rfl (wanted_yes rfl (hF.yes 34 57 (by kernel_rfl) true q34)) ?_ (fK (.int .i64 c) fW (Below.refl _ _) (by rw [hT]; exact rfl))
      clear fK hE hF
      go_simp
    refine stepsAll_cons (k := 50) ?_ ?_
    · intro fa fx fW hF fB hE K fK
      have q34 : fx 34 = .bool true := by have q := hE ⟨34, .guard⟩ (by simp) rfl; rw [hT] at q; exact q
      have ev1 : fa.tmps[1]?.getD undef = .pointer (some ⟨b0, 0, none⟩) := hF.eo 1 (by kernel_rfl)
      refine wpOp_val rfl (wanted_yes rfl (hF.yes 34 57 (by kernel_rfl) true q34)) ?_ (fK (.pointer (some ⟨b0, 3, none⟩)) fW (Below.refl _ _) (by rw [hT]; exact rfl))
      clear fK hE hF
      go_simp
    refine stepsAll_cons (k := 51) ?_ ?_
    · intro fa fx fW hF fB hE K fK
      have q34 : fx 34 = .bool true := by have q := hE ⟨34, .guard⟩ (by simp) rfl; rw [hT] at q; exact q
      have q50 : fx 50 = .pointer (some ⟨b0, 3, none⟩) := by have q := hE ⟨50, .data⟩ (by simp) rfl; rw [hT] at q; exact q
      have ev73 : fa.tmps[73]?.getD undef = .pointer (some ⟨b0, 3, none⟩) := (hF.ev 50 73 (by kernel_rfl)).trans q50
      have z := cell_below fB c3
      refine wpOp_val rfl (wanted_yes rfl (hF.yes 34 57 (by kernel_rfl) true q34)) ?_ (fK (.int .i64 d) fW (Below.refl _ _) (by rw [hT]; exact rfl))
      clear fK hE hF
      go_simp
    refine stepsAll_cons (k := 52) ?_ ?_
    · intro fa fx fW hF fB hE K fK
      have q34 : fx 34 = .bool true := by have q := hE ⟨34, .guard⟩ (by simp) rfl; rw [hT] at q; exact q
      have q45 : fx 45 = .int .i64 a := by have q := hE ⟨45, .data⟩ (by simp) rfl; rw [hT] at q; exact q
      have q47 : fx 47 = .int .i64 b := by have q := hE ⟨47, .data⟩ (by simp) rfl; rw [hT] at q; exact q
      have q49 : fx 49 = .int .i64 c := by have q := hE ⟨49, .data⟩ (by simp) rfl; rw [hT] at q; exact q
      have q51 : fx 51 = .int .i64 d := by have q := hE ⟨51, .data⟩ (by simp) rfl; rw [hT] at q; exact q
      have ev68 : fa.tmps[68]?.getD undef = .int .i64 a := (hF.ev 45 68 (by kernel_rfl)).trans q45
      have ev70 : fa.tmps[70]?.getD undef = .int .i64 b := (hF.ev 47 70 (by kernel_rfl)).trans q47
      have ev72 : fa.tmps[72]?.getD undef = .int .i64 c := (hF.ev 49 72 (by kernel_rfl)).trans q49
      have ev74 : fa.tmps[74]?.getD undef = .int .i64 d := (hF.ev 51 74 (by kernel_rfl)).trans q51
      refine wpOp_call rfl (wanted_yes rfl (hF.yes 34 57 (by kernel_rfl) true q34)) (by go_simp; exact ⟨rfl, rfl⟩) ?_
      refine (H8.out fW).mono ?_
      rintro e' w' ⟨rfl, rfl⟩
      exact ⟨_, rfl, fK (.bool r3) (fW) (Below.refl _ _) (by rw [hT]; exact rfl)⟩
    refine stepsAll_cons (k := 53) ?_ ?_
    · intro fa fx fW hF fB hE K fK
      have q34 : fx 34 = .bool true := by have q := hE ⟨34, .guard⟩ (by simp) rfl; rw [hT] at q; exact q
      have q43 : fx 43 = .bool r3 := by have q := hE ⟨43, .data⟩ (by simp) rfl; rw [hT] at q; exact q
      have q52 : fx 52 = .bool r3 := by have q := hE ⟨52, .data⟩ (by simp) rfl; rw [hT] at q; exact q
      have ev66 : fa.tmps[66]?.getD undef = .bool r3 := (hF.ev 43 66 (by kernel_rfl)).trans q43
      have ev75 : fa.tmps[75]?.getD undef = .bool r3 := (hF.ev 52 75 (by kernel_rfl)).trans q52
      refine wpOp_val rfl (wanted_yes rfl (hF.yes 34 57 (by kernel_rfl) true q34)) ?_ (fK (.bool true) fW (Below.refl _ _) (by rw [hT]; exact rfl))
      clear fK hE hF
      go_simp
    refine stepsAll_cons (k := 54) ?_ ?_
    · intro fa fx fW hF fB hE K fK
      have q34 : fx 34 = .bool true := by have q := hE ⟨34, .data⟩ (by simp) rfl; rw [hT] at q; exact q
      have q53 : fx 53 = .bool true := by have q := hE ⟨53, .data⟩ (by simp) rfl; rw [hT] at q; exact q
      have ev57 : fa.tmps[57]?.getD undef = .bool true := (hF.ev 34 57 (by kernel_rfl)).trans q34
      have ev76 : fa.tmps[76]?.getD undef = .bool true := (hF.ev 53 76 (by kernel_rfl)).trans q53
      refine wpOp_val rfl (wanted_none rfl) ?_ (fK (.bool true) fW (Below.refl _ _) (by rw [hT]; exact rfl))
      clear fK hE hF
      go_simp
    refine stepsAll_cons (k := 55) ?_ ?_
    · intro fa fx fW hF fB hE K fK
      have q54 : fx 54 = .bool true := by have q := hE ⟨54, .data⟩ (by simp) rfl; rw [hT] at q; exact q
      have ev77 : fa.tmps[77]?.getD undef = .bool true := (hF.ev 54 77 (by kernel_rfl)).trans q54
      refine wpOp_val rfl (wanted_none rfl) ?_ (fK (.bool true) fW (Below.refl _ _) (by rw [hT]; exact rfl))
      clear fK hE hF
      go_simp
    refine stepsAll_cons (k := 56) ?_ ?_
    · intro fa fx fW hF fB hE K fK
      have q55 : fx 55 = .bool true := by have q := hE ⟨55, .guard⟩ (by simp) rfl; rw [hT] at q; exact q
      have ev1 : fa.tmps[1]?.getD undef = .pointer (some ⟨b0, 0, none⟩) := hF.eo 1 (by kernel_rfl)
      refine wpOp_val rfl (wanted_yes rfl (hF.yes 55 78 (by kernel_rfl) true q55)) ?_ (fK (.pointer (some ⟨b0, 0, none⟩)) fW (Below.refl _ _) (by rw [hT]; exact rfl))
      clear fK hE hF
      go_simp
    refine stepsAll_cons (k := 57) ?_ ?_
    · intro fa fx fW hF fB hE K fK
      have q55 : fx 55 = .bool true := by have q := hE ⟨55, .guard⟩ (by simp) rfl; rw [hT] at q; exact q
      have q56 : fx 56 = .pointer (some ⟨b0, 0, none⟩) := by have q := hE ⟨56, .data⟩ (by simp) rfl; rw [hT] at q; exact q
      have ev79 : fa.tmps[79]?.getD undef = .pointer (some ⟨b0, 0, none⟩) := (hF.ev 56 79 (by kernel_rfl)).trans q56
      have z := cell_below fB c0
      refine wpOp_val rfl (wanted_yes rfl (hF.yes 55 78 (by kernel_rfl) true q55)) ?_ (fK (.int .i64 a) fW (Below.refl _ _) (by rw [hT]; exact rfl))
      clear fK hE hF
      go_simp
    refine stepsAll_cons (k := 58) ?_ ?_
    · intro fa fx fW hF fB hE K fK
      have q55 : fx 55 = .bool true := by have q := hE ⟨55, .guard⟩ (by simp) rfl; rw [hT] at q; exact q
      have ev1 : fa.tmps[1]?.getD undef = .pointer (some ⟨b0, 0, none⟩) := hF.eo 1 (by kernel_rfl)
      refine wpOp_val rfl (wanted_yes rfl (hF.yes 55 78 (by kernel_rfl) true q55)) ?_ (fK (.pointer (some ⟨b0, 1, none⟩)) fW (Below.refl _ _) (by rw [hT]; exact rfl))
      clear fK hE hF
      go_simp
    refine stepsAll_cons (k := 59) ?_ ?_
    · intro fa fx fW hF fB hE K fK
      have q55 : fx 55 = .bool true := by have q := hE ⟨55, .guard⟩ (by simp) rfl; rw [hT] at q; exact q
      have q58 : fx 58 = .pointer (some ⟨b0, 1, none⟩) := by have q := hE ⟨58, .data⟩ (by simp) rfl; rw [hT] at q; exact q
      have ev81 : fa.tmps[81]?.getD undef = .pointer (some ⟨b0, 1, none⟩) := (hF.ev 58 81 (by kernel_rfl)).trans q58
      have z := cell_below fB c1
      refine wpOp_val rfl (wanted_yes rfl (hF.yes 55 78 (by kernel_rfl) true q55)) ?_ (fK (.int .i64 b) fW (Below.refl _ _) (by rw [hT]; exact rfl))
      clear fK hE hF
      go_simp
    refine stepsAll_cons (k := 60) ?_ ?_
    · intro fa fx fW hF fB hE K fK
      have q55 : fx 55 = .bool true := by have q := hE ⟨55, .guard⟩ (by simp) rfl; rw [hT] at q; exact q
      have ev1 : fa.tmps[1]?.getD undef = .pointer (some ⟨b0, 0, none⟩) := hF.eo 1 (by kernel_rfl)
      refine wpOp_val rfl (wanted_yes rfl (hF.yes 55 78 (by kernel_rfl) true q55)) ?_ (fK (.pointer (some ⟨b0, 2, none⟩)) fW (Below.refl _ _) (by rw [hT]; exact rfl))
      clear fK hE hF
      go_simp
    refine stepsAll_cons (k := 61) ?_ ?_
    · intro fa fx fW hF fB hE K fK
      have q55 : fx 55 = .bool true := by have q := hE ⟨55, .guard⟩ (by simp) rfl; rw [hT] at q; exact q
      have q60 : fx 60 = .pointer (some ⟨b0, 2, none⟩) := by have q := hE ⟨60, .data⟩ (by simp) rfl; rw [hT] at q; exact q
      have ev83 : fa.tmps[83]?.getD undef = .pointer (some ⟨b0, 2, none⟩) := (hF.ev 60 83 (by kernel_rfl)).trans q60
      have z := cell_below fB c2
      refine wpOp_val rfl (wanted_yes rfl (hF.yes 55 78 (by kernel_rfl) true q55)) ?_ (fK (.int .i64 c) fW (Below.refl _ _) (by rw [hT]; exact rfl))
      clear fK hE hF
      go_simp
    refine stepsAll_cons (k := 62) ?_ ?_
    · intro fa fx fW hF fB hE K fK
      have q55 : fx 55 = .bool true := by have q := hE ⟨55, .guard⟩ (by simp) rfl; rw [hT] at q; exact q
      have ev1 : fa.tmps[1]?.getD undef = .pointer (some ⟨b0, 0, none⟩) := hF.eo 1 (by kernel_rfl)
      refine wpOp_val rfl (wanted_yes rfl (hF.yes 55 78 (by kernel_rfl) true q55)) ?_ (fK (.pointer (some ⟨b0, 3, none⟩)) fW (Below.refl _ _) (by rw [hT]; exact rfl))
      clear fK hE hF
      go_simp
    refine stepsAll_cons (k := 63) ?_ ?_
    · intro fa fx fW hF fB hE K fK
      have q55 : fx 55 = .bool true := by have q := hE ⟨55, .guard⟩ (by simp) rfl; rw [hT] at q; exact q
      have q62 : fx 62 = .pointer (some ⟨b0, 3, none⟩) := by have q := hE ⟨62, .data⟩ (by simp) rfl; rw [hT] at q; exact q
      have ev85 : fa.tmps[85]?.getD undef = .pointer (some ⟨b0, 3, none⟩) := (hF.ev 62 85 (by kernel_rfl)).trans q62
      have z := cell_below fB c3
      refine wpOp_val rfl (wanted_yes rfl (hF.yes 55 78 (by kernel_rfl) true q55)) ?_ (fK (.int .i64 d) fW (Below.refl _ _) (by rw [hT]; exact rfl))
      clear fK hE hF
      go_simp
    refine stepsAll_cons (k := 64) ?_ ?_
    · intro fa fx fW hF fB hE K fK
      have q55 : fx 55 = .bool true := by have q := hE ⟨55, .guard⟩ (by simp) rfl; rw [hT] at q; exact q
      have ev1 : fa.tmps[1]?.getD undef = .pointer (some ⟨b0, 0, none⟩) := hF.eo 1 (by kernel_rfl)
      refine wpOp_val rfl (wanted_yes rfl (hF.yes 55 78 (by kernel_rfl) true q55)) ?_ (fK (.pointer (some ⟨b0, 4, none⟩)) fW (Below.refl _ _) (by rw [hT]; exact rfl))
      clear fK hE hF
      go_simp
    refine stepsAll_cons (k := 65) ?_ ?_
    · intro fa fx fW hF fB hE K fK
      have q55 : fx 55 = .bool true := by have q := hE ⟨55, .guard⟩ (by simp) rfl; rw [hT] at q; exact q
      have q64 : fx 64 = .pointer (some ⟨b0, 4, none⟩) := by have q := hE ⟨64, .data⟩ (by simp) rfl; rw [hT] at q; exact q
      have ev87 : fa.tmps[87]?.getD undef = .pointer (some ⟨b0, 4, none⟩) := (hF.ev 64 87 (by kernel_rfl)).trans q64
      have z := cell_below fB c4
      refine wpOp_val rfl (wanted_yes rfl (hF.yes 55 78 (by kernel_rfl) true q55)) ?_ (fK (.int .i64 e) fW (Below.refl _ _) (by rw [hT]; exact rfl))
      clear fK hE hF
      go_simp
    refine stepsAll_cons (k := 66) ?_ ?_
    · intro fa fx fW hF fB hE K fK
      have q55 : fx 55 = .bool true := by have q := hE ⟨55, .chain⟩ (by simp) rfl; rw [hT] at q; exact q
      have q57 : fx 57 = .int .i64 a := by have q := hE ⟨57, .data⟩ (by simp) rfl; rw [hT] at q; exact q
      have q59 : fx 59 = .int .i64 b := by have q := hE ⟨59, .data⟩ (by simp) rfl; rw [hT] at q; exact q
      have q61 : fx 61 = .int .i64 c := by have q := hE ⟨61, .data⟩ (by simp) rfl; rw [hT] at q; exact q
      have q63 : fx 63 = .int .i64 d := by have q := hE ⟨63, .data⟩ (by simp) rfl; rw [hT] at q; exact q
      have q65 : fx 65 = .int .i64 e := by have q := hE ⟨65, .data⟩ (by simp) rfl; rw [hT] at q; exact q
      have ev80 : fa.tmps[80]?.getD undef = .int .i64 a := (hF.ev 57 80 (by kernel_rfl)).trans q57
      have ev82 : fa.tmps[82]?.getD undef = .int .i64 b := (hF.ev 59 82 (by kernel_rfl)).trans q59
      have ev84 : fa.tmps[84]?.getD undef = .int .i64 c := (hF.ev 61 84 (by kernel_rfl)).trans q61
      have ev86 : fa.tmps[86]?.getD undef = .int .i64 d := (hF.ev 63 86 (by kernel_rfl)).trans q63
      have ev88 : fa.tmps[88]?.getD undef = .int .i64 e := (hF.ev 65 88 (by kernel_rfl)).trans q65
      refine wpOp_call rfl (wanted_yes rfl (hF.yes 55 78 (by kernel_rfl) true q55)) (by go_simp; exact ⟨rfl, rfl⟩) ?_
      refine (H9.out fW).mono ?_
      rintro e' w' ⟨rfl, hbb⟩
      exact ⟨_, rfl, fK (.bool r4) (w') (hbb) (by rw [hT]; exact rfl)⟩
    refine stepsAll_cons (k := 67) ?_ ?_
    · intro fa fx fW hF fB hE K fK
      have q55 : fx 55 = .bool true := by have q := hE ⟨55, .guard⟩ (by simp) rfl; rw [hT] at q; exact q
      have ev1 : fa.tmps[1]?.getD undef = .pointer (some ⟨b0, 0, none⟩) := hF.eo 1 (by kernel_rfl)
      refine wpOp_val rfl (wanted_yes rfl (hF.yes 55 78 (by kernel_rfl) true q55)) ?_ (fK (.pointer (some ⟨b0, 0, none⟩)) fW (Below.refl _ _) (by rw [hT]; exact rfl))
      clear fK hE hF
      go_simp
    refine stepsAll_cons (k := 68) ?_ ?_
    · intro fa fx fW hF fB hE K fK
      have q55 : fx 55 = .bool true := by have q := hE ⟨55, .guard⟩ (by simp) rfl; rw [hT] at q; exact q
      have q67 : fx 67 = .pointer (some ⟨b0, 0, none⟩) := by have q := hE ⟨67, .data⟩ (by simp) rfl; rw [hT] at q; exact q
      have ev90 : fa.tmps[90]?.getD undef = .pointer (some ⟨b0, 0, none⟩) := (hF.ev 67 90 (by kernel_rfl)).trans q67
      have z := cell_below fB c0
      refine wpOp_val rfl (wanted_yes rfl (hF.yes 55 78 (by kernel_rfl) true q55)) ?_ (fK (.int .i64 a) fW (Below.refl _ _) (by rw [hT]; exact rfl))
      clear fK hE hF
      go_simp
    refine stepsAll_cons (k := 69) ?_ ?_
    · intro fa fx fW hF fB hE K fK
      have q55 : fx 55 = .bool true := by have q := hE ⟨55, .guard⟩ (by simp) rfl; rw [hT] at q; exact q
      have ev1 : fa.tmps[1]?.getD undef = .pointer (some ⟨b0, 0, none⟩) := hF.eo 1 (by kernel_rfl)
      refine wpOp_val rfl (wanted_yes rfl (hF.yes 55 78 (by kernel_rfl) true q55)) ?_ (fK (.pointer (some ⟨b0, 1, none⟩)) fW (Below.refl _ _) (by rw [hT]; exact rfl))
      clear fK hE hF
      go_simp
    refine stepsAll_cons (k := 70) ?_ ?_
    · intro fa fx fW hF fB hE K fK
      have q55 : fx 55 = .bool true := by have q := hE ⟨55, .guard⟩ (by simp) rfl; rw [hT] at q; exact q
      have q69 : fx 69 = .pointer (some ⟨b0, 1, none⟩) := by have q := hE ⟨69, .data⟩ (by simp) rfl; rw [hT] at q; exact q
      have ev92 : fa.tmps[92]?.getD undef = .pointer (some ⟨b0, 1, none⟩) := (hF.ev 69 92 (by kernel_rfl)).trans q69
      have z := cell_below fB c1
      refine wpOp_val rfl (wanted_yes rfl (hF.yes 55 78 (by kernel_rfl) true q55)) ?_ (fK (.int .i64 b) fW (Below.refl _ _) (by rw [hT]; exact rfl))
      clear fK hE hF
      go_simp
    refine stepsAll_cons (k := 71) ?_ ?_
    · intro fa fx fW hF fB hE K fK
      have q55 : fx 55 = .bool true := by have q := hE ⟨55, .guard⟩ (by simp) rfl; rw [hT] at q; exact q
      have ev1 : fa.tmps[1]?.getD undef = .pointer (some ⟨b0, 0, none⟩) := hF.eo 1 (by kernel_rfl)
      refine wpOp_val rfl (wanted_yes rfl (hF.yes 55 78 (by kernel_rfl) true q55)) ?_ (fK (.pointer (some ⟨b0, 2, none⟩)) fW (Below.refl _ _) (by rw [hT]; exact rfl))
      clear fK hE hF
      go_simp
    refine stepsAll_cons (k := 72) ?_ ?_
    · intro fa fx fW hF fB hE K fK
      have q55 : fx 55 = .bool true := by have q := hE ⟨55, .guard⟩ (by simp) rfl; rw [hT] at q; exact q
      have q71 : fx 71 = .pointer (some ⟨b0, 2, none⟩) := by have q := hE ⟨71, .data⟩ (by simp) rfl; rw [hT] at q; exact q
      have ev94 : fa.tmps[94]?.getD undef = .pointer (some ⟨b0, 2, none⟩) := (hF.ev 71 94 (by kernel_rfl)).trans q71
      have z := cell_below fB c2
      refine wpOp_val rfl (wanted_yes rfl (hF.yes 55 78 (by kernel_rfl) true q55)) ?_ (fK (.int .i64 c) fW (Below.refl _ _) (by rw [hT]; exact rfl))
      clear fK hE hF
      go_simp
    refine stepsAll_cons (k := 73) ?_ ?_
    · intro fa fx fW hF fB hE K fK
      have q55 : fx 55 = .bool true := by have q := hE ⟨55, .guard⟩ (by simp) rfl; rw [hT] at q; exact q
      have ev1 : fa.tmps[1]?.getD undef = .pointer (some ⟨b0, 0, none⟩) := hF.eo 1 (by kernel_rfl)
      refine wpOp_val rfl (wanted_yes rfl (hF.yes 55 78 (by kernel_rfl) true q55)) ?_ (fK (.pointer (some ⟨b0, 3, none⟩)) fW (Below.refl _ _) (by rw [hT]; exact rfl))
      clear fK hE hF
      go_simp
    refine stepsAll_cons (k := 74) ?_ ?_
    · intro fa fx fW hF fB hE K fK
      have q55 : fx 55 = .bool true := by have q := hE ⟨55, .guard⟩ (by simp) rfl; rw [hT] at q; exact q
      have q73 : fx 73 = .pointer (some ⟨b0, 3, none⟩) := by have q := hE ⟨73, .data⟩ (by simp) rfl; rw [hT] at q; exact q
      have ev96 : fa.tmps[96]?.getD undef = .pointer (some ⟨b0, 3, none⟩) := (hF.ev 73 96 (by kernel_rfl)).trans q73
      have z := cell_below fB c3
      refine wpOp_val rfl (wanted_yes rfl (hF.yes 55 78 (by kernel_rfl) true q55)) ?_ (fK (.int .i64 d) fW (Below.refl _ _) (by rw [hT]; exact rfl))
      clear fK hE hF
      go_simp
    refine stepsAll_cons (k := 75) ?_ ?_
    · intro fa fx fW hF fB hE K fK
      have q55 : fx 55 = .bool true := by have q := hE ⟨55, .guard⟩ (by simp) rfl; rw [hT] at q; exact q
      have ev1 : fa.tmps[1]?.getD undef = .pointer (some ⟨b0, 0, none⟩) := hF.eo 1 (by kernel_rfl)
      refine wpOp_val rfl (wanted_yes rfl (hF.yes 55 78 (by kernel_rfl) true q55)) ?_ (fK (.pointer (some ⟨b0, 4, none⟩)) fW (Below.refl _ _) (by rw [hT]; exact rfl))
      clear fK hE hF
      go_simp
    refine stepsAll_cons (k := 76) ?_ ?_
    · intro fa fx fW hF fB hE K fK
      have q55 : fx 55 = .bool true := by have q := hE ⟨55, .guard⟩ (by simp) rfl; rw [hT] at q; exact q
      have q75 : fx 75 = .pointer (some ⟨b0, 4, none⟩) := by have q := hE ⟨75, .data⟩ (by simp) rfl; rw [hT] at q; exact q
      have ev98 : fa.tmps[98]?.getD undef = .pointer (some ⟨b0, 4, none⟩) := (hF.ev 75 98 (by kernel_rfl)).trans q75
      have z := cell_below fB c4
      refine wpOp_val rfl (wanted_yes rfl (hF.yes 55 78 (by kernel_rfl) true q55)) ?_ (fK (.int .i64 e) fW (Below.refl _ _) (by rw [hT]; exact rfl))
      clear fK hE hF
      go_simp
    refine stepsAll_cons (k := 77) ?_ ?_
    · intro fa fx fW hF fB hE K fK
      have q55 : fx 55 = .bool true := by have q := hE ⟨55, .guard⟩ (by simp) rfl; rw [hT] at q; exact q
      have q68 : fx 68 = .int .i64 a := by have q := hE ⟨68, .data⟩ (by simp) rfl; rw [hT] at q; exact q
      have q70 : fx 70 = .int .i64 b := by have q := hE ⟨70, .data⟩ (by simp) rfl; rw [hT] at q; exact q
      have q72 : fx 72 = .int .i64 c := by have q := hE ⟨72, .data⟩ (by simp) rfl; rw [hT] at q; exact q
      have q74 : fx 74 = .int .i64 d := by have q := hE ⟨74, .data⟩ (by simp) rfl; rw [hT] at q; exact q
      have q76 : fx 76 = .int .i64 e := by have q := hE ⟨76, .data⟩ (by simp) rfl; rw [hT] at q; exact q
      have ev91 : fa.tmps[91]?.getD undef = .int .i64 a := (hF.ev 68 91 (by kernel_rfl)).trans q68
      have ev93 : fa.tmps[93]?.getD undef = .int .i64 b := (hF.ev 70 93 (by kernel_rfl)).trans q70
      have ev95 : fa.tmps[95]?.getD undef = .int .i64 c := (hF.ev 72 95 (by kernel_rfl)).trans q72
      have ev97 : fa.tmps[97]?.getD undef = .int .i64 d := (hF.ev 74 97 (by kernel_rfl)).trans q74
      have ev99 : fa.tmps[99]?.getD undef = .int .i64 e := (hF.ev 76 99 (by kernel_rfl)).trans q76
      refine wpOp_call rfl (wanted_yes rfl (hF.yes 55 78 (by kernel_rfl) true q55)) (by go_simp; exact ⟨rfl, rfl⟩) ?_
      refine (H10.out fW).mono ?_
      rintro e' w' ⟨rfl, hbb⟩
      exact ⟨_, rfl, fK (.bool r4) (w') (hbb) (by rw [hT]; exact rfl)⟩
    refine stepsAll_cons (k := 78) ?_ ?_
    · intro fa fx fW hF fB hE K fK
      have q55 : fx 55 = .bool true := by have q := hE ⟨55, .guard⟩ (by simp) rfl; rw [hT] at q; exact q
      have q66 : fx 66 = .bool r4 := by have q := hE ⟨66, .data⟩ (by simp) rfl; rw [hT] at q; exact q
      have q77 : fx 77 = .bool r4 := by have q := hE ⟨77, .data⟩ (by simp) rfl; rw [hT] at q; exact q
      have ev89 : fa.tmps[89]?.getD undef = .bool r4 := (hF.ev 66 89 (by kernel_rfl)).trans q66
      have ev100 : fa.tmps[100]?.getD undef = .bool r4 := (hF.ev 77 100 (by kernel_rfl)).trans q77
      refine wpOp_val rfl (wanted_yes rfl (hF.yes 55 78 (by kernel_rfl) true q55)) ?_ (fK (.bool true) fW (Below.refl _ _) (by rw [hT]; exact rfl))
      clear fK hE hF
      go_simp
    refine stepsAll_cons (k := 79) ?_ ?_
    · intro fa fx fW hF fB hE K fK
      have q55 : fx 55 = .bool true := by have q := hE ⟨55, .data⟩ (by simp) rfl; rw [hT] at q; exact q
      have q78 : fx 78 = .bool true := by have q := hE ⟨78, .data⟩ (by simp) rfl; rw [hT] at q; exact q
      have ev78 : fa.tmps[78]?.getD undef = .bool true := (hF.ev 55 78 (by kernel_rfl)).trans q55
      have ev101 : fa.tmps[101]?.getD undef = .bool true := (hF.ev 78 101 (by kernel_rfl)).trans q78
      refine wpOp_val rfl (wanted_none rfl) ?_ (fK (.bool true) fW (Below.refl _ _) (by rw [hT]; exact rfl))
      clear fK hE hF
      go_simp
    refine stepsAll_cons (k := 80) ?_ ?_
    · intro fa fx fW hF fB hE K fK
      have q79 : fx 79 = .bool true := by have q := hE ⟨79, .data⟩ (by simp) rfl; rw [hT] at q; exact q
      have ev102 : fa.tmps[102]?.getD undef = .bool true := (hF.ev 79 102 (by kernel_rfl)).trans q79
      refine wpOp_val rfl (wanted_none rfl) ?_ (fK (.bool true) fW (Below.refl _ _) (by rw [hT]; exact rfl))
      clear fK hE hF
      go_simp
    refine stepsAll_cons (k := 81) ?_ ?_
    · intro fa fx fW hF fB hE K fK
      have q80 : fx 80 = .bool true := by have q := hE ⟨80, .chain⟩ (by simp) rfl; rw [hT] at q; exact q
      refine wpOp_call rfl (wanted_yes rfl (hF.yes 80 103 (by kernel_rfl) true q80)) (by go_simp; exact ⟨rfl, rfl⟩) ?_
      refine (HL.out fW).mono ?_
      rintro e' w' ⟨rfl, hbb⟩
      exact ⟨_, rfl, fK (.bool true) (w') (hbb) (by rw [hT]; exact rfl)⟩
    refine stepsAll_cons (k := 82) ?_ ?_
    · intro fa fx fW hF fB hE K fK
      have q80 : fx 80 = .bool true := by have q := hE ⟨80, .data⟩ (by simp) rfl; rw [hT] at q; exact q
      have q81 : fx 81 = .bool true := by have q := hE ⟨81, .data⟩ (by simp) rfl; rw [hT] at q; exact q
      have ev103 : fa.tmps[103]?.getD undef = .bool true := (hF.ev 80 103 (by kernel_rfl)).trans q80
      have ev104 : fa.tmps[104]?.getD undef = .bool true := (hF.ev 81 104 (by kernel_rfl)).trans q81
      refine wpOp_val rfl (wanted_none rfl) ?_ (fK (.bool true) fW (Below.refl _ _) (by rw [hT]; exact rfl))
      clear fK hE hF
      go_simp
    refine stepsAll_cons (k := 83) ?_ ?_
    · intro fa fx fW hF fB hE K fK
      have q82 : fx 82 = .bool true := by have q := hE ⟨82, .data⟩ (by simp) rfl; rw [hT] at q; exact q
      have ev105 : fa.tmps[105]?.getD undef = .bool true := (hF.ev 82 105 (by kernel_rfl)).trans q82
      refine wpOp_val rfl (wanted_none rfl) ?_ (fK (.bool true) fW (Below.refl _ _) (by rw [hT]; exact rfl))
      clear fK hE hF
      go_simp
    exact stepsAll_nil
  intro fa fx fW hF fB hx
  have q83 : fx 83 = .bool true := by have q := hx 83 (by decide); rw [hT] at q; exact q
  have ev2 : fa.tmps[2]?.getD undef = .bool true := (hF.ev 83 2 (by kernel_rfl)).trans q83
  rw [hF.eq]
  clear hF hx
  simp only [putAll, Act.put, List.setIfInBounds_toArray, List.set_cons_zero, List.set_cons_succ, q83]
  go_wp2
  go_ret
  exact ⟨rfl, below_tr hB0 fB⟩
end Go.Proofs.Ytnacfpkagomfaaa
