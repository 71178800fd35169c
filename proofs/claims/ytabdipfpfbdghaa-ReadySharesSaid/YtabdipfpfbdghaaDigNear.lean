/- wherryref01: Near. -/
import Derived.Test.YtabdipfpfbdghaaDigInt
import Derived.Test.YtabdipfpfbdghaaNumNear
namespace Go.Proofs.Ytabdipfpfbdghaa
open Go.RowKit
theorem cmp_leq (a b : Int) : decide (cmpV a b ≤ 0) = decide (a ≤ b) := by
  unfold cmpV
  by_cases h : a < b
  · rw [if_pos h]; simp; omega
  · rw [if_neg h]
    by_cases h2 : b < a
    · rw [if_pos h2]; simp; omega
    · rw [if_neg h2]; simp; omega
set_option maxRecDepth 100000 in
set_option maxHeartbeats 4000000 in
theorem dNear (a b c d e f : Int) (w : World) (ha : I64 a) (hb : I64 b) (hc : I64 c) (hd : I64 d) (he : I64 e) (hf : I64 f) :
    Calls Try.prog 37 #[.int .i64 a, .int .i64 b, .int .i64 c, .int .i64 d, .int .i64 e, .int .i64 f] w fun e' w' => e' = .returned (.bool (nearV (a * d) (c * b) (e * f))) ∧ Below w.heap.size w w' := by
  have HV : Hid (nearV (a * d) (c * b) (e * f) = decide (cmpV (((a * d + -(c * b)).natAbs : Nat) : Int) (e * f) ≤ 0)) := by
    show _ = _
    rw [cmp_leq]
    unfold nearV
    rw [show a * d - c * b = a * d + -(c * b) by omega]
  have H1 := Lib.hid (fun W => dOf a W ha)
  have H2 := Lib.hid (fun W => dOf d W hd)
  have H3 := Lib.hid (fun W => dOf c W hc)
  have H4 := Lib.hid (fun W => dOf b W hb)
  have H5 := Lib.hid (fun W => dOf e W he)
  have H6 := Lib.hid (fun W => dOf f W hf)
  generalize nearV (a * d) (c * b) (e * f) = r at *
  go_enter Try.func37, Try.ntmps37
  go_wp2_with (go_at_call 59; (with_reducible refine (H1.out _).mono ?_); rintro e w1 ⟨⟨v1, rfl, hv1⟩, hb1⟩)
  go_wp2_with (go_at_call 59; (with_reducible refine (H2.out _).mono ?_); rintro e w2 ⟨⟨v2, rfl, hv2⟩, hb2⟩; have hv1' := hv1.below hb2)
  go_wp2_with (go_at_call 58; (with_reducible refine (dTimes v1 v2 a d 4 4 _ hv1' hv2 (by omega) (by omega)).mono ?_); rintro e w3 ⟨⟨v3, rfl, hv3⟩, hb3⟩)
  go_wp2_with (go_at_call 59; (with_reducible refine (H3.out _).mono ?_); rintro e w4 ⟨⟨v4, rfl, hv4⟩, hb4⟩)
  go_wp2_with (go_at_call 59; (with_reducible refine (H4.out _).mono ?_); rintro e w5 ⟨⟨v5, rfl, hv5⟩, hb5⟩; have hv4' := hv4.below hb5)
  go_wp2_with (go_at_call 58; (with_reducible refine (dTimes v4 v5 c b 4 4 _ hv4' hv5 (by omega) (by omega)).mono ?_); rintro e w6 ⟨⟨v6, rfl, hv6⟩, hb6⟩)
  go_wp2_with (go_at_call 60; (with_reducible refine (dMinus v6 (c * b) _ _ hv6).mono ?_); rintro e w7 ⟨⟨v7, rfl, hv7⟩, hb7⟩; have hv3' := (((hv3.below hb4).below hb5).below hb6).below hb7)
  go_wp2_with (go_at_call 57; (with_reducible refine (dPlus v3 v7 (a * d) (-(c * b)) _ _ _ hv3' hv7 (by omega) (by omega)).mono ?_); rintro e w8 ⟨⟨v8, rfl, A8, n8, c8, ds8, rfl, hr8⟩, hb8⟩)
  obtain ⟨hr8, hd8, ht8, hv8, hn8⟩ := hr8
  have HT := Lib.hid (fun W h => dtrim false A8 n8 c8 ds8 W h hd8)
  rw [show tellD false ds8 = (((a * d + -(c * b)).natAbs : Nat) : Int) from hv8] at HT
  have HB8 := Lib.hid (below_tr (below_tr (below_tr (below_tr (below_tr (below_tr (below_tr hb1 hb2) hb3) hb4) hb5) hb6) hb7) hb8)
  clear hb1 hb2 hb3 hb4 hb5 hb6 hb7 hb8 hd8 ht8 hv8 hv1 hv2 hv3 hv4 hv5 hv6 hv7 hv1' hv3' hv4'
  generalize decide (a * d + -(c * b) < 0) = s8
  generalize (((a * d + -(c * b)).natAbs : Nat) : Int) = z at *
  obtain ⟨W9, hW9⟩ : ∃ W9, W9 = w8.alloc (.cells #[.bool s8, .slice A8 n8 c8] 76) := ⟨_, rfl⟩
  have hb9 : Below w8.heap.size w8 W9 := by rw [hW9]; exact below_al (Below.refl _ _) _
  have c9 : W9.cell? ⟨w8.heap.size, 1, none⟩ = some (.slice A8 n8 c8) := by rw [hW9]; go_simp
  have hr9 := hr8.below hb9
  go_wp2_with fail
  rw [← hW9]
  obtain ⟨b8, hb8⟩ : ∃ b, b = w8.heap.size := ⟨_, rfl⟩
  rw [show Value.pointer (some ⟨w8.heap.size, 0, none⟩) = Value.pointer (some ⟨b8, 0, none⟩) by rw [hb8]]
  rw [← hb8] at c9
  have HB9 := Lib.hid (below_tr HB8.out hb9)
  clear hW9 hb8 hb9 hr8
  go_wp2_with (go_at_call 59; (with_reducible refine (H5.out _).mono ?_); rintro e w10 ⟨⟨v10, rfl, hv10⟩, hb10⟩)
  go_wp2_with (go_at_call 59; (with_reducible refine (H6.out _).mono ?_); rintro e w11 ⟨⟨v11, rfl, hv11⟩, hb11⟩; have hv10' := hv10.below hb11)
  go_wp2_with (go_at_call 58; (with_reducible refine (dTimes v10 v11 e f 4 4 _ hv10' hv11 (by omega) (by omega)).mono ?_); rintro e' w12 ⟨⟨v12, rfl, A12, n12, c12, ds12, rfl, hr12⟩, hb12⟩)
  have hC := Lib.hid (fun v N W (h : Wd W v z N) (hr : Rds W 1 A12 n12 c12 (nums .u32 ds12)) => dCmp v (.agg #[.bool (decide (e * f < 0)), .slice A12 n12 c12]) z (e * f) N _ W h ⟨A12, n12, c12, ds12, rfl, hr, hr12.2⟩)
  have hr12' := hr12.1
  generalize decide (e * f < 0) = s12 at *
  obtain ⟨W13, hW13⟩ : ∃ W13, W13 = w12.alloc (.cells #[.bool s12, .slice A12 n12 c12] 76) := ⟨_, rfl⟩
  have hb13 : Below w12.heap.size w12 W13 := by rw [hW13]; exact below_al (Below.refl _ _) _
  have d0 : W13.cell? ⟨w12.heap.size, 0, none⟩ = some (.bool s12) := by rw [hW13]; go_simp
  have d1 : W13.cell? ⟨w12.heap.size, 1, none⟩ = some (.slice A12 n12 c12) := by rw [hW13]; go_simp
  rw [← hW13]
  have hb9 := below_tr (below_tr (below_tr (below_tr hb10 hb11) hb12) (Below.refl _ _)) hb13
  have c13 := cell_below hb9 c9
  have hr13 := hr9.below hb9
  have hr14 := hr12'.below hb13
  have HB13 := Lib.hid (below_tr HB9.out hb9)
  obtain ⟨b12, hb12'⟩ : ∃ b, b = w12.heap.size := ⟨_, rfl⟩
  rw [show Value.pointer (some ⟨w12.heap.size, 0, none⟩) = Value.pointer (some ⟨b12, 0, none⟩) by rw [hb12']]
  rw [← hb12'] at d0 d1
  clear hW13 hb12' hb9 hb10 hb11 hb12 hb13 hr12 hr12' hr9 c9 hv10 hv11 hv10'
  generalize cmpV z (e * f) = q at *
  obtain ⟨T, hT⟩ : ∃ T : Nat → Fact, ∀ t_, T t_ = ([Fact.eq (.pointer (some ⟨b8, 1, none⟩)), Fact.eq (.slice A8 n8 c8), Fact.eq (.agg #[.bool false, .slice A8 n8 c8]), FWd z n8, Fact.eq (.agg #[.bool s12, .slice A12 n12 c12]), Fact.eq (.int .i64 q), Fact.eq (.bool (decide (q ≤ 0))), Fact.eq (.bool (decide (q ≤ 0)))] : List (Fact)).getD t_ Fact.any := ⟨_, fun _ => rfl⟩
  refine region_tab [(0, 32), (1, 33), (2, 34), (3, 35), (4, 36), (5, 37), (6, 38), (7, 12)] T (by kernel_rfl) (by kernel_rfl) (by kernel_rfl) (by kernel_rfl) (by kernel_rfl) ?_ ?_
  · skip
    refine stepsAll_cons (k := 0) ?_ ?_
    · intro fa fx fW hF fB hE K fK
      have ev13 : fa.tmps[13]?.getD undef = .pointer (some ⟨b8, 0, none⟩) := hF.eo 13 (by kernel_rfl)
      refine wpOp_val rfl (wanted_none rfl) ?_ (fK (.pointer (some ⟨b8, 1, none⟩)) fW (Below.refl _ _) (by rw [hT]; exact rfl))
      clear fK hE hF
      go_simp
    refine stepsAll_cons (k := 1) ?_ ?_
    · intro fa fx fW hF fB hE K fK
      have q0 : fx 0 = .pointer (some ⟨b8, 1, none⟩) := by have q := hE ⟨0, .data⟩ (by simp) rfl; rw [hT] at q; exact q
      have ev32 : fa.tmps[32]?.getD undef = .pointer (some ⟨b8, 1, none⟩) := (hF.ev 0 32 (by kernel_rfl)).trans q0
      have z1 := cell_below fB c13
      refine wpOp_val rfl (wanted_none rfl) ?_ (fK (.slice A8 n8 c8) fW (Below.refl _ _) (by rw [hT]; exact rfl))
      clear fK hE hF
      go_simp
    refine stepsAll_cons (k := 2) ?_ ?_
    · intro fa fx fW hF fB hE K fK
      have q1 : fx 1 = .slice A8 n8 c8 := by have q := hE ⟨1, .data⟩ (by simp) rfl; rw [hT] at q; exact q
      have ev33 : fa.tmps[33]?.getD undef = .slice A8 n8 c8 := (hF.ev 1 33 (by kernel_rfl)).trans q1
      refine wpOp_val rfl (wanted_none rfl) ?_ (fK (.agg #[.bool false, .slice A8 n8 c8]) fW (Below.refl _ _) (by rw [hT]; exact rfl))
      clear fK hE hF
      go_simp
    refine stepsAll_cons (k := 3) ?_ ?_
    · intro fa fx fW hF fB hE K fK
      have q2 : fx 2 = .agg #[.bool false, .slice A8 n8 c8] := by have q := hE ⟨2, .data⟩ (by simp) rfl; rw [hT] at q; exact q
      have ev34 : fa.tmps[34]?.getD undef = .agg #[.bool false, .slice A8 n8 c8] := (hF.ev 2 34 (by kernel_rfl)).trans q2
      refine wpOp_call rfl (wanted_none rfl) (by go_simp; exact ⟨rfl, rfl⟩) ?_
      refine (HT.out fW (hr13.below fB)).mono ?_
      rintro e' w' ⟨⟨v3, rfl, hs3⟩, hbb⟩
      exact ⟨_, rfl, fK (v3) (w') (hbb) (by rw [hT]; exact hs3)⟩
    refine stepsAll_cons (k := 4) ?_ ?_
    · intro fa fx fW hF fB hE K fK
      have ev14 : fa.tmps[14]?.getD undef = .pointer (some ⟨b12, 0, none⟩) := hF.eo 14 (by kernel_rfl)
      refine wpOp_val rfl (wanted_none rfl) ?_ (fK (.agg #[.bool s12, .slice A12 n12 c12]) fW (Below.refl _ _) (by rw [hT]; exact rfl))
      clear fK hE hF
      have z4 := cell_below fB d0
      have z5 := cell_below fB d1
      go_simp
    refine stepsAll_cons (k := 5) ?_ ?_
    · intro fa fx fW hF fB hE K fK
      have q3 : (FWd z n8).p (fx 3) fW := by have q := hE ⟨3, .data⟩ (by simp) rfl; rw [hT] at q; exact q
      have q4 : fx 4 = .agg #[.bool s12, .slice A12 n12 c12] := by have q := hE ⟨4, .data⟩ (by simp) rfl; rw [hT] at q; exact q
      have ev35 : fa.tmps[35]?.getD undef = fx 3 := hF.ev 3 35 (by kernel_rfl)
      have ev36 : fa.tmps[36]?.getD undef = .agg #[.bool s12, .slice A12 n12 c12] := (hF.ev 4 36 (by kernel_rfl)).trans q4
      refine wpOp_call rfl (wanted_none rfl) (by go_simp; exact ⟨rfl, rfl⟩) ?_
      refine (hC.out _ _ fW q3 (hr14.below fB)).mono ?_
      rintro e' w' ⟨rfl, hbb⟩
      exact ⟨_, rfl, fK (.int .i64 q) (w') (hbb) (by rw [hT]; exact rfl)⟩
    refine stepsAll_cons (k := 6) ?_ ?_
    · intro fa fx fW hF fB hE K fK
      have q5 : fx 5 = .int .i64 q := by have q := hE ⟨5, .data⟩ (by simp) rfl; rw [hT] at q; exact q
      have ev37 : fa.tmps[37]?.getD undef = .int .i64 q := (hF.ev 5 37 (by kernel_rfl)).trans q5
      refine wpOp_val rfl (wanted_none rfl) ?_ (fK (.bool (decide (q ≤ 0))) fW (Below.refl _ _) (by rw [hT]; exact rfl))
      clear fK hE hF
      go_simp
    refine stepsAll_cons (k := 7) ?_ ?_
    · intro fa fx fW hF fB hE K fK
      have q6 : fx 6 = .bool (decide (q ≤ 0)) := by have q := hE ⟨6, .data⟩ (by simp) rfl; rw [hT] at q; exact q
      have ev38 : fa.tmps[38]?.getD undef = .bool (decide (q ≤ 0)) := (hF.ev 6 38 (by kernel_rfl)).trans q6
      refine wpOp_val rfl (wanted_none rfl) ?_ (fK (.bool (decide (q ≤ 0))) fW (Below.refl _ _) (by rw [hT]; exact rfl))
      clear fK hE hF
      go_simp
    exact stepsAll_nil
  intro fa fx fW hF fB hx
  have q7 : fx 7 = .bool (decide (q ≤ 0)) := by have q := hx 7 (by decide); rw [hT] at q; exact q
  have ev12 : fa.tmps[12]?.getD undef = .bool (decide (q ≤ 0)) := (hF.ev 7 12 (by kernel_rfl)).trans q7
  rw [hF.eq]
  clear hF hx
  simp only [putAll, Act.put, List.setIfInBounds_toArray, List.set_cons_zero, List.set_cons_succ, q7]
  go_wp2
  go_ret
  exact ⟨ret_bool HV.out.symm, below_tr HB13.out fB⟩
end Go.Proofs.Ytabdipfpfbdghaa
