/- The heap: down. -/
import Derived.Test.YtopikpjagjnbhaaHeapW
import Derived.WalkMore
namespace Go.Proofs.Ytopikpjagjnbhaa
open Go.RowKit
set_option maxRecDepth 100000 in
set_option maxHeartbeats 8000000 in
/-- down. -/
theorem hdown (b gi gk gp base n ci ck cp : Nat) (ks : List Int) (s : HSt) (i : Nat) (z : Int) (w : World) (hz : z = (i : Int)) (h : Sw w b gi gp base n ci cp s) (hk : Kw w b gk base n ck ks) (n4 : gi ≠ gk) (n5 : gp ≠ gk) (hi : i < s.1.length) (hr : InR n s) (hn : s.1.length ≤ 4096) :
    Calls Try.prog 45 #[.pointer (some ⟨b, 0, none⟩), .int .i64 z] w fun e w' => e = .returned (.tuple #[]) ∧ Sw w' b gi gp base n ci cp (downV ks (s.1.getD i 0) s.1.length i s) ∧ Chg (fun k => k = gi ∨ k = gp) w w' := by
  subst hz
  obtain ⟨g1, _, _⟩ := rowGet h.io hi
  rw [zs_getD _ _ hi] at g1
  have k1 := h.ib.cell
  have hid := hr.get hi
  generalize s.1.getD i 0 = id at g1 hid ⊢
  obtain ⟨R, HR⟩ : ∃ R, Hid (downV ks id s.1.length i s = R) := ⟨_, rfl⟩
  rw [HR.out]
  have HS := Lib.hid h
  have HK := Lib.hid hk
  have HI := Lib.hid hr
  obtain ⟨len, hlen⟩ : ∃ len, s.1.length = len := ⟨_, rfl⟩
  rw [hlen] at HR
  have HL := Lib.hid hlen
  rw [hlen] at hi hn k1
  clear h hk hr hlen
  go_enter Try.func45, Try.ntmps45
  go_wp2
  go_step3
  go_wp2
  go_step3
  go_wp2
  go_loopw [1] (fun iv wr => ∃ (j f : Nat) (t : HSt), j < len ∧ iv = .int .i64 j ∧ Hid (t.1.length = len) ∧ Hid (InR n t) ∧ Hid (len ≤ j + f ∧ downV ks id f j t = R) ∧ Sw wr b gi gp base n ci cp t ∧ Kw wr b gk base n ck ks ∧ Chg (fun k => k = gi ∨ k = gp) w wr) (fun iv _ => len - (intOf iv).toNat)
  case atStart => exact ⟨i, len, s, hi, rfl, HL.out, HI.out, ⟨Nat.le_add_left _ _, HR.out⟩, HS.out, HK.out, Chg.refl _ _⟩
  case round =>
    obtain ⟨j, f, t, hj, rfl, HT, HTI, HU, HSW, HKW, HCH⟩ := hrel
    obtain ⟨W1, rfl⟩ : ∃ x, x = wr := ⟨_, rfl⟩
    have hjt : j < t.1.length := by rw [HT.out]; exact hj
    obtain ⟨f', rfl⟩ : ∃ f', f = f' + 1 := ⟨f - 1, by have := HU.out.1; omega⟩
    have k1 := HSW.ib.cell
    rw [HT.out] at k1
    by_cases h1 : len ≤ 2 * j + 1
    · have h1' : (len : Int) ≤ 2 * (j : Int) + 1 := by omega
      have HSET := Lib.hid (hset b gi gp base n ci cp t j id j W1 rfl HSW hjt hid)
      have HU2 : Hid (hputV t j id = R) := by
        have h2 := HU.out.2
        unfold downV at h2
        rw [if_pos (by rw [HT.out]; exact h1)] at h2
        exact h2
      clear HU
      go_wp2_with (go_at_call 44; (with_reducible refine HSET.out.mono ?_); rintro e w1 ⟨rfl, hs1, hc1⟩)
      rw [Exit.noGoto_normal]
      exact bodyPost_end (v := .tuple #[]) (by simp [results, Try.results45, go_sem]) rfl ⟨rfl, by rw [← HU2.out]; exact hs1, HCH.trans hc1⟩
    · have h1' : ¬ ((len : Int) ≤ 2 * (j : Int) + 1) := by omega
      have HWR : Hid (IntKind.i64.wrap (2 * (j : Int) + 1 + 1) = 2 * (j : Int) + 1 + 1) := by show _ = _; rw [IntKind.wrap_i64] <;> omega
      by_cases hA : 2 * j + 2 < len
      · have hA' : (2 * (j : Int) + 1 + 1) < (len : Int) := by omega
        have hl2 : 2 * j + 2 < t.1.length := by rw [HT.out]; exact hA
        have hl1 : 2 * j + 1 < t.1.length := by rw [HT.out]; omega
        obtain ⟨q2, _, _⟩ := rowGet HSW.io hl2
        obtain ⟨q1, _, _⟩ := rowGet HSW.io hl1
        rw [zs_getD _ _ hl2] at q2
        rw [zs_getD _ _ hl1] at q1
        have hd2 := HTI.out.get hl2
        have hd1 := HTI.out.get hl1
        have HB : Hid (belowV ks j t = if 2 * j + 2 < t.1.length ∧ ordV ks (t.1.getD (2 * j + 2) 0) (t.1.getD (2 * j + 1) 0) < 0 then 2 * j + 2 else 2 * j + 1) := rfl
        obtain ⟨x2, hx2⟩ : ∃ x, t.1.getD (2 * j + 2) 0 = x := ⟨_, rfl⟩
        obtain ⟨x1, hx1⟩ : ∃ x, t.1.getD (2 * j + 1) 0 = x := ⟨_, rfl⟩
        rw [hx2] at q2 hd2 HB
        rw [hx1] at q1 hd1 HB
        have HQ2 := Lib.hid q2
        have HQ1 := Lib.hid q1
        have HK1 := Lib.hid k1
        have HOR := Lib.hid (fun W (hb : Below W1.heap.size W1 W) => horder b gk n ck base ks x2 x1 W (HKW.below hb).kb (HKW.below hb).ko hd2 hd1)
        clear hx1 hx2 q1 q2
        obtain ⟨od, hod⟩ : ∃ od, ordV ks x2 x1 = od := ⟨_, rfl⟩
        rw [hod] at HB HOR
        clear hod
        go_wp2_with fail
        obtain ⟨T, hT⟩ : ∃ T : Nat → Fact, ∀ t_, T t_ = ([Fact.eq (.int .i64 (2 * (j : Int) + 1)), Fact.eq (.int .i64 (2 * (j : Int) + 1 + 1)), Fact.eq (.int .i64 len), Fact.eq (.bool true), Fact.eq (.bool true), Fact.eq (.func (.func 34) #[.pointer (some ⟨b, 0, none⟩)] #[]), Fact.eq (.pointer (some ⟨b, 0, none⟩)), Fact.eq (.pointer (some ⟨b, 0, none⟩)), Fact.eq (.pointer (some ⟨b, 0, none⟩)), Fact.eq (.slice (some ⟨gi, 0, none⟩) len ci), Fact.eq (.int .i64 (2 * (j : Int) + 1)), Fact.eq (.int .i64 (2 * (j : Int) + 1 + 1)), Fact.eq (.pointer (some ⟨gi, 2 * j + 2, none⟩)), Fact.eq (.int .i64 x2), Fact.eq (.pointer (some ⟨b, 0, none⟩)), Fact.eq (.pointer (some ⟨b, 0, none⟩)), Fact.eq (.pointer (some ⟨b, 0, none⟩)), Fact.eq (.slice (some ⟨gi, 0, none⟩) len ci), Fact.eq (.int .i64 (2 * (j : Int) + 1)), Fact.eq (.pointer (some ⟨gi, 2 * j + 1, none⟩)), Fact.eq (.int .i64 x1), Fact.eq (.int .i64 od), Fact.eq (.bool (decide (od < 0))), Fact.eq (.bool (decide (od < 0))), Fact.eq (.bool (decide (od < 0)))] : List (Fact)).getD t_ Fact.any := ⟨_, fun _ => rfl⟩
        refine region_tab [(0, 30), (1, 31), (2, 32), (3, 33), (4, 34), (5, 35), (6, 36), (7, 37), (8, 38), (9, 39), (10, 40), (11, 41), (12, 42), (13, 43), (14, 44), (15, 45), (16, 46), (17, 47), (18, 48), (19, 49), (20, 50), (21, 51), (22, 52), (23, 53), (24, 29)] T (by kernel_rfl) (by kernel_rfl) (by kernel_rfl) (by kernel_rfl) (by kernel_rfl) ?_ ?_
        · skip
          refine stepsAll_cons (k := 0) ?_ ?_
          · intro fa fx fW hF fB hE K fK
            have ev6 : fa.tmps[6]?.getD undef = .int .i64 (2 * (j : Int) + 1) := hF.eo 6 (by kernel_rfl)
            refine wpOp_val rfl (wanted_none rfl) ?_ (fK (.int .i64 (2 * (j : Int) + 1)) fW (Below.refl _ _) (by rw [hT]; exact rfl))
            clear fK hE hF
            go_simp
          refine stepsAll_cons (k := 1) ?_ ?_
          · intro fa fx fW hF fB hE K fK
            have q0 : fx 0 = .int .i64 (2 * (j : Int) + 1) := by have q := hE ⟨0, .data⟩ (by simp) rfl; rw [hT] at q; exact q
            have ev30 : fa.tmps[30]?.getD undef = .int .i64 (2 * (j : Int) + 1) := (hF.ev 0 30 (by kernel_rfl)).trans q0
            refine wpOp_val rfl (wanted_none rfl) ?_ (fK (.int .i64 (2 * (j : Int) + 1 + 1)) fW (Below.refl _ _) (by rw [hT]; exact rfl))
            clear fK hE hF
            go_simp
            exact HWR.out
          refine stepsAll_cons (k := 2) ?_ ?_
          · intro fa fx fW hF fB hE K fK
            have ev7 : fa.tmps[7]?.getD undef = .int .i64 len := hF.eo 7 (by kernel_rfl)
            refine wpOp_val rfl (wanted_none rfl) ?_ (fK (.int .i64 len) fW (Below.refl _ _) (by rw [hT]; exact rfl))
            clear fK hE hF
            go_simp
          refine stepsAll_cons (k := 3) ?_ ?_
          · intro fa fx fW hF fB hE K fK
            have q1 : fx 1 = .int .i64 (2 * (j : Int) + 1 + 1) := by have q := hE ⟨1, .data⟩ (by simp) rfl; rw [hT] at q; exact q
            have q2 : fx 2 = .int .i64 len := by have q := hE ⟨2, .data⟩ (by simp) rfl; rw [hT] at q; exact q
            have ev31 : fa.tmps[31]?.getD undef = .int .i64 (2 * (j : Int) + 1 + 1) := (hF.ev 1 31 (by kernel_rfl)).trans q1
            have ev32 : fa.tmps[32]?.getD undef = .int .i64 len := (hF.ev 2 32 (by kernel_rfl)).trans q2
            refine wpOp_val rfl (wanted_none rfl) ?_ (fK (.bool true) fW (Below.refl _ _) (by rw [hT]; exact rfl))
            clear fK hE hF
            go_simp
          refine stepsAll_cons (k := 4) ?_ ?_
          · intro fa fx fW hF fB hE K fK
            have q3 : fx 3 = .bool true := by have q := hE ⟨3, .data⟩ (by simp) rfl; rw [hT] at q; exact q
            have ev33 : fa.tmps[33]?.getD undef = .bool true := (hF.ev 3 33 (by kernel_rfl)).trans q3
            refine wpOp_val rfl (wanted_none rfl) ?_ (fK (.bool true) fW (Below.refl _ _) (by rw [hT]; exact rfl))
            clear fK hE hF
            go_simp
          refine stepsAll_cons (k := 5) ?_ ?_
          · intro fa fx fW hF fB hE K fK
            have q4 : fx 4 = .bool true := by have q := hE ⟨4, .guard⟩ (by simp) rfl; rw [hT] at q; exact q
            have ev5 : fa.tmps[5]?.getD undef = .func (.func 34) #[.pointer (some ⟨b, 0, none⟩)] #[] := hF.eo 5 (by kernel_rfl)
            refine wpOp_val rfl (wanted_yes rfl (hF.yes 4 34 (by kernel_rfl) true q4)) ?_ (fK (.func (.func 34) #[.pointer (some ⟨b, 0, none⟩)] #[]) fW (Below.refl _ _) (by rw [hT]; exact rfl))
            clear fK hE hF
            go_simp
          refine stepsAll_cons (k := 6) ?_ ?_
          · intro fa fx fW hF fB hE K fK
            have q4 : fx 4 = .bool true := by have q := hE ⟨4, .guard⟩ (by simp) rfl; rw [hT] at q; exact q
            have ev0 : fa.tmps[0]?.getD undef = .pointer (some ⟨b, 0, none⟩) := hF.eo 0 (by kernel_rfl)
            refine wpOp_val rfl (wanted_yes rfl (hF.yes 4 34 (by kernel_rfl) true q4)) ?_ (fK (.pointer (some ⟨b, 0, none⟩)) fW (Below.refl _ _) (by rw [hT]; exact rfl))
            clear fK hE hF
            go_simp
          refine stepsAll_cons (k := 7) ?_ ?_
          · intro fa fx fW hF fB hE K fK
            have q4 : fx 4 = .bool true := by have q := hE ⟨4, .guard⟩ (by simp) rfl; rw [hT] at q; exact q
            have q6 : fx 6 = .pointer (some ⟨b, 0, none⟩) := by have q := hE ⟨6, .data⟩ (by simp) rfl; rw [hT] at q; exact q
            have ev36 : fa.tmps[36]?.getD undef = .pointer (some ⟨b, 0, none⟩) := (hF.ev 6 36 (by kernel_rfl)).trans q6
            refine wpOp_val rfl (wanted_yes rfl (hF.yes 4 34 (by kernel_rfl) true q4)) ?_ (fK (.pointer (some ⟨b, 0, none⟩)) fW (Below.refl _ _) (by rw [hT]; exact rfl))
            clear fK hE hF
            go_simp
          refine stepsAll_cons (k := 8) ?_ ?_
          · intro fa fx fW hF fB hE K fK
            have q4 : fx 4 = .bool true := by have q := hE ⟨4, .guard⟩ (by simp) rfl; rw [hT] at q; exact q
            have q7 : fx 7 = .pointer (some ⟨b, 0, none⟩) := by have q := hE ⟨7, .data⟩ (by simp) rfl; rw [hT] at q; exact q
            have ev37 : fa.tmps[37]?.getD undef = .pointer (some ⟨b, 0, none⟩) := (hF.ev 7 37 (by kernel_rfl)).trans q7
            refine wpOp_val rfl (wanted_yes rfl (hF.yes 4 34 (by kernel_rfl) true q4)) ?_ (fK (.pointer (some ⟨b, 0, none⟩)) fW (Below.refl _ _) (by rw [hT]; exact rfl))
            clear fK hE hF
            go_simp
          refine stepsAll_cons (k := 9) ?_ ?_
          · intro fa fx fW hF fB hE K fK
            have q4 : fx 4 = .bool true := by have q := hE ⟨4, .guard⟩ (by simp) rfl; rw [hT] at q; exact q
            have q8 : fx 8 = .pointer (some ⟨b, 0, none⟩) := by have q := hE ⟨8, .data⟩ (by simp) rfl; rw [hT] at q; exact q
            have ev38 : fa.tmps[38]?.getD undef = .pointer (some ⟨b, 0, none⟩) := (hF.ev 8 38 (by kernel_rfl)).trans q8
            have k0 := cell_below fB HK1.out
            refine wpOp_val rfl (wanted_yes rfl (hF.yes 4 34 (by kernel_rfl) true q4)) ?_ (fK (.slice (some ⟨gi, 0, none⟩) len ci) fW (Below.refl _ _) (by rw [hT]; exact rfl))
            clear fK hE hF
            go_simp
          refine stepsAll_cons (k := 10) ?_ ?_
          · intro fa fx fW hF fB hE K fK
            have q4 : fx 4 = .bool true := by have q := hE ⟨4, .guard⟩ (by simp) rfl; rw [hT] at q; exact q
            have ev6 : fa.tmps[6]?.getD undef = .int .i64 (2 * (j : Int) + 1) := hF.eo 6 (by kernel_rfl)
            refine wpOp_val rfl (wanted_yes rfl (hF.yes 4 34 (by kernel_rfl) true q4)) ?_ (fK (.int .i64 (2 * (j : Int) + 1)) fW (Below.refl _ _) (by rw [hT]; exact rfl))
            clear fK hE hF
            go_simp
          refine stepsAll_cons (k := 11) ?_ ?_
          · intro fa fx fW hF fB hE K fK
            have q4 : fx 4 = .bool true := by have q := hE ⟨4, .guard⟩ (by simp) rfl; rw [hT] at q; exact q
            have q10 : fx 10 = .int .i64 (2 * (j : Int) + 1) := by have q := hE ⟨10, .data⟩ (by simp) rfl; rw [hT] at q; exact q
            have ev40 : fa.tmps[40]?.getD undef = .int .i64 (2 * (j : Int) + 1) := (hF.ev 10 40 (by kernel_rfl)).trans q10
            refine wpOp_val rfl (wanted_yes rfl (hF.yes 4 34 (by kernel_rfl) true q4)) ?_ (fK (.int .i64 (2 * (j : Int) + 1 + 1)) fW (Below.refl _ _) (by rw [hT]; exact rfl))
            clear fK hE hF
            go_simp
            exact HWR.out
          refine stepsAll_cons (k := 12) ?_ ?_
          · intro fa fx fW hF fB hE K fK
            have q4 : fx 4 = .bool true := by have q := hE ⟨4, .guard⟩ (by simp) rfl; rw [hT] at q; exact q
            have q9 : fx 9 = .slice (some ⟨gi, 0, none⟩) len ci := by have q := hE ⟨9, .data⟩ (by simp) rfl; rw [hT] at q; exact q
            have q11 : fx 11 = .int .i64 (2 * (j : Int) + 1 + 1) := by have q := hE ⟨11, .data⟩ (by simp) rfl; rw [hT] at q; exact q
            have ev39 : fa.tmps[39]?.getD undef = .slice (some ⟨gi, 0, none⟩) len ci := (hF.ev 9 39 (by kernel_rfl)).trans q9
            have ev41 : fa.tmps[41]?.getD undef = .int .i64 (2 * (j : Int) + 1 + 1) := (hF.ev 11 41 (by kernel_rfl)).trans q11
            refine wpOp_val rfl (wanted_yes rfl (hF.yes 4 34 (by kernel_rfl) true q4)) ?_ (fK (.pointer (some ⟨gi, 2 * j + 2, none⟩)) fW (Below.refl _ _) (by rw [hT]; exact rfl))
            clear fK hE hF
            go_simp
            rw [if_pos (show (0 : Int) ≤ 2 * (j : Int) + 1 + 1 by omega), show (2 * (j : Int) + 1 + 1).toNat = 2 * j + 2 by omega]
          refine stepsAll_cons (k := 13) ?_ ?_
          · intro fa fx fW hF fB hE K fK
            have q4 : fx 4 = .bool true := by have q := hE ⟨4, .guard⟩ (by simp) rfl; rw [hT] at q; exact q
            have q12 : fx 12 = .pointer (some ⟨gi, 2 * j + 2, none⟩) := by have q := hE ⟨12, .data⟩ (by simp) rfl; rw [hT] at q; exact q
            have ev42 : fa.tmps[42]?.getD undef = .pointer (some ⟨gi, 2 * j + 2, none⟩) := (hF.ev 12 42 (by kernel_rfl)).trans q12
            have k0 := cell_below fB HQ2.out
            refine wpOp_val rfl (wanted_yes rfl (hF.yes 4 34 (by kernel_rfl) true q4)) ?_ (fK (.int .i64 x2) fW (Below.refl _ _) (by rw [hT]; exact rfl))
            clear fK hE hF
            go_simp
          refine stepsAll_cons (k := 14) ?_ ?_
          · intro fa fx fW hF fB hE K fK
            have q4 : fx 4 = .bool true := by have q := hE ⟨4, .guard⟩ (by simp) rfl; rw [hT] at q; exact q
            have ev0 : fa.tmps[0]?.getD undef = .pointer (some ⟨b, 0, none⟩) := hF.eo 0 (by kernel_rfl)
            refine wpOp_val rfl (wanted_yes rfl (hF.yes 4 34 (by kernel_rfl) true q4)) ?_ (fK (.pointer (some ⟨b, 0, none⟩)) fW (Below.refl _ _) (by rw [hT]; exact rfl))
            clear fK hE hF
            go_simp
          refine stepsAll_cons (k := 15) ?_ ?_
          · intro fa fx fW hF fB hE K fK
            have q4 : fx 4 = .bool true := by have q := hE ⟨4, .guard⟩ (by simp) rfl; rw [hT] at q; exact q
            have q14 : fx 14 = .pointer (some ⟨b, 0, none⟩) := by have q := hE ⟨14, .data⟩ (by simp) rfl; rw [hT] at q; exact q
            have ev44 : fa.tmps[44]?.getD undef = .pointer (some ⟨b, 0, none⟩) := (hF.ev 14 44 (by kernel_rfl)).trans q14
            refine wpOp_val rfl (wanted_yes rfl (hF.yes 4 34 (by kernel_rfl) true q4)) ?_ (fK (.pointer (some ⟨b, 0, none⟩)) fW (Below.refl _ _) (by rw [hT]; exact rfl))
            clear fK hE hF
            go_simp
          refine stepsAll_cons (k := 16) ?_ ?_
          · intro fa fx fW hF fB hE K fK
            have q4 : fx 4 = .bool true := by have q := hE ⟨4, .guard⟩ (by simp) rfl; rw [hT] at q; exact q
            have q15 : fx 15 = .pointer (some ⟨b, 0, none⟩) := by have q := hE ⟨15, .data⟩ (by simp) rfl; rw [hT] at q; exact q
            have ev45 : fa.tmps[45]?.getD undef = .pointer (some ⟨b, 0, none⟩) := (hF.ev 15 45 (by kernel_rfl)).trans q15
            refine wpOp_val rfl (wanted_yes rfl (hF.yes 4 34 (by kernel_rfl) true q4)) ?_ (fK (.pointer (some ⟨b, 0, none⟩)) fW (Below.refl _ _) (by rw [hT]; exact rfl))
            clear fK hE hF
            go_simp
          refine stepsAll_cons (k := 17) ?_ ?_
          · intro fa fx fW hF fB hE K fK
            have q4 : fx 4 = .bool true := by have q := hE ⟨4, .guard⟩ (by simp) rfl; rw [hT] at q; exact q
            have q16 : fx 16 = .pointer (some ⟨b, 0, none⟩) := by have q := hE ⟨16, .data⟩ (by simp) rfl; rw [hT] at q; exact q
            have ev46 : fa.tmps[46]?.getD undef = .pointer (some ⟨b, 0, none⟩) := (hF.ev 16 46 (by kernel_rfl)).trans q16
            have k0 := cell_below fB HK1.out
            refine wpOp_val rfl (wanted_yes rfl (hF.yes 4 34 (by kernel_rfl) true q4)) ?_ (fK (.slice (some ⟨gi, 0, none⟩) len ci) fW (Below.refl _ _) (by rw [hT]; exact rfl))
            clear fK hE hF
            go_simp
          refine stepsAll_cons (k := 18) ?_ ?_
          · intro fa fx fW hF fB hE K fK
            have q4 : fx 4 = .bool true := by have q := hE ⟨4, .guard⟩ (by simp) rfl; rw [hT] at q; exact q
            have ev6 : fa.tmps[6]?.getD undef = .int .i64 (2 * (j : Int) + 1) := hF.eo 6 (by kernel_rfl)
            refine wpOp_val rfl (wanted_yes rfl (hF.yes 4 34 (by kernel_rfl) true q4)) ?_ (fK (.int .i64 (2 * (j : Int) + 1)) fW (Below.refl _ _) (by rw [hT]; exact rfl))
            clear fK hE hF
            go_simp
          refine stepsAll_cons (k := 19) ?_ ?_
          · intro fa fx fW hF fB hE K fK
            have q4 : fx 4 = .bool true := by have q := hE ⟨4, .guard⟩ (by simp) rfl; rw [hT] at q; exact q
            have q17 : fx 17 = .slice (some ⟨gi, 0, none⟩) len ci := by have q := hE ⟨17, .data⟩ (by simp) rfl; rw [hT] at q; exact q
            have q18 : fx 18 = .int .i64 (2 * (j : Int) + 1) := by have q := hE ⟨18, .data⟩ (by simp) rfl; rw [hT] at q; exact q
            have ev47 : fa.tmps[47]?.getD undef = .slice (some ⟨gi, 0, none⟩) len ci := (hF.ev 17 47 (by kernel_rfl)).trans q17
            have ev48 : fa.tmps[48]?.getD undef = .int .i64 (2 * (j : Int) + 1) := (hF.ev 18 48 (by kernel_rfl)).trans q18
            refine wpOp_val rfl (wanted_yes rfl (hF.yes 4 34 (by kernel_rfl) true q4)) ?_ (fK (.pointer (some ⟨gi, 2 * j + 1, none⟩)) fW (Below.refl _ _) (by rw [hT]; exact rfl))
            clear fK hE hF
            go_simp
            rw [if_pos (show (0 : Int) ≤ 2 * (j : Int) + 1 by omega), show (2 * (j : Int) + 1).toNat = 2 * j + 1 by omega]
          refine stepsAll_cons (k := 20) ?_ ?_
          · intro fa fx fW hF fB hE K fK
            have q4 : fx 4 = .bool true := by have q := hE ⟨4, .guard⟩ (by simp) rfl; rw [hT] at q; exact q
            have q19 : fx 19 = .pointer (some ⟨gi, 2 * j + 1, none⟩) := by have q := hE ⟨19, .data⟩ (by simp) rfl; rw [hT] at q; exact q
            have ev49 : fa.tmps[49]?.getD undef = .pointer (some ⟨gi, 2 * j + 1, none⟩) := (hF.ev 19 49 (by kernel_rfl)).trans q19
            have k0 := cell_below fB HQ1.out
            refine wpOp_val rfl (wanted_yes rfl (hF.yes 4 34 (by kernel_rfl) true q4)) ?_ (fK (.int .i64 x1) fW (Below.refl _ _) (by rw [hT]; exact rfl))
            clear fK hE hF
            go_simp
          refine stepsAll_cons (k := 21) ?_ ?_
          · intro fa fx fW hF fB hE K fK
            have q4 : fx 4 = .bool true := by have q := hE ⟨4, .chain⟩ (by simp) rfl; rw [hT] at q; exact q
            have q5 : fx 5 = .func (.func 34) #[.pointer (some ⟨b, 0, none⟩)] #[] := by have q := hE ⟨5, .data⟩ (by simp) rfl; rw [hT] at q; exact q
            have q13 : fx 13 = .int .i64 x2 := by have q := hE ⟨13, .data⟩ (by simp) rfl; rw [hT] at q; exact q
            have q20 : fx 20 = .int .i64 x1 := by have q := hE ⟨20, .data⟩ (by simp) rfl; rw [hT] at q; exact q
            have ev35 : fa.tmps[35]?.getD undef = .func (.func 34) #[.pointer (some ⟨b, 0, none⟩)] #[] := (hF.ev 5 35 (by kernel_rfl)).trans q5
            have ev43 : fa.tmps[43]?.getD undef = .int .i64 x2 := (hF.ev 13 43 (by kernel_rfl)).trans q13
            have ev50 : fa.tmps[50]?.getD undef = .int .i64 x1 := (hF.ev 20 50 (by kernel_rfl)).trans q20
            refine wpOp_call rfl (wanted_yes rfl (hF.yes 4 34 (by kernel_rfl) true q4)) (by go_simp; exact ⟨rfl, rfl⟩) ?_
            refine (HOR.out fW fB).mono ?_
            rintro e w1 ⟨rfl, hb1⟩
            exact ⟨_, rfl, fK (_) (w1) (hb1) (by rw [hT]; exact rfl)⟩
          refine stepsAll_cons (k := 22) ?_ ?_
          · intro fa fx fW hF fB hE K fK
            have q4 : fx 4 = .bool true := by have q := hE ⟨4, .guard⟩ (by simp) rfl; rw [hT] at q; exact q
            have q21 : fx 21 = .int .i64 od := by have q := hE ⟨21, .data⟩ (by simp) rfl; rw [hT] at q; exact q
            have ev51 : fa.tmps[51]?.getD undef = .int .i64 od := (hF.ev 21 51 (by kernel_rfl)).trans q21
            refine wpOp_val rfl (wanted_yes rfl (hF.yes 4 34 (by kernel_rfl) true q4)) ?_ (fK (.bool (decide (od < 0))) fW (Below.refl _ _) (by rw [hT]; exact rfl))
            clear fK hE hF
            go_simp
          refine stepsAll_cons (k := 23) ?_ ?_
          · intro fa fx fW hF fB hE K fK
            have q4 : fx 4 = .bool true := by have q := hE ⟨4, .data⟩ (by simp) rfl; rw [hT] at q; exact q
            have q22 : fx 22 = .bool (decide (od < 0)) := by have q := hE ⟨22, .data⟩ (by simp) rfl; rw [hT] at q; exact q
            have ev34 : fa.tmps[34]?.getD undef = .bool true := (hF.ev 4 34 (by kernel_rfl)).trans q4
            have ev52 : fa.tmps[52]?.getD undef = .bool (decide (od < 0)) := (hF.ev 22 52 (by kernel_rfl)).trans q22
            refine wpOp_val rfl (wanted_none rfl) ?_ (fK (.bool (decide (od < 0))) fW (Below.refl _ _) (by rw [hT]; exact rfl))
            clear fK hE hF
            go_simp
          refine stepsAll_cons (k := 24) ?_ ?_
          · intro fa fx fW hF fB hE K fK
            have q23 : fx 23 = .bool (decide (od < 0)) := by have q := hE ⟨23, .data⟩ (by simp) rfl; rw [hT] at q; exact q
            have ev53 : fa.tmps[53]?.getD undef = .bool (decide (od < 0)) := (hF.ev 23 53 (by kernel_rfl)).trans q23
            refine wpOp_val rfl (wanted_none rfl) ?_ (fK (.bool (decide (od < 0))) fW (Below.refl _ _) (by rw [hT]; exact rfl))
            clear fK hE hF
            go_simp
          exact stepsAll_nil
        intro fa fx fW hF fB hx
        have q24 : fx 24 = .bool (decide (od < 0)) := by have q := hx 24 (by decide); rw [hT] at q; exact q
        have ev29 : fa.tmps[29]?.getD undef = .bool (decide (od < 0)) := (hF.ev 24 29 (by kernel_rfl)).trans q24
        rw [hF.eq]
        clear hF hx
        simp only [putAll, Act.put, List.setIfInBounds_toArray, List.set_cons_zero, List.set_cons_succ, q24]
        obtain ⟨W2, rfl⟩ : ∃ x, x = fW := ⟨_, rfl⟩
        have hbA : Below W1.heap.size W1 W2 := fB
        by_cases hc : od < 0
        · have hB2 : belowV ks j t = 2 * j + 2 := by rw [HB.out, if_pos ⟨hl2, hc⟩]
          rw [decide_eq_true hc]
          clear HOR HQ1 HQ2 HB
          have hbl : 2 * j + 2 < t.1.length := by rw [HT.out]; omega
          obtain ⟨qb, _, _⟩ := rowGet HSW.io hbl
          rw [zs_getD _ _ hbl] at qb
          have hbd := HTI.out.get hbl
          obtain ⟨x, hx⟩ : ∃ x, t.1.getD (2 * j + 2) 0 = x := ⟨_, rfl⟩
          rw [hx] at qb hbd
          have HQB : Hid (∀ W, Below W1.heap.size W1 W → W.cell? ⟨b, 0, none⟩ = some (.slice (some ⟨gi, 0, none⟩) len ci) ∧ W.cell? ⟨gi, 2 * j + 2, none⟩ = some (.int .i64 (x : Int))) := fun W hb => ⟨cell_below hb k1, cell_below hb qb⟩
          have HORD := Lib.hid (fun W (hb : Below W1.heap.size W1 W) => horder b gk n ck base ks id x W (HKW.below hb).kb (HKW.below hb).ko hid hbd)
          have hst := HU.out.2
          unfold downV at hst
          rw [if_neg (by rw [HT.out]; exact h1), hB2, hx] at hst
          by_cases hle : ordV ks id x ≤ 0
          · rw [if_pos hle] at hst
            have HST := Lib.hid hst
            have HSE := Lib.hid (fun W (hb : Below W1.heap.size W1 W) => hset b gi gp base n ci cp t j id j W rfl (HSW.below hb) hjt hid)
            clear hst HU hx k1 qb
            obtain ⟨k2, k3⟩ := HQB.out _ hbA
            go_wp2_with (first
              | (go_at_call 34; (with_reducible refine (HORD.out _ hbA).mono ?_); rintro e w1 ⟨rfl, hb1⟩)
              | (go_at_call 44; (with_reducible refine (HSE.out _ (below_tr hbA hb1)).mono ?_); rintro e w2 ⟨rfl, hs1, hc1⟩))
            rw [Exit.noGoto_normal]
            exact bodyPost_end (v := .tuple #[]) (by simp [results, Try.results45, go_sem]) rfl ⟨rfl, by rw [← HST.out]; exact hs1, (HCH.trans (.of_below (below_tr hbA hb1))).trans hc1⟩
          · rw [if_neg hle] at hst
            have HST := Lib.hid hst
            have HSE := Lib.hid (fun W (hb : Below W1.heap.size W1 W) => hset b gi gp base n ci cp t j x j W rfl (HSW.below hb) hjt hbd)
            have HF : Hid (len ≤ 2 * j + 2 + f') := by have := HU.out.1; show _ ≤ _; omega
            clear hst HU hx k1 qb
            obtain ⟨k2, k3⟩ := HQB.out _ hbA
            go_wp2_with (first
              | (go_at_call 34; (with_reducible refine (HORD.out _ hbA).mono ?_); rintro e w1 ⟨rfl, hb1⟩; obtain ⟨k4, k5⟩ := HQB.out _ (below_tr hbA hb1))
              | (go_at_call 44; (with_reducible refine (HSE.out _ (below_tr hbA hb1)).mono ?_); rintro e w2 ⟨rfl, hs1, hc1⟩))
            go_roundw
            case rel => exact ⟨2 * j + 2, f', hputV t j x, by omega, by go_num, (show Hid _ from (List.length_set ..).trans HT.out), (show Hid _ from HTI.out.put _ _ hbd), ⟨HF.out, HST.out⟩, hs1, (HKW.below (below_tr hbA hb1)).keep hc1 (by have := HSW.n1; have := HSW.n2; omega) (by omega), (HCH.trans (.of_below (below_tr hbA hb1))).trans hc1⟩
            case measure => simp only [intOf]; omega
        · have hB2 : belowV ks j t = 2 * j + 1 := by rw [HB.out, if_neg (fun h => hc h.2)]
          rw [decide_eq_false hc]
          clear HOR HQ1 HQ2 HB
          have hbl : 2 * j + 1 < t.1.length := by rw [HT.out]; omega
          obtain ⟨qb, _, _⟩ := rowGet HSW.io hbl
          rw [zs_getD _ _ hbl] at qb
          have hbd := HTI.out.get hbl
          obtain ⟨x, hx⟩ : ∃ x, t.1.getD (2 * j + 1) 0 = x := ⟨_, rfl⟩
          rw [hx] at qb hbd
          have HQB : Hid (∀ W, Below W1.heap.size W1 W → W.cell? ⟨b, 0, none⟩ = some (.slice (some ⟨gi, 0, none⟩) len ci) ∧ W.cell? ⟨gi, 2 * j + 1, none⟩ = some (.int .i64 (x : Int))) := fun W hb => ⟨cell_below hb k1, cell_below hb qb⟩
          have HORD := Lib.hid (fun W (hb : Below W1.heap.size W1 W) => horder b gk n ck base ks id x W (HKW.below hb).kb (HKW.below hb).ko hid hbd)
          have hst := HU.out.2
          unfold downV at hst
          rw [if_neg (by rw [HT.out]; exact h1), hB2, hx] at hst
          by_cases hle : ordV ks id x ≤ 0
          · rw [if_pos hle] at hst
            have HST := Lib.hid hst
            have HSE := Lib.hid (fun W (hb : Below W1.heap.size W1 W) => hset b gi gp base n ci cp t j id j W rfl (HSW.below hb) hjt hid)
            clear hst HU hx k1 qb
            obtain ⟨k2, k3⟩ := HQB.out _ hbA
            go_wp2_with (first
              | (go_at_call 34; (with_reducible refine (HORD.out _ hbA).mono ?_); rintro e w1 ⟨rfl, hb1⟩)
              | (go_at_call 44; (with_reducible refine (HSE.out _ (below_tr hbA hb1)).mono ?_); rintro e w2 ⟨rfl, hs1, hc1⟩))
            rw [Exit.noGoto_normal]
            exact bodyPost_end (v := .tuple #[]) (by simp [results, Try.results45, go_sem]) rfl ⟨rfl, by rw [← HST.out]; exact hs1, (HCH.trans (.of_below (below_tr hbA hb1))).trans hc1⟩
          · rw [if_neg hle] at hst
            have HST := Lib.hid hst
            have HSE := Lib.hid (fun W (hb : Below W1.heap.size W1 W) => hset b gi gp base n ci cp t j x j W rfl (HSW.below hb) hjt hbd)
            have HF : Hid (len ≤ 2 * j + 1 + f') := by have := HU.out.1; show _ ≤ _; omega
            clear hst HU hx k1 qb
            obtain ⟨k2, k3⟩ := HQB.out _ hbA
            go_wp2_with (first
              | (go_at_call 34; (with_reducible refine (HORD.out _ hbA).mono ?_); rintro e w1 ⟨rfl, hb1⟩; obtain ⟨k4, k5⟩ := HQB.out _ (below_tr hbA hb1))
              | (go_at_call 44; (with_reducible refine (HSE.out _ (below_tr hbA hb1)).mono ?_); rintro e w2 ⟨rfl, hs1, hc1⟩))
            go_roundw
            case rel => exact ⟨2 * j + 1, f', hputV t j x, by omega, by go_num, (show Hid _ from (List.length_set ..).trans HT.out), (show Hid _ from HTI.out.put _ _ hbd), ⟨HF.out, HST.out⟩, hs1, (HKW.below (below_tr hbA hb1)).keep hc1 (by have := HSW.n1; have := HSW.n2; omega) (by omega), (HCH.trans (.of_below (below_tr hbA hb1))).trans hc1⟩
            case measure => simp only [intOf]; omega
      · have hA' : ¬ (2 * (j : Int) + 1 + 1) < (len : Int) := by omega
        have hB2 : belowV ks j t = 2 * j + 1 := by unfold belowV; rw [if_neg (fun h => hA (by rw [← HT.out]; exact h.1))]
        go_wp2_with fail
        obtain ⟨T, hT⟩ : ∃ T : Nat → Fact, ∀ t_, T t_ = ([Fact.eq (.int .i64 (2 * (j : Int) + 1)), Fact.eq (.int .i64 (2 * (j : Int) + 1 + 1)), Fact.eq (.int .i64 len), Fact.eq (.bool false), Fact.eq (.bool false), Fact.eq (undef), Fact.eq (undef), Fact.eq (undef), Fact.eq (undef), Fact.eq (undef), Fact.eq (undef), Fact.eq (undef), Fact.eq (undef), Fact.eq (undef), Fact.eq (undef), Fact.eq (undef), Fact.eq (undef), Fact.eq (undef), Fact.eq (undef), Fact.eq (undef), Fact.eq (undef), Fact.eq (undef), Fact.eq (undef), Fact.eq (.bool false), Fact.eq (.bool false)] : List (Fact)).getD t_ Fact.any := ⟨_, fun _ => rfl⟩
        refine region_tab [(0, 30), (1, 31), (2, 32), (3, 33), (4, 34), (5, 35), (6, 36), (7, 37), (8, 38), (9, 39), (10, 40), (11, 41), (12, 42), (13, 43), (14, 44), (15, 45), (16, 46), (17, 47), (18, 48), (19, 49), (20, 50), (21, 51), (22, 52), (23, 53), (24, 29)] T (by kernel_rfl) (by kernel_rfl) (by kernel_rfl) (by kernel_rfl) (by kernel_rfl) ?_ ?_
        · skip
          refine stepsAll_cons (k := 0) ?_ ?_
          · intro fa fx fW hF fB hE K fK
            have ev6 : fa.tmps[6]?.getD undef = .int .i64 (2 * (j : Int) + 1) := hF.eo 6 (by kernel_rfl)
            refine wpOp_val rfl (wanted_none rfl) ?_ (fK (.int .i64 (2 * (j : Int) + 1)) fW (Below.refl _ _) (by rw [hT]; exact rfl))
            clear fK hE hF
            go_simp
          refine stepsAll_cons (k := 1) ?_ ?_
          · intro fa fx fW hF fB hE K fK
            have q0 : fx 0 = .int .i64 (2 * (j : Int) + 1) := by have q := hE ⟨0, .data⟩ (by simp) rfl; rw [hT] at q; exact q
            have ev30 : fa.tmps[30]?.getD undef = .int .i64 (2 * (j : Int) + 1) := (hF.ev 0 30 (by kernel_rfl)).trans q0
            refine wpOp_val rfl (wanted_none rfl) ?_ (fK (.int .i64 (2 * (j : Int) + 1 + 1)) fW (Below.refl _ _) (by rw [hT]; exact rfl))
            clear fK hE hF
            go_simp
            exact HWR.out
          refine stepsAll_cons (k := 2) ?_ ?_
          · intro fa fx fW hF fB hE K fK
            have ev7 : fa.tmps[7]?.getD undef = .int .i64 len := hF.eo 7 (by kernel_rfl)
            refine wpOp_val rfl (wanted_none rfl) ?_ (fK (.int .i64 len) fW (Below.refl _ _) (by rw [hT]; exact rfl))
            clear fK hE hF
            go_simp
          refine stepsAll_cons (k := 3) ?_ ?_
          · intro fa fx fW hF fB hE K fK
            have q1 : fx 1 = .int .i64 (2 * (j : Int) + 1 + 1) := by have q := hE ⟨1, .data⟩ (by simp) rfl; rw [hT] at q; exact q
            have q2 : fx 2 = .int .i64 len := by have q := hE ⟨2, .data⟩ (by simp) rfl; rw [hT] at q; exact q
            have ev31 : fa.tmps[31]?.getD undef = .int .i64 (2 * (j : Int) + 1 + 1) := (hF.ev 1 31 (by kernel_rfl)).trans q1
            have ev32 : fa.tmps[32]?.getD undef = .int .i64 len := (hF.ev 2 32 (by kernel_rfl)).trans q2
            refine wpOp_val rfl (wanted_none rfl) ?_ (fK (.bool false) fW (Below.refl _ _) (by rw [hT]; exact rfl))
            clear fK hE hF
            go_simp
          refine stepsAll_cons (k := 4) ?_ ?_
          · intro fa fx fW hF fB hE K fK
            have q3 : fx 3 = .bool false := by have q := hE ⟨3, .data⟩ (by simp) rfl; rw [hT] at q; exact q
            have ev33 : fa.tmps[33]?.getD undef = .bool false := (hF.ev 3 33 (by kernel_rfl)).trans q3
            refine wpOp_val rfl (wanted_none rfl) ?_ (fK (.bool false) fW (Below.refl _ _) (by rw [hT]; exact rfl))
            clear fK hE hF
            go_simp
          refine stepsAll_cons (k := 5) ?_ ?_
          · intro fa fx fW hF fB hE K fK
            have q4 : fx 4 = .bool false := by have q := hE ⟨4, .guard⟩ (by simp) rfl; rw [hT] at q; exact q
            have ev5 : fa.tmps[5]?.getD undef = .func (.func 34) #[.pointer (some ⟨b, 0, none⟩)] #[] := hF.eo 5 (by kernel_rfl)
            exact wpOp_skip rfl (by simp [Region.wanted, hF.yes 4 34 (by kernel_rfl) false q4]) (fK undef fW (Below.refl _ _) (by rw [hT]; exact rfl))
          refine stepsAll_cons (k := 6) ?_ ?_
          · intro fa fx fW hF fB hE K fK
            have q4 : fx 4 = .bool false := by have q := hE ⟨4, .guard⟩ (by simp) rfl; rw [hT] at q; exact q
            have ev0 : fa.tmps[0]?.getD undef = .pointer (some ⟨b, 0, none⟩) := hF.eo 0 (by kernel_rfl)
            exact wpOp_skip rfl (by simp [Region.wanted, hF.yes 4 34 (by kernel_rfl) false q4]) (fK undef fW (Below.refl _ _) (by rw [hT]; exact rfl))
          refine stepsAll_cons (k := 7) ?_ ?_
          · intro fa fx fW hF fB hE K fK
            have q4 : fx 4 = .bool false := by have q := hE ⟨4, .guard⟩ (by simp) rfl; rw [hT] at q; exact q
            have q6 : fx 6 = undef := by have q := hE ⟨6, .data⟩ (by simp) rfl; rw [hT] at q; exact q
            have ev36 : fa.tmps[36]?.getD undef = undef := (hF.ev 6 36 (by kernel_rfl)).trans q6
            exact wpOp_skip rfl (by simp [Region.wanted, hF.yes 4 34 (by kernel_rfl) false q4]) (fK undef fW (Below.refl _ _) (by rw [hT]; exact rfl))
          refine stepsAll_cons (k := 8) ?_ ?_
          · intro fa fx fW hF fB hE K fK
            have q4 : fx 4 = .bool false := by have q := hE ⟨4, .guard⟩ (by simp) rfl; rw [hT] at q; exact q
            have q7 : fx 7 = undef := by have q := hE ⟨7, .data⟩ (by simp) rfl; rw [hT] at q; exact q
            have ev37 : fa.tmps[37]?.getD undef = undef := (hF.ev 7 37 (by kernel_rfl)).trans q7
            exact wpOp_skip rfl (by simp [Region.wanted, hF.yes 4 34 (by kernel_rfl) false q4]) (fK undef fW (Below.refl _ _) (by rw [hT]; exact rfl))
          refine stepsAll_cons (k := 9) ?_ ?_
          · intro fa fx fW hF fB hE K fK
            have q4 : fx 4 = .bool false := by have q := hE ⟨4, .guard⟩ (by simp) rfl; rw [hT] at q; exact q
            have q8 : fx 8 = undef := by have q := hE ⟨8, .data⟩ (by simp) rfl; rw [hT] at q; exact q
            have ev38 : fa.tmps[38]?.getD undef = undef := (hF.ev 8 38 (by kernel_rfl)).trans q8
            exact wpOp_skip rfl (by simp [Region.wanted, hF.yes 4 34 (by kernel_rfl) false q4]) (fK undef fW (Below.refl _ _) (by rw [hT]; exact rfl))
          refine stepsAll_cons (k := 10) ?_ ?_
          · intro fa fx fW hF fB hE K fK
            have q4 : fx 4 = .bool false := by have q := hE ⟨4, .guard⟩ (by simp) rfl; rw [hT] at q; exact q
            have ev6 : fa.tmps[6]?.getD undef = .int .i64 (2 * (j : Int) + 1) := hF.eo 6 (by kernel_rfl)
            exact wpOp_skip rfl (by simp [Region.wanted, hF.yes 4 34 (by kernel_rfl) false q4]) (fK undef fW (Below.refl _ _) (by rw [hT]; exact rfl))
          refine stepsAll_cons (k := 11) ?_ ?_
          · intro fa fx fW hF fB hE K fK
            have q4 : fx 4 = .bool false := by have q := hE ⟨4, .guard⟩ (by simp) rfl; rw [hT] at q; exact q
            have q10 : fx 10 = undef := by have q := hE ⟨10, .data⟩ (by simp) rfl; rw [hT] at q; exact q
            have ev40 : fa.tmps[40]?.getD undef = undef := (hF.ev 10 40 (by kernel_rfl)).trans q10
            exact wpOp_skip rfl (by simp [Region.wanted, hF.yes 4 34 (by kernel_rfl) false q4]) (fK undef fW (Below.refl _ _) (by rw [hT]; exact rfl))
          refine stepsAll_cons (k := 12) ?_ ?_
          · intro fa fx fW hF fB hE K fK
            have q4 : fx 4 = .bool false := by have q := hE ⟨4, .guard⟩ (by simp) rfl; rw [hT] at q; exact q
            have q9 : fx 9 = undef := by have q := hE ⟨9, .data⟩ (by simp) rfl; rw [hT] at q; exact q
            have q11 : fx 11 = undef := by have q := hE ⟨11, .data⟩ (by simp) rfl; rw [hT] at q; exact q
            have ev39 : fa.tmps[39]?.getD undef = undef := (hF.ev 9 39 (by kernel_rfl)).trans q9
            have ev41 : fa.tmps[41]?.getD undef = undef := (hF.ev 11 41 (by kernel_rfl)).trans q11
            exact wpOp_skip rfl (by simp [Region.wanted, hF.yes 4 34 (by kernel_rfl) false q4]) (fK undef fW (Below.refl _ _) (by rw [hT]; exact rfl))
          refine stepsAll_cons (k := 13) ?_ ?_
          · intro fa fx fW hF fB hE K fK
            have q4 : fx 4 = .bool false := by have q := hE ⟨4, .guard⟩ (by simp) rfl; rw [hT] at q; exact q
            have q12 : fx 12 = undef := by have q := hE ⟨12, .data⟩ (by simp) rfl; rw [hT] at q; exact q
            have ev42 : fa.tmps[42]?.getD undef = undef := (hF.ev 12 42 (by kernel_rfl)).trans q12
            exact wpOp_skip rfl (by simp [Region.wanted, hF.yes 4 34 (by kernel_rfl) false q4]) (fK undef fW (Below.refl _ _) (by rw [hT]; exact rfl))
          refine stepsAll_cons (k := 14) ?_ ?_
          · intro fa fx fW hF fB hE K fK
            have q4 : fx 4 = .bool false := by have q := hE ⟨4, .guard⟩ (by simp) rfl; rw [hT] at q; exact q
            have ev0 : fa.tmps[0]?.getD undef = .pointer (some ⟨b, 0, none⟩) := hF.eo 0 (by kernel_rfl)
            exact wpOp_skip rfl (by simp [Region.wanted, hF.yes 4 34 (by kernel_rfl) false q4]) (fK undef fW (Below.refl _ _) (by rw [hT]; exact rfl))
          refine stepsAll_cons (k := 15) ?_ ?_
          · intro fa fx fW hF fB hE K fK
            have q4 : fx 4 = .bool false := by have q := hE ⟨4, .guard⟩ (by simp) rfl; rw [hT] at q; exact q
            have q14 : fx 14 = undef := by have q := hE ⟨14, .data⟩ (by simp) rfl; rw [hT] at q; exact q
            have ev44 : fa.tmps[44]?.getD undef = undef := (hF.ev 14 44 (by kernel_rfl)).trans q14
            exact wpOp_skip rfl (by simp [Region.wanted, hF.yes 4 34 (by kernel_rfl) false q4]) (fK undef fW (Below.refl _ _) (by rw [hT]; exact rfl))
          refine stepsAll_cons (k := 16) ?_ ?_
          · intro fa fx fW hF fB hE K fK
            have q4 : fx 4 = .bool false := by have q := hE ⟨4, .guard⟩ (by simp) rfl; rw [hT] at q; exact q
            have q15 : fx 15 = undef := by have q := hE ⟨15, .data⟩ (by simp) rfl; rw [hT] at q; exact q
            have ev45 : fa.tmps[45]?.getD undef = undef := (hF.ev 15 45 (by kernel_rfl)).trans q15
            exact wpOp_skip rfl (by simp [Region.wanted, hF.yes 4 34 (by kernel_rfl) false q4]) (fK undef fW (Below.refl _ _) (by rw [hT]; exact rfl))
          refine stepsAll_cons (k := 17) ?_ ?_
          · intro fa fx fW hF fB hE K fK
            have q4 : fx 4 = .bool false := by have q := hE ⟨4, .guard⟩ (by simp) rfl; rw [hT] at q; exact q
            have q16 : fx 16 = undef := by have q := hE ⟨16, .data⟩ (by simp) rfl; rw [hT] at q; exact q
            have ev46 : fa.tmps[46]?.getD undef = undef := (hF.ev 16 46 (by kernel_rfl)).trans q16
            exact wpOp_skip rfl (by simp [Region.wanted, hF.yes 4 34 (by kernel_rfl) false q4]) (fK undef fW (Below.refl _ _) (by rw [hT]; exact rfl))
          refine stepsAll_cons (k := 18) ?_ ?_
          · intro fa fx fW hF fB hE K fK
            have q4 : fx 4 = .bool false := by have q := hE ⟨4, .guard⟩ (by simp) rfl; rw [hT] at q; exact q
            have ev6 : fa.tmps[6]?.getD undef = .int .i64 (2 * (j : Int) + 1) := hF.eo 6 (by kernel_rfl)
            exact wpOp_skip rfl (by simp [Region.wanted, hF.yes 4 34 (by kernel_rfl) false q4]) (fK undef fW (Below.refl _ _) (by rw [hT]; exact rfl))
          refine stepsAll_cons (k := 19) ?_ ?_
          · intro fa fx fW hF fB hE K fK
            have q4 : fx 4 = .bool false := by have q := hE ⟨4, .guard⟩ (by simp) rfl; rw [hT] at q; exact q
            have q17 : fx 17 = undef := by have q := hE ⟨17, .data⟩ (by simp) rfl; rw [hT] at q; exact q
            have q18 : fx 18 = undef := by have q := hE ⟨18, .data⟩ (by simp) rfl; rw [hT] at q; exact q
            have ev47 : fa.tmps[47]?.getD undef = undef := (hF.ev 17 47 (by kernel_rfl)).trans q17
            have ev48 : fa.tmps[48]?.getD undef = undef := (hF.ev 18 48 (by kernel_rfl)).trans q18
            exact wpOp_skip rfl (by simp [Region.wanted, hF.yes 4 34 (by kernel_rfl) false q4]) (fK undef fW (Below.refl _ _) (by rw [hT]; exact rfl))
          refine stepsAll_cons (k := 20) ?_ ?_
          · intro fa fx fW hF fB hE K fK
            have q4 : fx 4 = .bool false := by have q := hE ⟨4, .guard⟩ (by simp) rfl; rw [hT] at q; exact q
            have q19 : fx 19 = undef := by have q := hE ⟨19, .data⟩ (by simp) rfl; rw [hT] at q; exact q
            have ev49 : fa.tmps[49]?.getD undef = undef := (hF.ev 19 49 (by kernel_rfl)).trans q19
            exact wpOp_skip rfl (by simp [Region.wanted, hF.yes 4 34 (by kernel_rfl) false q4]) (fK undef fW (Below.refl _ _) (by rw [hT]; exact rfl))
          refine stepsAll_cons (k := 21) ?_ ?_
          · intro fa fx fW hF fB hE K fK
            have q4 : fx 4 = .bool false := by have q := hE ⟨4, .chain⟩ (by simp) rfl; rw [hT] at q; exact q
            have q5 : fx 5 = undef := by have q := hE ⟨5, .data⟩ (by simp) rfl; rw [hT] at q; exact q
            have q13 : fx 13 = undef := by have q := hE ⟨13, .data⟩ (by simp) rfl; rw [hT] at q; exact q
            have q20 : fx 20 = undef := by have q := hE ⟨20, .data⟩ (by simp) rfl; rw [hT] at q; exact q
            have ev35 : fa.tmps[35]?.getD undef = undef := (hF.ev 5 35 (by kernel_rfl)).trans q5
            have ev43 : fa.tmps[43]?.getD undef = undef := (hF.ev 13 43 (by kernel_rfl)).trans q13
            have ev50 : fa.tmps[50]?.getD undef = undef := (hF.ev 20 50 (by kernel_rfl)).trans q20
            exact wpOp_skip rfl (by simp [Region.wanted, hF.yes 4 34 (by kernel_rfl) false q4]) (fK undef fW (Below.refl _ _) (by rw [hT]; exact rfl))
          refine stepsAll_cons (k := 22) ?_ ?_
          · intro fa fx fW hF fB hE K fK
            have q4 : fx 4 = .bool false := by have q := hE ⟨4, .guard⟩ (by simp) rfl; rw [hT] at q; exact q
            have q21 : fx 21 = undef := by have q := hE ⟨21, .data⟩ (by simp) rfl; rw [hT] at q; exact q
            have ev51 : fa.tmps[51]?.getD undef = undef := (hF.ev 21 51 (by kernel_rfl)).trans q21
            exact wpOp_skip rfl (by simp [Region.wanted, hF.yes 4 34 (by kernel_rfl) false q4]) (fK undef fW (Below.refl _ _) (by rw [hT]; exact rfl))
          refine stepsAll_cons (k := 23) ?_ ?_
          · intro fa fx fW hF fB hE K fK
            have q4 : fx 4 = .bool false := by have q := hE ⟨4, .data⟩ (by simp) rfl; rw [hT] at q; exact q
            have q22 : fx 22 = undef := by have q := hE ⟨22, .data⟩ (by simp) rfl; rw [hT] at q; exact q
            have ev34 : fa.tmps[34]?.getD undef = .bool false := (hF.ev 4 34 (by kernel_rfl)).trans q4
            have ev52 : fa.tmps[52]?.getD undef = undef := (hF.ev 22 52 (by kernel_rfl)).trans q22
            refine wpOp_val rfl (wanted_none rfl) ?_ (fK (.bool false) fW (Below.refl _ _) (by rw [hT]; exact rfl))
            clear fK hE hF
            go_simp
          refine stepsAll_cons (k := 24) ?_ ?_
          · intro fa fx fW hF fB hE K fK
            have q23 : fx 23 = .bool false := by have q := hE ⟨23, .data⟩ (by simp) rfl; rw [hT] at q; exact q
            have ev53 : fa.tmps[53]?.getD undef = .bool false := (hF.ev 23 53 (by kernel_rfl)).trans q23
            refine wpOp_val rfl (wanted_none rfl) ?_ (fK (.bool false) fW (Below.refl _ _) (by rw [hT]; exact rfl))
            clear fK hE hF
            go_simp
          exact stepsAll_nil
        intro fa fx fW hF fB hx
        have q24 : fx 24 = .bool false := by have q := hx 24 (by decide); rw [hT] at q; exact q
        have ev29 : fa.tmps[29]?.getD undef = .bool false := (hF.ev 24 29 (by kernel_rfl)).trans q24
        rw [hF.eq]
        clear hF hx
        simp only [putAll, Act.put, List.setIfInBounds_toArray, List.set_cons_zero, List.set_cons_succ, q24]
        obtain ⟨W2, rfl⟩ : ∃ x, x = fW := ⟨_, rfl⟩
        have hbA : Below W1.heap.size W1 W2 := fB
        have hbl : 2 * j + 1 < t.1.length := by rw [HT.out]; omega
        obtain ⟨qb, _, _⟩ := rowGet HSW.io hbl
        rw [zs_getD _ _ hbl] at qb
        have hbd := HTI.out.get hbl
        obtain ⟨x, hx⟩ : ∃ x, t.1.getD (2 * j + 1) 0 = x := ⟨_, rfl⟩
        rw [hx] at qb hbd
        have HQB : Hid (∀ W, Below W1.heap.size W1 W → W.cell? ⟨b, 0, none⟩ = some (.slice (some ⟨gi, 0, none⟩) len ci) ∧ W.cell? ⟨gi, 2 * j + 1, none⟩ = some (.int .i64 (x : Int))) := fun W hb => ⟨cell_below hb k1, cell_below hb qb⟩
        have HORD := Lib.hid (fun W (hb : Below W1.heap.size W1 W) => horder b gk n ck base ks id x W (HKW.below hb).kb (HKW.below hb).ko hid hbd)
        have hst := HU.out.2
        unfold downV at hst
        rw [if_neg (by rw [HT.out]; exact h1), hB2, hx] at hst
        by_cases hle : ordV ks id x ≤ 0
        · rw [if_pos hle] at hst
          have HST := Lib.hid hst
          have HSE := Lib.hid (fun W (hb : Below W1.heap.size W1 W) => hset b gi gp base n ci cp t j id j W rfl (HSW.below hb) hjt hid)
          clear hst HU hx k1 qb
          obtain ⟨k2, k3⟩ := HQB.out _ hbA
          go_wp2_with (first
            | (go_at_call 34; (with_reducible refine (HORD.out _ hbA).mono ?_); rintro e w1 ⟨rfl, hb1⟩)
            | (go_at_call 44; (with_reducible refine (HSE.out _ (below_tr hbA hb1)).mono ?_); rintro e w2 ⟨rfl, hs1, hc1⟩))
          rw [Exit.noGoto_normal]
          exact bodyPost_end (v := .tuple #[]) (by simp [results, Try.results45, go_sem]) rfl ⟨rfl, by rw [← HST.out]; exact hs1, (HCH.trans (.of_below (below_tr hbA hb1))).trans hc1⟩
        · rw [if_neg hle] at hst
          have HST := Lib.hid hst
          have HSE := Lib.hid (fun W (hb : Below W1.heap.size W1 W) => hset b gi gp base n ci cp t j x j W rfl (HSW.below hb) hjt hbd)
          have HF : Hid (len ≤ 2 * j + 1 + f') := by have := HU.out.1; show _ ≤ _; omega
          clear hst HU hx k1 qb
          obtain ⟨k2, k3⟩ := HQB.out _ hbA
          go_wp2_with (first
            | (go_at_call 34; (with_reducible refine (HORD.out _ hbA).mono ?_); rintro e w1 ⟨rfl, hb1⟩; obtain ⟨k4, k5⟩ := HQB.out _ (below_tr hbA hb1))
            | (go_at_call 44; (with_reducible refine (HSE.out _ (below_tr hbA hb1)).mono ?_); rintro e w2 ⟨rfl, hs1, hc1⟩))
          go_roundw
          case rel => exact ⟨2 * j + 1, f', hputV t j x, by omega, by go_num, (show Hid _ from (List.length_set ..).trans HT.out), (show Hid _ from HTI.out.put _ _ hbd), ⟨HF.out, HST.out⟩, hs1, (HKW.below (below_tr hbA hb1)).keep hc1 (by have := HSW.n1; have := HSW.n2; omega) (by omega), (HCH.trans (.of_below (below_tr hbA hb1))).trans hc1⟩
          case measure => simp only [intOf]; omega
end Go.Proofs.Ytopikpjagjnbhaa
