/- alike: both tell the same of a thread, and of all. -/
import Derived.Test.YtabdipfpfbdghaaGreatZRefQ4
import Derived.Test.YtabdipfpfbdghaaGreatZInts03
namespace Go.Proofs.YtabdipfpfbdghaaGreat
open Go.RowKit
variable {base b g c hb mb mg cm n k : Nat} {F : FrQ} {w : World} {q : QV}
/-- A thread's row; of none: the zero row. -/
def rowN (n : Nat) (q : QV) (z : Int) : RowQ := if inZ n z then rowZ q z else row0
theorem apass (Q : Qx NoT F w b g c hb n q) (J : QJ n q k) (z : Int) :
    Calls Tryz.prog 17 #[.pointer (some ⟨b, 0, none⟩), .int .i64 z] w fun e w' => e = .returned (.tuple #[.int .i64 (rowN n q z).ps, .bool (decide ((rowN n q z).st ≠ 0))]) ∧ w = w' := by
  unfold rowN
  by_cases hi : inZ n z
  · rw [if_pos hi]
    obtain ⟨x, hz, hx, hzx⟩ := inZ_nat hi
    unfold rowZ
    rw [hzx]
    refine (qpass Q x z hz hx).mono ?_
    rintro e w' ⟨he, hw⟩
    refine ⟨he.trans ?_, hw⟩
    by_cases h0 : (q.rows.getD x row0).st = 0
    · rw [if_pos h0, J.z x hx h0]
    · rw [if_neg h0]
  · rw [if_neg hi]
    exact qpassOut Q z (inZ_out hi)
theorem astate (Q : Qx NoT F w b g c hb n q) (z : Int) :
    Calls Tryz.prog 18 #[.pointer (some ⟨b, 0, none⟩), .int .i64 z] w fun e w' => e = .returned (.int .i64 (rowN n q z).st) ∧ w = w' := by
  unfold rowN
  by_cases hi : inZ n z
  · rw [if_pos hi]
    obtain ⟨x, hz, hx, hzx⟩ := inZ_nat hi
    unfold rowZ
    rw [hzx]
    exact qstate Q x z hz hx
  · rw [if_neg hi]
    exact qstateOut Q z (inZ_out hi)
theorem apicks (Q : Qx NoT F w b g c hb n q) (z : Int) :
    Calls Tryz.prog 19 #[.pointer (some ⟨b, 0, none⟩), .int .i64 z] w fun e w' => e = .returned (.int .i64 (rowN n q z).pk) ∧ Below w.heap.size w w' := by
  unfold rowN
  by_cases hi : inZ n z
  · rw [if_pos hi]
    obtain ⟨x, hz, hx, hzx⟩ := inZ_nat hi
    unfold rowZ
    rw [hzx]
    exact qpicks Q x z hz hx
  · rw [if_neg hi]
    refine (qpicksOut Q z (inZ_out hi)).mono ?_
    rintro e w' ⟨he, rfl⟩
    exact ⟨he, Below.refl _ _⟩
theorem amstate (M : Mq w base mb mg n cm q.now q.rows) (z : Int) :
    Calls Tryz.prog 39 #[.pointer (some ⟨mb, 0, none⟩), .int .i64 z] w fun e w' => e = .returned (.int .i64 (rowN n q z).st) ∧ w = w' := by
  unfold rowN
  by_cases hi : inZ n z
  · rw [if_pos hi]
    obtain ⟨x, hz, hx, hzx⟩ := inZ_nat hi
    unfold rowZ
    rw [hzx]
    exact mstate M x z hz hx
  · rw [if_neg hi]
    exact mstateNo M z (inZ_out hi)
theorem awaits (Q : Qx NoT F w b g c hb n q) (h0 : 0 < n) (hn : n ≤ 4096) :
    Calls Tryz.prog 15 #[.pointer (some ⟨b, 0, none⟩)] w fun e w' => ∃ A m d, e = .returned (.slice A m d) ∧ Rds w' 1 A m d (nums .i64 (zs (byKeys q.h.ks q.h.ids))) ∧ Below w.heap.size w w' := by
  refine (qwaiting Q h0 hn).mono ?_
  rintro e w' ⟨v, rfl, h1, h2⟩
  obtain ⟨A, d, rfl, hr⟩ := own_rds h1.out
  exact ⟨_, _, _, rfl, hr, h2.out⟩
theorem amwaits (M : Mq w base mb mg n cm q.now q.rows) (I : QI n q k) (hn : n ≤ 4096) :
    Calls Tryz.prog 40 #[.pointer (some ⟨mb, 0, none⟩)] w fun e w' => ∃ A m d, e = .returned (.slice A m d) ∧ Rds w' 1 A m d (nums .i64 (zs (byKeys q.h.ks q.h.ids))) ∧ Below w.heap.size w w' := by
  refine (mwaiting M hn).mono ?_
  rintro e w' ⟨v, rfl, h1, h2⟩
  rw [wait_eq I] at h1
  obtain ⟨A, d, rfl, hr⟩ := own_rds h1.out
  exact ⟨_, _, _, rfl, hr, h2.out⟩
set_option maxRecDepth 100000 in
set_option maxHeartbeats 8000000 in
theorem alikeW (Q : Qx NoT F w b g c hb n q) (M : Mq w base mb mg n cm q.now q.rows) (J : QJ n q k) (hk : k ≤ 1000) (h0 : 0 < n) (hn : n ≤ 4096) (z : Int) :
    Calls Tryz.prog 10 #[.pointer (some ⟨b, 0, none⟩), .pointer (some ⟨mb, 0, none⟩), .int .i64 z] w fun e w' => e = .returned (.bool true) ∧ Below w.heap.size w w' := by
  have HPA := Lib.hid (apass Q J z)
  have HMS := Lib.hid (amstate M z)
  have HST := Lib.hid (fun W (Q : Qx NoT F W b g c hb n q) => astate Q z)
  have HPK := Lib.hid (fun W (Q : Qx NoT F W b g c hb n q) => apicks Q z)
  have HNW := Lib.hid (fun W (Q : Qx NoT F W b g c hb n q) => qnow Q)
  have HSO := Lib.hid (fun W (Q : Qx NoT F W b g c hb n q) => qsound Q J.i hk hn h0)
  have HWA := Lib.hid (fun W (Q : Qx NoT F W b g c hb n q) => awaits Q h0 hn)
  have HWB := Lib.hid (fun W (M : Mq W base mb mg n cm q.now q.rows) => amwaits M J.i hn)
  have HQ := Lib.hid Q
  have HM := Lib.hid M
  have HRN : Hid (rowN n q z = if inZ n z then q.rows.getD z.toNat row0 else row0) := rfl
  have k1 := M.rb.cell
  generalize byKeys q.h.ks q.h.ids = ids at HWA HWB
  obtain ⟨L, hL⟩ : ∃ L, L = zs ids := ⟨_, rfl⟩
  rw [← hL] at HWA HWB
  obtain ⟨now, hnw⟩ : ∃ v, v = q.now := ⟨_, rfl⟩
  rw [← hnw] at HNW HM HWB
  generalize rowN n q z = r at HPA HMS HST HPK HRN
  obtain ⟨rst, rtk, rps, rpk⟩ := r
  simp only at HPA HMS HST HPK
  obtain ⟨ok, hok⟩ : ∃ v, v = decide (rst ≠ 0) := ⟨_, rfl⟩
  rw [← hok] at HPA
  have HOK : Hid ((rst != 0) = ok) := Lib.hid (by rw [hok]; by_cases h : rst = 0 <;> simp [h])
  clear hok hL hnw Q J hk h0
  have hb1 : Below w.heap.size w (w.alloc (.cells #[.int .i64 0, .int .i64 0, .int .i64 0, .int .i64 0] (58 : Nat))) := below_al (Below.refl _ _) _
  by_cases hi : inZ n z
  · obtain ⟨x, hz, hx, hzx⟩ := inZ_nat hi
    rw [if_pos hi, hzx] at HRN
    subst hz
    have hxn : (x : Int) < (n : Int) := by omega
    have hx0 : decide ((x : Int) ≥ 0) = true := decide_eq_true (by omega)
    have hx1 : decide ((x : Int) < (n : Int)) = true := decide_eq_true hxn
    obtain ⟨r0, r1, r2, r3⟩ := M.row hx
    rw [← HRN.out] at r0 r1 r2 r3
    have m0 := cell_below hb1 r0.cell
    have m1 := cell_below hb1 r1.cell
    have m2 := cell_below hb1 r2.cell
    have m3 := cell_below hb1 r3.cell
    have mk := cell_below hb1 k1
    simp only at m0 m1 m2 m3
    clear r0 r1 r2 r3 M hi hzx k1
    obtain ⟨N, hN⟩ : ∃ N, N = w.heap.size := ⟨_, rfl⟩
    obtain ⟨W5, hW5⟩ : ∃ W5, W5 = w.alloc (.cells #[.int .i64 rst, .int .i64 rtk, .int .i64 rps, .int .i64 rpk] (58 : Nat)) := ⟨_, rfl⟩
    have hb5 : Below w.heap.size w W5 := by rw [hW5]; exact below_al (Below.refl _ _) _
    have x2 : W5.cell? ⟨N, 2, none⟩ = some (.int .i64 rps) := by rw [hW5, hN]; go_simp
    have x3 : W5.cell? ⟨N, 3, none⟩ = some (.int .i64 rpk) := by rw [hW5, hN]; go_simp
    have hs5 := hb5.size
    have HQ5 := Lib.hid (HQ.out.below hb5)
    have HM5 := Lib.hid (HM.out.below hb5)
    have HW5 := Lib.hid hW5
    have HN5 := Lib.hid hN
    have HB0 := Lib.hid hb5
    clear hW5 hN hb5 hs5 hb1
    go_enter Tryz.func10, Tryz.ntmps10
    go_wp2_with (first
      | (go_at_call 17; (with_reducible refine HPA.out.mono ?_); rintro e w1 ⟨rfl, rfl⟩)
      | (go_at_call 39; (with_reducible refine HMS.out.mono ?_); rintro e w1 ⟨rfl, rfl⟩)
      | (go_at_call 18; fail))
    rw [← HW5.out, ← HN5.out]
    have hb5 := HB0.out
    have hs5 := hb5.size
    clear m0 m1 m2 m3 mk HPA HMS HW5
    have HS5 := Lib.hid hs5
    have HB5 := Lib.hid hb5
    clear hs5 hb5
    obtain ⟨T, hT⟩ : ∃ T : Nat → Fact, ∀ t_, T t_ = ([Fact.eq (.pointer (some ⟨b, 0, none⟩)), Fact.eq (.int .i64 x), Fact.eq (.int .i64 rst), Fact.eq (.int .i64 rst), Fact.eq (.bool true), Fact.eq (.bool true), Fact.eq (.bool ok), Fact.eq (.int .i64 rst), Fact.eq (.bool ok), Fact.eq (.bool true), Fact.eq (.bool true), Fact.eq (.bool true), Fact.eq (.int .i64 rps), Fact.eq (.pointer (some ⟨N, 2, none⟩)), Fact.eq (.int .i64 rps), Fact.eq (.bool true), Fact.eq (.bool true), Fact.eq (.bool true), Fact.eq (.pointer (some ⟨b, 0, none⟩)), Fact.eq (.int .i64 x), Fact.eq (.int .i64 rpk), Fact.eq (.pointer (some ⟨N, 3, none⟩)), Fact.eq (.int .i64 rpk), Fact.eq (.bool true), Fact.eq (.bool true), Fact.eq (.bool true), Fact.eq (.pointer (some ⟨b, 0, none⟩)), Fact.eq (.int .i64 now), Fact.eq (.pointer (some ⟨mb, 0, none⟩)), Fact.eq (.pointer (some ⟨mb, 0, none⟩)), Fact.eq (.pointer (some ⟨mb, 0, none⟩)), Fact.eq (.int .i64 now), Fact.eq (.bool true), Fact.eq (.bool true), Fact.eq (.bool true), Fact.eq (.pointer (some ⟨b, 0, none⟩)), Fact.eq (.bool true), Fact.eq (.bool true), Fact.eq (.bool true), Fact.eq (.pointer (some ⟨b, 0, none⟩)), Fact.row 1 (nums .i64 L), Fact.eq (.pointer (some ⟨mb, 0, none⟩)), Fact.row 1 (nums .i64 L), Fact.eq (.bool true), Fact.eq (.bool true), Fact.eq (.bool true)] : List (Fact)).getD t_ Fact.any := ⟨_, fun _ => rfl⟩
    refine region_tab [(0, 38), (1, 39), (2, 40), (3, 41), (4, 42), (5, 43), (6, 44), (7, 45), (8, 46), (9, 47), (10, 48), (11, 49), (12, 50), (13, 51), (14, 52), (15, 53), (16, 54), (17, 55), (18, 56), (19, 57), (20, 58), (21, 59), (22, 60), (23, 61), (24, 62), (25, 63), (26, 64), (27, 65), (28, 66), (29, 67), (30, 68), (31, 69), (32, 70), (33, 71), (34, 72), (35, 73), (36, 74), (37, 75), (38, 76), (39, 77), (40, 78), (41, 79), (42, 80), (43, 81), (44, 82), (45, 6)] T (by kernel_rfl) (by kernel_rfl) (by kernel_rfl) (by kernel_rfl) (by kernel_rfl) ?_ ?_
    · skip
      refine stepsAll_cons (k := 0) ?_ ?_
      · intro fa fx fW hF fB hE K fK
        have ev0 : fa.tmps[0]?.getD undef = .pointer (some ⟨b, 0, none⟩) := hF.eo 0 (by kernel_rfl)
        refine wpOp_val rfl (wanted_none rfl) ?_ (fK (.pointer (some ⟨b, 0, none⟩)) fW (Below.refl _ _) (by rw [hT]; exact rfl))
        clear fK hE hF
        go_simp
      refine stepsAll_cons (k := 1) ?_ ?_
      · intro fa fx fW hF fB hE K fK
        have ev2 : fa.tmps[2]?.getD undef = .int .i64 x := hF.eo 2 (by kernel_rfl)
        refine wpOp_val rfl (wanted_none rfl) ?_ (fK (.int .i64 x) fW (Below.refl _ _) (by rw [hT]; exact rfl))
        clear fK hE hF
        go_simp
      refine stepsAll_cons (k := 2) ?_ ?_
      · intro fa fx fW hF fB hE K fK
        have q0 : fx 0 = .pointer (some ⟨b, 0, none⟩) := by have q := hE ⟨0, .data⟩ (by simp) rfl; rw [hT] at q; exact q
        have q1 : fx 1 = .int .i64 x := by have q := hE ⟨1, .data⟩ (by simp) rfl; rw [hT] at q; exact q
        have ev38 : fa.tmps[38]?.getD undef = .pointer (some ⟨b, 0, none⟩) := (hF.ev 0 38 (by kernel_rfl)).trans q0
        have ev39 : fa.tmps[39]?.getD undef = .int .i64 x := (hF.ev 1 39 (by kernel_rfl)).trans q1
        refine wpOp_call rfl (wanted_none rfl) (by go_simp; exact ⟨rfl, rfl⟩) ?_
        refine (HST.out fW (HQ5.out.below fB)).mono ?_
        rintro e' w' ⟨rfl, rfl⟩
        exact ⟨_, rfl, fK (_) (fW) (Below.refl _ _) (by rw [hT]; exact rfl)⟩
      refine stepsAll_cons (k := 3) ?_ ?_
      · intro fa fx fW hF fB hE K fK
        have ev9 : fa.tmps[9]?.getD undef = .int .i64 rst := hF.eo 9 (by kernel_rfl)
        refine wpOp_val rfl (wanted_none rfl) ?_ (fK (.int .i64 rst) fW (Below.refl _ _) (by rw [hT]; exact rfl))
        clear fK hE hF
        go_simp
      refine stepsAll_cons (k := 4) ?_ ?_
      · intro fa fx fW hF fB hE K fK
        have q2 : fx 2 = .int .i64 rst := by have q := hE ⟨2, .data⟩ (by simp) rfl; rw [hT] at q; exact q
        have q3 : fx 3 = .int .i64 rst := by have q := hE ⟨3, .data⟩ (by simp) rfl; rw [hT] at q; exact q
        have ev40 : fa.tmps[40]?.getD undef = .int .i64 rst := (hF.ev 2 40 (by kernel_rfl)).trans q2
        have ev41 : fa.tmps[41]?.getD undef = .int .i64 rst := (hF.ev 3 41 (by kernel_rfl)).trans q3
        refine wpOp_val rfl (wanted_none rfl) ?_ (fK (.bool true) fW (Below.refl _ _) (by rw [hT]; exact rfl))
        clear fK hE hF
        go_simp
      refine stepsAll_cons (k := 5) ?_ ?_
      · intro fa fx fW hF fB hE K fK
        have q4 : fx 4 = .bool true := by have q := hE ⟨4, .data⟩ (by simp) rfl; rw [hT] at q; exact q
        have ev42 : fa.tmps[42]?.getD undef = .bool true := (hF.ev 4 42 (by kernel_rfl)).trans q4
        refine wpOp_val rfl (wanted_none rfl) ?_ (fK (.bool true) fW (Below.refl _ _) (by rw [hT]; exact rfl))
        clear fK hE hF
        go_simp
      refine stepsAll_cons (k := 6) ?_ ?_
      · intro fa fx fW hF fB hE K fK
        have q5 : fx 5 = .bool true := by have q := hE ⟨5, .guard⟩ (by simp) rfl; rw [hT] at q; exact q
        have ev8 : fa.tmps[8]?.getD undef = .bool ok := hF.eo 8 (by kernel_rfl)
        refine wpOp_val rfl (wanted_yes rfl (hF.yes 5 43 (by kernel_rfl) true q5)) ?_ (fK (.bool ok) fW (Below.refl _ _) (by rw [hT]; exact rfl))
        clear fK hE hF
        go_simp
      refine stepsAll_cons (k := 7) ?_ ?_
      · intro fa fx fW hF fB hE K fK
        have q5 : fx 5 = .bool true := by have q := hE ⟨5, .guard⟩ (by simp) rfl; rw [hT] at q; exact q
        have ev9 : fa.tmps[9]?.getD undef = .int .i64 rst := hF.eo 9 (by kernel_rfl)
        refine wpOp_val rfl (wanted_yes rfl (hF.yes 5 43 (by kernel_rfl) true q5)) ?_ (fK (.int .i64 rst) fW (Below.refl _ _) (by rw [hT]; exact rfl))
        clear fK hE hF
        go_simp
      refine stepsAll_cons (k := 8) ?_ ?_
      · intro fa fx fW hF fB hE K fK
        have q5 : fx 5 = .bool true := by have q := hE ⟨5, .guard⟩ (by simp) rfl; rw [hT] at q; exact q
        have q7 : fx 7 = .int .i64 rst := by have q := hE ⟨7, .data⟩ (by simp) rfl; rw [hT] at q; exact q
        have ev45 : fa.tmps[45]?.getD undef = .int .i64 rst := (hF.ev 7 45 (by kernel_rfl)).trans q7
        have zok := HOK.out
        refine wpOp_val rfl (wanted_yes rfl (hF.yes 5 43 (by kernel_rfl) true q5)) ?_ (fK (.bool ok) fW (Below.refl _ _) (by rw [hT]; exact rfl))
        clear fK hE hF
        go_simp
      refine stepsAll_cons (k := 9) ?_ ?_
      · intro fa fx fW hF fB hE K fK
        have q5 : fx 5 = .bool true := by have q := hE ⟨5, .guard⟩ (by simp) rfl; rw [hT] at q; exact q
        have q6 : fx 6 = .bool ok := by have q := hE ⟨6, .data⟩ (by simp) rfl; rw [hT] at q; exact q
        have q8 : fx 8 = .bool ok := by have q := hE ⟨8, .data⟩ (by simp) rfl; rw [hT] at q; exact q
        have ev44 : fa.tmps[44]?.getD undef = .bool ok := (hF.ev 6 44 (by kernel_rfl)).trans q6
        have ev46 : fa.tmps[46]?.getD undef = .bool ok := (hF.ev 8 46 (by kernel_rfl)).trans q8
        refine wpOp_val rfl (wanted_yes rfl (hF.yes 5 43 (by kernel_rfl) true q5)) ?_ (fK (.bool true) fW (Below.refl _ _) (by rw [hT]; exact rfl))
        clear fK hE hF
        go_simp
      refine stepsAll_cons (k := 10) ?_ ?_
      · intro fa fx fW hF fB hE K fK
        have q5 : fx 5 = .bool true := by have q := hE ⟨5, .data⟩ (by simp) rfl; rw [hT] at q; exact q
        have q9 : fx 9 = .bool true := by have q := hE ⟨9, .data⟩ (by simp) rfl; rw [hT] at q; exact q
        have ev43 : fa.tmps[43]?.getD undef = .bool true := (hF.ev 5 43 (by kernel_rfl)).trans q5
        have ev47 : fa.tmps[47]?.getD undef = .bool true := (hF.ev 9 47 (by kernel_rfl)).trans q9
        refine wpOp_val rfl (wanted_none rfl) ?_ (fK (.bool true) fW (Below.refl _ _) (by rw [hT]; exact rfl))
        clear fK hE hF
        go_simp
      refine stepsAll_cons (k := 11) ?_ ?_
      · intro fa fx fW hF fB hE K fK
        have q10 : fx 10 = .bool true := by have q := hE ⟨10, .data⟩ (by simp) rfl; rw [hT] at q; exact q
        have ev48 : fa.tmps[48]?.getD undef = .bool true := (hF.ev 10 48 (by kernel_rfl)).trans q10
        refine wpOp_val rfl (wanted_none rfl) ?_ (fK (.bool true) fW (Below.refl _ _) (by rw [hT]; exact rfl))
        clear fK hE hF
        go_simp
      refine stepsAll_cons (k := 12) ?_ ?_
      · intro fa fx fW hF fB hE K fK
        have q11 : fx 11 = .bool true := by have q := hE ⟨11, .guard⟩ (by simp) rfl; rw [hT] at q; exact q
        have ev7 : fa.tmps[7]?.getD undef = .int .i64 rps := hF.eo 7 (by kernel_rfl)
        refine wpOp_val rfl (wanted_yes rfl (hF.yes 11 49 (by kernel_rfl) true q11)) ?_ (fK (.int .i64 rps) fW (Below.refl _ _) (by rw [hT]; exact rfl))
        clear fK hE hF
        go_simp
      refine stepsAll_cons (k := 13) ?_ ?_
      · intro fa fx fW hF fB hE K fK
        have q11 : fx 11 = .bool true := by have q := hE ⟨11, .guard⟩ (by simp) rfl; rw [hT] at q; exact q
        have ev10 : fa.tmps[10]?.getD undef = .pointer (some ⟨N, 0, none⟩) := hF.eo 10 (by kernel_rfl)
        refine wpOp_val rfl (wanted_yes rfl (hF.yes 11 49 (by kernel_rfl) true q11)) ?_ (fK (.pointer (some ⟨N, 2, none⟩)) fW (Below.refl _ _) (by rw [hT]; exact rfl))
        clear fK hE hF
        go_simp
      refine stepsAll_cons (k := 14) ?_ ?_
      · intro fa fx fW hF fB hE K fK
        have q11 : fx 11 = .bool true := by have q := hE ⟨11, .guard⟩ (by simp) rfl; rw [hT] at q; exact q
        have q13 : fx 13 = .pointer (some ⟨N, 2, none⟩) := by have q := hE ⟨13, .data⟩ (by simp) rfl; rw [hT] at q; exact q
        have ev51 : fa.tmps[51]?.getD undef = .pointer (some ⟨N, 2, none⟩) := (hF.ev 13 51 (by kernel_rfl)).trans q13
        have zz := cell_below fB x2
        refine wpOp_val rfl (wanted_yes rfl (hF.yes 11 49 (by kernel_rfl) true q11)) ?_ (fK (.int .i64 rps) fW (Below.refl _ _) (by rw [hT]; exact rfl))
        clear fK hE hF
        go_simp
      refine stepsAll_cons (k := 15) ?_ ?_
      · intro fa fx fW hF fB hE K fK
        have q11 : fx 11 = .bool true := by have q := hE ⟨11, .guard⟩ (by simp) rfl; rw [hT] at q; exact q
        have q12 : fx 12 = .int .i64 rps := by have q := hE ⟨12, .data⟩ (by simp) rfl; rw [hT] at q; exact q
        have q14 : fx 14 = .int .i64 rps := by have q := hE ⟨14, .data⟩ (by simp) rfl; rw [hT] at q; exact q
        have ev50 : fa.tmps[50]?.getD undef = .int .i64 rps := (hF.ev 12 50 (by kernel_rfl)).trans q12
        have ev52 : fa.tmps[52]?.getD undef = .int .i64 rps := (hF.ev 14 52 (by kernel_rfl)).trans q14
        refine wpOp_val rfl (wanted_yes rfl (hF.yes 11 49 (by kernel_rfl) true q11)) ?_ (fK (.bool true) fW (Below.refl _ _) (by rw [hT]; exact rfl))
        clear fK hE hF
        go_simp
      refine stepsAll_cons (k := 16) ?_ ?_
      · intro fa fx fW hF fB hE K fK
        have q11 : fx 11 = .bool true := by have q := hE ⟨11, .data⟩ (by simp) rfl; rw [hT] at q; exact q
        have q15 : fx 15 = .bool true := by have q := hE ⟨15, .data⟩ (by simp) rfl; rw [hT] at q; exact q
        have ev49 : fa.tmps[49]?.getD undef = .bool true := (hF.ev 11 49 (by kernel_rfl)).trans q11
        have ev53 : fa.tmps[53]?.getD undef = .bool true := (hF.ev 15 53 (by kernel_rfl)).trans q15
        refine wpOp_val rfl (wanted_none rfl) ?_ (fK (.bool true) fW (Below.refl _ _) (by rw [hT]; exact rfl))
        clear fK hE hF
        go_simp
      refine stepsAll_cons (k := 17) ?_ ?_
      · intro fa fx fW hF fB hE K fK
        have q16 : fx 16 = .bool true := by have q := hE ⟨16, .data⟩ (by simp) rfl; rw [hT] at q; exact q
        have ev54 : fa.tmps[54]?.getD undef = .bool true := (hF.ev 16 54 (by kernel_rfl)).trans q16
        refine wpOp_val rfl (wanted_none rfl) ?_ (fK (.bool true) fW (Below.refl _ _) (by rw [hT]; exact rfl))
        clear fK hE hF
        go_simp
      refine stepsAll_cons (k := 18) ?_ ?_
      · intro fa fx fW hF fB hE K fK
        have q17 : fx 17 = .bool true := by have q := hE ⟨17, .guard⟩ (by simp) rfl; rw [hT] at q; exact q
        have ev0 : fa.tmps[0]?.getD undef = .pointer (some ⟨b, 0, none⟩) := hF.eo 0 (by kernel_rfl)
        refine wpOp_val rfl (wanted_yes rfl (hF.yes 17 55 (by kernel_rfl) true q17)) ?_ (fK (.pointer (some ⟨b, 0, none⟩)) fW (Below.refl _ _) (by rw [hT]; exact rfl))
        clear fK hE hF
        go_simp
      refine stepsAll_cons (k := 19) ?_ ?_
      · intro fa fx fW hF fB hE K fK
        have q17 : fx 17 = .bool true := by have q := hE ⟨17, .guard⟩ (by simp) rfl; rw [hT] at q; exact q
        have ev2 : fa.tmps[2]?.getD undef = .int .i64 x := hF.eo 2 (by kernel_rfl)
        refine wpOp_val rfl (wanted_yes rfl (hF.yes 17 55 (by kernel_rfl) true q17)) ?_ (fK (.int .i64 x) fW (Below.refl _ _) (by rw [hT]; exact rfl))
        clear fK hE hF
        go_simp
      refine stepsAll_cons (k := 20) ?_ ?_
      · intro fa fx fW hF fB hE K fK
        have q17 : fx 17 = .bool true := by have q := hE ⟨17, .chain⟩ (by simp) rfl; rw [hT] at q; exact q
        have q18 : fx 18 = .pointer (some ⟨b, 0, none⟩) := by have q := hE ⟨18, .data⟩ (by simp) rfl; rw [hT] at q; exact q
        have q19 : fx 19 = .int .i64 x := by have q := hE ⟨19, .data⟩ (by simp) rfl; rw [hT] at q; exact q
        have ev56 : fa.tmps[56]?.getD undef = .pointer (some ⟨b, 0, none⟩) := (hF.ev 18 56 (by kernel_rfl)).trans q18
        have ev57 : fa.tmps[57]?.getD undef = .int .i64 x := (hF.ev 19 57 (by kernel_rfl)).trans q19
        refine wpOp_call rfl (wanted_yes rfl (hF.yes 17 55 (by kernel_rfl) true q17)) (by go_simp; exact ⟨rfl, rfl⟩) ?_
        refine (HPK.out fW (HQ5.out.below fB)).mono ?_
        rintro e' w' ⟨rfl, hbb⟩
        exact ⟨_, rfl, fK (_) (w') (hbb) (by rw [hT]; exact rfl)⟩
      refine stepsAll_cons (k := 21) ?_ ?_
      · intro fa fx fW hF fB hE K fK
        have q17 : fx 17 = .bool true := by have q := hE ⟨17, .guard⟩ (by simp) rfl; rw [hT] at q; exact q
        have ev10 : fa.tmps[10]?.getD undef = .pointer (some ⟨N, 0, none⟩) := hF.eo 10 (by kernel_rfl)
        refine wpOp_val rfl (wanted_yes rfl (hF.yes 17 55 (by kernel_rfl) true q17)) ?_ (fK (.pointer (some ⟨N, 3, none⟩)) fW (Below.refl _ _) (by rw [hT]; exact rfl))
        clear fK hE hF
        go_simp
      refine stepsAll_cons (k := 22) ?_ ?_
      · intro fa fx fW hF fB hE K fK
        have q17 : fx 17 = .bool true := by have q := hE ⟨17, .guard⟩ (by simp) rfl; rw [hT] at q; exact q
        have q21 : fx 21 = .pointer (some ⟨N, 3, none⟩) := by have q := hE ⟨21, .data⟩ (by simp) rfl; rw [hT] at q; exact q
        have ev59 : fa.tmps[59]?.getD undef = .pointer (some ⟨N, 3, none⟩) := (hF.ev 21 59 (by kernel_rfl)).trans q21
        have zz := cell_below fB x3
        refine wpOp_val rfl (wanted_yes rfl (hF.yes 17 55 (by kernel_rfl) true q17)) ?_ (fK (.int .i64 rpk) fW (Below.refl _ _) (by rw [hT]; exact rfl))
        clear fK hE hF
        go_simp
      refine stepsAll_cons (k := 23) ?_ ?_
      · intro fa fx fW hF fB hE K fK
        have q17 : fx 17 = .bool true := by have q := hE ⟨17, .guard⟩ (by simp) rfl; rw [hT] at q; exact q
        have q20 : fx 20 = .int .i64 rpk := by have q := hE ⟨20, .data⟩ (by simp) rfl; rw [hT] at q; exact q
        have q22 : fx 22 = .int .i64 rpk := by have q := hE ⟨22, .data⟩ (by simp) rfl; rw [hT] at q; exact q
        have ev58 : fa.tmps[58]?.getD undef = .int .i64 rpk := (hF.ev 20 58 (by kernel_rfl)).trans q20
        have ev60 : fa.tmps[60]?.getD undef = .int .i64 rpk := (hF.ev 22 60 (by kernel_rfl)).trans q22
        refine wpOp_val rfl (wanted_yes rfl (hF.yes 17 55 (by kernel_rfl) true q17)) ?_ (fK (.bool true) fW (Below.refl _ _) (by rw [hT]; exact rfl))
        clear fK hE hF
        go_simp
      refine stepsAll_cons (k := 24) ?_ ?_
      · intro fa fx fW hF fB hE K fK
        have q17 : fx 17 = .bool true := by have q := hE ⟨17, .data⟩ (by simp) rfl; rw [hT] at q; exact q
        have q23 : fx 23 = .bool true := by have q := hE ⟨23, .data⟩ (by simp) rfl; rw [hT] at q; exact q
        have ev55 : fa.tmps[55]?.getD undef = .bool true := (hF.ev 17 55 (by kernel_rfl)).trans q17
        have ev61 : fa.tmps[61]?.getD undef = .bool true := (hF.ev 23 61 (by kernel_rfl)).trans q23
        refine wpOp_val rfl (wanted_none rfl) ?_ (fK (.bool true) fW (Below.refl _ _) (by rw [hT]; exact rfl))
        clear fK hE hF
        go_simp
      refine stepsAll_cons (k := 25) ?_ ?_
      · intro fa fx fW hF fB hE K fK
        have q24 : fx 24 = .bool true := by have q := hE ⟨24, .data⟩ (by simp) rfl; rw [hT] at q; exact q
        have ev62 : fa.tmps[62]?.getD undef = .bool true := (hF.ev 24 62 (by kernel_rfl)).trans q24
        refine wpOp_val rfl (wanted_none rfl) ?_ (fK (.bool true) fW (Below.refl _ _) (by rw [hT]; exact rfl))
        clear fK hE hF
        go_simp
      refine stepsAll_cons (k := 26) ?_ ?_
      · intro fa fx fW hF fB hE K fK
        have q25 : fx 25 = .bool true := by have q := hE ⟨25, .guard⟩ (by simp) rfl; rw [hT] at q; exact q
        have ev0 : fa.tmps[0]?.getD undef = .pointer (some ⟨b, 0, none⟩) := hF.eo 0 (by kernel_rfl)
        refine wpOp_val rfl (wanted_yes rfl (hF.yes 25 63 (by kernel_rfl) true q25)) ?_ (fK (.pointer (some ⟨b, 0, none⟩)) fW (Below.refl _ _) (by rw [hT]; exact rfl))
        clear fK hE hF
        go_simp
      refine stepsAll_cons (k := 27) ?_ ?_
      · intro fa fx fW hF fB hE K fK
        have q25 : fx 25 = .bool true := by have q := hE ⟨25, .chain⟩ (by simp) rfl; rw [hT] at q; exact q
        have q26 : fx 26 = .pointer (some ⟨b, 0, none⟩) := by have q := hE ⟨26, .data⟩ (by simp) rfl; rw [hT] at q; exact q
        have ev64 : fa.tmps[64]?.getD undef = .pointer (some ⟨b, 0, none⟩) := (hF.ev 26 64 (by kernel_rfl)).trans q26
        refine wpOp_call rfl (wanted_yes rfl (hF.yes 25 63 (by kernel_rfl) true q25)) (by go_simp; exact ⟨rfl, rfl⟩) ?_
        refine (HNW.out fW (HQ5.out.below fB)).mono ?_
        rintro e' w' ⟨rfl, rfl⟩
        exact ⟨_, rfl, fK (_) (fW) (Below.refl _ _) (by rw [hT]; exact rfl)⟩
      refine stepsAll_cons (k := 28) ?_ ?_
      · intro fa fx fW hF fB hE K fK
        have q25 : fx 25 = .bool true := by have q := hE ⟨25, .guard⟩ (by simp) rfl; rw [hT] at q; exact q
        have ev1 : fa.tmps[1]?.getD undef = .pointer (some ⟨mb, 0, none⟩) := hF.eo 1 (by kernel_rfl)
        refine wpOp_val rfl (wanted_yes rfl (hF.yes 25 63 (by kernel_rfl) true q25)) ?_ (fK (.pointer (some ⟨mb, 0, none⟩)) fW (Below.refl _ _) (by rw [hT]; exact rfl))
        clear fK hE hF
        go_simp
      refine stepsAll_cons (k := 29) ?_ ?_
      · intro fa fx fW hF fB hE K fK
        have q25 : fx 25 = .bool true := by have q := hE ⟨25, .guard⟩ (by simp) rfl; rw [hT] at q; exact q
        have q28 : fx 28 = .pointer (some ⟨mb, 0, none⟩) := by have q := hE ⟨28, .data⟩ (by simp) rfl; rw [hT] at q; exact q
        have ev66 : fa.tmps[66]?.getD undef = .pointer (some ⟨mb, 0, none⟩) := (hF.ev 28 66 (by kernel_rfl)).trans q28
        refine wpOp_val rfl (wanted_yes rfl (hF.yes 25 63 (by kernel_rfl) true q25)) ?_ (fK (.pointer (some ⟨mb, 0, none⟩)) fW (Below.refl _ _) (by rw [hT]; exact rfl))
        clear fK hE hF
        go_simp
      refine stepsAll_cons (k := 30) ?_ ?_
      · intro fa fx fW hF fB hE K fK
        have q25 : fx 25 = .bool true := by have q := hE ⟨25, .guard⟩ (by simp) rfl; rw [hT] at q; exact q
        have q29 : fx 29 = .pointer (some ⟨mb, 0, none⟩) := by have q := hE ⟨29, .data⟩ (by simp) rfl; rw [hT] at q; exact q
        have ev67 : fa.tmps[67]?.getD undef = .pointer (some ⟨mb, 0, none⟩) := (hF.ev 29 67 (by kernel_rfl)).trans q29
        refine wpOp_val rfl (wanted_yes rfl (hF.yes 25 63 (by kernel_rfl) true q25)) ?_ (fK (.pointer (some ⟨mb, 0, none⟩)) fW (Below.refl _ _) (by rw [hT]; exact rfl))
        clear fK hE hF
        go_simp
      refine stepsAll_cons (k := 31) ?_ ?_
      · intro fa fx fW hF fB hE K fK
        have q25 : fx 25 = .bool true := by have q := hE ⟨25, .guard⟩ (by simp) rfl; rw [hT] at q; exact q
        have q30 : fx 30 = .pointer (some ⟨mb, 0, none⟩) := by have q := hE ⟨30, .data⟩ (by simp) rfl; rw [hT] at q; exact q
        have ev68 : fa.tmps[68]?.getD undef = .pointer (some ⟨mb, 0, none⟩) := (hF.ev 30 68 (by kernel_rfl)).trans q30
        have zz := (HM5.out.below fB).nb.cell
        refine wpOp_val rfl (wanted_yes rfl (hF.yes 25 63 (by kernel_rfl) true q25)) ?_ (fK (.int .i64 now) fW (Below.refl _ _) (by rw [hT]; exact rfl))
        clear fK hE hF
        go_simp
      refine stepsAll_cons (k := 32) ?_ ?_
      · intro fa fx fW hF fB hE K fK
        have q25 : fx 25 = .bool true := by have q := hE ⟨25, .guard⟩ (by simp) rfl; rw [hT] at q; exact q
        have q27 : fx 27 = .int .i64 now := by have q := hE ⟨27, .data⟩ (by simp) rfl; rw [hT] at q; exact q
        have q31 : fx 31 = .int .i64 now := by have q := hE ⟨31, .data⟩ (by simp) rfl; rw [hT] at q; exact q
        have ev65 : fa.tmps[65]?.getD undef = .int .i64 now := (hF.ev 27 65 (by kernel_rfl)).trans q27
        have ev69 : fa.tmps[69]?.getD undef = .int .i64 now := (hF.ev 31 69 (by kernel_rfl)).trans q31
        refine wpOp_val rfl (wanted_yes rfl (hF.yes 25 63 (by kernel_rfl) true q25)) ?_ (fK (.bool true) fW (Below.refl _ _) (by rw [hT]; exact rfl))
        clear fK hE hF
        go_simp
      refine stepsAll_cons (k := 33) ?_ ?_
      · intro fa fx fW hF fB hE K fK
        have q25 : fx 25 = .bool true := by have q := hE ⟨25, .data⟩ (by simp) rfl; rw [hT] at q; exact q
        have q32 : fx 32 = .bool true := by have q := hE ⟨32, .data⟩ (by simp) rfl; rw [hT] at q; exact q
        have ev63 : fa.tmps[63]?.getD undef = .bool true := (hF.ev 25 63 (by kernel_rfl)).trans q25
        have ev70 : fa.tmps[70]?.getD undef = .bool true := (hF.ev 32 70 (by kernel_rfl)).trans q32
        refine wpOp_val rfl (wanted_none rfl) ?_ (fK (.bool true) fW (Below.refl _ _) (by rw [hT]; exact rfl))
        clear fK hE hF
        go_simp
      refine stepsAll_cons (k := 34) ?_ ?_
      · intro fa fx fW hF fB hE K fK
        have q33 : fx 33 = .bool true := by have q := hE ⟨33, .data⟩ (by simp) rfl; rw [hT] at q; exact q
        have ev71 : fa.tmps[71]?.getD undef = .bool true := (hF.ev 33 71 (by kernel_rfl)).trans q33
        refine wpOp_val rfl (wanted_none rfl) ?_ (fK (.bool true) fW (Below.refl _ _) (by rw [hT]; exact rfl))
        clear fK hE hF
        go_simp
      refine stepsAll_cons (k := 35) ?_ ?_
      · intro fa fx fW hF fB hE K fK
        have q34 : fx 34 = .bool true := by have q := hE ⟨34, .guard⟩ (by simp) rfl; rw [hT] at q; exact q
        have ev0 : fa.tmps[0]?.getD undef = .pointer (some ⟨b, 0, none⟩) := hF.eo 0 (by kernel_rfl)
        refine wpOp_val rfl (wanted_yes rfl (hF.yes 34 72 (by kernel_rfl) true q34)) ?_ (fK (.pointer (some ⟨b, 0, none⟩)) fW (Below.refl _ _) (by rw [hT]; exact rfl))
        clear fK hE hF
        go_simp
      refine stepsAll_cons (k := 36) ?_ ?_
      · intro fa fx fW hF fB hE K fK
        have q34 : fx 34 = .bool true := by have q := hE ⟨34, .chain⟩ (by simp) rfl; rw [hT] at q; exact q
        have q35 : fx 35 = .pointer (some ⟨b, 0, none⟩) := by have q := hE ⟨35, .data⟩ (by simp) rfl; rw [hT] at q; exact q
        have ev73 : fa.tmps[73]?.getD undef = .pointer (some ⟨b, 0, none⟩) := (hF.ev 35 73 (by kernel_rfl)).trans q35
        refine wpOp_call rfl (wanted_yes rfl (hF.yes 34 72 (by kernel_rfl) true q34)) (by go_simp; exact ⟨rfl, rfl⟩) ?_
        refine (HSO.out fW (HQ5.out.below fB)).mono ?_
        rintro e' w' ⟨rfl, hbb⟩
        exact ⟨_, rfl, fK (_) (w') (hbb) (by rw [hT]; exact rfl)⟩
      refine stepsAll_cons (k := 37) ?_ ?_
      · intro fa fx fW hF fB hE K fK
        have q34 : fx 34 = .bool true := by have q := hE ⟨34, .data⟩ (by simp) rfl; rw [hT] at q; exact q
        have q36 : fx 36 = .bool true := by have q := hE ⟨36, .data⟩ (by simp) rfl; rw [hT] at q; exact q
        have ev72 : fa.tmps[72]?.getD undef = .bool true := (hF.ev 34 72 (by kernel_rfl)).trans q34
        have ev74 : fa.tmps[74]?.getD undef = .bool true := (hF.ev 36 74 (by kernel_rfl)).trans q36
        refine wpOp_val rfl (wanted_none rfl) ?_ (fK (.bool true) fW (Below.refl _ _) (by rw [hT]; exact rfl))
        clear fK hE hF
        go_simp
      refine stepsAll_cons (k := 38) ?_ ?_
      · intro fa fx fW hF fB hE K fK
        have q37 : fx 37 = .bool true := by have q := hE ⟨37, .data⟩ (by simp) rfl; rw [hT] at q; exact q
        have ev75 : fa.tmps[75]?.getD undef = .bool true := (hF.ev 37 75 (by kernel_rfl)).trans q37
        refine wpOp_val rfl (wanted_none rfl) ?_ (fK (.bool true) fW (Below.refl _ _) (by rw [hT]; exact rfl))
        clear fK hE hF
        go_simp
      refine stepsAll_cons (k := 39) ?_ ?_
      · intro fa fx fW hF fB hE K fK
        have q38 : fx 38 = .bool true := by have q := hE ⟨38, .guard⟩ (by simp) rfl; rw [hT] at q; exact q
        have ev0 : fa.tmps[0]?.getD undef = .pointer (some ⟨b, 0, none⟩) := hF.eo 0 (by kernel_rfl)
        refine wpOp_val rfl (wanted_yes rfl (hF.yes 38 76 (by kernel_rfl) true q38)) ?_ (fK (.pointer (some ⟨b, 0, none⟩)) fW (Below.refl _ _) (by rw [hT]; exact rfl))
        clear fK hE hF
        go_simp
      refine stepsAll_cons (k := 40) ?_ ?_
      · intro fa fx fW hF fB hE K fK
        have q38 : fx 38 = .bool true := by have q := hE ⟨38, .chain⟩ (by simp) rfl; rw [hT] at q; exact q
        have q39 : fx 39 = .pointer (some ⟨b, 0, none⟩) := by have q := hE ⟨39, .data⟩ (by simp) rfl; rw [hT] at q; exact q
        have ev77 : fa.tmps[77]?.getD undef = .pointer (some ⟨b, 0, none⟩) := (hF.ev 39 77 (by kernel_rfl)).trans q39
        refine wpOp_call rfl (wanted_yes rfl (hF.yes 38 76 (by kernel_rfl) true q38)) (by go_simp; exact ⟨rfl, rfl⟩) ?_
        refine (HWA.out fW (HQ5.out.below fB)).mono ?_
        rintro e' w' ⟨A1, n1, c1, rfl, hr1, hb1⟩
        exact ⟨_, rfl, fK (.slice A1 n1 c1) (w') (hb1) (by rw [hT]; exact ⟨A1, n1, c1, rfl, hr1⟩)⟩
      refine stepsAll_cons (k := 41) ?_ ?_
      · intro fa fx fW hF fB hE K fK
        have q38 : fx 38 = .bool true := by have q := hE ⟨38, .guard⟩ (by simp) rfl; rw [hT] at q; exact q
        have ev1 : fa.tmps[1]?.getD undef = .pointer (some ⟨mb, 0, none⟩) := hF.eo 1 (by kernel_rfl)
        refine wpOp_val rfl (wanted_yes rfl (hF.yes 38 76 (by kernel_rfl) true q38)) ?_ (fK (.pointer (some ⟨mb, 0, none⟩)) fW (Below.refl _ _) (by rw [hT]; exact rfl))
        clear fK hE hF
        go_simp
      refine stepsAll_cons (k := 42) ?_ ?_
      · intro fa fx fW hF fB hE K fK
        have q38 : fx 38 = .bool true := by have q := hE ⟨38, .guard⟩ (by simp) rfl; rw [hT] at q; exact q
        have q41 : fx 41 = .pointer (some ⟨mb, 0, none⟩) := by have q := hE ⟨41, .data⟩ (by simp) rfl; rw [hT] at q; exact q
        have ev79 : fa.tmps[79]?.getD undef = .pointer (some ⟨mb, 0, none⟩) := (hF.ev 41 79 (by kernel_rfl)).trans q41
        refine wpOp_call rfl (wanted_yes rfl (hF.yes 38 76 (by kernel_rfl) true q38)) (by go_simp; exact ⟨rfl, rfl⟩) ?_
        refine (HWB.out fW (HM5.out.below fB)).mono ?_
        rintro e' w' ⟨A1, n1, c1, rfl, hr1, hb1⟩
        exact ⟨_, rfl, fK (.slice A1 n1 c1) (w') (hb1) (by rw [hT]; exact ⟨A1, n1, c1, rfl, hr1⟩)⟩
      refine stepsAll_cons (k := 43) ?_ ?_
      · intro fa fx fW hF fB hE K fK
        have q38 : fx 38 = .bool true := by have q := hE ⟨38, .guard⟩ (by simp) rfl; rw [hT] at q; exact q
        have q40 : (Fact.row 1 (nums .i64 L)).p (fx 40) fW := by have q := hE ⟨40, .data⟩ (by simp) rfl; rw [hT] at q; exact q
        have q42 : (Fact.row 1 (nums .i64 L)).p (fx 42) fW := by have q := hE ⟨42, .data⟩ (by simp) rfl; rw [hT] at q; exact q
        have ev78 : fa.tmps[78]?.getD undef = fx 40 := hF.ev 40 78 (by kernel_rfl)
        have ev80 : fa.tmps[80]?.getD undef = fx 42 := hF.ev 42 80 (by kernel_rfl)
        obtain ⟨A1, n1, c1, e1, hr1⟩ := q40
        obtain ⟨A2, n2, c2, e2, hr2⟩ := q42
        rw [e1] at ev78
        rw [e2] at ev80
        refine wpOp_call rfl (wanted_yes rfl (hF.yes 38 76 (by kernel_rfl) true q38)) (by go_simp; exact ⟨rfl, rfl⟩) ?_
        refine (ints03 A1 n1 c1 L A2 n2 c2 L fW hr1 hr2).mono ?_
        rintro e' w' ⟨h1, hbb⟩
        rw [decide_eq_true rfl] at h1
        subst h1
        exact ⟨_, rfl, fK (.bool true) (w') (hbb) (by rw [hT]; exact rfl)⟩
      refine stepsAll_cons (k := 44) ?_ ?_
      · intro fa fx fW hF fB hE K fK
        have q38 : fx 38 = .bool true := by have q := hE ⟨38, .data⟩ (by simp) rfl; rw [hT] at q; exact q
        have q43 : fx 43 = .bool true := by have q := hE ⟨43, .data⟩ (by simp) rfl; rw [hT] at q; exact q
        have ev76 : fa.tmps[76]?.getD undef = .bool true := (hF.ev 38 76 (by kernel_rfl)).trans q38
        have ev81 : fa.tmps[81]?.getD undef = .bool true := (hF.ev 43 81 (by kernel_rfl)).trans q43
        refine wpOp_val rfl (wanted_none rfl) ?_ (fK (.bool true) fW (Below.refl _ _) (by rw [hT]; exact rfl))
        clear fK hE hF
        go_simp
      refine stepsAll_cons (k := 45) ?_ ?_
      · intro fa fx fW hF fB hE K fK
        have q44 : fx 44 = .bool true := by have q := hE ⟨44, .data⟩ (by simp) rfl; rw [hT] at q; exact q
        have ev82 : fa.tmps[82]?.getD undef = .bool true := (hF.ev 44 82 (by kernel_rfl)).trans q44
        refine wpOp_val rfl (wanted_none rfl) ?_ (fK (.bool true) fW (Below.refl _ _) (by rw [hT]; exact rfl))
        clear fK hE hF
        go_simp
      exact stepsAll_nil
    intro fa fx fW hF fB hx
    have q45 : fx 45 = .bool true := by have q := hx 45 (by decide); rw [hT] at q; exact q
    have ev6 : fa.tmps[6]?.getD undef = .bool true := (hF.ev 45 6 (by kernel_rfl)).trans q45
    rw [hF.eq]
    clear hF hx
    simp only [putAll, Act.put, List.setIfInBounds_toArray, List.set_cons_zero, List.set_cons_succ, q45]
    go_wp2
    go_ret
    exact ⟨rfl, below_then HB5.out HB5.out.size fB⟩
  · have hzo := inZ_out hi
    rw [if_neg hi] at HRN
    obtain ⟨rfl, rfl, rfl, rfl⟩ : rst = 0 ∧ rtk = 0 ∧ rps = 0 ∧ rpk = 0 := by
      have h := HRN.out
      unfold row0 at h
      injection h with h1 h2 h3 h4
      exact ⟨h1, h2, h3, h4⟩
    obtain rfl : ok = false := by
      have h := HOK.out
      simpa using h.symm
    have mk := cell_below hb1 k1
    obtain ⟨N, hN⟩ : ∃ N, N = w.heap.size := ⟨_, rfl⟩
    obtain ⟨W5, hW5⟩ : ∃ W5, W5 = w.alloc (.cells #[.int .i64 0, .int .i64 0, .int .i64 0, .int .i64 0] (58 : Nat)) := ⟨_, rfl⟩
    have hb5 : Below w.heap.size w W5 := by rw [hW5]; exact hb1
    have x2 : W5.cell? ⟨N, 2, none⟩ = some (.int .i64 0) := by rw [hW5, hN]; go_simp
    have x3 : W5.cell? ⟨N, 3, none⟩ = some (.int .i64 0) := by rw [hW5, hN]; go_simp
    have HQ5 := Lib.hid (HQ.out.below hb5)
    have HM5 := Lib.hid (HM.out.below hb5)
    have HW5 := Lib.hid hW5
    have HN5 := Lib.hid hN
    have HB0 := Lib.hid hb5
    clear hW5 hN hb5 hb1 k1 M hi HRN
    by_cases hz0 : z < 0
    · have hd0 : decide (z ≥ 0) = false := decide_eq_false (by omega)
      have hd1 : ¬ 0 ≤ z := by omega
      clear hzo
      go_enter Tryz.func10, Tryz.ntmps10
      go_wp2_with (first
        | (go_at_call 17; (with_reducible refine HPA.out.mono ?_); rintro e w1 ⟨rfl, rfl⟩)
        | (go_at_call 39; (with_reducible refine HMS.out.mono ?_); rintro e w1 ⟨rfl, rfl⟩)
        | (go_at_call 18; fail))
      rw [← HW5.out, ← HN5.out]
      have hb5 := HB0.out
      have hs5 := hb5.size
      clear mk HPA HMS HW5 hd0 hd1 hz0
      have HS5 := Lib.hid hs5
      have HB5 := Lib.hid hb5
      clear hs5 hb5
      obtain ⟨T, hT⟩ : ∃ T : Nat → Fact, ∀ t_, T t_ = ([Fact.eq (.pointer (some ⟨b, 0, none⟩)), Fact.eq (.int .i64 z), Fact.eq (.int .i64 0), Fact.eq (.int .i64 0), Fact.eq (.bool true), Fact.eq (.bool true), Fact.eq (.bool false), Fact.eq (.int .i64 0), Fact.eq (.bool false), Fact.eq (.bool true), Fact.eq (.bool true), Fact.eq (.bool true), Fact.eq (.int .i64 0), Fact.eq (.pointer (some ⟨N, 2, none⟩)), Fact.eq (.int .i64 0), Fact.eq (.bool true), Fact.eq (.bool true), Fact.eq (.bool true), Fact.eq (.pointer (some ⟨b, 0, none⟩)), Fact.eq (.int .i64 z), Fact.eq (.int .i64 0), Fact.eq (.pointer (some ⟨N, 3, none⟩)), Fact.eq (.int .i64 0), Fact.eq (.bool true), Fact.eq (.bool true), Fact.eq (.bool true), Fact.eq (.pointer (some ⟨b, 0, none⟩)), Fact.eq (.int .i64 now), Fact.eq (.pointer (some ⟨mb, 0, none⟩)), Fact.eq (.pointer (some ⟨mb, 0, none⟩)), Fact.eq (.pointer (some ⟨mb, 0, none⟩)), Fact.eq (.int .i64 now), Fact.eq (.bool true), Fact.eq (.bool true), Fact.eq (.bool true), Fact.eq (.pointer (some ⟨b, 0, none⟩)), Fact.eq (.bool true), Fact.eq (.bool true), Fact.eq (.bool true), Fact.eq (.pointer (some ⟨b, 0, none⟩)), Fact.row 1 (nums .i64 L), Fact.eq (.pointer (some ⟨mb, 0, none⟩)), Fact.row 1 (nums .i64 L), Fact.eq (.bool true), Fact.eq (.bool true), Fact.eq (.bool true)] : List (Fact)).getD t_ Fact.any := ⟨_, fun _ => rfl⟩
      refine region_tab [(0, 38), (1, 39), (2, 40), (3, 41), (4, 42), (5, 43), (6, 44), (7, 45), (8, 46), (9, 47), (10, 48), (11, 49), (12, 50), (13, 51), (14, 52), (15, 53), (16, 54), (17, 55), (18, 56), (19, 57), (20, 58), (21, 59), (22, 60), (23, 61), (24, 62), (25, 63), (26, 64), (27, 65), (28, 66), (29, 67), (30, 68), (31, 69), (32, 70), (33, 71), (34, 72), (35, 73), (36, 74), (37, 75), (38, 76), (39, 77), (40, 78), (41, 79), (42, 80), (43, 81), (44, 82), (45, 6)] T (by kernel_rfl) (by kernel_rfl) (by kernel_rfl) (by kernel_rfl) (by kernel_rfl) ?_ ?_
      · skip
        refine stepsAll_cons (k := 0) ?_ ?_
        · intro fa fx fW hF fB hE K fK
          have ev0 : fa.tmps[0]?.getD undef = .pointer (some ⟨b, 0, none⟩) := hF.eo 0 (by kernel_rfl)
          refine wpOp_val rfl (wanted_none rfl) ?_ (fK (.pointer (some ⟨b, 0, none⟩)) fW (Below.refl _ _) (by rw [hT]; exact rfl))
          clear fK hE hF
          go_simp
        refine stepsAll_cons (k := 1) ?_ ?_
        · intro fa fx fW hF fB hE K fK
          have ev2 : fa.tmps[2]?.getD undef = .int .i64 z := hF.eo 2 (by kernel_rfl)
          refine wpOp_val rfl (wanted_none rfl) ?_ (fK (.int .i64 z) fW (Below.refl _ _) (by rw [hT]; exact rfl))
          clear fK hE hF
          go_simp
        refine stepsAll_cons (k := 2) ?_ ?_
        · intro fa fx fW hF fB hE K fK
          have q0 : fx 0 = .pointer (some ⟨b, 0, none⟩) := by have q := hE ⟨0, .data⟩ (by simp) rfl; rw [hT] at q; exact q
          have q1 : fx 1 = .int .i64 z := by have q := hE ⟨1, .data⟩ (by simp) rfl; rw [hT] at q; exact q
          have ev38 : fa.tmps[38]?.getD undef = .pointer (some ⟨b, 0, none⟩) := (hF.ev 0 38 (by kernel_rfl)).trans q0
          have ev39 : fa.tmps[39]?.getD undef = .int .i64 z := (hF.ev 1 39 (by kernel_rfl)).trans q1
          refine wpOp_call rfl (wanted_none rfl) (by go_simp; exact ⟨rfl, rfl⟩) ?_
          refine (HST.out fW (HQ5.out.below fB)).mono ?_
          rintro e' w' ⟨rfl, rfl⟩
          exact ⟨_, rfl, fK (_) (fW) (Below.refl _ _) (by rw [hT]; exact rfl)⟩
        refine stepsAll_cons (k := 3) ?_ ?_
        · intro fa fx fW hF fB hE K fK
          have ev9 : fa.tmps[9]?.getD undef = .int .i64 0 := hF.eo 9 (by kernel_rfl)
          refine wpOp_val rfl (wanted_none rfl) ?_ (fK (.int .i64 0) fW (Below.refl _ _) (by rw [hT]; exact rfl))
          clear fK hE hF
          go_simp
        refine stepsAll_cons (k := 4) ?_ ?_
        · intro fa fx fW hF fB hE K fK
          have q2 : fx 2 = .int .i64 0 := by have q := hE ⟨2, .data⟩ (by simp) rfl; rw [hT] at q; exact q
          have q3 : fx 3 = .int .i64 0 := by have q := hE ⟨3, .data⟩ (by simp) rfl; rw [hT] at q; exact q
          have ev40 : fa.tmps[40]?.getD undef = .int .i64 0 := (hF.ev 2 40 (by kernel_rfl)).trans q2
          have ev41 : fa.tmps[41]?.getD undef = .int .i64 0 := (hF.ev 3 41 (by kernel_rfl)).trans q3
          refine wpOp_val rfl (wanted_none rfl) ?_ (fK (.bool true) fW (Below.refl _ _) (by rw [hT]; exact rfl))
          clear fK hE hF
          go_simp
        refine stepsAll_cons (k := 5) ?_ ?_
        · intro fa fx fW hF fB hE K fK
          have q4 : fx 4 = .bool true := by have q := hE ⟨4, .data⟩ (by simp) rfl; rw [hT] at q; exact q
          have ev42 : fa.tmps[42]?.getD undef = .bool true := (hF.ev 4 42 (by kernel_rfl)).trans q4
          refine wpOp_val rfl (wanted_none rfl) ?_ (fK (.bool true) fW (Below.refl _ _) (by rw [hT]; exact rfl))
          clear fK hE hF
          go_simp
        refine stepsAll_cons (k := 6) ?_ ?_
        · intro fa fx fW hF fB hE K fK
          have q5 : fx 5 = .bool true := by have q := hE ⟨5, .guard⟩ (by simp) rfl; rw [hT] at q; exact q
          have ev8 : fa.tmps[8]?.getD undef = .bool false := hF.eo 8 (by kernel_rfl)
          refine wpOp_val rfl (wanted_yes rfl (hF.yes 5 43 (by kernel_rfl) true q5)) ?_ (fK (.bool false) fW (Below.refl _ _) (by rw [hT]; exact rfl))
          clear fK hE hF
          go_simp
        refine stepsAll_cons (k := 7) ?_ ?_
        · intro fa fx fW hF fB hE K fK
          have q5 : fx 5 = .bool true := by have q := hE ⟨5, .guard⟩ (by simp) rfl; rw [hT] at q; exact q
          have ev9 : fa.tmps[9]?.getD undef = .int .i64 0 := hF.eo 9 (by kernel_rfl)
          refine wpOp_val rfl (wanted_yes rfl (hF.yes 5 43 (by kernel_rfl) true q5)) ?_ (fK (.int .i64 0) fW (Below.refl _ _) (by rw [hT]; exact rfl))
          clear fK hE hF
          go_simp
        refine stepsAll_cons (k := 8) ?_ ?_
        · intro fa fx fW hF fB hE K fK
          have q5 : fx 5 = .bool true := by have q := hE ⟨5, .guard⟩ (by simp) rfl; rw [hT] at q; exact q
          have q7 : fx 7 = .int .i64 0 := by have q := hE ⟨7, .data⟩ (by simp) rfl; rw [hT] at q; exact q
          have ev45 : fa.tmps[45]?.getD undef = .int .i64 0 := (hF.ev 7 45 (by kernel_rfl)).trans q7
          refine wpOp_val rfl (wanted_yes rfl (hF.yes 5 43 (by kernel_rfl) true q5)) ?_ (fK (.bool false) fW (Below.refl _ _) (by rw [hT]; exact rfl))
          clear fK hE hF
          go_simp
        refine stepsAll_cons (k := 9) ?_ ?_
        · intro fa fx fW hF fB hE K fK
          have q5 : fx 5 = .bool true := by have q := hE ⟨5, .guard⟩ (by simp) rfl; rw [hT] at q; exact q
          have q6 : fx 6 = .bool false := by have q := hE ⟨6, .data⟩ (by simp) rfl; rw [hT] at q; exact q
          have q8 : fx 8 = .bool false := by have q := hE ⟨8, .data⟩ (by simp) rfl; rw [hT] at q; exact q
          have ev44 : fa.tmps[44]?.getD undef = .bool false := (hF.ev 6 44 (by kernel_rfl)).trans q6
          have ev46 : fa.tmps[46]?.getD undef = .bool false := (hF.ev 8 46 (by kernel_rfl)).trans q8
          refine wpOp_val rfl (wanted_yes rfl (hF.yes 5 43 (by kernel_rfl) true q5)) ?_ (fK (.bool true) fW (Below.refl _ _) (by rw [hT]; exact rfl))
          clear fK hE hF
          go_simp
        refine stepsAll_cons (k := 10) ?_ ?_
        · intro fa fx fW hF fB hE K fK
          have q5 : fx 5 = .bool true := by have q := hE ⟨5, .data⟩ (by simp) rfl; rw [hT] at q; exact q
          have q9 : fx 9 = .bool true := by have q := hE ⟨9, .data⟩ (by simp) rfl; rw [hT] at q; exact q
          have ev43 : fa.tmps[43]?.getD undef = .bool true := (hF.ev 5 43 (by kernel_rfl)).trans q5
          have ev47 : fa.tmps[47]?.getD undef = .bool true := (hF.ev 9 47 (by kernel_rfl)).trans q9
          refine wpOp_val rfl (wanted_none rfl) ?_ (fK (.bool true) fW (Below.refl _ _) (by rw [hT]; exact rfl))
          clear fK hE hF
          go_simp
        refine stepsAll_cons (k := 11) ?_ ?_
        · intro fa fx fW hF fB hE K fK
          have q10 : fx 10 = .bool true := by have q := hE ⟨10, .data⟩ (by simp) rfl; rw [hT] at q; exact q
          have ev48 : fa.tmps[48]?.getD undef = .bool true := (hF.ev 10 48 (by kernel_rfl)).trans q10
          refine wpOp_val rfl (wanted_none rfl) ?_ (fK (.bool true) fW (Below.refl _ _) (by rw [hT]; exact rfl))
          clear fK hE hF
          go_simp
        refine stepsAll_cons (k := 12) ?_ ?_
        · intro fa fx fW hF fB hE K fK
          have q11 : fx 11 = .bool true := by have q := hE ⟨11, .guard⟩ (by simp) rfl; rw [hT] at q; exact q
          have ev7 : fa.tmps[7]?.getD undef = .int .i64 0 := hF.eo 7 (by kernel_rfl)
          refine wpOp_val rfl (wanted_yes rfl (hF.yes 11 49 (by kernel_rfl) true q11)) ?_ (fK (.int .i64 0) fW (Below.refl _ _) (by rw [hT]; exact rfl))
          clear fK hE hF
          go_simp
        refine stepsAll_cons (k := 13) ?_ ?_
        · intro fa fx fW hF fB hE K fK
          have q11 : fx 11 = .bool true := by have q := hE ⟨11, .guard⟩ (by simp) rfl; rw [hT] at q; exact q
          have ev10 : fa.tmps[10]?.getD undef = .pointer (some ⟨N, 0, none⟩) := hF.eo 10 (by kernel_rfl)
          refine wpOp_val rfl (wanted_yes rfl (hF.yes 11 49 (by kernel_rfl) true q11)) ?_ (fK (.pointer (some ⟨N, 2, none⟩)) fW (Below.refl _ _) (by rw [hT]; exact rfl))
          clear fK hE hF
          go_simp
        refine stepsAll_cons (k := 14) ?_ ?_
        · intro fa fx fW hF fB hE K fK
          have q11 : fx 11 = .bool true := by have q := hE ⟨11, .guard⟩ (by simp) rfl; rw [hT] at q; exact q
          have q13 : fx 13 = .pointer (some ⟨N, 2, none⟩) := by have q := hE ⟨13, .data⟩ (by simp) rfl; rw [hT] at q; exact q
          have ev51 : fa.tmps[51]?.getD undef = .pointer (some ⟨N, 2, none⟩) := (hF.ev 13 51 (by kernel_rfl)).trans q13
          have zz := cell_below fB x2
          refine wpOp_val rfl (wanted_yes rfl (hF.yes 11 49 (by kernel_rfl) true q11)) ?_ (fK (.int .i64 0) fW (Below.refl _ _) (by rw [hT]; exact rfl))
          clear fK hE hF
          go_simp
        refine stepsAll_cons (k := 15) ?_ ?_
        · intro fa fx fW hF fB hE K fK
          have q11 : fx 11 = .bool true := by have q := hE ⟨11, .guard⟩ (by simp) rfl; rw [hT] at q; exact q
          have q12 : fx 12 = .int .i64 0 := by have q := hE ⟨12, .data⟩ (by simp) rfl; rw [hT] at q; exact q
          have q14 : fx 14 = .int .i64 0 := by have q := hE ⟨14, .data⟩ (by simp) rfl; rw [hT] at q; exact q
          have ev50 : fa.tmps[50]?.getD undef = .int .i64 0 := (hF.ev 12 50 (by kernel_rfl)).trans q12
          have ev52 : fa.tmps[52]?.getD undef = .int .i64 0 := (hF.ev 14 52 (by kernel_rfl)).trans q14
          refine wpOp_val rfl (wanted_yes rfl (hF.yes 11 49 (by kernel_rfl) true q11)) ?_ (fK (.bool true) fW (Below.refl _ _) (by rw [hT]; exact rfl))
          clear fK hE hF
          go_simp
        refine stepsAll_cons (k := 16) ?_ ?_
        · intro fa fx fW hF fB hE K fK
          have q11 : fx 11 = .bool true := by have q := hE ⟨11, .data⟩ (by simp) rfl; rw [hT] at q; exact q
          have q15 : fx 15 = .bool true := by have q := hE ⟨15, .data⟩ (by simp) rfl; rw [hT] at q; exact q
          have ev49 : fa.tmps[49]?.getD undef = .bool true := (hF.ev 11 49 (by kernel_rfl)).trans q11
          have ev53 : fa.tmps[53]?.getD undef = .bool true := (hF.ev 15 53 (by kernel_rfl)).trans q15
          refine wpOp_val rfl (wanted_none rfl) ?_ (fK (.bool true) fW (Below.refl _ _) (by rw [hT]; exact rfl))
          clear fK hE hF
          go_simp
        refine stepsAll_cons (k := 17) ?_ ?_
        · intro fa fx fW hF fB hE K fK
          have q16 : fx 16 = .bool true := by have q := hE ⟨16, .data⟩ (by simp) rfl; rw [hT] at q; exact q
          have ev54 : fa.tmps[54]?.getD undef = .bool true := (hF.ev 16 54 (by kernel_rfl)).trans q16
          refine wpOp_val rfl (wanted_none rfl) ?_ (fK (.bool true) fW (Below.refl _ _) (by rw [hT]; exact rfl))
          clear fK hE hF
          go_simp
        refine stepsAll_cons (k := 18) ?_ ?_
        · intro fa fx fW hF fB hE K fK
          have q17 : fx 17 = .bool true := by have q := hE ⟨17, .guard⟩ (by simp) rfl; rw [hT] at q; exact q
          have ev0 : fa.tmps[0]?.getD undef = .pointer (some ⟨b, 0, none⟩) := hF.eo 0 (by kernel_rfl)
          refine wpOp_val rfl (wanted_yes rfl (hF.yes 17 55 (by kernel_rfl) true q17)) ?_ (fK (.pointer (some ⟨b, 0, none⟩)) fW (Below.refl _ _) (by rw [hT]; exact rfl))
          clear fK hE hF
          go_simp
        refine stepsAll_cons (k := 19) ?_ ?_
        · intro fa fx fW hF fB hE K fK
          have q17 : fx 17 = .bool true := by have q := hE ⟨17, .guard⟩ (by simp) rfl; rw [hT] at q; exact q
          have ev2 : fa.tmps[2]?.getD undef = .int .i64 z := hF.eo 2 (by kernel_rfl)
          refine wpOp_val rfl (wanted_yes rfl (hF.yes 17 55 (by kernel_rfl) true q17)) ?_ (fK (.int .i64 z) fW (Below.refl _ _) (by rw [hT]; exact rfl))
          clear fK hE hF
          go_simp
        refine stepsAll_cons (k := 20) ?_ ?_
        · intro fa fx fW hF fB hE K fK
          have q17 : fx 17 = .bool true := by have q := hE ⟨17, .chain⟩ (by simp) rfl; rw [hT] at q; exact q
          have q18 : fx 18 = .pointer (some ⟨b, 0, none⟩) := by have q := hE ⟨18, .data⟩ (by simp) rfl; rw [hT] at q; exact q
          have q19 : fx 19 = .int .i64 z := by have q := hE ⟨19, .data⟩ (by simp) rfl; rw [hT] at q; exact q
          have ev56 : fa.tmps[56]?.getD undef = .pointer (some ⟨b, 0, none⟩) := (hF.ev 18 56 (by kernel_rfl)).trans q18
          have ev57 : fa.tmps[57]?.getD undef = .int .i64 z := (hF.ev 19 57 (by kernel_rfl)).trans q19
          refine wpOp_call rfl (wanted_yes rfl (hF.yes 17 55 (by kernel_rfl) true q17)) (by go_simp; exact ⟨rfl, rfl⟩) ?_
          refine (HPK.out fW (HQ5.out.below fB)).mono ?_
          rintro e' w' ⟨rfl, hbb⟩
          exact ⟨_, rfl, fK (_) (w') (hbb) (by rw [hT]; exact rfl)⟩
        refine stepsAll_cons (k := 21) ?_ ?_
        · intro fa fx fW hF fB hE K fK
          have q17 : fx 17 = .bool true := by have q := hE ⟨17, .guard⟩ (by simp) rfl; rw [hT] at q; exact q
          have ev10 : fa.tmps[10]?.getD undef = .pointer (some ⟨N, 0, none⟩) := hF.eo 10 (by kernel_rfl)
          refine wpOp_val rfl (wanted_yes rfl (hF.yes 17 55 (by kernel_rfl) true q17)) ?_ (fK (.pointer (some ⟨N, 3, none⟩)) fW (Below.refl _ _) (by rw [hT]; exact rfl))
          clear fK hE hF
          go_simp
        refine stepsAll_cons (k := 22) ?_ ?_
        · intro fa fx fW hF fB hE K fK
          have q17 : fx 17 = .bool true := by have q := hE ⟨17, .guard⟩ (by simp) rfl; rw [hT] at q; exact q
          have q21 : fx 21 = .pointer (some ⟨N, 3, none⟩) := by have q := hE ⟨21, .data⟩ (by simp) rfl; rw [hT] at q; exact q
          have ev59 : fa.tmps[59]?.getD undef = .pointer (some ⟨N, 3, none⟩) := (hF.ev 21 59 (by kernel_rfl)).trans q21
          have zz := cell_below fB x3
          refine wpOp_val rfl (wanted_yes rfl (hF.yes 17 55 (by kernel_rfl) true q17)) ?_ (fK (.int .i64 0) fW (Below.refl _ _) (by rw [hT]; exact rfl))
          clear fK hE hF
          go_simp
        refine stepsAll_cons (k := 23) ?_ ?_
        · intro fa fx fW hF fB hE K fK
          have q17 : fx 17 = .bool true := by have q := hE ⟨17, .guard⟩ (by simp) rfl; rw [hT] at q; exact q
          have q20 : fx 20 = .int .i64 0 := by have q := hE ⟨20, .data⟩ (by simp) rfl; rw [hT] at q; exact q
          have q22 : fx 22 = .int .i64 0 := by have q := hE ⟨22, .data⟩ (by simp) rfl; rw [hT] at q; exact q
          have ev58 : fa.tmps[58]?.getD undef = .int .i64 0 := (hF.ev 20 58 (by kernel_rfl)).trans q20
          have ev60 : fa.tmps[60]?.getD undef = .int .i64 0 := (hF.ev 22 60 (by kernel_rfl)).trans q22
          refine wpOp_val rfl (wanted_yes rfl (hF.yes 17 55 (by kernel_rfl) true q17)) ?_ (fK (.bool true) fW (Below.refl _ _) (by rw [hT]; exact rfl))
          clear fK hE hF
          go_simp
        refine stepsAll_cons (k := 24) ?_ ?_
        · intro fa fx fW hF fB hE K fK
          have q17 : fx 17 = .bool true := by have q := hE ⟨17, .data⟩ (by simp) rfl; rw [hT] at q; exact q
          have q23 : fx 23 = .bool true := by have q := hE ⟨23, .data⟩ (by simp) rfl; rw [hT] at q; exact q
          have ev55 : fa.tmps[55]?.getD undef = .bool true := (hF.ev 17 55 (by kernel_rfl)).trans q17
          have ev61 : fa.tmps[61]?.getD undef = .bool true := (hF.ev 23 61 (by kernel_rfl)).trans q23
          refine wpOp_val rfl (wanted_none rfl) ?_ (fK (.bool true) fW (Below.refl _ _) (by rw [hT]; exact rfl))
          clear fK hE hF
          go_simp
        refine stepsAll_cons (k := 25) ?_ ?_
        · intro fa fx fW hF fB hE K fK
          have q24 : fx 24 = .bool true := by have q := hE ⟨24, .data⟩ (by simp) rfl; rw [hT] at q; exact q
          have ev62 : fa.tmps[62]?.getD undef = .bool true := (hF.ev 24 62 (by kernel_rfl)).trans q24
          refine wpOp_val rfl (wanted_none rfl) ?_ (fK (.bool true) fW (Below.refl _ _) (by rw [hT]; exact rfl))
          clear fK hE hF
          go_simp
        refine stepsAll_cons (k := 26) ?_ ?_
        · intro fa fx fW hF fB hE K fK
          have q25 : fx 25 = .bool true := by have q := hE ⟨25, .guard⟩ (by simp) rfl; rw [hT] at q; exact q
          have ev0 : fa.tmps[0]?.getD undef = .pointer (some ⟨b, 0, none⟩) := hF.eo 0 (by kernel_rfl)
          refine wpOp_val rfl (wanted_yes rfl (hF.yes 25 63 (by kernel_rfl) true q25)) ?_ (fK (.pointer (some ⟨b, 0, none⟩)) fW (Below.refl _ _) (by rw [hT]; exact rfl))
          clear fK hE hF
          go_simp
        refine stepsAll_cons (k := 27) ?_ ?_
        · intro fa fx fW hF fB hE K fK
          have q25 : fx 25 = .bool true := by have q := hE ⟨25, .chain⟩ (by simp) rfl; rw [hT] at q; exact q
          have q26 : fx 26 = .pointer (some ⟨b, 0, none⟩) := by have q := hE ⟨26, .data⟩ (by simp) rfl; rw [hT] at q; exact q
          have ev64 : fa.tmps[64]?.getD undef = .pointer (some ⟨b, 0, none⟩) := (hF.ev 26 64 (by kernel_rfl)).trans q26
          refine wpOp_call rfl (wanted_yes rfl (hF.yes 25 63 (by kernel_rfl) true q25)) (by go_simp; exact ⟨rfl, rfl⟩) ?_
          refine (HNW.out fW (HQ5.out.below fB)).mono ?_
          rintro e' w' ⟨rfl, rfl⟩
          exact ⟨_, rfl, fK (_) (fW) (Below.refl _ _) (by rw [hT]; exact rfl)⟩
        refine stepsAll_cons (k := 28) ?_ ?_
        · intro fa fx fW hF fB hE K fK
          have q25 : fx 25 = .bool true := by have q := hE ⟨25, .guard⟩ (by simp) rfl; rw [hT] at q; exact q
          have ev1 : fa.tmps[1]?.getD undef = .pointer (some ⟨mb, 0, none⟩) := hF.eo 1 (by kernel_rfl)
          refine wpOp_val rfl (wanted_yes rfl (hF.yes 25 63 (by kernel_rfl) true q25)) ?_ (fK (.pointer (some ⟨mb, 0, none⟩)) fW (Below.refl _ _) (by rw [hT]; exact rfl))
          clear fK hE hF
          go_simp
        refine stepsAll_cons (k := 29) ?_ ?_
        · intro fa fx fW hF fB hE K fK
          have q25 : fx 25 = .bool true := by have q := hE ⟨25, .guard⟩ (by simp) rfl; rw [hT] at q; exact q
          have q28 : fx 28 = .pointer (some ⟨mb, 0, none⟩) := by have q := hE ⟨28, .data⟩ (by simp) rfl; rw [hT] at q; exact q
          have ev66 : fa.tmps[66]?.getD undef = .pointer (some ⟨mb, 0, none⟩) := (hF.ev 28 66 (by kernel_rfl)).trans q28
          refine wpOp_val rfl (wanted_yes rfl (hF.yes 25 63 (by kernel_rfl) true q25)) ?_ (fK (.pointer (some ⟨mb, 0, none⟩)) fW (Below.refl _ _) (by rw [hT]; exact rfl))
          clear fK hE hF
          go_simp
        refine stepsAll_cons (k := 30) ?_ ?_
        · intro fa fx fW hF fB hE K fK
          have q25 : fx 25 = .bool true := by have q := hE ⟨25, .guard⟩ (by simp) rfl; rw [hT] at q; exact q
          have q29 : fx 29 = .pointer (some ⟨mb, 0, none⟩) := by have q := hE ⟨29, .data⟩ (by simp) rfl; rw [hT] at q; exact q
          have ev67 : fa.tmps[67]?.getD undef = .pointer (some ⟨mb, 0, none⟩) := (hF.ev 29 67 (by kernel_rfl)).trans q29
          refine wpOp_val rfl (wanted_yes rfl (hF.yes 25 63 (by kernel_rfl) true q25)) ?_ (fK (.pointer (some ⟨mb, 0, none⟩)) fW (Below.refl _ _) (by rw [hT]; exact rfl))
          clear fK hE hF
          go_simp
        refine stepsAll_cons (k := 31) ?_ ?_
        · intro fa fx fW hF fB hE K fK
          have q25 : fx 25 = .bool true := by have q := hE ⟨25, .guard⟩ (by simp) rfl; rw [hT] at q; exact q
          have q30 : fx 30 = .pointer (some ⟨mb, 0, none⟩) := by have q := hE ⟨30, .data⟩ (by simp) rfl; rw [hT] at q; exact q
          have ev68 : fa.tmps[68]?.getD undef = .pointer (some ⟨mb, 0, none⟩) := (hF.ev 30 68 (by kernel_rfl)).trans q30
          have zz := (HM5.out.below fB).nb.cell
          refine wpOp_val rfl (wanted_yes rfl (hF.yes 25 63 (by kernel_rfl) true q25)) ?_ (fK (.int .i64 now) fW (Below.refl _ _) (by rw [hT]; exact rfl))
          clear fK hE hF
          go_simp
        refine stepsAll_cons (k := 32) ?_ ?_
        · intro fa fx fW hF fB hE K fK
          have q25 : fx 25 = .bool true := by have q := hE ⟨25, .guard⟩ (by simp) rfl; rw [hT] at q; exact q
          have q27 : fx 27 = .int .i64 now := by have q := hE ⟨27, .data⟩ (by simp) rfl; rw [hT] at q; exact q
          have q31 : fx 31 = .int .i64 now := by have q := hE ⟨31, .data⟩ (by simp) rfl; rw [hT] at q; exact q
          have ev65 : fa.tmps[65]?.getD undef = .int .i64 now := (hF.ev 27 65 (by kernel_rfl)).trans q27
          have ev69 : fa.tmps[69]?.getD undef = .int .i64 now := (hF.ev 31 69 (by kernel_rfl)).trans q31
          refine wpOp_val rfl (wanted_yes rfl (hF.yes 25 63 (by kernel_rfl) true q25)) ?_ (fK (.bool true) fW (Below.refl _ _) (by rw [hT]; exact rfl))
          clear fK hE hF
          go_simp
        refine stepsAll_cons (k := 33) ?_ ?_
        · intro fa fx fW hF fB hE K fK
          have q25 : fx 25 = .bool true := by have q := hE ⟨25, .data⟩ (by simp) rfl; rw [hT] at q; exact q
          have q32 : fx 32 = .bool true := by have q := hE ⟨32, .data⟩ (by simp) rfl; rw [hT] at q; exact q
          have ev63 : fa.tmps[63]?.getD undef = .bool true := (hF.ev 25 63 (by kernel_rfl)).trans q25
          have ev70 : fa.tmps[70]?.getD undef = .bool true := (hF.ev 32 70 (by kernel_rfl)).trans q32
          refine wpOp_val rfl (wanted_none rfl) ?_ (fK (.bool true) fW (Below.refl _ _) (by rw [hT]; exact rfl))
          clear fK hE hF
          go_simp
        refine stepsAll_cons (k := 34) ?_ ?_
        · intro fa fx fW hF fB hE K fK
          have q33 : fx 33 = .bool true := by have q := hE ⟨33, .data⟩ (by simp) rfl; rw [hT] at q; exact q
          have ev71 : fa.tmps[71]?.getD undef = .bool true := (hF.ev 33 71 (by kernel_rfl)).trans q33
          refine wpOp_val rfl (wanted_none rfl) ?_ (fK (.bool true) fW (Below.refl _ _) (by rw [hT]; exact rfl))
          clear fK hE hF
          go_simp
        refine stepsAll_cons (k := 35) ?_ ?_
        · intro fa fx fW hF fB hE K fK
          have q34 : fx 34 = .bool true := by have q := hE ⟨34, .guard⟩ (by simp) rfl; rw [hT] at q; exact q
          have ev0 : fa.tmps[0]?.getD undef = .pointer (some ⟨b, 0, none⟩) := hF.eo 0 (by kernel_rfl)
          refine wpOp_val rfl (wanted_yes rfl (hF.yes 34 72 (by kernel_rfl) true q34)) ?_ (fK (.pointer (some ⟨b, 0, none⟩)) fW (Below.refl _ _) (by rw [hT]; exact rfl))
          clear fK hE hF
          go_simp
        refine stepsAll_cons (k := 36) ?_ ?_
        · intro fa fx fW hF fB hE K fK
          have q34 : fx 34 = .bool true := by have q := hE ⟨34, .chain⟩ (by simp) rfl; rw [hT] at q; exact q
          have q35 : fx 35 = .pointer (some ⟨b, 0, none⟩) := by have q := hE ⟨35, .data⟩ (by simp) rfl; rw [hT] at q; exact q
          have ev73 : fa.tmps[73]?.getD undef = .pointer (some ⟨b, 0, none⟩) := (hF.ev 35 73 (by kernel_rfl)).trans q35
          refine wpOp_call rfl (wanted_yes rfl (hF.yes 34 72 (by kernel_rfl) true q34)) (by go_simp; exact ⟨rfl, rfl⟩) ?_
          refine (HSO.out fW (HQ5.out.below fB)).mono ?_
          rintro e' w' ⟨rfl, hbb⟩
          exact ⟨_, rfl, fK (_) (w') (hbb) (by rw [hT]; exact rfl)⟩
        refine stepsAll_cons (k := 37) ?_ ?_
        · intro fa fx fW hF fB hE K fK
          have q34 : fx 34 = .bool true := by have q := hE ⟨34, .data⟩ (by simp) rfl; rw [hT] at q; exact q
          have q36 : fx 36 = .bool true := by have q := hE ⟨36, .data⟩ (by simp) rfl; rw [hT] at q; exact q
          have ev72 : fa.tmps[72]?.getD undef = .bool true := (hF.ev 34 72 (by kernel_rfl)).trans q34
          have ev74 : fa.tmps[74]?.getD undef = .bool true := (hF.ev 36 74 (by kernel_rfl)).trans q36
          refine wpOp_val rfl (wanted_none rfl) ?_ (fK (.bool true) fW (Below.refl _ _) (by rw [hT]; exact rfl))
          clear fK hE hF
          go_simp
        refine stepsAll_cons (k := 38) ?_ ?_
        · intro fa fx fW hF fB hE K fK
          have q37 : fx 37 = .bool true := by have q := hE ⟨37, .data⟩ (by simp) rfl; rw [hT] at q; exact q
          have ev75 : fa.tmps[75]?.getD undef = .bool true := (hF.ev 37 75 (by kernel_rfl)).trans q37
          refine wpOp_val rfl (wanted_none rfl) ?_ (fK (.bool true) fW (Below.refl _ _) (by rw [hT]; exact rfl))
          clear fK hE hF
          go_simp
        refine stepsAll_cons (k := 39) ?_ ?_
        · intro fa fx fW hF fB hE K fK
          have q38 : fx 38 = .bool true := by have q := hE ⟨38, .guard⟩ (by simp) rfl; rw [hT] at q; exact q
          have ev0 : fa.tmps[0]?.getD undef = .pointer (some ⟨b, 0, none⟩) := hF.eo 0 (by kernel_rfl)
          refine wpOp_val rfl (wanted_yes rfl (hF.yes 38 76 (by kernel_rfl) true q38)) ?_ (fK (.pointer (some ⟨b, 0, none⟩)) fW (Below.refl _ _) (by rw [hT]; exact rfl))
          clear fK hE hF
          go_simp
        refine stepsAll_cons (k := 40) ?_ ?_
        · intro fa fx fW hF fB hE K fK
          have q38 : fx 38 = .bool true := by have q := hE ⟨38, .chain⟩ (by simp) rfl; rw [hT] at q; exact q
          have q39 : fx 39 = .pointer (some ⟨b, 0, none⟩) := by have q := hE ⟨39, .data⟩ (by simp) rfl; rw [hT] at q; exact q
          have ev77 : fa.tmps[77]?.getD undef = .pointer (some ⟨b, 0, none⟩) := (hF.ev 39 77 (by kernel_rfl)).trans q39
          refine wpOp_call rfl (wanted_yes rfl (hF.yes 38 76 (by kernel_rfl) true q38)) (by go_simp; exact ⟨rfl, rfl⟩) ?_
          refine (HWA.out fW (HQ5.out.below fB)).mono ?_
          rintro e' w' ⟨A1, n1, c1, rfl, hr1, hb1⟩
          exact ⟨_, rfl, fK (.slice A1 n1 c1) (w') (hb1) (by rw [hT]; exact ⟨A1, n1, c1, rfl, hr1⟩)⟩
        refine stepsAll_cons (k := 41) ?_ ?_
        · intro fa fx fW hF fB hE K fK
          have q38 : fx 38 = .bool true := by have q := hE ⟨38, .guard⟩ (by simp) rfl; rw [hT] at q; exact q
          have ev1 : fa.tmps[1]?.getD undef = .pointer (some ⟨mb, 0, none⟩) := hF.eo 1 (by kernel_rfl)
          refine wpOp_val rfl (wanted_yes rfl (hF.yes 38 76 (by kernel_rfl) true q38)) ?_ (fK (.pointer (some ⟨mb, 0, none⟩)) fW (Below.refl _ _) (by rw [hT]; exact rfl))
          clear fK hE hF
          go_simp
        refine stepsAll_cons (k := 42) ?_ ?_
        · intro fa fx fW hF fB hE K fK
          have q38 : fx 38 = .bool true := by have q := hE ⟨38, .guard⟩ (by simp) rfl; rw [hT] at q; exact q
          have q41 : fx 41 = .pointer (some ⟨mb, 0, none⟩) := by have q := hE ⟨41, .data⟩ (by simp) rfl; rw [hT] at q; exact q
          have ev79 : fa.tmps[79]?.getD undef = .pointer (some ⟨mb, 0, none⟩) := (hF.ev 41 79 (by kernel_rfl)).trans q41
          refine wpOp_call rfl (wanted_yes rfl (hF.yes 38 76 (by kernel_rfl) true q38)) (by go_simp; exact ⟨rfl, rfl⟩) ?_
          refine (HWB.out fW (HM5.out.below fB)).mono ?_
          rintro e' w' ⟨A1, n1, c1, rfl, hr1, hb1⟩
          exact ⟨_, rfl, fK (.slice A1 n1 c1) (w') (hb1) (by rw [hT]; exact ⟨A1, n1, c1, rfl, hr1⟩)⟩
        refine stepsAll_cons (k := 43) ?_ ?_
        · intro fa fx fW hF fB hE K fK
          have q38 : fx 38 = .bool true := by have q := hE ⟨38, .guard⟩ (by simp) rfl; rw [hT] at q; exact q
          have q40 : (Fact.row 1 (nums .i64 L)).p (fx 40) fW := by have q := hE ⟨40, .data⟩ (by simp) rfl; rw [hT] at q; exact q
          have q42 : (Fact.row 1 (nums .i64 L)).p (fx 42) fW := by have q := hE ⟨42, .data⟩ (by simp) rfl; rw [hT] at q; exact q
          have ev78 : fa.tmps[78]?.getD undef = fx 40 := hF.ev 40 78 (by kernel_rfl)
          have ev80 : fa.tmps[80]?.getD undef = fx 42 := hF.ev 42 80 (by kernel_rfl)
          obtain ⟨A1, n1, c1, e1, hr1⟩ := q40
          obtain ⟨A2, n2, c2, e2, hr2⟩ := q42
          rw [e1] at ev78
          rw [e2] at ev80
          refine wpOp_call rfl (wanted_yes rfl (hF.yes 38 76 (by kernel_rfl) true q38)) (by go_simp; exact ⟨rfl, rfl⟩) ?_
          refine (ints03 A1 n1 c1 L A2 n2 c2 L fW hr1 hr2).mono ?_
          rintro e' w' ⟨h1, hbb⟩
          rw [decide_eq_true rfl] at h1
          subst h1
          exact ⟨_, rfl, fK (.bool true) (w') (hbb) (by rw [hT]; exact rfl)⟩
        refine stepsAll_cons (k := 44) ?_ ?_
        · intro fa fx fW hF fB hE K fK
          have q38 : fx 38 = .bool true := by have q := hE ⟨38, .data⟩ (by simp) rfl; rw [hT] at q; exact q
          have q43 : fx 43 = .bool true := by have q := hE ⟨43, .data⟩ (by simp) rfl; rw [hT] at q; exact q
          have ev76 : fa.tmps[76]?.getD undef = .bool true := (hF.ev 38 76 (by kernel_rfl)).trans q38
          have ev81 : fa.tmps[81]?.getD undef = .bool true := (hF.ev 43 81 (by kernel_rfl)).trans q43
          refine wpOp_val rfl (wanted_none rfl) ?_ (fK (.bool true) fW (Below.refl _ _) (by rw [hT]; exact rfl))
          clear fK hE hF
          go_simp
        refine stepsAll_cons (k := 45) ?_ ?_
        · intro fa fx fW hF fB hE K fK
          have q44 : fx 44 = .bool true := by have q := hE ⟨44, .data⟩ (by simp) rfl; rw [hT] at q; exact q
          have ev82 : fa.tmps[82]?.getD undef = .bool true := (hF.ev 44 82 (by kernel_rfl)).trans q44
          refine wpOp_val rfl (wanted_none rfl) ?_ (fK (.bool true) fW (Below.refl _ _) (by rw [hT]; exact rfl))
          clear fK hE hF
          go_simp
        exact stepsAll_nil
      intro fa fx fW hF fB hx
      have q45 : fx 45 = .bool true := by have q := hx 45 (by decide); rw [hT] at q; exact q
      have ev6 : fa.tmps[6]?.getD undef = .bool true := (hF.ev 45 6 (by kernel_rfl)).trans q45
      rw [hF.eq]
      clear hF hx
      simp only [putAll, Act.put, List.setIfInBounds_toArray, List.set_cons_zero, List.set_cons_succ, q45]
      go_wp2
      go_ret
      exact ⟨rfl, below_then HB5.out HB5.out.size fB⟩
    · have hd0 : decide (z ≥ 0) = true := decide_eq_true (by omega)
      have hd1 : 0 ≤ z := by omega
      have hd2 : ¬ z < (n : Int) := by omega
      have hd3 : (n : Int) ≤ z := by omega
      have hd4 : decide (z < (n : Int)) = false := decide_eq_false hd2
      clear hzo
      go_enter Tryz.func10, Tryz.ntmps10
      go_wp2_with (first
        | (go_at_call 17; (with_reducible refine HPA.out.mono ?_); rintro e w1 ⟨rfl, rfl⟩)
        | (go_at_call 39; (with_reducible refine HMS.out.mono ?_); rintro e w1 ⟨rfl, rfl⟩)
        | (go_at_call 18; fail))
      rw [← HW5.out, ← HN5.out]
      have hb5 := HB0.out
      have hs5 := hb5.size
      clear mk HPA HMS HW5 hd0 hd1 hd2 hd3 hd4 hz0
      have HS5 := Lib.hid hs5
      have HB5 := Lib.hid hb5
      clear hs5 hb5
      obtain ⟨T, hT⟩ : ∃ T : Nat → Fact, ∀ t_, T t_ = ([Fact.eq (.pointer (some ⟨b, 0, none⟩)), Fact.eq (.int .i64 z), Fact.eq (.int .i64 0), Fact.eq (.int .i64 0), Fact.eq (.bool true), Fact.eq (.bool true), Fact.eq (.bool false), Fact.eq (.int .i64 0), Fact.eq (.bool false), Fact.eq (.bool true), Fact.eq (.bool true), Fact.eq (.bool true), Fact.eq (.int .i64 0), Fact.eq (.pointer (some ⟨N, 2, none⟩)), Fact.eq (.int .i64 0), Fact.eq (.bool true), Fact.eq (.bool true), Fact.eq (.bool true), Fact.eq (.pointer (some ⟨b, 0, none⟩)), Fact.eq (.int .i64 z), Fact.eq (.int .i64 0), Fact.eq (.pointer (some ⟨N, 3, none⟩)), Fact.eq (.int .i64 0), Fact.eq (.bool true), Fact.eq (.bool true), Fact.eq (.bool true), Fact.eq (.pointer (some ⟨b, 0, none⟩)), Fact.eq (.int .i64 now), Fact.eq (.pointer (some ⟨mb, 0, none⟩)), Fact.eq (.pointer (some ⟨mb, 0, none⟩)), Fact.eq (.pointer (some ⟨mb, 0, none⟩)), Fact.eq (.int .i64 now), Fact.eq (.bool true), Fact.eq (.bool true), Fact.eq (.bool true), Fact.eq (.pointer (some ⟨b, 0, none⟩)), Fact.eq (.bool true), Fact.eq (.bool true), Fact.eq (.bool true), Fact.eq (.pointer (some ⟨b, 0, none⟩)), Fact.row 1 (nums .i64 L), Fact.eq (.pointer (some ⟨mb, 0, none⟩)), Fact.row 1 (nums .i64 L), Fact.eq (.bool true), Fact.eq (.bool true), Fact.eq (.bool true)] : List (Fact)).getD t_ Fact.any := ⟨_, fun _ => rfl⟩
      refine region_tab [(0, 38), (1, 39), (2, 40), (3, 41), (4, 42), (5, 43), (6, 44), (7, 45), (8, 46), (9, 47), (10, 48), (11, 49), (12, 50), (13, 51), (14, 52), (15, 53), (16, 54), (17, 55), (18, 56), (19, 57), (20, 58), (21, 59), (22, 60), (23, 61), (24, 62), (25, 63), (26, 64), (27, 65), (28, 66), (29, 67), (30, 68), (31, 69), (32, 70), (33, 71), (34, 72), (35, 73), (36, 74), (37, 75), (38, 76), (39, 77), (40, 78), (41, 79), (42, 80), (43, 81), (44, 82), (45, 6)] T (by kernel_rfl) (by kernel_rfl) (by kernel_rfl) (by kernel_rfl) (by kernel_rfl) ?_ ?_
      · skip
        refine stepsAll_cons (k := 0) ?_ ?_
        · intro fa fx fW hF fB hE K fK
          have ev0 : fa.tmps[0]?.getD undef = .pointer (some ⟨b, 0, none⟩) := hF.eo 0 (by kernel_rfl)
          refine wpOp_val rfl (wanted_none rfl) ?_ (fK (.pointer (some ⟨b, 0, none⟩)) fW (Below.refl _ _) (by rw [hT]; exact rfl))
          clear fK hE hF
          go_simp
        refine stepsAll_cons (k := 1) ?_ ?_
        · intro fa fx fW hF fB hE K fK
          have ev2 : fa.tmps[2]?.getD undef = .int .i64 z := hF.eo 2 (by kernel_rfl)
          refine wpOp_val rfl (wanted_none rfl) ?_ (fK (.int .i64 z) fW (Below.refl _ _) (by rw [hT]; exact rfl))
          clear fK hE hF
          go_simp
        refine stepsAll_cons (k := 2) ?_ ?_
        · intro fa fx fW hF fB hE K fK
          have q0 : fx 0 = .pointer (some ⟨b, 0, none⟩) := by have q := hE ⟨0, .data⟩ (by simp) rfl; rw [hT] at q; exact q
          have q1 : fx 1 = .int .i64 z := by have q := hE ⟨1, .data⟩ (by simp) rfl; rw [hT] at q; exact q
          have ev38 : fa.tmps[38]?.getD undef = .pointer (some ⟨b, 0, none⟩) := (hF.ev 0 38 (by kernel_rfl)).trans q0
          have ev39 : fa.tmps[39]?.getD undef = .int .i64 z := (hF.ev 1 39 (by kernel_rfl)).trans q1
          refine wpOp_call rfl (wanted_none rfl) (by go_simp; exact ⟨rfl, rfl⟩) ?_
          refine (HST.out fW (HQ5.out.below fB)).mono ?_
          rintro e' w' ⟨rfl, rfl⟩
          exact ⟨_, rfl, fK (_) (fW) (Below.refl _ _) (by rw [hT]; exact rfl)⟩
        refine stepsAll_cons (k := 3) ?_ ?_
        · intro fa fx fW hF fB hE K fK
          have ev9 : fa.tmps[9]?.getD undef = .int .i64 0 := hF.eo 9 (by kernel_rfl)
          refine wpOp_val rfl (wanted_none rfl) ?_ (fK (.int .i64 0) fW (Below.refl _ _) (by rw [hT]; exact rfl))
          clear fK hE hF
          go_simp
        refine stepsAll_cons (k := 4) ?_ ?_
        · intro fa fx fW hF fB hE K fK
          have q2 : fx 2 = .int .i64 0 := by have q := hE ⟨2, .data⟩ (by simp) rfl; rw [hT] at q; exact q
          have q3 : fx 3 = .int .i64 0 := by have q := hE ⟨3, .data⟩ (by simp) rfl; rw [hT] at q; exact q
          have ev40 : fa.tmps[40]?.getD undef = .int .i64 0 := (hF.ev 2 40 (by kernel_rfl)).trans q2
          have ev41 : fa.tmps[41]?.getD undef = .int .i64 0 := (hF.ev 3 41 (by kernel_rfl)).trans q3
          refine wpOp_val rfl (wanted_none rfl) ?_ (fK (.bool true) fW (Below.refl _ _) (by rw [hT]; exact rfl))
          clear fK hE hF
          go_simp
        refine stepsAll_cons (k := 5) ?_ ?_
        · intro fa fx fW hF fB hE K fK
          have q4 : fx 4 = .bool true := by have q := hE ⟨4, .data⟩ (by simp) rfl; rw [hT] at q; exact q
          have ev42 : fa.tmps[42]?.getD undef = .bool true := (hF.ev 4 42 (by kernel_rfl)).trans q4
          refine wpOp_val rfl (wanted_none rfl) ?_ (fK (.bool true) fW (Below.refl _ _) (by rw [hT]; exact rfl))
          clear fK hE hF
          go_simp
        refine stepsAll_cons (k := 6) ?_ ?_
        · intro fa fx fW hF fB hE K fK
          have q5 : fx 5 = .bool true := by have q := hE ⟨5, .guard⟩ (by simp) rfl; rw [hT] at q; exact q
          have ev8 : fa.tmps[8]?.getD undef = .bool false := hF.eo 8 (by kernel_rfl)
          refine wpOp_val rfl (wanted_yes rfl (hF.yes 5 43 (by kernel_rfl) true q5)) ?_ (fK (.bool false) fW (Below.refl _ _) (by rw [hT]; exact rfl))
          clear fK hE hF
          go_simp
        refine stepsAll_cons (k := 7) ?_ ?_
        · intro fa fx fW hF fB hE K fK
          have q5 : fx 5 = .bool true := by have q := hE ⟨5, .guard⟩ (by simp) rfl; rw [hT] at q; exact q
          have ev9 : fa.tmps[9]?.getD undef = .int .i64 0 := hF.eo 9 (by kernel_rfl)
          refine wpOp_val rfl (wanted_yes rfl (hF.yes 5 43 (by kernel_rfl) true q5)) ?_ (fK (.int .i64 0) fW (Below.refl _ _) (by rw [hT]; exact rfl))
          clear fK hE hF
          go_simp
        refine stepsAll_cons (k := 8) ?_ ?_
        · intro fa fx fW hF fB hE K fK
          have q5 : fx 5 = .bool true := by have q := hE ⟨5, .guard⟩ (by simp) rfl; rw [hT] at q; exact q
          have q7 : fx 7 = .int .i64 0 := by have q := hE ⟨7, .data⟩ (by simp) rfl; rw [hT] at q; exact q
          have ev45 : fa.tmps[45]?.getD undef = .int .i64 0 := (hF.ev 7 45 (by kernel_rfl)).trans q7
          refine wpOp_val rfl (wanted_yes rfl (hF.yes 5 43 (by kernel_rfl) true q5)) ?_ (fK (.bool false) fW (Below.refl _ _) (by rw [hT]; exact rfl))
          clear fK hE hF
          go_simp
        refine stepsAll_cons (k := 9) ?_ ?_
        · intro fa fx fW hF fB hE K fK
          have q5 : fx 5 = .bool true := by have q := hE ⟨5, .guard⟩ (by simp) rfl; rw [hT] at q; exact q
          have q6 : fx 6 = .bool false := by have q := hE ⟨6, .data⟩ (by simp) rfl; rw [hT] at q; exact q
          have q8 : fx 8 = .bool false := by have q := hE ⟨8, .data⟩ (by simp) rfl; rw [hT] at q; exact q
          have ev44 : fa.tmps[44]?.getD undef = .bool false := (hF.ev 6 44 (by kernel_rfl)).trans q6
          have ev46 : fa.tmps[46]?.getD undef = .bool false := (hF.ev 8 46 (by kernel_rfl)).trans q8
          refine wpOp_val rfl (wanted_yes rfl (hF.yes 5 43 (by kernel_rfl) true q5)) ?_ (fK (.bool true) fW (Below.refl _ _) (by rw [hT]; exact rfl))
          clear fK hE hF
          go_simp
        refine stepsAll_cons (k := 10) ?_ ?_
        · intro fa fx fW hF fB hE K fK
          have q5 : fx 5 = .bool true := by have q := hE ⟨5, .data⟩ (by simp) rfl; rw [hT] at q; exact q
          have q9 : fx 9 = .bool true := by have q := hE ⟨9, .data⟩ (by simp) rfl; rw [hT] at q; exact q
          have ev43 : fa.tmps[43]?.getD undef = .bool true := (hF.ev 5 43 (by kernel_rfl)).trans q5
          have ev47 : fa.tmps[47]?.getD undef = .bool true := (hF.ev 9 47 (by kernel_rfl)).trans q9
          refine wpOp_val rfl (wanted_none rfl) ?_ (fK (.bool true) fW (Below.refl _ _) (by rw [hT]; exact rfl))
          clear fK hE hF
          go_simp
        refine stepsAll_cons (k := 11) ?_ ?_
        · intro fa fx fW hF fB hE K fK
          have q10 : fx 10 = .bool true := by have q := hE ⟨10, .data⟩ (by simp) rfl; rw [hT] at q; exact q
          have ev48 : fa.tmps[48]?.getD undef = .bool true := (hF.ev 10 48 (by kernel_rfl)).trans q10
          refine wpOp_val rfl (wanted_none rfl) ?_ (fK (.bool true) fW (Below.refl _ _) (by rw [hT]; exact rfl))
          clear fK hE hF
          go_simp
        refine stepsAll_cons (k := 12) ?_ ?_
        · intro fa fx fW hF fB hE K fK
          have q11 : fx 11 = .bool true := by have q := hE ⟨11, .guard⟩ (by simp) rfl; rw [hT] at q; exact q
          have ev7 : fa.tmps[7]?.getD undef = .int .i64 0 := hF.eo 7 (by kernel_rfl)
          refine wpOp_val rfl (wanted_yes rfl (hF.yes 11 49 (by kernel_rfl) true q11)) ?_ (fK (.int .i64 0) fW (Below.refl _ _) (by rw [hT]; exact rfl))
          clear fK hE hF
          go_simp
        refine stepsAll_cons (k := 13) ?_ ?_
        · intro fa fx fW hF fB hE K fK
          have q11 : fx 11 = .bool true := by have q := hE ⟨11, .guard⟩ (by simp) rfl; rw [hT] at q; exact q
          have ev10 : fa.tmps[10]?.getD undef = .pointer (some ⟨N, 0, none⟩) := hF.eo 10 (by kernel_rfl)
          refine wpOp_val rfl (wanted_yes rfl (hF.yes 11 49 (by kernel_rfl) true q11)) ?_ (fK (.pointer (some ⟨N, 2, none⟩)) fW (Below.refl _ _) (by rw [hT]; exact rfl))
          clear fK hE hF
          go_simp
        refine stepsAll_cons (k := 14) ?_ ?_
        · intro fa fx fW hF fB hE K fK
          have q11 : fx 11 = .bool true := by have q := hE ⟨11, .guard⟩ (by simp) rfl; rw [hT] at q; exact q
          have q13 : fx 13 = .pointer (some ⟨N, 2, none⟩) := by have q := hE ⟨13, .data⟩ (by simp) rfl; rw [hT] at q; exact q
          have ev51 : fa.tmps[51]?.getD undef = .pointer (some ⟨N, 2, none⟩) := (hF.ev 13 51 (by kernel_rfl)).trans q13
          have zz := cell_below fB x2
          refine wpOp_val rfl (wanted_yes rfl (hF.yes 11 49 (by kernel_rfl) true q11)) ?_ (fK (.int .i64 0) fW (Below.refl _ _) (by rw [hT]; exact rfl))
          clear fK hE hF
          go_simp
        refine stepsAll_cons (k := 15) ?_ ?_
        · intro fa fx fW hF fB hE K fK
          have q11 : fx 11 = .bool true := by have q := hE ⟨11, .guard⟩ (by simp) rfl; rw [hT] at q; exact q
          have q12 : fx 12 = .int .i64 0 := by have q := hE ⟨12, .data⟩ (by simp) rfl; rw [hT] at q; exact q
          have q14 : fx 14 = .int .i64 0 := by have q := hE ⟨14, .data⟩ (by simp) rfl; rw [hT] at q; exact q
          have ev50 : fa.tmps[50]?.getD undef = .int .i64 0 := (hF.ev 12 50 (by kernel_rfl)).trans q12
          have ev52 : fa.tmps[52]?.getD undef = .int .i64 0 := (hF.ev 14 52 (by kernel_rfl)).trans q14
          refine wpOp_val rfl (wanted_yes rfl (hF.yes 11 49 (by kernel_rfl) true q11)) ?_ (fK (.bool true) fW (Below.refl _ _) (by rw [hT]; exact rfl))
          clear fK hE hF
          go_simp
        refine stepsAll_cons (k := 16) ?_ ?_
        · intro fa fx fW hF fB hE K fK
          have q11 : fx 11 = .bool true := by have q := hE ⟨11, .data⟩ (by simp) rfl; rw [hT] at q; exact q
          have q15 : fx 15 = .bool true := by have q := hE ⟨15, .data⟩ (by simp) rfl; rw [hT] at q; exact q
          have ev49 : fa.tmps[49]?.getD undef = .bool true := (hF.ev 11 49 (by kernel_rfl)).trans q11
          have ev53 : fa.tmps[53]?.getD undef = .bool true := (hF.ev 15 53 (by kernel_rfl)).trans q15
          refine wpOp_val rfl (wanted_none rfl) ?_ (fK (.bool true) fW (Below.refl _ _) (by rw [hT]; exact rfl))
          clear fK hE hF
          go_simp
        refine stepsAll_cons (k := 17) ?_ ?_
        · intro fa fx fW hF fB hE K fK
          have q16 : fx 16 = .bool true := by have q := hE ⟨16, .data⟩ (by simp) rfl; rw [hT] at q; exact q
          have ev54 : fa.tmps[54]?.getD undef = .bool true := (hF.ev 16 54 (by kernel_rfl)).trans q16
          refine wpOp_val rfl (wanted_none rfl) ?_ (fK (.bool true) fW (Below.refl _ _) (by rw [hT]; exact rfl))
          clear fK hE hF
          go_simp
        refine stepsAll_cons (k := 18) ?_ ?_
        · intro fa fx fW hF fB hE K fK
          have q17 : fx 17 = .bool true := by have q := hE ⟨17, .guard⟩ (by simp) rfl; rw [hT] at q; exact q
          have ev0 : fa.tmps[0]?.getD undef = .pointer (some ⟨b, 0, none⟩) := hF.eo 0 (by kernel_rfl)
          refine wpOp_val rfl (wanted_yes rfl (hF.yes 17 55 (by kernel_rfl) true q17)) ?_ (fK (.pointer (some ⟨b, 0, none⟩)) fW (Below.refl _ _) (by rw [hT]; exact rfl))
          clear fK hE hF
          go_simp
        refine stepsAll_cons (k := 19) ?_ ?_
        · intro fa fx fW hF fB hE K fK
          have q17 : fx 17 = .bool true := by have q := hE ⟨17, .guard⟩ (by simp) rfl; rw [hT] at q; exact q
          have ev2 : fa.tmps[2]?.getD undef = .int .i64 z := hF.eo 2 (by kernel_rfl)
          refine wpOp_val rfl (wanted_yes rfl (hF.yes 17 55 (by kernel_rfl) true q17)) ?_ (fK (.int .i64 z) fW (Below.refl _ _) (by rw [hT]; exact rfl))
          clear fK hE hF
          go_simp
        refine stepsAll_cons (k := 20) ?_ ?_
        · intro fa fx fW hF fB hE K fK
          have q17 : fx 17 = .bool true := by have q := hE ⟨17, .chain⟩ (by simp) rfl; rw [hT] at q; exact q
          have q18 : fx 18 = .pointer (some ⟨b, 0, none⟩) := by have q := hE ⟨18, .data⟩ (by simp) rfl; rw [hT] at q; exact q
          have q19 : fx 19 = .int .i64 z := by have q := hE ⟨19, .data⟩ (by simp) rfl; rw [hT] at q; exact q
          have ev56 : fa.tmps[56]?.getD undef = .pointer (some ⟨b, 0, none⟩) := (hF.ev 18 56 (by kernel_rfl)).trans q18
          have ev57 : fa.tmps[57]?.getD undef = .int .i64 z := (hF.ev 19 57 (by kernel_rfl)).trans q19
          refine wpOp_call rfl (wanted_yes rfl (hF.yes 17 55 (by kernel_rfl) true q17)) (by go_simp; exact ⟨rfl, rfl⟩) ?_
          refine (HPK.out fW (HQ5.out.below fB)).mono ?_
          rintro e' w' ⟨rfl, hbb⟩
          exact ⟨_, rfl, fK (_) (w') (hbb) (by rw [hT]; exact rfl)⟩
        refine stepsAll_cons (k := 21) ?_ ?_
        · intro fa fx fW hF fB hE K fK
          have q17 : fx 17 = .bool true := by have q := hE ⟨17, .guard⟩ (by simp) rfl; rw [hT] at q; exact q
          have ev10 : fa.tmps[10]?.getD undef = .pointer (some ⟨N, 0, none⟩) := hF.eo 10 (by kernel_rfl)
          refine wpOp_val rfl (wanted_yes rfl (hF.yes 17 55 (by kernel_rfl) true q17)) ?_ (fK (.pointer (some ⟨N, 3, none⟩)) fW (Below.refl _ _) (by rw [hT]; exact rfl))
          clear fK hE hF
          go_simp
        refine stepsAll_cons (k := 22) ?_ ?_
        · intro fa fx fW hF fB hE K fK
          have q17 : fx 17 = .bool true := by have q := hE ⟨17, .guard⟩ (by simp) rfl; rw [hT] at q; exact q
          have q21 : fx 21 = .pointer (some ⟨N, 3, none⟩) := by have q := hE ⟨21, .data⟩ (by simp) rfl; rw [hT] at q; exact q
          have ev59 : fa.tmps[59]?.getD undef = .pointer (some ⟨N, 3, none⟩) := (hF.ev 21 59 (by kernel_rfl)).trans q21
          have zz := cell_below fB x3
          refine wpOp_val rfl (wanted_yes rfl (hF.yes 17 55 (by kernel_rfl) true q17)) ?_ (fK (.int .i64 0) fW (Below.refl _ _) (by rw [hT]; exact rfl))
          clear fK hE hF
          go_simp
        refine stepsAll_cons (k := 23) ?_ ?_
        · intro fa fx fW hF fB hE K fK
          have q17 : fx 17 = .bool true := by have q := hE ⟨17, .guard⟩ (by simp) rfl; rw [hT] at q; exact q
          have q20 : fx 20 = .int .i64 0 := by have q := hE ⟨20, .data⟩ (by simp) rfl; rw [hT] at q; exact q
          have q22 : fx 22 = .int .i64 0 := by have q := hE ⟨22, .data⟩ (by simp) rfl; rw [hT] at q; exact q
          have ev58 : fa.tmps[58]?.getD undef = .int .i64 0 := (hF.ev 20 58 (by kernel_rfl)).trans q20
          have ev60 : fa.tmps[60]?.getD undef = .int .i64 0 := (hF.ev 22 60 (by kernel_rfl)).trans q22
          refine wpOp_val rfl (wanted_yes rfl (hF.yes 17 55 (by kernel_rfl) true q17)) ?_ (fK (.bool true) fW (Below.refl _ _) (by rw [hT]; exact rfl))
          clear fK hE hF
          go_simp
        refine stepsAll_cons (k := 24) ?_ ?_
        · intro fa fx fW hF fB hE K fK
          have q17 : fx 17 = .bool true := by have q := hE ⟨17, .data⟩ (by simp) rfl; rw [hT] at q; exact q
          have q23 : fx 23 = .bool true := by have q := hE ⟨23, .data⟩ (by simp) rfl; rw [hT] at q; exact q
          have ev55 : fa.tmps[55]?.getD undef = .bool true := (hF.ev 17 55 (by kernel_rfl)).trans q17
          have ev61 : fa.tmps[61]?.getD undef = .bool true := (hF.ev 23 61 (by kernel_rfl)).trans q23
          refine wpOp_val rfl (wanted_none rfl) ?_ (fK (.bool true) fW (Below.refl _ _) (by rw [hT]; exact rfl))
          clear fK hE hF
          go_simp
        refine stepsAll_cons (k := 25) ?_ ?_
        · intro fa fx fW hF fB hE K fK
          have q24 : fx 24 = .bool true := by have q := hE ⟨24, .data⟩ (by simp) rfl; rw [hT] at q; exact q
          have ev62 : fa.tmps[62]?.getD undef = .bool true := (hF.ev 24 62 (by kernel_rfl)).trans q24
          refine wpOp_val rfl (wanted_none rfl) ?_ (fK (.bool true) fW (Below.refl _ _) (by rw [hT]; exact rfl))
          clear fK hE hF
          go_simp
        refine stepsAll_cons (k := 26) ?_ ?_
        · intro fa fx fW hF fB hE K fK
          have q25 : fx 25 = .bool true := by have q := hE ⟨25, .guard⟩ (by simp) rfl; rw [hT] at q; exact q
          have ev0 : fa.tmps[0]?.getD undef = .pointer (some ⟨b, 0, none⟩) := hF.eo 0 (by kernel_rfl)
          refine wpOp_val rfl (wanted_yes rfl (hF.yes 25 63 (by kernel_rfl) true q25)) ?_ (fK (.pointer (some ⟨b, 0, none⟩)) fW (Below.refl _ _) (by rw [hT]; exact rfl))
          clear fK hE hF
          go_simp
        refine stepsAll_cons (k := 27) ?_ ?_
        · intro fa fx fW hF fB hE K fK
          have q25 : fx 25 = .bool true := by have q := hE ⟨25, .chain⟩ (by simp) rfl; rw [hT] at q; exact q
          have q26 : fx 26 = .pointer (some ⟨b, 0, none⟩) := by have q := hE ⟨26, .data⟩ (by simp) rfl; rw [hT] at q; exact q
          have ev64 : fa.tmps[64]?.getD undef = .pointer (some ⟨b, 0, none⟩) := (hF.ev 26 64 (by kernel_rfl)).trans q26
          refine wpOp_call rfl (wanted_yes rfl (hF.yes 25 63 (by kernel_rfl) true q25)) (by go_simp; exact ⟨rfl, rfl⟩) ?_
          refine (HNW.out fW (HQ5.out.below fB)).mono ?_
          rintro e' w' ⟨rfl, rfl⟩
          exact ⟨_, rfl, fK (_) (fW) (Below.refl _ _) (by rw [hT]; exact rfl)⟩
        refine stepsAll_cons (k := 28) ?_ ?_
        · intro fa fx fW hF fB hE K fK
          have q25 : fx 25 = .bool true := by have q := hE ⟨25, .guard⟩ (by simp) rfl; rw [hT] at q; exact q
          have ev1 : fa.tmps[1]?.getD undef = .pointer (some ⟨mb, 0, none⟩) := hF.eo 1 (by kernel_rfl)
          refine wpOp_val rfl (wanted_yes rfl (hF.yes 25 63 (by kernel_rfl) true q25)) ?_ (fK (.pointer (some ⟨mb, 0, none⟩)) fW (Below.refl _ _) (by rw [hT]; exact rfl))
          clear fK hE hF
          go_simp
        refine stepsAll_cons (k := 29) ?_ ?_
        · intro fa fx fW hF fB hE K fK
          have q25 : fx 25 = .bool true := by have q := hE ⟨25, .guard⟩ (by simp) rfl; rw [hT] at q; exact q
          have q28 : fx 28 = .pointer (some ⟨mb, 0, none⟩) := by have q := hE ⟨28, .data⟩ (by simp) rfl; rw [hT] at q; exact q
          have ev66 : fa.tmps[66]?.getD undef = .pointer (some ⟨mb, 0, none⟩) := (hF.ev 28 66 (by kernel_rfl)).trans q28
          refine wpOp_val rfl (wanted_yes rfl (hF.yes 25 63 (by kernel_rfl) true q25)) ?_ (fK (.pointer (some ⟨mb, 0, none⟩)) fW (Below.refl _ _) (by rw [hT]; exact rfl))
          clear fK hE hF
          go_simp
        refine stepsAll_cons (k := 30) ?_ ?_
        · intro fa fx fW hF fB hE K fK
          have q25 : fx 25 = .bool true := by have q := hE ⟨25, .guard⟩ (by simp) rfl; rw [hT] at q; exact q
          have q29 : fx 29 = .pointer (some ⟨mb, 0, none⟩) := by have q := hE ⟨29, .data⟩ (by simp) rfl; rw [hT] at q; exact q
          have ev67 : fa.tmps[67]?.getD undef = .pointer (some ⟨mb, 0, none⟩) := (hF.ev 29 67 (by kernel_rfl)).trans q29
          refine wpOp_val rfl (wanted_yes rfl (hF.yes 25 63 (by kernel_rfl) true q25)) ?_ (fK (.pointer (some ⟨mb, 0, none⟩)) fW (Below.refl _ _) (by rw [hT]; exact rfl))
          clear fK hE hF
          go_simp
        refine stepsAll_cons (k := 31) ?_ ?_
        · intro fa fx fW hF fB hE K fK
          have q25 : fx 25 = .bool true := by have q := hE ⟨25, .guard⟩ (by simp) rfl; rw [hT] at q; exact q
          have q30 : fx 30 = .pointer (some ⟨mb, 0, none⟩) := by have q := hE ⟨30, .data⟩ (by simp) rfl; rw [hT] at q; exact q
          have ev68 : fa.tmps[68]?.getD undef = .pointer (some ⟨mb, 0, none⟩) := (hF.ev 30 68 (by kernel_rfl)).trans q30
          have zz := (HM5.out.below fB).nb.cell
          refine wpOp_val rfl (wanted_yes rfl (hF.yes 25 63 (by kernel_rfl) true q25)) ?_ (fK (.int .i64 now) fW (Below.refl _ _) (by rw [hT]; exact rfl))
          clear fK hE hF
          go_simp
        refine stepsAll_cons (k := 32) ?_ ?_
        · intro fa fx fW hF fB hE K fK
          have q25 : fx 25 = .bool true := by have q := hE ⟨25, .guard⟩ (by simp) rfl; rw [hT] at q; exact q
          have q27 : fx 27 = .int .i64 now := by have q := hE ⟨27, .data⟩ (by simp) rfl; rw [hT] at q; exact q
          have q31 : fx 31 = .int .i64 now := by have q := hE ⟨31, .data⟩ (by simp) rfl; rw [hT] at q; exact q
          have ev65 : fa.tmps[65]?.getD undef = .int .i64 now := (hF.ev 27 65 (by kernel_rfl)).trans q27
          have ev69 : fa.tmps[69]?.getD undef = .int .i64 now := (hF.ev 31 69 (by kernel_rfl)).trans q31
          refine wpOp_val rfl (wanted_yes rfl (hF.yes 25 63 (by kernel_rfl) true q25)) ?_ (fK (.bool true) fW (Below.refl _ _) (by rw [hT]; exact rfl))
          clear fK hE hF
          go_simp
        refine stepsAll_cons (k := 33) ?_ ?_
        · intro fa fx fW hF fB hE K fK
          have q25 : fx 25 = .bool true := by have q := hE ⟨25, .data⟩ (by simp) rfl; rw [hT] at q; exact q
          have q32 : fx 32 = .bool true := by have q := hE ⟨32, .data⟩ (by simp) rfl; rw [hT] at q; exact q
          have ev63 : fa.tmps[63]?.getD undef = .bool true := (hF.ev 25 63 (by kernel_rfl)).trans q25
          have ev70 : fa.tmps[70]?.getD undef = .bool true := (hF.ev 32 70 (by kernel_rfl)).trans q32
          refine wpOp_val rfl (wanted_none rfl) ?_ (fK (.bool true) fW (Below.refl _ _) (by rw [hT]; exact rfl))
          clear fK hE hF
          go_simp
        refine stepsAll_cons (k := 34) ?_ ?_
        · intro fa fx fW hF fB hE K fK
          have q33 : fx 33 = .bool true := by have q := hE ⟨33, .data⟩ (by simp) rfl; rw [hT] at q; exact q
          have ev71 : fa.tmps[71]?.getD undef = .bool true := (hF.ev 33 71 (by kernel_rfl)).trans q33
          refine wpOp_val rfl (wanted_none rfl) ?_ (fK (.bool true) fW (Below.refl _ _) (by rw [hT]; exact rfl))
          clear fK hE hF
          go_simp
        refine stepsAll_cons (k := 35) ?_ ?_
        · intro fa fx fW hF fB hE K fK
          have q34 : fx 34 = .bool true := by have q := hE ⟨34, .guard⟩ (by simp) rfl; rw [hT] at q; exact q
          have ev0 : fa.tmps[0]?.getD undef = .pointer (some ⟨b, 0, none⟩) := hF.eo 0 (by kernel_rfl)
          refine wpOp_val rfl (wanted_yes rfl (hF.yes 34 72 (by kernel_rfl) true q34)) ?_ (fK (.pointer (some ⟨b, 0, none⟩)) fW (Below.refl _ _) (by rw [hT]; exact rfl))
          clear fK hE hF
          go_simp
        refine stepsAll_cons (k := 36) ?_ ?_
        · intro fa fx fW hF fB hE K fK
          have q34 : fx 34 = .bool true := by have q := hE ⟨34, .chain⟩ (by simp) rfl; rw [hT] at q; exact q
          have q35 : fx 35 = .pointer (some ⟨b, 0, none⟩) := by have q := hE ⟨35, .data⟩ (by simp) rfl; rw [hT] at q; exact q
          have ev73 : fa.tmps[73]?.getD undef = .pointer (some ⟨b, 0, none⟩) := (hF.ev 35 73 (by kernel_rfl)).trans q35
          refine wpOp_call rfl (wanted_yes rfl (hF.yes 34 72 (by kernel_rfl) true q34)) (by go_simp; exact ⟨rfl, rfl⟩) ?_
          refine (HSO.out fW (HQ5.out.below fB)).mono ?_
          rintro e' w' ⟨rfl, hbb⟩
          exact ⟨_, rfl, fK (_) (w') (hbb) (by rw [hT]; exact rfl)⟩
        refine stepsAll_cons (k := 37) ?_ ?_
        · intro fa fx fW hF fB hE K fK
          have q34 : fx 34 = .bool true := by have q := hE ⟨34, .data⟩ (by simp) rfl; rw [hT] at q; exact q
          have q36 : fx 36 = .bool true := by have q := hE ⟨36, .data⟩ (by simp) rfl; rw [hT] at q; exact q
          have ev72 : fa.tmps[72]?.getD undef = .bool true := (hF.ev 34 72 (by kernel_rfl)).trans q34
          have ev74 : fa.tmps[74]?.getD undef = .bool true := (hF.ev 36 74 (by kernel_rfl)).trans q36
          refine wpOp_val rfl (wanted_none rfl) ?_ (fK (.bool true) fW (Below.refl _ _) (by rw [hT]; exact rfl))
          clear fK hE hF
          go_simp
        refine stepsAll_cons (k := 38) ?_ ?_
        · intro fa fx fW hF fB hE K fK
          have q37 : fx 37 = .bool true := by have q := hE ⟨37, .data⟩ (by simp) rfl; rw [hT] at q; exact q
          have ev75 : fa.tmps[75]?.getD undef = .bool true := (hF.ev 37 75 (by kernel_rfl)).trans q37
          refine wpOp_val rfl (wanted_none rfl) ?_ (fK (.bool true) fW (Below.refl _ _) (by rw [hT]; exact rfl))
          clear fK hE hF
          go_simp
        refine stepsAll_cons (k := 39) ?_ ?_
        · intro fa fx fW hF fB hE K fK
          have q38 : fx 38 = .bool true := by have q := hE ⟨38, .guard⟩ (by simp) rfl; rw [hT] at q; exact q
          have ev0 : fa.tmps[0]?.getD undef = .pointer (some ⟨b, 0, none⟩) := hF.eo 0 (by kernel_rfl)
          refine wpOp_val rfl (wanted_yes rfl (hF.yes 38 76 (by kernel_rfl) true q38)) ?_ (fK (.pointer (some ⟨b, 0, none⟩)) fW (Below.refl _ _) (by rw [hT]; exact rfl))
          clear fK hE hF
          go_simp
        refine stepsAll_cons (k := 40) ?_ ?_
        · intro fa fx fW hF fB hE K fK
          have q38 : fx 38 = .bool true := by have q := hE ⟨38, .chain⟩ (by simp) rfl; rw [hT] at q; exact q
          have q39 : fx 39 = .pointer (some ⟨b, 0, none⟩) := by have q := hE ⟨39, .data⟩ (by simp) rfl; rw [hT] at q; exact q
          have ev77 : fa.tmps[77]?.getD undef = .pointer (some ⟨b, 0, none⟩) := (hF.ev 39 77 (by kernel_rfl)).trans q39
          refine wpOp_call rfl (wanted_yes rfl (hF.yes 38 76 (by kernel_rfl) true q38)) (by go_simp; exact ⟨rfl, rfl⟩) ?_
          refine (HWA.out fW (HQ5.out.below fB)).mono ?_
          rintro e' w' ⟨A1, n1, c1, rfl, hr1, hb1⟩
          exact ⟨_, rfl, fK (.slice A1 n1 c1) (w') (hb1) (by rw [hT]; exact ⟨A1, n1, c1, rfl, hr1⟩)⟩
        refine stepsAll_cons (k := 41) ?_ ?_
        · intro fa fx fW hF fB hE K fK
          have q38 : fx 38 = .bool true := by have q := hE ⟨38, .guard⟩ (by simp) rfl; rw [hT] at q; exact q
          have ev1 : fa.tmps[1]?.getD undef = .pointer (some ⟨mb, 0, none⟩) := hF.eo 1 (by kernel_rfl)
          refine wpOp_val rfl (wanted_yes rfl (hF.yes 38 76 (by kernel_rfl) true q38)) ?_ (fK (.pointer (some ⟨mb, 0, none⟩)) fW (Below.refl _ _) (by rw [hT]; exact rfl))
          clear fK hE hF
          go_simp
        refine stepsAll_cons (k := 42) ?_ ?_
        · intro fa fx fW hF fB hE K fK
          have q38 : fx 38 = .bool true := by have q := hE ⟨38, .guard⟩ (by simp) rfl; rw [hT] at q; exact q
          have q41 : fx 41 = .pointer (some ⟨mb, 0, none⟩) := by have q := hE ⟨41, .data⟩ (by simp) rfl; rw [hT] at q; exact q
          have ev79 : fa.tmps[79]?.getD undef = .pointer (some ⟨mb, 0, none⟩) := (hF.ev 41 79 (by kernel_rfl)).trans q41
          refine wpOp_call rfl (wanted_yes rfl (hF.yes 38 76 (by kernel_rfl) true q38)) (by go_simp; exact ⟨rfl, rfl⟩) ?_
          refine (HWB.out fW (HM5.out.below fB)).mono ?_
          rintro e' w' ⟨A1, n1, c1, rfl, hr1, hb1⟩
          exact ⟨_, rfl, fK (.slice A1 n1 c1) (w') (hb1) (by rw [hT]; exact ⟨A1, n1, c1, rfl, hr1⟩)⟩
        refine stepsAll_cons (k := 43) ?_ ?_
        · intro fa fx fW hF fB hE K fK
          have q38 : fx 38 = .bool true := by have q := hE ⟨38, .guard⟩ (by simp) rfl; rw [hT] at q; exact q
          have q40 : (Fact.row 1 (nums .i64 L)).p (fx 40) fW := by have q := hE ⟨40, .data⟩ (by simp) rfl; rw [hT] at q; exact q
          have q42 : (Fact.row 1 (nums .i64 L)).p (fx 42) fW := by have q := hE ⟨42, .data⟩ (by simp) rfl; rw [hT] at q; exact q
          have ev78 : fa.tmps[78]?.getD undef = fx 40 := hF.ev 40 78 (by kernel_rfl)
          have ev80 : fa.tmps[80]?.getD undef = fx 42 := hF.ev 42 80 (by kernel_rfl)
          obtain ⟨A1, n1, c1, e1, hr1⟩ := q40
          obtain ⟨A2, n2, c2, e2, hr2⟩ := q42
          rw [e1] at ev78
          rw [e2] at ev80
          refine wpOp_call rfl (wanted_yes rfl (hF.yes 38 76 (by kernel_rfl) true q38)) (by go_simp; exact ⟨rfl, rfl⟩) ?_
          refine (ints03 A1 n1 c1 L A2 n2 c2 L fW hr1 hr2).mono ?_
          rintro e' w' ⟨h1, hbb⟩
          rw [decide_eq_true rfl] at h1
          subst h1
          exact ⟨_, rfl, fK (.bool true) (w') (hbb) (by rw [hT]; exact rfl)⟩
        refine stepsAll_cons (k := 44) ?_ ?_
        · intro fa fx fW hF fB hE K fK
          have q38 : fx 38 = .bool true := by have q := hE ⟨38, .data⟩ (by simp) rfl; rw [hT] at q; exact q
          have q43 : fx 43 = .bool true := by have q := hE ⟨43, .data⟩ (by simp) rfl; rw [hT] at q; exact q
          have ev76 : fa.tmps[76]?.getD undef = .bool true := (hF.ev 38 76 (by kernel_rfl)).trans q38
          have ev81 : fa.tmps[81]?.getD undef = .bool true := (hF.ev 43 81 (by kernel_rfl)).trans q43
          refine wpOp_val rfl (wanted_none rfl) ?_ (fK (.bool true) fW (Below.refl _ _) (by rw [hT]; exact rfl))
          clear fK hE hF
          go_simp
        refine stepsAll_cons (k := 45) ?_ ?_
        · intro fa fx fW hF fB hE K fK
          have q44 : fx 44 = .bool true := by have q := hE ⟨44, .data⟩ (by simp) rfl; rw [hT] at q; exact q
          have ev82 : fa.tmps[82]?.getD undef = .bool true := (hF.ev 44 82 (by kernel_rfl)).trans q44
          refine wpOp_val rfl (wanted_none rfl) ?_ (fK (.bool true) fW (Below.refl _ _) (by rw [hT]; exact rfl))
          clear fK hE hF
          go_simp
        exact stepsAll_nil
      intro fa fx fW hF fB hx
      have q45 : fx 45 = .bool true := by have q := hx 45 (by decide); rw [hT] at q; exact q
      have ev6 : fa.tmps[6]?.getD undef = .bool true := (hF.ev 45 6 (by kernel_rfl)).trans q45
      rw [hF.eq]
      clear hF hx
      simp only [putAll, Act.put, List.setIfInBounds_toArray, List.set_cons_zero, List.set_cons_succ, q45]
      go_wp2
      go_ret
      exact ⟨rfl, below_then HB5.out HB5.out.size fB⟩
end Go.Proofs.YtabdipfpfbdghaaGreat
