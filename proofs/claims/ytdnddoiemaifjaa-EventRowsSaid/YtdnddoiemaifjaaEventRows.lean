/- The law EventRows: whatever the rows and the number: true. -/
import Derived.Test.YtdnddoiemaifjaaRefAll
import Derived.Test.YtdnddoiemaifjaaSameG
import Derived.Test.YtdnddoiemaifjaaBatchAny
import Derived.Test.YtdnddoiemaifjaaRefBatch2
import Derived.Test.YtdnddoiemaifjaaRegion
namespace Go.Proofs.Ytdnddoiemaifjaa
open Go.RowKit
set_option maxRecDepth 100000 in
set_option maxHeartbeats 4000000 in
theorem rows_lives (A : Option Addr) (n c : Nat) (B : Option Addr) (m d : Nat) (q : Int) (w : World) (h : 60 < n ∨ 60 < m) : Calls Try.prog 4 #[.slice A n c, .slice B m d, .int .i64 q] w fun e w' => e = .returned (.bool true) ∧ Below w.heap.size w w' := by
  have HL := Lib.hid (fun W => lives14 W)
  by_cases h1 : 60 < n
  · clear h
    go_enter Try.func4, Try.ntmps4
    go_wp2_with ((with_reducible refine (HL.out _).mono ?_); rintro e w' ⟨rfl, hb⟩)
    go_ret
    exact ⟨rfl, hb⟩
  · have h2 : 60 < m := by omega
    clear h
    go_enter Try.func4, Try.ntmps4
    go_wp2_with ((with_reducible refine (HL.out _).mono ?_); rintro e w' ⟨rfl, hb⟩)
    go_ret
    exact ⟨rfl, hb⟩
set_option maxRecDepth 100000 in
set_option maxHeartbeats 4000000 in
theorem rows_walk (A : Option Addr) (n c : Nat) (l : List Ev) (B : Option Addr) (m d : Nat) (l2 : List Ev) (q : Int) (w : World) (hr : Rds w 15 A n c (evs l)) (hr2 : Rds w 15 B m d (evs l2)) (hI : ∀ e ∈ l, ∀ x ∈ evRegs e, I64 x) (h1 : ¬ 60 < n) (h2 : ¬ 60 < m) : Calls Try.prog 4 #[.slice A n c, .slice B m d, .int .i64 q] w fun e w' => e = .returned (.bool true) ∧ Below w.heap.size w w' := by
  have HI := Lib.hid hI
  have HB1 := Lib.hid (fun W hW => ebatchZ A n c l q W hW)
  have HB2 := Lib.hid (fun W hW => rbatch A n c l q W hW)
  generalize (max q 1).toNat = z at HB1 HB2
  clear hI
  go_enter Try.func4, Try.ntmps4
  go_wp2_with (first
    | (go_at_call 8; refine (HB1.out _ hr).mono ?_; rintro e w1 ⟨c1, A2, c2, hz, rfl, hx1, hy1, hb1⟩; have hr1 := hr.below hb1; have hr21 := hr2.below hb1)
    | (go_at_call 10; refine (HB2.out _ hr1).mono ?_; rintro e w2 ⟨A3, c3, A4, c4, _, rfl, hu2, hv2, hb2⟩; have hra := hr1.below hb2; have hrb := hr21.below hb2; have hx2 := hx1.below hb2; have hy2 := hy1.below hb2; clear hr1 hr21 hx1 hy1))
  generalize hk : batchN l z = k at *
  generalize hdq : decide (l = l2) = dq
  have HD := Lib.hid hdq
  have hbb := below_tr hb1 hb2
  clear hdq hk hr hr2 hb1 hb2
  obtain ⟨T, hT⟩ : ∃ T : Nat → Fact, ∀ t_, T t_ = ([Fact.eq (.slice A n c), Fact.row 1 (nums .u8 (allE l)), Fact.eq (.string (strOfNums (allE l))), Fact.eq (.slice A n c), Fact.row 1 (nums .u8 (allE l)), Fact.eq (.string (strOfNums (allE l))), Fact.eq (.bool true), Fact.eq (.bool true), Fact.eq (.slice A n c), Fact.eq (.slice B m d), Fact.eq (.bool dq), Fact.eq (.slice A n c), Fact.eq (.slice B m d), Fact.eq (.bool dq), Fact.eq (.bool true), Fact.eq (.bool true), Fact.eq (.bool true), Fact.eq (.slice A k c1), Fact.eq (.slice A3 k c3), Fact.eq (.bool true), Fact.eq (.bool true), Fact.eq (.bool true), Fact.eq (.slice A2 (n - k) c2), Fact.eq (.slice A4 (n - k) c4), Fact.eq (.bool true), Fact.eq (.bool true), Fact.eq (.bool true), Fact.eq (.bool true), Fact.eq (.bool true), Fact.eq (.bool true)] : List (Fact)).getD t_ Fact.any := ⟨_, fun _ => rfl⟩
  refine region_tab [(0, 32), (1, 33), (2, 34), (3, 35), (4, 36), (5, 37), (6, 38), (7, 39), (8, 40), (9, 41), (10, 42), (11, 43), (12, 44), (13, 45), (14, 46), (15, 47), (16, 48), (17, 49), (18, 50), (19, 51), (20, 52), (21, 53), (22, 54), (23, 55), (24, 56), (25, 57), (26, 58), (27, 59), (28, 60), (29, 6)] T (by kernel_rfl) (by kernel_rfl) (by kernel_rfl) (by kernel_rfl) (by kernel_rfl) ?_ ?_
  · skip
    refine stepsAll_cons (k := 0) ?_ ?_
    · intro fa fx fW hF fB hE K fK
      have ev0 : fa.tmps[0]?.getD undef = .slice A n c := hF.eo 0 (by kernel_rfl)
      refine wpOp_val rfl (wanted_none rfl) ?_ (fK (.slice A n c) fW (Below.refl _ _) (by rw [hT]; exact rfl))
      clear fK hE hF
      go_simp
    refine stepsAll_cons (k := 1) ?_ ?_
    · intro fa fx fW hF fB hE K fK
      have q0 : fx 0 = .slice A n c := by have q := hE ⟨0, .data⟩ (by simp) rfl; rw [hT] at q; exact q
      have ev32 : fa.tmps[32]?.getD undef = .slice A n c := (hF.ev 0 32 (by kernel_rfl)).trans q0
      refine wpOp_call rfl (wanted_none rfl) (by go_simp; exact ⟨rfl, rfl⟩) ?_
      refine (ecall _ _ _ _ _ (hra.below fB) (by omega) HI.out).mono ?_
      rintro e w1 ⟨A1, n1, c1, rfl, hb1, hr1⟩
      exact ⟨_, rfl, fK (.slice A1 n1 c1) (w1) (hb1) (by rw [hT]; exact ⟨A1, n1, c1, rfl, hr1⟩)⟩
    refine stepsAll_cons (k := 2) ?_ ?_
    · intro fa fx fW hF fB hE K fK
      have q1 : (Fact.row 1 (nums .u8 (allE l))).p (fx 1) fW := by have q := hE ⟨1, .data⟩ (by simp) rfl; rw [hT] at q; exact q
      have ev33 : fa.tmps[33]?.getD undef = fx 1 := hF.ev 1 33 (by kernel_rfl)
      refine wpOp_val rfl (wanted_none rfl) ?_ (fK (.string (strOfNums (allE l))) fW (Below.refl _ _) (by rw [hT]; exact rfl))
      clear fK hE hF
      obtain ⟨A', n', c', e', hr'⟩ := q1
      have hc' := conv_str Try.underlying33 Try.underlying5 Try.underlying9 hr'
      clear hr'
      go_simp
    refine stepsAll_cons (k := 3) ?_ ?_
    · intro fa fx fW hF fB hE K fK
      have ev0 : fa.tmps[0]?.getD undef = .slice A n c := hF.eo 0 (by kernel_rfl)
      refine wpOp_val rfl (wanted_none rfl) ?_ (fK (.slice A n c) fW (Below.refl _ _) (by rw [hT]; exact rfl))
      clear fK hE hF
      go_simp
    refine stepsAll_cons (k := 4) ?_ ?_
    · intro fa fx fW hF fB hE K fK
      have q3 : fx 3 = .slice A n c := by have q := hE ⟨3, .data⟩ (by simp) rfl; rw [hT] at q; exact q
      have ev35 : fa.tmps[35]?.getD undef = .slice A n c := (hF.ev 3 35 (by kernel_rfl)).trans q3
      refine wpOp_call rfl (wanted_none rfl) (by go_simp; exact ⟨rfl, rfl⟩) ?_
      refine (rcall _ _ _ _ _ (hra.below fB) (by omega) HI.out).mono ?_
      rintro e w1 ⟨A1, n1, c1, rfl, hb1, hr1⟩
      exact ⟨_, rfl, fK (.slice A1 n1 c1) (w1) (hb1) (by rw [hT]; exact ⟨A1, n1, c1, rfl, hr1⟩)⟩
    refine stepsAll_cons (k := 5) ?_ ?_
    · intro fa fx fW hF fB hE K fK
      have q4 : (Fact.row 1 (nums .u8 (allE l))).p (fx 4) fW := by have q := hE ⟨4, .data⟩ (by simp) rfl; rw [hT] at q; exact q
      have ev36 : fa.tmps[36]?.getD undef = fx 4 := hF.ev 4 36 (by kernel_rfl)
      refine wpOp_val rfl (wanted_none rfl) ?_ (fK (.string (strOfNums (allE l))) fW (Below.refl _ _) (by rw [hT]; exact rfl))
      clear fK hE hF
      obtain ⟨A', n', c', e', hr'⟩ := q4
      have hc' := conv_str Try.underlying33 Try.underlying5 Try.underlying9 hr'
      clear hr'
      go_simp
    refine stepsAll_cons (k := 6) ?_ ?_
    · intro fa fx fW hF fB hE K fK
      have q2 : fx 2 = .string (strOfNums (allE l)) := by have q := hE ⟨2, .data⟩ (by simp) rfl; rw [hT] at q; exact q
      have q5 : fx 5 = .string (strOfNums (allE l)) := by have q := hE ⟨5, .data⟩ (by simp) rfl; rw [hT] at q; exact q
      have ev34 : fa.tmps[34]?.getD undef = .string (strOfNums (allE l)) := (hF.ev 2 34 (by kernel_rfl)).trans q2
      have ev37 : fa.tmps[37]?.getD undef = .string (strOfNums (allE l)) := (hF.ev 5 37 (by kernel_rfl)).trans q5
      refine wpOp_val rfl (wanted_none rfl) ?_ (fK (.bool true) fW (Below.refl _ _) (by rw [hT]; exact rfl))
      clear fK hE hF
      go_simp
    refine stepsAll_cons (k := 7) ?_ ?_
    · intro fa fx fW hF fB hE K fK
      have q6 : fx 6 = .bool true := by have q := hE ⟨6, .data⟩ (by simp) rfl; rw [hT] at q; exact q
      have ev38 : fa.tmps[38]?.getD undef = .bool true := (hF.ev 6 38 (by kernel_rfl)).trans q6
      refine wpOp_val rfl (wanted_none rfl) ?_ (fK (.bool true) fW (Below.refl _ _) (by rw [hT]; exact rfl))
      clear fK hE hF
      go_simp
    refine stepsAll_cons (k := 8) ?_ ?_
    · intro fa fx fW hF fB hE K fK
      have q7 : fx 7 = .bool true := by have q := hE ⟨7, .guard⟩ (by simp) rfl; rw [hT] at q; exact q
      have ev0 : fa.tmps[0]?.getD undef = .slice A n c := hF.eo 0 (by kernel_rfl)
      refine wpOp_val rfl (wanted_yes rfl (hF.yes 7 39 (by kernel_rfl) true q7)) ?_ (fK (.slice A n c) fW (Below.refl _ _) (by rw [hT]; exact rfl))
      clear fK hE hF
      go_simp
    refine stepsAll_cons (k := 9) ?_ ?_
    · intro fa fx fW hF fB hE K fK
      have q7 : fx 7 = .bool true := by have q := hE ⟨7, .guard⟩ (by simp) rfl; rw [hT] at q; exact q
      have ev1 : fa.tmps[1]?.getD undef = .slice B m d := hF.eo 1 (by kernel_rfl)
      refine wpOp_val rfl (wanted_yes rfl (hF.yes 7 39 (by kernel_rfl) true q7)) ?_ (fK (.slice B m d) fW (Below.refl _ _) (by rw [hT]; exact rfl))
      clear fK hE hF
      go_simp
    refine stepsAll_cons (k := 10) ?_ ?_
    · intro fa fx fW hF fB hE K fK
      have q7 : fx 7 = .bool true := by have q := hE ⟨7, .chain⟩ (by simp) rfl; rw [hT] at q; exact q
      have q8 : fx 8 = .slice A n c := by have q := hE ⟨8, .data⟩ (by simp) rfl; rw [hT] at q; exact q
      have q9 : fx 9 = .slice B m d := by have q := hE ⟨9, .data⟩ (by simp) rfl; rw [hT] at q; exact q
      have ev40 : fa.tmps[40]?.getD undef = .slice A n c := (hF.ev 8 40 (by kernel_rfl)).trans q8
      have ev41 : fa.tmps[41]?.getD undef = .slice B m d := (hF.ev 9 41 (by kernel_rfl)).trans q9
      refine wpOp_call rfl (wanted_yes rfl (hF.yes 7 39 (by kernel_rfl) true q7)) (by go_simp; exact ⟨rfl, rfl⟩) ?_
      refine (esame _ _ _ _ _ _ _ _ _ (hra.below fB) (hrb.below fB)).mono ?_
      rintro e w1 ⟨rfl, hb1⟩
      rw [HD.out]
      exact ⟨_, rfl, fK (.bool dq) (w1) (hb1) (by rw [hT]; exact rfl)⟩
    refine stepsAll_cons (k := 11) ?_ ?_
    · intro fa fx fW hF fB hE K fK
      have q7 : fx 7 = .bool true := by have q := hE ⟨7, .guard⟩ (by simp) rfl; rw [hT] at q; exact q
      have ev0 : fa.tmps[0]?.getD undef = .slice A n c := hF.eo 0 (by kernel_rfl)
      refine wpOp_val rfl (wanted_yes rfl (hF.yes 7 39 (by kernel_rfl) true q7)) ?_ (fK (.slice A n c) fW (Below.refl _ _) (by rw [hT]; exact rfl))
      clear fK hE hF
      go_simp
    refine stepsAll_cons (k := 12) ?_ ?_
    · intro fa fx fW hF fB hE K fK
      have q7 : fx 7 = .bool true := by have q := hE ⟨7, .guard⟩ (by simp) rfl; rw [hT] at q; exact q
      have ev1 : fa.tmps[1]?.getD undef = .slice B m d := hF.eo 1 (by kernel_rfl)
      refine wpOp_val rfl (wanted_yes rfl (hF.yes 7 39 (by kernel_rfl) true q7)) ?_ (fK (.slice B m d) fW (Below.refl _ _) (by rw [hT]; exact rfl))
      clear fK hE hF
      go_simp
    refine stepsAll_cons (k := 13) ?_ ?_
    · intro fa fx fW hF fB hE K fK
      have q7 : fx 7 = .bool true := by have q := hE ⟨7, .guard⟩ (by simp) rfl; rw [hT] at q; exact q
      have q11 : fx 11 = .slice A n c := by have q := hE ⟨11, .data⟩ (by simp) rfl; rw [hT] at q; exact q
      have q12 : fx 12 = .slice B m d := by have q := hE ⟨12, .data⟩ (by simp) rfl; rw [hT] at q; exact q
      have ev43 : fa.tmps[43]?.getD undef = .slice A n c := (hF.ev 11 43 (by kernel_rfl)).trans q11
      have ev44 : fa.tmps[44]?.getD undef = .slice B m d := (hF.ev 12 44 (by kernel_rfl)).trans q12
      refine wpOp_call rfl (wanted_yes rfl (hF.yes 7 39 (by kernel_rfl) true q7)) (by go_simp; exact ⟨rfl, rfl⟩) ?_
      refine (ssameG _ _ _ _ _ _ _ _ _ (hra.below fB) (hrb.below fB)).mono ?_
      rintro e w1 ⟨rfl, hb1⟩
      rw [HD.out]
      exact ⟨_, rfl, fK (.bool dq) (w1) (hb1) (by rw [hT]; exact rfl)⟩
    refine stepsAll_cons (k := 14) ?_ ?_
    · intro fa fx fW hF fB hE K fK
      have q7 : fx 7 = .bool true := by have q := hE ⟨7, .guard⟩ (by simp) rfl; rw [hT] at q; exact q
      have q10 : fx 10 = .bool dq := by have q := hE ⟨10, .data⟩ (by simp) rfl; rw [hT] at q; exact q
      have q13 : fx 13 = .bool dq := by have q := hE ⟨13, .data⟩ (by simp) rfl; rw [hT] at q; exact q
      have ev42 : fa.tmps[42]?.getD undef = .bool dq := (hF.ev 10 42 (by kernel_rfl)).trans q10
      have ev45 : fa.tmps[45]?.getD undef = .bool dq := (hF.ev 13 45 (by kernel_rfl)).trans q13
      refine wpOp_val rfl (wanted_yes rfl (hF.yes 7 39 (by kernel_rfl) true q7)) ?_ (fK (.bool true) fW (Below.refl _ _) (by rw [hT]; exact rfl))
      clear fK hE hF
      go_simp
    refine stepsAll_cons (k := 15) ?_ ?_
    · intro fa fx fW hF fB hE K fK
      have q7 : fx 7 = .bool true := by have q := hE ⟨7, .data⟩ (by simp) rfl; rw [hT] at q; exact q
      have q14 : fx 14 = .bool true := by have q := hE ⟨14, .data⟩ (by simp) rfl; rw [hT] at q; exact q
      have ev39 : fa.tmps[39]?.getD undef = .bool true := (hF.ev 7 39 (by kernel_rfl)).trans q7
      have ev46 : fa.tmps[46]?.getD undef = .bool true := (hF.ev 14 46 (by kernel_rfl)).trans q14
      refine wpOp_val rfl (wanted_none rfl) ?_ (fK (.bool true) fW (Below.refl _ _) (by rw [hT]; exact rfl))
      clear fK hE hF
      go_simp
    refine stepsAll_cons (k := 16) ?_ ?_
    · intro fa fx fW hF fB hE K fK
      have q15 : fx 15 = .bool true := by have q := hE ⟨15, .data⟩ (by simp) rfl; rw [hT] at q; exact q
      have ev47 : fa.tmps[47]?.getD undef = .bool true := (hF.ev 15 47 (by kernel_rfl)).trans q15
      refine wpOp_val rfl (wanted_none rfl) ?_ (fK (.bool true) fW (Below.refl _ _) (by rw [hT]; exact rfl))
      clear fK hE hF
      go_simp
    refine stepsAll_cons (k := 17) ?_ ?_
    · intro fa fx fW hF fB hE K fK
      have q16 : fx 16 = .bool true := by have q := hE ⟨16, .guard⟩ (by simp) rfl; rw [hT] at q; exact q
      have ev7 : fa.tmps[7]?.getD undef = .slice A k c1 := hF.eo 7 (by kernel_rfl)
      refine wpOp_val rfl (wanted_yes rfl (hF.yes 16 48 (by kernel_rfl) true q16)) ?_ (fK (.slice A k c1) fW (Below.refl _ _) (by rw [hT]; exact rfl))
      clear fK hE hF
      go_simp
    refine stepsAll_cons (k := 18) ?_ ?_
    · intro fa fx fW hF fB hE K fK
      have q16 : fx 16 = .bool true := by have q := hE ⟨16, .guard⟩ (by simp) rfl; rw [hT] at q; exact q
      have ev9 : fa.tmps[9]?.getD undef = .slice A3 k c3 := hF.eo 9 (by kernel_rfl)
      refine wpOp_val rfl (wanted_yes rfl (hF.yes 16 48 (by kernel_rfl) true q16)) ?_ (fK (.slice A3 k c3) fW (Below.refl _ _) (by rw [hT]; exact rfl))
      clear fK hE hF
      go_simp
    refine stepsAll_cons (k := 19) ?_ ?_
    · intro fa fx fW hF fB hE K fK
      have q16 : fx 16 = .bool true := by have q := hE ⟨16, .chain⟩ (by simp) rfl; rw [hT] at q; exact q
      have q17 : fx 17 = .slice A k c1 := by have q := hE ⟨17, .data⟩ (by simp) rfl; rw [hT] at q; exact q
      have q18 : fx 18 = .slice A3 k c3 := by have q := hE ⟨18, .data⟩ (by simp) rfl; rw [hT] at q; exact q
      have ev49 : fa.tmps[49]?.getD undef = .slice A k c1 := (hF.ev 17 49 (by kernel_rfl)).trans q17
      have ev50 : fa.tmps[50]?.getD undef = .slice A3 k c3 := (hF.ev 18 50 (by kernel_rfl)).trans q18
      refine wpOp_call rfl (wanted_yes rfl (hF.yes 16 48 (by kernel_rfl) true q16)) (by go_simp; exact ⟨rfl, rfl⟩) ?_
      refine (ssameG _ _ _ _ _ _ _ _ _ (hx2.below fB) (hu2.below fB)).mono ?_
      rintro e w1 ⟨rfl, hb1⟩
      rw [decide_eq_true rfl]
      exact ⟨_, rfl, fK (.bool true) (w1) (hb1) (by rw [hT]; exact rfl)⟩
    refine stepsAll_cons (k := 20) ?_ ?_
    · intro fa fx fW hF fB hE K fK
      have q16 : fx 16 = .bool true := by have q := hE ⟨16, .data⟩ (by simp) rfl; rw [hT] at q; exact q
      have q19 : fx 19 = .bool true := by have q := hE ⟨19, .data⟩ (by simp) rfl; rw [hT] at q; exact q
      have ev48 : fa.tmps[48]?.getD undef = .bool true := (hF.ev 16 48 (by kernel_rfl)).trans q16
      have ev51 : fa.tmps[51]?.getD undef = .bool true := (hF.ev 19 51 (by kernel_rfl)).trans q19
      refine wpOp_val rfl (wanted_none rfl) ?_ (fK (.bool true) fW (Below.refl _ _) (by rw [hT]; exact rfl))
      clear fK hE hF
      go_simp
    refine stepsAll_cons (k := 21) ?_ ?_
    · intro fa fx fW hF fB hE K fK
      have q20 : fx 20 = .bool true := by have q := hE ⟨20, .data⟩ (by simp) rfl; rw [hT] at q; exact q
      have ev52 : fa.tmps[52]?.getD undef = .bool true := (hF.ev 20 52 (by kernel_rfl)).trans q20
      refine wpOp_val rfl (wanted_none rfl) ?_ (fK (.bool true) fW (Below.refl _ _) (by rw [hT]; exact rfl))
      clear fK hE hF
      go_simp
    refine stepsAll_cons (k := 22) ?_ ?_
    · intro fa fx fW hF fB hE K fK
      have q21 : fx 21 = .bool true := by have q := hE ⟨21, .guard⟩ (by simp) rfl; rw [hT] at q; exact q
      have ev8 : fa.tmps[8]?.getD undef = .slice A2 (n - k) c2 := hF.eo 8 (by kernel_rfl)
      refine wpOp_val rfl (wanted_yes rfl (hF.yes 21 53 (by kernel_rfl) true q21)) ?_ (fK (.slice A2 (n - k) c2) fW (Below.refl _ _) (by rw [hT]; exact rfl))
      clear fK hE hF
      go_simp
    refine stepsAll_cons (k := 23) ?_ ?_
    · intro fa fx fW hF fB hE K fK
      have q21 : fx 21 = .bool true := by have q := hE ⟨21, .guard⟩ (by simp) rfl; rw [hT] at q; exact q
      have ev10 : fa.tmps[10]?.getD undef = .slice A4 (n - k) c4 := hF.eo 10 (by kernel_rfl)
      refine wpOp_val rfl (wanted_yes rfl (hF.yes 21 53 (by kernel_rfl) true q21)) ?_ (fK (.slice A4 (n - k) c4) fW (Below.refl _ _) (by rw [hT]; exact rfl))
      clear fK hE hF
      go_simp
    refine stepsAll_cons (k := 24) ?_ ?_
    · intro fa fx fW hF fB hE K fK
      have q21 : fx 21 = .bool true := by have q := hE ⟨21, .chain⟩ (by simp) rfl; rw [hT] at q; exact q
      have q22 : fx 22 = .slice A2 (n - k) c2 := by have q := hE ⟨22, .data⟩ (by simp) rfl; rw [hT] at q; exact q
      have q23 : fx 23 = .slice A4 (n - k) c4 := by have q := hE ⟨23, .data⟩ (by simp) rfl; rw [hT] at q; exact q
      have ev54 : fa.tmps[54]?.getD undef = .slice A2 (n - k) c2 := (hF.ev 22 54 (by kernel_rfl)).trans q22
      have ev55 : fa.tmps[55]?.getD undef = .slice A4 (n - k) c4 := (hF.ev 23 55 (by kernel_rfl)).trans q23
      refine wpOp_call rfl (wanted_yes rfl (hF.yes 21 53 (by kernel_rfl) true q21)) (by go_simp; exact ⟨rfl, rfl⟩) ?_
      refine (ssameG _ _ _ _ _ _ _ _ _ (hy2.below fB) (hv2.below fB)).mono ?_
      rintro e w1 ⟨rfl, hb1⟩
      rw [decide_eq_true rfl]
      exact ⟨_, rfl, fK (.bool true) (w1) (hb1) (by rw [hT]; exact rfl)⟩
    refine stepsAll_cons (k := 25) ?_ ?_
    · intro fa fx fW hF fB hE K fK
      have q21 : fx 21 = .bool true := by have q := hE ⟨21, .data⟩ (by simp) rfl; rw [hT] at q; exact q
      have q24 : fx 24 = .bool true := by have q := hE ⟨24, .data⟩ (by simp) rfl; rw [hT] at q; exact q
      have ev53 : fa.tmps[53]?.getD undef = .bool true := (hF.ev 21 53 (by kernel_rfl)).trans q21
      have ev56 : fa.tmps[56]?.getD undef = .bool true := (hF.ev 24 56 (by kernel_rfl)).trans q24
      refine wpOp_val rfl (wanted_none rfl) ?_ (fK (.bool true) fW (Below.refl _ _) (by rw [hT]; exact rfl))
      clear fK hE hF
      go_simp
    refine stepsAll_cons (k := 26) ?_ ?_
    · intro fa fx fW hF fB hE K fK
      have q25 : fx 25 = .bool true := by have q := hE ⟨25, .data⟩ (by simp) rfl; rw [hT] at q; exact q
      have ev57 : fa.tmps[57]?.getD undef = .bool true := (hF.ev 25 57 (by kernel_rfl)).trans q25
      refine wpOp_val rfl (wanted_none rfl) ?_ (fK (.bool true) fW (Below.refl _ _) (by rw [hT]; exact rfl))
      clear fK hE hF
      go_simp
    refine stepsAll_cons (k := 27) ?_ ?_
    · intro fa fx fW hF fB hE K fK
      have q26 : fx 26 = .bool true := by have q := hE ⟨26, .chain⟩ (by simp) rfl; rw [hT] at q; exact q
      refine wpOp_call rfl (wanted_yes rfl (hF.yes 26 58 (by kernel_rfl) true q26)) (by go_simp; exact ⟨rfl, rfl⟩) ?_
      refine (lives14 _).mono ?_
      rintro e w1 ⟨rfl, hb1⟩
      exact ⟨_, rfl, fK (.bool true) (w1) (hb1) (by rw [hT]; exact rfl)⟩
    refine stepsAll_cons (k := 28) ?_ ?_
    · intro fa fx fW hF fB hE K fK
      have q26 : fx 26 = .bool true := by have q := hE ⟨26, .data⟩ (by simp) rfl; rw [hT] at q; exact q
      have q27 : fx 27 = .bool true := by have q := hE ⟨27, .data⟩ (by simp) rfl; rw [hT] at q; exact q
      have ev58 : fa.tmps[58]?.getD undef = .bool true := (hF.ev 26 58 (by kernel_rfl)).trans q26
      have ev59 : fa.tmps[59]?.getD undef = .bool true := (hF.ev 27 59 (by kernel_rfl)).trans q27
      refine wpOp_val rfl (wanted_none rfl) ?_ (fK (.bool true) fW (Below.refl _ _) (by rw [hT]; exact rfl))
      clear fK hE hF
      go_simp
    refine stepsAll_cons (k := 29) ?_ ?_
    · intro fa fx fW hF fB hE K fK
      have q28 : fx 28 = .bool true := by have q := hE ⟨28, .data⟩ (by simp) rfl; rw [hT] at q; exact q
      have ev60 : fa.tmps[60]?.getD undef = .bool true := (hF.ev 28 60 (by kernel_rfl)).trans q28
      refine wpOp_val rfl (wanted_none rfl) ?_ (fK (.bool true) fW (Below.refl _ _) (by rw [hT]; exact rfl))
      clear fK hE hF
      go_simp
    exact stepsAll_nil
  intro fa fx fW hF fB hx
  have q29 : fx 29 = .bool true := by have q := hx 29 (by decide); rw [hT] at q; exact q
  have ev6 : fa.tmps[6]?.getD undef = .bool true := (hF.ev 29 6 (by kernel_rfl)).trans q29
  go_wp2
  exact hF.ret rfl rfl ev6 ⟨rfl, below_tr hbb fB⟩
end Go.Proofs.Ytdnddoiemaifjaa
