/- wherryref08: Level. -/
import Derived.Test.YtmacpgjmhaoneaaDigCross
import Derived.Test.YtmacpgjmhaoneaaShareLives
namespace Go.Proofs.Ytmacpgjmhaoneaa
open Go.RowKit
set_option maxRecDepth 100000 in
set_option maxHeartbeats 2000000 in
theorem level08 (A B : Option Addr) (n c d : Nat) (xs : List Int) (l : List Cl) (i j : Nat) (w : World) (hr : Rds w 1 A n c (nums .i64 xs)) (hr2 : Rds w 2 B n d (cls l)) (hg : goodC l = true) (hi : i < n) (hj : j < n) (hx : ∀ x ∈ xs, I64 x) :
    Calls Try.prog 31 #[.slice B n d, .slice A n c, .int .i64 i, .int .i64 j] w fun e w' => e = .returned (.int .i64 (cmpV (xs.getD i 0 * (l.getD j default).weight) (xs.getD j 0 * (l.getD i default).weight))) ∧ Below w.heap.size w w' := by
  have hxl : xs.length = n := by have := hr.len; rw [nums_length] at this; omega
  have hll := cls_len hr2
  have HG := Lib.hid (good08 B n d l w hr2)
  rw [hg] at HG
  obtain ⟨g1, g2⟩ := goodC_iff.1 hg
  have hw : ∀ q ∈ l, I64 q.weight := fun q hq => by have := g2 q hq; unfold I64; omega
  obtain ⟨ad, rfl⟩ := hr.some_ (by omega)
  obtain ⟨bd, rfl⟩ := hr2.some_ (by omega)
  have hix : i < xs.length := by omega
  have hjx : j < xs.length := by omega
  have hc1 := int_read hr hix
  have hc2 := int_read hr hjx
  have hc3 := (cl_read hr2 i _ (getDc_of (by omega))).1
  have hc4 := (cl_read hr2 j _ (getDc_of (by omega))).1
  have HC := Lib.hid (fun W => dCross (xs.getD i 0) (l.getD i default).weight (xs.getD j 0) (l.getD j default).weight W
    (hx _ (List.mem_of_getElem? (getD_of hix))) (hw _ (List.mem_of_getElem? (getDc_of (by omega)))) (hx _ (List.mem_of_getElem? (getD_of hjx))) (hw _ (List.mem_of_getElem? (getDc_of (by omega)))))
  have hdn : ((n : Int) != (n : Int)) = false := by simp
  have hi1 : (i : Int) < n := by omega
  have hj1 : (j : Int) < n := by omega
  clear hx hw hr hr2 g1 g2 hg
  generalize cmpV (xs.getD i 0 * (l.getD j default).weight) (xs.getD j 0 * (l.getD i default).weight) = r at *
  generalize xs.getD i 0 = xi at *
  generalize xs.getD j 0 = xb at *
  generalize (l.getD i default).weight = wi at *
  generalize (l.getD j default).weight = wb at *
  go_enter Try.func31, Try.ntmps31
  go_wp2_with (go_at_call 13; (with_reducible refine HG.out.mono ?_); rintro e w1 ⟨rfl, hb1⟩)
  have hd1 := cell_below hb1 hc1
  have hd2 := cell_below hb1 hc2
  have hd3 := cell_below hb1 hc3
  have hd4 := cell_below hb1 hc4
  clear hc1 hc2 hc3 hc4
  obtain ⟨T, hT⟩ : ∃ T : Nat → Fact, ∀ t_, T t_ = ([Fact.eq (.slice (some ad) n c), Fact.eq (.int .i64 i), Fact.eq (.pointer (some (ad.add i))), Fact.eq (.int .i64 xi), Fact.eq (.slice (some bd) n d), Fact.eq (.int .i64 i), Fact.eq (.pointer (some (bd.add (i * 2)))), Fact.eq (.pointer (some (bd.add (i * 2)))), Fact.eq (.int .i64 wi), Fact.eq (.slice (some ad) n c), Fact.eq (.int .i64 j), Fact.eq (.pointer (some (ad.add j))), Fact.eq (.int .i64 xb), Fact.eq (.slice (some bd) n d), Fact.eq (.int .i64 j), Fact.eq (.pointer (some (bd.add (j * 2)))), Fact.eq (.pointer (some (bd.add (j * 2)))), Fact.eq (.int .i64 wb), Fact.eq (.int .i64 r), Fact.eq (.int .i64 r)] : List (Fact)).getD t_ Fact.any := ⟨_, fun _ => rfl⟩
  refine region_tab [(0, 39), (1, 40), (2, 41), (3, 42), (4, 43), (5, 44), (6, 45), (7, 46), (8, 47), (9, 48), (10, 49), (11, 50), (12, 51), (13, 52), (14, 53), (15, 54), (16, 55), (17, 56), (18, 57), (19, 8)] T (by kernel_rfl) (by kernel_rfl) (by kernel_rfl) (by kernel_rfl) (by kernel_rfl) ?_ ?_
  · skip
    refine stepsAll_cons (k := 0) ?_ ?_
    · intro fa fx fW hF fB hE K fK
      have ev1 : fa.tmps[1]?.getD undef = .slice (some ad) n c := hF.eo 1 (by kernel_rfl)
      refine wpOp_val rfl (wanted_none rfl) ?_ (fK (.slice (some ad) n c) fW (Below.refl _ _) (by rw [hT]; exact rfl))
      clear fK hE hF
      go_simp
    refine stepsAll_cons (k := 1) ?_ ?_
    · intro fa fx fW hF fB hE K fK
      have ev2 : fa.tmps[2]?.getD undef = .int .i64 i := hF.eo 2 (by kernel_rfl)
      refine wpOp_val rfl (wanted_none rfl) ?_ (fK (.int .i64 i) fW (Below.refl _ _) (by rw [hT]; exact rfl))
      clear fK hE hF
      go_simp
    refine stepsAll_cons (k := 2) ?_ ?_
    · intro fa fx fW hF fB hE K fK
      have q0 : fx 0 = .slice (some ad) n c := by have q := hE ⟨0, .data⟩ (by simp) rfl; rw [hT] at q; exact q
      have q1 : fx 1 = .int .i64 i := by have q := hE ⟨1, .data⟩ (by simp) rfl; rw [hT] at q; exact q
      have ev39 : fa.tmps[39]?.getD undef = .slice (some ad) n c := (hF.ev 0 39 (by kernel_rfl)).trans q0
      have ev40 : fa.tmps[40]?.getD undef = .int .i64 i := (hF.ev 1 40 (by kernel_rfl)).trans q1
      refine wpOp_val rfl (wanted_none rfl) ?_ (fK (.pointer (some (ad.add i))) fW (Below.refl _ _) (by rw [hT]; exact rfl))
      clear fK hE hF
      go_simp
    refine stepsAll_cons (k := 3) ?_ ?_
    · intro fa fx fW hF fB hE K fK
      have q2 : fx 2 = .pointer (some (ad.add i)) := by have q := hE ⟨2, .data⟩ (by simp) rfl; rw [hT] at q; exact q
      have ev41 : fa.tmps[41]?.getD undef = .pointer (some (ad.add i)) := (hF.ev 2 41 (by kernel_rfl)).trans q2
      have hc1 := cell_below fB hd1
      refine wpOp_val rfl (wanted_none rfl) ?_ (fK (.int .i64 xi) fW (Below.refl _ _) (by rw [hT]; exact rfl))
      clear fK hE hF
      go_simp
    refine stepsAll_cons (k := 4) ?_ ?_
    · intro fa fx fW hF fB hE K fK
      have ev0 : fa.tmps[0]?.getD undef = .slice (some bd) n d := hF.eo 0 (by kernel_rfl)
      refine wpOp_val rfl (wanted_none rfl) ?_ (fK (.slice (some bd) n d) fW (Below.refl _ _) (by rw [hT]; exact rfl))
      clear fK hE hF
      go_simp
    refine stepsAll_cons (k := 5) ?_ ?_
    · intro fa fx fW hF fB hE K fK
      have ev2 : fa.tmps[2]?.getD undef = .int .i64 i := hF.eo 2 (by kernel_rfl)
      refine wpOp_val rfl (wanted_none rfl) ?_ (fK (.int .i64 i) fW (Below.refl _ _) (by rw [hT]; exact rfl))
      clear fK hE hF
      go_simp
    refine stepsAll_cons (k := 6) ?_ ?_
    · intro fa fx fW hF fB hE K fK
      have q4 : fx 4 = .slice (some bd) n d := by have q := hE ⟨4, .data⟩ (by simp) rfl; rw [hT] at q; exact q
      have q5 : fx 5 = .int .i64 i := by have q := hE ⟨5, .data⟩ (by simp) rfl; rw [hT] at q; exact q
      have ev43 : fa.tmps[43]?.getD undef = .slice (some bd) n d := (hF.ev 4 43 (by kernel_rfl)).trans q4
      have ev44 : fa.tmps[44]?.getD undef = .int .i64 i := (hF.ev 5 44 (by kernel_rfl)).trans q5
      refine wpOp_val rfl (wanted_none rfl) ?_ (fK (.pointer (some (bd.add (i * 2)))) fW (Below.refl _ _) (by rw [hT]; exact rfl))
      clear fK hE hF
      go_simp
    refine stepsAll_cons (k := 7) ?_ ?_
    · intro fa fx fW hF fB hE K fK
      have q6 : fx 6 = .pointer (some (bd.add (i * 2))) := by have q := hE ⟨6, .data⟩ (by simp) rfl; rw [hT] at q; exact q
      have ev45 : fa.tmps[45]?.getD undef = .pointer (some (bd.add (i * 2))) := (hF.ev 6 45 (by kernel_rfl)).trans q6
      refine wpOp_val rfl (wanted_none rfl) ?_ (fK (.pointer (some (bd.add (i * 2)))) fW (Below.refl _ _) (by rw [hT]; exact rfl))
      clear fK hE hF
      go_simp
    refine stepsAll_cons (k := 8) ?_ ?_
    · intro fa fx fW hF fB hE K fK
      have q7 : fx 7 = .pointer (some (bd.add (i * 2))) := by have q := hE ⟨7, .data⟩ (by simp) rfl; rw [hT] at q; exact q
      have ev46 : fa.tmps[46]?.getD undef = .pointer (some (bd.add (i * 2))) := (hF.ev 7 46 (by kernel_rfl)).trans q7
      have hc3 := cell_below fB hd3
      refine wpOp_val rfl (wanted_none rfl) ?_ (fK (.int .i64 wi) fW (Below.refl _ _) (by rw [hT]; exact rfl))
      clear fK hE hF
      go_simp
    refine stepsAll_cons (k := 9) ?_ ?_
    · intro fa fx fW hF fB hE K fK
      have ev1 : fa.tmps[1]?.getD undef = .slice (some ad) n c := hF.eo 1 (by kernel_rfl)
      refine wpOp_val rfl (wanted_none rfl) ?_ (fK (.slice (some ad) n c) fW (Below.refl _ _) (by rw [hT]; exact rfl))
      clear fK hE hF
      go_simp
    refine stepsAll_cons (k := 10) ?_ ?_
    · intro fa fx fW hF fB hE K fK
      have ev3 : fa.tmps[3]?.getD undef = .int .i64 j := hF.eo 3 (by kernel_rfl)
      refine wpOp_val rfl (wanted_none rfl) ?_ (fK (.int .i64 j) fW (Below.refl _ _) (by rw [hT]; exact rfl))
      clear fK hE hF
      go_simp
    refine stepsAll_cons (k := 11) ?_ ?_
    · intro fa fx fW hF fB hE K fK
      have q9 : fx 9 = .slice (some ad) n c := by have q := hE ⟨9, .data⟩ (by simp) rfl; rw [hT] at q; exact q
      have q10 : fx 10 = .int .i64 j := by have q := hE ⟨10, .data⟩ (by simp) rfl; rw [hT] at q; exact q
      have ev48 : fa.tmps[48]?.getD undef = .slice (some ad) n c := (hF.ev 9 48 (by kernel_rfl)).trans q9
      have ev49 : fa.tmps[49]?.getD undef = .int .i64 j := (hF.ev 10 49 (by kernel_rfl)).trans q10
      refine wpOp_val rfl (wanted_none rfl) ?_ (fK (.pointer (some (ad.add j))) fW (Below.refl _ _) (by rw [hT]; exact rfl))
      clear fK hE hF
      go_simp
    refine stepsAll_cons (k := 12) ?_ ?_
    · intro fa fx fW hF fB hE K fK
      have q11 : fx 11 = .pointer (some (ad.add j)) := by have q := hE ⟨11, .data⟩ (by simp) rfl; rw [hT] at q; exact q
      have ev50 : fa.tmps[50]?.getD undef = .pointer (some (ad.add j)) := (hF.ev 11 50 (by kernel_rfl)).trans q11
      have hc2 := cell_below fB hd2
      refine wpOp_val rfl (wanted_none rfl) ?_ (fK (.int .i64 xb) fW (Below.refl _ _) (by rw [hT]; exact rfl))
      clear fK hE hF
      go_simp
    refine stepsAll_cons (k := 13) ?_ ?_
    · intro fa fx fW hF fB hE K fK
      have ev0 : fa.tmps[0]?.getD undef = .slice (some bd) n d := hF.eo 0 (by kernel_rfl)
      refine wpOp_val rfl (wanted_none rfl) ?_ (fK (.slice (some bd) n d) fW (Below.refl _ _) (by rw [hT]; exact rfl))
      clear fK hE hF
      go_simp
    refine stepsAll_cons (k := 14) ?_ ?_
    · intro fa fx fW hF fB hE K fK
      have ev3 : fa.tmps[3]?.getD undef = .int .i64 j := hF.eo 3 (by kernel_rfl)
      refine wpOp_val rfl (wanted_none rfl) ?_ (fK (.int .i64 j) fW (Below.refl _ _) (by rw [hT]; exact rfl))
      clear fK hE hF
      go_simp
    refine stepsAll_cons (k := 15) ?_ ?_
    · intro fa fx fW hF fB hE K fK
      have q13 : fx 13 = .slice (some bd) n d := by have q := hE ⟨13, .data⟩ (by simp) rfl; rw [hT] at q; exact q
      have q14 : fx 14 = .int .i64 j := by have q := hE ⟨14, .data⟩ (by simp) rfl; rw [hT] at q; exact q
      have ev52 : fa.tmps[52]?.getD undef = .slice (some bd) n d := (hF.ev 13 52 (by kernel_rfl)).trans q13
      have ev53 : fa.tmps[53]?.getD undef = .int .i64 j := (hF.ev 14 53 (by kernel_rfl)).trans q14
      refine wpOp_val rfl (wanted_none rfl) ?_ (fK (.pointer (some (bd.add (j * 2)))) fW (Below.refl _ _) (by rw [hT]; exact rfl))
      clear fK hE hF
      go_simp
    refine stepsAll_cons (k := 16) ?_ ?_
    · intro fa fx fW hF fB hE K fK
      have q15 : fx 15 = .pointer (some (bd.add (j * 2))) := by have q := hE ⟨15, .data⟩ (by simp) rfl; rw [hT] at q; exact q
      have ev54 : fa.tmps[54]?.getD undef = .pointer (some (bd.add (j * 2))) := (hF.ev 15 54 (by kernel_rfl)).trans q15
      refine wpOp_val rfl (wanted_none rfl) ?_ (fK (.pointer (some (bd.add (j * 2)))) fW (Below.refl _ _) (by rw [hT]; exact rfl))
      clear fK hE hF
      go_simp
    refine stepsAll_cons (k := 17) ?_ ?_
    · intro fa fx fW hF fB hE K fK
      have q16 : fx 16 = .pointer (some (bd.add (j * 2))) := by have q := hE ⟨16, .data⟩ (by simp) rfl; rw [hT] at q; exact q
      have ev55 : fa.tmps[55]?.getD undef = .pointer (some (bd.add (j * 2))) := (hF.ev 16 55 (by kernel_rfl)).trans q16
      have hc4 := cell_below fB hd4
      refine wpOp_val rfl (wanted_none rfl) ?_ (fK (.int .i64 wb) fW (Below.refl _ _) (by rw [hT]; exact rfl))
      clear fK hE hF
      go_simp
    refine stepsAll_cons (k := 18) ?_ ?_
    · intro fa fx fW hF fB hE K fK
      have q3 : fx 3 = .int .i64 xi := by have q := hE ⟨3, .data⟩ (by simp) rfl; rw [hT] at q; exact q
      have q8 : fx 8 = .int .i64 wi := by have q := hE ⟨8, .data⟩ (by simp) rfl; rw [hT] at q; exact q
      have q12 : fx 12 = .int .i64 xb := by have q := hE ⟨12, .data⟩ (by simp) rfl; rw [hT] at q; exact q
      have q17 : fx 17 = .int .i64 wb := by have q := hE ⟨17, .data⟩ (by simp) rfl; rw [hT] at q; exact q
      have ev42 : fa.tmps[42]?.getD undef = .int .i64 xi := (hF.ev 3 42 (by kernel_rfl)).trans q3
      have ev47 : fa.tmps[47]?.getD undef = .int .i64 wi := (hF.ev 8 47 (by kernel_rfl)).trans q8
      have ev51 : fa.tmps[51]?.getD undef = .int .i64 xb := (hF.ev 12 51 (by kernel_rfl)).trans q12
      have ev56 : fa.tmps[56]?.getD undef = .int .i64 wb := (hF.ev 17 56 (by kernel_rfl)).trans q17
      refine wpOp_call rfl (wanted_none rfl) (by go_simp; exact ⟨rfl, rfl⟩) ?_
      refine (HC.out fW).mono ?_
      rintro e w' ⟨rfl, hbb⟩
      exact ⟨_, rfl, fK (.int .i64 r) (w') (hbb) (by rw [hT]; exact rfl)⟩
    refine stepsAll_cons (k := 19) ?_ ?_
    · intro fa fx fW hF fB hE K fK
      have q18 : fx 18 = .int .i64 r := by have q := hE ⟨18, .data⟩ (by simp) rfl; rw [hT] at q; exact q
      have ev57 : fa.tmps[57]?.getD undef = .int .i64 r := (hF.ev 18 57 (by kernel_rfl)).trans q18
      refine wpOp_val rfl (wanted_none rfl) ?_ (fK (.int .i64 r) fW (Below.refl _ _) (by rw [hT]; exact rfl))
      clear fK hE hF
      go_simp
    exact stepsAll_nil
  intro fa fx fW hF fB hx
  have q19 : fx 19 = .int .i64 r := by have q := hx 19 (by decide); rw [hT] at q; exact q
  have ev8 : fa.tmps[8]?.getD undef = .int .i64 r := (hF.ev 19 8 (by kernel_rfl)).trans q19
  rw [hF.eq]
  clear hF hx
  simp only [putAll, Act.put, List.setIfInBounds_toArray, List.set_cons_zero, List.set_cons_succ, q19]
  go_wp2
  go_ret
  exact ⟨rfl, below_tr hb1 fB⟩
end Go.Proofs.Ytmacpgjmhaoneaa
