/- Package device: All, Copy. -/
import Derived.Test.YtdfncmhbbhmgfaaRefMore
import Derived.Test.YtdfncmhbbhmgfaaCopyK
import Derived.Test.YtdfncmhbbhmgfaaDevSmall
namespace Go.Proofs.Ytdfncmhbbhmgfaa
open Go.RowKit
theorem size_rq : (Try.prog.info? 28).map (·.size) = some 5 := by kernel_rfl
set_option maxRecDepth 100000 in
set_option maxHeartbeats 4000000 in
theorem dall (b base : Nat) (room : Int) (l : List Rq) (last done : Int) (v : Value) (w : World) (h : Dev w b base room l last done v) (hr : 0 < room) (hm : l.length ≤ 4096) :
    Calls Try.prog 19 #[.pointer (some ⟨b, 0, none⟩)] w fun e w' => ∃ A n c, e = .returned (.slice A n c) ∧ Below w.heap.size w w' ∧ Rds w' 5 A n c (rqs l) := by
  have HM := Lib.hid (dmade b room w h.room_.cell)
  rw [decide_eq_true hr] at HM
  obtain ⟨A, n, c, rfl, hn, hrd⟩ := own_open h.own
  have hx1 := h.row.cell
  have hrow := h.row
  have hnm : n ≤ 4096 := by rw [hn.out]; exact hm
  clear h hm
  go_enter Try.func19, Try.ntmps19
  go_wp2_with (first
    | (go_at_call 21; refine HM.out.mono ?_; rintro e w1 ⟨rfl, rfl⟩)
    | (at_make; refine mkn (w0 := w) w.heap.size (by rfl) _ _ 22 28 _ 5 40 (by rfl) Try.underlying22 info_rq _ _ _ _ n (by rfl) (by rfl) rfl rfl (by omega) (by unfold maxLen; omega) (Below.refl _ _) (Nat.le_refl _) ?_; intro w1 ho1 hb1 hg1; have k1 := (hrow.below hb1).cell; have hrd1 := hrd.below hb1; obtain ⟨w2, hcp, ho2, hg2⟩ := cpk_run 22 Try.underlying22 size_rq ho1 hrd1 (rqs_one_cell l)))
  go_ret
  obtain ⟨_, hr2⟩ := own_rds' ho2
  refine ⟨_, _, _, rfl, ?_, hr2⟩
  exact Chg.toBelow (S := fun k => k = w.heap.size) (Chg.of_grown hg2 (fun k e => by cases e; rfl)) hb1 hb1.size (fun k e => by omega)
set_option maxRecDepth 100000 in
set_option maxHeartbeats 4000000 in
theorem dcopy (b base : Nat) (room : Int) (l : List Rq) (last done : Int) (v : Value) (w : World) (h : Dev w b base room l last done v) (hr : 0 < room) (hm : l.length ≤ 4096) :
    Calls Try.prog 15 #[.pointer (some ⟨b, 0, none⟩)] w fun e w' => Below w.heap.size w w' ∧ ∃ g v', e = .returned (.pointer (some ⟨g, 0, none⟩)) ∧ w.heap.size ≤ g ∧ Dev w' g w.heap.size room l last done v' := by
  have HM := Lib.hid (dmade b room w h.room_.cell)
  rw [decide_eq_true hr] at HM
  obtain ⟨A, n, c, rfl, hn, hrd⟩ := own_open h.own
  have hnm : n ≤ 4096 := by rw [hn.out]; exact hm
  have HLen := Lib.hid hn.out
  clear hm hn
  go_enter Try.func15, Try.ntmps15
  go_wp2_with (go_at_call 21; refine HM.out.mono ?_; rintro e w1 ⟨rfl, rfl⟩)
  obtain ⟨B, hB⟩ : ∃ B, B = w.heap.size := ⟨_, rfl⟩
  obtain ⟨T, hT⟩ : ∃ T : Nat → Fact, ∀ t_, T t_ = ([Fact.eq (.pointer (some ⟨b, 0, none⟩)), Fact.eq (.pointer (some ⟨b, 0, none⟩)), Fact.eq (.pointer (some ⟨b, 0, none⟩)), Fact.eq (.int .i64 room), Fact.eq (.pointer (some ⟨b, 0, none⟩)), Fact.eq (.pointer (some ⟨b, 0, none⟩)), Fact.eq (.pointer (some ⟨b, 1, none⟩)), Fact.eq (.slice A n c), (⟨fun u W => W.ownsRow B 28 5 u n (rqs l), fun u W W' h hb => own_below h hb⟩ : Fact), Fact.eq (.pointer (some ⟨b, 0, none⟩)), Fact.eq (.pointer (some ⟨b, 0, none⟩)), Fact.eq (.pointer (some ⟨b, 2, none⟩)), Fact.eq (.int .i64 last), Fact.eq (.pointer (some ⟨b, 0, none⟩)), Fact.eq (.pointer (some ⟨b, 0, none⟩)), Fact.eq (.pointer (some ⟨b, 3, none⟩)), Fact.eq (.int .i64 done), (⟨fun u W => ∃ A1 c1, u = .agg #[.int .i64 room, .slice A1 n c1, .int .i64 last, .int .i64 done] ∧ W.ownsRow B 28 5 (.slice A1 n c1) n (rqs l), fun u W W' ⟨A1, c1, h1, h2⟩ hb => ⟨A1, c1, h1, own_below h2 hb⟩⟩ : Fact), (⟨fun u W => ∃ g v', u = .pointer (some ⟨g, 0, none⟩) ∧ B ≤ g ∧ Dev W g B room l last done v', fun u W W' ⟨g, v', h1, h2, h3⟩ hb => ⟨g, v', h1, h2, ⟨h3.room_.below hb, h3.row.below hb, h3.last_.below hb, h3.done_.below hb, own_below h3.own hb, h3.apart⟩⟩⟩ : Fact), (⟨fun u W => ∃ g v', u = .pointer (some ⟨g, 0, none⟩) ∧ B ≤ g ∧ Dev W g B room l last done v', fun u W W' ⟨g, v', h1, h2, h3⟩ hb => ⟨g, v', h1, h2, ⟨h3.room_.below hb, h3.row.below hb, h3.last_.below hb, h3.done_.below hb, own_below h3.own hb, h3.apart⟩⟩⟩ : Fact)] : List (Fact)).getD t_ Fact.any := ⟨_, fun _ => rfl⟩
  refine region_tab [(0, 6), (1, 7), (2, 8), (3, 9), (4, 10), (5, 11), (6, 12), (7, 13), (8, 14), (9, 15), (10, 16), (11, 17), (12, 18), (13, 19), (14, 20), (15, 21), (16, 22), (17, 23), (18, 24), (19, 2)] T (by kernel_rfl) (by kernel_rfl) (by kernel_rfl) (by kernel_rfl) (by kernel_rfl) ?_ ?_
  · skip
    refine stepsAll_cons (k := 0) ?_ ?_
    · intro fa fx fW hF fB hE K fK
      have ev0 : fa.tmps[0]?.getD undef = .pointer (some ⟨b, 0, none⟩) := hF.eo 0 (by kernel_rfl)
      refine wpOp_val rfl (wanted_none rfl) ?_ (fK (.pointer (some ⟨b, 0, none⟩)) fW (Below.refl _ _) (by rw [hT]; exact rfl))
      clear fK hE hF
      go_simp
    refine stepsAll_cons (k := 1) ?_ ?_
    · intro fa fx fW hF fB hE K fK
      have q0 : fx 0 = .pointer (some ⟨b, 0, none⟩) := by have q := hE ⟨0, .data⟩ (by simp) rfl; rw [hT] at q; exact q
      have ev6 : fa.tmps[6]?.getD undef = .pointer (some ⟨b, 0, none⟩) := (hF.ev 0 6 (by kernel_rfl)).trans q0
      refine wpOp_val rfl (wanted_none rfl) ?_ (fK (.pointer (some ⟨b, 0, none⟩)) fW (Below.refl _ _) (by rw [hT]; exact rfl))
      clear fK hE hF
      go_simp
    refine stepsAll_cons (k := 2) ?_ ?_
    · intro fa fx fW hF fB hE K fK
      have q1 : fx 1 = .pointer (some ⟨b, 0, none⟩) := by have q := hE ⟨1, .data⟩ (by simp) rfl; rw [hT] at q; exact q
      have ev7 : fa.tmps[7]?.getD undef = .pointer (some ⟨b, 0, none⟩) := (hF.ev 1 7 (by kernel_rfl)).trans q1
      refine wpOp_val rfl (wanted_none rfl) ?_ (fK (.pointer (some ⟨b, 0, none⟩)) fW (Below.refl _ _) (by rw [hT]; exact rfl))
      clear fK hE hF
      go_simp
    refine stepsAll_cons (k := 3) ?_ ?_
    · intro fa fx fW hF fB hE K fK
      have q2 : fx 2 = .pointer (some ⟨b, 0, none⟩) := by have q := hE ⟨2, .data⟩ (by simp) rfl; rw [hT] at q; exact q
      have ev8 : fa.tmps[8]?.getD undef = .pointer (some ⟨b, 0, none⟩) := (hF.ev 2 8 (by kernel_rfl)).trans q2
      have k0 := (h.room_.below fB).cell
      refine wpOp_val rfl (wanted_none rfl) ?_ (fK (.int .i64 room) fW (Below.refl _ _) (by rw [hT]; exact rfl))
      clear fK hE hF
      go_simp
    refine stepsAll_cons (k := 4) ?_ ?_
    · intro fa fx fW hF fB hE K fK
      have ev0 : fa.tmps[0]?.getD undef = .pointer (some ⟨b, 0, none⟩) := hF.eo 0 (by kernel_rfl)
      refine wpOp_val rfl (wanted_none rfl) ?_ (fK (.pointer (some ⟨b, 0, none⟩)) fW (Below.refl _ _) (by rw [hT]; exact rfl))
      clear fK hE hF
      go_simp
    refine stepsAll_cons (k := 5) ?_ ?_
    · intro fa fx fW hF fB hE K fK
      have q4 : fx 4 = .pointer (some ⟨b, 0, none⟩) := by have q := hE ⟨4, .data⟩ (by simp) rfl; rw [hT] at q; exact q
      have ev10 : fa.tmps[10]?.getD undef = .pointer (some ⟨b, 0, none⟩) := (hF.ev 4 10 (by kernel_rfl)).trans q4
      refine wpOp_val rfl (wanted_none rfl) ?_ (fK (.pointer (some ⟨b, 0, none⟩)) fW (Below.refl _ _) (by rw [hT]; exact rfl))
      clear fK hE hF
      go_simp
    refine stepsAll_cons (k := 6) ?_ ?_
    · intro fa fx fW hF fB hE K fK
      have q5 : fx 5 = .pointer (some ⟨b, 0, none⟩) := by have q := hE ⟨5, .data⟩ (by simp) rfl; rw [hT] at q; exact q
      have ev11 : fa.tmps[11]?.getD undef = .pointer (some ⟨b, 0, none⟩) := (hF.ev 5 11 (by kernel_rfl)).trans q5
      refine wpOp_val rfl (wanted_none rfl) ?_ (fK (.pointer (some ⟨b, 1, none⟩)) fW (Below.refl _ _) (by rw [hT]; exact rfl))
      clear fK hE hF
      go_simp
    refine stepsAll_cons (k := 7) ?_ ?_
    · intro fa fx fW hF fB hE K fK
      have q6 : fx 6 = .pointer (some ⟨b, 1, none⟩) := by have q := hE ⟨6, .data⟩ (by simp) rfl; rw [hT] at q; exact q
      have ev12 : fa.tmps[12]?.getD undef = .pointer (some ⟨b, 1, none⟩) := (hF.ev 6 12 (by kernel_rfl)).trans q6
      have k0 := (h.row.below fB).cell
      refine wpOp_val rfl (wanted_none rfl) ?_ (fK (.slice A n c) fW (Below.refl _ _) (by rw [hT]; exact rfl))
      clear fK hE hF
      go_simp
    refine stepsAll_cons (k := 8) ?_ ?_
    · intro fa fx fW hF fB hE K fK
      have q7 : fx 7 = .slice A n c := by have q := hE ⟨7, .data⟩ (by simp) rfl; rw [hT] at q; exact q
      have ev13 : fa.tmps[13]?.getD undef = .slice A n c := (hF.ev 7 13 (by kernel_rfl)).trans q7
      refine wpOp_call rfl (wanted_none rfl) (by go_simp; exact ⟨rfl, rfl⟩) ?_
      refine (cloneRq _ _ _ _ _ (hrd.below fB) (by omega)).mono ?_
      rintro e w1 ⟨⟨v1, rfl, ho1⟩, hb1⟩
      exact ⟨_, rfl, fK v1 w1 hb1 (by rw [hT]; exact own_mono ho1 (by rw [hB]; exact fB.size))⟩
    refine stepsAll_cons (k := 9) ?_ ?_
    · intro fa fx fW hF fB hE K fK
      have ev0 : fa.tmps[0]?.getD undef = .pointer (some ⟨b, 0, none⟩) := hF.eo 0 (by kernel_rfl)
      refine wpOp_val rfl (wanted_none rfl) ?_ (fK (.pointer (some ⟨b, 0, none⟩)) fW (Below.refl _ _) (by rw [hT]; exact rfl))
      clear fK hE hF
      go_simp
    refine stepsAll_cons (k := 10) ?_ ?_
    · intro fa fx fW hF fB hE K fK
      have q9 : fx 9 = .pointer (some ⟨b, 0, none⟩) := by have q := hE ⟨9, .data⟩ (by simp) rfl; rw [hT] at q; exact q
      have ev15 : fa.tmps[15]?.getD undef = .pointer (some ⟨b, 0, none⟩) := (hF.ev 9 15 (by kernel_rfl)).trans q9
      refine wpOp_val rfl (wanted_none rfl) ?_ (fK (.pointer (some ⟨b, 0, none⟩)) fW (Below.refl _ _) (by rw [hT]; exact rfl))
      clear fK hE hF
      go_simp
    refine stepsAll_cons (k := 11) ?_ ?_
    · intro fa fx fW hF fB hE K fK
      have q10 : fx 10 = .pointer (some ⟨b, 0, none⟩) := by have q := hE ⟨10, .data⟩ (by simp) rfl; rw [hT] at q; exact q
      have ev16 : fa.tmps[16]?.getD undef = .pointer (some ⟨b, 0, none⟩) := (hF.ev 10 16 (by kernel_rfl)).trans q10
      refine wpOp_val rfl (wanted_none rfl) ?_ (fK (.pointer (some ⟨b, 2, none⟩)) fW (Below.refl _ _) (by rw [hT]; exact rfl))
      clear fK hE hF
      go_simp
    refine stepsAll_cons (k := 12) ?_ ?_
    · intro fa fx fW hF fB hE K fK
      have q11 : fx 11 = .pointer (some ⟨b, 2, none⟩) := by have q := hE ⟨11, .data⟩ (by simp) rfl; rw [hT] at q; exact q
      have ev17 : fa.tmps[17]?.getD undef = .pointer (some ⟨b, 2, none⟩) := (hF.ev 11 17 (by kernel_rfl)).trans q11
      have k0 := (h.last_.below fB).cell
      refine wpOp_val rfl (wanted_none rfl) ?_ (fK (.int .i64 last) fW (Below.refl _ _) (by rw [hT]; exact rfl))
      clear fK hE hF
      go_simp
    refine stepsAll_cons (k := 13) ?_ ?_
    · intro fa fx fW hF fB hE K fK
      have ev0 : fa.tmps[0]?.getD undef = .pointer (some ⟨b, 0, none⟩) := hF.eo 0 (by kernel_rfl)
      refine wpOp_val rfl (wanted_none rfl) ?_ (fK (.pointer (some ⟨b, 0, none⟩)) fW (Below.refl _ _) (by rw [hT]; exact rfl))
      clear fK hE hF
      go_simp
    refine stepsAll_cons (k := 14) ?_ ?_
    · intro fa fx fW hF fB hE K fK
      have q13 : fx 13 = .pointer (some ⟨b, 0, none⟩) := by have q := hE ⟨13, .data⟩ (by simp) rfl; rw [hT] at q; exact q
      have ev19 : fa.tmps[19]?.getD undef = .pointer (some ⟨b, 0, none⟩) := (hF.ev 13 19 (by kernel_rfl)).trans q13
      refine wpOp_val rfl (wanted_none rfl) ?_ (fK (.pointer (some ⟨b, 0, none⟩)) fW (Below.refl _ _) (by rw [hT]; exact rfl))
      clear fK hE hF
      go_simp
    refine stepsAll_cons (k := 15) ?_ ?_
    · intro fa fx fW hF fB hE K fK
      have q14 : fx 14 = .pointer (some ⟨b, 0, none⟩) := by have q := hE ⟨14, .data⟩ (by simp) rfl; rw [hT] at q; exact q
      have ev20 : fa.tmps[20]?.getD undef = .pointer (some ⟨b, 0, none⟩) := (hF.ev 14 20 (by kernel_rfl)).trans q14
      refine wpOp_val rfl (wanted_none rfl) ?_ (fK (.pointer (some ⟨b, 3, none⟩)) fW (Below.refl _ _) (by rw [hT]; exact rfl))
      clear fK hE hF
      go_simp
    refine stepsAll_cons (k := 16) ?_ ?_
    · intro fa fx fW hF fB hE K fK
      have q15 : fx 15 = .pointer (some ⟨b, 3, none⟩) := by have q := hE ⟨15, .data⟩ (by simp) rfl; rw [hT] at q; exact q
      have ev21 : fa.tmps[21]?.getD undef = .pointer (some ⟨b, 3, none⟩) := (hF.ev 15 21 (by kernel_rfl)).trans q15
      have k0 := (h.done_.below fB).cell
      refine wpOp_val rfl (wanted_none rfl) ?_ (fK (.int .i64 done) fW (Below.refl _ _) (by rw [hT]; exact rfl))
      clear fK hE hF
      go_simp
    refine stepsAll_cons (k := 17) ?_ ?_
    · intro fa fx fW hF fB hE K fK
      have q3 : fx 3 = .int .i64 room := by have q := hE ⟨3, .data⟩ (by simp) rfl; rw [hT] at q; exact q
      have q8 : ((⟨fun u W => W.ownsRow B 28 5 u n (rqs l), fun u W W' h hb => own_below h hb⟩ : Fact)).p (fx 8) fW := by have q := hE ⟨8, .data⟩ (by simp) rfl; rw [hT] at q; exact q
      have q12 : fx 12 = .int .i64 last := by have q := hE ⟨12, .data⟩ (by simp) rfl; rw [hT] at q; exact q
      have q16 : fx 16 = .int .i64 done := by have q := hE ⟨16, .data⟩ (by simp) rfl; rw [hT] at q; exact q
      have ev9 : fa.tmps[9]?.getD undef = .int .i64 room := (hF.ev 3 9 (by kernel_rfl)).trans q3
      have ev14 : fa.tmps[14]?.getD undef = fx 8 := hF.ev 8 14 (by kernel_rfl)
      have ev18 : fa.tmps[18]?.getD undef = .int .i64 last := (hF.ev 12 18 (by kernel_rfl)).trans q12
      have ev22 : fa.tmps[22]?.getD undef = .int .i64 done := (hF.ev 16 22 (by kernel_rfl)).trans q16
      have q8' : fW.ownsRow B 28 5 (fx 8) n (rqs l) := q8
      obtain ⟨A1, c1, hu⟩ := own_slice q8'
      refine wpOp_val rfl (wanted_none rfl) (v := .agg #[.int .i64 room, .slice A1 n c1, .int .i64 last, .int .i64 done]) (by clear fK hE hF; rw [hu] at ev14; go_simp) (fK _ _ (Below.refl _ _) (by rw [hT]; exact ⟨A1, c1, rfl, by rw [← hu]; exact q8'⟩))
    refine stepsAll_cons (k := 18) ?_ ?_
    · intro fa fx fW hF fB hE K fK
      have q17 : ((⟨fun u W => ∃ A1 c1, u = .agg #[.int .i64 room, .slice A1 n c1, .int .i64 last, .int .i64 done] ∧ W.ownsRow B 28 5 (.slice A1 n c1) n (rqs l), fun u W W' ⟨A1, c1, h1, h2⟩ hb => ⟨A1, c1, h1, own_below h2 hb⟩⟩ : Fact)).p (fx 17) fW := by have q := hE ⟨17, .data⟩ (by simp) rfl; rw [hT] at q; exact q
      have ev23 : fa.tmps[23]?.getD undef = fx 17 := hF.ev 17 23 (by kernel_rfl)
      obtain ⟨A1, c1, hu, ho⟩ := q17
      have hal : Below fW.heap.size fW (fW.alloc (.cells #[.int .i64 room, .slice A1 n c1, .int .i64 last, .int .i64 done] 54)) := below_al (Below.refl _ _) _
      have hb2 := own_below ho hal
      have hbk : ∀ k, (Value.slice A1 n c1).ownBlock = some k → k < fW.heap.size := fun k e => (ho.lt k e).2
      have hBs : B ≤ fW.heap.size := by rw [hB]; exact fB.size
      have D : Dev (fW.alloc (.cells #[.int .i64 room, .slice A1 n c1, .int .i64 last, .int .i64 done] 54)) fW.heap.size B room l last done (.slice A1 n c1) := by
        refine ⟨⟨?_, ?_⟩, ⟨?_, ?_⟩, ⟨?_, ?_⟩, ⟨?_, ?_⟩, ?_, ?_⟩
        all_goals try (clear fK hE hF ho hb2; go_simp; done)
        · rw [← HLen.out]; exact hb2
        · intro e; have := hbk _ e; omega
      refine wpOp_to rfl (wanted_none rfl) (v := .pointer (some ⟨fW.heap.size, 0, none⟩)) (W' := fW.alloc (.cells #[.int .i64 room, .slice A1 n c1, .int .i64 last, .int .i64 done] 54)) (by clear fK hE hF D; rw [hu] at ev23; go_simp) (fK _ _ hal (by rw [hT]; exact ⟨_, _, rfl, hBs, D⟩))
    refine stepsAll_cons (k := 19) ?_ ?_
    · intro fa fx fW hF fB hE K fK
      have q18 : ((⟨fun u W => ∃ g v', u = .pointer (some ⟨g, 0, none⟩) ∧ B ≤ g ∧ Dev W g B room l last done v', fun u W W' ⟨g, v', h1, h2, h3⟩ hb => ⟨g, v', h1, h2, ⟨h3.room_.below hb, h3.row.below hb, h3.last_.below hb, h3.done_.below hb, own_below h3.own hb, h3.apart⟩⟩⟩ : Fact)).p (fx 18) fW := by have q := hE ⟨18, .data⟩ (by simp) rfl; rw [hT] at q; exact q
      have ev24 : fa.tmps[24]?.getD undef = fx 18 := hF.ev 18 24 (by kernel_rfl)
      refine wpOp_val rfl (wanted_none rfl) ?_ (fK (fx 18) fW (Below.refl _ _) (by rw [hT]; exact q18))
      clear fK hE hF
      go_simp
    exact stepsAll_nil
  intro fa fx fW hF fB hx
  have q19 : ((⟨fun u W => ∃ g v', u = .pointer (some ⟨g, 0, none⟩) ∧ B ≤ g ∧ Dev W g B room l last done v', fun u W W' ⟨g, v', h1, h2, h3⟩ hb => ⟨g, v', h1, h2, ⟨h3.room_.below hb, h3.row.below hb, h3.last_.below hb, h3.done_.below hb, own_below h3.own hb, h3.apart⟩⟩⟩ : Fact)).p (fx 19) fW := by have q := hx 19 (by decide); rw [hT] at q; exact q
  have ev2 : fa.tmps[2]?.getD undef = fx 19 := hF.ev 19 2 (by kernel_rfl)
  rw [hF.eq]
  clear hF hx
  simp only [putAll, Act.put, List.setIfInBounds_toArray, List.set_cons_zero, List.set_cons_succ, ]
  obtain ⟨g, v', k1, k2, k3⟩ := q19
  rw [hB] at k2 k3
  rw [k1]
  go_wp2
  go_ret
  first
  | exact ⟨fB, g, v', rfl, k2, k3⟩
  | exact ⟨fB, g, rfl, k2, v', k3⟩
end Go.Proofs.Ytdfncmhbbhmgfaa
