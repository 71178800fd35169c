/- act: what is done on the heap and the document's, and told alike. -/
import Derived.Test.YtopikpjagjnbhaaZRfPlain
import Derived.Test.YtopikpjagjnbhaaRegionJ
namespace Go.Proofs.Ytopikpjagjnbhaa
open Go.RowKit
variable {w0 w : World} {b mb n : Nat} {h : HV} {ids : List Nat} {keys : List Int} {TT : Nat → Prop}
def ac06 (kd z t : Int) : Value := .agg #[.int .i64 kd, .int .i64 z, .int .i64 t]
/-- What act leaves. -/
def AR (w0 w : World) (b mb n : Nat) (TT : Nat → Prop) (e : Ending) (w' : World) : Prop := e = .returned (.bool true) ∧ ∃ h' ids' keys' T', Ph w0 w' b mb n h' ids' keys' T' ∧ PR h' ids' keys' ∧ KR h' ∧ Stp w w' TT T'
theorem Ph.mbT (P : Ph w0 w b mb n h ids keys TT) : TT mb := by
  obtain ⟨S, v1, v2, h1, h2, h3, h4⟩ := P
  exact (h4 mb).2 (.inr (.inl rfl))
theorem stp_below {w1 w2 : World} {S S' : Nat → Prop} (hb : Below w.heap.size w w1) (st : Stp w1 w2 S S') : Stp w w2 S S' :=
  ⟨(Chg.of_below hb).trans st.1, fun k e => (st.2 k e).imp id (fun h => Nat.le_trans hb.size h)⟩
theorem Stp.trans {w1 w2 : World} {S S1 S2 : Nat → Prop} (h : Stp w w1 S S1) (k : Stp w1 w2 S1 S2) : Stp w w2 S S2 := by
  refine ⟨⟨k.1.os.trans h.1.os, k.1.tape.trans h.1.tape, k.1.output.trans h.1.output, Nat.le_trans h.1.size k.1.size, fun i hi hs => ?_⟩, fun i hi => ?_⟩
  · refine (k.1.block i (Nat.lt_of_lt_of_le hi h.1.size) (fun e => ?_)).trans (h.1.block i hi hs)
    rcases h.2 i e with e | e
    · exact hs e
    · omega
  · rcases k.2 i hi with e | e
    · exact h.2 i e
    · exact .inr (Nat.le_trans h.1.size e)
set_option maxRecDepth 100000 in
set_option maxHeartbeats 8000000 in
theorem actR0 (P : Ph w0 w b mb n h ids keys TT) (Q : PR h ids keys) (hk : KR h) (h0 : 0 < n) (hn : n ≤ 4096) (z t : Int) (ht : I64 t) :
    Calls Try.prog 20 #[.pointer (some ⟨b, 0, none⟩), .pointer (some ⟨mb, 0, none⟩), ac06 0 z t] w (AR w0 w b mb n TT) := by
  have s := P.sd
  have HK2 := Lib.hid (putS_kr P.sd hk z t ht)
  have HCC := Lib.hid (fun W (P2 : Ph w0 W b mb n h ids keys TT) => (show Calls Try.prog 10 #[.pointer (some ⟨b, 0, none⟩), .int .i64 z, .int .i64 t] W (CP w0 W b mb n ids keys TT (putS n h z t)) from cput P2 hn h0 z t))
  have HRR := Lib.hid (fun W T1 h2 (P2 : Ph w0 W b mb n h2 ids keys T1) => (show Calls Try.prog 35 #[.pointer (some ⟨mb, 0, none⟩), .int .i64 z, .int .i64 t] W (DP w0 W b mb n h2 T1 (putS n h z t)) from dput P2 Q s hn z t))
  generalize putS n h z t = sr at HK2 HCC HRR
  obtain ⟨r, h'⟩ := sr
  unfold CP at HCC
  unfold DP at HRR
  simp only at HCC HRR HK2
  obtain ⟨W0, hW0⟩ : ∃ W0, W0 = w.alloc (.cells #[.int .i64 0, .int .i64 z, .int .i64 t] (44 : Nat)) := ⟨_, rfl⟩
  have hal : Below w.heap.size w W0 := by rw [hW0]; exact below_al (Below.refl _ _) _
  have HAL := Lib.hid hal
  have hp0 := Lib.hid (P.below hal)
  have HMS := Lib.hid P.mbT
  have hTN' : ¬ TT w.heap.size := fun e => by have := P.lt e; omega
  have hc0 : W0.cell? ⟨w.heap.size, 0, none⟩ = some (.int .i64 0) := by rw [hW0]; go_simp
  have hc1 : W0.cell? ⟨w.heap.size, 1, none⟩ = some (.int .i64 z) := by rw [hW0]; go_simp
  have hc2 : W0.cell? ⟨w.heap.size, 2, none⟩ = some (.int .i64 t) := by rw [hW0]; go_simp
  unfold ac06
  have _ := ht
  have _ := h0
  have _ := hn
  clear hal hk hn P Q s ht h0
  go_enter Try.func20, Try.ntmps20
  go_wp2
  rw [← hW0]
  clear hW0
  obtain ⟨N, hN⟩ : ∃ N, N = w.heap.size := ⟨_, rfl⟩
  rw [← hN] at hc0 hc1 hc2 hTN' ⊢
  have hTN : ¬ TT N := hTN'
  clear hN hc0 hTN'
  obtain ⟨G, hG⟩ : ∃ G : Option Value → Option Value → World → Prop, ∀ c1 d W, G c1 d W = ((d.isSome = true → c1.isSome = true) ∧ Chg TT W0 W ∧ (c1 = none → Ph w0 W b mb n h ids keys TT) ∧ (c1.isSome = true → d = none → ∃ T1, Ph w0 W b mb n h' ids keys T1 ∧ ∀ k, T1 k → TT k ∨ W0.heap.size ≤ k) ∧ (d.isSome = true → ∃ ids' keys' T1, Ph w0 W b mb n h' ids' keys' T1 ∧ PR h' ids' keys' ∧ ∀ k, T1 k → TT k ∨ W0.heap.size ≤ k)) := ⟨_, fun _ _ _ => rfl⟩
  obtain ⟨S_, hS_⟩ : ∃ S_ : World → World → Prop, S_ = (Chg TT) := ⟨_, rfl⟩
  have hR_ : ∀ W, S_ W W := by intro W; rw [hS_]; exact Chg.refl _ _
  obtain ⟨T, hT⟩ : ∃ T : Nat → FactS S_, ∀ t_, T t_ = ([FactS.eq (.pointer (some ⟨b, 0, none⟩)), FactS.eq (.pointer (some ⟨N, 1, none⟩)), FactS.eq (.int .i64 z), FactS.eq (.pointer (some ⟨N, 2, none⟩)), FactS.eq (.int .i64 t), FactS.eq (.int .i64 r), FactS.eq (.pointer (some ⟨mb, 0, none⟩)), FactS.eq (.pointer (some ⟨N, 1, none⟩)), FactS.eq (.int .i64 z), FactS.eq (.pointer (some ⟨N, 2, none⟩)), FactS.eq (.int .i64 t), FactS.eq (.int .i64 r), FactS.eq (.bool true), FactS.eq (.bool true)] : List (FactS S_)).getD t_ FactS.any := ⟨_, fun _ => rfl⟩
  have hP_ : ∀ i_ v_ (y_ : Nat → Option Value) W_, ([5, 11].contains i_) = false → G (y_ 5) (y_ 11) W_ → G (updY y_ i_ v_ 5) (updY y_ i_ v_ 11) W_ := by
    intro i_ v_ y_ W_ hi_ h_
    simp only [List.contains_cons, List.contains_nil, Bool.or_false, Bool.or_eq_false_iff, beq_eq_false_iff_ne, ne_eq] at hi_
    obtain ⟨i5_, i11_⟩ := hi_
    rw [updY_ne y_ i_ v_ i5_, updY_ne y_ i_ v_ i11_]
    exact h_
  refine region_tabJ [(0, 17), (1, 18), (2, 19), (3, 20), (4, 21), (5, 22), (6, 23), (7, 24), (8, 25), (9, 26), (10, 27), (11, 28), (12, 29), (13, 6)] S_ T (fun y_ W_ => G (y_ 5) (y_ 11) W_) (by kernel_rfl) (by kernel_rfl) (by kernel_rfl) (by kernel_rfl) (by kernel_rfl) ?_ ?_ ?_
  · skip
    show G none none _
    rw [hG]
    exact ⟨(fun h => by cases h), (Chg.refl _ _).drewN 1, fun _ => hp0.out.below (below_dr (Below.refl _ _) 1), (fun h => by cases h), (fun h => by cases h)⟩
  · skip
    refine stepsAll_cons (k := 0) ?_ ?_
    · intro fa fx fW fy hF hN hJ hE K fK
      have hJ : G (fy 5) (fy 11) fW := hJ
      have ev0 : fa.tmps[0]?.getD undef = .pointer (some ⟨b, 0, none⟩) := hF.eo 0 (by kernel_rfl)
      refine wpOp_val rfl (wanted_none rfl) ?_ (fK (.pointer (some ⟨b, 0, none⟩)) fW (hR_ fW) (by rw [hT]; exact rfl) (hP_ 0 _ fy fW rfl hJ))
      clear fK hE hF hJ hN
      go_simp
    refine stepsAll_cons (k := 1) ?_ ?_
    · intro fa fx fW fy hF hN hJ hE K fK
      have hJ : G (fy 5) (fy 11) fW := hJ
      have ev5 : fa.tmps[5]?.getD undef = .pointer (some ⟨N, 0, none⟩) := hF.eo 5 (by kernel_rfl)
      refine wpOp_val rfl (wanted_none rfl) ?_ (fK (.pointer (some ⟨N, 1, none⟩)) fW (hR_ fW) (by rw [hT]; exact rfl) (hP_ 1 _ fy fW rfl hJ))
      clear fK hE hF hJ hN
      go_simp
    refine stepsAll_cons (k := 2) ?_ ?_
    · intro fa fx fW fy hF hN hJ hE K fK
      have hJ : G (fy 5) (fy 11) fW := hJ
      have q1 : fx 1 = .pointer (some ⟨N, 1, none⟩) := by have q := (hE ⟨1, .data⟩ (by simp) rfl).2; rw [hT] at q; exact q
      have ev18 : fa.tmps[18]?.getD undef = .pointer (some ⟨N, 1, none⟩) := (hF.ev 1 18 (by kernel_rfl)).trans q1
      have hJ1 := hJ
      rw [hG] at hJ1
      have zz := hJ1.2.1.cell hc1 hTN
      clear hJ1
      refine wpOp_val rfl (wanted_none rfl) ?_ (fK (.int .i64 z) fW (hR_ fW) (by rw [hT]; exact rfl) (hP_ 2 _ fy fW rfl hJ))
      clear fK hE hF hJ hN
      go_simp
    refine stepsAll_cons (k := 3) ?_ ?_
    · intro fa fx fW fy hF hN hJ hE K fK
      have hJ : G (fy 5) (fy 11) fW := hJ
      have ev5 : fa.tmps[5]?.getD undef = .pointer (some ⟨N, 0, none⟩) := hF.eo 5 (by kernel_rfl)
      refine wpOp_val rfl (wanted_none rfl) ?_ (fK (.pointer (some ⟨N, 2, none⟩)) fW (hR_ fW) (by rw [hT]; exact rfl) (hP_ 3 _ fy fW rfl hJ))
      clear fK hE hF hJ hN
      go_simp
    refine stepsAll_cons (k := 4) ?_ ?_
    · intro fa fx fW fy hF hN hJ hE K fK
      have hJ : G (fy 5) (fy 11) fW := hJ
      have q3 : fx 3 = .pointer (some ⟨N, 2, none⟩) := by have q := (hE ⟨3, .data⟩ (by simp) rfl).2; rw [hT] at q; exact q
      have ev20 : fa.tmps[20]?.getD undef = .pointer (some ⟨N, 2, none⟩) := (hF.ev 3 20 (by kernel_rfl)).trans q3
      have hJ1 := hJ
      rw [hG] at hJ1
      have zz := hJ1.2.1.cell hc2 hTN
      clear hJ1
      refine wpOp_val rfl (wanted_none rfl) ?_ (fK (.int .i64 t) fW (hR_ fW) (by rw [hT]; exact rfl) (hP_ 4 _ fy fW rfl hJ))
      clear fK hE hF hJ hN
      go_simp
    refine stepsAll_cons (k := 5) ?_ ?_
    · intro fa fx fW fy hF hN hJ hE K fK
      have hJ : G (fy 5) (fy 11) fW := hJ
      have q0 : fx 0 = .pointer (some ⟨b, 0, none⟩) := by have q := (hE ⟨0, .data⟩ (by simp) rfl).2; rw [hT] at q; exact q
      have q2 : fx 2 = .int .i64 z := by have q := (hE ⟨2, .data⟩ (by simp) rfl).2; rw [hT] at q; exact q
      have q4 : fx 4 = .int .i64 t := by have q := (hE ⟨4, .data⟩ (by simp) rfl).2; rw [hT] at q; exact q
      have ev17 : fa.tmps[17]?.getD undef = .pointer (some ⟨b, 0, none⟩) := (hF.ev 0 17 (by kernel_rfl)).trans q0
      have ev19 : fa.tmps[19]?.getD undef = .int .i64 z := (hF.ev 2 19 (by kernel_rfl)).trans q2
      have ev21 : fa.tmps[21]?.getD undef = .int .i64 t := (hF.ev 4 21 (by kernel_rfl)).trans q4
      refine wpOp_call rfl (wanted_none rfl) (by go_simp; exact ⟨rfl, rfl⟩) ?_
      rw [hG, hN] at hJ
      obtain ⟨j1, j2, j3, j4, j5⟩ := hJ
      have a7 : fy 11 = none := by cases h : fy 11 with | none => rfl | some u => rw [h] at j1; exact absurd (j1 rfl) (by simp)
      refine (HCC.out _ (j3 rfl)).mono ?_
      rintro e w' ⟨rfl, T1, hp, hst⟩
      refine ⟨_, rfl, fK (.int .i64 r) w' (by rw [hS_]; exact hst.1) (by rw [hT]; exact rfl) ?_⟩
      show G (some _) (fy 11) w'
      rw [hG, a7]
      have hsz := j2.size
      exact ⟨(fun h => by cases h), j2.trans hst.1, (fun e => by cases e), fun _ _ => ⟨T1, hp, fun k hk => (hst.2 k hk).imp id (fun h => by omega)⟩, (fun h => by cases h)⟩
    refine stepsAll_cons (k := 6) ?_ ?_
    · intro fa fx fW fy hF hN hJ hE K fK
      have hJ : G (fy 5) (fy 11) fW := hJ
      have ev1 : fa.tmps[1]?.getD undef = .pointer (some ⟨mb, 0, none⟩) := hF.eo 1 (by kernel_rfl)
      refine wpOp_val rfl (wanted_none rfl) ?_ (fK (.pointer (some ⟨mb, 0, none⟩)) fW (hR_ fW) (by rw [hT]; exact rfl) (hP_ 6 _ fy fW rfl hJ))
      clear fK hE hF hJ hN
      go_simp
    refine stepsAll_cons (k := 7) ?_ ?_
    · intro fa fx fW fy hF hN hJ hE K fK
      have hJ : G (fy 5) (fy 11) fW := hJ
      have ev5 : fa.tmps[5]?.getD undef = .pointer (some ⟨N, 0, none⟩) := hF.eo 5 (by kernel_rfl)
      refine wpOp_val rfl (wanted_none rfl) ?_ (fK (.pointer (some ⟨N, 1, none⟩)) fW (hR_ fW) (by rw [hT]; exact rfl) (hP_ 7 _ fy fW rfl hJ))
      clear fK hE hF hJ hN
      go_simp
    refine stepsAll_cons (k := 8) ?_ ?_
    · intro fa fx fW fy hF hN hJ hE K fK
      have hJ : G (fy 5) (fy 11) fW := hJ
      have q7 : fx 7 = .pointer (some ⟨N, 1, none⟩) := by have q := (hE ⟨7, .data⟩ (by simp) rfl).2; rw [hT] at q; exact q
      have ev24 : fa.tmps[24]?.getD undef = .pointer (some ⟨N, 1, none⟩) := (hF.ev 7 24 (by kernel_rfl)).trans q7
      have hJ1 := hJ
      rw [hG] at hJ1
      have zz := hJ1.2.1.cell hc1 hTN
      clear hJ1
      refine wpOp_val rfl (wanted_none rfl) ?_ (fK (.int .i64 z) fW (hR_ fW) (by rw [hT]; exact rfl) (hP_ 8 _ fy fW rfl hJ))
      clear fK hE hF hJ hN
      go_simp
    refine stepsAll_cons (k := 9) ?_ ?_
    · intro fa fx fW fy hF hN hJ hE K fK
      have hJ : G (fy 5) (fy 11) fW := hJ
      have ev5 : fa.tmps[5]?.getD undef = .pointer (some ⟨N, 0, none⟩) := hF.eo 5 (by kernel_rfl)
      refine wpOp_val rfl (wanted_none rfl) ?_ (fK (.pointer (some ⟨N, 2, none⟩)) fW (hR_ fW) (by rw [hT]; exact rfl) (hP_ 9 _ fy fW rfl hJ))
      clear fK hE hF hJ hN
      go_simp
    refine stepsAll_cons (k := 10) ?_ ?_
    · intro fa fx fW fy hF hN hJ hE K fK
      have hJ : G (fy 5) (fy 11) fW := hJ
      have q9 : fx 9 = .pointer (some ⟨N, 2, none⟩) := by have q := (hE ⟨9, .data⟩ (by simp) rfl).2; rw [hT] at q; exact q
      have ev26 : fa.tmps[26]?.getD undef = .pointer (some ⟨N, 2, none⟩) := (hF.ev 9 26 (by kernel_rfl)).trans q9
      have hJ1 := hJ
      rw [hG] at hJ1
      have zz := hJ1.2.1.cell hc2 hTN
      clear hJ1
      refine wpOp_val rfl (wanted_none rfl) ?_ (fK (.int .i64 t) fW (hR_ fW) (by rw [hT]; exact rfl) (hP_ 10 _ fy fW rfl hJ))
      clear fK hE hF hJ hN
      go_simp
    refine stepsAll_cons (k := 11) ?_ ?_
    · intro fa fx fW fy hF hN hJ hE K fK
      have hJ : G (fy 5) (fy 11) fW := hJ
      have q5 : fx 5 = .int .i64 r := by have q := (hE ⟨5, .chain⟩ (by simp) rfl).2; rw [hT] at q; exact q
      have y5 : fy 5 = some (fx 5) := (hE ⟨5, .chain⟩ (by simp) rfl).1
      have q6 : fx 6 = .pointer (some ⟨mb, 0, none⟩) := by have q := (hE ⟨6, .data⟩ (by simp) rfl).2; rw [hT] at q; exact q
      have q8 : fx 8 = .int .i64 z := by have q := (hE ⟨8, .data⟩ (by simp) rfl).2; rw [hT] at q; exact q
      have q10 : fx 10 = .int .i64 t := by have q := (hE ⟨10, .data⟩ (by simp) rfl).2; rw [hT] at q; exact q
      have ev23 : fa.tmps[23]?.getD undef = .pointer (some ⟨mb, 0, none⟩) := (hF.ev 6 23 (by kernel_rfl)).trans q6
      have ev25 : fa.tmps[25]?.getD undef = .int .i64 z := (hF.ev 8 25 (by kernel_rfl)).trans q8
      have ev27 : fa.tmps[27]?.getD undef = .int .i64 t := (hF.ev 10 27 (by kernel_rfl)).trans q10
      refine wpOp_call rfl (wanted_none rfl) (by go_simp; exact ⟨rfl, rfl⟩) ?_
      rw [hG, hN, y5] at hJ
      obtain ⟨j1, j2, j3, j4, j5⟩ := hJ
      obtain ⟨T1, hpq, hT1⟩ := j4 rfl rfl
      refine (HRR.out _ _ _ hpq).mono ?_
      rintro e w' ⟨rfl, ids', keys', T2, hp, ⟨hst, hc⟩, hpr⟩
      have hc' : Chg TT fW w' := hc.mono (fun k _ e => by rw [e]; exact HMS.out)
      refine ⟨_, rfl, fK (.int .i64 r) w' (by rw [hS_]; exact hc') (by rw [hT]; exact rfl) ?_⟩
      show G (fy 5) (some _) w'
      rw [hG, y5]
      have hsz := j2.size
      exact ⟨(fun _ => rfl), j2.trans hc', (fun e => by cases e), (fun _ e => by cases e), fun _ => ⟨ids', keys', T2, hp, hpr, fun k hk => by
        rcases hst.2 k hk with h5 | h5
        · exact hT1 k h5
        · exact .inr (by omega)⟩⟩
    refine stepsAll_cons (k := 12) ?_ ?_
    · intro fa fx fW fy hF hN hJ hE K fK
      have hJ : G (fy 5) (fy 11) fW := hJ
      have q5 : fx 5 = .int .i64 r := by have q := (hE ⟨5, .data⟩ (by simp) rfl).2; rw [hT] at q; exact q
      have y5 : fy 5 = some (fx 5) := (hE ⟨5, .data⟩ (by simp) rfl).1
      have q11 : fx 11 = .int .i64 r := by have q := (hE ⟨11, .data⟩ (by simp) rfl).2; rw [hT] at q; exact q
      have y11 : fy 11 = some (fx 11) := (hE ⟨11, .data⟩ (by simp) rfl).1
      have ev22 : fa.tmps[22]?.getD undef = .int .i64 r := (hF.ev 5 22 (by kernel_rfl)).trans q5
      have ev28 : fa.tmps[28]?.getD undef = .int .i64 r := (hF.ev 11 28 (by kernel_rfl)).trans q11
      refine wpOp_val rfl (wanted_none rfl) ?_ (fK (.bool true) fW (hR_ fW) (by rw [hT]; exact rfl) (hP_ 12 _ fy fW rfl hJ))
      clear fK hE hF hJ hN
      go_simp
    refine stepsAll_cons (k := 13) ?_ ?_
    · intro fa fx fW fy hF hN hJ hE K fK
      have hJ : G (fy 5) (fy 11) fW := hJ
      have q12 : fx 12 = .bool true := by have q := (hE ⟨12, .data⟩ (by simp) rfl).2; rw [hT] at q; exact q
      have ev29 : fa.tmps[29]?.getD undef = .bool true := (hF.ev 12 29 (by kernel_rfl)).trans q12
      refine wpOp_val rfl (wanted_none rfl) ?_ (fK (.bool true) fW (hR_ fW) (by rw [hT]; exact rfl) (hP_ 13 _ fy fW rfl hJ))
      clear fK hE hF hJ hN
      go_simp
    exact stepsAll_nil
  intro fa fx fW fy hF hJ0 hx
  have y5 : fy 5 = some (fx 5) := (hx 5 (by decide)).1
  have y11 : fy 11 = some (fx 11) := (hx 11 (by decide)).1
  have hJ : G (fy 5) (fy 11) fW := hJ0
  clear hJ0
  rw [y5, y11] at hJ
  have q13 : fx 13 = .bool true := by have q := (hx 13 (by decide)).2; rw [hT] at q; exact q
  have ev6 : fa.tmps[6]?.getD undef = .bool true := (hF.ev 13 6 (by kernel_rfl)).trans q13
  rw [hF.eq]
  clear hF hx hT T hP_ hR_ y5 y11
  simp only [putAll, Act.put, List.setIfInBounds_toArray, List.set_cons_zero, List.set_cons_succ, q13]
  rw [hG] at hJ
  obtain ⟨_, j2, _, _, j5⟩ := hJ
  obtain ⟨ids', keys', T1, hp, hpr, hT1⟩ := j5 rfl
  have HE := Lib.hid hp
  have HE2 := Lib.hid j2
  have HE3 := Lib.hid hT1
  have HE4 := Lib.hid hpr
  clear hp j2 hT1 j5 hpr
  go_wp2
  go_ret
  exact ⟨rfl, h', ids', keys', T1, HE.out, HE4.out, HK2.out, stp_below HAL.out ⟨HE2.out, HE3.out⟩⟩
set_option maxRecDepth 100000 in
set_option maxHeartbeats 8000000 in
theorem actR1 (P : Ph w0 w b mb n h ids keys TT) (Q : PR h ids keys) (hk : KR h) (h0 : 0 < n) (hn : n ≤ 4096) (z t : Int) (ht : I64 t) :
    Calls Try.prog 20 #[.pointer (some ⟨b, 0, none⟩), .pointer (some ⟨mb, 0, none⟩), ac06 1 z t] w (AR w0 w b mb n TT) := by
  have s := P.sd
  have HK2 := Lib.hid (chgS_kr P.sd hk z t ht)
  have HCC := Lib.hid (fun W (P2 : Ph w0 W b mb n h ids keys TT) => (show Calls Try.prog 13 #[.pointer (some ⟨b, 0, none⟩), .int .i64 z, .int .i64 t] W (CP w0 W b mb n ids keys TT (chgS n h z t)) from cchg P2 hn h0 z t))
  have HRR := Lib.hid (fun W T1 h2 (P2 : Ph w0 W b mb n h2 ids keys T1) => (show Calls Try.prog 36 #[.pointer (some ⟨mb, 0, none⟩), .int .i64 z, .int .i64 t] W (DP w0 W b mb n h2 T1 (chgS n h z t)) from dchg P2 Q s hn z t))
  generalize chgS n h z t = sr at HK2 HCC HRR
  obtain ⟨r, h'⟩ := sr
  unfold CP at HCC
  unfold DP at HRR
  simp only at HCC HRR HK2
  obtain ⟨W0, hW0⟩ : ∃ W0, W0 = w.alloc (.cells #[.int .i64 1, .int .i64 z, .int .i64 t] (44 : Nat)) := ⟨_, rfl⟩
  have hal : Below w.heap.size w W0 := by rw [hW0]; exact below_al (Below.refl _ _) _
  have HAL := Lib.hid hal
  have hp0 := Lib.hid (P.below hal)
  have HMS := Lib.hid P.mbT
  have hTN' : ¬ TT w.heap.size := fun e => by have := P.lt e; omega
  have hc0 : W0.cell? ⟨w.heap.size, 0, none⟩ = some (.int .i64 1) := by rw [hW0]; go_simp
  have hc1 : W0.cell? ⟨w.heap.size, 1, none⟩ = some (.int .i64 z) := by rw [hW0]; go_simp
  have hc2 : W0.cell? ⟨w.heap.size, 2, none⟩ = some (.int .i64 t) := by rw [hW0]; go_simp
  unfold ac06
  have _ := ht
  have _ := h0
  have _ := hn
  clear hal hk hn P Q s ht h0
  go_enter Try.func20, Try.ntmps20
  go_wp2
  rw [← hW0]
  clear hW0
  obtain ⟨N, hN⟩ : ∃ N, N = w.heap.size := ⟨_, rfl⟩
  rw [← hN] at hc0 hc1 hc2 hTN' ⊢
  have hTN : ¬ TT N := hTN'
  clear hN hc0 hTN'
  obtain ⟨G, hG⟩ : ∃ G : Option Value → Option Value → World → Prop, ∀ c1 d W, G c1 d W = ((d.isSome = true → c1.isSome = true) ∧ Chg TT W0 W ∧ (c1 = none → Ph w0 W b mb n h ids keys TT) ∧ (c1.isSome = true → d = none → ∃ T1, Ph w0 W b mb n h' ids keys T1 ∧ ∀ k, T1 k → TT k ∨ W0.heap.size ≤ k) ∧ (d.isSome = true → ∃ ids' keys' T1, Ph w0 W b mb n h' ids' keys' T1 ∧ PR h' ids' keys' ∧ ∀ k, T1 k → TT k ∨ W0.heap.size ≤ k)) := ⟨_, fun _ _ _ => rfl⟩
  obtain ⟨S_, hS_⟩ : ∃ S_ : World → World → Prop, S_ = (Chg TT) := ⟨_, rfl⟩
  have hR_ : ∀ W, S_ W W := by intro W; rw [hS_]; exact Chg.refl _ _
  obtain ⟨T, hT⟩ : ∃ T : Nat → FactS S_, ∀ t_, T t_ = ([FactS.eq (.pointer (some ⟨b, 0, none⟩)), FactS.eq (.pointer (some ⟨N, 1, none⟩)), FactS.eq (.int .i64 z), FactS.eq (.pointer (some ⟨N, 2, none⟩)), FactS.eq (.int .i64 t), FactS.eq (.int .i64 r), FactS.eq (.pointer (some ⟨mb, 0, none⟩)), FactS.eq (.pointer (some ⟨N, 1, none⟩)), FactS.eq (.int .i64 z), FactS.eq (.pointer (some ⟨N, 2, none⟩)), FactS.eq (.int .i64 t), FactS.eq (.int .i64 r), FactS.eq (.bool true), FactS.eq (.bool true)] : List (FactS S_)).getD t_ FactS.any := ⟨_, fun _ => rfl⟩
  have hP_ : ∀ i_ v_ (y_ : Nat → Option Value) W_, ([5, 11].contains i_) = false → G (y_ 5) (y_ 11) W_ → G (updY y_ i_ v_ 5) (updY y_ i_ v_ 11) W_ := by
    intro i_ v_ y_ W_ hi_ h_
    simp only [List.contains_cons, List.contains_nil, Bool.or_false, Bool.or_eq_false_iff, beq_eq_false_iff_ne, ne_eq] at hi_
    obtain ⟨i5_, i11_⟩ := hi_
    rw [updY_ne y_ i_ v_ i5_, updY_ne y_ i_ v_ i11_]
    exact h_
  refine region_tabJ [(0, 32), (1, 33), (2, 34), (3, 35), (4, 36), (5, 37), (6, 38), (7, 39), (8, 40), (9, 41), (10, 42), (11, 43), (12, 44), (13, 6)] S_ T (fun y_ W_ => G (y_ 5) (y_ 11) W_) (by kernel_rfl) (by kernel_rfl) (by kernel_rfl) (by kernel_rfl) (by kernel_rfl) ?_ ?_ ?_
  · skip
    show G none none _
    rw [hG]
    exact ⟨(fun h => by cases h), (Chg.refl _ _).drewN 1, fun _ => hp0.out.below (below_dr (Below.refl _ _) 1), (fun h => by cases h), (fun h => by cases h)⟩
  · skip
    refine stepsAll_cons (k := 0) ?_ ?_
    · intro fa fx fW fy hF hN hJ hE K fK
      have hJ : G (fy 5) (fy 11) fW := hJ
      have ev0 : fa.tmps[0]?.getD undef = .pointer (some ⟨b, 0, none⟩) := hF.eo 0 (by kernel_rfl)
      refine wpOp_val rfl (wanted_none rfl) ?_ (fK (.pointer (some ⟨b, 0, none⟩)) fW (hR_ fW) (by rw [hT]; exact rfl) (hP_ 0 _ fy fW rfl hJ))
      clear fK hE hF hJ hN
      go_simp
    refine stepsAll_cons (k := 1) ?_ ?_
    · intro fa fx fW fy hF hN hJ hE K fK
      have hJ : G (fy 5) (fy 11) fW := hJ
      have ev5 : fa.tmps[5]?.getD undef = .pointer (some ⟨N, 0, none⟩) := hF.eo 5 (by kernel_rfl)
      refine wpOp_val rfl (wanted_none rfl) ?_ (fK (.pointer (some ⟨N, 1, none⟩)) fW (hR_ fW) (by rw [hT]; exact rfl) (hP_ 1 _ fy fW rfl hJ))
      clear fK hE hF hJ hN
      go_simp
    refine stepsAll_cons (k := 2) ?_ ?_
    · intro fa fx fW fy hF hN hJ hE K fK
      have hJ : G (fy 5) (fy 11) fW := hJ
      have q1 : fx 1 = .pointer (some ⟨N, 1, none⟩) := by have q := (hE ⟨1, .data⟩ (by simp) rfl).2; rw [hT] at q; exact q
      have ev33 : fa.tmps[33]?.getD undef = .pointer (some ⟨N, 1, none⟩) := (hF.ev 1 33 (by kernel_rfl)).trans q1
      have hJ1 := hJ
      rw [hG] at hJ1
      have zz := hJ1.2.1.cell hc1 hTN
      clear hJ1
      refine wpOp_val rfl (wanted_none rfl) ?_ (fK (.int .i64 z) fW (hR_ fW) (by rw [hT]; exact rfl) (hP_ 2 _ fy fW rfl hJ))
      clear fK hE hF hJ hN
      go_simp
    refine stepsAll_cons (k := 3) ?_ ?_
    · intro fa fx fW fy hF hN hJ hE K fK
      have hJ : G (fy 5) (fy 11) fW := hJ
      have ev5 : fa.tmps[5]?.getD undef = .pointer (some ⟨N, 0, none⟩) := hF.eo 5 (by kernel_rfl)
      refine wpOp_val rfl (wanted_none rfl) ?_ (fK (.pointer (some ⟨N, 2, none⟩)) fW (hR_ fW) (by rw [hT]; exact rfl) (hP_ 3 _ fy fW rfl hJ))
      clear fK hE hF hJ hN
      go_simp
    refine stepsAll_cons (k := 4) ?_ ?_
    · intro fa fx fW fy hF hN hJ hE K fK
      have hJ : G (fy 5) (fy 11) fW := hJ
      have q3 : fx 3 = .pointer (some ⟨N, 2, none⟩) := by have q := (hE ⟨3, .data⟩ (by simp) rfl).2; rw [hT] at q; exact q
      have ev35 : fa.tmps[35]?.getD undef = .pointer (some ⟨N, 2, none⟩) := (hF.ev 3 35 (by kernel_rfl)).trans q3
      have hJ1 := hJ
      rw [hG] at hJ1
      have zz := hJ1.2.1.cell hc2 hTN
      clear hJ1
      refine wpOp_val rfl (wanted_none rfl) ?_ (fK (.int .i64 t) fW (hR_ fW) (by rw [hT]; exact rfl) (hP_ 4 _ fy fW rfl hJ))
      clear fK hE hF hJ hN
      go_simp
    refine stepsAll_cons (k := 5) ?_ ?_
    · intro fa fx fW fy hF hN hJ hE K fK
      have hJ : G (fy 5) (fy 11) fW := hJ
      have q0 : fx 0 = .pointer (some ⟨b, 0, none⟩) := by have q := (hE ⟨0, .data⟩ (by simp) rfl).2; rw [hT] at q; exact q
      have q2 : fx 2 = .int .i64 z := by have q := (hE ⟨2, .data⟩ (by simp) rfl).2; rw [hT] at q; exact q
      have q4 : fx 4 = .int .i64 t := by have q := (hE ⟨4, .data⟩ (by simp) rfl).2; rw [hT] at q; exact q
      have ev32 : fa.tmps[32]?.getD undef = .pointer (some ⟨b, 0, none⟩) := (hF.ev 0 32 (by kernel_rfl)).trans q0
      have ev34 : fa.tmps[34]?.getD undef = .int .i64 z := (hF.ev 2 34 (by kernel_rfl)).trans q2
      have ev36 : fa.tmps[36]?.getD undef = .int .i64 t := (hF.ev 4 36 (by kernel_rfl)).trans q4
      refine wpOp_call rfl (wanted_none rfl) (by go_simp; exact ⟨rfl, rfl⟩) ?_
      rw [hG, hN] at hJ
      obtain ⟨j1, j2, j3, j4, j5⟩ := hJ
      have a7 : fy 11 = none := by cases h : fy 11 with | none => rfl | some u => rw [h] at j1; exact absurd (j1 rfl) (by simp)
      refine (HCC.out _ (j3 rfl)).mono ?_
      rintro e w' ⟨rfl, T1, hp, hst⟩
      refine ⟨_, rfl, fK (.int .i64 r) w' (by rw [hS_]; exact hst.1) (by rw [hT]; exact rfl) ?_⟩
      show G (some _) (fy 11) w'
      rw [hG, a7]
      have hsz := j2.size
      exact ⟨(fun h => by cases h), j2.trans hst.1, (fun e => by cases e), fun _ _ => ⟨T1, hp, fun k hk => (hst.2 k hk).imp id (fun h => by omega)⟩, (fun h => by cases h)⟩
    refine stepsAll_cons (k := 6) ?_ ?_
    · intro fa fx fW fy hF hN hJ hE K fK
      have hJ : G (fy 5) (fy 11) fW := hJ
      have ev1 : fa.tmps[1]?.getD undef = .pointer (some ⟨mb, 0, none⟩) := hF.eo 1 (by kernel_rfl)
      refine wpOp_val rfl (wanted_none rfl) ?_ (fK (.pointer (some ⟨mb, 0, none⟩)) fW (hR_ fW) (by rw [hT]; exact rfl) (hP_ 6 _ fy fW rfl hJ))
      clear fK hE hF hJ hN
      go_simp
    refine stepsAll_cons (k := 7) ?_ ?_
    · intro fa fx fW fy hF hN hJ hE K fK
      have hJ : G (fy 5) (fy 11) fW := hJ
      have ev5 : fa.tmps[5]?.getD undef = .pointer (some ⟨N, 0, none⟩) := hF.eo 5 (by kernel_rfl)
      refine wpOp_val rfl (wanted_none rfl) ?_ (fK (.pointer (some ⟨N, 1, none⟩)) fW (hR_ fW) (by rw [hT]; exact rfl) (hP_ 7 _ fy fW rfl hJ))
      clear fK hE hF hJ hN
      go_simp
    refine stepsAll_cons (k := 8) ?_ ?_
    · intro fa fx fW fy hF hN hJ hE K fK
      have hJ : G (fy 5) (fy 11) fW := hJ
      have q7 : fx 7 = .pointer (some ⟨N, 1, none⟩) := by have q := (hE ⟨7, .data⟩ (by simp) rfl).2; rw [hT] at q; exact q
      have ev39 : fa.tmps[39]?.getD undef = .pointer (some ⟨N, 1, none⟩) := (hF.ev 7 39 (by kernel_rfl)).trans q7
      have hJ1 := hJ
      rw [hG] at hJ1
      have zz := hJ1.2.1.cell hc1 hTN
      clear hJ1
      refine wpOp_val rfl (wanted_none rfl) ?_ (fK (.int .i64 z) fW (hR_ fW) (by rw [hT]; exact rfl) (hP_ 8 _ fy fW rfl hJ))
      clear fK hE hF hJ hN
      go_simp
    refine stepsAll_cons (k := 9) ?_ ?_
    · intro fa fx fW fy hF hN hJ hE K fK
      have hJ : G (fy 5) (fy 11) fW := hJ
      have ev5 : fa.tmps[5]?.getD undef = .pointer (some ⟨N, 0, none⟩) := hF.eo 5 (by kernel_rfl)
      refine wpOp_val rfl (wanted_none rfl) ?_ (fK (.pointer (some ⟨N, 2, none⟩)) fW (hR_ fW) (by rw [hT]; exact rfl) (hP_ 9 _ fy fW rfl hJ))
      clear fK hE hF hJ hN
      go_simp
    refine stepsAll_cons (k := 10) ?_ ?_
    · intro fa fx fW fy hF hN hJ hE K fK
      have hJ : G (fy 5) (fy 11) fW := hJ
      have q9 : fx 9 = .pointer (some ⟨N, 2, none⟩) := by have q := (hE ⟨9, .data⟩ (by simp) rfl).2; rw [hT] at q; exact q
      have ev41 : fa.tmps[41]?.getD undef = .pointer (some ⟨N, 2, none⟩) := (hF.ev 9 41 (by kernel_rfl)).trans q9
      have hJ1 := hJ
      rw [hG] at hJ1
      have zz := hJ1.2.1.cell hc2 hTN
      clear hJ1
      refine wpOp_val rfl (wanted_none rfl) ?_ (fK (.int .i64 t) fW (hR_ fW) (by rw [hT]; exact rfl) (hP_ 10 _ fy fW rfl hJ))
      clear fK hE hF hJ hN
      go_simp
    refine stepsAll_cons (k := 11) ?_ ?_
    · intro fa fx fW fy hF hN hJ hE K fK
      have hJ : G (fy 5) (fy 11) fW := hJ
      have q5 : fx 5 = .int .i64 r := by have q := (hE ⟨5, .chain⟩ (by simp) rfl).2; rw [hT] at q; exact q
      have y5 : fy 5 = some (fx 5) := (hE ⟨5, .chain⟩ (by simp) rfl).1
      have q6 : fx 6 = .pointer (some ⟨mb, 0, none⟩) := by have q := (hE ⟨6, .data⟩ (by simp) rfl).2; rw [hT] at q; exact q
      have q8 : fx 8 = .int .i64 z := by have q := (hE ⟨8, .data⟩ (by simp) rfl).2; rw [hT] at q; exact q
      have q10 : fx 10 = .int .i64 t := by have q := (hE ⟨10, .data⟩ (by simp) rfl).2; rw [hT] at q; exact q
      have ev38 : fa.tmps[38]?.getD undef = .pointer (some ⟨mb, 0, none⟩) := (hF.ev 6 38 (by kernel_rfl)).trans q6
      have ev40 : fa.tmps[40]?.getD undef = .int .i64 z := (hF.ev 8 40 (by kernel_rfl)).trans q8
      have ev42 : fa.tmps[42]?.getD undef = .int .i64 t := (hF.ev 10 42 (by kernel_rfl)).trans q10
      refine wpOp_call rfl (wanted_none rfl) (by go_simp; exact ⟨rfl, rfl⟩) ?_
      rw [hG, hN, y5] at hJ
      obtain ⟨j1, j2, j3, j4, j5⟩ := hJ
      obtain ⟨T1, hpq, hT1⟩ := j4 rfl rfl
      refine (HRR.out _ _ _ hpq).mono ?_
      rintro e w' ⟨rfl, ids', keys', T2, hp, ⟨hst, hc⟩, hpr⟩
      have hc' : Chg TT fW w' := hc.mono (fun k _ e => by rw [e]; exact HMS.out)
      refine ⟨_, rfl, fK (.int .i64 r) w' (by rw [hS_]; exact hc') (by rw [hT]; exact rfl) ?_⟩
      show G (fy 5) (some _) w'
      rw [hG, y5]
      have hsz := j2.size
      exact ⟨(fun _ => rfl), j2.trans hc', (fun e => by cases e), (fun _ e => by cases e), fun _ => ⟨ids', keys', T2, hp, hpr, fun k hk => by
        rcases hst.2 k hk with h5 | h5
        · exact hT1 k h5
        · exact .inr (by omega)⟩⟩
    refine stepsAll_cons (k := 12) ?_ ?_
    · intro fa fx fW fy hF hN hJ hE K fK
      have hJ : G (fy 5) (fy 11) fW := hJ
      have q5 : fx 5 = .int .i64 r := by have q := (hE ⟨5, .data⟩ (by simp) rfl).2; rw [hT] at q; exact q
      have y5 : fy 5 = some (fx 5) := (hE ⟨5, .data⟩ (by simp) rfl).1
      have q11 : fx 11 = .int .i64 r := by have q := (hE ⟨11, .data⟩ (by simp) rfl).2; rw [hT] at q; exact q
      have y11 : fy 11 = some (fx 11) := (hE ⟨11, .data⟩ (by simp) rfl).1
      have ev37 : fa.tmps[37]?.getD undef = .int .i64 r := (hF.ev 5 37 (by kernel_rfl)).trans q5
      have ev43 : fa.tmps[43]?.getD undef = .int .i64 r := (hF.ev 11 43 (by kernel_rfl)).trans q11
      refine wpOp_val rfl (wanted_none rfl) ?_ (fK (.bool true) fW (hR_ fW) (by rw [hT]; exact rfl) (hP_ 12 _ fy fW rfl hJ))
      clear fK hE hF hJ hN
      go_simp
    refine stepsAll_cons (k := 13) ?_ ?_
    · intro fa fx fW fy hF hN hJ hE K fK
      have hJ : G (fy 5) (fy 11) fW := hJ
      have q12 : fx 12 = .bool true := by have q := (hE ⟨12, .data⟩ (by simp) rfl).2; rw [hT] at q; exact q
      have ev44 : fa.tmps[44]?.getD undef = .bool true := (hF.ev 12 44 (by kernel_rfl)).trans q12
      refine wpOp_val rfl (wanted_none rfl) ?_ (fK (.bool true) fW (hR_ fW) (by rw [hT]; exact rfl) (hP_ 13 _ fy fW rfl hJ))
      clear fK hE hF hJ hN
      go_simp
    exact stepsAll_nil
  intro fa fx fW fy hF hJ0 hx
  have y5 : fy 5 = some (fx 5) := (hx 5 (by decide)).1
  have y11 : fy 11 = some (fx 11) := (hx 11 (by decide)).1
  have hJ : G (fy 5) (fy 11) fW := hJ0
  clear hJ0
  rw [y5, y11] at hJ
  have q13 : fx 13 = .bool true := by have q := (hx 13 (by decide)).2; rw [hT] at q; exact q
  have ev6 : fa.tmps[6]?.getD undef = .bool true := (hF.ev 13 6 (by kernel_rfl)).trans q13
  rw [hF.eq]
  clear hF hx hT T hP_ hR_ y5 y11
  simp only [putAll, Act.put, List.setIfInBounds_toArray, List.set_cons_zero, List.set_cons_succ, q13]
  rw [hG] at hJ
  obtain ⟨_, j2, _, _, j5⟩ := hJ
  obtain ⟨ids', keys', T1, hp, hpr, hT1⟩ := j5 rfl
  have HE := Lib.hid hp
  have HE2 := Lib.hid j2
  have HE3 := Lib.hid hT1
  have HE4 := Lib.hid hpr
  clear hp j2 hT1 j5 hpr
  go_wp2
  go_ret
  exact ⟨rfl, h', ids', keys', T1, HE.out, HE4.out, HK2.out, stp_below HAL.out ⟨HE2.out, HE3.out⟩⟩
set_option maxRecDepth 100000 in
set_option maxHeartbeats 8000000 in
theorem actR2 (P : Ph w0 w b mb n h ids keys TT) (Q : PR h ids keys) (hk : KR h) (h0 : 0 < n) (hn : n ≤ 4096) (z t : Int) (ht : I64 t) :
    Calls Try.prog 20 #[.pointer (some ⟨b, 0, none⟩), .pointer (some ⟨mb, 0, none⟩), ac06 2 z t] w (AR w0 w b mb n TT) := by
  have s := P.sd
  have HK2 := Lib.hid (remS_kr P.sd hk z)
  have HCC := Lib.hid (fun W (P2 : Ph w0 W b mb n h ids keys TT) => (show Calls Try.prog 14 #[.pointer (some ⟨b, 0, none⟩), .int .i64 z] W (CP w0 W b mb n ids keys TT (remS n h z)) from crem P2 hn h0 z))
  have HRR := Lib.hid (fun W T1 h2 (P2 : Ph w0 W b mb n h2 ids keys T1) => (show Calls Try.prog 37 #[.pointer (some ⟨mb, 0, none⟩), .int .i64 z] W (DP w0 W b mb n h2 T1 (remS n h z)) from drem P2 Q s hn z))
  generalize remS n h z = sr at HK2 HCC HRR
  obtain ⟨r, h'⟩ := sr
  unfold CP at HCC
  unfold DP at HRR
  simp only at HCC HRR HK2
  obtain ⟨W0, hW0⟩ : ∃ W0, W0 = w.alloc (.cells #[.int .i64 2, .int .i64 z, .int .i64 t] (44 : Nat)) := ⟨_, rfl⟩
  have hal : Below w.heap.size w W0 := by rw [hW0]; exact below_al (Below.refl _ _) _
  have HAL := Lib.hid hal
  have hp0 := Lib.hid (P.below hal)
  have HMS := Lib.hid P.mbT
  have hTN' : ¬ TT w.heap.size := fun e => by have := P.lt e; omega
  have hc0 : W0.cell? ⟨w.heap.size, 0, none⟩ = some (.int .i64 2) := by rw [hW0]; go_simp
  have hc1 : W0.cell? ⟨w.heap.size, 1, none⟩ = some (.int .i64 z) := by rw [hW0]; go_simp
  have hc2 : W0.cell? ⟨w.heap.size, 2, none⟩ = some (.int .i64 t) := by rw [hW0]; go_simp
  unfold ac06
  have _ := ht
  have _ := h0
  have _ := hn
  clear hal hk hn P Q s ht h0
  go_enter Try.func20, Try.ntmps20
  go_wp2
  rw [← hW0]
  clear hW0
  obtain ⟨N, hN⟩ : ∃ N, N = w.heap.size := ⟨_, rfl⟩
  rw [← hN] at hc0 hc1 hc2 hTN' ⊢
  have hTN : ¬ TT N := hTN'
  clear hN hc0 hTN'
  obtain ⟨G, hG⟩ : ∃ G : Option Value → Option Value → World → Prop, ∀ c1 d W, G c1 d W = ((d.isSome = true → c1.isSome = true) ∧ Chg TT W0 W ∧ (c1 = none → Ph w0 W b mb n h ids keys TT) ∧ (c1.isSome = true → d = none → ∃ T1, Ph w0 W b mb n h' ids keys T1 ∧ ∀ k, T1 k → TT k ∨ W0.heap.size ≤ k) ∧ (d.isSome = true → ∃ ids' keys' T1, Ph w0 W b mb n h' ids' keys' T1 ∧ PR h' ids' keys' ∧ ∀ k, T1 k → TT k ∨ W0.heap.size ≤ k)) := ⟨_, fun _ _ _ => rfl⟩
  obtain ⟨S_, hS_⟩ : ∃ S_ : World → World → Prop, S_ = (Chg TT) := ⟨_, rfl⟩
  have hR_ : ∀ W, S_ W W := by intro W; rw [hS_]; exact Chg.refl _ _
  obtain ⟨T, hT⟩ : ∃ T : Nat → FactS S_, ∀ t_, T t_ = ([FactS.eq (.pointer (some ⟨b, 0, none⟩)), FactS.eq (.pointer (some ⟨N, 1, none⟩)), FactS.eq (.int .i64 z), FactS.eq (.int .i64 r), FactS.eq (.pointer (some ⟨mb, 0, none⟩)), FactS.eq (.pointer (some ⟨N, 1, none⟩)), FactS.eq (.int .i64 z), FactS.eq (.int .i64 r), FactS.eq (.bool true), FactS.eq (.bool true)] : List (FactS S_)).getD t_ FactS.any := ⟨_, fun _ => rfl⟩
  have hP_ : ∀ i_ v_ (y_ : Nat → Option Value) W_, ([3, 7].contains i_) = false → G (y_ 3) (y_ 7) W_ → G (updY y_ i_ v_ 3) (updY y_ i_ v_ 7) W_ := by
    intro i_ v_ y_ W_ hi_ h_
    simp only [List.contains_cons, List.contains_nil, Bool.or_false, Bool.or_eq_false_iff, beq_eq_false_iff_ne, ne_eq] at hi_
    obtain ⟨i3_, i7_⟩ := hi_
    rw [updY_ne y_ i_ v_ i3_, updY_ne y_ i_ v_ i7_]
    exact h_
  refine region_tabJ [(0, 47), (1, 48), (2, 49), (3, 50), (4, 51), (5, 52), (6, 53), (7, 54), (8, 55), (9, 6)] S_ T (fun y_ W_ => G (y_ 3) (y_ 7) W_) (by kernel_rfl) (by kernel_rfl) (by kernel_rfl) (by kernel_rfl) (by kernel_rfl) ?_ ?_ ?_
  · skip
    show G none none _
    rw [hG]
    exact ⟨(fun h => by cases h), (Chg.refl _ _).drewN 1, fun _ => hp0.out.below (below_dr (Below.refl _ _) 1), (fun h => by cases h), (fun h => by cases h)⟩
  · skip
    refine stepsAll_cons (k := 0) ?_ ?_
    · intro fa fx fW fy hF hN hJ hE K fK
      have hJ : G (fy 3) (fy 7) fW := hJ
      have ev0 : fa.tmps[0]?.getD undef = .pointer (some ⟨b, 0, none⟩) := hF.eo 0 (by kernel_rfl)
      refine wpOp_val rfl (wanted_none rfl) ?_ (fK (.pointer (some ⟨b, 0, none⟩)) fW (hR_ fW) (by rw [hT]; exact rfl) (hP_ 0 _ fy fW rfl hJ))
      clear fK hE hF hJ hN
      go_simp
    refine stepsAll_cons (k := 1) ?_ ?_
    · intro fa fx fW fy hF hN hJ hE K fK
      have hJ : G (fy 3) (fy 7) fW := hJ
      have ev5 : fa.tmps[5]?.getD undef = .pointer (some ⟨N, 0, none⟩) := hF.eo 5 (by kernel_rfl)
      refine wpOp_val rfl (wanted_none rfl) ?_ (fK (.pointer (some ⟨N, 1, none⟩)) fW (hR_ fW) (by rw [hT]; exact rfl) (hP_ 1 _ fy fW rfl hJ))
      clear fK hE hF hJ hN
      go_simp
    refine stepsAll_cons (k := 2) ?_ ?_
    · intro fa fx fW fy hF hN hJ hE K fK
      have hJ : G (fy 3) (fy 7) fW := hJ
      have q1 : fx 1 = .pointer (some ⟨N, 1, none⟩) := by have q := (hE ⟨1, .data⟩ (by simp) rfl).2; rw [hT] at q; exact q
      have ev48 : fa.tmps[48]?.getD undef = .pointer (some ⟨N, 1, none⟩) := (hF.ev 1 48 (by kernel_rfl)).trans q1
      have hJ1 := hJ
      rw [hG] at hJ1
      have zz := hJ1.2.1.cell hc1 hTN
      clear hJ1
      refine wpOp_val rfl (wanted_none rfl) ?_ (fK (.int .i64 z) fW (hR_ fW) (by rw [hT]; exact rfl) (hP_ 2 _ fy fW rfl hJ))
      clear fK hE hF hJ hN
      go_simp
    refine stepsAll_cons (k := 3) ?_ ?_
    · intro fa fx fW fy hF hN hJ hE K fK
      have hJ : G (fy 3) (fy 7) fW := hJ
      have q0 : fx 0 = .pointer (some ⟨b, 0, none⟩) := by have q := (hE ⟨0, .data⟩ (by simp) rfl).2; rw [hT] at q; exact q
      have q2 : fx 2 = .int .i64 z := by have q := (hE ⟨2, .data⟩ (by simp) rfl).2; rw [hT] at q; exact q
      have ev47 : fa.tmps[47]?.getD undef = .pointer (some ⟨b, 0, none⟩) := (hF.ev 0 47 (by kernel_rfl)).trans q0
      have ev49 : fa.tmps[49]?.getD undef = .int .i64 z := (hF.ev 2 49 (by kernel_rfl)).trans q2
      refine wpOp_call rfl (wanted_none rfl) (by go_simp; exact ⟨rfl, rfl⟩) ?_
      rw [hG, hN] at hJ
      obtain ⟨j1, j2, j3, j4, j5⟩ := hJ
      have a7 : fy 7 = none := by cases h : fy 7 with | none => rfl | some u => rw [h] at j1; exact absurd (j1 rfl) (by simp)
      refine (HCC.out _ (j3 rfl)).mono ?_
      rintro e w' ⟨rfl, T1, hp, hst⟩
      refine ⟨_, rfl, fK (.int .i64 r) w' (by rw [hS_]; exact hst.1) (by rw [hT]; exact rfl) ?_⟩
      show G (some _) (fy 7) w'
      rw [hG, a7]
      have hsz := j2.size
      exact ⟨(fun h => by cases h), j2.trans hst.1, (fun e => by cases e), fun _ _ => ⟨T1, hp, fun k hk => (hst.2 k hk).imp id (fun h => by omega)⟩, (fun h => by cases h)⟩
    refine stepsAll_cons (k := 4) ?_ ?_
    · intro fa fx fW fy hF hN hJ hE K fK
      have hJ : G (fy 3) (fy 7) fW := hJ
      have ev1 : fa.tmps[1]?.getD undef = .pointer (some ⟨mb, 0, none⟩) := hF.eo 1 (by kernel_rfl)
      refine wpOp_val rfl (wanted_none rfl) ?_ (fK (.pointer (some ⟨mb, 0, none⟩)) fW (hR_ fW) (by rw [hT]; exact rfl) (hP_ 4 _ fy fW rfl hJ))
      clear fK hE hF hJ hN
      go_simp
    refine stepsAll_cons (k := 5) ?_ ?_
    · intro fa fx fW fy hF hN hJ hE K fK
      have hJ : G (fy 3) (fy 7) fW := hJ
      have ev5 : fa.tmps[5]?.getD undef = .pointer (some ⟨N, 0, none⟩) := hF.eo 5 (by kernel_rfl)
      refine wpOp_val rfl (wanted_none rfl) ?_ (fK (.pointer (some ⟨N, 1, none⟩)) fW (hR_ fW) (by rw [hT]; exact rfl) (hP_ 5 _ fy fW rfl hJ))
      clear fK hE hF hJ hN
      go_simp
    refine stepsAll_cons (k := 6) ?_ ?_
    · intro fa fx fW fy hF hN hJ hE K fK
      have hJ : G (fy 3) (fy 7) fW := hJ
      have q5 : fx 5 = .pointer (some ⟨N, 1, none⟩) := by have q := (hE ⟨5, .data⟩ (by simp) rfl).2; rw [hT] at q; exact q
      have ev52 : fa.tmps[52]?.getD undef = .pointer (some ⟨N, 1, none⟩) := (hF.ev 5 52 (by kernel_rfl)).trans q5
      have hJ1 := hJ
      rw [hG] at hJ1
      have zz := hJ1.2.1.cell hc1 hTN
      clear hJ1
      refine wpOp_val rfl (wanted_none rfl) ?_ (fK (.int .i64 z) fW (hR_ fW) (by rw [hT]; exact rfl) (hP_ 6 _ fy fW rfl hJ))
      clear fK hE hF hJ hN
      go_simp
    refine stepsAll_cons (k := 7) ?_ ?_
    · intro fa fx fW fy hF hN hJ hE K fK
      have hJ : G (fy 3) (fy 7) fW := hJ
      have q3 : fx 3 = .int .i64 r := by have q := (hE ⟨3, .chain⟩ (by simp) rfl).2; rw [hT] at q; exact q
      have y3 : fy 3 = some (fx 3) := (hE ⟨3, .chain⟩ (by simp) rfl).1
      have q4 : fx 4 = .pointer (some ⟨mb, 0, none⟩) := by have q := (hE ⟨4, .data⟩ (by simp) rfl).2; rw [hT] at q; exact q
      have q6 : fx 6 = .int .i64 z := by have q := (hE ⟨6, .data⟩ (by simp) rfl).2; rw [hT] at q; exact q
      have ev51 : fa.tmps[51]?.getD undef = .pointer (some ⟨mb, 0, none⟩) := (hF.ev 4 51 (by kernel_rfl)).trans q4
      have ev53 : fa.tmps[53]?.getD undef = .int .i64 z := (hF.ev 6 53 (by kernel_rfl)).trans q6
      refine wpOp_call rfl (wanted_none rfl) (by go_simp; exact ⟨rfl, rfl⟩) ?_
      rw [hG, hN, y3] at hJ
      obtain ⟨j1, j2, j3, j4, j5⟩ := hJ
      obtain ⟨T1, hpq, hT1⟩ := j4 rfl rfl
      refine (HRR.out _ _ _ hpq).mono ?_
      rintro e w' ⟨rfl, ids', keys', T2, hp, ⟨hst, hc⟩, hpr⟩
      have hc' : Chg TT fW w' := hc.mono (fun k _ e => by rw [e]; exact HMS.out)
      refine ⟨_, rfl, fK (.int .i64 r) w' (by rw [hS_]; exact hc') (by rw [hT]; exact rfl) ?_⟩
      show G (fy 3) (some _) w'
      rw [hG, y3]
      have hsz := j2.size
      exact ⟨(fun _ => rfl), j2.trans hc', (fun e => by cases e), (fun _ e => by cases e), fun _ => ⟨ids', keys', T2, hp, hpr, fun k hk => by
        rcases hst.2 k hk with h5 | h5
        · exact hT1 k h5
        · exact .inr (by omega)⟩⟩
    refine stepsAll_cons (k := 8) ?_ ?_
    · intro fa fx fW fy hF hN hJ hE K fK
      have hJ : G (fy 3) (fy 7) fW := hJ
      have q3 : fx 3 = .int .i64 r := by have q := (hE ⟨3, .data⟩ (by simp) rfl).2; rw [hT] at q; exact q
      have y3 : fy 3 = some (fx 3) := (hE ⟨3, .data⟩ (by simp) rfl).1
      have q7 : fx 7 = .int .i64 r := by have q := (hE ⟨7, .data⟩ (by simp) rfl).2; rw [hT] at q; exact q
      have y7 : fy 7 = some (fx 7) := (hE ⟨7, .data⟩ (by simp) rfl).1
      have ev50 : fa.tmps[50]?.getD undef = .int .i64 r := (hF.ev 3 50 (by kernel_rfl)).trans q3
      have ev54 : fa.tmps[54]?.getD undef = .int .i64 r := (hF.ev 7 54 (by kernel_rfl)).trans q7
      refine wpOp_val rfl (wanted_none rfl) ?_ (fK (.bool true) fW (hR_ fW) (by rw [hT]; exact rfl) (hP_ 8 _ fy fW rfl hJ))
      clear fK hE hF hJ hN
      go_simp
    refine stepsAll_cons (k := 9) ?_ ?_
    · intro fa fx fW fy hF hN hJ hE K fK
      have hJ : G (fy 3) (fy 7) fW := hJ
      have q8 : fx 8 = .bool true := by have q := (hE ⟨8, .data⟩ (by simp) rfl).2; rw [hT] at q; exact q
      have ev55 : fa.tmps[55]?.getD undef = .bool true := (hF.ev 8 55 (by kernel_rfl)).trans q8
      refine wpOp_val rfl (wanted_none rfl) ?_ (fK (.bool true) fW (hR_ fW) (by rw [hT]; exact rfl) (hP_ 9 _ fy fW rfl hJ))
      clear fK hE hF hJ hN
      go_simp
    exact stepsAll_nil
  intro fa fx fW fy hF hJ0 hx
  have y3 : fy 3 = some (fx 3) := (hx 3 (by decide)).1
  have y7 : fy 7 = some (fx 7) := (hx 7 (by decide)).1
  have hJ : G (fy 3) (fy 7) fW := hJ0
  clear hJ0
  rw [y3, y7] at hJ
  have q9 : fx 9 = .bool true := by have q := (hx 9 (by decide)).2; rw [hT] at q; exact q
  have ev6 : fa.tmps[6]?.getD undef = .bool true := (hF.ev 9 6 (by kernel_rfl)).trans q9
  rw [hF.eq]
  clear hF hx hT T hP_ hR_ y3 y7
  simp only [putAll, Act.put, List.setIfInBounds_toArray, List.set_cons_zero, List.set_cons_succ, q9]
  rw [hG] at hJ
  obtain ⟨_, j2, _, _, j5⟩ := hJ
  obtain ⟨ids', keys', T1, hp, hpr, hT1⟩ := j5 rfl
  have HE := Lib.hid hp
  have HE2 := Lib.hid j2
  have HE3 := Lib.hid hT1
  have HE4 := Lib.hid hpr
  clear hp j2 hT1 j5 hpr
  go_wp2
  go_ret
  exact ⟨rfl, h', ids', keys', T1, HE.out, HE4.out, HK2.out, stp_below HAL.out ⟨HE2.out, HE3.out⟩⟩
set_option maxRecDepth 100000 in
set_option maxHeartbeats 8000000 in
theorem actR4 (P : Ph w0 w b mb n h ids keys TT) (Q : PR h ids keys) (hk : KR h) (h0 : 0 < n) (hn : n ≤ 4096) (z t : Int) (ht : I64 t) :
    Calls Try.prog 20 #[.pointer (some ⟨b, 0, none⟩), .pointer (some ⟨mb, 0, none⟩), ac06 4 z t] w (AR w0 w b mb n TT) := by
  have s := P.sd
  have HK2 := Lib.hid (lowS_kr P.sd hk t)
  have HCC := Lib.hid (fun W (P2 : Ph w0 W b mb n h ids keys TT) => (show Calls Try.prog 24 #[.pointer (some ⟨b, 0, none⟩), .int .i64 t] W (CP w0 W b mb n ids keys TT (lowS h t)) from clow P2 hn h0 hk t ht))
  have HRR := Lib.hid (fun W T1 h2 (P2 : Ph w0 W b mb n h2 ids keys T1) => (show Calls Try.prog 39 #[.pointer (some ⟨mb, 0, none⟩), .int .i64 t] W (DP w0 W b mb n h2 T1 (lowS h t)) from dlow P2 Q s hn hk t ht))
  generalize lowS h t = sr at HK2 HCC HRR
  obtain ⟨r, h'⟩ := sr
  unfold CP at HCC
  unfold DP at HRR
  simp only at HCC HRR HK2
  obtain ⟨W0, hW0⟩ : ∃ W0, W0 = w.alloc (.cells #[.int .i64 4, .int .i64 z, .int .i64 t] (44 : Nat)) := ⟨_, rfl⟩
  have hal : Below w.heap.size w W0 := by rw [hW0]; exact below_al (Below.refl _ _) _
  have HAL := Lib.hid hal
  have hp0 := Lib.hid (P.below hal)
  have HMS := Lib.hid P.mbT
  have hTN' : ¬ TT w.heap.size := fun e => by have := P.lt e; omega
  have hc0 : W0.cell? ⟨w.heap.size, 0, none⟩ = some (.int .i64 4) := by rw [hW0]; go_simp
  have hc1 : W0.cell? ⟨w.heap.size, 1, none⟩ = some (.int .i64 z) := by rw [hW0]; go_simp
  have hc2 : W0.cell? ⟨w.heap.size, 2, none⟩ = some (.int .i64 t) := by rw [hW0]; go_simp
  unfold ac06
  have _ := ht
  have _ := h0
  have _ := hn
  clear hal hk hn P Q s ht h0
  go_enter Try.func20, Try.ntmps20
  go_wp2
  rw [← hW0]
  clear hW0
  obtain ⟨N, hN⟩ : ∃ N, N = w.heap.size := ⟨_, rfl⟩
  rw [← hN] at hc0 hc1 hc2 hTN' ⊢
  have hTN : ¬ TT N := hTN'
  clear hN hc0 hTN'
  obtain ⟨G, hG⟩ : ∃ G : Option Value → Option Value → World → Prop, ∀ c1 d W, G c1 d W = ((d.isSome = true → c1.isSome = true) ∧ Chg TT W0 W ∧ (c1 = none → Ph w0 W b mb n h ids keys TT) ∧ (c1.isSome = true → d = none → ∃ T1, Ph w0 W b mb n h' ids keys T1 ∧ ∀ k, T1 k → TT k ∨ W0.heap.size ≤ k) ∧ (d.isSome = true → ∃ ids' keys' T1, Ph w0 W b mb n h' ids' keys' T1 ∧ PR h' ids' keys' ∧ ∀ k, T1 k → TT k ∨ W0.heap.size ≤ k)) := ⟨_, fun _ _ _ => rfl⟩
  obtain ⟨S_, hS_⟩ : ∃ S_ : World → World → Prop, S_ = (Chg TT) := ⟨_, rfl⟩
  have hR_ : ∀ W, S_ W W := by intro W; rw [hS_]; exact Chg.refl _ _
  obtain ⟨T, hT⟩ : ∃ T : Nat → FactS S_, ∀ t_, T t_ = ([FactS.eq (.pointer (some ⟨b, 0, none⟩)), FactS.eq (.pointer (some ⟨N, 2, none⟩)), FactS.eq (.int .i64 t), FactS.eq (.int .i64 r), FactS.eq (.pointer (some ⟨mb, 0, none⟩)), FactS.eq (.pointer (some ⟨N, 2, none⟩)), FactS.eq (.int .i64 t), FactS.eq (.int .i64 r), FactS.eq (.bool true), FactS.eq (.bool true)] : List (FactS S_)).getD t_ FactS.any := ⟨_, fun _ => rfl⟩
  have hP_ : ∀ i_ v_ (y_ : Nat → Option Value) W_, ([3, 7].contains i_) = false → G (y_ 3) (y_ 7) W_ → G (updY y_ i_ v_ 3) (updY y_ i_ v_ 7) W_ := by
    intro i_ v_ y_ W_ hi_ h_
    simp only [List.contains_cons, List.contains_nil, Bool.or_false, Bool.or_eq_false_iff, beq_eq_false_iff_ne, ne_eq] at hi_
    obtain ⟨i3_, i7_⟩ := hi_
    rw [updY_ne y_ i_ v_ i3_, updY_ne y_ i_ v_ i7_]
    exact h_
  refine region_tabJ [(0, 85), (1, 86), (2, 87), (3, 88), (4, 89), (5, 90), (6, 91), (7, 92), (8, 93), (9, 6)] S_ T (fun y_ W_ => G (y_ 3) (y_ 7) W_) (by kernel_rfl) (by kernel_rfl) (by kernel_rfl) (by kernel_rfl) (by kernel_rfl) ?_ ?_ ?_
  · skip
    show G none none _
    rw [hG]
    exact ⟨(fun h => by cases h), (Chg.refl _ _).drewN 1, fun _ => hp0.out.below (below_dr (Below.refl _ _) 1), (fun h => by cases h), (fun h => by cases h)⟩
  · skip
    refine stepsAll_cons (k := 0) ?_ ?_
    · intro fa fx fW fy hF hN hJ hE K fK
      have hJ : G (fy 3) (fy 7) fW := hJ
      have ev0 : fa.tmps[0]?.getD undef = .pointer (some ⟨b, 0, none⟩) := hF.eo 0 (by kernel_rfl)
      refine wpOp_val rfl (wanted_none rfl) ?_ (fK (.pointer (some ⟨b, 0, none⟩)) fW (hR_ fW) (by rw [hT]; exact rfl) (hP_ 0 _ fy fW rfl hJ))
      clear fK hE hF hJ hN
      go_simp
    refine stepsAll_cons (k := 1) ?_ ?_
    · intro fa fx fW fy hF hN hJ hE K fK
      have hJ : G (fy 3) (fy 7) fW := hJ
      have ev5 : fa.tmps[5]?.getD undef = .pointer (some ⟨N, 0, none⟩) := hF.eo 5 (by kernel_rfl)
      refine wpOp_val rfl (wanted_none rfl) ?_ (fK (.pointer (some ⟨N, 2, none⟩)) fW (hR_ fW) (by rw [hT]; exact rfl) (hP_ 1 _ fy fW rfl hJ))
      clear fK hE hF hJ hN
      go_simp
    refine stepsAll_cons (k := 2) ?_ ?_
    · intro fa fx fW fy hF hN hJ hE K fK
      have hJ : G (fy 3) (fy 7) fW := hJ
      have q1 : fx 1 = .pointer (some ⟨N, 2, none⟩) := by have q := (hE ⟨1, .data⟩ (by simp) rfl).2; rw [hT] at q; exact q
      have ev86 : fa.tmps[86]?.getD undef = .pointer (some ⟨N, 2, none⟩) := (hF.ev 1 86 (by kernel_rfl)).trans q1
      have hJ1 := hJ
      rw [hG] at hJ1
      have zz := hJ1.2.1.cell hc2 hTN
      clear hJ1
      refine wpOp_val rfl (wanted_none rfl) ?_ (fK (.int .i64 t) fW (hR_ fW) (by rw [hT]; exact rfl) (hP_ 2 _ fy fW rfl hJ))
      clear fK hE hF hJ hN
      go_simp
    refine stepsAll_cons (k := 3) ?_ ?_
    · intro fa fx fW fy hF hN hJ hE K fK
      have hJ : G (fy 3) (fy 7) fW := hJ
      have q0 : fx 0 = .pointer (some ⟨b, 0, none⟩) := by have q := (hE ⟨0, .data⟩ (by simp) rfl).2; rw [hT] at q; exact q
      have q2 : fx 2 = .int .i64 t := by have q := (hE ⟨2, .data⟩ (by simp) rfl).2; rw [hT] at q; exact q
      have ev85 : fa.tmps[85]?.getD undef = .pointer (some ⟨b, 0, none⟩) := (hF.ev 0 85 (by kernel_rfl)).trans q0
      have ev87 : fa.tmps[87]?.getD undef = .int .i64 t := (hF.ev 2 87 (by kernel_rfl)).trans q2
      refine wpOp_call rfl (wanted_none rfl) (by go_simp; exact ⟨rfl, rfl⟩) ?_
      rw [hG, hN] at hJ
      obtain ⟨j1, j2, j3, j4, j5⟩ := hJ
      have a7 : fy 7 = none := by cases h : fy 7 with | none => rfl | some u => rw [h] at j1; exact absurd (j1 rfl) (by simp)
      refine (HCC.out _ (j3 rfl)).mono ?_
      rintro e w' ⟨rfl, T1, hp, hst⟩
      refine ⟨_, rfl, fK (.int .i64 r) w' (by rw [hS_]; exact hst.1) (by rw [hT]; exact rfl) ?_⟩
      show G (some _) (fy 7) w'
      rw [hG, a7]
      have hsz := j2.size
      exact ⟨(fun h => by cases h), j2.trans hst.1, (fun e => by cases e), fun _ _ => ⟨T1, hp, fun k hk => (hst.2 k hk).imp id (fun h => by omega)⟩, (fun h => by cases h)⟩
    refine stepsAll_cons (k := 4) ?_ ?_
    · intro fa fx fW fy hF hN hJ hE K fK
      have hJ : G (fy 3) (fy 7) fW := hJ
      have ev1 : fa.tmps[1]?.getD undef = .pointer (some ⟨mb, 0, none⟩) := hF.eo 1 (by kernel_rfl)
      refine wpOp_val rfl (wanted_none rfl) ?_ (fK (.pointer (some ⟨mb, 0, none⟩)) fW (hR_ fW) (by rw [hT]; exact rfl) (hP_ 4 _ fy fW rfl hJ))
      clear fK hE hF hJ hN
      go_simp
    refine stepsAll_cons (k := 5) ?_ ?_
    · intro fa fx fW fy hF hN hJ hE K fK
      have hJ : G (fy 3) (fy 7) fW := hJ
      have ev5 : fa.tmps[5]?.getD undef = .pointer (some ⟨N, 0, none⟩) := hF.eo 5 (by kernel_rfl)
      refine wpOp_val rfl (wanted_none rfl) ?_ (fK (.pointer (some ⟨N, 2, none⟩)) fW (hR_ fW) (by rw [hT]; exact rfl) (hP_ 5 _ fy fW rfl hJ))
      clear fK hE hF hJ hN
      go_simp
    refine stepsAll_cons (k := 6) ?_ ?_
    · intro fa fx fW fy hF hN hJ hE K fK
      have hJ : G (fy 3) (fy 7) fW := hJ
      have q5 : fx 5 = .pointer (some ⟨N, 2, none⟩) := by have q := (hE ⟨5, .data⟩ (by simp) rfl).2; rw [hT] at q; exact q
      have ev90 : fa.tmps[90]?.getD undef = .pointer (some ⟨N, 2, none⟩) := (hF.ev 5 90 (by kernel_rfl)).trans q5
      have hJ1 := hJ
      rw [hG] at hJ1
      have zz := hJ1.2.1.cell hc2 hTN
      clear hJ1
      refine wpOp_val rfl (wanted_none rfl) ?_ (fK (.int .i64 t) fW (hR_ fW) (by rw [hT]; exact rfl) (hP_ 6 _ fy fW rfl hJ))
      clear fK hE hF hJ hN
      go_simp
    refine stepsAll_cons (k := 7) ?_ ?_
    · intro fa fx fW fy hF hN hJ hE K fK
      have hJ : G (fy 3) (fy 7) fW := hJ
      have q3 : fx 3 = .int .i64 r := by have q := (hE ⟨3, .chain⟩ (by simp) rfl).2; rw [hT] at q; exact q
      have y3 : fy 3 = some (fx 3) := (hE ⟨3, .chain⟩ (by simp) rfl).1
      have q4 : fx 4 = .pointer (some ⟨mb, 0, none⟩) := by have q := (hE ⟨4, .data⟩ (by simp) rfl).2; rw [hT] at q; exact q
      have q6 : fx 6 = .int .i64 t := by have q := (hE ⟨6, .data⟩ (by simp) rfl).2; rw [hT] at q; exact q
      have ev89 : fa.tmps[89]?.getD undef = .pointer (some ⟨mb, 0, none⟩) := (hF.ev 4 89 (by kernel_rfl)).trans q4
      have ev91 : fa.tmps[91]?.getD undef = .int .i64 t := (hF.ev 6 91 (by kernel_rfl)).trans q6
      refine wpOp_call rfl (wanted_none rfl) (by go_simp; exact ⟨rfl, rfl⟩) ?_
      rw [hG, hN, y3] at hJ
      obtain ⟨j1, j2, j3, j4, j5⟩ := hJ
      obtain ⟨T1, hpq, hT1⟩ := j4 rfl rfl
      refine (HRR.out _ _ _ hpq).mono ?_
      rintro e w' ⟨rfl, ids', keys', T2, hp, ⟨hst, hc⟩, hpr⟩
      have hc' : Chg TT fW w' := hc.mono (fun k _ e => by rw [e]; exact HMS.out)
      refine ⟨_, rfl, fK (.int .i64 r) w' (by rw [hS_]; exact hc') (by rw [hT]; exact rfl) ?_⟩
      show G (fy 3) (some _) w'
      rw [hG, y3]
      have hsz := j2.size
      exact ⟨(fun _ => rfl), j2.trans hc', (fun e => by cases e), (fun _ e => by cases e), fun _ => ⟨ids', keys', T2, hp, hpr, fun k hk => by
        rcases hst.2 k hk with h5 | h5
        · exact hT1 k h5
        · exact .inr (by omega)⟩⟩
    refine stepsAll_cons (k := 8) ?_ ?_
    · intro fa fx fW fy hF hN hJ hE K fK
      have hJ : G (fy 3) (fy 7) fW := hJ
      have q3 : fx 3 = .int .i64 r := by have q := (hE ⟨3, .data⟩ (by simp) rfl).2; rw [hT] at q; exact q
      have y3 : fy 3 = some (fx 3) := (hE ⟨3, .data⟩ (by simp) rfl).1
      have q7 : fx 7 = .int .i64 r := by have q := (hE ⟨7, .data⟩ (by simp) rfl).2; rw [hT] at q; exact q
      have y7 : fy 7 = some (fx 7) := (hE ⟨7, .data⟩ (by simp) rfl).1
      have ev88 : fa.tmps[88]?.getD undef = .int .i64 r := (hF.ev 3 88 (by kernel_rfl)).trans q3
      have ev92 : fa.tmps[92]?.getD undef = .int .i64 r := (hF.ev 7 92 (by kernel_rfl)).trans q7
      refine wpOp_val rfl (wanted_none rfl) ?_ (fK (.bool true) fW (hR_ fW) (by rw [hT]; exact rfl) (hP_ 8 _ fy fW rfl hJ))
      clear fK hE hF hJ hN
      go_simp
    refine stepsAll_cons (k := 9) ?_ ?_
    · intro fa fx fW fy hF hN hJ hE K fK
      have hJ : G (fy 3) (fy 7) fW := hJ
      have q8 : fx 8 = .bool true := by have q := (hE ⟨8, .data⟩ (by simp) rfl).2; rw [hT] at q; exact q
      have ev93 : fa.tmps[93]?.getD undef = .bool true := (hF.ev 8 93 (by kernel_rfl)).trans q8
      refine wpOp_val rfl (wanted_none rfl) ?_ (fK (.bool true) fW (hR_ fW) (by rw [hT]; exact rfl) (hP_ 9 _ fy fW rfl hJ))
      clear fK hE hF hJ hN
      go_simp
    exact stepsAll_nil
  intro fa fx fW fy hF hJ0 hx
  have y3 : fy 3 = some (fx 3) := (hx 3 (by decide)).1
  have y7 : fy 7 = some (fx 7) := (hx 7 (by decide)).1
  have hJ : G (fy 3) (fy 7) fW := hJ0
  clear hJ0
  rw [y3, y7] at hJ
  have q9 : fx 9 = .bool true := by have q := (hx 9 (by decide)).2; rw [hT] at q; exact q
  have ev6 : fa.tmps[6]?.getD undef = .bool true := (hF.ev 9 6 (by kernel_rfl)).trans q9
  rw [hF.eq]
  clear hF hx hT T hP_ hR_ y3 y7
  simp only [putAll, Act.put, List.setIfInBounds_toArray, List.set_cons_zero, List.set_cons_succ, q9]
  rw [hG] at hJ
  obtain ⟨_, j2, _, _, j5⟩ := hJ
  obtain ⟨ids', keys', T1, hp, hpr, hT1⟩ := j5 rfl
  have HE := Lib.hid hp
  have HE2 := Lib.hid j2
  have HE3 := Lib.hid hT1
  have HE4 := Lib.hid hpr
  clear hp j2 hT1 j5 hpr
  go_wp2
  go_ret
  exact ⟨rfl, h', ids', keys', T1, HE.out, HE4.out, HK2.out, stp_below HAL.out ⟨HE2.out, HE3.out⟩⟩
set_option maxRecDepth 100000 in
set_option maxHeartbeats 8000000 in
theorem actR3 (P : Ph w0 w b mb n h ids keys TT) (Q : PR h ids keys) (hk : KR h) (h0 : 0 < n) (hn : n ≤ 4096) (z t : Int) :
    Calls Try.prog 20 #[.pointer (some ⟨b, 0, none⟩), .pointer (some ⟨mb, 0, none⟩), ac06 3 z t] w (AR w0 w b mb n TT) := by
  have s := P.sd
  have HK2 := Lib.hid (popS_kr P.sd hk)
  have HCC := Lib.hid (fun W (P2 : Ph w0 W b mb n h ids keys TT) => cpop P2 hn h0)
  have HRR := Lib.hid (fun W T1 h2 (P2 : Ph w0 W b mb n h2 ids keys T1) => dpop P2 Q s hn)
  generalize popS h = sr at HK2 HCC HRR
  obtain ⟨⟨x1, x2, x3⟩, h'⟩ := sr
  simp only at HCC HRR HK2
  have hal : Below w.heap.size w (w.alloc (.cells #[.int .i64 3, .int .i64 z, .int .i64 t] (44 : Nat))) := below_al (Below.refl _ _) _
  have HAL := Lib.hid hal
  have HP := Lib.hid (P.below hal)
  unfold ac06
  clear hal hk hn P Q s h0
  go_enter Try.func20, Try.ntmps20
  go_wp2_with (first
    | (go_at_call 11; (with_reducible refine (HCC.out _ HP.out).mono ?_); rintro e w1 ⟨rfl, T1, hp1, hs1⟩; have HP1 := Lib.hid hp1; have HS1 := Lib.hid hs1; clear hp1 hs1)
    | (go_at_call 38; (with_reducible refine (HRR.out _ _ _ HP1.out).mono ?_); rintro e w2 ⟨rfl, ids', keys', T2, hp2, hs2, hpr⟩; have HP2 := Lib.hid hp2; have HS2 := Lib.hid hs2.1; have HPR := Lib.hid hpr; clear hp2 hs2 hpr))
  go_ret
  exact ⟨rfl, h', ids', keys', T2, HP2.out, HPR.out, HK2.out, stp_below HAL.out (HS1.out.trans HS2.out)⟩
set_option maxRecDepth 100000 in
set_option maxHeartbeats 8000000 in
theorem actRno (P : Ph w0 w b mb n h ids keys TT) (Q : PR h ids keys) (hk : KR h) (kd z t : Int) (hd : ∀ i : Nat, i ≤ 4 → kd ≠ (i : Int)) :
    Calls Try.prog 20 #[.pointer (some ⟨b, 0, none⟩), .pointer (some ⟨mb, 0, none⟩), ac06 kd z t] w (AR w0 w b mb n TT) := by
  have hal : Below w.heap.size w (w.alloc (.cells #[.int .i64 kd, .int .i64 z, .int .i64 t] (44 : Nat))) := below_al (Below.refl _ _) _
  have HAL := Lib.hid hal
  have HP := Lib.hid (P.below hal)
  have HQ := Lib.hid Q
  have HKR := Lib.hid hk
  have e0 : (kd == 0) = false := by simpa using hd 0 (by omega)
  have e1 : (kd == 1) = false := by simpa using hd 1 (by omega)
  have e2 : (kd == 2) = false := by simpa using hd 2 (by omega)
  have e3 : (kd == 3) = false := by simpa using hd 3 (by omega)
  have e4 : (kd == 4) = false := by simpa using hd 4 (by omega)
  unfold ac06
  clear hal P hd Q hk
  go_enter Try.func20, Try.ntmps20
  go_wp2
  go_ret
  exact ⟨rfl, h, ids, keys, TT, HP.out, HQ.out, HKR.out, stp_below HAL.out (Stp.refl _ _)⟩
theorem actR (P : Ph w0 w b mb n h ids keys TT) (Q : PR h ids keys) (hk : KR h) (h0 : 0 < n) (hn : n ≤ 4096) (kd z t : Int) (ht : I64 t) :
    Calls Try.prog 20 #[.pointer (some ⟨b, 0, none⟩), .pointer (some ⟨mb, 0, none⟩), ac06 kd z t] w (AR w0 w b mb n TT) := by
  by_cases e : ∃ i : Nat, i ≤ 4 ∧ kd = (i : Int)
  · obtain ⟨i, hi, rfl⟩ := e
    have : i = 0 ∨ i = 1 ∨ i = 2 ∨ i = 3 ∨ i = 4 := by omega
    rcases this with rfl | rfl | rfl | rfl | rfl
    · exact actR0 P Q hk h0 hn z t ht
    · exact actR1 P Q hk h0 hn z t ht
    · exact actR2 P Q hk h0 hn z t ht
    · exact actR3 P Q hk h0 hn z t
    · exact actR4 P Q hk h0 hn z t ht
  · exact actRno P Q hk kd z t (fun i hi he => e ⟨i, hi, he⟩)
end Go.Proofs.Ytopikpjagjnbhaa
