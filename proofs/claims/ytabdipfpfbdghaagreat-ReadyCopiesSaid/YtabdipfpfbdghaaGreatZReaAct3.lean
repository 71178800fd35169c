/- act: what is done on both queues, and told alike. -/
import Derived.Test.YtabdipfpfbdghaaGreatZRefQ4
import Derived.Test.YtabdipfpfbdghaaGreatZRegion
namespace Go.Proofs.YtabdipfpfbdghaaGreat
open Go.RowKit
variable {base b g c hb mb mg cm n k : Nat} {w : World} {q : QV} {TT : Nat → Prop}
def ac18 (kd z t : Int) : Value := .agg #[.int .i64 kd, .int .i64 z, .int .i64 t]
/-- What act leaves. -/
def AQ (w : World) (base b g c hb mb mg cm n k : Nat) (TT : Nat → Prop) (e : Ending) (w' : World) : Prop := e = .returned (.bool true) ∧ ∃ q' T', Pz base w' b g c hb mb mg cm n q' q'.now q'.rows T' ∧ Stq w w' TT T' ∧ QJ n q' (k + 1)
/-- What the queue's act leaves. -/
def CQ (w : World) (base b g c hb mb mg cm n : Nat) (now : Int) (rows : List RowQ) (TT : Nat → Prop) (s : Int × QV) (e : Ending) (w' : World) : Prop := e = .returned (.int .i64 s.1) ∧ ∃ T', Pz base w' b g c hb mb mg cm n s.2 now rows T' ∧ Stq w w' TT T'
/-- What the document's act leaves. -/
def DQ (w : World) (base b g c hb mb mg cm n : Nat) (q2 : QV) (TT : Nat → Prop) (s : Int × QV) (e : Ending) (w' : World) : Prop := e = .returned (.int .i64 s.1) ∧ Pz base w' b g c hb mb mg cm n q2 s.2.now s.2.rows TT ∧ Chg (Ms mb mg) w w'
theorem dq_of {q2 : QV} {s : Int × QV} {now : Int} {rows : List RowQ} (P : Pz base w b g c hb mb mg cm n q2 now rows TT) {e : Ending} {w' : World} (h : ∃ r, e = .returned (.int .i64 r) ∧ RP w base mb mg n cm s r w') : DQ w base b g c hb mb mg cm n q2 TT s e w' := by
  obtain ⟨r, he, hr, hm, hc⟩ := h
  exact ⟨by rw [he, hr], (P.ref hc.out hm.out).1, hc.out⟩
theorem Pz.ms {now : Int} {rows : List RowQ} (P : Pz base w b g c hb mb mg cm n q now rows TT) : ∀ k, Ms mb mg k → TT k := by
  obtain ⟨S, h1, h2, h3, h4⟩ := P.ex
  exact fun k e => (h4 k).2 (.inr e)
set_option maxRecDepth 100000 in
set_option maxHeartbeats 8000000 in
theorem actK0 (P : Pz base w b g c hb mb mg cm n q q.now q.rows TT) (J : QJ n q k) (hk : k ≤ 1000) (hn : n ≤ 4096) (z t : Int) :
    Calls Tryz.prog 9 #[.pointer (some ⟨b, 0, none⟩), .pointer (some ⟨mb, 0, none⟩), ac18 0 z t] w (AQ w base b g c hb mb mg cm n k TT) := by
  have HJ2 := Lib.hid (J.join hk z t)
  have HCC := Lib.hid (fun W (P2 : Pz base W b g c hb mb mg cm n q q.now q.rows TT) => (show Calls Tryz.prog 21 #[.pointer (some ⟨b, 0, none⟩), .int .i64 z, .int .i64 t] W (CQ W base b g c hb mb mg cm n q.now q.rows TT (joinS n q z t)) from (by
    obtain ⟨K, Q, hK⟩ := P2.code
    refine (qjoinK Q J.i hn z t).mono ?_
    rintro e w' ⟨he, hq⟩
    exact ⟨he, hK _ _ hq.out⟩)))
  have HRR := Lib.hid (fun W T1 q2 (P2 : Pz base W b g c hb mb mg cm n q2 q.now q.rows T1) => (show Calls Tryz.prog 25 #[.pointer (some ⟨mb, 0, none⟩), .int .i64 z, .int .i64 t] W (DQ W base b g c hb mb mg cm n q2 T1 (joinS n q z t)) from (by
    refine (rjoin P2.mq z t).mono ?_
    rintro e w' h
    exact dq_of P2 h)))
  generalize joinS n q z t = s at HJ2 HCC HRR
  obtain ⟨r, q'⟩ := s
  unfold CQ at HCC
  unfold DQ at HRR
  simp only at HCC HRR HJ2
  obtain ⟨W0, hW0⟩ : ∃ W0, W0 = w.alloc (.cells #[.int .i64 0, .int .i64 z, .int .i64 t] (29 : Nat)) := ⟨_, rfl⟩
  have hal : Below w.heap.size w W0 := by rw [hW0]; exact below_al (Below.refl _ _) _
  have HAL := Lib.hid hal
  have h0 := Lib.hid (P.below hal)
  have HMS := Lib.hid P.ms
  have hTN' : ¬ TT w.heap.size := fun e => by have := P.lt e; omega
  have hc0 : W0.cell? ⟨w.heap.size, 0, none⟩ = some (.int .i64 0) := by rw [hW0]; go_simp
  have hc1 : W0.cell? ⟨w.heap.size, 1, none⟩ = some (.int .i64 z) := by rw [hW0]; go_simp
  have hc2 : W0.cell? ⟨w.heap.size, 2, none⟩ = some (.int .i64 t) := by rw [hW0]; go_simp
  unfold ac18
  have _ := hk
  have _ := hn
  clear hal J hk hn P
  go_enter Tryz.func9, Tryz.ntmps9
  go_wp2
  rw [← hW0]
  clear hW0
  obtain ⟨N, hN⟩ : ∃ N, N = w.heap.size := ⟨_, rfl⟩
  have HN := Lib.hid hN
  rw [← hN] at hc0 hc1 hc2 hTN' ⊢
  have hTN : ¬ TT N := hTN'
  clear hN hc0 hTN'
  obtain ⟨G, hG⟩ : ∃ G : Option Value → Option Value → World → Prop, ∀ c1 d W, G c1 d W = ((d.isSome = true → c1.isSome = true) ∧ Chg TT W0 W ∧ (c1 = none → Pz base W b g c hb mb mg cm n q q.now q.rows TT) ∧ (c1.isSome = true → d = none → ∃ T1, Pz base W b g c hb mb mg cm n q' q.now q.rows T1 ∧ ∀ k, T1 k → TT k ∨ W0.heap.size ≤ k) ∧ (d.isSome = true → ∃ T1, Pz base W b g c hb mb mg cm n q' q'.now q'.rows T1 ∧ ∀ k, T1 k → TT k ∨ W0.heap.size ≤ k)) := ⟨_, fun _ _ _ => rfl⟩
  obtain ⟨S_, hS_⟩ : ∃ S_ : World → World → Prop, S_ = (Chg TT) := ⟨_, rfl⟩
  have hR_ : ∀ W, S_ W W := by intro W; rw [hS_]; exact Chg.refl _ _
  obtain ⟨T, hT⟩ : ∃ T : Nat → FactS S_, ∀ t_, T t_ = ([FactS.eq (.pointer (some ⟨b, 0, none⟩)), FactS.eq (.pointer (some ⟨N, 1, none⟩)), FactS.eq (.int .i64 z), FactS.eq (.pointer (some ⟨N, 2, none⟩)), FactS.eq (.int .i64 t), FactS.eq (.int .i64 r), FactS.eq (.pointer (some ⟨mb, 0, none⟩)), FactS.eq (.pointer (some ⟨N, 1, none⟩)), FactS.eq (.int .i64 z), FactS.eq (.pointer (some ⟨N, 2, none⟩)), FactS.eq (.int .i64 t), FactS.eq (.int .i64 r), FactS.eq (.bool true), FactS.eq (.bool true)] : List (FactS S_)).getD t_ FactS.any := ⟨_, fun _ => rfl⟩
  have hP_ : ∀ i_ v_ (y_ : Nat → Option Value) W_, ([5, 11].contains i_) = false → G (y_ 5) (y_ 11) W_ → G (updY y_ i_ v_ 5) (updY y_ i_ v_ 11) W_ := by
    intro i_ v_ y_ W_ hi_ h_
    simp only [List.contains_cons, List.contains_nil, Bool.or_false, Bool.or_eq_false_iff, beq_eq_false_iff_ne, ne_eq] at hi_
    obtain ⟨i5_, i11_⟩ := hi_
    rw [updY_ne y_ i_ v_ i5_, updY_ne y_ i_ v_ i11_]
    exact h_
  refine region_tabJ [(0, 15), (1, 16), (2, 17), (3, 18), (4, 19), (5, 20), (6, 21), (7, 22), (8, 23), (9, 24), (10, 25), (11, 26), (12, 27), (13, 6)] S_ T (fun y_ W_ => G (y_ 5) (y_ 11) W_) (by kernel_rfl) (by kernel_rfl) (by kernel_rfl) (by kernel_rfl) (by kernel_rfl) ?_ ?_ ?_
  · skip
    show G none none _
    rw [hG]
    exact ⟨(fun h => by cases h), (Chg.refl _ _).drewN 1, fun _ => h0.out.below (below_dr (Below.refl _ _) 1), (fun h => by cases h), (fun h => by cases h)⟩
  · skip
    refine stepsAll_cons (k := 0) ?_ ?_
    · intro fa fx fW fy hF hN hJ hE K fK
      have hJ : G (fy 5) (fy 11) fW := hJ
      have ev0 : fa.tmps[0]?.getD undef = .pointer (some ⟨b, 0, none⟩) := hF.eo 0 (by kernel_rfl)
      refine wpOp_val rfl (wanted_none rfl) ?_ (fK (.pointer (some ⟨b, 0, none⟩)) fW (hR_ fW) (by rw [hT]; exact rfl) (hP_ 0 _ fy fW rfl hJ))
      clear fK hE hF hJ hN
      go_simp
    refine stepsAll_cons (k := 1) ?_ ?_
    · intro fa fx fW fy hF hN hJ hE K fK
      have hJ : G (fy 5) (fy 11) fW := hJ
      have ev5 : fa.tmps[5]?.getD undef = .pointer (some ⟨N, 0, none⟩) := hF.eo 5 (by kernel_rfl)
      refine wpOp_val rfl (wanted_none rfl) ?_ (fK (.pointer (some ⟨N, 1, none⟩)) fW (hR_ fW) (by rw [hT]; exact rfl) (hP_ 1 _ fy fW rfl hJ))
      clear fK hE hF hJ hN
      go_simp
    refine stepsAll_cons (k := 2) ?_ ?_
    · intro fa fx fW fy hF hN hJ hE K fK
      have hJ : G (fy 5) (fy 11) fW := hJ
      have q1 : fx 1 = .pointer (some ⟨N, 1, none⟩) := by have q := (hE ⟨1, .data⟩ (by simp) rfl).2; rw [hT] at q; exact q
      have ev16 : fa.tmps[16]?.getD undef = .pointer (some ⟨N, 1, none⟩) := (hF.ev 1 16 (by kernel_rfl)).trans q1
      have hJ1 := hJ
      rw [hG] at hJ1
      have zz := hJ1.2.1.cell hc1 hTN
      clear hJ1
      refine wpOp_val rfl (wanted_none rfl) ?_ (fK (.int .i64 z) fW (hR_ fW) (by rw [hT]; exact rfl) (hP_ 2 _ fy fW rfl hJ))
      clear fK hE hF hJ hN
      go_simp
    refine stepsAll_cons (k := 3) ?_ ?_
    · intro fa fx fW fy hF hN hJ hE K fK
      have hJ : G (fy 5) (fy 11) fW := hJ
      have ev5 : fa.tmps[5]?.getD undef = .pointer (some ⟨N, 0, none⟩) := hF.eo 5 (by kernel_rfl)
      refine wpOp_val rfl (wanted_none rfl) ?_ (fK (.pointer (some ⟨N, 2, none⟩)) fW (hR_ fW) (by rw [hT]; exact rfl) (hP_ 3 _ fy fW rfl hJ))
      clear fK hE hF hJ hN
      go_simp
    refine stepsAll_cons (k := 4) ?_ ?_
    · intro fa fx fW fy hF hN hJ hE K fK
      have hJ : G (fy 5) (fy 11) fW := hJ
      have q3 : fx 3 = .pointer (some ⟨N, 2, none⟩) := by have q := (hE ⟨3, .data⟩ (by simp) rfl).2; rw [hT] at q; exact q
      have ev18 : fa.tmps[18]?.getD undef = .pointer (some ⟨N, 2, none⟩) := (hF.ev 3 18 (by kernel_rfl)).trans q3
      have hJ1 := hJ
      rw [hG] at hJ1
      have zz := hJ1.2.1.cell hc2 hTN
      clear hJ1
      refine wpOp_val rfl (wanted_none rfl) ?_ (fK (.int .i64 t) fW (hR_ fW) (by rw [hT]; exact rfl) (hP_ 4 _ fy fW rfl hJ))
      clear fK hE hF hJ hN
      go_simp
    refine stepsAll_cons (k := 5) ?_ ?_
    · intro fa fx fW fy hF hN hJ hE K fK
      have hJ : G (fy 5) (fy 11) fW := hJ
      have q0 : fx 0 = .pointer (some ⟨b, 0, none⟩) := by have q := (hE ⟨0, .data⟩ (by simp) rfl).2; rw [hT] at q; exact q
      have q2 : fx 2 = .int .i64 z := by have q := (hE ⟨2, .data⟩ (by simp) rfl).2; rw [hT] at q; exact q
      have q4 : fx 4 = .int .i64 t := by have q := (hE ⟨4, .data⟩ (by simp) rfl).2; rw [hT] at q; exact q
      have ev15 : fa.tmps[15]?.getD undef = .pointer (some ⟨b, 0, none⟩) := (hF.ev 0 15 (by kernel_rfl)).trans q0
      have ev17 : fa.tmps[17]?.getD undef = .int .i64 z := (hF.ev 2 17 (by kernel_rfl)).trans q2
      have ev19 : fa.tmps[19]?.getD undef = .int .i64 t := (hF.ev 4 19 (by kernel_rfl)).trans q4
      refine wpOp_call rfl (wanted_none rfl) (by go_simp; exact ⟨rfl, rfl⟩) ?_
      rw [hG, hN] at hJ
      obtain ⟨j1, j2, j3, j4, j5⟩ := hJ
      have a7 : fy 11 = none := by cases h : fy 11 with | none => rfl | some u => rw [h] at j1; exact absurd (j1 rfl) (by simp)
      refine (HCC.out _ (j3 rfl)).mono ?_
      rintro e w' ⟨rfl, T1, hp, hst⟩
      refine ⟨_, rfl, fK (.int .i64 r) w' (by rw [hS_]; exact hst.1) (by rw [hT]; exact rfl) ?_⟩
      show G (some _) (fy 11) w'
      rw [hG, a7]
      have hsz := j2.size
      exact ⟨(fun h => by cases h), j2.trans hst.1, (fun e => by cases e), fun _ _ => ⟨T1, hp, fun k hk => (hst.2 k hk).imp id (fun h => by omega)⟩, (fun h => by cases h)⟩
    refine stepsAll_cons (k := 6) ?_ ?_
    · intro fa fx fW fy hF hN hJ hE K fK
      have hJ : G (fy 5) (fy 11) fW := hJ
      have ev1 : fa.tmps[1]?.getD undef = .pointer (some ⟨mb, 0, none⟩) := hF.eo 1 (by kernel_rfl)
      refine wpOp_val rfl (wanted_none rfl) ?_ (fK (.pointer (some ⟨mb, 0, none⟩)) fW (hR_ fW) (by rw [hT]; exact rfl) (hP_ 6 _ fy fW rfl hJ))
      clear fK hE hF hJ hN
      go_simp
    refine stepsAll_cons (k := 7) ?_ ?_
    · intro fa fx fW fy hF hN hJ hE K fK
      have hJ : G (fy 5) (fy 11) fW := hJ
      have ev5 : fa.tmps[5]?.getD undef = .pointer (some ⟨N, 0, none⟩) := hF.eo 5 (by kernel_rfl)
      refine wpOp_val rfl (wanted_none rfl) ?_ (fK (.pointer (some ⟨N, 1, none⟩)) fW (hR_ fW) (by rw [hT]; exact rfl) (hP_ 7 _ fy fW rfl hJ))
      clear fK hE hF hJ hN
      go_simp
    refine stepsAll_cons (k := 8) ?_ ?_
    · intro fa fx fW fy hF hN hJ hE K fK
      have hJ : G (fy 5) (fy 11) fW := hJ
      have q7 : fx 7 = .pointer (some ⟨N, 1, none⟩) := by have q := (hE ⟨7, .data⟩ (by simp) rfl).2; rw [hT] at q; exact q
      have ev22 : fa.tmps[22]?.getD undef = .pointer (some ⟨N, 1, none⟩) := (hF.ev 7 22 (by kernel_rfl)).trans q7
      have hJ1 := hJ
      rw [hG] at hJ1
      have zz := hJ1.2.1.cell hc1 hTN
      clear hJ1
      refine wpOp_val rfl (wanted_none rfl) ?_ (fK (.int .i64 z) fW (hR_ fW) (by rw [hT]; exact rfl) (hP_ 8 _ fy fW rfl hJ))
      clear fK hE hF hJ hN
      go_simp
    refine stepsAll_cons (k := 9) ?_ ?_
    · intro fa fx fW fy hF hN hJ hE K fK
      have hJ : G (fy 5) (fy 11) fW := hJ
      have ev5 : fa.tmps[5]?.getD undef = .pointer (some ⟨N, 0, none⟩) := hF.eo 5 (by kernel_rfl)
      refine wpOp_val rfl (wanted_none rfl) ?_ (fK (.pointer (some ⟨N, 2, none⟩)) fW (hR_ fW) (by rw [hT]; exact rfl) (hP_ 9 _ fy fW rfl hJ))
      clear fK hE hF hJ hN
      go_simp
    refine stepsAll_cons (k := 10) ?_ ?_
    · intro fa fx fW fy hF hN hJ hE K fK
      have hJ : G (fy 5) (fy 11) fW := hJ
      have q9 : fx 9 = .pointer (some ⟨N, 2, none⟩) := by have q := (hE ⟨9, .data⟩ (by simp) rfl).2; rw [hT] at q; exact q
      have ev24 : fa.tmps[24]?.getD undef = .pointer (some ⟨N, 2, none⟩) := (hF.ev 9 24 (by kernel_rfl)).trans q9
      have hJ1 := hJ
      rw [hG] at hJ1
      have zz := hJ1.2.1.cell hc2 hTN
      clear hJ1
      refine wpOp_val rfl (wanted_none rfl) ?_ (fK (.int .i64 t) fW (hR_ fW) (by rw [hT]; exact rfl) (hP_ 10 _ fy fW rfl hJ))
      clear fK hE hF hJ hN
      go_simp
    refine stepsAll_cons (k := 11) ?_ ?_
    · intro fa fx fW fy hF hN hJ hE K fK
      have hJ : G (fy 5) (fy 11) fW := hJ
      have q5 : fx 5 = .int .i64 r := by have q := (hE ⟨5, .chain⟩ (by simp) rfl).2; rw [hT] at q; exact q
      have y5 : fy 5 = some (fx 5) := (hE ⟨5, .chain⟩ (by simp) rfl).1
      have q6 : fx 6 = .pointer (some ⟨mb, 0, none⟩) := by have q := (hE ⟨6, .data⟩ (by simp) rfl).2; rw [hT] at q; exact q
      have q8 : fx 8 = .int .i64 z := by have q := (hE ⟨8, .data⟩ (by simp) rfl).2; rw [hT] at q; exact q
      have q10 : fx 10 = .int .i64 t := by have q := (hE ⟨10, .data⟩ (by simp) rfl).2; rw [hT] at q; exact q
      have ev21 : fa.tmps[21]?.getD undef = .pointer (some ⟨mb, 0, none⟩) := (hF.ev 6 21 (by kernel_rfl)).trans q6
      have ev23 : fa.tmps[23]?.getD undef = .int .i64 z := (hF.ev 8 23 (by kernel_rfl)).trans q8
      have ev25 : fa.tmps[25]?.getD undef = .int .i64 t := (hF.ev 10 25 (by kernel_rfl)).trans q10
      refine wpOp_call rfl (wanted_none rfl) (by go_simp; exact ⟨rfl, rfl⟩) ?_
      rw [hG, hN, y5] at hJ
      obtain ⟨j1, j2, j3, j4, j5⟩ := hJ
      obtain ⟨T1, hp0, hT1⟩ := j4 rfl rfl
      refine (HRR.out _ _ _ hp0).mono ?_
      rintro e w' ⟨rfl, hp, hc⟩
      have hc' : Chg TT fW w' := hc.mono (fun k _ e => HMS.out k e)
      refine ⟨_, rfl, fK (.int .i64 r) w' (by rw [hS_]; exact hc') (by rw [hT]; exact rfl) ?_⟩
      show G (fy 5) (some _) w'
      rw [hG, y5]
      exact ⟨(fun _ => rfl), j2.trans hc', (fun e => by cases e), (fun _ e => by cases e), fun _ => ⟨T1, hp, hT1⟩⟩
    refine stepsAll_cons (k := 12) ?_ ?_
    · intro fa fx fW fy hF hN hJ hE K fK
      have hJ : G (fy 5) (fy 11) fW := hJ
      have q5 : fx 5 = .int .i64 r := by have q := (hE ⟨5, .data⟩ (by simp) rfl).2; rw [hT] at q; exact q
      have y5 : fy 5 = some (fx 5) := (hE ⟨5, .data⟩ (by simp) rfl).1
      have q11 : fx 11 = .int .i64 r := by have q := (hE ⟨11, .data⟩ (by simp) rfl).2; rw [hT] at q; exact q
      have y11 : fy 11 = some (fx 11) := (hE ⟨11, .data⟩ (by simp) rfl).1
      have ev20 : fa.tmps[20]?.getD undef = .int .i64 r := (hF.ev 5 20 (by kernel_rfl)).trans q5
      have ev26 : fa.tmps[26]?.getD undef = .int .i64 r := (hF.ev 11 26 (by kernel_rfl)).trans q11
      refine wpOp_val rfl (wanted_none rfl) ?_ (fK (.bool true) fW (hR_ fW) (by rw [hT]; exact rfl) (hP_ 12 _ fy fW rfl hJ))
      clear fK hE hF hJ hN
      go_simp
    refine stepsAll_cons (k := 13) ?_ ?_
    · intro fa fx fW fy hF hN hJ hE K fK
      have hJ : G (fy 5) (fy 11) fW := hJ
      have q12 : fx 12 = .bool true := by have q := (hE ⟨12, .data⟩ (by simp) rfl).2; rw [hT] at q; exact q
      have ev27 : fa.tmps[27]?.getD undef = .bool true := (hF.ev 12 27 (by kernel_rfl)).trans q12
      refine wpOp_val rfl (wanted_none rfl) ?_ (fK (.bool true) fW (hR_ fW) (by rw [hT]; exact rfl) (hP_ 13 _ fy fW rfl hJ))
      clear fK hE hF hJ hN
      go_simp
    exact stepsAll_nil
  intro fa fx fW fy hF hJ0 hx
  have y5 : fy 5 = some (fx 5) := (hx 5 (by decide)).1
  have y11 : fy 11 = some (fx 11) := (hx 11 (by decide)).1
  have hJ : G (fy 5) (fy 11) fW := hJ0
  clear hJ0
  rw [y5, y11] at hJ
  have q13 : fx 13 = .bool true := by have q := (hx 13 (by decide)).2; rw [hT] at q; exact q
  have ev6 : fa.tmps[6]?.getD undef = .bool true := (hF.ev 13 6 (by kernel_rfl)).trans q13
  rw [hF.eq]
  clear hF hx hT T hP_ hR_ y5 y11
  simp only [putAll, Act.put, List.setIfInBounds_toArray, List.set_cons_zero, List.set_cons_succ, q13]
  rw [hG] at hJ
  obtain ⟨_, j2, _, _, j5⟩ := hJ
  obtain ⟨T1, hp, hT1⟩ := j5 rfl
  have HE := Lib.hid hp
  have HE2 := Lib.hid j2
  have HE3 := Lib.hid hT1
  clear hp j2 hT1 j5
  go_wp2
  go_ret
  refine ⟨rfl, q', T1, HE.out, ⟨(Chg.of_below HAL.out).trans HE2.out, fun k hk => (HE3.out k hk).imp id (fun h => ?_)⟩, HJ2.out⟩
  have := HAL.out.size
  omega
set_option maxRecDepth 100000 in
set_option maxHeartbeats 8000000 in
theorem actK2 (P : Pz base w b g c hb mb mg cm n q q.now q.rows TT) (J : QJ n q k) (hk : k ≤ 1000) (hn : n ≤ 4096) (z t : Int) :
    Calls Tryz.prog 9 #[.pointer (some ⟨b, 0, none⟩), .pointer (some ⟨mb, 0, none⟩), ac18 2 z t] w (AQ w base b g c hb mb mg cm n k TT) := by
  have HJ2 := Lib.hid (J.take z)
  have HCC := Lib.hid (fun W (P2 : Pz base W b g c hb mb mg cm n q q.now q.rows TT) => (show Calls Tryz.prog 27 #[.pointer (some ⟨b, 0, none⟩), .int .i64 z] W (CQ W base b g c hb mb mg cm n q.now q.rows TT (takeS n q z)) from (by
    obtain ⟨K, Q, hK⟩ := P2.code
    refine (qtakeK Q J.i hn z).mono ?_
    rintro e w' ⟨he, hq⟩
    exact ⟨he, hK _ _ hq.out⟩)))
  have HRR := Lib.hid (fun W T1 q2 (P2 : Pz base W b g c hb mb mg cm n q2 q.now q.rows T1) => (show Calls Tryz.prog 28 #[.pointer (some ⟨mb, 0, none⟩), .int .i64 z] W (DQ W base b g c hb mb mg cm n q2 T1 (takeS n q z)) from (by
    refine (rtake P2.mq z).mono ?_
    rintro e w' h
    exact dq_of P2 h)))
  generalize takeS n q z = s at HJ2 HCC HRR
  obtain ⟨r, q'⟩ := s
  unfold CQ at HCC
  unfold DQ at HRR
  simp only at HCC HRR HJ2
  obtain ⟨W0, hW0⟩ : ∃ W0, W0 = w.alloc (.cells #[.int .i64 2, .int .i64 z, .int .i64 t] (29 : Nat)) := ⟨_, rfl⟩
  have hal : Below w.heap.size w W0 := by rw [hW0]; exact below_al (Below.refl _ _) _
  have HAL := Lib.hid hal
  have h0 := Lib.hid (P.below hal)
  have HMS := Lib.hid P.ms
  have hTN' : ¬ TT w.heap.size := fun e => by have := P.lt e; omega
  have hc0 : W0.cell? ⟨w.heap.size, 0, none⟩ = some (.int .i64 2) := by rw [hW0]; go_simp
  have hc1 : W0.cell? ⟨w.heap.size, 1, none⟩ = some (.int .i64 z) := by rw [hW0]; go_simp
  have hc2 : W0.cell? ⟨w.heap.size, 2, none⟩ = some (.int .i64 t) := by rw [hW0]; go_simp
  unfold ac18
  have _ := hk
  have _ := hn
  clear hal J hk hn P
  go_enter Tryz.func9, Tryz.ntmps9
  go_wp2
  rw [← hW0]
  clear hW0
  obtain ⟨N, hN⟩ : ∃ N, N = w.heap.size := ⟨_, rfl⟩
  have HN := Lib.hid hN
  rw [← hN] at hc0 hc1 hc2 hTN' ⊢
  have hTN : ¬ TT N := hTN'
  clear hN hc0 hTN'
  obtain ⟨G, hG⟩ : ∃ G : Option Value → Option Value → World → Prop, ∀ c1 d W, G c1 d W = ((d.isSome = true → c1.isSome = true) ∧ Chg TT W0 W ∧ (c1 = none → Pz base W b g c hb mb mg cm n q q.now q.rows TT) ∧ (c1.isSome = true → d = none → ∃ T1, Pz base W b g c hb mb mg cm n q' q.now q.rows T1 ∧ ∀ k, T1 k → TT k ∨ W0.heap.size ≤ k) ∧ (d.isSome = true → ∃ T1, Pz base W b g c hb mb mg cm n q' q'.now q'.rows T1 ∧ ∀ k, T1 k → TT k ∨ W0.heap.size ≤ k)) := ⟨_, fun _ _ _ => rfl⟩
  obtain ⟨S_, hS_⟩ : ∃ S_ : World → World → Prop, S_ = (Chg TT) := ⟨_, rfl⟩
  have hR_ : ∀ W, S_ W W := by intro W; rw [hS_]; exact Chg.refl _ _
  obtain ⟨T, hT⟩ : ∃ T : Nat → FactS S_, ∀ t_, T t_ = ([FactS.eq (.pointer (some ⟨b, 0, none⟩)), FactS.eq (.pointer (some ⟨N, 1, none⟩)), FactS.eq (.int .i64 z), FactS.eq (.int .i64 r), FactS.eq (.pointer (some ⟨mb, 0, none⟩)), FactS.eq (.pointer (some ⟨N, 1, none⟩)), FactS.eq (.int .i64 z), FactS.eq (.int .i64 r), FactS.eq (.bool true), FactS.eq (.bool true)] : List (FactS S_)).getD t_ FactS.any := ⟨_, fun _ => rfl⟩
  have hP_ : ∀ i_ v_ (y_ : Nat → Option Value) W_, ([3, 7].contains i_) = false → G (y_ 3) (y_ 7) W_ → G (updY y_ i_ v_ 3) (updY y_ i_ v_ 7) W_ := by
    intro i_ v_ y_ W_ hi_ h_
    simp only [List.contains_cons, List.contains_nil, Bool.or_false, Bool.or_eq_false_iff, beq_eq_false_iff_ne, ne_eq] at hi_
    obtain ⟨i3_, i7_⟩ := hi_
    rw [updY_ne y_ i_ v_ i3_, updY_ne y_ i_ v_ i7_]
    exact h_
  refine region_tabJ [(0, 50), (1, 51), (2, 52), (3, 53), (4, 54), (5, 55), (6, 56), (7, 57), (8, 58), (9, 6)] S_ T (fun y_ W_ => G (y_ 3) (y_ 7) W_) (by kernel_rfl) (by kernel_rfl) (by kernel_rfl) (by kernel_rfl) (by kernel_rfl) ?_ ?_ ?_
  · skip
    show G none none _
    rw [hG]
    exact ⟨(fun h => by cases h), (Chg.refl _ _).drewN 1, fun _ => h0.out.below (below_dr (Below.refl _ _) 1), (fun h => by cases h), (fun h => by cases h)⟩
  · skip
    refine stepsAll_cons (k := 0) ?_ ?_
    · intro fa fx fW fy hF hN hJ hE K fK
      have hJ : G (fy 3) (fy 7) fW := hJ
      have ev0 : fa.tmps[0]?.getD undef = .pointer (some ⟨b, 0, none⟩) := hF.eo 0 (by kernel_rfl)
      refine wpOp_val rfl (wanted_none rfl) ?_ (fK (.pointer (some ⟨b, 0, none⟩)) fW (hR_ fW) (by rw [hT]; exact rfl) (hP_ 0 _ fy fW rfl hJ))
      clear fK hE hF hJ hN
      go_simp
    refine stepsAll_cons (k := 1) ?_ ?_
    · intro fa fx fW fy hF hN hJ hE K fK
      have hJ : G (fy 3) (fy 7) fW := hJ
      have ev5 : fa.tmps[5]?.getD undef = .pointer (some ⟨N, 0, none⟩) := hF.eo 5 (by kernel_rfl)
      refine wpOp_val rfl (wanted_none rfl) ?_ (fK (.pointer (some ⟨N, 1, none⟩)) fW (hR_ fW) (by rw [hT]; exact rfl) (hP_ 1 _ fy fW rfl hJ))
      clear fK hE hF hJ hN
      go_simp
    refine stepsAll_cons (k := 2) ?_ ?_
    · intro fa fx fW fy hF hN hJ hE K fK
      have hJ : G (fy 3) (fy 7) fW := hJ
      have q1 : fx 1 = .pointer (some ⟨N, 1, none⟩) := by have q := (hE ⟨1, .data⟩ (by simp) rfl).2; rw [hT] at q; exact q
      have ev51 : fa.tmps[51]?.getD undef = .pointer (some ⟨N, 1, none⟩) := (hF.ev 1 51 (by kernel_rfl)).trans q1
      have hJ1 := hJ
      rw [hG] at hJ1
      have zz := hJ1.2.1.cell hc1 hTN
      clear hJ1
      refine wpOp_val rfl (wanted_none rfl) ?_ (fK (.int .i64 z) fW (hR_ fW) (by rw [hT]; exact rfl) (hP_ 2 _ fy fW rfl hJ))
      clear fK hE hF hJ hN
      go_simp
    refine stepsAll_cons (k := 3) ?_ ?_
    · intro fa fx fW fy hF hN hJ hE K fK
      have hJ : G (fy 3) (fy 7) fW := hJ
      have q0 : fx 0 = .pointer (some ⟨b, 0, none⟩) := by have q := (hE ⟨0, .data⟩ (by simp) rfl).2; rw [hT] at q; exact q
      have q2 : fx 2 = .int .i64 z := by have q := (hE ⟨2, .data⟩ (by simp) rfl).2; rw [hT] at q; exact q
      have ev50 : fa.tmps[50]?.getD undef = .pointer (some ⟨b, 0, none⟩) := (hF.ev 0 50 (by kernel_rfl)).trans q0
      have ev52 : fa.tmps[52]?.getD undef = .int .i64 z := (hF.ev 2 52 (by kernel_rfl)).trans q2
      refine wpOp_call rfl (wanted_none rfl) (by go_simp; exact ⟨rfl, rfl⟩) ?_
      rw [hG, hN] at hJ
      obtain ⟨j1, j2, j3, j4, j5⟩ := hJ
      have a7 : fy 7 = none := by cases h : fy 7 with | none => rfl | some u => rw [h] at j1; exact absurd (j1 rfl) (by simp)
      refine (HCC.out _ (j3 rfl)).mono ?_
      rintro e w' ⟨rfl, T1, hp, hst⟩
      refine ⟨_, rfl, fK (.int .i64 r) w' (by rw [hS_]; exact hst.1) (by rw [hT]; exact rfl) ?_⟩
      show G (some _) (fy 7) w'
      rw [hG, a7]
      have hsz := j2.size
      exact ⟨(fun h => by cases h), j2.trans hst.1, (fun e => by cases e), fun _ _ => ⟨T1, hp, fun k hk => (hst.2 k hk).imp id (fun h => by omega)⟩, (fun h => by cases h)⟩
    refine stepsAll_cons (k := 4) ?_ ?_
    · intro fa fx fW fy hF hN hJ hE K fK
      have hJ : G (fy 3) (fy 7) fW := hJ
      have ev1 : fa.tmps[1]?.getD undef = .pointer (some ⟨mb, 0, none⟩) := hF.eo 1 (by kernel_rfl)
      refine wpOp_val rfl (wanted_none rfl) ?_ (fK (.pointer (some ⟨mb, 0, none⟩)) fW (hR_ fW) (by rw [hT]; exact rfl) (hP_ 4 _ fy fW rfl hJ))
      clear fK hE hF hJ hN
      go_simp
    refine stepsAll_cons (k := 5) ?_ ?_
    · intro fa fx fW fy hF hN hJ hE K fK
      have hJ : G (fy 3) (fy 7) fW := hJ
      have ev5 : fa.tmps[5]?.getD undef = .pointer (some ⟨N, 0, none⟩) := hF.eo 5 (by kernel_rfl)
      refine wpOp_val rfl (wanted_none rfl) ?_ (fK (.pointer (some ⟨N, 1, none⟩)) fW (hR_ fW) (by rw [hT]; exact rfl) (hP_ 5 _ fy fW rfl hJ))
      clear fK hE hF hJ hN
      go_simp
    refine stepsAll_cons (k := 6) ?_ ?_
    · intro fa fx fW fy hF hN hJ hE K fK
      have hJ : G (fy 3) (fy 7) fW := hJ
      have q5 : fx 5 = .pointer (some ⟨N, 1, none⟩) := by have q := (hE ⟨5, .data⟩ (by simp) rfl).2; rw [hT] at q; exact q
      have ev55 : fa.tmps[55]?.getD undef = .pointer (some ⟨N, 1, none⟩) := (hF.ev 5 55 (by kernel_rfl)).trans q5
      have hJ1 := hJ
      rw [hG] at hJ1
      have zz := hJ1.2.1.cell hc1 hTN
      clear hJ1
      refine wpOp_val rfl (wanted_none rfl) ?_ (fK (.int .i64 z) fW (hR_ fW) (by rw [hT]; exact rfl) (hP_ 6 _ fy fW rfl hJ))
      clear fK hE hF hJ hN
      go_simp
    refine stepsAll_cons (k := 7) ?_ ?_
    · intro fa fx fW fy hF hN hJ hE K fK
      have hJ : G (fy 3) (fy 7) fW := hJ
      have q3 : fx 3 = .int .i64 r := by have q := (hE ⟨3, .chain⟩ (by simp) rfl).2; rw [hT] at q; exact q
      have y3 : fy 3 = some (fx 3) := (hE ⟨3, .chain⟩ (by simp) rfl).1
      have q4 : fx 4 = .pointer (some ⟨mb, 0, none⟩) := by have q := (hE ⟨4, .data⟩ (by simp) rfl).2; rw [hT] at q; exact q
      have q6 : fx 6 = .int .i64 z := by have q := (hE ⟨6, .data⟩ (by simp) rfl).2; rw [hT] at q; exact q
      have ev54 : fa.tmps[54]?.getD undef = .pointer (some ⟨mb, 0, none⟩) := (hF.ev 4 54 (by kernel_rfl)).trans q4
      have ev56 : fa.tmps[56]?.getD undef = .int .i64 z := (hF.ev 6 56 (by kernel_rfl)).trans q6
      refine wpOp_call rfl (wanted_none rfl) (by go_simp; exact ⟨rfl, rfl⟩) ?_
      rw [hG, hN, y3] at hJ
      obtain ⟨j1, j2, j3, j4, j5⟩ := hJ
      obtain ⟨T1, hp0, hT1⟩ := j4 rfl rfl
      refine (HRR.out _ _ _ hp0).mono ?_
      rintro e w' ⟨rfl, hp, hc⟩
      have hc' : Chg TT fW w' := hc.mono (fun k _ e => HMS.out k e)
      refine ⟨_, rfl, fK (.int .i64 r) w' (by rw [hS_]; exact hc') (by rw [hT]; exact rfl) ?_⟩
      show G (fy 3) (some _) w'
      rw [hG, y3]
      exact ⟨(fun _ => rfl), j2.trans hc', (fun e => by cases e), (fun _ e => by cases e), fun _ => ⟨T1, hp, hT1⟩⟩
    refine stepsAll_cons (k := 8) ?_ ?_
    · intro fa fx fW fy hF hN hJ hE K fK
      have hJ : G (fy 3) (fy 7) fW := hJ
      have q3 : fx 3 = .int .i64 r := by have q := (hE ⟨3, .data⟩ (by simp) rfl).2; rw [hT] at q; exact q
      have y3 : fy 3 = some (fx 3) := (hE ⟨3, .data⟩ (by simp) rfl).1
      have q7 : fx 7 = .int .i64 r := by have q := (hE ⟨7, .data⟩ (by simp) rfl).2; rw [hT] at q; exact q
      have y7 : fy 7 = some (fx 7) := (hE ⟨7, .data⟩ (by simp) rfl).1
      have ev53 : fa.tmps[53]?.getD undef = .int .i64 r := (hF.ev 3 53 (by kernel_rfl)).trans q3
      have ev57 : fa.tmps[57]?.getD undef = .int .i64 r := (hF.ev 7 57 (by kernel_rfl)).trans q7
      refine wpOp_val rfl (wanted_none rfl) ?_ (fK (.bool true) fW (hR_ fW) (by rw [hT]; exact rfl) (hP_ 8 _ fy fW rfl hJ))
      clear fK hE hF hJ hN
      go_simp
    refine stepsAll_cons (k := 9) ?_ ?_
    · intro fa fx fW fy hF hN hJ hE K fK
      have hJ : G (fy 3) (fy 7) fW := hJ
      have q8 : fx 8 = .bool true := by have q := (hE ⟨8, .data⟩ (by simp) rfl).2; rw [hT] at q; exact q
      have ev58 : fa.tmps[58]?.getD undef = .bool true := (hF.ev 8 58 (by kernel_rfl)).trans q8
      refine wpOp_val rfl (wanted_none rfl) ?_ (fK (.bool true) fW (hR_ fW) (by rw [hT]; exact rfl) (hP_ 9 _ fy fW rfl hJ))
      clear fK hE hF hJ hN
      go_simp
    exact stepsAll_nil
  intro fa fx fW fy hF hJ0 hx
  have y3 : fy 3 = some (fx 3) := (hx 3 (by decide)).1
  have y7 : fy 7 = some (fx 7) := (hx 7 (by decide)).1
  have hJ : G (fy 3) (fy 7) fW := hJ0
  clear hJ0
  rw [y3, y7] at hJ
  have q9 : fx 9 = .bool true := by have q := (hx 9 (by decide)).2; rw [hT] at q; exact q
  have ev6 : fa.tmps[6]?.getD undef = .bool true := (hF.ev 9 6 (by kernel_rfl)).trans q9
  rw [hF.eq]
  clear hF hx hT T hP_ hR_ y3 y7
  simp only [putAll, Act.put, List.setIfInBounds_toArray, List.set_cons_zero, List.set_cons_succ, q9]
  rw [hG] at hJ
  obtain ⟨_, j2, _, _, j5⟩ := hJ
  obtain ⟨T1, hp, hT1⟩ := j5 rfl
  have HE := Lib.hid hp
  have HE2 := Lib.hid j2
  have HE3 := Lib.hid hT1
  clear hp j2 hT1 j5
  go_wp2
  go_ret
  refine ⟨rfl, q', T1, HE.out, ⟨(Chg.of_below HAL.out).trans HE2.out, fun k hk => (HE3.out k hk).imp id (fun h => ?_)⟩, HJ2.out⟩
  have := HAL.out.size
  omega
set_option maxRecDepth 100000 in
set_option maxHeartbeats 8000000 in
theorem actK3 (P : Pz base w b g c hb mb mg cm n q q.now q.rows TT) (J : QJ n q k) (hk : k ≤ 1000) (hn : n ≤ 4096) (z t : Int) :
    Calls Tryz.prog 9 #[.pointer (some ⟨b, 0, none⟩), .pointer (some ⟨mb, 0, none⟩), ac18 3 z t] w (AQ w base b g c hb mb mg cm n k TT) := by
  have HJ2 := Lib.hid (J.enter hk z 2 (.inl rfl))
  have HCC := Lib.hid (fun W (P2 : Pz base W b g c hb mb mg cm n q q.now q.rows TT) => (show Calls Tryz.prog 23 #[.pointer (some ⟨b, 0, none⟩), .int .i64 z] W (CQ W base b g c hb mb mg cm n q.now q.rows TT (enterS n q z 2)) from (by
    obtain ⟨K, Q, hK⟩ := P2.code
    refine (qbackK Q J.i hk hn z).mono ?_
    rintro e w' ⟨he, hq⟩
    exact ⟨he, hK _ _ hq.out⟩)))
  have HRR := Lib.hid (fun W T1 q2 (P2 : Pz base W b g c hb mb mg cm n q2 q.now q.rows T1) => (show Calls Tryz.prog 29 #[.pointer (some ⟨mb, 0, none⟩), .int .i64 z] W (DQ W base b g c hb mb mg cm n q2 T1 (enterS n q z 2)) from (by
    refine (rback P2.mq (J.nowI hk).2.2 z).mono ?_
    rintro e w' h
    exact dq_of P2 h)))
  generalize enterS n q z 2 = s at HJ2 HCC HRR
  obtain ⟨r, q'⟩ := s
  unfold CQ at HCC
  unfold DQ at HRR
  simp only at HCC HRR HJ2
  obtain ⟨W0, hW0⟩ : ∃ W0, W0 = w.alloc (.cells #[.int .i64 3, .int .i64 z, .int .i64 t] (29 : Nat)) := ⟨_, rfl⟩
  have hal : Below w.heap.size w W0 := by rw [hW0]; exact below_al (Below.refl _ _) _
  have HAL := Lib.hid hal
  have h0 := Lib.hid (P.below hal)
  have HMS := Lib.hid P.ms
  have hTN' : ¬ TT w.heap.size := fun e => by have := P.lt e; omega
  have hc0 : W0.cell? ⟨w.heap.size, 0, none⟩ = some (.int .i64 3) := by rw [hW0]; go_simp
  have hc1 : W0.cell? ⟨w.heap.size, 1, none⟩ = some (.int .i64 z) := by rw [hW0]; go_simp
  have hc2 : W0.cell? ⟨w.heap.size, 2, none⟩ = some (.int .i64 t) := by rw [hW0]; go_simp
  unfold ac18
  have _ := hk
  have _ := hn
  clear hal J hk hn P
  go_enter Tryz.func9, Tryz.ntmps9
  go_wp2
  rw [← hW0]
  clear hW0
  obtain ⟨N, hN⟩ : ∃ N, N = w.heap.size := ⟨_, rfl⟩
  have HN := Lib.hid hN
  rw [← hN] at hc0 hc1 hc2 hTN' ⊢
  have hTN : ¬ TT N := hTN'
  clear hN hc0 hTN'
  obtain ⟨G, hG⟩ : ∃ G : Option Value → Option Value → World → Prop, ∀ c1 d W, G c1 d W = ((d.isSome = true → c1.isSome = true) ∧ Chg TT W0 W ∧ (c1 = none → Pz base W b g c hb mb mg cm n q q.now q.rows TT) ∧ (c1.isSome = true → d = none → ∃ T1, Pz base W b g c hb mb mg cm n q' q.now q.rows T1 ∧ ∀ k, T1 k → TT k ∨ W0.heap.size ≤ k) ∧ (d.isSome = true → ∃ T1, Pz base W b g c hb mb mg cm n q' q'.now q'.rows T1 ∧ ∀ k, T1 k → TT k ∨ W0.heap.size ≤ k)) := ⟨_, fun _ _ _ => rfl⟩
  obtain ⟨S_, hS_⟩ : ∃ S_ : World → World → Prop, S_ = (Chg TT) := ⟨_, rfl⟩
  have hR_ : ∀ W, S_ W W := by intro W; rw [hS_]; exact Chg.refl _ _
  obtain ⟨T, hT⟩ : ∃ T : Nat → FactS S_, ∀ t_, T t_ = ([FactS.eq (.pointer (some ⟨b, 0, none⟩)), FactS.eq (.pointer (some ⟨N, 1, none⟩)), FactS.eq (.int .i64 z), FactS.eq (.int .i64 r), FactS.eq (.pointer (some ⟨mb, 0, none⟩)), FactS.eq (.pointer (some ⟨N, 1, none⟩)), FactS.eq (.int .i64 z), FactS.eq (.int .i64 r), FactS.eq (.bool true), FactS.eq (.bool true)] : List (FactS S_)).getD t_ FactS.any := ⟨_, fun _ => rfl⟩
  have hP_ : ∀ i_ v_ (y_ : Nat → Option Value) W_, ([3, 7].contains i_) = false → G (y_ 3) (y_ 7) W_ → G (updY y_ i_ v_ 3) (updY y_ i_ v_ 7) W_ := by
    intro i_ v_ y_ W_ hi_ h_
    simp only [List.contains_cons, List.contains_nil, Bool.or_false, Bool.or_eq_false_iff, beq_eq_false_iff_ne, ne_eq] at hi_
    obtain ⟨i3_, i7_⟩ := hi_
    rw [updY_ne y_ i_ v_ i3_, updY_ne y_ i_ v_ i7_]
    exact h_
  refine region_tabJ [(0, 61), (1, 62), (2, 63), (3, 64), (4, 65), (5, 66), (6, 67), (7, 68), (8, 69), (9, 6)] S_ T (fun y_ W_ => G (y_ 3) (y_ 7) W_) (by kernel_rfl) (by kernel_rfl) (by kernel_rfl) (by kernel_rfl) (by kernel_rfl) ?_ ?_ ?_
  · skip
    show G none none _
    rw [hG]
    exact ⟨(fun h => by cases h), (Chg.refl _ _).drewN 1, fun _ => h0.out.below (below_dr (Below.refl _ _) 1), (fun h => by cases h), (fun h => by cases h)⟩
  · skip
    refine stepsAll_cons (k := 0) ?_ ?_
    · intro fa fx fW fy hF hN hJ hE K fK
      have hJ : G (fy 3) (fy 7) fW := hJ
      have ev0 : fa.tmps[0]?.getD undef = .pointer (some ⟨b, 0, none⟩) := hF.eo 0 (by kernel_rfl)
      refine wpOp_val rfl (wanted_none rfl) ?_ (fK (.pointer (some ⟨b, 0, none⟩)) fW (hR_ fW) (by rw [hT]; exact rfl) (hP_ 0 _ fy fW rfl hJ))
      clear fK hE hF hJ hN
      go_simp
    refine stepsAll_cons (k := 1) ?_ ?_
    · intro fa fx fW fy hF hN hJ hE K fK
      have hJ : G (fy 3) (fy 7) fW := hJ
      have ev5 : fa.tmps[5]?.getD undef = .pointer (some ⟨N, 0, none⟩) := hF.eo 5 (by kernel_rfl)
      refine wpOp_val rfl (wanted_none rfl) ?_ (fK (.pointer (some ⟨N, 1, none⟩)) fW (hR_ fW) (by rw [hT]; exact rfl) (hP_ 1 _ fy fW rfl hJ))
      clear fK hE hF hJ hN
      go_simp
    refine stepsAll_cons (k := 2) ?_ ?_
    · intro fa fx fW fy hF hN hJ hE K fK
      have hJ : G (fy 3) (fy 7) fW := hJ
      have q1 : fx 1 = .pointer (some ⟨N, 1, none⟩) := by have q := (hE ⟨1, .data⟩ (by simp) rfl).2; rw [hT] at q; exact q
      have ev62 : fa.tmps[62]?.getD undef = .pointer (some ⟨N, 1, none⟩) := (hF.ev 1 62 (by kernel_rfl)).trans q1
      have hJ1 := hJ
      rw [hG] at hJ1
      have zz := hJ1.2.1.cell hc1 hTN
      clear hJ1
      refine wpOp_val rfl (wanted_none rfl) ?_ (fK (.int .i64 z) fW (hR_ fW) (by rw [hT]; exact rfl) (hP_ 2 _ fy fW rfl hJ))
      clear fK hE hF hJ hN
      go_simp
    refine stepsAll_cons (k := 3) ?_ ?_
    · intro fa fx fW fy hF hN hJ hE K fK
      have hJ : G (fy 3) (fy 7) fW := hJ
      have q0 : fx 0 = .pointer (some ⟨b, 0, none⟩) := by have q := (hE ⟨0, .data⟩ (by simp) rfl).2; rw [hT] at q; exact q
      have q2 : fx 2 = .int .i64 z := by have q := (hE ⟨2, .data⟩ (by simp) rfl).2; rw [hT] at q; exact q
      have ev61 : fa.tmps[61]?.getD undef = .pointer (some ⟨b, 0, none⟩) := (hF.ev 0 61 (by kernel_rfl)).trans q0
      have ev63 : fa.tmps[63]?.getD undef = .int .i64 z := (hF.ev 2 63 (by kernel_rfl)).trans q2
      refine wpOp_call rfl (wanted_none rfl) (by go_simp; exact ⟨rfl, rfl⟩) ?_
      rw [hG, hN] at hJ
      obtain ⟨j1, j2, j3, j4, j5⟩ := hJ
      have a7 : fy 7 = none := by cases h : fy 7 with | none => rfl | some u => rw [h] at j1; exact absurd (j1 rfl) (by simp)
      refine (HCC.out _ (j3 rfl)).mono ?_
      rintro e w' ⟨rfl, T1, hp, hst⟩
      refine ⟨_, rfl, fK (.int .i64 r) w' (by rw [hS_]; exact hst.1) (by rw [hT]; exact rfl) ?_⟩
      show G (some _) (fy 7) w'
      rw [hG, a7]
      have hsz := j2.size
      exact ⟨(fun h => by cases h), j2.trans hst.1, (fun e => by cases e), fun _ _ => ⟨T1, hp, fun k hk => (hst.2 k hk).imp id (fun h => by omega)⟩, (fun h => by cases h)⟩
    refine stepsAll_cons (k := 4) ?_ ?_
    · intro fa fx fW fy hF hN hJ hE K fK
      have hJ : G (fy 3) (fy 7) fW := hJ
      have ev1 : fa.tmps[1]?.getD undef = .pointer (some ⟨mb, 0, none⟩) := hF.eo 1 (by kernel_rfl)
      refine wpOp_val rfl (wanted_none rfl) ?_ (fK (.pointer (some ⟨mb, 0, none⟩)) fW (hR_ fW) (by rw [hT]; exact rfl) (hP_ 4 _ fy fW rfl hJ))
      clear fK hE hF hJ hN
      go_simp
    refine stepsAll_cons (k := 5) ?_ ?_
    · intro fa fx fW fy hF hN hJ hE K fK
      have hJ : G (fy 3) (fy 7) fW := hJ
      have ev5 : fa.tmps[5]?.getD undef = .pointer (some ⟨N, 0, none⟩) := hF.eo 5 (by kernel_rfl)
      refine wpOp_val rfl (wanted_none rfl) ?_ (fK (.pointer (some ⟨N, 1, none⟩)) fW (hR_ fW) (by rw [hT]; exact rfl) (hP_ 5 _ fy fW rfl hJ))
      clear fK hE hF hJ hN
      go_simp
    refine stepsAll_cons (k := 6) ?_ ?_
    · intro fa fx fW fy hF hN hJ hE K fK
      have hJ : G (fy 3) (fy 7) fW := hJ
      have q5 : fx 5 = .pointer (some ⟨N, 1, none⟩) := by have q := (hE ⟨5, .data⟩ (by simp) rfl).2; rw [hT] at q; exact q
      have ev66 : fa.tmps[66]?.getD undef = .pointer (some ⟨N, 1, none⟩) := (hF.ev 5 66 (by kernel_rfl)).trans q5
      have hJ1 := hJ
      rw [hG] at hJ1
      have zz := hJ1.2.1.cell hc1 hTN
      clear hJ1
      refine wpOp_val rfl (wanted_none rfl) ?_ (fK (.int .i64 z) fW (hR_ fW) (by rw [hT]; exact rfl) (hP_ 6 _ fy fW rfl hJ))
      clear fK hE hF hJ hN
      go_simp
    refine stepsAll_cons (k := 7) ?_ ?_
    · intro fa fx fW fy hF hN hJ hE K fK
      have hJ : G (fy 3) (fy 7) fW := hJ
      have q3 : fx 3 = .int .i64 r := by have q := (hE ⟨3, .chain⟩ (by simp) rfl).2; rw [hT] at q; exact q
      have y3 : fy 3 = some (fx 3) := (hE ⟨3, .chain⟩ (by simp) rfl).1
      have q4 : fx 4 = .pointer (some ⟨mb, 0, none⟩) := by have q := (hE ⟨4, .data⟩ (by simp) rfl).2; rw [hT] at q; exact q
      have q6 : fx 6 = .int .i64 z := by have q := (hE ⟨6, .data⟩ (by simp) rfl).2; rw [hT] at q; exact q
      have ev65 : fa.tmps[65]?.getD undef = .pointer (some ⟨mb, 0, none⟩) := (hF.ev 4 65 (by kernel_rfl)).trans q4
      have ev67 : fa.tmps[67]?.getD undef = .int .i64 z := (hF.ev 6 67 (by kernel_rfl)).trans q6
      refine wpOp_call rfl (wanted_none rfl) (by go_simp; exact ⟨rfl, rfl⟩) ?_
      rw [hG, hN, y3] at hJ
      obtain ⟨j1, j2, j3, j4, j5⟩ := hJ
      obtain ⟨T1, hp0, hT1⟩ := j4 rfl rfl
      refine (HRR.out _ _ _ hp0).mono ?_
      rintro e w' ⟨rfl, hp, hc⟩
      have hc' : Chg TT fW w' := hc.mono (fun k _ e => HMS.out k e)
      refine ⟨_, rfl, fK (.int .i64 r) w' (by rw [hS_]; exact hc') (by rw [hT]; exact rfl) ?_⟩
      show G (fy 3) (some _) w'
      rw [hG, y3]
      exact ⟨(fun _ => rfl), j2.trans hc', (fun e => by cases e), (fun _ e => by cases e), fun _ => ⟨T1, hp, hT1⟩⟩
    refine stepsAll_cons (k := 8) ?_ ?_
    · intro fa fx fW fy hF hN hJ hE K fK
      have hJ : G (fy 3) (fy 7) fW := hJ
      have q3 : fx 3 = .int .i64 r := by have q := (hE ⟨3, .data⟩ (by simp) rfl).2; rw [hT] at q; exact q
      have y3 : fy 3 = some (fx 3) := (hE ⟨3, .data⟩ (by simp) rfl).1
      have q7 : fx 7 = .int .i64 r := by have q := (hE ⟨7, .data⟩ (by simp) rfl).2; rw [hT] at q; exact q
      have y7 : fy 7 = some (fx 7) := (hE ⟨7, .data⟩ (by simp) rfl).1
      have ev64 : fa.tmps[64]?.getD undef = .int .i64 r := (hF.ev 3 64 (by kernel_rfl)).trans q3
      have ev68 : fa.tmps[68]?.getD undef = .int .i64 r := (hF.ev 7 68 (by kernel_rfl)).trans q7
      refine wpOp_val rfl (wanted_none rfl) ?_ (fK (.bool true) fW (hR_ fW) (by rw [hT]; exact rfl) (hP_ 8 _ fy fW rfl hJ))
      clear fK hE hF hJ hN
      go_simp
    refine stepsAll_cons (k := 9) ?_ ?_
    · intro fa fx fW fy hF hN hJ hE K fK
      have hJ : G (fy 3) (fy 7) fW := hJ
      have q8 : fx 8 = .bool true := by have q := (hE ⟨8, .data⟩ (by simp) rfl).2; rw [hT] at q; exact q
      have ev69 : fa.tmps[69]?.getD undef = .bool true := (hF.ev 8 69 (by kernel_rfl)).trans q8
      refine wpOp_val rfl (wanted_none rfl) ?_ (fK (.bool true) fW (hR_ fW) (by rw [hT]; exact rfl) (hP_ 9 _ fy fW rfl hJ))
      clear fK hE hF hJ hN
      go_simp
    exact stepsAll_nil
  intro fa fx fW fy hF hJ0 hx
  have y3 : fy 3 = some (fx 3) := (hx 3 (by decide)).1
  have y7 : fy 7 = some (fx 7) := (hx 7 (by decide)).1
  have hJ : G (fy 3) (fy 7) fW := hJ0
  clear hJ0
  rw [y3, y7] at hJ
  have q9 : fx 9 = .bool true := by have q := (hx 9 (by decide)).2; rw [hT] at q; exact q
  have ev6 : fa.tmps[6]?.getD undef = .bool true := (hF.ev 9 6 (by kernel_rfl)).trans q9
  rw [hF.eq]
  clear hF hx hT T hP_ hR_ y3 y7
  simp only [putAll, Act.put, List.setIfInBounds_toArray, List.set_cons_zero, List.set_cons_succ, q9]
  rw [hG] at hJ
  obtain ⟨_, j2, _, _, j5⟩ := hJ
  obtain ⟨T1, hp, hT1⟩ := j5 rfl
  have HE := Lib.hid hp
  have HE2 := Lib.hid j2
  have HE3 := Lib.hid hT1
  clear hp j2 hT1 j5
  go_wp2
  go_ret
  refine ⟨rfl, q', T1, HE.out, ⟨(Chg.of_below HAL.out).trans HE2.out, fun k hk => (HE3.out k hk).imp id (fun h => ?_)⟩, HJ2.out⟩
  have := HAL.out.size
  omega
set_option maxRecDepth 100000 in
set_option maxHeartbeats 8000000 in
theorem actK4 (P : Pz base w b g c hb mb mg cm n q q.now q.rows TT) (J : QJ n q k) (hk : k ≤ 1000) (hn : n ≤ 4096) (z t : Int) :
    Calls Tryz.prog 9 #[.pointer (some ⟨b, 0, none⟩), .pointer (some ⟨mb, 0, none⟩), ac18 4 z t] w (AQ w base b g c hb mb mg cm n k TT) := by
  have HJ2 := Lib.hid (J.mark z 2 3 (.inl rfl) (by decide))
  have HCC := Lib.hid (fun W (P2 : Pz base W b g c hb mb mg cm n q q.now q.rows TT) => (show Calls Tryz.prog 30 #[.pointer (some ⟨b, 0, none⟩), .int .i64 z] W (CQ W base b g c hb mb mg cm n q.now q.rows TT (markS n q z 2 3)) from (by
    obtain ⟨K, Q, hK⟩ := P2.code
    refine (qblockK Q z).mono ?_
    rintro e w' ⟨he, hq⟩
    exact ⟨he, hK _ _ hq.out⟩)))
  have HRR := Lib.hid (fun W T1 q2 (P2 : Pz base W b g c hb mb mg cm n q2 q.now q.rows T1) => (show Calls Tryz.prog 31 #[.pointer (some ⟨mb, 0, none⟩), .int .i64 z] W (DQ W base b g c hb mb mg cm n q2 T1 (markS n q z 2 3)) from (by
    refine (rblock P2.mq z).mono ?_
    rintro e w' h
    exact dq_of P2 h)))
  generalize markS n q z 2 3 = s at HJ2 HCC HRR
  obtain ⟨r, q'⟩ := s
  unfold CQ at HCC
  unfold DQ at HRR
  simp only at HCC HRR HJ2
  obtain ⟨W0, hW0⟩ : ∃ W0, W0 = w.alloc (.cells #[.int .i64 4, .int .i64 z, .int .i64 t] (29 : Nat)) := ⟨_, rfl⟩
  have hal : Below w.heap.size w W0 := by rw [hW0]; exact below_al (Below.refl _ _) _
  have HAL := Lib.hid hal
  have h0 := Lib.hid (P.below hal)
  have HMS := Lib.hid P.ms
  have hTN' : ¬ TT w.heap.size := fun e => by have := P.lt e; omega
  have hc0 : W0.cell? ⟨w.heap.size, 0, none⟩ = some (.int .i64 4) := by rw [hW0]; go_simp
  have hc1 : W0.cell? ⟨w.heap.size, 1, none⟩ = some (.int .i64 z) := by rw [hW0]; go_simp
  have hc2 : W0.cell? ⟨w.heap.size, 2, none⟩ = some (.int .i64 t) := by rw [hW0]; go_simp
  unfold ac18
  have _ := hk
  have _ := hn
  clear hal J hk hn P
  go_enter Tryz.func9, Tryz.ntmps9
  go_wp2
  rw [← hW0]
  clear hW0
  obtain ⟨N, hN⟩ : ∃ N, N = w.heap.size := ⟨_, rfl⟩
  have HN := Lib.hid hN
  rw [← hN] at hc0 hc1 hc2 hTN' ⊢
  have hTN : ¬ TT N := hTN'
  clear hN hc0 hTN'
  obtain ⟨G, hG⟩ : ∃ G : Option Value → Option Value → World → Prop, ∀ c1 d W, G c1 d W = ((d.isSome = true → c1.isSome = true) ∧ Chg TT W0 W ∧ (c1 = none → Pz base W b g c hb mb mg cm n q q.now q.rows TT) ∧ (c1.isSome = true → d = none → ∃ T1, Pz base W b g c hb mb mg cm n q' q.now q.rows T1 ∧ ∀ k, T1 k → TT k ∨ W0.heap.size ≤ k) ∧ (d.isSome = true → ∃ T1, Pz base W b g c hb mb mg cm n q' q'.now q'.rows T1 ∧ ∀ k, T1 k → TT k ∨ W0.heap.size ≤ k)) := ⟨_, fun _ _ _ => rfl⟩
  obtain ⟨S_, hS_⟩ : ∃ S_ : World → World → Prop, S_ = (Chg TT) := ⟨_, rfl⟩
  have hR_ : ∀ W, S_ W W := by intro W; rw [hS_]; exact Chg.refl _ _
  obtain ⟨T, hT⟩ : ∃ T : Nat → FactS S_, ∀ t_, T t_ = ([FactS.eq (.pointer (some ⟨b, 0, none⟩)), FactS.eq (.pointer (some ⟨N, 1, none⟩)), FactS.eq (.int .i64 z), FactS.eq (.int .i64 r), FactS.eq (.pointer (some ⟨mb, 0, none⟩)), FactS.eq (.pointer (some ⟨N, 1, none⟩)), FactS.eq (.int .i64 z), FactS.eq (.int .i64 r), FactS.eq (.bool true), FactS.eq (.bool true)] : List (FactS S_)).getD t_ FactS.any := ⟨_, fun _ => rfl⟩
  have hP_ : ∀ i_ v_ (y_ : Nat → Option Value) W_, ([3, 7].contains i_) = false → G (y_ 3) (y_ 7) W_ → G (updY y_ i_ v_ 3) (updY y_ i_ v_ 7) W_ := by
    intro i_ v_ y_ W_ hi_ h_
    simp only [List.contains_cons, List.contains_nil, Bool.or_false, Bool.or_eq_false_iff, beq_eq_false_iff_ne, ne_eq] at hi_
    obtain ⟨i3_, i7_⟩ := hi_
    rw [updY_ne y_ i_ v_ i3_, updY_ne y_ i_ v_ i7_]
    exact h_
  refine region_tabJ [(0, 72), (1, 73), (2, 74), (3, 75), (4, 76), (5, 77), (6, 78), (7, 79), (8, 80), (9, 6)] S_ T (fun y_ W_ => G (y_ 3) (y_ 7) W_) (by kernel_rfl) (by kernel_rfl) (by kernel_rfl) (by kernel_rfl) (by kernel_rfl) ?_ ?_ ?_
  · skip
    show G none none _
    rw [hG]
    exact ⟨(fun h => by cases h), (Chg.refl _ _).drewN 1, fun _ => h0.out.below (below_dr (Below.refl _ _) 1), (fun h => by cases h), (fun h => by cases h)⟩
  · skip
    refine stepsAll_cons (k := 0) ?_ ?_
    · intro fa fx fW fy hF hN hJ hE K fK
      have hJ : G (fy 3) (fy 7) fW := hJ
      have ev0 : fa.tmps[0]?.getD undef = .pointer (some ⟨b, 0, none⟩) := hF.eo 0 (by kernel_rfl)
      refine wpOp_val rfl (wanted_none rfl) ?_ (fK (.pointer (some ⟨b, 0, none⟩)) fW (hR_ fW) (by rw [hT]; exact rfl) (hP_ 0 _ fy fW rfl hJ))
      clear fK hE hF hJ hN
      go_simp
    refine stepsAll_cons (k := 1) ?_ ?_
    · intro fa fx fW fy hF hN hJ hE K fK
      have hJ : G (fy 3) (fy 7) fW := hJ
      have ev5 : fa.tmps[5]?.getD undef = .pointer (some ⟨N, 0, none⟩) := hF.eo 5 (by kernel_rfl)
      refine wpOp_val rfl (wanted_none rfl) ?_ (fK (.pointer (some ⟨N, 1, none⟩)) fW (hR_ fW) (by rw [hT]; exact rfl) (hP_ 1 _ fy fW rfl hJ))
      clear fK hE hF hJ hN
      go_simp
    refine stepsAll_cons (k := 2) ?_ ?_
    · intro fa fx fW fy hF hN hJ hE K fK
      have hJ : G (fy 3) (fy 7) fW := hJ
      have q1 : fx 1 = .pointer (some ⟨N, 1, none⟩) := by have q := (hE ⟨1, .data⟩ (by simp) rfl).2; rw [hT] at q; exact q
      have ev73 : fa.tmps[73]?.getD undef = .pointer (some ⟨N, 1, none⟩) := (hF.ev 1 73 (by kernel_rfl)).trans q1
      have hJ1 := hJ
      rw [hG] at hJ1
      have zz := hJ1.2.1.cell hc1 hTN
      clear hJ1
      refine wpOp_val rfl (wanted_none rfl) ?_ (fK (.int .i64 z) fW (hR_ fW) (by rw [hT]; exact rfl) (hP_ 2 _ fy fW rfl hJ))
      clear fK hE hF hJ hN
      go_simp
    refine stepsAll_cons (k := 3) ?_ ?_
    · intro fa fx fW fy hF hN hJ hE K fK
      have hJ : G (fy 3) (fy 7) fW := hJ
      have q0 : fx 0 = .pointer (some ⟨b, 0, none⟩) := by have q := (hE ⟨0, .data⟩ (by simp) rfl).2; rw [hT] at q; exact q
      have q2 : fx 2 = .int .i64 z := by have q := (hE ⟨2, .data⟩ (by simp) rfl).2; rw [hT] at q; exact q
      have ev72 : fa.tmps[72]?.getD undef = .pointer (some ⟨b, 0, none⟩) := (hF.ev 0 72 (by kernel_rfl)).trans q0
      have ev74 : fa.tmps[74]?.getD undef = .int .i64 z := (hF.ev 2 74 (by kernel_rfl)).trans q2
      refine wpOp_call rfl (wanted_none rfl) (by go_simp; exact ⟨rfl, rfl⟩) ?_
      rw [hG, hN] at hJ
      obtain ⟨j1, j2, j3, j4, j5⟩ := hJ
      have a7 : fy 7 = none := by cases h : fy 7 with | none => rfl | some u => rw [h] at j1; exact absurd (j1 rfl) (by simp)
      refine (HCC.out _ (j3 rfl)).mono ?_
      rintro e w' ⟨rfl, T1, hp, hst⟩
      refine ⟨_, rfl, fK (.int .i64 r) w' (by rw [hS_]; exact hst.1) (by rw [hT]; exact rfl) ?_⟩
      show G (some _) (fy 7) w'
      rw [hG, a7]
      have hsz := j2.size
      exact ⟨(fun h => by cases h), j2.trans hst.1, (fun e => by cases e), fun _ _ => ⟨T1, hp, fun k hk => (hst.2 k hk).imp id (fun h => by omega)⟩, (fun h => by cases h)⟩
    refine stepsAll_cons (k := 4) ?_ ?_
    · intro fa fx fW fy hF hN hJ hE K fK
      have hJ : G (fy 3) (fy 7) fW := hJ
      have ev1 : fa.tmps[1]?.getD undef = .pointer (some ⟨mb, 0, none⟩) := hF.eo 1 (by kernel_rfl)
      refine wpOp_val rfl (wanted_none rfl) ?_ (fK (.pointer (some ⟨mb, 0, none⟩)) fW (hR_ fW) (by rw [hT]; exact rfl) (hP_ 4 _ fy fW rfl hJ))
      clear fK hE hF hJ hN
      go_simp
    refine stepsAll_cons (k := 5) ?_ ?_
    · intro fa fx fW fy hF hN hJ hE K fK
      have hJ : G (fy 3) (fy 7) fW := hJ
      have ev5 : fa.tmps[5]?.getD undef = .pointer (some ⟨N, 0, none⟩) := hF.eo 5 (by kernel_rfl)
      refine wpOp_val rfl (wanted_none rfl) ?_ (fK (.pointer (some ⟨N, 1, none⟩)) fW (hR_ fW) (by rw [hT]; exact rfl) (hP_ 5 _ fy fW rfl hJ))
      clear fK hE hF hJ hN
      go_simp
    refine stepsAll_cons (k := 6) ?_ ?_
    · intro fa fx fW fy hF hN hJ hE K fK
      have hJ : G (fy 3) (fy 7) fW := hJ
      have q5 : fx 5 = .pointer (some ⟨N, 1, none⟩) := by have q := (hE ⟨5, .data⟩ (by simp) rfl).2; rw [hT] at q; exact q
      have ev77 : fa.tmps[77]?.getD undef = .pointer (some ⟨N, 1, none⟩) := (hF.ev 5 77 (by kernel_rfl)).trans q5
      have hJ1 := hJ
      rw [hG] at hJ1
      have zz := hJ1.2.1.cell hc1 hTN
      clear hJ1
      refine wpOp_val rfl (wanted_none rfl) ?_ (fK (.int .i64 z) fW (hR_ fW) (by rw [hT]; exact rfl) (hP_ 6 _ fy fW rfl hJ))
      clear fK hE hF hJ hN
      go_simp
    refine stepsAll_cons (k := 7) ?_ ?_
    · intro fa fx fW fy hF hN hJ hE K fK
      have hJ : G (fy 3) (fy 7) fW := hJ
      have q3 : fx 3 = .int .i64 r := by have q := (hE ⟨3, .chain⟩ (by simp) rfl).2; rw [hT] at q; exact q
      have y3 : fy 3 = some (fx 3) := (hE ⟨3, .chain⟩ (by simp) rfl).1
      have q4 : fx 4 = .pointer (some ⟨mb, 0, none⟩) := by have q := (hE ⟨4, .data⟩ (by simp) rfl).2; rw [hT] at q; exact q
      have q6 : fx 6 = .int .i64 z := by have q := (hE ⟨6, .data⟩ (by simp) rfl).2; rw [hT] at q; exact q
      have ev76 : fa.tmps[76]?.getD undef = .pointer (some ⟨mb, 0, none⟩) := (hF.ev 4 76 (by kernel_rfl)).trans q4
      have ev78 : fa.tmps[78]?.getD undef = .int .i64 z := (hF.ev 6 78 (by kernel_rfl)).trans q6
      refine wpOp_call rfl (wanted_none rfl) (by go_simp; exact ⟨rfl, rfl⟩) ?_
      rw [hG, hN, y3] at hJ
      obtain ⟨j1, j2, j3, j4, j5⟩ := hJ
      obtain ⟨T1, hp0, hT1⟩ := j4 rfl rfl
      refine (HRR.out _ _ _ hp0).mono ?_
      rintro e w' ⟨rfl, hp, hc⟩
      have hc' : Chg TT fW w' := hc.mono (fun k _ e => HMS.out k e)
      refine ⟨_, rfl, fK (.int .i64 r) w' (by rw [hS_]; exact hc') (by rw [hT]; exact rfl) ?_⟩
      show G (fy 3) (some _) w'
      rw [hG, y3]
      exact ⟨(fun _ => rfl), j2.trans hc', (fun e => by cases e), (fun _ e => by cases e), fun _ => ⟨T1, hp, hT1⟩⟩
    refine stepsAll_cons (k := 8) ?_ ?_
    · intro fa fx fW fy hF hN hJ hE K fK
      have hJ : G (fy 3) (fy 7) fW := hJ
      have q3 : fx 3 = .int .i64 r := by have q := (hE ⟨3, .data⟩ (by simp) rfl).2; rw [hT] at q; exact q
      have y3 : fy 3 = some (fx 3) := (hE ⟨3, .data⟩ (by simp) rfl).1
      have q7 : fx 7 = .int .i64 r := by have q := (hE ⟨7, .data⟩ (by simp) rfl).2; rw [hT] at q; exact q
      have y7 : fy 7 = some (fx 7) := (hE ⟨7, .data⟩ (by simp) rfl).1
      have ev75 : fa.tmps[75]?.getD undef = .int .i64 r := (hF.ev 3 75 (by kernel_rfl)).trans q3
      have ev79 : fa.tmps[79]?.getD undef = .int .i64 r := (hF.ev 7 79 (by kernel_rfl)).trans q7
      refine wpOp_val rfl (wanted_none rfl) ?_ (fK (.bool true) fW (hR_ fW) (by rw [hT]; exact rfl) (hP_ 8 _ fy fW rfl hJ))
      clear fK hE hF hJ hN
      go_simp
    refine stepsAll_cons (k := 9) ?_ ?_
    · intro fa fx fW fy hF hN hJ hE K fK
      have hJ : G (fy 3) (fy 7) fW := hJ
      have q8 : fx 8 = .bool true := by have q := (hE ⟨8, .data⟩ (by simp) rfl).2; rw [hT] at q; exact q
      have ev80 : fa.tmps[80]?.getD undef = .bool true := (hF.ev 8 80 (by kernel_rfl)).trans q8
      refine wpOp_val rfl (wanted_none rfl) ?_ (fK (.bool true) fW (hR_ fW) (by rw [hT]; exact rfl) (hP_ 9 _ fy fW rfl hJ))
      clear fK hE hF hJ hN
      go_simp
    exact stepsAll_nil
  intro fa fx fW fy hF hJ0 hx
  have y3 : fy 3 = some (fx 3) := (hx 3 (by decide)).1
  have y7 : fy 7 = some (fx 7) := (hx 7 (by decide)).1
  have hJ : G (fy 3) (fy 7) fW := hJ0
  clear hJ0
  rw [y3, y7] at hJ
  have q9 : fx 9 = .bool true := by have q := (hx 9 (by decide)).2; rw [hT] at q; exact q
  have ev6 : fa.tmps[6]?.getD undef = .bool true := (hF.ev 9 6 (by kernel_rfl)).trans q9
  rw [hF.eq]
  clear hF hx hT T hP_ hR_ y3 y7
  simp only [putAll, Act.put, List.setIfInBounds_toArray, List.set_cons_zero, List.set_cons_succ, q9]
  rw [hG] at hJ
  obtain ⟨_, j2, _, _, j5⟩ := hJ
  obtain ⟨T1, hp, hT1⟩ := j5 rfl
  have HE := Lib.hid hp
  have HE2 := Lib.hid j2
  have HE3 := Lib.hid hT1
  clear hp j2 hT1 j5
  go_wp2
  go_ret
  refine ⟨rfl, q', T1, HE.out, ⟨(Chg.of_below HAL.out).trans HE2.out, fun k hk => (HE3.out k hk).imp id (fun h => ?_)⟩, HJ2.out⟩
  have := HAL.out.size
  omega
set_option maxRecDepth 100000 in
set_option maxHeartbeats 8000000 in
theorem actK5 (P : Pz base w b g c hb mb mg cm n q q.now q.rows TT) (J : QJ n q k) (hk : k ≤ 1000) (hn : n ≤ 4096) (z t : Int) :
    Calls Tryz.prog 9 #[.pointer (some ⟨b, 0, none⟩), .pointer (some ⟨mb, 0, none⟩), ac18 5 z t] w (AQ w base b g c hb mb mg cm n k TT) := by
  have HJ2 := Lib.hid (J.enter hk z 3 (.inr rfl))
  have HCC := Lib.hid (fun W (P2 : Pz base W b g c hb mb mg cm n q q.now q.rows TT) => (show Calls Tryz.prog 32 #[.pointer (some ⟨b, 0, none⟩), .int .i64 z] W (CQ W base b g c hb mb mg cm n q.now q.rows TT (enterS n q z 3)) from (by
    obtain ⟨K, Q, hK⟩ := P2.code
    refine (qwakeK Q J.i hk hn z).mono ?_
    rintro e w' ⟨he, hq⟩
    exact ⟨he, hK _ _ hq.out⟩)))
  have HRR := Lib.hid (fun W T1 q2 (P2 : Pz base W b g c hb mb mg cm n q2 q.now q.rows T1) => (show Calls Tryz.prog 33 #[.pointer (some ⟨mb, 0, none⟩), .int .i64 z] W (DQ W base b g c hb mb mg cm n q2 T1 (enterS n q z 3)) from (by
    refine (rwake P2.mq (J.nowI hk).2.2 z).mono ?_
    rintro e w' h
    exact dq_of P2 h)))
  generalize enterS n q z 3 = s at HJ2 HCC HRR
  obtain ⟨r, q'⟩ := s
  unfold CQ at HCC
  unfold DQ at HRR
  simp only at HCC HRR HJ2
  obtain ⟨W0, hW0⟩ : ∃ W0, W0 = w.alloc (.cells #[.int .i64 5, .int .i64 z, .int .i64 t] (29 : Nat)) := ⟨_, rfl⟩
  have hal : Below w.heap.size w W0 := by rw [hW0]; exact below_al (Below.refl _ _) _
  have HAL := Lib.hid hal
  have h0 := Lib.hid (P.below hal)
  have HMS := Lib.hid P.ms
  have hTN' : ¬ TT w.heap.size := fun e => by have := P.lt e; omega
  have hc0 : W0.cell? ⟨w.heap.size, 0, none⟩ = some (.int .i64 5) := by rw [hW0]; go_simp
  have hc1 : W0.cell? ⟨w.heap.size, 1, none⟩ = some (.int .i64 z) := by rw [hW0]; go_simp
  have hc2 : W0.cell? ⟨w.heap.size, 2, none⟩ = some (.int .i64 t) := by rw [hW0]; go_simp
  unfold ac18
  have _ := hk
  have _ := hn
  clear hal J hk hn P
  go_enter Tryz.func9, Tryz.ntmps9
  go_wp2
  rw [← hW0]
  clear hW0
  obtain ⟨N, hN⟩ : ∃ N, N = w.heap.size := ⟨_, rfl⟩
  have HN := Lib.hid hN
  rw [← hN] at hc0 hc1 hc2 hTN' ⊢
  have hTN : ¬ TT N := hTN'
  clear hN hc0 hTN'
  obtain ⟨G, hG⟩ : ∃ G : Option Value → Option Value → World → Prop, ∀ c1 d W, G c1 d W = ((d.isSome = true → c1.isSome = true) ∧ Chg TT W0 W ∧ (c1 = none → Pz base W b g c hb mb mg cm n q q.now q.rows TT) ∧ (c1.isSome = true → d = none → ∃ T1, Pz base W b g c hb mb mg cm n q' q.now q.rows T1 ∧ ∀ k, T1 k → TT k ∨ W0.heap.size ≤ k) ∧ (d.isSome = true → ∃ T1, Pz base W b g c hb mb mg cm n q' q'.now q'.rows T1 ∧ ∀ k, T1 k → TT k ∨ W0.heap.size ≤ k)) := ⟨_, fun _ _ _ => rfl⟩
  obtain ⟨S_, hS_⟩ : ∃ S_ : World → World → Prop, S_ = (Chg TT) := ⟨_, rfl⟩
  have hR_ : ∀ W, S_ W W := by intro W; rw [hS_]; exact Chg.refl _ _
  obtain ⟨T, hT⟩ : ∃ T : Nat → FactS S_, ∀ t_, T t_ = ([FactS.eq (.pointer (some ⟨b, 0, none⟩)), FactS.eq (.pointer (some ⟨N, 1, none⟩)), FactS.eq (.int .i64 z), FactS.eq (.int .i64 r), FactS.eq (.pointer (some ⟨mb, 0, none⟩)), FactS.eq (.pointer (some ⟨N, 1, none⟩)), FactS.eq (.int .i64 z), FactS.eq (.int .i64 r), FactS.eq (.bool true), FactS.eq (.bool true)] : List (FactS S_)).getD t_ FactS.any := ⟨_, fun _ => rfl⟩
  have hP_ : ∀ i_ v_ (y_ : Nat → Option Value) W_, ([3, 7].contains i_) = false → G (y_ 3) (y_ 7) W_ → G (updY y_ i_ v_ 3) (updY y_ i_ v_ 7) W_ := by
    intro i_ v_ y_ W_ hi_ h_
    simp only [List.contains_cons, List.contains_nil, Bool.or_false, Bool.or_eq_false_iff, beq_eq_false_iff_ne, ne_eq] at hi_
    obtain ⟨i3_, i7_⟩ := hi_
    rw [updY_ne y_ i_ v_ i3_, updY_ne y_ i_ v_ i7_]
    exact h_
  refine region_tabJ [(0, 83), (1, 84), (2, 85), (3, 86), (4, 87), (5, 88), (6, 89), (7, 90), (8, 91), (9, 6)] S_ T (fun y_ W_ => G (y_ 3) (y_ 7) W_) (by kernel_rfl) (by kernel_rfl) (by kernel_rfl) (by kernel_rfl) (by kernel_rfl) ?_ ?_ ?_
  · skip
    show G none none _
    rw [hG]
    exact ⟨(fun h => by cases h), (Chg.refl _ _).drewN 1, fun _ => h0.out.below (below_dr (Below.refl _ _) 1), (fun h => by cases h), (fun h => by cases h)⟩
  · skip
    refine stepsAll_cons (k := 0) ?_ ?_
    · intro fa fx fW fy hF hN hJ hE K fK
      have hJ : G (fy 3) (fy 7) fW := hJ
      have ev0 : fa.tmps[0]?.getD undef = .pointer (some ⟨b, 0, none⟩) := hF.eo 0 (by kernel_rfl)
      refine wpOp_val rfl (wanted_none rfl) ?_ (fK (.pointer (some ⟨b, 0, none⟩)) fW (hR_ fW) (by rw [hT]; exact rfl) (hP_ 0 _ fy fW rfl hJ))
      clear fK hE hF hJ hN
      go_simp
    refine stepsAll_cons (k := 1) ?_ ?_
    · intro fa fx fW fy hF hN hJ hE K fK
      have hJ : G (fy 3) (fy 7) fW := hJ
      have ev5 : fa.tmps[5]?.getD undef = .pointer (some ⟨N, 0, none⟩) := hF.eo 5 (by kernel_rfl)
      refine wpOp_val rfl (wanted_none rfl) ?_ (fK (.pointer (some ⟨N, 1, none⟩)) fW (hR_ fW) (by rw [hT]; exact rfl) (hP_ 1 _ fy fW rfl hJ))
      clear fK hE hF hJ hN
      go_simp
    refine stepsAll_cons (k := 2) ?_ ?_
    · intro fa fx fW fy hF hN hJ hE K fK
      have hJ : G (fy 3) (fy 7) fW := hJ
      have q1 : fx 1 = .pointer (some ⟨N, 1, none⟩) := by have q := (hE ⟨1, .data⟩ (by simp) rfl).2; rw [hT] at q; exact q
      have ev84 : fa.tmps[84]?.getD undef = .pointer (some ⟨N, 1, none⟩) := (hF.ev 1 84 (by kernel_rfl)).trans q1
      have hJ1 := hJ
      rw [hG] at hJ1
      have zz := hJ1.2.1.cell hc1 hTN
      clear hJ1
      refine wpOp_val rfl (wanted_none rfl) ?_ (fK (.int .i64 z) fW (hR_ fW) (by rw [hT]; exact rfl) (hP_ 2 _ fy fW rfl hJ))
      clear fK hE hF hJ hN
      go_simp
    refine stepsAll_cons (k := 3) ?_ ?_
    · intro fa fx fW fy hF hN hJ hE K fK
      have hJ : G (fy 3) (fy 7) fW := hJ
      have q0 : fx 0 = .pointer (some ⟨b, 0, none⟩) := by have q := (hE ⟨0, .data⟩ (by simp) rfl).2; rw [hT] at q; exact q
      have q2 : fx 2 = .int .i64 z := by have q := (hE ⟨2, .data⟩ (by simp) rfl).2; rw [hT] at q; exact q
      have ev83 : fa.tmps[83]?.getD undef = .pointer (some ⟨b, 0, none⟩) := (hF.ev 0 83 (by kernel_rfl)).trans q0
      have ev85 : fa.tmps[85]?.getD undef = .int .i64 z := (hF.ev 2 85 (by kernel_rfl)).trans q2
      refine wpOp_call rfl (wanted_none rfl) (by go_simp; exact ⟨rfl, rfl⟩) ?_
      rw [hG, hN] at hJ
      obtain ⟨j1, j2, j3, j4, j5⟩ := hJ
      have a7 : fy 7 = none := by cases h : fy 7 with | none => rfl | some u => rw [h] at j1; exact absurd (j1 rfl) (by simp)
      refine (HCC.out _ (j3 rfl)).mono ?_
      rintro e w' ⟨rfl, T1, hp, hst⟩
      refine ⟨_, rfl, fK (.int .i64 r) w' (by rw [hS_]; exact hst.1) (by rw [hT]; exact rfl) ?_⟩
      show G (some _) (fy 7) w'
      rw [hG, a7]
      have hsz := j2.size
      exact ⟨(fun h => by cases h), j2.trans hst.1, (fun e => by cases e), fun _ _ => ⟨T1, hp, fun k hk => (hst.2 k hk).imp id (fun h => by omega)⟩, (fun h => by cases h)⟩
    refine stepsAll_cons (k := 4) ?_ ?_
    · intro fa fx fW fy hF hN hJ hE K fK
      have hJ : G (fy 3) (fy 7) fW := hJ
      have ev1 : fa.tmps[1]?.getD undef = .pointer (some ⟨mb, 0, none⟩) := hF.eo 1 (by kernel_rfl)
      refine wpOp_val rfl (wanted_none rfl) ?_ (fK (.pointer (some ⟨mb, 0, none⟩)) fW (hR_ fW) (by rw [hT]; exact rfl) (hP_ 4 _ fy fW rfl hJ))
      clear fK hE hF hJ hN
      go_simp
    refine stepsAll_cons (k := 5) ?_ ?_
    · intro fa fx fW fy hF hN hJ hE K fK
      have hJ : G (fy 3) (fy 7) fW := hJ
      have ev5 : fa.tmps[5]?.getD undef = .pointer (some ⟨N, 0, none⟩) := hF.eo 5 (by kernel_rfl)
      refine wpOp_val rfl (wanted_none rfl) ?_ (fK (.pointer (some ⟨N, 1, none⟩)) fW (hR_ fW) (by rw [hT]; exact rfl) (hP_ 5 _ fy fW rfl hJ))
      clear fK hE hF hJ hN
      go_simp
    refine stepsAll_cons (k := 6) ?_ ?_
    · intro fa fx fW fy hF hN hJ hE K fK
      have hJ : G (fy 3) (fy 7) fW := hJ
      have q5 : fx 5 = .pointer (some ⟨N, 1, none⟩) := by have q := (hE ⟨5, .data⟩ (by simp) rfl).2; rw [hT] at q; exact q
      have ev88 : fa.tmps[88]?.getD undef = .pointer (some ⟨N, 1, none⟩) := (hF.ev 5 88 (by kernel_rfl)).trans q5
      have hJ1 := hJ
      rw [hG] at hJ1
      have zz := hJ1.2.1.cell hc1 hTN
      clear hJ1
      refine wpOp_val rfl (wanted_none rfl) ?_ (fK (.int .i64 z) fW (hR_ fW) (by rw [hT]; exact rfl) (hP_ 6 _ fy fW rfl hJ))
      clear fK hE hF hJ hN
      go_simp
    refine stepsAll_cons (k := 7) ?_ ?_
    · intro fa fx fW fy hF hN hJ hE K fK
      have hJ : G (fy 3) (fy 7) fW := hJ
      have q3 : fx 3 = .int .i64 r := by have q := (hE ⟨3, .chain⟩ (by simp) rfl).2; rw [hT] at q; exact q
      have y3 : fy 3 = some (fx 3) := (hE ⟨3, .chain⟩ (by simp) rfl).1
      have q4 : fx 4 = .pointer (some ⟨mb, 0, none⟩) := by have q := (hE ⟨4, .data⟩ (by simp) rfl).2; rw [hT] at q; exact q
      have q6 : fx 6 = .int .i64 z := by have q := (hE ⟨6, .data⟩ (by simp) rfl).2; rw [hT] at q; exact q
      have ev87 : fa.tmps[87]?.getD undef = .pointer (some ⟨mb, 0, none⟩) := (hF.ev 4 87 (by kernel_rfl)).trans q4
      have ev89 : fa.tmps[89]?.getD undef = .int .i64 z := (hF.ev 6 89 (by kernel_rfl)).trans q6
      refine wpOp_call rfl (wanted_none rfl) (by go_simp; exact ⟨rfl, rfl⟩) ?_
      rw [hG, hN, y3] at hJ
      obtain ⟨j1, j2, j3, j4, j5⟩ := hJ
      obtain ⟨T1, hp0, hT1⟩ := j4 rfl rfl
      refine (HRR.out _ _ _ hp0).mono ?_
      rintro e w' ⟨rfl, hp, hc⟩
      have hc' : Chg TT fW w' := hc.mono (fun k _ e => HMS.out k e)
      refine ⟨_, rfl, fK (.int .i64 r) w' (by rw [hS_]; exact hc') (by rw [hT]; exact rfl) ?_⟩
      show G (fy 3) (some _) w'
      rw [hG, y3]
      exact ⟨(fun _ => rfl), j2.trans hc', (fun e => by cases e), (fun _ e => by cases e), fun _ => ⟨T1, hp, hT1⟩⟩
    refine stepsAll_cons (k := 8) ?_ ?_
    · intro fa fx fW fy hF hN hJ hE K fK
      have hJ : G (fy 3) (fy 7) fW := hJ
      have q3 : fx 3 = .int .i64 r := by have q := (hE ⟨3, .data⟩ (by simp) rfl).2; rw [hT] at q; exact q
      have y3 : fy 3 = some (fx 3) := (hE ⟨3, .data⟩ (by simp) rfl).1
      have q7 : fx 7 = .int .i64 r := by have q := (hE ⟨7, .data⟩ (by simp) rfl).2; rw [hT] at q; exact q
      have y7 : fy 7 = some (fx 7) := (hE ⟨7, .data⟩ (by simp) rfl).1
      have ev86 : fa.tmps[86]?.getD undef = .int .i64 r := (hF.ev 3 86 (by kernel_rfl)).trans q3
      have ev90 : fa.tmps[90]?.getD undef = .int .i64 r := (hF.ev 7 90 (by kernel_rfl)).trans q7
      refine wpOp_val rfl (wanted_none rfl) ?_ (fK (.bool true) fW (hR_ fW) (by rw [hT]; exact rfl) (hP_ 8 _ fy fW rfl hJ))
      clear fK hE hF hJ hN
      go_simp
    refine stepsAll_cons (k := 9) ?_ ?_
    · intro fa fx fW fy hF hN hJ hE K fK
      have hJ : G (fy 3) (fy 7) fW := hJ
      have q8 : fx 8 = .bool true := by have q := (hE ⟨8, .data⟩ (by simp) rfl).2; rw [hT] at q; exact q
      have ev91 : fa.tmps[91]?.getD undef = .bool true := (hF.ev 8 91 (by kernel_rfl)).trans q8
      refine wpOp_val rfl (wanted_none rfl) ?_ (fK (.bool true) fW (hR_ fW) (by rw [hT]; exact rfl) (hP_ 9 _ fy fW rfl hJ))
      clear fK hE hF hJ hN
      go_simp
    exact stepsAll_nil
  intro fa fx fW fy hF hJ0 hx
  have y3 : fy 3 = some (fx 3) := (hx 3 (by decide)).1
  have y7 : fy 7 = some (fx 7) := (hx 7 (by decide)).1
  have hJ : G (fy 3) (fy 7) fW := hJ0
  clear hJ0
  rw [y3, y7] at hJ
  have q9 : fx 9 = .bool true := by have q := (hx 9 (by decide)).2; rw [hT] at q; exact q
  have ev6 : fa.tmps[6]?.getD undef = .bool true := (hF.ev 9 6 (by kernel_rfl)).trans q9
  rw [hF.eq]
  clear hF hx hT T hP_ hR_ y3 y7
  simp only [putAll, Act.put, List.setIfInBounds_toArray, List.set_cons_zero, List.set_cons_succ, q9]
  rw [hG] at hJ
  obtain ⟨_, j2, _, _, j5⟩ := hJ
  obtain ⟨T1, hp, hT1⟩ := j5 rfl
  have HE := Lib.hid hp
  have HE2 := Lib.hid j2
  have HE3 := Lib.hid hT1
  clear hp j2 hT1 j5
  go_wp2
  go_ret
  refine ⟨rfl, q', T1, HE.out, ⟨(Chg.of_below HAL.out).trans HE2.out, fun k hk => (HE3.out k hk).imp id (fun h => ?_)⟩, HJ2.out⟩
  have := HAL.out.size
  omega
set_option maxRecDepth 100000 in
set_option maxHeartbeats 8000000 in
theorem actK6 (P : Pz base w b g c hb mb mg cm n q q.now q.rows TT) (J : QJ n q k) (hk : k ≤ 1000) (hn : n ≤ 4096) (z t : Int) :
    Calls Tryz.prog 9 #[.pointer (some ⟨b, 0, none⟩), .pointer (some ⟨mb, 0, none⟩), ac18 6 z t] w (AQ w base b g c hb mb mg cm n k TT) := by
  have HJ2 := Lib.hid (J.mark z 3 2 (.inr rfl) (by decide))
  have HCC := Lib.hid (fun W (P2 : Pz base W b g c hb mb mg cm n q q.now q.rows TT) => (show Calls Tryz.prog 34 #[.pointer (some ⟨b, 0, none⟩), .int .i64 z] W (CQ W base b g c hb mb mg cm n q.now q.rows TT (markS n q z 3 2)) from (by
    obtain ⟨K, Q, hK⟩ := P2.code
    refine (qresumeK Q z).mono ?_
    rintro e w' ⟨he, hq⟩
    exact ⟨he, hK _ _ hq.out⟩)))
  have HRR := Lib.hid (fun W T1 q2 (P2 : Pz base W b g c hb mb mg cm n q2 q.now q.rows T1) => (show Calls Tryz.prog 35 #[.pointer (some ⟨mb, 0, none⟩), .int .i64 z] W (DQ W base b g c hb mb mg cm n q2 T1 (markS n q z 3 2)) from (by
    refine (rresume P2.mq z).mono ?_
    rintro e w' h
    exact dq_of P2 h)))
  generalize markS n q z 3 2 = s at HJ2 HCC HRR
  obtain ⟨r, q'⟩ := s
  unfold CQ at HCC
  unfold DQ at HRR
  simp only at HCC HRR HJ2
  obtain ⟨W0, hW0⟩ : ∃ W0, W0 = w.alloc (.cells #[.int .i64 6, .int .i64 z, .int .i64 t] (29 : Nat)) := ⟨_, rfl⟩
  have hal : Below w.heap.size w W0 := by rw [hW0]; exact below_al (Below.refl _ _) _
  have HAL := Lib.hid hal
  have h0 := Lib.hid (P.below hal)
  have HMS := Lib.hid P.ms
  have hTN' : ¬ TT w.heap.size := fun e => by have := P.lt e; omega
  have hc0 : W0.cell? ⟨w.heap.size, 0, none⟩ = some (.int .i64 6) := by rw [hW0]; go_simp
  have hc1 : W0.cell? ⟨w.heap.size, 1, none⟩ = some (.int .i64 z) := by rw [hW0]; go_simp
  have hc2 : W0.cell? ⟨w.heap.size, 2, none⟩ = some (.int .i64 t) := by rw [hW0]; go_simp
  unfold ac18
  have _ := hk
  have _ := hn
  clear hal J hk hn P
  go_enter Tryz.func9, Tryz.ntmps9
  go_wp2
  rw [← hW0]
  clear hW0
  obtain ⟨N, hN⟩ : ∃ N, N = w.heap.size := ⟨_, rfl⟩
  have HN := Lib.hid hN
  rw [← hN] at hc0 hc1 hc2 hTN' ⊢
  have hTN : ¬ TT N := hTN'
  clear hN hc0 hTN'
  obtain ⟨G, hG⟩ : ∃ G : Option Value → Option Value → World → Prop, ∀ c1 d W, G c1 d W = ((d.isSome = true → c1.isSome = true) ∧ Chg TT W0 W ∧ (c1 = none → Pz base W b g c hb mb mg cm n q q.now q.rows TT) ∧ (c1.isSome = true → d = none → ∃ T1, Pz base W b g c hb mb mg cm n q' q.now q.rows T1 ∧ ∀ k, T1 k → TT k ∨ W0.heap.size ≤ k) ∧ (d.isSome = true → ∃ T1, Pz base W b g c hb mb mg cm n q' q'.now q'.rows T1 ∧ ∀ k, T1 k → TT k ∨ W0.heap.size ≤ k)) := ⟨_, fun _ _ _ => rfl⟩
  obtain ⟨S_, hS_⟩ : ∃ S_ : World → World → Prop, S_ = (Chg TT) := ⟨_, rfl⟩
  have hR_ : ∀ W, S_ W W := by intro W; rw [hS_]; exact Chg.refl _ _
  obtain ⟨T, hT⟩ : ∃ T : Nat → FactS S_, ∀ t_, T t_ = ([FactS.eq (.pointer (some ⟨b, 0, none⟩)), FactS.eq (.pointer (some ⟨N, 1, none⟩)), FactS.eq (.int .i64 z), FactS.eq (.int .i64 r), FactS.eq (.pointer (some ⟨mb, 0, none⟩)), FactS.eq (.pointer (some ⟨N, 1, none⟩)), FactS.eq (.int .i64 z), FactS.eq (.int .i64 r), FactS.eq (.bool true), FactS.eq (.bool true)] : List (FactS S_)).getD t_ FactS.any := ⟨_, fun _ => rfl⟩
  have hP_ : ∀ i_ v_ (y_ : Nat → Option Value) W_, ([3, 7].contains i_) = false → G (y_ 3) (y_ 7) W_ → G (updY y_ i_ v_ 3) (updY y_ i_ v_ 7) W_ := by
    intro i_ v_ y_ W_ hi_ h_
    simp only [List.contains_cons, List.contains_nil, Bool.or_false, Bool.or_eq_false_iff, beq_eq_false_iff_ne, ne_eq] at hi_
    obtain ⟨i3_, i7_⟩ := hi_
    rw [updY_ne y_ i_ v_ i3_, updY_ne y_ i_ v_ i7_]
    exact h_
  refine region_tabJ [(0, 94), (1, 95), (2, 96), (3, 97), (4, 98), (5, 99), (6, 100), (7, 101), (8, 102), (9, 6)] S_ T (fun y_ W_ => G (y_ 3) (y_ 7) W_) (by kernel_rfl) (by kernel_rfl) (by kernel_rfl) (by kernel_rfl) (by kernel_rfl) ?_ ?_ ?_
  · skip
    show G none none _
    rw [hG]
    exact ⟨(fun h => by cases h), (Chg.refl _ _).drewN 1, fun _ => h0.out.below (below_dr (Below.refl _ _) 1), (fun h => by cases h), (fun h => by cases h)⟩
  · skip
    refine stepsAll_cons (k := 0) ?_ ?_
    · intro fa fx fW fy hF hN hJ hE K fK
      have hJ : G (fy 3) (fy 7) fW := hJ
      have ev0 : fa.tmps[0]?.getD undef = .pointer (some ⟨b, 0, none⟩) := hF.eo 0 (by kernel_rfl)
      refine wpOp_val rfl (wanted_none rfl) ?_ (fK (.pointer (some ⟨b, 0, none⟩)) fW (hR_ fW) (by rw [hT]; exact rfl) (hP_ 0 _ fy fW rfl hJ))
      clear fK hE hF hJ hN
      go_simp
    refine stepsAll_cons (k := 1) ?_ ?_
    · intro fa fx fW fy hF hN hJ hE K fK
      have hJ : G (fy 3) (fy 7) fW := hJ
      have ev5 : fa.tmps[5]?.getD undef = .pointer (some ⟨N, 0, none⟩) := hF.eo 5 (by kernel_rfl)
      refine wpOp_val rfl (wanted_none rfl) ?_ (fK (.pointer (some ⟨N, 1, none⟩)) fW (hR_ fW) (by rw [hT]; exact rfl) (hP_ 1 _ fy fW rfl hJ))
      clear fK hE hF hJ hN
      go_simp
    refine stepsAll_cons (k := 2) ?_ ?_
    · intro fa fx fW fy hF hN hJ hE K fK
      have hJ : G (fy 3) (fy 7) fW := hJ
      have q1 : fx 1 = .pointer (some ⟨N, 1, none⟩) := by have q := (hE ⟨1, .data⟩ (by simp) rfl).2; rw [hT] at q; exact q
      have ev95 : fa.tmps[95]?.getD undef = .pointer (some ⟨N, 1, none⟩) := (hF.ev 1 95 (by kernel_rfl)).trans q1
      have hJ1 := hJ
      rw [hG] at hJ1
      have zz := hJ1.2.1.cell hc1 hTN
      clear hJ1
      refine wpOp_val rfl (wanted_none rfl) ?_ (fK (.int .i64 z) fW (hR_ fW) (by rw [hT]; exact rfl) (hP_ 2 _ fy fW rfl hJ))
      clear fK hE hF hJ hN
      go_simp
    refine stepsAll_cons (k := 3) ?_ ?_
    · intro fa fx fW fy hF hN hJ hE K fK
      have hJ : G (fy 3) (fy 7) fW := hJ
      have q0 : fx 0 = .pointer (some ⟨b, 0, none⟩) := by have q := (hE ⟨0, .data⟩ (by simp) rfl).2; rw [hT] at q; exact q
      have q2 : fx 2 = .int .i64 z := by have q := (hE ⟨2, .data⟩ (by simp) rfl).2; rw [hT] at q; exact q
      have ev94 : fa.tmps[94]?.getD undef = .pointer (some ⟨b, 0, none⟩) := (hF.ev 0 94 (by kernel_rfl)).trans q0
      have ev96 : fa.tmps[96]?.getD undef = .int .i64 z := (hF.ev 2 96 (by kernel_rfl)).trans q2
      refine wpOp_call rfl (wanted_none rfl) (by go_simp; exact ⟨rfl, rfl⟩) ?_
      rw [hG, hN] at hJ
      obtain ⟨j1, j2, j3, j4, j5⟩ := hJ
      have a7 : fy 7 = none := by cases h : fy 7 with | none => rfl | some u => rw [h] at j1; exact absurd (j1 rfl) (by simp)
      refine (HCC.out _ (j3 rfl)).mono ?_
      rintro e w' ⟨rfl, T1, hp, hst⟩
      refine ⟨_, rfl, fK (.int .i64 r) w' (by rw [hS_]; exact hst.1) (by rw [hT]; exact rfl) ?_⟩
      show G (some _) (fy 7) w'
      rw [hG, a7]
      have hsz := j2.size
      exact ⟨(fun h => by cases h), j2.trans hst.1, (fun e => by cases e), fun _ _ => ⟨T1, hp, fun k hk => (hst.2 k hk).imp id (fun h => by omega)⟩, (fun h => by cases h)⟩
    refine stepsAll_cons (k := 4) ?_ ?_
    · intro fa fx fW fy hF hN hJ hE K fK
      have hJ : G (fy 3) (fy 7) fW := hJ
      have ev1 : fa.tmps[1]?.getD undef = .pointer (some ⟨mb, 0, none⟩) := hF.eo 1 (by kernel_rfl)
      refine wpOp_val rfl (wanted_none rfl) ?_ (fK (.pointer (some ⟨mb, 0, none⟩)) fW (hR_ fW) (by rw [hT]; exact rfl) (hP_ 4 _ fy fW rfl hJ))
      clear fK hE hF hJ hN
      go_simp
    refine stepsAll_cons (k := 5) ?_ ?_
    · intro fa fx fW fy hF hN hJ hE K fK
      have hJ : G (fy 3) (fy 7) fW := hJ
      have ev5 : fa.tmps[5]?.getD undef = .pointer (some ⟨N, 0, none⟩) := hF.eo 5 (by kernel_rfl)
      refine wpOp_val rfl (wanted_none rfl) ?_ (fK (.pointer (some ⟨N, 1, none⟩)) fW (hR_ fW) (by rw [hT]; exact rfl) (hP_ 5 _ fy fW rfl hJ))
      clear fK hE hF hJ hN
      go_simp
    refine stepsAll_cons (k := 6) ?_ ?_
    · intro fa fx fW fy hF hN hJ hE K fK
      have hJ : G (fy 3) (fy 7) fW := hJ
      have q5 : fx 5 = .pointer (some ⟨N, 1, none⟩) := by have q := (hE ⟨5, .data⟩ (by simp) rfl).2; rw [hT] at q; exact q
      have ev99 : fa.tmps[99]?.getD undef = .pointer (some ⟨N, 1, none⟩) := (hF.ev 5 99 (by kernel_rfl)).trans q5
      have hJ1 := hJ
      rw [hG] at hJ1
      have zz := hJ1.2.1.cell hc1 hTN
      clear hJ1
      refine wpOp_val rfl (wanted_none rfl) ?_ (fK (.int .i64 z) fW (hR_ fW) (by rw [hT]; exact rfl) (hP_ 6 _ fy fW rfl hJ))
      clear fK hE hF hJ hN
      go_simp
    refine stepsAll_cons (k := 7) ?_ ?_
    · intro fa fx fW fy hF hN hJ hE K fK
      have hJ : G (fy 3) (fy 7) fW := hJ
      have q3 : fx 3 = .int .i64 r := by have q := (hE ⟨3, .chain⟩ (by simp) rfl).2; rw [hT] at q; exact q
      have y3 : fy 3 = some (fx 3) := (hE ⟨3, .chain⟩ (by simp) rfl).1
      have q4 : fx 4 = .pointer (some ⟨mb, 0, none⟩) := by have q := (hE ⟨4, .data⟩ (by simp) rfl).2; rw [hT] at q; exact q
      have q6 : fx 6 = .int .i64 z := by have q := (hE ⟨6, .data⟩ (by simp) rfl).2; rw [hT] at q; exact q
      have ev98 : fa.tmps[98]?.getD undef = .pointer (some ⟨mb, 0, none⟩) := (hF.ev 4 98 (by kernel_rfl)).trans q4
      have ev100 : fa.tmps[100]?.getD undef = .int .i64 z := (hF.ev 6 100 (by kernel_rfl)).trans q6
      refine wpOp_call rfl (wanted_none rfl) (by go_simp; exact ⟨rfl, rfl⟩) ?_
      rw [hG, hN, y3] at hJ
      obtain ⟨j1, j2, j3, j4, j5⟩ := hJ
      obtain ⟨T1, hp0, hT1⟩ := j4 rfl rfl
      refine (HRR.out _ _ _ hp0).mono ?_
      rintro e w' ⟨rfl, hp, hc⟩
      have hc' : Chg TT fW w' := hc.mono (fun k _ e => HMS.out k e)
      refine ⟨_, rfl, fK (.int .i64 r) w' (by rw [hS_]; exact hc') (by rw [hT]; exact rfl) ?_⟩
      show G (fy 3) (some _) w'
      rw [hG, y3]
      exact ⟨(fun _ => rfl), j2.trans hc', (fun e => by cases e), (fun _ e => by cases e), fun _ => ⟨T1, hp, hT1⟩⟩
    refine stepsAll_cons (k := 8) ?_ ?_
    · intro fa fx fW fy hF hN hJ hE K fK
      have hJ : G (fy 3) (fy 7) fW := hJ
      have q3 : fx 3 = .int .i64 r := by have q := (hE ⟨3, .data⟩ (by simp) rfl).2; rw [hT] at q; exact q
      have y3 : fy 3 = some (fx 3) := (hE ⟨3, .data⟩ (by simp) rfl).1
      have q7 : fx 7 = .int .i64 r := by have q := (hE ⟨7, .data⟩ (by simp) rfl).2; rw [hT] at q; exact q
      have y7 : fy 7 = some (fx 7) := (hE ⟨7, .data⟩ (by simp) rfl).1
      have ev97 : fa.tmps[97]?.getD undef = .int .i64 r := (hF.ev 3 97 (by kernel_rfl)).trans q3
      have ev101 : fa.tmps[101]?.getD undef = .int .i64 r := (hF.ev 7 101 (by kernel_rfl)).trans q7
      refine wpOp_val rfl (wanted_none rfl) ?_ (fK (.bool true) fW (hR_ fW) (by rw [hT]; exact rfl) (hP_ 8 _ fy fW rfl hJ))
      clear fK hE hF hJ hN
      go_simp
    refine stepsAll_cons (k := 9) ?_ ?_
    · intro fa fx fW fy hF hN hJ hE K fK
      have hJ : G (fy 3) (fy 7) fW := hJ
      have q8 : fx 8 = .bool true := by have q := (hE ⟨8, .data⟩ (by simp) rfl).2; rw [hT] at q; exact q
      have ev102 : fa.tmps[102]?.getD undef = .bool true := (hF.ev 8 102 (by kernel_rfl)).trans q8
      refine wpOp_val rfl (wanted_none rfl) ?_ (fK (.bool true) fW (hR_ fW) (by rw [hT]; exact rfl) (hP_ 9 _ fy fW rfl hJ))
      clear fK hE hF hJ hN
      go_simp
    exact stepsAll_nil
  intro fa fx fW fy hF hJ0 hx
  have y3 : fy 3 = some (fx 3) := (hx 3 (by decide)).1
  have y7 : fy 7 = some (fx 7) := (hx 7 (by decide)).1
  have hJ : G (fy 3) (fy 7) fW := hJ0
  clear hJ0
  rw [y3, y7] at hJ
  have q9 : fx 9 = .bool true := by have q := (hx 9 (by decide)).2; rw [hT] at q; exact q
  have ev6 : fa.tmps[6]?.getD undef = .bool true := (hF.ev 9 6 (by kernel_rfl)).trans q9
  rw [hF.eq]
  clear hF hx hT T hP_ hR_ y3 y7
  simp only [putAll, Act.put, List.setIfInBounds_toArray, List.set_cons_zero, List.set_cons_succ, q9]
  rw [hG] at hJ
  obtain ⟨_, j2, _, _, j5⟩ := hJ
  obtain ⟨T1, hp, hT1⟩ := j5 rfl
  have HE := Lib.hid hp
  have HE2 := Lib.hid j2
  have HE3 := Lib.hid hT1
  clear hp j2 hT1 j5
  go_wp2
  go_ret
  refine ⟨rfl, q', T1, HE.out, ⟨(Chg.of_below HAL.out).trans HE2.out, fun k hk => (HE3.out k hk).imp id (fun h => ?_)⟩, HJ2.out⟩
  have := HAL.out.size
  omega
set_option maxRecDepth 100000 in
set_option maxHeartbeats 8000000 in
theorem actK7 (P : Pz base w b g c hb mb mg cm n q q.now q.rows TT) (J : QJ n q k) (hk : k ≤ 1000) (hn : n ≤ 4096) (z t : Int) :
    Calls Tryz.prog 9 #[.pointer (some ⟨b, 0, none⟩), .pointer (some ⟨mb, 0, none⟩), ac18 7 z t] w (AQ w base b g c hb mb mg cm n k TT) := by
  have HJ2 := Lib.hid (J.drop z)
  have HCC := Lib.hid (fun W (P2 : Pz base W b g c hb mb mg cm n q q.now q.rows TT) => (show Calls Tryz.prog 36 #[.pointer (some ⟨b, 0, none⟩), .int .i64 z] W (CQ W base b g c hb mb mg cm n q.now q.rows TT (dropS n q z)) from (by
    obtain ⟨K, Q, hK⟩ := P2.code
    refine (qdropK Q J.i hn z).mono ?_
    rintro e w' ⟨he, hq⟩
    exact ⟨he, hK _ _ hq.out⟩)))
  have HRR := Lib.hid (fun W T1 q2 (P2 : Pz base W b g c hb mb mg cm n q2 q.now q.rows T1) => (show Calls Tryz.prog 37 #[.pointer (some ⟨mb, 0, none⟩), .int .i64 z] W (DQ W base b g c hb mb mg cm n q2 T1 (dropS n q z)) from (by
    refine (rdrop P2.mq z).mono ?_
    rintro e w' h
    exact dq_of P2 h)))
  generalize dropS n q z = s at HJ2 HCC HRR
  obtain ⟨r, q'⟩ := s
  unfold CQ at HCC
  unfold DQ at HRR
  simp only at HCC HRR HJ2
  obtain ⟨W0, hW0⟩ : ∃ W0, W0 = w.alloc (.cells #[.int .i64 7, .int .i64 z, .int .i64 t] (29 : Nat)) := ⟨_, rfl⟩
  have hal : Below w.heap.size w W0 := by rw [hW0]; exact below_al (Below.refl _ _) _
  have HAL := Lib.hid hal
  have h0 := Lib.hid (P.below hal)
  have HMS := Lib.hid P.ms
  have hTN' : ¬ TT w.heap.size := fun e => by have := P.lt e; omega
  have hc0 : W0.cell? ⟨w.heap.size, 0, none⟩ = some (.int .i64 7) := by rw [hW0]; go_simp
  have hc1 : W0.cell? ⟨w.heap.size, 1, none⟩ = some (.int .i64 z) := by rw [hW0]; go_simp
  have hc2 : W0.cell? ⟨w.heap.size, 2, none⟩ = some (.int .i64 t) := by rw [hW0]; go_simp
  unfold ac18
  have _ := hk
  have _ := hn
  clear hal J hk hn P
  go_enter Tryz.func9, Tryz.ntmps9
  go_wp2
  rw [← hW0]
  clear hW0
  obtain ⟨N, hN⟩ : ∃ N, N = w.heap.size := ⟨_, rfl⟩
  have HN := Lib.hid hN
  rw [← hN] at hc0 hc1 hc2 hTN' ⊢
  have hTN : ¬ TT N := hTN'
  clear hN hc0 hTN'
  obtain ⟨G, hG⟩ : ∃ G : Option Value → Option Value → World → Prop, ∀ c1 d W, G c1 d W = ((d.isSome = true → c1.isSome = true) ∧ Chg TT W0 W ∧ (c1 = none → Pz base W b g c hb mb mg cm n q q.now q.rows TT) ∧ (c1.isSome = true → d = none → ∃ T1, Pz base W b g c hb mb mg cm n q' q.now q.rows T1 ∧ ∀ k, T1 k → TT k ∨ W0.heap.size ≤ k) ∧ (d.isSome = true → ∃ T1, Pz base W b g c hb mb mg cm n q' q'.now q'.rows T1 ∧ ∀ k, T1 k → TT k ∨ W0.heap.size ≤ k)) := ⟨_, fun _ _ _ => rfl⟩
  obtain ⟨S_, hS_⟩ : ∃ S_ : World → World → Prop, S_ = (Chg TT) := ⟨_, rfl⟩
  have hR_ : ∀ W, S_ W W := by intro W; rw [hS_]; exact Chg.refl _ _
  obtain ⟨T, hT⟩ : ∃ T : Nat → FactS S_, ∀ t_, T t_ = ([FactS.eq (.pointer (some ⟨b, 0, none⟩)), FactS.eq (.pointer (some ⟨N, 1, none⟩)), FactS.eq (.int .i64 z), FactS.eq (.int .i64 r), FactS.eq (.pointer (some ⟨mb, 0, none⟩)), FactS.eq (.pointer (some ⟨N, 1, none⟩)), FactS.eq (.int .i64 z), FactS.eq (.int .i64 r), FactS.eq (.bool true), FactS.eq (.bool true)] : List (FactS S_)).getD t_ FactS.any := ⟨_, fun _ => rfl⟩
  have hP_ : ∀ i_ v_ (y_ : Nat → Option Value) W_, ([3, 7].contains i_) = false → G (y_ 3) (y_ 7) W_ → G (updY y_ i_ v_ 3) (updY y_ i_ v_ 7) W_ := by
    intro i_ v_ y_ W_ hi_ h_
    simp only [List.contains_cons, List.contains_nil, Bool.or_false, Bool.or_eq_false_iff, beq_eq_false_iff_ne, ne_eq] at hi_
    obtain ⟨i3_, i7_⟩ := hi_
    rw [updY_ne y_ i_ v_ i3_, updY_ne y_ i_ v_ i7_]
    exact h_
  refine region_tabJ [(0, 105), (1, 106), (2, 107), (3, 108), (4, 109), (5, 110), (6, 111), (7, 112), (8, 113), (9, 6)] S_ T (fun y_ W_ => G (y_ 3) (y_ 7) W_) (by kernel_rfl) (by kernel_rfl) (by kernel_rfl) (by kernel_rfl) (by kernel_rfl) ?_ ?_ ?_
  · skip
    show G none none _
    rw [hG]
    exact ⟨(fun h => by cases h), (Chg.refl _ _).drewN 1, fun _ => h0.out.below (below_dr (Below.refl _ _) 1), (fun h => by cases h), (fun h => by cases h)⟩
  · skip
    refine stepsAll_cons (k := 0) ?_ ?_
    · intro fa fx fW fy hF hN hJ hE K fK
      have hJ : G (fy 3) (fy 7) fW := hJ
      have ev0 : fa.tmps[0]?.getD undef = .pointer (some ⟨b, 0, none⟩) := hF.eo 0 (by kernel_rfl)
      refine wpOp_val rfl (wanted_none rfl) ?_ (fK (.pointer (some ⟨b, 0, none⟩)) fW (hR_ fW) (by rw [hT]; exact rfl) (hP_ 0 _ fy fW rfl hJ))
      clear fK hE hF hJ hN
      go_simp
    refine stepsAll_cons (k := 1) ?_ ?_
    · intro fa fx fW fy hF hN hJ hE K fK
      have hJ : G (fy 3) (fy 7) fW := hJ
      have ev5 : fa.tmps[5]?.getD undef = .pointer (some ⟨N, 0, none⟩) := hF.eo 5 (by kernel_rfl)
      refine wpOp_val rfl (wanted_none rfl) ?_ (fK (.pointer (some ⟨N, 1, none⟩)) fW (hR_ fW) (by rw [hT]; exact rfl) (hP_ 1 _ fy fW rfl hJ))
      clear fK hE hF hJ hN
      go_simp
    refine stepsAll_cons (k := 2) ?_ ?_
    · intro fa fx fW fy hF hN hJ hE K fK
      have hJ : G (fy 3) (fy 7) fW := hJ
      have q1 : fx 1 = .pointer (some ⟨N, 1, none⟩) := by have q := (hE ⟨1, .data⟩ (by simp) rfl).2; rw [hT] at q; exact q
      have ev106 : fa.tmps[106]?.getD undef = .pointer (some ⟨N, 1, none⟩) := (hF.ev 1 106 (by kernel_rfl)).trans q1
      have hJ1 := hJ
      rw [hG] at hJ1
      have zz := hJ1.2.1.cell hc1 hTN
      clear hJ1
      refine wpOp_val rfl (wanted_none rfl) ?_ (fK (.int .i64 z) fW (hR_ fW) (by rw [hT]; exact rfl) (hP_ 2 _ fy fW rfl hJ))
      clear fK hE hF hJ hN
      go_simp
    refine stepsAll_cons (k := 3) ?_ ?_
    · intro fa fx fW fy hF hN hJ hE K fK
      have hJ : G (fy 3) (fy 7) fW := hJ
      have q0 : fx 0 = .pointer (some ⟨b, 0, none⟩) := by have q := (hE ⟨0, .data⟩ (by simp) rfl).2; rw [hT] at q; exact q
      have q2 : fx 2 = .int .i64 z := by have q := (hE ⟨2, .data⟩ (by simp) rfl).2; rw [hT] at q; exact q
      have ev105 : fa.tmps[105]?.getD undef = .pointer (some ⟨b, 0, none⟩) := (hF.ev 0 105 (by kernel_rfl)).trans q0
      have ev107 : fa.tmps[107]?.getD undef = .int .i64 z := (hF.ev 2 107 (by kernel_rfl)).trans q2
      refine wpOp_call rfl (wanted_none rfl) (by go_simp; exact ⟨rfl, rfl⟩) ?_
      rw [hG, hN] at hJ
      obtain ⟨j1, j2, j3, j4, j5⟩ := hJ
      have a7 : fy 7 = none := by cases h : fy 7 with | none => rfl | some u => rw [h] at j1; exact absurd (j1 rfl) (by simp)
      refine (HCC.out _ (j3 rfl)).mono ?_
      rintro e w' ⟨rfl, T1, hp, hst⟩
      refine ⟨_, rfl, fK (.int .i64 r) w' (by rw [hS_]; exact hst.1) (by rw [hT]; exact rfl) ?_⟩
      show G (some _) (fy 7) w'
      rw [hG, a7]
      have hsz := j2.size
      exact ⟨(fun h => by cases h), j2.trans hst.1, (fun e => by cases e), fun _ _ => ⟨T1, hp, fun k hk => (hst.2 k hk).imp id (fun h => by omega)⟩, (fun h => by cases h)⟩
    refine stepsAll_cons (k := 4) ?_ ?_
    · intro fa fx fW fy hF hN hJ hE K fK
      have hJ : G (fy 3) (fy 7) fW := hJ
      have ev1 : fa.tmps[1]?.getD undef = .pointer (some ⟨mb, 0, none⟩) := hF.eo 1 (by kernel_rfl)
      refine wpOp_val rfl (wanted_none rfl) ?_ (fK (.pointer (some ⟨mb, 0, none⟩)) fW (hR_ fW) (by rw [hT]; exact rfl) (hP_ 4 _ fy fW rfl hJ))
      clear fK hE hF hJ hN
      go_simp
    refine stepsAll_cons (k := 5) ?_ ?_
    · intro fa fx fW fy hF hN hJ hE K fK
      have hJ : G (fy 3) (fy 7) fW := hJ
      have ev5 : fa.tmps[5]?.getD undef = .pointer (some ⟨N, 0, none⟩) := hF.eo 5 (by kernel_rfl)
      refine wpOp_val rfl (wanted_none rfl) ?_ (fK (.pointer (some ⟨N, 1, none⟩)) fW (hR_ fW) (by rw [hT]; exact rfl) (hP_ 5 _ fy fW rfl hJ))
      clear fK hE hF hJ hN
      go_simp
    refine stepsAll_cons (k := 6) ?_ ?_
    · intro fa fx fW fy hF hN hJ hE K fK
      have hJ : G (fy 3) (fy 7) fW := hJ
      have q5 : fx 5 = .pointer (some ⟨N, 1, none⟩) := by have q := (hE ⟨5, .data⟩ (by simp) rfl).2; rw [hT] at q; exact q
      have ev110 : fa.tmps[110]?.getD undef = .pointer (some ⟨N, 1, none⟩) := (hF.ev 5 110 (by kernel_rfl)).trans q5
      have hJ1 := hJ
      rw [hG] at hJ1
      have zz := hJ1.2.1.cell hc1 hTN
      clear hJ1
      refine wpOp_val rfl (wanted_none rfl) ?_ (fK (.int .i64 z) fW (hR_ fW) (by rw [hT]; exact rfl) (hP_ 6 _ fy fW rfl hJ))
      clear fK hE hF hJ hN
      go_simp
    refine stepsAll_cons (k := 7) ?_ ?_
    · intro fa fx fW fy hF hN hJ hE K fK
      have hJ : G (fy 3) (fy 7) fW := hJ
      have q3 : fx 3 = .int .i64 r := by have q := (hE ⟨3, .chain⟩ (by simp) rfl).2; rw [hT] at q; exact q
      have y3 : fy 3 = some (fx 3) := (hE ⟨3, .chain⟩ (by simp) rfl).1
      have q4 : fx 4 = .pointer (some ⟨mb, 0, none⟩) := by have q := (hE ⟨4, .data⟩ (by simp) rfl).2; rw [hT] at q; exact q
      have q6 : fx 6 = .int .i64 z := by have q := (hE ⟨6, .data⟩ (by simp) rfl).2; rw [hT] at q; exact q
      have ev109 : fa.tmps[109]?.getD undef = .pointer (some ⟨mb, 0, none⟩) := (hF.ev 4 109 (by kernel_rfl)).trans q4
      have ev111 : fa.tmps[111]?.getD undef = .int .i64 z := (hF.ev 6 111 (by kernel_rfl)).trans q6
      refine wpOp_call rfl (wanted_none rfl) (by go_simp; exact ⟨rfl, rfl⟩) ?_
      rw [hG, hN, y3] at hJ
      obtain ⟨j1, j2, j3, j4, j5⟩ := hJ
      obtain ⟨T1, hp0, hT1⟩ := j4 rfl rfl
      refine (HRR.out _ _ _ hp0).mono ?_
      rintro e w' ⟨rfl, hp, hc⟩
      have hc' : Chg TT fW w' := hc.mono (fun k _ e => HMS.out k e)
      refine ⟨_, rfl, fK (.int .i64 r) w' (by rw [hS_]; exact hc') (by rw [hT]; exact rfl) ?_⟩
      show G (fy 3) (some _) w'
      rw [hG, y3]
      exact ⟨(fun _ => rfl), j2.trans hc', (fun e => by cases e), (fun _ e => by cases e), fun _ => ⟨T1, hp, hT1⟩⟩
    refine stepsAll_cons (k := 8) ?_ ?_
    · intro fa fx fW fy hF hN hJ hE K fK
      have hJ : G (fy 3) (fy 7) fW := hJ
      have q3 : fx 3 = .int .i64 r := by have q := (hE ⟨3, .data⟩ (by simp) rfl).2; rw [hT] at q; exact q
      have y3 : fy 3 = some (fx 3) := (hE ⟨3, .data⟩ (by simp) rfl).1
      have q7 : fx 7 = .int .i64 r := by have q := (hE ⟨7, .data⟩ (by simp) rfl).2; rw [hT] at q; exact q
      have y7 : fy 7 = some (fx 7) := (hE ⟨7, .data⟩ (by simp) rfl).1
      have ev108 : fa.tmps[108]?.getD undef = .int .i64 r := (hF.ev 3 108 (by kernel_rfl)).trans q3
      have ev112 : fa.tmps[112]?.getD undef = .int .i64 r := (hF.ev 7 112 (by kernel_rfl)).trans q7
      refine wpOp_val rfl (wanted_none rfl) ?_ (fK (.bool true) fW (hR_ fW) (by rw [hT]; exact rfl) (hP_ 8 _ fy fW rfl hJ))
      clear fK hE hF hJ hN
      go_simp
    refine stepsAll_cons (k := 9) ?_ ?_
    · intro fa fx fW fy hF hN hJ hE K fK
      have hJ : G (fy 3) (fy 7) fW := hJ
      have q8 : fx 8 = .bool true := by have q := (hE ⟨8, .data⟩ (by simp) rfl).2; rw [hT] at q; exact q
      have ev113 : fa.tmps[113]?.getD undef = .bool true := (hF.ev 8 113 (by kernel_rfl)).trans q8
      refine wpOp_val rfl (wanted_none rfl) ?_ (fK (.bool true) fW (hR_ fW) (by rw [hT]; exact rfl) (hP_ 9 _ fy fW rfl hJ))
      clear fK hE hF hJ hN
      go_simp
    exact stepsAll_nil
  intro fa fx fW fy hF hJ0 hx
  have y3 : fy 3 = some (fx 3) := (hx 3 (by decide)).1
  have y7 : fy 7 = some (fx 7) := (hx 7 (by decide)).1
  have hJ : G (fy 3) (fy 7) fW := hJ0
  clear hJ0
  rw [y3, y7] at hJ
  have q9 : fx 9 = .bool true := by have q := (hx 9 (by decide)).2; rw [hT] at q; exact q
  have ev6 : fa.tmps[6]?.getD undef = .bool true := (hF.ev 9 6 (by kernel_rfl)).trans q9
  rw [hF.eq]
  clear hF hx hT T hP_ hR_ y3 y7
  simp only [putAll, Act.put, List.setIfInBounds_toArray, List.set_cons_zero, List.set_cons_succ, q9]
  rw [hG] at hJ
  obtain ⟨_, j2, _, _, j5⟩ := hJ
  obtain ⟨T1, hp, hT1⟩ := j5 rfl
  have HE := Lib.hid hp
  have HE2 := Lib.hid j2
  have HE3 := Lib.hid hT1
  clear hp j2 hT1 j5
  go_wp2
  go_ret
  refine ⟨rfl, q', T1, HE.out, ⟨(Chg.of_below HAL.out).trans HE2.out, fun k hk => (HE3.out k hk).imp id (fun h => ?_)⟩, HJ2.out⟩
  have := HAL.out.size
  omega
end Go.Proofs.YtabdipfpfbdghaaGreat
