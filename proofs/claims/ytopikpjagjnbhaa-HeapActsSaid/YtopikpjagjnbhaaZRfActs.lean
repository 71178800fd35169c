/- The law HeapActs, walked. -/
import Derived.Test.YtopikpjagjnbhaaZRfTell
import Derived.Test.YtopikpjagjnbhaaHeapSorts
namespace Go.Proofs.Ytopikpjagjnbhaa
open Go.RowKit
variable {w0 w : World} {b mb n : Nat} {h : HV} {ids : List Nat} {keys : List Int} {TT : Nat → Prop}
theorem clen (P : Ph w0 w b mb n h ids keys TT) (h0 : 0 < n) :
    Calls Try.prog 12 #[.pointer (some ⟨b, 0, none⟩)] w fun e w' => e = .returned (.int .i64 h.ids.length) ∧ w = w' := by
  obtain ⟨S, v1, v2, ⟨gk, gp, ck, cp, iv, H1, H2, _⟩, h2, h3, h4⟩ := P
  exact hlen H1 h0
theorem csound (P : Ph w0 w b mb n h ids keys TT) (hn : n ≤ 4096) (h0 : 0 < n) :
    Calls Try.prog 18 #[.pointer (some ⟨b, 0, none⟩)] w fun e w' => e = .returned (.bool true) ∧ Hid (Below w.heap.size w w') := by
  obtain ⟨S, v1, v2, h1, h2, h3, h4⟩ := P
  exact zsound h1 hn h0
theorem Ph.idsBox (P : Ph w0 w b mb n h ids keys TT) (Q : PR h ids keys) : ∃ A c, w.cell? ⟨mb, 1, none⟩ = some (.slice A h.ids.length c) ∧ Rds w 1 A h.ids.length c (nums .i64 (zs (byKeys h.ks h.ids))) := by
  obtain ⟨S, v1, v2, h1, R, h3, h4⟩ := P
  have h5 := R.io
  rw [Q.len] at h5
  obtain ⟨A, c, rfl, hr⟩ := own_rds h5
  rw [Q.i] at hr
  exact ⟨A, c, R.ib.cell, hr⟩
/-- What stands behind act. -/
def AW (w0 : World) (b mb n : Nat) (l m q : Option Value) (W : World) : Prop := ∃ h' ids' keys' T1, Ph w0 W b mb n h' ids' keys' T1 ∧ PR h' ids' keys' ∧ KR h' ∧ (∀ u, l = some u → u = .int .i64 h'.ids.length) ∧ (∀ u, m = some u → ∃ A c, u = .slice A h'.ids.length c) ∧ (∀ u, q = some u → u = .int .i64 h'.ids.length)
theorem AW.below {l m q : Option Value} {W W' : World} (h : AW w0 b mb n l m q W) (hb : Below W.heap.size W W') : AW w0 b mb n l m q W' := by
  obtain ⟨h', ids', keys', T1, h1, h2⟩ := h
  exact ⟨h', ids', keys', T1, h1.below hb, h2⟩
set_option maxRecDepth 100000 in
set_option maxHeartbeats 8000000 in
theorem hacts_walk (nn : Nat) (A : Option Addr) (n c : Nat) (l : List Ac3) (w : World) (hr : Rds w 3 A n c (acs3 l)) (hky : ∀ a ∈ l, I64 a.tk) (hn : n ≤ 200) (hm1 : 1 ≤ nn) (hm2 : nn ≤ 4096) : Calls Try.prog 5 #[.int .i64 nn, .slice A n c] w fun e w' => e = .returned (.bool true) ∧ Below w.heap.size w w' := by
  have HL := Lib.hid (fun W => lives06 W)
  have HLN : Hid (l.length = n) := by show _ = _; have := hr.len; rw [acs3_len] at this; omega
  have HN := Lib.hid (hnew nn nn rfl w hm1 hm2)
  have HR := Lib.hid (fun W => rfnew (nn : Int) W (by omega) (by omega))
  have h3 : ¬ (200 : Int) < (n : Int) := by omega
  have HRD := Lib.hid hr
  have HKY := Lib.hid hky
  clear hr hky
  go_enter Try.func5, Try.ntmps5
  go_wp2_with (first
    | (go_at_call 9; (with_reducible refine HN.out.mono ?_); rintro e w1 ⟨⟨v, rfl, hv⟩, hb1⟩; obtain ⟨b, rfl, hX0⟩ := Hx.made hv hb1; have HX0 := Lib.hid hX0; clear hv hb1 hX0)
    | (go_at_call 19; (with_reducible refine (HR.out _).mono ?_); rintro e w2 ⟨rfl, hrf, hb2⟩; obtain ⟨T0, hp, hpr⟩ := ph_new HX0.out rfl hb2.out hrf.out; have HP0 := Lib.hid hp; have HQ0 := Lib.hid hpr; clear hrf hb2 hp hpr))
  obtain ⟨mb, hmb⟩ : ∃ x, x = w1.heap.size := ⟨_, rfl⟩
  rw [← hmb] at HP0 ⊢
  clear hmb HX0 HN HR
  go_loopw [37] (fun i wr => ∃ (k : Nat) (h : HV) (ids : List Nat) (keys : List Int) (T : Nat → Prop), k ≤ n ∧ i = .int .i64 k ∧ Hid (Ph w wr b mb nn h ids keys T) ∧ Hid (PR h ids keys) ∧ Hid (KR h)) (fun i _ => n - (intOf i).toNat)
  case atStart => exact ⟨0, _, [], [], T0, Nat.zero_le _, rfl, HP0, HQ0, Lib.hid (fun x hx => by cases hx)⟩
  case round =>
    obtain ⟨k, h, ids, keys, TT, hk, rfl, HP, HQ, HK⟩ := hrel
    clear HP0 HQ0
    by_cases hlt : k < n
    · have hkx : k < l.length := by rw [HLN.out]; exact hlt
      obtain ⟨ad, rfl⟩ := HRD.out.some_ (by omega)
      obtain ⟨h0, h1, h2⟩ := ac3_read (HRD.out.below HP.out.bl) k l[k] (List.getElem?_eq_getElem hkx)
      have hty := HKY.out l[k] (List.getElem_mem hkx)
      generalize l[k] = y at h0 h1 h2 hty
      obtain ⟨kd, id, tk⟩ := y
      simp only at h0 h1 h2 hty
      have hlt' : (k : Int) < (n : Int) := by omega
      have HA := Lib.hid (fun W (P2 : Ph w W b mb nn h ids keys TT) => actR P2 HQ.out HK.out (by omega) (by omega) kd id tk hty)
      unfold ac06 AR at HA
      obtain ⟨W5, hW5⟩ : ∃ W5, W5 = wr.alloc (.cells #[.int .i64 kd, .int .i64 id, .int .i64 tk] (44 : Nat)) := ⟨_, rfl⟩
      have hal : Below wr.heap.size wr W5 := by rw [hW5]; exact below_al (Below.refl _ _) _
      have x0 : W5.cell? ⟨wr.heap.size, 0, none⟩ = some (.int .i64 kd) := by rw [hW5]; go_simp
      have x1 : W5.cell? ⟨wr.heap.size, 1, none⟩ = some (.int .i64 id) := by rw [hW5]; go_simp
      have x2 : W5.cell? ⟨wr.heap.size, 2, none⟩ = some (.int .i64 tk) := by rw [hW5]; go_simp
      have HP5 := Lib.hid (HP.out.below hal)
      have hTN : ¬ TT wr.heap.size := fun e => by have := HP.out.lt e; omega
      obtain ⟨N, hN⟩ : ∃ N, N = wr.heap.size := ⟨_, rfl⟩
      rw [← hN] at x0 x1 x2 hTN
      have HW5 := Lib.hid hW5
      have HNN := Lib.hid hN
      clear hal hW5 hN hty
      go_wp2_with fail
      rw [← HW5.out, ← HNN.out]
      clear h0 h1 h2
      obtain ⟨G, hG⟩ : ∃ G : Option Value → Option Value → Option Value → Option Value → Option Value → Option Value → Option Value → World → Prop, ∀ a k5 k7 k10 l m q W, G a k5 k7 k10 l m q W = (((k5.isSome = true → a.isSome = true) ∧ (k7.isSome = true → a.isSome = true) ∧ (k10.isSome = true → a.isSome = true) ∧ (l.isSome = true → a.isSome = true) ∧ (m.isSome = true → a.isSome = true) ∧ (q.isSome = true → a.isSome = true)) ∧ Chg TT W5 W ∧ (a = none → Ph w W b mb nn h ids keys TT) ∧ (a.isSome = true → AW w b mb nn l m q W)) := ⟨_, fun _ _ _ _ _ _ _ _ => rfl⟩
      obtain ⟨S_, hS_⟩ : ∃ S_ : World → World → Prop, S_ = (Chg TT) := ⟨_, rfl⟩
      have hR_ : ∀ W, S_ W W := by intro W; rw [hS_]; exact Chg.refl _ _
      obtain ⟨T, hT⟩ : ∃ T : Nat → FactS S_, ∀ t_, T t_ = ([FactS.eq (.pointer (some ⟨b, 0, none⟩)), FactS.eq (.pointer (some ⟨mb, 0, none⟩)), FactS.eq (.agg #[.int .i64 kd, .int .i64 id, .int .i64 tk]), FactS.eq (.bool true), FactS.eq (.bool false), FactS.eq (.bool false), FactS.eq (.pointer (some ⟨b, 0, none⟩)), FactS.eq (.bool true), FactS.eq (.bool false), FactS.eq (.bool false), FactS.eq (.bool false), FactS.eq (.pointer (some ⟨b, 0, none⟩)), FactS.any, FactS.eq (.pointer (some ⟨mb, 0, none⟩)), FactS.eq (.pointer (some ⟨mb, 0, none⟩)), FactS.eq (.pointer (some ⟨mb, 1, none⟩)), FactS.any, FactS.any, FactS.eq (.bool false), FactS.eq (.bool false)] : List (FactS S_)).getD t_ FactS.any := ⟨_, fun _ => rfl⟩
      have hP_ : ∀ i_ v_ (y_ : Nat → Option Value) W_, ([3, 5, 7, 10, 12, 16, 17].contains i_) = false → G (y_ 3) (y_ 5) (y_ 7) (y_ 10) (y_ 12) (y_ 16) (y_ 17) W_ → G (updY y_ i_ v_ 3) (updY y_ i_ v_ 5) (updY y_ i_ v_ 7) (updY y_ i_ v_ 10) (updY y_ i_ v_ 12) (updY y_ i_ v_ 16) (updY y_ i_ v_ 17) W_ := by
        intro i_ v_ y_ W_ hi_ h_
        simp only [List.contains_cons, List.contains_nil, Bool.or_false, Bool.or_eq_false_iff, beq_eq_false_iff_ne, ne_eq] at hi_
        obtain ⟨i3_, i5_, i7_, i10_, i12_, i16_, i17_⟩ := hi_
        rw [updY_ne y_ i_ v_ i3_, updY_ne y_ i_ v_ i5_, updY_ne y_ i_ v_ i7_, updY_ne y_ i_ v_ i10_, updY_ne y_ i_ v_ i12_, updY_ne y_ i_ v_ i16_, updY_ne y_ i_ v_ i17_]
        exact h_
      refine region_tabJ [(0, 41), (1, 42), (2, 43), (3, 44), (4, 45), (5, 46), (6, 47), (7, 48), (8, 49), (9, 50), (10, 51), (11, 52), (12, 53), (13, 54), (14, 55), (15, 56), (16, 57), (17, 58), (18, 59), (19, 60)] S_ T (fun y_ W_ => G (y_ 3) (y_ 5) (y_ 7) (y_ 10) (y_ 12) (y_ 16) (y_ 17) W_) (by kernel_rfl) (by kernel_rfl) (by kernel_rfl) (by kernel_rfl) (by kernel_rfl) ?_ ?_ ?_
      · skip
        show G none none none none none none none _
        rw [hG]
        exact ⟨⟨(fun h => by cases h), (fun h => by cases h), (fun h => by cases h), (fun h => by cases h), (fun h => by cases h), (fun h => by cases h)⟩, (Chg.refl _ _).drewN 1, fun _ => HP5.out.below (below_dr (Below.refl _ _) 1), (fun h => by cases h)⟩
      · skip
        refine stepsAll_cons (k := 0) ?_ ?_
        · intro fa fx fW fy hF hN hJ hE K fK
          have hJ : G (fy 3) (fy 5) (fy 7) (fy 10) (fy 12) (fy 16) (fy 17) fW := hJ
          have ev5 : fa.tmps[5]?.getD undef = .pointer (some ⟨b, 0, none⟩) := hF.eo 5 (by kernel_rfl)
          refine wpOp_val rfl (wanted_none rfl) ?_ (fK (.pointer (some ⟨b, 0, none⟩)) fW (hR_ fW) (by rw [hT]; exact rfl) (hP_ 0 _ fy fW rfl hJ))
          clear fK hE hF hJ hN
          go_simp
        refine stepsAll_cons (k := 1) ?_ ?_
        · intro fa fx fW fy hF hN hJ hE K fK
          have hJ : G (fy 3) (fy 5) (fy 7) (fy 10) (fy 12) (fy 16) (fy 17) fW := hJ
          have ev6 : fa.tmps[6]?.getD undef = .pointer (some ⟨mb, 0, none⟩) := hF.eo 6 (by kernel_rfl)
          refine wpOp_val rfl (wanted_none rfl) ?_ (fK (.pointer (some ⟨mb, 0, none⟩)) fW (hR_ fW) (by rw [hT]; exact rfl) (hP_ 1 _ fy fW rfl hJ))
          clear fK hE hF hJ hN
          go_simp
        refine stepsAll_cons (k := 2) ?_ ?_
        · intro fa fx fW fy hF hN hJ hE K fK
          have hJ : G (fy 3) (fy 5) (fy 7) (fy 10) (fy 12) (fy 16) (fy 17) fW := hJ
          have ev8 : fa.tmps[8]?.getD undef = .pointer (some ⟨N, 0, none⟩) := hF.eo 8 (by kernel_rfl)
          have hJ1 := hJ
          rw [hG] at hJ1
          have z0 := hJ1.2.1.cell x0 hTN
          have z1 := hJ1.2.1.cell x1 hTN
          have z2 := hJ1.2.1.cell x2 hTN
          clear hJ1
          refine wpOp_val rfl (wanted_none rfl) ?_ (fK (.agg #[.int .i64 kd, .int .i64 id, .int .i64 tk]) fW (hR_ fW) (by rw [hT]; exact rfl) (hP_ 2 _ fy fW rfl hJ))
          clear fK hE hF hJ hN
          go_simp
        refine stepsAll_cons (k := 3) ?_ ?_
        · intro fa fx fW fy hF hN hJ hE K fK
          have hJ : G (fy 3) (fy 5) (fy 7) (fy 10) (fy 12) (fy 16) (fy 17) fW := hJ
          have q0 : fx 0 = .pointer (some ⟨b, 0, none⟩) := by have q := (hE ⟨0, .data⟩ (by simp) rfl).2; rw [hT] at q; exact q
          have q1 : fx 1 = .pointer (some ⟨mb, 0, none⟩) := by have q := (hE ⟨1, .data⟩ (by simp) rfl).2; rw [hT] at q; exact q
          have q2 : fx 2 = .agg #[.int .i64 kd, .int .i64 id, .int .i64 tk] := by have q := (hE ⟨2, .data⟩ (by simp) rfl).2; rw [hT] at q; exact q
          have ev41 : fa.tmps[41]?.getD undef = .pointer (some ⟨b, 0, none⟩) := (hF.ev 0 41 (by kernel_rfl)).trans q0
          have ev42 : fa.tmps[42]?.getD undef = .pointer (some ⟨mb, 0, none⟩) := (hF.ev 1 42 (by kernel_rfl)).trans q1
          have ev43 : fa.tmps[43]?.getD undef = .agg #[.int .i64 kd, .int .i64 id, .int .i64 tk] := (hF.ev 2 43 (by kernel_rfl)).trans q2
          refine wpOp_call rfl (wanted_none rfl) (by go_simp; exact ⟨rfl, rfl⟩) ?_
          rw [hG, hN] at hJ
          obtain ⟨⟨i1, i2, i3, i4, i5, i6⟩, j1, j2, j3⟩ := hJ
          have a5 : fy 5 = none := by cases h : fy 5 with | none => rfl | some u => rw [h] at i1; exact absurd (i1 rfl) (by simp)
          have a7 : fy 7 = none := by cases h : fy 7 with | none => rfl | some u => rw [h] at i2; exact absurd (i2 rfl) (by simp)
          have a10 : fy 10 = none := by cases h : fy 10 with | none => rfl | some u => rw [h] at i3; exact absurd (i3 rfl) (by simp)
          have a12 : fy 12 = none := by cases h : fy 12 with | none => rfl | some u => rw [h] at i4; exact absurd (i4 rfl) (by simp)
          have a16 : fy 16 = none := by cases h : fy 16 with | none => rfl | some u => rw [h] at i5; exact absurd (i5 rfl) (by simp)
          have a17 : fy 17 = none := by cases h : fy 17 with | none => rfl | some u => rw [h] at i6; exact absurd (i6 rfl) (by simp)
          refine (HA.out _ (j2 rfl)).mono ?_
          rintro e w' ⟨rfl, h', ids', keys', T1, p1, p2, p3, p4⟩
          refine ⟨_, rfl, fK (.bool true) w' (by rw [hS_]; exact p4.1) (by rw [hT]; exact rfl) ?_⟩
          show G (some _) (fy 5) (fy 7) (fy 10) (fy 12) (fy 16) (fy 17) w'
          rw [hG, a5, a7, a10, a12, a16, a17]
          exact ⟨⟨(fun _ => rfl), (fun _ => rfl), (fun _ => rfl), (fun _ => rfl), (fun _ => rfl), (fun _ => rfl)⟩, j1.trans p4.1, (fun e => by cases e), fun _ => ⟨h', ids', keys', T1, p1, p2, p3, (fun u e => by cases e), (fun u e => by cases e), (fun u e => by cases e)⟩⟩
        refine stepsAll_cons (k := 4) ?_ ?_
        · intro fa fx fW fy hF hN hJ hE K fK
          have hJ : G (fy 3) (fy 5) (fy 7) (fy 10) (fy 12) (fy 16) (fy 17) fW := hJ
          have q3 : fx 3 = .bool true := by have q := (hE ⟨3, .data⟩ (by simp) rfl).2; rw [hT] at q; exact q
          have y3 : fy 3 = some (fx 3) := (hE ⟨3, .data⟩ (by simp) rfl).1
          have ev44 : fa.tmps[44]?.getD undef = .bool true := (hF.ev 3 44 (by kernel_rfl)).trans q3
          refine wpOp_val rfl (wanted_none rfl) ?_ (fK (.bool false) fW (hR_ fW) (by rw [hT]; exact rfl) (hP_ 4 _ fy fW rfl hJ))
          clear fK hE hF hJ hN
          go_simp
        refine stepsAll_cons (k := 5) ?_ ?_
        · intro fa fx fW fy hF hN hJ hE K fK
          have hJ : G (fy 3) (fy 5) (fy 7) (fy 10) (fy 12) (fy 16) (fy 17) fW := hJ
          have q3 : fx 3 = .bool true := by have q := (hE ⟨3, .chain⟩ (by simp) rfl).2; rw [hT] at q; exact q
          have y3 : fy 3 = some (fx 3) := (hE ⟨3, .chain⟩ (by simp) rfl).1
          have q4 : fx 4 = .bool false := by have q := (hE ⟨4, .data⟩ (by simp) rfl).2; rw [hT] at q; exact q
          have ev45 : fa.tmps[45]?.getD undef = .bool false := (hF.ev 4 45 (by kernel_rfl)).trans q4
          rw [hG, hN, y3] at hJ
          obtain ⟨⟨i1, i2, i3, i4, i5, i6⟩, j1, j2, j3⟩ := hJ
          refine wpOp_val rfl (wanted_none rfl) (v := .bool false) (by clear fK hE hF hN i1 i2 i3 i4 i5 i6 j1 j2 j3; go_simp) (fK _ _ (hR_ fW) (by rw [hT]; exact rfl) ?_)
          show G (fy 3) (some _) (fy 7) (fy 10) (fy 12) (fy 16) (fy 17) fW
          rw [hG, y3]
          exact ⟨⟨(fun _ => rfl), i2, i3, i4, i5, i6⟩, j1, j2, j3⟩
        refine stepsAll_cons (k := 6) ?_ ?_
        · intro fa fx fW fy hF hN hJ hE K fK
          have hJ : G (fy 3) (fy 5) (fy 7) (fy 10) (fy 12) (fy 16) (fy 17) fW := hJ
          have q5 : fx 5 = .bool false := by have q := (hE ⟨5, .guard⟩ (by simp) rfl).2; rw [hT] at q; exact q
          have y5 : fy 5 = some (fx 5) := (hE ⟨5, .guard⟩ (by simp) rfl).1
          have ev5 : fa.tmps[5]?.getD undef = .pointer (some ⟨b, 0, none⟩) := hF.eo 5 (by kernel_rfl)
          refine wpOp_val rfl (wanted_not rfl (hF.yes 5 46 (by kernel_rfl) false q5)) ?_ (fK (.pointer (some ⟨b, 0, none⟩)) fW (hR_ fW) (by rw [hT]; exact rfl) (hP_ 6 _ fy fW rfl hJ))
          clear fK hE hF hJ hN
          go_simp
        refine stepsAll_cons (k := 7) ?_ ?_
        · intro fa fx fW fy hF hN hJ hE K fK
          have hJ : G (fy 3) (fy 5) (fy 7) (fy 10) (fy 12) (fy 16) (fy 17) fW := hJ
          have q5 : fx 5 = .bool false := by have q := (hE ⟨5, .chain⟩ (by simp) rfl).2; rw [hT] at q; exact q
          have y5 : fy 5 = some (fx 5) := (hE ⟨5, .chain⟩ (by simp) rfl).1
          have q6 : fx 6 = .pointer (some ⟨b, 0, none⟩) := by have q := (hE ⟨6, .data⟩ (by simp) rfl).2; rw [hT] at q; exact q
          have ev47 : fa.tmps[47]?.getD undef = .pointer (some ⟨b, 0, none⟩) := (hF.ev 6 47 (by kernel_rfl)).trans q6
          refine wpOp_call rfl (wanted_not rfl (hF.yes 5 46 (by kernel_rfl) false q5)) (by go_simp; exact ⟨rfl, rfl⟩) ?_
          rw [hG, hN, y5] at hJ
          obtain ⟨⟨i1, i2, i3, i4, i5, i6⟩, j1, j2, j3⟩ := hJ
          obtain ⟨h', ids', keys', T1, p1, p2⟩ := j3 (i1 rfl)
          refine (csound p1 (by omega) (by omega)).mono ?_
          rintro e w' ⟨rfl, hbb⟩
          refine ⟨_, rfl, fK (.bool true) w' (by rw [hS_]; exact Chg.of_below hbb.out) (by rw [hT]; exact rfl) ?_⟩
          show G (fy 3) (fy 5) (some _) (fy 10) (fy 12) (fy 16) (fy 17) w'
          rw [hG, y5]
          exact ⟨⟨i1, (fun _ => i1 rfl), i3, i4, i5, i6⟩, j1.trans (Chg.of_below hbb.out), (fun e => (j2 e).below hbb.out), fun e => (j3 e).below hbb.out⟩
        refine stepsAll_cons (k := 8) ?_ ?_
        · intro fa fx fW fy hF hN hJ hE K fK
          have hJ : G (fy 3) (fy 5) (fy 7) (fy 10) (fy 12) (fy 16) (fy 17) fW := hJ
          have q5 : fx 5 = .bool false := by have q := (hE ⟨5, .guard⟩ (by simp) rfl).2; rw [hT] at q; exact q
          have y5 : fy 5 = some (fx 5) := (hE ⟨5, .guard⟩ (by simp) rfl).1
          have q7 : fx 7 = .bool true := by have q := (hE ⟨7, .data⟩ (by simp) rfl).2; rw [hT] at q; exact q
          have y7 : fy 7 = some (fx 7) := (hE ⟨7, .data⟩ (by simp) rfl).1
          have ev48 : fa.tmps[48]?.getD undef = .bool true := (hF.ev 7 48 (by kernel_rfl)).trans q7
          refine wpOp_val rfl (wanted_not rfl (hF.yes 5 46 (by kernel_rfl) false q5)) ?_ (fK (.bool false) fW (hR_ fW) (by rw [hT]; exact rfl) (hP_ 8 _ fy fW rfl hJ))
          clear fK hE hF hJ hN
          go_simp
        refine stepsAll_cons (k := 9) ?_ ?_
        · intro fa fx fW fy hF hN hJ hE K fK
          have hJ : G (fy 3) (fy 5) (fy 7) (fy 10) (fy 12) (fy 16) (fy 17) fW := hJ
          have q5 : fx 5 = .bool false := by have q := (hE ⟨5, .data⟩ (by simp) rfl).2; rw [hT] at q; exact q
          have y5 : fy 5 = some (fx 5) := (hE ⟨5, .data⟩ (by simp) rfl).1
          have q8 : fx 8 = .bool false := by have q := (hE ⟨8, .data⟩ (by simp) rfl).2; rw [hT] at q; exact q
          have ev46 : fa.tmps[46]?.getD undef = .bool false := (hF.ev 5 46 (by kernel_rfl)).trans q5
          have ev49 : fa.tmps[49]?.getD undef = .bool false := (hF.ev 8 49 (by kernel_rfl)).trans q8
          refine wpOp_val rfl (wanted_none rfl) ?_ (fK (.bool false) fW (hR_ fW) (by rw [hT]; exact rfl) (hP_ 9 _ fy fW rfl hJ))
          clear fK hE hF hJ hN
          go_simp
        refine stepsAll_cons (k := 10) ?_ ?_
        · intro fa fx fW fy hF hN hJ hE K fK
          have hJ : G (fy 3) (fy 5) (fy 7) (fy 10) (fy 12) (fy 16) (fy 17) fW := hJ
          have q7 : fx 7 = .bool true := by have q := (hE ⟨7, .chain⟩ (by simp) rfl).2; rw [hT] at q; exact q
          have y7 : fy 7 = some (fx 7) := (hE ⟨7, .chain⟩ (by simp) rfl).1
          have q9 : fx 9 = .bool false := by have q := (hE ⟨9, .data⟩ (by simp) rfl).2; rw [hT] at q; exact q
          have ev50 : fa.tmps[50]?.getD undef = .bool false := (hF.ev 9 50 (by kernel_rfl)).trans q9
          rw [hG, hN, y7] at hJ
          obtain ⟨⟨i1, i2, i3, i4, i5, i6⟩, j1, j2, j3⟩ := hJ
          refine wpOp_val rfl (wanted_none rfl) (v := .bool false) (by clear fK hE hF hN i1 i2 i3 i4 i5 i6 j1 j2 j3; go_simp) (fK _ _ (hR_ fW) (by rw [hT]; exact rfl) ?_)
          show G (fy 3) (fy 5) (fy 7) (some _) (fy 12) (fy 16) (fy 17) fW
          rw [hG, y7]
          exact ⟨⟨i1, i2, (fun _ => i2 rfl), i4, i5, i6⟩, j1, j2, j3⟩
        refine stepsAll_cons (k := 11) ?_ ?_
        · intro fa fx fW fy hF hN hJ hE K fK
          have hJ : G (fy 3) (fy 5) (fy 7) (fy 10) (fy 12) (fy 16) (fy 17) fW := hJ
          have q10 : fx 10 = .bool false := by have q := (hE ⟨10, .guard⟩ (by simp) rfl).2; rw [hT] at q; exact q
          have y10 : fy 10 = some (fx 10) := (hE ⟨10, .guard⟩ (by simp) rfl).1
          have ev5 : fa.tmps[5]?.getD undef = .pointer (some ⟨b, 0, none⟩) := hF.eo 5 (by kernel_rfl)
          refine wpOp_val rfl (wanted_not rfl (hF.yes 10 51 (by kernel_rfl) false q10)) ?_ (fK (.pointer (some ⟨b, 0, none⟩)) fW (hR_ fW) (by rw [hT]; exact rfl) (hP_ 11 _ fy fW rfl hJ))
          clear fK hE hF hJ hN
          go_simp
        refine stepsAll_cons (k := 12) ?_ ?_
        · intro fa fx fW fy hF hN hJ hE K fK
          have hJ : G (fy 3) (fy 5) (fy 7) (fy 10) (fy 12) (fy 16) (fy 17) fW := hJ
          have q10 : fx 10 = .bool false := by have q := (hE ⟨10, .chain⟩ (by simp) rfl).2; rw [hT] at q; exact q
          have y10 : fy 10 = some (fx 10) := (hE ⟨10, .chain⟩ (by simp) rfl).1
          have q11 : fx 11 = .pointer (some ⟨b, 0, none⟩) := by have q := (hE ⟨11, .data⟩ (by simp) rfl).2; rw [hT] at q; exact q
          have ev52 : fa.tmps[52]?.getD undef = .pointer (some ⟨b, 0, none⟩) := (hF.ev 11 52 (by kernel_rfl)).trans q11
          refine wpOp_call rfl (wanted_not rfl (hF.yes 10 51 (by kernel_rfl) false q10)) (by go_simp; exact ⟨rfl, rfl⟩) ?_
          rw [hG, hN, y10] at hJ
          obtain ⟨⟨i1, i2, i3, i4, i5, i6⟩, j1, j2, j3⟩ := hJ
          obtain ⟨h', ids', keys', T1, p1, p2, p3, p4, p5, p6⟩ := j3 (i3 rfl)
          refine (clen p1 (by omega)).mono ?_
          rintro e w' ⟨rfl, rfl⟩
          refine ⟨_, rfl, fK (.int .i64 h'.ids.length) fW (hR_ fW) (by rw [hT]; exact trivial) ?_⟩
          show G (fy 3) (fy 5) (fy 7) (fy 10) (some _) (fy 16) (fy 17) fW
          rw [hG, y10]
          exact ⟨⟨i1, i2, i3, (fun _ => i3 rfl), i5, i6⟩, j1, j2, fun _ => ⟨h', ids', keys', T1, p1, p2, p3, (fun u e => by cases e; rfl), p5, p6⟩⟩
        refine stepsAll_cons (k := 13) ?_ ?_
        · intro fa fx fW fy hF hN hJ hE K fK
          have hJ : G (fy 3) (fy 5) (fy 7) (fy 10) (fy 12) (fy 16) (fy 17) fW := hJ
          have q10 : fx 10 = .bool false := by have q := (hE ⟨10, .guard⟩ (by simp) rfl).2; rw [hT] at q; exact q
          have y10 : fy 10 = some (fx 10) := (hE ⟨10, .guard⟩ (by simp) rfl).1
          have ev6 : fa.tmps[6]?.getD undef = .pointer (some ⟨mb, 0, none⟩) := hF.eo 6 (by kernel_rfl)
          refine wpOp_val rfl (wanted_not rfl (hF.yes 10 51 (by kernel_rfl) false q10)) ?_ (fK (.pointer (some ⟨mb, 0, none⟩)) fW (hR_ fW) (by rw [hT]; exact rfl) (hP_ 13 _ fy fW rfl hJ))
          clear fK hE hF hJ hN
          go_simp
        refine stepsAll_cons (k := 14) ?_ ?_
        · intro fa fx fW fy hF hN hJ hE K fK
          have hJ : G (fy 3) (fy 5) (fy 7) (fy 10) (fy 12) (fy 16) (fy 17) fW := hJ
          have q10 : fx 10 = .bool false := by have q := (hE ⟨10, .guard⟩ (by simp) rfl).2; rw [hT] at q; exact q
          have y10 : fy 10 = some (fx 10) := (hE ⟨10, .guard⟩ (by simp) rfl).1
          have q13 : fx 13 = .pointer (some ⟨mb, 0, none⟩) := by have q := (hE ⟨13, .data⟩ (by simp) rfl).2; rw [hT] at q; exact q
          have ev54 : fa.tmps[54]?.getD undef = .pointer (some ⟨mb, 0, none⟩) := (hF.ev 13 54 (by kernel_rfl)).trans q13
          refine wpOp_val rfl (wanted_not rfl (hF.yes 10 51 (by kernel_rfl) false q10)) ?_ (fK (.pointer (some ⟨mb, 0, none⟩)) fW (hR_ fW) (by rw [hT]; exact rfl) (hP_ 14 _ fy fW rfl hJ))
          clear fK hE hF hJ hN
          go_simp
        refine stepsAll_cons (k := 15) ?_ ?_
        · intro fa fx fW fy hF hN hJ hE K fK
          have hJ : G (fy 3) (fy 5) (fy 7) (fy 10) (fy 12) (fy 16) (fy 17) fW := hJ
          have q10 : fx 10 = .bool false := by have q := (hE ⟨10, .guard⟩ (by simp) rfl).2; rw [hT] at q; exact q
          have y10 : fy 10 = some (fx 10) := (hE ⟨10, .guard⟩ (by simp) rfl).1
          have q14 : fx 14 = .pointer (some ⟨mb, 0, none⟩) := by have q := (hE ⟨14, .data⟩ (by simp) rfl).2; rw [hT] at q; exact q
          have ev55 : fa.tmps[55]?.getD undef = .pointer (some ⟨mb, 0, none⟩) := (hF.ev 14 55 (by kernel_rfl)).trans q14
          refine wpOp_val rfl (wanted_not rfl (hF.yes 10 51 (by kernel_rfl) false q10)) ?_ (fK (.pointer (some ⟨mb, 1, none⟩)) fW (hR_ fW) (by rw [hT]; exact rfl) (hP_ 15 _ fy fW rfl hJ))
          clear fK hE hF hJ hN
          go_simp
        refine stepsAll_cons (k := 16) ?_ ?_
        · intro fa fx fW fy hF hN hJ hE K fK
          have hJ : G (fy 3) (fy 5) (fy 7) (fy 10) (fy 12) (fy 16) (fy 17) fW := hJ
          have q10 : fx 10 = .bool false := by have q := (hE ⟨10, .guard⟩ (by simp) rfl).2; rw [hT] at q; exact q
          have y10 : fy 10 = some (fx 10) := (hE ⟨10, .guard⟩ (by simp) rfl).1
          have q15 : fx 15 = .pointer (some ⟨mb, 1, none⟩) := by have q := (hE ⟨15, .data⟩ (by simp) rfl).2; rw [hT] at q; exact q
          have ev56 : fa.tmps[56]?.getD undef = .pointer (some ⟨mb, 1, none⟩) := (hF.ev 15 56 (by kernel_rfl)).trans q15
          rw [hG, hN, y10] at hJ
          obtain ⟨⟨i1, i2, i3, i4, i5, i6⟩, j1, j2, j3⟩ := hJ
          obtain ⟨h', ids', keys', T1, p1, p2, p3, p4, p5, p6⟩ := j3 (i3 rfl)
          obtain ⟨Ai, ci, hci, _⟩ := p1.idsBox p2
          refine wpOp_val rfl (wanted_not rfl (hF.yes 10 51 (by kernel_rfl) false q10)) (v := .slice Ai h'.ids.length ci) (by clear fK hE hF hN i1 i2 i3 i4 i5 i6 j1 j2 j3 p1 p2 p3 p4 p5 p6; go_simp) (fK _ _ (hR_ fW) (by rw [hT]; exact trivial) ?_)
          show G (fy 3) (fy 5) (fy 7) (fy 10) (fy 12) (some _) (fy 17) fW
          rw [hG, y10]
          exact ⟨⟨i1, i2, i3, i4, (fun _ => i3 rfl), i6⟩, j1, j2, fun _ => ⟨h', ids', keys', T1, p1, p2, p3, p4, (fun u e => by cases e; exact ⟨Ai, ci, rfl⟩), p6⟩⟩
        refine stepsAll_cons (k := 17) ?_ ?_
        · intro fa fx fW fy hF hN hJ hE K fK
          have hJ : G (fy 3) (fy 5) (fy 7) (fy 10) (fy 12) (fy 16) (fy 17) fW := hJ
          have q10 : fx 10 = .bool false := by have q := (hE ⟨10, .guard⟩ (by simp) rfl).2; rw [hT] at q; exact q
          have y10 : fy 10 = some (fx 10) := (hE ⟨10, .guard⟩ (by simp) rfl).1
          have q16 : (FactS.any : FactS S_).p (fx 16) fW := by have q := (hE ⟨16, .data⟩ (by simp) rfl).2; rw [hT] at q; exact q
          have y16 : fy 16 = some (fx 16) := (hE ⟨16, .data⟩ (by simp) rfl).1
          have ev57 : fa.tmps[57]?.getD undef = fx 16 := hF.ev 16 57 (by kernel_rfl)
          rw [hG, hN, y16] at hJ
          obtain ⟨⟨i1, i2, i3, i4, i5, i6⟩, j1, j2, j3⟩ := hJ
          obtain ⟨h', ids', keys', T1, p1, p2, p3, p4, p5, p6⟩ := j3 (i5 rfl)
          obtain ⟨Ai, ci, hci⟩ := p5 _ rfl
          refine wpOp_val rfl (wanted_not rfl (hF.yes 10 51 (by kernel_rfl) false q10)) (v := .int .i64 h'.ids.length) (by clear fK hE hF hN i1 i2 i3 i4 i5 i6 j1 j2 j3 p1 p2 p3 p4 p5 p6; rw [hci] at ev57; go_simp) (fK _ _ (hR_ fW) (by rw [hT]; exact trivial) ?_)
          show G (fy 3) (fy 5) (fy 7) (fy 10) (fy 12) (fy 16) (some _) fW
          rw [hG, y16]
          exact ⟨⟨i1, i2, i3, i4, i5, (fun _ => i5 rfl)⟩, j1, j2, fun _ => ⟨h', ids', keys', T1, p1, p2, p3, p4, p5, (fun u e => by cases e; rfl)⟩⟩
        refine stepsAll_cons (k := 18) ?_ ?_
        · intro fa fx fW fy hF hN hJ hE K fK
          have hJ : G (fy 3) (fy 5) (fy 7) (fy 10) (fy 12) (fy 16) (fy 17) fW := hJ
          have q10 : fx 10 = .bool false := by have q := (hE ⟨10, .guard⟩ (by simp) rfl).2; rw [hT] at q; exact q
          have y10 : fy 10 = some (fx 10) := (hE ⟨10, .guard⟩ (by simp) rfl).1
          have q12 : (FactS.any : FactS S_).p (fx 12) fW := by have q := (hE ⟨12, .data⟩ (by simp) rfl).2; rw [hT] at q; exact q
          have y12 : fy 12 = some (fx 12) := (hE ⟨12, .data⟩ (by simp) rfl).1
          have q17 : (FactS.any : FactS S_).p (fx 17) fW := by have q := (hE ⟨17, .data⟩ (by simp) rfl).2; rw [hT] at q; exact q
          have y17 : fy 17 = some (fx 17) := (hE ⟨17, .data⟩ (by simp) rfl).1
          have ev53 : fa.tmps[53]?.getD undef = fx 12 := hF.ev 12 53 (by kernel_rfl)
          have ev58 : fa.tmps[58]?.getD undef = fx 17 := hF.ev 17 58 (by kernel_rfl)
          have hJ1 := hJ
          rw [hG, y12, y17] at hJ1
          obtain ⟨⟨_, _, _, i4, _, _⟩, _, _, j3⟩ := hJ1
          obtain ⟨h', ids', keys', T1, p1, p2, p3, p4, p5, p6⟩ := j3 (i4 rfl)
          have e12 := p4 _ rfl
          have e17 := p6 _ rfl
          rw [e12] at ev53
          rw [e17] at ev58
          clear p1 p2 p3 p4 p5 p6 j3 i4 e12 e17
          refine wpOp_val rfl (wanted_not rfl (hF.yes 10 51 (by kernel_rfl) false q10)) ?_ (fK (.bool false) fW (hR_ fW) (by rw [hT]; exact rfl) (hP_ 18 _ fy fW rfl hJ))
          clear fK hE hF hJ hN
          go_simp
        refine stepsAll_cons (k := 19) ?_ ?_
        · intro fa fx fW fy hF hN hJ hE K fK
          have hJ : G (fy 3) (fy 5) (fy 7) (fy 10) (fy 12) (fy 16) (fy 17) fW := hJ
          have q10 : fx 10 = .bool false := by have q := (hE ⟨10, .data⟩ (by simp) rfl).2; rw [hT] at q; exact q
          have y10 : fy 10 = some (fx 10) := (hE ⟨10, .data⟩ (by simp) rfl).1
          have q18 : fx 18 = .bool false := by have q := (hE ⟨18, .data⟩ (by simp) rfl).2; rw [hT] at q; exact q
          have ev51 : fa.tmps[51]?.getD undef = .bool false := (hF.ev 10 51 (by kernel_rfl)).trans q10
          have ev59 : fa.tmps[59]?.getD undef = .bool false := (hF.ev 18 59 (by kernel_rfl)).trans q18
          refine wpOp_val rfl (wanted_none rfl) ?_ (fK (.bool false) fW (hR_ fW) (by rw [hT]; exact rfl) (hP_ 19 _ fy fW rfl hJ))
          clear fK hE hF hJ hN
          go_simp
        exact stepsAll_nil
      intro fa fx fW fy hF hJ0 hx
      have y3 : fy 3 = some (fx 3) := (hx 3 (by decide)).1
      have y5 : fy 5 = some (fx 5) := (hx 5 (by decide)).1
      have y7 : fy 7 = some (fx 7) := (hx 7 (by decide)).1
      have y10 : fy 10 = some (fx 10) := (hx 10 (by decide)).1
      have y12 : fy 12 = some (fx 12) := (hx 12 (by decide)).1
      have y16 : fy 16 = some (fx 16) := (hx 16 (by decide)).1
      have y17 : fy 17 = some (fx 17) := (hx 17 (by decide)).1
      have hJ : G (fy 3) (fy 5) (fy 7) (fy 10) (fy 12) (fy 16) (fy 17) fW := hJ0
      clear hJ0
      rw [y3, y5, y7, y10, y12, y16, y17] at hJ
      have q19 : fx 19 = .bool false := by have q := (hx 19 (by decide)).2; rw [hT] at q; exact q
      have ev60 : fa.tmps[60]?.getD undef = .bool false := (hF.ev 19 60 (by kernel_rfl)).trans q19
      rw [hF.eq]
      clear hF hx hT T hP_ hR_ y3 y5 y7 y10 y12 y16 y17
      simp only [putAll, Act.put, List.setIfInBounds_toArray, List.set_cons_zero, List.set_cons_succ, q19]
      rw [hG] at hJ
      obtain ⟨⟨i1, _⟩, j1, _, j3⟩ := hJ
      obtain ⟨h', ids', keys', T1, p1, p2, p3, _⟩ := j3 rfl
      have HP6 := Lib.hid p1
      have HQ6 := Lib.hid p2
      have HK6 := Lib.hid p3
      have HX1 := Lib.hid (j1.cell x1 hTN)
      clear i1 j1 j3 p1 p2 p3 x0 x1 x2 hTN HA HP5
      have HL1 := Lib.hid (fun W (P : Ph w W b mb nn h' ids' keys' T1) => cleast P (by omega))
      have HL2 := Lib.hid (fun W (P : Ph w W b mb nn h' ids' keys' T1) => dleast P HQ6.out)
      have HE1 := Lib.hid (fun W (P : Ph w W b mb nn h' ids' keys' T1) => ckey P (by omega) id)
      have HE2 := Lib.hid (fun W (P : Ph w W b mb nn h' ids' keys' T1) => dkey P HQ6.out (by omega) id)
      generalize leastV h' = lv at HL1 HL2
      obtain ⟨y1, y2, y3⟩ := lv
      generalize keyV nn h' id = kv at HE1 HE2
      obtain ⟨z1, z2⟩ := kv
      simp only at HL1 HL2 HE1 HE2
      go_wp2_with (first
        | (go_at_call 21; (with_reducible refine (HL1.out _ HP6.out).mono ?_); rintro e w3 ⟨rfl, hb3⟩; have HP7 := Lib.hid (HP6.out.below hb3); have HX3 := Lib.hid (cell_below hb3 HX1.out); clear hb3)
        | (go_at_call 22; (with_reducible refine (HL2.out _ HP7.out).mono ?_); rintro e w4 ⟨rfl, hb4⟩; have HP8 := Lib.hid (HP7.out.below hb4); have hx4 := cell_below hb4 HX3.out; clear hb4)
        | (go_at_call 15; (with_reducible refine (HE1.out _ HP8.out).mono ?_); rintro e w5 ⟨rfl, rfl⟩)
        | (go_at_call 23; (with_reducible refine (HE2.out _ HP8.out).mono ?_); rintro e w5 ⟨rfl, rfl⟩))
      go_roundw
      case rel => exact ⟨k + 1, h', ids', keys', T1, by omega, by go_num, HP8, HQ6, HK6⟩
      case measure => simp only [intOf]; omega
    · obtain rfl : n = k := by omega
      have hlt' : ¬ (n : Int) < (n : Int) := by omega
      go_wp2_with fail
      obtain ⟨W5, rfl⟩ : ∃ x, x = wr := ⟨_, rfl⟩
      have HALL := Lib.hid (fun W (P : Ph w W b mb nn h ids keys TT) => (show Calls Try.prog 17 #[.pointer (some ⟨b, 0, none⟩)] W fun e w' => ∃ A m d, e = .returned (.slice A m d) ∧ Rds w' 1 A m d (nums .i64 (zs (byKeys h.ks h.ids))) ∧ Below W.heap.size W w' from (by
        obtain ⟨S, v1, v2, h1, _⟩ := P
        refine (zall h1 (by omega) (by omega)).mono ?_
        rintro e w' ⟨v, rfl, q1, q2⟩
        obtain ⟨A, d, rfl, hr⟩ := own_rds q1.out
        exact ⟨_, _, _, rfl, hr, q2.out⟩)))
      obtain ⟨Ai, ci, hci, hri⟩ := HP.out.idsBox HQ.out
      generalize zs (byKeys h.ks h.ids) = L at HALL hri
      generalize h.ids.length = nl at hci hri
      have HRI := Lib.hid hri
      clear hri
      obtain ⟨T, hT⟩ : ∃ T : Nat → Fact, ∀ t_, T t_ = ([Fact.eq (.pointer (some ⟨b, 0, none⟩)), Fact.row 1 (nums .i64 L), Fact.eq (.pointer (some ⟨mb, 0, none⟩)), Fact.eq (.pointer (some ⟨mb, 0, none⟩)), Fact.eq (.pointer (some ⟨mb, 1, none⟩)), Fact.eq (.slice Ai nl ci), Fact.eq (.bool true), Fact.eq (.bool true), Fact.eq (.bool true), Fact.eq (.bool true), Fact.eq (.bool true)] : List (Fact)).getD t_ Fact.any := ⟨_, fun _ => rfl⟩
      refine region_tab [(0, 111), (1, 112), (2, 113), (3, 114), (4, 115), (5, 116), (6, 117), (7, 118), (8, 119), (9, 120), (10, 4)] T (by kernel_rfl) (by kernel_rfl) (by kernel_rfl) (by kernel_rfl) (by kernel_rfl) ?_ ?_
      · skip
        refine stepsAll_cons (k := 0) ?_ ?_
        · intro fa fx fW hF fB hE K fK
          have ev5 : fa.tmps[5]?.getD undef = .pointer (some ⟨b, 0, none⟩) := hF.eo 5 (by kernel_rfl)
          refine wpOp_val rfl (wanted_none rfl) ?_ (fK (.pointer (some ⟨b, 0, none⟩)) fW (Below.refl _ _) (by rw [hT]; exact rfl))
          clear fK hE hF
          go_simp
        refine stepsAll_cons (k := 1) ?_ ?_
        · intro fa fx fW hF fB hE K fK
          have q0 : fx 0 = .pointer (some ⟨b, 0, none⟩) := by have q := hE ⟨0, .data⟩ (by simp) rfl; rw [hT] at q; exact q
          have ev111 : fa.tmps[111]?.getD undef = .pointer (some ⟨b, 0, none⟩) := (hF.ev 0 111 (by kernel_rfl)).trans q0
          refine wpOp_call rfl (wanted_none rfl) (by go_simp; exact ⟨rfl, rfl⟩) ?_
          refine (HALL.out fW (HP.out.below fB)).mono ?_
          rintro e' w' ⟨A1, n1, c1, rfl, hr1, hb1⟩
          exact ⟨_, rfl, fK (.slice A1 n1 c1) (w') (hb1) (by rw [hT]; exact ⟨A1, n1, c1, rfl, hr1⟩)⟩
        refine stepsAll_cons (k := 2) ?_ ?_
        · intro fa fx fW hF fB hE K fK
          have ev6 : fa.tmps[6]?.getD undef = .pointer (some ⟨mb, 0, none⟩) := hF.eo 6 (by kernel_rfl)
          refine wpOp_val rfl (wanted_none rfl) ?_ (fK (.pointer (some ⟨mb, 0, none⟩)) fW (Below.refl _ _) (by rw [hT]; exact rfl))
          clear fK hE hF
          go_simp
        refine stepsAll_cons (k := 3) ?_ ?_
        · intro fa fx fW hF fB hE K fK
          have q2 : fx 2 = .pointer (some ⟨mb, 0, none⟩) := by have q := hE ⟨2, .data⟩ (by simp) rfl; rw [hT] at q; exact q
          have ev113 : fa.tmps[113]?.getD undef = .pointer (some ⟨mb, 0, none⟩) := (hF.ev 2 113 (by kernel_rfl)).trans q2
          refine wpOp_val rfl (wanted_none rfl) ?_ (fK (.pointer (some ⟨mb, 0, none⟩)) fW (Below.refl _ _) (by rw [hT]; exact rfl))
          clear fK hE hF
          go_simp
        refine stepsAll_cons (k := 4) ?_ ?_
        · intro fa fx fW hF fB hE K fK
          have q3 : fx 3 = .pointer (some ⟨mb, 0, none⟩) := by have q := hE ⟨3, .data⟩ (by simp) rfl; rw [hT] at q; exact q
          have ev114 : fa.tmps[114]?.getD undef = .pointer (some ⟨mb, 0, none⟩) := (hF.ev 3 114 (by kernel_rfl)).trans q3
          refine wpOp_val rfl (wanted_none rfl) ?_ (fK (.pointer (some ⟨mb, 1, none⟩)) fW (Below.refl _ _) (by rw [hT]; exact rfl))
          clear fK hE hF
          go_simp
        refine stepsAll_cons (k := 5) ?_ ?_
        · intro fa fx fW hF fB hE K fK
          have q4 : fx 4 = .pointer (some ⟨mb, 1, none⟩) := by have q := hE ⟨4, .data⟩ (by simp) rfl; rw [hT] at q; exact q
          have ev115 : fa.tmps[115]?.getD undef = .pointer (some ⟨mb, 1, none⟩) := (hF.ev 4 115 (by kernel_rfl)).trans q4
          have zz := cell_below fB hci
          refine wpOp_val rfl (wanted_none rfl) ?_ (fK (.slice Ai nl ci) fW (Below.refl _ _) (by rw [hT]; exact rfl))
          clear fK hE hF
          go_simp
        refine stepsAll_cons (k := 6) ?_ ?_
        · intro fa fx fW hF fB hE K fK
          have q1 : (Fact.row 1 (nums .i64 L)).p (fx 1) fW := by have q := hE ⟨1, .data⟩ (by simp) rfl; rw [hT] at q; exact q
          have q5 : fx 5 = .slice Ai nl ci := by have q := hE ⟨5, .data⟩ (by simp) rfl; rw [hT] at q; exact q
          have ev112 : fa.tmps[112]?.getD undef = fx 1 := hF.ev 1 112 (by kernel_rfl)
          have ev116 : fa.tmps[116]?.getD undef = .slice Ai nl ci := (hF.ev 5 116 (by kernel_rfl)).trans q5
          obtain ⟨A1, n1, c1, e1, hr1⟩ := q1
          rw [e1] at ev112
          refine wpOp_call rfl (wanted_none rfl) (by go_simp; exact ⟨rfl, rfl⟩) ?_
          refine (ints03 A1 n1 c1 L Ai nl ci L fW hr1 (HRI.out.below fB)).mono ?_
          rintro e' w' ⟨h1, hbb⟩
          rw [decide_eq_true rfl] at h1
          subst h1
          exact ⟨_, rfl, fK (.bool true) (w') (hbb) (by rw [hT]; exact rfl)⟩
        refine stepsAll_cons (k := 7) ?_ ?_
        · intro fa fx fW hF fB hE K fK
          have q6 : fx 6 = .bool true := by have q := hE ⟨6, .data⟩ (by simp) rfl; rw [hT] at q; exact q
          have ev117 : fa.tmps[117]?.getD undef = .bool true := (hF.ev 6 117 (by kernel_rfl)).trans q6
          refine wpOp_val rfl (wanted_none rfl) ?_ (fK (.bool true) fW (Below.refl _ _) (by rw [hT]; exact rfl))
          clear fK hE hF
          go_simp
        refine stepsAll_cons (k := 8) ?_ ?_
        · intro fa fx fW hF fB hE K fK
          have q7 : fx 7 = .bool true := by have q := hE ⟨7, .chain⟩ (by simp) rfl; rw [hT] at q; exact q
          refine wpOp_call rfl (wanted_yes rfl (hF.yes 7 118 (by kernel_rfl) true q7)) (by go_simp; exact ⟨rfl, rfl⟩) ?_
          refine (HL.out fW).mono ?_
          rintro e' w' ⟨rfl, hbb⟩
          exact ⟨_, rfl, fK (.bool true) (w') (hbb) (by rw [hT]; exact rfl)⟩
        refine stepsAll_cons (k := 9) ?_ ?_
        · intro fa fx fW hF fB hE K fK
          have q7 : fx 7 = .bool true := by have q := hE ⟨7, .data⟩ (by simp) rfl; rw [hT] at q; exact q
          have q8 : fx 8 = .bool true := by have q := hE ⟨8, .data⟩ (by simp) rfl; rw [hT] at q; exact q
          have ev118 : fa.tmps[118]?.getD undef = .bool true := (hF.ev 7 118 (by kernel_rfl)).trans q7
          have ev119 : fa.tmps[119]?.getD undef = .bool true := (hF.ev 8 119 (by kernel_rfl)).trans q8
          refine wpOp_val rfl (wanted_none rfl) ?_ (fK (.bool true) fW (Below.refl _ _) (by rw [hT]; exact rfl))
          clear fK hE hF
          go_simp
        refine stepsAll_cons (k := 10) ?_ ?_
        · intro fa fx fW hF fB hE K fK
          have q9 : fx 9 = .bool true := by have q := hE ⟨9, .data⟩ (by simp) rfl; rw [hT] at q; exact q
          have ev120 : fa.tmps[120]?.getD undef = .bool true := (hF.ev 9 120 (by kernel_rfl)).trans q9
          refine wpOp_val rfl (wanted_none rfl) ?_ (fK (.bool true) fW (Below.refl _ _) (by rw [hT]; exact rfl))
          clear fK hE hF
          go_simp
        exact stepsAll_nil
      intro fa fx fW hF fB hx
      have q10 : fx 10 = .bool true := by have q := hx 10 (by decide); rw [hT] at q; exact q
      have ev4 : fa.tmps[4]?.getD undef = .bool true := (hF.ev 10 4 (by kernel_rfl)).trans q10
      rw [hF.eq]
      clear hF hx
      simp only [putAll, Act.put, List.setIfInBounds_toArray, List.set_cons_zero, List.set_cons_succ, q10]
      have HB7 := Lib.hid fB
      go_wp2
      go_ret
      exact ⟨rfl, below_then HP.out.bl HP.out.bl.size HB7.out⟩
end Go.Proofs.Ytopikpjagjnbhaa
