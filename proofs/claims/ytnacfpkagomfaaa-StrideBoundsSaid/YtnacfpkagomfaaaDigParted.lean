/- wherryref01: Parted. -/
import Derived.Test.YtnacfpkagomfaaaDigBox
namespace Go.Proofs.Ytnacfpkagomfaaa
open Go.RowKit
def PartR (w : World) (x y : Int) (e : Ending) : Prop := ∃ r1 r2 Q, e = .returned (.tuple #[r1, r2]) ∧ Wd w r1 Q 100 ∧ Wd w r2 (x + -(Q * y)) 200 ∧ (0 < y → 0 ≤ x + -(Q * y) ∧ x + -(Q * y) < y) ∧ (y < 0 → y < x + -(Q * y) ∧ x + -(Q * y) ≤ 0)
set_option maxRecDepth 100000 in
set_option maxHeartbeats 8000000 in
theorem dParted (v u : Value) (x y : Int) (N M : Nat) (w : World) (hv : Wd w v x N) (hu : Wd w u y M) (hy : y ≠ 0) (hN : N ≤ 20) (hM : M ≤ 20) :
    Calls Try.prog 32 #[v, u] w fun e w' => PartR w' x y e ∧ Below w.heap.size w w' := by
  have HX := Lib.hid hv.size
  have HY := Lib.hid hu.size
  obtain ⟨A, n, c, rfl, hr⟩ := hv.open_
  obtain ⟨B, m, d, rfl, hr2⟩ := hu.open_
  obtain ⟨X, hX⟩ : ∃ X : Int, X = (x.natAbs : Nat) := ⟨_, rfl⟩
  obtain ⟨Y, hY⟩ : ∃ Y : Int, Y = (y.natAbs : Nat) := ⟨_, rfl⟩
  have hY1 : 1 ≤ Y := by omega
  have hX0 : 0 ≤ X := by omega
  have hn : n ≤ N := by obtain ⟨_, _, _, _, _, h⟩ := hr; exact h
  have hXn : X < pw n := by
    obtain ⟨ds, h1, h2, _, h4, _⟩ := hr
    have h5 := (valD_bd h2).2
    rw [u32s_len h1, h4] at h5
    omega
  rw [← hX] at hr HX
  rw [← hY] at hr2 HY
  have hP0 := Lib.hid (PartJ.start (B := Y) hX0 hXn hY1)
  have HSTEP := Lib.hid (fun i q r (h : PartJ X Y (i + 1) q r) t (ht : t = X / 2 ^ i % 2) => h.step hX0 hY1 ht)
  have HDONE : Hid (∀ q r Q, PartJ X Y 0 q r → (Q = if decide (x < 0) = decide (y < 0) then q else if 0 < r then -q + -1 else -q) → x = Q * y + (x + -(Q * y)) ∧ (0 < y → 0 ≤ x + -(Q * y) ∧ x + -(Q * y) < y) ∧ (y < 0 → y < x + -(Q * y) ∧ x + -(Q * y) ≤ 0)) := by
    intro q r Q h hQ
    rw [hX, hY] at h
    exact part_done hy h hQ
  have hwx : Hid (∀ W, Wr W A n c X N → Wd W (.agg #[.bool (decide (x < 0)), .slice A n c]) x N) := by
    rintro W ⟨ds, h1, h2, h3, h4, h5⟩
    exact ⟨A, n, c, ds, rfl, h1, h2, h3, by rw [h4, hX], h5⟩
  have hwy : Hid (∀ W, Wr W B m d Y M → Wd W (.agg #[.bool (decide (y < 0)), .slice B m d]) y M) := by
    rintro W ⟨ds, h1, h2, h3, h4, h5⟩
    exact ⟨B, m, d, ds, rfl, h1, h2, h3, by rw [h4, hY], h5⟩
  have HY1 := Lib.hid hY1
  have HX0 := Lib.hid hX0
  clear hX hY hv hu hXn hY1 hX0
  generalize decide (x < 0) = sx at *
  generalize decide (y < 0) = sy at *
  go_enter Try.func32, Try.ntmps32
  go_wp2_with fail
  obtain ⟨W0, hW0⟩ : ∃ W0, W0 = ((((((w.alloc (.cells #[.bool sx, .slice A n c] 50)).alloc (.cells #[.bool sy, .slice B m d] 50)).alloc (.cells #[.bool false, .slice none 0 0] 50)).alloc (.cells #[.bool false, .slice none 0 0] 50)).alloc (.cells #[.bool false, .slice none 0 0] 50)).alloc (.cells #[.bool false, .slice none 0 0] 50)) := ⟨_, rfl⟩
  have ba : BW W0 w.heap.size sx A n c := by rw [hW0]; exact (((((BW.new w sx A n c).up _).up _).up _).up _).up _
  have bb : BW W0 (w.heap.size + 1) sy B m d := by rw [hW0]; exact (by simpa using (((((BW.new (w.alloc (.cells #[.bool sx, .slice A n c] 50)) sy B m d).up _).up _).up _).up _))
  have b1 : BW W0 (w.heap.size + 1 + 1) false none 0 0 := by rw [hW0]; exact (by simpa using ((((BW.new ((w.alloc (.cells #[.bool sx, .slice A n c] 50)).alloc (.cells #[.bool sy, .slice B m d] 50)) false none 0 0).up _).up _).up _))
  have b2 : BW W0 (w.heap.size + 1 + 1 + 1) false none 0 0 := by rw [hW0]; exact (by simpa using (((BW.new (((w.alloc (.cells #[.bool sx, .slice A n c] 50)).alloc (.cells #[.bool sy, .slice B m d] 50)).alloc (.cells #[.bool false, .slice none 0 0] 50)) false none 0 0).up _).up _))
  have bq : BW W0 (w.heap.size + 1 + 1 + 1 + 1) false none 0 0 := by rw [hW0]; exact (by simpa using ((BW.new ((((w.alloc (.cells #[.bool sx, .slice A n c] 50)).alloc (.cells #[.bool sy, .slice B m d] 50)).alloc (.cells #[.bool false, .slice none 0 0] 50)).alloc (.cells #[.bool false, .slice none 0 0] 50)) false none 0 0).up _))
  have br : BW W0 (w.heap.size + 1 + 1 + 1 + 1 + 1) false none 0 0 := by rw [hW0]; exact (by simpa using (BW.new (((((w.alloc (.cells #[.bool sx, .slice A n c] 50)).alloc (.cells #[.bool sy, .slice B m d] 50)).alloc (.cells #[.bool false, .slice none 0 0] 50)).alloc (.cells #[.bool false, .slice none 0 0] 50)).alloc (.cells #[.bool false, .slice none 0 0] 50)) false none 0 0))
  have hB0 : Below w.heap.size w W0 := by rw [hW0]; exact below_al (below_al (below_al (below_al (below_al (below_al (Below.refl _ _) _) _) _) _) _) _
  rw [← hW0]
  obtain ⟨k1, hk1⟩ : ∃ b, b = w.heap.size := ⟨_, rfl⟩
  obtain ⟨k2, hk2⟩ : ∃ b, b = w.heap.size + 1 := ⟨_, rfl⟩
  obtain ⟨k3, hk3⟩ : ∃ b, b = w.heap.size + 1 + 1 := ⟨_, rfl⟩
  obtain ⟨k4, hk4⟩ : ∃ b, b = w.heap.size + 1 + 1 + 1 := ⟨_, rfl⟩
  obtain ⟨k5, hk5⟩ : ∃ b, b = w.heap.size + 1 + 1 + 1 + 1 := ⟨_, rfl⟩
  obtain ⟨k6, hk6⟩ : ∃ b, b = w.heap.size + 1 + 1 + 1 + 1 + 1 := ⟨_, rfl⟩
  rw [show Value.pointer (some ⟨w.heap.size, 0, none⟩) = Value.pointer (some ⟨k1, 0, none⟩) by rw [hk1], show Value.pointer (some ⟨w.heap.size + 1, 0, none⟩) = Value.pointer (some ⟨k2, 0, none⟩) by rw [hk2], show Value.pointer (some ⟨w.heap.size + 1 + 1, 0, none⟩) = Value.pointer (some ⟨k3, 0, none⟩) by rw [hk3], show Value.pointer (some ⟨w.heap.size + 1 + 1 + 1, 0, none⟩) = Value.pointer (some ⟨k4, 0, none⟩) by rw [hk4], show Value.pointer (some ⟨w.heap.size + 1 + 1 + 1 + 1, 0, none⟩) = Value.pointer (some ⟨k5, 0, none⟩) by rw [hk5], show Value.pointer (some ⟨w.heap.size + 1 + 1 + 1 + 1 + 1, 0, none⟩) = Value.pointer (some ⟨k6, 0, none⟩) by rw [hk6]]
  rw [← hk1] at ba
  rw [← hk2] at bb
  rw [← hk3] at b1
  rw [← hk4] at b2
  rw [← hk5] at bq
  rw [← hk6] at br
  have hd : Hid (w.heap.size ≤ k1 ∧ k1 < k2 ∧ k2 < k3 ∧ k3 < k4 ∧ k4 < k5 ∧ k5 < k6) := by show _ ∧ _; omega
  clear hW0 hk1 hk2 hk3 hk4 hk5 hk6
  have hr0 := hr.below hB0
  have hr20 := hr2.below hB0
  clear hr hr2
  go_wp2_with (go_at_call 34; (with_reducible refine (dOf 2 _ (by decide)).mono ?_); rintro e w1 ⟨⟨v1, rfl, hw1⟩, hb1⟩; obtain ⟨A1, n1, c1, rfl, hr1⟩ := hw1.open0 (by omega); have ba := ba.below hb1; have bb := bb.below hb1; have b1 := b1.below hb1; have b2 := b2.below hb1; have bq := bq.below hb1; have br := br.below hb1; have hk67 := br.lt; have ba := ba.up (.cells #[.bool false, .slice A1 n1 c1] 50); have bb := bb.up (.cells #[.bool false, .slice A1 n1 c1] 50); have b1 := b1.up (.cells #[.bool false, .slice A1 n1 c1] 50); have b2 := b2.up (.cells #[.bool false, .slice A1 n1 c1] 50); have bq := bq.up (.cells #[.bool false, .slice A1 n1 c1] 50); have br := br.up (.cells #[.bool false, .slice A1 n1 c1] 50); have z1 := ba.c1)
  have bt := BW.new w1 false A1 n1 c1
  have hb1' := below_al hb1 (.cells #[.bool false, .slice A1 n1 c1] 50)
  have hr0 := hr0.below hb1'
  have hr20 := hr20.below hb1'
  have hrt := hr1.below (below_al (Below.refl _ _) (.cells #[.bool false, .slice A1 n1 c1] 50))
  have hB2 := below_tr hB0 hb1'
  obtain ⟨k7, hk7⟩ : ∃ b, b = w1.heap.size := ⟨_, rfl⟩
  rw [show Value.pointer (some ⟨w1.heap.size, 0, none⟩) = Value.pointer (some ⟨k7, 0, none⟩) by rw [hk7]]
  rw [← hk7] at bt hk67
  obtain ⟨W2, hW2⟩ : ∃ W2, W2 = w1.alloc (.cells #[.bool false, .slice A1 n1 c1] 50) := ⟨_, rfl⟩
  rw [← hW2] at ba bb b1 b2 bq br bt hr0 hr20 hrt hB2 ⊢
  have hd7 := Lib.hid hk67
  clear hW2 hk7 hb1 hb1' hB0 hr1 hk67 z1
  have hq0 : Wr W2 none 0 0 0 N := ⟨[], Rds.none_ _ _, (by intro d hd; cases hd), trimmed_nil, rfl, Nat.zero_le _⟩
  have hrr0 : Wr W2 none 0 0 0 M := ⟨[], Rds.none_ _ _, (by intro d hd; cases hd), trimmed_nil, rfl, Nat.zero_le _⟩
  go_loopw [9] (fun iv wr => ∃ (i : Nat) (q r : Int) (Aq : Option Addr) (nq cq : Nat) (Ar : Option Addr) (nr cr : Nat), i ≤ 16 * n ∧ iv = .int .i64 ((i : Int) - 1) ∧ BW wr k5 false Aq nq cq ∧ Wr wr Aq nq cq q N ∧ BW wr k6 false Ar nr cr ∧ Wr wr Ar nr cr r M ∧ Hid (PartJ X Y i q r) ∧ Wr wr A n c X N ∧ Wr wr B m d Y M ∧ Wr wr A1 n1 c1 2 4 ∧ Chg (fun z => z = k5 ∨ z = k6) W2 wr) (fun iv _ => (intOf iv + 1).toNat)
  case atStart => exact ⟨16 * n, 0, 0, none, 0, 0, none, 0, 0, Nat.le_refl _, by go_num, bq, hq0, br, hrr0, hP0.out, hr0, hr20, hrt, Chg.refl _ _⟩
  case round =>
    clear bq br hq0 hrr0 hr0 hr20 hrt
    obtain ⟨i, q, r, Aq, nq, cq, Ar, nr, cr, hi, rfl, bq, hwq, br, hwr, HJ, hr0, hr20, hrt, hch⟩ := hrel
    obtain ⟨W3, rfl⟩ : ∃ x, x = wr := ⟨_, rfl⟩
    obtain ⟨e1, e2, e3, e4, e5, e6⟩ := hd.out
    have e7 := hd7.out
    have ba := ba.keep hch (by omega)
    have bb := bb.keep hch (by omega)
    have b1 := b1.keep hch (by omega)
    have b2 := b2.keep hch (by omega)
    have bt := bt.keep hch (by omega)
    have hB3 := hch.toBelow hB2 hB2.size (fun q e => by omega)
    have z1 := ba.c1
    rcases Nat.eq_zero_or_pos i with h0 | h0
    · subst h0
      rw [show ((0 : Nat) : Int) - 1 = -1 by omega]
      by_cases hss : sx = sy
      · subst hss
        have hse : (sx == sx) = true := by simp
        have z2 := bb.c0
        have z3 := ba.c0
        have z4 := bq.c1
        have HTR := Lib.hid (fun W (h : Siz W (.slice Aq nq cq) q N) => dtrimS false _ Aq nq cq q q N W rfl h (by simp))
        go_wp2_with (go_at_call 48; (with_reducible refine (HTR.out _ hwq.siz).mono ?_); rintro e w4 ⟨⟨v4, rfl, hs4⟩, hb4⟩; obtain ⟨sQ, AQ, nQ, cQ, rfl, hw4⟩ := hs4.openS; have bqw := bq.below hb4; have y0 := bqw.c0; have y1 := bqw.c1; have y2 := bqw.f0 0; have y3 := bqw.f0 1; have hC4 := chg_st w4 k5 sQ AQ nQ cQ; have ba20 := (ba.below hb4).keep hC4 (by omega); have bb20 := (bb.below hb4).keep hC4 (by omega); have s1 := ba20.c0; have s2 := bb20.c0; unfold stW at s1 s2)
        have bq20 := bqw.st sQ AQ nQ cQ
        have b120 := (b1.below hb4).keep hC4 (by omega)
        have b220 := (b2.below hb4).keep hC4 (by omega)
        have hr020 := (hr0.below hb4).st bqw sQ AQ nQ cQ
        have hr220 := (hr20.below hb4).st bqw sQ AQ nQ cQ
        have hwQ := hw4.st bqw sQ AQ nQ cQ
        have hB20 := (hC4.mono (S' := fun z => w.heap.size ≤ z) (fun _ _ h => by omega)).toBelow (below_then hB3 hB3.size hb4) (Nat.le_trans hB3.size hb4.size) (fun _ h => h)
        obtain ⟨W20, hW20⟩ : ∃ W20, W20 = stW w4 k5 sQ AQ nQ cQ := ⟨_, rfl⟩
        rw [show (w4.setCell ⟨k5, 0, none⟩ (.bool sQ)).setCell ⟨k5, 1, none⟩ (.slice AQ nQ cQ) = W20 from hW20.symm]
        rw [← hW20] at ba20 bb20 bq20 b120 b220 hr020 hr220 hwQ hB20
        clear hW20 hC4 bqw s1 s2 y0 y1 y2 y3 hw4 hb4 z1 z2 z3 z4 ba bb b1 b2 bt bq br hr0 hr20 hrt hwq hwr hch hB3 HTR
        obtain ⟨T, hT⟩ : ∃ T : Nat → Fact, ∀ t_, T t_ = ([Fact.eq (.agg #[.bool sQ, .slice AQ nQ cQ]), Fact.eq (.agg #[.bool sx, .slice A n c]), Fact.eq (.agg #[.bool sQ, .slice AQ nQ cQ]), Fact.eq (.agg #[.bool sx, .slice B m d]), FWd (q * y) (N + M + 1), FWd (-(q * y)) (N + M + 1), FWd (x + -(q * y)) (max N (N + M + 1) + 1), Fact.eq (undef), Fact.eq (undef)] : List (Fact)).getD t_ Fact.any := ⟨_, fun _ => rfl⟩
        refine region_tabS 7 [(0, 74), (1, 75), (2, 76), (3, 77), (4, 78), (5, 79), (6, 80)] T (by kernel_rfl) (by kernel_rfl) (by kernel_rfl) (by kernel_rfl) (by kernel_rfl) (by kernel_rfl) (by kernel_rfl) ?_ ?_
        · skip
          refine stepsAll_cons (k := 0) ?_ ?_
          · intro fa fx fW hF fB hE K fK
            have ev6 : fa.tmps[6]?.getD undef = .pointer (some ⟨k5, 0, none⟩) := hF.eo 6 (by kernel_rfl)
            have y0 := (bq20.below fB).c0
            have y1 := (bq20.below fB).c1
            refine wpOp_val rfl (wanted_none rfl) ?_ (fK (.agg #[.bool sQ, .slice AQ nQ cQ]) fW (Below.refl _ _) (by rw [hT]; exact rfl))
            clear fK hE hF
            go_simp
          refine stepsAll_cons (k := 1) ?_ ?_
          · intro fa fx fW hF fB hE K fK
            have ev2 : fa.tmps[2]?.getD undef = .pointer (some ⟨k1, 0, none⟩) := hF.eo 2 (by kernel_rfl)
            have y0 := (ba20.below fB).c0
            have y1 := (ba20.below fB).c1
            refine wpOp_val rfl (wanted_none rfl) ?_ (fK (.agg #[.bool sx, .slice A n c]) fW (Below.refl _ _) (by rw [hT]; exact rfl))
            clear fK hE hF
            go_simp
          refine stepsAll_cons (k := 2) ?_ ?_
          · intro fa fx fW hF fB hE K fK
            have ev6 : fa.tmps[6]?.getD undef = .pointer (some ⟨k5, 0, none⟩) := hF.eo 6 (by kernel_rfl)
            have y0 := (bq20.below fB).c0
            have y1 := (bq20.below fB).c1
            refine wpOp_val rfl (wanted_none rfl) ?_ (fK (.agg #[.bool sQ, .slice AQ nQ cQ]) fW (Below.refl _ _) (by rw [hT]; exact rfl))
            clear fK hE hF
            go_simp
          refine stepsAll_cons (k := 3) ?_ ?_
          · intro fa fx fW hF fB hE K fK
            have ev3 : fa.tmps[3]?.getD undef = .pointer (some ⟨k2, 0, none⟩) := hF.eo 3 (by kernel_rfl)
            have y0 := (bb20.below fB).c0
            have y1 := (bb20.below fB).c1
            refine wpOp_val rfl (wanted_none rfl) ?_ (fK (.agg #[.bool sx, .slice B m d]) fW (Below.refl _ _) (by rw [hT]; exact rfl))
            clear fK hE hF
            go_simp
          refine stepsAll_cons (k := 4) ?_ ?_
          · intro fa fx fW hF fB hE K fK
            have q2 : fx 2 = .agg #[.bool sQ, .slice AQ nQ cQ] := by have q := hE ⟨2, .data⟩ (by simp) rfl; rw [hT] at q; exact q
            have q3 : fx 3 = .agg #[.bool sx, .slice B m d] := by have q := hE ⟨3, .data⟩ (by simp) rfl; rw [hT] at q; exact q
            have ev76 : fa.tmps[76]?.getD undef = .agg #[.bool sQ, .slice AQ nQ cQ] := (hF.ev 2 76 (by kernel_rfl)).trans q2
            have ev77 : fa.tmps[77]?.getD undef = .agg #[.bool sx, .slice B m d] := (hF.ev 3 77 (by kernel_rfl)).trans q3
            refine wpOp_call rfl (wanted_none rfl) (by go_simp; exact ⟨rfl, rfl⟩) ?_
            refine (dTimes _ _ (q) y N M fW (hwQ.below fB) (hwy.out _ (hr220.below fB)) (by omega) (by omega)).mono ?_
            rintro e w' ⟨⟨v6, rfl, hs6⟩, hbb⟩
            exact ⟨_, rfl, fK (v6) (w') (hbb) (by rw [hT]; exact hs6)⟩
          refine stepsAll_cons (k := 5) ?_ ?_
          · intro fa fx fW hF fB hE K fK
            have q4 : (FWd (q * y) (N + M + 1)).p (fx 4) fW := by have q := hE ⟨4, .data⟩ (by simp) rfl; rw [hT] at q; exact q
            have ev78 : fa.tmps[78]?.getD undef = fx 4 := hF.ev 4 78 (by kernel_rfl)
            refine wpOp_call rfl (wanted_none rfl) (by go_simp; exact ⟨rfl, rfl⟩) ?_
            refine (dMinus _ (q * y) _ fW q4).mono ?_
            rintro e w' ⟨⟨v6, rfl, hs6⟩, hbb⟩
            exact ⟨_, rfl, fK (v6) (w') (hbb) (by rw [hT]; exact hs6)⟩
          refine stepsAll_cons (k := 6) ?_ ?_
          · intro fa fx fW hF fB hE K fK
            have q1 : fx 1 = .agg #[.bool sx, .slice A n c] := by have q := hE ⟨1, .data⟩ (by simp) rfl; rw [hT] at q; exact q
            have q5 : (FWd (-(q * y)) (N + M + 1)).p (fx 5) fW := by have q := hE ⟨5, .data⟩ (by simp) rfl; rw [hT] at q; exact q
            have ev75 : fa.tmps[75]?.getD undef = .agg #[.bool sx, .slice A n c] := (hF.ev 1 75 (by kernel_rfl)).trans q1
            have ev79 : fa.tmps[79]?.getD undef = fx 5 := hF.ev 5 79 (by kernel_rfl)
            refine wpOp_call rfl (wanted_none rfl) (by go_simp; exact ⟨rfl, rfl⟩) ?_
            refine (dPlus _ _ x (-(q * y)) N (N + M + 1) fW (hwx.out _ (hr020.below fB)) q5 (by omega) (by omega)).mono ?_
            rintro e w' ⟨⟨v6, rfl, hs6⟩, hbb⟩
            exact ⟨_, rfl, fK (v6) (w') (hbb) (by rw [hT]; exact hs6)⟩
          exact stepsAll_nil
        intro fa fx fW hF fB hx
        have q0 : fx 0 = .agg #[.bool sQ, .slice AQ nQ cQ] := by have q := hx 0 (by decide); rw [hT] at q; exact q
        have ev74 : fa.tmps[74]?.getD undef = .agg #[.bool sQ, .slice AQ nQ cQ] := (hF.ev 0 74 (by kernel_rfl)).trans q0
        have ev4 : fa.tmps[4]?.getD undef = .pointer (some ⟨k3, 0, none⟩) := hF.eo 4 (by kernel_rfl)
        have i0 := (b120.below fB).c0
        have i1 := (b120.below fB).c1
        have f0 := (b120.below fB).f0 0
        have f1 := (b120.below fB).f0 1
        refine wpOp_fin rfl (wanted_none rfl) rfl (W' := (fW.setCell ⟨k3, 0, none⟩ (.bool sQ)).setCell ⟨k3, 1, none⟩ (.slice AQ nQ cQ)) ?_ ?_
        · clear hF hx
          go_simp
        have q6 : (FWd (x + -(q * y)) (max N (N + M + 1) + 1)).p (fx 6) fW := by have q := hx 6 (by decide); rw [hT] at q; exact q
        have ev80 : fa.tmps[80]?.getD undef = fx 6 := hF.ev 6 80 (by kernel_rfl)
        have ev5 : fa.tmps[5]?.getD undef = .pointer (some ⟨k4, 0, none⟩) := hF.eo 5 (by kernel_rfl)
        obtain ⟨sR, AR, nR, cR, eR, hwR⟩ := Wd.openS q6
        rw [eR] at ev80
        have hC21 := chg_st fW k3 sQ AQ nQ cQ
        have b222 := (b220.below fB).keep hC21 (by omega)
        have u0 := b222.c0
        have u1 := b222.c1
        have g0 := b222.f0 0
        have g1 := b222.f0 1
        unfold stW at u0 u1 g0 g1
        refine wpOp_fin rfl (wanted_none rfl) rfl (W' := ((((fW.setCell ⟨k3, 0, none⟩ (.bool sQ)).setCell ⟨k3, 1, none⟩ (.slice AQ nQ cQ)).setCell ⟨k4, 0, none⟩ (.bool sR)).setCell ⟨k4, 1, none⟩ (.slice AR nR cR))) ?_ ?_
        · clear hF hx
          clear hwR hC21 b222
          go_simp
        refine tail_end ?_
        rw [hF.eq]
        clear hF hx
        simp only [putAll, Act.put, List.setIfInBounds_toArray, List.set_cons_zero, List.set_cons_succ, ]
        have hQW := (((hwQ.below fB).st (b120.below fB) sQ AQ nQ cQ).st b222 sR AR nR cR).more (M := 100) (by omega)
        have hRW := ((hwR.st (b120.below fB) sQ AQ nQ cQ).st b222 sR AR nR cR).more (M := 200) (by omega)
        have v0 := (((b120.below fB).st sQ AQ nQ cQ).keep (chg_st _ k4 sR AR nR cR) (by omega)).c0
        have v1 := (((b120.below fB).st sQ AQ nQ cQ).keep (chg_st _ k4 sR AR nR cR) (by omega)).c1
        have v2 := (b222.st sR AR nR cR).c0
        have v3 := (b222.st sR AR nR cR).c1
        have hbe := ((below_set (below_set (below_set (below_set (below_then hB20 hB20.size fB) k3 0 (.bool sQ) (by omega)) k3 1 (.slice AQ nQ cQ) (by omega)) k4 0 (.bool sR) (by omega)) k4 1 (.slice AR nR cR) (by omega)))
        have hPR : Hid (PartR (stW (stW fW k3 sQ AQ nQ cQ) k4 sR AR nR cR) x y (.returned (.tuple #[.agg #[.bool sQ, .slice AQ nQ cQ], .agg #[.bool sR, .slice AR nR cR]]))) := by
          have hdn := HDONE.out q r (q) HJ.out (by simp)
          exact ⟨_, _, _, rfl, hQW, hRW, hdn.2⟩
        clear hQW hRW hC21 b222 hwR HDONE
        unfold stW at v0 v1 v2 v3 hPR
        go_wp2
        exact bodyPost_ret (v := .tuple #[.agg #[.bool sQ, .slice AQ nQ cQ], .agg #[.bool sR, .slice AR nR cR]]) (by simp [results, Try.results32, go_sem, v0, v1, v2, v3]) rfl ⟨hPR.out, hbe⟩
      · skip
        by_cases hnr : 0 < nr
        · have hnr' : (0 : Int) < nr := by omega
          have HRP := Lib.hid (hwr.zero.2 hnr)
          clear hnr
          have hse : (sx == sy) = false := by simpa using hss
          have z2 := bb.c0
          have z3 := ba.c0
          have z4 := bq.c1
          have z5 := br.c1
          have HTR := Lib.hid (fun W (h : Siz W (.slice Aq nq cq) q N) => dtrimS true _ Aq nq cq q (-q) N W rfl h (by simp))
          go_wp2_with (go_at_call 48; (with_reducible refine (HTR.out _ hwq.siz).mono ?_); rintro e w4 ⟨⟨v4, rfl, hs4⟩, hb4⟩; obtain ⟨sQ, AQ, nQ, cQ, rfl, hw4⟩ := hs4.openS; have bqw := bq.below hb4; have y0 := bqw.c0; have y1 := bqw.c1; have y2 := bqw.f0 0; have y3 := bqw.f0 1; have hC4 := chg_st w4 k5 sQ AQ nQ cQ; have ba20 := (ba.below hb4).keep hC4 (by omega); have bb20 := (bb.below hb4).keep hC4 (by omega); have br20 := (br.below hb4).keep hC4 (by omega); have s6 := br20.c1; have s1 := ba20.c0; have s2 := bb20.c0; unfold stW at s1 s2 s6)
          have bq20 := bqw.st sQ AQ nQ cQ
          have b120 := (b1.below hb4).keep hC4 (by omega)
          have b220 := (b2.below hb4).keep hC4 (by omega)
          have hr020 := (hr0.below hb4).st bqw sQ AQ nQ cQ
          have hr220 := (hr20.below hb4).st bqw sQ AQ nQ cQ
          have hwQ := hw4.st bqw sQ AQ nQ cQ
          have hB20 := (hC4.mono (S' := fun z => w.heap.size ≤ z) (fun _ _ h => by omega)).toBelow (below_then hB3 hB3.size hb4) (Nat.le_trans hB3.size hb4.size) (fun _ h => h)
          obtain ⟨W20, hW20⟩ : ∃ W20, W20 = stW w4 k5 sQ AQ nQ cQ := ⟨_, rfl⟩
          rw [show (w4.setCell ⟨k5, 0, none⟩ (.bool sQ)).setCell ⟨k5, 1, none⟩ (.slice AQ nQ cQ) = W20 from hW20.symm]
          rw [← hW20] at br20 ba20 bb20 bq20 b120 b220 hr020 hr220 hwQ hB20
          clear hW20 hC4 bqw s1 s2 s6 y0 y1 y2 y3 hw4 hb4 z1 z2 z3 z4 z5 ba bb b1 b2 bt bq br hr0 hr20 hrt hwq hwr hch hB3 HTR
          obtain ⟨T, hT⟩ : ∃ T : Nat → Fact, ∀ t_, T t_ = ([Fact.eq (.agg #[.bool sQ, .slice AQ nQ cQ]), FWd (-1) 4, FWd (-q + -1) (max N 4 + 1), Fact.eq (undef)] : List (Fact)).getD t_ Fact.any := ⟨_, fun _ => rfl⟩
          refine region_tabS 3 [(0, 71), (1, 72), (2, 73)] T (by kernel_rfl) (by kernel_rfl) (by kernel_rfl) (by kernel_rfl) (by kernel_rfl) (by kernel_rfl) (by kernel_rfl) ?_ ?_
          · skip
            refine stepsAll_cons (k := 0) ?_ ?_
            · intro fa fx fW hF fB hE K fK
              have ev6 : fa.tmps[6]?.getD undef = .pointer (some ⟨k5, 0, none⟩) := hF.eo 6 (by kernel_rfl)
              have y0 := (bq20.below fB).c0
              have y1 := (bq20.below fB).c1
              refine wpOp_val rfl (wanted_none rfl) ?_ (fK (.agg #[.bool sQ, .slice AQ nQ cQ]) fW (Below.refl _ _) (by rw [hT]; exact rfl))
              clear fK hE hF
              go_simp
            refine stepsAll_cons (k := 1) ?_ ?_
            · intro fa fx fW hF fB hE K fK
              refine wpOp_call rfl (wanted_none rfl) (by go_simp; exact ⟨rfl, rfl⟩) ?_
              refine (dOf (-1) fW (by decide)).mono ?_
              rintro e w' ⟨⟨v6, rfl, hs6⟩, hbb⟩
              exact ⟨_, rfl, fK (v6) (w') (hbb) (by rw [hT]; exact hs6)⟩
            refine stepsAll_cons (k := 2) ?_ ?_
            · intro fa fx fW hF fB hE K fK
              have q0 : fx 0 = .agg #[.bool sQ, .slice AQ nQ cQ] := by have q := hE ⟨0, .data⟩ (by simp) rfl; rw [hT] at q; exact q
              have q1 : (FWd (-1) 4).p (fx 1) fW := by have q := hE ⟨1, .data⟩ (by simp) rfl; rw [hT] at q; exact q
              have ev71 : fa.tmps[71]?.getD undef = .agg #[.bool sQ, .slice AQ nQ cQ] := (hF.ev 0 71 (by kernel_rfl)).trans q0
              have ev72 : fa.tmps[72]?.getD undef = fx 1 := hF.ev 1 72 (by kernel_rfl)
              refine wpOp_call rfl (wanted_none rfl) (by go_simp; exact ⟨rfl, rfl⟩) ?_
              refine (dPlus _ _ (-q) (-1) N 4 fW (hwQ.below fB) q1 (by omega) (by omega)).mono ?_
              rintro e w' ⟨⟨v9, rfl, hs9⟩, hbb⟩
              exact ⟨_, rfl, fK (v9) (w') (hbb) (by rw [hT]; exact hs9)⟩
            exact stepsAll_nil
          intro fa fx fW hF fB hx
          have q2 : (FWd (-q + -1) (max N 4 + 1)).p (fx 2) fW := by have q := hx 2 (by decide); rw [hT] at q; exact q
          have ev73 : fa.tmps[73]?.getD undef = fx 2 := hF.ev 2 73 (by kernel_rfl)
          have ev6 : fa.tmps[6]?.getD undef = .pointer (some ⟨k5, 0, none⟩) := hF.eo 6 (by kernel_rfl)
          obtain ⟨sP, AP, nP, cP, eP, hwP⟩ := Wd.openS q2
          rw [eP] at ev73
          have bqf := bq20.below fB
          have i0 := bqf.c0
          have i1 := bqf.c1
          have f0 := bqf.f0 0
          have f1 := bqf.f0 1
          refine wpOp_fin rfl (wanted_none rfl) rfl (W' := (fW.setCell ⟨k5, 0, none⟩ (.bool sP)).setCell ⟨k5, 1, none⟩ (.slice AP nP cP)) ?_ ?_
          · clear hF hx
            clear hwP bqf
            go_simp
          refine tail_end ?_
          rw [hF.eq]
          clear hF hx
          simp only [putAll, Act.put, List.setIfInBounds_toArray, List.set_cons_zero, List.set_cons_succ, ]
          have hC5 := chg_st fW k5 sP AP nP cP
          have ba21 := (ba20.below fB).keep hC5 (by omega)
          have bb21 := (bb20.below fB).keep hC5 (by omega)
          have bq21 := bqf.st sP AP nP cP
          have b121 := (b120.below fB).keep hC5 (by omega)
          have b221 := (b220.below fB).keep hC5 (by omega)
          have hr021 := (hr020.below fB).st bqf sP AP nP cP
          have hr221 := (hr220.below fB).st bqf sP AP nP cP
          have hwQ1 := hwP.st bqf sP AP nP cP
          have hB21 := (hC5.mono (S' := fun z => w.heap.size ≤ z) (fun _ _ h => by omega)).toBelow (below_then hB20 hB20.size fB) (Nat.le_trans hB20.size fB.size) (fun _ h => h)
          obtain ⟨W21, hW21⟩ : ∃ W21, W21 = stW fW k5 sP AP nP cP := ⟨_, rfl⟩
          rw [show (fW.setCell ⟨k5, 0, none⟩ (.bool sP)).setCell ⟨k5, 1, none⟩ (.slice AP nP cP) = W21 from hW21.symm]
          rw [← hW21] at ba21 bb21 bq21 b121 b221 hr021 hr221 hwQ1 hB21
          clear hW21 hC5 bqf hwP fB ba20 bb20 bq20 b120 b220 br20 hr020 hr220 hwQ hB20 i0 i1 f0 f1
          go_wp2
          obtain ⟨T, hT⟩ : ∃ T : Nat → Fact, ∀ t_, T t_ = ([Fact.eq (.agg #[.bool sP, .slice AP nP cP]), Fact.eq (.agg #[.bool sx, .slice A n c]), Fact.eq (.agg #[.bool sP, .slice AP nP cP]), Fact.eq (.agg #[.bool sy, .slice B m d]), FWd ((-q + -1) * y) ((max N 4 + 1) + M + 1), FWd (-((-q + -1) * y)) ((max N 4 + 1) + M + 1), FWd (x + -((-q + -1) * y)) (max N ((max N 4 + 1) + M + 1) + 1), Fact.eq (undef), Fact.eq (undef)] : List (Fact)).getD t_ Fact.any := ⟨_, fun _ => rfl⟩
          refine region_tabS 7 [(0, 74), (1, 75), (2, 76), (3, 77), (4, 78), (5, 79), (6, 80)] T (by kernel_rfl) (by kernel_rfl) (by kernel_rfl) (by kernel_rfl) (by kernel_rfl) (by kernel_rfl) (by kernel_rfl) ?_ ?_
          · skip
            refine stepsAll_cons (k := 0) ?_ ?_
            · intro fa fx fW hF fB hE K fK
              have ev6 : fa.tmps[6]?.getD undef = .pointer (some ⟨k5, 0, none⟩) := hF.eo 6 (by kernel_rfl)
              have y0 := (bq21.below fB).c0
              have y1 := (bq21.below fB).c1
              refine wpOp_val rfl (wanted_none rfl) ?_ (fK (.agg #[.bool sP, .slice AP nP cP]) fW (Below.refl _ _) (by rw [hT]; exact rfl))
              clear fK hE hF
              go_simp
            refine stepsAll_cons (k := 1) ?_ ?_
            · intro fa fx fW hF fB hE K fK
              have ev2 : fa.tmps[2]?.getD undef = .pointer (some ⟨k1, 0, none⟩) := hF.eo 2 (by kernel_rfl)
              have y0 := (ba21.below fB).c0
              have y1 := (ba21.below fB).c1
              refine wpOp_val rfl (wanted_none rfl) ?_ (fK (.agg #[.bool sx, .slice A n c]) fW (Below.refl _ _) (by rw [hT]; exact rfl))
              clear fK hE hF
              go_simp
            refine stepsAll_cons (k := 2) ?_ ?_
            · intro fa fx fW hF fB hE K fK
              have ev6 : fa.tmps[6]?.getD undef = .pointer (some ⟨k5, 0, none⟩) := hF.eo 6 (by kernel_rfl)
              have y0 := (bq21.below fB).c0
              have y1 := (bq21.below fB).c1
              refine wpOp_val rfl (wanted_none rfl) ?_ (fK (.agg #[.bool sP, .slice AP nP cP]) fW (Below.refl _ _) (by rw [hT]; exact rfl))
              clear fK hE hF
              go_simp
            refine stepsAll_cons (k := 3) ?_ ?_
            · intro fa fx fW hF fB hE K fK
              have ev3 : fa.tmps[3]?.getD undef = .pointer (some ⟨k2, 0, none⟩) := hF.eo 3 (by kernel_rfl)
              have y0 := (bb21.below fB).c0
              have y1 := (bb21.below fB).c1
              refine wpOp_val rfl (wanted_none rfl) ?_ (fK (.agg #[.bool sy, .slice B m d]) fW (Below.refl _ _) (by rw [hT]; exact rfl))
              clear fK hE hF
              go_simp
            refine stepsAll_cons (k := 4) ?_ ?_
            · intro fa fx fW hF fB hE K fK
              have q2 : fx 2 = .agg #[.bool sP, .slice AP nP cP] := by have q := hE ⟨2, .data⟩ (by simp) rfl; rw [hT] at q; exact q
              have q3 : fx 3 = .agg #[.bool sy, .slice B m d] := by have q := hE ⟨3, .data⟩ (by simp) rfl; rw [hT] at q; exact q
              have ev76 : fa.tmps[76]?.getD undef = .agg #[.bool sP, .slice AP nP cP] := (hF.ev 2 76 (by kernel_rfl)).trans q2
              have ev77 : fa.tmps[77]?.getD undef = .agg #[.bool sy, .slice B m d] := (hF.ev 3 77 (by kernel_rfl)).trans q3
              refine wpOp_call rfl (wanted_none rfl) (by go_simp; exact ⟨rfl, rfl⟩) ?_
              refine (dTimes _ _ (-q + -1) y (max N 4 + 1) M fW (hwQ1.below fB) (hwy.out _ (hr221.below fB)) (by omega) (by omega)).mono ?_
              rintro e w' ⟨⟨v6, rfl, hs6⟩, hbb⟩
              exact ⟨_, rfl, fK (v6) (w') (hbb) (by rw [hT]; exact hs6)⟩
            refine stepsAll_cons (k := 5) ?_ ?_
            · intro fa fx fW hF fB hE K fK
              have q4 : (FWd ((-q + -1) * y) ((max N 4 + 1) + M + 1)).p (fx 4) fW := by have q := hE ⟨4, .data⟩ (by simp) rfl; rw [hT] at q; exact q
              have ev78 : fa.tmps[78]?.getD undef = fx 4 := hF.ev 4 78 (by kernel_rfl)
              refine wpOp_call rfl (wanted_none rfl) (by go_simp; exact ⟨rfl, rfl⟩) ?_
              refine (dMinus _ ((-q + -1) * y) _ fW q4).mono ?_
              rintro e w' ⟨⟨v6, rfl, hs6⟩, hbb⟩
              exact ⟨_, rfl, fK (v6) (w') (hbb) (by rw [hT]; exact hs6)⟩
            refine stepsAll_cons (k := 6) ?_ ?_
            · intro fa fx fW hF fB hE K fK
              have q1 : fx 1 = .agg #[.bool sx, .slice A n c] := by have q := hE ⟨1, .data⟩ (by simp) rfl; rw [hT] at q; exact q
              have q5 : (FWd (-((-q + -1) * y)) ((max N 4 + 1) + M + 1)).p (fx 5) fW := by have q := hE ⟨5, .data⟩ (by simp) rfl; rw [hT] at q; exact q
              have ev75 : fa.tmps[75]?.getD undef = .agg #[.bool sx, .slice A n c] := (hF.ev 1 75 (by kernel_rfl)).trans q1
              have ev79 : fa.tmps[79]?.getD undef = fx 5 := hF.ev 5 79 (by kernel_rfl)
              refine wpOp_call rfl (wanted_none rfl) (by go_simp; exact ⟨rfl, rfl⟩) ?_
              refine (dPlus _ _ x (-((-q + -1) * y)) N ((max N 4 + 1) + M + 1) fW (hwx.out _ (hr021.below fB)) q5 (by omega) (by omega)).mono ?_
              rintro e w' ⟨⟨v6, rfl, hs6⟩, hbb⟩
              exact ⟨_, rfl, fK (v6) (w') (hbb) (by rw [hT]; exact hs6)⟩
            exact stepsAll_nil
          intro fa fx fW hF fB hx
          have q0 : fx 0 = .agg #[.bool sP, .slice AP nP cP] := by have q := hx 0 (by decide); rw [hT] at q; exact q
          have ev74 : fa.tmps[74]?.getD undef = .agg #[.bool sP, .slice AP nP cP] := (hF.ev 0 74 (by kernel_rfl)).trans q0
          have ev4 : fa.tmps[4]?.getD undef = .pointer (some ⟨k3, 0, none⟩) := hF.eo 4 (by kernel_rfl)
          have i0 := (b121.below fB).c0
          have i1 := (b121.below fB).c1
          have f0 := (b121.below fB).f0 0
          have f1 := (b121.below fB).f0 1
          refine wpOp_fin rfl (wanted_none rfl) rfl (W' := (fW.setCell ⟨k3, 0, none⟩ (.bool sP)).setCell ⟨k3, 1, none⟩ (.slice AP nP cP)) ?_ ?_
          · clear hF hx
            go_simp
          have q6 : (FWd (x + -((-q + -1) * y)) (max N ((max N 4 + 1) + M + 1) + 1)).p (fx 6) fW := by have q := hx 6 (by decide); rw [hT] at q; exact q
          have ev80 : fa.tmps[80]?.getD undef = fx 6 := hF.ev 6 80 (by kernel_rfl)
          have ev5 : fa.tmps[5]?.getD undef = .pointer (some ⟨k4, 0, none⟩) := hF.eo 5 (by kernel_rfl)
          obtain ⟨sR, AR, nR, cR, eR, hwR⟩ := Wd.openS q6
          rw [eR] at ev80
          have hC21 := chg_st fW k3 sP AP nP cP
          have b222 := (b221.below fB).keep hC21 (by omega)
          have u0 := b222.c0
          have u1 := b222.c1
          have g0 := b222.f0 0
          have g1 := b222.f0 1
          unfold stW at u0 u1 g0 g1
          refine wpOp_fin rfl (wanted_none rfl) rfl (W' := ((((fW.setCell ⟨k3, 0, none⟩ (.bool sP)).setCell ⟨k3, 1, none⟩ (.slice AP nP cP)).setCell ⟨k4, 0, none⟩ (.bool sR)).setCell ⟨k4, 1, none⟩ (.slice AR nR cR))) ?_ ?_
          · clear hF hx
            clear hwR hC21 b222
            go_simp
          refine tail_end ?_
          rw [hF.eq]
          clear hF hx
          simp only [putAll, Act.put, List.setIfInBounds_toArray, List.set_cons_zero, List.set_cons_succ, ]
          have hQW := (((hwQ1.below fB).st (b121.below fB) sP AP nP cP).st b222 sR AR nR cR).more (M := 100) (by omega)
          have hRW := ((hwR.st (b121.below fB) sP AP nP cP).st b222 sR AR nR cR).more (M := 200) (by omega)
          have v0 := (((b121.below fB).st sP AP nP cP).keep (chg_st _ k4 sR AR nR cR) (by omega)).c0
          have v1 := (((b121.below fB).st sP AP nP cP).keep (chg_st _ k4 sR AR nR cR) (by omega)).c1
          have v2 := (b222.st sR AR nR cR).c0
          have v3 := (b222.st sR AR nR cR).c1
          have hbe := ((below_set (below_set (below_set (below_set (below_then hB21 hB21.size fB) k3 0 (.bool sP) (by omega)) k3 1 (.slice AP nP cP) (by omega)) k4 0 (.bool sR) (by omega)) k4 1 (.slice AR nR cR) (by omega)))
          have hPR : Hid (PartR (stW (stW fW k3 sP AP nP cP) k4 sR AR nR cR) x y (.returned (.tuple #[.agg #[.bool sP, .slice AP nP cP], .agg #[.bool sR, .slice AR nR cR]]))) := by
            have hdn := HDONE.out q r (-q + -1) HJ.out (by rw [if_neg hss, if_pos HRP.out])
            exact ⟨_, _, _, rfl, hQW, hRW, hdn.2⟩
          clear hQW hRW hC21 b222 hwR HDONE
          unfold stW at v0 v1 v2 v3 hPR
          go_wp2
          exact bodyPost_ret (v := .tuple #[.agg #[.bool sP, .slice AP nP cP], .agg #[.bool sR, .slice AR nR cR]]) (by simp [results, Try.results32, go_sem, v0, v1, v2, v3]) rfl ⟨hPR.out, hbe⟩
        · have hnr' : ¬ (0 : Int) < nr := by omega
          have HRP := Lib.hid (fun h => hnr (hwr.zero.1 h))
          clear hnr
          have hse : (sx == sy) = false := by simpa using hss
          have z2 := bb.c0
          have z3 := ba.c0
          have z4 := bq.c1
          have z5 := br.c1
          have HTR := Lib.hid (fun W (h : Siz W (.slice Aq nq cq) q N) => dtrimS true _ Aq nq cq q (-q) N W rfl h (by simp))
          go_wp2_with (go_at_call 48; (with_reducible refine (HTR.out _ hwq.siz).mono ?_); rintro e w4 ⟨⟨v4, rfl, hs4⟩, hb4⟩; obtain ⟨sQ, AQ, nQ, cQ, rfl, hw4⟩ := hs4.openS; have bqw := bq.below hb4; have y0 := bqw.c0; have y1 := bqw.c1; have y2 := bqw.f0 0; have y3 := bqw.f0 1; have hC4 := chg_st w4 k5 sQ AQ nQ cQ; have ba20 := (ba.below hb4).keep hC4 (by omega); have bb20 := (bb.below hb4).keep hC4 (by omega); have br20 := (br.below hb4).keep hC4 (by omega); have s6 := br20.c1; have s1 := ba20.c0; have s2 := bb20.c0; unfold stW at s1 s2 s6)
          have bq20 := bqw.st sQ AQ nQ cQ
          have b120 := (b1.below hb4).keep hC4 (by omega)
          have b220 := (b2.below hb4).keep hC4 (by omega)
          have hr020 := (hr0.below hb4).st bqw sQ AQ nQ cQ
          have hr220 := (hr20.below hb4).st bqw sQ AQ nQ cQ
          have hwQ := hw4.st bqw sQ AQ nQ cQ
          have hB20 := (hC4.mono (S' := fun z => w.heap.size ≤ z) (fun _ _ h => by omega)).toBelow (below_then hB3 hB3.size hb4) (Nat.le_trans hB3.size hb4.size) (fun _ h => h)
          obtain ⟨W20, hW20⟩ : ∃ W20, W20 = stW w4 k5 sQ AQ nQ cQ := ⟨_, rfl⟩
          rw [show (w4.setCell ⟨k5, 0, none⟩ (.bool sQ)).setCell ⟨k5, 1, none⟩ (.slice AQ nQ cQ) = W20 from hW20.symm]
          rw [← hW20] at br20 ba20 bb20 bq20 b120 b220 hr020 hr220 hwQ hB20
          clear hW20 hC4 bqw s1 s2 s6 y0 y1 y2 y3 hw4 hb4 z1 z2 z3 z4 z5 ba bb b1 b2 bt bq br hr0 hr20 hrt hwq hwr hch hB3 HTR
          obtain ⟨T, hT⟩ : ∃ T : Nat → Fact, ∀ t_, T t_ = ([Fact.eq (.agg #[.bool sQ, .slice AQ nQ cQ]), Fact.eq (.agg #[.bool sx, .slice A n c]), Fact.eq (.agg #[.bool sQ, .slice AQ nQ cQ]), Fact.eq (.agg #[.bool sy, .slice B m d]), FWd (-q * y) (N + M + 1), FWd (-(-q * y)) (N + M + 1), FWd (x + -(-q * y)) (max N (N + M + 1) + 1), Fact.eq (undef), Fact.eq (undef)] : List (Fact)).getD t_ Fact.any := ⟨_, fun _ => rfl⟩
          refine region_tabS 7 [(0, 74), (1, 75), (2, 76), (3, 77), (4, 78), (5, 79), (6, 80)] T (by kernel_rfl) (by kernel_rfl) (by kernel_rfl) (by kernel_rfl) (by kernel_rfl) (by kernel_rfl) (by kernel_rfl) ?_ ?_
          · skip
            refine stepsAll_cons (k := 0) ?_ ?_
            · intro fa fx fW hF fB hE K fK
              have ev6 : fa.tmps[6]?.getD undef = .pointer (some ⟨k5, 0, none⟩) := hF.eo 6 (by kernel_rfl)
              have y0 := (bq20.below fB).c0
              have y1 := (bq20.below fB).c1
              refine wpOp_val rfl (wanted_none rfl) ?_ (fK (.agg #[.bool sQ, .slice AQ nQ cQ]) fW (Below.refl _ _) (by rw [hT]; exact rfl))
              clear fK hE hF
              go_simp
            refine stepsAll_cons (k := 1) ?_ ?_
            · intro fa fx fW hF fB hE K fK
              have ev2 : fa.tmps[2]?.getD undef = .pointer (some ⟨k1, 0, none⟩) := hF.eo 2 (by kernel_rfl)
              have y0 := (ba20.below fB).c0
              have y1 := (ba20.below fB).c1
              refine wpOp_val rfl (wanted_none rfl) ?_ (fK (.agg #[.bool sx, .slice A n c]) fW (Below.refl _ _) (by rw [hT]; exact rfl))
              clear fK hE hF
              go_simp
            refine stepsAll_cons (k := 2) ?_ ?_
            · intro fa fx fW hF fB hE K fK
              have ev6 : fa.tmps[6]?.getD undef = .pointer (some ⟨k5, 0, none⟩) := hF.eo 6 (by kernel_rfl)
              have y0 := (bq20.below fB).c0
              have y1 := (bq20.below fB).c1
              refine wpOp_val rfl (wanted_none rfl) ?_ (fK (.agg #[.bool sQ, .slice AQ nQ cQ]) fW (Below.refl _ _) (by rw [hT]; exact rfl))
              clear fK hE hF
              go_simp
            refine stepsAll_cons (k := 3) ?_ ?_
            · intro fa fx fW hF fB hE K fK
              have ev3 : fa.tmps[3]?.getD undef = .pointer (some ⟨k2, 0, none⟩) := hF.eo 3 (by kernel_rfl)
              have y0 := (bb20.below fB).c0
              have y1 := (bb20.below fB).c1
              refine wpOp_val rfl (wanted_none rfl) ?_ (fK (.agg #[.bool sy, .slice B m d]) fW (Below.refl _ _) (by rw [hT]; exact rfl))
              clear fK hE hF
              go_simp
            refine stepsAll_cons (k := 4) ?_ ?_
            · intro fa fx fW hF fB hE K fK
              have q2 : fx 2 = .agg #[.bool sQ, .slice AQ nQ cQ] := by have q := hE ⟨2, .data⟩ (by simp) rfl; rw [hT] at q; exact q
              have q3 : fx 3 = .agg #[.bool sy, .slice B m d] := by have q := hE ⟨3, .data⟩ (by simp) rfl; rw [hT] at q; exact q
              have ev76 : fa.tmps[76]?.getD undef = .agg #[.bool sQ, .slice AQ nQ cQ] := (hF.ev 2 76 (by kernel_rfl)).trans q2
              have ev77 : fa.tmps[77]?.getD undef = .agg #[.bool sy, .slice B m d] := (hF.ev 3 77 (by kernel_rfl)).trans q3
              refine wpOp_call rfl (wanted_none rfl) (by go_simp; exact ⟨rfl, rfl⟩) ?_
              refine (dTimes _ _ (-q) y N M fW (hwQ.below fB) (hwy.out _ (hr220.below fB)) (by omega) (by omega)).mono ?_
              rintro e w' ⟨⟨v6, rfl, hs6⟩, hbb⟩
              exact ⟨_, rfl, fK (v6) (w') (hbb) (by rw [hT]; exact hs6)⟩
            refine stepsAll_cons (k := 5) ?_ ?_
            · intro fa fx fW hF fB hE K fK
              have q4 : (FWd (-q * y) (N + M + 1)).p (fx 4) fW := by have q := hE ⟨4, .data⟩ (by simp) rfl; rw [hT] at q; exact q
              have ev78 : fa.tmps[78]?.getD undef = fx 4 := hF.ev 4 78 (by kernel_rfl)
              refine wpOp_call rfl (wanted_none rfl) (by go_simp; exact ⟨rfl, rfl⟩) ?_
              refine (dMinus _ (-q * y) _ fW q4).mono ?_
              rintro e w' ⟨⟨v6, rfl, hs6⟩, hbb⟩
              exact ⟨_, rfl, fK (v6) (w') (hbb) (by rw [hT]; exact hs6)⟩
            refine stepsAll_cons (k := 6) ?_ ?_
            · intro fa fx fW hF fB hE K fK
              have q1 : fx 1 = .agg #[.bool sx, .slice A n c] := by have q := hE ⟨1, .data⟩ (by simp) rfl; rw [hT] at q; exact q
              have q5 : (FWd (-(-q * y)) (N + M + 1)).p (fx 5) fW := by have q := hE ⟨5, .data⟩ (by simp) rfl; rw [hT] at q; exact q
              have ev75 : fa.tmps[75]?.getD undef = .agg #[.bool sx, .slice A n c] := (hF.ev 1 75 (by kernel_rfl)).trans q1
              have ev79 : fa.tmps[79]?.getD undef = fx 5 := hF.ev 5 79 (by kernel_rfl)
              refine wpOp_call rfl (wanted_none rfl) (by go_simp; exact ⟨rfl, rfl⟩) ?_
              refine (dPlus _ _ x (-(-q * y)) N (N + M + 1) fW (hwx.out _ (hr020.below fB)) q5 (by omega) (by omega)).mono ?_
              rintro e w' ⟨⟨v6, rfl, hs6⟩, hbb⟩
              exact ⟨_, rfl, fK (v6) (w') (hbb) (by rw [hT]; exact hs6)⟩
            exact stepsAll_nil
          intro fa fx fW hF fB hx
          have q0 : fx 0 = .agg #[.bool sQ, .slice AQ nQ cQ] := by have q := hx 0 (by decide); rw [hT] at q; exact q
          have ev74 : fa.tmps[74]?.getD undef = .agg #[.bool sQ, .slice AQ nQ cQ] := (hF.ev 0 74 (by kernel_rfl)).trans q0
          have ev4 : fa.tmps[4]?.getD undef = .pointer (some ⟨k3, 0, none⟩) := hF.eo 4 (by kernel_rfl)
          have i0 := (b120.below fB).c0
          have i1 := (b120.below fB).c1
          have f0 := (b120.below fB).f0 0
          have f1 := (b120.below fB).f0 1
          refine wpOp_fin rfl (wanted_none rfl) rfl (W' := (fW.setCell ⟨k3, 0, none⟩ (.bool sQ)).setCell ⟨k3, 1, none⟩ (.slice AQ nQ cQ)) ?_ ?_
          · clear hF hx
            go_simp
          have q6 : (FWd (x + -(-q * y)) (max N (N + M + 1) + 1)).p (fx 6) fW := by have q := hx 6 (by decide); rw [hT] at q; exact q
          have ev80 : fa.tmps[80]?.getD undef = fx 6 := hF.ev 6 80 (by kernel_rfl)
          have ev5 : fa.tmps[5]?.getD undef = .pointer (some ⟨k4, 0, none⟩) := hF.eo 5 (by kernel_rfl)
          obtain ⟨sR, AR, nR, cR, eR, hwR⟩ := Wd.openS q6
          rw [eR] at ev80
          have hC21 := chg_st fW k3 sQ AQ nQ cQ
          have b222 := (b220.below fB).keep hC21 (by omega)
          have u0 := b222.c0
          have u1 := b222.c1
          have g0 := b222.f0 0
          have g1 := b222.f0 1
          unfold stW at u0 u1 g0 g1
          refine wpOp_fin rfl (wanted_none rfl) rfl (W' := ((((fW.setCell ⟨k3, 0, none⟩ (.bool sQ)).setCell ⟨k3, 1, none⟩ (.slice AQ nQ cQ)).setCell ⟨k4, 0, none⟩ (.bool sR)).setCell ⟨k4, 1, none⟩ (.slice AR nR cR))) ?_ ?_
          · clear hF hx
            clear hwR hC21 b222
            go_simp
          refine tail_end ?_
          rw [hF.eq]
          clear hF hx
          simp only [putAll, Act.put, List.setIfInBounds_toArray, List.set_cons_zero, List.set_cons_succ, ]
          have hQW := (((hwQ.below fB).st (b120.below fB) sQ AQ nQ cQ).st b222 sR AR nR cR).more (M := 100) (by omega)
          have hRW := ((hwR.st (b120.below fB) sQ AQ nQ cQ).st b222 sR AR nR cR).more (M := 200) (by omega)
          have v0 := (((b120.below fB).st sQ AQ nQ cQ).keep (chg_st _ k4 sR AR nR cR) (by omega)).c0
          have v1 := (((b120.below fB).st sQ AQ nQ cQ).keep (chg_st _ k4 sR AR nR cR) (by omega)).c1
          have v2 := (b222.st sR AR nR cR).c0
          have v3 := (b222.st sR AR nR cR).c1
          have hbe := ((below_set (below_set (below_set (below_set (below_then hB20 hB20.size fB) k3 0 (.bool sQ) (by omega)) k3 1 (.slice AQ nQ cQ) (by omega)) k4 0 (.bool sR) (by omega)) k4 1 (.slice AR nR cR) (by omega)))
          have hPR : Hid (PartR (stW (stW fW k3 sQ AQ nQ cQ) k4 sR AR nR cR) x y (.returned (.tuple #[.agg #[.bool sQ, .slice AQ nQ cQ], .agg #[.bool sR, .slice AR nR cR]]))) := by
            have hdn := HDONE.out q r (-q) HJ.out (by rw [if_neg hss, if_neg HRP.out])
            exact ⟨_, _, _, rfl, hQW, hRW, hdn.2⟩
          clear hQW hRW hC21 b222 hwR HDONE
          unfold stW at v0 v1 v2 v3 hPR
          go_wp2
          exact bodyPost_ret (v := .tuple #[.agg #[.bool sQ, .slice AQ nQ cQ], .agg #[.bool sR, .slice AR nR cR]]) (by simp [results, Try.results32, go_sem, v0, v1, v2, v3]) rfl ⟨hPR.out, hbe⟩
    · obtain ⟨k, rfl⟩ : ∃ k, i = k + 1 := ⟨i - 1, by omega⟩
      rw [show ((k + 1 : Nat) : Int) - 1 = k by omega]
      have hkk : k < 1000000 := by omega
      have HB := Lib.hid (fun W (h : Wr W A n c X N) => dbitW A n c X N k W h hkk)
      have HST := HSTEP.out k q r HJ.out
      obtain ⟨t, ht⟩ : ∃ t, t = X / 2 ^ k % 2 := ⟨_, rfl⟩
      obtain ⟨j1, j2, j3, j4, j5⟩ := HST t ht
      rw [← ht] at HB
      have J1 := Lib.hid j1
      have J2 := Lib.hid j2
      have hr00 := HJ.out.r0
      have hq00 := HJ.out.q0
      have htd : I64 t := by unfold I64; omega
      have HTO := Lib.hid (fun W => dOf t W htd)
      clear j1 j2 HST ht htd
      go_wp2
      obtain ⟨T, hT⟩ : ∃ T : Nat → Fact, ∀ t_, T t_ = ([Fact.eq (.agg #[.bool false, .slice Ar nr cr]), Fact.eq (.agg #[.bool false, .slice A1 n1 c1]), FWd (r * 2) (M + 4 + 1), Fact.eq (.pointer (some ⟨k1, 1, none⟩)), Fact.eq (.slice A n c), Fact.eq (.int .i64 k), Fact.eq (.int .u32 t), Fact.eq (.int .i64 t), FWd t 4, FWd (r * 2 + t) (max (M + 4 + 1) 4 + 1), Fact.eq (undef)] : List (Fact)).getD t_ Fact.any := ⟨_, fun _ => rfl⟩
      refine region_tabS 10 [(0, 22), (1, 23), (2, 24), (3, 25), (4, 26), (5, 27), (6, 28), (7, 29), (8, 30), (9, 31)] T (by kernel_rfl) (by kernel_rfl) (by kernel_rfl) (by kernel_rfl) (by kernel_rfl) (by kernel_rfl) (by kernel_rfl) ?_ ?_
      · skip
        refine stepsAll_cons (k := 0) ?_ ?_
        · intro fa fx fW hF fB hE K fK
          have ev7 : fa.tmps[7]?.getD undef = .pointer (some ⟨k6, 0, none⟩) := hF.eo 7 (by kernel_rfl)
          have y0 := (br.below fB).c0
          have y1 := (br.below fB).c1
          refine wpOp_val rfl (wanted_none rfl) ?_ (fK (.agg #[.bool false, .slice Ar nr cr]) fW (Below.refl _ _) (by rw [hT]; exact rfl))
          clear fK hE hF
          go_simp
        refine stepsAll_cons (k := 1) ?_ ?_
        · intro fa fx fW hF fB hE K fK
          have ev8 : fa.tmps[8]?.getD undef = .pointer (some ⟨k7, 0, none⟩) := hF.eo 8 (by kernel_rfl)
          have y0 := (bt.below fB).c0
          have y1 := (bt.below fB).c1
          refine wpOp_val rfl (wanted_none rfl) ?_ (fK (.agg #[.bool false, .slice A1 n1 c1]) fW (Below.refl _ _) (by rw [hT]; exact rfl))
          clear fK hE hF
          go_simp
        refine stepsAll_cons (k := 2) ?_ ?_
        · intro fa fx fW hF fB hE K fK
          have q0 : fx 0 = .agg #[.bool false, .slice Ar nr cr] := by have q := hE ⟨0, .data⟩ (by simp) rfl; rw [hT] at q; exact q
          have q1 : fx 1 = .agg #[.bool false, .slice A1 n1 c1] := by have q := hE ⟨1, .data⟩ (by simp) rfl; rw [hT] at q; exact q
          have ev22 : fa.tmps[22]?.getD undef = .agg #[.bool false, .slice Ar nr cr] := (hF.ev 0 22 (by kernel_rfl)).trans q0
          have ev23 : fa.tmps[23]?.getD undef = .agg #[.bool false, .slice A1 n1 c1] := (hF.ev 1 23 (by kernel_rfl)).trans q1
          refine wpOp_call rfl (wanted_none rfl) (by go_simp; exact ⟨rfl, rfl⟩) ?_
          refine (dTimes _ _ r 2 M 4 fW ((hwr.below fB).wd0 hr00) ((hrt.below fB).wd0 (by omega)) (by omega) (by omega)).mono ?_
          rintro e w' ⟨⟨v6, rfl, hs6⟩, hbb⟩
          exact ⟨_, rfl, fK (v6) (w') (hbb) (by rw [hT]; exact hs6)⟩
        refine stepsAll_cons (k := 3) ?_ ?_
        · intro fa fx fW hF fB hE K fK
          have ev2 : fa.tmps[2]?.getD undef = .pointer (some ⟨k1, 0, none⟩) := hF.eo 2 (by kernel_rfl)
          refine wpOp_val rfl (wanted_none rfl) ?_ (fK (.pointer (some ⟨k1, 1, none⟩)) fW (Below.refl _ _) (by rw [hT]; exact rfl))
          clear fK hE hF
          go_simp
        refine stepsAll_cons (k := 4) ?_ ?_
        · intro fa fx fW hF fB hE K fK
          have q3 : fx 3 = .pointer (some ⟨k1, 1, none⟩) := by have q := hE ⟨3, .data⟩ (by simp) rfl; rw [hT] at q; exact q
          have ev25 : fa.tmps[25]?.getD undef = .pointer (some ⟨k1, 1, none⟩) := (hF.ev 3 25 (by kernel_rfl)).trans q3
          have y1 := (ba.below fB).c1
          refine wpOp_val rfl (wanted_none rfl) ?_ (fK (.slice A n c) fW (Below.refl _ _) (by rw [hT]; exact rfl))
          clear fK hE hF
          go_simp
        refine stepsAll_cons (k := 5) ?_ ?_
        · intro fa fx fW hF fB hE K fK
          have ev9 : fa.tmps[9]?.getD undef = .int .i64 k := hF.eo 9 (by kernel_rfl)
          refine wpOp_val rfl (wanted_none rfl) ?_ (fK (.int .i64 k) fW (Below.refl _ _) (by rw [hT]; exact rfl))
          clear fK hE hF
          go_simp
        refine stepsAll_cons (k := 6) ?_ ?_
        · intro fa fx fW hF fB hE K fK
          have q4 : fx 4 = .slice A n c := by have q := hE ⟨4, .data⟩ (by simp) rfl; rw [hT] at q; exact q
          have q5 : fx 5 = .int .i64 k := by have q := hE ⟨5, .data⟩ (by simp) rfl; rw [hT] at q; exact q
          have ev26 : fa.tmps[26]?.getD undef = .slice A n c := (hF.ev 4 26 (by kernel_rfl)).trans q4
          have ev27 : fa.tmps[27]?.getD undef = .int .i64 k := (hF.ev 5 27 (by kernel_rfl)).trans q5
          refine wpOp_call rfl (wanted_none rfl) (by go_simp; exact ⟨rfl, rfl⟩) ?_
          refine (HB.out fW (hr0.below fB)).mono ?_
          rintro e w' ⟨rfl, rfl⟩
          exact ⟨_, rfl, fK (.int .u32 t) (fW) (Below.refl _ _) (by rw [hT]; exact rfl)⟩
        refine stepsAll_cons (k := 7) ?_ ?_
        · intro fa fx fW hF fB hE K fK
          have q6 : fx 6 = .int .u32 t := by have q := hE ⟨6, .data⟩ (by simp) rfl; rw [hT] at q; exact q
          have ev28 : fa.tmps[28]?.getD undef = .int .u32 t := (hF.ev 6 28 (by kernel_rfl)).trans q6
          refine wpOp_val rfl (wanted_none rfl) ?_ (fK (.int .i64 t) fW (Below.refl _ _) (by rw [hT]; exact rfl))
          clear fK hE hF
          go_simp
          exact IntWalk.i64_in _ (by omega)
        refine stepsAll_cons (k := 8) ?_ ?_
        · intro fa fx fW hF fB hE K fK
          have q7 : fx 7 = .int .i64 t := by have q := hE ⟨7, .data⟩ (by simp) rfl; rw [hT] at q; exact q
          have ev29 : fa.tmps[29]?.getD undef = .int .i64 t := (hF.ev 7 29 (by kernel_rfl)).trans q7
          refine wpOp_call rfl (wanted_none rfl) (by go_simp; exact ⟨rfl, rfl⟩) ?_
          refine (HTO.out fW).mono ?_
          rintro e w' ⟨⟨v8, rfl, hs8⟩, hbb⟩
          exact ⟨_, rfl, fK (v8) (w') (hbb) (by rw [hT]; exact hs8)⟩
        refine stepsAll_cons (k := 9) ?_ ?_
        · intro fa fx fW hF fB hE K fK
          have q2 : (FWd (r * 2) (M + 4 + 1)).p (fx 2) fW := by have q := hE ⟨2, .data⟩ (by simp) rfl; rw [hT] at q; exact q
          have q8 : (FWd t 4).p (fx 8) fW := by have q := hE ⟨8, .data⟩ (by simp) rfl; rw [hT] at q; exact q
          have ev24 : fa.tmps[24]?.getD undef = fx 2 := hF.ev 2 24 (by kernel_rfl)
          have ev30 : fa.tmps[30]?.getD undef = fx 8 := hF.ev 8 30 (by kernel_rfl)
          refine wpOp_call rfl (wanted_none rfl) (by go_simp; exact ⟨rfl, rfl⟩) ?_
          refine (dPlus _ _ (r * 2) t (M + 4 + 1) 4 fW q2 q8 (by omega) (by omega)).mono ?_
          rintro e w' ⟨⟨v9, rfl, hs9⟩, hbb⟩
          exact ⟨_, rfl, fK (v9) (w') (hbb) (by rw [hT]; exact hs9)⟩
        exact stepsAll_nil
      intro fa fx fW hF fB hx
      have q9 : (FWd (r * 2 + t) (max (M + 4 + 1) 4 + 1)).p (fx 9) fW := by have q := hx 9 (by decide); rw [hT] at q; exact q
      have ev31 : fa.tmps[31]?.getD undef = fx 9 := hF.ev 9 31 (by kernel_rfl)
      have ev7 : fa.tmps[7]?.getD undef = .pointer (some ⟨k6, 0, none⟩) := hF.eo 7 (by kernel_rfl)
      obtain ⟨A9, n9, c9, e9, hw9⟩ := Wd.open0 q9 (by omega)
      rw [e9] at ev31
      have i0 := (br.below fB).c0
      have i1 := (br.below fB).c1
      have f0 := (br.below fB).f0 0
      have f1 := (br.below fB).f0 1
      refine wpOp_fin rfl (wanted_none rfl) rfl (W' := (fW.setCell ⟨k6, 0, none⟩ (.bool false)).setCell ⟨k6, 1, none⟩ (.slice A9 n9 c9)) ?_ ?_
      · clear hF hx
        clear hw9
        go_simp
      refine tail_end ?_
      rw [hF.eq]
      clear hF hx
      simp only [putAll, Act.put, List.setIfInBounds_toArray, List.set_cons_zero, List.set_cons_succ, ]
      obtain ⟨W7, hW7⟩ : ∃ W7, W7 = stW fW k6 false A9 n9 c9 := ⟨_, rfl⟩
      rw [show (fW.setCell ⟨k6, 0, none⟩ (.bool false)).setCell ⟨k6, 1, none⟩ (.slice A9 n9 c9) = W7 from hW7.symm]
      have brf := br.below fB
      have hC7 : Chg (fun z => z = k6) fW W7 := by rw [hW7]; exact chg_st fW k6 false A9 n9 c9
      have br7 : BW W7 k6 false A9 n9 c9 := by rw [hW7]; exact brf.st false A9 n9 c9
      have bq7 := (bq.below fB).keep hC7 (by omega)
      have ba7 := (ba.below fB).keep hC7 (by omega)
      have bb7 := (bb.below fB).keep hC7 (by omega)
      have bt7 := (bt.below fB).keep hC7 (by omega)
      have hwq7 : Wr W7 Aq nq cq q N := by rw [hW7]; exact (hwq.below fB).st brf _ _ _ _
      have hr07 : Wr W7 A n c X N := by rw [hW7]; exact (hr0.below fB).st brf _ _ _ _
      have hr27 : Wr W7 B m d Y M := by rw [hW7]; exact (hr20.below fB).st brf _ _ _ _
      have hrt7 : Wr W7 A1 n1 c1 2 4 := by rw [hW7]; exact (hrt.below fB).st brf _ _ _ _
      have hw97 : Wr W7 A9 n9 c9 (r * 2 + t) (max (M + 4 + 1) 4 + 1) := by rw [hW7]; exact hw9.st brf _ _ _ _
      have hch7 : Chg (fun z => z = k5 ∨ z = k6) W2 W7 := hch.trans ((Chg.of_below fB).trans (hC7.mono (fun _ _ h => .inr h)))
      clear fB hW7 brf hC7 hw9 hwq hr0 hr20 hrt hwr br bq ba bb bt hch hB3 HTO HB z1
      have z0 := bq7.c0
      have z1 := bq7.c1
      have z2 := bt7.c0
      have z3 := bt7.c1
      go_wp2_with (go_at_call 33; (with_reducible refine (dTimes _ _ q 2 N 4 W7 (hwq7.wd0 hq00) (hrt7.wd0 (by omega)) (by omega) (by omega)).mono ?_); rintro e w8 ⟨⟨v8, rfl, hs8⟩, hb8⟩; obtain ⟨A8, n8, c8, rfl, hw8⟩ := hs8.open0 (by omega); have y0 := (bq7.below hb8).c0; have y1 := (bq7.below hb8).c1; have y2 := (bq7.below hb8).f0 0; have y3 := (bq7.below hb8).f0 1; have s6 := ((br7.below hb8).keep (chg_st w8 k5 false A8 n8 c8) (by omega)).c1; have s2 := ((bb7.below hb8).keep (chg_st w8 k5 false A8 n8 c8) (by omega)).c1; unfold stW at s6 s2)
      obtain ⟨W9, hW9⟩ : ∃ W9, W9 = stW w8 k5 false A8 n8 c8 := ⟨_, rfl⟩
      rw [show (w8.setCell ⟨k5, 0, none⟩ (.bool false)).setCell ⟨k5, 1, none⟩ (.slice A8 n8 c8) = W9 from hW9.symm]
      have bqw := bq7.below hb8
      have hC9 : Chg (fun z => z = k5) w8 W9 := by rw [hW9]; exact chg_st w8 k5 false A8 n8 c8
      have bq9 : BW W9 k5 false A8 n8 c8 := by rw [hW9]; exact bqw.st false A8 n8 c8
      have br9 := (br7.below hb8).keep hC9 (by omega)
      have ba9 := (ba7.below hb8).keep hC9 (by omega)
      have bb9 := (bb7.below hb8).keep hC9 (by omega)
      have bt9 := (bt7.below hb8).keep hC9 (by omega)
      have hr09 : Wr W9 A n c X N := by rw [hW9]; exact (hr07.below hb8).st bqw _ _ _ _
      have hr29 : Wr W9 B m d Y M := by rw [hW9]; exact (hr27.below hb8).st bqw _ _ _ _
      have hrt9 : Wr W9 A1 n1 c1 2 4 := by rw [hW9]; exact (hrt7.below hb8).st bqw _ _ _ _
      have hw99 : Wr W9 A9 n9 c9 (r * 2 + t) (max (M + 4 + 1) 4 + 1) := by rw [hW9]; exact (hw97.below hb8).st bqw _ _ _ _
      have hq99 : Wr W9 A8 n8 c8 (q * 2) (N + 4 + 1) := by rw [hW9]; exact hw8.st bqw _ _ _ _
      have hch9 : Chg (fun z => z = k5 ∨ z = k6) W2 W9 := hch7.trans ((Chg.of_below hb8).trans (hC9.mono (fun _ _ h => .inl h)))
      clear hb8 hW9 bqw hC9 hw8 hw97 hwq7 hr07 hr27 hrt7 bq7 br7 ba7 bb7 bt7 hch7 z0 z1 z2 z3 y0 y1 y2 y3 s6 s2
      have HSZ := Lib.hid (fun W h1 h2 => dsizeW A9 n9 c9 B m d (r * 2 + t) Y (max (M + 4 + 1) 4 + 1) M W h1 h2)
      have hXY := HX.out
      have hYY := HY.out
      by_cases hlt : r * 2 + t < Y
      · have hcv : cmpV (r * 2 + t) Y = -1 := by unfold cmpV; rw [if_pos hlt]
        rw [hcv] at HSZ
        have hJn := J1.out (by omega)
        have hqa := hJn.qa
        rw [Int.mul_comm 2 q, Int.mul_comm 2 r] at hJn
        have HJN := Lib.hid hJn
        clear hcv hJn J1 J2
        go_wp2_with (go_at_call 47; (with_reducible refine (HSZ.out _ hw99 hr29).mono ?_); rintro e w10 ⟨rfl, hb10⟩)
        go_roundw
        case rel => exact ⟨k, q * 2, r * 2 + t, A8, n8, c8, A9, n9, c9, by omega, by go_num, bq9.below hb10, (hq99.below hb10).fit N (by omega), br9.below hb10, (hw99.below hb10).fit M (by omega), HJN.out, hr09.below hb10, hr29.below hb10, hrt9.below hb10, hch9.trans (.of_below hb10)⟩
        case measure => simp only [intOf]; omega
      · have hcv : cmpV (r * 2 + t) Y = 0 ∨ cmpV (r * 2 + t) Y = 1 := by unfold cmpV; rw [if_neg hlt]; split <;> simp
        obtain ⟨rr, hrr⟩ : ∃ rr, rr = cmpV (r * 2 + t) Y := ⟨_, rfl⟩
        rw [← hrr] at HSZ hcv
        have hr0 : 0 ≤ rr := by omega
        have hJn := J2.out (by omega)
        have hqa := hJn.qa
        have hr1a := hJn.r1
        rw [Int.mul_comm 2 q, Int.mul_comm 2 r] at hJn
        have HJN := Lib.hid hJn
        have HLS := Lib.hid (fun W h1 h2 => dlessW A9 n9 c9 B m d (r * 2 + t) Y (max (M + 4 + 1) 4 + 1) M W h1 h2 (by omega) (by omega))
        clear hcv hJn J1 J2 hrr
        go_wp2_with (go_at_call 47; (with_reducible refine (HSZ.out _ hw99 hr29).mono ?_); rintro e w10 ⟨rfl, hb10⟩; have z1 := (br9.below hb10).c1; have z2 := (bb9.below hb10).c1)
        go_wp2_with (go_at_call 49; (with_reducible refine (HLS.out _ (hw99.below hb10) (hr29.below hb10)).mono ?_); rintro e w11 ⟨⟨v11, rfl, hs11⟩, hb11⟩; have hsk := hs11; obtain ⟨A11, n11, c11, ds11, rfl, hs11'⟩ := hs11)
        have HTR := Lib.hid (fun W (h : Siz W (.slice A11 n11 c11) (r * 2 + t - Y) (max (M + 4 + 1) 4 + 1)) => dtrimS false _ A11 n11 c11 (r * 2 + t - Y) (r * 2 + t - Y) (max (M + 4 + 1) 4 + 1) W rfl h (by simp))
        go_wp2_with (go_at_call 48; (with_reducible refine (HTR.out _ hsk).mono ?_); rintro e w12 ⟨⟨v12, rfl, hs12⟩, hb12⟩; obtain ⟨A12, n12, c12, rfl, hw12⟩ := hs12.open0 (by omega); have brw := ((br9.below hb10).below hb11).below hb12; have y0 := brw.c0; have y1 := brw.c1; have y2 := brw.f0 0; have y3 := brw.f0 1)
        obtain ⟨W13, hW13⟩ : ∃ W13, W13 = stW w12 k6 false A12 n12 c12 := ⟨_, rfl⟩
        rw [show (w12.setCell ⟨k6, 0, none⟩ (.bool false)).setCell ⟨k6, 1, none⟩ (.slice A12 n12 c12) = W13 from hW13.symm]
        have hC13 : Chg (fun z => z = k6) w12 W13 := by rw [hW13]; exact chg_st w12 k6 false A12 n12 c12
        have hb912 := below_tr (below_tr hb10 hb11) hb12
        have br13 : BW W13 k6 false A12 n12 c12 := by rw [hW13]; exact brw.st false A12 n12 c12
        have bq13 := (bq9.below hb912).keep hC13 (by omega)
        have hr013 : Wr W13 A n c X N := by rw [hW13]; exact (hr09.below hb912).st brw _ _ _ _
        have hr213 : Wr W13 B m d Y M := by rw [hW13]; exact (hr29.below hb912).st brw _ _ _ _
        have hrt13 : Wr W13 A1 n1 c1 2 4 := by rw [hW13]; exact (hrt9.below hb912).st brw _ _ _ _
        have hw13 : Wr W13 A12 n12 c12 (r * 2 + t - Y) (max (M + 4 + 1) 4 + 1) := by rw [hW13]; exact hw12.st brw _ _ _ _
        have hq13 : Wr W13 A8 n8 c8 (q * 2) (N + 4 + 1) := by rw [hW13]; exact (hq99.below hb912).st brw _ _ _ _
        have hch13 : Chg (fun z => z = k5 ∨ z = k6) W2 W13 := hch9.trans ((Chg.of_below hb912).trans (hC13.mono (fun _ _ h => .inr h)))
        clear hb912 hb10 hb11 hb12 hW13 brw hC13 hw12 hq99 hw99 hr09 hr29 hrt9 bq9 br9 ba9 bb9 bt9 hch9 z1 z2 y0 y1 y2 y3 hs11' hsk HTR HLS HSZ
        obtain ⟨T, hT⟩ : ∃ T : Nat → Fact, ∀ t_, T t_ = ([Fact.eq (.agg #[.bool false, .slice A8 n8 c8]), FWd 1 4, FWd (q * 2 + 1) (max (N + 4 + 1) 4 + 1), Fact.eq (undef)] : List (Fact)).getD t_ Fact.any := ⟨_, fun _ => rfl⟩
        refine region_tabS 3 [(0, 48), (1, 49), (2, 50)] T (by kernel_rfl) (by kernel_rfl) (by kernel_rfl) (by kernel_rfl) (by kernel_rfl) (by kernel_rfl) (by kernel_rfl) ?_ ?_
        · skip
          refine stepsAll_cons (k := 0) ?_ ?_
          · intro fa fx fW hF fB hE K fK
            have ev6 : fa.tmps[6]?.getD undef = .pointer (some ⟨k5, 0, none⟩) := hF.eo 6 (by kernel_rfl)
            have y0 := (bq13.below fB).c0
            have y1 := (bq13.below fB).c1
            refine wpOp_val rfl (wanted_none rfl) ?_ (fK (.agg #[.bool false, .slice A8 n8 c8]) fW (Below.refl _ _) (by rw [hT]; exact rfl))
            clear fK hE hF
            go_simp
          refine stepsAll_cons (k := 1) ?_ ?_
          · intro fa fx fW hF fB hE K fK
            refine wpOp_call rfl (wanted_none rfl) (by go_simp; exact ⟨rfl, rfl⟩) ?_
            refine (dOf 1 fW (by decide)).mono ?_
            rintro e w' ⟨⟨v6, rfl, hs6⟩, hbb⟩
            exact ⟨_, rfl, fK (v6) (w') (hbb) (by rw [hT]; exact hs6)⟩
          refine stepsAll_cons (k := 2) ?_ ?_
          · intro fa fx fW hF fB hE K fK
            have q0 : fx 0 = .agg #[.bool false, .slice A8 n8 c8] := by have q := hE ⟨0, .data⟩ (by simp) rfl; rw [hT] at q; exact q
            have q1 : (FWd 1 4).p (fx 1) fW := by have q := hE ⟨1, .data⟩ (by simp) rfl; rw [hT] at q; exact q
            have ev48 : fa.tmps[48]?.getD undef = .agg #[.bool false, .slice A8 n8 c8] := (hF.ev 0 48 (by kernel_rfl)).trans q0
            have ev49 : fa.tmps[49]?.getD undef = fx 1 := hF.ev 1 49 (by kernel_rfl)
            refine wpOp_call rfl (wanted_none rfl) (by go_simp; exact ⟨rfl, rfl⟩) ?_
            refine (dPlus _ _ (q * 2) 1 (N + 4 + 1) 4 fW ((hq13.below fB).wd0 (by omega)) q1 (by omega) (by omega)).mono ?_
            rintro e w' ⟨⟨v9, rfl, hs9⟩, hbb⟩
            exact ⟨_, rfl, fK (v9) (w') (hbb) (by rw [hT]; exact hs9)⟩
          exact stepsAll_nil
        intro fa fx fW hF fB hx
        have q2 : (FWd (q * 2 + 1) (max (N + 4 + 1) 4 + 1)).p (fx 2) fW := by have q := hx 2 (by decide); rw [hT] at q; exact q
        have ev50 : fa.tmps[50]?.getD undef = fx 2 := hF.ev 2 50 (by kernel_rfl)
        have ev6 : fa.tmps[6]?.getD undef = .pointer (some ⟨k5, 0, none⟩) := hF.eo 6 (by kernel_rfl)
        obtain ⟨A14, n14, c14, e14, hw14⟩ := Wd.open0 q2 (by omega)
        rw [e14] at ev50
        have bqf := bq13.below fB
        have i0 := bqf.c0
        have i1 := bqf.c1
        have f0 := bqf.f0 0
        have f1 := bqf.f0 1
        refine wpOp_fin rfl (wanted_none rfl) rfl (W' := (fW.setCell ⟨k5, 0, none⟩ (.bool false)).setCell ⟨k5, 1, none⟩ (.slice A14 n14 c14)) ?_ ?_
        · clear hF hx
          clear hw14 bqf
          go_simp
        refine tail_end ?_
        rw [hF.eq]
        clear hF hx
        simp only [putAll, Act.put, List.setIfInBounds_toArray, List.set_cons_zero, List.set_cons_succ, ]
        obtain ⟨W15, hW15⟩ : ∃ W15, W15 = stW fW k5 false A14 n14 c14 := ⟨_, rfl⟩
        rw [show (fW.setCell ⟨k5, 0, none⟩ (.bool false)).setCell ⟨k5, 1, none⟩ (.slice A14 n14 c14) = W15 from hW15.symm]
        have hC15 : Chg (fun z => z = k5) fW W15 := by rw [hW15]; exact chg_st fW k5 false A14 n14 c14
        have bq15 : BW W15 k5 false A14 n14 c14 := by rw [hW15]; exact bqf.st false A14 n14 c14
        have br15 := (br13.below fB).keep hC15 (by omega)
        have hr015 : Wr W15 A n c X N := by rw [hW15]; exact (hr013.below fB).st bqf _ _ _ _
        have hr215 : Wr W15 B m d Y M := by rw [hW15]; exact (hr213.below fB).st bqf _ _ _ _
        have hrt15 : Wr W15 A1 n1 c1 2 4 := by rw [hW15]; exact (hrt13.below fB).st bqf _ _ _ _
        have hw15 : Wr W15 A12 n12 c12 (r * 2 + t - Y) (max (M + 4 + 1) 4 + 1) := by rw [hW15]; exact (hw13.below fB).st bqf _ _ _ _
        have hq15 : Wr W15 A14 n14 c14 (q * 2 + 1) (max (N + 4 + 1) 4 + 1) := by rw [hW15]; exact hw14.st bqf _ _ _ _
        have hch15 : Chg (fun z => z = k5 ∨ z = k6) W2 W15 := hch13.trans ((Chg.of_below fB).trans (hC15.mono (fun _ _ h => .inl h)))
        clear fB hW15 bqf hC15 hw14 hw13 hq13 hr013 hr213 hrt13 bq13 br13 hch13 i0 i1 f0 f1
        go_wp2
        go_roundw
        case rel => exact ⟨k, q * 2 + 1, r * 2 + t - Y, A14, n14, c14, A12, n12, c12, by omega, by go_num, bq15, hq15.fit N (by omega), br15, hw15.fit M (by omega), HJN.out, hr015, hr215, hrt15, hch15⟩
        case measure => simp only [intOf]; omega
end Go.Proofs.Ytnacfpkagomfaaa
