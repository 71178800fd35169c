/- The document's Need of moves. -/
import Derived.Test.YtjpclnmohemjlaaRef09
namespace Go.Proofs.Ytjpclnmohemjlaa
open Go.RowKit
theorem upto_same (k : Nat) (xs : List Int) (h : xs[k]? = some 0) : upto (k + 1) xs = upto k xs := by
  have hk : k < xs.length := (List.getElem?_eq_some_iff.1 h).1
  rw [upto_succ k xs 0 h]
  apply List.ext_getElem?
  intro j
  rw [List.getElem?_set]
  split
  · rename_i e
    subst e
    rw [upto_get _ _ hk, upto_length _ _ (Nat.le_of_lt hk), if_pos hk]
  · rfl
set_option maxRecDepth 100000 in
set_option maxHeartbeats 4000000 in
theorem rneed (A : Option Addr) (m c : Nat) (os : List Int) (B : Option Addr) (n d : Nat) (ts : List Int) (w : World) (hr : Rds w 1 A m c (nums .i64 os)) (hr2 : Rds w 1 B n d (nums .i64 ts)) (hti : ∀ t ∈ ts, I64 t) :
    Calls Try.prog 10 #[.slice A m c, .slice B n d] w fun e w' => (∃ v u, e = .returned (.tuple #[v, u]) ∧ Needs w 3 os ts v u w') ∧ Below w.heap.size w w' := by
  have HG := Lib.hid (rright A m c os B n d ts w hr hr2)
  cases hg : rightB os ts with
  | false =>
    rw [hg] at HG
    have HV : Hid (needV os ts = ([], [])) := by show _ = _; unfold needV; rw [hg]; rfl
    clear hg
    go_enter Try.func10, Try.ntmps10
    go_wp2_with (go_at_call 24; refine HG.out.mono ?_; rintro e w1 ⟨rfl, rfl⟩; have hb1 : Below w.heap.size w w := Below.refl _ _)
    go_ret2
    refine ⟨⟨_, _, rfl, ?_⟩, hb1⟩
    unfold Needs
    rw [HV.out]
    exact ⟨World.ownsRow_nil _ _ _ _, World.ownsRow_nil _ _ _ _, .inl rfl⟩
  | true =>
    rw [hg] at HG
    obtain ⟨⟨g1, g2, g3, g4⟩, g5⟩ := rightB_iff.1 hg
    have HN := Lib.hid (nums_inj_len hr)
    have HM := Lib.hid (nums_inj_len hr2)
    rw [HM.out] at g3
    have hgo : goodB os n = true := by
      unfold rightB at hg
      rw [HM.out] at hg
      exact (Bool.and_eq_true _ _ ▸ hg).1
    have HC0 := fun W h => rcount A m c os n W h
    have hcv : countV os n = cntL os n := by unfold countV; rw [hgo]; rfl
    rw [hcv] at HC0
    have HC := Lib.hid HC0
    have HV : Hid (needV os ts = (moreL (cntL os n) ts, lackL (cntL os n) ts)) := by show _ = _; unfold needV; rw [hg, HM.out]; rfl
    have hn : n ≤ 64 := by omega
    have hm64 : m ≤ 64 := by rw [← HN.out]; exact g1
    have H5 := Lib.hid g5
    have hml : (moreL (cntL os n) ts).length = n := by simp [moreL, cntL_length, HM.out]
    have hll : (lackL (cntL os n) ts).length = n := by simp [lackL, cntL_length, HM.out]
    have HML := Lib.hid hml
    have HLL := Lib.hid hll
    clear g1 g2 g3 g4 g5 hg hgo HC0 hcv hml hll
    go_enter Try.func10, Try.ntmps10
    go_wp2_with (go_at_call 24; refine HG.out.mono ?_; rintro e w1 ⟨rfl, rfl⟩; have hb1 : Below w.heap.size w w := Below.refl _ _)
    obtain ⟨G, hG⟩ : ∃ G : Option Value → Option Value → Option Value → Option Value → World → Prop, ∀ a b c' d' W, G a b c' d' W = (Below w.heap.size w W ∧
        (∀ v, a = some v → ∃ g, v = .slice (some ⟨g, 0, none⟩) n n ∧ W.ownsRow w.heap.size 3 1 v n (nums .i64 (List.replicate n 0))) ∧
        (∀ v, b = some v → ∃ g, v = .slice (some ⟨g, 0, none⟩) n n ∧ W.ownsRow w.heap.size 3 1 v n (nums .i64 (List.replicate n 0))) ∧
        (∀ v u, a = some v → b = some u → v.ownBlock ≠ u.ownBlock) ∧ (∀ v, c' = some v → a = some v) ∧ (∀ v, d' = some v → b = some v)) := ⟨_, fun _ _ _ _ _ => rfl⟩
    obtain ⟨S_, hS_⟩ : ∃ S_ : World → World → Prop, S_ = (fun _ _ => True) := ⟨_, rfl⟩
    have hR_ : ∀ W, S_ W W := by intro W; rw [hS_]; exact trivial
    obtain ⟨T, hT⟩ : ∃ T : Nat → FactS S_, ∀ t_, T t_ = ([FactS.eq (.slice B n d), FactS.eq (.int .i64 n), FactS.any, FactS.eq (.slice B n d), FactS.eq (.int .i64 n), FactS.any, FactS.any, FactS.any] : List (FactS S_)).getD t_ FactS.any := ⟨_, fun _ => rfl⟩
    have hP_ : ∀ i_ v_ (y_ : Nat → Option Value) W_, ([2, 5, 6, 7].contains i_) = false → G (y_ 2) (y_ 5) (y_ 6) (y_ 7) W_ → G (updY y_ i_ v_ 2) (updY y_ i_ v_ 5) (updY y_ i_ v_ 6) (updY y_ i_ v_ 7) W_ := by
      intro i_ v_ y_ W_ hi_ h_
      simp only [List.contains_cons, List.contains_nil, Bool.or_false, Bool.or_eq_false_iff, beq_eq_false_iff_ne, ne_eq] at hi_
      obtain ⟨i2_, i5_, i6_, i7_⟩ := hi_
      rw [updY_ne y_ i_ v_ i2_, updY_ne y_ i_ v_ i5_, updY_ne y_ i_ v_ i6_, updY_ne y_ i_ v_ i7_]
      exact h_
    refine region_tabJ [(0, 14), (1, 15), (2, 16), (3, 17), (4, 18), (5, 19), (6, 6), (7, 7)] S_ T (fun y_ W_ => G (y_ 2) (y_ 5) (y_ 6) (y_ 7) W_) (by kernel_rfl) (by kernel_rfl) (by kernel_rfl) (by kernel_rfl) (by kernel_rfl) ?_ ?_ ?_
    · skip
      show G none none none none _
      rw [hG]
      exact ⟨below_dr hb1 _, (fun v h => by cases h), (fun v h => by cases h), (fun v u h => by cases h), (fun v h => by cases h), (fun v h => by cases h)⟩
    · skip
      refine stepsAll_cons (k := 0) ?_ ?_
      · intro fa fx fW fy hF hN hJ hE K fK
        have hJ : G (fy 2) (fy 5) (fy 6) (fy 7) fW := hJ
        have ev1 : fa.tmps[1]?.getD undef = .slice B n d := hF.eo 1 (by kernel_rfl)
        refine wpOp_val rfl (wanted_none rfl) ?_ (fK (.slice B n d) fW (hR_ fW) (by rw [hT]; exact rfl) (hP_ 0 _ fy fW rfl hJ))
        clear fK hE hF hJ hN
        go_simp
      refine stepsAll_cons (k := 1) ?_ ?_
      · intro fa fx fW fy hF hN hJ hE K fK
        have hJ : G (fy 2) (fy 5) (fy 6) (fy 7) fW := hJ
        have q0 : fx 0 = .slice B n d := by have q := (hE ⟨0, .data⟩ (by simp) rfl).2; rw [hT] at q; exact q
        have ev14 : fa.tmps[14]?.getD undef = .slice B n d := (hF.ev 0 14 (by kernel_rfl)).trans q0
        refine wpOp_val rfl (wanted_none rfl) ?_ (fK (.int .i64 n) fW (hR_ fW) (by rw [hT]; exact rfl) (hP_ 1 _ fy fW rfl hJ))
        clear fK hE hF hJ hN
        go_simp
      refine stepsAll_cons (k := 2) ?_ ?_
      · intro fa fx fW fy hF hN hJ hE K fK
        have hJ : G (fy 2) (fy 5) (fy 6) (fy 7) fW := hJ
        have q1 : fx 1 = .int .i64 n := by have q := (hE ⟨1, .data⟩ (by simp) rfl).2; rw [hT] at q; exact q
        have ev15 : fa.tmps[15]?.getD undef = .int .i64 n := (hF.ev 1 15 (by kernel_rfl)).trans q1
        rw [hG] at hJ
        obtain ⟨j1, j2, j3, j4, j5, j6⟩ := hJ
        refine wpOp_list rfl (mkn (w0 := w) w.heap.size rfl _ _ 22 3 _ 1 8 rfl Try.underlying22 info_int .i64 .i64 _ _ n (by go_simp) (by go_simp) rfl rfl (by omega) (by unfold maxLen; omega) j1 j1.size ?_)
        intro w2 ho2 hb2 hg2
        refine fK _ _ (by rw [hS_]; trivial) (by rw [hT]; exact trivial) ?_
        show G (some _) (fy 5) (fy 6) (fy 7) w2
        rw [hG]
        refine ⟨hb2, ?_, ?_, ?_, ?_, ?_⟩
        · rintro v h
          cases h
          refine ⟨_, rfl, ?_⟩
          rw [Nat.mul_one, show (Value.int .i64 0).cells = #[.int .i64 0] from rfl, toList_madeCells_one] at ho2
          simpa [nums] using ho2
        · rintro v h
          obtain ⟨g, rfl, h2⟩ := j3 v h
          exact ⟨g, rfl, h2.kept hg2 (.inr (by simp [Value.ownBlock]))⟩
        · rintro v u h h2
          cases h
          obtain ⟨g, rfl, h3⟩ := j3 u h2
          have := (h3.lt g rfl).2
          simp [Value.ownBlock]
          omega
        · intro v h
          have := j5 v h
          rw [hN] at this
          cases this
        · exact j6
      refine stepsAll_cons (k := 3) ?_ ?_
      · intro fa fx fW fy hF hN hJ hE K fK
        have hJ : G (fy 2) (fy 5) (fy 6) (fy 7) fW := hJ
        have ev1 : fa.tmps[1]?.getD undef = .slice B n d := hF.eo 1 (by kernel_rfl)
        refine wpOp_val rfl (wanted_none rfl) ?_ (fK (.slice B n d) fW (hR_ fW) (by rw [hT]; exact rfl) (hP_ 3 _ fy fW rfl hJ))
        clear fK hE hF hJ hN
        go_simp
      refine stepsAll_cons (k := 4) ?_ ?_
      · intro fa fx fW fy hF hN hJ hE K fK
        have hJ : G (fy 2) (fy 5) (fy 6) (fy 7) fW := hJ
        have q3 : fx 3 = .slice B n d := by have q := (hE ⟨3, .data⟩ (by simp) rfl).2; rw [hT] at q; exact q
        have ev17 : fa.tmps[17]?.getD undef = .slice B n d := (hF.ev 3 17 (by kernel_rfl)).trans q3
        refine wpOp_val rfl (wanted_none rfl) ?_ (fK (.int .i64 n) fW (hR_ fW) (by rw [hT]; exact rfl) (hP_ 4 _ fy fW rfl hJ))
        clear fK hE hF hJ hN
        go_simp
      refine stepsAll_cons (k := 5) ?_ ?_
      · intro fa fx fW fy hF hN hJ hE K fK
        have hJ : G (fy 2) (fy 5) (fy 6) (fy 7) fW := hJ
        have q4 : fx 4 = .int .i64 n := by have q := (hE ⟨4, .data⟩ (by simp) rfl).2; rw [hT] at q; exact q
        have ev18 : fa.tmps[18]?.getD undef = .int .i64 n := (hF.ev 4 18 (by kernel_rfl)).trans q4
        rw [hG] at hJ
        obtain ⟨j1, j2, j3, j4, j5, j6⟩ := hJ
        refine wpOp_list rfl (mkn (w0 := w) w.heap.size rfl _ _ 22 3 _ 1 8 rfl Try.underlying22 info_int .i64 .i64 _ _ n (by go_simp) (by go_simp) rfl rfl (by omega) (by unfold maxLen; omega) j1 j1.size ?_)
        intro w2 ho2 hb2 hg2
        refine fK _ _ (by rw [hS_]; trivial) (by rw [hT]; exact trivial) ?_
        show G (fy 2) (some _) (fy 6) (fy 7) w2
        rw [hG]
        refine ⟨hb2, ?_, ?_, ?_, ?_, ?_⟩
        · rintro v h
          obtain ⟨g, rfl, h2⟩ := j2 v h
          exact ⟨g, rfl, h2.kept hg2 (.inr (by simp [Value.ownBlock]))⟩
        · rintro v h
          cases h
          refine ⟨_, rfl, ?_⟩
          rw [Nat.mul_one, show (Value.int .i64 0).cells = #[.int .i64 0] from rfl, toList_madeCells_one] at ho2
          simpa [nums] using ho2
        · rintro v u h2 h
          cases h
          obtain ⟨g, rfl, h3⟩ := j2 v h2
          have := (h3.lt g rfl).2
          simp [Value.ownBlock]
          omega
        · exact j5
        · intro v h
          have := j6 v h
          rw [hN] at this
          cases this
      refine stepsAll_cons (k := 6) ?_ ?_
      · intro fa fx fW fy hF hN hJ hE K fK
        have hJ : G (fy 2) (fy 5) (fy 6) (fy 7) fW := hJ
        have q2 : (FactS.any : FactS S_).p (fx 2) fW := by have q := (hE ⟨2, .data⟩ (by simp) rfl).2; rw [hT] at q; exact q
        have y2 : fy 2 = some (fx 2) := (hE ⟨2, .data⟩ (by simp) rfl).1
        have ev16 : fa.tmps[16]?.getD undef = fx 2 := hF.ev 2 16 (by kernel_rfl)
        refine wpOp_val rfl (wanted_none rfl) (by clear fK hE hF hJ hN; go_simp) (fK (fx 2) fW (hR_ fW) (by rw [hT]; exact trivial) ?_)
        show G (fy 2) (fy 5) (some (fx 2)) (fy 7) fW
        rw [hG] at hJ ⊢
        exact ⟨hJ.1, hJ.2.1, hJ.2.2.1, hJ.2.2.2.1, (fun v h => by cases h; exact y2), hJ.2.2.2.2.2⟩
      refine stepsAll_cons (k := 7) ?_ ?_
      · intro fa fx fW fy hF hN hJ hE K fK
        have hJ : G (fy 2) (fy 5) (fy 6) (fy 7) fW := hJ
        have q5 : (FactS.any : FactS S_).p (fx 5) fW := by have q := (hE ⟨5, .data⟩ (by simp) rfl).2; rw [hT] at q; exact q
        have y5 : fy 5 = some (fx 5) := (hE ⟨5, .data⟩ (by simp) rfl).1
        have ev19 : fa.tmps[19]?.getD undef = fx 5 := hF.ev 5 19 (by kernel_rfl)
        refine wpOp_val rfl (wanted_none rfl) (by clear fK hE hF hJ hN; go_simp) (fK (fx 5) fW (hR_ fW) (by rw [hT]; exact trivial) ?_)
        show G (fy 2) (fy 5) (fy 6) (some (fx 5)) fW
        rw [hG] at hJ ⊢
        exact ⟨hJ.1, hJ.2.1, hJ.2.2.1, hJ.2.2.2.1, hJ.2.2.2.2.1, (fun v h => by cases h; exact y5)⟩
      exact stepsAll_nil
    intro fa fx fW fy hF hJ0 hx
    have y2 : fy 2 = some (fx 2) := (hx 2 (by decide)).1
    have y5 : fy 5 = some (fx 5) := (hx 5 (by decide)).1
    have y6 : fy 6 = some (fx 6) := (hx 6 (by decide)).1
    have y7 : fy 7 = some (fx 7) := (hx 7 (by decide)).1
    have hJ : G (fy 2) (fy 5) (fy 6) (fy 7) fW := hJ0
    clear hJ0
    rw [y2, y5, y6, y7] at hJ
    rw [hF.eq]
    clear hF hx hT T hP_ hR_ y2 y5 y6 y7
    simp only [putAll, Act.put, List.setIfInBounds_toArray, List.set_cons_zero, List.set_cons_succ, ]
    rw [hG] at hJ
    obtain ⟨hbJ, r2, r5, hne0, e60, e70⟩ := hJ
    have e6 := e60 _ rfl
    have e7 := e70 _ rfl
    clear e60 e70
    simp only [Option.some.injEq] at e6 e7
    obtain ⟨g, hv2, own2⟩ := r2 _ rfl
    obtain ⟨h, hv5, own5⟩ := r5 _ rfl
    have hne := hne0 _ _ rfl rfl
    clear hne0
    rw [← e6, ← e7]
    rw [hv2, hv5]
    rw [hv2] at own2 hne
    rw [hv5] at own5 hne
    generalize fx 0 = x0
    generalize fx 1 = x1
    generalize fx 3 = x3
    generalize fx 4 = x4
    clear hG G hS_ S_ r2 r5 hv2 hv5 e6 e7 fy fa fx
    have hgh : g ≠ h := fun e => hne (by rw [e])
    clear hne
    go_wp2_with (go_at_call 15; refine (HC.out _ (hr.below hbJ)).mono ?_; rintro e w2 ⟨⟨C, l, d2, rfl, hrC, hnew⟩, hb2⟩)
    have hl : l = n := by have := nums_inj_len hrC; rw [cntL_length] at this; omega
    subst hl
    have hbK := below_tr hbJ hb2
    have hgl := (own2.lt g rfl).2
    have hhl := (own5.lt h rfl).2
    have hgl1 := (own2.lt g rfl).1
    have hhl1 := (own5.lt h rfl).1
    have HNW : Hid (∀ ad, C = some ad → ad.block ≠ g ∧ ad.block ≠ h) := fun ad e => by have := hnew ad e; omega
    have o2 := own_below own2 hb2
    have o5 := own_below own5 hb2
    clear own2 own5 hb2 hbJ hnew hgl hhl
    have hz1 : List.replicate l (0 : Int) = upto 0 (moreL (cntL os l) ts) := by rw [upto_zero, HML.out]
    have hz2 : List.replicate l (0 : Int) = upto 0 (lackL (cntL os l) ts) := by rw [upto_zero, HLL.out]
    rw [hz1] at o2
    rw [hz2] at o5
    clear hz1 hz2
    go_loopw [25] (fun i wr => ∃ k : Nat, k ≤ l ∧ i = .int .i64 k ∧ Below w.heap.size w wr ∧ Rds wr 1 C l d2 (nums .i64 (cntL os l)) ∧ wr.ownsRow w.heap.size 3 1 (.slice (some ⟨g, 0, none⟩) l l) l (nums .i64 (upto k (moreL (cntL os l) ts))) ∧ wr.ownsRow w.heap.size 3 1 (.slice (some ⟨h, 0, none⟩) l l) l (nums .i64 (upto k (lackL (cntL os l) ts)))) (fun i _ => l - (intOf i).toNat)
    case atStart => exact ⟨0, Nat.zero_le _, rfl, hbK, hrC, o2, o5⟩
    case round =>
      obtain ⟨k, hk, rfl, hb, hrc, HO, HO2⟩ := hrel
      clear o2 o5 hrC hbK
      by_cases hlt : k < l
      · obtain ⟨bd, rfl⟩ := hr2.some_ (by omega)
        obtain ⟨cd, rfl⟩ := hrc.some_ (by omega)
        have hkt : k < ts.length := by rw [HM.out]; exact hlt
        have hcnt0 : (cntL os l)[k]? = some ((os.count ((k : Int) + 1) : Nat) : Int) := cntL_get _ _ _ hlt
        have hq : os.count ((k : Int) + 1) ≤ m := by rw [← HN.out]; exact List.count_le_length
        generalize os.count ((k : Int) + 1) = q at hcnt0 hq
        have ht0 : ts[k]? = some ts[k] := List.getElem?_eq_getElem hkt
        have ht5 := H5.out ts[k] (List.getElem_mem hkt)
        have ht6 := hti ts[k] (List.getElem_mem hkt)
        generalize ts[k] = t at ht0 ht5 ht6
        have HT0 := Lib.hid ht0
        have hmo := moreL_get hcnt0 ht0
        have hla := lackL_get hcnt0 ht0
        have HMO := Lib.hid hmo
        have HLA := Lib.hid hla
        have hc1 := hrc.cell cd rfl k _ (getD_nums hcnt0)
        have HC0 := Lib.hid hcnt0
        clear hmo hla ht0 hcnt0
        have hk1 : (k : Int) < (l : Int) := by omega
        have hc2 := (hr2.below hb).cell bd rfl k _ (getD_nums HT0.out)
        unfold I64 at ht6
        by_cases hqt : t < (q : Int)
        · have hc3 := HO.cellAt k (by omega)
          have hf3 := HO.frozenAt k
          rw [getD_nums (show (upto k (moreL (cntL os l) ts))[k]? = some 0 from upto_get _ _ (by rw [HML.out]; exact hlt))] at hc3
          have hst := HO.stored k (.int .i64 ((q : Int) - t))
          rw [nums_set] at hst
          have e1 : (upto k (moreL (cntL os l) ts)).set k ((q : Int) - t) = upto (k + 1) (moreL (cntL os l) ts) := by
            have h := upto_succ _ _ _ HMO.out
            rw [show max ((q : Int) - t) 0 = (q : Int) - t by omega] at h
            exact h.symm
          have e2 : upto k (lackL (cntL os l) ts) = upto (k + 1) (lackL (cntL os l) ts) := by
            have h := HLA.out
            rw [show max (t - (q : Int)) 0 = 0 by omega] at h
            exact (upto_same _ _ h).symm
          rw [e1] at hst
          rw [e2] at HO2
          have hst1 := hst.1
          have hbb := hb.grown hst.2 hb.size (fun k hk => by cases hk; exact hgl1)
          have hrc2 := hrc.grown hst.2 (fun ad e => (HNW.out ad e).1)
          have HO3 := HO2.kept hst.2 (.inr (by simp [Value.ownBlock]; exact Ne.symm hgh))
          have hwr : IntKind.i64.wrap ((q : Int) - t) = (q : Int) - t := IntWalk.i64_in _ (by omega)
          clear hst e1 e2 HO2
          go_wp2
          go_roundw
          case rel => exact ⟨k + 1, by omega, by go_num, hbb, hrc2, hst1, HO3⟩
          case measure => simp [intOf]; omega
        · have hc3 := HO2.cellAt k (by omega)
          have hf3 := HO2.frozenAt k
          rw [getD_nums (show (upto k (lackL (cntL os l) ts))[k]? = some 0 from upto_get _ _ (by rw [HLL.out]; exact hlt))] at hc3
          have hst := HO2.stored k (.int .i64 (t - (q : Int)))
          rw [nums_set] at hst
          have e1 : (upto k (lackL (cntL os l) ts)).set k (t - (q : Int)) = upto (k + 1) (lackL (cntL os l) ts) := by
            have h := upto_succ _ _ _ HLA.out
            rw [show max (t - (q : Int)) 0 = t - (q : Int) by omega] at h
            exact h.symm
          have e2 : upto k (moreL (cntL os l) ts) = upto (k + 1) (moreL (cntL os l) ts) := by
            have h := HMO.out
            rw [show max ((q : Int) - t) 0 = 0 by omega] at h
            exact (upto_same _ _ h).symm
          rw [e1] at hst
          rw [e2] at HO
          have hst1 := hst.1
          have hbb := hb.grown hst.2 hb.size (fun k hk => by cases hk; exact hhl1)
          have hrc2 := hrc.grown hst.2 (fun ad e => (HNW.out ad e).2)
          have HO3 := HO.kept hst.2 (.inr (by simp [Value.ownBlock]; exact hgh))
          have hwr : IntKind.i64.wrap (t - (q : Int)) = t - (q : Int) := IntWalk.i64_in _ (by omega)
          clear hst e1 e2 HO
          go_wp2
          go_roundw
          case rel => exact ⟨k + 1, by omega, by go_num, hbb, hrc2, HO3, hst1⟩
          case measure => simp [intOf]; omega
      · go_wp2
        go_ret2
        have hkl : k = l := by omega
        subst hkl
        rw [upto_all _ _ (by rw [HML.out]; exact Nat.le_refl _)] at HO
        rw [upto_all _ _ (by rw [HLL.out]; exact Nat.le_refl _)] at HO2
        refine ⟨⟨_, _, rfl, ?_⟩, hb⟩
        unfold Needs
        rw [HV.out]
        simp only [HML.out, HLL.out]
        exact ⟨HO, HO2, .inr (by simp [Value.ownBlock]; exact hgh)⟩
end Go.Proofs.Ytjpclnmohemjlaa
