/- wherryref01: trim. -/
import Derived.Test.YtabdipfpfbdghaaDigOf
namespace Go.Proofs.Ytabdipfpfbdghaa
open Go.RowKit
theorem trim_sign {ds : List Int} {k : Nat} (hd : Dig ds) (ht : Trimmed (ds.take k)) (hv : valD (ds.take k) = valD ds) (hk : k ≤ ds.length) : decide ((0 : Int) < (k : Int)) = decide (0 < valD ds) := by
  rcases Nat.eq_zero_or_pos k with h | h
  · subst h
    rw [List.take_zero] at hv
    simp [← hv, valD]
  · have h1 := valD_ge (dig_take hd k) ht (by intro e; have := congrArg List.length e; rw [List.length_take] at this; simp only [List.length_nil] at this; omega)
    have h2 := pw_pos ((ds.take k).length - 1)
    rw [hv] at h1
    simp; omega
/-- The number that a sign and digits tell. -/
def tellD (neg : Bool) (ds : List Int) : Int := if neg then - valD ds else valD ds
theorem sgn_false {ds : List Int} (h : Dig ds) : decide (tellD false ds < 0) = false := by
  have := (valD_bd h).1
  simp [tellD]; omega
theorem sgn_true (ds : List Int) : decide (tellD true ds < 0) = decide (0 < valD ds) := by
  simp only [tellD, if_true]
  congr 1
  exact propext ⟨fun h => by omega, fun h => by omega⟩
theorem tell_abs {ds : List Int} (neg : Bool) (h : Dig ds) : ((tellD neg ds).natAbs : Int) = valD ds := by
  have := (valD_bd h).1
  cases neg <;> simp [tellD] <;> omega
theorem rds_zero {w w1 : World} {sz n c : Nat} {A : Option Addr} {cs : List Value} (h : Rds w sz A n c cs) : Rds w1 sz A 0 c [] := ⟨by simp, Nat.zero_le _, h.max, h.nil, fun ad e j u hj => by simp at hj⟩
set_option maxRecDepth 100000 in
set_option maxHeartbeats 4000000 in
theorem dtrim (neg : Bool) (A : Option Addr) (n c : Nat) (ds : List Int) (w : World) (hr : Rds w 1 A n c (nums .u32 ds)) (hd : Dig ds) :
    Calls Try.prog 62 #[.agg #[.bool neg, .slice A n c]] w fun e w' => (∃ v, e = .returned v ∧ Wd w' v (tellD neg ds) n) ∧ Below w.heap.size w w' := by
  have HN := Lib.hid (u32s_len hr)
  have HD := Lib.hid hd
  have hmax : n ≤ 9223372036854775807 := by have := hr.le; have := hr.max; unfold maxLen at this; omega
  have hnc := hr.le
  clear hd
  go_enter Try.func62, Try.ntmps62
  go_wp2
  obtain ⟨W2, hW2⟩ : ∃ W2, W2 = (w.alloc (.cells #[.bool neg, .slice A n c] 76)).alloc (.cells #[.bool false, .slice none 0 0] 76) := ⟨_, rfl⟩
  have p0 : W2.cell? ⟨w.heap.size, 0, none⟩ = some (.bool neg) := by rw [hW2]; go_simp
  have p1 : W2.cell? ⟨w.heap.size, 1, none⟩ = some (.slice A n c) := by rw [hW2]; go_simp
  have q0 : Box W2 (w.heap.size + 1) 0 (.bool false) := by rw [hW2]; constructor <;> go_simp
  have q1 : Box W2 (w.heap.size + 1) 1 (.slice none 0 0) := by rw [hW2]; constructor <;> go_simp
  have hg0 : W2.heap[w.heap.size + 1]? = some (.cells #[.bool false, .slice none 0 0] 76 (0, 0)) := by rw [hW2]; exact (by simpa using heap_alloc_new (w.alloc (.cells #[.bool neg, .slice A n c] 76)) (.cells #[.bool false, .slice none 0 0] 76))
  have hB : Below w.heap.size w W2 := by rw [hW2]; exact below_al (below_al (Below.refl _ _) _) _
  rw [← hW2]
  obtain ⟨b1, hb1⟩ : ∃ b, b = w.heap.size := ⟨_, rfl⟩
  obtain ⟨b0, hb0⟩ : ∃ b, b = w.heap.size + 1 := ⟨_, rfl⟩
  rw [show Value.pointer (some ⟨w.heap.size, 0, none⟩) = Value.pointer (some ⟨b1, 0, none⟩) by rw [hb1], show Value.pointer (some ⟨w.heap.size + 1, 0, none⟩) = Value.pointer (some ⟨b0, 0, none⟩) by rw [hb0]]
  rw [← hb1] at p0 p1
  rw [← hb0] at q0 q1 hg0
  have hr2 := hr.below hB
  have hbe : Hid (w.heap.size ≤ b0) := by show _ ≤ _; omega
  have hne : ¬ b1 = b0 := by omega
  have hab : ∀ ad, A = some ad → 0 < n → ¬ ad.block = b0 := by
    intro ad e hn
    have hlt : ad.block < w.heap.size := by
      have h1 := hr.cell ad e 0 _ (List.getElem?_eq_getElem (show 0 < (nums .u32 ds).length by rw [hr.len]; omega))
      exact World.block_lt_of_cell? w _ h1
    omega
  have HAB := Lib.hid hab
  clear hab hb1 hb0 hW2 hr
  go_wp2
  go_loopw [3] (fun x wr => ∃ k : Nat, k ≤ n ∧ x = .int .i64 k ∧ Hid (valD (ds.take k) = valD ds) ∧ wr = W2) (fun x _ => (intOf x).toNat)
  case atStart => exact ⟨n, Nat.le_refl _, rfl, by show _ = _; rw [List.take_of_length_le (by rw [HN.out]; exact Nat.le_refl _)], rfl⟩
  case round =>
    obtain ⟨k, hk, rfl, HV, hwr⟩ := hrel
    subst hwr
    rcases Nat.eq_zero_or_pos k with h0 | h0
    · subst h0
      have HTR : Hid (Trimmed (ds.take 0)) := by show Trimmed _; rw [List.take_zero]; exact trimmed_nil
      have HTV := Lib.hid (trim_sign HD.out HTR.out HV.out (by rw [HN.out]; exact hk))
      cases neg with
      | false =>
        go_wp2
        obtain ⟨G, hG⟩ : ∃ G : Option Value → World → Prop, ∀ a W, G a W = (Chg (fun q => q = b0) wr W ∧ (a = none → Box W b0 0 (.bool false) ∧ Box W b0 1 (.slice none 0 0) ∧ W.heap[b0]? = some (.cells #[.bool false, .slice none 0 0] 76 (0, 0))) ∧ (a.isSome = true → W.heap[b0]? = some (.cells #[.bool false, .slice A 0 c] 76 (0, 0)))) := ⟨_, fun _ _ => rfl⟩
        obtain ⟨S_, hS_⟩ : ∃ S_ : World → World → Prop, S_ = (Chg (fun q => q = b0)) := ⟨_, rfl⟩
        have hR_ : ∀ W, S_ W W := by intro W; rw [hS_]; exact Chg.refl _ _
        obtain ⟨T, hT⟩ : ∃ T : Nat → FactS S_, ∀ t_, T t_ = ([FactS.eq (.pointer (some ⟨b1, 0, none⟩)), FactS.eq (.bool false), FactS.eq (.bool false), FactS.eq (undef), FactS.eq (undef), FactS.eq (.bool false), FactS.eq (.pointer (some ⟨b1, 1, none⟩)), FactS.eq (.slice A n c), FactS.eq (.int .i64 0), FactS.eq (.slice A 0 c), FactS.eq (.agg #[.bool false, .slice A 0 c]), FactS.eq (undef)] : List (FactS S_)).getD t_ FactS.any := ⟨_, fun _ => rfl⟩
        have hP_ : ∀ i_ v_ (y_ : Nat → Option Value) W_, ([11].contains i_) = false → G (y_ 11) W_ → G (updY y_ i_ v_ 11) W_ := by
          intro i_ v_ y_ W_ hi_ h_
          simp only [List.contains_cons, List.contains_nil, Bool.or_false, beq_eq_false_iff_ne, ne_eq] at hi_
          rw [updY_ne y_ i_ v_ hi_]
          exact h_
        refine region_tabJ [(0, 20), (1, 21), (2, 22), (3, 23), (4, 24), (5, 25), (6, 26), (7, 27), (8, 28), (9, 29), (10, 30)] S_ T (fun y_ W_ => G (y_ 11) W_) (by kernel_rfl) (by kernel_rfl) (by kernel_rfl) (by kernel_rfl) (by kernel_rfl) ?_ ?_ ?_
        · skip
          show G none _
          rw [hG]
          exact ⟨(Chg.refl _ _).drewN 1, fun _ => ⟨q0.drew 1, q1.drew 1, hg0⟩, fun h => by cases h⟩
        · skip
          refine stepsAll_cons (k := 0) ?_ ?_
          · intro fa fx fW fy hF hN hJ hE K fK
            have hJ : G (fy 11) fW := hJ
            have ev1 : fa.tmps[1]?.getD undef = .pointer (some ⟨b1, 0, none⟩) := hF.eo 1 (by kernel_rfl)
            refine wpOp_val rfl (wanted_none rfl) ?_ (fK (.pointer (some ⟨b1, 0, none⟩)) fW (hR_ fW) (by rw [hT]; exact rfl) (hP_ 0 _ fy fW rfl hJ))
            clear fK hE hF hJ hN
            go_simp
          refine stepsAll_cons (k := 1) ?_ ?_
          · intro fa fx fW fy hF hN hJ hE K fK
            have hJ : G (fy 11) fW := hJ
            have q0 : fx 0 = .pointer (some ⟨b1, 0, none⟩) := by have q := (hE ⟨0, .data⟩ (by simp) rfl).2; rw [hT] at q; exact q
            have ev20 : fa.tmps[20]?.getD undef = .pointer (some ⟨b1, 0, none⟩) := (hF.ev 0 20 (by kernel_rfl)).trans q0
            have hJ1 := hJ
            rw [hG] at hJ1
            have z0 := hJ1.1.cell p0 hne
            clear hJ1
            refine wpOp_val rfl (wanted_none rfl) ?_ (fK (.bool false) fW (hR_ fW) (by rw [hT]; exact rfl) (hP_ 1 _ fy fW rfl hJ))
            clear fK hE hF hJ hN
            go_simp
          refine stepsAll_cons (k := 2) ?_ ?_
          · intro fa fx fW fy hF hN hJ hE K fK
            have hJ : G (fy 11) fW := hJ
            have q1 : fx 1 = .bool false := by have q := (hE ⟨1, .data⟩ (by simp) rfl).2; rw [hT] at q; exact q
            have ev21 : fa.tmps[21]?.getD undef = .bool false := (hF.ev 1 21 (by kernel_rfl)).trans q1
            refine wpOp_val rfl (wanted_none rfl) ?_ (fK (.bool false) fW (hR_ fW) (by rw [hT]; exact rfl) (hP_ 2 _ fy fW rfl hJ))
            clear fK hE hF hJ hN
            go_simp
          refine stepsAll_cons (k := 3) ?_ ?_
          · intro fa fx fW fy hF hN hJ hE K fK
            have hJ : G (fy 11) fW := hJ
            have q2 : fx 2 = .bool false := by have q := (hE ⟨2, .guard⟩ (by simp) rfl).2; rw [hT] at q; exact q
            have ev3 : fa.tmps[3]?.getD undef = .int .i64 0 := hF.eo 3 (by kernel_rfl)
            exact wpOp_skip rfl (by simp [Region.wanted, hF.yes 2 22 (by kernel_rfl) false q2]) (fK undef fW (hR_ fW) (by rw [hT]; exact rfl) (hP_ 3 _ fy fW rfl hJ))
          refine stepsAll_cons (k := 4) ?_ ?_
          · intro fa fx fW fy hF hN hJ hE K fK
            have hJ : G (fy 11) fW := hJ
            have q2 : fx 2 = .bool false := by have q := (hE ⟨2, .guard⟩ (by simp) rfl).2; rw [hT] at q; exact q
            have q3 : fx 3 = undef := by have q := (hE ⟨3, .data⟩ (by simp) rfl).2; rw [hT] at q; exact q
            have ev23 : fa.tmps[23]?.getD undef = undef := (hF.ev 3 23 (by kernel_rfl)).trans q3
            exact wpOp_skip rfl (by simp [Region.wanted, hF.yes 2 22 (by kernel_rfl) false q2]) (fK undef fW (hR_ fW) (by rw [hT]; exact rfl) (hP_ 4 _ fy fW rfl hJ))
          refine stepsAll_cons (k := 5) ?_ ?_
          · intro fa fx fW fy hF hN hJ hE K fK
            have hJ : G (fy 11) fW := hJ
            have q2 : fx 2 = .bool false := by have q := (hE ⟨2, .data⟩ (by simp) rfl).2; rw [hT] at q; exact q
            have q4 : fx 4 = undef := by have q := (hE ⟨4, .data⟩ (by simp) rfl).2; rw [hT] at q; exact q
            have ev22 : fa.tmps[22]?.getD undef = .bool false := (hF.ev 2 22 (by kernel_rfl)).trans q2
            have ev24 : fa.tmps[24]?.getD undef = undef := (hF.ev 4 24 (by kernel_rfl)).trans q4
            refine wpOp_val rfl (wanted_none rfl) ?_ (fK (.bool false) fW (hR_ fW) (by rw [hT]; exact rfl) (hP_ 5 _ fy fW rfl hJ))
            clear fK hE hF hJ hN
            go_simp
          refine stepsAll_cons (k := 6) ?_ ?_
          · intro fa fx fW fy hF hN hJ hE K fK
            have hJ : G (fy 11) fW := hJ
            have ev1 : fa.tmps[1]?.getD undef = .pointer (some ⟨b1, 0, none⟩) := hF.eo 1 (by kernel_rfl)
            refine wpOp_val rfl (wanted_none rfl) ?_ (fK (.pointer (some ⟨b1, 1, none⟩)) fW (hR_ fW) (by rw [hT]; exact rfl) (hP_ 6 _ fy fW rfl hJ))
            clear fK hE hF hJ hN
            go_simp
          refine stepsAll_cons (k := 7) ?_ ?_
          · intro fa fx fW fy hF hN hJ hE K fK
            have hJ : G (fy 11) fW := hJ
            have q6 : fx 6 = .pointer (some ⟨b1, 1, none⟩) := by have q := (hE ⟨6, .data⟩ (by simp) rfl).2; rw [hT] at q; exact q
            have ev26 : fa.tmps[26]?.getD undef = .pointer (some ⟨b1, 1, none⟩) := (hF.ev 6 26 (by kernel_rfl)).trans q6
            have hJ1 := hJ
            rw [hG] at hJ1
            have z1 := hJ1.1.cell p1 hne
            clear hJ1
            refine wpOp_val rfl (wanted_none rfl) ?_ (fK (.slice A n c) fW (hR_ fW) (by rw [hT]; exact rfl) (hP_ 7 _ fy fW rfl hJ))
            clear fK hE hF hJ hN
            go_simp
          refine stepsAll_cons (k := 8) ?_ ?_
          · intro fa fx fW fy hF hN hJ hE K fK
            have hJ : G (fy 11) fW := hJ
            have ev3 : fa.tmps[3]?.getD undef = .int .i64 0 := hF.eo 3 (by kernel_rfl)
            refine wpOp_val rfl (wanted_none rfl) ?_ (fK (.int .i64 0) fW (hR_ fW) (by rw [hT]; exact rfl) (hP_ 8 _ fy fW rfl hJ))
            clear fK hE hF hJ hN
            go_simp
          refine stepsAll_cons (k := 9) ?_ ?_
          · intro fa fx fW fy hF hN hJ hE K fK
            have hJ : G (fy 11) fW := hJ
            have q7 : fx 7 = .slice A n c := by have q := (hE ⟨7, .data⟩ (by simp) rfl).2; rw [hT] at q; exact q
            have q8 : fx 8 = .int .i64 0 := by have q := (hE ⟨8, .data⟩ (by simp) rfl).2; rw [hT] at q; exact q
            have ev27 : fa.tmps[27]?.getD undef = .slice A n c := (hF.ev 7 27 (by kernel_rfl)).trans q7
            have ev28 : fa.tmps[28]?.getD undef = .int .i64 0 := (hF.ev 8 28 (by kernel_rfl)).trans q8
            refine wpOp_val rfl (wanted_none rfl) ?_ (fK (.slice A 0 c) fW (hR_ fW) (by rw [hT]; exact rfl) (hP_ 9 _ fy fW rfl hJ))
            clear fK hE hF hJ hN
            go_simp
          refine stepsAll_cons (k := 10) ?_ ?_
          · intro fa fx fW fy hF hN hJ hE K fK
            have hJ : G (fy 11) fW := hJ
            have q5 : fx 5 = .bool false := by have q := (hE ⟨5, .data⟩ (by simp) rfl).2; rw [hT] at q; exact q
            have q9 : fx 9 = .slice A 0 c := by have q := (hE ⟨9, .data⟩ (by simp) rfl).2; rw [hT] at q; exact q
            have ev25 : fa.tmps[25]?.getD undef = .bool false := (hF.ev 5 25 (by kernel_rfl)).trans q5
            have ev29 : fa.tmps[29]?.getD undef = .slice A 0 c := (hF.ev 9 29 (by kernel_rfl)).trans q9
            refine wpOp_val rfl (wanted_none rfl) ?_ (fK (.agg #[.bool false, .slice A 0 c]) fW (hR_ fW) (by rw [hT]; exact rfl) (hP_ 10 _ fy fW rfl hJ))
            clear fK hE hF hJ hN
            go_simp
          refine stepsAll_cons (k := 11) ?_ ?_
          · intro fa fx fW fy hF hN hJ hE K fK
            have hJ : G (fy 11) fW := hJ
            have q10 : fx 10 = .agg #[.bool false, .slice A 0 c] := by have q := (hE ⟨10, .data⟩ (by simp) rfl).2; rw [hT] at q; exact q
            have ev30 : fa.tmps[30]?.getD undef = .agg #[.bool false, .slice A 0 c] := (hF.ev 10 30 (by kernel_rfl)).trans q10
            have ev2 : fa.tmps[2]?.getD undef = .pointer (some ⟨b0, 0, none⟩) := hF.eo 2 (by kernel_rfl)
            rw [hG, hN] at hJ
            obtain ⟨j0, j1, j2⟩ := hJ
            obtain ⟨x0, x1, x2⟩ := j1 rfl
            have a0 := x0.cell
            have a1 := x1.cell
            have f0 := x0.free
            have f1 := x1.free
            have hch : Chg (fun q => q = b0) fW ((fW.setCell ⟨b0, 0, none⟩ (.bool false)).setCell ⟨b0, 1, none⟩ (.slice A 0 c)) := ((Chg.refl (fun q => q = b0) fW).setCell b0 0 _ rfl).setCell b0 1 _ rfl
            have hgg := heap_setCell_same _ b0 1 _ 76 (.slice A 0 c) (heap_setCell_same fW b0 0 _ 76 (.bool false) x2)
            refine wpOp_done rfl (wanted_none rfl) (W' := ((fW.setCell ⟨b0, 0, none⟩ (.bool false)).setCell ⟨b0, 1, none⟩ (.slice A 0 c))) (by clear fK hE hF hN hch hgg; go_simp) (fK undef _ (by rw [hS_]; exact hch) (by rw [hT]; exact rfl) ?_)
            show G (some undef) _
            rw [hG]
            exact ⟨j0.trans hch, (fun e => by cases e), fun _ => hgg⟩
          exact stepsAll_nil
        intro fa fx fW fy hF hJ0 hx
        have y11 : fy 11 = some (fx 11) := (hx 11 (by decide)).1
        have hJ : G (fy 11) fW := hJ0
        clear hJ0
        rw [y11] at hJ
        rw [hF.eq]
        clear hF hx hT T hP_ hR_ y11
        simp only [putAll, Act.put, List.setIfInBounds_toArray, List.set_cons_zero, List.set_cons_succ, ]
        rw [hG] at hJ
        obtain ⟨j0, j1, j2⟩ := hJ
        have hgf := j2 rfl
        go_wp2
        refine bodyPost_ret (results_cell_row rfl _ _ b0 _ #[.bool false, .slice A 0 c] (0, 0) _ (by rfl) hgf Try.underlying76 rfl (by kernel_rfl)) rfl ?_
        exact ⟨⟨_, rfl, A, 0, c, ds.take 0, by rw [sgn_false HD.out], by rw [List.take_zero]; exact rds_zero hr2, dig_take HD.out _, HTR.out, by rw [HV.out]; exact (tell_abs false HD.out).symm, hk⟩, j0.toBelow hB hB.size (fun q e => by have := hbe.out; omega)⟩
      | true =>
        go_wp2
        obtain ⟨G, hG⟩ : ∃ G : Option Value → World → Prop, ∀ a W, G a W = (Chg (fun q => q = b0) wr W ∧ (a = none → Box W b0 0 (.bool false) ∧ Box W b0 1 (.slice none 0 0) ∧ W.heap[b0]? = some (.cells #[.bool false, .slice none 0 0] 76 (0, 0))) ∧ (a.isSome = true → W.heap[b0]? = some (.cells #[.bool (decide ((0 : Int) < (0 : Int))), .slice A 0 c] 76 (0, 0)))) := ⟨_, fun _ _ => rfl⟩
        obtain ⟨S_, hS_⟩ : ∃ S_ : World → World → Prop, S_ = (Chg (fun q => q = b0)) := ⟨_, rfl⟩
        have hR_ : ∀ W, S_ W W := by intro W; rw [hS_]; exact Chg.refl _ _
        obtain ⟨T, hT⟩ : ∃ T : Nat → FactS S_, ∀ t_, T t_ = ([FactS.eq (.pointer (some ⟨b1, 0, none⟩)), FactS.eq (.bool true), FactS.eq (.bool true), FactS.eq (.int .i64 0), FactS.eq (.bool (decide ((0 : Int) < (0 : Int)))), FactS.eq (.bool (decide ((0 : Int) < (0 : Int)))), FactS.eq (.pointer (some ⟨b1, 1, none⟩)), FactS.eq (.slice A n c), FactS.eq (.int .i64 0), FactS.eq (.slice A 0 c), FactS.eq (.agg #[.bool (decide ((0 : Int) < (0 : Int))), .slice A 0 c]), FactS.eq (undef)] : List (FactS S_)).getD t_ FactS.any := ⟨_, fun _ => rfl⟩
        have hP_ : ∀ i_ v_ (y_ : Nat → Option Value) W_, ([11].contains i_) = false → G (y_ 11) W_ → G (updY y_ i_ v_ 11) W_ := by
          intro i_ v_ y_ W_ hi_ h_
          simp only [List.contains_cons, List.contains_nil, Bool.or_false, beq_eq_false_iff_ne, ne_eq] at hi_
          rw [updY_ne y_ i_ v_ hi_]
          exact h_
        refine region_tabJ [(0, 20), (1, 21), (2, 22), (3, 23), (4, 24), (5, 25), (6, 26), (7, 27), (8, 28), (9, 29), (10, 30)] S_ T (fun y_ W_ => G (y_ 11) W_) (by kernel_rfl) (by kernel_rfl) (by kernel_rfl) (by kernel_rfl) (by kernel_rfl) ?_ ?_ ?_
        · skip
          show G none _
          rw [hG]
          exact ⟨(Chg.refl _ _).drewN 1, fun _ => ⟨q0.drew 1, q1.drew 1, hg0⟩, fun h => by cases h⟩
        · skip
          refine stepsAll_cons (k := 0) ?_ ?_
          · intro fa fx fW fy hF hN hJ hE K fK
            have hJ : G (fy 11) fW := hJ
            have ev1 : fa.tmps[1]?.getD undef = .pointer (some ⟨b1, 0, none⟩) := hF.eo 1 (by kernel_rfl)
            refine wpOp_val rfl (wanted_none rfl) ?_ (fK (.pointer (some ⟨b1, 0, none⟩)) fW (hR_ fW) (by rw [hT]; exact rfl) (hP_ 0 _ fy fW rfl hJ))
            clear fK hE hF hJ hN
            go_simp
          refine stepsAll_cons (k := 1) ?_ ?_
          · intro fa fx fW fy hF hN hJ hE K fK
            have hJ : G (fy 11) fW := hJ
            have q0 : fx 0 = .pointer (some ⟨b1, 0, none⟩) := by have q := (hE ⟨0, .data⟩ (by simp) rfl).2; rw [hT] at q; exact q
            have ev20 : fa.tmps[20]?.getD undef = .pointer (some ⟨b1, 0, none⟩) := (hF.ev 0 20 (by kernel_rfl)).trans q0
            have hJ1 := hJ
            rw [hG] at hJ1
            have z0 := hJ1.1.cell p0 hne
            clear hJ1
            refine wpOp_val rfl (wanted_none rfl) ?_ (fK (.bool true) fW (hR_ fW) (by rw [hT]; exact rfl) (hP_ 1 _ fy fW rfl hJ))
            clear fK hE hF hJ hN
            go_simp
          refine stepsAll_cons (k := 2) ?_ ?_
          · intro fa fx fW fy hF hN hJ hE K fK
            have hJ : G (fy 11) fW := hJ
            have q1 : fx 1 = .bool true := by have q := (hE ⟨1, .data⟩ (by simp) rfl).2; rw [hT] at q; exact q
            have ev21 : fa.tmps[21]?.getD undef = .bool true := (hF.ev 1 21 (by kernel_rfl)).trans q1
            refine wpOp_val rfl (wanted_none rfl) ?_ (fK (.bool true) fW (hR_ fW) (by rw [hT]; exact rfl) (hP_ 2 _ fy fW rfl hJ))
            clear fK hE hF hJ hN
            go_simp
          refine stepsAll_cons (k := 3) ?_ ?_
          · intro fa fx fW fy hF hN hJ hE K fK
            have hJ : G (fy 11) fW := hJ
            have q2 : fx 2 = .bool true := by have q := (hE ⟨2, .guard⟩ (by simp) rfl).2; rw [hT] at q; exact q
            have ev3 : fa.tmps[3]?.getD undef = .int .i64 0 := hF.eo 3 (by kernel_rfl)
            refine wpOp_val rfl (wanted_yes rfl (hF.yes 2 22 (by kernel_rfl) true q2)) ?_ (fK (.int .i64 0) fW (hR_ fW) (by rw [hT]; exact rfl) (hP_ 3 _ fy fW rfl hJ))
            clear fK hE hF hJ hN
            go_simp
          refine stepsAll_cons (k := 4) ?_ ?_
          · intro fa fx fW fy hF hN hJ hE K fK
            have hJ : G (fy 11) fW := hJ
            have q2 : fx 2 = .bool true := by have q := (hE ⟨2, .guard⟩ (by simp) rfl).2; rw [hT] at q; exact q
            have q3 : fx 3 = .int .i64 0 := by have q := (hE ⟨3, .data⟩ (by simp) rfl).2; rw [hT] at q; exact q
            have ev23 : fa.tmps[23]?.getD undef = .int .i64 0 := (hF.ev 3 23 (by kernel_rfl)).trans q3
            refine wpOp_val rfl (wanted_yes rfl (hF.yes 2 22 (by kernel_rfl) true q2)) ?_ (fK (.bool (decide ((0 : Int) < (0 : Int)))) fW (hR_ fW) (by rw [hT]; exact rfl) (hP_ 4 _ fy fW rfl hJ))
            clear fK hE hF hJ hN
            go_simp
          refine stepsAll_cons (k := 5) ?_ ?_
          · intro fa fx fW fy hF hN hJ hE K fK
            have hJ : G (fy 11) fW := hJ
            have q2 : fx 2 = .bool true := by have q := (hE ⟨2, .data⟩ (by simp) rfl).2; rw [hT] at q; exact q
            have q4 : fx 4 = .bool (decide ((0 : Int) < (0 : Int))) := by have q := (hE ⟨4, .data⟩ (by simp) rfl).2; rw [hT] at q; exact q
            have ev22 : fa.tmps[22]?.getD undef = .bool true := (hF.ev 2 22 (by kernel_rfl)).trans q2
            have ev24 : fa.tmps[24]?.getD undef = .bool (decide ((0 : Int) < (0 : Int))) := (hF.ev 4 24 (by kernel_rfl)).trans q4
            refine wpOp_val rfl (wanted_none rfl) ?_ (fK (.bool (decide ((0 : Int) < (0 : Int)))) fW (hR_ fW) (by rw [hT]; exact rfl) (hP_ 5 _ fy fW rfl hJ))
            clear fK hE hF hJ hN
            go_simp
          refine stepsAll_cons (k := 6) ?_ ?_
          · intro fa fx fW fy hF hN hJ hE K fK
            have hJ : G (fy 11) fW := hJ
            have ev1 : fa.tmps[1]?.getD undef = .pointer (some ⟨b1, 0, none⟩) := hF.eo 1 (by kernel_rfl)
            refine wpOp_val rfl (wanted_none rfl) ?_ (fK (.pointer (some ⟨b1, 1, none⟩)) fW (hR_ fW) (by rw [hT]; exact rfl) (hP_ 6 _ fy fW rfl hJ))
            clear fK hE hF hJ hN
            go_simp
          refine stepsAll_cons (k := 7) ?_ ?_
          · intro fa fx fW fy hF hN hJ hE K fK
            have hJ : G (fy 11) fW := hJ
            have q6 : fx 6 = .pointer (some ⟨b1, 1, none⟩) := by have q := (hE ⟨6, .data⟩ (by simp) rfl).2; rw [hT] at q; exact q
            have ev26 : fa.tmps[26]?.getD undef = .pointer (some ⟨b1, 1, none⟩) := (hF.ev 6 26 (by kernel_rfl)).trans q6
            have hJ1 := hJ
            rw [hG] at hJ1
            have z1 := hJ1.1.cell p1 hne
            clear hJ1
            refine wpOp_val rfl (wanted_none rfl) ?_ (fK (.slice A n c) fW (hR_ fW) (by rw [hT]; exact rfl) (hP_ 7 _ fy fW rfl hJ))
            clear fK hE hF hJ hN
            go_simp
          refine stepsAll_cons (k := 8) ?_ ?_
          · intro fa fx fW fy hF hN hJ hE K fK
            have hJ : G (fy 11) fW := hJ
            have ev3 : fa.tmps[3]?.getD undef = .int .i64 0 := hF.eo 3 (by kernel_rfl)
            refine wpOp_val rfl (wanted_none rfl) ?_ (fK (.int .i64 0) fW (hR_ fW) (by rw [hT]; exact rfl) (hP_ 8 _ fy fW rfl hJ))
            clear fK hE hF hJ hN
            go_simp
          refine stepsAll_cons (k := 9) ?_ ?_
          · intro fa fx fW fy hF hN hJ hE K fK
            have hJ : G (fy 11) fW := hJ
            have q7 : fx 7 = .slice A n c := by have q := (hE ⟨7, .data⟩ (by simp) rfl).2; rw [hT] at q; exact q
            have q8 : fx 8 = .int .i64 0 := by have q := (hE ⟨8, .data⟩ (by simp) rfl).2; rw [hT] at q; exact q
            have ev27 : fa.tmps[27]?.getD undef = .slice A n c := (hF.ev 7 27 (by kernel_rfl)).trans q7
            have ev28 : fa.tmps[28]?.getD undef = .int .i64 0 := (hF.ev 8 28 (by kernel_rfl)).trans q8
            refine wpOp_val rfl (wanted_none rfl) ?_ (fK (.slice A 0 c) fW (hR_ fW) (by rw [hT]; exact rfl) (hP_ 9 _ fy fW rfl hJ))
            clear fK hE hF hJ hN
            go_simp
          refine stepsAll_cons (k := 10) ?_ ?_
          · intro fa fx fW fy hF hN hJ hE K fK
            have hJ : G (fy 11) fW := hJ
            have q5 : fx 5 = .bool (decide ((0 : Int) < (0 : Int))) := by have q := (hE ⟨5, .data⟩ (by simp) rfl).2; rw [hT] at q; exact q
            have q9 : fx 9 = .slice A 0 c := by have q := (hE ⟨9, .data⟩ (by simp) rfl).2; rw [hT] at q; exact q
            have ev25 : fa.tmps[25]?.getD undef = .bool (decide ((0 : Int) < (0 : Int))) := (hF.ev 5 25 (by kernel_rfl)).trans q5
            have ev29 : fa.tmps[29]?.getD undef = .slice A 0 c := (hF.ev 9 29 (by kernel_rfl)).trans q9
            refine wpOp_val rfl (wanted_none rfl) ?_ (fK (.agg #[.bool (decide ((0 : Int) < (0 : Int))), .slice A 0 c]) fW (hR_ fW) (by rw [hT]; exact rfl) (hP_ 10 _ fy fW rfl hJ))
            clear fK hE hF hJ hN
            go_simp
          refine stepsAll_cons (k := 11) ?_ ?_
          · intro fa fx fW fy hF hN hJ hE K fK
            have hJ : G (fy 11) fW := hJ
            have q10 : fx 10 = .agg #[.bool (decide ((0 : Int) < (0 : Int))), .slice A 0 c] := by have q := (hE ⟨10, .data⟩ (by simp) rfl).2; rw [hT] at q; exact q
            have ev30 : fa.tmps[30]?.getD undef = .agg #[.bool (decide ((0 : Int) < (0 : Int))), .slice A 0 c] := (hF.ev 10 30 (by kernel_rfl)).trans q10
            have ev2 : fa.tmps[2]?.getD undef = .pointer (some ⟨b0, 0, none⟩) := hF.eo 2 (by kernel_rfl)
            rw [hG, hN] at hJ
            obtain ⟨j0, j1, j2⟩ := hJ
            obtain ⟨x0, x1, x2⟩ := j1 rfl
            have a0 := x0.cell
            have a1 := x1.cell
            have f0 := x0.free
            have f1 := x1.free
            have hch : Chg (fun q => q = b0) fW ((fW.setCell ⟨b0, 0, none⟩ (.bool (decide ((0 : Int) < (0 : Int))))).setCell ⟨b0, 1, none⟩ (.slice A 0 c)) := ((Chg.refl (fun q => q = b0) fW).setCell b0 0 _ rfl).setCell b0 1 _ rfl
            have hgg := heap_setCell_same _ b0 1 _ 76 (.slice A 0 c) (heap_setCell_same fW b0 0 _ 76 (.bool (decide ((0 : Int) < (0 : Int)))) x2)
            refine wpOp_done rfl (wanted_none rfl) (W' := ((fW.setCell ⟨b0, 0, none⟩ (.bool (decide ((0 : Int) < (0 : Int))))).setCell ⟨b0, 1, none⟩ (.slice A 0 c))) (by clear fK hE hF hN hch hgg; go_simp) (fK undef _ (by rw [hS_]; exact hch) (by rw [hT]; exact rfl) ?_)
            show G (some undef) _
            rw [hG]
            exact ⟨j0.trans hch, (fun e => by cases e), fun _ => hgg⟩
          exact stepsAll_nil
        intro fa fx fW fy hF hJ0 hx
        have y11 : fy 11 = some (fx 11) := (hx 11 (by decide)).1
        have hJ : G (fy 11) fW := hJ0
        clear hJ0
        rw [y11] at hJ
        rw [hF.eq]
        clear hF hx hT T hP_ hR_ y11
        simp only [putAll, Act.put, List.setIfInBounds_toArray, List.set_cons_zero, List.set_cons_succ, ]
        rw [hG] at hJ
        obtain ⟨j0, j1, j2⟩ := hJ
        have hgf := j2 rfl
        go_wp2
        refine bodyPost_ret (results_cell_row rfl _ _ b0 _ #[.bool (decide ((0 : Int) < (0 : Int))), .slice A 0 c] (0, 0) _ (by rfl) hgf Try.underlying76 rfl (by kernel_rfl)) rfl ?_
        exact ⟨⟨_, rfl, A, 0, c, ds.take 0, by rw [sgn_true, ← HTV.out]; rfl, by rw [List.take_zero]; exact rds_zero hr2, dig_take HD.out _, HTR.out, by rw [HV.out]; exact (tell_abs true HD.out).symm, hk⟩, j0.toBelow hB hB.size (fun q e => by have := hbe.out; omega)⟩
    · obtain ⟨j, rfl⟩ : ∃ j, k = j + 1 := ⟨k - 1, by omega⟩
      have hjx : j < ds.length := by rw [HN.out]; omega
      obtain ⟨ad, rfl⟩ := hr2.some_ (by omega)
      have hcd := hr2.cell ad rfl j _ (nums_get .u32 ds j hjx)
      have H0 : Hid (ds[j] = 0 → valD (ds.take j) = valD ds) := fun h => valD_drop hjx h HV.out
      have H1 : Hid (ds[j] ≠ 0 → Trimmed (ds.take (j + 1))) := fun h => trimmed_take hjx h
      have hdj := HD.out _ (List.getElem_mem hjx)
      obtain ⟨d, hdd⟩ : ∃ d, d = ds[j] := ⟨_, rfl⟩
      rw [← hdd] at hcd H0 H1 hdj
      clear hdd
      rw [show Value.int .i64 ((j + 1 : Nat) : Int) = Value.int .i64 ((j : Int) + 1) by rw [Int.natCast_add]; rfl]
      by_cases hd0 : d = 0
      · have hde : (d == 0) = true := by simp [hd0]
        have HV2 := Lib.hid (H0.out hd0)
        clear H0 H1
        go_wp2
        go_roundw
        case rel => exact ⟨j, by omega, rfl, HV2.out, trivial⟩
        case measure => simp [intOf]
      · have hde : (d == 0) = false := by simp [hd0]
        have HTR := Lib.hid (H1.out hd0)
        clear H0 H1
        have hjc : ¬ ((c : Int) < (j : Int) + 1) := by omega
        have hj0 : ¬ ((j : Int) + 1 < 0) := by omega
        have HTV := Lib.hid (trim_sign HD.out HTR.out HV.out (by rw [HN.out]; exact hk))
        cases neg with
        | false =>
          go_wp2
          obtain ⟨G, hG⟩ : ∃ G : Option Value → World → Prop, ∀ a W, G a W = (Chg (fun q => q = b0) wr W ∧ (a = none → Box W b0 0 (.bool false) ∧ Box W b0 1 (.slice none 0 0) ∧ W.heap[b0]? = some (.cells #[.bool false, .slice none 0 0] 76 (0, 0))) ∧ (a.isSome = true → W.heap[b0]? = some (.cells #[.bool false, .slice (some ad) (j + 1) c] 76 (0, 0)))) := ⟨_, fun _ _ => rfl⟩
          obtain ⟨S_, hS_⟩ : ∃ S_ : World → World → Prop, S_ = (Chg (fun q => q = b0)) := ⟨_, rfl⟩
          have hR_ : ∀ W, S_ W W := by intro W; rw [hS_]; exact Chg.refl _ _
          obtain ⟨T, hT⟩ : ∃ T : Nat → FactS S_, ∀ t_, T t_ = ([FactS.eq (.pointer (some ⟨b1, 0, none⟩)), FactS.eq (.bool false), FactS.eq (.bool false), FactS.eq (undef), FactS.eq (undef), FactS.eq (.bool false), FactS.eq (.pointer (some ⟨b1, 1, none⟩)), FactS.eq (.slice (some ad) n c), FactS.eq (.int .i64 ((j : Int) + 1)), FactS.eq (.slice (some ad) (j + 1) c), FactS.eq (.agg #[.bool false, .slice (some ad) (j + 1) c]), FactS.eq (undef)] : List (FactS S_)).getD t_ FactS.any := ⟨_, fun _ => rfl⟩
          have hP_ : ∀ i_ v_ (y_ : Nat → Option Value) W_, ([11].contains i_) = false → G (y_ 11) W_ → G (updY y_ i_ v_ 11) W_ := by
            intro i_ v_ y_ W_ hi_ h_
            simp only [List.contains_cons, List.contains_nil, Bool.or_false, beq_eq_false_iff_ne, ne_eq] at hi_
            rw [updY_ne y_ i_ v_ hi_]
            exact h_
          refine region_tabJ [(0, 20), (1, 21), (2, 22), (3, 23), (4, 24), (5, 25), (6, 26), (7, 27), (8, 28), (9, 29), (10, 30)] S_ T (fun y_ W_ => G (y_ 11) W_) (by kernel_rfl) (by kernel_rfl) (by kernel_rfl) (by kernel_rfl) (by kernel_rfl) ?_ ?_ ?_
          · skip
            show G none _
            rw [hG]
            exact ⟨(Chg.refl _ _).drewN 1, fun _ => ⟨q0.drew 1, q1.drew 1, hg0⟩, fun h => by cases h⟩
          · skip
            refine stepsAll_cons (k := 0) ?_ ?_
            · intro fa fx fW fy hF hN hJ hE K fK
              have hJ : G (fy 11) fW := hJ
              have ev1 : fa.tmps[1]?.getD undef = .pointer (some ⟨b1, 0, none⟩) := hF.eo 1 (by kernel_rfl)
              refine wpOp_val rfl (wanted_none rfl) ?_ (fK (.pointer (some ⟨b1, 0, none⟩)) fW (hR_ fW) (by rw [hT]; exact rfl) (hP_ 0 _ fy fW rfl hJ))
              clear fK hE hF hJ hN
              go_simp
            refine stepsAll_cons (k := 1) ?_ ?_
            · intro fa fx fW fy hF hN hJ hE K fK
              have hJ : G (fy 11) fW := hJ
              have q0 : fx 0 = .pointer (some ⟨b1, 0, none⟩) := by have q := (hE ⟨0, .data⟩ (by simp) rfl).2; rw [hT] at q; exact q
              have ev20 : fa.tmps[20]?.getD undef = .pointer (some ⟨b1, 0, none⟩) := (hF.ev 0 20 (by kernel_rfl)).trans q0
              have hJ1 := hJ
              rw [hG] at hJ1
              have z0 := hJ1.1.cell p0 hne
              clear hJ1
              refine wpOp_val rfl (wanted_none rfl) ?_ (fK (.bool false) fW (hR_ fW) (by rw [hT]; exact rfl) (hP_ 1 _ fy fW rfl hJ))
              clear fK hE hF hJ hN
              go_simp
            refine stepsAll_cons (k := 2) ?_ ?_
            · intro fa fx fW fy hF hN hJ hE K fK
              have hJ : G (fy 11) fW := hJ
              have q1 : fx 1 = .bool false := by have q := (hE ⟨1, .data⟩ (by simp) rfl).2; rw [hT] at q; exact q
              have ev21 : fa.tmps[21]?.getD undef = .bool false := (hF.ev 1 21 (by kernel_rfl)).trans q1
              refine wpOp_val rfl (wanted_none rfl) ?_ (fK (.bool false) fW (hR_ fW) (by rw [hT]; exact rfl) (hP_ 2 _ fy fW rfl hJ))
              clear fK hE hF hJ hN
              go_simp
            refine stepsAll_cons (k := 3) ?_ ?_
            · intro fa fx fW fy hF hN hJ hE K fK
              have hJ : G (fy 11) fW := hJ
              have q2 : fx 2 = .bool false := by have q := (hE ⟨2, .guard⟩ (by simp) rfl).2; rw [hT] at q; exact q
              have ev3 : fa.tmps[3]?.getD undef = .int .i64 ((j : Int) + 1) := hF.eo 3 (by kernel_rfl)
              exact wpOp_skip rfl (by simp [Region.wanted, hF.yes 2 22 (by kernel_rfl) false q2]) (fK undef fW (hR_ fW) (by rw [hT]; exact rfl) (hP_ 3 _ fy fW rfl hJ))
            refine stepsAll_cons (k := 4) ?_ ?_
            · intro fa fx fW fy hF hN hJ hE K fK
              have hJ : G (fy 11) fW := hJ
              have q2 : fx 2 = .bool false := by have q := (hE ⟨2, .guard⟩ (by simp) rfl).2; rw [hT] at q; exact q
              have q3 : fx 3 = undef := by have q := (hE ⟨3, .data⟩ (by simp) rfl).2; rw [hT] at q; exact q
              have ev23 : fa.tmps[23]?.getD undef = undef := (hF.ev 3 23 (by kernel_rfl)).trans q3
              exact wpOp_skip rfl (by simp [Region.wanted, hF.yes 2 22 (by kernel_rfl) false q2]) (fK undef fW (hR_ fW) (by rw [hT]; exact rfl) (hP_ 4 _ fy fW rfl hJ))
            refine stepsAll_cons (k := 5) ?_ ?_
            · intro fa fx fW fy hF hN hJ hE K fK
              have hJ : G (fy 11) fW := hJ
              have q2 : fx 2 = .bool false := by have q := (hE ⟨2, .data⟩ (by simp) rfl).2; rw [hT] at q; exact q
              have q4 : fx 4 = undef := by have q := (hE ⟨4, .data⟩ (by simp) rfl).2; rw [hT] at q; exact q
              have ev22 : fa.tmps[22]?.getD undef = .bool false := (hF.ev 2 22 (by kernel_rfl)).trans q2
              have ev24 : fa.tmps[24]?.getD undef = undef := (hF.ev 4 24 (by kernel_rfl)).trans q4
              refine wpOp_val rfl (wanted_none rfl) ?_ (fK (.bool false) fW (hR_ fW) (by rw [hT]; exact rfl) (hP_ 5 _ fy fW rfl hJ))
              clear fK hE hF hJ hN
              go_simp
            refine stepsAll_cons (k := 6) ?_ ?_
            · intro fa fx fW fy hF hN hJ hE K fK
              have hJ : G (fy 11) fW := hJ
              have ev1 : fa.tmps[1]?.getD undef = .pointer (some ⟨b1, 0, none⟩) := hF.eo 1 (by kernel_rfl)
              refine wpOp_val rfl (wanted_none rfl) ?_ (fK (.pointer (some ⟨b1, 1, none⟩)) fW (hR_ fW) (by rw [hT]; exact rfl) (hP_ 6 _ fy fW rfl hJ))
              clear fK hE hF hJ hN
              go_simp
            refine stepsAll_cons (k := 7) ?_ ?_
            · intro fa fx fW fy hF hN hJ hE K fK
              have hJ : G (fy 11) fW := hJ
              have q6 : fx 6 = .pointer (some ⟨b1, 1, none⟩) := by have q := (hE ⟨6, .data⟩ (by simp) rfl).2; rw [hT] at q; exact q
              have ev26 : fa.tmps[26]?.getD undef = .pointer (some ⟨b1, 1, none⟩) := (hF.ev 6 26 (by kernel_rfl)).trans q6
              have hJ1 := hJ
              rw [hG] at hJ1
              have z1 := hJ1.1.cell p1 hne
              clear hJ1
              refine wpOp_val rfl (wanted_none rfl) ?_ (fK (.slice (some ad) n c) fW (hR_ fW) (by rw [hT]; exact rfl) (hP_ 7 _ fy fW rfl hJ))
              clear fK hE hF hJ hN
              go_simp
            refine stepsAll_cons (k := 8) ?_ ?_
            · intro fa fx fW fy hF hN hJ hE K fK
              have hJ : G (fy 11) fW := hJ
              have ev3 : fa.tmps[3]?.getD undef = .int .i64 ((j : Int) + 1) := hF.eo 3 (by kernel_rfl)
              refine wpOp_val rfl (wanted_none rfl) ?_ (fK (.int .i64 ((j : Int) + 1)) fW (hR_ fW) (by rw [hT]; exact rfl) (hP_ 8 _ fy fW rfl hJ))
              clear fK hE hF hJ hN
              go_simp
            refine stepsAll_cons (k := 9) ?_ ?_
            · intro fa fx fW fy hF hN hJ hE K fK
              have hJ : G (fy 11) fW := hJ
              have q7 : fx 7 = .slice (some ad) n c := by have q := (hE ⟨7, .data⟩ (by simp) rfl).2; rw [hT] at q; exact q
              have q8 : fx 8 = .int .i64 ((j : Int) + 1) := by have q := (hE ⟨8, .data⟩ (by simp) rfl).2; rw [hT] at q; exact q
              have ev27 : fa.tmps[27]?.getD undef = .slice (some ad) n c := (hF.ev 7 27 (by kernel_rfl)).trans q7
              have ev28 : fa.tmps[28]?.getD undef = .int .i64 ((j : Int) + 1) := (hF.ev 8 28 (by kernel_rfl)).trans q8
              refine wpOp_val rfl (wanted_none rfl) ?_ (fK (.slice (some ad) (j + 1) c) fW (hR_ fW) (by rw [hT]; exact rfl) (hP_ 9 _ fy fW rfl hJ))
              clear fK hE hF hJ hN
              go_simp
            refine stepsAll_cons (k := 10) ?_ ?_
            · intro fa fx fW fy hF hN hJ hE K fK
              have hJ : G (fy 11) fW := hJ
              have q5 : fx 5 = .bool false := by have q := (hE ⟨5, .data⟩ (by simp) rfl).2; rw [hT] at q; exact q
              have q9 : fx 9 = .slice (some ad) (j + 1) c := by have q := (hE ⟨9, .data⟩ (by simp) rfl).2; rw [hT] at q; exact q
              have ev25 : fa.tmps[25]?.getD undef = .bool false := (hF.ev 5 25 (by kernel_rfl)).trans q5
              have ev29 : fa.tmps[29]?.getD undef = .slice (some ad) (j + 1) c := (hF.ev 9 29 (by kernel_rfl)).trans q9
              refine wpOp_val rfl (wanted_none rfl) ?_ (fK (.agg #[.bool false, .slice (some ad) (j + 1) c]) fW (hR_ fW) (by rw [hT]; exact rfl) (hP_ 10 _ fy fW rfl hJ))
              clear fK hE hF hJ hN
              go_simp
            refine stepsAll_cons (k := 11) ?_ ?_
            · intro fa fx fW fy hF hN hJ hE K fK
              have hJ : G (fy 11) fW := hJ
              have q10 : fx 10 = .agg #[.bool false, .slice (some ad) (j + 1) c] := by have q := (hE ⟨10, .data⟩ (by simp) rfl).2; rw [hT] at q; exact q
              have ev30 : fa.tmps[30]?.getD undef = .agg #[.bool false, .slice (some ad) (j + 1) c] := (hF.ev 10 30 (by kernel_rfl)).trans q10
              have ev2 : fa.tmps[2]?.getD undef = .pointer (some ⟨b0, 0, none⟩) := hF.eo 2 (by kernel_rfl)
              rw [hG, hN] at hJ
              obtain ⟨j0, j1, j2⟩ := hJ
              obtain ⟨x0, x1, x2⟩ := j1 rfl
              have a0 := x0.cell
              have a1 := x1.cell
              have f0 := x0.free
              have f1 := x1.free
              have hch : Chg (fun q => q = b0) fW ((fW.setCell ⟨b0, 0, none⟩ (.bool false)).setCell ⟨b0, 1, none⟩ (.slice (some ad) (j + 1) c)) := ((Chg.refl (fun q => q = b0) fW).setCell b0 0 _ rfl).setCell b0 1 _ rfl
              have hgg := heap_setCell_same _ b0 1 _ 76 (.slice (some ad) (j + 1) c) (heap_setCell_same fW b0 0 _ 76 (.bool false) x2)
              refine wpOp_done rfl (wanted_none rfl) (W' := ((fW.setCell ⟨b0, 0, none⟩ (.bool false)).setCell ⟨b0, 1, none⟩ (.slice (some ad) (j + 1) c))) (by clear fK hE hF hN hch hgg; go_simp) (fK undef _ (by rw [hS_]; exact hch) (by rw [hT]; exact rfl) ?_)
              show G (some undef) _
              rw [hG]
              exact ⟨j0.trans hch, (fun e => by cases e), fun _ => hgg⟩
            exact stepsAll_nil
          intro fa fx fW fy hF hJ0 hx
          have y11 : fy 11 = some (fx 11) := (hx 11 (by decide)).1
          have hJ : G (fy 11) fW := hJ0
          clear hJ0
          rw [y11] at hJ
          rw [hF.eq]
          clear hF hx hT T hP_ hR_ y11
          simp only [putAll, Act.put, List.setIfInBounds_toArray, List.set_cons_zero, List.set_cons_succ, ]
          rw [hG] at hJ
          obtain ⟨j0, j1, j2⟩ := hJ
          have hgf := j2 rfl
          go_wp2
          refine bodyPost_ret (results_cell_row rfl _ _ b0 _ #[.bool false, .slice (some ad) (j + 1) c] (0, 0) _ (by rfl) hgf Try.underlying76 rfl (by kernel_rfl)) rfl ?_
          exact ⟨⟨_, rfl, (some ad), (j + 1), c, ds.take (j + 1), by rw [sgn_false HD.out], by have := j0.rds (hr2.take_ (j + 1) (by omega)) (fun ad' e => HAB.out ad' e (by omega)); rwa [Nat.mul_one, show (nums .u32 ds).take (j + 1) = nums .u32 (ds.take (j + 1)) by simp [nums, List.map_take]] at this, dig_take HD.out _, HTR.out, by rw [HV.out]; exact (tell_abs false HD.out).symm, hk⟩, j0.toBelow hB hB.size (fun q e => by have := hbe.out; omega)⟩
        | true =>
          go_wp2
          obtain ⟨G, hG⟩ : ∃ G : Option Value → World → Prop, ∀ a W, G a W = (Chg (fun q => q = b0) wr W ∧ (a = none → Box W b0 0 (.bool false) ∧ Box W b0 1 (.slice none 0 0) ∧ W.heap[b0]? = some (.cells #[.bool false, .slice none 0 0] 76 (0, 0))) ∧ (a.isSome = true → W.heap[b0]? = some (.cells #[.bool (decide ((0 : Int) < (((j : Int) + 1) : Int))), .slice (some ad) (j + 1) c] 76 (0, 0)))) := ⟨_, fun _ _ => rfl⟩
          obtain ⟨S_, hS_⟩ : ∃ S_ : World → World → Prop, S_ = (Chg (fun q => q = b0)) := ⟨_, rfl⟩
          have hR_ : ∀ W, S_ W W := by intro W; rw [hS_]; exact Chg.refl _ _
          obtain ⟨T, hT⟩ : ∃ T : Nat → FactS S_, ∀ t_, T t_ = ([FactS.eq (.pointer (some ⟨b1, 0, none⟩)), FactS.eq (.bool true), FactS.eq (.bool true), FactS.eq (.int .i64 ((j : Int) + 1)), FactS.eq (.bool (decide ((0 : Int) < (((j : Int) + 1) : Int)))), FactS.eq (.bool (decide ((0 : Int) < (((j : Int) + 1) : Int)))), FactS.eq (.pointer (some ⟨b1, 1, none⟩)), FactS.eq (.slice (some ad) n c), FactS.eq (.int .i64 ((j : Int) + 1)), FactS.eq (.slice (some ad) (j + 1) c), FactS.eq (.agg #[.bool (decide ((0 : Int) < (((j : Int) + 1) : Int))), .slice (some ad) (j + 1) c]), FactS.eq (undef)] : List (FactS S_)).getD t_ FactS.any := ⟨_, fun _ => rfl⟩
          have hP_ : ∀ i_ v_ (y_ : Nat → Option Value) W_, ([11].contains i_) = false → G (y_ 11) W_ → G (updY y_ i_ v_ 11) W_ := by
            intro i_ v_ y_ W_ hi_ h_
            simp only [List.contains_cons, List.contains_nil, Bool.or_false, beq_eq_false_iff_ne, ne_eq] at hi_
            rw [updY_ne y_ i_ v_ hi_]
            exact h_
          refine region_tabJ [(0, 20), (1, 21), (2, 22), (3, 23), (4, 24), (5, 25), (6, 26), (7, 27), (8, 28), (9, 29), (10, 30)] S_ T (fun y_ W_ => G (y_ 11) W_) (by kernel_rfl) (by kernel_rfl) (by kernel_rfl) (by kernel_rfl) (by kernel_rfl) ?_ ?_ ?_
          · skip
            show G none _
            rw [hG]
            exact ⟨(Chg.refl _ _).drewN 1, fun _ => ⟨q0.drew 1, q1.drew 1, hg0⟩, fun h => by cases h⟩
          · skip
            refine stepsAll_cons (k := 0) ?_ ?_
            · intro fa fx fW fy hF hN hJ hE K fK
              have hJ : G (fy 11) fW := hJ
              have ev1 : fa.tmps[1]?.getD undef = .pointer (some ⟨b1, 0, none⟩) := hF.eo 1 (by kernel_rfl)
              refine wpOp_val rfl (wanted_none rfl) ?_ (fK (.pointer (some ⟨b1, 0, none⟩)) fW (hR_ fW) (by rw [hT]; exact rfl) (hP_ 0 _ fy fW rfl hJ))
              clear fK hE hF hJ hN
              go_simp
            refine stepsAll_cons (k := 1) ?_ ?_
            · intro fa fx fW fy hF hN hJ hE K fK
              have hJ : G (fy 11) fW := hJ
              have q0 : fx 0 = .pointer (some ⟨b1, 0, none⟩) := by have q := (hE ⟨0, .data⟩ (by simp) rfl).2; rw [hT] at q; exact q
              have ev20 : fa.tmps[20]?.getD undef = .pointer (some ⟨b1, 0, none⟩) := (hF.ev 0 20 (by kernel_rfl)).trans q0
              have hJ1 := hJ
              rw [hG] at hJ1
              have z0 := hJ1.1.cell p0 hne
              clear hJ1
              refine wpOp_val rfl (wanted_none rfl) ?_ (fK (.bool true) fW (hR_ fW) (by rw [hT]; exact rfl) (hP_ 1 _ fy fW rfl hJ))
              clear fK hE hF hJ hN
              go_simp
            refine stepsAll_cons (k := 2) ?_ ?_
            · intro fa fx fW fy hF hN hJ hE K fK
              have hJ : G (fy 11) fW := hJ
              have q1 : fx 1 = .bool true := by have q := (hE ⟨1, .data⟩ (by simp) rfl).2; rw [hT] at q; exact q
              have ev21 : fa.tmps[21]?.getD undef = .bool true := (hF.ev 1 21 (by kernel_rfl)).trans q1
              refine wpOp_val rfl (wanted_none rfl) ?_ (fK (.bool true) fW (hR_ fW) (by rw [hT]; exact rfl) (hP_ 2 _ fy fW rfl hJ))
              clear fK hE hF hJ hN
              go_simp
            refine stepsAll_cons (k := 3) ?_ ?_
            · intro fa fx fW fy hF hN hJ hE K fK
              have hJ : G (fy 11) fW := hJ
              have q2 : fx 2 = .bool true := by have q := (hE ⟨2, .guard⟩ (by simp) rfl).2; rw [hT] at q; exact q
              have ev3 : fa.tmps[3]?.getD undef = .int .i64 ((j : Int) + 1) := hF.eo 3 (by kernel_rfl)
              refine wpOp_val rfl (wanted_yes rfl (hF.yes 2 22 (by kernel_rfl) true q2)) ?_ (fK (.int .i64 ((j : Int) + 1)) fW (hR_ fW) (by rw [hT]; exact rfl) (hP_ 3 _ fy fW rfl hJ))
              clear fK hE hF hJ hN
              go_simp
            refine stepsAll_cons (k := 4) ?_ ?_
            · intro fa fx fW fy hF hN hJ hE K fK
              have hJ : G (fy 11) fW := hJ
              have q2 : fx 2 = .bool true := by have q := (hE ⟨2, .guard⟩ (by simp) rfl).2; rw [hT] at q; exact q
              have q3 : fx 3 = .int .i64 ((j : Int) + 1) := by have q := (hE ⟨3, .data⟩ (by simp) rfl).2; rw [hT] at q; exact q
              have ev23 : fa.tmps[23]?.getD undef = .int .i64 ((j : Int) + 1) := (hF.ev 3 23 (by kernel_rfl)).trans q3
              refine wpOp_val rfl (wanted_yes rfl (hF.yes 2 22 (by kernel_rfl) true q2)) ?_ (fK (.bool (decide ((0 : Int) < (((j : Int) + 1) : Int)))) fW (hR_ fW) (by rw [hT]; exact rfl) (hP_ 4 _ fy fW rfl hJ))
              clear fK hE hF hJ hN
              go_simp
            refine stepsAll_cons (k := 5) ?_ ?_
            · intro fa fx fW fy hF hN hJ hE K fK
              have hJ : G (fy 11) fW := hJ
              have q2 : fx 2 = .bool true := by have q := (hE ⟨2, .data⟩ (by simp) rfl).2; rw [hT] at q; exact q
              have q4 : fx 4 = .bool (decide ((0 : Int) < (((j : Int) + 1) : Int))) := by have q := (hE ⟨4, .data⟩ (by simp) rfl).2; rw [hT] at q; exact q
              have ev22 : fa.tmps[22]?.getD undef = .bool true := (hF.ev 2 22 (by kernel_rfl)).trans q2
              have ev24 : fa.tmps[24]?.getD undef = .bool (decide ((0 : Int) < (((j : Int) + 1) : Int))) := (hF.ev 4 24 (by kernel_rfl)).trans q4
              refine wpOp_val rfl (wanted_none rfl) ?_ (fK (.bool (decide ((0 : Int) < (((j : Int) + 1) : Int)))) fW (hR_ fW) (by rw [hT]; exact rfl) (hP_ 5 _ fy fW rfl hJ))
              clear fK hE hF hJ hN
              go_simp
            refine stepsAll_cons (k := 6) ?_ ?_
            · intro fa fx fW fy hF hN hJ hE K fK
              have hJ : G (fy 11) fW := hJ
              have ev1 : fa.tmps[1]?.getD undef = .pointer (some ⟨b1, 0, none⟩) := hF.eo 1 (by kernel_rfl)
              refine wpOp_val rfl (wanted_none rfl) ?_ (fK (.pointer (some ⟨b1, 1, none⟩)) fW (hR_ fW) (by rw [hT]; exact rfl) (hP_ 6 _ fy fW rfl hJ))
              clear fK hE hF hJ hN
              go_simp
            refine stepsAll_cons (k := 7) ?_ ?_
            · intro fa fx fW fy hF hN hJ hE K fK
              have hJ : G (fy 11) fW := hJ
              have q6 : fx 6 = .pointer (some ⟨b1, 1, none⟩) := by have q := (hE ⟨6, .data⟩ (by simp) rfl).2; rw [hT] at q; exact q
              have ev26 : fa.tmps[26]?.getD undef = .pointer (some ⟨b1, 1, none⟩) := (hF.ev 6 26 (by kernel_rfl)).trans q6
              have hJ1 := hJ
              rw [hG] at hJ1
              have z1 := hJ1.1.cell p1 hne
              clear hJ1
              refine wpOp_val rfl (wanted_none rfl) ?_ (fK (.slice (some ad) n c) fW (hR_ fW) (by rw [hT]; exact rfl) (hP_ 7 _ fy fW rfl hJ))
              clear fK hE hF hJ hN
              go_simp
            refine stepsAll_cons (k := 8) ?_ ?_
            · intro fa fx fW fy hF hN hJ hE K fK
              have hJ : G (fy 11) fW := hJ
              have ev3 : fa.tmps[3]?.getD undef = .int .i64 ((j : Int) + 1) := hF.eo 3 (by kernel_rfl)
              refine wpOp_val rfl (wanted_none rfl) ?_ (fK (.int .i64 ((j : Int) + 1)) fW (hR_ fW) (by rw [hT]; exact rfl) (hP_ 8 _ fy fW rfl hJ))
              clear fK hE hF hJ hN
              go_simp
            refine stepsAll_cons (k := 9) ?_ ?_
            · intro fa fx fW fy hF hN hJ hE K fK
              have hJ : G (fy 11) fW := hJ
              have q7 : fx 7 = .slice (some ad) n c := by have q := (hE ⟨7, .data⟩ (by simp) rfl).2; rw [hT] at q; exact q
              have q8 : fx 8 = .int .i64 ((j : Int) + 1) := by have q := (hE ⟨8, .data⟩ (by simp) rfl).2; rw [hT] at q; exact q
              have ev27 : fa.tmps[27]?.getD undef = .slice (some ad) n c := (hF.ev 7 27 (by kernel_rfl)).trans q7
              have ev28 : fa.tmps[28]?.getD undef = .int .i64 ((j : Int) + 1) := (hF.ev 8 28 (by kernel_rfl)).trans q8
              refine wpOp_val rfl (wanted_none rfl) ?_ (fK (.slice (some ad) (j + 1) c) fW (hR_ fW) (by rw [hT]; exact rfl) (hP_ 9 _ fy fW rfl hJ))
              clear fK hE hF hJ hN
              go_simp
            refine stepsAll_cons (k := 10) ?_ ?_
            · intro fa fx fW fy hF hN hJ hE K fK
              have hJ : G (fy 11) fW := hJ
              have q5 : fx 5 = .bool (decide ((0 : Int) < (((j : Int) + 1) : Int))) := by have q := (hE ⟨5, .data⟩ (by simp) rfl).2; rw [hT] at q; exact q
              have q9 : fx 9 = .slice (some ad) (j + 1) c := by have q := (hE ⟨9, .data⟩ (by simp) rfl).2; rw [hT] at q; exact q
              have ev25 : fa.tmps[25]?.getD undef = .bool (decide ((0 : Int) < (((j : Int) + 1) : Int))) := (hF.ev 5 25 (by kernel_rfl)).trans q5
              have ev29 : fa.tmps[29]?.getD undef = .slice (some ad) (j + 1) c := (hF.ev 9 29 (by kernel_rfl)).trans q9
              refine wpOp_val rfl (wanted_none rfl) ?_ (fK (.agg #[.bool (decide ((0 : Int) < (((j : Int) + 1) : Int))), .slice (some ad) (j + 1) c]) fW (hR_ fW) (by rw [hT]; exact rfl) (hP_ 10 _ fy fW rfl hJ))
              clear fK hE hF hJ hN
              go_simp
            refine stepsAll_cons (k := 11) ?_ ?_
            · intro fa fx fW fy hF hN hJ hE K fK
              have hJ : G (fy 11) fW := hJ
              have q10 : fx 10 = .agg #[.bool (decide ((0 : Int) < (((j : Int) + 1) : Int))), .slice (some ad) (j + 1) c] := by have q := (hE ⟨10, .data⟩ (by simp) rfl).2; rw [hT] at q; exact q
              have ev30 : fa.tmps[30]?.getD undef = .agg #[.bool (decide ((0 : Int) < (((j : Int) + 1) : Int))), .slice (some ad) (j + 1) c] := (hF.ev 10 30 (by kernel_rfl)).trans q10
              have ev2 : fa.tmps[2]?.getD undef = .pointer (some ⟨b0, 0, none⟩) := hF.eo 2 (by kernel_rfl)
              rw [hG, hN] at hJ
              obtain ⟨j0, j1, j2⟩ := hJ
              obtain ⟨x0, x1, x2⟩ := j1 rfl
              have a0 := x0.cell
              have a1 := x1.cell
              have f0 := x0.free
              have f1 := x1.free
              have hch : Chg (fun q => q = b0) fW ((fW.setCell ⟨b0, 0, none⟩ (.bool (decide ((0 : Int) < (((j : Int) + 1) : Int))))).setCell ⟨b0, 1, none⟩ (.slice (some ad) (j + 1) c)) := ((Chg.refl (fun q => q = b0) fW).setCell b0 0 _ rfl).setCell b0 1 _ rfl
              have hgg := heap_setCell_same _ b0 1 _ 76 (.slice (some ad) (j + 1) c) (heap_setCell_same fW b0 0 _ 76 (.bool (decide ((0 : Int) < (((j : Int) + 1) : Int)))) x2)
              refine wpOp_done rfl (wanted_none rfl) (W' := ((fW.setCell ⟨b0, 0, none⟩ (.bool (decide ((0 : Int) < (((j : Int) + 1) : Int))))).setCell ⟨b0, 1, none⟩ (.slice (some ad) (j + 1) c))) (by clear fK hE hF hN hch hgg; go_simp) (fK undef _ (by rw [hS_]; exact hch) (by rw [hT]; exact rfl) ?_)
              show G (some undef) _
              rw [hG]
              exact ⟨j0.trans hch, (fun e => by cases e), fun _ => hgg⟩
            exact stepsAll_nil
          intro fa fx fW fy hF hJ0 hx
          have y11 : fy 11 = some (fx 11) := (hx 11 (by decide)).1
          have hJ : G (fy 11) fW := hJ0
          clear hJ0
          rw [y11] at hJ
          rw [hF.eq]
          clear hF hx hT T hP_ hR_ y11
          simp only [putAll, Act.put, List.setIfInBounds_toArray, List.set_cons_zero, List.set_cons_succ, ]
          rw [hG] at hJ
          obtain ⟨j0, j1, j2⟩ := hJ
          have hgf := j2 rfl
          go_wp2
          refine bodyPost_ret (results_cell_row rfl _ _ b0 _ #[.bool (decide ((0 : Int) < (((j : Int) + 1) : Int))), .slice (some ad) (j + 1) c] (0, 0) _ (by rfl) hgf Try.underlying76 rfl (by kernel_rfl)) rfl ?_
          exact ⟨⟨_, rfl, (some ad), (j + 1), c, ds.take (j + 1), by rw [sgn_true, ← HTV.out]; rfl, by have := j0.rds (hr2.take_ (j + 1) (by omega)) (fun ad' e => HAB.out ad' e (by omega)); rwa [Nat.mul_one, show (nums .u32 ds).take (j + 1) = nums .u32 (ds.take (j + 1)) by simp [nums, List.map_take]] at this, dig_take HD.out _, HTR.out, by rw [HV.out]; exact (tell_abs true HD.out).symm, hk⟩, j0.toBelow hB hB.size (fun q e => by have := hbe.out; omega)⟩
end Go.Proofs.Ytabdipfpfbdghaa
