/- slices.Delete of one request, of a row of the call's own. -/
import Derived.Test.YtdfncmhbbhmgfaaDev
import Derived.Test.YtdfncmhbbhmgfaaDelete
import Derived.Test.YtdfncmhbbhmgfaaDevClone
namespace Go.Proofs.Ytdfncmhbbhmgfaa
open Go.RowKit
theorem own_some {w : World} {base sz n : Nat} {e : TypeId} {v : Value} {xs : List Value} (h : w.ownsRow base e sz v n xs) (hn : 0 < n) (hs : 0 < sz) : ∃ g cap, v = .slice (some ⟨g, 0, none⟩) n cap ∧ base ≤ g ∧ n ≤ cap ∧ cap ≤ maxLen := by
  have hl := h.1
  rcases h.2 with ⟨rfl, rfl⟩ | ⟨g, cap, cur, rfl, hb, hg, hnc, hcm, _⟩
  · have := Nat.mul_pos hn hs
    simp at hl
    omega
  · exact ⟨g, cap, rfl, hb, hnc, hcm⟩
theorem rqs_take : ∀ (l : List Rq) (k : Nat), (rqs l).take (k * 5) = rqs (l.take k)
  | [], k => by simp [rqs]
  | a :: l, 0 => by simp [rqs]
  | a :: l, k + 1 => by
    have h := rqs_take l k
    simp only [rqs, List.take_succ_cons, List.flatMap_cons] at h ⊢
    rw [← h, show (k + 1) * 5 = (rqC a).length + k * 5 by simp [rqC]; omega, List.take_length_add_append]
theorem rqs_drop : ∀ (l : List Rq) (k : Nat), (rqs l).drop (k * 5) = rqs (l.drop k)
  | [], k => by simp [rqs]
  | a :: l, 0 => by simp [rqs]
  | a :: l, k + 1 => by
    have h := rqs_drop l k
    simp only [rqs, List.drop_succ_cons, List.flatMap_cons] at h ⊢
    rw [← h, show (k + 1) * 5 = (rqC a).length + k * 5 by simp [rqC]; omega, List.drop_length_add_append]
theorem zero_rq : ∀ w, (zeroValue 28).run Try.prog w = .ok (.agg #[.int .i64 0, .int .i64 0, .int .i64 0, .int .i64 0, .int .i64 0]) w := fun w => by kernel_rfl
set_option maxRecDepth 100000 in
set_option maxHeartbeats 2000000 in
theorem delRq (base g cap n i : Nat) (l : List Rq) (w : World) (h : w.ownsRow base 28 5 (.slice (some ⟨g, 0, none⟩) n cap) n (rqs l)) (hi : i < n) (hc : cap ≤ maxLen) (hn : n ≤ cap) :
    Calls Try.prog 23 #[.slice (some ⟨g, 0, none⟩) n cap, .int .i64 i, .int .i64 (i + 1)] w fun e w' => e = .returned (.slice (some ⟨g, 0, none⟩) (n - 1) cap) ∧
      w'.ownsRow base 28 5 (.slice (some ⟨g, 0, none⟩) (n - 1) cap) (n - 1) (rqs (l.eraseIdx i)) ∧ Chg (fun k => k = g) w w' := by
  have hll : l.length = n := by have := h.1; rw [rqs_length] at this; omega
  unfold maxLen at hc
  have hne : ((i : Int) == (i : Int) + 1) = false := by simp; omega
  have hi1 : (i : Int) + 1 ≤ n := by omega
  have he : rqs (l.take i) ++ rqs (l.drop (i + 1)) = rqs (l.eraseIdx i) := by rw [← rqs_append, List.eraseIdx_eq_take_drop_succ]
  have hdl : (rqs (l.drop (i + 1))).length = (n - (i + 1)) * 5 := by rw [rqs_length, List.length_drop, hll]
  have hd1 : ∀ u ∈ rqs (l.drop (i + 1)), u.oneCell' = true := rqs_one_cell _
  have hown := h
  obtain ⟨_, hrd⟩ := own_rds' h
  have h1 := own_take h i (by omega)
  rw [rqs_take] at h1
  obtain ⟨A5, hA5⟩ : ∃ A5 : Addr, (if cap = i + 1 then (⟨g, 0, none⟩ : Addr) else ⟨g, (i + 1) * 5, none⟩) = A5 := ⟨_, rfl⟩
  have hsrc : Hid (∀ t u, (rqs (l.drop (i + 1)))[t]? = some u → w.cell? (A5.add t) = some u) := by
    intro t u hu
    by_cases hci : cap = i + 1
    · rw [List.drop_eq_nil_of_le (by omega)] at hu
      simp [rqs] at hu
    · rw [if_neg hci] at hA5
      subst hA5
      rw [← rqs_drop, List.getElem?_drop] at hu
      have hadd : (⟨g, (i + 1) * 5, none⟩ : Addr).add t = (⟨g, 0, none⟩ : Addr).add ((i + 1) * 5 + t) := by unfold Addr.add; split <;> simp_all
      rw [hadd]
      exact hrd.cell _ rfl _ _ hu
  have H1 := Lib.hid h1
  have HE := Lib.hid he
  have HA := Lib.hid hA5
  clear h1 he hA5 hown hrd hll
  have HD := Lib.hid hd1
  have HL := Lib.hid hdl
  clear hd1 hdl
  go_enter Try.func23, Try.ntmps23
  go_wp2
  obtain ⟨G, hG⟩ : ∃ G : Option Value → World → Prop, ∀ a W, G a W = (Chg (fun k => k = g) w W ∧ (a = none → Below w.heap.size w W) ∧
      (∀ u, a = some u → u = .slice (some ⟨g, 0, none⟩) (n - 1) cap ∧ W.ownsRow base 28 5 u (n - 1) (rqs (l.eraseIdx i)))) := ⟨_, fun _ _ => rfl⟩
  obtain ⟨S_, hS_⟩ : ∃ S_ : World → World → Prop, S_ = (fun _ _ => True) := ⟨_, rfl⟩
  have hR_ : ∀ W, S_ W W := by intro W; rw [hS_]; exact trivial
  obtain ⟨T, hT⟩ : ∃ T : Nat → FactS S_, ∀ t_, T t_ = ([FactS.eq (.slice (some ⟨g, 0, none⟩) n cap), FactS.eq (.int .i64 i), FactS.eq (.slice (some ⟨g, 0, none⟩) i cap), FactS.eq (.slice (some ⟨g, 0, none⟩) n cap), FactS.eq (.int .i64 (i + 1)), FactS.eq (.slice (some A5) (n - (i + 1)) (cap - (i + 1))), FactS.val (fun u => u = .slice (some ⟨g, 0, none⟩) (n - 1) cap), FactS.val (fun u => u = .slice (some ⟨g, 0, none⟩) (n - 1) cap)] : List (FactS S_)).getD t_ FactS.any := ⟨_, fun _ => rfl⟩
  have hP_ : ∀ i_ v_ (y_ : Nat → Option Value) W_, ([6].contains i_) = false → G (y_ 6) W_ → G (updY y_ i_ v_ 6) W_ := by
    intro i_ v_ y_ W_ hi_ h_
    simp only [List.contains_cons, List.contains_nil, Bool.or_false, beq_eq_false_iff_ne, ne_eq] at hi_
    rw [updY_ne y_ i_ v_ hi_]
    exact h_
  refine region_tabK [(0, 20), (1, 21), (2, 22), (3, 23), (4, 24), (5, 25), (6, 26), (7, 0)] S_ T (fun y_ W_ => G (y_ 6) W_) (by kernel_rfl) (by kernel_rfl) (by kernel_rfl) (by kernel_rfl) (by kernel_rfl) ?_ ?_ ?_
  · skip
    show G none _
    rw [hG]
    exact ⟨(Chg.refl _ _).drewN 1, fun _ => below_dr (Below.refl _ _) 1, fun u h => by cases h⟩
  · skip
    refine stepsAll_cons (k := 0) ?_ ?_
    · intro fa fx fW fy hF hN hO hJ hE K fK
      have hJ : G (fy 6) fW := hJ
      have ev0 : fa.tmps[0]?.getD undef = .slice (some ⟨g, 0, none⟩) n cap := hO 7 _ 0 ⟨0, .phase⟩ rfl rfl (by simp) rfl rfl
      refine wpOp_val rfl (wanted_none rfl) ?_ (fK (.slice (some ⟨g, 0, none⟩) n cap) fW (hR_ fW) (by rw [hT]; exact rfl) (hP_ 0 _ fy fW rfl hJ))
      clear fK hE hF hJ hN hO
      go_simp
    refine stepsAll_cons (k := 1) ?_ ?_
    · intro fa fx fW fy hF hN hO hJ hE K fK
      have hJ : G (fy 6) fW := hJ
      have ev1 : fa.tmps[1]?.getD undef = .int .i64 i := hF.eo 1 (by kernel_rfl)
      refine wpOp_val rfl (wanted_none rfl) ?_ (fK (.int .i64 i) fW (hR_ fW) (by rw [hT]; exact rfl) (hP_ 1 _ fy fW rfl hJ))
      clear fK hE hF hJ hN hO
      go_simp
    refine stepsAll_cons (k := 2) ?_ ?_
    · intro fa fx fW fy hF hN hO hJ hE K fK
      have hJ : G (fy 6) fW := hJ
      have q0 : fx 0 = .slice (some ⟨g, 0, none⟩) n cap := by have q := (hE ⟨0, .data⟩ (by simp) rfl).2; rw [hT] at q; exact q
      have q1 : fx 1 = .int .i64 i := by have q := (hE ⟨1, .data⟩ (by simp) rfl).2; rw [hT] at q; exact q
      have ev20 : fa.tmps[20]?.getD undef = .slice (some ⟨g, 0, none⟩) n cap := (hF.ev 0 20 (by kernel_rfl)).trans q0
      have ev21 : fa.tmps[21]?.getD undef = .int .i64 i := (hF.ev 1 21 (by kernel_rfl)).trans q1
      have hx1 : (i : Int) ≤ cap := by omega
      refine wpOp_val rfl (wanted_none rfl) ?_ (fK (.slice (some ⟨g, 0, none⟩) i cap) fW (hR_ fW) (by rw [hT]; exact rfl) (hP_ 2 _ fy fW rfl hJ))
      clear fK hE hF hJ hN hO
      go_simp
    refine stepsAll_cons (k := 3) ?_ ?_
    · intro fa fx fW fy hF hN hO hJ hE K fK
      have hJ : G (fy 6) fW := hJ
      have ev0 : fa.tmps[0]?.getD undef = .slice (some ⟨g, 0, none⟩) n cap := hO 7 _ 0 ⟨3, .phase⟩ rfl rfl (by simp) rfl rfl
      refine wpOp_val rfl (wanted_none rfl) ?_ (fK (.slice (some ⟨g, 0, none⟩) n cap) fW (hR_ fW) (by rw [hT]; exact rfl) (hP_ 3 _ fy fW rfl hJ))
      clear fK hE hF hJ hN hO
      go_simp
    refine stepsAll_cons (k := 4) ?_ ?_
    · intro fa fx fW fy hF hN hO hJ hE K fK
      have hJ : G (fy 6) fW := hJ
      have ev2 : fa.tmps[2]?.getD undef = .int .i64 (i + 1) := hF.eo 2 (by kernel_rfl)
      refine wpOp_val rfl (wanted_none rfl) ?_ (fK (.int .i64 (i + 1)) fW (hR_ fW) (by rw [hT]; exact rfl) (hP_ 4 _ fy fW rfl hJ))
      clear fK hE hF hJ hN hO
      go_simp
    refine stepsAll_cons (k := 5) ?_ ?_
    · intro fa fx fW fy hF hN hO hJ hE K fK
      have hJ : G (fy 6) fW := hJ
      have q3 : fx 3 = .slice (some ⟨g, 0, none⟩) n cap := by have q := (hE ⟨3, .data⟩ (by simp) rfl).2; rw [hT] at q; exact q
      have q4 : fx 4 = .int .i64 (i + 1) := by have q := (hE ⟨4, .data⟩ (by simp) rfl).2; rw [hT] at q; exact q
      have ev23 : fa.tmps[23]?.getD undef = .slice (some ⟨g, 0, none⟩) n cap := (hF.ev 3 23 (by kernel_rfl)).trans q3
      have ev24 : fa.tmps[24]?.getD undef = .int .i64 (i + 1) := (hF.ev 4 24 (by kernel_rfl)).trans q4
      refine wpOp_val rfl (wanted_none rfl) ?_ (fK (.slice (some A5) (n - (i + 1)) (cap - (i + 1))) fW (hR_ fW) (by rw [hT]; exact rfl) (hP_ 5 _ fy fW rfl hJ))
      clear fK hE hF hJ hN hO
      have hA := HA.out
      have hx1 : (0 : Int) ≤ (i : Int) + 1 := by omega
      have hx2 : ((i : Int) + 1).toNat = i + 1 := by omega
      by_cases hci : cap = i + 1
      · rw [if_pos hci] at hA
        subst hA
        go_simp
      · rw [if_neg hci] at hA
        subst hA
        go_simp
    refine stepsAll_cons (k := 6) ?_ ?_
    · intro fa fx fW fy hF hN hO hJ hE K fK
      have hJ : G (fy 6) fW := hJ
      have q2 : fx 2 = .slice (some ⟨g, 0, none⟩) i cap := by have q := (hE ⟨2, .data⟩ (by simp) rfl).2; rw [hT] at q; exact q
      have q5 : fx 5 = .slice (some A5) (n - (i + 1)) (cap - (i + 1)) := by have q := (hE ⟨5, .data⟩ (by simp) rfl).2; rw [hT] at q; exact q
      have ev22 : fa.tmps[22]?.getD undef = .slice (some ⟨g, 0, none⟩) i cap := (hF.ev 2 22 (by kernel_rfl)).trans q2
      have ev25 : fa.tmps[25]?.getD undef = .slice (some A5) (n - (i + 1)) (cap - (i + 1)) := (hF.ev 5 25 (by kernel_rfl)).trans q5
      rw [hG, hN] at hJ
      obtain ⟨j0, j1, j2⟩ := hJ
      have hB := j1 rfl
      obtain ⟨i0, hi, hzz⟩ := Option.map_eq_some_iff.1 info_rq
      simp only [Prod.mk.injEq] at hzz
      refine wpOp_list rfl (wpList_append_fits fW rfl _ _ 22 (by rfl) base 28 i0 5 Try.underlying22 hi hzz.2.1 g i cap _ (by clear fK hE hF hN hO; go_simp) (own_below H1.out hB) A5 (n - (i + 1)) (cap - (i + 1)) _ (by clear fK hE hF hN hO; go_simp) HL.out (fun t u hu => cell_below hB (hsrc.out t u hu)) HD.out (by omega) ?_)
      intro w1 p1 p2
      rw [HE.out, show i + (n - (i + 1)) = n - 1 by omega] at p1
      rw [show i + (n - (i + 1)) = n - 1 by omega]
      refine fK _ _ (by rw [hS_]; trivial) (by rw [hT]; exact rfl) ?_
      show G (some _) _
      rw [hG]
      exact ⟨j0.trans (Chg.of_grown p2 (fun k e => by cases e; rfl)), (fun e => by cases e), fun u e => by cases e; exact ⟨rfl, p1⟩⟩
    refine stepsAll_cons (k := 7) ?_ ?_
    · intro fa fx fW fy hF hN hO hJ hE K fK
      have hJ : G (fy 6) fW := hJ
      have q6 : (FactS.val (fun u => u = .slice (some ⟨g, 0, none⟩) (n - 1) cap) : FactS S_).p (fx 6) fW := by have q := (hE ⟨6, .data⟩ (by simp) rfl).2; rw [hT] at q; exact q
      have y6 : fy 6 = some (fx 6) := (hE ⟨6, .data⟩ (by simp) rfl).1
      have ev26 : fa.tmps[26]?.getD undef = fx 6 := hF.ev 6 26 (by kernel_rfl)
      refine wpOp_val rfl (wanted_none rfl) (v := fx 6) (by clear fK hE hF hN hO; go_simp) (fK _ _ (hR_ fW) (by rw [hT]; exact q6) (hP_ 7 _ fy fW rfl hJ))
    exact stepsAll_nil
  intro fa fx fW fy hF hJ0 hx
  have y6 : fy 6 = some (fx 6) := (hx 6 (by decide)).1
  have hJ : G (fy 6) fW := hJ0
  clear hJ0
  rw [y6] at hJ
  have q7 : (FactS.val (fun u => u = .slice (some ⟨g, 0, none⟩) (n - 1) cap) : FactS S_).p (fx 7) fW := by have q := (hx 7 (by decide)).2; rw [hT] at q; exact q
  have ev0 : fa.tmps[0]?.getD undef = fx 7 := hF.ev 7 0 (by kernel_rfl)
  rw [hF.eq]
  clear hF hx hT T hP_ hR_ y6
  simp only [putAll, Act.put, List.setIfInBounds_toArray, List.set_cons_zero, List.set_cons_succ, ]
  rw [hG] at hJ
  obtain ⟨j0, j1, j2⟩ := hJ
  obtain ⟨e6, j3⟩ := j2 _ rfl
  have q7 : fx 7 = .slice (some ⟨g, 0, none⟩) (n - 1) cap := q7
  rw [e6] at j3
  rw [q7]
  have hcl : ∃ w', (∀ ty, (Builtin.clear_ #[22] ty #[.slice (some ⟨g, (n - 1) * 5, none⟩) 1 (cap - (n - 1))]).run Try.prog fW = .ok (.tuple #[]) w') ∧ w'.ownsRow base 28 5 (.slice (some ⟨g, 0, none⟩) (n - 1) cap) (n - 1) (rqs (l.eraseIdx i)) ∧ fW.grownBy w' (some g) := by
    have := fun ty => run_clear_own (P := Try.prog) (w := fW) 22 ty _ Try.underlying22 zero_rq rfl (by decide) (by intro u hu; simp [Value.cells] at hu; subst hu; rfl) j3 (n - 1) 1 (cap - (n - 1)) (Nat.le_refl _) (by omega) (by decide)
    obtain ⟨w', r1, r2, r3⟩ := this 0
    refine ⟨w', fun ty => ?_, r2, r3⟩
    rw [← r1]
    rfl
  obtain ⟨w2, hcl, p1, p2⟩ := hcl
  have hJ2 := j0.trans (Chg.of_grown p2 (fun k e => by cases e; rfl))
  clear j1 j2 j3 j0 p2 e6 q7
  have hz1 : n - (n - 1) = 1 := by omega
  have hz2 : ((n - 1 : Nat) : Int) ≤ n := by omega
  go_wp2
  go_ret
  exact ⟨rfl, p1, hJ2⟩
end Go.Proofs.Ytdfncmhbbhmgfaa
