/- The document's example of package mail. -/
import Derived.Test.YtjefnhlpidjndaaMailUndo
namespace Go.Proofs.Ytjefnhlpidjndaa
open Go.RowKit
def mx : Ev := ⟨1, 1, 0, 0, 0, 0, 0, 0, 0, 0, 0, 0, 0, 0, 0⟩
def my : Ev := ⟨1, 2, 0, 0, 0, 0, 0, 0, 0, 0, 0, 0, 0, 0, 0⟩
theorem may_x : mayE 4 (List.length ([] : List Ev)) [mx] = 0 := by decide +kernel
theorem may_y : mayE 4 (List.length [mx]) [my] = 0 := by decide +kernel
theorem may_u : mayE 4 (List.length [my]) [mx] = 0 := by decide +kernel
theorem bat1 : batchN [mx, my] (max 1 1) = 1 := by decide +kernel
/-- The example's box and events. -/
structure Stg (w0 : World) (b M xb yb : Nat) (l : List Ev) (W : World) : Prop where
  below : Below w0.heap.size w0 W
  x : EvAt W ⟨xb, 0, none⟩ mx
  y : EvAt W ⟨yb, 0, none⟩ my
  box : ∃ v, Mb W b w0.heap.size 4 l v ∧ ∀ k, v.ownBlock = some k → M ≤ k
  sz : M ≤ W.heap.size
theorem Stg.more {w0 W W' : World} {b M xb yb : Nat} {l : List Ev} (h : Stg w0 b M xb yb l W) (hb : Below W.heap.size W W') : Stg w0 b M xb yb l W' := by
  obtain ⟨v, h1, h2⟩ := h.box
  exact ⟨below_then h.below h.below.size hb, h.x.below hb, h.y.below hb, ⟨v, h1.below hb, h2⟩, Nat.le_trans h.sz hb.size⟩
theorem Stg.act {w0 W W' : World} {b M xb yb : Nat} {l l' : List Ev} (h : Stg w0 b M xb yb l W) {S : Nat → Prop} (hc : Chg S W W') (hS : ∀ k, S k → k = b ∨ M ≤ k) (hb : w0.heap.size ≤ b) (hM : w0.heap.size ≤ M) (hx : xb ≠ b ∧ xb < M) (hy : yb ≠ b ∧ yb < M) {v' : Value} (h1 : Mb W' b w0.heap.size 4 l' v') (h2 : ∀ k, v'.ownBlock = some k → M ≤ k) : Stg w0 b M xb yb l' W' :=
  ⟨hc.toBelow h.below h.below.size (fun k hk => by rcases hS k hk with e | e <;> omega), h.x.keep hc (fun e => by rcases hS _ e with e | e; exact hx.1 e; have := hx.2; exact absurd e (Nat.not_le_of_lt this)), h.y.keep hc (fun e => by rcases hS _ e with e | e; exact hy.1 e; have := hy.2; exact absurd e (Nat.not_le_of_lt this)), ⟨v', h1, h2⟩, Nat.le_trans h.sz hc.size⟩
/-- Two events are put, one behind the other. -/
def TwoS (w0 : World) (b M xb yb : Nat) (x y : Option Value) (W : World) : Prop :=
  (x = none ∧ y = none ∧ Stg w0 b M xb yb [] W) ∨ (x ≠ none ∧ y = none ∧ Stg w0 b M xb yb [mx] W) ∨ (x ≠ none ∧ y ≠ none ∧ Stg w0 b M xb yb [mx, my] W)
section
variable {w0 W : World} {b M xb yb : Nat} {x y : Option Value}
theorem TwoS.ev (h : TwoS w0 b M xb yb x y W) : EvAt W ⟨xb, 0, none⟩ mx ∧ EvAt W ⟨yb, 0, none⟩ my := by
  rcases h with ⟨_, _, h⟩ | ⟨_, _, h⟩ | ⟨_, _, h⟩ <;> exact ⟨h.x, h.y⟩
theorem TwoS.fst (h : TwoS w0 b M xb yb none y W) : y = none ∧ Stg w0 b M xb yb [] W := by
  rcases h with ⟨_, h⟩ | ⟨h, _⟩ | ⟨h, _⟩
  · exact h
  · exact absurd rfl h
  · exact absurd rfl h
theorem TwoS.snd {v : Value} (h : TwoS w0 b M xb yb (some v) none W) : Stg w0 b M xb yb [mx] W := by
  rcases h with ⟨h, _⟩ | ⟨_, _, h⟩ | ⟨_, h, _⟩
  · cases h
  · exact h
  · exact absurd rfl h
theorem TwoS.thd {v u : Value} (h : TwoS w0 b M xb yb (some v) (some u) W) : Stg w0 b M xb yb [mx, my] W := by
  rcases h with ⟨h, _⟩ | ⟨_, h, _⟩ | ⟨_, _, h⟩
  · cases h
  · cases h
  · exact h
end
theorem Stg.put {w0 W W' : World} {b M xb yb : Nat} {l l' : List Ev} {v : Value} (h : Stg w0 b M xb yb l W) (hv : ∀ k, v.ownBlock = some k → M ≤ k) (ha : Acted W b w0.heap.size 4 l' v W') (hb : w0.heap.size ≤ b) (hM : w0.heap.size ≤ M) (hx : xb ≠ b ∧ xb < M) (hy : yb ≠ b ∧ yb < M) : Stg w0 b M xb yb l' W' := by
  obtain ⟨hc, v', hm, ho⟩ := ha
  refine h.act hc (fun k hk => hk.elim .inl (fun e => .inr (hv k e))) hb hM hx hy hm (fun k e => ?_)
  rcases ho with ho | ⟨g, ho, hg⟩
  · exact hv k (by rw [← ho]; exact e)
  · rw [ho] at e; cases e; exact Nat.le_trans h.sz hg
set_option maxRecDepth 100000 in
set_option maxHeartbeats 16000000 in
theorem lives15 (w : World) : Calls Try.prog 5 #[] w fun e w' => e = .returned (.bool true) ∧ Below w.heap.size w w' := by
  have HN := Lib.hid (mnew 4 w (by decide) (by decide))
  go_enter Try.func5, Try.ntmps5
  go_wp2_with (go_at_call 6; (with_reducible refine HN.out.mono ?_); rintro e w1 ⟨rfl, hb1, hz1, hm1⟩)
  obtain ⟨W1, hW1⟩ : ∃ W1, W1 = ((w1.alloc (.cells #[.int .i64 1, .int .i64 1, .int .i64 0, .int .i64 0, .int .i64 0, .int .i64 0, .int .i64 0, .int .i64 0, .int .i64 0, .int .i64 0, .int .i64 0, .int .i64 0, .int .i64 0, .int .i64 0, .int .i64 0] (31 : Nat))).alloc (.cells #[.int .i64 1, .int .i64 2, .int .i64 0, .int .i64 0, .int .i64 0, .int .i64 0, .int .i64 0, .int .i64 0, .int .i64 0, .int .i64 0, .int .i64 0, .int .i64 0, .int .i64 0, .int .i64 0, .int .i64 0] (31 : Nat))) := ⟨_, rfl⟩
  have hz : W1.heap.size = w1.heap.size + 1 + 1 := by rw [hW1]; simp
  have hal : Below w1.heap.size w1 W1 := by rw [hW1]; exact below_al (below_al (Below.refl _ _) _) _
  have hx1 : EvAt W1 ⟨w1.heap.size, 0, none⟩ mx := by rw [hW1]; exact (ev_new mx w1 31).below (below_al (Below.refl _ _) (.cells #[.int .i64 1, .int .i64 2, .int .i64 0, .int .i64 0, .int .i64 0, .int .i64 0, .int .i64 0, .int .i64 0, .int .i64 0, .int .i64 0, .int .i64 0, .int .i64 0, .int .i64 0, .int .i64 0, .int .i64 0] 31))
  have hy1 : EvAt W1 ⟨w1.heap.size + 1, 0, none⟩ my := by
    rw [hW1]
    have h := ev_new my (w1.alloc (.cells #[.int .i64 1, .int .i64 1, .int .i64 0, .int .i64 0, .int .i64 0, .int .i64 0, .int .i64 0, .int .i64 0, .int .i64 0, .int .i64 0, .int .i64 0, .int .i64 0, .int .i64 0, .int .i64 0, .int .i64 0] 31)) 31
    rw [show (w1.alloc (.cells #[.int .i64 1, .int .i64 1, .int .i64 0, .int .i64 0, .int .i64 0, .int .i64 0, .int .i64 0, .int .i64 0, .int .i64 0, .int .i64 0, .int .i64 0, .int .i64 0, .int .i64 0, .int .i64 0, .int .i64 0] 31)).heap.size = w1.heap.size + 1 by simp] at h
    exact h
  have hS : Stg w w.heap.size (w1.heap.size + 1 + 1) w1.heap.size (w1.heap.size + 1) [] W1 := ⟨below_tr hb1 hal, hx1, hy1, ⟨_, hm1.below hal, fun k e => by cases e⟩, by omega⟩
  rw [← hW1]
  have g1 : w1.heap.size ≠ w.heap.size ∧ w1.heap.size < w1.heap.size + 1 + 1 := ⟨by omega, by omega⟩
  have g2 : w1.heap.size + 1 ≠ w.heap.size ∧ w1.heap.size + 1 < w1.heap.size + 1 + 1 := ⟨by omega, by omega⟩
  have g3 : w.heap.size ≤ w1.heap.size + 1 + 1 := by omega
  clear hW1 hx1 hy1 hm1 hal hz
  obtain ⟨G, hG⟩ : ∃ G : Option Value → Option Value → World → Prop, ∀ x y W, G x y W = TwoS w w.heap.size (w1.heap.size + 1 + 1) w1.heap.size (w1.heap.size + 1) x y W := ⟨_, fun _ _ _ => rfl⟩
  obtain ⟨S_, hS_⟩ : ∃ S_ : World → World → Prop, S_ = (fun _ _ => True) := ⟨_, rfl⟩
  have hR_ : ∀ W, S_ W W := by intro W; rw [hS_]; exact trivial
  obtain ⟨T, hT⟩ : ∃ T : Nat → FactS S_, ∀ t_, T t_ = ([FactS.eq (.pointer (some ⟨w.heap.size, 0, none⟩)), FactS.eq (.agg #[.int .i64 1, .int .i64 1, .int .i64 0, .int .i64 0, .int .i64 0, .int .i64 0, .int .i64 0, .int .i64 0, .int .i64 0, .int .i64 0, .int .i64 0, .int .i64 0, .int .i64 0, .int .i64 0, .int .i64 0]), FactS.eq (.int .i64 0), FactS.eq (.pointer (some ⟨w.heap.size, 0, none⟩)), FactS.eq (.agg #[.int .i64 1, .int .i64 2, .int .i64 0, .int .i64 0, .int .i64 0, .int .i64 0, .int .i64 0, .int .i64 0, .int .i64 0, .int .i64 0, .int .i64 0, .int .i64 0, .int .i64 0, .int .i64 0, .int .i64 0]), FactS.eq (.int .i64 0), FactS.eq (.int .i64 0), FactS.eq (.int .i64 0)] : List (FactS S_)).getD t_ FactS.any := ⟨_, fun _ => rfl⟩
  have hP_ : ∀ i_ v_ (y_ : Nat → Option Value) W_, ([2, 5].contains i_) = false → G (y_ 2) (y_ 5) W_ → G (updY y_ i_ v_ 2) (updY y_ i_ v_ 5) W_ := by
    intro i_ v_ y_ W_ hi_ h_
    simp only [List.contains_cons, List.contains_nil, Bool.or_false, Bool.or_eq_false_iff, beq_eq_false_iff_ne, ne_eq] at hi_
    obtain ⟨i2_, i5_⟩ := hi_
    rw [updY_ne y_ i_ v_ i2_, updY_ne y_ i_ v_ i5_]
    exact h_
  refine region_tabJ [(0, 11), (1, 12), (2, 13), (3, 14), (4, 15), (5, 16), (6, 4), (7, 5)] S_ T (fun y_ W_ => G (y_ 2) (y_ 5) W_) (by kernel_rfl) (by kernel_rfl) (by kernel_rfl) (by kernel_rfl) (by kernel_rfl) ?_ ?_ ?_
  · skip
    show G none none _
    rw [hG]
    exact .inl ⟨rfl, rfl, hS.more (below_dr (Below.refl _ _) _)⟩
  · skip
    refine stepsAll_cons (k := 0) ?_ ?_
    · intro fa fx fW fy hF hN hJ hE K fK
      have hJ : G (fy 2) (fy 5) fW := hJ
      have ev1 : fa.tmps[1]?.getD undef = .pointer (some ⟨w.heap.size, 0, none⟩) := hF.eo 1 (by kernel_rfl)
      refine wpOp_val rfl (wanted_none rfl) ?_ (fK (.pointer (some ⟨w.heap.size, 0, none⟩)) fW (hR_ fW) (by rw [hT]; exact rfl) (hP_ 0 _ fy fW rfl hJ))
      clear fK hE hF hJ hN
      go_simp
    refine stepsAll_cons (k := 1) ?_ ?_
    · intro fa fx fW fy hF hN hJ hE K fK
      have hJ : G (fy 2) (fy 5) fW := hJ
      have ev2 : fa.tmps[2]?.getD undef = .pointer (some ⟨w1.heap.size, 0, none⟩) := hF.eo 2 (by kernel_rfl)
      have hJ2 := hJ
      rw [hG] at hJ2
      obtain ⟨z0, z1, z2, z3, z4, z5, z6, z7, z8, z9, z10, z11, z12, z13, z14⟩ := hJ2.ev.1
      unfold mx at z0 z1 z2 z3 z4 z5 z6 z7 z8 z9 z10 z11 z12 z13 z14
      simp only at z0 z1 z2 z3 z4 z5 z6 z7 z8 z9 z10 z11 z12 z13 z14
      clear hJ2
      refine wpOp_val rfl (wanted_none rfl) ?_ (fK (.agg #[.int .i64 1, .int .i64 1, .int .i64 0, .int .i64 0, .int .i64 0, .int .i64 0, .int .i64 0, .int .i64 0, .int .i64 0, .int .i64 0, .int .i64 0, .int .i64 0, .int .i64 0, .int .i64 0, .int .i64 0]) fW (hR_ fW) (by rw [hT]; exact rfl) (hP_ 1 _ fy fW rfl hJ))
      clear fK hE hF hJ hN
      go_simp
    refine stepsAll_cons (k := 2) ?_ ?_
    · intro fa fx fW fy hF hN hJ hE K fK
      have hJ : G (fy 2) (fy 5) fW := hJ
      have q0 : fx 0 = .pointer (some ⟨w.heap.size, 0, none⟩) := by have q := (hE ⟨0, .data⟩ (by simp) rfl).2; rw [hT] at q; exact q
      have q1 : fx 1 = .agg #[.int .i64 1, .int .i64 1, .int .i64 0, .int .i64 0, .int .i64 0, .int .i64 0, .int .i64 0, .int .i64 0, .int .i64 0, .int .i64 0, .int .i64 0, .int .i64 0, .int .i64 0, .int .i64 0, .int .i64 0] := by have q := (hE ⟨1, .data⟩ (by simp) rfl).2; rw [hT] at q; exact q
      have ev11 : fa.tmps[11]?.getD undef = .pointer (some ⟨w.heap.size, 0, none⟩) := (hF.ev 0 11 (by kernel_rfl)).trans q0
      have ev12 : fa.tmps[12]?.getD undef = .agg #[.int .i64 1, .int .i64 1, .int .i64 0, .int .i64 0, .int .i64 0, .int .i64 0, .int .i64 0, .int .i64 0, .int .i64 0, .int .i64 0, .int .i64 0, .int .i64 0, .int .i64 0, .int .i64 0, .int .i64 0] := (hF.ev 1 12 (by kernel_rfl)).trans q1
      refine wpOp_call rfl (wanted_none rfl) (by go_simp; exact ⟨rfl, rfl⟩) ?_
      rw [hG, hN] at hJ
      obtain ⟨hy0, hJ1⟩ := hJ.fst
      obtain ⟨v0, hm0, hv0⟩ := hJ1.box
      have hpt := mput w.heap.size w.heap.size 4 [] v0 mx fW hm0 (by decide) (by decide) (by decide) hJ1.below.size
      rw [may_x, if_pos rfl] at hpt
      refine hpt.mono ?_
      rintro e' w' ⟨rfl, hac⟩
      have b1 : S_ fW w' := by rw [hS_]; trivial
      have j1 : G (some (.int .i64 0)) (fy 5) w' := by rw [hG, hy0]; exact .inr (.inl ⟨by simp, rfl, hJ1.put hv0 hac (Nat.le_refl _) g3 g1 g2⟩)
      exact ⟨_, rfl, fK (.int .i64 0) (w') (b1) (by rw [hT]; exact rfl) (j1)⟩
    refine stepsAll_cons (k := 3) ?_ ?_
    · intro fa fx fW fy hF hN hJ hE K fK
      have hJ : G (fy 2) (fy 5) fW := hJ
      have ev1 : fa.tmps[1]?.getD undef = .pointer (some ⟨w.heap.size, 0, none⟩) := hF.eo 1 (by kernel_rfl)
      refine wpOp_val rfl (wanted_none rfl) ?_ (fK (.pointer (some ⟨w.heap.size, 0, none⟩)) fW (hR_ fW) (by rw [hT]; exact rfl) (hP_ 3 _ fy fW rfl hJ))
      clear fK hE hF hJ hN
      go_simp
    refine stepsAll_cons (k := 4) ?_ ?_
    · intro fa fx fW fy hF hN hJ hE K fK
      have hJ : G (fy 2) (fy 5) fW := hJ
      have ev3 : fa.tmps[3]?.getD undef = .pointer (some ⟨w1.heap.size + 1, 0, none⟩) := hF.eo 3 (by kernel_rfl)
      have hJ2 := hJ
      rw [hG] at hJ2
      obtain ⟨z0, z1, z2, z3, z4, z5, z6, z7, z8, z9, z10, z11, z12, z13, z14⟩ := hJ2.ev.2
      unfold my at z0 z1 z2 z3 z4 z5 z6 z7 z8 z9 z10 z11 z12 z13 z14
      simp only at z0 z1 z2 z3 z4 z5 z6 z7 z8 z9 z10 z11 z12 z13 z14
      clear hJ2
      refine wpOp_val rfl (wanted_none rfl) ?_ (fK (.agg #[.int .i64 1, .int .i64 2, .int .i64 0, .int .i64 0, .int .i64 0, .int .i64 0, .int .i64 0, .int .i64 0, .int .i64 0, .int .i64 0, .int .i64 0, .int .i64 0, .int .i64 0, .int .i64 0, .int .i64 0]) fW (hR_ fW) (by rw [hT]; exact rfl) (hP_ 4 _ fy fW rfl hJ))
      clear fK hE hF hJ hN
      go_simp
    refine stepsAll_cons (k := 5) ?_ ?_
    · intro fa fx fW fy hF hN hJ hE K fK
      have hJ : G (fy 2) (fy 5) fW := hJ
      have q2 : fx 2 = .int .i64 0 := by have q := (hE ⟨2, .chain⟩ (by simp) rfl).2; rw [hT] at q; exact q
      have y2 : fy 2 = some (fx 2) := (hE ⟨2, .chain⟩ (by simp) rfl).1
      have q3 : fx 3 = .pointer (some ⟨w.heap.size, 0, none⟩) := by have q := (hE ⟨3, .data⟩ (by simp) rfl).2; rw [hT] at q; exact q
      have q4 : fx 4 = .agg #[.int .i64 1, .int .i64 2, .int .i64 0, .int .i64 0, .int .i64 0, .int .i64 0, .int .i64 0, .int .i64 0, .int .i64 0, .int .i64 0, .int .i64 0, .int .i64 0, .int .i64 0, .int .i64 0, .int .i64 0] := by have q := (hE ⟨4, .data⟩ (by simp) rfl).2; rw [hT] at q; exact q
      have ev14 : fa.tmps[14]?.getD undef = .pointer (some ⟨w.heap.size, 0, none⟩) := (hF.ev 3 14 (by kernel_rfl)).trans q3
      have ev15 : fa.tmps[15]?.getD undef = .agg #[.int .i64 1, .int .i64 2, .int .i64 0, .int .i64 0, .int .i64 0, .int .i64 0, .int .i64 0, .int .i64 0, .int .i64 0, .int .i64 0, .int .i64 0, .int .i64 0, .int .i64 0, .int .i64 0, .int .i64 0] := (hF.ev 4 15 (by kernel_rfl)).trans q4
      refine wpOp_call rfl (wanted_none rfl) (by go_simp; exact ⟨rfl, rfl⟩) ?_
      rw [hG, y2, hN] at hJ
      have hJ1 := hJ.snd
      obtain ⟨v0, hm0, hv0⟩ := hJ1.box
      have hpt := mput w.heap.size w.heap.size 4 [mx] v0 my fW hm0 (by decide) (by decide) (by decide) hJ1.below.size
      rw [may_y, if_pos rfl] at hpt
      refine hpt.mono ?_
      rintro e' w' ⟨rfl, hac⟩
      have b1 : S_ fW w' := by rw [hS_]; trivial
      have j1 : G (fy 2) (some (.int .i64 0)) w' := by rw [hG, y2]; exact .inr (.inr ⟨by simp, by simp, hJ1.put hv0 hac (Nat.le_refl _) g3 g1 g2⟩)
      exact ⟨_, rfl, fK (.int .i64 0) (w') (b1) (by rw [hT]; exact rfl) (j1)⟩
    refine stepsAll_cons (k := 6) ?_ ?_
    · intro fa fx fW fy hF hN hJ hE K fK
      have hJ : G (fy 2) (fy 5) fW := hJ
      have q2 : fx 2 = .int .i64 0 := by have q := (hE ⟨2, .data⟩ (by simp) rfl).2; rw [hT] at q; exact q
      have y2 : fy 2 = some (fx 2) := (hE ⟨2, .data⟩ (by simp) rfl).1
      have ev13 : fa.tmps[13]?.getD undef = .int .i64 0 := (hF.ev 2 13 (by kernel_rfl)).trans q2
      refine wpOp_val rfl (wanted_none rfl) ?_ (fK (.int .i64 0) fW (hR_ fW) (by rw [hT]; exact rfl) (hP_ 6 _ fy fW rfl hJ))
      clear fK hE hF hJ hN
      go_simp
    refine stepsAll_cons (k := 7) ?_ ?_
    · intro fa fx fW fy hF hN hJ hE K fK
      have hJ : G (fy 2) (fy 5) fW := hJ
      have q5 : fx 5 = .int .i64 0 := by have q := (hE ⟨5, .data⟩ (by simp) rfl).2; rw [hT] at q; exact q
      have y5 : fy 5 = some (fx 5) := (hE ⟨5, .data⟩ (by simp) rfl).1
      have ev16 : fa.tmps[16]?.getD undef = .int .i64 0 := (hF.ev 5 16 (by kernel_rfl)).trans q5
      refine wpOp_val rfl (wanted_none rfl) ?_ (fK (.int .i64 0) fW (hR_ fW) (by rw [hT]; exact rfl) (hP_ 7 _ fy fW rfl hJ))
      clear fK hE hF hJ hN
      go_simp
    exact stepsAll_nil
  intro fa fx fW fy hF hJ0 hx
  have y2 : fy 2 = some (fx 2) := (hx 2 (by decide)).1
  have y5 : fy 5 = some (fx 5) := (hx 5 (by decide)).1
  have hJ : G (fy 2) (fy 5) fW := hJ0
  clear hJ0
  rw [y2, y5] at hJ
  have q6 : fx 6 = .int .i64 0 := by have q := (hx 6 (by decide)).2; rw [hT] at q; exact q
  have ev4 : fa.tmps[4]?.getD undef = .int .i64 0 := (hF.ev 6 4 (by kernel_rfl)).trans q6
  have q7 : fx 7 = .int .i64 0 := by have q := (hx 7 (by decide)).2; rw [hT] at q; exact q
  have ev5 : fa.tmps[5]?.getD undef = .int .i64 0 := (hF.ev 7 5 (by kernel_rfl)).trans q7
  rw [hF.eq]
  clear hF hx hT T hP_ hR_ y2 y5
  simp only [putAll, Act.put, List.setIfInBounds_toArray, List.set_cons_zero, List.set_cons_succ, q6, q7]
  rw [hG] at hJ
  have hJ1 := hJ.thd
  obtain ⟨v0, hm0, hv0⟩ := hJ1.box
  have htk := mtake w.heap.size w.heap.size 4 [mx, my] v0 1 fW hm0 (by decide) (by decide) (by decide) hJ1.below.size
  rw [bat1, show ((1 : Nat) : Int) = 1 from rfl, show [mx, my].take 1 = [mx] from rfl, show [mx, my].drop 1 = [my] from rfl] at htk
  have HTK := Lib.hid htk
  clear htk hJ hS
  go_wp2_with (first
    | (go_at_call 9; (with_reducible refine HTK.out.mono ?_); rintro e w3 ⟨vx, v3, rfl, hox, hc3, hm3, hf3, _, _⟩; obtain ⟨XA, xc, hvx, hrx⟩ := own_rds hox; subst hvx; have hJ3 := hJ1.act hc3 (fun k hk => .inl hk) (Nat.le_refl _) g3 g1 g2 hm3 (fun k e => Nat.le_trans hJ1.sz (hf3 k e)); have hud := mundo w.heap.size w.heap.size 4 [my] v3 XA 1 xc [mx] w3 hm3 (by decide) (by decide) (by decide) hrx (by decide) hJ3.below.size; rw [may_u] at hud; have HUD := Lib.hid hud; clear hud)
    | (go_at_call 10; (with_reducible refine HUD.out.mono ?_); rintro e w4 ⟨rfl, hu, _⟩; obtain ⟨hc4, v4, hm4, hf4⟩ := hu (by first | rfl | trivial); have hJ4 := hJ3.act hc4 (fun k hk => .inl hk) (Nat.le_refl _) g3 g1 g2 hm4 (fun k e => Nat.le_trans hJ3.sz (hf4 k e))))
  obtain ⟨G2, hG2⟩ : ∃ G2 : Option Value → World → Prop, ∀ x W, G2 x W = Stg w w.heap.size (w1.heap.size + 1 + 1) w1.heap.size (w1.heap.size + 1) [mx, my] W := ⟨_, fun _ _ => rfl⟩
  obtain ⟨S_, hS_⟩ : ∃ S_ : World → World → Prop, S_ = (fun W W' => Below W.heap.size W W') := ⟨_, rfl⟩
  have hR_ : ∀ W, S_ W W := by intro W; rw [hS_]; exact Below.refl _ _
  obtain ⟨T, hT⟩ : ∃ T : Nat → FactS S_, ∀ t_, T t_ = ([FactS.eq (.int .i64 0), FactS.eq (.bool true), FactS.eq (.bool true), FactS.eq (.int .i64 0), FactS.eq (.bool true), FactS.eq (.bool true), FactS.eq (.bool true), FactS.eq (.int .i64 0), FactS.eq (.bool true), FactS.eq (.bool true), FactS.eq (.bool true), FactS.eq (.pointer (some ⟨w.heap.size, 0, none⟩)), (⟨fun u W => ∃ A n c, u = .slice A n c ∧ Rds W 15 A n c (evs [mx, my]), fun u W W' ⟨A, n, c, e, hr⟩ hc => ⟨A, n, c, e, hr.below (by rw [hS_] at hc; exact hc)⟩⟩ : FactS S_), FactS.eq (.agg #[.int .i64 1, .int .i64 1, .int .i64 0, .int .i64 0, .int .i64 0, .int .i64 0, .int .i64 0, .int .i64 0, .int .i64 0, .int .i64 0, .int .i64 0, .int .i64 0, .int .i64 0, .int .i64 0, .int .i64 0]), FactS.eq (.agg #[.int .i64 1, .int .i64 2, .int .i64 0, .int .i64 0, .int .i64 0, .int .i64 0, .int .i64 0, .int .i64 0, .int .i64 0, .int .i64 0, .int .i64 0, .int .i64 0, .int .i64 0, .int .i64 0, .int .i64 0]), (⟨fun u W => ∃ A n c, u = .slice A n c ∧ Rds W 15 A n c (evs [mx, my]), fun u W W' ⟨A, n, c, e, hr⟩ hc => ⟨A, n, c, e, hr.below (by rw [hS_] at hc; exact hc)⟩⟩ : FactS S_), FactS.eq (.bool true), FactS.eq (.bool true), FactS.eq (.bool true)] : List (FactS S_)).getD t_ FactS.any := ⟨_, fun _ => rfl⟩
  have hP_ : ∀ i_ v_ (y_ : Nat → Option Value) W_, ([12].contains i_) = false → G2 (y_ 12) W_ → G2 (updY y_ i_ v_ 12) W_ := by
    intro i_ v_ y_ W_ hi_ h_
    simp only [List.contains_cons, List.contains_nil, Bool.or_false, beq_eq_false_iff_ne, ne_eq] at hi_
    rw [updY_ne y_ i_ v_ hi_]
    exact h_
  refine region_tabJ [(0, 22), (1, 23), (2, 24), (3, 25), (4, 26), (5, 27), (6, 28), (7, 29), (8, 30), (9, 31), (10, 32), (11, 33), (12, 34), (13, 35), (14, 36), (15, 37), (16, 38), (17, 39), (18, 0)] S_ T (fun y_ W_ => G2 (y_ 12) W_) (by kernel_rfl) (by kernel_rfl) (by kernel_rfl) (by kernel_rfl) (by kernel_rfl) ?_ ?_ ?_
  · skip
    show G2 none _
    rw [hG2]
    exact hJ4.more (below_dr (Below.refl _ _) _)
  · skip
    refine stepsAll_cons (k := 0) ?_ ?_
    · intro fa fx fW fy hF hN hJ hE K fK
      have hJ : G2 (fy 12) fW := hJ
      have ev4 : fa.tmps[4]?.getD undef = .int .i64 0 := hF.eo 4 (by kernel_rfl)
      refine wpOp_val rfl (wanted_none rfl) ?_ (fK (.int .i64 0) fW (hR_ fW) (by rw [hT]; exact rfl) (hP_ 0 _ fy fW rfl hJ))
      clear fK hE hF hJ hN
      go_simp
    refine stepsAll_cons (k := 1) ?_ ?_
    · intro fa fx fW fy hF hN hJ hE K fK
      have hJ : G2 (fy 12) fW := hJ
      have q0 : fx 0 = .int .i64 0 := by have q := (hE ⟨0, .data⟩ (by simp) rfl).2; rw [hT] at q; exact q
      have ev22 : fa.tmps[22]?.getD undef = .int .i64 0 := (hF.ev 0 22 (by kernel_rfl)).trans q0
      refine wpOp_val rfl (wanted_none rfl) ?_ (fK (.bool true) fW (hR_ fW) (by rw [hT]; exact rfl) (hP_ 1 _ fy fW rfl hJ))
      clear fK hE hF hJ hN
      go_simp
    refine stepsAll_cons (k := 2) ?_ ?_
    · intro fa fx fW fy hF hN hJ hE K fK
      have hJ : G2 (fy 12) fW := hJ
      have q1 : fx 1 = .bool true := by have q := (hE ⟨1, .data⟩ (by simp) rfl).2; rw [hT] at q; exact q
      have ev23 : fa.tmps[23]?.getD undef = .bool true := (hF.ev 1 23 (by kernel_rfl)).trans q1
      refine wpOp_val rfl (wanted_none rfl) ?_ (fK (.bool true) fW (hR_ fW) (by rw [hT]; exact rfl) (hP_ 2 _ fy fW rfl hJ))
      clear fK hE hF hJ hN
      go_simp
    refine stepsAll_cons (k := 3) ?_ ?_
    · intro fa fx fW fy hF hN hJ hE K fK
      have hJ : G2 (fy 12) fW := hJ
      have q2 : fx 2 = .bool true := by have q := (hE ⟨2, .guard⟩ (by simp) rfl).2; rw [hT] at q; exact q
      have ev5 : fa.tmps[5]?.getD undef = .int .i64 0 := hF.eo 5 (by kernel_rfl)
      refine wpOp_val rfl (wanted_yes rfl (hF.yes 2 24 (by kernel_rfl) true q2)) ?_ (fK (.int .i64 0) fW (hR_ fW) (by rw [hT]; exact rfl) (hP_ 3 _ fy fW rfl hJ))
      clear fK hE hF hJ hN
      go_simp
    refine stepsAll_cons (k := 4) ?_ ?_
    · intro fa fx fW fy hF hN hJ hE K fK
      have hJ : G2 (fy 12) fW := hJ
      have q2 : fx 2 = .bool true := by have q := (hE ⟨2, .guard⟩ (by simp) rfl).2; rw [hT] at q; exact q
      have q3 : fx 3 = .int .i64 0 := by have q := (hE ⟨3, .data⟩ (by simp) rfl).2; rw [hT] at q; exact q
      have ev25 : fa.tmps[25]?.getD undef = .int .i64 0 := (hF.ev 3 25 (by kernel_rfl)).trans q3
      refine wpOp_val rfl (wanted_yes rfl (hF.yes 2 24 (by kernel_rfl) true q2)) ?_ (fK (.bool true) fW (hR_ fW) (by rw [hT]; exact rfl) (hP_ 4 _ fy fW rfl hJ))
      clear fK hE hF hJ hN
      go_simp
    refine stepsAll_cons (k := 5) ?_ ?_
    · intro fa fx fW fy hF hN hJ hE K fK
      have hJ : G2 (fy 12) fW := hJ
      have q2 : fx 2 = .bool true := by have q := (hE ⟨2, .data⟩ (by simp) rfl).2; rw [hT] at q; exact q
      have q4 : fx 4 = .bool true := by have q := (hE ⟨4, .data⟩ (by simp) rfl).2; rw [hT] at q; exact q
      have ev24 : fa.tmps[24]?.getD undef = .bool true := (hF.ev 2 24 (by kernel_rfl)).trans q2
      have ev26 : fa.tmps[26]?.getD undef = .bool true := (hF.ev 4 26 (by kernel_rfl)).trans q4
      refine wpOp_val rfl (wanted_none rfl) ?_ (fK (.bool true) fW (hR_ fW) (by rw [hT]; exact rfl) (hP_ 5 _ fy fW rfl hJ))
      clear fK hE hF hJ hN
      go_simp
    refine stepsAll_cons (k := 6) ?_ ?_
    · intro fa fx fW fy hF hN hJ hE K fK
      have hJ : G2 (fy 12) fW := hJ
      have q5 : fx 5 = .bool true := by have q := (hE ⟨5, .data⟩ (by simp) rfl).2; rw [hT] at q; exact q
      have ev27 : fa.tmps[27]?.getD undef = .bool true := (hF.ev 5 27 (by kernel_rfl)).trans q5
      refine wpOp_val rfl (wanted_none rfl) ?_ (fK (.bool true) fW (hR_ fW) (by rw [hT]; exact rfl) (hP_ 6 _ fy fW rfl hJ))
      clear fK hE hF hJ hN
      go_simp
    refine stepsAll_cons (k := 7) ?_ ?_
    · intro fa fx fW fy hF hN hJ hE K fK
      have hJ : G2 (fy 12) fW := hJ
      have q6 : fx 6 = .bool true := by have q := (hE ⟨6, .guard⟩ (by simp) rfl).2; rw [hT] at q; exact q
      have ev7 : fa.tmps[7]?.getD undef = .int .i64 0 := hF.eo 7 (by kernel_rfl)
      refine wpOp_val rfl (wanted_yes rfl (hF.yes 6 28 (by kernel_rfl) true q6)) ?_ (fK (.int .i64 0) fW (hR_ fW) (by rw [hT]; exact rfl) (hP_ 7 _ fy fW rfl hJ))
      clear fK hE hF hJ hN
      go_simp
    refine stepsAll_cons (k := 8) ?_ ?_
    · intro fa fx fW fy hF hN hJ hE K fK
      have hJ : G2 (fy 12) fW := hJ
      have q6 : fx 6 = .bool true := by have q := (hE ⟨6, .guard⟩ (by simp) rfl).2; rw [hT] at q; exact q
      have q7 : fx 7 = .int .i64 0 := by have q := (hE ⟨7, .data⟩ (by simp) rfl).2; rw [hT] at q; exact q
      have ev29 : fa.tmps[29]?.getD undef = .int .i64 0 := (hF.ev 7 29 (by kernel_rfl)).trans q7
      refine wpOp_val rfl (wanted_yes rfl (hF.yes 6 28 (by kernel_rfl) true q6)) ?_ (fK (.bool true) fW (hR_ fW) (by rw [hT]; exact rfl) (hP_ 8 _ fy fW rfl hJ))
      clear fK hE hF hJ hN
      go_simp
    refine stepsAll_cons (k := 9) ?_ ?_
    · intro fa fx fW fy hF hN hJ hE K fK
      have hJ : G2 (fy 12) fW := hJ
      have q6 : fx 6 = .bool true := by have q := (hE ⟨6, .data⟩ (by simp) rfl).2; rw [hT] at q; exact q
      have q8 : fx 8 = .bool true := by have q := (hE ⟨8, .data⟩ (by simp) rfl).2; rw [hT] at q; exact q
      have ev28 : fa.tmps[28]?.getD undef = .bool true := (hF.ev 6 28 (by kernel_rfl)).trans q6
      have ev30 : fa.tmps[30]?.getD undef = .bool true := (hF.ev 8 30 (by kernel_rfl)).trans q8
      refine wpOp_val rfl (wanted_none rfl) ?_ (fK (.bool true) fW (hR_ fW) (by rw [hT]; exact rfl) (hP_ 9 _ fy fW rfl hJ))
      clear fK hE hF hJ hN
      go_simp
    refine stepsAll_cons (k := 10) ?_ ?_
    · intro fa fx fW fy hF hN hJ hE K fK
      have hJ : G2 (fy 12) fW := hJ
      have q9 : fx 9 = .bool true := by have q := (hE ⟨9, .data⟩ (by simp) rfl).2; rw [hT] at q; exact q
      have ev31 : fa.tmps[31]?.getD undef = .bool true := (hF.ev 9 31 (by kernel_rfl)).trans q9
      refine wpOp_val rfl (wanted_none rfl) ?_ (fK (.bool true) fW (hR_ fW) (by rw [hT]; exact rfl) (hP_ 10 _ fy fW rfl hJ))
      clear fK hE hF hJ hN
      go_simp
    refine stepsAll_cons (k := 11) ?_ ?_
    · intro fa fx fW fy hF hN hJ hE K fK
      have hJ : G2 (fy 12) fW := hJ
      have q10 : fx 10 = .bool true := by have q := (hE ⟨10, .guard⟩ (by simp) rfl).2; rw [hT] at q; exact q
      have ev1 : fa.tmps[1]?.getD undef = .pointer (some ⟨w.heap.size, 0, none⟩) := hF.eo 1 (by kernel_rfl)
      refine wpOp_val rfl (wanted_yes rfl (hF.yes 10 32 (by kernel_rfl) true q10)) ?_ (fK (.pointer (some ⟨w.heap.size, 0, none⟩)) fW (hR_ fW) (by rw [hT]; exact rfl) (hP_ 11 _ fy fW rfl hJ))
      clear fK hE hF hJ hN
      go_simp
    refine stepsAll_cons (k := 12) ?_ ?_
    · intro fa fx fW fy hF hN hJ hE K fK
      have hJ : G2 (fy 12) fW := hJ
      have q10 : fx 10 = .bool true := by have q := (hE ⟨10, .chain⟩ (by simp) rfl).2; rw [hT] at q; exact q
      have q11 : fx 11 = .pointer (some ⟨w.heap.size, 0, none⟩) := by have q := (hE ⟨11, .data⟩ (by simp) rfl).2; rw [hT] at q; exact q
      have ev33 : fa.tmps[33]?.getD undef = .pointer (some ⟨w.heap.size, 0, none⟩) := (hF.ev 11 33 (by kernel_rfl)).trans q11
      refine wpOp_call rfl (wanted_yes rfl (hF.yes 10 32 (by kernel_rfl) true q10)) (by go_simp; exact ⟨rfl, rfl⟩) ?_
      rw [hG2] at hJ
      obtain ⟨v0, hm0, hv0⟩ := hJ.box
      refine (mall w.heap.size w.heap.size 4 [mx, my] v0 fW hm0 (by decide) (by decide)).mono ?_
      rintro e' w' ⟨⟨v', rfl, hown⟩, hbb⟩
      obtain ⟨A1, c1, hv1, hr1⟩ := own_rds hown
      have b1 : S_ fW w' := by rw [hS_]; exact hbb
      have j1 : G2 (some v') w' := by rw [hG2]; exact hJ.more hbb
      exact ⟨_, rfl, fK (v') (w') (b1) (by rw [hT]; exact ⟨A1, _, c1, hv1, hr1⟩) (j1)⟩
    refine stepsAll_cons (k := 13) ?_ ?_
    · intro fa fx fW fy hF hN hJ hE K fK
      have hJ : G2 (fy 12) fW := hJ
      have q10 : fx 10 = .bool true := by have q := (hE ⟨10, .guard⟩ (by simp) rfl).2; rw [hT] at q; exact q
      have ev2 : fa.tmps[2]?.getD undef = .pointer (some ⟨w1.heap.size, 0, none⟩) := hF.eo 2 (by kernel_rfl)
      have hJ2 := hJ
      rw [hG2] at hJ2
      obtain ⟨z0, z1, z2, z3, z4, z5, z6, z7, z8, z9, z10, z11, z12, z13, z14⟩ := hJ2.x
      unfold mx at z0 z1 z2 z3 z4 z5 z6 z7 z8 z9 z10 z11 z12 z13 z14
      simp only at z0 z1 z2 z3 z4 z5 z6 z7 z8 z9 z10 z11 z12 z13 z14
      clear hJ2
      refine wpOp_val rfl (wanted_yes rfl (hF.yes 10 32 (by kernel_rfl) true q10)) ?_ (fK (.agg #[.int .i64 1, .int .i64 1, .int .i64 0, .int .i64 0, .int .i64 0, .int .i64 0, .int .i64 0, .int .i64 0, .int .i64 0, .int .i64 0, .int .i64 0, .int .i64 0, .int .i64 0, .int .i64 0, .int .i64 0]) fW (hR_ fW) (by rw [hT]; exact rfl) (hP_ 13 _ fy fW rfl hJ))
      clear fK hE hF hJ hN
      go_simp
    refine stepsAll_cons (k := 14) ?_ ?_
    · intro fa fx fW fy hF hN hJ hE K fK
      have hJ : G2 (fy 12) fW := hJ
      have q10 : fx 10 = .bool true := by have q := (hE ⟨10, .guard⟩ (by simp) rfl).2; rw [hT] at q; exact q
      have ev3 : fa.tmps[3]?.getD undef = .pointer (some ⟨w1.heap.size + 1, 0, none⟩) := hF.eo 3 (by kernel_rfl)
      have hJ2 := hJ
      rw [hG2] at hJ2
      obtain ⟨z0, z1, z2, z3, z4, z5, z6, z7, z8, z9, z10, z11, z12, z13, z14⟩ := hJ2.y
      unfold my at z0 z1 z2 z3 z4 z5 z6 z7 z8 z9 z10 z11 z12 z13 z14
      simp only at z0 z1 z2 z3 z4 z5 z6 z7 z8 z9 z10 z11 z12 z13 z14
      clear hJ2
      refine wpOp_val rfl (wanted_yes rfl (hF.yes 10 32 (by kernel_rfl) true q10)) ?_ (fK (.agg #[.int .i64 1, .int .i64 2, .int .i64 0, .int .i64 0, .int .i64 0, .int .i64 0, .int .i64 0, .int .i64 0, .int .i64 0, .int .i64 0, .int .i64 0, .int .i64 0, .int .i64 0, .int .i64 0, .int .i64 0]) fW (hR_ fW) (by rw [hT]; exact rfl) (hP_ 14 _ fy fW rfl hJ))
      clear fK hE hF hJ hN
      go_simp
    refine stepsAll_cons (k := 15) ?_ ?_
    · intro fa fx fW fy hF hN hJ hE K fK
      have hJ : G2 (fy 12) fW := hJ
      have q10 : fx 10 = .bool true := by have q := (hE ⟨10, .guard⟩ (by simp) rfl).2; rw [hT] at q; exact q
      have q13 : fx 13 = .agg #[.int .i64 1, .int .i64 1, .int .i64 0, .int .i64 0, .int .i64 0, .int .i64 0, .int .i64 0, .int .i64 0, .int .i64 0, .int .i64 0, .int .i64 0, .int .i64 0, .int .i64 0, .int .i64 0, .int .i64 0] := by have q := (hE ⟨13, .data⟩ (by simp) rfl).2; rw [hT] at q; exact q
      have q14 : fx 14 = .agg #[.int .i64 1, .int .i64 2, .int .i64 0, .int .i64 0, .int .i64 0, .int .i64 0, .int .i64 0, .int .i64 0, .int .i64 0, .int .i64 0, .int .i64 0, .int .i64 0, .int .i64 0, .int .i64 0, .int .i64 0] := by have q := (hE ⟨14, .data⟩ (by simp) rfl).2; rw [hT] at q; exact q
      have ev35 : fa.tmps[35]?.getD undef = .agg #[.int .i64 1, .int .i64 1, .int .i64 0, .int .i64 0, .int .i64 0, .int .i64 0, .int .i64 0, .int .i64 0, .int .i64 0, .int .i64 0, .int .i64 0, .int .i64 0, .int .i64 0, .int .i64 0, .int .i64 0] := (hF.ev 13 35 (by kernel_rfl)).trans q13
      have ev36 : fa.tmps[36]?.getD undef = .agg #[.int .i64 1, .int .i64 2, .int .i64 0, .int .i64 0, .int .i64 0, .int .i64 0, .int .i64 0, .int .i64 0, .int .i64 0, .int .i64 0, .int .i64 0, .int .i64 0, .int .i64 0, .int .i64 0, .int .i64 0] := (hF.ev 14 36 (by kernel_rfl)).trans q14
      have hbb : Below fW.heap.size fW (fW.alloc (.cells #[.int .i64 1, .int .i64 1, .int .i64 0, .int .i64 0, .int .i64 0, .int .i64 0, .int .i64 0, .int .i64 0, .int .i64 0, .int .i64 0, .int .i64 0, .int .i64 0, .int .i64 0, .int .i64 0, .int .i64 0, .int .i64 1, .int .i64 2, .int .i64 0, .int .i64 0, .int .i64 0, .int .i64 0, .int .i64 0, .int .i64 0, .int .i64 0, .int .i64 0, .int .i64 0, .int .i64 0, .int .i64 0, .int .i64 0, .int .i64 0] 31)) := below_al (Below.refl _ _) _
      have j1 : G2 (fy 12) (fW.alloc (.cells #[.int .i64 1, .int .i64 1, .int .i64 0, .int .i64 0, .int .i64 0, .int .i64 0, .int .i64 0, .int .i64 0, .int .i64 0, .int .i64 0, .int .i64 0, .int .i64 0, .int .i64 0, .int .i64 0, .int .i64 0, .int .i64 1, .int .i64 2, .int .i64 0, .int .i64 0, .int .i64 0, .int .i64 0, .int .i64 0, .int .i64 0, .int .i64 0, .int .i64 0, .int .i64 0, .int .i64 0, .int .i64 0, .int .i64 0, .int .i64 0] 31)) := by rw [hG2] at hJ ⊢; exact hJ.more hbb
      refine wpOp_to rfl (wanted_yes rfl (hF.yes 10 32 (by kernel_rfl) true q10)) (v := .slice (some ⟨fW.heap.size, 0, none⟩) 2 2) (W' := fW.alloc (.cells #[.int .i64 1, .int .i64 1, .int .i64 0, .int .i64 0, .int .i64 0, .int .i64 0, .int .i64 0, .int .i64 0, .int .i64 0, .int .i64 0, .int .i64 0, .int .i64 0, .int .i64 0, .int .i64 0, .int .i64 0, .int .i64 1, .int .i64 2, .int .i64 0, .int .i64 0, .int .i64 0, .int .i64 0, .int .i64 0, .int .i64 0, .int .i64 0, .int .i64 0, .int .i64 0, .int .i64 0, .int .i64 0, .int .i64 0, .int .i64 0] 31)) (by clear fK hE hF hN hJ; go_simp) (fK _ _ (by rw [hS_]; exact hbb) (by rw [hT]; exact ⟨_, _, _, rfl, rds_lit fW _ 15 2 (evs [mx, my]) rfl (by decide)⟩) (hP_ 15 _ fy _ rfl j1))
    refine stepsAll_cons (k := 16) ?_ ?_
    · intro fa fx fW fy hF hN hJ hE K fK
      have hJ : G2 (fy 12) fW := hJ
      have q10 : fx 10 = .bool true := by have q := (hE ⟨10, .guard⟩ (by simp) rfl).2; rw [hT] at q; exact q
      have q12 : ((⟨fun u W => ∃ A n c, u = .slice A n c ∧ Rds W 15 A n c (evs [mx, my]), fun u W W' ⟨A, n, c, e, hr⟩ hc => ⟨A, n, c, e, hr.below (by rw [hS_] at hc; exact hc)⟩⟩ : FactS S_) : FactS S_).p (fx 12) fW := by have q := (hE ⟨12, .data⟩ (by simp) rfl).2; rw [hT] at q; exact q
      have y12 : fy 12 = some (fx 12) := (hE ⟨12, .data⟩ (by simp) rfl).1
      have q15 : ((⟨fun u W => ∃ A n c, u = .slice A n c ∧ Rds W 15 A n c (evs [mx, my]), fun u W W' ⟨A, n, c, e, hr⟩ hc => ⟨A, n, c, e, hr.below (by rw [hS_] at hc; exact hc)⟩⟩ : FactS S_) : FactS S_).p (fx 15) fW := by have q := (hE ⟨15, .data⟩ (by simp) rfl).2; rw [hT] at q; exact q
      have ev34 : fa.tmps[34]?.getD undef = fx 12 := hF.ev 12 34 (by kernel_rfl)
      have ev37 : fa.tmps[37]?.getD undef = fx 15 := hF.ev 15 37 (by kernel_rfl)
      refine wpOp_call rfl (wanted_yes rfl (hF.yes 10 32 (by kernel_rfl) true q10)) (by go_simp; exact ⟨rfl, rfl⟩) ?_
      obtain ⟨A1, n1, c1, e1, hr1⟩ := q12
      obtain ⟨A2, n2, c2, e2, hr2⟩ := q15
      have l1 := evs_len hr1
      have l2 := evs_len hr2
      obtain rfl : n1 = 2 := l1.symm
      obtain rfl : n2 = 2 := l2.symm
      rw [e1, e2]
      refine (ssame_eq A1 A2 2 c1 c2 [mx, my] fW hr1 hr2).mono ?_
      rintro e' w' ⟨rfl, hbb⟩
      have b1 : S_ fW w' := by rw [hS_]; exact hbb
      have j1 : G2 (fy 12) w' := by rw [hG2] at hJ ⊢; exact hJ.more hbb
      exact ⟨_, rfl, fK (.bool true) (w') (b1) (by rw [hT]; exact rfl) (hP_ 16 _ fy w' rfl j1)⟩
    refine stepsAll_cons (k := 17) ?_ ?_
    · intro fa fx fW fy hF hN hJ hE K fK
      have hJ : G2 (fy 12) fW := hJ
      have q10 : fx 10 = .bool true := by have q := (hE ⟨10, .data⟩ (by simp) rfl).2; rw [hT] at q; exact q
      have q16 : fx 16 = .bool true := by have q := (hE ⟨16, .data⟩ (by simp) rfl).2; rw [hT] at q; exact q
      have ev32 : fa.tmps[32]?.getD undef = .bool true := (hF.ev 10 32 (by kernel_rfl)).trans q10
      have ev38 : fa.tmps[38]?.getD undef = .bool true := (hF.ev 16 38 (by kernel_rfl)).trans q16
      refine wpOp_val rfl (wanted_none rfl) ?_ (fK (.bool true) fW (hR_ fW) (by rw [hT]; exact rfl) (hP_ 17 _ fy fW rfl hJ))
      clear fK hE hF hJ hN
      go_simp
    refine stepsAll_cons (k := 18) ?_ ?_
    · intro fa fx fW fy hF hN hJ hE K fK
      have hJ : G2 (fy 12) fW := hJ
      have q17 : fx 17 = .bool true := by have q := (hE ⟨17, .data⟩ (by simp) rfl).2; rw [hT] at q; exact q
      have ev39 : fa.tmps[39]?.getD undef = .bool true := (hF.ev 17 39 (by kernel_rfl)).trans q17
      refine wpOp_val rfl (wanted_none rfl) ?_ (fK (.bool true) fW (hR_ fW) (by rw [hT]; exact rfl) (hP_ 18 _ fy fW rfl hJ))
      clear fK hE hF hJ hN
      go_simp
    exact stepsAll_nil
  intro fa fx fW fy hF hJ0 hx
  have y12 : fy 12 = some (fx 12) := (hx 12 (by decide)).1
  have hJ : G2 (fy 12) fW := hJ0
  clear hJ0
  rw [y12] at hJ
  have q18 : fx 18 = .bool true := by have q := (hx 18 (by decide)).2; rw [hT] at q; exact q
  have ev0 : fa.tmps[0]?.getD undef = .bool true := (hF.ev 18 0 (by kernel_rfl)).trans q18
  rw [hF.eq]
  clear hF hx hT T hP_ hR_ y12
  simp only [putAll, Act.put, List.setIfInBounds_toArray, List.set_cons_zero, List.set_cons_succ, q18]
  rw [hG2] at hJ
  go_wp2
  go_ret
  exact ⟨rfl, hJ.below⟩
end Go.Proofs.Ytjefnhlpidjndaa
