/- The reference's queue: Copy. -/
import Derived.Test.YtabdipfpfbdghaaGreatZRefQ4
import Derived.Test.YtabdipfpfbdghaaGreatZChain
namespace Go.Proofs.YtabdipfpfbdghaaGreat
open Go.RowKit
variable {w : World} {base mb mg n c : Nat} {now : Int} {rows : List RowQ}
theorem rowsQ_cell (l : List RowQ) : ∀ u ∈ rowsQ l, u.oneCell' = true := by
  intro u hu
  simp only [rowsQ, List.mem_flatten, List.mem_map] at hu
  obtain ⟨x, ⟨r, _, rfl⟩, hu⟩ := hu
  simp [rowC] at hu
  rcases hu with rfl | rfl | rfl | rfl <;> rfl
theorem own_atR {W : World} {B n : Nat} {v : Value} {xs : List Value} (h : W.ownsRow B TR 4 v n xs) (hn : 0 < n) : ∃ g c, v = .slice (some ⟨g, 0, none⟩) n c := by
  rcases h.2 with ⟨_, h4⟩ | ⟨g, c, _, h4, _⟩
  · omega
  · exact ⟨g, c, h4⟩
set_option maxRecDepth 100000 in
set_option maxHeartbeats 4000000 in
theorem mcopy (M : Mq w base mb mg n c now rows) (h0 : 0 < n) (hn : n ≤ 4096) :
    Calls Tryz.prog 20 #[.pointer (some ⟨mb, 0, none⟩)] w fun e w' => ∃ mb' mg' c', e = .returned (.pointer (some ⟨mb', 0, none⟩)) ∧ Hid (Mq w' w.heap.size mb' mg' n c' now rows) ∧ Hid (w.heap.size ≤ mg') ∧ Hid (Below w.heap.size w w') := by
  have hrd := (own_rds' M.ro).2
  have HN40 : Hid ((0 + n) * 32 ≤ 140737488355328) := by show _ ≤ _; omega
  have hnb := M.nb
  have hrb := M.rb
  have hml := (M.ro.lt mg rfl).2
  clear M
  go_enter Tryz.func20, Tryz.ntmps20
  go_wp2
  obtain ⟨B, hB⟩ : ∃ B, B = w.heap.size := ⟨_, rfl⟩
  obtain ⟨S0, hS0⟩ : ∃ S0 : Nat → Prop, S0 = fun k => B ≤ k := ⟨_, rfl⟩
  have hbS : ¬ S0 mb := by rw [hS0]; have := hnb.lt; omega
  have hAS : ∀ ad : Addr, some (⟨mg, 0, none⟩ : Addr) = some ad → ¬ S0 ad.block := fun ad e => by
    cases e
    rw [hS0]
    show ¬ B ≤ mg
    omega
  obtain ⟨G, hG⟩ : ∃ G : Option Value → Option Value → Option Value → Option Value → Option Value → World → Prop, ∀ x a z y e9 W, G x a z y e9 W = ((∀ u, e9 = some u → y = some u) ∧ ((a.isSome = true → x.isSome = true) ∧ (z.isSome = true → a.isSome = true) ∧ (y.isSome = true → z.isSome = true)) ∧ Ch2 TR 4 B n 0 (rowsQ rows) [] x a none none W ∧ Chg S0 w W ∧ (∀ u, z = some u → ∃ t g1 c1, a = some t ∧ t = .slice (some ⟨g1, 0, none⟩) n c1 ∧ u = .agg #[.int .i64 now, .slice (some ⟨g1, 0, none⟩) n c1]) ∧ (∀ u, y = some u → ∃ g mg' c', u = .pointer (some ⟨g, 0, none⟩) ∧ B ≤ mg' ∧ Mq W B g mg' n c' now rows)) := ⟨_, fun _ _ _ _ _ _ => rfl⟩
  obtain ⟨S_, hS_⟩ : ∃ S_ : World → World → Prop, S_ = (Chg S0) := ⟨_, rfl⟩
  have hR_ : ∀ W, S_ W W := by intro W; rw [hS_]; exact Chg.refl _ _
  obtain ⟨T, hT⟩ : ∃ T : Nat → FactS S_, ∀ t_, T t_ = ([FactS.eq (.pointer (some ⟨mb, 0, none⟩)), FactS.eq (.pointer (some ⟨mb, 0, none⟩)), FactS.eq (.pointer (some ⟨mb, 0, none⟩)), FactS.eq (.int .i64 now), FactS.any, FactS.eq (.pointer (some ⟨mb, 0, none⟩)), FactS.eq (.pointer (some ⟨mb, 0, none⟩)), FactS.eq (.pointer (some ⟨mb, 1, none⟩)), FactS.eq (.slice (some ⟨mg, 0, none⟩) n c), FactS.any, FactS.any, FactS.any, FactS.any] : List (FactS S_)).getD t_ FactS.any := ⟨_, fun _ => rfl⟩
  have hP_ : ∀ i_ v_ (y_ : Nat → Option Value) W_, ([4, 9, 10, 11, 12].contains i_) = false → G (y_ 4) (y_ 9) (y_ 10) (y_ 11) (y_ 12) W_ → G (updY y_ i_ v_ 4) (updY y_ i_ v_ 9) (updY y_ i_ v_ 10) (updY y_ i_ v_ 11) (updY y_ i_ v_ 12) W_ := by
    intro i_ v_ y_ W_ hi_ h_
    simp only [List.contains_cons, List.contains_nil, Bool.or_false, Bool.or_eq_false_iff, beq_eq_false_iff_ne, ne_eq] at hi_
    obtain ⟨i4_, i9_, i10_, i11_, i12_⟩ := hi_
    rw [updY_ne y_ i_ v_ i4_, updY_ne y_ i_ v_ i9_, updY_ne y_ i_ v_ i10_, updY_ne y_ i_ v_ i11_, updY_ne y_ i_ v_ i12_]
    exact h_
  refine region_tabJ [(0, 3), (1, 4), (2, 5), (3, 6), (4, 7), (5, 8), (6, 9), (7, 10), (8, 11), (9, 12), (10, 13), (11, 14), (12, 2)] S_ T (fun y_ W_ => G (y_ 4) (y_ 9) (y_ 10) (y_ 11) (y_ 12) W_) (by kernel_rfl) (by kernel_rfl) (by kernel_rfl) (by kernel_rfl) (by kernel_rfl) ?_ ?_ ?_
  · skip
    show G none none none none none _
    rw [hG]
    exact ⟨(fun u e => by cases e), ⟨(fun h => by cases h), (fun h => by cases h), (fun h => by cases h)⟩, Ch2.none_ (by rw [hB]; simp), (Chg.refl _ _).drewN 1, (fun u e => by cases e), (fun u e => by cases e)⟩
  · skip
    refine stepsAll_cons (k := 0) ?_ ?_
    · intro fa fx fW fy hF hN hJ hE K fK
      have hJ : G (fy 4) (fy 9) (fy 10) (fy 11) (fy 12) fW := hJ
      have ev0 : fa.tmps[0]?.getD undef = .pointer (some ⟨mb, 0, none⟩) := hF.eo 0 (by kernel_rfl)
      refine wpOp_val rfl (wanted_none rfl) ?_ (fK (.pointer (some ⟨mb, 0, none⟩)) fW (hR_ fW) (by rw [hT]; exact rfl) (hP_ 0 _ fy fW rfl hJ))
      clear fK hE hF hJ hN
      go_simp
    refine stepsAll_cons (k := 1) ?_ ?_
    · intro fa fx fW fy hF hN hJ hE K fK
      have hJ : G (fy 4) (fy 9) (fy 10) (fy 11) (fy 12) fW := hJ
      have q0 : fx 0 = .pointer (some ⟨mb, 0, none⟩) := by have q := (hE ⟨0, .data⟩ (by simp) rfl).2; rw [hT] at q; exact q
      have ev3 : fa.tmps[3]?.getD undef = .pointer (some ⟨mb, 0, none⟩) := (hF.ev 0 3 (by kernel_rfl)).trans q0
      refine wpOp_val rfl (wanted_none rfl) ?_ (fK (.pointer (some ⟨mb, 0, none⟩)) fW (hR_ fW) (by rw [hT]; exact rfl) (hP_ 1 _ fy fW rfl hJ))
      clear fK hE hF hJ hN
      go_simp
    refine stepsAll_cons (k := 2) ?_ ?_
    · intro fa fx fW fy hF hN hJ hE K fK
      have hJ : G (fy 4) (fy 9) (fy 10) (fy 11) (fy 12) fW := hJ
      have q1 : fx 1 = .pointer (some ⟨mb, 0, none⟩) := by have q := (hE ⟨1, .data⟩ (by simp) rfl).2; rw [hT] at q; exact q
      have ev4 : fa.tmps[4]?.getD undef = .pointer (some ⟨mb, 0, none⟩) := (hF.ev 1 4 (by kernel_rfl)).trans q1
      refine wpOp_val rfl (wanted_none rfl) ?_ (fK (.pointer (some ⟨mb, 0, none⟩)) fW (hR_ fW) (by rw [hT]; exact rfl) (hP_ 2 _ fy fW rfl hJ))
      clear fK hE hF hJ hN
      go_simp
    refine stepsAll_cons (k := 3) ?_ ?_
    · intro fa fx fW fy hF hN hJ hE K fK
      have hJ : G (fy 4) (fy 9) (fy 10) (fy 11) (fy 12) fW := hJ
      have q2 : fx 2 = .pointer (some ⟨mb, 0, none⟩) := by have q := (hE ⟨2, .data⟩ (by simp) rfl).2; rw [hT] at q; exact q
      have ev5 : fa.tmps[5]?.getD undef = .pointer (some ⟨mb, 0, none⟩) := (hF.ev 2 5 (by kernel_rfl)).trans q2
      have hJ1 := hJ
      rw [hG] at hJ1
      have k0 := (hnb.keep hJ1.2.2.2.1 hbS).cell
      clear hJ1
      refine wpOp_val rfl (wanted_none rfl) ?_ (fK (.int .i64 now) fW (hR_ fW) (by rw [hT]; exact rfl) (hP_ 3 _ fy fW rfl hJ))
      clear fK hE hF hJ hN
      go_simp
    refine stepsAll_cons (k := 4) ?_ ?_
    · intro fa fx fW fy hF hN hJ hE K fK
      have hJ : G (fy 4) (fy 9) (fy 10) (fy 11) (fy 12) fW := hJ
      rw [hG, hN] at hJ
      obtain ⟨i0, ⟨i1, i2, i3⟩, j1, j2, j3, j4⟩ := hJ
      have a9 : fy 9 = none := by cases h : fy 9 with | none => rfl | some u => rw [h] at i1; exact absurd (i1 rfl) (by simp)
      have a10 : fy 10 = none := by cases h : fy 10 with | none => rfl | some u => rw [h, a9] at i2; exact absurd (i2 rfl) (by simp)
      rw [a9] at j1
      have hal : Below fW.heap.size fW (fW.alloc (.cells #[] TR)) := below_al (Below.refl _ _) _
      refine wpOp_to rfl (wanted_none rfl) (v := .slice (some ⟨fW.heap.size, 0, none⟩) 0 0) (W' := fW.alloc (.cells #[] TR)) (by clear fK hE hF hN i0 i1 i2 i3 j1 j2 j3 j4; go_simp) (fK _ _ (by rw [hS_]; exact Chg.of_below hal) (by rw [hT]; exact trivial) ?_)
      show G (some _) (fy 9) (fy 10) (fy 11) (fy 12) _
      rw [hG, a9, a10]
      rw [a10] at i3
      exact ⟨i0, ⟨(fun h => by cases h), (fun h => by cases h), i3⟩, j1.x_, j2.trans (Chg.of_below hal), (fun u e => by cases e), (fun u e => by obtain ⟨g, mg', c', k1, k2, k3⟩ := j4 u e; exact ⟨g, mg', c', k1, k2, k3.below hal⟩)⟩
    refine stepsAll_cons (k := 5) ?_ ?_
    · intro fa fx fW fy hF hN hJ hE K fK
      have hJ : G (fy 4) (fy 9) (fy 10) (fy 11) (fy 12) fW := hJ
      have ev0 : fa.tmps[0]?.getD undef = .pointer (some ⟨mb, 0, none⟩) := hF.eo 0 (by kernel_rfl)
      refine wpOp_val rfl (wanted_none rfl) ?_ (fK (.pointer (some ⟨mb, 0, none⟩)) fW (hR_ fW) (by rw [hT]; exact rfl) (hP_ 5 _ fy fW rfl hJ))
      clear fK hE hF hJ hN
      go_simp
    refine stepsAll_cons (k := 6) ?_ ?_
    · intro fa fx fW fy hF hN hJ hE K fK
      have hJ : G (fy 4) (fy 9) (fy 10) (fy 11) (fy 12) fW := hJ
      have q5 : fx 5 = .pointer (some ⟨mb, 0, none⟩) := by have q := (hE ⟨5, .data⟩ (by simp) rfl).2; rw [hT] at q; exact q
      have ev8 : fa.tmps[8]?.getD undef = .pointer (some ⟨mb, 0, none⟩) := (hF.ev 5 8 (by kernel_rfl)).trans q5
      refine wpOp_val rfl (wanted_none rfl) ?_ (fK (.pointer (some ⟨mb, 0, none⟩)) fW (hR_ fW) (by rw [hT]; exact rfl) (hP_ 6 _ fy fW rfl hJ))
      clear fK hE hF hJ hN
      go_simp
    refine stepsAll_cons (k := 7) ?_ ?_
    · intro fa fx fW fy hF hN hJ hE K fK
      have hJ : G (fy 4) (fy 9) (fy 10) (fy 11) (fy 12) fW := hJ
      have q6 : fx 6 = .pointer (some ⟨mb, 0, none⟩) := by have q := (hE ⟨6, .data⟩ (by simp) rfl).2; rw [hT] at q; exact q
      have ev9 : fa.tmps[9]?.getD undef = .pointer (some ⟨mb, 0, none⟩) := (hF.ev 6 9 (by kernel_rfl)).trans q6
      refine wpOp_val rfl (wanted_none rfl) ?_ (fK (.pointer (some ⟨mb, 1, none⟩)) fW (hR_ fW) (by rw [hT]; exact rfl) (hP_ 7 _ fy fW rfl hJ))
      clear fK hE hF hJ hN
      go_simp
    refine stepsAll_cons (k := 8) ?_ ?_
    · intro fa fx fW fy hF hN hJ hE K fK
      have hJ : G (fy 4) (fy 9) (fy 10) (fy 11) (fy 12) fW := hJ
      have q7 : fx 7 = .pointer (some ⟨mb, 1, none⟩) := by have q := (hE ⟨7, .data⟩ (by simp) rfl).2; rw [hT] at q; exact q
      have ev10 : fa.tmps[10]?.getD undef = .pointer (some ⟨mb, 1, none⟩) := (hF.ev 7 10 (by kernel_rfl)).trans q7
      have hJ1 := hJ
      rw [hG] at hJ1
      have k0 := (hrb.keep hJ1.2.2.2.1 hbS).cell
      clear hJ1
      refine wpOp_val rfl (wanted_none rfl) ?_ (fK (.slice (some ⟨mg, 0, none⟩) n c) fW (hR_ fW) (by rw [hT]; exact rfl) (hP_ 8 _ fy fW rfl hJ))
      clear fK hE hF hJ hN
      go_simp
    refine stepsAll_cons (k := 9) ?_ ?_
    · intro fa fx fW fy hF hN hJ hE K fK
      have hJ : G (fy 4) (fy 9) (fy 10) (fy 11) (fy 12) fW := hJ
      have q4 : (FactS.any : FactS S_).p (fx 4) fW := by have q := (hE ⟨4, .data⟩ (by simp) rfl).2; rw [hT] at q; exact q
      have y4 : fy 4 = some (fx 4) := (hE ⟨4, .data⟩ (by simp) rfl).1
      have q8 : fx 8 = .slice (some ⟨mg, 0, none⟩) n c := by have q := (hE ⟨8, .data⟩ (by simp) rfl).2; rw [hT] at q; exact q
      have ev7 : fa.tmps[7]?.getD undef = fx 4 := hF.ev 4 7 (by kernel_rfl)
      have ev11 : fa.tmps[11]?.getD undef = .slice (some ⟨mg, 0, none⟩) n c := (hF.ev 8 11 (by kernel_rfl)).trans q8
      rw [hG, hN, y4] at hJ
      obtain ⟨i0, ⟨i1, i2, i3⟩, j1, j2, j3, j4⟩ := hJ
      have a10 : fy 10 = none := by cases h : fy 10 with | none => rfl | some u => rw [h] at i2; exact absurd (i2 rfl) (by simp)
      have ho := j1.hx _ rfl rfl
      have hrA := j2.rds hrd hAS
      refine wpOp_list rfl (apn (w0 := fW) B rfl _ _ 53 TR _ 4 32 (by rfl) Tryz.underlying53 info_rowR rfl (by decide) (by decide) (fx 4) 0 [] (some ⟨mg, 0, none⟩) n c (rowsQ rows) (by clear fK hE hF hN i0 i1 i2 i3 j1 j2 j3 j4; go_simp) (by clear fK hE hF hN i0 i1 i2 i3 j1 j2 j3 j4; go_simp) hrA (rowsQ_cell rows) ho (Below.refl _ _) j1.hB HN40.out ?_)
      intro v1 w1 p1 p2 p3 p4
      rw [Nat.zero_add, List.nil_append] at p1
      have hch : Chg S0 fW w1 := Chg.of_grown p3 (fun k e => by rw [hS0]; exact own_base ho k e)
      have hy : fy 11 = none := by cases h : fy 11 with | none => rfl | some u => rw [h, a10] at i3; exact absurd (i3 rfl) (by simp)
      refine fK _ _ (by rw [hS_]; exact hch) (by rw [hT]; exact trivial) ?_
      show G (fy 4) (some v1) (fy 10) (fy 11) (fy 12) w1
      rw [hG, y4, a10, hy]
      rw [hy] at i0
      exact ⟨i0, ⟨(fun _ => rfl), (fun h => by cases h), (fun h => by cases h)⟩, j1.a_ p1 p3 p4, j2.trans hch, (fun u e => by cases e), (fun u e => by cases e)⟩
    refine stepsAll_cons (k := 10) ?_ ?_
    · intro fa fx fW fy hF hN hJ hE K fK
      have hJ : G (fy 4) (fy 9) (fy 10) (fy 11) (fy 12) fW := hJ
      have q3 : fx 3 = .int .i64 now := by have q := (hE ⟨3, .data⟩ (by simp) rfl).2; rw [hT] at q; exact q
      have q9 : (FactS.any : FactS S_).p (fx 9) fW := by have q := (hE ⟨9, .data⟩ (by simp) rfl).2; rw [hT] at q; exact q
      have y9 : fy 9 = some (fx 9) := (hE ⟨9, .data⟩ (by simp) rfl).1
      have ev6 : fa.tmps[6]?.getD undef = .int .i64 now := (hF.ev 3 6 (by kernel_rfl)).trans q3
      have ev12 : fa.tmps[12]?.getD undef = fx 9 := hF.ev 9 12 (by kernel_rfl)
      rw [hG, hN, y9] at hJ
      obtain ⟨i0, ⟨i1, i2, i3⟩, j1, j2, j3, j4⟩ := hJ
      have ho := j1.ha _ rfl rfl
      obtain ⟨g1, c1, hu⟩ := own_atR ho h0
      refine wpOp_val rfl (wanted_none rfl) (v := .agg #[.int .i64 now, .slice (some ⟨g1, 0, none⟩) n c1]) (by clear fK hE hF hN i0 i1 i2 i3 j1 j2 j3 j4; rw [hu] at ev12; go_simp) (fK _ _ (hR_ fW) (by rw [hT]; exact trivial) ?_)
      have hy : fy 11 = none := by cases h : fy 11 with | none => rfl | some u => rw [h] at i3; exact absurd (i3 rfl) (by simp)
      show G (fy 4) (fy 9) (some _) (fy 11) (fy 12) fW
      rw [hG, y9, hy]
      rw [hy] at i0
      exact ⟨i0, ⟨i1, (fun _ => rfl), (fun h => by cases h)⟩, j1, j2, (fun u e => by cases e; exact ⟨_, g1, c1, rfl, hu, rfl⟩), (fun u e => by cases e)⟩
    refine stepsAll_cons (k := 11) ?_ ?_
    · intro fa fx fW fy hF hN hJ hE K fK
      have hJ : G (fy 4) (fy 9) (fy 10) (fy 11) (fy 12) fW := hJ
      have q10 : (FactS.any : FactS S_).p (fx 10) fW := by have q := (hE ⟨10, .data⟩ (by simp) rfl).2; rw [hT] at q; exact q
      have y10 : fy 10 = some (fx 10) := (hE ⟨10, .data⟩ (by simp) rfl).1
      have ev13 : fa.tmps[13]?.getD undef = fx 10 := hF.ev 10 13 (by kernel_rfl)
      rw [hG, hN, y10] at hJ
      obtain ⟨i0, ⟨i1, i2, i3⟩, j1, j2, j3, j4⟩ := hJ
      obtain ⟨t, g1, c1, ht, htu, hu⟩ := j3 _ rfl
      rw [ht] at j1
      have ho := j1.ha _ rfl rfl
      have hal : Below fW.heap.size fW (fW.alloc (.cells #[.int .i64 now, .slice (some ⟨g1, 0, none⟩) n c1] 55)) := below_al (Below.refl _ _) _
      rw [htu] at ho
      have hb2 := own_below ho hal
      have hbk := ho.lt g1 rfl
      have hlo := j1.hB
      have D : Mq (fW.alloc (.cells #[.int .i64 now, .slice (some ⟨g1, 0, none⟩) n c1] 55)) B fW.heap.size g1 n c1 now rows := by
        refine ⟨⟨?_, ?_⟩, ⟨?_, ?_⟩, hb2, by omega, hlo⟩
        all_goals (clear fK hE hF hN i0 i1 i2 i3 j1 j2 j3 j4 ho hb2; go_simp)
      refine wpOp_to rfl (wanted_none rfl) (v := .pointer (some ⟨fW.heap.size, 0, none⟩)) (W' := fW.alloc (.cells #[.int .i64 now, .slice (some ⟨g1, 0, none⟩) n c1] 55)) (by clear fK hE hF hN i0 i1 i2 i3 j1 j2 j3 j4 D; rw [hu] at ev13; go_simp) (fK _ _ (by rw [hS_]; exact Chg.of_below hal) (by rw [hT]; exact trivial) ?_)
      show G (fy 4) (fy 9) (fy 10) (some _) (fy 12) _
      rw [hG, ht, y10]
      rw [ht] at i1
      exact ⟨(fun u e => by have := i0 u e; cases this), ⟨i1, (fun _ => rfl), (fun _ => rfl)⟩, j1.below hal, j2.trans (Chg.of_below hal), (fun u e => by cases e; exact ⟨t, g1, c1, rfl, htu, hu⟩), (fun u e => by cases e; exact ⟨_, g1, c1, rfl, hbk.1, D⟩)⟩
    refine stepsAll_cons (k := 12) ?_ ?_
    · intro fa fx fW fy hF hN hJ hE K fK
      have hJ : G (fy 4) (fy 9) (fy 10) (fy 11) (fy 12) fW := hJ
      have q11 : (FactS.any : FactS S_).p (fx 11) fW := by have q := (hE ⟨11, .data⟩ (by simp) rfl).2; rw [hT] at q; exact q
      have y11 : fy 11 = some (fx 11) := (hE ⟨11, .data⟩ (by simp) rfl).1
      have ev14 : fa.tmps[14]?.getD undef = fx 11 := hF.ev 11 14 (by kernel_rfl)
      rw [hG, hN, y11] at hJ
      obtain ⟨i0, j⟩ := hJ
      refine wpOp_val rfl (wanted_none rfl) (v := fx 11) (by clear fK hE hF hN i0 j; go_simp) (fK _ _ (hR_ fW) (by rw [hT]; exact trivial) ?_)
      show G (fy 4) (fy 9) (fy 10) (fy 11) (some _) fW
      rw [hG, y11]
      exact ⟨(fun u e => e), j⟩
    exact stepsAll_nil
  intro fa fx fW fy hF hJ0 hx
  have y4 : fy 4 = some (fx 4) := (hx 4 (by decide)).1
  have y9 : fy 9 = some (fx 9) := (hx 9 (by decide)).1
  have y10 : fy 10 = some (fx 10) := (hx 10 (by decide)).1
  have y11 : fy 11 = some (fx 11) := (hx 11 (by decide)).1
  have y12 : fy 12 = some (fx 12) := (hx 12 (by decide)).1
  have hJ : G (fy 4) (fy 9) (fy 10) (fy 11) (fy 12) fW := hJ0
  clear hJ0
  rw [y4, y9, y10, y11, y12] at hJ
  rw [hF.eq]
  clear hF hx hT T hP_ hR_ y4 y9 y10 y11 y12
  simp only [putAll, Act.put, List.setIfInBounds_toArray, List.set_cons_zero, List.set_cons_succ, ]
  rw [hG] at hJ
  obtain ⟨i0, _, _, j2, _, j4⟩ := hJ
  obtain ⟨g, mg', c', k1, k2, k3⟩ := j4 _ rfl
  have e19 := i0 _ rfl
  rw [k1] at e19
  have e20 : fx 12 = .pointer (some ⟨g, 0, none⟩) := (Option.some.inj e19).symm
  have hbb : Below w.heap.size w fW := by rw [← hB]; rw [hS0] at j2; exact j2.toBelow (Below.refl _ _) (by omega) (fun k e => e)
  rw [hB] at k2 k3
  rw [e20]
  clear i0 j2 j4 k1 e19
  have HK3 := Lib.hid k3
  clear k3
  go_wp2
  go_ret
  exact ⟨g, mg', c', rfl, HK3, Lib.hid k2, Lib.hid hbb⟩
end Go.Proofs.YtabdipfpfbdghaaGreat
