/- The reference's device: Start, a request more. -/
import Derived.Test.YtdfncmhbbhmgfaaRefDev
import Derived.Test.YtdfncmhbbhmgfaaChain
import Derived.Test.YtdfncmhbbhmgfaaDevFin
import Derived.Test.YtdfncmhbbhmgfaaDevClone
namespace Go.Proofs.Ytdfncmhbbhmgfaa
open Go.RowKit
set_option maxRecDepth 100000 in
set_option maxHeartbeats 4000000 in
theorem rstart_ok (b base : Nat) (room : Int) (l : List Rq) (last done : Int) (v : Value) (r : Rq) (w : World) (h : RDev w b base room l last done v) (hbase : base ≤ w.heap.size) (hg : goodR r = true) (hf : (l.length : Int) < room) (hrm : room ≤ 4096) (hl0 : 0 ≤ last) (hl1 : last ≤ 1000000) :
    Calls Try.prog 26 #[.pointer (some ⟨b, 0, none⟩), rqV r] w fun e w' => e = .returned (.tuple #[.int .i64 (last + 1), .int .i64 0]) ∧ Chg (fun k => k = b) w w' ∧
      ∃ v', RDev w' b base room (l ++ [{ r with id := last + 1 }]) (last + 1) done v' ∧ (∀ k, v'.ownBlock = some k → w.heap.size ≤ k) := by
  obtain ⟨h1, h2, h3, h4, h5, h6⟩ := good_nums hg
  obtain ⟨A, n, c, rfl, hn, hrd⟩ := own_open h.own
  have hnf : (n : Int) < room := by rw [hn.out]; omega
  obtain ⟨r1, r2, r3, r4, r5⟩ := r
  simp only at h1 h2 h3 h4 h5 h6
  have hb : Below w.heap.size w (w.alloc (.cells #[.int .i64 r1, .int .i64 r2, .int .i64 r3, .int .i64 r4, .int .i64 r5] 63)) := below_al (Below.refl _ _) _
  have hx0 := (h.room_.below hb).cell
  have hx1 := (h.row.below hb).cell
  have hx2b := (h.last_.below hb)
  have hx2 := hx2b.cell
  have hx2f := hx2b.free
  have hbl := h.room_.lt
  clear hg hf
  unfold rqV
  simp only
  go_enter Try.func26, Try.ntmps26
  go_wp2
  go_quiet (fail)
  have hneb : b ≠ w.heap.size := by omega
  go_wp2
  have hB1 := below_dr hb nq
  have d0 := h.room_.below hB1
  have d1 := h.row.below hB1
  have d2 := h.last_.below hB1
  have d3 := h.done_.below hB1
  obtain ⟨W4, hW4⟩ : ∃ W4, W4 = ((w.alloc (.cells #[.int .i64 r1, .int .i64 r2, .int .i64 r3, .int .i64 r4, .int .i64 r5] (63 : Nat))).drewN nq).setCell ⟨b, 2, none⟩ (.int .i64 (last + 1)) := ⟨_, rfl⟩
  have f0 : Box W4 b 0 (.int .i64 room) := by have := d0.cell; have := d0.free; rw [hW4]; constructor <;> go_simp
  have f1 : Box W4 b 1 (.slice A n c) := by have := d1.cell; have := d1.free; rw [hW4]; constructor <;> go_simp
  have f2 : Box W4 b 2 (.int .i64 (last + 1)) := by have := d2.cell; have := d2.free; rw [hW4]; constructor <;> go_simp
  have f3 : Box W4 b 3 (.int .i64 done) := by have := d3.cell; have := d3.free; rw [hW4]; constructor <;> go_simp
  have hC4 : Chg (fun k => k = b) w W4 := by rw [hW4]; exact (Chg.of_below hB1).setCell b 2 _ rfl
  have hs4 : W4.heap.size = w.heap.size + 1 := by rw [hW4]; simp
  obtain ⟨W5, hW5⟩ : ∃ W5, W5 = W4.alloc (.cells #[.int .i64 (last + 1), .int .i64 r2, .int .i64 r3, .int .i64 r4, .int .i64 r5] (63 : Nat)) := ⟨_, rfl⟩
  rw [← hW4, ← hW5]
  have hb5 : Below W4.heap.size W4 W5 := by rw [hW5]; exact below_al (Below.refl _ _) _
  have g5 : Box5 W5 (w.heap.size + 1) ⟨last + 1, r2, r3, r4, r5⟩ := by rw [hW5, ← hs4]; exact Box5.new _ ⟨last + 1, r2, r3, r4, r5⟩ _
  have hs5 : w.heap.size + 1 < W5.heap.size := by rw [hW5]; simp [hs4]
  clear hW4 hW5
  replace f0 := f0.below hb5
  replace f1 := f1.below hb5
  replace f2 := f2.below hb5
  replace f3 := f3.below hb5
  have hC5 := hC4.trans (Chg.of_below hb5)
  have hob : ∀ k, (Value.slice A n c).ownBlock = some k → ¬ k = b := fun k e e2 => h.apart (by rw [e, e2])
  have ho5 := hC5.own h.own hob
  obtain ⟨_, hr5⟩ := own_rds' ho5
  rw [← hn.out] at hr5
  have hAb : ∀ ad, A = some ad → ad.block ≠ b ∧ ad.block < W5.heap.size := fun ad e => by
    subst e
    have hk : (Value.slice (some ad) n c).ownBlock = some ad.block := rfl
    exact ⟨hob _ hk, (ho5.lt _ hk).2⟩
  have HLen := Lib.hid hn.out
  have HN40 : Hid ((0 + n) * 40 ≤ 140737488355328 ∧ (n + 1) * 40 ≤ 140737488355328) := ⟨by omega, by omega⟩
  clear hn d0 d1 d2 d3 hC4 hb5 hx0 hx1 hx2 hx2f hx2b hb h hrd ho5 hob hB1
  obtain ⟨rb, hrb⟩ : ∃ x, x = w.heap.size + 1 := ⟨_, rfl⟩
  rw [← hrb] at g5 hs5
  rw [show Value.pointer (some ⟨w.heap.size + 1, 0, none⟩) = Value.pointer (some ⟨rb, 0, none⟩) by rw [hrb]]
  have hrbb : rb ≠ b := by omega
  have hbb5 : b < W5.heap.size := by omega
  have hw5 : w.heap.size ≤ W5.heap.size := by omega
  clear hrb
  obtain ⟨B, hB⟩ : ∃ B, B = W5.heap.size := ⟨_, rfl⟩
  rw [← hB] at hs5 hAb hbb5 hw5
  obtain ⟨S0, hS0⟩ : ∃ S0 : Nat → Prop, S0 = fun k => k = b ∨ B ≤ k := ⟨_, rfl⟩
  have hSr : ¬ S0 rb := by rw [hS0]; rintro (e | e) <;> omega
  have hSA : ∀ ad, A = some ad → ¬ S0 ad.block := fun ad e => by rw [hS0]; have := hAb ad e; rintro (e | e) <;> omega
  obtain ⟨G, hG⟩ : ∃ G : Option Value → Option Value → Option Value → Option Value → Option Value → Option Value → World → Prop, ∀ q x a l' d z W, G q x a l' d z W = (((a.isSome = true → x.isSome = true ∧ q.isSome = true) ∧ (d.isSome = true → a.isSome = true ∧ l'.isSome = true) ∧ (z.isSome = true → d.isSome = true)) ∧ Ch2 63 5 B n 1 (rqs l) (rqC ⟨last + 1, r2, r3, r4, r5⟩) x a l' d W ∧ Chg S0 W5 W ∧ Box W b 0 (.int .i64 room) ∧ Box W b 2 (.int .i64 (last + 1)) ∧ Box W b 3 (.int .i64 done) ∧ (z = none → Box W b 1 (.slice A n c)) ∧ (z.isSome = true → ∀ u, d = some u → Box W b 1 u)) := ⟨_, fun _ _ _ _ _ _ _ => rfl⟩
  obtain ⟨S_, hS_⟩ : ∃ S_ : World → World → Prop, S_ = (Chg S0) := ⟨_, rfl⟩
  have hR_ : ∀ W, S_ W W := by intro W; rw [hS_]; exact Chg.refl _ _
  obtain ⟨T, hT⟩ : ∃ T : Nat → FactS S_, ∀ t_, T t_ = ([FactS.eq (.pointer (some ⟨b, 0, none⟩)), FactS.any, FactS.eq (.pointer (some ⟨b, 0, none⟩)), FactS.eq (.pointer (some ⟨b, 0, none⟩)), FactS.eq (.pointer (some ⟨b, 1, none⟩)), FactS.eq (.slice A n c), FactS.any, FactS.eq (.agg #[.int .i64 (last + 1), .int .i64 r2, .int .i64 r3, .int .i64 r4, .int .i64 r5]), FactS.any, FactS.any, FactS.eq (.pointer (some ⟨b, 0, none⟩)), FactS.eq (.pointer (some ⟨b, 1, none⟩)), FactS.eq (undef)] : List (FactS S_)).getD t_ FactS.any := ⟨_, fun _ => rfl⟩
  have hP_ : ∀ i_ v_ (y_ : Nat → Option Value) W_, ([5, 1, 6, 8, 9, 12].contains i_) = false → G (y_ 5) (y_ 1) (y_ 6) (y_ 8) (y_ 9) (y_ 12) W_ → G (updY y_ i_ v_ 5) (updY y_ i_ v_ 1) (updY y_ i_ v_ 6) (updY y_ i_ v_ 8) (updY y_ i_ v_ 9) (updY y_ i_ v_ 12) W_ := by
    intro i_ v_ y_ W_ hi_ h_
    simp only [List.contains_cons, List.contains_nil, Bool.or_false, Bool.or_eq_false_iff, beq_eq_false_iff_ne, ne_eq] at hi_
    obtain ⟨i5_, i1_, i6_, i8_, i9_, i12_⟩ := hi_
    rw [updY_ne y_ i_ v_ i5_, updY_ne y_ i_ v_ i1_, updY_ne y_ i_ v_ i6_, updY_ne y_ i_ v_ i8_, updY_ne y_ i_ v_ i9_, updY_ne y_ i_ v_ i12_]
    exact h_
  refine region_tabJ [(0, 58), (1, 59), (2, 60), (3, 61), (4, 62), (5, 63), (6, 64), (7, 65), (8, 66), (9, 67), (10, 68), (11, 69)] S_ T (fun y_ W_ => G (y_ 5) (y_ 1) (y_ 6) (y_ 8) (y_ 9) (y_ 12) W_) (by kernel_rfl) (by kernel_rfl) (by kernel_rfl) (by kernel_rfl) (by kernel_rfl) ?_ ?_ ?_
  · skip
    show G none none none none none none _
    rw [hG]
    exact ⟨⟨(fun h => by cases h), (fun h => by cases h), (fun h => by cases h)⟩, Ch2.none_ (by rw [hB]; simp), (Chg.refl _ _).drewN 1, f0.drew 1, f2.drew 1, f3.drew 1, fun _ => f1.drew 1, fun h => by cases h⟩
  · skip
    refine stepsAll_cons (k := 0) ?_ ?_
    · intro fa fx fW fy hF hN hJ hE K fK
      have hJ : G (fy 5) (fy 1) (fy 6) (fy 8) (fy 9) (fy 12) fW := hJ
      have ev0 : fa.tmps[0]?.getD undef = .pointer (some ⟨b, 0, none⟩) := hF.eo 0 (by kernel_rfl)
      refine wpOp_val rfl (wanted_none rfl) ?_ (fK (.pointer (some ⟨b, 0, none⟩)) fW (hR_ fW) (by rw [hT]; exact rfl) (hP_ 0 _ fy fW rfl hJ))
      clear fK hE hF hJ hN
      go_simp
    refine stepsAll_cons (k := 1) ?_ ?_
    · intro fa fx fW fy hF hN hJ hE K fK
      have hJ : G (fy 5) (fy 1) (fy 6) (fy 8) (fy 9) (fy 12) fW := hJ
      rw [hG, hN] at hJ
      obtain ⟨⟨i1, i2, i3⟩, j1, j2, j3, j4, j5, j6, j7⟩ := hJ
      have a6 : fy 6 = none := by cases h : fy 6 with | none => rfl | some u => rw [h] at i1; exact absurd (i1 rfl).1 (by simp)
      have a9 : fy 9 = none := by cases h : fy 9 with | none => rfl | some u => rw [h, a6] at i2; exact absurd (i2 rfl).1 (by simp)
      rw [a6, a9] at j1
      have hal : Below fW.heap.size fW (fW.alloc (.cells #[] 63)) := below_al (Below.refl _ _) _
      refine wpOp_to rfl (wanted_none rfl) (v := .slice (some ⟨fW.heap.size, 0, none⟩) 0 0) (W' := fW.alloc (.cells #[] 63)) (by clear fK hE hF hN i1 i2 i3 j1 j2 j3 j4 j5 j6 j7; go_simp) (fK _ _ (by rw [hS_]; exact Chg.of_below hal) (by rw [hT]; exact trivial) ?_)
      show G (fy 5) (some _) (fy 6) (fy 8) (fy 9) (fy 12) _
      rw [hG, a6, a9]
      rw [a9] at i3
      exact ⟨⟨(fun h => by cases h), (fun h => by cases h), i3⟩, j1.x_, j2.trans (Chg.of_below hal), j3.below hal, j4.below hal, j5.below hal, fun e => (j6 e).below hal, fun e u e2 => by cases e2⟩
    refine stepsAll_cons (k := 2) ?_ ?_
    · intro fa fx fW fy hF hN hJ hE K fK
      have hJ : G (fy 5) (fy 1) (fy 6) (fy 8) (fy 9) (fy 12) fW := hJ
      have ev0 : fa.tmps[0]?.getD undef = .pointer (some ⟨b, 0, none⟩) := hF.eo 0 (by kernel_rfl)
      refine wpOp_val rfl (wanted_none rfl) ?_ (fK (.pointer (some ⟨b, 0, none⟩)) fW (hR_ fW) (by rw [hT]; exact rfl) (hP_ 2 _ fy fW rfl hJ))
      clear fK hE hF hJ hN
      go_simp
    refine stepsAll_cons (k := 3) ?_ ?_
    · intro fa fx fW fy hF hN hJ hE K fK
      have hJ : G (fy 5) (fy 1) (fy 6) (fy 8) (fy 9) (fy 12) fW := hJ
      have q2 : fx 2 = .pointer (some ⟨b, 0, none⟩) := by have q := (hE ⟨2, .data⟩ (by simp) rfl).2; rw [hT] at q; exact q
      have ev60 : fa.tmps[60]?.getD undef = .pointer (some ⟨b, 0, none⟩) := (hF.ev 2 60 (by kernel_rfl)).trans q2
      refine wpOp_val rfl (wanted_none rfl) ?_ (fK (.pointer (some ⟨b, 0, none⟩)) fW (hR_ fW) (by rw [hT]; exact rfl) (hP_ 3 _ fy fW rfl hJ))
      clear fK hE hF hJ hN
      go_simp
    refine stepsAll_cons (k := 4) ?_ ?_
    · intro fa fx fW fy hF hN hJ hE K fK
      have hJ : G (fy 5) (fy 1) (fy 6) (fy 8) (fy 9) (fy 12) fW := hJ
      have q3 : fx 3 = .pointer (some ⟨b, 0, none⟩) := by have q := (hE ⟨3, .data⟩ (by simp) rfl).2; rw [hT] at q; exact q
      have ev61 : fa.tmps[61]?.getD undef = .pointer (some ⟨b, 0, none⟩) := (hF.ev 3 61 (by kernel_rfl)).trans q3
      refine wpOp_val rfl (wanted_none rfl) ?_ (fK (.pointer (some ⟨b, 1, none⟩)) fW (hR_ fW) (by rw [hT]; exact rfl) (hP_ 4 _ fy fW rfl hJ))
      clear fK hE hF hJ hN
      go_simp
    refine stepsAll_cons (k := 5) ?_ ?_
    · intro fa fx fW fy hF hN hJ hE K fK
      have hJ : G (fy 5) (fy 1) (fy 6) (fy 8) (fy 9) (fy 12) fW := hJ
      have q4 : fx 4 = .pointer (some ⟨b, 1, none⟩) := by have q := (hE ⟨4, .data⟩ (by simp) rfl).2; rw [hT] at q; exact q
      have ev62 : fa.tmps[62]?.getD undef = .pointer (some ⟨b, 1, none⟩) := (hF.ev 4 62 (by kernel_rfl)).trans q4
      rw [hG, hN] at hJ
      obtain ⟨⟨i1, i2, i3⟩, j1, j2, j3, j4, j5, j6, j7⟩ := hJ
      have a6 : fy 6 = none := by cases h : fy 6 with | none => rfl | some u => rw [h] at i1; exact absurd (i1 rfl).2 (by simp)
      have a9 : fy 9 = none := by cases h : fy 9 with | none => rfl | some u => rw [h, a6] at i2; exact absurd (i2 rfl).1 (by simp)
      have a12 : fy 12 = none := by cases h : fy 12 with | none => rfl | some u => rw [h, a9] at i3; exact absurd (i3 rfl) (by simp)
      have k1 := (j6 a12).cell
      refine wpOp_val rfl (wanted_none rfl) (v := .slice A n c) (by clear fK hE hF hN i1 i2 i3 j1 j2 j3 j4 j5 j6 j7; go_simp) (fK _ _ (hR_ fW) (by rw [hT]; exact rfl) ?_)
      show G (some _) (fy 1) (fy 6) (fy 8) (fy 9) (fy 12) _
      rw [hG]
      exact ⟨⟨(fun h => ⟨(i1 h).1, rfl⟩), i2, i3⟩, j1, j2, j3, j4, j5, j6, j7⟩
    refine stepsAll_cons (k := 6) ?_ ?_
    · intro fa fx fW fy hF hN hJ hE K fK
      have hJ : G (fy 5) (fy 1) (fy 6) (fy 8) (fy 9) (fy 12) fW := hJ
      have q1 : (FactS.any : FactS S_).p (fx 1) fW := by have q := (hE ⟨1, .data⟩ (by simp) rfl).2; rw [hT] at q; exact q
      have y1 : fy 1 = some (fx 1) := (hE ⟨1, .data⟩ (by simp) rfl).1
      have q5 : fx 5 = .slice A n c := by have q := (hE ⟨5, .data⟩ (by simp) rfl).2; rw [hT] at q; exact q
      have y5 : fy 5 = some (fx 5) := (hE ⟨5, .data⟩ (by simp) rfl).1
      have ev59 : fa.tmps[59]?.getD undef = fx 1 := hF.ev 1 59 (by kernel_rfl)
      have ev63 : fa.tmps[63]?.getD undef = .slice A n c := (hF.ev 5 63 (by kernel_rfl)).trans q5
      rw [hG, hN, y1] at hJ
      obtain ⟨⟨i1, i2, i3⟩, j1, j2, j3, j4, j5, j6, j7⟩ := hJ
      have a9 : fy 9 = none := by cases h : fy 9 with | none => rfl | some u => rw [h] at i2; exact absurd (i2 rfl).1 (by simp)
      rw [a9] at j1
      have ho := j1.hx _ rfl rfl
      have hrA := j2.rds hr5 hSA
      refine wpOp_list rfl (apn (w0 := fW) B rfl _ _ 46 63 _ 5 40 (by rfl) Try.underlying46 info_rq2 rfl (by decide) (by decide) (fx 1) 0 [] A n c (rqs l) (by clear fK hE hF hN i1 i2 i3 j1 j2 j3 j4 j5 j6 j7; go_simp) (by clear fK hE hF hN i1 i2 i3 j1 j2 j3 j4 j5 j6 j7; go_simp) hrA (rqs_one_cell l) ho (Below.refl _ _) j1.hB HN40.out.1 ?_)
      intro v1 w1 p1 p2 p3 p4
      rw [Nat.zero_add, List.nil_append] at p1
      have hch : Chg S0 fW w1 := Chg.of_grown p3 (fun k e => by rw [hS0]; exact .inr (own_base ho k e))
      have hch2 : Chg (fun k => B ≤ k) fW w1 := Chg.of_grown p3 (fun k e => own_base ho k e)
      refine fK _ _ (by rw [hS_]; exact hch) (by rw [hT]; exact trivial) ?_
      show G (fy 5) (fy 1) (some v1) (fy 8) (fy 9) (fy 12) w1
      rw [hG, a9, y1]
      rw [a9] at i3
      have k1 := j1.a_ p1 p3 p4
      exact ⟨⟨(fun _ => ⟨rfl, by rw [y5]; rfl⟩), (fun h => by cases h), i3⟩, k1, j2.trans hch, j3.keep hch2 (by omega), j4.keep hch2 (by omega), j5.keep hch2 (by omega), fun e => (j6 e).keep hch2 (by omega), fun e u e2 => by cases e2⟩
    refine stepsAll_cons (k := 7) ?_ ?_
    · intro fa fx fW fy hF hN hJ hE K fK
      have hJ : G (fy 5) (fy 1) (fy 6) (fy 8) (fy 9) (fy 12) fW := hJ
      have ev6 : fa.tmps[6]?.getD undef = .pointer (some ⟨rb, 0, none⟩) := hF.eo 6 (by kernel_rfl)
      have hJ1 := hJ
      rw [hG] at hJ1
      have x5 := g5.keep hJ1.2.2.1 hSr
      have k0 := x5.c0.cell
      have k1 := x5.c1.cell
      have k2 := x5.c2.cell
      have k3 := x5.c3.cell
      have k4 := x5.c4.cell
      refine wpOp_val rfl (wanted_none rfl) ?_ (fK (.agg #[.int .i64 (last + 1), .int .i64 r2, .int .i64 r3, .int .i64 r4, .int .i64 r5]) fW (hR_ fW) (by rw [hT]; exact rfl) (hP_ 7 _ fy fW rfl hJ))
      clear fK hE hF hJ hN
      go_simp
    refine stepsAll_cons (k := 8) ?_ ?_
    · intro fa fx fW fy hF hN hJ hE K fK
      have hJ : G (fy 5) (fy 1) (fy 6) (fy 8) (fy 9) (fy 12) fW := hJ
      have q7 : fx 7 = .agg #[.int .i64 (last + 1), .int .i64 r2, .int .i64 r3, .int .i64 r4, .int .i64 r5] := by have q := (hE ⟨7, .data⟩ (by simp) rfl).2; rw [hT] at q; exact q
      have ev65 : fa.tmps[65]?.getD undef = .agg #[.int .i64 (last + 1), .int .i64 r2, .int .i64 r3, .int .i64 r4, .int .i64 r5] := (hF.ev 7 65 (by kernel_rfl)).trans q7
      rw [hG, hN] at hJ
      obtain ⟨⟨i1, i2, i3⟩, j1, j2, j3, j4, j5, j6, j7⟩ := hJ
      have a9 : fy 9 = none := by cases h : fy 9 with | none => rfl | some u => rw [h] at i2; exact absurd (i2 rfl).2 (by simp)
      rw [a9] at j1
      have hal : Below fW.heap.size fW (fW.alloc (.cells #[.int .i64 (last + 1), .int .i64 r2, .int .i64 r3, .int .i64 r4, .int .i64 r5] 63)) := below_al (Below.refl _ _) _
      refine wpOp_to rfl (wanted_none rfl) (v := .slice (some ⟨fW.heap.size, 0, none⟩) 1 1) (W' := fW.alloc (.cells #[.int .i64 (last + 1), .int .i64 r2, .int .i64 r3, .int .i64 r4, .int .i64 r5] 63)) (by clear fK hE hF hN i1 i2 i3 j1 j2 j3 j4 j5 j6 j7; go_simp) (fK _ _ (by rw [hS_]; exact Chg.of_below hal) (by rw [hT]; exact trivial) ?_)
      show G (fy 5) (fy 1) (fy 6) (some _) (fy 9) (fy 12) _
      rw [hG, a9]
      rw [a9] at i3
      exact ⟨⟨i1, (fun h => by cases h), i3⟩, j1.l_ rfl, j2.trans (Chg.of_below hal), j3.below hal, j4.below hal, j5.below hal, fun e => (j6 e).below hal, fun e u e2 => by cases e2⟩
    refine stepsAll_cons (k := 9) ?_ ?_
    · intro fa fx fW fy hF hN hJ hE K fK
      have hJ : G (fy 5) (fy 1) (fy 6) (fy 8) (fy 9) (fy 12) fW := hJ
      have q6 : (FactS.any : FactS S_).p (fx 6) fW := by have q := (hE ⟨6, .data⟩ (by simp) rfl).2; rw [hT] at q; exact q
      have y6 : fy 6 = some (fx 6) := (hE ⟨6, .data⟩ (by simp) rfl).1
      have q8 : (FactS.any : FactS S_).p (fx 8) fW := by have q := (hE ⟨8, .data⟩ (by simp) rfl).2; rw [hT] at q; exact q
      have y8 : fy 8 = some (fx 8) := (hE ⟨8, .data⟩ (by simp) rfl).1
      have ev64 : fa.tmps[64]?.getD undef = fx 6 := hF.ev 6 64 (by kernel_rfl)
      have ev66 : fa.tmps[66]?.getD undef = fx 8 := hF.ev 8 66 (by kernel_rfl)
      rw [hG, hN, y6, y8] at hJ
      obtain ⟨⟨i1, i2, i3⟩, j1, j2, j3, j4, j5, j6, j7⟩ := hJ
      have ho := j1.ha _ rfl rfl
      obtain ⟨g, hg1, hg2, hg3, _, hg5⟩ := j1.hl _ rfl rfl
      refine wpOp_list rfl (apn (w0 := fW) B rfl _ _ 46 63 _ 5 40 (by rfl) Try.underlying46 info_rq2 rfl (by decide) (by decide) (fx 6) n (rqs l) (some ⟨g, 0, none⟩) 1 1 (rqC ⟨last + 1, r2, r3, r4, r5⟩) (by clear fK hE hF hN i1 i2 i3 j1 j2 j3 j4 j5 j6 j7; go_simp) (by clear fK hE hF hN i1 i2 i3 j1 j2 j3 j4 j5 j6 j7; rw [hg1] at ev66; go_simp) hg3 (by intro u hu; simp [rqC] at hu; rcases hu with rfl | rfl | rfl | rfl | rfl <;> rfl) ho (Below.refl _ _) j1.hB HN40.out.2 ?_)
      intro v1 w1 p1 p2 p3 p4
      have hch : Chg S0 fW w1 := Chg.of_grown p3 (fun k e => by rw [hS0]; exact .inr (own_base ho k e))
      have hch2 : Chg (fun k => B ≤ k) fW w1 := Chg.of_grown p3 (fun k e => own_base ho k e)
      refine fK _ _ (by rw [hS_]; exact hch) (by rw [hT]; exact trivial) ?_
      show G (fy 5) (fy 1) (fy 6) (fy 8) (some v1) (fy 12) w1
      rw [hG, y6, y8]
      have a12 : fy 12 = none := by cases h : fy 12 with | none => rfl | some u => rw [h] at i3; exact absurd (i3 rfl) (by simp)
      exact ⟨⟨(fun _ => i1 rfl), (fun _ => ⟨rfl, rfl⟩), (fun _ => rfl)⟩, j1.d_ hch.size p1, j2.trans hch, j3.keep hch2 (by omega), j4.keep hch2 (by omega), j5.keep hch2 (by omega), fun e => (j6 e).keep hch2 (by omega), fun e => by rw [a12] at e; cases e⟩
    refine stepsAll_cons (k := 10) ?_ ?_
    · intro fa fx fW fy hF hN hJ hE K fK
      have hJ : G (fy 5) (fy 1) (fy 6) (fy 8) (fy 9) (fy 12) fW := hJ
      have q0 : fx 0 = .pointer (some ⟨b, 0, none⟩) := by have q := (hE ⟨0, .data⟩ (by simp) rfl).2; rw [hT] at q; exact q
      have ev58 : fa.tmps[58]?.getD undef = .pointer (some ⟨b, 0, none⟩) := (hF.ev 0 58 (by kernel_rfl)).trans q0
      refine wpOp_val rfl (wanted_none rfl) ?_ (fK (.pointer (some ⟨b, 0, none⟩)) fW (hR_ fW) (by rw [hT]; exact rfl) (hP_ 10 _ fy fW rfl hJ))
      clear fK hE hF hJ hN
      go_simp
    refine stepsAll_cons (k := 11) ?_ ?_
    · intro fa fx fW fy hF hN hJ hE K fK
      have hJ : G (fy 5) (fy 1) (fy 6) (fy 8) (fy 9) (fy 12) fW := hJ
      have q10 : fx 10 = .pointer (some ⟨b, 0, none⟩) := by have q := (hE ⟨10, .data⟩ (by simp) rfl).2; rw [hT] at q; exact q
      have ev68 : fa.tmps[68]?.getD undef = .pointer (some ⟨b, 0, none⟩) := (hF.ev 10 68 (by kernel_rfl)).trans q10
      refine wpOp_val rfl (wanted_none rfl) ?_ (fK (.pointer (some ⟨b, 1, none⟩)) fW (hR_ fW) (by rw [hT]; exact rfl) (hP_ 11 _ fy fW rfl hJ))
      clear fK hE hF hJ hN
      go_simp
    refine stepsAll_cons (k := 12) ?_ ?_
    · intro fa fx fW fy hF hN hJ hE K fK
      have hJ : G (fy 5) (fy 1) (fy 6) (fy 8) (fy 9) (fy 12) fW := hJ
      have q9 : (FactS.any : FactS S_).p (fx 9) fW := by have q := (hE ⟨9, .data⟩ (by simp) rfl).2; rw [hT] at q; exact q
      have y9 : fy 9 = some (fx 9) := (hE ⟨9, .data⟩ (by simp) rfl).1
      have q11 : fx 11 = .pointer (some ⟨b, 1, none⟩) := by have q := (hE ⟨11, .data⟩ (by simp) rfl).2; rw [hT] at q; exact q
      have ev67 : fa.tmps[67]?.getD undef = fx 9 := hF.ev 9 67 (by kernel_rfl)
      have ev69 : fa.tmps[69]?.getD undef = .pointer (some ⟨b, 1, none⟩) := (hF.ev 11 69 (by kernel_rfl)).trans q11
      rw [hG, hN, y9] at hJ
      obtain ⟨⟨i1, i2, i3⟩, j1, j2, j3, j4, j5, j6, j7⟩ := hJ
      have hx := j6 rfl
      have hxc := hx.cell
      have hxf := hx.free
      have ho := j1.hd _ rfl
      obtain ⟨UA, uc, hu⟩ := own_slice ho
      have hch : Chg S0 fW (fW.setCell ⟨b, 1, none⟩ (fx 9)) := (Chg.refl _ _).setCell b 1 _ (by rw [hS0]; exact .inl rfl)
      have hch2 : Chg (fun k => k = b) fW (fW.setCell ⟨b, 1, none⟩ (fx 9)) := (Chg.refl _ _).setCell b 1 _ rfl
      have z0 : Box (fW.setCell ⟨b, 1, none⟩ (fx 9)) b 0 (.int .i64 room) := by have := j3.cell; have := j3.free; clear fK hE hF; constructor <;> go_simp
      have z2 : Box (fW.setCell ⟨b, 1, none⟩ (fx 9)) b 2 (.int .i64 (last + 1)) := by have := j4.cell; have := j4.free; clear fK hE hF; constructor <;> go_simp
      have z3 : Box (fW.setCell ⟨b, 1, none⟩ (fx 9)) b 3 (.int .i64 done) := by have := j5.cell; have := j5.free; clear fK hE hF; constructor <;> go_simp
      have i2' := i2 rfl
      obtain ⟨va, hva⟩ := Option.isSome_iff_exists.1 i2'.1
      rw [hva] at j1
      have jk := j1.keep hch2 (fun k e => by omega)
      refine wpOp_done rfl (wanted_none rfl) (W' := fW.setCell ⟨b, 1, none⟩ (fx 9)) (by clear fK hE hF hN z0 z2 z3 i1 i2 i3 i2' j1 j2 j3 j4 j5 j6 j7 jk; rw [hu] at ev67 ⊢; go_simp) (fK undef _ (by rw [hS_]; exact hch) (by rw [hT]; exact rfl) ?_)
      show G (fy 5) (fy 1) (fy 6) (fy 8) (fy 9) (some undef) _
      rw [hG, y9]
      rw [hva] at i1 ⊢
      exact ⟨⟨i1, (fun _ => ⟨rfl, i2'.2⟩), (fun _ => rfl)⟩, jk, j2.trans hch, z0, z2, z3, (fun e => by cases e), fun _ u e => by cases e; exact hx.set _⟩
    exact stepsAll_nil
  intro fa fx fW fy hF hJ0 hx
  have y5 : fy 5 = some (fx 5) := (hx 5 (by decide)).1
  have y1 : fy 1 = some (fx 1) := (hx 1 (by decide)).1
  have y6 : fy 6 = some (fx 6) := (hx 6 (by decide)).1
  have y8 : fy 8 = some (fx 8) := (hx 8 (by decide)).1
  have y9 : fy 9 = some (fx 9) := (hx 9 (by decide)).1
  have y12 : fy 12 = some (fx 12) := (hx 12 (by decide)).1
  have hJ : G (fy 5) (fy 1) (fy 6) (fy 8) (fy 9) (fy 12) fW := hJ0
  clear hJ0
  rw [y5, y1, y6, y8, y9, y12] at hJ
  rw [hF.eq]
  clear hF hx hT T hP_ hR_ y5 y1 y6 y8 y9 y12
  simp only [putAll, Act.put, List.setIfInBounds_toArray, List.set_cons_zero, List.set_cons_succ, ]
  rw [hG] at hJ
  obtain ⟨_, j1, j2, j3, j4, j5, j6, j7⟩ := hJ
  have k1 := j7 rfl _ rfl
  have k2 := j1.hd _ rfl
  have x5 := g5.keep j2 hSr
  have k0 := x5.c0.cell
  have hCC := hC5.trans (j2.mono (S' := fun k => k = b) (fun k hk e => by rw [hS0] at e; rcases e with e | e; exact e; omega))
  have hu := own_base k2
  generalize fx 9 = u at k1 k2 hu
  clear j1 j2 j6 j7
  go_wp2
  go_ret2
  refine ⟨ret_ii rfl rfl, hCC, u, ⟨j3, k1, j4, j5, ?_, fun e => by have := hu _ e; omega⟩, fun k e => by have := hu k e; omega⟩
  rw [rqs_append, rqs_one, List.length_append, ← HLen.out]
  exact own_mono k2 (by omega)
end Go.Proofs.Ytdfncmhbbhmgfaa
