/- The reference's device: Finish. -/
import Derived.Test.YtdfncmhbbhmgfaaRefStart
namespace Go.Proofs.Ytdfncmhbbhmgfaa
open Go.RowKit
theorem Rds.rest_ {w : World} {ad : Addr} {sz m c N : Nat} {cs : List Value} (h : Rds w sz (some ad) m c cs) (hN : N ≤ m) : Rds w sz (some (if c = N then ad else ad.add (N * sz))) (m - N) (c - N) (cs.drop (N * sz)) := by
  have hle := h.le
  have hl := h.len
  refine ⟨by rw [List.length_drop, hl, Nat.sub_mul], by omega, by have := h.max; omega, (fun e => by cases e), fun a e j u hj => ?_⟩
  cases e
  by_cases hc : c = N
  · have hm : m = N := by omega
    rw [List.drop_of_length_le (by rw [hl, hm]; exact Nat.le_refl _)] at hj
    simp at hj
  · rw [if_neg hc, Go.Deep.add_add]
    refine h.cell ad rfl _ _ ?_
    rw [List.getElem?_drop] at hj
    exact hj
set_option maxRecDepth 100000 in
set_option maxHeartbeats 2000000 in
theorem rfin_none (b base : Nat) (room : Int) (last done : Int) (v : Value) (k : Int) (w : World) (h : RDev w b base room [] last done v) :
    Calls Try.prog 27 #[.pointer (some ⟨b, 0, none⟩), .int .i64 k] w fun e w' => e = .returned (.tuple #[.agg #[.int .i64 0, .int .i64 0, .int .i64 0, .int .i64 0, .int .i64 0], .int .i64 0, .int .i64 4]) ∧ Below w.heap.size w w' := by
  obtain ⟨A, n, c, rfl, hn, hrd⟩ := own_open h.own
  have hn0 : n = 0 := hn.out
  subst hn0
  have hal : Below w.heap.size w (w.alloc (.cells #[.int .i64 0, .int .i64 0, .int .i64 0, .int .i64 0, .int .i64 0] 63)) := below_al (Below.refl _ _) _
  have hx1 := (h.row.below hal).cell
  clear h hrd
  go_enter Try.func27, Try.ntmps27
  go_wp2
  exact bodyPost_ret (v := .tuple #[.agg #[.int .i64 0, .int .i64 0, .int .i64 0, .int .i64 0, .int .i64 0], .int .i64 0, .int .i64 4]) (by simp [results, Try.results27, go_sem]) rfl ⟨rfl, hal⟩
set_option maxRecDepth 100000 in
set_option maxHeartbeats 4000000 in
theorem rfin_pos (b base : Nat) (room : Int) (l : List Rq) (last done : Int) (v : Value) (k : Int) (i : Nat) (r : Rq) (w : World) (h : RDev w b base room l last done v) (hbase : base ≤ w.heap.size) (hl : 0 < l.length) (hm : l.length ≤ 4096)
    (hi : (i : Int) = max k 0 % l.length) (hri : l[i]? = some r) (hk : 0 < k) (hd0 : 0 ≤ done) (hd1 : done ≤ 1000000) :
    Calls Try.prog 27 #[.pointer (some ⟨b, 0, none⟩), .int .i64 k] w fun e w' => e = .returned (.tuple #[rqV r, .int .i64 (resV r), .int .i64 0]) ∧ Chg (fun k => k = b) w w' ∧
      ∃ v', RDev w' b base room (l.eraseIdx i) last (done + 1) v' ∧ (∀ k, v'.ownBlock = some k → w.heap.size ≤ k) := by
  have hbl := h.room_.lt
  obtain ⟨g, cap, hv, hg1, hg2, hg3⟩ := own_some h.own hl (by decide)
  subst hv
  obtain ⟨n, hn⟩ : ∃ n, n = l.length := ⟨_, rfl⟩
  rw [← hn] at hl hm hi hg2
  have hown := h.own
  have hrow := h.row
  rw [← hn] at hown hrow
  have hal : Below w.heap.size w (w.alloc (.cells #[.int .i64 0, .int .i64 0, .int .i64 0, .int .i64 0, .int .i64 0] 63)) := below_al (Below.refl _ _) _
  have hx1 := (hrow.below hal).cell
  have hzn : ((n : Int) == 0) = false := by simp; omega
  have hlt : i < n := by rw [hn]; exact (List.getElem?_eq_some_iff.1 hri).1
  obtain ⟨hdl, hrd⟩ := own_rds' hown
  have hcs := rq_cells0 (hrd.below hal) i r hri
  obtain ⟨r1, r2, r3, r4, r5⟩ := r
  have hc0 := hcs 0 _ rfl
  have hc1 := hcs 1 _ rfl
  have hc2 := hcs 2 _ rfl
  have hc3 := hcs 3 _ rfl
  have hc4 := hcs 4 _ rfl
  simp only [Nat.zero_add, Nat.add_zero] at hc0 hc1 hc2 hc3 hc4
  have hn0 : (0 : Int) < n := by omega
  have hti : k.tmod (n : Int) = (i : Int) := by rw [hi, Int.max_eq_left (by omega)]; rw [Int.tmod_eq_emod_of_nonneg (by omega)]
  have HN := Lib.hid hn
  clear hcs hdl hi hn
  go_enter Try.func27, Try.ntmps27
  go_wp2
  obtain ⟨W5, hW5⟩ : ∃ W5, W5 = (w.alloc (.cells #[.int .i64 0, .int .i64 0, .int .i64 0, .int .i64 0, .int .i64 0] (63 : Nat))).alloc (.cells #[.int .i64 r1, .int .i64 r2, .int .i64 r3, .int .i64 r4, .int .i64 r5] (63 : Nat)) := ⟨_, rfl⟩
  rw [← hW5]
  have hb5 : Below w.heap.size w W5 := by rw [hW5]; exact below_al hal _
  have z4 : Box5 W5 w.heap.size ⟨0, 0, 0, 0, 0⟩ := by rw [hW5]; exact (Box5.new w ⟨0, 0, 0, 0, 0⟩ _).below (below_al (Below.refl _ _) _)
  have z8 : Box5 W5 (w.heap.size + 1) ⟨r1, r2, r3, r4, r5⟩ := by
    have := Box5.new (w.alloc (.cells #[.int .i64 0, .int .i64 0, .int .i64 0, .int .i64 0, .int .i64 0] 63)) ⟨r1, r2, r3, r4, r5⟩ 63
    rw [hW5]
    simpa using this
  have hs5 : w.heap.size + 1 < W5.heap.size := by rw [hW5]; simp
  clear hW5 hc0 hc1 hc2 hc3 hc4 hx1
  have f0 := h.room_.below hb5
  have f1 := hrow.below hb5
  have f2 := h.last_.below hb5
  have f3 := h.done_.below hb5
  have hgb : g ≠ b := fun e => h.apart (by rw [e]; rfl)
  have hgw : g < W5.heap.size := by have := (hown.lt g rfl).2; have := hb5.size; omega
  have hr5 := hrd.below hb5
  have hr7 : Rds W5 5 (some ⟨g, 0, none⟩) i cap (rqs (l.take i)) := by rw [← rqs_take]; exact hr5.take_ i (by omega)
  have hr15 : Rds W5 5 (some (if cap = i + 1 then ⟨g, 0, none⟩ else (⟨g, 0, none⟩ : Addr).add ((i + 1) * 5))) (n - (i + 1)) (cap - (i + 1)) (rqs (l.drop (i + 1))) := by rw [← rqs_drop]; exact hr5.rest_ (by omega)
  have ha15 : ∃ ad, (if cap = i + 1 then (⟨g, 0, none⟩ : Addr) else (⟨g, 0, none⟩ : Addr).add ((i + 1) * 5)) = ad ∧ ad.block = g := ⟨_, rfl, by split; rfl; rw [add_lit']⟩
  obtain ⟨ad15, hq15, hab15⟩ := ha15
  rw [hq15] at hr15
  have HQ15 := Lib.hid hq15
  clear hq15
  have hCb : Chg (fun k => k = b) w W5 := Chg.of_below hb5
  have hnc : n ≤ cap := hrd.le
  clear hb5 h hrow hown hrd hal hr5
  obtain ⟨wz, hwz⟩ : ∃ x, x = w.heap.size := ⟨_, rfl⟩
  rw [← hwz] at z4 z8 hs5 hbl
  rw [show Value.pointer (some ⟨w.heap.size, 0, none⟩) = Value.pointer (some ⟨wz, 0, none⟩) by rw [hwz], show Value.pointer (some ⟨w.heap.size + 1, 0, none⟩) = Value.pointer (some ⟨wz + 1, 0, none⟩) by rw [hwz]]
  have hwle : w.heap.size ≤ wz := by omega
  have hbasez : base ≤ wz := by omega
  clear hwz
  have hwb : b ≠ wz := by omega
  have hwb1 : b ≠ wz + 1 := by omega
  obtain ⟨B, hB⟩ : ∃ B, B = W5.heap.size := ⟨_, rfl⟩
  rw [← hB] at hs5 hgw
  have hbB : b < B := by omega
  obtain ⟨S0, hS0⟩ : ∃ S0 : Nat → Prop, S0 = fun k => k = b ∨ B ≤ k := ⟨_, rfl⟩
  have hSg : ¬ S0 g := by rw [hS0]; rintro (e | e) <;> omega
  have HN40 : Hid ((0 + i) * 40 ≤ 140737488355328 ∧ (i + (n - (i + 1))) * 40 ≤ 140737488355328) := ⟨by omega, by omega⟩
  have hi1 : (i : Int) + 1 ≤ n := by omega
  obtain ⟨G, hG⟩ : ∃ G : Option Value → Option Value → Option Value → Option Value → Option Value → Option Value → Option Value → Option Value → World → Prop, ∀ q p q2 p2 x a d z W, G q p q2 p2 x a d z W = (((a.isSome = true → x.isSome = true ∧ q2.isSome = true) ∧ (d.isSome = true → a.isSome = true ∧ p2.isSome = true) ∧ (z.isSome = true → d.isSome = true) ∧ (q2.isSome = true → q.isSome = true) ∧ (p2.isSome = true → p.isSome = true)) ∧ Ch2 63 5 B i (n - (i + 1)) (rqs (l.take i)) (rqs (l.drop (i + 1))) x a none d W ∧ Chg S0 W5 W ∧ Box W b 0 (.int .i64 room) ∧ Box W b 2 (.int .i64 last) ∧ Box W b 3 (.int .i64 done) ∧ (z = none → Box W b 1 (.slice (some ⟨g, 0, none⟩) n cap)) ∧ (z.isSome = true → ∀ u, d = some u → Box W b 1 u)) := ⟨_, fun _ _ _ _ _ _ _ _ _ => rfl⟩
  obtain ⟨S_, hS_⟩ : ∃ S_ : World → World → Prop, S_ = (Chg S0) := ⟨_, rfl⟩
  have hR_ : ∀ W, S_ W W := by intro W; rw [hS_]; exact Chg.refl _ _
  obtain ⟨T, hT⟩ : ∃ T : Nat → FactS S_, ∀ t_, T t_ = ([FactS.eq (.pointer (some ⟨b, 0, none⟩)), FactS.any, FactS.eq (.pointer (some ⟨b, 0, none⟩)), FactS.eq (.pointer (some ⟨b, 0, none⟩)), FactS.eq (.pointer (some ⟨b, 1, none⟩)), FactS.eq (.slice (some ⟨g, 0, none⟩) n cap), FactS.eq (.int .i64 i), FactS.eq (.slice (some ⟨g, 0, none⟩) i cap), FactS.any, FactS.eq (.pointer (some ⟨b, 0, none⟩)), FactS.eq (.pointer (some ⟨b, 0, none⟩)), FactS.eq (.pointer (some ⟨b, 1, none⟩)), FactS.eq (.slice (some ⟨g, 0, none⟩) n cap), FactS.eq (.int .i64 i), FactS.eq (.int .i64 ((i : Int) + 1)), FactS.eq (.slice (some ad15) (n - (i + 1)) (cap - (i + 1))), FactS.any, FactS.eq (.pointer (some ⟨b, 0, none⟩)), FactS.eq (.pointer (some ⟨b, 1, none⟩)), FactS.eq (undef)] : List (FactS S_)).getD t_ FactS.any := ⟨_, fun _ => rfl⟩
  have hP_ : ∀ i_ v_ (y_ : Nat → Option Value) W_, ([5, 12, 7, 15, 1, 8, 16, 19].contains i_) = false → G (y_ 5) (y_ 12) (y_ 7) (y_ 15) (y_ 1) (y_ 8) (y_ 16) (y_ 19) W_ → G (updY y_ i_ v_ 5) (updY y_ i_ v_ 12) (updY y_ i_ v_ 7) (updY y_ i_ v_ 15) (updY y_ i_ v_ 1) (updY y_ i_ v_ 8) (updY y_ i_ v_ 16) (updY y_ i_ v_ 19) W_ := by
    intro i_ v_ y_ W_ hi_ h_
    simp only [List.contains_cons, List.contains_nil, Bool.or_false, Bool.or_eq_false_iff, beq_eq_false_iff_ne, ne_eq] at hi_
    obtain ⟨i5_, i12_, i7_, i15_, i1_, i8_, i16_, i19_⟩ := hi_
    rw [updY_ne y_ i_ v_ i5_, updY_ne y_ i_ v_ i12_, updY_ne y_ i_ v_ i7_, updY_ne y_ i_ v_ i15_, updY_ne y_ i_ v_ i1_, updY_ne y_ i_ v_ i8_, updY_ne y_ i_ v_ i16_, updY_ne y_ i_ v_ i19_]
    exact h_
  refine region_tabJ [(0, 30), (1, 31), (2, 32), (3, 33), (4, 34), (5, 35), (6, 36), (7, 37), (8, 38), (9, 39), (10, 40), (11, 41), (12, 42), (13, 43), (14, 44), (15, 45), (16, 46), (17, 47), (18, 48)] S_ T (fun y_ W_ => G (y_ 5) (y_ 12) (y_ 7) (y_ 15) (y_ 1) (y_ 8) (y_ 16) (y_ 19) W_) (by kernel_rfl) (by kernel_rfl) (by kernel_rfl) (by kernel_rfl) (by kernel_rfl) ?_ ?_ ?_
  · skip
    show G none none none none none none none none _
    rw [hG]
    exact ⟨⟨(fun h => by cases h), (fun h => by cases h), (fun h => by cases h), (fun h => by cases h), (fun h => by cases h)⟩, Ch2.none_ (by rw [hB]; simp), (Chg.refl _ _).drewN 1, f0.drew 1, f2.drew 1, f3.drew 1, fun _ => f1.drew 1, fun h => by cases h⟩
  · skip
    refine stepsAll_cons (k := 0) ?_ ?_
    · intro fa fx fW fy hF hN hJ hE K fK
      have hJ : G (fy 5) (fy 12) (fy 7) (fy 15) (fy 1) (fy 8) (fy 16) (fy 19) fW := hJ
      have ev0 : fa.tmps[0]?.getD undef = .pointer (some ⟨b, 0, none⟩) := hF.eo 0 (by kernel_rfl)
      refine wpOp_val rfl (wanted_none rfl) ?_ (fK (.pointer (some ⟨b, 0, none⟩)) fW (hR_ fW) (by rw [hT]; exact rfl) (hP_ 0 _ fy fW rfl hJ))
      clear fK hE hF hJ hN
      go_simp
    refine stepsAll_cons (k := 1) ?_ ?_
    · intro fa fx fW fy hF hN hJ hE K fK
      have hJ : G (fy 5) (fy 12) (fy 7) (fy 15) (fy 1) (fy 8) (fy 16) (fy 19) fW := hJ
      rw [hG, hN] at hJ
      obtain ⟨⟨i1, i2, i3, i4, i5⟩, j1, j2, j3, j4, j5, j6, j7⟩ := hJ
      have a6 : fy 8 = none := by cases h : fy 8 with | none => rfl | some u => rw [h] at i1; exact absurd (i1 rfl).1 (by simp)
      have a9 : fy 16 = none := by cases h : fy 16 with | none => rfl | some u => rw [h, a6] at i2; exact absurd (i2 rfl).1 (by simp)
      rw [a6, a9] at j1
      have hal : Below fW.heap.size fW (fW.alloc (.cells #[] 63)) := below_al (Below.refl _ _) _
      refine wpOp_to rfl (wanted_none rfl) (v := .slice (some ⟨fW.heap.size, 0, none⟩) 0 0) (W' := fW.alloc (.cells #[] 63)) (by clear fK hE hF hN i1 i2 i3 i4 i5 j1 j2 j3 j4 j5 j6 j7; go_simp) (fK _ _ (by rw [hS_]; exact Chg.of_below hal) (by rw [hT]; exact trivial) ?_)
      show G (fy 5) (fy 12) (fy 7) (fy 15) (some _) (fy 8) (fy 16) (fy 19) _
      rw [hG, a6, a9]
      rw [a9] at i3
      exact ⟨⟨(fun h => by cases h), (fun h => by cases h), i3, i4, i5⟩, j1.x_, j2.trans (Chg.of_below hal), j3.below hal, j4.below hal, j5.below hal, fun e => (j6 e).below hal, fun e u e2 => by cases e2⟩
    refine stepsAll_cons (k := 2) ?_ ?_
    · intro fa fx fW fy hF hN hJ hE K fK
      have hJ : G (fy 5) (fy 12) (fy 7) (fy 15) (fy 1) (fy 8) (fy 16) (fy 19) fW := hJ
      have ev0 : fa.tmps[0]?.getD undef = .pointer (some ⟨b, 0, none⟩) := hF.eo 0 (by kernel_rfl)
      refine wpOp_val rfl (wanted_none rfl) ?_ (fK (.pointer (some ⟨b, 0, none⟩)) fW (hR_ fW) (by rw [hT]; exact rfl) (hP_ 2 _ fy fW rfl hJ))
      clear fK hE hF hJ hN
      go_simp
    refine stepsAll_cons (k := 3) ?_ ?_
    · intro fa fx fW fy hF hN hJ hE K fK
      have hJ : G (fy 5) (fy 12) (fy 7) (fy 15) (fy 1) (fy 8) (fy 16) (fy 19) fW := hJ
      have q2 : fx 2 = .pointer (some ⟨b, 0, none⟩) := by have q := (hE ⟨2, .data⟩ (by simp) rfl).2; rw [hT] at q; exact q
      have ev32 : fa.tmps[32]?.getD undef = .pointer (some ⟨b, 0, none⟩) := (hF.ev 2 32 (by kernel_rfl)).trans q2
      refine wpOp_val rfl (wanted_none rfl) ?_ (fK (.pointer (some ⟨b, 0, none⟩)) fW (hR_ fW) (by rw [hT]; exact rfl) (hP_ 3 _ fy fW rfl hJ))
      clear fK hE hF hJ hN
      go_simp
    refine stepsAll_cons (k := 4) ?_ ?_
    · intro fa fx fW fy hF hN hJ hE K fK
      have hJ : G (fy 5) (fy 12) (fy 7) (fy 15) (fy 1) (fy 8) (fy 16) (fy 19) fW := hJ
      have q3 : fx 3 = .pointer (some ⟨b, 0, none⟩) := by have q := (hE ⟨3, .data⟩ (by simp) rfl).2; rw [hT] at q; exact q
      have ev33 : fa.tmps[33]?.getD undef = .pointer (some ⟨b, 0, none⟩) := (hF.ev 3 33 (by kernel_rfl)).trans q3
      refine wpOp_val rfl (wanted_none rfl) ?_ (fK (.pointer (some ⟨b, 1, none⟩)) fW (hR_ fW) (by rw [hT]; exact rfl) (hP_ 4 _ fy fW rfl hJ))
      clear fK hE hF hJ hN
      go_simp
    refine stepsAll_cons (k := 5) ?_ ?_
    · intro fa fx fW fy hF hN hJ hE K fK
      have hJ : G (fy 5) (fy 12) (fy 7) (fy 15) (fy 1) (fy 8) (fy 16) (fy 19) fW := hJ
      have q4 : fx 4 = .pointer (some ⟨b, 1, none⟩) := by have q := (hE ⟨4, .data⟩ (by simp) rfl).2; rw [hT] at q; exact q
      have ev34 : fa.tmps[34]?.getD undef = .pointer (some ⟨b, 1, none⟩) := (hF.ev 4 34 (by kernel_rfl)).trans q4
      rw [hG, hN] at hJ
      obtain ⟨⟨i1, i2, i3, i4, i5⟩, j1, j2, j3, j4, j5, j6, j7⟩ := hJ
      have a7 : fy 7 = none := by cases h : fy 7 with | none => rfl | some u => rw [h] at i4; exact absurd (i4 rfl) (by simp)
      have a6 : fy 8 = none := by cases h : fy 8 with | none => rfl | some u => rw [h, a7] at i1; exact absurd (i1 rfl).2 (by simp)
      have a9 : fy 16 = none := by cases h : fy 16 with | none => rfl | some u => rw [h, a6] at i2; exact absurd (i2 rfl).1 (by simp)
      have a12 : fy 19 = none := by cases h : fy 19 with | none => rfl | some u => rw [h, a9] at i3; exact absurd (i3 rfl) (by simp)
      have k1 := (j6 a12).cell
      refine wpOp_val rfl (wanted_none rfl) (v := .slice (some ⟨g, 0, none⟩) n cap) (by clear fK hE hF hN i1 i2 i3 i4 i5 j1 j2 j3 j4 j5 j6 j7; go_simp) (fK _ _ (hR_ fW) (by rw [hT]; exact rfl) ?_)
      show G (some _) (fy 12) (fy 7) (fy 15) (fy 1) (fy 8) (fy 16) (fy 19) _
      rw [hG]
      exact ⟨⟨i1, i2, i3, (fun _ => rfl), i5⟩, j1, j2, j3, j4, j5, j6, j7⟩
    refine stepsAll_cons (k := 6) ?_ ?_
    · intro fa fx fW fy hF hN hJ hE K fK
      have hJ : G (fy 5) (fy 12) (fy 7) (fy 15) (fy 1) (fy 8) (fy 16) (fy 19) fW := hJ
      have ev8 : fa.tmps[8]?.getD undef = .int .i64 i := hF.eo 8 (by kernel_rfl)
      refine wpOp_val rfl (wanted_none rfl) ?_ (fK (.int .i64 i) fW (hR_ fW) (by rw [hT]; exact rfl) (hP_ 6 _ fy fW rfl hJ))
      clear fK hE hF hJ hN
      go_simp
    refine stepsAll_cons (k := 7) ?_ ?_
    · intro fa fx fW fy hF hN hJ hE K fK
      have hJ : G (fy 5) (fy 12) (fy 7) (fy 15) (fy 1) (fy 8) (fy 16) (fy 19) fW := hJ
      have q5 : fx 5 = .slice (some ⟨g, 0, none⟩) n cap := by have q := (hE ⟨5, .data⟩ (by simp) rfl).2; rw [hT] at q; exact q
      have y5 : fy 5 = some (fx 5) := (hE ⟨5, .data⟩ (by simp) rfl).1
      have q6 : fx 6 = .int .i64 i := by have q := (hE ⟨6, .data⟩ (by simp) rfl).2; rw [hT] at q; exact q
      have ev35 : fa.tmps[35]?.getD undef = .slice (some ⟨g, 0, none⟩) n cap := (hF.ev 5 35 (by kernel_rfl)).trans q5
      have ev36 : fa.tmps[36]?.getD undef = .int .i64 i := (hF.ev 6 36 (by kernel_rfl)).trans q6
      rw [hG, hN] at hJ
      obtain ⟨⟨i1, i2, i3, i4, i5⟩, j1, j2, j3, j4, j5, j6, j7⟩ := hJ
      refine wpOp_val rfl (wanted_none rfl) (v := .slice (some ⟨g, 0, none⟩) i cap) ?_ (fK _ _ (hR_ fW) (by rw [hT]; exact rfl) ?_)
      · clear fK hE hF hN i1 i2 i3 i4 i5 j1 j2 j3 j4 j5 j6 j7
        go_simp
        all_goals (intro h; omega)
      · show G (fy 5) (fy 12) (some _) (fy 15) (fy 1) (fy 8) (fy 16) (fy 19) _
        rw [hG]
        exact ⟨⟨(fun h => ⟨(i1 h).1, rfl⟩), i2, i3, (fun _ => by rw [y5]; rfl), i5⟩, j1, j2, j3, j4, j5, j6, j7⟩
    refine stepsAll_cons (k := 8) ?_ ?_
    · intro fa fx fW fy hF hN hJ hE K fK
      have hJ : G (fy 5) (fy 12) (fy 7) (fy 15) (fy 1) (fy 8) (fy 16) (fy 19) fW := hJ
      have q1 : (FactS.any : FactS S_).p (fx 1) fW := by have q := (hE ⟨1, .data⟩ (by simp) rfl).2; rw [hT] at q; exact q
      have y1 : fy 1 = some (fx 1) := (hE ⟨1, .data⟩ (by simp) rfl).1
      have q7 : fx 7 = .slice (some ⟨g, 0, none⟩) i cap := by have q := (hE ⟨7, .data⟩ (by simp) rfl).2; rw [hT] at q; exact q
      have y7 : fy 7 = some (fx 7) := (hE ⟨7, .data⟩ (by simp) rfl).1
      have ev31 : fa.tmps[31]?.getD undef = fx 1 := hF.ev 1 31 (by kernel_rfl)
      have ev37 : fa.tmps[37]?.getD undef = .slice (some ⟨g, 0, none⟩) i cap := (hF.ev 7 37 (by kernel_rfl)).trans q7
      rw [hG, hN, y1] at hJ
      obtain ⟨⟨i1, i2, i3, i4, i5⟩, j1, j2, j3, j4, j5, j6, j7⟩ := hJ
      have a9 : fy 16 = none := by cases h : fy 16 with | none => rfl | some u => rw [h] at i2; exact absurd (i2 rfl).1 (by simp)
      rw [a9] at j1
      have ho := j1.hx _ rfl rfl
      have hrA := j2.rds hr7 (fun ad e => by cases e; exact hSg)
      refine wpOp_list rfl (apn (w0 := fW) B rfl _ _ 46 63 _ 5 40 (by rfl) Try.underlying46 info_rq2 rfl (by decide) (by decide) (fx 1) 0 [] _ i cap (rqs (l.take i)) (by clear fK hE hF hN i1 i2 i3 i4 i5 j1 j2 j3 j4 j5 j6 j7; go_simp) (by clear fK hE hF hN i1 i2 i3 i4 i5 j1 j2 j3 j4 j5 j6 j7; go_simp) hrA (rqs_one_cell _) ho (Below.refl _ _) j1.hB HN40.out.1 ?_)
      intro v1 w1 p1 p2 p3 p4
      rw [Nat.zero_add, List.nil_append] at p1
      have hch : Chg S0 fW w1 := Chg.of_grown p3 (fun k e => by rw [hS0]; exact .inr (own_base ho k e))
      have hch2 : Chg (fun k => B ≤ k) fW w1 := Chg.of_grown p3 (fun k e => own_base ho k e)
      refine fK _ _ (by rw [hS_]; exact hch) (by rw [hT]; exact trivial) ?_
      show G (fy 5) (fy 12) (fy 7) (fy 15) (fy 1) (some v1) (fy 16) (fy 19) w1
      rw [hG, a9, y1]
      rw [a9] at i3
      have k1 := j1.a_ p1 p3 p4
      exact ⟨⟨(fun _ => ⟨rfl, by rw [y7]; rfl⟩), (fun h => by cases h), i3, i4, i5⟩, k1, j2.trans hch, j3.keep hch2 (by omega), j4.keep hch2 (by omega), j5.keep hch2 (by omega), fun e => (j6 e).keep hch2 (by omega), fun e u e2 => by cases e2⟩
    refine stepsAll_cons (k := 9) ?_ ?_
    · intro fa fx fW fy hF hN hJ hE K fK
      have hJ : G (fy 5) (fy 12) (fy 7) (fy 15) (fy 1) (fy 8) (fy 16) (fy 19) fW := hJ
      have ev0 : fa.tmps[0]?.getD undef = .pointer (some ⟨b, 0, none⟩) := hF.eo 0 (by kernel_rfl)
      refine wpOp_val rfl (wanted_none rfl) ?_ (fK (.pointer (some ⟨b, 0, none⟩)) fW (hR_ fW) (by rw [hT]; exact rfl) (hP_ 9 _ fy fW rfl hJ))
      clear fK hE hF hJ hN
      go_simp
    refine stepsAll_cons (k := 10) ?_ ?_
    · intro fa fx fW fy hF hN hJ hE K fK
      have hJ : G (fy 5) (fy 12) (fy 7) (fy 15) (fy 1) (fy 8) (fy 16) (fy 19) fW := hJ
      have q9 : fx 9 = .pointer (some ⟨b, 0, none⟩) := by have q := (hE ⟨9, .data⟩ (by simp) rfl).2; rw [hT] at q; exact q
      have ev39 : fa.tmps[39]?.getD undef = .pointer (some ⟨b, 0, none⟩) := (hF.ev 9 39 (by kernel_rfl)).trans q9
      refine wpOp_val rfl (wanted_none rfl) ?_ (fK (.pointer (some ⟨b, 0, none⟩)) fW (hR_ fW) (by rw [hT]; exact rfl) (hP_ 10 _ fy fW rfl hJ))
      clear fK hE hF hJ hN
      go_simp
    refine stepsAll_cons (k := 11) ?_ ?_
    · intro fa fx fW fy hF hN hJ hE K fK
      have hJ : G (fy 5) (fy 12) (fy 7) (fy 15) (fy 1) (fy 8) (fy 16) (fy 19) fW := hJ
      have q10 : fx 10 = .pointer (some ⟨b, 0, none⟩) := by have q := (hE ⟨10, .data⟩ (by simp) rfl).2; rw [hT] at q; exact q
      have ev40 : fa.tmps[40]?.getD undef = .pointer (some ⟨b, 0, none⟩) := (hF.ev 10 40 (by kernel_rfl)).trans q10
      refine wpOp_val rfl (wanted_none rfl) ?_ (fK (.pointer (some ⟨b, 1, none⟩)) fW (hR_ fW) (by rw [hT]; exact rfl) (hP_ 11 _ fy fW rfl hJ))
      clear fK hE hF hJ hN
      go_simp
    refine stepsAll_cons (k := 12) ?_ ?_
    · intro fa fx fW fy hF hN hJ hE K fK
      have hJ : G (fy 5) (fy 12) (fy 7) (fy 15) (fy 1) (fy 8) (fy 16) (fy 19) fW := hJ
      have q11 : fx 11 = .pointer (some ⟨b, 1, none⟩) := by have q := (hE ⟨11, .data⟩ (by simp) rfl).2; rw [hT] at q; exact q
      have ev41 : fa.tmps[41]?.getD undef = .pointer (some ⟨b, 1, none⟩) := (hF.ev 11 41 (by kernel_rfl)).trans q11
      rw [hG, hN] at hJ
      obtain ⟨⟨i1, i2, i3, i4, i5⟩, j1, j2, j3, j4, j5, j6, j7⟩ := hJ
      have a15 : fy 15 = none := by cases h : fy 15 with | none => rfl | some u => rw [h] at i5; exact absurd (i5 rfl) (by simp)
      have a9 : fy 16 = none := by cases h : fy 16 with | none => rfl | some u => rw [h, a15] at i2; exact absurd (i2 rfl).2 (by simp)
      have a12 : fy 19 = none := by cases h : fy 19 with | none => rfl | some u => rw [h, a9] at i3; exact absurd (i3 rfl) (by simp)
      have k1 := (j6 a12).cell
      refine wpOp_val rfl (wanted_none rfl) (v := .slice (some ⟨g, 0, none⟩) n cap) (by clear fK hE hF hN i1 i2 i3 i4 i5 j1 j2 j3 j4 j5 j6 j7; go_simp) (fK _ _ (hR_ fW) (by rw [hT]; exact rfl) ?_)
      show G (fy 5) (some _) (fy 7) (fy 15) (fy 1) (fy 8) (fy 16) (fy 19) _
      rw [hG]
      exact ⟨⟨i1, i2, i3, i4, (fun _ => rfl)⟩, j1, j2, j3, j4, j5, j6, j7⟩
    refine stepsAll_cons (k := 13) ?_ ?_
    · intro fa fx fW fy hF hN hJ hE K fK
      have hJ : G (fy 5) (fy 12) (fy 7) (fy 15) (fy 1) (fy 8) (fy 16) (fy 19) fW := hJ
      have ev8 : fa.tmps[8]?.getD undef = .int .i64 i := hF.eo 8 (by kernel_rfl)
      refine wpOp_val rfl (wanted_none rfl) ?_ (fK (.int .i64 i) fW (hR_ fW) (by rw [hT]; exact rfl) (hP_ 13 _ fy fW rfl hJ))
      clear fK hE hF hJ hN
      go_simp
    refine stepsAll_cons (k := 14) ?_ ?_
    · intro fa fx fW fy hF hN hJ hE K fK
      have hJ : G (fy 5) (fy 12) (fy 7) (fy 15) (fy 1) (fy 8) (fy 16) (fy 19) fW := hJ
      have q13 : fx 13 = .int .i64 i := by have q := (hE ⟨13, .data⟩ (by simp) rfl).2; rw [hT] at q; exact q
      have ev43 : fa.tmps[43]?.getD undef = .int .i64 i := (hF.ev 13 43 (by kernel_rfl)).trans q13
      refine wpOp_val rfl (wanted_none rfl) ?_ (fK (.int .i64 ((i : Int) + 1)) fW (hR_ fW) (by rw [hT]; exact rfl) (hP_ 14 _ fy fW rfl hJ))
      clear fK hE hF hJ hN
      go_simp
      exact IntWalk.i64_in _ (by omega)
    refine stepsAll_cons (k := 15) ?_ ?_
    · intro fa fx fW fy hF hN hJ hE K fK
      have hJ : G (fy 5) (fy 12) (fy 7) (fy 15) (fy 1) (fy 8) (fy 16) (fy 19) fW := hJ
      have q12 : fx 12 = .slice (some ⟨g, 0, none⟩) n cap := by have q := (hE ⟨12, .data⟩ (by simp) rfl).2; rw [hT] at q; exact q
      have y12 : fy 12 = some (fx 12) := (hE ⟨12, .data⟩ (by simp) rfl).1
      have q14 : fx 14 = .int .i64 ((i : Int) + 1) := by have q := (hE ⟨14, .data⟩ (by simp) rfl).2; rw [hT] at q; exact q
      have ev42 : fa.tmps[42]?.getD undef = .slice (some ⟨g, 0, none⟩) n cap := (hF.ev 12 42 (by kernel_rfl)).trans q12
      have ev44 : fa.tmps[44]?.getD undef = .int .i64 ((i : Int) + 1) := (hF.ev 14 44 (by kernel_rfl)).trans q14
      rw [hG, hN] at hJ
      obtain ⟨⟨i1, i2, i3, i4, i5⟩, j1, j2, j3, j4, j5, j6, j7⟩ := hJ
      refine wpOp_val rfl (wanted_none rfl) (v := .slice (some ad15) (n - (i + 1)) (cap - (i + 1))) ?_ (fK _ _ (hR_ fW) (by rw [hT]; exact rfl) ?_)
      · clear fK hE hF hN i1 i2 i3 i4 i5 j1 j2 j3 j4 j5 j6 j7
        go_simp
        rw [if_pos (by omega)]
        rw [← HQ15.out]
        by_cases hcc : cap = i + 1 <;> simp [hcc, add_lit']
      · show G (fy 5) (fy 12) (fy 7) (some _) (fy 1) (fy 8) (fy 16) (fy 19) _
        rw [hG]
        exact ⟨⟨i1, (fun h => ⟨(i2 h).1, rfl⟩), i3, i4, (fun _ => by rw [y12]; rfl)⟩, j1, j2, j3, j4, j5, j6, j7⟩
    refine stepsAll_cons (k := 16) ?_ ?_
    · intro fa fx fW fy hF hN hJ hE K fK
      have hJ : G (fy 5) (fy 12) (fy 7) (fy 15) (fy 1) (fy 8) (fy 16) (fy 19) fW := hJ
      have q8 : (FactS.any : FactS S_).p (fx 8) fW := by have q := (hE ⟨8, .data⟩ (by simp) rfl).2; rw [hT] at q; exact q
      have y8 : fy 8 = some (fx 8) := (hE ⟨8, .data⟩ (by simp) rfl).1
      have q15 : fx 15 = .slice (some ad15) (n - (i + 1)) (cap - (i + 1)) := by have q := (hE ⟨15, .data⟩ (by simp) rfl).2; rw [hT] at q; exact q
      have y15 : fy 15 = some (fx 15) := (hE ⟨15, .data⟩ (by simp) rfl).1
      have ev38 : fa.tmps[38]?.getD undef = fx 8 := hF.ev 8 38 (by kernel_rfl)
      have ev45 : fa.tmps[45]?.getD undef = .slice (some ad15) (n - (i + 1)) (cap - (i + 1)) := (hF.ev 15 45 (by kernel_rfl)).trans q15
      rw [hG, hN, y8] at hJ
      obtain ⟨⟨i1, i2, i3, i4, i5⟩, j1, j2, j3, j4, j5, j6, j7⟩ := hJ
      have ho := j1.ha _ rfl rfl
      have hrA := j2.rds hr15 (fun ad e => by cases e; rw [hab15]; exact hSg)
      refine wpOp_list rfl (apn (w0 := fW) B rfl _ _ 46 63 _ 5 40 (by rfl) Try.underlying46 info_rq2 rfl (by decide) (by decide) (fx 8) i (rqs (l.take i)) _ (n - (i + 1)) (cap - (i + 1)) (rqs (l.drop (i + 1))) (by clear fK hE hF hN i1 i2 i3 i4 i5 j1 j2 j3 j4 j5 j6 j7; go_simp) (by clear fK hE hF hN i1 i2 i3 i4 i5 j1 j2 j3 j4 j5 j6 j7; go_simp) hrA (rqs_one_cell _) ho (Below.refl _ _) j1.hB HN40.out.2 ?_)
      intro v1 w1 p1 p2 p3 p4
      have hch : Chg S0 fW w1 := Chg.of_grown p3 (fun k e => by rw [hS0]; exact .inr (own_base ho k e))
      have hch2 : Chg (fun k => B ≤ k) fW w1 := Chg.of_grown p3 (fun k e => own_base ho k e)
      refine fK _ _ (by rw [hS_]; exact hch) (by rw [hT]; exact trivial) ?_
      show G (fy 5) (fy 12) (fy 7) (fy 15) (fy 1) (fy 8) (some v1) (fy 19) w1
      rw [hG, y8]
      have a12 : fy 19 = none := by cases h : fy 19 with | none => rfl | some u => rw [h] at i3; exact absurd (i3 rfl) (by simp)
      exact ⟨⟨(fun _ => i1 rfl), (fun _ => ⟨rfl, by rw [y15]; rfl⟩), (fun _ => rfl), i4, i5⟩, j1.d_ hch.size p1, j2.trans hch, j3.keep hch2 (by omega), j4.keep hch2 (by omega), j5.keep hch2 (by omega), fun e => (j6 e).keep hch2 (by omega), fun e => by rw [a12] at e; cases e⟩
    refine stepsAll_cons (k := 17) ?_ ?_
    · intro fa fx fW fy hF hN hJ hE K fK
      have hJ : G (fy 5) (fy 12) (fy 7) (fy 15) (fy 1) (fy 8) (fy 16) (fy 19) fW := hJ
      have q0 : fx 0 = .pointer (some ⟨b, 0, none⟩) := by have q := (hE ⟨0, .data⟩ (by simp) rfl).2; rw [hT] at q; exact q
      have ev30 : fa.tmps[30]?.getD undef = .pointer (some ⟨b, 0, none⟩) := (hF.ev 0 30 (by kernel_rfl)).trans q0
      refine wpOp_val rfl (wanted_none rfl) ?_ (fK (.pointer (some ⟨b, 0, none⟩)) fW (hR_ fW) (by rw [hT]; exact rfl) (hP_ 17 _ fy fW rfl hJ))
      clear fK hE hF hJ hN
      go_simp
    refine stepsAll_cons (k := 18) ?_ ?_
    · intro fa fx fW fy hF hN hJ hE K fK
      have hJ : G (fy 5) (fy 12) (fy 7) (fy 15) (fy 1) (fy 8) (fy 16) (fy 19) fW := hJ
      have q17 : fx 17 = .pointer (some ⟨b, 0, none⟩) := by have q := (hE ⟨17, .data⟩ (by simp) rfl).2; rw [hT] at q; exact q
      have ev47 : fa.tmps[47]?.getD undef = .pointer (some ⟨b, 0, none⟩) := (hF.ev 17 47 (by kernel_rfl)).trans q17
      refine wpOp_val rfl (wanted_none rfl) ?_ (fK (.pointer (some ⟨b, 1, none⟩)) fW (hR_ fW) (by rw [hT]; exact rfl) (hP_ 18 _ fy fW rfl hJ))
      clear fK hE hF hJ hN
      go_simp
    refine stepsAll_cons (k := 19) ?_ ?_
    · intro fa fx fW fy hF hN hJ hE K fK
      have hJ : G (fy 5) (fy 12) (fy 7) (fy 15) (fy 1) (fy 8) (fy 16) (fy 19) fW := hJ
      have q16 : (FactS.any : FactS S_).p (fx 16) fW := by have q := (hE ⟨16, .data⟩ (by simp) rfl).2; rw [hT] at q; exact q
      have y16 : fy 16 = some (fx 16) := (hE ⟨16, .data⟩ (by simp) rfl).1
      have q18 : fx 18 = .pointer (some ⟨b, 1, none⟩) := by have q := (hE ⟨18, .data⟩ (by simp) rfl).2; rw [hT] at q; exact q
      have ev46 : fa.tmps[46]?.getD undef = fx 16 := hF.ev 16 46 (by kernel_rfl)
      have ev48 : fa.tmps[48]?.getD undef = .pointer (some ⟨b, 1, none⟩) := (hF.ev 18 48 (by kernel_rfl)).trans q18
      rw [hG, hN, y16] at hJ
      obtain ⟨⟨i1, i2, i3, i4, i5⟩, j1, j2, j3, j4, j5, j6, j7⟩ := hJ
      have hx := j6 rfl
      have hxc := hx.cell
      have hxf := hx.free
      have ho := j1.hd _ rfl
      obtain ⟨UA, uc, hu⟩ := own_slice ho
      have hch : Chg S0 fW (fW.setCell ⟨b, 1, none⟩ (fx 16)) := (Chg.refl _ _).setCell b 1 _ (by rw [hS0]; exact .inl rfl)
      have hch2 : Chg (fun k => k = b) fW (fW.setCell ⟨b, 1, none⟩ (fx 16)) := (Chg.refl _ _).setCell b 1 _ rfl
      have z0 : Box (fW.setCell ⟨b, 1, none⟩ (fx 16)) b 0 (.int .i64 room) := by have := j3.cell; have := j3.free; clear fK hE hF; constructor <;> go_simp
      have z2 : Box (fW.setCell ⟨b, 1, none⟩ (fx 16)) b 2 (.int .i64 last) := by have := j4.cell; have := j4.free; clear fK hE hF; constructor <;> go_simp
      have z3 : Box (fW.setCell ⟨b, 1, none⟩ (fx 16)) b 3 (.int .i64 done) := by have := j5.cell; have := j5.free; clear fK hE hF; constructor <;> go_simp
      have i2' := i2 rfl
      obtain ⟨va, hva⟩ := Option.isSome_iff_exists.1 i2'.1
      rw [hva] at j1
      have jk := j1.keep hch2 (fun k e => by omega)
      refine wpOp_done rfl (wanted_none rfl) (W' := fW.setCell ⟨b, 1, none⟩ (fx 16)) (by clear fK hE hF hN z0 z2 z3 i1 i2 i3 i4 i5 i2' j1 j2 j3 j4 j5 j6 j7 jk; rw [hu] at ev46 ⊢; go_simp) (fK undef _ (by rw [hS_]; exact hch) (by rw [hT]; exact rfl) ?_)
      show G (fy 5) (fy 12) (fy 7) (fy 15) (fy 1) (fy 8) (fy 16) (some undef) _
      rw [hG, y16]
      rw [hva] at i1 ⊢
      exact ⟨⟨i1, (fun _ => ⟨rfl, i2'.2⟩), (fun _ => rfl), i4, i5⟩, jk, j2.trans hch, z0, z2, z3, (fun e => by cases e), fun _ u e => by cases e; exact hx.set _⟩
    exact stepsAll_nil
  intro fa fx fW fy hF hJ0 hx
  have y5 : fy 5 = some (fx 5) := (hx 5 (by decide)).1
  have y12 : fy 12 = some (fx 12) := (hx 12 (by decide)).1
  have y7 : fy 7 = some (fx 7) := (hx 7 (by decide)).1
  have y15 : fy 15 = some (fx 15) := (hx 15 (by decide)).1
  have y1 : fy 1 = some (fx 1) := (hx 1 (by decide)).1
  have y8 : fy 8 = some (fx 8) := (hx 8 (by decide)).1
  have y16 : fy 16 = some (fx 16) := (hx 16 (by decide)).1
  have y19 : fy 19 = some (fx 19) := (hx 19 (by decide)).1
  have hJ : G (fy 5) (fy 12) (fy 7) (fy 15) (fy 1) (fy 8) (fy 16) (fy 19) fW := hJ0
  clear hJ0
  rw [y5, y12, y7, y15, y1, y8, y16, y19] at hJ
  rw [hF.eq]
  clear hF hx hT T hP_ hR_ y5 y12 y7 y15 y1 y8 y16 y19
  simp only [putAll, Act.put, List.setIfInBounds_toArray, List.set_cons_zero, List.set_cons_succ, ]
  rw [hG] at hJ
  obtain ⟨_, j1, j2, j3, j4, j5, j6, j7⟩ := hJ
  have k1 := j7 rfl _ rfl
  have k2 := j1.hd _ rfl
  have hu := own_base k2
  have y4 := z4.keep j2 (by rw [hS0]; rintro (e | e) <;> omega)
  have y8 := z8.keep j2 (by rw [hS0]; rintro (e | e) <;> omega)
  have hCC := hCb.trans (j2.mono (S' := fun k => k = b) (fun k hk e => by rw [hS0] at e; rcases e with e | e; exact e; omega))
  generalize fx 16 = u at k1 k2 hu
  clear j1 j2 j6 j7 z4 z8 hr7 hr15 f0 f1 f2 f3
  have d0 := j5.cell
  have d1 := j5.free
  obtain ⟨W4, hW4⟩ : ∃ W4, W4 = fW.setCell ⟨b, 3, none⟩ (.int .i64 (done + 1)) := ⟨_, rfl⟩
  go_wp2
  rw [← hW4]
  have c4 : Chg (fun k => k = b) fW W4 := by rw [hW4]; exact (Chg.refl _ _).setCell b 3 _ rfl
  have e0 : Box W4 b 0 (.int .i64 room) := by have := j3.cell; have := j3.free; rw [hW4]; constructor <;> go_simp
  have e1 : Box W4 b 1 u := by have := k1.cell; have := k1.free; rw [hW4]; constructor <;> go_simp
  have e2 : Box W4 b 2 (.int .i64 last) := by have := j4.cell; have := j4.free; rw [hW4]; constructor <;> go_simp
  have e3 : Box W4 b 3 (.int .i64 (done + 1)) := by have := j5.cell; have := j5.free; rw [hW4]; constructor <;> go_simp
  have o4 := c4.own k2 (fun k hk e => by have := hu k hk; omega)
  have x4 := y4.keep c4 (by omega)
  have x8 := y8.keep c4 (by omega)
  have hC4 := hCC.trans c4
  clear hW4 c4 j3 j4 j5 k1 k2 y4 y8 hCC d0 d1 hCb
  clear G hG
  obtain ⟨G, hG⟩ : ∃ G : Option Value → World → Prop, ∀ a W, G a W = (Chg (fun k => k = wz) W4 W ∧ (a = none → Box5 W wz ⟨0, 0, 0, 0, 0⟩) ∧ (a.isSome = true → Box5 W wz ⟨r1, r2, r3, r4, r5⟩)) := ⟨_, fun _ _ => rfl⟩
  obtain ⟨S_, hS_⟩ : ∃ S_ : World → World → Prop, S_ = (Chg (fun k => k = wz)) := ⟨_, rfl⟩
  have hR_ : ∀ W, S_ W W := by intro W; rw [hS_]; exact Chg.refl _ _
  obtain ⟨T, hT⟩ : ∃ T : Nat → FactS S_, ∀ t_, T t_ = ([FactS.eq (.agg #[.int .i64 r1, .int .i64 r2, .int .i64 r3, .int .i64 r4, .int .i64 r5]), FactS.eq (.agg #[.int .i64 r1, .int .i64 r2, .int .i64 r3, .int .i64 r4, .int .i64 r5]), FactS.eq (.int .i64 (resV ⟨r1, r2, r3, r4, r5⟩)), FactS.eq (undef), FactS.eq (.int .i64 (resV ⟨r1, r2, r3, r4, r5⟩)), FactS.eq (.int .i64 0)] : List (FactS S_)).getD t_ FactS.any := ⟨_, fun _ => rfl⟩
  have hP_ : ∀ i_ v_ (y_ : Nat → Option Value) W_, ([3].contains i_) = false → G (y_ 3) W_ → G (updY y_ i_ v_ 3) W_ := by
    intro i_ v_ y_ W_ hi_ h_
    simp only [List.contains_cons, List.contains_nil, Bool.or_false, beq_eq_false_iff_ne, ne_eq] at hi_
    rw [updY_ne y_ i_ v_ hi_]
    exact h_
  refine region_tabJ [(0, 56), (1, 57), (2, 58), (4, 5), (5, 6)] S_ T (fun y_ W_ => G (y_ 3) W_) (by kernel_rfl) (by kernel_rfl) (by kernel_rfl) (by kernel_rfl) (by kernel_rfl) ?_ ?_ ?_
  · skip
    show G none _
    rw [hG]
    exact ⟨(Chg.refl _ _).drewN 1, fun _ => x4.below (below_dr (Below.refl _ _) 1), fun h => by cases h⟩
  · skip
    refine stepsAll_cons (k := 0) ?_ ?_
    · intro fa fx fW fy hF hN hJ hE K fK
      have hJ : G (fy 3) fW := hJ
      have ev9 : fa.tmps[9]?.getD undef = .pointer (some ⟨wz + 1, 0, none⟩) := hF.eo 9 (by kernel_rfl)
      have hJ1 := hJ
      rw [hG] at hJ1
      have y8 := x8.keep hJ1.1 (by omega)
      have k0 := y8.c0.cell
      have k1 := y8.c1.cell
      have k2 := y8.c2.cell
      have k3 := y8.c3.cell
      have k4 := y8.c4.cell
      clear hJ1 y8
      refine wpOp_val rfl (wanted_none rfl) ?_ (fK (.agg #[.int .i64 r1, .int .i64 r2, .int .i64 r3, .int .i64 r4, .int .i64 r5]) fW (hR_ fW) (by rw [hT]; exact rfl) (hP_ 0 _ fy fW rfl hJ))
      clear fK hE hF hJ hN
      go_simp
    refine stepsAll_cons (k := 1) ?_ ?_
    · intro fa fx fW fy hF hN hJ hE K fK
      have hJ : G (fy 3) fW := hJ
      have ev9 : fa.tmps[9]?.getD undef = .pointer (some ⟨wz + 1, 0, none⟩) := hF.eo 9 (by kernel_rfl)
      have hJ1 := hJ
      rw [hG] at hJ1
      have y8 := x8.keep hJ1.1 (by omega)
      have k0 := y8.c0.cell
      have k1 := y8.c1.cell
      have k2 := y8.c2.cell
      have k3 := y8.c3.cell
      have k4 := y8.c4.cell
      clear hJ1 y8
      refine wpOp_val rfl (wanted_none rfl) ?_ (fK (.agg #[.int .i64 r1, .int .i64 r2, .int .i64 r3, .int .i64 r4, .int .i64 r5]) fW (hR_ fW) (by rw [hT]; exact rfl) (hP_ 1 _ fy fW rfl hJ))
      clear fK hE hF hJ hN
      go_simp
    refine stepsAll_cons (k := 2) ?_ ?_
    · intro fa fx fW fy hF hN hJ hE K fK
      have hJ : G (fy 3) fW := hJ
      have q1 : fx 1 = .agg #[.int .i64 r1, .int .i64 r2, .int .i64 r3, .int .i64 r4, .int .i64 r5] := by have q := (hE ⟨1, .data⟩ (by simp) rfl).2; rw [hT] at q; exact q
      have ev57 : fa.tmps[57]?.getD undef = .agg #[.int .i64 r1, .int .i64 r2, .int .i64 r3, .int .i64 r4, .int .i64 r5] := (hF.ev 1 57 (by kernel_rfl)).trans q1
      refine wpOp_call rfl (wanted_none rfl) (by go_simp; exact ⟨rfl, rfl⟩) ?_
      refine (rresult ⟨r1, r2, r3, r4, r5⟩ fW).mono ?_
      rintro e w' ⟨rfl, hbb⟩
      rw [hG] at hJ
      exact ⟨_, rfl, fK (.int .i64 (resV ⟨r1, r2, r3, r4, r5⟩)) w' (by rw [hS_]; exact Chg.of_below hbb) (by rw [hT]; exact rfl) (by show G (fy 3) w'; rw [hG]; exact ⟨hJ.1.trans (Chg.of_below hbb), fun e => (hJ.2.1 e).below hbb, fun e => (hJ.2.2 e).below hbb⟩)⟩
    refine stepsAll_cons (k := 3) ?_ ?_
    · intro fa fx fW fy hF hN hJ hE K fK
      have hJ : G (fy 3) fW := hJ
      have q0 : fx 0 = .agg #[.int .i64 r1, .int .i64 r2, .int .i64 r3, .int .i64 r4, .int .i64 r5] := by have q := (hE ⟨0, .data⟩ (by simp) rfl).2; rw [hT] at q; exact q
      have ev56 : fa.tmps[56]?.getD undef = .agg #[.int .i64 r1, .int .i64 r2, .int .i64 r3, .int .i64 r4, .int .i64 r5] := (hF.ev 0 56 (by kernel_rfl)).trans q0
      have ev4 : fa.tmps[4]?.getD undef = .pointer (some ⟨wz, 0, none⟩) := hF.eo 4 (by kernel_rfl)
      rw [hG, hN] at hJ
      obtain ⟨j0, j1, j2⟩ := hJ
      have x4 := j1 rfl
      have a0 := x4.c0.cell
      have a1 := x4.c1.cell
      have a2 := x4.c2.cell
      have a3 := x4.c3.cell
      have a4 := x4.c4.cell
      have f0 := x4.c0.free
      have f1 := x4.c1.free
      have f2 := x4.c2.free
      have f3 := x4.c3.free
      have f4 := x4.c4.free
      have hch : Chg (fun k => k = wz) fW (((((fW.setCell ⟨wz, 0, none⟩ (.int .i64 r1)).setCell ⟨wz, 1, none⟩ (.int .i64 r2)).setCell ⟨wz, 2, none⟩ (.int .i64 r3)).setCell ⟨wz, 3, none⟩ (.int .i64 r4)).setCell ⟨wz, 4, none⟩ (.int .i64 r5)) :=
        ((((((Chg.refl (fun k => k = wz) fW).setCell wz 0 _ rfl).setCell wz 1 _ rfl).setCell wz 2 _ rfl).setCell wz 3 _ rfl).setCell wz 4 _ rfl)
      have x5 : Box5 (((((fW.setCell ⟨wz, 0, none⟩ (.int .i64 r1)).setCell ⟨wz, 1, none⟩ (.int .i64 r2)).setCell ⟨wz, 2, none⟩ (.int .i64 r3)).setCell ⟨wz, 3, none⟩ (.int .i64 r4)).setCell ⟨wz, 4, none⟩ (.int .i64 r5)) wz ⟨r1, r2, r3, r4, r5⟩ := by
        clear fK hE hF hN
        constructor <;> constructor <;> go_simp
      refine wpOp_done rfl (wanted_none rfl) (W' := (((((fW.setCell ⟨wz, 0, none⟩ (.int .i64 r1)).setCell ⟨wz, 1, none⟩ (.int .i64 r2)).setCell ⟨wz, 2, none⟩ (.int .i64 r3)).setCell ⟨wz, 3, none⟩ (.int .i64 r4)).setCell ⟨wz, 4, none⟩ (.int .i64 r5))) (by clear fK hE hF hN x5 hch; go_simp) (fK undef _ (by rw [hS_]; exact hch) (by rw [hT]; exact rfl) ?_)
      show G (some undef) _
      rw [hG]
      exact ⟨j0.trans hch, (fun e => by cases e), fun _ => x5⟩
    refine stepsAll_cons (k := 4) ?_ ?_
    · intro fa fx fW fy hF hN hJ hE K fK
      have hJ : G (fy 3) fW := hJ
      have q2 : (FactS.eq (.int .i64 (resV ⟨r1, r2, r3, r4, r5⟩)) : FactS S_).p (fx 2) fW := by have q := (hE ⟨2, .data⟩ (by simp) rfl).2; rw [hT] at q; exact q
      have ev58 : fa.tmps[58]?.getD undef = fx 2 := hF.ev 2 58 (by kernel_rfl)
      refine wpOp_val rfl (wanted_none rfl) ?_ (fK (fx 2) fW (hR_ fW) (by rw [hT]; exact q2) (hP_ 4 _ fy fW rfl hJ))
      clear fK hE hF hJ hN
      go_simp
    refine stepsAll_cons (k := 5) ?_ ?_
    · intro fa fx fW fy hF hN hJ hE K fK
      have hJ : G (fy 3) fW := hJ
      refine wpOp_val rfl (wanted_none rfl) ?_ (fK (.int .i64 0) fW (hR_ fW) (by rw [hT]; exact rfl) (hP_ 5 _ fy fW rfl hJ))
      clear fK hE hF hJ hN
      go_simp
    exact stepsAll_nil
  intro fa fx fW fy hF hJ0 hx
  have y3 : fy 3 = some (fx 3) := (hx 3 (by decide)).1
  have hJ : G (fy 3) fW := hJ0
  clear hJ0
  rw [y3] at hJ
  have q4 : (FactS.eq (.int .i64 (resV ⟨r1, r2, r3, r4, r5⟩)) : FactS S_).p (fx 4) fW := by have q := (hx 4 (by decide)).2; rw [hT] at q; exact q
  have ev5 : fa.tmps[5]?.getD undef = fx 4 := hF.ev 4 5 (by kernel_rfl)
  have q5 : fx 5 = .int .i64 0 := by have q := (hx 5 (by decide)).2; rw [hT] at q; exact q
  have ev6 : fa.tmps[6]?.getD undef = .int .i64 0 := (hF.ev 5 6 (by kernel_rfl)).trans q5
  rw [hF.eq]
  clear hF hx hT T hP_ hR_ y3
  simp only [putAll, Act.put, List.setIfInBounds_toArray, List.set_cons_zero, List.set_cons_succ, q5]
  rw [hG] at hJ
  obtain ⟨j0, j1, j2⟩ := hJ
  have x5 := j2 rfl
  have k0 := x5.c0.cell
  have k1 := x5.c1.cell
  have k2 := x5.c2.cell
  have k3 := x5.c3.cell
  have k4 := x5.c4.cell
  have o5 := own_mono (j0.own o4 (fun k hk e => by have := hu k hk; omega)) (base' := base) (by omega)
  have hle : (l.eraseIdx i).length = n - 1 := by rw [List.length_eraseIdx_of_lt (by rw [← HN.out]; exact hlt), HN.out]
  have her : rqs (l.take i) ++ rqs (l.drop (i + 1)) = rqs (l.eraseIdx i) := by rw [← rqs_append, List.eraseIdx_eq_take_drop_succ]
  rw [her, show i + (n - (i + 1)) = n - 1 by omega, ← hle] at o5
  have hCC := hC4.then_ j0 (fun k hk e => by omega)
  have g0 := e0.keep j0 hwb
  have g1 := e1.keep j0 hwb
  have g2 := e2.keep j0 hwb
  have g3 := e3.keep j0 hwb
  have q4 : fx 4 = .int .i64 (resV ⟨r1, r2, r3, r4, r5⟩) := q4
  clear j0 j1 j2 hC4 e0 e1 e2 e3 o4 x4 x8
  go_wp2
  refine bodyPost_ret (v := .tuple #[.agg #[.int .i64 r1, .int .i64 r2, .int .i64 r3, .int .i64 r4, .int .i64 r5], .int .i64 (resV ⟨r1, r2, r3, r4, r5⟩), .int .i64 0]) (by simp [results, Try.results27, go_sem, k0, k1, k2, k3, k4]) rfl ?_
  exact ⟨rfl, hCC, u, ⟨g0, g1, g2, g3, (by first | exact o5 | simpa using o5), fun e => by have := hu _ e; omega⟩, fun k e => by have := hu k e; omega⟩
set_option maxRecDepth 100000 in
set_option maxHeartbeats 4000000 in
theorem rfin_zero (b base : Nat) (room : Int) (l : List Rq) (last done : Int) (v : Value) (k : Int) (i : Nat) (r : Rq) (w : World) (h : RDev w b base room l last done v) (hbase : base ≤ w.heap.size) (hl : 0 < l.length) (hm : l.length ≤ 4096)
    (hi : (i : Int) = max k 0 % l.length) (hri : l[i]? = some r) (hk : k ≤ 0) (hd0 : 0 ≤ done) (hd1 : done ≤ 1000000) :
    Calls Try.prog 27 #[.pointer (some ⟨b, 0, none⟩), .int .i64 k] w fun e w' => e = .returned (.tuple #[rqV r, .int .i64 (resV r), .int .i64 0]) ∧ Chg (fun k => k = b) w w' ∧
      ∃ v', RDev w' b base room (l.eraseIdx i) last (done + 1) v' ∧ (∀ k, v'.ownBlock = some k → w.heap.size ≤ k) := by
  have hbl := h.room_.lt
  obtain ⟨g, cap, hv, hg1, hg2, hg3⟩ := own_some h.own hl (by decide)
  subst hv
  obtain ⟨n, hn⟩ : ∃ n, n = l.length := ⟨_, rfl⟩
  rw [← hn] at hl hm hi hg2
  have hown := h.own
  have hrow := h.row
  rw [← hn] at hown hrow
  have hal : Below w.heap.size w (w.alloc (.cells #[.int .i64 0, .int .i64 0, .int .i64 0, .int .i64 0, .int .i64 0] 63)) := below_al (Below.refl _ _) _
  have hx1 := (hrow.below hal).cell
  have hzn : ((n : Int) == 0) = false := by simp; omega
  have hlt : i < n := by rw [hn]; exact (List.getElem?_eq_some_iff.1 hri).1
  obtain ⟨hdl, hrd⟩ := own_rds' hown
  have hcs := rq_cells0 (hrd.below hal) i r hri
  have hi0 : i = 0 := by rw [Int.max_eq_right (by omega)] at hi; simp at hi; omega
  subst hi0
  obtain ⟨r1, r2, r3, r4, r5⟩ := r
  have hc0 := hcs 0 _ rfl
  have hc1 := hcs 1 _ rfl
  have hc2 := hcs 2 _ rfl
  have hc3 := hcs 3 _ rfl
  have hc4 := hcs 4 _ rfl
  simp only [Nat.zero_add, Nat.add_zero] at hc0 hc1 hc2 hc3 hc4
  have hn0 : (0 : Int) < n := by omega
  have HN := Lib.hid hn
  clear hcs hdl hi hn
  go_enter Try.func27, Try.ntmps27
  go_wp2
  obtain ⟨W5, hW5⟩ : ∃ W5, W5 = (w.alloc (.cells #[.int .i64 0, .int .i64 0, .int .i64 0, .int .i64 0, .int .i64 0] (63 : Nat))).alloc (.cells #[.int .i64 r1, .int .i64 r2, .int .i64 r3, .int .i64 r4, .int .i64 r5] (63 : Nat)) := ⟨_, rfl⟩
  rw [← hW5]
  have hb5 : Below w.heap.size w W5 := by rw [hW5]; exact below_al hal _
  have z4 : Box5 W5 w.heap.size ⟨0, 0, 0, 0, 0⟩ := by rw [hW5]; exact (Box5.new w ⟨0, 0, 0, 0, 0⟩ _).below (below_al (Below.refl _ _) _)
  have z8 : Box5 W5 (w.heap.size + 1) ⟨r1, r2, r3, r4, r5⟩ := by
    have := Box5.new (w.alloc (.cells #[.int .i64 0, .int .i64 0, .int .i64 0, .int .i64 0, .int .i64 0] 63)) ⟨r1, r2, r3, r4, r5⟩ 63
    rw [hW5]
    simpa using this
  have hs5 : w.heap.size + 1 < W5.heap.size := by rw [hW5]; simp
  clear hW5 hc0 hc1 hc2 hc3 hc4 hx1
  have f0 := h.room_.below hb5
  have f1 := hrow.below hb5
  have f2 := h.last_.below hb5
  have f3 := h.done_.below hb5
  have hgb : g ≠ b := fun e => h.apart (by rw [e]; rfl)
  have hgw : g < W5.heap.size := by have := (hown.lt g rfl).2; have := hb5.size; omega
  have hr5 := hrd.below hb5
  have hr7 : Rds W5 5 (some ⟨g, 0, none⟩) 0 cap (rqs (l.take 0)) := by rw [← rqs_take]; exact hr5.take_ 0 (by omega)
  have hr15 : Rds W5 5 (some (if cap = 0 + 1 then ⟨g, 0, none⟩ else (⟨g, 0, none⟩ : Addr).add ((0 + 1) * 5))) (n - (0 + 1)) (cap - (0 + 1)) (rqs (l.drop (0 + 1))) := by rw [← rqs_drop]; exact hr5.rest_ (by omega)
  have ha15 : ∃ ad, (if cap = 0 + 1 then (⟨g, 0, none⟩ : Addr) else (⟨g, 0, none⟩ : Addr).add ((0 + 1) * 5)) = ad ∧ ad.block = g := ⟨_, rfl, by split; rfl; rw [add_lit']⟩
  obtain ⟨ad15, hq15, hab15⟩ := ha15
  rw [hq15] at hr15
  have HQ15 := Lib.hid hq15
  clear hq15
  have hCb : Chg (fun k => k = b) w W5 := Chg.of_below hb5
  have hnc : n ≤ cap := hrd.le
  clear hb5 h hrow hown hrd hal hr5
  obtain ⟨wz, hwz⟩ : ∃ x, x = w.heap.size := ⟨_, rfl⟩
  rw [← hwz] at z4 z8 hs5 hbl
  rw [show Value.pointer (some ⟨w.heap.size, 0, none⟩) = Value.pointer (some ⟨wz, 0, none⟩) by rw [hwz], show Value.pointer (some ⟨w.heap.size + 1, 0, none⟩) = Value.pointer (some ⟨wz + 1, 0, none⟩) by rw [hwz]]
  have hwle : w.heap.size ≤ wz := by omega
  have hbasez : base ≤ wz := by omega
  clear hwz
  have hwb : b ≠ wz := by omega
  have hwb1 : b ≠ wz + 1 := by omega
  obtain ⟨B, hB⟩ : ∃ B, B = W5.heap.size := ⟨_, rfl⟩
  rw [← hB] at hs5 hgw
  have hbB : b < B := by omega
  obtain ⟨S0, hS0⟩ : ∃ S0 : Nat → Prop, S0 = fun k => k = b ∨ B ≤ k := ⟨_, rfl⟩
  have hSg : ¬ S0 g := by rw [hS0]; rintro (e | e) <;> omega
  have HN40 : Hid ((0 + 0) * 40 ≤ 140737488355328 ∧ (0 + (n - (0 + 1))) * 40 ≤ 140737488355328) := ⟨by omega, by omega⟩
  have hi1 : ((0 : Nat) : Int) + 1 ≤ n := by omega
  obtain ⟨G, hG⟩ : ∃ G : Option Value → Option Value → Option Value → Option Value → Option Value → Option Value → Option Value → Option Value → World → Prop, ∀ q p q2 p2 x a d z W, G q p q2 p2 x a d z W = (((a.isSome = true → x.isSome = true ∧ q2.isSome = true) ∧ (d.isSome = true → a.isSome = true ∧ p2.isSome = true) ∧ (z.isSome = true → d.isSome = true) ∧ (q2.isSome = true → q.isSome = true) ∧ (p2.isSome = true → p.isSome = true)) ∧ Ch2 63 5 B 0 (n - (0 + 1)) (rqs (l.take 0)) (rqs (l.drop (0 + 1))) x a none d W ∧ Chg S0 W5 W ∧ Box W b 0 (.int .i64 room) ∧ Box W b 2 (.int .i64 last) ∧ Box W b 3 (.int .i64 done) ∧ (z = none → Box W b 1 (.slice (some ⟨g, 0, none⟩) n cap)) ∧ (z.isSome = true → ∀ u, d = some u → Box W b 1 u)) := ⟨_, fun _ _ _ _ _ _ _ _ _ => rfl⟩
  obtain ⟨S_, hS_⟩ : ∃ S_ : World → World → Prop, S_ = (Chg S0) := ⟨_, rfl⟩
  have hR_ : ∀ W, S_ W W := by intro W; rw [hS_]; exact Chg.refl _ _
  obtain ⟨T, hT⟩ : ∃ T : Nat → FactS S_, ∀ t_, T t_ = ([FactS.eq (.pointer (some ⟨b, 0, none⟩)), FactS.any, FactS.eq (.pointer (some ⟨b, 0, none⟩)), FactS.eq (.pointer (some ⟨b, 0, none⟩)), FactS.eq (.pointer (some ⟨b, 1, none⟩)), FactS.eq (.slice (some ⟨g, 0, none⟩) n cap), FactS.eq (.int .i64 0), FactS.eq (.slice (some ⟨g, 0, none⟩) 0 cap), FactS.any, FactS.eq (.pointer (some ⟨b, 0, none⟩)), FactS.eq (.pointer (some ⟨b, 0, none⟩)), FactS.eq (.pointer (some ⟨b, 1, none⟩)), FactS.eq (.slice (some ⟨g, 0, none⟩) n cap), FactS.eq (.int .i64 0), FactS.eq (.int .i64 (((0 : Nat) : Int) + 1)), FactS.eq (.slice (some ad15) (n - (0 + 1)) (cap - (0 + 1))), FactS.any, FactS.eq (.pointer (some ⟨b, 0, none⟩)), FactS.eq (.pointer (some ⟨b, 1, none⟩)), FactS.eq (undef)] : List (FactS S_)).getD t_ FactS.any := ⟨_, fun _ => rfl⟩
  have hP_ : ∀ i_ v_ (y_ : Nat → Option Value) W_, ([5, 12, 7, 15, 1, 8, 16, 19].contains i_) = false → G (y_ 5) (y_ 12) (y_ 7) (y_ 15) (y_ 1) (y_ 8) (y_ 16) (y_ 19) W_ → G (updY y_ i_ v_ 5) (updY y_ i_ v_ 12) (updY y_ i_ v_ 7) (updY y_ i_ v_ 15) (updY y_ i_ v_ 1) (updY y_ i_ v_ 8) (updY y_ i_ v_ 16) (updY y_ i_ v_ 19) W_ := by
    intro i_ v_ y_ W_ hi_ h_
    simp only [List.contains_cons, List.contains_nil, Bool.or_false, Bool.or_eq_false_iff, beq_eq_false_iff_ne, ne_eq] at hi_
    obtain ⟨i5_, i12_, i7_, i15_, i1_, i8_, i16_, i19_⟩ := hi_
    rw [updY_ne y_ i_ v_ i5_, updY_ne y_ i_ v_ i12_, updY_ne y_ i_ v_ i7_, updY_ne y_ i_ v_ i15_, updY_ne y_ i_ v_ i1_, updY_ne y_ i_ v_ i8_, updY_ne y_ i_ v_ i16_, updY_ne y_ i_ v_ i19_]
    exact h_
  refine region_tabJ [(0, 30), (1, 31), (2, 32), (3, 33), (4, 34), (5, 35), (6, 36), (7, 37), (8, 38), (9, 39), (10, 40), (11, 41), (12, 42), (13, 43), (14, 44), (15, 45), (16, 46), (17, 47), (18, 48)] S_ T (fun y_ W_ => G (y_ 5) (y_ 12) (y_ 7) (y_ 15) (y_ 1) (y_ 8) (y_ 16) (y_ 19) W_) (by kernel_rfl) (by kernel_rfl) (by kernel_rfl) (by kernel_rfl) (by kernel_rfl) ?_ ?_ ?_
  · skip
    show G none none none none none none none none _
    rw [hG]
    exact ⟨⟨(fun h => by cases h), (fun h => by cases h), (fun h => by cases h), (fun h => by cases h), (fun h => by cases h)⟩, Ch2.none_ (by rw [hB]; simp), (Chg.refl _ _).drewN 1, f0.drew 1, f2.drew 1, f3.drew 1, fun _ => f1.drew 1, fun h => by cases h⟩
  · skip
    refine stepsAll_cons (k := 0) ?_ ?_
    · intro fa fx fW fy hF hN hJ hE K fK
      have hJ : G (fy 5) (fy 12) (fy 7) (fy 15) (fy 1) (fy 8) (fy 16) (fy 19) fW := hJ
      have ev0 : fa.tmps[0]?.getD undef = .pointer (some ⟨b, 0, none⟩) := hF.eo 0 (by kernel_rfl)
      refine wpOp_val rfl (wanted_none rfl) ?_ (fK (.pointer (some ⟨b, 0, none⟩)) fW (hR_ fW) (by rw [hT]; exact rfl) (hP_ 0 _ fy fW rfl hJ))
      clear fK hE hF hJ hN
      go_simp
    refine stepsAll_cons (k := 1) ?_ ?_
    · intro fa fx fW fy hF hN hJ hE K fK
      have hJ : G (fy 5) (fy 12) (fy 7) (fy 15) (fy 1) (fy 8) (fy 16) (fy 19) fW := hJ
      rw [hG, hN] at hJ
      obtain ⟨⟨i1, i2, i3, i4, i5⟩, j1, j2, j3, j4, j5, j6, j7⟩ := hJ
      have a6 : fy 8 = none := by cases h : fy 8 with | none => rfl | some u => rw [h] at i1; exact absurd (i1 rfl).1 (by simp)
      have a9 : fy 16 = none := by cases h : fy 16 with | none => rfl | some u => rw [h, a6] at i2; exact absurd (i2 rfl).1 (by simp)
      rw [a6, a9] at j1
      have hal : Below fW.heap.size fW (fW.alloc (.cells #[] 63)) := below_al (Below.refl _ _) _
      refine wpOp_to rfl (wanted_none rfl) (v := .slice (some ⟨fW.heap.size, 0, none⟩) 0 0) (W' := fW.alloc (.cells #[] 63)) (by clear fK hE hF hN i1 i2 i3 i4 i5 j1 j2 j3 j4 j5 j6 j7; go_simp) (fK _ _ (by rw [hS_]; exact Chg.of_below hal) (by rw [hT]; exact trivial) ?_)
      show G (fy 5) (fy 12) (fy 7) (fy 15) (some _) (fy 8) (fy 16) (fy 19) _
      rw [hG, a6, a9]
      rw [a9] at i3
      exact ⟨⟨(fun h => by cases h), (fun h => by cases h), i3, i4, i5⟩, j1.x_, j2.trans (Chg.of_below hal), j3.below hal, j4.below hal, j5.below hal, fun e => (j6 e).below hal, fun e u e2 => by cases e2⟩
    refine stepsAll_cons (k := 2) ?_ ?_
    · intro fa fx fW fy hF hN hJ hE K fK
      have hJ : G (fy 5) (fy 12) (fy 7) (fy 15) (fy 1) (fy 8) (fy 16) (fy 19) fW := hJ
      have ev0 : fa.tmps[0]?.getD undef = .pointer (some ⟨b, 0, none⟩) := hF.eo 0 (by kernel_rfl)
      refine wpOp_val rfl (wanted_none rfl) ?_ (fK (.pointer (some ⟨b, 0, none⟩)) fW (hR_ fW) (by rw [hT]; exact rfl) (hP_ 2 _ fy fW rfl hJ))
      clear fK hE hF hJ hN
      go_simp
    refine stepsAll_cons (k := 3) ?_ ?_
    · intro fa fx fW fy hF hN hJ hE K fK
      have hJ : G (fy 5) (fy 12) (fy 7) (fy 15) (fy 1) (fy 8) (fy 16) (fy 19) fW := hJ
      have q2 : fx 2 = .pointer (some ⟨b, 0, none⟩) := by have q := (hE ⟨2, .data⟩ (by simp) rfl).2; rw [hT] at q; exact q
      have ev32 : fa.tmps[32]?.getD undef = .pointer (some ⟨b, 0, none⟩) := (hF.ev 2 32 (by kernel_rfl)).trans q2
      refine wpOp_val rfl (wanted_none rfl) ?_ (fK (.pointer (some ⟨b, 0, none⟩)) fW (hR_ fW) (by rw [hT]; exact rfl) (hP_ 3 _ fy fW rfl hJ))
      clear fK hE hF hJ hN
      go_simp
    refine stepsAll_cons (k := 4) ?_ ?_
    · intro fa fx fW fy hF hN hJ hE K fK
      have hJ : G (fy 5) (fy 12) (fy 7) (fy 15) (fy 1) (fy 8) (fy 16) (fy 19) fW := hJ
      have q3 : fx 3 = .pointer (some ⟨b, 0, none⟩) := by have q := (hE ⟨3, .data⟩ (by simp) rfl).2; rw [hT] at q; exact q
      have ev33 : fa.tmps[33]?.getD undef = .pointer (some ⟨b, 0, none⟩) := (hF.ev 3 33 (by kernel_rfl)).trans q3
      refine wpOp_val rfl (wanted_none rfl) ?_ (fK (.pointer (some ⟨b, 1, none⟩)) fW (hR_ fW) (by rw [hT]; exact rfl) (hP_ 4 _ fy fW rfl hJ))
      clear fK hE hF hJ hN
      go_simp
    refine stepsAll_cons (k := 5) ?_ ?_
    · intro fa fx fW fy hF hN hJ hE K fK
      have hJ : G (fy 5) (fy 12) (fy 7) (fy 15) (fy 1) (fy 8) (fy 16) (fy 19) fW := hJ
      have q4 : fx 4 = .pointer (some ⟨b, 1, none⟩) := by have q := (hE ⟨4, .data⟩ (by simp) rfl).2; rw [hT] at q; exact q
      have ev34 : fa.tmps[34]?.getD undef = .pointer (some ⟨b, 1, none⟩) := (hF.ev 4 34 (by kernel_rfl)).trans q4
      rw [hG, hN] at hJ
      obtain ⟨⟨i1, i2, i3, i4, i5⟩, j1, j2, j3, j4, j5, j6, j7⟩ := hJ
      have a7 : fy 7 = none := by cases h : fy 7 with | none => rfl | some u => rw [h] at i4; exact absurd (i4 rfl) (by simp)
      have a6 : fy 8 = none := by cases h : fy 8 with | none => rfl | some u => rw [h, a7] at i1; exact absurd (i1 rfl).2 (by simp)
      have a9 : fy 16 = none := by cases h : fy 16 with | none => rfl | some u => rw [h, a6] at i2; exact absurd (i2 rfl).1 (by simp)
      have a12 : fy 19 = none := by cases h : fy 19 with | none => rfl | some u => rw [h, a9] at i3; exact absurd (i3 rfl) (by simp)
      have k1 := (j6 a12).cell
      refine wpOp_val rfl (wanted_none rfl) (v := .slice (some ⟨g, 0, none⟩) n cap) (by clear fK hE hF hN i1 i2 i3 i4 i5 j1 j2 j3 j4 j5 j6 j7; go_simp) (fK _ _ (hR_ fW) (by rw [hT]; exact rfl) ?_)
      show G (some _) (fy 12) (fy 7) (fy 15) (fy 1) (fy 8) (fy 16) (fy 19) _
      rw [hG]
      exact ⟨⟨i1, i2, i3, (fun _ => rfl), i5⟩, j1, j2, j3, j4, j5, j6, j7⟩
    refine stepsAll_cons (k := 6) ?_ ?_
    · intro fa fx fW fy hF hN hJ hE K fK
      have hJ : G (fy 5) (fy 12) (fy 7) (fy 15) (fy 1) (fy 8) (fy 16) (fy 19) fW := hJ
      have ev8 : fa.tmps[8]?.getD undef = .int .i64 0 := hF.eo 8 (by kernel_rfl)
      refine wpOp_val rfl (wanted_none rfl) ?_ (fK (.int .i64 0) fW (hR_ fW) (by rw [hT]; exact rfl) (hP_ 6 _ fy fW rfl hJ))
      clear fK hE hF hJ hN
      go_simp
    refine stepsAll_cons (k := 7) ?_ ?_
    · intro fa fx fW fy hF hN hJ hE K fK
      have hJ : G (fy 5) (fy 12) (fy 7) (fy 15) (fy 1) (fy 8) (fy 16) (fy 19) fW := hJ
      have q5 : fx 5 = .slice (some ⟨g, 0, none⟩) n cap := by have q := (hE ⟨5, .data⟩ (by simp) rfl).2; rw [hT] at q; exact q
      have y5 : fy 5 = some (fx 5) := (hE ⟨5, .data⟩ (by simp) rfl).1
      have q6 : fx 6 = .int .i64 0 := by have q := (hE ⟨6, .data⟩ (by simp) rfl).2; rw [hT] at q; exact q
      have ev35 : fa.tmps[35]?.getD undef = .slice (some ⟨g, 0, none⟩) n cap := (hF.ev 5 35 (by kernel_rfl)).trans q5
      have ev36 : fa.tmps[36]?.getD undef = .int .i64 0 := (hF.ev 6 36 (by kernel_rfl)).trans q6
      rw [hG, hN] at hJ
      obtain ⟨⟨i1, i2, i3, i4, i5⟩, j1, j2, j3, j4, j5, j6, j7⟩ := hJ
      refine wpOp_val rfl (wanted_none rfl) (v := .slice (some ⟨g, 0, none⟩) 0 cap) ?_ (fK _ _ (hR_ fW) (by rw [hT]; exact rfl) ?_)
      · clear fK hE hF hN i1 i2 i3 i4 i5 j1 j2 j3 j4 j5 j6 j7
        go_simp
        all_goals (intro h; omega)
      · show G (fy 5) (fy 12) (some _) (fy 15) (fy 1) (fy 8) (fy 16) (fy 19) _
        rw [hG]
        exact ⟨⟨(fun h => ⟨(i1 h).1, rfl⟩), i2, i3, (fun _ => by rw [y5]; rfl), i5⟩, j1, j2, j3, j4, j5, j6, j7⟩
    refine stepsAll_cons (k := 8) ?_ ?_
    · intro fa fx fW fy hF hN hJ hE K fK
      have hJ : G (fy 5) (fy 12) (fy 7) (fy 15) (fy 1) (fy 8) (fy 16) (fy 19) fW := hJ
      have q1 : (FactS.any : FactS S_).p (fx 1) fW := by have q := (hE ⟨1, .data⟩ (by simp) rfl).2; rw [hT] at q; exact q
      have y1 : fy 1 = some (fx 1) := (hE ⟨1, .data⟩ (by simp) rfl).1
      have q7 : fx 7 = .slice (some ⟨g, 0, none⟩) 0 cap := by have q := (hE ⟨7, .data⟩ (by simp) rfl).2; rw [hT] at q; exact q
      have y7 : fy 7 = some (fx 7) := (hE ⟨7, .data⟩ (by simp) rfl).1
      have ev31 : fa.tmps[31]?.getD undef = fx 1 := hF.ev 1 31 (by kernel_rfl)
      have ev37 : fa.tmps[37]?.getD undef = .slice (some ⟨g, 0, none⟩) 0 cap := (hF.ev 7 37 (by kernel_rfl)).trans q7
      rw [hG, hN, y1] at hJ
      obtain ⟨⟨i1, i2, i3, i4, i5⟩, j1, j2, j3, j4, j5, j6, j7⟩ := hJ
      have a9 : fy 16 = none := by cases h : fy 16 with | none => rfl | some u => rw [h] at i2; exact absurd (i2 rfl).1 (by simp)
      rw [a9] at j1
      have ho := j1.hx _ rfl rfl
      have hrA := j2.rds hr7 (fun ad e => by cases e; exact hSg)
      refine wpOp_list rfl (apn (w0 := fW) B rfl _ _ 46 63 _ 5 40 (by rfl) Try.underlying46 info_rq2 rfl (by decide) (by decide) (fx 1) 0 [] _ 0 cap (rqs (l.take 0)) (by clear fK hE hF hN i1 i2 i3 i4 i5 j1 j2 j3 j4 j5 j6 j7; go_simp) (by clear fK hE hF hN i1 i2 i3 i4 i5 j1 j2 j3 j4 j5 j6 j7; go_simp) hrA (rqs_one_cell _) ho (Below.refl _ _) j1.hB HN40.out.1 ?_)
      intro v1 w1 p1 p2 p3 p4
      rw [Nat.zero_add, List.nil_append] at p1
      have hch : Chg S0 fW w1 := Chg.of_grown p3 (fun k e => by rw [hS0]; exact .inr (own_base ho k e))
      have hch2 : Chg (fun k => B ≤ k) fW w1 := Chg.of_grown p3 (fun k e => own_base ho k e)
      refine fK _ _ (by rw [hS_]; exact hch) (by rw [hT]; exact trivial) ?_
      show G (fy 5) (fy 12) (fy 7) (fy 15) (fy 1) (some v1) (fy 16) (fy 19) w1
      rw [hG, a9, y1]
      rw [a9] at i3
      have k1 := j1.a_ p1 p3 p4
      exact ⟨⟨(fun _ => ⟨rfl, by rw [y7]; rfl⟩), (fun h => by cases h), i3, i4, i5⟩, k1, j2.trans hch, j3.keep hch2 (by omega), j4.keep hch2 (by omega), j5.keep hch2 (by omega), fun e => (j6 e).keep hch2 (by omega), fun e u e2 => by cases e2⟩
    refine stepsAll_cons (k := 9) ?_ ?_
    · intro fa fx fW fy hF hN hJ hE K fK
      have hJ : G (fy 5) (fy 12) (fy 7) (fy 15) (fy 1) (fy 8) (fy 16) (fy 19) fW := hJ
      have ev0 : fa.tmps[0]?.getD undef = .pointer (some ⟨b, 0, none⟩) := hF.eo 0 (by kernel_rfl)
      refine wpOp_val rfl (wanted_none rfl) ?_ (fK (.pointer (some ⟨b, 0, none⟩)) fW (hR_ fW) (by rw [hT]; exact rfl) (hP_ 9 _ fy fW rfl hJ))
      clear fK hE hF hJ hN
      go_simp
    refine stepsAll_cons (k := 10) ?_ ?_
    · intro fa fx fW fy hF hN hJ hE K fK
      have hJ : G (fy 5) (fy 12) (fy 7) (fy 15) (fy 1) (fy 8) (fy 16) (fy 19) fW := hJ
      have q9 : fx 9 = .pointer (some ⟨b, 0, none⟩) := by have q := (hE ⟨9, .data⟩ (by simp) rfl).2; rw [hT] at q; exact q
      have ev39 : fa.tmps[39]?.getD undef = .pointer (some ⟨b, 0, none⟩) := (hF.ev 9 39 (by kernel_rfl)).trans q9
      refine wpOp_val rfl (wanted_none rfl) ?_ (fK (.pointer (some ⟨b, 0, none⟩)) fW (hR_ fW) (by rw [hT]; exact rfl) (hP_ 10 _ fy fW rfl hJ))
      clear fK hE hF hJ hN
      go_simp
    refine stepsAll_cons (k := 11) ?_ ?_
    · intro fa fx fW fy hF hN hJ hE K fK
      have hJ : G (fy 5) (fy 12) (fy 7) (fy 15) (fy 1) (fy 8) (fy 16) (fy 19) fW := hJ
      have q10 : fx 10 = .pointer (some ⟨b, 0, none⟩) := by have q := (hE ⟨10, .data⟩ (by simp) rfl).2; rw [hT] at q; exact q
      have ev40 : fa.tmps[40]?.getD undef = .pointer (some ⟨b, 0, none⟩) := (hF.ev 10 40 (by kernel_rfl)).trans q10
      refine wpOp_val rfl (wanted_none rfl) ?_ (fK (.pointer (some ⟨b, 1, none⟩)) fW (hR_ fW) (by rw [hT]; exact rfl) (hP_ 11 _ fy fW rfl hJ))
      clear fK hE hF hJ hN
      go_simp
    refine stepsAll_cons (k := 12) ?_ ?_
    · intro fa fx fW fy hF hN hJ hE K fK
      have hJ : G (fy 5) (fy 12) (fy 7) (fy 15) (fy 1) (fy 8) (fy 16) (fy 19) fW := hJ
      have q11 : fx 11 = .pointer (some ⟨b, 1, none⟩) := by have q := (hE ⟨11, .data⟩ (by simp) rfl).2; rw [hT] at q; exact q
      have ev41 : fa.tmps[41]?.getD undef = .pointer (some ⟨b, 1, none⟩) := (hF.ev 11 41 (by kernel_rfl)).trans q11
      rw [hG, hN] at hJ
      obtain ⟨⟨i1, i2, i3, i4, i5⟩, j1, j2, j3, j4, j5, j6, j7⟩ := hJ
      have a15 : fy 15 = none := by cases h : fy 15 with | none => rfl | some u => rw [h] at i5; exact absurd (i5 rfl) (by simp)
      have a9 : fy 16 = none := by cases h : fy 16 with | none => rfl | some u => rw [h, a15] at i2; exact absurd (i2 rfl).2 (by simp)
      have a12 : fy 19 = none := by cases h : fy 19 with | none => rfl | some u => rw [h, a9] at i3; exact absurd (i3 rfl) (by simp)
      have k1 := (j6 a12).cell
      refine wpOp_val rfl (wanted_none rfl) (v := .slice (some ⟨g, 0, none⟩) n cap) (by clear fK hE hF hN i1 i2 i3 i4 i5 j1 j2 j3 j4 j5 j6 j7; go_simp) (fK _ _ (hR_ fW) (by rw [hT]; exact rfl) ?_)
      show G (fy 5) (some _) (fy 7) (fy 15) (fy 1) (fy 8) (fy 16) (fy 19) _
      rw [hG]
      exact ⟨⟨i1, i2, i3, i4, (fun _ => rfl)⟩, j1, j2, j3, j4, j5, j6, j7⟩
    refine stepsAll_cons (k := 13) ?_ ?_
    · intro fa fx fW fy hF hN hJ hE K fK
      have hJ : G (fy 5) (fy 12) (fy 7) (fy 15) (fy 1) (fy 8) (fy 16) (fy 19) fW := hJ
      have ev8 : fa.tmps[8]?.getD undef = .int .i64 0 := hF.eo 8 (by kernel_rfl)
      refine wpOp_val rfl (wanted_none rfl) ?_ (fK (.int .i64 0) fW (hR_ fW) (by rw [hT]; exact rfl) (hP_ 13 _ fy fW rfl hJ))
      clear fK hE hF hJ hN
      go_simp
    refine stepsAll_cons (k := 14) ?_ ?_
    · intro fa fx fW fy hF hN hJ hE K fK
      have hJ : G (fy 5) (fy 12) (fy 7) (fy 15) (fy 1) (fy 8) (fy 16) (fy 19) fW := hJ
      have q13 : fx 13 = .int .i64 0 := by have q := (hE ⟨13, .data⟩ (by simp) rfl).2; rw [hT] at q; exact q
      have ev43 : fa.tmps[43]?.getD undef = .int .i64 0 := (hF.ev 13 43 (by kernel_rfl)).trans q13
      refine wpOp_val rfl (wanted_none rfl) ?_ (fK (.int .i64 (((0 : Nat) : Int) + 1)) fW (hR_ fW) (by rw [hT]; exact rfl) (hP_ 14 _ fy fW rfl hJ))
      clear fK hE hF hJ hN
      go_simp
      exact IntWalk.i64_in _ (by omega)
    refine stepsAll_cons (k := 15) ?_ ?_
    · intro fa fx fW fy hF hN hJ hE K fK
      have hJ : G (fy 5) (fy 12) (fy 7) (fy 15) (fy 1) (fy 8) (fy 16) (fy 19) fW := hJ
      have q12 : fx 12 = .slice (some ⟨g, 0, none⟩) n cap := by have q := (hE ⟨12, .data⟩ (by simp) rfl).2; rw [hT] at q; exact q
      have y12 : fy 12 = some (fx 12) := (hE ⟨12, .data⟩ (by simp) rfl).1
      have q14 : fx 14 = .int .i64 (((0 : Nat) : Int) + 1) := by have q := (hE ⟨14, .data⟩ (by simp) rfl).2; rw [hT] at q; exact q
      have ev42 : fa.tmps[42]?.getD undef = .slice (some ⟨g, 0, none⟩) n cap := (hF.ev 12 42 (by kernel_rfl)).trans q12
      have ev44 : fa.tmps[44]?.getD undef = .int .i64 (((0 : Nat) : Int) + 1) := (hF.ev 14 44 (by kernel_rfl)).trans q14
      rw [hG, hN] at hJ
      obtain ⟨⟨i1, i2, i3, i4, i5⟩, j1, j2, j3, j4, j5, j6, j7⟩ := hJ
      refine wpOp_val rfl (wanted_none rfl) (v := .slice (some ad15) (n - (0 + 1)) (cap - (0 + 1))) ?_ (fK _ _ (hR_ fW) (by rw [hT]; exact rfl) ?_)
      · clear fK hE hF hN i1 i2 i3 i4 i5 j1 j2 j3 j4 j5 j6 j7
        go_simp
        rw [if_pos (by omega)]
        rw [← HQ15.out]
        by_cases hcc : cap = 0 + 1 <;> simp [hcc, add_lit']
      · show G (fy 5) (fy 12) (fy 7) (some _) (fy 1) (fy 8) (fy 16) (fy 19) _
        rw [hG]
        exact ⟨⟨i1, (fun h => ⟨(i2 h).1, rfl⟩), i3, i4, (fun _ => by rw [y12]; rfl)⟩, j1, j2, j3, j4, j5, j6, j7⟩
    refine stepsAll_cons (k := 16) ?_ ?_
    · intro fa fx fW fy hF hN hJ hE K fK
      have hJ : G (fy 5) (fy 12) (fy 7) (fy 15) (fy 1) (fy 8) (fy 16) (fy 19) fW := hJ
      have q8 : (FactS.any : FactS S_).p (fx 8) fW := by have q := (hE ⟨8, .data⟩ (by simp) rfl).2; rw [hT] at q; exact q
      have y8 : fy 8 = some (fx 8) := (hE ⟨8, .data⟩ (by simp) rfl).1
      have q15 : fx 15 = .slice (some ad15) (n - (0 + 1)) (cap - (0 + 1)) := by have q := (hE ⟨15, .data⟩ (by simp) rfl).2; rw [hT] at q; exact q
      have y15 : fy 15 = some (fx 15) := (hE ⟨15, .data⟩ (by simp) rfl).1
      have ev38 : fa.tmps[38]?.getD undef = fx 8 := hF.ev 8 38 (by kernel_rfl)
      have ev45 : fa.tmps[45]?.getD undef = .slice (some ad15) (n - (0 + 1)) (cap - (0 + 1)) := (hF.ev 15 45 (by kernel_rfl)).trans q15
      rw [hG, hN, y8] at hJ
      obtain ⟨⟨i1, i2, i3, i4, i5⟩, j1, j2, j3, j4, j5, j6, j7⟩ := hJ
      have ho := j1.ha _ rfl rfl
      have hrA := j2.rds hr15 (fun ad e => by cases e; rw [hab15]; exact hSg)
      refine wpOp_list rfl (apn (w0 := fW) B rfl _ _ 46 63 _ 5 40 (by rfl) Try.underlying46 info_rq2 rfl (by decide) (by decide) (fx 8) 0 (rqs (l.take 0)) _ (n - (0 + 1)) (cap - (0 + 1)) (rqs (l.drop (0 + 1))) (by clear fK hE hF hN i1 i2 i3 i4 i5 j1 j2 j3 j4 j5 j6 j7; go_simp) (by clear fK hE hF hN i1 i2 i3 i4 i5 j1 j2 j3 j4 j5 j6 j7; go_simp) hrA (rqs_one_cell _) ho (Below.refl _ _) j1.hB HN40.out.2 ?_)
      intro v1 w1 p1 p2 p3 p4
      have hch : Chg S0 fW w1 := Chg.of_grown p3 (fun k e => by rw [hS0]; exact .inr (own_base ho k e))
      have hch2 : Chg (fun k => B ≤ k) fW w1 := Chg.of_grown p3 (fun k e => own_base ho k e)
      refine fK _ _ (by rw [hS_]; exact hch) (by rw [hT]; exact trivial) ?_
      show G (fy 5) (fy 12) (fy 7) (fy 15) (fy 1) (fy 8) (some v1) (fy 19) w1
      rw [hG, y8]
      have a12 : fy 19 = none := by cases h : fy 19 with | none => rfl | some u => rw [h] at i3; exact absurd (i3 rfl) (by simp)
      exact ⟨⟨(fun _ => i1 rfl), (fun _ => ⟨rfl, by rw [y15]; rfl⟩), (fun _ => rfl), i4, i5⟩, j1.d_ hch.size p1, j2.trans hch, j3.keep hch2 (by omega), j4.keep hch2 (by omega), j5.keep hch2 (by omega), fun e => (j6 e).keep hch2 (by omega), fun e => by rw [a12] at e; cases e⟩
    refine stepsAll_cons (k := 17) ?_ ?_
    · intro fa fx fW fy hF hN hJ hE K fK
      have hJ : G (fy 5) (fy 12) (fy 7) (fy 15) (fy 1) (fy 8) (fy 16) (fy 19) fW := hJ
      have q0 : fx 0 = .pointer (some ⟨b, 0, none⟩) := by have q := (hE ⟨0, .data⟩ (by simp) rfl).2; rw [hT] at q; exact q
      have ev30 : fa.tmps[30]?.getD undef = .pointer (some ⟨b, 0, none⟩) := (hF.ev 0 30 (by kernel_rfl)).trans q0
      refine wpOp_val rfl (wanted_none rfl) ?_ (fK (.pointer (some ⟨b, 0, none⟩)) fW (hR_ fW) (by rw [hT]; exact rfl) (hP_ 17 _ fy fW rfl hJ))
      clear fK hE hF hJ hN
      go_simp
    refine stepsAll_cons (k := 18) ?_ ?_
    · intro fa fx fW fy hF hN hJ hE K fK
      have hJ : G (fy 5) (fy 12) (fy 7) (fy 15) (fy 1) (fy 8) (fy 16) (fy 19) fW := hJ
      have q17 : fx 17 = .pointer (some ⟨b, 0, none⟩) := by have q := (hE ⟨17, .data⟩ (by simp) rfl).2; rw [hT] at q; exact q
      have ev47 : fa.tmps[47]?.getD undef = .pointer (some ⟨b, 0, none⟩) := (hF.ev 17 47 (by kernel_rfl)).trans q17
      refine wpOp_val rfl (wanted_none rfl) ?_ (fK (.pointer (some ⟨b, 1, none⟩)) fW (hR_ fW) (by rw [hT]; exact rfl) (hP_ 18 _ fy fW rfl hJ))
      clear fK hE hF hJ hN
      go_simp
    refine stepsAll_cons (k := 19) ?_ ?_
    · intro fa fx fW fy hF hN hJ hE K fK
      have hJ : G (fy 5) (fy 12) (fy 7) (fy 15) (fy 1) (fy 8) (fy 16) (fy 19) fW := hJ
      have q16 : (FactS.any : FactS S_).p (fx 16) fW := by have q := (hE ⟨16, .data⟩ (by simp) rfl).2; rw [hT] at q; exact q
      have y16 : fy 16 = some (fx 16) := (hE ⟨16, .data⟩ (by simp) rfl).1
      have q18 : fx 18 = .pointer (some ⟨b, 1, none⟩) := by have q := (hE ⟨18, .data⟩ (by simp) rfl).2; rw [hT] at q; exact q
      have ev46 : fa.tmps[46]?.getD undef = fx 16 := hF.ev 16 46 (by kernel_rfl)
      have ev48 : fa.tmps[48]?.getD undef = .pointer (some ⟨b, 1, none⟩) := (hF.ev 18 48 (by kernel_rfl)).trans q18
      rw [hG, hN, y16] at hJ
      obtain ⟨⟨i1, i2, i3, i4, i5⟩, j1, j2, j3, j4, j5, j6, j7⟩ := hJ
      have hx := j6 rfl
      have hxc := hx.cell
      have hxf := hx.free
      have ho := j1.hd _ rfl
      obtain ⟨UA, uc, hu⟩ := own_slice ho
      have hch : Chg S0 fW (fW.setCell ⟨b, 1, none⟩ (fx 16)) := (Chg.refl _ _).setCell b 1 _ (by rw [hS0]; exact .inl rfl)
      have hch2 : Chg (fun k => k = b) fW (fW.setCell ⟨b, 1, none⟩ (fx 16)) := (Chg.refl _ _).setCell b 1 _ rfl
      have z0 : Box (fW.setCell ⟨b, 1, none⟩ (fx 16)) b 0 (.int .i64 room) := by have := j3.cell; have := j3.free; clear fK hE hF; constructor <;> go_simp
      have z2 : Box (fW.setCell ⟨b, 1, none⟩ (fx 16)) b 2 (.int .i64 last) := by have := j4.cell; have := j4.free; clear fK hE hF; constructor <;> go_simp
      have z3 : Box (fW.setCell ⟨b, 1, none⟩ (fx 16)) b 3 (.int .i64 done) := by have := j5.cell; have := j5.free; clear fK hE hF; constructor <;> go_simp
      have i2' := i2 rfl
      obtain ⟨va, hva⟩ := Option.isSome_iff_exists.1 i2'.1
      rw [hva] at j1
      have jk := j1.keep hch2 (fun k e => by omega)
      refine wpOp_done rfl (wanted_none rfl) (W' := fW.setCell ⟨b, 1, none⟩ (fx 16)) (by clear fK hE hF hN z0 z2 z3 i1 i2 i3 i4 i5 i2' j1 j2 j3 j4 j5 j6 j7 jk; rw [hu] at ev46 ⊢; go_simp) (fK undef _ (by rw [hS_]; exact hch) (by rw [hT]; exact rfl) ?_)
      show G (fy 5) (fy 12) (fy 7) (fy 15) (fy 1) (fy 8) (fy 16) (some undef) _
      rw [hG, y16]
      rw [hva] at i1 ⊢
      exact ⟨⟨i1, (fun _ => ⟨rfl, i2'.2⟩), (fun _ => rfl), i4, i5⟩, jk, j2.trans hch, z0, z2, z3, (fun e => by cases e), fun _ u e => by cases e; exact hx.set _⟩
    exact stepsAll_nil
  intro fa fx fW fy hF hJ0 hx
  have y5 : fy 5 = some (fx 5) := (hx 5 (by decide)).1
  have y12 : fy 12 = some (fx 12) := (hx 12 (by decide)).1
  have y7 : fy 7 = some (fx 7) := (hx 7 (by decide)).1
  have y15 : fy 15 = some (fx 15) := (hx 15 (by decide)).1
  have y1 : fy 1 = some (fx 1) := (hx 1 (by decide)).1
  have y8 : fy 8 = some (fx 8) := (hx 8 (by decide)).1
  have y16 : fy 16 = some (fx 16) := (hx 16 (by decide)).1
  have y19 : fy 19 = some (fx 19) := (hx 19 (by decide)).1
  have hJ : G (fy 5) (fy 12) (fy 7) (fy 15) (fy 1) (fy 8) (fy 16) (fy 19) fW := hJ0
  clear hJ0
  rw [y5, y12, y7, y15, y1, y8, y16, y19] at hJ
  rw [hF.eq]
  clear hF hx hT T hP_ hR_ y5 y12 y7 y15 y1 y8 y16 y19
  simp only [putAll, Act.put, List.setIfInBounds_toArray, List.set_cons_zero, List.set_cons_succ, ]
  rw [hG] at hJ
  obtain ⟨_, j1, j2, j3, j4, j5, j6, j7⟩ := hJ
  have k1 := j7 rfl _ rfl
  have k2 := j1.hd _ rfl
  have hu := own_base k2
  have y4 := z4.keep j2 (by rw [hS0]; rintro (e | e) <;> omega)
  have y8 := z8.keep j2 (by rw [hS0]; rintro (e | e) <;> omega)
  have hCC := hCb.trans (j2.mono (S' := fun k => k = b) (fun k hk e => by rw [hS0] at e; rcases e with e | e; exact e; omega))
  generalize fx 16 = u at k1 k2 hu
  clear j1 j2 j6 j7 z4 z8 hr7 hr15 f0 f1 f2 f3
  have d0 := j5.cell
  have d1 := j5.free
  obtain ⟨W4, hW4⟩ : ∃ W4, W4 = fW.setCell ⟨b, 3, none⟩ (.int .i64 (done + 1)) := ⟨_, rfl⟩
  go_wp2
  rw [← hW4]
  have c4 : Chg (fun k => k = b) fW W4 := by rw [hW4]; exact (Chg.refl _ _).setCell b 3 _ rfl
  have e0 : Box W4 b 0 (.int .i64 room) := by have := j3.cell; have := j3.free; rw [hW4]; constructor <;> go_simp
  have e1 : Box W4 b 1 u := by have := k1.cell; have := k1.free; rw [hW4]; constructor <;> go_simp
  have e2 : Box W4 b 2 (.int .i64 last) := by have := j4.cell; have := j4.free; rw [hW4]; constructor <;> go_simp
  have e3 : Box W4 b 3 (.int .i64 (done + 1)) := by have := j5.cell; have := j5.free; rw [hW4]; constructor <;> go_simp
  have o4 := c4.own k2 (fun k hk e => by have := hu k hk; omega)
  have x4 := y4.keep c4 (by omega)
  have x8 := y8.keep c4 (by omega)
  have hC4 := hCC.trans c4
  clear hW4 c4 j3 j4 j5 k1 k2 y4 y8 hCC d0 d1 hCb
  clear G hG
  obtain ⟨G, hG⟩ : ∃ G : Option Value → World → Prop, ∀ a W, G a W = (Chg (fun k => k = wz) W4 W ∧ (a = none → Box5 W wz ⟨0, 0, 0, 0, 0⟩) ∧ (a.isSome = true → Box5 W wz ⟨r1, r2, r3, r4, r5⟩)) := ⟨_, fun _ _ => rfl⟩
  obtain ⟨S_, hS_⟩ : ∃ S_ : World → World → Prop, S_ = (Chg (fun k => k = wz)) := ⟨_, rfl⟩
  have hR_ : ∀ W, S_ W W := by intro W; rw [hS_]; exact Chg.refl _ _
  obtain ⟨T, hT⟩ : ∃ T : Nat → FactS S_, ∀ t_, T t_ = ([FactS.eq (.agg #[.int .i64 r1, .int .i64 r2, .int .i64 r3, .int .i64 r4, .int .i64 r5]), FactS.eq (.agg #[.int .i64 r1, .int .i64 r2, .int .i64 r3, .int .i64 r4, .int .i64 r5]), FactS.eq (.int .i64 (resV ⟨r1, r2, r3, r4, r5⟩)), FactS.eq (undef), FactS.eq (.int .i64 (resV ⟨r1, r2, r3, r4, r5⟩)), FactS.eq (.int .i64 0)] : List (FactS S_)).getD t_ FactS.any := ⟨_, fun _ => rfl⟩
  have hP_ : ∀ i_ v_ (y_ : Nat → Option Value) W_, ([3].contains i_) = false → G (y_ 3) W_ → G (updY y_ i_ v_ 3) W_ := by
    intro i_ v_ y_ W_ hi_ h_
    simp only [List.contains_cons, List.contains_nil, Bool.or_false, beq_eq_false_iff_ne, ne_eq] at hi_
    rw [updY_ne y_ i_ v_ hi_]
    exact h_
  refine region_tabJ [(0, 56), (1, 57), (2, 58), (4, 5), (5, 6)] S_ T (fun y_ W_ => G (y_ 3) W_) (by kernel_rfl) (by kernel_rfl) (by kernel_rfl) (by kernel_rfl) (by kernel_rfl) ?_ ?_ ?_
  · skip
    show G none _
    rw [hG]
    exact ⟨(Chg.refl _ _).drewN 1, fun _ => x4.below (below_dr (Below.refl _ _) 1), fun h => by cases h⟩
  · skip
    refine stepsAll_cons (k := 0) ?_ ?_
    · intro fa fx fW fy hF hN hJ hE K fK
      have hJ : G (fy 3) fW := hJ
      have ev9 : fa.tmps[9]?.getD undef = .pointer (some ⟨wz + 1, 0, none⟩) := hF.eo 9 (by kernel_rfl)
      have hJ1 := hJ
      rw [hG] at hJ1
      have y8 := x8.keep hJ1.1 (by omega)
      have k0 := y8.c0.cell
      have k1 := y8.c1.cell
      have k2 := y8.c2.cell
      have k3 := y8.c3.cell
      have k4 := y8.c4.cell
      clear hJ1 y8
      refine wpOp_val rfl (wanted_none rfl) ?_ (fK (.agg #[.int .i64 r1, .int .i64 r2, .int .i64 r3, .int .i64 r4, .int .i64 r5]) fW (hR_ fW) (by rw [hT]; exact rfl) (hP_ 0 _ fy fW rfl hJ))
      clear fK hE hF hJ hN
      go_simp
    refine stepsAll_cons (k := 1) ?_ ?_
    · intro fa fx fW fy hF hN hJ hE K fK
      have hJ : G (fy 3) fW := hJ
      have ev9 : fa.tmps[9]?.getD undef = .pointer (some ⟨wz + 1, 0, none⟩) := hF.eo 9 (by kernel_rfl)
      have hJ1 := hJ
      rw [hG] at hJ1
      have y8 := x8.keep hJ1.1 (by omega)
      have k0 := y8.c0.cell
      have k1 := y8.c1.cell
      have k2 := y8.c2.cell
      have k3 := y8.c3.cell
      have k4 := y8.c4.cell
      clear hJ1 y8
      refine wpOp_val rfl (wanted_none rfl) ?_ (fK (.agg #[.int .i64 r1, .int .i64 r2, .int .i64 r3, .int .i64 r4, .int .i64 r5]) fW (hR_ fW) (by rw [hT]; exact rfl) (hP_ 1 _ fy fW rfl hJ))
      clear fK hE hF hJ hN
      go_simp
    refine stepsAll_cons (k := 2) ?_ ?_
    · intro fa fx fW fy hF hN hJ hE K fK
      have hJ : G (fy 3) fW := hJ
      have q1 : fx 1 = .agg #[.int .i64 r1, .int .i64 r2, .int .i64 r3, .int .i64 r4, .int .i64 r5] := by have q := (hE ⟨1, .data⟩ (by simp) rfl).2; rw [hT] at q; exact q
      have ev57 : fa.tmps[57]?.getD undef = .agg #[.int .i64 r1, .int .i64 r2, .int .i64 r3, .int .i64 r4, .int .i64 r5] := (hF.ev 1 57 (by kernel_rfl)).trans q1
      refine wpOp_call rfl (wanted_none rfl) (by go_simp; exact ⟨rfl, rfl⟩) ?_
      refine (rresult ⟨r1, r2, r3, r4, r5⟩ fW).mono ?_
      rintro e w' ⟨rfl, hbb⟩
      rw [hG] at hJ
      exact ⟨_, rfl, fK (.int .i64 (resV ⟨r1, r2, r3, r4, r5⟩)) w' (by rw [hS_]; exact Chg.of_below hbb) (by rw [hT]; exact rfl) (by show G (fy 3) w'; rw [hG]; exact ⟨hJ.1.trans (Chg.of_below hbb), fun e => (hJ.2.1 e).below hbb, fun e => (hJ.2.2 e).below hbb⟩)⟩
    refine stepsAll_cons (k := 3) ?_ ?_
    · intro fa fx fW fy hF hN hJ hE K fK
      have hJ : G (fy 3) fW := hJ
      have q0 : fx 0 = .agg #[.int .i64 r1, .int .i64 r2, .int .i64 r3, .int .i64 r4, .int .i64 r5] := by have q := (hE ⟨0, .data⟩ (by simp) rfl).2; rw [hT] at q; exact q
      have ev56 : fa.tmps[56]?.getD undef = .agg #[.int .i64 r1, .int .i64 r2, .int .i64 r3, .int .i64 r4, .int .i64 r5] := (hF.ev 0 56 (by kernel_rfl)).trans q0
      have ev4 : fa.tmps[4]?.getD undef = .pointer (some ⟨wz, 0, none⟩) := hF.eo 4 (by kernel_rfl)
      rw [hG, hN] at hJ
      obtain ⟨j0, j1, j2⟩ := hJ
      have x4 := j1 rfl
      have a0 := x4.c0.cell
      have a1 := x4.c1.cell
      have a2 := x4.c2.cell
      have a3 := x4.c3.cell
      have a4 := x4.c4.cell
      have f0 := x4.c0.free
      have f1 := x4.c1.free
      have f2 := x4.c2.free
      have f3 := x4.c3.free
      have f4 := x4.c4.free
      have hch : Chg (fun k => k = wz) fW (((((fW.setCell ⟨wz, 0, none⟩ (.int .i64 r1)).setCell ⟨wz, 1, none⟩ (.int .i64 r2)).setCell ⟨wz, 2, none⟩ (.int .i64 r3)).setCell ⟨wz, 3, none⟩ (.int .i64 r4)).setCell ⟨wz, 4, none⟩ (.int .i64 r5)) :=
        ((((((Chg.refl (fun k => k = wz) fW).setCell wz 0 _ rfl).setCell wz 1 _ rfl).setCell wz 2 _ rfl).setCell wz 3 _ rfl).setCell wz 4 _ rfl)
      have x5 : Box5 (((((fW.setCell ⟨wz, 0, none⟩ (.int .i64 r1)).setCell ⟨wz, 1, none⟩ (.int .i64 r2)).setCell ⟨wz, 2, none⟩ (.int .i64 r3)).setCell ⟨wz, 3, none⟩ (.int .i64 r4)).setCell ⟨wz, 4, none⟩ (.int .i64 r5)) wz ⟨r1, r2, r3, r4, r5⟩ := by
        clear fK hE hF hN
        constructor <;> constructor <;> go_simp
      refine wpOp_done rfl (wanted_none rfl) (W' := (((((fW.setCell ⟨wz, 0, none⟩ (.int .i64 r1)).setCell ⟨wz, 1, none⟩ (.int .i64 r2)).setCell ⟨wz, 2, none⟩ (.int .i64 r3)).setCell ⟨wz, 3, none⟩ (.int .i64 r4)).setCell ⟨wz, 4, none⟩ (.int .i64 r5))) (by clear fK hE hF hN x5 hch; go_simp) (fK undef _ (by rw [hS_]; exact hch) (by rw [hT]; exact rfl) ?_)
      show G (some undef) _
      rw [hG]
      exact ⟨j0.trans hch, (fun e => by cases e), fun _ => x5⟩
    refine stepsAll_cons (k := 4) ?_ ?_
    · intro fa fx fW fy hF hN hJ hE K fK
      have hJ : G (fy 3) fW := hJ
      have q2 : (FactS.eq (.int .i64 (resV ⟨r1, r2, r3, r4, r5⟩)) : FactS S_).p (fx 2) fW := by have q := (hE ⟨2, .data⟩ (by simp) rfl).2; rw [hT] at q; exact q
      have ev58 : fa.tmps[58]?.getD undef = fx 2 := hF.ev 2 58 (by kernel_rfl)
      refine wpOp_val rfl (wanted_none rfl) ?_ (fK (fx 2) fW (hR_ fW) (by rw [hT]; exact q2) (hP_ 4 _ fy fW rfl hJ))
      clear fK hE hF hJ hN
      go_simp
    refine stepsAll_cons (k := 5) ?_ ?_
    · intro fa fx fW fy hF hN hJ hE K fK
      have hJ : G (fy 3) fW := hJ
      refine wpOp_val rfl (wanted_none rfl) ?_ (fK (.int .i64 0) fW (hR_ fW) (by rw [hT]; exact rfl) (hP_ 5 _ fy fW rfl hJ))
      clear fK hE hF hJ hN
      go_simp
    exact stepsAll_nil
  intro fa fx fW fy hF hJ0 hx
  have y3 : fy 3 = some (fx 3) := (hx 3 (by decide)).1
  have hJ : G (fy 3) fW := hJ0
  clear hJ0
  rw [y3] at hJ
  have q4 : (FactS.eq (.int .i64 (resV ⟨r1, r2, r3, r4, r5⟩)) : FactS S_).p (fx 4) fW := by have q := (hx 4 (by decide)).2; rw [hT] at q; exact q
  have ev5 : fa.tmps[5]?.getD undef = fx 4 := hF.ev 4 5 (by kernel_rfl)
  have q5 : fx 5 = .int .i64 0 := by have q := (hx 5 (by decide)).2; rw [hT] at q; exact q
  have ev6 : fa.tmps[6]?.getD undef = .int .i64 0 := (hF.ev 5 6 (by kernel_rfl)).trans q5
  rw [hF.eq]
  clear hF hx hT T hP_ hR_ y3
  simp only [putAll, Act.put, List.setIfInBounds_toArray, List.set_cons_zero, List.set_cons_succ, q5]
  rw [hG] at hJ
  obtain ⟨j0, j1, j2⟩ := hJ
  have x5 := j2 rfl
  have k0 := x5.c0.cell
  have k1 := x5.c1.cell
  have k2 := x5.c2.cell
  have k3 := x5.c3.cell
  have k4 := x5.c4.cell
  have o5 := own_mono (j0.own o4 (fun k hk e => by have := hu k hk; omega)) (base' := base) (by omega)
  have hle : (l.eraseIdx 0).length = n - 1 := by rw [List.length_eraseIdx_of_lt (by rw [← HN.out]; exact hlt), HN.out]
  have her : rqs (l.take 0) ++ rqs (l.drop (0 + 1)) = rqs (l.eraseIdx 0) := by rw [← rqs_append, List.eraseIdx_eq_take_drop_succ]
  rw [her, show 0 + (n - (0 + 1)) = n - 1 by omega, ← hle] at o5
  have hCC := hC4.then_ j0 (fun k hk e => by omega)
  have g0 := e0.keep j0 hwb
  have g1 := e1.keep j0 hwb
  have g2 := e2.keep j0 hwb
  have g3 := e3.keep j0 hwb
  have q4 : fx 4 = .int .i64 (resV ⟨r1, r2, r3, r4, r5⟩) := q4
  clear j0 j1 j2 hC4 e0 e1 e2 e3 o4 x4 x8
  go_wp2
  refine bodyPost_ret (v := .tuple #[.agg #[.int .i64 r1, .int .i64 r2, .int .i64 r3, .int .i64 r4, .int .i64 r5], .int .i64 (resV ⟨r1, r2, r3, r4, r5⟩), .int .i64 0]) (by simp [results, Try.results27, go_sem, k0, k1, k2, k3, k4]) rfl ?_
  exact ⟨rfl, hCC, u, ⟨g0, g1, g2, g3, (by first | exact o5 | simpa using o5), fun e => by have := hu _ e; omega⟩, fun k e => by have := hu k e; omega⟩
theorem rfin_ok (b base : Nat) (room : Int) (l : List Rq) (last done : Int) (v : Value) (k : Int) (i : Nat) (r : Rq) (w : World) (h : RDev w b base room l last done v) (hbase : base ≤ w.heap.size) (hl : 0 < l.length) (hm : l.length ≤ 4096)
    (hi : (i : Int) = max k 0 % l.length) (hri : l[i]? = some r) (hd0 : 0 ≤ done) (hd1 : done ≤ 1000000) :
    Calls Try.prog 27 #[.pointer (some ⟨b, 0, none⟩), .int .i64 k] w fun e w' => e = .returned (.tuple #[rqV r, .int .i64 (resV r), .int .i64 0]) ∧ Chg (fun k => k = b) w w' ∧
      ∃ v', RDev w' b base room (l.eraseIdx i) last (done + 1) v' ∧ (∀ k, v'.ownBlock = some k → w.heap.size ≤ k) := by
  by_cases hk : 0 < k
  · exact rfin_pos b base room l last done v k i r w h hbase hl hm hi hri hk hd0 hd1
  · exact rfin_zero b base room l last done v k i r w h hbase hl hm hi hri (by omega) hd0 hd1
end Go.Proofs.Ytdfncmhbbhmgfaa
