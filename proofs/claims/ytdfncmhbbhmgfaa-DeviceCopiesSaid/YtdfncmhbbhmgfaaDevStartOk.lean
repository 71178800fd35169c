/- Package device: Start, a request more. -/
import Derived.Test.YtdfncmhbbhmgfaaDevStart
namespace Go.Proofs.Ytdfncmhbbhmgfaa
open Go.RowKit
set_option maxRecDepth 100000 in
set_option maxHeartbeats 4000000 in
theorem dstart_ok (b base : Nat) (room : Int) (l : List Rq) (last done : Int) (v : Value) (r : Rq) (w : World) (h : Dev w b base room l last done v) (hbase : base ≤ w.heap.size) (hr : 0 < room) (hg : goodR r = true) (hf : (l.length : Int) < room) (hrm : room ≤ 4096) (hl0 : 0 ≤ last) (hl1 : last ≤ 1000000) :
    Calls Try.prog 9 #[.pointer (some ⟨b, 0, none⟩), rqV r] w fun e w' => e = .returned (.tuple #[.int .i64 (last + 1), .int .i64 0]) ∧ Chg (fun k => k = b ∨ v.ownBlock = some k) w w' ∧
      ∃ v', Dev w' b base room (l ++ [{ r with id := last + 1 }]) (last + 1) done v' ∧ (v'.ownBlock = v.ownBlock ∨ ∃ k, v'.ownBlock = some k ∧ w.heap.size ≤ k) := by
  have HG := Lib.hid (fun W => dgood r W)
  rw [hg] at HG
  obtain ⟨r1, r2, r3, r4, r5⟩ := r
  have hb : Below w.heap.size w (w.alloc (.cells #[.int .i64 r1, .int .i64 r2, .int .i64 r3, .int .i64 r4, .int .i64 r5] 28)) := below_al (Below.refl _ _) _
  have hR0 : Box (w.alloc (.cells #[.int .i64 r1, .int .i64 r2, .int .i64 r3, .int .i64 r4, .int .i64 r5] 28)) w.heap.size 0 (.int .i64 r1) := by constructor <;> go_simp
  have hR1 : Box (w.alloc (.cells #[.int .i64 r1, .int .i64 r2, .int .i64 r3, .int .i64 r4, .int .i64 r5] 28)) w.heap.size 1 (.int .i64 r2) := by constructor <;> go_simp
  have hR2 : Box (w.alloc (.cells #[.int .i64 r1, .int .i64 r2, .int .i64 r3, .int .i64 r4, .int .i64 r5] 28)) w.heap.size 2 (.int .i64 r3) := by constructor <;> go_simp
  have hR3 : Box (w.alloc (.cells #[.int .i64 r1, .int .i64 r2, .int .i64 r3, .int .i64 r4, .int .i64 r5] 28)) w.heap.size 3 (.int .i64 r4) := by constructor <;> go_simp
  have hR4 : Box (w.alloc (.cells #[.int .i64 r1, .int .i64 r2, .int .i64 r3, .int .i64 r4, .int .i64 r5] 28)) w.heap.size 4 (.int .i64 r5) := by constructor <;> go_simp
  have hc := (h.room_.below hb).cell
  have HM := Lib.hid (dmade b room _ hc)
  rw [decide_eq_true hr] at HM
  obtain ⟨A, n, c, rfl, hn, hrd⟩ := own_open h.own
  have hnf : (n : Int) < room := by rw [hn.out]; exact hf
  have hnb : ((n : Int) == room) = false := by simp; omega
  have hbl := h.room_.lt
  clear hg hf
  unfold rqV at HG ⊢
  simp only at HG HM hb hc ⊢
  go_enter Try.func9, Try.ntmps9
  go_wp2_with (first | (go_at_call 21; refine HM.out.mono ?_; rintro e w1 ⟨rfl, rfl⟩) | (go_at_call 22; refine (HG.out _).mono ?_; rintro e w2 ⟨rfl, hb2⟩))
  have hB := below_tr hb hb2
  have hx0 := (h.room_.below hB).cell
  have hx1 := (h.row.below hB).cell
  have hz := (h.last_.below hB)
  have hx2 := hz.cell
  have hx2f := hz.free
  have hy0 := hR0.below hb2
  have hy0c := hy0.cell
  have hy0f := hy0.free
  have hneb : b ≠ w.heap.size := by omega
  go_quiet (fail)
  go_wp2
  have hk3 := hR3.below (below_dr hb2 nq)
  obtain ⟨S0, hS0⟩ : ∃ S0 : Nat → Prop, S0 = fun k => k = b ∨ (Value.slice A n c).ownBlock = some k := ⟨_, rfl⟩
  have hSr : ¬ S0 w.heap.size := by
    rw [hS0]
    rintro (e | e)
    · omega
    · have := (h.own.lt _ e).2; omega
  have hob : (Value.slice A n c).ownBlock ≠ some b := h.apart
  have hB1 := below_dr hB nq
  have c1 : Chg (fun k => k = b ∨ k = w.heap.size) (w2.drewN nq) (((w2.drewN nq).setCell ⟨b, 2, none⟩ (.int .i64 (last + 1))).setCell ⟨w.heap.size, 0, none⟩ (.int .i64 (last + 1))) := ((Chg.refl _ _).setCell b 2 _ (.inl rfl)).setCell w.heap.size 0 _ (.inr rfl)
  obtain ⟨W3, hW3⟩ : ∃ W3, W3 = (((w2.drewN nq).setCell ⟨b, 2, none⟩ (.int .i64 (last + 1))).setCell ⟨w.heap.size, 0, none⟩ (.int .i64 (last + 1))) := ⟨_, rfl⟩
  have d0 := h.room_.below hB1
  have d1 := h.row.below hB1
  have d2 := h.last_.below hB1
  have d3 := h.done_.below hB1
  have e0 := hR0.below (below_dr hb2 nq)
  have e1 := hR1.below (below_dr hb2 nq)
  have e2 := hR2.below (below_dr hb2 nq)
  have e3 := hR3.below (below_dr hb2 nq)
  have e4 := hR4.below (below_dr hb2 nq)
  have f0 : Box W3 b 0 (.int .i64 room) := by have := d0.cell; have := d0.free; rw [hW3]; constructor <;> go_simp
  have f1 : Box W3 b 1 (.slice A n c) := by have := d1.cell; have := d1.free; rw [hW3]; constructor <;> go_simp
  have f2 : Box W3 b 2 (.int .i64 (last + 1)) := by have := d2.cell; have := d2.free; rw [hW3]; constructor <;> go_simp
  have f3 : Box W3 b 3 (.int .i64 done) := by have := d3.cell; have := d3.free; rw [hW3]; constructor <;> go_simp
  have g0 : Box W3 w.heap.size 0 (.int .i64 (last + 1)) := by have := e0.cell; have := e0.free; rw [hW3]; constructor <;> go_simp
  have g1 : Box W3 w.heap.size 1 (.int .i64 r2) := by have := e1.cell; have := e1.free; rw [hW3]; constructor <;> go_simp
  have g2 : Box W3 w.heap.size 2 (.int .i64 r3) := by have := e2.cell; have := e2.free; rw [hW3]; constructor <;> go_simp
  have g3 : Box W3 w.heap.size 3 (.int .i64 r4) := by have := e3.cell; have := e3.free; rw [hW3]; constructor <;> go_simp
  have g4 : Box W3 w.heap.size 4 (.int .i64 r5) := by have := e4.cell; have := e4.free; rw [hW3]; constructor <;> go_simp
  rw [← hW3]
  rw [← hW3] at c1
  have hO3 := c1.own (own_below h.own hB1) (fun k hk e => by
    rcases e with e | e
    · rw [e] at hk; exact hob hk
    · have := (h.own.lt k hk).2; omega)
  have hC3 : Chg S0 w W3 := ⟨c1.os.trans hB1.os, c1.tape.trans hB1.tape, c1.output.trans hB1.output, Nat.le_trans hB1.size c1.size, fun k hk hn => (c1.block k (Nat.lt_of_lt_of_le hk hB1.size) (by
    rintro (e | e)
    · exact hn (by rw [hS0]; exact .inl e)
    · omega)).trans (hB1.block k hk)⟩
  have hown0 := h.own
  clear d0 d1 d2 d3 e0 e1 e2 e3 e4 hW3 c1 hk3 hx0 hx1 hz hx2 hx2f hy0 hy0c hy0f hR0 hR1 hR2 hR3 hR4 hB hB1 hb2 hb hrd HM HG hc
  obtain ⟨rb, hrb⟩ : ∃ x, x = w.heap.size := ⟨_, rfl⟩
  have hrw : w.heap.size ≤ rb := by omega
  have hbl0 := hbl
  rw [← hrb] at hSr g0 g1 g2 g3 g4 hneb hbl
  rw [show Value.pointer (some ⟨w.heap.size, 0, none⟩) = Value.pointer (some ⟨rb, 0, none⟩) by rw [hrb]]
  clear hrb
  obtain ⟨G, hG⟩ : ∃ G : Option Value → Option Value → Option Value → World → Prop, ∀ a d z W, G a d z W = ((a.isSome = true → z.isSome = true) ∧ Chg S0 W3 W ∧ Box W b 0 (.int .i64 room) ∧ Box W b 2 (.int .i64 (last + 1)) ∧ Box W b 3 (.int .i64 done) ∧
      (d = none → Box W b 1 (.slice A n c)) ∧ (a = none → d = none ∧ W.ownsRow base 28 5 (.slice A n c) n (rqs l)) ∧
      (∀ u, a = some u → W.ownsRow base 28 5 u (n + 1) (rqs l ++ rqC ⟨last + 1, r2, r3, r4, r5⟩) ∧ (u.ownBlock = (Value.slice A n c).ownBlock ∨ ∃ k, u.ownBlock = some k ∧ w.heap.size ≤ k) ∧ (d.isSome = true → Box W b 1 u))) := ⟨_, fun _ _ _ _ => rfl⟩
  have hO3n : W3.ownsRow base 28 5 (.slice A n c) n (rqs l) := by have := hO3; rw [← hn.out] at this; exact this
  obtain ⟨S_, hS_⟩ : ∃ S_ : World → World → Prop, S_ = (Chg S0) := ⟨_, rfl⟩
  have hR_ : ∀ W, S_ W W := by intro W; rw [hS_]; exact Chg.refl _ _
  obtain ⟨T, hT⟩ : ∃ T : Nat → FactS S_, ∀ t_, T t_ = ([FactS.eq (.pointer (some ⟨b, 0, none⟩)), FactS.eq (.pointer (some ⟨b, 0, none⟩)), FactS.eq (.pointer (some ⟨b, 0, none⟩)), FactS.eq (.pointer (some ⟨b, 1, none⟩)), FactS.eq (.slice A n c), FactS.eq (.agg #[.int .i64 (last + 1), .int .i64 r2, .int .i64 r3, .int .i64 r4, .int .i64 r5]), (⟨fun u W => ∃ g, u = .slice (some ⟨g, 0, none⟩) 1 1 ∧ ¬ S0 g ∧ Rds W 5 (some ⟨g, 0, none⟩) 1 1 (rqC ⟨last + 1, r2, r3, r4, r5⟩), fun u W W' ⟨g, e, hg, hr⟩ hc => ⟨g, e, hg, (hS_ ▸ hc : Chg S0 W W').rds hr (fun ad h => by cases h; exact hg)⟩⟩ : FactS S_), FactS.any, FactS.eq (.pointer (some ⟨b, 0, none⟩)), FactS.eq (.pointer (some ⟨b, 1, none⟩)), FactS.eq (undef)] : List (FactS S_)).getD t_ FactS.any := ⟨_, fun _ => rfl⟩
  have hP_ : ∀ i_ v_ (y_ : Nat → Option Value) W_, ([7, 10, 4].contains i_) = false → G (y_ 7) (y_ 10) (y_ 4) W_ → G (updY y_ i_ v_ 7) (updY y_ i_ v_ 10) (updY y_ i_ v_ 4) W_ := by
    intro i_ v_ y_ W_ hi_ h_
    simp only [List.contains_cons, List.contains_nil, Bool.or_false, Bool.or_eq_false_iff, beq_eq_false_iff_ne, ne_eq] at hi_
    obtain ⟨i7_, i10_, i4_⟩ := hi_
    rw [updY_ne y_ i_ v_ i7_, updY_ne y_ i_ v_ i10_, updY_ne y_ i_ v_ i4_]
    exact h_
  refine region_tabJ [(0, 37), (1, 38), (2, 39), (3, 40), (4, 41), (5, 42), (6, 43), (7, 44), (8, 45), (9, 46)] S_ T (fun y_ W_ => G (y_ 7) (y_ 10) (y_ 4) W_) (by kernel_rfl) (by kernel_rfl) (by kernel_rfl) (by kernel_rfl) (by kernel_rfl) ?_ ?_ ?_
  · skip
    show G none none none _
    rw [hG]
    exact ⟨(fun h => by cases h), (Chg.refl _ _).drewN 1, f0.drew 1, f2.drew 1, f3.drew 1, fun _ => f1.drew 1, fun _ => ⟨rfl, own_below hO3n (below_dr (Below.refl _ _) 1)⟩, fun u h => by cases h⟩
  · skip
    refine stepsAll_cons (k := 0) ?_ ?_
    · intro fa fx fW fy hF hN hJ hE K fK
      have hJ : G (fy 7) (fy 10) (fy 4) fW := hJ
      have ev0 : fa.tmps[0]?.getD undef = .pointer (some ⟨b, 0, none⟩) := hF.eo 0 (by kernel_rfl)
      refine wpOp_val rfl (wanted_none rfl) ?_ (fK (.pointer (some ⟨b, 0, none⟩)) fW (hR_ fW) (by rw [hT]; exact rfl) (hP_ 0 _ fy fW rfl hJ))
      clear fK hE hF hJ hN
      go_simp
    refine stepsAll_cons (k := 1) ?_ ?_
    · intro fa fx fW fy hF hN hJ hE K fK
      have hJ : G (fy 7) (fy 10) (fy 4) fW := hJ
      have ev0 : fa.tmps[0]?.getD undef = .pointer (some ⟨b, 0, none⟩) := hF.eo 0 (by kernel_rfl)
      refine wpOp_val rfl (wanted_none rfl) ?_ (fK (.pointer (some ⟨b, 0, none⟩)) fW (hR_ fW) (by rw [hT]; exact rfl) (hP_ 1 _ fy fW rfl hJ))
      clear fK hE hF hJ hN
      go_simp
    refine stepsAll_cons (k := 2) ?_ ?_
    · intro fa fx fW fy hF hN hJ hE K fK
      have hJ : G (fy 7) (fy 10) (fy 4) fW := hJ
      have q1 : fx 1 = .pointer (some ⟨b, 0, none⟩) := by have q := (hE ⟨1, .data⟩ (by simp) rfl).2; rw [hT] at q; exact q
      have ev38 : fa.tmps[38]?.getD undef = .pointer (some ⟨b, 0, none⟩) := (hF.ev 1 38 (by kernel_rfl)).trans q1
      refine wpOp_val rfl (wanted_none rfl) ?_ (fK (.pointer (some ⟨b, 0, none⟩)) fW (hR_ fW) (by rw [hT]; exact rfl) (hP_ 2 _ fy fW rfl hJ))
      clear fK hE hF hJ hN
      go_simp
    refine stepsAll_cons (k := 3) ?_ ?_
    · intro fa fx fW fy hF hN hJ hE K fK
      have hJ : G (fy 7) (fy 10) (fy 4) fW := hJ
      have q2 : fx 2 = .pointer (some ⟨b, 0, none⟩) := by have q := (hE ⟨2, .data⟩ (by simp) rfl).2; rw [hT] at q; exact q
      have ev39 : fa.tmps[39]?.getD undef = .pointer (some ⟨b, 0, none⟩) := (hF.ev 2 39 (by kernel_rfl)).trans q2
      refine wpOp_val rfl (wanted_none rfl) ?_ (fK (.pointer (some ⟨b, 1, none⟩)) fW (hR_ fW) (by rw [hT]; exact rfl) (hP_ 3 _ fy fW rfl hJ))
      clear fK hE hF hJ hN
      go_simp
    refine stepsAll_cons (k := 4) ?_ ?_
    · intro fa fx fW fy hF hN hJ hE K fK
      have hJ : G (fy 7) (fy 10) (fy 4) fW := hJ
      have q3 : fx 3 = .pointer (some ⟨b, 1, none⟩) := by have q := (hE ⟨3, .data⟩ (by simp) rfl).2; rw [hT] at q; exact q
      have ev40 : fa.tmps[40]?.getD undef = .pointer (some ⟨b, 1, none⟩) := (hF.ev 3 40 (by kernel_rfl)).trans q3
      rw [hG] at hJ
      obtain ⟨j0, j1, j2, j3, j4, j5, j6, j7⟩ := hJ
      have ha : fy 7 = none := by
        rw [hN] at j0
        cases h7 : fy 7 with
        | none => rfl
        | some u => rw [h7] at j0; exact absurd (j0 rfl) (by simp)
      have k1 := (j5 (j6 ha).1).cell
      refine wpOp_val rfl (wanted_none rfl) (v := .slice A n c) (by clear fK hE hF hN j0 j1 j2 j3 j4 j5 j6 j7; go_simp) (fK _ _ (hR_ fW) (by rw [hT]; exact rfl) ?_)
      show G (fy 7) (fy 10) (some _) fW
      rw [hG]
      exact ⟨fun _ => rfl, j1, j2, j3, j4, j5, j6, j7⟩
    refine stepsAll_cons (k := 5) ?_ ?_
    · intro fa fx fW fy hF hN hJ hE K fK
      have hJ : G (fy 7) (fy 10) (fy 4) fW := hJ
      have ev3 : fa.tmps[3]?.getD undef = .pointer (some ⟨rb, 0, none⟩) := hF.eo 3 (by kernel_rfl)
      have hJ1 := hJ
      rw [hG] at hJ1
      have k0 := (g0.keep hJ1.2.1 hSr).cell
      have k1 := (g1.keep hJ1.2.1 hSr).cell
      have k2 := (g2.keep hJ1.2.1 hSr).cell
      have k3 := (g3.keep hJ1.2.1 hSr).cell
      have k4 := (g4.keep hJ1.2.1 hSr).cell
      refine wpOp_val rfl (wanted_none rfl) ?_ (fK (.agg #[.int .i64 (last + 1), .int .i64 r2, .int .i64 r3, .int .i64 r4, .int .i64 r5]) fW (hR_ fW) (by rw [hT]; exact rfl) (hP_ 5 _ fy fW rfl hJ))
      clear fK hE hF hJ hN
      go_simp
    refine stepsAll_cons (k := 6) ?_ ?_
    · intro fa fx fW fy hF hN hJ hE K fK
      have hJ : G (fy 7) (fy 10) (fy 4) fW := hJ
      have q5 : fx 5 = .agg #[.int .i64 (last + 1), .int .i64 r2, .int .i64 r3, .int .i64 r4, .int .i64 r5] := by have q := (hE ⟨5, .data⟩ (by simp) rfl).2; rw [hT] at q; exact q
      have ev42 : fa.tmps[42]?.getD undef = .agg #[.int .i64 (last + 1), .int .i64 r2, .int .i64 r3, .int .i64 r4, .int .i64 r5] := (hF.ev 5 42 (by kernel_rfl)).trans q5
      have hal : Chg S0 fW (fW.alloc (.cells #[.int .i64 (last + 1), .int .i64 r2, .int .i64 r3, .int .i64 r4, .int .i64 r5] 28)) := (Chg.refl _ _).alloc _
      rw [hG] at hJ
      obtain ⟨j0, j1, j2, j3, j4, j5, j6, j7⟩ := hJ
      have hbel : Below fW.heap.size fW (fW.alloc (.cells #[.int .i64 (last + 1), .int .i64 r2, .int .i64 r3, .int .i64 r4, .int .i64 r5] 28)) := below_al (Below.refl _ _) _
      have hg6 : ¬ S0 fW.heap.size := by
        have hq1 := j2.lt
        have hq2 := Nat.le_trans hC3.size j1.size
        rw [hS0]
        rintro (e | e)
        · omega
        · have := (hown0.lt _ e).2
          omega
      refine wpOp_to rfl (wanted_none rfl) (v := .slice (some ⟨fW.heap.size, 0, none⟩) 1 1) (W' := fW.alloc (.cells #[.int .i64 (last + 1), .int .i64 r2, .int .i64 r3, .int .i64 r4, .int .i64 r5] 28)) (by clear fK hE hF hN j0 j1 j2 j3 j4 j5 j6 j7; go_simp) (fK _ _ (by rw [hS_]; exact hal) (by rw [hT]; exact ⟨_, rfl, hg6, rds_lit fW _ 5 1 (rqC ⟨last + 1, r2, r3, r4, r5⟩) rfl (by decide)⟩) ?_)
      show G (fy 7) (fy 10) (fy 4) _
      rw [hG]
      exact ⟨j0, j1.trans hal, j2.below hbel, j3.below hbel, j4.below hbel, fun e => (j5 e).below hbel, fun e => ⟨(j6 e).1, own_below (j6 e).2 hbel⟩, fun u e => ⟨own_below (j7 u e).1 hbel, (j7 u e).2.1, fun e2 => ((j7 u e).2.2 e2).below hbel⟩⟩
    refine stepsAll_cons (k := 7) ?_ ?_
    · intro fa fx fW fy hF hN hJ hE K fK
      have hJ : G (fy 7) (fy 10) (fy 4) fW := hJ
      have q4 : fx 4 = .slice A n c := by have q := (hE ⟨4, .data⟩ (by simp) rfl).2; rw [hT] at q; exact q
      have y4 : fy 4 = some (fx 4) := (hE ⟨4, .data⟩ (by simp) rfl).1
      have q6 : ((⟨fun u W => ∃ g, u = .slice (some ⟨g, 0, none⟩) 1 1 ∧ ¬ S0 g ∧ Rds W 5 (some ⟨g, 0, none⟩) 1 1 (rqC ⟨last + 1, r2, r3, r4, r5⟩), fun u W W' ⟨g, e, hg, hr⟩ hc => ⟨g, e, hg, (hS_ ▸ hc : Chg S0 W W').rds hr (fun ad h => by cases h; exact hg)⟩⟩ : FactS S_) : FactS S_).p (fx 6) fW := by have q := (hE ⟨6, .data⟩ (by simp) rfl).2; rw [hT] at q; exact q
      have ev41 : fa.tmps[41]?.getD undef = .slice A n c := (hF.ev 4 41 (by kernel_rfl)).trans q4
      have ev43 : fa.tmps[43]?.getD undef = fx 6 := hF.ev 6 43 (by kernel_rfl)
      rw [hG, hN] at hJ
      obtain ⟨j0, j1, j2, j3, j4, j5, j6, j7⟩ := hJ
      obtain ⟨g, hg1, hg2, hg3⟩ := q6
      obtain ⟨hd, ho⟩ := j6 rfl
      have hsz := Nat.le_trans hC3.size j1.size
      refine wpOp_list rfl (apn (w0 := fW) base rfl _ _ 22 28 _ 5 40 (by rfl) Try.underlying22 info_rq rfl (by decide) (by decide) (.slice A n c) n (rqs l) (some ⟨g, 0, none⟩) 1 1 (rqC ⟨last + 1, r2, r3, r4, r5⟩) (by clear fK hE hF hN; go_simp) (by clear fK hE hF hN; rw [hg1] at ev43; go_simp) hg3 (by intro u hu; simp [rqC] at hu; rcases hu with rfl | rfl | rfl | rfl | rfl <;> rfl) ho (Below.refl _ _) (by omega) (by omega) ?_)
      intro v1 w1 p1 p2 p3 p4
      have hch : Chg S0 fW w1 := Chg.of_grown p3 (fun k e => by rw [hS0]; exact .inr e)
      have hch2 : Chg (fun k => (Value.slice A n c).ownBlock = some k) fW w1 := Chg.of_grown p3 (fun k e => e)
      refine fK _ _ (by rw [hS_]; exact hch) (by rw [hT]; exact trivial) ?_
      show G (some v1) (fy 10) (fy 4) w1
      rw [hG]
      refine ⟨fun _ => by rw [y4]; rfl, j1.trans hch, j2.keep hch2 hob, j3.keep hch2 hob, j4.keep hch2 hob, fun e => (j5 e).keep hch2 hob, (fun e => by cases e), fun u e => ?_⟩
      cases e
      refine ⟨p1, ?_, fun e2 => by rw [hd] at e2; cases e2⟩
      rcases p4 with p4 | ⟨k, p4, p5⟩
      · exact .inl p4
      · exact .inr ⟨k, p4, by omega⟩
    refine stepsAll_cons (k := 8) ?_ ?_
    · intro fa fx fW fy hF hN hJ hE K fK
      have hJ : G (fy 7) (fy 10) (fy 4) fW := hJ
      have q0 : fx 0 = .pointer (some ⟨b, 0, none⟩) := by have q := (hE ⟨0, .data⟩ (by simp) rfl).2; rw [hT] at q; exact q
      have ev37 : fa.tmps[37]?.getD undef = .pointer (some ⟨b, 0, none⟩) := (hF.ev 0 37 (by kernel_rfl)).trans q0
      refine wpOp_val rfl (wanted_none rfl) ?_ (fK (.pointer (some ⟨b, 0, none⟩)) fW (hR_ fW) (by rw [hT]; exact rfl) (hP_ 8 _ fy fW rfl hJ))
      clear fK hE hF hJ hN
      go_simp
    refine stepsAll_cons (k := 9) ?_ ?_
    · intro fa fx fW fy hF hN hJ hE K fK
      have hJ : G (fy 7) (fy 10) (fy 4) fW := hJ
      have q8 : fx 8 = .pointer (some ⟨b, 0, none⟩) := by have q := (hE ⟨8, .data⟩ (by simp) rfl).2; rw [hT] at q; exact q
      have ev45 : fa.tmps[45]?.getD undef = .pointer (some ⟨b, 0, none⟩) := (hF.ev 8 45 (by kernel_rfl)).trans q8
      refine wpOp_val rfl (wanted_none rfl) ?_ (fK (.pointer (some ⟨b, 1, none⟩)) fW (hR_ fW) (by rw [hT]; exact rfl) (hP_ 9 _ fy fW rfl hJ))
      clear fK hE hF hJ hN
      go_simp
    refine stepsAll_cons (k := 10) ?_ ?_
    · intro fa fx fW fy hF hN hJ hE K fK
      have hJ : G (fy 7) (fy 10) (fy 4) fW := hJ
      have q7 : (FactS.any : FactS S_).p (fx 7) fW := by have q := (hE ⟨7, .data⟩ (by simp) rfl).2; rw [hT] at q; exact q
      have y7 : fy 7 = some (fx 7) := (hE ⟨7, .data⟩ (by simp) rfl).1
      have q9 : fx 9 = .pointer (some ⟨b, 1, none⟩) := by have q := (hE ⟨9, .data⟩ (by simp) rfl).2; rw [hT] at q; exact q
      have ev44 : fa.tmps[44]?.getD undef = fx 7 := hF.ev 7 44 (by kernel_rfl)
      have ev46 : fa.tmps[46]?.getD undef = .pointer (some ⟨b, 1, none⟩) := (hF.ev 9 46 (by kernel_rfl)).trans q9
      rw [hG, hN, y7] at hJ
      obtain ⟨j0, j1, j2, j3, j4, j5, j6, j7⟩ := hJ
      obtain ⟨k1, k2, k3⟩ := j7 _ rfl
      have hx := j5 rfl
      have hxc := hx.cell
      have hxf := hx.free
      obtain ⟨UA, uc, hu⟩ := own_slice k1
      have hub : (fx 7).ownBlock ≠ some b := by
        rcases k2 with k2 | ⟨k, k2, k4⟩
        · rw [k2]; exact hob
        · rw [k2]; intro e; cases e; omega
      have hbW : S0 b := by rw [hS0]; exact .inl rfl
      have hch : Chg S0 fW (fW.setCell ⟨b, 1, none⟩ (fx 7)) := (Chg.refl _ _).setCell b 1 _ hbW
      have hch2 : Chg (fun k => k = b) fW (fW.setCell ⟨b, 1, none⟩ (fx 7)) := (Chg.refl _ _).setCell b 1 _ rfl
      have z0 : Box (fW.setCell ⟨b, 1, none⟩ (fx 7)) b 0 (.int .i64 room) := by have := j2.cell; have := j2.free; clear fK hE hF; constructor <;> go_simp
      have z2 : Box (fW.setCell ⟨b, 1, none⟩ (fx 7)) b 2 (.int .i64 (last + 1)) := by have := j3.cell; have := j3.free; clear fK hE hF; constructor <;> go_simp
      have z3 : Box (fW.setCell ⟨b, 1, none⟩ (fx 7)) b 3 (.int .i64 done) := by have := j4.cell; have := j4.free; clear fK hE hF; constructor <;> go_simp
      refine wpOp_done rfl (wanted_none rfl) (W' := fW.setCell ⟨b, 1, none⟩ (fx 7)) (by clear fK hE hF hN z0 z2 z3; rw [hu] at ev44 ⊢; go_simp) (fK undef _ (by rw [hS_]; exact hch) (by rw [hT]; exact rfl) ?_)
      show G (fy 7) (some undef) (fy 4) _
      rw [hG, y7]
      exact ⟨j0, j1.trans hch, z0, z2, z3, (fun e => by cases e), (fun e => by cases e), fun u e => by cases e; exact ⟨hch2.own k1 (fun k hk e => hub (by rw [hk, e])), k2, fun _ => hx.set _⟩⟩
    exact stepsAll_nil
  intro fa fx fW fy hF hJ0 hx
  have y7 : fy 7 = some (fx 7) := (hx 7 (by decide)).1
  have y10 : fy 10 = some (fx 10) := (hx 10 (by decide)).1
  have y4 : fy 4 = some (fx 4) := (hx 4 (by decide)).1
  have hJ : G (fy 7) (fy 10) (fy 4) fW := hJ0
  clear hJ0
  rw [y7, y10, y4] at hJ
  rw [hF.eq]
  clear hF hx hT T hP_ hR_ y7 y10 y4
  simp only [putAll, Act.put, List.setIfInBounds_toArray, List.set_cons_zero, List.set_cons_succ, ]
  rw [hG] at hJ
  obtain ⟨j0, j1, j2, j3, j4, j5, j6, j7⟩ := hJ
  obtain ⟨k1, k2, k3⟩ := j7 _ rfl
  have k4 := k3 rfl
  have hCC := hC3.trans j1
  have hy := (g0.keep j1 hSr).cell
  have hub : (fx 7).ownBlock ≠ some b := by
    rcases k2 with k2 | ⟨k, k2, k5⟩
    · rw [k2]; exact hob
    · rw [k2]; intro e; cases e; omega
  generalize fx 7 = u at k1 k2 k4 hub
  clear j0 j5 j6 j7 k3
  go_wp2
  go_ret2
  refine ⟨ret_ii rfl rfl, by rw [hS0] at hCC; exact hCC, u, ⟨j2, k4, j3, j4, ?_, hub⟩, k2⟩
  rw [rqs_append, rqs_one, List.length_append, ← hn.out]
  exact k1
end Go.Proofs.Ytdfncmhbbhmgfaa
