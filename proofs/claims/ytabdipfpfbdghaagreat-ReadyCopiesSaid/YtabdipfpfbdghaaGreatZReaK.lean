/- Package ready: New, find, Join, Pick, turn, enter, Back, Block, Take, of a queue that was made. -/
import Derived.Test.YtabdipfpfbdghaaGreatZQueK
import Derived.Test.YtabdipfpfbdghaaGreatZNumPlain
import Derived.Test.YtabdipfpfbdghaaGreatZRegion
namespace Go.Proofs.YtabdipfpfbdghaaGreat
open Go.RowKit
theorem strideQ_in {t : Int} (h : rightT t = true) : 16777216 ≤ strideV t ∧ strideV t ≤ 1099511627776 := by
  have h1 : 1 ≤ t ∧ t ≤ 65536 := by simpa [rightT] using h
  unfold strideV
  rw [if_pos h]
  exact ⟨Int.le_ediv_of_mul_le (by omega) (by omega), Int.ediv_le_self _ (by omega)⟩
theorem qmade (b hb : Nat) (w : World) (h : w.cell? ⟨b, 2, none⟩ = some (.pointer (some ⟨hb, 0, none⟩))) : Calls Tryz.prog 41 #[.pointer (some ⟨b, 0, none⟩)] w fun e w' => e = .returned (.bool true) ∧ w = w' := by
  go_enter Tryz.func41, Tryz.ntmps41
  go_wp2
  go_ret
  exact ⟨rfl, rfl⟩
set_option maxHeartbeats 1000000 in
theorem qfind {TK : Nat → Prop} {w0 : FrQ} {w : World} {b g c hb n : Nat} {q : QV} (Q : Qx TK w0 w b g c hb n q) (x : Nat) (z : Int) (hz : z = (x : Int)) (hx : x < n) :
    Calls Tryz.prog 51 #[.pointer (some ⟨b, 0, none⟩), .int .i64 z] w fun e w' => e = .returned (.tuple #[.pointer (some ⟨g, x * 4, none⟩), .int .i64 0]) ∧ w = w' := by
  subst hz
  obtain ⟨b0, b1, b2⟩ := Q.box
  have k1 := b1.cell
  have HM := Lib.hid (qmade b hb w b2.cell)
  have hx' : (x : Int) < (n : Int) := by omega
  clear Q
  go_enter Tryz.func51, Tryz.ntmps51
  go_wp2_with (go_at_call 41; (with_reducible refine HM.out.mono ?_); rintro e w1 ⟨rfl, rfl⟩)
  go_ret2
  exact ⟨rfl, rfl⟩
set_option maxHeartbeats 1000000 in
theorem qfindNo {TK : Nat → Prop} {w0 : FrQ} {w : World} {b g c hb n : Nat} {q : QV} (Q : Qx TK w0 w b g c hb n q) (z : Int) (hz : z < 0 ∨ (n : Int) ≤ z) :
    Calls Tryz.prog 51 #[.pointer (some ⟨b, 0, none⟩), .int .i64 z] w fun e w' => e = .returned (.tuple #[.pointer none, .int .i64 8]) ∧ w = w' := by
  obtain ⟨b0, b1, b2⟩ := Q.box
  have k1 := b1.cell
  have HM := Lib.hid (qmade b hb w b2.cell)
  clear Q
  by_cases h1 : z < 0
  · go_enter Tryz.func51, Tryz.ntmps51
    go_wp2_with (go_at_call 41; (with_reducible refine HM.out.mono ?_); rintro e w1 ⟨rfl, rfl⟩)
    go_ret2
    exact ⟨rfl, rfl⟩
  · have h2 : (n : Int) ≤ z := by omega
    go_enter Tryz.func51, Tryz.ntmps51
    go_wp2_with (go_at_call 41; (with_reducible refine HM.out.mono ?_); rintro e w1 ⟨rfl, rfl⟩)
    go_ret2
    exact ⟨rfl, rfl⟩
set_option maxHeartbeats 1000000 in
/-- A row's stride. -/
theorem qstride (st tk ps pk : Int) (w : World) : Calls Tryz.prog 49 #[.agg #[.int .i64 st, .int .i64 tk, .int .i64 ps, .int .i64 pk]] w fun e w' => e = .returned (.int .i64 (strideV tk)) ∧ Below w.heap.size w w' := by
  have hal : Below w.heap.size w (w.alloc (.cells #[.int .i64 st, .int .i64 tk, .int .i64 ps, .int .i64 pk] (61 : Nat))) := below_al (Below.refl _ _) _
  have HS := Lib.hid (sstride tk (w.alloc (.cells #[.int .i64 st, .int .i64 tk, .int .i64 ps, .int .i64 pk] (61 : Nat))))
  have HA := Lib.hid hal
  clear hal
  go_enter Tryz.func49, Tryz.ntmps49
  go_wp2_with (go_at_call 53; (with_reducible refine HS.out.mono ?_); rintro e w1 ⟨rfl, hb1⟩)
  go_ret
  exact ⟨rfl, below_then HA.out HA.out.size hb1⟩
def joinR (q : QV) (x : Nat) (t : Int) : QV := ⟨q.now, q.rows.set x ⟨1, t, q.now, 0⟩, putV q.h x q.now⟩
set_option maxRecDepth 100000 in
set_option maxHeartbeats 4000000 in
/-- Join, of one that may. -/
theorem qjoin {TK : Nat → Prop} {w0 : FrQ} {w : World} {b g c hb n : Nat} {q : QV} (Q : Qx TK w0 w b g c hb n q) (hn : n ≤ 4096) (x : Nat) (z t : Int) (hz : z = (x : Int)) (hx : x < n) (ht : rightT t = true) (hst : (q.rows.getD x row0).st = 0) (hh : ¬ hasV q.h x) :
    Calls Tryz.prog 21 #[.pointer (some ⟨b, 0, none⟩), .int .i64 z, .int .i64 t] w fun e w' => e = .returned (.int .i64 0) ∧ Qx TK w0 w' b g c hb n (joinR q x t) := by
  have HF := Lib.hid (qfind Q x z hz hx)
  subst hz
  have HS := Lib.hid (sstride t w)
  have hs1 : strideV t ≠ 0 := by
    have := strideQ_in ht
    omega
  generalize strideV t = s at HS hs1
  clear ht
  go_enter Tryz.func21, Tryz.ntmps21
  go_wp2_with (first
    | (go_at_call 51; (with_reducible refine HF.out.mono ?_); rintro e w1 ⟨rfl, rfl⟩)
    | (go_at_call 53; (with_reducible refine HS.out.mono ?_); rintro e w1 ⟨rfl, hb1⟩; have Q1 := Q.below hb1; obtain ⟨r0, r1, r2, r3⟩ := Q1.row hx; rw [hst] at r0; have c0 := r0.cell; have c1 := r1.cell; have c2 := r2.cell; have c3 := r3.cell; have f0 := r0.free; have f1 := r1.free; have f2 := r2.free; have f3 := r3.free; obtain ⟨b0, b1, b2⟩ := Q1.box; have kn := b0.cell))
  have Q2 := Q1.setAll hx ⟨1, t, q.now, 0⟩
  simp only at Q2
  generalize (((w1.setCell ⟨g, x * 4, none⟩ (.int .i64 1)).setCell ⟨g, x * 4 + 1, none⟩ (.int .i64 t)).setCell ⟨g, x * 4 + 2, none⟩ (.int .i64 q.now)).setCell ⟨g, x * 4 + 3, none⟩ (.int .i64 0) = W3 at Q2 ⊢
  have hl := Q.rowsN
  have HPU := Lib.hid (fun W (h : Qx TK w0 W b g c hb n ⟨q.now, q.rows.set x ⟨1, t, q.now, 0⟩, q.h⟩) => h.put hn x x q.now rfl hx hh)
  have HRW : Hid (∀ W hv, Qx TK w0 W b g c hb n ⟨q.now, q.rows.set x ⟨1, t, q.now, 0⟩, hv⟩ → W.cell? ⟨b, 2, none⟩ = some (.pointer (some ⟨hb, 0, none⟩)) ∧ W.cell? ⟨g, x * 4 + 2, none⟩ = some (.int .i64 q.now)) := by
    intro W hv h
    obtain ⟨_, _, r2, _⟩ := h.row hx
    refine ⟨h.box.2.2.cell, ?_⟩
    have := r2.cell
    simp only at this
    rwa [getD_set_same' _ _ _ (by omega)] at this
  clear HF HS Q Q1 hb1 r0 r1 r2 r3 c0 c1 c2 c3 f0 f1 f2 f3 b0 b1 b2 kn hst hh hl
  obtain ⟨G, hG⟩ : ∃ G : Option Value → World → Prop, ∀ a W, G a W = (∃ hv, Qx TK w0 W b g c hb n ⟨q.now, q.rows.set x ⟨1, t, q.now, 0⟩, hv⟩ ∧ (a = none → hv = q.h) ∧ (∀ u, a = some u → hv = putV q.h x q.now)) := ⟨_, fun _ _ => rfl⟩
  obtain ⟨S_, hS_⟩ : ∃ S_ : World → World → Prop, S_ = (fun _ _ => True) := ⟨_, rfl⟩
  have hR_ : ∀ W, S_ W W := by intro W; rw [hS_]; exact trivial
  obtain ⟨T, hT⟩ : ∃ T : Nat → FactS S_, ∀ t_, T t_ = ([FactS.eq (.pointer (some ⟨b, 0, none⟩)), FactS.eq (.pointer (some ⟨b, 0, none⟩)), FactS.eq (.pointer (some ⟨b, 2, none⟩)), FactS.eq (.pointer (some ⟨hb, 0, none⟩)), FactS.eq (.int .i64 x), FactS.eq (.pointer (some ⟨g, x * 4, none⟩)), FactS.eq (.pointer (some ⟨g, x * 4, none⟩)), FactS.eq (.pointer (some ⟨g, x * 4 + 2, none⟩)), FactS.eq (.int .i64 q.now), FactS.eq (.int .i64 0), FactS.eq (.int .i64 0)] : List (FactS S_)).getD t_ FactS.any := ⟨_, fun _ => rfl⟩
  have hP_ : ∀ i_ v_ (y_ : Nat → Option Value) W_, ([9].contains i_) = false → G (y_ 9) W_ → G (updY y_ i_ v_ 9) W_ := by
    intro i_ v_ y_ W_ hi_ h_
    simp only [List.contains_cons, List.contains_nil, Bool.or_false, beq_eq_false_iff_ne, ne_eq] at hi_
    rw [updY_ne y_ i_ v_ hi_]
    exact h_
  refine region_tabJ [(0, 37), (1, 38), (2, 39), (3, 40), (4, 41), (5, 42), (6, 43), (7, 44), (8, 45), (9, 46), (10, 6)] S_ T (fun y_ W_ => G (y_ 9) W_) (by kernel_rfl) (by kernel_rfl) (by kernel_rfl) (by kernel_rfl) (by kernel_rfl) ?_ ?_ ?_
  · skip
    show G none _
    rw [hG]
    exact ⟨_, Q2.below (below_dr (Below.refl _ _) 1), fun _ => rfl, fun u h => by cases h⟩
  · skip
    refine stepsAll_cons (k := 0) ?_ ?_
    · intro fa fx fW fy hF hN hJ hE K fK
      have hJ : G (fy 9) fW := hJ
      have ev0 : fa.tmps[0]?.getD undef = .pointer (some ⟨b, 0, none⟩) := hF.eo 0 (by kernel_rfl)
      refine wpOp_val rfl (wanted_none rfl) ?_ (fK (.pointer (some ⟨b, 0, none⟩)) fW (hR_ fW) (by rw [hT]; exact rfl) (hP_ 0 _ fy fW rfl hJ))
      clear fK hE hF hJ hN
      go_simp
    refine stepsAll_cons (k := 1) ?_ ?_
    · intro fa fx fW fy hF hN hJ hE K fK
      have hJ : G (fy 9) fW := hJ
      have q0 : fx 0 = .pointer (some ⟨b, 0, none⟩) := by have q := (hE ⟨0, .data⟩ (by simp) rfl).2; rw [hT] at q; exact q
      have ev37 : fa.tmps[37]?.getD undef = .pointer (some ⟨b, 0, none⟩) := (hF.ev 0 37 (by kernel_rfl)).trans q0
      refine wpOp_val rfl (wanted_none rfl) ?_ (fK (.pointer (some ⟨b, 0, none⟩)) fW (hR_ fW) (by rw [hT]; exact rfl) (hP_ 1 _ fy fW rfl hJ))
      clear fK hE hF hJ hN
      go_simp
    refine stepsAll_cons (k := 2) ?_ ?_
    · intro fa fx fW fy hF hN hJ hE K fK
      have hJ : G (fy 9) fW := hJ
      have q1 : fx 1 = .pointer (some ⟨b, 0, none⟩) := by have q := (hE ⟨1, .data⟩ (by simp) rfl).2; rw [hT] at q; exact q
      have ev38 : fa.tmps[38]?.getD undef = .pointer (some ⟨b, 0, none⟩) := (hF.ev 1 38 (by kernel_rfl)).trans q1
      refine wpOp_val rfl (wanted_none rfl) ?_ (fK (.pointer (some ⟨b, 2, none⟩)) fW (hR_ fW) (by rw [hT]; exact rfl) (hP_ 2 _ fy fW rfl hJ))
      clear fK hE hF hJ hN
      go_simp
    refine stepsAll_cons (k := 3) ?_ ?_
    · intro fa fx fW fy hF hN hJ hE K fK
      have hJ : G (fy 9) fW := hJ
      have q2 : fx 2 = .pointer (some ⟨b, 2, none⟩) := by have q := (hE ⟨2, .data⟩ (by simp) rfl).2; rw [hT] at q; exact q
      have ev39 : fa.tmps[39]?.getD undef = .pointer (some ⟨b, 2, none⟩) := (hF.ev 2 39 (by kernel_rfl)).trans q2
      have hJ2 := hJ
      rw [hG] at hJ2
      obtain ⟨hv, j1, _⟩ := hJ2
      have k0 := (HRW.out _ _ j1).1
      refine wpOp_val rfl (wanted_none rfl) ?_ (fK (.pointer (some ⟨hb, 0, none⟩)) fW (hR_ fW) (by rw [hT]; exact rfl) (hP_ 3 _ fy fW rfl hJ))
      clear fK hE hF hJ hN
      go_simp
    refine stepsAll_cons (k := 4) ?_ ?_
    · intro fa fx fW fy hF hN hJ hE K fK
      have hJ : G (fy 9) fW := hJ
      have ev1 : fa.tmps[1]?.getD undef = .int .i64 x := hF.eo 1 (by kernel_rfl)
      refine wpOp_val rfl (wanted_none rfl) ?_ (fK (.int .i64 x) fW (hR_ fW) (by rw [hT]; exact rfl) (hP_ 4 _ fy fW rfl hJ))
      clear fK hE hF hJ hN
      go_simp
    refine stepsAll_cons (k := 5) ?_ ?_
    · intro fa fx fW fy hF hN hJ hE K fK
      have hJ : G (fy 9) fW := hJ
      have ev7 : fa.tmps[7]?.getD undef = .pointer (some ⟨g, x * 4, none⟩) := hF.eo 7 (by kernel_rfl)
      refine wpOp_val rfl (wanted_none rfl) ?_ (fK (.pointer (some ⟨g, x * 4, none⟩)) fW (hR_ fW) (by rw [hT]; exact rfl) (hP_ 5 _ fy fW rfl hJ))
      clear fK hE hF hJ hN
      go_simp
    refine stepsAll_cons (k := 6) ?_ ?_
    · intro fa fx fW fy hF hN hJ hE K fK
      have hJ : G (fy 9) fW := hJ
      have q5 : fx 5 = .pointer (some ⟨g, x * 4, none⟩) := by have q := (hE ⟨5, .data⟩ (by simp) rfl).2; rw [hT] at q; exact q
      have ev42 : fa.tmps[42]?.getD undef = .pointer (some ⟨g, x * 4, none⟩) := (hF.ev 5 42 (by kernel_rfl)).trans q5
      refine wpOp_val rfl (wanted_none rfl) ?_ (fK (.pointer (some ⟨g, x * 4, none⟩)) fW (hR_ fW) (by rw [hT]; exact rfl) (hP_ 6 _ fy fW rfl hJ))
      clear fK hE hF hJ hN
      go_simp
    refine stepsAll_cons (k := 7) ?_ ?_
    · intro fa fx fW fy hF hN hJ hE K fK
      have hJ : G (fy 9) fW := hJ
      have q6 : fx 6 = .pointer (some ⟨g, x * 4, none⟩) := by have q := (hE ⟨6, .data⟩ (by simp) rfl).2; rw [hT] at q; exact q
      have ev43 : fa.tmps[43]?.getD undef = .pointer (some ⟨g, x * 4, none⟩) := (hF.ev 6 43 (by kernel_rfl)).trans q6
      refine wpOp_val rfl (wanted_none rfl) ?_ (fK (.pointer (some ⟨g, x * 4 + 2, none⟩)) fW (hR_ fW) (by rw [hT]; exact rfl) (hP_ 7 _ fy fW rfl hJ))
      clear fK hE hF hJ hN
      go_simp
    refine stepsAll_cons (k := 8) ?_ ?_
    · intro fa fx fW fy hF hN hJ hE K fK
      have hJ : G (fy 9) fW := hJ
      have q7 : fx 7 = .pointer (some ⟨g, x * 4 + 2, none⟩) := by have q := (hE ⟨7, .data⟩ (by simp) rfl).2; rw [hT] at q; exact q
      have ev44 : fa.tmps[44]?.getD undef = .pointer (some ⟨g, x * 4 + 2, none⟩) := (hF.ev 7 44 (by kernel_rfl)).trans q7
      have hJ2 := hJ
      rw [hG] at hJ2
      obtain ⟨hv, j1, _⟩ := hJ2
      have k0 := (HRW.out _ _ j1).2
      refine wpOp_val rfl (wanted_none rfl) ?_ (fK (.int .i64 q.now) fW (hR_ fW) (by rw [hT]; exact rfl) (hP_ 8 _ fy fW rfl hJ))
      clear fK hE hF hJ hN
      go_simp
    refine stepsAll_cons (k := 9) ?_ ?_
    · intro fa fx fW fy hF hN hJ hE K fK
      have hJ : G (fy 9) fW := hJ
      have q3 : fx 3 = .pointer (some ⟨hb, 0, none⟩) := by have q := (hE ⟨3, .data⟩ (by simp) rfl).2; rw [hT] at q; exact q
      have q4 : fx 4 = .int .i64 x := by have q := (hE ⟨4, .data⟩ (by simp) rfl).2; rw [hT] at q; exact q
      have q8 : fx 8 = .int .i64 q.now := by have q := (hE ⟨8, .data⟩ (by simp) rfl).2; rw [hT] at q; exact q
      have ev40 : fa.tmps[40]?.getD undef = .pointer (some ⟨hb, 0, none⟩) := (hF.ev 3 40 (by kernel_rfl)).trans q3
      have ev41 : fa.tmps[41]?.getD undef = .int .i64 x := (hF.ev 4 41 (by kernel_rfl)).trans q4
      have ev45 : fa.tmps[45]?.getD undef = .int .i64 q.now := (hF.ev 8 45 (by kernel_rfl)).trans q8
      refine wpOp_call rfl (wanted_none rfl) (by go_simp; exact ⟨rfl, rfl⟩) ?_
      have hJ2 := hJ
      rw [hG, hN] at hJ2
      obtain ⟨hv, j1, j2, _⟩ := hJ2
      obtain rfl := j2 rfl
      refine (HPU.out _ j1).mono ?_
      rintro e' w' ⟨rfl, hQ, _⟩
      have b1 : S_ fW w' := by rw [hS_]; trivial
      have j3 : G (some (.int .i64 0)) w' := by rw [hG]; exact ⟨_, hQ, (fun e => by cases e), fun _ _ => rfl⟩
      exact ⟨_, rfl, fK (.int .i64 0) (w') (b1) (by rw [hT]; exact rfl) (j3)⟩
    refine stepsAll_cons (k := 10) ?_ ?_
    · intro fa fx fW fy hF hN hJ hE K fK
      have hJ : G (fy 9) fW := hJ
      have q9 : fx 9 = .int .i64 0 := by have q := (hE ⟨9, .data⟩ (by simp) rfl).2; rw [hT] at q; exact q
      have y9 : fy 9 = some (fx 9) := (hE ⟨9, .data⟩ (by simp) rfl).1
      have ev46 : fa.tmps[46]?.getD undef = .int .i64 0 := (hF.ev 9 46 (by kernel_rfl)).trans q9
      refine wpOp_val rfl (wanted_none rfl) ?_ (fK (.int .i64 0) fW (hR_ fW) (by rw [hT]; exact rfl) (hP_ 10 _ fy fW rfl hJ))
      clear fK hE hF hJ hN
      go_simp
    exact stepsAll_nil
  intro fa fx fW fy hF hJ0 hx
  have y9 : fy 9 = some (fx 9) := (hx 9 (by decide)).1
  have hJ : G (fy 9) fW := hJ0
  clear hJ0
  rw [y9] at hJ
  have q10 : fx 10 = .int .i64 0 := by have q := (hx 10 (by decide)).2; rw [hT] at q; exact q
  have ev6 : fa.tmps[6]?.getD undef = .int .i64 0 := (hF.ev 10 6 (by kernel_rfl)).trans q10
  rw [hF.eq]
  clear hF hx hT T hP_ hR_ y9
  simp only [putAll, Act.put, List.setIfInBounds_toArray, List.set_cons_zero, List.set_cons_succ, q10]
  rw [hG] at hJ
  obtain ⟨hv, j1, _, j2⟩ := hJ
  obtain rfl := j2 _ rfl
  clear hG
  go_wp2
  go_ret
  exact ⟨rfl, j1⟩
def pickR (q : QV) (x : Nat) : QV := ⟨q.h.ks.getD x 0, q.rows.set x ⟨2, (q.rows.getD x row0).tk, q.h.ks.getD x 0 + strideV (q.rows.getD x row0).tk, (q.rows.getD x row0).pk + 1⟩, outV q.h 0⟩
theorem qcharge (p s : Int) (hp : I64 p) (hs : I64 s) (h : I64 (p + s)) (w : World) : Calls Tryz.prog 56 #[.int .i64 p, .int .i64 s] w fun e w' => e = .returned (.tuple #[.int .i64 (p + s), .bool true]) ∧ w = w' := by
  have HA := nadd p s hp hs w
  rw [(fit_yes h).1, (fit_yes h).2] at HA
  have HA := Lib.hid HA
  generalize p + s = a at HA ⊢
  clear hp hs h
  go_enter Tryz.func56, Tryz.ntmps56
  go_wp2_with (go_at_call 78; (with_reducible refine HA.out.mono ?_); rintro e w1 ⟨rfl, rfl⟩)
  go_ret2
  exact ⟨rfl, rfl⟩
set_option maxHeartbeats 1000000 in
/-- Pick, where nobody waits. -/
theorem qpickNo {TK : Nat → Prop} {w0 : FrQ} {w : World} {b g c hb n : Nat} {q : QV} (Q : Qx TK w0 w b g c hb n q) (hn : 0 < n) (h0 : q.h.ids.length = 0) (b1 : q.now ≤ 1152921504606846976) :
    Calls Tryz.prog 22 #[.pointer (some ⟨b, 0, none⟩)] w fun e w' => e = .returned (.tuple #[.int .i64 0, .bool false]) ∧ w = w' := by
  obtain ⟨d0, d1, d2⟩ := Q.box
  have HM := Lib.hid (qmade b hb w d2.cell)
  have HP := Lib.hid (Q.popNo hn h0)
  have k0 := d0.cell
  have k2 := d2.cell
  have hx1 : ¬ (1152921504606846976 < q.now) := by omega
  clear Q
  go_enter Tryz.func22, Tryz.ntmps22
  go_wp2_with (first
    | (go_at_call 41; (with_reducible refine HM.out.mono ?_); rintro e w1 ⟨rfl, rfl⟩)
    | (go_at_call 55; (with_reducible refine HP.out.mono ?_); rintro e w1 ⟨rfl, rfl⟩))
  go_ret2
  exact ⟨rfl, rfl⟩
set_option maxRecDepth 100000 in
set_option maxHeartbeats 4000000 in
/-- Pick, of who is next. -/
theorem qpick {TK : Nat → Prop} {w0 : FrQ} {w : World} {b g c hb n : Nat} {q : QV} (Q : Qx TK w0 w b g c hb n q) (hn : n ≤ 4096) (x : Nat) (hx : q.h.ids[0]? = some x) (b1 : q.now ≤ 1152921504606846976) (b2 : 0 ≤ q.h.ks.getD x 0 ∧ q.h.ks.getD x 0 ≤ 2305843009213693952) (b5 : q.now ≤ q.h.ks.getD x 0) (b3 : rightT (q.rows.getD x row0).tk = true) (b4 : 0 ≤ (q.rows.getD x row0).pk ∧ (q.rows.getD x row0).pk ≤ 1099511627776) :
    Calls Tryz.prog 22 #[.pointer (some ⟨b, 0, none⟩)] w fun e w' => e = .returned (.tuple #[.int .i64 x, .bool true]) ∧ Qx TK w0 w' b g c hb n (pickR q x) := by
  have hxn := (Q.sd.bij.r 0 x hx).1
  obtain ⟨d0, d1, d2⟩ := Q.box
  have HM := Lib.hid (qmade b hb w d2.cell)
  have HP := Q.pop hn x hx
  have k0 := d0.cell
  have k2 := d2.cell
  have hl := Q.rowsN
  have hsr := strideQ_in b3
  have hne := Q.ne
  have HPR : Hid (pickR q x = ⟨q.h.ks.getD x 0, q.rows.set x ⟨2, (q.rows.getD x row0).tk, q.h.ks.getD x 0 + strideV (q.rows.getD x row0).tk, (q.rows.getD x row0).pk + 1⟩, outV q.h 0⟩) := rfl
  generalize pickR q x = Q' at HPR ⊢
  generalize q.h.ks.getD x 0 = key at b2 b5 HP HPR
  obtain ⟨now, rows, hv⟩ := q
  simp only at b1 b5 HP k0 hl hsr HPR b4
  have hx1 : ¬ (1152921504606846976 < now) := by omega
  obtain ⟨r, hr⟩ : ∃ r, rows.getD x row0 = r := ⟨_, rfl⟩
  rw [hr] at b4 HPR hsr
  have HC := Lib.hid (qcharge key (strideV r.tk) (by unfold I64; omega) (by unfold I64; omega) (by unfold I64; omega))
  have HST := Lib.hid (qstride r.st r.tk r.ps r.pk)
  generalize strideV r.tk = s at hsr HC HST HPR
  have HFIN : Hid (∀ W q2, Qx TK w0 W b g c hb n q2 → q2.rows = rows → q2.now = key → q2.h = outV hv 0 → Qx TK w0 (((W.setCell ⟨g, x * 4 + 2, none⟩ (.int .i64 (key + s))).setCell ⟨g, x * 4, none⟩ (.int .i64 2)).setCell ⟨g, x * 4 + 3, none⟩ (.int .i64 (r.pk + 1))) b g c hb n Q') := by
    intro W q2 h e1 e2 e3
    have H1 := h.setRow hxn 2 (by decide) (.int .i64 (key + s)) ⟨r.st, r.tk, key + s, r.pk⟩ (by rw [e1, hr]; rfl)
    have H2 := H1.setRow hxn 0 (by decide) (.int .i64 2) ⟨2, r.tk, key + s, r.pk⟩ (by simp only; rw [e1, getD_set_same' _ _ _ (by omega)]; rfl)
    have H3 := H2.setRow hxn 3 (by decide) (.int .i64 (r.pk + 1)) ⟨2, r.tk, key + s, r.pk + 1⟩ (by simp only; rw [e1, List.set_set, getD_set_same' _ _ _ (by omega)]; rfl)
    simp only [List.set_set] at H3
    rw [e1, e2, e3] at H3
    rw [HPR.out]
    exact H3
  have HRW : Hid (∀ W q2, Qx TK w0 W b g c hb n q2 → q2.rows = rows → Box W g (x * 4) (.int .i64 r.st) ∧ Box W g (x * 4 + 1) (.int .i64 r.tk) ∧ Box W g (x * 4 + 2) (.int .i64 r.ps) ∧ Box W g (x * 4 + 3) (.int .i64 r.pk)) := by
    intro W q2 h e
    have := h.row hxn
    rw [e, hr] at this
    exact this
  generalize hpk : r.pk = pk at HST b4 HPR HRW HFIN
  generalize htk : r.tk = tk at HST HPR HRW HFIN
  generalize hst : r.st = st at HST HRW HFIN
  generalize hps : r.ps = ps at HST HRW HFIN
  have hw1 : IntKind.i64.wrap (pk + 1) = pk + 1 := by rw [IntKind.wrap_i64] <;> omega
  have HP := Lib.hid HP
  have hle : now = key ∨ now < key := by omega
  clear hr b3 d0 d1 d2 b1 hx HPR Q b5 hpk htk hst hps
  rcases hle with hle | hle
  · subst hle
    go_enter Tryz.func22, Tryz.ntmps22
    go_wp2_with (first
      | (go_at_call 41; (with_reducible refine HM.out.mono ?_); rintro e w1 ⟨rfl, rfl⟩)
      | (go_at_call 55; (with_reducible refine HP.out.mono ?_); rintro e w1 ⟨rfl, hX, _⟩; obtain ⟨e0, e1, e2⟩ := hX.box; have k3 := e0.cell; have k4 := e0.free; have k5 := e1.cell; obtain ⟨c0, c1, c2, c3⟩ := HRW.out _ _ hX rfl; have k6 := c0.cell; have k7 := c1.cell; have k8 := c2.cell; have k9 := c3.cell)
      | (go_at_call 49; (with_reducible refine (HST.out _).mono ?_); rintro e w2 ⟨rfl, hb2⟩; have hX2 := (hX.setNow now).below hb2; obtain ⟨c0, c1, c2, c3⟩ := HRW.out _ _ hX2 rfl; have k6 := c0.cell; have k7 := c1.cell; have k8 := c2.cell; have k9 := c3.cell; have f0 := c0.free; have f1 := c1.free; have f2 := c2.free; have f3 := c3.free)
      | (go_at_call 56; (with_reducible refine (HC.out _).mono ?_); rintro e w3 ⟨rfl, rfl⟩))
    go_ret2
    exact ⟨rfl, HFIN.out _ _ hX2 rfl rfl rfl⟩
  · have hlt : ¬ (key < now) := by omega
    go_enter Tryz.func22, Tryz.ntmps22
    go_wp2_with (first
      | (go_at_call 41; (with_reducible refine HM.out.mono ?_); rintro e w1 ⟨rfl, rfl⟩)
      | (go_at_call 55; (with_reducible refine HP.out.mono ?_); rintro e w1 ⟨rfl, hX, _⟩; obtain ⟨e0, e1, e2⟩ := hX.box; have k3 := e0.cell; have k4 := e0.free; have k5 := e1.cell; obtain ⟨c0, c1, c2, c3⟩ := HRW.out _ _ hX rfl; have k6 := c0.cell; have k7 := c1.cell; have k8 := c2.cell; have k9 := c3.cell)
      | (go_at_call 49; (with_reducible refine (HST.out _).mono ?_); rintro e w2 ⟨rfl, hb2⟩; have hX2 := (hX.setNow key).below hb2; obtain ⟨c0, c1, c2, c3⟩ := HRW.out _ _ hX2 rfl; have k6 := c0.cell; have k7 := c1.cell; have k8 := c2.cell; have k9 := c3.cell; have f0 := c0.free; have f1 := c1.free; have f2 := c2.free; have f3 := c3.free)
      | (go_at_call 56; (with_reducible refine (HC.out _).mono ?_); rintro e w3 ⟨rfl, rfl⟩))
    go_ret2
    exact ⟨rfl, HFIN.out _ _ hX2 rfl rfl rfl⟩
set_option maxRecDepth 100000 in
set_option maxHeartbeats 4000000 in
/-- enter's closure: a thread whose state was set already waits. -/
theorem qenter1 {TK : Nat → Prop} {w0 : FrQ} {w : World} {b g c hb n : Nat} {q : QV} (Q : Qx TK w0 w b g c hb n q) (hn : n ≤ 4096) (x : Nat) (hx : x < n) (B1 B2 : Nat) (hB1 : w.cell? ⟨B1, 0, none⟩ = some (.pointer (some ⟨b, 0, none⟩))) (hB2 : w.cell? ⟨B2, 0, none⟩ = some (.int .i64 x)) (r : RowQ) (hr : q.rows.getD x row0 = r) (hh : ¬ hasV q.h x) (b1 : I64 q.now) (b2 : rightT r.tk = true) (hne : B1 ≠ g ∧ B2 ≠ g) (hT1 : TK B1) (hT2 : TK B2) :
    Calls Tryz.prog 79 #[.pointer (some ⟨g, x * 4, none⟩), .pointer (some ⟨B1, 0, none⟩), .pointer (some ⟨B2, 0, none⟩)] w fun e w' => e = .returned (.tuple #[]) ∧ Qx TK w0 w' b g c hb n ⟨q.now, q.rows.set x ⟨r.st, r.tk, enterV r.ps q.now (strideV r.tk), r.pk⟩, putV q.h x (enterV r.ps q.now (strideV r.tk))⟩ := by
  have hl := Q.rowsN
  have hsr := strideQ_in b2
  obtain ⟨now, rows, hv⟩ := q
  simp only at hr hh b1 hl
  have HST := Lib.hid (qstride r.st r.tk r.ps r.pk)
  have HEN := Lib.hid (fun W => senter r.ps now (strideV r.tk) b1 (by unfold I64; omega) W)
  generalize enterV r.ps now (strideV r.tk) = ev at HEN ⊢
  generalize strideV r.tk = s at HST HEN
  have HRW : Hid (∀ W, Qx TK w0 W b g c hb n ⟨now, rows, hv⟩ → Box W b 0 (.int .i64 now) ∧ Box W b 2 (.pointer (some ⟨hb, 0, none⟩)) ∧ Box W g (x * 4) (.int .i64 r.st) ∧ Box W g (x * 4 + 1) (.int .i64 r.tk) ∧ Box W g (x * 4 + 2) (.int .i64 r.ps) ∧ Box W g (x * 4 + 3) (.int .i64 r.pk)) := by
    intro W h
    have h1 := h.row hx
    simp only at h1
    rw [hr] at h1
    exact ⟨h.box.1, h.box.2.2, h1⟩
  have HSET : Hid (∀ W, Qx TK w0 W b g c hb n ⟨now, rows, hv⟩ → Qx TK w0 (W.setCell ⟨g, x * 4 + 2, none⟩ (.int .i64 ev)) b g c hb n ⟨now, rows.set x ⟨r.st, r.tk, ev, r.pk⟩, hv⟩) := by
    intro W h
    exact h.setRow hx 2 (by decide) (.int .i64 ev) ⟨r.st, r.tk, ev, r.pk⟩ (by rw [hr]; rfl)
  have HRV : Hid (∀ W h2, Qx TK w0 W b g c hb n ⟨now, rows.set x ⟨r.st, r.tk, ev, r.pk⟩, h2⟩ → W.cell? ⟨b, 2, none⟩ = some (.pointer (some ⟨hb, 0, none⟩)) ∧ W.cell? ⟨g, x * 4 + 2, none⟩ = some (.int .i64 ev)) := by
    intro W h2 h
    obtain ⟨_, _, r2, _⟩ := h.row hx
    refine ⟨h.box.2.2.cell, ?_⟩
    have := r2.cell
    simp only at this
    rwa [getD_set_same' _ _ _ (by omega)] at this
  have HPU := Lib.hid (fun W (h : Qx TK w0 W b g c hb n ⟨now, rows.set x ⟨r.st, r.tk, ev, r.pk⟩, hv⟩) => h.put hn x x ev rfl hx hh)
  have HB1 := Lib.hid hB1
  have HB2 := Lib.hid hB2
  have HQ := Lib.hid Q
  clear Q hB1 hB2 hr hh hl b1 b2 hsr
  go_enter Tryz.func79, Tryz.ntmps79
  go_wp2
  obtain ⟨T, hT⟩ : ∃ T : Nat → Fact, ∀ t_, T t_ = ([Fact.eq (.pointer (some ⟨g, x * 4, none⟩)), Fact.eq (.pointer (some ⟨g, x * 4, none⟩)), Fact.eq (.pointer (some ⟨g, x * 4, none⟩)), Fact.eq (.pointer (some ⟨g, x * 4 + 2, none⟩)), Fact.eq (.int .i64 r.ps), Fact.eq (.pointer (some ⟨b, 0, none⟩)), Fact.eq (.pointer (some ⟨b, 0, none⟩)), Fact.eq (.pointer (some ⟨b, 0, none⟩)), Fact.eq (.int .i64 now), Fact.eq (.pointer (some ⟨g, x * 4, none⟩)), Fact.eq (.pointer (some ⟨g, x * 4, none⟩)), Fact.eq (.agg #[.int .i64 r.st, .int .i64 r.tk, .int .i64 r.ps, .int .i64 r.pk]), Fact.eq (.int .i64 s), Fact.eq (.int .i64 ev), Fact.eq (.pointer (some ⟨g, x * 4, none⟩)), Fact.eq (.pointer (some ⟨g, x * 4 + 2, none⟩)), Fact.eq (undef)] : List (Fact)).getD t_ Fact.any := ⟨_, fun _ => rfl⟩
  refine region_tabS 16 [(0, 4), (1, 5), (2, 6), (3, 7), (4, 8), (5, 9), (6, 10), (7, 11), (8, 12), (9, 13), (10, 14), (11, 15), (12, 16), (13, 17), (14, 18), (15, 19)] T (by kernel_rfl) (by kernel_rfl) (by kernel_rfl) (by kernel_rfl) (by kernel_rfl) (by kernel_rfl) (by kernel_rfl) ?_ ?_
  · skip
    refine stepsAll_cons (k := 0) ?_ ?_
    · intro fa fx fW hF fB hE K fK
      have ev0 : fa.tmps[0]?.getD undef = .pointer (some ⟨g, x * 4, none⟩) := hF.eo 0 (by kernel_rfl)
      refine wpOp_val rfl (wanted_none rfl) ?_ (fK (.pointer (some ⟨g, x * 4, none⟩)) fW (Below.refl _ _) (by rw [hT]; exact rfl))
      clear fK hE hF
      go_simp
    refine stepsAll_cons (k := 1) ?_ ?_
    · intro fa fx fW hF fB hE K fK
      have ev0 : fa.tmps[0]?.getD undef = .pointer (some ⟨g, x * 4, none⟩) := hF.eo 0 (by kernel_rfl)
      refine wpOp_val rfl (wanted_none rfl) ?_ (fK (.pointer (some ⟨g, x * 4, none⟩)) fW (Below.refl _ _) (by rw [hT]; exact rfl))
      clear fK hE hF
      go_simp
    refine stepsAll_cons (k := 2) ?_ ?_
    · intro fa fx fW hF fB hE K fK
      have q1 : fx 1 = .pointer (some ⟨g, x * 4, none⟩) := by have q := hE ⟨1, .data⟩ (by simp) rfl; rw [hT] at q; exact q
      have ev5 : fa.tmps[5]?.getD undef = .pointer (some ⟨g, x * 4, none⟩) := (hF.ev 1 5 (by kernel_rfl)).trans q1
      refine wpOp_val rfl (wanted_none rfl) ?_ (fK (.pointer (some ⟨g, x * 4, none⟩)) fW (Below.refl _ _) (by rw [hT]; exact rfl))
      clear fK hE hF
      go_simp
    refine stepsAll_cons (k := 3) ?_ ?_
    · intro fa fx fW hF fB hE K fK
      have q2 : fx 2 = .pointer (some ⟨g, x * 4, none⟩) := by have q := hE ⟨2, .data⟩ (by simp) rfl; rw [hT] at q; exact q
      have ev6 : fa.tmps[6]?.getD undef = .pointer (some ⟨g, x * 4, none⟩) := (hF.ev 2 6 (by kernel_rfl)).trans q2
      refine wpOp_val rfl (wanted_none rfl) ?_ (fK (.pointer (some ⟨g, x * 4 + 2, none⟩)) fW (Below.refl _ _) (by rw [hT]; exact rfl))
      clear fK hE hF
      go_simp
    refine stepsAll_cons (k := 4) ?_ ?_
    · intro fa fx fW hF fB hE K fK
      have q3 : fx 3 = .pointer (some ⟨g, x * 4 + 2, none⟩) := by have q := hE ⟨3, .data⟩ (by simp) rfl; rw [hT] at q; exact q
      have ev7 : fa.tmps[7]?.getD undef = .pointer (some ⟨g, x * 4 + 2, none⟩) := (hF.ev 3 7 (by kernel_rfl)).trans q3
      obtain ⟨_, _, _, _, z2, _⟩ := HRW.out _ (HQ.out.below fB)
      have k0 := z2.cell
      refine wpOp_val rfl (wanted_none rfl) ?_ (fK (.int .i64 r.ps) fW (Below.refl _ _) (by rw [hT]; exact rfl))
      clear fK hE hF
      go_simp
    refine stepsAll_cons (k := 5) ?_ ?_
    · intro fa fx fW hF fB hE K fK
      have ev1 : fa.tmps[1]?.getD undef = .pointer (some ⟨B1, 0, none⟩) := hF.eo 1 (by kernel_rfl)
      have k0 := cell_below fB HB1.out
      refine wpOp_val rfl (wanted_none rfl) ?_ (fK (.pointer (some ⟨b, 0, none⟩)) fW (Below.refl _ _) (by rw [hT]; exact rfl))
      clear fK hE hF
      go_simp
    refine stepsAll_cons (k := 6) ?_ ?_
    · intro fa fx fW hF fB hE K fK
      have q5 : fx 5 = .pointer (some ⟨b, 0, none⟩) := by have q := hE ⟨5, .data⟩ (by simp) rfl; rw [hT] at q; exact q
      have ev9 : fa.tmps[9]?.getD undef = .pointer (some ⟨b, 0, none⟩) := (hF.ev 5 9 (by kernel_rfl)).trans q5
      refine wpOp_val rfl (wanted_none rfl) ?_ (fK (.pointer (some ⟨b, 0, none⟩)) fW (Below.refl _ _) (by rw [hT]; exact rfl))
      clear fK hE hF
      go_simp
    refine stepsAll_cons (k := 7) ?_ ?_
    · intro fa fx fW hF fB hE K fK
      have q6 : fx 6 = .pointer (some ⟨b, 0, none⟩) := by have q := hE ⟨6, .data⟩ (by simp) rfl; rw [hT] at q; exact q
      have ev10 : fa.tmps[10]?.getD undef = .pointer (some ⟨b, 0, none⟩) := (hF.ev 6 10 (by kernel_rfl)).trans q6
      refine wpOp_val rfl (wanted_none rfl) ?_ (fK (.pointer (some ⟨b, 0, none⟩)) fW (Below.refl _ _) (by rw [hT]; exact rfl))
      clear fK hE hF
      go_simp
    refine stepsAll_cons (k := 8) ?_ ?_
    · intro fa fx fW hF fB hE K fK
      have q7 : fx 7 = .pointer (some ⟨b, 0, none⟩) := by have q := hE ⟨7, .data⟩ (by simp) rfl; rw [hT] at q; exact q
      have ev11 : fa.tmps[11]?.getD undef = .pointer (some ⟨b, 0, none⟩) := (hF.ev 7 11 (by kernel_rfl)).trans q7
      obtain ⟨z2, _⟩ := HRW.out _ (HQ.out.below fB)
      have k0 := z2.cell
      refine wpOp_val rfl (wanted_none rfl) ?_ (fK (.int .i64 now) fW (Below.refl _ _) (by rw [hT]; exact rfl))
      clear fK hE hF
      go_simp
    refine stepsAll_cons (k := 9) ?_ ?_
    · intro fa fx fW hF fB hE K fK
      have ev0 : fa.tmps[0]?.getD undef = .pointer (some ⟨g, x * 4, none⟩) := hF.eo 0 (by kernel_rfl)
      refine wpOp_val rfl (wanted_none rfl) ?_ (fK (.pointer (some ⟨g, x * 4, none⟩)) fW (Below.refl _ _) (by rw [hT]; exact rfl))
      clear fK hE hF
      go_simp
    refine stepsAll_cons (k := 10) ?_ ?_
    · intro fa fx fW hF fB hE K fK
      have q9 : fx 9 = .pointer (some ⟨g, x * 4, none⟩) := by have q := hE ⟨9, .data⟩ (by simp) rfl; rw [hT] at q; exact q
      have ev13 : fa.tmps[13]?.getD undef = .pointer (some ⟨g, x * 4, none⟩) := (hF.ev 9 13 (by kernel_rfl)).trans q9
      refine wpOp_val rfl (wanted_none rfl) ?_ (fK (.pointer (some ⟨g, x * 4, none⟩)) fW (Below.refl _ _) (by rw [hT]; exact rfl))
      clear fK hE hF
      go_simp
    refine stepsAll_cons (k := 11) ?_ ?_
    · intro fa fx fW hF fB hE K fK
      have q10 : fx 10 = .pointer (some ⟨g, x * 4, none⟩) := by have q := hE ⟨10, .data⟩ (by simp) rfl; rw [hT] at q; exact q
      have ev14 : fa.tmps[14]?.getD undef = .pointer (some ⟨g, x * 4, none⟩) := (hF.ev 10 14 (by kernel_rfl)).trans q10
      obtain ⟨_, _, z0, z1, z2, z3⟩ := HRW.out _ (HQ.out.below fB)
      have k0 := z0.cell
      have k1 := z1.cell
      have k2 := z2.cell
      have k3 := z3.cell
      refine wpOp_val rfl (wanted_none rfl) ?_ (fK (.agg #[.int .i64 r.st, .int .i64 r.tk, .int .i64 r.ps, .int .i64 r.pk]) fW (Below.refl _ _) (by rw [hT]; exact rfl))
      clear fK hE hF
      go_simp
    refine stepsAll_cons (k := 12) ?_ ?_
    · intro fa fx fW hF fB hE K fK
      have q11 : fx 11 = .agg #[.int .i64 r.st, .int .i64 r.tk, .int .i64 r.ps, .int .i64 r.pk] := by have q := hE ⟨11, .data⟩ (by simp) rfl; rw [hT] at q; exact q
      have ev15 : fa.tmps[15]?.getD undef = .agg #[.int .i64 r.st, .int .i64 r.tk, .int .i64 r.ps, .int .i64 r.pk] := (hF.ev 11 15 (by kernel_rfl)).trans q11
      refine wpOp_call rfl (wanted_none rfl) (by go_simp; exact ⟨rfl, rfl⟩) ?_
      refine (HST.out fW).mono ?_
      rintro e' w' ⟨rfl, hbb⟩
      exact ⟨_, rfl, fK (_) (w') (hbb) (by rw [hT]; exact rfl)⟩
    refine stepsAll_cons (k := 13) ?_ ?_
    · intro fa fx fW hF fB hE K fK
      have q4 : fx 4 = .int .i64 r.ps := by have q := hE ⟨4, .data⟩ (by simp) rfl; rw [hT] at q; exact q
      have q8 : fx 8 = .int .i64 now := by have q := hE ⟨8, .data⟩ (by simp) rfl; rw [hT] at q; exact q
      have q12 : fx 12 = .int .i64 s := by have q := hE ⟨12, .data⟩ (by simp) rfl; rw [hT] at q; exact q
      have ev8 : fa.tmps[8]?.getD undef = .int .i64 r.ps := (hF.ev 4 8 (by kernel_rfl)).trans q4
      have ev12 : fa.tmps[12]?.getD undef = .int .i64 now := (hF.ev 8 12 (by kernel_rfl)).trans q8
      have ev16 : fa.tmps[16]?.getD undef = .int .i64 s := (hF.ev 12 16 (by kernel_rfl)).trans q12
      refine wpOp_call rfl (wanted_none rfl) (by go_simp; exact ⟨rfl, rfl⟩) ?_
      refine (HEN.out fW).mono ?_
      rintro e' w' ⟨rfl, rfl⟩
      exact ⟨_, rfl, fK (_) (fW) (Below.refl _ _) (by rw [hT]; exact rfl)⟩
    refine stepsAll_cons (k := 14) ?_ ?_
    · intro fa fx fW hF fB hE K fK
      have q0 : fx 0 = .pointer (some ⟨g, x * 4, none⟩) := by have q := hE ⟨0, .data⟩ (by simp) rfl; rw [hT] at q; exact q
      have ev4 : fa.tmps[4]?.getD undef = .pointer (some ⟨g, x * 4, none⟩) := (hF.ev 0 4 (by kernel_rfl)).trans q0
      refine wpOp_val rfl (wanted_none rfl) ?_ (fK (.pointer (some ⟨g, x * 4, none⟩)) fW (Below.refl _ _) (by rw [hT]; exact rfl))
      clear fK hE hF
      go_simp
    refine stepsAll_cons (k := 15) ?_ ?_
    · intro fa fx fW hF fB hE K fK
      have q14 : fx 14 = .pointer (some ⟨g, x * 4, none⟩) := by have q := hE ⟨14, .data⟩ (by simp) rfl; rw [hT] at q; exact q
      have ev18 : fa.tmps[18]?.getD undef = .pointer (some ⟨g, x * 4, none⟩) := (hF.ev 14 18 (by kernel_rfl)).trans q14
      refine wpOp_val rfl (wanted_none rfl) ?_ (fK (.pointer (some ⟨g, x * 4 + 2, none⟩)) fW (Below.refl _ _) (by rw [hT]; exact rfl))
      clear fK hE hF
      go_simp
    exact stepsAll_nil
  intro fa fx fW hF fB hx
  have q13 : fx 13 = .int .i64 ev := by have q := hx 13 (by decide); rw [hT] at q; exact q
  have ev17 : fa.tmps[17]?.getD undef = .int .i64 ev := (hF.ev 13 17 (by kernel_rfl)).trans q13
  have q15 : fx 15 = .pointer (some ⟨g, x * 4 + 2, none⟩) := by have q := hx 15 (by decide); rw [hT] at q; exact q
  have ev19 : fa.tmps[19]?.getD undef = .pointer (some ⟨g, x * 4 + 2, none⟩) := (hF.ev 15 19 (by kernel_rfl)).trans q15
  obtain ⟨_, _, z0, z1, z2, z3⟩ := HRW.out _ (HQ.out.below fB)
  have k0 := z2.cell
  have f0 := z2.free
  refine wpOp_fin rfl (wanted_none rfl) rfl (W' := fW.setCell ⟨g, x * 4 + 2, none⟩ (.int .i64 ev)) ?_ ?_
  · clear hF hx
    go_simp
  refine tail_end ?_
  rw [hF.eq]
  clear hF hx
  simp only [putAll, Act.put, List.setIfInBounds_toArray, List.set_cons_zero, List.set_cons_succ, ]
  clear HST HEN
  have hQ1 := HSET.out _ (HQ.out.below fB)
  have hB1' : (fW.setCell ⟨g, x * 4 + 2, none⟩ (.int .i64 ev)).cell? ⟨B1, 0, none⟩ = some (.pointer (some ⟨b, 0, none⟩)) := by
    have := ((Chg.refl (fun k => k = g) fW).setCell g (x * 4 + 2) (.int .i64 ev) rfl).cell (cell_below fB HB1.out) hne.1
    exact this
  have hB2' : (fW.setCell ⟨g, x * 4 + 2, none⟩ (.int .i64 ev)).cell? ⟨B2, 0, none⟩ = some (.int .i64 x) := by
    have := ((Chg.refl (fun k => k = g) fW).setCell g (x * 4 + 2) (.int .i64 ev) rfl).cell (cell_below fB HB2.out) hne.2
    exact this
  generalize fW.setCell ⟨g, x * 4 + 2, none⟩ (.int .i64 ev) = W3 at hQ1 hB1' hB2' ⊢
  clear HB1 HB2 HQ HSET HRW
  go_wp2
  obtain ⟨G, hG⟩ : ∃ G : Option Value → World → Prop, ∀ a W, G a W = (∃ h2, Qx TK w0 W b g c hb n ⟨now, rows.set x ⟨r.st, r.tk, ev, r.pk⟩, h2⟩ ∧ W.cell? ⟨B1, 0, none⟩ = some (.pointer (some ⟨b, 0, none⟩)) ∧ W.cell? ⟨B2, 0, none⟩ = some (.int .i64 x) ∧ (a = none → h2 = hv) ∧ (∀ u, a = some u → h2 = putV hv x ev)) := ⟨_, fun _ _ => rfl⟩
  obtain ⟨S_, hS_⟩ : ∃ S_ : World → World → Prop, S_ = (fun _ _ => True) := ⟨_, rfl⟩
  have hR_ : ∀ W, S_ W W := by intro W; rw [hS_]; exact trivial
  obtain ⟨T, hT⟩ : ∃ T : Nat → FactS S_, ∀ t_, T t_ = ([FactS.eq (.pointer (some ⟨b, 0, none⟩)), FactS.eq (.pointer (some ⟨b, 0, none⟩)), FactS.eq (.pointer (some ⟨b, 2, none⟩)), FactS.eq (.pointer (some ⟨hb, 0, none⟩)), FactS.eq (.int .i64 x), FactS.eq (.pointer (some ⟨g, x * 4, none⟩)), FactS.eq (.pointer (some ⟨g, x * 4, none⟩)), FactS.eq (.pointer (some ⟨g, x * 4 + 2, none⟩)), FactS.eq (.int .i64 ev), FactS.eq (.int .i64 0)] : List (FactS S_)).getD t_ FactS.any := ⟨_, fun _ => rfl⟩
  have hP_ : ∀ i_ v_ (y_ : Nat → Option Value) W_, ([9].contains i_) = false → G (y_ 9) W_ → G (updY y_ i_ v_ 9) W_ := by
    intro i_ v_ y_ W_ hi_ h_
    simp only [List.contains_cons, List.contains_nil, Bool.or_false, beq_eq_false_iff_ne, ne_eq] at hi_
    rw [updY_ne y_ i_ v_ hi_]
    exact h_
  refine region_tabJ [(0, 20), (1, 21), (2, 22), (3, 23), (4, 24), (5, 25), (6, 26), (7, 27), (8, 28), (9, 29)] S_ T (fun y_ W_ => G (y_ 9) W_) (by kernel_rfl) (by kernel_rfl) (by kernel_rfl) (by kernel_rfl) (by kernel_rfl) ?_ ?_ ?_
  · skip
    show G none _
    rw [hG]
    exact ⟨_, hQ1.below (below_dr (Below.refl _ _) 1), hB1', hB2', fun _ => rfl, fun u h => by cases h⟩
  · skip
    refine stepsAll_cons (k := 0) ?_ ?_
    · intro fa fx fW fy hF hN hJ hE K fK
      have hJ : G (fy 9) fW := hJ
      have ev1 : fa.tmps[1]?.getD undef = .pointer (some ⟨B1, 0, none⟩) := hF.eo 1 (by kernel_rfl)
      have hJ2 := hJ
      rw [hG] at hJ2
      obtain ⟨_, _, k0, _⟩ := hJ2
      refine wpOp_val rfl (wanted_none rfl) ?_ (fK (.pointer (some ⟨b, 0, none⟩)) fW (hR_ fW) (by rw [hT]; exact rfl) (hP_ 0 _ fy fW rfl hJ))
      clear fK hE hF hJ hN
      go_simp
    refine stepsAll_cons (k := 1) ?_ ?_
    · intro fa fx fW fy hF hN hJ hE K fK
      have hJ : G (fy 9) fW := hJ
      have q0 : fx 0 = .pointer (some ⟨b, 0, none⟩) := by have q := (hE ⟨0, .data⟩ (by simp) rfl).2; rw [hT] at q; exact q
      have ev20 : fa.tmps[20]?.getD undef = .pointer (some ⟨b, 0, none⟩) := (hF.ev 0 20 (by kernel_rfl)).trans q0
      refine wpOp_val rfl (wanted_none rfl) ?_ (fK (.pointer (some ⟨b, 0, none⟩)) fW (hR_ fW) (by rw [hT]; exact rfl) (hP_ 1 _ fy fW rfl hJ))
      clear fK hE hF hJ hN
      go_simp
    refine stepsAll_cons (k := 2) ?_ ?_
    · intro fa fx fW fy hF hN hJ hE K fK
      have hJ : G (fy 9) fW := hJ
      have q1 : fx 1 = .pointer (some ⟨b, 0, none⟩) := by have q := (hE ⟨1, .data⟩ (by simp) rfl).2; rw [hT] at q; exact q
      have ev21 : fa.tmps[21]?.getD undef = .pointer (some ⟨b, 0, none⟩) := (hF.ev 1 21 (by kernel_rfl)).trans q1
      refine wpOp_val rfl (wanted_none rfl) ?_ (fK (.pointer (some ⟨b, 2, none⟩)) fW (hR_ fW) (by rw [hT]; exact rfl) (hP_ 2 _ fy fW rfl hJ))
      clear fK hE hF hJ hN
      go_simp
    refine stepsAll_cons (k := 3) ?_ ?_
    · intro fa fx fW fy hF hN hJ hE K fK
      have hJ : G (fy 9) fW := hJ
      have q2 : fx 2 = .pointer (some ⟨b, 2, none⟩) := by have q := (hE ⟨2, .data⟩ (by simp) rfl).2; rw [hT] at q; exact q
      have ev22 : fa.tmps[22]?.getD undef = .pointer (some ⟨b, 2, none⟩) := (hF.ev 2 22 (by kernel_rfl)).trans q2
      have hJ2 := hJ
      rw [hG] at hJ2
      obtain ⟨h2, j1, _⟩ := hJ2
      have k0 := (HRV.out _ _ j1).1
      refine wpOp_val rfl (wanted_none rfl) ?_ (fK (.pointer (some ⟨hb, 0, none⟩)) fW (hR_ fW) (by rw [hT]; exact rfl) (hP_ 3 _ fy fW rfl hJ))
      clear fK hE hF hJ hN
      go_simp
    refine stepsAll_cons (k := 4) ?_ ?_
    · intro fa fx fW fy hF hN hJ hE K fK
      have hJ : G (fy 9) fW := hJ
      have ev2 : fa.tmps[2]?.getD undef = .pointer (some ⟨B2, 0, none⟩) := hF.eo 2 (by kernel_rfl)
      have hJ2 := hJ
      rw [hG] at hJ2
      obtain ⟨_, _, _, k0, _⟩ := hJ2
      refine wpOp_val rfl (wanted_none rfl) ?_ (fK (.int .i64 x) fW (hR_ fW) (by rw [hT]; exact rfl) (hP_ 4 _ fy fW rfl hJ))
      clear fK hE hF hJ hN
      go_simp
    refine stepsAll_cons (k := 5) ?_ ?_
    · intro fa fx fW fy hF hN hJ hE K fK
      have hJ : G (fy 9) fW := hJ
      have ev0 : fa.tmps[0]?.getD undef = .pointer (some ⟨g, x * 4, none⟩) := hF.eo 0 (by kernel_rfl)
      refine wpOp_val rfl (wanted_none rfl) ?_ (fK (.pointer (some ⟨g, x * 4, none⟩)) fW (hR_ fW) (by rw [hT]; exact rfl) (hP_ 5 _ fy fW rfl hJ))
      clear fK hE hF hJ hN
      go_simp
    refine stepsAll_cons (k := 6) ?_ ?_
    · intro fa fx fW fy hF hN hJ hE K fK
      have hJ : G (fy 9) fW := hJ
      have q5 : fx 5 = .pointer (some ⟨g, x * 4, none⟩) := by have q := (hE ⟨5, .data⟩ (by simp) rfl).2; rw [hT] at q; exact q
      have ev25 : fa.tmps[25]?.getD undef = .pointer (some ⟨g, x * 4, none⟩) := (hF.ev 5 25 (by kernel_rfl)).trans q5
      refine wpOp_val rfl (wanted_none rfl) ?_ (fK (.pointer (some ⟨g, x * 4, none⟩)) fW (hR_ fW) (by rw [hT]; exact rfl) (hP_ 6 _ fy fW rfl hJ))
      clear fK hE hF hJ hN
      go_simp
    refine stepsAll_cons (k := 7) ?_ ?_
    · intro fa fx fW fy hF hN hJ hE K fK
      have hJ : G (fy 9) fW := hJ
      have q6 : fx 6 = .pointer (some ⟨g, x * 4, none⟩) := by have q := (hE ⟨6, .data⟩ (by simp) rfl).2; rw [hT] at q; exact q
      have ev26 : fa.tmps[26]?.getD undef = .pointer (some ⟨g, x * 4, none⟩) := (hF.ev 6 26 (by kernel_rfl)).trans q6
      refine wpOp_val rfl (wanted_none rfl) ?_ (fK (.pointer (some ⟨g, x * 4 + 2, none⟩)) fW (hR_ fW) (by rw [hT]; exact rfl) (hP_ 7 _ fy fW rfl hJ))
      clear fK hE hF hJ hN
      go_simp
    refine stepsAll_cons (k := 8) ?_ ?_
    · intro fa fx fW fy hF hN hJ hE K fK
      have hJ : G (fy 9) fW := hJ
      have q7 : fx 7 = .pointer (some ⟨g, x * 4 + 2, none⟩) := by have q := (hE ⟨7, .data⟩ (by simp) rfl).2; rw [hT] at q; exact q
      have ev27 : fa.tmps[27]?.getD undef = .pointer (some ⟨g, x * 4 + 2, none⟩) := (hF.ev 7 27 (by kernel_rfl)).trans q7
      have hJ2 := hJ
      rw [hG] at hJ2
      obtain ⟨h2, j1, _⟩ := hJ2
      have k0 := (HRV.out _ _ j1).2
      refine wpOp_val rfl (wanted_none rfl) ?_ (fK (.int .i64 ev) fW (hR_ fW) (by rw [hT]; exact rfl) (hP_ 8 _ fy fW rfl hJ))
      clear fK hE hF hJ hN
      go_simp
    refine stepsAll_cons (k := 9) ?_ ?_
    · intro fa fx fW fy hF hN hJ hE K fK
      have hJ : G (fy 9) fW := hJ
      have q3 : fx 3 = .pointer (some ⟨hb, 0, none⟩) := by have q := (hE ⟨3, .data⟩ (by simp) rfl).2; rw [hT] at q; exact q
      have q4 : fx 4 = .int .i64 x := by have q := (hE ⟨4, .data⟩ (by simp) rfl).2; rw [hT] at q; exact q
      have q8 : fx 8 = .int .i64 ev := by have q := (hE ⟨8, .data⟩ (by simp) rfl).2; rw [hT] at q; exact q
      have ev23 : fa.tmps[23]?.getD undef = .pointer (some ⟨hb, 0, none⟩) := (hF.ev 3 23 (by kernel_rfl)).trans q3
      have ev24 : fa.tmps[24]?.getD undef = .int .i64 x := (hF.ev 4 24 (by kernel_rfl)).trans q4
      have ev28 : fa.tmps[28]?.getD undef = .int .i64 ev := (hF.ev 8 28 (by kernel_rfl)).trans q8
      refine wpOp_call rfl (wanted_none rfl) (by go_simp; exact ⟨rfl, rfl⟩) ?_
      have hJ2 := hJ
      rw [hG, hN] at hJ2
      obtain ⟨h2, j1, c1, c2, j2, _⟩ := hJ2
      obtain rfl := j2 rfl
      refine (HPU.out _ j1).mono ?_
      rintro e' w' ⟨rfl, hQ, hfr⟩
      have b1 : S_ fW w' := by rw [hS_]; trivial
      have j3 : G (some (.int .i64 0)) w' := by
        rw [hG]
        exact ⟨_, hQ, (World.cell?_of_block (hfr B1 hT1)).trans c1, (World.cell?_of_block (hfr B2 hT2)).trans c2, (fun e => by cases e), fun _ _ => rfl⟩
      exact ⟨_, rfl, fK (.int .i64 0) (w') (b1) (by rw [hT]; exact rfl) (j3)⟩
    exact stepsAll_nil
  intro fa fx fW fy hF hJ0 hx
  have y9 : fy 9 = some (fx 9) := (hx 9 (by decide)).1
  have hJ : G (fy 9) fW := hJ0
  clear hJ0
  rw [y9] at hJ
  rw [hF.eq]
  clear hF hx hT T hP_ hR_ y9
  simp only [putAll, Act.put, List.setIfInBounds_toArray, List.set_cons_zero, List.set_cons_succ, ]
  rw [hG] at hJ
  obtain ⟨h2, j1, _, _, _, j2⟩ := hJ
  obtain rfl := j2 _ rfl
  clear hG
  go_wp2
  exact bodyPost_end (v := .tuple #[]) (by simp [results, Tryz.results79, go_sem]) rfl ⟨rfl, j1⟩
end Go.Proofs.YtabdipfpfbdghaaGreat
