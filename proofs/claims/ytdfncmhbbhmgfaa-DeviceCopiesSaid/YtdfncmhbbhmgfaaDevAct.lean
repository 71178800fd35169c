/- act: what is done on both devices, and told alike. -/
import Derived.Test.YtdfncmhbbhmgfaaTwo
import Derived.Test.YtdfncmhbbhmgfaaRegionJ
import Derived.Laws.StructEq
namespace Go.Proofs.Ytdfncmhbbhmgfaa
open Go.RowKit
structure Ac where
  kind : Int
  k : Int
  r : Rq
def acC (a : Ac) : List Value := [.int .i64 a.kind, .int .i64 a.k, .int .i64 a.r.id, .int .i64 a.r.space, .int .i64 a.r.thread, .int .i64 a.r.kind, .int .i64 a.r.size]
def acV (a : Ac) : Value := .agg #[.int .i64 a.kind, .int .i64 a.k, .int .i64 a.r.id, .int .i64 a.r.space, .int .i64 a.r.thread, .int .i64 a.r.kind, .int .i64 a.r.size]
def actS (room : Int) (s : DS) (a : Ac) : DS := if a.kind = 0 then (startS room s a.r).2.2 else if a.kind = 1 then (finS s a.k).2.2.2 else if a.kind = 2 then (canS s a.k).2 else s
theorem OkS.act {room k : Int} {s : DS} (h : OkS room k s) (a : Ac) (hk : k + 1 ≤ 1000000) : OkS room (k + 1) (actS room s a) := by
  unfold actS
  split
  · exact h.start _ hk
  · split
    · exact h.fin _ hk
    · split
      · exact h.can _ hk
      · obtain ⟨h0, h1, h2, h3, h4, h5, h6, h7⟩ := h
        exact ⟨h0, h1, h2, h3, by omega, h5, by omega, hk⟩
/-- What act leaves. -/
def ActQ (w : World) (base b1 b2 : Nat) (room : Int) (s' : DS) (e : Ending) (w' : World) : Prop := e = .returned (.bool true) ∧ Below base w w' ∧ Two w' base b1 b2 w'.heap.size w'.heap.size room s' s'
theorem ActQ.of {w w' : World} {base b1 b2 N1 N2 : Nat} {room : Int} {s' : DS} {e : Ending} (he : e = .returned (.bool true)) (hb : Below base w w') (ht : Two w' base b1 b2 N1 N2 room s' s') : ActQ w base b1 b2 room s' e w' := ⟨he, hb, ht.tight⟩
theorem chg_below {w0 w w' : World} {base N : Nat} (h : Chg (fun k => base ≤ k ∧ k < N) w w') (hb : Below base w0 w) (hB : base ≤ w.heap.size) : Below base w0 w' := h.toBelow hb hB (fun _ e => e.1)
set_option maxRecDepth 100000 in
set_option maxHeartbeats 4000000 in
theorem act0 {w : World} {base b1 b2 : Nat} {room n : Int} {s : DS} (h : Two w base b1 b2 w.heap.size w.heap.size room s s) (hk : OkS room n s) (q : Int) (r : Rq) :
    Calls Try.prog 14 #[.pointer (some ⟨b1, 0, none⟩), .pointer (some ⟨b2, 0, none⟩), acV ⟨0, q, r⟩] w (ActQ w base b1 b2 room (startS room s r).2.2) := by
  have hal : Below w.heap.size w (w.alloc (.cells (acC ⟨0, q, r⟩).toArray 41)) := below_al (Below.refl _ _) _
  have HB := Lib.hid (Below.up hal h.size)
  have HS := Lib.hid (tstart (h.below hal) hk r)
  have HR := Lib.hid (fun W N1 N2 (ht : Two W base b1 b2 N1 N2 room (startS room s r).2.2 s) => tstartR ht hk r)
  generalize startS room s r = st at HS HR ⊢
  obtain ⟨id, er, s'⟩ := st
  obtain ⟨r1, r2, r3, r4, r5⟩ := r
  have hsz := h.size
  unfold acC at HB HS
  unfold rqV at HS HR
  unfold acV
  simp only at HB HS HR ⊢
  clear hal h
  go_enter Try.func14, Try.ntmps14
  go_wp2_with (first
    | (go_at_call 9; (with_reducible refine HS.out.mono ?_); rintro e w1 ⟨rfl, hc1, N, ht1⟩; have z2 := hc1.cell (a := ⟨w.heap.size, 2, none⟩) (v := .int .i64 r1) (by go_simp) (by simp); have z3 := hc1.cell (a := ⟨w.heap.size, 3, none⟩) (v := .int .i64 r2) (by go_simp) (by simp); have z4 := hc1.cell (a := ⟨w.heap.size, 4, none⟩) (v := .int .i64 r3) (by go_simp) (by simp); have z5 := hc1.cell (a := ⟨w.heap.size, 5, none⟩) (v := .int .i64 r4) (by go_simp) (by simp); have z6 := hc1.cell (a := ⟨w.heap.size, 6, none⟩) (v := .int .i64 r5) (by go_simp) (by simp); have hb1 := chg_below hc1 HB.out (by simp; omega); have hs1 := ht1.size; have HR1 := Lib.hid (HR.out _ _ _ ht1))
    | (go_at_call 26; (with_reducible refine HR1.out.mono ?_); rintro e w2 ⟨rfl, hc2, N', ht2⟩; have hb2 := chg_below hc2 hb1 hs1))
  go_ret
  exact .of rfl hb2 ht2
set_option maxRecDepth 100000 in
set_option maxHeartbeats 4000000 in
theorem act1 {w : World} {base b1 b2 : Nat} {room n : Int} {s : DS} (h : Two w base b1 b2 w.heap.size w.heap.size room s s) (hk : OkS room n s) (q : Int) (r : Rq) :
    Calls Try.prog 14 #[.pointer (some ⟨b1, 0, none⟩), .pointer (some ⟨b2, 0, none⟩), acV ⟨1, q, r⟩] w (ActQ w base b1 b2 room (finS s q).2.2.2) := by
  have hal : Below w.heap.size w (w.alloc (.cells (acC ⟨1, q, r⟩).toArray 41)) := below_al (Below.refl _ _) _
  have HB := Lib.hid (Below.up hal h.size)
  have HS := Lib.hid (tfin (h.below hal) hk q)
  have HR := Lib.hid (fun W N1 N2 (ht : Two W base b1 b2 N1 N2 room (finS s q).2.2.2 s) => tfinR ht hk q)
  generalize finS s q = st at HS HR ⊢
  obtain ⟨x, vv, er, s'⟩ := st
  obtain ⟨x1, x2, x3, x4, x5⟩ := x
  obtain ⟨r1, r2, r3, r4, r5⟩ := r
  have hsz := h.size
  unfold acC at HB HS
  unfold rqV at HS HR
  unfold acV
  simp only at HB HS HR ⊢
  clear hal h
  go_enter Try.func14, Try.ntmps14
  go_wp2_with (first
    | (go_at_call 10; (with_reducible refine HS.out.mono ?_); rintro e w1 ⟨rfl, hc1, N, ht1⟩; have hb1 := chg_below hc1 HB.out (by simp; omega); have hal1 : Below w1.heap.size w1 (w1.alloc (.cells #[.int .i64 x1, .int .i64 x2, .int .i64 x3, .int .i64 x4, .int .i64 x5] 28)) := below_al (Below.refl _ _) _; have hs1 := ht1.size; have z1 := cell_below hal1 (hc1.cell (a := ⟨w.heap.size, 1, none⟩) (v := .int .i64 q) (by go_simp) (by simp)); have HR1 := Lib.hid (HR.out _ _ _ (ht1.tight.below hal1)); have hb1' := below_then hb1 hs1 (Below.up hal1 (Nat.le_refl _)); have y0 : Box5 (w1.alloc (.cells #[.int .i64 x1, .int .i64 x2, .int .i64 x3, .int .i64 x4, .int .i64 x5] 28)) w1.heap.size ⟨x1, x2, x3, x4, x5⟩ := Box5.new w1 ⟨x1, x2, x3, x4, x5⟩ _; have Y0 := Lib.hid y0; clear y0 hal1)
    | (go_at_call 27; (with_reducible refine HR1.out.mono ?_); rintro e w2 ⟨rfl, hc2, N', ht2⟩; have hb2 := chg_below hc2 hb1' (by simp; omega); have y1 := (Y0.out.keep hc2 (by simp)).below (below_al (Below.refl _ _) (.cells #[.int .i64 x1, .int .i64 x2, .int .i64 x3, .int .i64 x4, .int .i64 x5] 63)); have u0 := y1.c0.cell; have u1 := y1.c1.cell; have u2 := y1.c2.cell; have u3 := y1.c3.cell; have u4 := y1.c4.cell; simp only at u0 u1 u2 u3 u4; clear z1 y1))
  go_ret
  exact .of rfl (below_then hb2 ht2.size (Below.up (below_al (Below.refl _ _) _) (Nat.le_refl _))) (ht2.below (below_al (Below.refl _ _) _))
set_option maxRecDepth 100000 in
set_option maxHeartbeats 4000000 in
theorem act2 {w : World} {base b1 b2 : Nat} {room n : Int} {s : DS} (h : Two w base b1 b2 w.heap.size w.heap.size room s s) (hk : OkS room n s) (q : Int) (r : Rq) :
    Calls Try.prog 14 #[.pointer (some ⟨b1, 0, none⟩), .pointer (some ⟨b2, 0, none⟩), acV ⟨2, q, r⟩] w (ActQ w base b1 b2 room (canS s q).2) := by
  obtain ⟨W0, hW0⟩ : ∃ W0, W0 = w.alloc (.cells (acC ⟨2, q, r⟩).toArray (41 : Nat)) := ⟨_, rfl⟩
  have hal : Below w.heap.size w W0 := by rw [hW0]; exact below_al (Below.refl _ _) _
  have HB := Lib.hid (Below.up hal h.size)
  have h0 := h.below hal
  have hsz := h.size
  have hs0 : w.heap.size < W0.heap.size := by rw [hW0]; simp
  have hc0 : W0.cell? ⟨w.heap.size, 0, none⟩ = some (.int .i64 2) := by rw [hW0]; unfold acC; go_simp
  have hc1 : W0.cell? ⟨w.heap.size, 1, none⟩ = some (.int .i64 q) := by rw [hW0]; unfold acC; go_simp
  obtain ⟨N, hN⟩ : ∃ N, N = w.heap.size := ⟨_, rfl⟩
  rw [← hN] at h0
  obtain ⟨S0, hS0⟩ : ∃ S0 : Nat → Prop, S0 = fun k => base ≤ k ∧ k < N := ⟨_, rfl⟩
  unfold acV
  obtain ⟨r1, r2, r3, r4, r5⟩ := r
  unfold acC at hW0
  simp only at hW0 ⊢
  clear hal h
  go_enter Try.func14, Try.ntmps14
  go_wp2
  rw [← hW0]
  clear hW0
  rw [← hN] at hc0 hc1 hs0 ⊢
  have hbN : base ≤ N := by omega
  clear hN
  obtain ⟨G, hG⟩ : ∃ G : Option Value → Option Value → World → Prop, ∀ c d W, G c d W = (Chg S0 W0 W ∧ (d.isSome = true → c.isSome = true) ∧ (c = none → Two W base b1 b2 N N room s s) ∧ (c.isSome = true → d = none → ∃ N1, Two W base b1 b2 N1 N room (canS s q).2 s) ∧ (d.isSome = true → ∃ N1 N2, Two W base b1 b2 N1 N2 room (canS s q).2 (canS s q).2)) := ⟨_, fun _ _ _ => rfl⟩
  obtain ⟨S_, hS_⟩ : ∃ S_ : World → World → Prop, S_ = (Chg S0) := ⟨_, rfl⟩
  have hR_ : ∀ W, S_ W W := by intro W; rw [hS_]; exact Chg.refl _ _
  obtain ⟨T, hT⟩ : ∃ T : Nat → FactS S_, ∀ t_, T t_ = ([FactS.eq (.pointer (some ⟨b1, 0, none⟩)), FactS.eq (.pointer (some ⟨N, 1, none⟩)), FactS.eq (.int .i64 q), FactS.eq (.int .i64 (canS s q).1), FactS.eq (.pointer (some ⟨b2, 0, none⟩)), FactS.eq (.pointer (some ⟨N, 1, none⟩)), FactS.eq (.int .i64 q), FactS.eq (.int .i64 (canS s q).1), FactS.eq (.bool true), FactS.eq (.bool true)] : List (FactS S_)).getD t_ FactS.any := ⟨_, fun _ => rfl⟩
  have hP_ : ∀ i_ v_ (y_ : Nat → Option Value) W_, ([3, 7].contains i_) = false → G (y_ 3) (y_ 7) W_ → G (updY y_ i_ v_ 3) (updY y_ i_ v_ 7) W_ := by
    intro i_ v_ y_ W_ hi_ h_
    simp only [List.contains_cons, List.contains_nil, Bool.or_false, Bool.or_eq_false_iff, beq_eq_false_iff_ne, ne_eq] at hi_
    obtain ⟨i3_, i7_⟩ := hi_
    rw [updY_ne y_ i_ v_ i3_, updY_ne y_ i_ v_ i7_]
    exact h_
  refine region_tabJ [(0, 76), (1, 77), (2, 78), (3, 79), (4, 80), (5, 81), (6, 82), (7, 83), (8, 84), (9, 6)] S_ T (fun y_ W_ => G (y_ 3) (y_ 7) W_) (by kernel_rfl) (by kernel_rfl) (by kernel_rfl) (by kernel_rfl) (by kernel_rfl) ?_ ?_ ?_
  · skip
    show G none none _
    rw [hG]
    exact ⟨(Chg.refl _ _).drewN 1, (fun h => by cases h), fun _ => h0.below (below_dr (Below.refl _ _) 1), (fun h => by cases h), (fun h => by cases h)⟩
  · skip
    refine stepsAll_cons (k := 0) ?_ ?_
    · intro fa fx fW fy hF hN hJ hE K fK
      have hJ : G (fy 3) (fy 7) fW := hJ
      have ev0 : fa.tmps[0]?.getD undef = .pointer (some ⟨b1, 0, none⟩) := hF.eo 0 (by kernel_rfl)
      refine wpOp_val rfl (wanted_none rfl) ?_ (fK (.pointer (some ⟨b1, 0, none⟩)) fW (hR_ fW) (by rw [hT]; exact rfl) (hP_ 0 _ fy fW rfl hJ))
      clear fK hE hF hJ hN
      go_simp
    refine stepsAll_cons (k := 1) ?_ ?_
    · intro fa fx fW fy hF hN hJ hE K fK
      have hJ : G (fy 3) (fy 7) fW := hJ
      have ev5 : fa.tmps[5]?.getD undef = .pointer (some ⟨N, 0, none⟩) := hF.eo 5 (by kernel_rfl)
      refine wpOp_val rfl (wanted_none rfl) ?_ (fK (.pointer (some ⟨N, 1, none⟩)) fW (hR_ fW) (by rw [hT]; exact rfl) (hP_ 1 _ fy fW rfl hJ))
      clear fK hE hF hJ hN
      go_simp
    refine stepsAll_cons (k := 2) ?_ ?_
    · intro fa fx fW fy hF hN hJ hE K fK
      have hJ : G (fy 3) (fy 7) fW := hJ
      have q1 : fx 1 = .pointer (some ⟨N, 1, none⟩) := by have q := (hE ⟨1, .data⟩ (by simp) rfl).2; rw [hT] at q; exact q
      have ev77 : fa.tmps[77]?.getD undef = .pointer (some ⟨N, 1, none⟩) := (hF.ev 1 77 (by kernel_rfl)).trans q1
      have hJ1 := hJ
      rw [hG] at hJ1
      have z := hJ1.1.cell hc1 (by rw [hS0]; simp)
      clear hJ1
      refine wpOp_val rfl (wanted_none rfl) ?_ (fK (.int .i64 q) fW (hR_ fW) (by rw [hT]; exact rfl) (hP_ 2 _ fy fW rfl hJ))
      clear fK hE hF hJ hN
      go_simp
    refine stepsAll_cons (k := 3) ?_ ?_
    · intro fa fx fW fy hF hN hJ hE K fK
      have hJ : G (fy 3) (fy 7) fW := hJ
      have q0 : fx 0 = .pointer (some ⟨b1, 0, none⟩) := by have q := (hE ⟨0, .data⟩ (by simp) rfl).2; rw [hT] at q; exact q
      have q2 : fx 2 = .int .i64 q := by have q := (hE ⟨2, .data⟩ (by simp) rfl).2; rw [hT] at q; exact q
      have ev76 : fa.tmps[76]?.getD undef = .pointer (some ⟨b1, 0, none⟩) := (hF.ev 0 76 (by kernel_rfl)).trans q0
      have ev78 : fa.tmps[78]?.getD undef = .int .i64 q := (hF.ev 2 78 (by kernel_rfl)).trans q2
      refine wpOp_call rfl (wanted_none rfl) (by go_simp; exact ⟨rfl, rfl⟩) ?_
      rw [hG, hN] at hJ
      obtain ⟨j1, j2, j3, j4, j5⟩ := hJ
      have a7 : fy 7 = none := by cases h : fy 7 with | none => rfl | some u => rw [h] at j2; exact absurd (j2 rfl) (by simp)
      refine (tcan (j3 rfl) hk q).mono ?_
      rintro e w' ⟨rfl, hc, N1, ht⟩
      refine ⟨_, rfl, fK (.int .i64 (canS s q).1) w' (by rw [hS_, hS0]; exact hc) (by rw [hT]; exact rfl) ?_⟩
      show G (some _) (fy 7) w'
      rw [hG, a7]
      exact ⟨j1.trans (by rw [hS0]; exact hc), (fun h => by cases h), (fun e => by cases e), fun _ _ => ⟨N1, ht⟩, (fun h => by cases h)⟩
    refine stepsAll_cons (k := 4) ?_ ?_
    · intro fa fx fW fy hF hN hJ hE K fK
      have hJ : G (fy 3) (fy 7) fW := hJ
      have ev1 : fa.tmps[1]?.getD undef = .pointer (some ⟨b2, 0, none⟩) := hF.eo 1 (by kernel_rfl)
      refine wpOp_val rfl (wanted_none rfl) ?_ (fK (.pointer (some ⟨b2, 0, none⟩)) fW (hR_ fW) (by rw [hT]; exact rfl) (hP_ 4 _ fy fW rfl hJ))
      clear fK hE hF hJ hN
      go_simp
    refine stepsAll_cons (k := 5) ?_ ?_
    · intro fa fx fW fy hF hN hJ hE K fK
      have hJ : G (fy 3) (fy 7) fW := hJ
      have ev5 : fa.tmps[5]?.getD undef = .pointer (some ⟨N, 0, none⟩) := hF.eo 5 (by kernel_rfl)
      refine wpOp_val rfl (wanted_none rfl) ?_ (fK (.pointer (some ⟨N, 1, none⟩)) fW (hR_ fW) (by rw [hT]; exact rfl) (hP_ 5 _ fy fW rfl hJ))
      clear fK hE hF hJ hN
      go_simp
    refine stepsAll_cons (k := 6) ?_ ?_
    · intro fa fx fW fy hF hN hJ hE K fK
      have hJ : G (fy 3) (fy 7) fW := hJ
      have q5 : fx 5 = .pointer (some ⟨N, 1, none⟩) := by have q := (hE ⟨5, .data⟩ (by simp) rfl).2; rw [hT] at q; exact q
      have ev81 : fa.tmps[81]?.getD undef = .pointer (some ⟨N, 1, none⟩) := (hF.ev 5 81 (by kernel_rfl)).trans q5
      have hJ1 := hJ
      rw [hG] at hJ1
      have z := hJ1.1.cell hc1 (by rw [hS0]; simp)
      clear hJ1
      refine wpOp_val rfl (wanted_none rfl) ?_ (fK (.int .i64 q) fW (hR_ fW) (by rw [hT]; exact rfl) (hP_ 6 _ fy fW rfl hJ))
      clear fK hE hF hJ hN
      go_simp
    refine stepsAll_cons (k := 7) ?_ ?_
    · intro fa fx fW fy hF hN hJ hE K fK
      have hJ : G (fy 3) (fy 7) fW := hJ
      have q3 : fx 3 = .int .i64 (canS s q).1 := by have q := (hE ⟨3, .chain⟩ (by simp) rfl).2; rw [hT] at q; exact q
      have y3 : fy 3 = some (fx 3) := (hE ⟨3, .chain⟩ (by simp) rfl).1
      have q4 : fx 4 = .pointer (some ⟨b2, 0, none⟩) := by have q := (hE ⟨4, .data⟩ (by simp) rfl).2; rw [hT] at q; exact q
      have q6 : fx 6 = .int .i64 q := by have q := (hE ⟨6, .data⟩ (by simp) rfl).2; rw [hT] at q; exact q
      have ev80 : fa.tmps[80]?.getD undef = .pointer (some ⟨b2, 0, none⟩) := (hF.ev 4 80 (by kernel_rfl)).trans q4
      have ev82 : fa.tmps[82]?.getD undef = .int .i64 q := (hF.ev 6 82 (by kernel_rfl)).trans q6
      refine wpOp_call rfl (wanted_none rfl) (by go_simp; exact ⟨rfl, rfl⟩) ?_
      rw [hG, hN, y3] at hJ
      obtain ⟨j1, j2, j3, j4, j5⟩ := hJ
      obtain ⟨N1, ht0⟩ := j4 rfl rfl
      refine (tcanR ht0 hk q).mono ?_
      rintro e w' ⟨rfl, hc, N2, ht⟩
      refine ⟨_, rfl, fK (.int .i64 (canS s q).1) w' (by rw [hS_, hS0]; exact hc) (by rw [hT]; exact rfl) ?_⟩
      show G (fy 3) (some _) w'
      rw [hG, y3]
      exact ⟨j1.trans (by rw [hS0]; exact hc), (fun _ => rfl), (fun e => by cases e), (fun _ e => by cases e), fun _ => ⟨N1, N2, ht⟩⟩
    refine stepsAll_cons (k := 8) ?_ ?_
    · intro fa fx fW fy hF hN hJ hE K fK
      have hJ : G (fy 3) (fy 7) fW := hJ
      have q3 : fx 3 = .int .i64 (canS s q).1 := by have q := (hE ⟨3, .data⟩ (by simp) rfl).2; rw [hT] at q; exact q
      have y3 : fy 3 = some (fx 3) := (hE ⟨3, .data⟩ (by simp) rfl).1
      have q7 : fx 7 = .int .i64 (canS s q).1 := by have q := (hE ⟨7, .data⟩ (by simp) rfl).2; rw [hT] at q; exact q
      have y7 : fy 7 = some (fx 7) := (hE ⟨7, .data⟩ (by simp) rfl).1
      have ev79 : fa.tmps[79]?.getD undef = .int .i64 (canS s q).1 := (hF.ev 3 79 (by kernel_rfl)).trans q3
      have ev83 : fa.tmps[83]?.getD undef = .int .i64 (canS s q).1 := (hF.ev 7 83 (by kernel_rfl)).trans q7
      refine wpOp_val rfl (wanted_none rfl) ?_ (fK (.bool true) fW (hR_ fW) (by rw [hT]; exact rfl) (hP_ 8 _ fy fW rfl hJ))
      clear fK hE hF hJ hN
      go_simp
    refine stepsAll_cons (k := 9) ?_ ?_
    · intro fa fx fW fy hF hN hJ hE K fK
      have hJ : G (fy 3) (fy 7) fW := hJ
      have q8 : fx 8 = .bool true := by have q := (hE ⟨8, .data⟩ (by simp) rfl).2; rw [hT] at q; exact q
      have ev84 : fa.tmps[84]?.getD undef = .bool true := (hF.ev 8 84 (by kernel_rfl)).trans q8
      refine wpOp_val rfl (wanted_none rfl) ?_ (fK (.bool true) fW (hR_ fW) (by rw [hT]; exact rfl) (hP_ 9 _ fy fW rfl hJ))
      clear fK hE hF hJ hN
      go_simp
    exact stepsAll_nil
  intro fa fx fW fy hF hJ0 hx
  have y3 : fy 3 = some (fx 3) := (hx 3 (by decide)).1
  have y7 : fy 7 = some (fx 7) := (hx 7 (by decide)).1
  have hJ : G (fy 3) (fy 7) fW := hJ0
  clear hJ0
  rw [y3, y7] at hJ
  have q9 : fx 9 = .bool true := by have q := (hx 9 (by decide)).2; rw [hT] at q; exact q
  have ev6 : fa.tmps[6]?.getD undef = .bool true := (hF.ev 9 6 (by kernel_rfl)).trans q9
  rw [hF.eq]
  clear hF hx hT T hP_ hR_ y3 y7
  simp only [putAll, Act.put, List.setIfInBounds_toArray, List.set_cons_zero, List.set_cons_succ, q9]
  rw [hG] at hJ
  obtain ⟨j1, _, _, _, j5⟩ := hJ
  obtain ⟨N1, N2, ht⟩ := j5 rfl
  rw [hS0] at j1
  go_wp2
  go_ret
  exact .of rfl (chg_below j1 HB.out (by omega)) ht
set_option maxHeartbeats 4000000 in
theorem act3 {w : World} {base b1 b2 : Nat} {room : Int} {s : DS} (h : Two w base b1 b2 w.heap.size w.heap.size room s s) (a : Ac) (h0 : ¬ a.kind = 0) (h1 : ¬ a.kind = 1) (h2 : ¬ a.kind = 2) :
    Calls Try.prog 14 #[.pointer (some ⟨b1, 0, none⟩), .pointer (some ⟨b2, 0, none⟩), acV a] w (ActQ w base b1 b2 room s) := by
  have hal : Below w.heap.size w (w.alloc (.cells (acC a).toArray 41)) := below_al (Below.refl _ _) _
  have HB := Lib.hid (Below.up hal h.size)
  have HT := Lib.hid (h.below hal)
  obtain ⟨kd, k, r⟩ := a
  obtain ⟨r1, r2, r3, r4, r5⟩ := r
  have e0 : (kd == 0) = false := by simpa using h0
  have e1 : (kd == 1) = false := by simpa using h1
  have e2 : (kd == 2) = false := by simpa using h2
  unfold acC at HB HT
  unfold acV
  simp only at HB HT ⊢
  clear hal h h0 h1 h2
  go_enter Try.func14, Try.ntmps14
  go_wp2
  go_ret
  exact .of rfl HB.out HT.out
theorem actW {w : World} {base b1 b2 : Nat} {room k : Int} {s : DS} (h : Two w base b1 b2 w.heap.size w.heap.size room s s) (hk : OkS room k s) (a : Ac) :
    Calls Try.prog 14 #[.pointer (some ⟨b1, 0, none⟩), .pointer (some ⟨b2, 0, none⟩), acV a] w (ActQ w base b1 b2 room (actS room s a)) := by
  obtain ⟨kd, q, r⟩ := a
  unfold actS
  by_cases h0 : kd = 0
  · subst h0; rw [if_pos rfl]; exact act0 h hk q r
  · rw [if_neg h0]
    by_cases h1 : kd = 1
    · subst h1; rw [if_pos rfl]; exact act1 h hk q r
    · rw [if_neg h1]
      by_cases h2 : kd = 2
      · subst h2; rw [if_pos rfl]; exact act2 h hk q r
      · rw [if_neg h2]; exact act3 h _ h0 h1 h2
end Go.Proofs.Ytdfncmhbbhmgfaa
