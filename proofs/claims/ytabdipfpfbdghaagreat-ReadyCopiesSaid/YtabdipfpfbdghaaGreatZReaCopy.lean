/- The queue's Copy. -/
import Derived.Test.YtabdipfpfbdghaaGreatZReaActs
import Derived.Test.YtabdipfpfbdghaaGreatZHeapCopy
import Derived.Lib.SliceRun
namespace Go.Proofs.YtabdipfpfbdghaaGreat
open Go.RowKit
theorem rowsQ_one (l : List RowQ) : ∀ u ∈ rowsQ l, u.oneCell' = true := by
  intro u hu
  simp only [rowsQ, List.mem_flatten, List.mem_map] at hu
  obtain ⟨x, ⟨r, _, rfl⟩, hu⟩ := hu
  simp [rowC] at hu
  rcases hu with rfl | rfl | rfl | rfl <;> rfl
set_option maxHeartbeats 1000000 in
theorem cloneRow (A : Option Addr) (n c : Nat) (l : List RowQ) (w : World) (hr : Rds w 4 A n c (rowsQ l)) (hm : n ≤ 100000) :
    Calls Tryz.prog 42 #[.slice A n c] w fun e w' => (∃ v, e = .returned v ∧ w'.ownsRow w.heap.size 61 4 v n (rowsQ l)) ∧ Below w.heap.size w w' := by
  have q22 : ∀ (w : World) (a : Option Addr) (n c n' c' : Nat), (binOp .eql 50 (.slice a n c) (.slice none n' c')).run Tryz.prog w = .ok (.bool a.isNone) w := fun w a n c n' c' => Lib.run_eql_slice_nil w _ _ a n c n' c' Tryz.underlying50
  cases A with
  | none =>
    obtain ⟨rfl, rfl, h0⟩ := hr.nil_n
    go_enter Tryz.func42, Tryz.ntmps42
    go_wp2
    go_ret
    refine ⟨⟨_, rfl, ?_⟩, Below.refl _ _⟩
    rw [h0]
    exact World.ownsRow_nil _ _ _ _
  | some ad =>
    have hal : Below w.heap.size w (w.alloc (.cells #[] 61)) := below_al (Below.refl _ _) _
    have hown : (w.alloc (.cells #[] 61)).ownsRow w.heap.size 61 4 (.slice (some ⟨w.heap.size, 0, none⟩) 0 0) 0 [] := World.ownsRow_lit w #[] 0 (Nat.le_refl _) (Nat.zero_le _) rfl
    go_enter Tryz.func42, Tryz.ntmps42
    go_wp2_with (at_builtin; refine apn (w0 := w) w.heap.size rfl _ _ 50 61 _ 4 32 (by rfl) Tryz.underlying50 info_row rfl (by decide) (by decide) _ 0 [] (some ad) n c _ (by rfl) (by rfl) (hr.below hal) (rowsQ_one l) hown hal hal.size (by omega) ?_; intro v1 w1 h1 h2 h3 h4)
    go_ret
    refine ⟨⟨_, rfl, ?_⟩, h2⟩
    simpa using h1
/-- The parts of a queue that is to be. -/
structure CRq (W : World) (B n : Nat) (rows : List RowQ) (h : HV) (x y : Value) : Prop where
  ro : W.ownsRow B 61 4 x n (rowsQ rows)
  hp : ∃ hb' B2, y = .pointer (some ⟨hb', 0, none⟩) ∧ HC B2 n h hb' W ∧ B ≤ B2 ∧ ∀ k, x.ownBlock = some k → k < B2
theorem CRq.below {W W' : World} {B n : Nat} {rows : List RowQ} {h : HV} {x y : Value} (g : CRq W B n rows h x y) (hb : Below W.heap.size W W') : CRq W' B n rows h x y := by
  obtain ⟨h1, hb', B2, h2, h3, h4⟩ := g
  exact ⟨own_below h1 hb, hb', B2, h2, h3.below hb, h4⟩
/-- A queue made behind B. -/
def QN (B n : Nat) (q : QV) (b : Nat) (W : World) : Prop := ∃ g c hb gk gp ck cp iv, Qw W B b g c hb gk gp ck cp n iv q
theorem QN.below {B n b : Nat} {q : QV} {W W' : World} (H : QN B n q b W) (hb : Below W.heap.size W W') : QN B n q b W' := by
  obtain ⟨g, c, hb', gk, gp, ck, cp, iv, H⟩ := H
  exact ⟨g, c, hb', gk, gp, ck, cp, iv, H.below hb⟩
theorem CRq.make {W : World} {B n : Nat} {now : Int} {rows : List RowQ} {h : HV} {x y : Value} (g : CRq W B n rows h x y) (s : Sd n h) (hn : 0 < n) (hB : B ≤ W.heap.size) : QN B n ⟨now, rows, h⟩ W.heap.size (W.alloc (.cells #[.int .i64 now, x, y] 52)) := by
  have hal : Below W.heap.size W (W.alloc (.cells #[.int .i64 now, x, y] 52)) := below_al (Below.refl _ _) _
  obtain ⟨h1, hb', B2, rfl, ⟨gk, gp, ck, cp, iv, H1, H2, H3, H4⟩, h4, h5⟩ := g
  obtain ⟨g0, c0, rfl⟩ : ∃ g0 c0, x = .slice (some ⟨g0, 0, none⟩) n c0 := by
    rcases h1.2 with ⟨_, h6⟩ | ⟨g0, c0, _, h6, _⟩
    · omega
    · exact ⟨g0, c0, h6⟩
  have l1 := h1.lt g0 rfl
  have l2 := h5 g0 rfl
  have l3 := H1.ib.lt
  have l4 := (H1.kw.ko.lt gk rfl).2
  have l5 := (H1.po.lt gp rfl).2
  refine ⟨g0, c0, hb', gk, gp, ck, cp, iv, ⟨⟨?_, ?_⟩, ⟨?_, ?_⟩, ⟨?_, ?_⟩, own_below h1 hal, ?_, s, ⟨by omega, by omega, by omega, by omega, by omega, by omega, by omega⟩, fun k e => ?_, hB, by omega, by omega, by omega⟩⟩
  · go_simp
  · go_simp
  · go_simp
  · go_simp
  · go_simp
  · go_simp
  · have H5 := H1.below hal
    exact ⟨H5.ib, own_mono H5.io h4, ⟨H5.kw.kb, own_mono H5.kw.ko h4⟩, H5.pb, own_mono H5.po h4, H5.n2, H5.n5, H5.n6, H5.ni⟩
  · have := H1.io.lt k e
    omega
/-- What stands while a queue is copied. -/
structure CGq (w : World) (B n : Nat) (rows : List RowQ) (h : HV) (a d : Option Value) (W : World) : Prop where
  bl : Below w.heap.size w W
  lo : B ≤ W.heap.size
  ra : ∀ v, a = some v → W.ownsRow B 61 4 v n (rowsQ rows)
  rd : ∀ u, d = some u → ∃ v, a = some v ∧ CRq W B n rows h v u
theorem CGq.below {w W W' : World} {B n : Nat} {rows : List RowQ} {h : HV} {a d : Option Value} (g : CGq w B n rows h a d W) (hb : Below W.heap.size W W') : CGq w B n rows h a d W' :=
  ⟨below_then g.bl g.bl.size hb, Nat.le_trans g.lo hb.size, fun v e => own_below (g.ra v e) hb, fun u e => by
    obtain ⟨v, h1, h2⟩ := g.rd u e
    exact ⟨v, h1, h2.below hb⟩⟩
set_option maxRecDepth 100000 in
set_option maxHeartbeats 8000000 in
/-- A queue's copy is one like it, behind. -/
theorem qcopy {TK : Nat → Prop} {w0 : FrQ} {w : World} {b g c hb n : Nat} {q : QV} (Q : Qx TK w0 w b g c hb n q) (h0 : 0 < n) (hn : n ≤ 4096) :
    Calls Tryz.prog 11 #[.pointer (some ⟨b, 0, none⟩)] w fun e w' => ∃ b', e = .returned (.pointer (some ⟨b', 0, none⟩)) ∧ Hid (QN w.heap.size n q b' w') ∧ Hid (Below w.heap.size w w') := by
  obtain ⟨b0, b1, b2⟩ := Q.box
  have HM := Lib.hid (qmade b hb w b2.cell)
  have HSD := Lib.hid Q.sd
  have HBX := Lib.hid Q.box
  have hil : q.h.ids.length ≤ 4096 := by
    have h1 : q.h.ids.length ≤ n := by
      rw [← List.length_range (n := n)]
      exact nodup_le n q.h.ids (nodup_ids Q.sd) (fun y hy => has_lt Q.sd (has_mem.2 hy)) |> fun h => by simpa using h
    omega
  have HCP : Hid (∀ W, Below w.heap.size w W → Calls Tryz.prog 43 #[.pointer (some ⟨hb, 0, none⟩)] W fun e w' => ∃ b', e = .returned (.pointer (some ⟨b', 0, none⟩)) ∧ Hid (HC W.heap.size n q.h b' w') ∧ Hid (Below W.heap.size W w')) := Lib.hid (by
    intro W hW
    obtain ⟨⟨gk, gp, ck, cp, iv, Q1, QT⟩, Q2⟩ := Q
    exact hcopy (Q1.hp.below hW) h0 hn hil)
  have HRW : Hid (Rds w 4 (some ⟨g, 0, none⟩) n c (rowsQ q.rows)) := Lib.hid (by
    obtain ⟨⟨gk, gp, ck, cp, iv, Q1, QT⟩, Q2⟩ := Q
    exact (own_rds' Q1.ro).2)
  have hk2 := b2.cell
  obtain ⟨now, rows, h⟩ := q
  simp only at HM HSD HBX HCP HRW b0 b1 b2
  clear Q hil
  go_enter Tryz.func11, Tryz.ntmps11
  go_wp2_with (go_at_call 41; (with_reducible refine HM.out.mono ?_); rintro e w1 ⟨rfl, rfl⟩)
  obtain ⟨B, hB⟩ : ∃ B, B = w.heap.size := ⟨_, rfl⟩
  obtain ⟨G, hG⟩ : ∃ G : Option Value → Option Value → World → Prop, ∀ a d W, G a d W = CGq w B n rows h a d W := ⟨_, fun _ _ _ => rfl⟩
  obtain ⟨S_, hS_⟩ : ∃ S_ : World → World → Prop, S_ = (SBel) := ⟨_, rfl⟩
  have hR_ : ∀ W, S_ W W := by intro W; rw [hS_]; exact Below.refl _ _
  obtain ⟨T, hT⟩ : ∃ T : Nat → FactS S_, ∀ t_, T t_ = ([FactS.eq (.pointer (some ⟨b, 0, none⟩)), FactS.eq (.pointer (some ⟨b, 0, none⟩)), FactS.eq (.pointer (some ⟨b, 0, none⟩)), FactS.eq (.int .i64 now), FactS.eq (.pointer (some ⟨b, 0, none⟩)), FactS.eq (.pointer (some ⟨b, 0, none⟩)), FactS.eq (.pointer (some ⟨b, 1, none⟩)), FactS.eq (.slice (some ⟨g, 0, none⟩) n c), FactS.any, FactS.eq (.pointer (some ⟨b, 0, none⟩)), FactS.eq (.pointer (some ⟨b, 0, none⟩)), FactS.eq (.pointer (some ⟨b, 2, none⟩)), FactS.eq (.pointer (some ⟨hb, 0, none⟩)), FactS.any, (⟨fun u W => ∃ x y, u = .agg #[.int .i64 now, x, y] ∧ CRq W B n rows h x y, fun u W W' ⟨x, y, h1, h2⟩ hc => ⟨x, y, h1, h2.below (hS_ ▸ hc : SBel W W')⟩⟩ : FactS S_), (⟨fun u W => ∃ b', u = .pointer (some ⟨b', 0, none⟩) ∧ QN B n ⟨now, rows, h⟩ b' W, fun u W W' ⟨x, h1, h2⟩ hc => ⟨x, h1, h2.below (hS_ ▸ hc : SBel W W')⟩⟩ : FactS S_), (⟨fun u W => ∃ b', u = .pointer (some ⟨b', 0, none⟩) ∧ QN B n ⟨now, rows, h⟩ b' W, fun u W W' ⟨x, h1, h2⟩ hc => ⟨x, h1, h2.below (hS_ ▸ hc : SBel W W')⟩⟩ : FactS S_)] : List (FactS S_)).getD t_ FactS.any := ⟨_, fun _ => rfl⟩
  have hP_ : ∀ i_ v_ (y_ : Nat → Option Value) W_, ([8, 13].contains i_) = false → G (y_ 8) (y_ 13) W_ → G (updY y_ i_ v_ 8) (updY y_ i_ v_ 13) W_ := by
    intro i_ v_ y_ W_ hi_ h_
    simp only [List.contains_cons, List.contains_nil, Bool.or_false, Bool.or_eq_false_iff, beq_eq_false_iff_ne, ne_eq] at hi_
    obtain ⟨i8_, i13_⟩ := hi_
    rw [updY_ne y_ i_ v_ i8_, updY_ne y_ i_ v_ i13_]
    exact h_
  refine region_tabJ [(0, 6), (1, 7), (2, 8), (3, 9), (4, 10), (5, 11), (6, 12), (7, 13), (8, 14), (9, 15), (10, 16), (11, 17), (12, 18), (13, 19), (14, 20), (15, 21), (16, 2)] S_ T (fun y_ W_ => G (y_ 8) (y_ 13) W_) (by kernel_rfl) (by kernel_rfl) (by kernel_rfl) (by kernel_rfl) (by kernel_rfl) ?_ ?_ ?_
  · skip
    show G none none _
    rw [hG]
    exact ⟨below_dr (Below.refl _ _) 1, by rw [hB]; exact (below_dr (Below.refl w.heap.size w) 1).size, fun v e => (by cases e), fun v e => (by cases e)⟩
  · skip
    refine stepsAll_cons (k := 0) ?_ ?_
    · intro fa fx fW fy hF hN hJ hE K fK
      have hJ : G (fy 8) (fy 13) fW := hJ
      have ev0 : fa.tmps[0]?.getD undef = .pointer (some ⟨b, 0, none⟩) := hF.eo 0 (by kernel_rfl)
      refine wpOp_val rfl (wanted_none rfl) ?_ (fK (.pointer (some ⟨b, 0, none⟩)) fW (hR_ fW) (by rw [hT]; exact rfl) (hP_ 0 _ fy fW rfl hJ))
      clear fK hE hF hJ hN
      go_simp
    refine stepsAll_cons (k := 1) ?_ ?_
    · intro fa fx fW fy hF hN hJ hE K fK
      have hJ : G (fy 8) (fy 13) fW := hJ
      have q0 : fx 0 = .pointer (some ⟨b, 0, none⟩) := by have q := (hE ⟨0, .data⟩ (by simp) rfl).2; rw [hT] at q; exact q
      have ev6 : fa.tmps[6]?.getD undef = .pointer (some ⟨b, 0, none⟩) := (hF.ev 0 6 (by kernel_rfl)).trans q0
      refine wpOp_val rfl (wanted_none rfl) ?_ (fK (.pointer (some ⟨b, 0, none⟩)) fW (hR_ fW) (by rw [hT]; exact rfl) (hP_ 1 _ fy fW rfl hJ))
      clear fK hE hF hJ hN
      go_simp
    refine stepsAll_cons (k := 2) ?_ ?_
    · intro fa fx fW fy hF hN hJ hE K fK
      have hJ : G (fy 8) (fy 13) fW := hJ
      have q1 : fx 1 = .pointer (some ⟨b, 0, none⟩) := by have q := (hE ⟨1, .data⟩ (by simp) rfl).2; rw [hT] at q; exact q
      have ev7 : fa.tmps[7]?.getD undef = .pointer (some ⟨b, 0, none⟩) := (hF.ev 1 7 (by kernel_rfl)).trans q1
      refine wpOp_val rfl (wanted_none rfl) ?_ (fK (.pointer (some ⟨b, 0, none⟩)) fW (hR_ fW) (by rw [hT]; exact rfl) (hP_ 2 _ fy fW rfl hJ))
      clear fK hE hF hJ hN
      go_simp
    refine stepsAll_cons (k := 3) ?_ ?_
    · intro fa fx fW fy hF hN hJ hE K fK
      have hJ : G (fy 8) (fy 13) fW := hJ
      have q2 : fx 2 = .pointer (some ⟨b, 0, none⟩) := by have q := (hE ⟨2, .data⟩ (by simp) rfl).2; rw [hT] at q; exact q
      have ev8 : fa.tmps[8]?.getD undef = .pointer (some ⟨b, 0, none⟩) := (hF.ev 2 8 (by kernel_rfl)).trans q2
      have hJ1 := hJ
      rw [hG] at hJ1
      have k0 := (b0.below hJ1.bl).cell
      clear hJ1
      refine wpOp_val rfl (wanted_none rfl) ?_ (fK (.int .i64 now) fW (hR_ fW) (by rw [hT]; exact rfl) (hP_ 3 _ fy fW rfl hJ))
      clear fK hE hF hJ hN
      go_simp
    refine stepsAll_cons (k := 4) ?_ ?_
    · intro fa fx fW fy hF hN hJ hE K fK
      have hJ : G (fy 8) (fy 13) fW := hJ
      have ev0 : fa.tmps[0]?.getD undef = .pointer (some ⟨b, 0, none⟩) := hF.eo 0 (by kernel_rfl)
      refine wpOp_val rfl (wanted_none rfl) ?_ (fK (.pointer (some ⟨b, 0, none⟩)) fW (hR_ fW) (by rw [hT]; exact rfl) (hP_ 4 _ fy fW rfl hJ))
      clear fK hE hF hJ hN
      go_simp
    refine stepsAll_cons (k := 5) ?_ ?_
    · intro fa fx fW fy hF hN hJ hE K fK
      have hJ : G (fy 8) (fy 13) fW := hJ
      have q4 : fx 4 = .pointer (some ⟨b, 0, none⟩) := by have q := (hE ⟨4, .data⟩ (by simp) rfl).2; rw [hT] at q; exact q
      have ev10 : fa.tmps[10]?.getD undef = .pointer (some ⟨b, 0, none⟩) := (hF.ev 4 10 (by kernel_rfl)).trans q4
      refine wpOp_val rfl (wanted_none rfl) ?_ (fK (.pointer (some ⟨b, 0, none⟩)) fW (hR_ fW) (by rw [hT]; exact rfl) (hP_ 5 _ fy fW rfl hJ))
      clear fK hE hF hJ hN
      go_simp
    refine stepsAll_cons (k := 6) ?_ ?_
    · intro fa fx fW fy hF hN hJ hE K fK
      have hJ : G (fy 8) (fy 13) fW := hJ
      have q5 : fx 5 = .pointer (some ⟨b, 0, none⟩) := by have q := (hE ⟨5, .data⟩ (by simp) rfl).2; rw [hT] at q; exact q
      have ev11 : fa.tmps[11]?.getD undef = .pointer (some ⟨b, 0, none⟩) := (hF.ev 5 11 (by kernel_rfl)).trans q5
      refine wpOp_val rfl (wanted_none rfl) ?_ (fK (.pointer (some ⟨b, 1, none⟩)) fW (hR_ fW) (by rw [hT]; exact rfl) (hP_ 6 _ fy fW rfl hJ))
      clear fK hE hF hJ hN
      go_simp
    refine stepsAll_cons (k := 7) ?_ ?_
    · intro fa fx fW fy hF hN hJ hE K fK
      have hJ : G (fy 8) (fy 13) fW := hJ
      have q6 : fx 6 = .pointer (some ⟨b, 1, none⟩) := by have q := (hE ⟨6, .data⟩ (by simp) rfl).2; rw [hT] at q; exact q
      have ev12 : fa.tmps[12]?.getD undef = .pointer (some ⟨b, 1, none⟩) := (hF.ev 6 12 (by kernel_rfl)).trans q6
      have hJ1 := hJ
      rw [hG] at hJ1
      have k0 := (b1.below hJ1.bl).cell
      clear hJ1
      refine wpOp_val rfl (wanted_none rfl) ?_ (fK (.slice (some ⟨g, 0, none⟩) n c) fW (hR_ fW) (by rw [hT]; exact rfl) (hP_ 7 _ fy fW rfl hJ))
      clear fK hE hF hJ hN
      go_simp
    refine stepsAll_cons (k := 8) ?_ ?_
    · intro fa fx fW fy hF hN hJ hE K fK
      have hJ : G (fy 8) (fy 13) fW := hJ
      have q7 : fx 7 = .slice (some ⟨g, 0, none⟩) n c := by have q := (hE ⟨7, .data⟩ (by simp) rfl).2; rw [hT] at q; exact q
      have ev13 : fa.tmps[13]?.getD undef = .slice (some ⟨g, 0, none⟩) n c := (hF.ev 7 13 (by kernel_rfl)).trans q7
      refine wpOp_call rfl (wanted_none rfl) (by go_simp; exact ⟨rfl, rfl⟩) ?_
      have hJ1 := hJ
      rw [hG, hN] at hJ1
      have a13 : fy 13 = none := by
        cases hh : fy 13 with
        | none => rfl
        | some u =>
          obtain ⟨v, h1, _⟩ := hJ1.rd u hh
          cases h1
      refine (cloneRow _ n c _ fW (HRW.out.below hJ1.bl) (by omega)).mono ?_
      rintro e w1 ⟨⟨v1, rfl, ho1⟩, hb3⟩
      have b1 : S_ fW w1 := by rw [hS_]; exact hb3
      have j1 : G (some v1) (fy 13) w1 := by
        rw [hG, a13]
        exact ⟨below_then hJ1.bl hJ1.bl.size hb3, Nat.le_trans hJ1.lo hb3.size, fun v e => by cases e; exact own_mono ho1 hJ1.lo, fun u e => by cases e⟩
      exact ⟨_, rfl, fK (v1) (w1) (b1) (by rw [hT]; exact trivial) (j1)⟩
    refine stepsAll_cons (k := 9) ?_ ?_
    · intro fa fx fW fy hF hN hJ hE K fK
      have hJ : G (fy 8) (fy 13) fW := hJ
      have ev0 : fa.tmps[0]?.getD undef = .pointer (some ⟨b, 0, none⟩) := hF.eo 0 (by kernel_rfl)
      refine wpOp_val rfl (wanted_none rfl) ?_ (fK (.pointer (some ⟨b, 0, none⟩)) fW (hR_ fW) (by rw [hT]; exact rfl) (hP_ 9 _ fy fW rfl hJ))
      clear fK hE hF hJ hN
      go_simp
    refine stepsAll_cons (k := 10) ?_ ?_
    · intro fa fx fW fy hF hN hJ hE K fK
      have hJ : G (fy 8) (fy 13) fW := hJ
      have q9 : fx 9 = .pointer (some ⟨b, 0, none⟩) := by have q := (hE ⟨9, .data⟩ (by simp) rfl).2; rw [hT] at q; exact q
      have ev15 : fa.tmps[15]?.getD undef = .pointer (some ⟨b, 0, none⟩) := (hF.ev 9 15 (by kernel_rfl)).trans q9
      refine wpOp_val rfl (wanted_none rfl) ?_ (fK (.pointer (some ⟨b, 0, none⟩)) fW (hR_ fW) (by rw [hT]; exact rfl) (hP_ 10 _ fy fW rfl hJ))
      clear fK hE hF hJ hN
      go_simp
    refine stepsAll_cons (k := 11) ?_ ?_
    · intro fa fx fW fy hF hN hJ hE K fK
      have hJ : G (fy 8) (fy 13) fW := hJ
      have q10 : fx 10 = .pointer (some ⟨b, 0, none⟩) := by have q := (hE ⟨10, .data⟩ (by simp) rfl).2; rw [hT] at q; exact q
      have ev16 : fa.tmps[16]?.getD undef = .pointer (some ⟨b, 0, none⟩) := (hF.ev 10 16 (by kernel_rfl)).trans q10
      refine wpOp_val rfl (wanted_none rfl) ?_ (fK (.pointer (some ⟨b, 2, none⟩)) fW (hR_ fW) (by rw [hT]; exact rfl) (hP_ 11 _ fy fW rfl hJ))
      clear fK hE hF hJ hN
      go_simp
    refine stepsAll_cons (k := 12) ?_ ?_
    · intro fa fx fW fy hF hN hJ hE K fK
      have hJ : G (fy 8) (fy 13) fW := hJ
      have q11 : fx 11 = .pointer (some ⟨b, 2, none⟩) := by have q := (hE ⟨11, .data⟩ (by simp) rfl).2; rw [hT] at q; exact q
      have ev17 : fa.tmps[17]?.getD undef = .pointer (some ⟨b, 2, none⟩) := (hF.ev 11 17 (by kernel_rfl)).trans q11
      have hJ1 := hJ
      rw [hG] at hJ1
      have k0 := (b2.below hJ1.bl).cell
      clear hJ1
      refine wpOp_val rfl (wanted_none rfl) ?_ (fK (.pointer (some ⟨hb, 0, none⟩)) fW (hR_ fW) (by rw [hT]; exact rfl) (hP_ 12 _ fy fW rfl hJ))
      clear fK hE hF hJ hN
      go_simp
    refine stepsAll_cons (k := 13) ?_ ?_
    · intro fa fx fW fy hF hN hJ hE K fK
      have hJ : G (fy 8) (fy 13) fW := hJ
      have q8 : (FactS.any : FactS S_).p (fx 8) fW := by have q := (hE ⟨8, .chain⟩ (by simp) rfl).2; rw [hT] at q; exact q
      have y8 : fy 8 = some (fx 8) := (hE ⟨8, .chain⟩ (by simp) rfl).1
      have q12 : fx 12 = .pointer (some ⟨hb, 0, none⟩) := by have q := (hE ⟨12, .data⟩ (by simp) rfl).2; rw [hT] at q; exact q
      have ev18 : fa.tmps[18]?.getD undef = .pointer (some ⟨hb, 0, none⟩) := (hF.ev 12 18 (by kernel_rfl)).trans q12
      refine wpOp_call rfl (wanted_none rfl) (by go_simp; exact ⟨rfl, rfl⟩) ?_
      have hJ1 := hJ
      rw [hG, hN, y8] at hJ1
      refine (HCP.out fW hJ1.bl).mono ?_
      rintro e w1 ⟨b', rfl, hc1, hb3⟩
      have b1 : S_ fW w1 := by rw [hS_]; exact hb3.out
      have j1 : G (fy 8) (some (.pointer (some ⟨b', 0, none⟩))) w1 := by
        rw [hG, y8]
        exact ⟨below_then hJ1.bl hJ1.bl.size hb3.out, Nat.le_trans hJ1.lo hb3.out.size, fun v e => own_below (hJ1.ra v e) hb3.out, fun u e => by
          cases e
          exact ⟨_, rfl, own_below (hJ1.ra _ rfl) hb3.out, b', _, rfl, hc1.out, hJ1.lo, fun k e => ((hJ1.ra _ rfl).lt k e).2⟩⟩
      exact ⟨_, rfl, fK (.pointer (some ⟨b', 0, none⟩)) (w1) (b1) (by rw [hT]; exact trivial) (j1)⟩
    refine stepsAll_cons (k := 14) ?_ ?_
    · intro fa fx fW fy hF hN hJ hE K fK
      have hJ : G (fy 8) (fy 13) fW := hJ
      have q3 : fx 3 = .int .i64 now := by have q := (hE ⟨3, .data⟩ (by simp) rfl).2; rw [hT] at q; exact q
      have q8 : (FactS.any : FactS S_).p (fx 8) fW := by have q := (hE ⟨8, .data⟩ (by simp) rfl).2; rw [hT] at q; exact q
      have y8 : fy 8 = some (fx 8) := (hE ⟨8, .data⟩ (by simp) rfl).1
      have q13 : (FactS.any : FactS S_).p (fx 13) fW := by have q := (hE ⟨13, .data⟩ (by simp) rfl).2; rw [hT] at q; exact q
      have y13 : fy 13 = some (fx 13) := (hE ⟨13, .data⟩ (by simp) rfl).1
      have ev9 : fa.tmps[9]?.getD undef = .int .i64 now := (hF.ev 3 9 (by kernel_rfl)).trans q3
      have ev14 : fa.tmps[14]?.getD undef = fx 8 := hF.ev 8 14 (by kernel_rfl)
      have ev19 : fa.tmps[19]?.getD undef = fx 13 := hF.ev 13 19 (by kernel_rfl)
      have hJ1 := hJ
      rw [hG, y8, y13] at hJ1
      obtain ⟨v, hv, R⟩ := hJ1.rd _ rfl
      cases hv
      obtain ⟨x, hx⟩ : ∃ x, x = fx 8 := ⟨_, rfl⟩
      obtain ⟨y, hy⟩ : ∃ x, x = fx 13 := ⟨_, rfl⟩
      rw [← hx, ← hy] at R
      obtain ⟨A1, c1, e1⟩ := own_slice R.ro
      obtain ⟨hb', B2, e2, _⟩ := R.hp
      refine wpOp_val rfl (wanted_none rfl) (v := .agg #[.int .i64 now, x, y]) ?_ (fK _ _ (hR_ fW) (by rw [hT]; exact ⟨x, y, rfl, R⟩) hJ)
      clear fK hE hF hJ hJ1 R
      rw [hx] at e1
      rw [hy] at e2
      rw [e1] at ev14
      rw [e2] at ev19
      rw [hx, hy, e1, e2]
      go_simp
    refine stepsAll_cons (k := 15) ?_ ?_
    · intro fa fx fW fy hF hN hJ hE K fK
      have hJ : G (fy 8) (fy 13) fW := hJ
      have q14 : ((⟨fun u W => ∃ x y, u = .agg #[.int .i64 now, x, y] ∧ CRq W B n rows h x y, fun u W W' ⟨x, y, h1, h2⟩ hc => ⟨x, y, h1, h2.below (hS_ ▸ hc : SBel W W')⟩⟩ : FactS S_) : FactS S_).p (fx 14) fW := by have q := (hE ⟨14, .data⟩ (by simp) rfl).2; rw [hT] at q; exact q
      have ev20 : fa.tmps[20]?.getD undef = fx 14 := hF.ev 14 20 (by kernel_rfl)
      have hJ1 := hJ
      rw [hG] at hJ1
      obtain ⟨x, y, e14, R⟩ := q14
      have hal := R.make (now := now) HSD.out h0 hJ1.lo
      obtain ⟨A1, c1, rfl⟩ := own_slice R.ro
      obtain ⟨hb', B2, rfl, _⟩ := R.hp
      refine wpOp_to rfl (wanted_none rfl) (v := .pointer (some ⟨fW.heap.size, 0, none⟩)) (W' := fW.alloc (.cells #[.int .i64 now, .slice A1 n c1, .pointer (some ⟨hb', 0, none⟩)] 52)) ?_ (fK _ _ (by rw [hS_]; exact below_al (Below.refl _ _) _) (by rw [hT]; exact ⟨_, rfl, hal⟩) ?_)
      · clear fK hE hF hJ hJ1 R hal
        rw [e14] at ev20
        go_simp
      · show G (fy 8) (fy 13) _
        rw [hG]
        exact hJ1.below (below_al (Below.refl _ _) _)
    refine stepsAll_cons (k := 16) ?_ ?_
    · intro fa fx fW fy hF hN hJ hE K fK
      have hJ : G (fy 8) (fy 13) fW := hJ
      have q15 : ((⟨fun u W => ∃ b', u = .pointer (some ⟨b', 0, none⟩) ∧ QN B n ⟨now, rows, h⟩ b' W, fun u W W' ⟨x, h1, h2⟩ hc => ⟨x, h1, h2.below (hS_ ▸ hc : SBel W W')⟩⟩ : FactS S_) : FactS S_).p (fx 15) fW := by have q := (hE ⟨15, .data⟩ (by simp) rfl).2; rw [hT] at q; exact q
      have ev21 : fa.tmps[21]?.getD undef = fx 15 := hF.ev 15 21 (by kernel_rfl)
      refine wpOp_val rfl (wanted_none rfl) (v := fx 15) (by clear fK hE hF; go_simp) (fK _ _ (hR_ fW) (by rw [hT]; exact q15) hJ)
    exact stepsAll_nil
  intro fa fx fW fy hF hJ0 hx
  have y8 : fy 8 = some (fx 8) := (hx 8 (by decide)).1
  have y13 : fy 13 = some (fx 13) := (hx 13 (by decide)).1
  have hJ : G (fy 8) (fy 13) fW := hJ0
  clear hJ0
  rw [y8, y13] at hJ
  have q16 : ((⟨fun u W => ∃ b', u = .pointer (some ⟨b', 0, none⟩) ∧ QN B n ⟨now, rows, h⟩ b' W, fun u W W' ⟨x, h1, h2⟩ hc => ⟨x, h1, h2.below (hS_ ▸ hc : SBel W W')⟩⟩ : FactS S_) : FactS S_).p (fx 16) fW := by have q := (hx 16 (by decide)).2; rw [hT] at q; exact q
  have ev2 : fa.tmps[2]?.getD undef = fx 16 := hF.ev 16 2 (by kernel_rfl)
  rw [hF.eq]
  clear hF hx hT T hP_ hR_ y8 y13
  simp only [putAll, Act.put, List.setIfInBounds_toArray, List.set_cons_zero, List.set_cons_succ, ]
  obtain ⟨b', k1, k2⟩ := q16
  rw [hG] at hJ
  have HB := Lib.hid hJ.bl
  rw [hB] at k2
  have HK := Lib.hid k2
  rw [k1]
  clear hJ k2
  go_wp2
  go_ret
  exact ⟨b', rfl, HK, HB⟩
end Go.Proofs.YtabdipfpfbdghaaGreat
