/- Package device: Finish. -/
import Derived.Test.YtdfncmhbbhmgfaaDevDel
import Derived.Test.YtdfncmhbbhmgfaaDevStart
import Derived.Deep.Slices
namespace Go.Proofs.Ytdfncmhbbhmgfaa
open Go.RowKit
theorem rq_cells {w : World} {A : Addr} {n c : Nat} {l : List Rq} (h : Rds w 5 (some A) n c (rqs l)) (k : Nat) (r : Rq) (hk : l[k]? = some r) : ∀ j u, (rqC r)[j]? = some u → w.cell? ((A.add (k * 5)).add j) = some u := by
  intro j u hj
  rw [Go.Deep.add_add]
  exact h.cell A rfl _ _ (rqs_get l k r hk j u hj)
theorem add_lit' (g o j : Nat) : (⟨g, o, none⟩ : Addr).add j = ⟨g, o + j, none⟩ := by unfold Addr.add; split <;> simp_all
theorem rq_cells0 {w : World} {g o n c : Nat} {l : List Rq} (h : Rds w 5 (some ⟨g, o, none⟩) n c (rqs l)) (k : Nat) (r : Rq) (hk : l[k]? = some r) : ∀ j u, (rqC r)[j]? = some u → w.cell? ⟨g, o + (k * 5 + j), none⟩ = some u := by
  intro j u hj
  rw [← add_lit']
  exact h.cell _ rfl _ _ (rqs_get l k r hk j u hj)
/-- A request in a block of its own, that may be written. -/
structure Box5 (w : World) (b : Nat) (r : Rq) : Prop where
  c0 : Box w b 0 (.int .i64 r.id)
  c1 : Box w b 1 (.int .i64 r.space)
  c2 : Box w b 2 (.int .i64 r.thread)
  c3 : Box w b 3 (.int .i64 r.kind)
  c4 : Box w b 4 (.int .i64 r.size)
theorem Box5.keep {S : Nat → Prop} {w w1 : World} {b : Nat} {r : Rq} (h : Box5 w b r) (hc : Chg S w w1) (hs : ¬ S b) : Box5 w1 b r :=
  ⟨h.c0.keep hc hs, h.c1.keep hc hs, h.c2.keep hc hs, h.c3.keep hc hs, h.c4.keep hc hs⟩
theorem Box5.below {w w1 : World} {b : Nat} {r : Rq} (h : Box5 w b r) (hb : Below w.heap.size w w1) : Box5 w1 b r :=
  ⟨h.c0.below hb, h.c1.below hb, h.c2.below hb, h.c3.below hb, h.c4.below hb⟩
theorem Box5.new (w : World) (r : Rq) (e : TypeId) : Box5 (w.alloc (.cells #[.int .i64 r.id, .int .i64 r.space, .int .i64 r.thread, .int .i64 r.kind, .int .i64 r.size] e)) w.heap.size r := by
  constructor <;> constructor <;> go_simp
set_option maxRecDepth 100000 in
set_option maxHeartbeats 2000000 in
theorem dfin_none (b base : Nat) (room : Int) (last done : Int) (v : Value) (k : Int) (w : World) (h : Dev w b base room [] last done v) (hr : 0 < room) :
    Calls Try.prog 10 #[.pointer (some ⟨b, 0, none⟩), .int .i64 k] w fun e w' => e = .returned (.tuple #[.agg #[.int .i64 0, .int .i64 0, .int .i64 0, .int .i64 0, .int .i64 0], .int .i64 0, .int .i64 4]) ∧ Below w.heap.size w w' := by
  obtain ⟨A, n, c, rfl, hn, hrd⟩ := own_open h.own
  have hn0 : n = 0 := hn.out
  subst hn0
  have hal : Below w.heap.size w (w.alloc (.cells #[.int .i64 0, .int .i64 0, .int .i64 0, .int .i64 0, .int .i64 0] 28)) := below_al (Below.refl _ _) _
  have HM := Lib.hid (dmade b room _ (h.room_.below hal).cell)
  rw [decide_eq_true hr] at HM
  have hx1 := (h.row.below hal).cell
  clear h hrd
  go_enter Try.func10, Try.ntmps10
  go_wp2_with (go_at_call 21; refine HM.out.mono ?_; rintro e w1 ⟨rfl, rfl⟩)
  exact bodyPost_ret (v := .tuple #[.agg #[.int .i64 0, .int .i64 0, .int .i64 0, .int .i64 0, .int .i64 0], .int .i64 0, .int .i64 4]) (by simp [results, Try.results10, go_sem]) rfl ⟨rfl, hal⟩
set_option maxRecDepth 100000 in
set_option maxHeartbeats 4000000 in
theorem dfin_ok (b base : Nat) (room : Int) (l : List Rq) (last done : Int) (v : Value) (k : Int) (i : Nat) (r : Rq) (w : World) (h : Dev w b base room l last done v) (hbase : base ≤ w.heap.size) (hr : 0 < room) (hl : 0 < l.length) (hm : l.length ≤ 4096)
    (hi : (i : Int) = max k 0 % l.length) (hri : l[i]? = some r) (hd0 : 0 ≤ done) (hd1 : done ≤ 1000000) :
    Calls Try.prog 10 #[.pointer (some ⟨b, 0, none⟩), .int .i64 k] w fun e w' => e = .returned (.tuple #[rqV r, .int .i64 (resV r), .int .i64 0]) ∧ Chg (fun k => k = b) w w' ∧
      ∃ v', Dev w' b base room (l.eraseIdx i) last (done + 1) v' ∧ ∃ k, v'.ownBlock = some k ∧ w.heap.size ≤ k := by
  have hbl := h.room_.lt
  obtain ⟨g, cap, hv, hg1, hg2, hg3⟩ := own_some h.own hl (by decide)
  subst hv
  obtain ⟨n, hn⟩ : ∃ n, n = l.length := ⟨_, rfl⟩
  rw [← hn] at hl hm hi hg2
  have hown := h.own
  have hrow := h.row
  rw [← hn] at hown hrow
  have hal : Below w.heap.size w (w.alloc (.cells #[.int .i64 0, .int .i64 0, .int .i64 0, .int .i64 0, .int .i64 0] 28)) := below_al (Below.refl _ _) _
  have HM := Lib.hid (dmade b room _ (h.room_.below hal).cell)
  rw [decide_eq_true hr] at HM
  have hx1 := (hrow.below hal).cell
  have hzn : ((n : Int) == 0) = false := by simp; omega
  have hlt : i < n := by rw [hn]; exact (List.getElem?_eq_some_iff.1 hri).1
  obtain ⟨hdl, hrd⟩ := own_rds' hown
  have hcs := rq_cells0 (hrd.below hal) i r hri
  obtain ⟨r1, r2, r3, r4, r5⟩ := r
  have hc0 := hcs 0 _ rfl
  have hc1 := hcs 1 _ rfl
  have hc2 := hcs 2 _ rfl
  have hc3 := hcs 3 _ rfl
  have hc4 := hcs 4 _ rfl
  simp only [Nat.zero_add, Nat.add_zero] at hc0 hc1 hc2 hc3 hc4
  have hn0 : (0 : Int) < n := by omega
  have hallb : ∀ W, Below w.heap.size w W → Below W.heap.size W (W.alloc (.cells #[.int .i64 r1, .int .i64 r2, .int .i64 r3, .int .i64 r4, .int .i64 r5] 28)) := fun W _ => below_al (Below.refl _ _) _
  have hb0 := below_tr hal (hallb _ hal)
  have HC := Lib.hid (cloneRq _ n cap l _ (hrd.below hb0) (by omega))
  have HI := Lib.hid hi
  have HN := Lib.hid hn
  clear hcs hdl hi hn
  go_enter Try.func10, Try.ntmps10
  go_upto_region 5 with (go_at_call 21; refine HM.out.mono ?_; rintro e w1 ⟨rfl, rfl⟩)
  go_cut [7] (fun t wx => t = .int .i64 i ∧ wx = w.alloc (.cells #[.int .i64 0, .int .i64 0, .int .i64 0, .int .i64 0, .int .i64 0] 28))
  case first =>
    go_wp2
    all_goals
      go_meet
      refine ⟨?_, rfl⟩
      rw [HI.out]
      first
      | (rw [Int.max_eq_left (by omega)]; done)
      | (rw [Int.max_eq_right (by omega)]; simp)
  case rest =>
    obtain ⟨rfl, rfl⟩ := hcut
    clear HM
    go_wp2_with (go_at_call 24; refine HC.out.mono ?_; rintro e w2 ⟨⟨v2, rfl, ho2⟩, hb2⟩)
    have hB2 := below_tr hb0 hb2
    obtain ⟨g2, cap2, rfl, hg21, hg22, hg23⟩ := own_some ho2 hl (by decide)
    have hwz : w.heap.size < g2 := by have e := hg21; simp at e; omega
    have hwz2 : w.heap.size + 2 ≤ g2 := by have e := hg21; simp at e; omega
    have hnb : ¬ (b = g2) := by omega
    have hdone := h.done_
    have hroom := h.room_
    have hlast := h.last_
    have hapart := h.apart
    clear h
    go_wp2_with (go_at_call 23; refine (delRq _ g2 cap2 n i l _ ho2 hlt hg23 hg22).mono ?_; rintro e w3 ⟨rfl, ho3, hc3'⟩; have k1 := (hrow.below hB2).keep hc3' hnb; have k1c := k1.cell; have k1f := k1.free; have k3 := (hdone.below hB2).keep hc3' hnb; have k3c := k3.cell; have k3f := k3.free)
    have hS4 : Chg (fun k => k = b ∨ k = g2) w2 ((w3.setCell ⟨b, 1, none⟩ (.slice (some ⟨g2, 0, none⟩) (n - 1) cap2)).setCell ⟨b, 3, none⟩ (.int .i64 (done + 1))) :=
      ((hc3'.mono (fun k _ e => .inr e)).setCell b 1 _ (.inl rfl)).setCell b 3 _ (.inl rfl)
    have hS3 : Chg (fun k => k = b) w3 ((w3.setCell ⟨b, 1, none⟩ (.slice (some ⟨g2, 0, none⟩) (n - 1) cap2)).setCell ⟨b, 3, none⟩ (.int .i64 (done + 1))) :=
      ((Chg.refl (fun k => k = b) w3).setCell b 1 _ rfl).setCell b 3 _ rfl
    have f1 : Box ((w3.setCell ⟨b, 1, none⟩ (.slice (some ⟨g2, 0, none⟩) (n - 1) cap2)).setCell ⟨b, 3, none⟩ (.int .i64 (done + 1))) b 1 (.slice (some ⟨g2, 0, none⟩) (n - 1) cap2) := by constructor <;> go_simp
    have f3 : Box ((w3.setCell ⟨b, 1, none⟩ (.slice (some ⟨g2, 0, none⟩) (n - 1) cap2)).setCell ⟨b, 3, none⟩ (.int .i64 (done + 1))) b 3 (.int .i64 (done + 1)) := by constructor <;> go_simp
    have k0 := (hroom.below hB2).keep hc3' hnb
    have k2 := (hlast.below hB2).keep hc3' hnb
    have k0c := k0.cell
    have k0f := k0.free
    have k2c := k2.cell
    have k2f := k2.free
    have f0 : Box ((w3.setCell ⟨b, 1, none⟩ (.slice (some ⟨g2, 0, none⟩) (n - 1) cap2)).setCell ⟨b, 3, none⟩ (.int .i64 (done + 1))) b 0 (.int .i64 room) := by constructor <;> go_simp
    have f2 : Box ((w3.setCell ⟨b, 1, none⟩ (.slice (some ⟨g2, 0, none⟩) (n - 1) cap2)).setCell ⟨b, 3, none⟩ (.int .i64 (done + 1))) b 2 (.int .i64 last) := by constructor <;> go_simp
    have z4 : Box5 ((w3.setCell ⟨b, 1, none⟩ (.slice (some ⟨g2, 0, none⟩) (n - 1) cap2)).setCell ⟨b, 3, none⟩ (.int .i64 (done + 1))) w.heap.size ⟨0, 0, 0, 0, 0⟩ :=
      (((Box5.new w ⟨0, 0, 0, 0, 0⟩ 28).below (hallb _ hal)).below hb2).keep hS4 (by rintro (e | e) <;> omega)
    have z8 : Box5 ((w3.setCell ⟨b, 1, none⟩ (.slice (some ⟨g2, 0, none⟩) (n - 1) cap2)).setCell ⟨b, 3, none⟩ (.int .i64 (done + 1))) (w.heap.size + 1) ⟨r1, r2, r3, r4, r5⟩ :=
      ((show Box5 _ (w.heap.size + 1) ⟨r1, r2, r3, r4, r5⟩ by have := Box5.new (w.alloc (.cells #[.int .i64 0, .int .i64 0, .int .i64 0, .int .i64 0, .int .i64 0] 28)) ⟨r1, r2, r3, r4, r5⟩ 28; simpa using this).below hb2).keep hS4 (by rintro (e | e) <;> omega)
    have ho4 := hS3.own ho3 (by
      intro k e
      have e2 : k = g2 := by cases e; rfl
      omega)
    have hCb : Chg (fun k => k = b) w ((w3.setCell ⟨b, 1, none⟩ (.slice (some ⟨g2, 0, none⟩) (n - 1) cap2)).setCell ⟨b, 3, none⟩ (.int .i64 (done + 1))) := by
      have h9 : Chg (fun k => k = b ∨ k = g2) w _ := (Chg.of_below hB2).trans hS4
      exact h9.mono (fun k hk e => by rcases e with e | e; exact e; omega)
    generalize ((w3.setCell ⟨b, 1, none⟩ (.slice (some ⟨g2, 0, none⟩) (n - 1) cap2)).setCell ⟨b, 3, none⟩ (.int .i64 (done + 1))) = W4 at *
    obtain ⟨wz, hwz3⟩ : ∃ wz, wz = w.heap.size := ⟨_, rfl⟩
    rw [← hwz3] at z4 z8
    rw [show Value.pointer (some ⟨w.heap.size, 0, none⟩) = Value.pointer (some ⟨wz, 0, none⟩) by rw [hwz3], show Value.pointer (some ⟨w.heap.size + 1, 0, none⟩) = Value.pointer (some ⟨wz + 1, 0, none⟩) by rw [hwz3]]
    have hwb : b ≠ wz := by omega
    have hwg : g2 ≠ wz := by omega
    have hwle : w.heap.size ≤ wz := by omega
    have hgle : w.heap.size ≤ g2 := by omega
    clear hwz hwz2 hwz3
    obtain ⟨G, hG⟩ : ∃ G : Option Value → World → Prop, ∀ a W, G a W = (Chg (fun k => k = wz) W4 W ∧ (a = none → Box5 W wz ⟨0, 0, 0, 0, 0⟩) ∧ (a.isSome = true → Box5 W wz ⟨r1, r2, r3, r4, r5⟩)) := ⟨_, fun _ _ => rfl⟩
    obtain ⟨S_, hS_⟩ : ∃ S_ : World → World → Prop, S_ = (Chg (fun k => k = wz)) := ⟨_, rfl⟩
    have hR_ : ∀ W, S_ W W := by intro W; rw [hS_]; exact Chg.refl _ _
    obtain ⟨T, hT⟩ : ∃ T : Nat → FactS S_, ∀ t_, T t_ = ([FactS.eq (.agg #[.int .i64 r1, .int .i64 r2, .int .i64 r3, .int .i64 r4, .int .i64 r5]), FactS.eq (.func (.func 25) #[] #[]), FactS.eq (.agg #[.int .i64 r1, .int .i64 r2, .int .i64 r3, .int .i64 r4, .int .i64 r5]), FactS.eq (.int .i64 (resV ⟨r1, r2, r3, r4, r5⟩)), FactS.eq (undef), FactS.eq (.int .i64 (resV ⟨r1, r2, r3, r4, r5⟩)), FactS.eq (.int .i64 0)] : List (FactS S_)).getD t_ FactS.any := ⟨_, fun _ => rfl⟩
    have hP_ : ∀ i_ v_ (y_ : Nat → Option Value) W_, ([4].contains i_) = false → G (y_ 4) W_ → G (updY y_ i_ v_ 4) W_ := by
      intro i_ v_ y_ W_ hi_ h_
      simp only [List.contains_cons, List.contains_nil, Bool.or_false, beq_eq_false_iff_ne, ne_eq] at hi_
      rw [updY_ne y_ i_ v_ hi_]
      exact h_
    refine region_tabJ [(0, 57), (1, 58), (2, 59), (3, 60), (5, 5), (6, 6)] S_ T (fun y_ W_ => G (y_ 4) W_) (by kernel_rfl) (by kernel_rfl) (by kernel_rfl) (by kernel_rfl) (by kernel_rfl) ?_ ?_ ?_
    · skip
      show G none _
      rw [hG]
      exact ⟨(Chg.refl _ _).drewN 1, fun _ => z4.below (below_dr (Below.refl _ _) 1), fun h => by cases h⟩
    · skip
      refine stepsAll_cons (k := 0) ?_ ?_
      · intro fa fx fW fy hF hN hJ hE K fK
        have hJ : G (fy 4) fW := hJ
        have ev8 : fa.tmps[8]?.getD undef = .pointer (some ⟨wz + 1, 0, none⟩) := hF.eo 8 (by kernel_rfl)
        have hJ1 := hJ
        rw [hG] at hJ1
        have y8 := z8.keep hJ1.1 (by omega)
        have k0 := y8.c0.cell
        have k1 := y8.c1.cell
        have k2 := y8.c2.cell
        have k3 := y8.c3.cell
        have k4 := y8.c4.cell
        clear hJ1 y8
        refine wpOp_val rfl (wanted_none rfl) ?_ (fK (.agg #[.int .i64 r1, .int .i64 r2, .int .i64 r3, .int .i64 r4, .int .i64 r5]) fW (hR_ fW) (by rw [hT]; exact rfl) (hP_ 0 _ fy fW rfl hJ))
        clear fK hE hF hJ hN
        go_simp
      refine stepsAll_cons (k := 1) ?_ ?_
      · intro fa fx fW fy hF hN hJ hE K fK
        have hJ : G (fy 4) fW := hJ
        have ev9 : fa.tmps[9]?.getD undef = .func (.func 25) #[] #[] := hF.eo 9 (by kernel_rfl)
        refine wpOp_val rfl (wanted_none rfl) ?_ (fK (.func (.func 25) #[] #[]) fW (hR_ fW) (by rw [hT]; exact rfl) (hP_ 1 _ fy fW rfl hJ))
        clear fK hE hF hJ hN
        go_simp
      refine stepsAll_cons (k := 2) ?_ ?_
      · intro fa fx fW fy hF hN hJ hE K fK
        have hJ : G (fy 4) fW := hJ
        have ev8 : fa.tmps[8]?.getD undef = .pointer (some ⟨wz + 1, 0, none⟩) := hF.eo 8 (by kernel_rfl)
        have hJ1 := hJ
        rw [hG] at hJ1
        have y8 := z8.keep hJ1.1 (by omega)
        have k0 := y8.c0.cell
        have k1 := y8.c1.cell
        have k2 := y8.c2.cell
        have k3 := y8.c3.cell
        have k4 := y8.c4.cell
        clear hJ1 y8
        refine wpOp_val rfl (wanted_none rfl) ?_ (fK (.agg #[.int .i64 r1, .int .i64 r2, .int .i64 r3, .int .i64 r4, .int .i64 r5]) fW (hR_ fW) (by rw [hT]; exact rfl) (hP_ 2 _ fy fW rfl hJ))
        clear fK hE hF hJ hN
        go_simp
      refine stepsAll_cons (k := 3) ?_ ?_
      · intro fa fx fW fy hF hN hJ hE K fK
        have hJ : G (fy 4) fW := hJ
        have q1 : fx 1 = .func (.func 25) #[] #[] := by have q := (hE ⟨1, .data⟩ (by simp) rfl).2; rw [hT] at q; exact q
        have q2 : fx 2 = .agg #[.int .i64 r1, .int .i64 r2, .int .i64 r3, .int .i64 r4, .int .i64 r5] := by have q := (hE ⟨2, .data⟩ (by simp) rfl).2; rw [hT] at q; exact q
        have ev58 : fa.tmps[58]?.getD undef = .func (.func 25) #[] #[] := (hF.ev 1 58 (by kernel_rfl)).trans q1
        have ev59 : fa.tmps[59]?.getD undef = .agg #[.int .i64 r1, .int .i64 r2, .int .i64 r3, .int .i64 r4, .int .i64 r5] := (hF.ev 2 59 (by kernel_rfl)).trans q2
        refine wpOp_call rfl (wanted_none rfl) (by go_simp; exact ⟨rfl, rfl⟩) ?_
        refine (dresult ⟨r1, r2, r3, r4, r5⟩ fW).mono ?_
        rintro e w' ⟨rfl, hbb⟩
        rw [hG] at hJ
        exact ⟨_, rfl, fK (.int .i64 (resV ⟨r1, r2, r3, r4, r5⟩)) w' (by rw [hS_]; exact Chg.of_below hbb) (by rw [hT]; exact rfl) (by show G (fy 4) w'; rw [hG]; exact ⟨hJ.1.trans (Chg.of_below hbb), fun e => (hJ.2.1 e).below hbb, fun e => (hJ.2.2 e).below hbb⟩)⟩
      refine stepsAll_cons (k := 4) ?_ ?_
      · intro fa fx fW fy hF hN hJ hE K fK
        have hJ : G (fy 4) fW := hJ
        have q0 : fx 0 = .agg #[.int .i64 r1, .int .i64 r2, .int .i64 r3, .int .i64 r4, .int .i64 r5] := by have q := (hE ⟨0, .data⟩ (by simp) rfl).2; rw [hT] at q; exact q
        have ev57 : fa.tmps[57]?.getD undef = .agg #[.int .i64 r1, .int .i64 r2, .int .i64 r3, .int .i64 r4, .int .i64 r5] := (hF.ev 0 57 (by kernel_rfl)).trans q0
        have ev4 : fa.tmps[4]?.getD undef = .pointer (some ⟨wz, 0, none⟩) := hF.eo 4 (by kernel_rfl)
        rw [hG, hN] at hJ
        obtain ⟨j0, j1, j2⟩ := hJ
        have x4 := j1 rfl
        have a0 := x4.c0.cell
        have a1 := x4.c1.cell
        have a2 := x4.c2.cell
        have a3 := x4.c3.cell
        have a4 := x4.c4.cell
        have f0 := x4.c0.free
        have f1 := x4.c1.free
        have f2 := x4.c2.free
        have f3 := x4.c3.free
        have f4 := x4.c4.free
        have hch : Chg (fun k => k = wz) fW (((((fW.setCell ⟨wz, 0, none⟩ (.int .i64 r1)).setCell ⟨wz, 1, none⟩ (.int .i64 r2)).setCell ⟨wz, 2, none⟩ (.int .i64 r3)).setCell ⟨wz, 3, none⟩ (.int .i64 r4)).setCell ⟨wz, 4, none⟩ (.int .i64 r5)) :=
          ((((((Chg.refl (fun k => k = wz) fW).setCell wz 0 _ rfl).setCell wz 1 _ rfl).setCell wz 2 _ rfl).setCell wz 3 _ rfl).setCell wz 4 _ rfl)
        have x5 : Box5 (((((fW.setCell ⟨wz, 0, none⟩ (.int .i64 r1)).setCell ⟨wz, 1, none⟩ (.int .i64 r2)).setCell ⟨wz, 2, none⟩ (.int .i64 r3)).setCell ⟨wz, 3, none⟩ (.int .i64 r4)).setCell ⟨wz, 4, none⟩ (.int .i64 r5)) wz ⟨r1, r2, r3, r4, r5⟩ := by
          clear fK hE hF hN
          constructor <;> constructor <;> go_simp
        refine wpOp_done rfl (wanted_none rfl) (W' := (((((fW.setCell ⟨wz, 0, none⟩ (.int .i64 r1)).setCell ⟨wz, 1, none⟩ (.int .i64 r2)).setCell ⟨wz, 2, none⟩ (.int .i64 r3)).setCell ⟨wz, 3, none⟩ (.int .i64 r4)).setCell ⟨wz, 4, none⟩ (.int .i64 r5))) (by clear fK hE hF hN x5 hch; go_simp) (fK undef _ (by rw [hS_]; exact hch) (by rw [hT]; exact rfl) ?_)
        show G (some undef) _
        rw [hG]
        exact ⟨j0.trans hch, (fun e => by cases e), fun _ => x5⟩
      refine stepsAll_cons (k := 5) ?_ ?_
      · intro fa fx fW fy hF hN hJ hE K fK
        have hJ : G (fy 4) fW := hJ
        have q3 : (FactS.eq (.int .i64 (resV ⟨r1, r2, r3, r4, r5⟩)) : FactS S_).p (fx 3) fW := by have q := (hE ⟨3, .data⟩ (by simp) rfl).2; rw [hT] at q; exact q
        have ev60 : fa.tmps[60]?.getD undef = fx 3 := hF.ev 3 60 (by kernel_rfl)
        refine wpOp_val rfl (wanted_none rfl) ?_ (fK (fx 3) fW (hR_ fW) (by rw [hT]; exact q3) (hP_ 5 _ fy fW rfl hJ))
        clear fK hE hF hJ hN
        go_simp
      refine stepsAll_cons (k := 6) ?_ ?_
      · intro fa fx fW fy hF hN hJ hE K fK
        have hJ : G (fy 4) fW := hJ
        refine wpOp_val rfl (wanted_none rfl) ?_ (fK (.int .i64 0) fW (hR_ fW) (by rw [hT]; exact rfl) (hP_ 6 _ fy fW rfl hJ))
        clear fK hE hF hJ hN
        go_simp
      exact stepsAll_nil
    intro fa fx fW fy hF hJ0 hx
    have y4 : fy 4 = some (fx 4) := (hx 4 (by decide)).1
    have hJ : G (fy 4) fW := hJ0
    clear hJ0
    rw [y4] at hJ
    have q5 : (FactS.eq (.int .i64 (resV ⟨r1, r2, r3, r4, r5⟩)) : FactS S_).p (fx 5) fW := by have q := (hx 5 (by decide)).2; rw [hT] at q; exact q
    have ev5 : fa.tmps[5]?.getD undef = fx 5 := hF.ev 5 5 (by kernel_rfl)
    have q6 : fx 6 = .int .i64 0 := by have q := (hx 6 (by decide)).2; rw [hT] at q; exact q
    have ev6 : fa.tmps[6]?.getD undef = .int .i64 0 := (hF.ev 6 6 (by kernel_rfl)).trans q6
    rw [hF.eq]
    clear hF hx hT T hP_ hR_ y4
    simp only [putAll, Act.put, List.setIfInBounds_toArray, List.set_cons_zero, List.set_cons_succ, q6]
    rw [hG] at hJ
    obtain ⟨j0, j1, j2⟩ := hJ
    have x5 := j2 rfl
    have k0 := x5.c0.cell
    have k1 := x5.c1.cell
    have k2 := x5.c2.cell
    have k3 := x5.c3.cell
    have k4 := x5.c4.cell
    clear hc0 hc1 hc2 hc3 hc4
    have hbw : base ≤ ((w.alloc (.cells #[.int .i64 0, .int .i64 0, .int .i64 0, .int .i64 0, .int .i64 0] 28)).alloc (.cells #[.int .i64 r1, .int .i64 r2, .int .i64 r3, .int .i64 r4, .int .i64 r5] 28)).heap.size := Nat.le_trans hbase hb0.size
    have ho5 := own_mono (j0.own ho4 (by
      intro k e
      have e2 : k = g2 := by cases e; rfl
      omega)) hbw
    have hle : (l.eraseIdx i).length = n - 1 := by rw [List.length_eraseIdx_of_lt (by rw [← HN.out]; exact hlt), HN.out]
    rw [← hle] at ho5
    have hCC := hCb.then_ j0 (fun k hk e => by omega)
    have q5 : fx 5 = .int .i64 (resV ⟨r1, r2, r3, r4, r5⟩) := q5
    go_wp2
    refine bodyPost_ret (v := .tuple #[.agg #[.int .i64 r1, .int .i64 r2, .int .i64 r3, .int .i64 r4, .int .i64 r5], .int .i64 (resV ⟨r1, r2, r3, r4, r5⟩), .int .i64 0]) (by simp [results, Try.results10, go_sem, k0, k1, k2, k3, k4]) rfl ?_
    refine ⟨rfl, hCC, .slice (some ⟨g2, 0, none⟩) (n - 1) cap2, ⟨f0.keep j0 hwb, f1.keep j0 hwb, f2.keep j0 hwb, f3.keep j0 hwb, by rw [hle] at ho5 ⊢; exact ho5, ?_⟩, g2, rfl, hgle⟩
    intro e
    have e2 : g2 = b := by cases e; rfl
    omega
end Go.Proofs.Ytdfncmhbbhmgfaa
