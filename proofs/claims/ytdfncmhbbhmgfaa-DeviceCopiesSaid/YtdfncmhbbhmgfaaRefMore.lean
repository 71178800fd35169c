/- The reference's device: Cancel, Copy. -/
import Derived.Test.YtdfncmhbbhmgfaaRefFin
namespace Go.Proofs.Ytdfncmhbbhmgfaa
open Go.RowKit
/-- The cells of a request at an address. -/
structure RqAt (w : World) (a : Addr) (m : Rq) : Prop where
  c0 : w.cell? a = some (.int .i64 m.id)
  c1 : w.cell? ⟨a.block, a.off + 1, none⟩ = some (.int .i64 m.space)
  c2 : w.cell? ⟨a.block, a.off + 2, none⟩ = some (.int .i64 m.thread)
  c3 : w.cell? ⟨a.block, a.off + 3, none⟩ = some (.int .i64 m.kind)
  c4 : w.cell? ⟨a.block, a.off + 4, none⟩ = some (.int .i64 m.size)
theorem rq_read {w : World} {ad : Addr} {n c : Nat} {l : List Rq} (h : Rds w 5 (some ad) n c (rqs l)) (k : Nat) (m : Rq) (hk : l[k]? = some m) : RqAt w (ad.add (k * 5)) m := by
  have h1 := rq_cells h k m hk
  exact ⟨h1 0 _ rfl, h1 1 _ rfl, h1 2 _ rfl, h1 3 _ rfl, h1 4 _ rfl⟩
/-- The requests that are not of a space. -/
def canL (sp : Int) (l : List Rq) : List Rq := l.filter fun r => decide (r.space ≠ sp)
theorem canL_le (sp : Int) (l : List Rq) : (canL sp l).length ≤ l.length := List.length_filter_le _ _
set_option maxRecDepth 100000 in
set_option maxHeartbeats 4000000 in
theorem rcancel (b base : Nat) (room : Int) (l : List Rq) (last done : Int) (v : Value) (sp : Int) (w : World) (h : RDev w b base room l last done v) (hbase : base ≤ w.heap.size) (hm : l.length ≤ 4096) :
    Calls Try.prog 28 #[.pointer (some ⟨b, 0, none⟩), .int .i64 sp] w fun e w' => e = .returned (.int .i64 ((l.length : Int) - (canL sp l).length)) ∧ Chg (fun k => k = b) w w' ∧
      ∃ v', RDev w' b base room (canL sp l) last done v' ∧ (∀ k, v'.ownBlock = some k → w.heap.size ≤ k) := by
  obtain ⟨A, n, c, rfl, hn, hrd⟩ := own_open h.own
  have hbl := h.room_.lt
  have hx1 := h.row.cell
  have HN : Hid (l.length = n) := hn.out.symm
  have HM : Hid (l.length ≤ 4096) := hm
  have hnm : n ≤ 4096 := by rw [← HN.out]; exact hm
  clear hm hn
  go_enter Try.func28, Try.ntmps28
  go_wp2
  clear hx1
  go_loopw [5, 14] (fun u i wr => ∃ k : Nat, k ≤ n ∧ i = .int .i64 k ∧ wr.ownsRow w.heap.size 63 5 u (canL sp (l.take k)).length (rqs (canL sp (l.take k))) ∧ Below w.heap.size w wr) (fun _ i _ => n - (intOf i).toNat)
  case atStart => exact ⟨0, Nat.zero_le _, rfl, World.ownsRow_nil _ _ _ _, Below.refl _ _⟩
  case round =>
    obtain ⟨k, hk, rfl, ho, hb⟩ := hrel
    by_cases hlt : k < n
    · have hkx : k < l.length := by rw [HN.out]; exact hlt
      obtain ⟨ad, rfl⟩ := hrd.some_ (by omega)
      obtain ⟨hc0, hc1, hc2, hc3, hc4⟩ := rq_read (hrd.below hb) k l[k] (List.getElem?_eq_getElem hkx)
      have HT : Hid (canL sp (l.take (k + 1)) = canL sp (l.take k) ++ (if decide (l[k].space ≠ sp) then [l[k]] else [])) := by
        show _ = _
        unfold canL
        rw [List.take_succ_eq_append_getElem hkx, List.filter_append]
        congr 1
        simp only [List.filter_cons, List.filter_nil]
      have HL : Hid (((canL sp (l.take k)).length + 1) * 40 ≤ 140737488355328) := by
        have h1 := canL_le sp (l.take k)
        have h2 : (l.take k).length ≤ k := by rw [List.length_take]; omega
        show _ ≤ _
        omega
      generalize l[k] = y at hc0 hc1 hc2 hc3 hc4 HT
      obtain ⟨r1, r2, r3, r4, r5⟩ := y
      simp only at hc0 hc1 hc2 hc3 hc4 HT
      have hal : Below wr.heap.size wr (wr.alloc (.cells #[.int .i64 r1, .int .i64 r2, .int .i64 r3, .int .i64 r4, .int .i64 r5] 63)) := below_al (Below.refl _ _) _
      by_cases hq : r2 = sp
      · subst hq
        rw [decide_eq_false (by simp), if_neg (by simp), List.append_nil] at HT
        go_wp2
        go_roundw
        case rel => exact ⟨k + 1, by omega, by go_num, by rw [HT.out]; exact own_below ho hal, below_then hb hb.size hal⟩
        case measure => simp only [intOf]; omega
      · have hqb : (r2 == sp) = false := by simpa using hq
        rw [decide_eq_true hq, if_pos rfl] at HT
        have HQ := Lib.hid hq
        clear hq
        have hal2 : Below wr.heap.size wr ((wr.alloc (.cells #[.int .i64 r1, .int .i64 r2, .int .i64 r3, .int .i64 r4, .int .i64 r5] 63)).alloc (.cells #[.int .i64 r1, .int .i64 r2, .int .i64 r3, .int .i64 r4, .int .i64 r5] 63)) := below_al hal _
        have hr2 := rds_lit (wr.alloc (.cells #[.int .i64 r1, .int .i64 r2, .int .i64 r3, .int .i64 r4, .int .i64 r5] 63)) 63 5 1 (rqC ⟨r1, r2, r3, r4, r5⟩) rfl (by decide)
        rw [show (wr.alloc (.cells #[.int .i64 r1, .int .i64 r2, .int .i64 r3, .int .i64 r4, .int .i64 r5] 63)).heap.size = wr.heap.size + 1 by simp] at hr2
        have HA := Lib.hid hal2
        clear hal hal2
        go_wp2_with (at_builtin; go_loud (refine apn (w0 := w) w.heap.size rfl _ _ 46 63 _ 5 40 (by rfl) Try.underlying46 info_rq2 rfl (by decide) (by decide) _ _ _ _ 1 1 (rqC ⟨r1, r2, r3, r4, r5⟩) (by rfl) (by rfl) hr2 (by intro u hu; simp [rqC] at hu; rcases hu with rfl | rfl | rfl | rfl | rfl <;> rfl) (own_below ho HA.out) (below_then hb hb.size HA.out) (Nat.le_trans hb.size HA.out.size) HL.out ?_; intro v1 w1 p1 p2 _ _))
        go_roundw
        case rel =>
          refine ⟨k + 1, by omega, by go_num, ?_, p2⟩
          rw [HT.out, rqs_append, rqs_one, List.length_append]
          exact p1
        case measure => simp only [intOf]; omega
    · obtain rfl : k = n := by omega
      rw [List.take_of_length_le (by rw [HN.out]; exact Nat.le_refl _)] at ho
      have hx0 := h.room_.below hb
      have hx1 := h.row.below hb
      have hx2 := h.last_.below hb
      have hx3 := h.done_.below hb
      have c0 := hx0.cell
      have c1 := hx1.cell
      have c2 := hx2.cell
      have c3 := hx3.cell
      have d0 := hx0.free
      have d1 := hx1.free
      have d2 := hx2.free
      have d3 := hx3.free
      obtain ⟨B1, m1, c4, rfl, hm1, hr1⟩ := own_open ho
      have hlen := hm1.out
      have hcl := canL_le sp l
      have HL2 : Hid ((l.length : Int) - ((canL sp l).length : Int) = (k : Int) - (m1 : Int)) := by show _ = _; rw [hlen, HN.out]
      have hm2 : m1 ≤ k := by rw [hlen]; have := HN.out; omega
      have HLen := Lib.hid hlen
      clear hlen hm1 hcl
      go_wp2
      go_ret
      have hch : Chg (fun k => k = b) w (wr.setCell ⟨b, 1, none⟩ (.slice B1 m1 c4)) := (Chg.of_below hb).setCell b 1 _ rfl
      have hch2 : Chg (fun k => k = b) wr (wr.setCell ⟨b, 1, none⟩ (.slice B1 m1 c4)) := (Chg.refl _ _).setCell b 1 _ rfl
      have hap : ∀ k, (Value.slice B1 m1 c4).ownBlock = some k → w.heap.size ≤ k := own_base ho
      refine ⟨ret_int ?_, hch, .slice B1 m1 c4, ⟨by constructor <;> go_simp, hx1.set _, by constructor <;> go_simp, by constructor <;> go_simp, own_mono (hch2.own ho (fun k hk e => by have := hap k hk; omega)) hbase, fun e => by have := hap _ e; omega⟩, hap⟩
      rw [HL2.out]
set_option maxRecDepth 100000 in
set_option maxHeartbeats 4000000 in
theorem rcopy (b base : Nat) (room : Int) (l : List Rq) (last done : Int) (v : Value) (w : World) (h : RDev w b base room l last done v) (hm : l.length ≤ 4096) :
    Calls Try.prog 16 #[.pointer (some ⟨b, 0, none⟩)] w fun e w' => Below w.heap.size w w' ∧ ∃ g v', e = .returned (.pointer (some ⟨g, 0, none⟩)) ∧ w.heap.size ≤ g ∧ RDev w' g w.heap.size room l last done v' := by
  obtain ⟨A, n, c, rfl, hn, hrd⟩ := own_open h.own
  have HLen := Lib.hid hn.out
  have HN40 : Hid ((0 + n) * 40 ≤ 140737488355328) := by show _ ≤ _; have := hn.out; omega
  clear hm hn
  go_enter Try.func16, Try.ntmps16
  go_wp2
  obtain ⟨B, hB⟩ : ∃ B, B = w.heap.size := ⟨_, rfl⟩
  obtain ⟨S0, hS0⟩ : ∃ S0 : Nat → Prop, S0 = fun k => B ≤ k := ⟨_, rfl⟩
  have hbS : ¬ S0 b := by rw [hS0]; have := h.room_.lt; omega
  have hAS : ∀ ad, A = some ad → ¬ S0 ad.block := fun ad e => by
    subst e
    have := (h.own.lt ad.block rfl).2
    rw [hS0]
    omega
  obtain ⟨G, hG⟩ : ∃ G : Option Value → Option Value → Option Value → Option Value → Option Value → World → Prop, ∀ x a z y e9 W, G x a z y e9 W = ((∀ u, e9 = some u → y = some u) ∧ ((a.isSome = true → x.isSome = true) ∧ (z.isSome = true → a.isSome = true) ∧ (y.isSome = true → z.isSome = true)) ∧ Ch2 63 5 B n 0 (rqs l) [] x a none none W ∧ Chg S0 w W ∧ (∀ u, z = some u → ∃ t A1 n1 c1, a = some t ∧ t = .slice A1 n1 c1 ∧ u = .agg #[.int .i64 room, .slice A1 n1 c1, .int .i64 last, .int .i64 done]) ∧ (∀ u, y = some u → ∃ g v', u = .pointer (some ⟨g, 0, none⟩) ∧ B ≤ g ∧ RDev W g B room l last done v')) := ⟨_, fun _ _ _ _ _ _ => rfl⟩
  obtain ⟨S_, hS_⟩ : ∃ S_ : World → World → Prop, S_ = (Chg S0) := ⟨_, rfl⟩
  have hR_ : ∀ W, S_ W W := by intro W; rw [hS_]; exact Chg.refl _ _
  obtain ⟨T, hT⟩ : ∃ T : Nat → FactS S_, ∀ t_, T t_ = ([FactS.eq (.pointer (some ⟨b, 0, none⟩)), FactS.eq (.pointer (some ⟨b, 0, none⟩)), FactS.eq (.pointer (some ⟨b, 0, none⟩)), FactS.eq (.int .i64 room), FactS.any, FactS.eq (.pointer (some ⟨b, 0, none⟩)), FactS.eq (.pointer (some ⟨b, 0, none⟩)), FactS.eq (.pointer (some ⟨b, 1, none⟩)), FactS.eq (.slice A n c), FactS.any, FactS.eq (.pointer (some ⟨b, 0, none⟩)), FactS.eq (.pointer (some ⟨b, 0, none⟩)), FactS.eq (.pointer (some ⟨b, 2, none⟩)), FactS.eq (.int .i64 last), FactS.eq (.pointer (some ⟨b, 0, none⟩)), FactS.eq (.pointer (some ⟨b, 0, none⟩)), FactS.eq (.pointer (some ⟨b, 3, none⟩)), FactS.eq (.int .i64 done), FactS.any, FactS.any, FactS.any] : List (FactS S_)).getD t_ FactS.any := ⟨_, fun _ => rfl⟩
  have hP_ : ∀ i_ v_ (y_ : Nat → Option Value) W_, ([4, 9, 18, 19, 20].contains i_) = false → G (y_ 4) (y_ 9) (y_ 18) (y_ 19) (y_ 20) W_ → G (updY y_ i_ v_ 4) (updY y_ i_ v_ 9) (updY y_ i_ v_ 18) (updY y_ i_ v_ 19) (updY y_ i_ v_ 20) W_ := by
    intro i_ v_ y_ W_ hi_ h_
    simp only [List.contains_cons, List.contains_nil, Bool.or_false, Bool.or_eq_false_iff, beq_eq_false_iff_ne, ne_eq] at hi_
    obtain ⟨i4_, i9_, i18_, i19_, i20_⟩ := hi_
    rw [updY_ne y_ i_ v_ i4_, updY_ne y_ i_ v_ i9_, updY_ne y_ i_ v_ i18_, updY_ne y_ i_ v_ i19_, updY_ne y_ i_ v_ i20_]
    exact h_
  refine region_tabJ [(0, 3), (1, 4), (2, 5), (3, 6), (4, 7), (5, 8), (6, 9), (7, 10), (8, 11), (9, 12), (10, 13), (11, 14), (12, 15), (13, 16), (14, 17), (15, 18), (16, 19), (17, 20), (18, 21), (19, 22), (20, 2)] S_ T (fun y_ W_ => G (y_ 4) (y_ 9) (y_ 18) (y_ 19) (y_ 20) W_) (by kernel_rfl) (by kernel_rfl) (by kernel_rfl) (by kernel_rfl) (by kernel_rfl) ?_ ?_ ?_
  · skip
    show G none none none none none _
    rw [hG]
    exact ⟨(fun u e => by cases e), ⟨(fun h => by cases h), (fun h => by cases h), (fun h => by cases h)⟩, Ch2.none_ (by rw [hB]; simp), (Chg.refl _ _).drewN 1, (fun u e => by cases e), (fun u e => by cases e)⟩
  · skip
    refine stepsAll_cons (k := 0) ?_ ?_
    · intro fa fx fW fy hF hN hJ hE K fK
      have hJ : G (fy 4) (fy 9) (fy 18) (fy 19) (fy 20) fW := hJ
      have ev0 : fa.tmps[0]?.getD undef = .pointer (some ⟨b, 0, none⟩) := hF.eo 0 (by kernel_rfl)
      refine wpOp_val rfl (wanted_none rfl) ?_ (fK (.pointer (some ⟨b, 0, none⟩)) fW (hR_ fW) (by rw [hT]; exact rfl) (hP_ 0 _ fy fW rfl hJ))
      clear fK hE hF hJ hN
      go_simp
    refine stepsAll_cons (k := 1) ?_ ?_
    · intro fa fx fW fy hF hN hJ hE K fK
      have hJ : G (fy 4) (fy 9) (fy 18) (fy 19) (fy 20) fW := hJ
      have q0 : fx 0 = .pointer (some ⟨b, 0, none⟩) := by have q := (hE ⟨0, .data⟩ (by simp) rfl).2; rw [hT] at q; exact q
      have ev3 : fa.tmps[3]?.getD undef = .pointer (some ⟨b, 0, none⟩) := (hF.ev 0 3 (by kernel_rfl)).trans q0
      refine wpOp_val rfl (wanted_none rfl) ?_ (fK (.pointer (some ⟨b, 0, none⟩)) fW (hR_ fW) (by rw [hT]; exact rfl) (hP_ 1 _ fy fW rfl hJ))
      clear fK hE hF hJ hN
      go_simp
    refine stepsAll_cons (k := 2) ?_ ?_
    · intro fa fx fW fy hF hN hJ hE K fK
      have hJ : G (fy 4) (fy 9) (fy 18) (fy 19) (fy 20) fW := hJ
      have q1 : fx 1 = .pointer (some ⟨b, 0, none⟩) := by have q := (hE ⟨1, .data⟩ (by simp) rfl).2; rw [hT] at q; exact q
      have ev4 : fa.tmps[4]?.getD undef = .pointer (some ⟨b, 0, none⟩) := (hF.ev 1 4 (by kernel_rfl)).trans q1
      refine wpOp_val rfl (wanted_none rfl) ?_ (fK (.pointer (some ⟨b, 0, none⟩)) fW (hR_ fW) (by rw [hT]; exact rfl) (hP_ 2 _ fy fW rfl hJ))
      clear fK hE hF hJ hN
      go_simp
    refine stepsAll_cons (k := 3) ?_ ?_
    · intro fa fx fW fy hF hN hJ hE K fK
      have hJ : G (fy 4) (fy 9) (fy 18) (fy 19) (fy 20) fW := hJ
      have q2 : fx 2 = .pointer (some ⟨b, 0, none⟩) := by have q := (hE ⟨2, .data⟩ (by simp) rfl).2; rw [hT] at q; exact q
      have ev5 : fa.tmps[5]?.getD undef = .pointer (some ⟨b, 0, none⟩) := (hF.ev 2 5 (by kernel_rfl)).trans q2
      have hJ1 := hJ
      rw [hG] at hJ1
      have k0 := (h.room_.keep hJ1.2.2.2.1 hbS).cell
      clear hJ1
      refine wpOp_val rfl (wanted_none rfl) ?_ (fK (.int .i64 room) fW (hR_ fW) (by rw [hT]; exact rfl) (hP_ 3 _ fy fW rfl hJ))
      clear fK hE hF hJ hN
      go_simp
    refine stepsAll_cons (k := 4) ?_ ?_
    · intro fa fx fW fy hF hN hJ hE K fK
      have hJ : G (fy 4) (fy 9) (fy 18) (fy 19) (fy 20) fW := hJ
      rw [hG, hN] at hJ
      obtain ⟨i0, ⟨i1, i2, i3⟩, j1, j2, j3, j4⟩ := hJ
      have a9 : fy 9 = none := by cases h : fy 9 with | none => rfl | some u => rw [h] at i1; exact absurd (i1 rfl) (by simp)
      have a18 : fy 18 = none := by cases h : fy 18 with | none => rfl | some u => rw [h, a9] at i2; exact absurd (i2 rfl) (by simp)
      rw [a9] at j1
      have hal : Below fW.heap.size fW (fW.alloc (.cells #[] 63)) := below_al (Below.refl _ _) _
      refine wpOp_to rfl (wanted_none rfl) (v := .slice (some ⟨fW.heap.size, 0, none⟩) 0 0) (W' := fW.alloc (.cells #[] 63)) (by clear fK hE hF hN i0 i1 i2 i3 j1 j2 j3 j4; go_simp) (fK _ _ (by rw [hS_]; exact Chg.of_below hal) (by rw [hT]; exact trivial) ?_)
      show G (some _) (fy 9) (fy 18) (fy 19) (fy 20) _
      rw [hG, a9, a18]
      rw [a18] at i3
      exact ⟨i0, ⟨(fun h => by cases h), (fun h => by cases h), i3⟩, j1.x_, j2.trans (Chg.of_below hal), (fun u e => by cases e), (fun u e => by obtain ⟨g, v', k1, k2, k3⟩ := j4 u e; exact ⟨g, v', k1, k2, ⟨k3.room_.below hal, k3.row.below hal, k3.last_.below hal, k3.done_.below hal, own_below k3.own hal, k3.apart⟩⟩)⟩
    refine stepsAll_cons (k := 5) ?_ ?_
    · intro fa fx fW fy hF hN hJ hE K fK
      have hJ : G (fy 4) (fy 9) (fy 18) (fy 19) (fy 20) fW := hJ
      have ev0 : fa.tmps[0]?.getD undef = .pointer (some ⟨b, 0, none⟩) := hF.eo 0 (by kernel_rfl)
      refine wpOp_val rfl (wanted_none rfl) ?_ (fK (.pointer (some ⟨b, 0, none⟩)) fW (hR_ fW) (by rw [hT]; exact rfl) (hP_ 5 _ fy fW rfl hJ))
      clear fK hE hF hJ hN
      go_simp
    refine stepsAll_cons (k := 6) ?_ ?_
    · intro fa fx fW fy hF hN hJ hE K fK
      have hJ : G (fy 4) (fy 9) (fy 18) (fy 19) (fy 20) fW := hJ
      have q5 : fx 5 = .pointer (some ⟨b, 0, none⟩) := by have q := (hE ⟨5, .data⟩ (by simp) rfl).2; rw [hT] at q; exact q
      have ev8 : fa.tmps[8]?.getD undef = .pointer (some ⟨b, 0, none⟩) := (hF.ev 5 8 (by kernel_rfl)).trans q5
      refine wpOp_val rfl (wanted_none rfl) ?_ (fK (.pointer (some ⟨b, 0, none⟩)) fW (hR_ fW) (by rw [hT]; exact rfl) (hP_ 6 _ fy fW rfl hJ))
      clear fK hE hF hJ hN
      go_simp
    refine stepsAll_cons (k := 7) ?_ ?_
    · intro fa fx fW fy hF hN hJ hE K fK
      have hJ : G (fy 4) (fy 9) (fy 18) (fy 19) (fy 20) fW := hJ
      have q6 : fx 6 = .pointer (some ⟨b, 0, none⟩) := by have q := (hE ⟨6, .data⟩ (by simp) rfl).2; rw [hT] at q; exact q
      have ev9 : fa.tmps[9]?.getD undef = .pointer (some ⟨b, 0, none⟩) := (hF.ev 6 9 (by kernel_rfl)).trans q6
      refine wpOp_val rfl (wanted_none rfl) ?_ (fK (.pointer (some ⟨b, 1, none⟩)) fW (hR_ fW) (by rw [hT]; exact rfl) (hP_ 7 _ fy fW rfl hJ))
      clear fK hE hF hJ hN
      go_simp
    refine stepsAll_cons (k := 8) ?_ ?_
    · intro fa fx fW fy hF hN hJ hE K fK
      have hJ : G (fy 4) (fy 9) (fy 18) (fy 19) (fy 20) fW := hJ
      have q7 : fx 7 = .pointer (some ⟨b, 1, none⟩) := by have q := (hE ⟨7, .data⟩ (by simp) rfl).2; rw [hT] at q; exact q
      have ev10 : fa.tmps[10]?.getD undef = .pointer (some ⟨b, 1, none⟩) := (hF.ev 7 10 (by kernel_rfl)).trans q7
      have hJ1 := hJ
      rw [hG] at hJ1
      have k0 := (h.row.keep hJ1.2.2.2.1 hbS).cell
      clear hJ1
      refine wpOp_val rfl (wanted_none rfl) ?_ (fK (.slice A n c) fW (hR_ fW) (by rw [hT]; exact rfl) (hP_ 8 _ fy fW rfl hJ))
      clear fK hE hF hJ hN
      go_simp
    refine stepsAll_cons (k := 9) ?_ ?_
    · intro fa fx fW fy hF hN hJ hE K fK
      have hJ : G (fy 4) (fy 9) (fy 18) (fy 19) (fy 20) fW := hJ
      have q4 : (FactS.any : FactS S_).p (fx 4) fW := by have q := (hE ⟨4, .data⟩ (by simp) rfl).2; rw [hT] at q; exact q
      have y4 : fy 4 = some (fx 4) := (hE ⟨4, .data⟩ (by simp) rfl).1
      have q8 : fx 8 = .slice A n c := by have q := (hE ⟨8, .data⟩ (by simp) rfl).2; rw [hT] at q; exact q
      have ev7 : fa.tmps[7]?.getD undef = fx 4 := hF.ev 4 7 (by kernel_rfl)
      have ev11 : fa.tmps[11]?.getD undef = .slice A n c := (hF.ev 8 11 (by kernel_rfl)).trans q8
      rw [hG, hN, y4] at hJ
      obtain ⟨i0, ⟨i1, i2, i3⟩, j1, j2, j3, j4⟩ := hJ
      have a18 : fy 18 = none := by cases h : fy 18 with | none => rfl | some u => rw [h] at i2; exact absurd (i2 rfl) (by simp)
      have ho := j1.hx _ rfl rfl
      have hrA := j2.rds hrd hAS
      refine wpOp_list rfl (apn (w0 := fW) B rfl _ _ 46 63 _ 5 40 (by rfl) Try.underlying46 info_rq2 rfl (by decide) (by decide) (fx 4) 0 [] A n c (rqs l) (by clear fK hE hF hN i0 i1 i2 i3 j1 j2 j3 j4; go_simp) (by clear fK hE hF hN i0 i1 i2 i3 j1 j2 j3 j4; go_simp) hrA (rqs_one_cell l) ho (Below.refl _ _) j1.hB HN40.out ?_)
      intro v1 w1 p1 p2 p3 p4
      rw [Nat.zero_add, List.nil_append] at p1
      have hch : Chg S0 fW w1 := Chg.of_grown p3 (fun k e => by rw [hS0]; exact own_base ho k e)
      have hy : fy 19 = none := by cases h : fy 19 with | none => rfl | some u => rw [h, a18] at i3; exact absurd (i3 rfl) (by simp)
      refine fK _ _ (by rw [hS_]; exact hch) (by rw [hT]; exact trivial) ?_
      show G (fy 4) (some v1) (fy 18) (fy 19) (fy 20) w1
      rw [hG, y4, a18, hy]
      rw [hy] at i0
      exact ⟨i0, ⟨(fun _ => rfl), (fun h => by cases h), (fun h => by cases h)⟩, j1.a_ p1 p3 p4, j2.trans hch, (fun u e => by cases e), (fun u e => by cases e)⟩
    refine stepsAll_cons (k := 10) ?_ ?_
    · intro fa fx fW fy hF hN hJ hE K fK
      have hJ : G (fy 4) (fy 9) (fy 18) (fy 19) (fy 20) fW := hJ
      have ev0 : fa.tmps[0]?.getD undef = .pointer (some ⟨b, 0, none⟩) := hF.eo 0 (by kernel_rfl)
      refine wpOp_val rfl (wanted_none rfl) ?_ (fK (.pointer (some ⟨b, 0, none⟩)) fW (hR_ fW) (by rw [hT]; exact rfl) (hP_ 10 _ fy fW rfl hJ))
      clear fK hE hF hJ hN
      go_simp
    refine stepsAll_cons (k := 11) ?_ ?_
    · intro fa fx fW fy hF hN hJ hE K fK
      have hJ : G (fy 4) (fy 9) (fy 18) (fy 19) (fy 20) fW := hJ
      have q10 : fx 10 = .pointer (some ⟨b, 0, none⟩) := by have q := (hE ⟨10, .data⟩ (by simp) rfl).2; rw [hT] at q; exact q
      have ev13 : fa.tmps[13]?.getD undef = .pointer (some ⟨b, 0, none⟩) := (hF.ev 10 13 (by kernel_rfl)).trans q10
      refine wpOp_val rfl (wanted_none rfl) ?_ (fK (.pointer (some ⟨b, 0, none⟩)) fW (hR_ fW) (by rw [hT]; exact rfl) (hP_ 11 _ fy fW rfl hJ))
      clear fK hE hF hJ hN
      go_simp
    refine stepsAll_cons (k := 12) ?_ ?_
    · intro fa fx fW fy hF hN hJ hE K fK
      have hJ : G (fy 4) (fy 9) (fy 18) (fy 19) (fy 20) fW := hJ
      have q11 : fx 11 = .pointer (some ⟨b, 0, none⟩) := by have q := (hE ⟨11, .data⟩ (by simp) rfl).2; rw [hT] at q; exact q
      have ev14 : fa.tmps[14]?.getD undef = .pointer (some ⟨b, 0, none⟩) := (hF.ev 11 14 (by kernel_rfl)).trans q11
      refine wpOp_val rfl (wanted_none rfl) ?_ (fK (.pointer (some ⟨b, 2, none⟩)) fW (hR_ fW) (by rw [hT]; exact rfl) (hP_ 12 _ fy fW rfl hJ))
      clear fK hE hF hJ hN
      go_simp
    refine stepsAll_cons (k := 13) ?_ ?_
    · intro fa fx fW fy hF hN hJ hE K fK
      have hJ : G (fy 4) (fy 9) (fy 18) (fy 19) (fy 20) fW := hJ
      have q12 : fx 12 = .pointer (some ⟨b, 2, none⟩) := by have q := (hE ⟨12, .data⟩ (by simp) rfl).2; rw [hT] at q; exact q
      have ev15 : fa.tmps[15]?.getD undef = .pointer (some ⟨b, 2, none⟩) := (hF.ev 12 15 (by kernel_rfl)).trans q12
      have hJ1 := hJ
      rw [hG] at hJ1
      have k0 := (h.last_.keep hJ1.2.2.2.1 hbS).cell
      clear hJ1
      refine wpOp_val rfl (wanted_none rfl) ?_ (fK (.int .i64 last) fW (hR_ fW) (by rw [hT]; exact rfl) (hP_ 13 _ fy fW rfl hJ))
      clear fK hE hF hJ hN
      go_simp
    refine stepsAll_cons (k := 14) ?_ ?_
    · intro fa fx fW fy hF hN hJ hE K fK
      have hJ : G (fy 4) (fy 9) (fy 18) (fy 19) (fy 20) fW := hJ
      have ev0 : fa.tmps[0]?.getD undef = .pointer (some ⟨b, 0, none⟩) := hF.eo 0 (by kernel_rfl)
      refine wpOp_val rfl (wanted_none rfl) ?_ (fK (.pointer (some ⟨b, 0, none⟩)) fW (hR_ fW) (by rw [hT]; exact rfl) (hP_ 14 _ fy fW rfl hJ))
      clear fK hE hF hJ hN
      go_simp
    refine stepsAll_cons (k := 15) ?_ ?_
    · intro fa fx fW fy hF hN hJ hE K fK
      have hJ : G (fy 4) (fy 9) (fy 18) (fy 19) (fy 20) fW := hJ
      have q14 : fx 14 = .pointer (some ⟨b, 0, none⟩) := by have q := (hE ⟨14, .data⟩ (by simp) rfl).2; rw [hT] at q; exact q
      have ev17 : fa.tmps[17]?.getD undef = .pointer (some ⟨b, 0, none⟩) := (hF.ev 14 17 (by kernel_rfl)).trans q14
      refine wpOp_val rfl (wanted_none rfl) ?_ (fK (.pointer (some ⟨b, 0, none⟩)) fW (hR_ fW) (by rw [hT]; exact rfl) (hP_ 15 _ fy fW rfl hJ))
      clear fK hE hF hJ hN
      go_simp
    refine stepsAll_cons (k := 16) ?_ ?_
    · intro fa fx fW fy hF hN hJ hE K fK
      have hJ : G (fy 4) (fy 9) (fy 18) (fy 19) (fy 20) fW := hJ
      have q15 : fx 15 = .pointer (some ⟨b, 0, none⟩) := by have q := (hE ⟨15, .data⟩ (by simp) rfl).2; rw [hT] at q; exact q
      have ev18 : fa.tmps[18]?.getD undef = .pointer (some ⟨b, 0, none⟩) := (hF.ev 15 18 (by kernel_rfl)).trans q15
      refine wpOp_val rfl (wanted_none rfl) ?_ (fK (.pointer (some ⟨b, 3, none⟩)) fW (hR_ fW) (by rw [hT]; exact rfl) (hP_ 16 _ fy fW rfl hJ))
      clear fK hE hF hJ hN
      go_simp
    refine stepsAll_cons (k := 17) ?_ ?_
    · intro fa fx fW fy hF hN hJ hE K fK
      have hJ : G (fy 4) (fy 9) (fy 18) (fy 19) (fy 20) fW := hJ
      have q16 : fx 16 = .pointer (some ⟨b, 3, none⟩) := by have q := (hE ⟨16, .data⟩ (by simp) rfl).2; rw [hT] at q; exact q
      have ev19 : fa.tmps[19]?.getD undef = .pointer (some ⟨b, 3, none⟩) := (hF.ev 16 19 (by kernel_rfl)).trans q16
      have hJ1 := hJ
      rw [hG] at hJ1
      have k0 := (h.done_.keep hJ1.2.2.2.1 hbS).cell
      clear hJ1
      refine wpOp_val rfl (wanted_none rfl) ?_ (fK (.int .i64 done) fW (hR_ fW) (by rw [hT]; exact rfl) (hP_ 17 _ fy fW rfl hJ))
      clear fK hE hF hJ hN
      go_simp
    refine stepsAll_cons (k := 18) ?_ ?_
    · intro fa fx fW fy hF hN hJ hE K fK
      have hJ : G (fy 4) (fy 9) (fy 18) (fy 19) (fy 20) fW := hJ
      have q3 : fx 3 = .int .i64 room := by have q := (hE ⟨3, .data⟩ (by simp) rfl).2; rw [hT] at q; exact q
      have q9 : (FactS.any : FactS S_).p (fx 9) fW := by have q := (hE ⟨9, .data⟩ (by simp) rfl).2; rw [hT] at q; exact q
      have y9 : fy 9 = some (fx 9) := (hE ⟨9, .data⟩ (by simp) rfl).1
      have q13 : fx 13 = .int .i64 last := by have q := (hE ⟨13, .data⟩ (by simp) rfl).2; rw [hT] at q; exact q
      have q17 : fx 17 = .int .i64 done := by have q := (hE ⟨17, .data⟩ (by simp) rfl).2; rw [hT] at q; exact q
      have ev6 : fa.tmps[6]?.getD undef = .int .i64 room := (hF.ev 3 6 (by kernel_rfl)).trans q3
      have ev12 : fa.tmps[12]?.getD undef = fx 9 := hF.ev 9 12 (by kernel_rfl)
      have ev16 : fa.tmps[16]?.getD undef = .int .i64 last := (hF.ev 13 16 (by kernel_rfl)).trans q13
      have ev20 : fa.tmps[20]?.getD undef = .int .i64 done := (hF.ev 17 20 (by kernel_rfl)).trans q17
      rw [hG, hN, y9] at hJ
      obtain ⟨i0, ⟨i1, i2, i3⟩, j1, j2, j3, j4⟩ := hJ
      have ho := j1.ha _ rfl rfl
      obtain ⟨A1, c1, hu⟩ := own_slice ho
      refine wpOp_val rfl (wanted_none rfl) (v := .agg #[.int .i64 room, .slice A1 n c1, .int .i64 last, .int .i64 done]) (by clear fK hE hF hN i0 i1 i2 i3 j1 j2 j3 j4; rw [hu] at ev12; go_simp) (fK _ _ (hR_ fW) (by rw [hT]; exact trivial) ?_)
      have hy : fy 19 = none := by cases h : fy 19 with | none => rfl | some u => rw [h] at i3; exact absurd (i3 rfl) (by simp)
      show G (fy 4) (fy 9) (some _) (fy 19) (fy 20) fW
      rw [hG, y9, hy]
      rw [hy] at i0
      exact ⟨i0, ⟨i1, (fun _ => rfl), (fun h => by cases h)⟩, j1, j2, (fun u e => by cases e; exact ⟨_, A1, n, c1, rfl, hu, rfl⟩), (fun u e => by cases e)⟩
    refine stepsAll_cons (k := 19) ?_ ?_
    · intro fa fx fW fy hF hN hJ hE K fK
      have hJ : G (fy 4) (fy 9) (fy 18) (fy 19) (fy 20) fW := hJ
      have q18 : (FactS.any : FactS S_).p (fx 18) fW := by have q := (hE ⟨18, .data⟩ (by simp) rfl).2; rw [hT] at q; exact q
      have y18 : fy 18 = some (fx 18) := (hE ⟨18, .data⟩ (by simp) rfl).1
      have ev21 : fa.tmps[21]?.getD undef = fx 18 := hF.ev 18 21 (by kernel_rfl)
      rw [hG, hN, y18] at hJ
      obtain ⟨i0, ⟨i1, i2, i3⟩, j1, j2, j3, j4⟩ := hJ
      obtain ⟨t, A1, n1, c1, ht, htu, hu⟩ := j3 _ rfl
      rw [ht] at j1
      have ho := j1.ha _ rfl rfl
      have hal : Below fW.heap.size fW (fW.alloc (.cells #[.int .i64 room, .slice A1 n1 c1, .int .i64 last, .int .i64 done] 50)) := below_al (Below.refl _ _) _
      have hb2 := own_below ho hal
      have hbk : ∀ k, t.ownBlock = some k → k < fW.heap.size := fun k e => (ho.lt k e).2
      have D : RDev (fW.alloc (.cells #[.int .i64 room, .slice A1 n1 c1, .int .i64 last, .int .i64 done] 50)) fW.heap.size B room l last done (.slice A1 n1 c1) := by
        refine ⟨⟨?_, ?_⟩, ⟨?_, ?_⟩, ⟨?_, ?_⟩, ⟨?_, ?_⟩, ?_, ?_⟩
        all_goals try (clear fK hE hF hN i0 i1 i2 i3 j1 j2 j3 j4 ho hb2; go_simp; done)
        · rw [htu, HLen.out] at hb2; exact hb2
        · rw [← htu]; intro e; have := hbk _ e; omega
      refine wpOp_to rfl (wanted_none rfl) (v := .pointer (some ⟨fW.heap.size, 0, none⟩)) (W' := fW.alloc (.cells #[.int .i64 room, .slice A1 n1 c1, .int .i64 last, .int .i64 done] 50)) (by clear fK hE hF hN i0 i1 i2 i3 j1 j2 j3 j4 D; rw [hu] at ev21; go_simp) (fK _ _ (by rw [hS_]; exact Chg.of_below hal) (by rw [hT]; exact trivial) ?_)
      show G (fy 4) (fy 9) (fy 18) (some _) (fy 20) _
      rw [hG, ht, y18]
      rw [ht] at i1
      exact ⟨(fun u e => by have := i0 u e; cases this), ⟨i1, (fun _ => rfl), (fun _ => rfl)⟩, j1.below hal, j2.trans (Chg.of_below hal), (fun u e => by cases e; exact ⟨t, A1, n1, c1, rfl, htu, hu⟩), (fun u e => by cases e; exact ⟨_, _, rfl, j1.hB, D⟩)⟩
    refine stepsAll_cons (k := 20) ?_ ?_
    · intro fa fx fW fy hF hN hJ hE K fK
      have hJ : G (fy 4) (fy 9) (fy 18) (fy 19) (fy 20) fW := hJ
      have q19 : (FactS.any : FactS S_).p (fx 19) fW := by have q := (hE ⟨19, .data⟩ (by simp) rfl).2; rw [hT] at q; exact q
      have y19 : fy 19 = some (fx 19) := (hE ⟨19, .data⟩ (by simp) rfl).1
      have ev22 : fa.tmps[22]?.getD undef = fx 19 := hF.ev 19 22 (by kernel_rfl)
      rw [hG, hN, y19] at hJ
      obtain ⟨i0, j⟩ := hJ
      refine wpOp_val rfl (wanted_none rfl) (v := fx 19) (by clear fK hE hF hN i0 j; go_simp) (fK _ _ (hR_ fW) (by rw [hT]; exact trivial) ?_)
      show G (fy 4) (fy 9) (fy 18) (fy 19) (some _) fW
      rw [hG, y19]
      exact ⟨(fun u e => e), j⟩
    exact stepsAll_nil
  intro fa fx fW fy hF hJ0 hx
  have y4 : fy 4 = some (fx 4) := (hx 4 (by decide)).1
  have y9 : fy 9 = some (fx 9) := (hx 9 (by decide)).1
  have y18 : fy 18 = some (fx 18) := (hx 18 (by decide)).1
  have y19 : fy 19 = some (fx 19) := (hx 19 (by decide)).1
  have y20 : fy 20 = some (fx 20) := (hx 20 (by decide)).1
  have hJ : G (fy 4) (fy 9) (fy 18) (fy 19) (fy 20) fW := hJ0
  clear hJ0
  rw [y4, y9, y18, y19, y20] at hJ
  rw [hF.eq]
  clear hF hx hT T hP_ hR_ y4 y9 y18 y19 y20
  simp only [putAll, Act.put, List.setIfInBounds_toArray, List.set_cons_zero, List.set_cons_succ, ]
  rw [hG] at hJ
  obtain ⟨i0, _, _, j2, _, j4⟩ := hJ
  obtain ⟨g, v', k1, k2, k3⟩ := j4 _ rfl
  have e19 := i0 _ rfl
  rw [k1] at e19
  have e20 : fx 20 = .pointer (some ⟨g, 0, none⟩) := (Option.some.inj e19).symm
  have hbb : Below w.heap.size w fW := by rw [← hB]; rw [hS0] at j2; exact j2.toBelow (Below.refl _ _) (by omega) (fun k e => e)
  rw [hB] at k2 k3
  rw [e20]
  go_wp2
  go_ret
  exact ⟨hbb, g, v', rfl, k2, k3⟩
end Go.Proofs.Ytdfncmhbbhmgfaa
