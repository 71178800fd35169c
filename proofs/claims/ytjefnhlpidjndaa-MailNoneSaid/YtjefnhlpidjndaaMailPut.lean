/- Package mail: Put. -/
import Derived.Test.YtjefnhlpidjndaaMail
namespace Go.Proofs.Ytjefnhlpidjndaa
open Go.RowKit
theorem EvAt.keep {S : Nat → Prop} {w w1 : World} {a : Addr} {m : Ev} (h : EvAt w a m) (hc : Chg S w w1) (hs : ¬ S a.block) : EvAt w1 a m :=
  ⟨hc.cell h.c0 hs, hc.cell h.c1 hs, hc.cell h.c2 hs, hc.cell h.c3 hs, hc.cell h.c4 hs, hc.cell h.c5 hs, hc.cell h.c6 hs, hc.cell h.c7 hs, hc.cell h.c8 hs, hc.cell h.c9 hs, hc.cell h.c10 hs, hc.cell h.c11 hs, hc.cell h.c12 hs, hc.cell h.c13 hs, hc.cell h.c14 hs⟩
/-- What an act on a box leaves. -/
def Acted (w : World) (b base : Nat) (room : Int) (l' : List Ev) (v : Value) (w' : World) : Prop :=
  Chg (fun k => k = b ∨ v.ownBlock = some k) w w' ∧ ∃ v', Mb w' b base room l' v' ∧ (v'.ownBlock = v.ownBlock ∨ ∃ k, v'.ownBlock = some k ∧ w.heap.size ≤ k)
theorem Acted.none_ {w w' : World} {b base : Nat} {room : Int} {l : List Ev} {v : Value} (h : Mb w b base room l v) (hb : Below w.heap.size w w') : Acted w b base room l v w' :=
  ⟨.of_below hb, v, h.below hb, .inl rfl⟩
set_option maxRecDepth 100000 in
set_option maxHeartbeats 16000000 in
theorem mput (b base : Nat) (room : Int) (l : List Ev) (v : Value) (e : Ev) (w : World) (h : Mb w b base room l v) (hp : 0 < room) (hp2 : room ≤ 1024) (hl : l.length ≤ 10000) (hbase : base ≤ w.heap.size) :
    Calls Try.prog 7 #[.pointer (some ⟨b, 0, none⟩), evV e] w fun x w' => x = .returned (.int .i64 (mayE room l.length [e])) ∧ Acted w b base room (if mayE room l.length [e] = 0 then l ++ [e] else l) v w' := by
  have hal : Below w.heap.size w (w.alloc (.cells (evC e).toArray 31)) := below_al (Below.refl _ _) _
  have hal1 : Below (w.alloc (.cells (evC e).toArray 31)).heap.size (w.alloc (.cells (evC e).toArray 31)) ((w.alloc (.cells (evC e).toArray 31)).alloc (.cells (evC e).toArray 31)) := below_al (Below.refl _ _) _
  have hlit : Rds ((w.alloc (.cells (evC e).toArray 31)).alloc (.cells (evC e).toArray 31)) 15 (some ⟨(w.alloc (.cells (evC e).toArray 31)).heap.size, 0, none⟩) 1 1 (evs [e]) := by
    have := rds_lit (w.alloc (.cells (evC e).toArray 31)) 31 15 1 (evC e) rfl (by decide)
    rwa [show evC e = evs [e] by simp [evs]] at this ⊢
  have hsz : (w.alloc (.cells (evC e).toArray 31)).heap.size = w.heap.size + 1 := by simp
  rw [hsz] at hlit
  have HM := Lib.hid (mmay b base room l v _ 1 1 [e] _ ((h.below hal).below hal1) hp hp2 (by omega) hlit)
  have HE := Lib.hid ((ev_new e w 31).below hal1)
  have HAL := Lib.hid (below_tr hal hal1)
  have hml : e = e := rfl
  generalize hr : mayE room l.length [e] = r at HM ⊢
  clear hml hal hal1 hlit hsz hr
  obtain ⟨e0, e1, e2, e3, e4, e5, e6, e7, e8, e9, e10, e11, e12, e13, e14⟩ := e
  unfold evC at HM HE HAL
  unfold evV
  simp only at HM HE HAL ⊢
  obtain ⟨A, c, rfl⟩ := own_slice h.own
  obtain ⟨n, hn⟩ : ∃ n, l.length = n := ⟨_, rfl⟩
  rw [hn] at h hl ⊢
  by_cases hr0 : r = 0
  · subst hr0
    rw [if_pos rfl]
    go_enter Try.func7, Try.ntmps7
    go_wp2_with (go_at_call 17; (with_reducible refine HM.out.mono ?_); rintro x w1 ⟨rfl, hb1⟩)
    have hB1 : Below w.heap.size w w1 := below_tr HAL.out hb1
    have hev := HE.out.below hb1
    have hm := h.below hB1
    have hbw := h.rm.lt
    have hob := h.apart
    have hown := h.own
    rw [hn] at hown
    have hgw := fun k (e : (Value.slice A n c).ownBlock = some k) => hown.lt k e
    obtain ⟨S0, hS0⟩ : ∃ S0 : Nat → Prop, S0 = fun k => k = b ∨ (Value.slice A n c).ownBlock = some k := ⟨_, rfl⟩
    obtain ⟨rb, hrb⟩ : ∃ x, x = w.heap.size := ⟨_, rfl⟩
    have hSr : ¬ S0 rb := by
      rw [hS0]
      rintro (e | e)
      · omega
      · have := (hgw _ e).2
        omega
    have hob2 := hm.own
    rw [hn] at hob2
    have hrw : w.heap.size ≤ rb := by omega
    have hw1 := hB1.size
    rw [← hrb] at hev
    rw [show Value.pointer (some ⟨w.heap.size, 0, none⟩) = Value.pointer (some ⟨rb, 0, none⟩) by rw [hrb]]
    clear HM HE HAL hb1 hrb
    obtain ⟨G, hG⟩ : ∃ G : Option Value → Option Value → Option Value → World → Prop, ∀ a d z W, G a d z W = ((a.isSome = true → z.isSome = true) ∧ Chg S0 w1 W ∧ Box W b 1 (.int .i64 room) ∧ EvAt W ⟨rb, 0, none⟩ ⟨e0, e1, e2, e3, e4, e5, e6, e7, e8, e9, e10, e11, e12, e13, e14⟩ ∧
        (d = none → Box W b 0 (.slice A n c)) ∧ (a = none → d = none ∧ W.ownsRow base 31 15 (.slice A n c) n (evs l)) ∧
        (∀ u, a = some u → W.ownsRow base 31 15 u (n + 1) (evs l ++ evC ⟨e0, e1, e2, e3, e4, e5, e6, e7, e8, e9, e10, e11, e12, e13, e14⟩) ∧ (u.ownBlock = (Value.slice A n c).ownBlock ∨ ∃ k, u.ownBlock = some k ∧ w.heap.size ≤ k) ∧ (d.isSome = true → Box W b 0 u))) := ⟨_, fun _ _ _ _ => rfl⟩
    obtain ⟨S_, hS_⟩ : ∃ S_ : World → World → Prop, S_ = (Chg S0) := ⟨_, rfl⟩
    have hR_ : ∀ W, S_ W W := by intro W; rw [hS_]; exact Chg.refl _ _
    obtain ⟨T, hT⟩ : ∃ T : Nat → FactS S_, ∀ t_, T t_ = ([FactS.eq (.pointer (some ⟨b, 0, none⟩)), FactS.eq (.pointer (some ⟨b, 0, none⟩)), FactS.eq (.pointer (some ⟨b, 0, none⟩)), FactS.eq (.pointer (some ⟨b, 0, none⟩)), FactS.eq (.pointer (some ⟨b, 0, none⟩)), FactS.eq (.slice A n c), FactS.eq (.agg #[.int .i64 e0, .int .i64 e1, .int .i64 e2, .int .i64 e3, .int .i64 e4, .int .i64 e5, .int .i64 e6, .int .i64 e7, .int .i64 e8, .int .i64 e9, .int .i64 e10, .int .i64 e11, .int .i64 e12, .int .i64 e13, .int .i64 e14]), (⟨fun u W => ∃ g, u = .slice (some ⟨g, 0, none⟩) 1 1 ∧ ¬ S0 g ∧ Rds W 15 (some ⟨g, 0, none⟩) 1 1 (evC ⟨e0, e1, e2, e3, e4, e5, e6, e7, e8, e9, e10, e11, e12, e13, e14⟩), fun u W W' ⟨g, e, hg, hr⟩ hc => ⟨g, e, hg, (hS_ ▸ hc : Chg S0 W W').rds hr (fun ad h => by cases h; exact hg)⟩⟩ : FactS S_), FactS.any, FactS.eq (.pointer (some ⟨b, 0, none⟩)), FactS.eq (.pointer (some ⟨b, 0, none⟩)), FactS.eq (.pointer (some ⟨b, 0, none⟩)), FactS.eq (undef)] : List (FactS S_)).getD t_ FactS.any := ⟨_, fun _ => rfl⟩
    have hP_ : ∀ i_ v_ (y_ : Nat → Option Value) W_, ([8, 12, 5].contains i_) = false → G (y_ 8) (y_ 12) (y_ 5) W_ → G (updY y_ i_ v_ 8) (updY y_ i_ v_ 12) (updY y_ i_ v_ 5) W_ := by
      intro i_ v_ y_ W_ hi_ h_
      simp only [List.contains_cons, List.contains_nil, Bool.or_false, Bool.or_eq_false_iff, beq_eq_false_iff_ne, ne_eq] at hi_
      obtain ⟨i8_, i12_, i5_⟩ := hi_
      rw [updY_ne y_ i_ v_ i8_, updY_ne y_ i_ v_ i12_, updY_ne y_ i_ v_ i5_]
      exact h_
    refine region_tabJ [(0, 12), (1, 13), (2, 14), (3, 15), (4, 16), (5, 17), (6, 18), (7, 19), (8, 20), (9, 21), (10, 22), (11, 23)] S_ T (fun y_ W_ => G (y_ 8) (y_ 12) (y_ 5) W_) (by kernel_rfl) (by kernel_rfl) (by kernel_rfl) (by kernel_rfl) (by kernel_rfl) ?_ ?_ ?_
    · skip
      show G none none none _
      rw [hG]
      exact ⟨(fun h => by cases h), (Chg.refl _ _).drewN _, hm.rm.below (below_dr (Below.refl _ _) _), hev.below (below_dr (Below.refl _ _) _), fun _ => hm.row.below (below_dr (Below.refl _ _) _), fun _ => ⟨rfl, own_below hob2 (below_dr (Below.refl _ _) _)⟩, fun u h => by cases h⟩
    · skip
      refine stepsAll_cons (k := 0) ?_ ?_
      · intro fa fx fW fy hF hN hJ hE K fK
        have hJ : G (fy 8) (fy 12) (fy 5) fW := hJ
        have ev0 : fa.tmps[0]?.getD undef = .pointer (some ⟨b, 0, none⟩) := hF.eo 0 (by kernel_rfl)
        refine wpOp_val rfl (wanted_none rfl) ?_ (fK (.pointer (some ⟨b, 0, none⟩)) fW (hR_ fW) (by rw [hT]; exact rfl) (hP_ 0 _ fy fW rfl hJ))
        clear fK hE hF hJ hN
        go_simp
      refine stepsAll_cons (k := 1) ?_ ?_
      · intro fa fx fW fy hF hN hJ hE K fK
        have hJ : G (fy 8) (fy 12) (fy 5) fW := hJ
        have ev0 : fa.tmps[0]?.getD undef = .pointer (some ⟨b, 0, none⟩) := hF.eo 0 (by kernel_rfl)
        refine wpOp_val rfl (wanted_none rfl) ?_ (fK (.pointer (some ⟨b, 0, none⟩)) fW (hR_ fW) (by rw [hT]; exact rfl) (hP_ 1 _ fy fW rfl hJ))
        clear fK hE hF hJ hN
        go_simp
      refine stepsAll_cons (k := 2) ?_ ?_
      · intro fa fx fW fy hF hN hJ hE K fK
        have hJ : G (fy 8) (fy 12) (fy 5) fW := hJ
        have q1 : fx 1 = .pointer (some ⟨b, 0, none⟩) := by have q := (hE ⟨1, .data⟩ (by simp) rfl).2; rw [hT] at q; exact q
        have ev13 : fa.tmps[13]?.getD undef = .pointer (some ⟨b, 0, none⟩) := (hF.ev 1 13 (by kernel_rfl)).trans q1
        refine wpOp_val rfl (wanted_none rfl) ?_ (fK (.pointer (some ⟨b, 0, none⟩)) fW (hR_ fW) (by rw [hT]; exact rfl) (hP_ 2 _ fy fW rfl hJ))
        clear fK hE hF hJ hN
        go_simp
      refine stepsAll_cons (k := 3) ?_ ?_
      · intro fa fx fW fy hF hN hJ hE K fK
        have hJ : G (fy 8) (fy 12) (fy 5) fW := hJ
        have q2 : fx 2 = .pointer (some ⟨b, 0, none⟩) := by have q := (hE ⟨2, .data⟩ (by simp) rfl).2; rw [hT] at q; exact q
        have ev14 : fa.tmps[14]?.getD undef = .pointer (some ⟨b, 0, none⟩) := (hF.ev 2 14 (by kernel_rfl)).trans q2
        refine wpOp_val rfl (wanted_none rfl) ?_ (fK (.pointer (some ⟨b, 0, none⟩)) fW (hR_ fW) (by rw [hT]; exact rfl) (hP_ 3 _ fy fW rfl hJ))
        clear fK hE hF hJ hN
        go_simp
      refine stepsAll_cons (k := 4) ?_ ?_
      · intro fa fx fW fy hF hN hJ hE K fK
        have hJ : G (fy 8) (fy 12) (fy 5) fW := hJ
        have q3 : fx 3 = .pointer (some ⟨b, 0, none⟩) := by have q := (hE ⟨3, .data⟩ (by simp) rfl).2; rw [hT] at q; exact q
        have ev15 : fa.tmps[15]?.getD undef = .pointer (some ⟨b, 0, none⟩) := (hF.ev 3 15 (by kernel_rfl)).trans q3
        refine wpOp_val rfl (wanted_none rfl) ?_ (fK (.pointer (some ⟨b, 0, none⟩)) fW (hR_ fW) (by rw [hT]; exact rfl) (hP_ 4 _ fy fW rfl hJ))
        clear fK hE hF hJ hN
        go_simp
      refine stepsAll_cons (k := 5) ?_ ?_
      · intro fa fx fW fy hF hN hJ hE K fK
        have hJ : G (fy 8) (fy 12) (fy 5) fW := hJ
        have q4 : fx 4 = .pointer (some ⟨b, 0, none⟩) := by have q := (hE ⟨4, .data⟩ (by simp) rfl).2; rw [hT] at q; exact q
        have ev16 : fa.tmps[16]?.getD undef = .pointer (some ⟨b, 0, none⟩) := (hF.ev 4 16 (by kernel_rfl)).trans q4
        rw [hG] at hJ
        obtain ⟨j0, j1, j2, j3, j5, j6, j7⟩ := hJ
        have ha : fy 8 = none := by
          rw [hN] at j0
          cases h7 : fy 8 with
          | none => rfl
          | some u => rw [h7] at j0; exact absurd (j0 rfl) (by simp)
        have k1 := (j5 (j6 ha).1).cell
        refine wpOp_val rfl (wanted_none rfl) (v := .slice A n c) (by clear fK hE hF hN j0 j1 j2 j3 j5 j6 j7; go_simp) (fK _ _ (hR_ fW) (by rw [hT]; exact rfl) ?_)
        show G (fy 8) (fy 12) (some _) fW
        rw [hG]
        exact ⟨fun _ => rfl, j1, j2, j3, j5, j6, j7⟩
      refine stepsAll_cons (k := 6) ?_ ?_
      · intro fa fx fW fy hF hN hJ hE K fK
        have hJ : G (fy 8) (fy 12) (fy 5) fW := hJ
        have ev3 : fa.tmps[3]?.getD undef = .pointer (some ⟨rb, 0, none⟩) := hF.eo 3 (by kernel_rfl)
        have hJ1 := hJ
        rw [hG] at hJ1
        obtain ⟨z0, z1, z2, z3, z4, z5, z6, z7, z8, z9, z10, z11, z12, z13, z14⟩ := hJ1.2.2.2.1
        simp only at z0 z1 z2 z3 z4 z5 z6 z7 z8 z9 z10 z11 z12 z13 z14
        clear hJ1
        refine wpOp_val rfl (wanted_none rfl) ?_ (fK (.agg #[.int .i64 e0, .int .i64 e1, .int .i64 e2, .int .i64 e3, .int .i64 e4, .int .i64 e5, .int .i64 e6, .int .i64 e7, .int .i64 e8, .int .i64 e9, .int .i64 e10, .int .i64 e11, .int .i64 e12, .int .i64 e13, .int .i64 e14]) fW (hR_ fW) (by rw [hT]; exact rfl) (hP_ 6 _ fy fW rfl hJ))
        clear fK hE hF hJ hN
        go_simp
      refine stepsAll_cons (k := 7) ?_ ?_
      · intro fa fx fW fy hF hN hJ hE K fK
        have hJ : G (fy 8) (fy 12) (fy 5) fW := hJ
        have q6 : fx 6 = .agg #[.int .i64 e0, .int .i64 e1, .int .i64 e2, .int .i64 e3, .int .i64 e4, .int .i64 e5, .int .i64 e6, .int .i64 e7, .int .i64 e8, .int .i64 e9, .int .i64 e10, .int .i64 e11, .int .i64 e12, .int .i64 e13, .int .i64 e14] := by have q := (hE ⟨6, .data⟩ (by simp) rfl).2; rw [hT] at q; exact q
        have ev18 : fa.tmps[18]?.getD undef = .agg #[.int .i64 e0, .int .i64 e1, .int .i64 e2, .int .i64 e3, .int .i64 e4, .int .i64 e5, .int .i64 e6, .int .i64 e7, .int .i64 e8, .int .i64 e9, .int .i64 e10, .int .i64 e11, .int .i64 e12, .int .i64 e13, .int .i64 e14] := (hF.ev 6 18 (by kernel_rfl)).trans q6
        have hal : Chg S0 fW (fW.alloc (.cells #[.int .i64 e0, .int .i64 e1, .int .i64 e2, .int .i64 e3, .int .i64 e4, .int .i64 e5, .int .i64 e6, .int .i64 e7, .int .i64 e8, .int .i64 e9, .int .i64 e10, .int .i64 e11, .int .i64 e12, .int .i64 e13, .int .i64 e14] 31)) := (Chg.refl _ _).alloc _
        rw [hG] at hJ
        obtain ⟨j0, j1, j2, j3, j5, j6, j7⟩ := hJ
        have hbel : Below fW.heap.size fW (fW.alloc (.cells #[.int .i64 e0, .int .i64 e1, .int .i64 e2, .int .i64 e3, .int .i64 e4, .int .i64 e5, .int .i64 e6, .int .i64 e7, .int .i64 e8, .int .i64 e9, .int .i64 e10, .int .i64 e11, .int .i64 e12, .int .i64 e13, .int .i64 e14] 31)) := below_al (Below.refl _ _) _
        have hg6 : ¬ S0 fW.heap.size := by
          have hq1 := j2.lt
          have hq2 := Nat.le_trans hw1 j1.size
          rw [hS0]
          rintro (e | e)
          · omega
          · have := (hgw _ e).2
            omega
        refine wpOp_to rfl (wanted_none rfl) (v := .slice (some ⟨fW.heap.size, 0, none⟩) 1 1) (W' := fW.alloc (.cells #[.int .i64 e0, .int .i64 e1, .int .i64 e2, .int .i64 e3, .int .i64 e4, .int .i64 e5, .int .i64 e6, .int .i64 e7, .int .i64 e8, .int .i64 e9, .int .i64 e10, .int .i64 e11, .int .i64 e12, .int .i64 e13, .int .i64 e14] 31)) (by clear fK hE hF hN j0 j1 j2 j3 j5 j6 j7; go_simp) (fK _ _ (by rw [hS_]; exact hal) (by rw [hT]; exact ⟨_, rfl, hg6, rds_lit fW _ 15 1 (evC ⟨e0, e1, e2, e3, e4, e5, e6, e7, e8, e9, e10, e11, e12, e13, e14⟩) rfl (by decide)⟩) ?_)
        show G (fy 8) (fy 12) (fy 5) _
        rw [hG]
        exact ⟨j0, j1.trans hal, j2.below hbel, j3.below hbel, fun e => (j5 e).below hbel, fun e => ⟨(j6 e).1, own_below (j6 e).2 hbel⟩, fun u e => ⟨own_below (j7 u e).1 hbel, (j7 u e).2.1, fun e2 => ((j7 u e).2.2 e2).below hbel⟩⟩
      refine stepsAll_cons (k := 8) ?_ ?_
      · intro fa fx fW fy hF hN hJ hE K fK
        have hJ : G (fy 8) (fy 12) (fy 5) fW := hJ
        have q5 : fx 5 = .slice A n c := by have q := (hE ⟨5, .data⟩ (by simp) rfl).2; rw [hT] at q; exact q
        have y5 : fy 5 = some (fx 5) := (hE ⟨5, .data⟩ (by simp) rfl).1
        have q7 : ((⟨fun u W => ∃ g, u = .slice (some ⟨g, 0, none⟩) 1 1 ∧ ¬ S0 g ∧ Rds W 15 (some ⟨g, 0, none⟩) 1 1 (evC ⟨e0, e1, e2, e3, e4, e5, e6, e7, e8, e9, e10, e11, e12, e13, e14⟩), fun u W W' ⟨g, e, hg, hr⟩ hc => ⟨g, e, hg, (hS_ ▸ hc : Chg S0 W W').rds hr (fun ad h => by cases h; exact hg)⟩⟩ : FactS S_) : FactS S_).p (fx 7) fW := by have q := (hE ⟨7, .data⟩ (by simp) rfl).2; rw [hT] at q; exact q
        have ev17 : fa.tmps[17]?.getD undef = .slice A n c := (hF.ev 5 17 (by kernel_rfl)).trans q5
        have ev19 : fa.tmps[19]?.getD undef = fx 7 := hF.ev 7 19 (by kernel_rfl)
        rw [hG, hN] at hJ
        obtain ⟨j0, j1, j2, j3, j5, j6, j7⟩ := hJ
        obtain ⟨g, hg1, hg2, hg3⟩ := q7
        obtain ⟨hd, ho⟩ := j6 rfl
        have hsz := Nat.le_trans hw1 j1.size
        refine wpOp_list rfl (apn (w0 := fW) base rfl _ _ 22 31 _ 15 120 (by rfl) Try.underlying22 info_ev rfl (by decide) (by decide) (.slice A n c) n (evs l) (some ⟨g, 0, none⟩) 1 1 (evC ⟨e0, e1, e2, e3, e4, e5, e6, e7, e8, e9, e10, e11, e12, e13, e14⟩) (by clear fK hE hF hN; go_simp) (by clear fK hE hF hN; rw [hg1] at ev19; go_simp) hg3 (fun u hu => evs_one [⟨e0, e1, e2, e3, e4, e5, e6, e7, e8, e9, e10, e11, e12, e13, e14⟩] u (by simpa [evs] using hu)) ho (Below.refl _ _) (by omega) (by omega) ?_)
        intro v1 w1 p1 p2 p3 p4
        have hch : Chg S0 fW w1 := Chg.of_grown p3 (fun k e => by rw [hS0]; exact .inr e)
        have hch2 : Chg (fun k => (Value.slice A n c).ownBlock = some k) fW w1 := Chg.of_grown p3 (fun k e => e)
        refine fK _ _ (by rw [hS_]; exact hch) (by rw [hT]; exact trivial) ?_
        show G (some v1) (fy 12) (fy 5) w1
        rw [hG]
        refine ⟨fun _ => by rw [y5]; rfl, j1.trans hch, j2.keep hch2 hob, j3.keep hch hSr, fun e => (j5 e).keep hch2 hob, (fun e => by cases e), fun u e => ?_⟩
        cases e
        refine ⟨p1, ?_, fun e2 => by rw [hd] at e2; cases e2⟩
        rcases p4 with p4 | ⟨k, p4, p5⟩
        · exact .inl p4
        · exact .inr ⟨k, p4, by omega⟩
      refine stepsAll_cons (k := 9) ?_ ?_
      · intro fa fx fW fy hF hN hJ hE K fK
        have hJ : G (fy 8) (fy 12) (fy 5) fW := hJ
        have q0 : fx 0 = .pointer (some ⟨b, 0, none⟩) := by have q := (hE ⟨0, .data⟩ (by simp) rfl).2; rw [hT] at q; exact q
        have ev12 : fa.tmps[12]?.getD undef = .pointer (some ⟨b, 0, none⟩) := (hF.ev 0 12 (by kernel_rfl)).trans q0
        refine wpOp_val rfl (wanted_none rfl) ?_ (fK (.pointer (some ⟨b, 0, none⟩)) fW (hR_ fW) (by rw [hT]; exact rfl) (hP_ 9 _ fy fW rfl hJ))
        clear fK hE hF hJ hN
        go_simp
      refine stepsAll_cons (k := 10) ?_ ?_
      · intro fa fx fW fy hF hN hJ hE K fK
        have hJ : G (fy 8) (fy 12) (fy 5) fW := hJ
        have q9 : fx 9 = .pointer (some ⟨b, 0, none⟩) := by have q := (hE ⟨9, .data⟩ (by simp) rfl).2; rw [hT] at q; exact q
        have ev21 : fa.tmps[21]?.getD undef = .pointer (some ⟨b, 0, none⟩) := (hF.ev 9 21 (by kernel_rfl)).trans q9
        refine wpOp_val rfl (wanted_none rfl) ?_ (fK (.pointer (some ⟨b, 0, none⟩)) fW (hR_ fW) (by rw [hT]; exact rfl) (hP_ 10 _ fy fW rfl hJ))
        clear fK hE hF hJ hN
        go_simp
      refine stepsAll_cons (k := 11) ?_ ?_
      · intro fa fx fW fy hF hN hJ hE K fK
        have hJ : G (fy 8) (fy 12) (fy 5) fW := hJ
        have q10 : fx 10 = .pointer (some ⟨b, 0, none⟩) := by have q := (hE ⟨10, .data⟩ (by simp) rfl).2; rw [hT] at q; exact q
        have ev22 : fa.tmps[22]?.getD undef = .pointer (some ⟨b, 0, none⟩) := (hF.ev 10 22 (by kernel_rfl)).trans q10
        refine wpOp_val rfl (wanted_none rfl) ?_ (fK (.pointer (some ⟨b, 0, none⟩)) fW (hR_ fW) (by rw [hT]; exact rfl) (hP_ 11 _ fy fW rfl hJ))
        clear fK hE hF hJ hN
        go_simp
      refine stepsAll_cons (k := 12) ?_ ?_
      · intro fa fx fW fy hF hN hJ hE K fK
        have hJ : G (fy 8) (fy 12) (fy 5) fW := hJ
        have q8 : (FactS.any : FactS S_).p (fx 8) fW := by have q := (hE ⟨8, .data⟩ (by simp) rfl).2; rw [hT] at q; exact q
        have y8 : fy 8 = some (fx 8) := (hE ⟨8, .data⟩ (by simp) rfl).1
        have q11 : fx 11 = .pointer (some ⟨b, 0, none⟩) := by have q := (hE ⟨11, .data⟩ (by simp) rfl).2; rw [hT] at q; exact q
        have ev20 : fa.tmps[20]?.getD undef = fx 8 := hF.ev 8 20 (by kernel_rfl)
        have ev23 : fa.tmps[23]?.getD undef = .pointer (some ⟨b, 0, none⟩) := (hF.ev 11 23 (by kernel_rfl)).trans q11
        rw [hG, hN, y8] at hJ
        obtain ⟨j0, j1, j2, j3, j5, j6, j7⟩ := hJ
        obtain ⟨k1, k2, k3⟩ := j7 _ rfl
        have hx := j5 rfl
        have hxc := hx.cell
        have hxf := hx.free
        obtain ⟨UA, uc, hu⟩ := own_slice k1
        have hub : (fx 8).ownBlock ≠ some b := by
          rcases k2 with k2 | ⟨k, k2, k4⟩
          · rw [k2]; exact hob
          · rw [k2]; intro e; cases e; omega
        have hbW : S0 b := by rw [hS0]; exact .inl rfl
        have hch : Chg S0 fW (fW.setCell ⟨b, 0, none⟩ (fx 8)) := (Chg.refl _ _).setCell b 0 _ hbW
        have hch2 : Chg (fun k => k = b) fW (fW.setCell ⟨b, 0, none⟩ (fx 8)) := (Chg.refl _ _).setCell b 0 _ rfl
        have z0 : Box (fW.setCell ⟨b, 0, none⟩ (fx 8)) b 1 (.int .i64 room) := by have := j2.cell; have := j2.free; clear fK hE hF; constructor <;> go_simp
        refine wpOp_done rfl (wanted_none rfl) (W' := fW.setCell ⟨b, 0, none⟩ (fx 8)) (by clear fK hE hF hN z0; rw [hu] at ev20 ⊢; go_simp) (fK undef _ (by rw [hS_]; exact hch) (by rw [hT]; exact rfl) ?_)
        show G (fy 8) (some undef) (fy 5) _
        rw [hG, y8]
        exact ⟨j0, j1.trans hch, z0, j3.keep hch hSr, (fun e => by cases e), (fun e => by cases e), fun u e => by cases e; exact ⟨hch2.own k1 (fun k hk e => hub (by rw [hk, e])), k2, fun _ => hx.set _⟩⟩
      exact stepsAll_nil
    intro fa fx fW fy hF hJ0 hx
    have y8 : fy 8 = some (fx 8) := (hx 8 (by decide)).1
    have y12 : fy 12 = some (fx 12) := (hx 12 (by decide)).1
    have y5 : fy 5 = some (fx 5) := (hx 5 (by decide)).1
    have hJ : G (fy 8) (fy 12) (fy 5) fW := hJ0
    clear hJ0
    rw [y8, y12, y5] at hJ
    rw [hF.eq]
    clear hF hx hT T hP_ hR_ y8 y12 y5
    simp only [putAll, Act.put, List.setIfInBounds_toArray, List.set_cons_zero, List.set_cons_succ, ]
    rw [hG] at hJ
    obtain ⟨j0, j1, j2, j3, j5, j6, j7⟩ := hJ
    obtain ⟨k1, k2, k3⟩ := j7 _ rfl
    have k4 := k3 rfl
    have hCC : Chg S0 w fW := (Chg.of_below hB1).trans j1
    have hub : (fx 8).ownBlock ≠ some b := by
      rcases k2 with k2 | ⟨k, k2, k5⟩
      · rw [k2]; exact hob
      · rw [k2]; intro e; cases e; omega
    generalize fx 8 = u at k1 k2 k4 hub
    clear j0 j3 j5 j6 j7 k3
    go_wp2
    go_ret
    refine ⟨rfl, by rw [hS0] at hCC; exact hCC, u, ⟨k4, j2, ?_, hub⟩, k2⟩
    rw [List.length_append, List.length_singleton, hn, evs_append, show evs [(⟨e0, e1, e2, e3, e4, e5, e6, e7, e8, e9, e10, e11, e12, e13, e14⟩ : Ev)] = evC ⟨e0, e1, e2, e3, e4, e5, e6, e7, e8, e9, e10, e11, e12, e13, e14⟩ by simp [evs]]
    exact k1
  · rw [if_neg hr0]
    have hr2 : (r == 0) = false := by simpa using hr0
    clear hr0
    go_enter Try.func7, Try.ntmps7
    go_wp2_with (go_at_call 17; (with_reducible refine HM.out.mono ?_); rintro x w1 ⟨rfl, hb1⟩)
    go_ret
    exact ⟨rfl, .none_ h (below_tr HAL.out hb1)⟩
end Go.Proofs.Ytjefnhlpidjndaa
