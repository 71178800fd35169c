/- A heap's copy. -/
import Derived.Test.YtopikpjagjnbhaaHeapUse
import Derived.Lib.SliceRun
namespace Go.Proofs.Ytopikpjagjnbhaa
open Go.RowKit
set_option maxHeartbeats 1000000 in
theorem cloneInt (A : Option Addr) (m c : Nat) (os : List Int) (w : World) (hr : Rds w 1 A m c (nums .i64 os)) (hm : m ≤ 100000) :
    Calls Try.prog 42 #[.slice A m c] w fun e w' => (∃ v, e = .returned v ∧ w'.ownsRow w.heap.size 3 1 v m (nums .i64 os)) ∧ Below w.heap.size w w' := by
  have q22 : ∀ (w : World) (a : Option Addr) (n c n' c' : Nat), (binOp .eql 22 (.slice a n c) (.slice none n' c')).run Try.prog w = .ok (.bool a.isNone) w := fun w a n c n' c' => Lib.run_eql_slice_nil w _ _ a n c n' c' Try.underlying22
  cases A with
  | none =>
    obtain ⟨rfl, rfl, h0⟩ := hr.nil_n
    go_enter Try.func42, Try.ntmps42
    go_wp2
    go_ret
    refine ⟨⟨_, rfl, ?_⟩, Below.refl _ _⟩
    rw [h0]
    exact World.ownsRow_nil _ _ _ _
  | some ad =>
    have hal : Below w.heap.size w (w.alloc (.cells #[] 3)) := below_al (Below.refl _ _) _
    have hown : (w.alloc (.cells #[] 3)).ownsRow w.heap.size 3 1 (.slice (some ⟨w.heap.size, 0, none⟩) 0 0) 0 [] := World.ownsRow_lit w #[] 0 (Nat.le_refl _) (Nat.zero_le _) rfl
    go_enter Try.func42, Try.ntmps42
    go_wp2_with (at_builtin; refine apn (w0 := w) w.heap.size rfl _ _ 22 3 _ 1 8 (by rfl) Try.underlying22 info_hint rfl (by decide) (by decide) _ 0 [] (some ad) m c _ (by rfl) (by rfl) (hr.below hal) (nums_one _ _) hown hal hal.size (by omega) ?_; intro v1 w1 h1 h2 h3 h4)
    go_ret
    refine ⟨⟨_, rfl, ?_⟩, h2⟩
    simpa using h1
/-- What was there stays. -/
def SBel (W W' : World) : Prop := Below W.heap.size W W'
/-- Three rows of a call's own, apart. -/
def Aprt (a b : Option Value) : Prop := ∀ v u k, a = some v → b = some u → v.ownBlock = some k → u.ownBlock ≠ some k
theorem Aprt.symm {a b : Option Value} (h : Aprt a b) : Aprt b a := fun v u k h1 h2 h3 h4 => h u v k h2 h1 h4 h3
structure CG (w : World) (B m n : Nat) (h : HV) (a b c : Option Value) (W : World) : Prop where
  bl : Below w.heap.size w W
  lo : B ≤ W.heap.size
  ra : ∀ v, a = some v → W.ownsRow B 3 1 v m (nums .i64 (zs h.ids))
  rb : ∀ v, b = some v → W.ownsRow B 3 1 v n (nums .i64 h.ks)
  rc : ∀ v, c = some v → W.ownsRow B 3 1 v n (nums .i64 h.pl)
  ab : Aprt a b
  ac : Aprt a c
  bc : Aprt b c
theorem CG.below {w W W' : World} {B m n : Nat} {h : HV} {a b c : Option Value} (g : CG w B m n h a b c W) (hb : Below W.heap.size W W') : CG w B m n h a b c W' :=
  ⟨below_then g.bl g.bl.size hb, Nat.le_trans g.lo hb.size, fun v e => own_below (g.ra v e) hb, fun v e => own_below (g.rb v e) hb, fun v e => own_below (g.rc v e) hb, g.ab, g.ac, g.bc⟩
theorem aprt_new {W w' : World} {B : Nat} {e e2 : TypeId} {s s2 n n2 : Nat} {v : Value} {b : Option Value} {xs ys : List Value} (hv : w'.ownsRow W.heap.size e s v n xs) (hb : ∀ u, b = some u → W.ownsRow B e2 s2 u n2 ys) : Aprt (some v) b := by
  intro v' u k h1 h2 h3 h4
  cases h1
  have t1 := (hv.lt k h3).1
  have t2 := ((hb u h2).lt k h4).2
  omega
theorem CG.new1 {w W w' : World} {B m n : Nat} {h : HV} {b c : Option Value} {v : Value} (g : CG w B m n h none b c W) (hb : Below W.heap.size W w') (hv : w'.ownsRow W.heap.size 3 1 v m (nums .i64 (zs h.ids))) : CG w B m n h (some v) b c w' :=
  ⟨below_then g.bl g.bl.size hb, Nat.le_trans g.lo hb.size, fun u e => by cases e; exact own_mono hv g.lo, fun v e => own_below (g.rb v e) hb, fun v e => own_below (g.rc v e) hb, aprt_new hv g.rb, aprt_new hv g.rc, g.bc⟩
theorem CG.new2 {w W w' : World} {B m n : Nat} {h : HV} {a c : Option Value} {v : Value} (g : CG w B m n h a none c W) (hb : Below W.heap.size W w') (hv : w'.ownsRow W.heap.size 3 1 v n (nums .i64 h.ks)) : CG w B m n h a (some v) c w' :=
  ⟨below_then g.bl g.bl.size hb, Nat.le_trans g.lo hb.size, fun v e => own_below (g.ra v e) hb, fun u e => by cases e; exact own_mono hv g.lo, fun v e => own_below (g.rc v e) hb, (aprt_new hv g.ra).symm, g.ac, aprt_new hv g.rc⟩
theorem CG.new3 {w W w' : World} {B m n : Nat} {h : HV} {a b : Option Value} {v : Value} (g : CG w B m n h a b none W) (hb : Below W.heap.size W w') (hv : w'.ownsRow W.heap.size 3 1 v n (nums .i64 h.pl)) : CG w B m n h a b (some v) w' :=
  ⟨below_then g.bl g.bl.size hb, Nat.le_trans g.lo hb.size, fun v e => own_below (g.ra v e) hb, fun v e => own_below (g.rb v e) hb, fun u e => by cases e; exact own_mono hv g.lo, g.ab, (aprt_new hv g.ra).symm, (aprt_new hv g.rb).symm⟩
/-- The three rows of a heap that is to be. -/
structure CR (W : World) (B m n : Nat) (h : HV) (x y z : Value) : Prop where
  ra : W.ownsRow B 3 1 x m (nums .i64 (zs h.ids))
  rb : W.ownsRow B 3 1 y n (nums .i64 h.ks)
  rc : W.ownsRow B 3 1 z n (nums .i64 h.pl)
  ab : Aprt (some x) (some y)
  ac : Aprt (some x) (some z)
  bc : Aprt (some y) (some z)
theorem CR.below {W W' : World} {B m n : Nat} {h : HV} {x y z : Value} (g : CR W B m n h x y z) (hb : Below W.heap.size W W') : CR W' B m n h x y z :=
  ⟨own_below g.ra hb, own_below g.rb hb, own_below g.rc hb, g.ab, g.ac, g.bc⟩
/-- A heap made behind B. -/
def HC (B n : Nat) (h : HV) (b : Nat) (W : World) : Prop := ∃ gk gp ck cp iv, Hp W b gk gp B n ck cp iv h ∧ B ≤ b ∧ B ≤ gk ∧ B ≤ gp
theorem HC.below {B n b : Nat} {h : HV} {W W' : World} (H : HC B n h b W) (hb : Below W.heap.size W W') : HC B n h b W' := by
  obtain ⟨gk, gp, ck, cp, iv, H1, H2⟩ := H
  exact ⟨gk, gp, ck, cp, iv, H1.below hb, H2⟩
theorem CR.make {W : World} {B n : Nat} {h : HV} {x y z : Value} (g : CR W B h.ids.length n h x y z) (hn : 0 < n) (hB : B ≤ W.heap.size) : HC B n h W.heap.size (W.alloc (.cells #[x, y, z] 53)) := by
  have hal : Below W.heap.size W (W.alloc (.cells #[x, y, z] 53)) := below_al (Below.refl _ _) _
  obtain ⟨gk, ck, rfl⟩ : ∃ gk ck, y = .slice (some ⟨gk, 0, none⟩) n ck := by
    rcases g.rb.2 with ⟨_, h4⟩ | ⟨gk, ck, _, h4, _⟩
    · omega
    · exact ⟨gk, ck, h4⟩
  obtain ⟨gp, cp, rfl⟩ : ∃ gp cp, z = .slice (some ⟨gp, 0, none⟩) n cp := by
    rcases g.rc.2 with ⟨_, h4⟩ | ⟨gk, ck, _, h4, _⟩
    · omega
    · exact ⟨gk, ck, h4⟩
  have l1 := g.rb.lt gk rfl
  have l2 := g.rc.lt gp rfl
  refine ⟨gk, gp, ck, cp, x, ⟨⟨?_, ?_⟩, own_below g.ra hal, ⟨⟨?_, ?_⟩, own_below g.rb hal⟩, ⟨?_, ?_⟩, own_below g.rc hal, by omega, ?_, by omega, fun k e => ⟨?_, ?_, ?_⟩⟩, hB, l1.1, l2.1⟩
  · obtain ⟨A, c, rfl⟩ := own_slice g.ra
    go_simp
  · obtain ⟨A, c, rfl⟩ := own_slice g.ra
    go_simp
  · obtain ⟨A, c, rfl⟩ := own_slice g.ra
    go_simp
  · obtain ⟨A, c, rfl⟩ := own_slice g.ra
    go_simp
  · obtain ⟨A, c, rfl⟩ := own_slice g.ra
    go_simp
  · obtain ⟨A, c, rfl⟩ := own_slice g.ra
    go_simp
  · intro e
    exact g.bc _ _ gk rfl rfl rfl (by rw [e]; rfl)
  · have := (g.ra.lt k e).2
    omega
  · intro e2
    exact g.ab _ _ k rfl rfl e (by rw [e2]; rfl)
  · intro e2
    exact g.ac _ _ k rfl rfl e (by rw [e2]; rfl)
set_option maxRecDepth 100000 in
set_option maxHeartbeats 4000000 in
/-- A heap's copy is one like it, behind. -/
theorem hcopy {w : World} {b gk gp base n ck cp : Nat} {iv : Value} {h : HV} (H : Hp w b gk gp base n ck cp iv h) (hn : 0 < n) (hn2 : n ≤ 4096) (hi : h.ids.length ≤ 4096) :
    Calls Try.prog 25 #[.pointer (some ⟨b, 0, none⟩)] w fun e w' => ∃ b', e = .returned (.pointer (some ⟨b', 0, none⟩)) ∧ Hid (HC w.heap.size n h b' w') ∧ Hid (Below w.heap.size w w') := by
  have HM := Lib.hid (hmade b gp n cp w H.pb.cell hn)
  obtain ⟨A, m, c, rfl, hm, hrd⟩ := own_open H.io
  have HMm := Lib.hid hm.out
  obtain ⟨_, hrk⟩ := own_rds' H.kw.ko
  obtain ⟨_, hrp⟩ := own_rds' H.po
  have hm4 : m ≤ 4096 := by rw [hm.out]; exact hi
  have hb0 := H.ib
  have hb1 := H.kw.kb
  have hb2 := H.pb
  clear hm H
  go_enter Try.func25, Try.ntmps25
  go_wp2_with (go_at_call 30; refine HM.out.mono ?_; rintro e w1 ⟨rfl, rfl⟩)
  obtain ⟨B, hB⟩ : ∃ B, B = w.heap.size := ⟨_, rfl⟩
  obtain ⟨G, hG⟩ : ∃ G : Option Value → Option Value → Option Value → World → Prop, ∀ a b c W, G a b c W = CG w B m n h a b c W := ⟨_, fun _ _ _ _ => rfl⟩
  obtain ⟨S_, hS_⟩ : ∃ S_ : World → World → Prop, S_ = (SBel) := ⟨_, rfl⟩
  have hR_ : ∀ W, S_ W W := by intro W; rw [hS_]; exact Below.refl _ _
  obtain ⟨T, hT⟩ : ∃ T : Nat → FactS S_, ∀ t_, T t_ = ([FactS.eq (.pointer (some ⟨b, 0, none⟩)), FactS.eq (.pointer (some ⟨b, 0, none⟩)), FactS.eq (.pointer (some ⟨b, 0, none⟩)), FactS.eq (.slice A m c), FactS.any, FactS.eq (.pointer (some ⟨b, 0, none⟩)), FactS.eq (.pointer (some ⟨b, 0, none⟩)), FactS.eq (.pointer (some ⟨b, 1, none⟩)), FactS.eq (.slice (some ⟨gk, 0, none⟩) n ck), FactS.any, FactS.eq (.pointer (some ⟨b, 0, none⟩)), FactS.eq (.pointer (some ⟨b, 0, none⟩)), FactS.eq (.pointer (some ⟨b, 2, none⟩)), FactS.eq (.slice (some ⟨gp, 0, none⟩) n cp), FactS.any, (⟨fun u W => ∃ x y z, u = .agg #[x, y, z] ∧ CR W B m n h x y z, fun u W W' ⟨x, y, z, h1, h2⟩ hc => ⟨x, y, z, h1, h2.below (hS_ ▸ hc : SBel W W')⟩⟩ : FactS S_), (⟨fun u W => ∃ b', u = .pointer (some ⟨b', 0, none⟩) ∧ HC B n h b' W, fun u W W' ⟨x, h1, h2⟩ hc => ⟨x, h1, h2.below (hS_ ▸ hc : SBel W W')⟩⟩ : FactS S_), (⟨fun u W => ∃ b', u = .pointer (some ⟨b', 0, none⟩) ∧ HC B n h b' W, fun u W W' ⟨x, h1, h2⟩ hc => ⟨x, h1, h2.below (hS_ ▸ hc : SBel W W')⟩⟩ : FactS S_)] : List (FactS S_)).getD t_ FactS.any := ⟨_, fun _ => rfl⟩
  have hP_ : ∀ i_ v_ (y_ : Nat → Option Value) W_, ([4, 9, 14].contains i_) = false → G (y_ 4) (y_ 9) (y_ 14) W_ → G (updY y_ i_ v_ 4) (updY y_ i_ v_ 9) (updY y_ i_ v_ 14) W_ := by
    intro i_ v_ y_ W_ hi_ h_
    simp only [List.contains_cons, List.contains_nil, Bool.or_false, Bool.or_eq_false_iff, beq_eq_false_iff_ne, ne_eq] at hi_
    obtain ⟨i4_, i9_, i14_⟩ := hi_
    rw [updY_ne y_ i_ v_ i4_, updY_ne y_ i_ v_ i9_, updY_ne y_ i_ v_ i14_]
    exact h_
  refine region_tabJ [(0, 6), (1, 7), (2, 8), (3, 9), (4, 10), (5, 11), (6, 12), (7, 13), (8, 14), (9, 15), (10, 16), (11, 17), (12, 18), (13, 19), (14, 20), (15, 21), (16, 22), (17, 2)] S_ T (fun y_ W_ => G (y_ 4) (y_ 9) (y_ 14) W_) (by kernel_rfl) (by kernel_rfl) (by kernel_rfl) (by kernel_rfl) (by kernel_rfl) ?_ ?_ ?_
  · skip
    show G none none none _
    rw [hG]
    exact ⟨below_dr (Below.refl _ _) 1, by rw [hB]; exact (below_dr (Below.refl w.heap.size w) 1).size, fun v e => (by cases e), fun v e => (by cases e), fun v e => (by cases e), fun v u k e => (by cases e), fun v u k e => (by cases e), fun v u k e => (by cases e)⟩
  · skip
    refine stepsAll_cons (k := 0) ?_ ?_
    · intro fa fx fW fy hF hN hJ hE K fK
      have hJ : G (fy 4) (fy 9) (fy 14) fW := hJ
      have ev0 : fa.tmps[0]?.getD undef = .pointer (some ⟨b, 0, none⟩) := hF.eo 0 (by kernel_rfl)
      refine wpOp_val rfl (wanted_none rfl) ?_ (fK (.pointer (some ⟨b, 0, none⟩)) fW (hR_ fW) (by rw [hT]; exact rfl) (hP_ 0 _ fy fW rfl hJ))
      clear fK hE hF hJ hN
      go_simp
    refine stepsAll_cons (k := 1) ?_ ?_
    · intro fa fx fW fy hF hN hJ hE K fK
      have hJ : G (fy 4) (fy 9) (fy 14) fW := hJ
      have q0 : fx 0 = .pointer (some ⟨b, 0, none⟩) := by have q := (hE ⟨0, .data⟩ (by simp) rfl).2; rw [hT] at q; exact q
      have ev6 : fa.tmps[6]?.getD undef = .pointer (some ⟨b, 0, none⟩) := (hF.ev 0 6 (by kernel_rfl)).trans q0
      refine wpOp_val rfl (wanted_none rfl) ?_ (fK (.pointer (some ⟨b, 0, none⟩)) fW (hR_ fW) (by rw [hT]; exact rfl) (hP_ 1 _ fy fW rfl hJ))
      clear fK hE hF hJ hN
      go_simp
    refine stepsAll_cons (k := 2) ?_ ?_
    · intro fa fx fW fy hF hN hJ hE K fK
      have hJ : G (fy 4) (fy 9) (fy 14) fW := hJ
      have q1 : fx 1 = .pointer (some ⟨b, 0, none⟩) := by have q := (hE ⟨1, .data⟩ (by simp) rfl).2; rw [hT] at q; exact q
      have ev7 : fa.tmps[7]?.getD undef = .pointer (some ⟨b, 0, none⟩) := (hF.ev 1 7 (by kernel_rfl)).trans q1
      refine wpOp_val rfl (wanted_none rfl) ?_ (fK (.pointer (some ⟨b, 0, none⟩)) fW (hR_ fW) (by rw [hT]; exact rfl) (hP_ 2 _ fy fW rfl hJ))
      clear fK hE hF hJ hN
      go_simp
    refine stepsAll_cons (k := 3) ?_ ?_
    · intro fa fx fW fy hF hN hJ hE K fK
      have hJ : G (fy 4) (fy 9) (fy 14) fW := hJ
      have q2 : fx 2 = .pointer (some ⟨b, 0, none⟩) := by have q := (hE ⟨2, .data⟩ (by simp) rfl).2; rw [hT] at q; exact q
      have ev8 : fa.tmps[8]?.getD undef = .pointer (some ⟨b, 0, none⟩) := (hF.ev 2 8 (by kernel_rfl)).trans q2
      have hJ1 := hJ
      rw [hG] at hJ1
      have k0 := (hb0.below hJ1.bl).cell
      clear hJ1
      refine wpOp_val rfl (wanted_none rfl) ?_ (fK (.slice A m c) fW (hR_ fW) (by rw [hT]; exact rfl) (hP_ 3 _ fy fW rfl hJ))
      clear fK hE hF hJ hN
      go_simp
    refine stepsAll_cons (k := 4) ?_ ?_
    · intro fa fx fW fy hF hN hJ hE K fK
      have hJ : G (fy 4) (fy 9) (fy 14) fW := hJ
      have q3 : fx 3 = .slice A m c := by have q := (hE ⟨3, .data⟩ (by simp) rfl).2; rw [hT] at q; exact q
      have ev9 : fa.tmps[9]?.getD undef = .slice A m c := (hF.ev 3 9 (by kernel_rfl)).trans q3
      refine wpOp_call rfl (wanted_none rfl) (by go_simp; exact ⟨rfl, rfl⟩) ?_
      have hJ1 := hJ
      rw [hG, hN] at hJ1
      refine (cloneInt A m c _ fW (hrd.below hJ1.bl) (by omega)).mono ?_
      rintro e w1 ⟨⟨v1, rfl, ho1⟩, hb3⟩
      have b1 : S_ fW w1 := by rw [hS_]; exact hb3
      have j1 : G (some v1) (fy 9) (fy 14) w1 := by rw [hG]; exact hJ1.new1 hb3 ho1
      exact ⟨_, rfl, fK (v1) (w1) (b1) (by rw [hT]; exact trivial) (j1)⟩
    refine stepsAll_cons (k := 5) ?_ ?_
    · intro fa fx fW fy hF hN hJ hE K fK
      have hJ : G (fy 4) (fy 9) (fy 14) fW := hJ
      have ev0 : fa.tmps[0]?.getD undef = .pointer (some ⟨b, 0, none⟩) := hF.eo 0 (by kernel_rfl)
      refine wpOp_val rfl (wanted_none rfl) ?_ (fK (.pointer (some ⟨b, 0, none⟩)) fW (hR_ fW) (by rw [hT]; exact rfl) (hP_ 5 _ fy fW rfl hJ))
      clear fK hE hF hJ hN
      go_simp
    refine stepsAll_cons (k := 6) ?_ ?_
    · intro fa fx fW fy hF hN hJ hE K fK
      have hJ : G (fy 4) (fy 9) (fy 14) fW := hJ
      have q5 : fx 5 = .pointer (some ⟨b, 0, none⟩) := by have q := (hE ⟨5, .data⟩ (by simp) rfl).2; rw [hT] at q; exact q
      have ev11 : fa.tmps[11]?.getD undef = .pointer (some ⟨b, 0, none⟩) := (hF.ev 5 11 (by kernel_rfl)).trans q5
      refine wpOp_val rfl (wanted_none rfl) ?_ (fK (.pointer (some ⟨b, 0, none⟩)) fW (hR_ fW) (by rw [hT]; exact rfl) (hP_ 6 _ fy fW rfl hJ))
      clear fK hE hF hJ hN
      go_simp
    refine stepsAll_cons (k := 7) ?_ ?_
    · intro fa fx fW fy hF hN hJ hE K fK
      have hJ : G (fy 4) (fy 9) (fy 14) fW := hJ
      have q6 : fx 6 = .pointer (some ⟨b, 0, none⟩) := by have q := (hE ⟨6, .data⟩ (by simp) rfl).2; rw [hT] at q; exact q
      have ev12 : fa.tmps[12]?.getD undef = .pointer (some ⟨b, 0, none⟩) := (hF.ev 6 12 (by kernel_rfl)).trans q6
      refine wpOp_val rfl (wanted_none rfl) ?_ (fK (.pointer (some ⟨b, 1, none⟩)) fW (hR_ fW) (by rw [hT]; exact rfl) (hP_ 7 _ fy fW rfl hJ))
      clear fK hE hF hJ hN
      go_simp
    refine stepsAll_cons (k := 8) ?_ ?_
    · intro fa fx fW fy hF hN hJ hE K fK
      have hJ : G (fy 4) (fy 9) (fy 14) fW := hJ
      have q7 : fx 7 = .pointer (some ⟨b, 1, none⟩) := by have q := (hE ⟨7, .data⟩ (by simp) rfl).2; rw [hT] at q; exact q
      have ev13 : fa.tmps[13]?.getD undef = .pointer (some ⟨b, 1, none⟩) := (hF.ev 7 13 (by kernel_rfl)).trans q7
      have hJ1 := hJ
      rw [hG] at hJ1
      have k0 := (hb1.below hJ1.bl).cell
      clear hJ1
      refine wpOp_val rfl (wanted_none rfl) ?_ (fK (.slice (some ⟨gk, 0, none⟩) n ck) fW (hR_ fW) (by rw [hT]; exact rfl) (hP_ 8 _ fy fW rfl hJ))
      clear fK hE hF hJ hN
      go_simp
    refine stepsAll_cons (k := 9) ?_ ?_
    · intro fa fx fW fy hF hN hJ hE K fK
      have hJ : G (fy 4) (fy 9) (fy 14) fW := hJ
      have q8 : fx 8 = .slice (some ⟨gk, 0, none⟩) n ck := by have q := (hE ⟨8, .data⟩ (by simp) rfl).2; rw [hT] at q; exact q
      have ev14 : fa.tmps[14]?.getD undef = .slice (some ⟨gk, 0, none⟩) n ck := (hF.ev 8 14 (by kernel_rfl)).trans q8
      refine wpOp_call rfl (wanted_none rfl) (by go_simp; exact ⟨rfl, rfl⟩) ?_
      have hJ1 := hJ
      rw [hG, hN] at hJ1
      refine (cloneInt _ n ck _ fW (hrk.below hJ1.bl) (by omega)).mono ?_
      rintro e w1 ⟨⟨v1, rfl, ho1⟩, hb3⟩
      have b1 : S_ fW w1 := by rw [hS_]; exact hb3
      have j1 : G (fy 4) (some v1) (fy 14) w1 := by rw [hG]; exact hJ1.new2 hb3 ho1
      exact ⟨_, rfl, fK (v1) (w1) (b1) (by rw [hT]; exact trivial) (j1)⟩
    refine stepsAll_cons (k := 10) ?_ ?_
    · intro fa fx fW fy hF hN hJ hE K fK
      have hJ : G (fy 4) (fy 9) (fy 14) fW := hJ
      have ev0 : fa.tmps[0]?.getD undef = .pointer (some ⟨b, 0, none⟩) := hF.eo 0 (by kernel_rfl)
      refine wpOp_val rfl (wanted_none rfl) ?_ (fK (.pointer (some ⟨b, 0, none⟩)) fW (hR_ fW) (by rw [hT]; exact rfl) (hP_ 10 _ fy fW rfl hJ))
      clear fK hE hF hJ hN
      go_simp
    refine stepsAll_cons (k := 11) ?_ ?_
    · intro fa fx fW fy hF hN hJ hE K fK
      have hJ : G (fy 4) (fy 9) (fy 14) fW := hJ
      have q10 : fx 10 = .pointer (some ⟨b, 0, none⟩) := by have q := (hE ⟨10, .data⟩ (by simp) rfl).2; rw [hT] at q; exact q
      have ev16 : fa.tmps[16]?.getD undef = .pointer (some ⟨b, 0, none⟩) := (hF.ev 10 16 (by kernel_rfl)).trans q10
      refine wpOp_val rfl (wanted_none rfl) ?_ (fK (.pointer (some ⟨b, 0, none⟩)) fW (hR_ fW) (by rw [hT]; exact rfl) (hP_ 11 _ fy fW rfl hJ))
      clear fK hE hF hJ hN
      go_simp
    refine stepsAll_cons (k := 12) ?_ ?_
    · intro fa fx fW fy hF hN hJ hE K fK
      have hJ : G (fy 4) (fy 9) (fy 14) fW := hJ
      have q11 : fx 11 = .pointer (some ⟨b, 0, none⟩) := by have q := (hE ⟨11, .data⟩ (by simp) rfl).2; rw [hT] at q; exact q
      have ev17 : fa.tmps[17]?.getD undef = .pointer (some ⟨b, 0, none⟩) := (hF.ev 11 17 (by kernel_rfl)).trans q11
      refine wpOp_val rfl (wanted_none rfl) ?_ (fK (.pointer (some ⟨b, 2, none⟩)) fW (hR_ fW) (by rw [hT]; exact rfl) (hP_ 12 _ fy fW rfl hJ))
      clear fK hE hF hJ hN
      go_simp
    refine stepsAll_cons (k := 13) ?_ ?_
    · intro fa fx fW fy hF hN hJ hE K fK
      have hJ : G (fy 4) (fy 9) (fy 14) fW := hJ
      have q12 : fx 12 = .pointer (some ⟨b, 2, none⟩) := by have q := (hE ⟨12, .data⟩ (by simp) rfl).2; rw [hT] at q; exact q
      have ev18 : fa.tmps[18]?.getD undef = .pointer (some ⟨b, 2, none⟩) := (hF.ev 12 18 (by kernel_rfl)).trans q12
      have hJ1 := hJ
      rw [hG] at hJ1
      have k0 := (hb2.below hJ1.bl).cell
      clear hJ1
      refine wpOp_val rfl (wanted_none rfl) ?_ (fK (.slice (some ⟨gp, 0, none⟩) n cp) fW (hR_ fW) (by rw [hT]; exact rfl) (hP_ 13 _ fy fW rfl hJ))
      clear fK hE hF hJ hN
      go_simp
    refine stepsAll_cons (k := 14) ?_ ?_
    · intro fa fx fW fy hF hN hJ hE K fK
      have hJ : G (fy 4) (fy 9) (fy 14) fW := hJ
      have q13 : fx 13 = .slice (some ⟨gp, 0, none⟩) n cp := by have q := (hE ⟨13, .data⟩ (by simp) rfl).2; rw [hT] at q; exact q
      have ev19 : fa.tmps[19]?.getD undef = .slice (some ⟨gp, 0, none⟩) n cp := (hF.ev 13 19 (by kernel_rfl)).trans q13
      refine wpOp_call rfl (wanted_none rfl) (by go_simp; exact ⟨rfl, rfl⟩) ?_
      have hJ1 := hJ
      rw [hG, hN] at hJ1
      refine (cloneInt _ n cp _ fW (hrp.below hJ1.bl) (by omega)).mono ?_
      rintro e w1 ⟨⟨v1, rfl, ho1⟩, hb3⟩
      have b1 : S_ fW w1 := by rw [hS_]; exact hb3
      have j1 : G (fy 4) (fy 9) (some v1) w1 := by rw [hG]; exact hJ1.new3 hb3 ho1
      exact ⟨_, rfl, fK (v1) (w1) (b1) (by rw [hT]; exact trivial) (j1)⟩
    refine stepsAll_cons (k := 15) ?_ ?_
    · intro fa fx fW fy hF hN hJ hE K fK
      have hJ : G (fy 4) (fy 9) (fy 14) fW := hJ
      have q4 : (FactS.any : FactS S_).p (fx 4) fW := by have q := (hE ⟨4, .data⟩ (by simp) rfl).2; rw [hT] at q; exact q
      have y4 : fy 4 = some (fx 4) := (hE ⟨4, .data⟩ (by simp) rfl).1
      have q9 : (FactS.any : FactS S_).p (fx 9) fW := by have q := (hE ⟨9, .data⟩ (by simp) rfl).2; rw [hT] at q; exact q
      have y9 : fy 9 = some (fx 9) := (hE ⟨9, .data⟩ (by simp) rfl).1
      have q14 : (FactS.any : FactS S_).p (fx 14) fW := by have q := (hE ⟨14, .data⟩ (by simp) rfl).2; rw [hT] at q; exact q
      have y14 : fy 14 = some (fx 14) := (hE ⟨14, .data⟩ (by simp) rfl).1
      have ev10 : fa.tmps[10]?.getD undef = fx 4 := hF.ev 4 10 (by kernel_rfl)
      have ev15 : fa.tmps[15]?.getD undef = fx 9 := hF.ev 9 15 (by kernel_rfl)
      have ev20 : fa.tmps[20]?.getD undef = fx 14 := hF.ev 14 20 (by kernel_rfl)
      have hJ1 := hJ
      rw [hG, y4, y9, y14] at hJ1
      have R : CR fW B m n h (fx 4) (fx 9) (fx 14) := ⟨hJ1.ra _ rfl, hJ1.rb _ rfl, hJ1.rc _ rfl, hJ1.ab, hJ1.ac, hJ1.bc⟩
      obtain ⟨x, hx⟩ : ∃ x, x = fx 4 := ⟨_, rfl⟩
      obtain ⟨y, hy⟩ : ∃ x, x = fx 9 := ⟨_, rfl⟩
      obtain ⟨z, hz⟩ : ∃ x, x = fx 14 := ⟨_, rfl⟩
      rw [← hx, ← hy, ← hz] at R
      obtain ⟨A1, c1, e1⟩ := own_slice R.ra
      obtain ⟨A2, c2, e2⟩ := own_slice R.rb
      obtain ⟨A3, c3, e3⟩ := own_slice R.rc
      refine wpOp_val rfl (wanted_none rfl) (v := .agg #[x, y, z]) ?_ (fK _ _ (hR_ fW) (by rw [hT]; exact ⟨x, y, z, rfl, R⟩) hJ)
      clear fK hE hF hJ hJ1 R
      rw [hx] at e1
      rw [hy] at e2
      rw [hz] at e3
      rw [e1] at ev10
      rw [e2] at ev15
      rw [e3] at ev20
      rw [hx, hy, hz, e1, e2, e3]
      go_simp
    refine stepsAll_cons (k := 16) ?_ ?_
    · intro fa fx fW fy hF hN hJ hE K fK
      have hJ : G (fy 4) (fy 9) (fy 14) fW := hJ
      have q15 : ((⟨fun u W => ∃ x y z, u = .agg #[x, y, z] ∧ CR W B m n h x y z, fun u W W' ⟨x, y, z, h1, h2⟩ hc => ⟨x, y, z, h1, h2.below (hS_ ▸ hc : SBel W W')⟩⟩ : FactS S_) : FactS S_).p (fx 15) fW := by have q := (hE ⟨15, .data⟩ (by simp) rfl).2; rw [hT] at q; exact q
      have ev21 : fa.tmps[21]?.getD undef = fx 15 := hF.ev 15 21 (by kernel_rfl)
      have hJ1 := hJ
      rw [hG] at hJ1
      obtain ⟨x, y, z, e15, R⟩ := q15
      obtain ⟨A1, c1, rfl⟩ := own_slice R.ra
      obtain ⟨A2, c2, rfl⟩ := own_slice R.rb
      obtain ⟨A3, c3, rfl⟩ := own_slice R.rc
      have R2 := R
      rw [HMm.out] at R2
      have hal := R2.make hn hJ1.lo
      rw [← HMm.out] at hal
      refine wpOp_to rfl (wanted_none rfl) (v := .pointer (some ⟨fW.heap.size, 0, none⟩)) (W' := fW.alloc (.cells #[.slice A1 m c1, .slice A2 n c2, .slice A3 n c3] 53)) ?_ (fK _ _ (by rw [hS_]; exact below_al (Below.refl _ _) _) (by rw [hT]; exact ⟨_, rfl, hal⟩) ?_)
      · clear fK hE hF hJ hJ1 R R2 hal
        rw [e15] at ev21
        go_simp
      · show G (fy 4) (fy 9) (fy 14) _
        rw [hG]
        exact hJ1.below (below_al (Below.refl _ _) _)
    refine stepsAll_cons (k := 17) ?_ ?_
    · intro fa fx fW fy hF hN hJ hE K fK
      have hJ : G (fy 4) (fy 9) (fy 14) fW := hJ
      have q16 : ((⟨fun u W => ∃ b', u = .pointer (some ⟨b', 0, none⟩) ∧ HC B n h b' W, fun u W W' ⟨x, h1, h2⟩ hc => ⟨x, h1, h2.below (hS_ ▸ hc : SBel W W')⟩⟩ : FactS S_) : FactS S_).p (fx 16) fW := by have q := (hE ⟨16, .data⟩ (by simp) rfl).2; rw [hT] at q; exact q
      have ev22 : fa.tmps[22]?.getD undef = fx 16 := hF.ev 16 22 (by kernel_rfl)
      refine wpOp_val rfl (wanted_none rfl) (v := fx 16) (by clear fK hE hF; go_simp) (fK _ _ (hR_ fW) (by rw [hT]; exact q16) hJ)
    exact stepsAll_nil
  intro fa fx fW fy hF hJ0 hx
  have y4 : fy 4 = some (fx 4) := (hx 4 (by decide)).1
  have y9 : fy 9 = some (fx 9) := (hx 9 (by decide)).1
  have y14 : fy 14 = some (fx 14) := (hx 14 (by decide)).1
  have hJ : G (fy 4) (fy 9) (fy 14) fW := hJ0
  clear hJ0
  rw [y4, y9, y14] at hJ
  have q17 : ((⟨fun u W => ∃ b', u = .pointer (some ⟨b', 0, none⟩) ∧ HC B n h b' W, fun u W W' ⟨x, h1, h2⟩ hc => ⟨x, h1, h2.below (hS_ ▸ hc : SBel W W')⟩⟩ : FactS S_) : FactS S_).p (fx 17) fW := by have q := (hx 17 (by decide)).2; rw [hT] at q; exact q
  have ev2 : fa.tmps[2]?.getD undef = fx 17 := hF.ev 17 2 (by kernel_rfl)
  rw [hF.eq]
  clear hF hx hT T hP_ hR_ y4 y9 y14
  simp only [putAll, Act.put, List.setIfInBounds_toArray, List.set_cons_zero, List.set_cons_succ, ]
  obtain ⟨b', k1, k2⟩ := q17
  rw [hG] at hJ
  have HB := Lib.hid hJ.bl
  rw [hB] at k2
  have HK := Lib.hid k2
  rw [k1]
  clear hJ k2
  go_wp2
  go_ret
  exact ⟨b', rfl, HK, HB⟩
end Go.Proofs.Ytopikpjagjnbhaa
