/- wherryref01: Div, MulDiv. -/
import Derived.Test.YtkebkmjffbnihaaDigParted
import Derived.Test.YtkebkmjffbnihaaDigDivPlain
namespace Go.Proofs.Ytkebkmjffbnihaa
open Go.RowKit
set_option maxRecDepth 100000 in
theorem dDiv_0 (a : Int) (w : World) : Calls Try.prog 10 #[.int .i64 a, .int .i64 0] w fun e w' => e = .returned (.tuple #[.int .i64 0, .int .i64 0, .bool false]) ∧ w = w' := by
  go_enter Try.func10, Try.ntmps10
  go_wp2
  go_ret3
  exact ⟨rfl, rfl⟩
set_option maxRecDepth 100000 in
set_option maxHeartbeats 4000000 in
theorem dDiv (a b : Int) (w : World) (ha : I64 a) (hb : I64 b) (hd : divB a b = true) :
    Calls Try.prog 10 #[.int .i64 a, .int .i64 b] w fun e w' => (∃ q r, e = .returned (.tuple #[.int .i64 q, .int .i64 r, .bool true]) ∧ DivR a b q r) ∧ Below w.heap.size w w' := by
  have hb0 : b ≠ 0 := by unfold divB at hd; simp at hd; exact hd.1
  have hbz : (b == 0) = false := by simp; exact hb0
  have HF := Lib.hid (fun q r (h : DivR a b q r) => h.fits ha hb hd)
  have H1 := Lib.hid (fun W => dOf a W ha)
  have H2 := Lib.hid (fun W => dOf b W hb)
  have HP := Lib.hid (fun v u W h1 h2 => dParted v u a b 4 4 W h1 h2 hb0 (by omega) (by omega))
  have HI : Hid (∀ v z N W (_ : Wd W v z N) (_ : I64 z), Calls Try.prog 30 #[v] W fun e w' => e = .returned (.tuple #[.int .i64 z, .bool true]) ∧ Below W.heap.size W w') := by
    intro v z N W h hz
    refine (dInt v z N W h).mono ?_
    rintro e w' ⟨⟨r, rfl, h1⟩, hb⟩
    rw [h1 hz, (fit_yes hz).2]
    exact ⟨rfl, hb⟩
  clear ha hb hd hb0
  go_enter Try.func10, Try.ntmps10
  go_wp2_with (go_at_call 29; (with_reducible refine (H1.out _).mono ?_); rintro e w1 ⟨⟨v1, rfl, hv1⟩, hb1⟩)
  go_wp2_with (go_at_call 29; (with_reducible refine (H2.out _).mono ?_); rintro e w2 ⟨⟨v2, rfl, hv2⟩, hb2⟩; have hv1' := hv1.below hb2)
  go_wp2_with (go_at_call 28; (with_reducible refine (HP.out v1 v2 _ hv1' hv2).mono ?_); rintro e w3 ⟨⟨r1, r2, Q, rfl, hw1, hw2, p1, p2⟩, hb3⟩; obtain ⟨s1, A1, n1, c1, rfl, hw1⟩ := hw1.openS; obtain ⟨s2, A2, n2, c2, rfl, hw2⟩ := hw2.openS)
  have hDR : DivR a b Q (a + -(Q * b)) := ⟨by omega, p1, p2⟩
  generalize a + -(Q * b) = R at *
  obtain ⟨f1, f2⟩ := HF.out Q R hDR
  have HDR := Lib.hid hDR
  clear hDR p1 p2 HF HP H1 H2
  obtain ⟨W4, hW4⟩ : ∃ W4, W4 = (w3.alloc (.cells #[.bool s1, .slice A1 n1 c1] 45)).alloc (.cells #[.bool s2, .slice A2 n2 c2] 45) := ⟨_, rfl⟩
  have x1 : BW W4 w3.heap.size s1 A1 n1 c1 := by rw [hW4]; exact (BW.new w3 s1 A1 n1 c1).up _
  have x2 : BW W4 (w3.heap.size + 1) s2 A2 n2 c2 := by rw [hW4]; exact (by simpa using BW.new (w3.alloc (.cells #[.bool s1, .slice A1 n1 c1] 45)) s2 A2 n2 c2)
  have hb4 : Below w3.heap.size w3 W4 := by rw [hW4]; exact below_al (below_al (Below.refl _ _) _) _
  have hw1 := hw1.below hb4
  have hw2 := hw2.below hb4
  have HI1 := Lib.hid (HI.out _ Q _ _ hw1 f1)
  have HI2 := Lib.hid (fun W (h : Wd W (.agg #[.bool s2, .slice A2 n2 c2]) R 200) => HI.out _ R 200 W h f2)
  clear HI f1 f2
  rw [← hW4]
  clear hW4
  go_wp2_with (go_at_call 30; (with_reducible refine HI1.out.mono ?_); rintro e w5 ⟨rfl, hb5⟩; have x3 := x2.below hb5; have y0 := x3.c0; have y1 := x3.c1)
  go_wp2_with (go_at_call 30; (with_reducible refine (HI2.out _ (hw2.below hb5)).mono ?_); rintro e w6 ⟨rfl, hb6⟩)
  go_ret3
  exact ⟨⟨Q, R, rfl, HDR.out⟩, below_tr (below_tr (below_tr (below_tr (below_tr hb1 hb2) hb3) hb4) hb5) hb6⟩
set_option maxRecDepth 100000 in
set_option maxHeartbeats 4000000 in
theorem dDiv_big (w : World) :
    Calls Try.prog 10 #[.int .i64 (-9223372036854775808), .int .i64 (-1)] w fun e w' => e = .returned (.tuple #[.int .i64 0, .int .i64 0, .bool false]) ∧ Below w.heap.size w w' := by
  have H1 := Lib.hid (fun W => dOf (-9223372036854775808) W (by decide))
  have H2 := Lib.hid (fun W => dOf (-1) W (by decide))
  have HP := Lib.hid (fun v u W h1 h2 => dParted v u (-9223372036854775808) (-1) 4 4 W h1 h2 (by omega) (by omega) (by omega))
  have HB := Lib.hid (fun Q R (h : DivR (-9223372036854775808) (-1) Q R) => h.big)
  have HI := Lib.hid (fun v z N W (h : Wd W v z N) => dInt v z N W h)
  go_enter Try.func10, Try.ntmps10
  go_wp2_with (go_at_call 29; (with_reducible refine (H1.out _).mono ?_); rintro e w1 ⟨⟨v1, rfl, hv1⟩, hb1⟩)
  go_wp2_with (go_at_call 29; (with_reducible refine (H2.out _).mono ?_); rintro e w2 ⟨⟨v2, rfl, hv2⟩, hb2⟩; have hv1' := hv1.below hb2)
  go_wp2_with (go_at_call 28; (with_reducible refine (HP.out v1 v2 _ hv1' hv2).mono ?_); rintro e w3 ⟨⟨r1, r2, Q, rfl, hw1, hw2, p1, p2⟩, hb3⟩; obtain ⟨s1, A1, n1, c1, rfl, hw1⟩ := hw1.openS; obtain ⟨s2, A2, n2, c2, rfl, hw2⟩ := hw2.openS)
  have hDR : DivR (-9223372036854775808) (-1) Q (-9223372036854775808 + -(Q * -1)) := ⟨by omega, p1, p2⟩
  have hno := HB.out Q _ hDR
  have HF := Lib.hid (fit_no hno).2
  generalize -9223372036854775808 + -(Q * -1) = R at *
  clear hDR p1 p2 HB HP H1 H2 hno
  obtain ⟨W4, hW4⟩ : ∃ W4, W4 = (w3.alloc (.cells #[.bool s1, .slice A1 n1 c1] 45)).alloc (.cells #[.bool s2, .slice A2 n2 c2] 45) := ⟨_, rfl⟩
  have x1 : BW W4 w3.heap.size s1 A1 n1 c1 := by rw [hW4]; exact (BW.new w3 s1 A1 n1 c1).up _
  have x2 : BW W4 (w3.heap.size + 1) s2 A2 n2 c2 := by rw [hW4]; exact (by simpa using BW.new (w3.alloc (.cells #[.bool s1, .slice A1 n1 c1] 45)) s2 A2 n2 c2)
  have hb4 : Below w3.heap.size w3 W4 := by rw [hW4]; exact below_al (below_al (Below.refl _ _) _) _
  have hw1 := hw1.below hb4
  have hw2 := hw2.below hb4
  have HI1 := Lib.hid (HI.out _ Q _ _ hw1)
  have HI2 := Lib.hid (fun W (h : Wd W (.agg #[.bool s2, .slice A2 n2 c2]) R 200) => HI.out _ R 200 W h)
  unfold IntR at HI1 HI2
  rw [HF.out] at HI1
  clear HI HF
  rw [← hW4]
  clear hW4
  go_wp2_with (go_at_call 30; (with_reducible refine HI1.out.mono ?_); rintro e w5 ⟨⟨q5, rfl, hq5⟩, hb5⟩; clear hq5; have x3 := x2.below hb5; have y0 := x3.c0; have y1 := x3.c1)
  go_wp2_with (go_at_call 30; (with_reducible refine (HI2.out _ (hw2.below hb5)).mono ?_); rintro e w6 ⟨⟨q6, rfl, hq6⟩, hb6⟩; clear hq6)
  go_ret3
  exact ⟨rfl, below_tr (below_tr (below_tr (below_tr (below_tr hb1 hb2) hb3) hb4) hb5) hb6⟩
set_option maxRecDepth 100000 in
set_option maxHeartbeats 4000000 in
theorem dMulDiv (a b c : Int) (w : World) (ha : I64 a) (hb : I64 b) (hc : I64 c) (hc1 : 1 ≤ c) :
    Calls Try.prog 12 #[.int .i64 a, .int .i64 b, .int .i64 c] w fun e w' => e = .returned (.tuple #[.int .i64 (fitV (a * b / c)), .bool (fitB (a * b / c))]) ∧ Below w.heap.size w w' := by
  have H1 := Lib.hid (fun W => dOf a W ha)
  have H2 := Lib.hid (fun W => dOf b W hb)
  have H3 := Lib.hid (fun W => dOf c W hc)
  have HP := Lib.hid (fun v u N W h1 h2 (hN : N ≤ 20) => dParted v u (a * b) c N 4 W h1 h2 (by omega) hN (by omega))
  have HT := Lib.hid (fun v N W h => dtold v (a * b / c) N W h)
  generalize hfv : fitV (a * b / c) = fv at *
  generalize hfb : fitB (a * b / c) = fb at *
  clear hfv hfb ha hb hc
  go_enter Try.func12, Try.ntmps12
  go_wp2_with (go_at_call 29; (with_reducible refine (H1.out _).mono ?_); rintro e w1 ⟨⟨v1, rfl, hv1⟩, hb1⟩)
  go_wp2_with (go_at_call 29; (with_reducible refine (H2.out _).mono ?_); rintro e w2 ⟨⟨v2, rfl, hv2⟩, hb2⟩; have hv1' := hv1.below hb2)
  go_wp2_with (go_at_call 34; (with_reducible refine (dTimes v1 v2 a b 4 4 _ hv1' hv2 (by omega) (by omega)).mono ?_); rintro e w7 ⟨⟨v7, rfl, hv7⟩, hb7⟩)
  go_wp2_with (go_at_call 29; (with_reducible refine (H3.out _).mono ?_); rintro e w8 ⟨⟨v8, rfl, hv8⟩, hb8⟩; have hv7' := hv7.below hb8)
  go_wp2_with (go_at_call 28; (with_reducible refine (HP.out v7 v8 _ _ hv7' hv8 (by omega)).mono ?_); rintro e w3 ⟨⟨r1, r2, Q, rfl, hw1, hw2, p1, p2⟩, hb3⟩; obtain ⟨s1, A1, n1, c1, rfl, hw1⟩ := hw1.openS; obtain ⟨s2, A2, n2, c2, rfl, hw2⟩ := hw2.openS)
  have hDR : DivR (a * b) c Q (a * b + -(Q * c)) := ⟨by omega, p1, p2⟩
  have hQ := hDR.floor (by omega)
  rw [hQ] at HT
  clear hDR p1 p2 HP H1 H2 H3 hQ
  obtain ⟨W4, hW4⟩ : ∃ W4, W4 = (w3.alloc (.cells #[.bool s1, .slice A1 n1 c1] 45)).alloc (.cells #[.bool s2, .slice A2 n2 c2] 45) := ⟨_, rfl⟩
  have x1 : BW W4 w3.heap.size s1 A1 n1 c1 := by rw [hW4]; exact (BW.new w3 s1 A1 n1 c1).up _
  have x2 : BW W4 (w3.heap.size + 1) s2 A2 n2 c2 := by rw [hW4]; exact (by simpa using BW.new (w3.alloc (.cells #[.bool s1, .slice A1 n1 c1] 45)) s2 A2 n2 c2)
  have hb4 : Below w3.heap.size w3 W4 := by rw [hW4]; exact below_al (below_al (Below.refl _ _) _) _
  have hw1 := hw1.below hb4
  have HI1 := Lib.hid (HT.out _ _ _ hw1)
  clear HT
  rw [← hW4]
  clear hW4
  go_wp2_with (go_at_call 35; (with_reducible refine HI1.out.mono ?_); rintro e w5 ⟨rfl, hb5⟩)
  go_ret2
  exact ⟨rfl, below_tr (below_tr (below_tr (below_tr (below_tr (below_tr hb1 hb2) hb7) hb8) hb3) hb4) hb5⟩
set_option maxRecDepth 100000 in
theorem dMulDiv_0 (a b c : Int) (w : World) (hc : c < 1) : Calls Try.prog 12 #[.int .i64 a, .int .i64 b, .int .i64 c] w fun e w' => e = .returned (.tuple #[.int .i64 0, .bool false]) ∧ w = w' := by
  go_enter Try.func12, Try.ntmps12
  go_wp2
  go_ret2
  exact ⟨rfl, rfl⟩
end Go.Proofs.Ytkebkmjffbnihaa
