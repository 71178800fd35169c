/- Package event: Good, of any event. -/
import Derived.Test.YtdnddoiemaifjaaEvGood
namespace Go.Proofs.Ytdnddoiemaifjaa
open Go.RowKit
theorem ev_new (e : Ev) (w : World) (t : TypeId) : EvAt (w.alloc (.cells (evC e).toArray t)) ⟨w.heap.size, 0, none⟩ e := by
  obtain ⟨e0, e1, e2, e3, e4, e5, e6, e7, e8, e9, e10, e11, e12, e13, e14⟩ := e
  unfold evC
  constructor <;> simp only <;> go_simp
set_option maxRecDepth 100000 in
set_option maxHeartbeats 4000000 in
theorem ctx_eq0 (a0 a1 a2 a3 a4 a5 a6 a7 a8 a9 a10 : Int) (w : World) : (binOp .eql 28 (.agg #[.int .i64 a0, .int .i64 a1, .int .i64 a2, .int .i64 a3, .int .i64 a4, .int .i64 a5, .int .i64 a6, .int .i64 a7, .int .i64 a8, .int .i64 a9, .int .i64 a10]) (.agg #[.int .i64 0, .int .i64 0, .int .i64 0, .int .i64 0, .int .i64 0, .int .i64 0, .int .i64 0, .int .i64 0, .int .i64 0, .int .i64 0, .int .i64 0])).run Try.prog w = .ok (.bool (a0 == 0 && (a1 == 0 && ((a2 == 0 && (a3 == 0 && (a4 == 0 && (a5 == 0 && (a6 == 0 && (a7 == 0 && (a8 == 0 && a9 == 0))))))) && a10 == 0)))) w := by
  have z : ∀ w, (Op.equalIn 9999 26 (.agg #[.int .i64 a2, .int .i64 a3, .int .i64 a4, .int .i64 a5, .int .i64 a6, .int .i64 a7, .int .i64 a8, .int .i64 a9]) (.agg #[.int .i64 0, .int .i64 0, .int .i64 0, .int .i64 0, .int .i64 0, .int .i64 0, .int .i64 0, .int .i64 0])).run Try.prog w = _ := fun w => eqRegs0 9997 a2 a3 a4 a5 a6 a7 a8 a9 w
  generalize (a2 == 0 && (a3 == 0 && (a4 == 0 && (a5 == 0 && (a6 == 0 && (a7 == 0 && (a8 == 0 && a9 == 0))))))) = q at z ⊢
  cases h0 : a0 == 0
  · go_simp
  · cases h1 : a1 == 0
    · go_simp
    · cases q
      · go_simp
      · cases h10 : a10 == 0
        · go_simp
        · go_simp
set_option maxRecDepth 100000 in
set_option maxHeartbeats 16000000 in
theorem egood (e : Ev) (w : World) : Calls Try.prog 18 #[evV e] w fun x w' => x = .returned (.bool (goodB e)) ∧ Below w.heap.size w w' := by
  obtain ⟨e0, e1, e2, e3, e4, e5, e6, e7, e8, e9, e10, e11, e12, e13, e14⟩ := e
  have HE := Lib.hid (ev_new ⟨e0, e1, e2, e3, e4, e5, e6, e7, e8, e9, e10, e11, e12, e13, e14⟩ w 30)
  have HT := Lib.hid (fun W => etells e0 W)
  have H1 := Lib.hid (fun W => ein (tA e0) e1 1 1099511627776 W)
  have H2 := Lib.hid (fun W => ein (tT e0) e2 1 1099511627776 W)
  have H3 := Lib.hid (fun W => ein (tV e0) e3 0 1000 W)
  have HF := Lib.hid (fun W => efits e4 e5 e6 e7 e8 e9 e10 e11 e12 e13 e14 W)
  have HC := Lib.hid (fun W => ctx_eq0 e4 e5 e6 e7 e8 e9 e10 e11 e12 e13 e14 W)
  have HAL : Hid (Below w.heap.size w (w.alloc (.cells #[.int .i64 e0, .int .i64 e1, .int .i64 e2, .int .i64 e3, .int .i64 e4, .int .i64 e5, .int .i64 e6, .int .i64 e7, .int .i64 e8, .int .i64 e9, .int .i64 e10, .int .i64 e11, .int .i64 e12, .int .i64 e13, .int .i64 e14] 30))) := below_al (Below.refl _ _) _
  unfold goodB fitsB ctx0 evV
  unfold evC at HE
  simp only at HE ⊢
  generalize inB (tA e0) e1 1 1099511627776 = b1 at H1 ⊢
  generalize inB (tT e0) e2 1 1099511627776 = b2 at H2 ⊢
  generalize inB (tV e0) e3 0 1000 = b3 at H3 ⊢
  generalize (inB true e4 0 7 && inB true e5 0 64 && inB true e14 0 8) = bf at HF ⊢
  generalize (e4 == 0 && (e5 == 0 && ((e6 == 0 && (e7 == 0 && (e8 == 0 && (e9 == 0 && (e10 == 0 && (e11 == 0 && (e12 == 0 && e13 == 0))))))) && e14 == 0))) = bx at HC ⊢
  generalize tK e0 = b0 at HT ⊢
  generalize tC e0 = bc at HT ⊢
  generalize tA e0 = ta at HT H1
  generalize tT e0 = tt at HT H2
  generalize tV e0 = tv at HT H3
  cases b0
  · simp only [Bool.false_and]
    go_enter Try.func18, Try.ntmps18
    go_wp2_with (first
      | (go_at_call 39; (with_reducible refine (HT.out _).mono ?_); rintro e w1 ⟨rfl, hb1⟩; obtain ⟨z0, z1, z2, z3, z4, z5, z6, z7, z8, z9, z10, z11, z12, z13, z14⟩ := (HE.out.below hb1).below (below_al (Below.refl _ _) (.cells #[.bool ta, .bool tt, .bool tv, .bool bc] 68)); simp only at z0 z1 z2 z3 z4 z5 z6 z7 z8 z9 z10 z11 z12 z13 z14; have hcx := HC.out; have hbl := HAL.out.size)
      | (go_at_call 40; (with_reducible refine (H1.out _).mono ?_); rintro e w' ⟨rfl, rfl⟩)
      | (go_at_call 40; (with_reducible refine (H2.out _).mono ?_); rintro e w' ⟨rfl, rfl⟩)
      | (go_at_call 40; (with_reducible refine (H3.out _).mono ?_); rintro e w' ⟨rfl, rfl⟩)
      | (go_at_call 41; (with_reducible refine (HF.out _).mono ?_); rintro e w4 ⟨rfl, hb4⟩))
    go_ret
    exact ⟨rfl, below_al (below_then HAL.out HAL.out.size hb1) _⟩
  cases b1
  · simp only [Bool.true_and, Bool.false_and]
    go_enter Try.func18, Try.ntmps18
    go_wp2_with (first
      | (go_at_call 39; (with_reducible refine (HT.out _).mono ?_); rintro e w1 ⟨rfl, hb1⟩; obtain ⟨z0, z1, z2, z3, z4, z5, z6, z7, z8, z9, z10, z11, z12, z13, z14⟩ := (HE.out.below hb1).below (below_al (Below.refl _ _) (.cells #[.bool ta, .bool tt, .bool tv, .bool bc] 68)); simp only at z0 z1 z2 z3 z4 z5 z6 z7 z8 z9 z10 z11 z12 z13 z14; have hcx := HC.out; have hbl := HAL.out.size)
      | (go_at_call 40; (with_reducible refine (H1.out _).mono ?_); rintro e w' ⟨rfl, rfl⟩)
      | (go_at_call 40; (with_reducible refine (H2.out _).mono ?_); rintro e w' ⟨rfl, rfl⟩)
      | (go_at_call 40; (with_reducible refine (H3.out _).mono ?_); rintro e w' ⟨rfl, rfl⟩)
      | (go_at_call 41; (with_reducible refine (HF.out _).mono ?_); rintro e w4 ⟨rfl, hb4⟩))
    go_ret
    exact ⟨rfl, below_al (below_then HAL.out HAL.out.size hb1) _⟩
  cases b2
  · simp only [Bool.true_and, Bool.false_and]
    go_enter Try.func18, Try.ntmps18
    go_wp2_with (first
      | (go_at_call 39; (with_reducible refine (HT.out _).mono ?_); rintro e w1 ⟨rfl, hb1⟩; obtain ⟨z0, z1, z2, z3, z4, z5, z6, z7, z8, z9, z10, z11, z12, z13, z14⟩ := (HE.out.below hb1).below (below_al (Below.refl _ _) (.cells #[.bool ta, .bool tt, .bool tv, .bool bc] 68)); simp only at z0 z1 z2 z3 z4 z5 z6 z7 z8 z9 z10 z11 z12 z13 z14; have hcx := HC.out; have hbl := HAL.out.size)
      | (go_at_call 40; (with_reducible refine (H1.out _).mono ?_); rintro e w' ⟨rfl, rfl⟩)
      | (go_at_call 40; (with_reducible refine (H2.out _).mono ?_); rintro e w' ⟨rfl, rfl⟩)
      | (go_at_call 40; (with_reducible refine (H3.out _).mono ?_); rintro e w' ⟨rfl, rfl⟩)
      | (go_at_call 41; (with_reducible refine (HF.out _).mono ?_); rintro e w4 ⟨rfl, hb4⟩))
    go_ret
    exact ⟨rfl, below_al (below_then HAL.out HAL.out.size hb1) _⟩
  cases b3
  · simp only [Bool.true_and, Bool.false_and]
    go_enter Try.func18, Try.ntmps18
    go_wp2_with (first
      | (go_at_call 39; (with_reducible refine (HT.out _).mono ?_); rintro e w1 ⟨rfl, hb1⟩; obtain ⟨z0, z1, z2, z3, z4, z5, z6, z7, z8, z9, z10, z11, z12, z13, z14⟩ := (HE.out.below hb1).below (below_al (Below.refl _ _) (.cells #[.bool ta, .bool tt, .bool tv, .bool bc] 68)); simp only at z0 z1 z2 z3 z4 z5 z6 z7 z8 z9 z10 z11 z12 z13 z14; have hcx := HC.out; have hbl := HAL.out.size)
      | (go_at_call 40; (with_reducible refine (H1.out _).mono ?_); rintro e w' ⟨rfl, rfl⟩)
      | (go_at_call 40; (with_reducible refine (H2.out _).mono ?_); rintro e w' ⟨rfl, rfl⟩)
      | (go_at_call 40; (with_reducible refine (H3.out _).mono ?_); rintro e w' ⟨rfl, rfl⟩)
      | (go_at_call 41; (with_reducible refine (HF.out _).mono ?_); rintro e w4 ⟨rfl, hb4⟩))
    go_ret
    exact ⟨rfl, below_al (below_then HAL.out HAL.out.size hb1) _⟩
  cases bc
  · simp only [Bool.true_and, if_false, Bool.false_eq_true]
    go_enter Try.func18, Try.ntmps18
    go_wp2_with (first
      | (go_at_call 39; (with_reducible refine (HT.out _).mono ?_); rintro e w1 ⟨rfl, hb1⟩; obtain ⟨z0, z1, z2, z3, z4, z5, z6, z7, z8, z9, z10, z11, z12, z13, z14⟩ := (HE.out.below hb1).below (below_al (Below.refl _ _) (.cells #[.bool ta, .bool tt, .bool tv, .bool false] 68)); simp only at z0 z1 z2 z3 z4 z5 z6 z7 z8 z9 z10 z11 z12 z13 z14; have hcx := HC.out; have hbl := HAL.out.size)
      | (go_at_call 40; (with_reducible refine (H1.out _).mono ?_); rintro e w' ⟨rfl, rfl⟩)
      | (go_at_call 40; (with_reducible refine (H2.out _).mono ?_); rintro e w' ⟨rfl, rfl⟩)
      | (go_at_call 40; (with_reducible refine (H3.out _).mono ?_); rintro e w' ⟨rfl, rfl⟩)
      | (go_at_call 41; (with_reducible refine (HF.out _).mono ?_); rintro e w4 ⟨rfl, hb4⟩))
    go_ret
    exact ⟨rfl, below_al (below_then HAL.out HAL.out.size hb1) _⟩
  · simp only [Bool.true_and, if_true]
    go_enter Try.func18, Try.ntmps18
    go_wp2_with (first
      | (go_at_call 39; (with_reducible refine (HT.out _).mono ?_); rintro e w1 ⟨rfl, hb1⟩; obtain ⟨z0, z1, z2, z3, z4, z5, z6, z7, z8, z9, z10, z11, z12, z13, z14⟩ := (HE.out.below hb1).below (below_al (Below.refl _ _) (.cells #[.bool ta, .bool tt, .bool tv, .bool true] 68)); simp only at z0 z1 z2 z3 z4 z5 z6 z7 z8 z9 z10 z11 z12 z13 z14; have hcx := HC.out; have hbl := HAL.out.size)
      | (go_at_call 40; (with_reducible refine (H1.out _).mono ?_); rintro e w' ⟨rfl, rfl⟩)
      | (go_at_call 40; (with_reducible refine (H2.out _).mono ?_); rintro e w' ⟨rfl, rfl⟩)
      | (go_at_call 40; (with_reducible refine (H3.out _).mono ?_); rintro e w' ⟨rfl, rfl⟩)
      | (go_at_call 41; (with_reducible refine (HF.out _).mono ?_); rintro e w4 ⟨rfl, hb4⟩))
    go_ret
    exact ⟨rfl, below_then (below_al (below_then HAL.out HAL.out.size hb1) _) (by have := (below_al (below_then HAL.out HAL.out.size hb1) (.cells #[.bool ta, .bool tt, .bool tv, .bool true] 68)).size; exact this) hb4⟩
end Go.Proofs.Ytdnddoiemaifjaa
