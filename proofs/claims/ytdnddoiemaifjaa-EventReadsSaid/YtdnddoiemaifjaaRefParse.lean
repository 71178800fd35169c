/- The reference's Parse of any bytes. -/
import Derived.Test.YtdnddoiemaifjaaOneAny
import Derived.Test.YtdnddoiemaifjaaParse0
import Derived.Test.YtdnddoiemaifjaaRefGood2
namespace Go.Proofs.Ytdnddoiemaifjaa
open Go.RowKit
set_option maxRecDepth 100000 in
set_option maxHeartbeats 16000000 in
theorem rparse_short (A : Option Addr) (n c : Nat) (bs : List Int) (w : World) (hr : Rds w 1 A n c (nums .u8 bs)) (hn : n ≤ 100000) (hu : U8s bs) (e0 e1 e2 e3 e4 e5 e6 e7 e8 e9 e10 e11 e12 e13 e14 : Int) (rest : List Int) (er : Int) (hm : nextM bs = ((⟨e0, e1, e2, e3, e4, e5, e6, e7, e8, e9, e10, e11, e12, e13, e14⟩ : Ev), rest, er)) (h9 : er = 9) :
    Calls Try.prog 15 #[.slice A n c] w fun e w' => e = .returned (.tuple #[evV ev00, .int .i64 0, .int .i64 9]) ∧ Below w.heap.size w w' := by
  have hal : Below w.heap.size w (w.alloc (.cells #[.int .i64 0, .int .i64 0, .int .i64 0, .int .i64 0, .int .i64 0, .int .i64 0, .int .i64 0, .int .i64 0, .int .i64 0, .int .i64 0, .int .i64 0, .int .i64 0, .int .i64 0, .int .i64 0, .int .i64 0] 30)) := below_al (Below.refl _ _) _
  have HAL := Lib.hid hal
  have hrs0 : EvBox (w.alloc (.cells #[.int .i64 0, .int .i64 0, .int .i64 0, .int .i64 0, .int .i64 0, .int .i64 0, .int .i64 0, .int .i64 0, .int .i64 0, .int .i64 0, .int .i64 0, .int .i64 0, .int .i64 0, .int .i64 0, .int .i64 0] 30)) w.heap.size ev00 := by
    have := EvBox.new w ev00 30
    simpa [evC, ev00] using this
  have HRS := Lib.hid hrs0
  have HRD := Lib.hid (refRead A n c bs _ (hr.below hal) (by omega))
  have hbl := rds_len hr
  have HBL := Lib.hid hbl
  have hN : ∀ L B b W, RSrc L B W b bs 0 → B ≤ W.heap.size → Calls Try.prog 33 #[.pointer (some ⟨b, 0, none⟩)] W fun e w' => (∃ f0 f1 f2 f3 f4 f5 f6 f7 f8 f9 f10 f11 f12 f13 f14 : Int, e = .returned (.agg #[.int .i64 f0, .int .i64 f1, .int .i64 f2, .int .i64 f3, .int .i64 f4, .int .i64 f5, .int .i64 f6, .int .i64 f7, .int .i64 f8, .int .i64 f9, .int .i64 f10, .int .i64 f11, .int .i64 f12, .int .i64 f13, .int .i64 f14])) ∧ Chg (fun k => k = b) W w' ∧ RSrc L B w' b rest 9 := fun L B b W hs hB => by
    have := one_any b bs W hs hB hu (by omega)
    rw [hm, h9] at this
    refine this.mono ?_
    rintro e w' ⟨⟨f0, f1, f2, f3, f4, f5, f6, f7, f8, f9, f10, f11, f12, f13, f14⟩, rfl, a1, a2, a3, a4, a5⟩
    exact ⟨⟨f0, f1, f2, f3, f4, f5, f6, f7, f8, f9, f10, f11, f12, f13, f14, rfl⟩, a1, a2⟩
  have HN := Lib.hid hN
  have HGD := Lib.hid (fun W => rgood (⟨e0, e1, e2, e3, e4, e5, e6, e7, e8, e9, e10, e11, e12, e13, e14⟩ : Ev) W)
  unfold evV at HGD
  simp only at HGD
  clear hN hal hrs0 hm hbl
  go_enter Try.func15, Try.ntmps15
  go_wp2_with (first
    | (go_at_call 32; (with_reducible refine HRD.out.mono ?_); rintro x w2 ⟨b, rfl, hb, hb2, hs2⟩; have HN2 := Lib.hid (HN.out _ _ b w2 hs2 (Nat.le_refl _)); have hB2 := below_tr HAL.out hb2; have hbw : w.heap.size < b := (by have e := hb; simp at e; omega))
    | (go_at_call 33; (with_reducible refine HN2.out.mono ?_); rintro x w3 ⟨⟨f0, f1, f2, f3, f4, f5, f6, f7, f8, f9, f10, f11, f12, f13, f14, rfl⟩, hc3, hs3⟩; have HB3 := Lib.hid (hc3.toBelow hB2 hB2.size (fun k e => by omega)); have HS4 := Lib.hid (hs3.below (below_al (Below.refl _ _) (.cells #[.int .i64 f0, .int .i64 f1, .int .i64 f2, .int .i64 f3, .int .i64 f4, .int .i64 f5, .int .i64 f6, .int .i64 f7, .int .i64 f8, .int .i64 f9, .int .i64 f10, .int .i64 f11, .int .i64 f12, .int .i64 f13, .int .i64 f14] 30))); have zE := HS4.out.err.cell; have RR := ((HRS.out.below hb2).keep hc3 (by omega)).below (below_al (Below.refl _ _) (.cells #[.int .i64 f0, .int .i64 f1, .int .i64 f2, .int .i64 f3, .int .i64 f4, .int .i64 f5, .int .i64 f6, .int .i64 f7, .int .i64 f8, .int .i64 f9, .int .i64 f10, .int .i64 f11, .int .i64 f12, .int .i64 f13, .int .i64 f14] 30)); have HR4 := Lib.hid RR; have r0 := RR.c0.cell; have q0 := RR.c0.free; have r1 := RR.c1.cell; have q1 := RR.c1.free; have r2 := RR.c2.cell; have q2 := RR.c2.free; have r3 := RR.c3.cell; have q3 := RR.c3.free; have r4 := RR.c4.cell; have q4 := RR.c4.free; have r5 := RR.c5.cell; have q5 := RR.c5.free; have r6 := RR.c6.cell; have q6 := RR.c6.free; have r7 := RR.c7.cell; have q7 := RR.c7.free; have r8 := RR.c8.cell; have q8 := RR.c8.free; have r9 := RR.c9.cell; have q9 := RR.c9.free; have r10 := RR.c10.cell; have q10 := RR.c10.free; have r11 := RR.c11.cell; have q11 := RR.c11.free; have r12 := RR.c12.cell; have q12 := RR.c12.free; have r13 := RR.c13.cell; have q13 := RR.c13.free; have r14 := RR.c14.cell; have q14 := RR.c14.free; clear RR)
    | (go_at_call 34; (with_reducible refine (HGD.out _).mono ?_); rintro x w5 ⟨rfl, hb5⟩))
  clear r0 q0 r1 q1 r2 q2 r3 q3 r4 q4 r5 q5 r6 q6 r7 q7 r8 q8 r9 q9 r10 q10 r11 q11 r12 q12 r13 q13 r14 q14
  have RF : EvBox ((((((((((((((((w3.alloc (.cells #[.int .i64 f0, .int .i64 f1, .int .i64 f2, .int .i64 f3, .int .i64 f4, .int .i64 f5, .int .i64 f6, .int .i64 f7, .int .i64 f8, .int .i64 f9, .int .i64 f10, .int .i64 f11, .int .i64 f12, .int .i64 f13, .int .i64 f14] 30)).setCell ⟨w.heap.size, 0, none⟩ (.int .i64 0)).setCell ⟨w.heap.size, 1, none⟩ (.int .i64 0)).setCell ⟨w.heap.size, 2, none⟩ (.int .i64 0)).setCell ⟨w.heap.size, 3, none⟩ (.int .i64 0)).setCell ⟨w.heap.size, 4, none⟩ (.int .i64 0)).setCell ⟨w.heap.size, 5, none⟩ (.int .i64 0)).setCell ⟨w.heap.size, 6, none⟩ (.int .i64 0)).setCell ⟨w.heap.size, 7, none⟩ (.int .i64 0)).setCell ⟨w.heap.size, 8, none⟩ (.int .i64 0)).setCell ⟨w.heap.size, 9, none⟩ (.int .i64 0)).setCell ⟨w.heap.size, 10, none⟩ (.int .i64 0)).setCell ⟨w.heap.size, 11, none⟩ (.int .i64 0)).setCell ⟨w.heap.size, 12, none⟩ (.int .i64 0)).setCell ⟨w.heap.size, 13, none⟩ (.int .i64 0)).setCell ⟨w.heap.size, 14, none⟩ (.int .i64 0)) w.heap.size ev00 := EvBox.all HR4.out ev00
  have CF : Chg (fun k => k = w.heap.size) (w3.alloc (.cells #[.int .i64 f0, .int .i64 f1, .int .i64 f2, .int .i64 f3, .int .i64 f4, .int .i64 f5, .int .i64 f6, .int .i64 f7, .int .i64 f8, .int .i64 f9, .int .i64 f10, .int .i64 f11, .int .i64 f12, .int .i64 f13, .int .i64 f14] 30)) ((((((((((((((((w3.alloc (.cells #[.int .i64 f0, .int .i64 f1, .int .i64 f2, .int .i64 f3, .int .i64 f4, .int .i64 f5, .int .i64 f6, .int .i64 f7, .int .i64 f8, .int .i64 f9, .int .i64 f10, .int .i64 f11, .int .i64 f12, .int .i64 f13, .int .i64 f14] 30)).setCell ⟨w.heap.size, 0, none⟩ (.int .i64 0)).setCell ⟨w.heap.size, 1, none⟩ (.int .i64 0)).setCell ⟨w.heap.size, 2, none⟩ (.int .i64 0)).setCell ⟨w.heap.size, 3, none⟩ (.int .i64 0)).setCell ⟨w.heap.size, 4, none⟩ (.int .i64 0)).setCell ⟨w.heap.size, 5, none⟩ (.int .i64 0)).setCell ⟨w.heap.size, 6, none⟩ (.int .i64 0)).setCell ⟨w.heap.size, 7, none⟩ (.int .i64 0)).setCell ⟨w.heap.size, 8, none⟩ (.int .i64 0)).setCell ⟨w.heap.size, 9, none⟩ (.int .i64 0)).setCell ⟨w.heap.size, 10, none⟩ (.int .i64 0)).setCell ⟨w.heap.size, 11, none⟩ (.int .i64 0)).setCell ⟨w.heap.size, 12, none⟩ (.int .i64 0)).setCell ⟨w.heap.size, 13, none⟩ (.int .i64 0)).setCell ⟨w.heap.size, 14, none⟩ (.int .i64 0)) := evAll_chg (w3.alloc (.cells #[.int .i64 f0, .int .i64 f1, .int .i64 f2, .int .i64 f3, .int .i64 f4, .int .i64 f5, .int .i64 f6, .int .i64 f7, .int .i64 f8, .int .i64 f9, .int .i64 f10, .int .i64 f11, .int .i64 f12, .int .i64 f13, .int .i64 f14] 30)) w.heap.size ev00
  have BF := below_then HB3.out (HB3.out.size) (below_al (Below.refl _ _) (.cells #[.int .i64 f0, .int .i64 f1, .int .i64 f2, .int .i64 f3, .int .i64 f4, .int .i64 f5, .int .i64 f6, .int .i64 f7, .int .i64 f8, .int .i64 f9, .int .i64 f10, .int .i64 f11, .int .i64 f12, .int .i64 f13, .int .i64 f14] 30))
  generalize ((((((((((((((((w3.alloc (.cells #[.int .i64 f0, .int .i64 f1, .int .i64 f2, .int .i64 f3, .int .i64 f4, .int .i64 f5, .int .i64 f6, .int .i64 f7, .int .i64 f8, .int .i64 f9, .int .i64 f10, .int .i64 f11, .int .i64 f12, .int .i64 f13, .int .i64 f14] 30)).setCell ⟨w.heap.size, 0, none⟩ (.int .i64 0)).setCell ⟨w.heap.size, 1, none⟩ (.int .i64 0)).setCell ⟨w.heap.size, 2, none⟩ (.int .i64 0)).setCell ⟨w.heap.size, 3, none⟩ (.int .i64 0)).setCell ⟨w.heap.size, 4, none⟩ (.int .i64 0)).setCell ⟨w.heap.size, 5, none⟩ (.int .i64 0)).setCell ⟨w.heap.size, 6, none⟩ (.int .i64 0)).setCell ⟨w.heap.size, 7, none⟩ (.int .i64 0)).setCell ⟨w.heap.size, 8, none⟩ (.int .i64 0)).setCell ⟨w.heap.size, 9, none⟩ (.int .i64 0)).setCell ⟨w.heap.size, 10, none⟩ (.int .i64 0)).setCell ⟨w.heap.size, 11, none⟩ (.int .i64 0)).setCell ⟨w.heap.size, 12, none⟩ (.int .i64 0)).setCell ⟨w.heap.size, 13, none⟩ (.int .i64 0)).setCell ⟨w.heap.size, 14, none⟩ (.int .i64 0)) = WF at RF CF ⊢
  have DD := RF.at_
  unfold ev00 at DD
  obtain ⟨d0, d1, d2, d3, d4, d5, d6, d7, d8, d9, d10, d11, d12, d13, d14⟩ := DD
  simp only [Nat.zero_add] at d0 d1 d2 d3 d4 d5 d6 d7 d8 d9 d10 d11 d12 d13 d14
  refine bodyPost_ret (v := .tuple #[evV ev00, .int .i64 0, .int .i64 9]) (by simp [results, Try.results15, go_sem, evV, ev00, d0, d1, d2, d3, d4, d5, d6, d7, d8, d9, d10, d11, d12, d13, d14]) rfl ?_
  exact ⟨rfl, CF.toBelow BF BF.size (fun k e => by omega)⟩
set_option maxRecDepth 100000 in
set_option maxHeartbeats 16000000 in
theorem rparse_bad1 (A : Option Addr) (n c : Nat) (bs : List Int) (w : World) (hr : Rds w 1 A n c (nums .u8 bs)) (hn : n ≤ 100000) (hu : U8s bs) (e0 e1 e2 e3 e4 e5 e6 e7 e8 e9 e10 e11 e12 e13 e14 : Int) (rest : List Int) (er : Int) (hm : nextM bs = ((⟨e0, e1, e2, e3, e4, e5, e6, e7, e8, e9, e10, e11, e12, e13, e14⟩ : Ev), rest, er)) (h9 : er ≠ 9) (h0 : er ≠ 0) :
    Calls Try.prog 15 #[.slice A n c] w fun e w' => e = .returned (.tuple #[evV ev00, .int .i64 0, .int .i64 10]) ∧ Below w.heap.size w w' := by
  have hal : Below w.heap.size w (w.alloc (.cells #[.int .i64 0, .int .i64 0, .int .i64 0, .int .i64 0, .int .i64 0, .int .i64 0, .int .i64 0, .int .i64 0, .int .i64 0, .int .i64 0, .int .i64 0, .int .i64 0, .int .i64 0, .int .i64 0, .int .i64 0] 30)) := below_al (Below.refl _ _) _
  have HAL := Lib.hid hal
  have hrs0 : EvBox (w.alloc (.cells #[.int .i64 0, .int .i64 0, .int .i64 0, .int .i64 0, .int .i64 0, .int .i64 0, .int .i64 0, .int .i64 0, .int .i64 0, .int .i64 0, .int .i64 0, .int .i64 0, .int .i64 0, .int .i64 0, .int .i64 0] 30)) w.heap.size ev00 := by
    have := EvBox.new w ev00 30
    simpa [evC, ev00] using this
  have HRS := Lib.hid hrs0
  have HRD := Lib.hid (refRead A n c bs _ (hr.below hal) (by omega))
  have hbl := rds_len hr
  have HBL := Lib.hid hbl
  have hN : ∀ L B b W, RSrc L B W b bs 0 → B ≤ W.heap.size → Calls Try.prog 33 #[.pointer (some ⟨b, 0, none⟩)] W fun e w' => (∃ f0 f1 f2 f3 f4 f5 f6 f7 f8 f9 f10 f11 f12 f13 f14 : Int, e = .returned (.agg #[.int .i64 f0, .int .i64 f1, .int .i64 f2, .int .i64 f3, .int .i64 f4, .int .i64 f5, .int .i64 f6, .int .i64 f7, .int .i64 f8, .int .i64 f9, .int .i64 f10, .int .i64 f11, .int .i64 f12, .int .i64 f13, .int .i64 f14])) ∧ Chg (fun k => k = b) W w' ∧ RSrc L B w' b rest er := fun L B b W hs hB => by
    have := one_any b bs W hs hB hu (by omega)
    rw [hm] at this
    refine this.mono ?_
    rintro e w' ⟨⟨f0, f1, f2, f3, f4, f5, f6, f7, f8, f9, f10, f11, f12, f13, f14⟩, rfl, a1, a2, a3, a4, a5⟩
    exact ⟨⟨f0, f1, f2, f3, f4, f5, f6, f7, f8, f9, f10, f11, f12, f13, f14, rfl⟩, a1, a2⟩
  have HN := Lib.hid hN
  have HGD := Lib.hid (fun W => rgood (⟨e0, e1, e2, e3, e4, e5, e6, e7, e8, e9, e10, e11, e12, e13, e14⟩ : Ev) W)
  unfold evV at HGD
  simp only at HGD
  have hb9 : (er == 9) = false := by simpa using h9
  have hb0 : (er == 0) = false := by simpa using h0
  have hbn : (er != 0) = true := by simpa using h0
  clear h9 h0 hN hal hrs0 hm hbl
  go_enter Try.func15, Try.ntmps15
  go_wp2_with (first
    | (go_at_call 32; (with_reducible refine HRD.out.mono ?_); rintro x w2 ⟨b, rfl, hb, hb2, hs2⟩; have HN2 := Lib.hid (HN.out _ _ b w2 hs2 (Nat.le_refl _)); have hB2 := below_tr HAL.out hb2; have hbw : w.heap.size < b := (by have e := hb; simp at e; omega))
    | (go_at_call 33; (with_reducible refine HN2.out.mono ?_); rintro x w3 ⟨⟨f0, f1, f2, f3, f4, f5, f6, f7, f8, f9, f10, f11, f12, f13, f14, rfl⟩, hc3, hs3⟩; have HB3 := Lib.hid (hc3.toBelow hB2 hB2.size (fun k e => by omega)); have HS4 := Lib.hid (hs3.below (below_al (Below.refl _ _) (.cells #[.int .i64 f0, .int .i64 f1, .int .i64 f2, .int .i64 f3, .int .i64 f4, .int .i64 f5, .int .i64 f6, .int .i64 f7, .int .i64 f8, .int .i64 f9, .int .i64 f10, .int .i64 f11, .int .i64 f12, .int .i64 f13, .int .i64 f14] 30))); have zE := HS4.out.err.cell; have RR := ((HRS.out.below hb2).keep hc3 (by omega)).below (below_al (Below.refl _ _) (.cells #[.int .i64 f0, .int .i64 f1, .int .i64 f2, .int .i64 f3, .int .i64 f4, .int .i64 f5, .int .i64 f6, .int .i64 f7, .int .i64 f8, .int .i64 f9, .int .i64 f10, .int .i64 f11, .int .i64 f12, .int .i64 f13, .int .i64 f14] 30)); have HR4 := Lib.hid RR; have r0 := RR.c0.cell; have q0 := RR.c0.free; have r1 := RR.c1.cell; have q1 := RR.c1.free; have r2 := RR.c2.cell; have q2 := RR.c2.free; have r3 := RR.c3.cell; have q3 := RR.c3.free; have r4 := RR.c4.cell; have q4 := RR.c4.free; have r5 := RR.c5.cell; have q5 := RR.c5.free; have r6 := RR.c6.cell; have q6 := RR.c6.free; have r7 := RR.c7.cell; have q7 := RR.c7.free; have r8 := RR.c8.cell; have q8 := RR.c8.free; have r9 := RR.c9.cell; have q9 := RR.c9.free; have r10 := RR.c10.cell; have q10 := RR.c10.free; have r11 := RR.c11.cell; have q11 := RR.c11.free; have r12 := RR.c12.cell; have q12 := RR.c12.free; have r13 := RR.c13.cell; have q13 := RR.c13.free; have r14 := RR.c14.cell; have q14 := RR.c14.free; clear RR)
    | (go_at_call 34; (with_reducible refine (HGD.out _).mono ?_); rintro x w5 ⟨rfl, hb5⟩))
  clear r0 q0 r1 q1 r2 q2 r3 q3 r4 q4 r5 q5 r6 q6 r7 q7 r8 q8 r9 q9 r10 q10 r11 q11 r12 q12 r13 q13 r14 q14
  have RF : EvBox ((((((((((((((((w3.alloc (.cells #[.int .i64 f0, .int .i64 f1, .int .i64 f2, .int .i64 f3, .int .i64 f4, .int .i64 f5, .int .i64 f6, .int .i64 f7, .int .i64 f8, .int .i64 f9, .int .i64 f10, .int .i64 f11, .int .i64 f12, .int .i64 f13, .int .i64 f14] 30)).setCell ⟨w.heap.size, 0, none⟩ (.int .i64 0)).setCell ⟨w.heap.size, 1, none⟩ (.int .i64 0)).setCell ⟨w.heap.size, 2, none⟩ (.int .i64 0)).setCell ⟨w.heap.size, 3, none⟩ (.int .i64 0)).setCell ⟨w.heap.size, 4, none⟩ (.int .i64 0)).setCell ⟨w.heap.size, 5, none⟩ (.int .i64 0)).setCell ⟨w.heap.size, 6, none⟩ (.int .i64 0)).setCell ⟨w.heap.size, 7, none⟩ (.int .i64 0)).setCell ⟨w.heap.size, 8, none⟩ (.int .i64 0)).setCell ⟨w.heap.size, 9, none⟩ (.int .i64 0)).setCell ⟨w.heap.size, 10, none⟩ (.int .i64 0)).setCell ⟨w.heap.size, 11, none⟩ (.int .i64 0)).setCell ⟨w.heap.size, 12, none⟩ (.int .i64 0)).setCell ⟨w.heap.size, 13, none⟩ (.int .i64 0)).setCell ⟨w.heap.size, 14, none⟩ (.int .i64 0)) w.heap.size ev00 := EvBox.all HR4.out ev00
  have CF : Chg (fun k => k = w.heap.size) (w3.alloc (.cells #[.int .i64 f0, .int .i64 f1, .int .i64 f2, .int .i64 f3, .int .i64 f4, .int .i64 f5, .int .i64 f6, .int .i64 f7, .int .i64 f8, .int .i64 f9, .int .i64 f10, .int .i64 f11, .int .i64 f12, .int .i64 f13, .int .i64 f14] 30)) ((((((((((((((((w3.alloc (.cells #[.int .i64 f0, .int .i64 f1, .int .i64 f2, .int .i64 f3, .int .i64 f4, .int .i64 f5, .int .i64 f6, .int .i64 f7, .int .i64 f8, .int .i64 f9, .int .i64 f10, .int .i64 f11, .int .i64 f12, .int .i64 f13, .int .i64 f14] 30)).setCell ⟨w.heap.size, 0, none⟩ (.int .i64 0)).setCell ⟨w.heap.size, 1, none⟩ (.int .i64 0)).setCell ⟨w.heap.size, 2, none⟩ (.int .i64 0)).setCell ⟨w.heap.size, 3, none⟩ (.int .i64 0)).setCell ⟨w.heap.size, 4, none⟩ (.int .i64 0)).setCell ⟨w.heap.size, 5, none⟩ (.int .i64 0)).setCell ⟨w.heap.size, 6, none⟩ (.int .i64 0)).setCell ⟨w.heap.size, 7, none⟩ (.int .i64 0)).setCell ⟨w.heap.size, 8, none⟩ (.int .i64 0)).setCell ⟨w.heap.size, 9, none⟩ (.int .i64 0)).setCell ⟨w.heap.size, 10, none⟩ (.int .i64 0)).setCell ⟨w.heap.size, 11, none⟩ (.int .i64 0)).setCell ⟨w.heap.size, 12, none⟩ (.int .i64 0)).setCell ⟨w.heap.size, 13, none⟩ (.int .i64 0)).setCell ⟨w.heap.size, 14, none⟩ (.int .i64 0)) := evAll_chg (w3.alloc (.cells #[.int .i64 f0, .int .i64 f1, .int .i64 f2, .int .i64 f3, .int .i64 f4, .int .i64 f5, .int .i64 f6, .int .i64 f7, .int .i64 f8, .int .i64 f9, .int .i64 f10, .int .i64 f11, .int .i64 f12, .int .i64 f13, .int .i64 f14] 30)) w.heap.size ev00
  have BF := below_then HB3.out (HB3.out.size) (below_al (Below.refl _ _) (.cells #[.int .i64 f0, .int .i64 f1, .int .i64 f2, .int .i64 f3, .int .i64 f4, .int .i64 f5, .int .i64 f6, .int .i64 f7, .int .i64 f8, .int .i64 f9, .int .i64 f10, .int .i64 f11, .int .i64 f12, .int .i64 f13, .int .i64 f14] 30))
  generalize ((((((((((((((((w3.alloc (.cells #[.int .i64 f0, .int .i64 f1, .int .i64 f2, .int .i64 f3, .int .i64 f4, .int .i64 f5, .int .i64 f6, .int .i64 f7, .int .i64 f8, .int .i64 f9, .int .i64 f10, .int .i64 f11, .int .i64 f12, .int .i64 f13, .int .i64 f14] 30)).setCell ⟨w.heap.size, 0, none⟩ (.int .i64 0)).setCell ⟨w.heap.size, 1, none⟩ (.int .i64 0)).setCell ⟨w.heap.size, 2, none⟩ (.int .i64 0)).setCell ⟨w.heap.size, 3, none⟩ (.int .i64 0)).setCell ⟨w.heap.size, 4, none⟩ (.int .i64 0)).setCell ⟨w.heap.size, 5, none⟩ (.int .i64 0)).setCell ⟨w.heap.size, 6, none⟩ (.int .i64 0)).setCell ⟨w.heap.size, 7, none⟩ (.int .i64 0)).setCell ⟨w.heap.size, 8, none⟩ (.int .i64 0)).setCell ⟨w.heap.size, 9, none⟩ (.int .i64 0)).setCell ⟨w.heap.size, 10, none⟩ (.int .i64 0)).setCell ⟨w.heap.size, 11, none⟩ (.int .i64 0)).setCell ⟨w.heap.size, 12, none⟩ (.int .i64 0)).setCell ⟨w.heap.size, 13, none⟩ (.int .i64 0)).setCell ⟨w.heap.size, 14, none⟩ (.int .i64 0)) = WF at RF CF ⊢
  have DD := RF.at_
  unfold ev00 at DD
  obtain ⟨d0, d1, d2, d3, d4, d5, d6, d7, d8, d9, d10, d11, d12, d13, d14⟩ := DD
  simp only [Nat.zero_add] at d0 d1 d2 d3 d4 d5 d6 d7 d8 d9 d10 d11 d12 d13 d14
  refine bodyPost_ret (v := .tuple #[evV ev00, .int .i64 0, .int .i64 10]) (by simp [results, Try.results15, go_sem, evV, ev00, d0, d1, d2, d3, d4, d5, d6, d7, d8, d9, d10, d11, d12, d13, d14]) rfl ?_
  exact ⟨rfl, CF.toBelow BF BF.size (fun k e => by omega)⟩
set_option maxRecDepth 100000 in
set_option maxHeartbeats 16000000 in
theorem rparse_bad3 (A : Option Addr) (n c : Nat) (bs : List Int) (w : World) (hr : Rds w 1 A n c (nums .u8 bs)) (hn : n ≤ 100000) (hu : U8s bs) (e0 e1 e2 e3 e4 e5 e6 e7 e8 e9 e10 e11 e12 e13 e14 : Int) (rest : List Int) (er : Int) (hm : nextM bs = ((⟨e0, e1, e2, e3, e4, e5, e6, e7, e8, e9, e10, e11, e12, e13, e14⟩ : Ev), rest, er)) (h0 : er = 0) (hgood : goodB (⟨e0, e1, e2, e3, e4, e5, e6, e7, e8, e9, e10, e11, e12, e13, e14⟩ : Ev) = false) :
    Calls Try.prog 15 #[.slice A n c] w fun e w' => e = .returned (.tuple #[evV ev00, .int .i64 0, .int .i64 10]) ∧ Below w.heap.size w w' := by
  have hal : Below w.heap.size w (w.alloc (.cells #[.int .i64 0, .int .i64 0, .int .i64 0, .int .i64 0, .int .i64 0, .int .i64 0, .int .i64 0, .int .i64 0, .int .i64 0, .int .i64 0, .int .i64 0, .int .i64 0, .int .i64 0, .int .i64 0, .int .i64 0] 30)) := below_al (Below.refl _ _) _
  have HAL := Lib.hid hal
  have hrs0 : EvBox (w.alloc (.cells #[.int .i64 0, .int .i64 0, .int .i64 0, .int .i64 0, .int .i64 0, .int .i64 0, .int .i64 0, .int .i64 0, .int .i64 0, .int .i64 0, .int .i64 0, .int .i64 0, .int .i64 0, .int .i64 0, .int .i64 0] 30)) w.heap.size ev00 := by
    have := EvBox.new w ev00 30
    simpa [evC, ev00] using this
  have HRS := Lib.hid hrs0
  have HRD := Lib.hid (refRead A n c bs _ (hr.below hal) (by omega))
  have hbl := rds_len hr
  have HBL := Lib.hid hbl
  have hN : ∀ L B b W, RSrc L B W b bs 0 → B ≤ W.heap.size → Calls Try.prog 33 #[.pointer (some ⟨b, 0, none⟩)] W fun e w' => e = .returned (.agg #[.int .i64 e0, .int .i64 e1, .int .i64 e2, .int .i64 e3, .int .i64 e4, .int .i64 e5, .int .i64 e6, .int .i64 e7, .int .i64 e8, .int .i64 e9, .int .i64 e10, .int .i64 e11, .int .i64 e12, .int .i64 e13, .int .i64 e14]) ∧ Chg (fun k => k = b) W w' ∧ RSrc L B w' b rest 0 := fun L B b W hs hB => by
    have := one_any b bs W hs hB hu (by omega)
    rw [hm, h0] at this
    refine this.mono ?_
    rintro e w' ⟨ev, rfl, a1, a2, a3, a4, a5⟩
    rw [a5 rfl]
    exact ⟨rfl, a1, a2⟩
  have HN := Lib.hid hN
  have hgd := fun W => rgood (⟨e0, e1, e2, e3, e4, e5, e6, e7, e8, e9, e10, e11, e12, e13, e14⟩ : Ev) W
  rw [hgood] at hgd
  have HGD := Lib.hid hgd
  unfold evV at HGD
  simp only at HGD
  clear hgd hgood
  clear hN hal hrs0 hm hbl
  go_enter Try.func15, Try.ntmps15
  go_wp2_with (first
    | (go_at_call 32; (with_reducible refine HRD.out.mono ?_); rintro x w2 ⟨b, rfl, hb, hb2, hs2⟩; have HN2 := Lib.hid (HN.out _ _ b w2 hs2 (Nat.le_refl _)); have hB2 := below_tr HAL.out hb2; have hbw : w.heap.size < b := (by have e := hb; simp at e; omega))
    | (go_at_call 33; (with_reducible refine HN2.out.mono ?_); rintro x w3 ⟨rfl, hc3, hs3⟩; have HB3 := Lib.hid (hc3.toBelow hB2 hB2.size (fun k e => by omega)); have HS4 := Lib.hid (hs3.below (below_al (Below.refl _ _) (.cells #[.int .i64 e0, .int .i64 e1, .int .i64 e2, .int .i64 e3, .int .i64 e4, .int .i64 e5, .int .i64 e6, .int .i64 e7, .int .i64 e8, .int .i64 e9, .int .i64 e10, .int .i64 e11, .int .i64 e12, .int .i64 e13, .int .i64 e14] 30))); have zE := HS4.out.err.cell; have RR := ((HRS.out.below hb2).keep hc3 (by omega)).below (below_al (Below.refl _ _) (.cells #[.int .i64 e0, .int .i64 e1, .int .i64 e2, .int .i64 e3, .int .i64 e4, .int .i64 e5, .int .i64 e6, .int .i64 e7, .int .i64 e8, .int .i64 e9, .int .i64 e10, .int .i64 e11, .int .i64 e12, .int .i64 e13, .int .i64 e14] 30)); have HR4 := Lib.hid RR; clear RR)
    | (go_at_call 34; (with_reducible refine (HGD.out _).mono ?_); rintro x w5 ⟨rfl, hb5⟩; have RR := HR4.out.below hb5; have HR6 := Lib.hid RR; have r0 := RR.c0.cell; have q0 := RR.c0.free; have r1 := RR.c1.cell; have q1 := RR.c1.free; have r2 := RR.c2.cell; have q2 := RR.c2.free; have r3 := RR.c3.cell; have q3 := RR.c3.free; have r4 := RR.c4.cell; have q4 := RR.c4.free; have r5 := RR.c5.cell; have q5 := RR.c5.free; have r6 := RR.c6.cell; have q6 := RR.c6.free; have r7 := RR.c7.cell; have q7 := RR.c7.free; have r8 := RR.c8.cell; have q8 := RR.c8.free; have r9 := RR.c9.cell; have q9 := RR.c9.free; have r10 := RR.c10.cell; have q10 := RR.c10.free; have r11 := RR.c11.cell; have q11 := RR.c11.free; have r12 := RR.c12.cell; have q12 := RR.c12.free; have r13 := RR.c13.cell; have q13 := RR.c13.free; have r14 := RR.c14.cell; have q14 := RR.c14.free; clear RR))
  clear r0 q0 r1 q1 r2 q2 r3 q3 r4 q4 r5 q5 r6 q6 r7 q7 r8 q8 r9 q9 r10 q10 r11 q11 r12 q12 r13 q13 r14 q14
  have RF : EvBox (((((((((((((((w5.setCell ⟨w.heap.size, 0, none⟩ (.int .i64 0)).setCell ⟨w.heap.size, 1, none⟩ (.int .i64 0)).setCell ⟨w.heap.size, 2, none⟩ (.int .i64 0)).setCell ⟨w.heap.size, 3, none⟩ (.int .i64 0)).setCell ⟨w.heap.size, 4, none⟩ (.int .i64 0)).setCell ⟨w.heap.size, 5, none⟩ (.int .i64 0)).setCell ⟨w.heap.size, 6, none⟩ (.int .i64 0)).setCell ⟨w.heap.size, 7, none⟩ (.int .i64 0)).setCell ⟨w.heap.size, 8, none⟩ (.int .i64 0)).setCell ⟨w.heap.size, 9, none⟩ (.int .i64 0)).setCell ⟨w.heap.size, 10, none⟩ (.int .i64 0)).setCell ⟨w.heap.size, 11, none⟩ (.int .i64 0)).setCell ⟨w.heap.size, 12, none⟩ (.int .i64 0)).setCell ⟨w.heap.size, 13, none⟩ (.int .i64 0)).setCell ⟨w.heap.size, 14, none⟩ (.int .i64 0)) w.heap.size ev00 := EvBox.all HR6.out ev00
  have CF : Chg (fun k => k = w.heap.size) w5 (((((((((((((((w5.setCell ⟨w.heap.size, 0, none⟩ (.int .i64 0)).setCell ⟨w.heap.size, 1, none⟩ (.int .i64 0)).setCell ⟨w.heap.size, 2, none⟩ (.int .i64 0)).setCell ⟨w.heap.size, 3, none⟩ (.int .i64 0)).setCell ⟨w.heap.size, 4, none⟩ (.int .i64 0)).setCell ⟨w.heap.size, 5, none⟩ (.int .i64 0)).setCell ⟨w.heap.size, 6, none⟩ (.int .i64 0)).setCell ⟨w.heap.size, 7, none⟩ (.int .i64 0)).setCell ⟨w.heap.size, 8, none⟩ (.int .i64 0)).setCell ⟨w.heap.size, 9, none⟩ (.int .i64 0)).setCell ⟨w.heap.size, 10, none⟩ (.int .i64 0)).setCell ⟨w.heap.size, 11, none⟩ (.int .i64 0)).setCell ⟨w.heap.size, 12, none⟩ (.int .i64 0)).setCell ⟨w.heap.size, 13, none⟩ (.int .i64 0)).setCell ⟨w.heap.size, 14, none⟩ (.int .i64 0)) := evAll_chg w5 w.heap.size ev00
  have BF := below_then HB3.out (HB3.out.size) (below_tr (below_al (Below.refl _ _) (.cells #[.int .i64 e0, .int .i64 e1, .int .i64 e2, .int .i64 e3, .int .i64 e4, .int .i64 e5, .int .i64 e6, .int .i64 e7, .int .i64 e8, .int .i64 e9, .int .i64 e10, .int .i64 e11, .int .i64 e12, .int .i64 e13, .int .i64 e14] 30)) hb5)
  generalize (((((((((((((((w5.setCell ⟨w.heap.size, 0, none⟩ (.int .i64 0)).setCell ⟨w.heap.size, 1, none⟩ (.int .i64 0)).setCell ⟨w.heap.size, 2, none⟩ (.int .i64 0)).setCell ⟨w.heap.size, 3, none⟩ (.int .i64 0)).setCell ⟨w.heap.size, 4, none⟩ (.int .i64 0)).setCell ⟨w.heap.size, 5, none⟩ (.int .i64 0)).setCell ⟨w.heap.size, 6, none⟩ (.int .i64 0)).setCell ⟨w.heap.size, 7, none⟩ (.int .i64 0)).setCell ⟨w.heap.size, 8, none⟩ (.int .i64 0)).setCell ⟨w.heap.size, 9, none⟩ (.int .i64 0)).setCell ⟨w.heap.size, 10, none⟩ (.int .i64 0)).setCell ⟨w.heap.size, 11, none⟩ (.int .i64 0)).setCell ⟨w.heap.size, 12, none⟩ (.int .i64 0)).setCell ⟨w.heap.size, 13, none⟩ (.int .i64 0)).setCell ⟨w.heap.size, 14, none⟩ (.int .i64 0)) = WF at RF CF ⊢
  have DD := RF.at_
  unfold ev00 at DD
  obtain ⟨d0, d1, d2, d3, d4, d5, d6, d7, d8, d9, d10, d11, d12, d13, d14⟩ := DD
  simp only [Nat.zero_add] at d0 d1 d2 d3 d4 d5 d6 d7 d8 d9 d10 d11 d12 d13 d14
  refine bodyPost_ret (v := .tuple #[evV ev00, .int .i64 0, .int .i64 10]) (by simp [results, Try.results15, go_sem, evV, ev00, d0, d1, d2, d3, d4, d5, d6, d7, d8, d9, d10, d11, d12, d13, d14]) rfl ?_
  exact ⟨rfl, CF.toBelow BF BF.size (fun k e => by omega)⟩
set_option maxRecDepth 100000 in
set_option maxHeartbeats 16000000 in
theorem rparse_good (A : Option Addr) (n c : Nat) (bs : List Int) (w : World) (hr : Rds w 1 A n c (nums .u8 bs)) (hn : n ≤ 100000) (hu : U8s bs) (e0 e1 e2 e3 e4 e5 e6 e7 e8 e9 e10 e11 e12 e13 e14 : Int) (rest : List Int) (er : Int) (hm : nextM bs = ((⟨e0, e1, e2, e3, e4, e5, e6, e7, e8, e9, e10, e11, e12, e13, e14⟩ : Ev), rest, er)) (h0 : er = 0) (hgood : goodB (⟨e0, e1, e2, e3, e4, e5, e6, e7, e8, e9, e10, e11, e12, e13, e14⟩ : Ev) = true) :
    Calls Try.prog 15 #[.slice A n c] w fun e w' => e = .returned (.tuple #[evV (⟨e0, e1, e2, e3, e4, e5, e6, e7, e8, e9, e10, e11, e12, e13, e14⟩ : Ev), .int .i64 ((bs.length : Int) - (rest.length : Int)), .int .i64 0]) ∧ Below w.heap.size w w' := by
  have hal : Below w.heap.size w (w.alloc (.cells #[.int .i64 0, .int .i64 0, .int .i64 0, .int .i64 0, .int .i64 0, .int .i64 0, .int .i64 0, .int .i64 0, .int .i64 0, .int .i64 0, .int .i64 0, .int .i64 0, .int .i64 0, .int .i64 0, .int .i64 0] 30)) := below_al (Below.refl _ _) _
  have HAL := Lib.hid hal
  have hrs0 : EvBox (w.alloc (.cells #[.int .i64 0, .int .i64 0, .int .i64 0, .int .i64 0, .int .i64 0, .int .i64 0, .int .i64 0, .int .i64 0, .int .i64 0, .int .i64 0, .int .i64 0, .int .i64 0, .int .i64 0, .int .i64 0, .int .i64 0] 30)) w.heap.size ev00 := by
    have := EvBox.new w ev00 30
    simpa [evC, ev00] using this
  have HRS := Lib.hid hrs0
  have HRD := Lib.hid (refRead A n c bs _ (hr.below hal) (by omega))
  have hbl := rds_len hr
  have HBL := Lib.hid hbl
  have hN : ∀ L B b W, RSrc L B W b bs 0 → B ≤ W.heap.size → Calls Try.prog 33 #[.pointer (some ⟨b, 0, none⟩)] W fun e w' => e = .returned (.agg #[.int .i64 e0, .int .i64 e1, .int .i64 e2, .int .i64 e3, .int .i64 e4, .int .i64 e5, .int .i64 e6, .int .i64 e7, .int .i64 e8, .int .i64 e9, .int .i64 e10, .int .i64 e11, .int .i64 e12, .int .i64 e13, .int .i64 e14]) ∧ Chg (fun k => k = b) W w' ∧ RSrc L B w' b rest 0 := fun L B b W hs hB => by
    have := one_any b bs W hs hB hu (by omega)
    rw [hm, h0] at this
    refine this.mono ?_
    rintro e w' ⟨ev, rfl, a1, a2, a3, a4, a5⟩
    rw [a5 rfl]
    exact ⟨rfl, a1, a2⟩
  have HN := Lib.hid hN
  have hgd := fun W => rgood (⟨e0, e1, e2, e3, e4, e5, e6, e7, e8, e9, e10, e11, e12, e13, e14⟩ : Ev) W
  rw [hgood] at hgd
  have HGD := Lib.hid hgd
  unfold evV at HGD
  simp only at HGD
  clear hgd hgood
  clear hN hal hrs0 hm hbl
  go_enter Try.func15, Try.ntmps15
  go_wp2_with (first
    | (go_at_call 32; (with_reducible refine HRD.out.mono ?_); rintro x w2 ⟨b, rfl, hb, hb2, hs2⟩; have HN2 := Lib.hid (HN.out _ _ b w2 hs2 (Nat.le_refl _)); have hB2 := below_tr HAL.out hb2; have hbw : w.heap.size < b := (by have e := hb; simp at e; omega))
    | (go_at_call 33; (with_reducible refine HN2.out.mono ?_); rintro x w3 ⟨rfl, hc3, hs3⟩; have HB3 := Lib.hid (hc3.toBelow hB2 hB2.size (fun k e => by omega)); have HS4 := Lib.hid (hs3.below (below_al (Below.refl _ _) (.cells #[.int .i64 e0, .int .i64 e1, .int .i64 e2, .int .i64 e3, .int .i64 e4, .int .i64 e5, .int .i64 e6, .int .i64 e7, .int .i64 e8, .int .i64 e9, .int .i64 e10, .int .i64 e11, .int .i64 e12, .int .i64 e13, .int .i64 e14] 30))); have zE := HS4.out.err.cell; have RR := ((HRS.out.below hb2).keep hc3 (by omega)).below (below_al (Below.refl _ _) (.cells #[.int .i64 e0, .int .i64 e1, .int .i64 e2, .int .i64 e3, .int .i64 e4, .int .i64 e5, .int .i64 e6, .int .i64 e7, .int .i64 e8, .int .i64 e9, .int .i64 e10, .int .i64 e11, .int .i64 e12, .int .i64 e13, .int .i64 e14] 30)); have HR4 := Lib.hid RR; clear RR)
    | (go_at_call 34; (with_reducible refine (HGD.out _).mono ?_); rintro x w5 ⟨rfl, hb5⟩; have RR := HR4.out.below hb5; have HR6 := Lib.hid RR; have r0 := RR.c0.cell; have q0 := RR.c0.free; have r1 := RR.c1.cell; have q1 := RR.c1.free; have r2 := RR.c2.cell; have q2 := RR.c2.free; have r3 := RR.c3.cell; have q3 := RR.c3.free; have r4 := RR.c4.cell; have q4 := RR.c4.free; have r5 := RR.c5.cell; have q5 := RR.c5.free; have r6 := RR.c6.cell; have q6 := RR.c6.free; have r7 := RR.c7.cell; have q7 := RR.c7.free; have r8 := RR.c8.cell; have q8 := RR.c8.free; have r9 := RR.c9.cell; have q9 := RR.c9.free; have r10 := RR.c10.cell; have q10 := RR.c10.free; have r11 := RR.c11.cell; have q11 := RR.c11.free; have r12 := RR.c12.cell; have q12 := RR.c12.free; have r13 := RR.c13.cell; have q13 := RR.c13.free; have r14 := RR.c14.cell; have q14 := RR.c14.free; clear RR))
  clear r0 q0 r1 q1 r2 q2 r3 q3 r4 q4 r5 q5 r6 q6 r7 q7 r8 q8 r9 q9 r10 q10 r11 q11 r12 q12 r13 q13 r14 q14
  have BF := below_then HB3.out (HB3.out.size) (below_tr (below_al (Below.refl _ _) (.cells #[.int .i64 e0, .int .i64 e1, .int .i64 e2, .int .i64 e3, .int .i64 e4, .int .i64 e5, .int .i64 e6, .int .i64 e7, .int .i64 e8, .int .i64 e9, .int .i64 e10, .int .i64 e11, .int .i64 e12, .int .i64 e13, .int .i64 e14] 30)) hb5)
  have PB : EvBox w5 w3.heap.size (⟨e0, e1, e2, e3, e4, e5, e6, e7, e8, e9, e10, e11, e12, e13, e14⟩ : Ev) := (EvBox.new w3 (⟨e0, e1, e2, e3, e4, e5, e6, e7, e8, e9, e10, e11, e12, e13, e14⟩ : Ev) _).below hb5
  have hsz3 : w.heap.size < w3.heap.size := by have h1 := hc3.size; have h2 := hb2.size; simp at h2; omega
  have hS5 := HS4.out.below hb5
  have HR7 := Lib.hid HR6.out
  obtain ⟨SA, sn, sc, y1, y2, y3⟩ := hS5.row
  have hrl := rds_len y2
  have hsm : (sn : Int) ≤ 9223372036854775807 := by have h1 := y2.le; have h2 := y2.max; unfold maxLen at h2; omega
  have HRL := Lib.hid hrl
  have hbr : b ≠ w.heap.size := by omega
  clear y2 y3 hrl hbw
  obtain ⟨G, hG⟩ : ∃ G : Option Value → World → Prop, ∀ z W, G z W = (Chg (fun k => k = w.heap.size) w5 W ∧ (z = none → EvBox W w.heap.size ev00) ∧ (z.isSome = true → EvBox W w.heap.size (⟨e0, e1, e2, e3, e4, e5, e6, e7, e8, e9, e10, e11, e12, e13, e14⟩ : Ev))) := ⟨_, fun _ _ => rfl⟩
  obtain ⟨S_, hS_⟩ : ∃ S_ : World → World → Prop, S_ = (Chg (fun k => k = w.heap.size)) := ⟨_, rfl⟩
  have hR_ : ∀ W, S_ W W := by intro W; rw [hS_]; exact Chg.refl _ _
  obtain ⟨T, hT⟩ : ∃ T : Nat → FactS S_, ∀ t_, T t_ = ([FactS.eq (.agg #[.int .i64 e0, .int .i64 e1, .int .i64 e2, .int .i64 e3, .int .i64 e4, .int .i64 e5, .int .i64 e6, .int .i64 e7, .int .i64 e8, .int .i64 e9, .int .i64 e10, .int .i64 e11, .int .i64 e12, .int .i64 e13, .int .i64 e14]), FactS.eq (.slice A n c), FactS.eq (.int .i64 n), FactS.eq (.pointer (some ⟨b, 0, none⟩)), FactS.eq (.pointer (some ⟨b, 0, none⟩)), FactS.eq (.pointer (some ⟨b, 0, none⟩)), FactS.eq (.slice SA sn sc), FactS.eq (.int .i64 sn), FactS.eq (.int .i64 ((n : Int) - sn)), FactS.eq (undef), FactS.eq (.int .i64 ((n : Int) - sn)), FactS.eq (.int .i64 0)] : List (FactS S_)).getD t_ FactS.any := ⟨_, fun _ => rfl⟩
  have hP_ : ∀ i_ v_ (y_ : Nat → Option Value) W_, ([9].contains i_) = false → G (y_ 9) W_ → G (updY y_ i_ v_ 9) W_ := by
    intro i_ v_ y_ W_ hi_ h_
    simp only [List.contains_cons, List.contains_nil, Bool.or_false, beq_eq_false_iff_ne, ne_eq] at hi_
    rw [updY_ne y_ i_ v_ hi_]
    exact h_
  refine region_tabJ [(0, 28), (1, 29), (2, 30), (3, 31), (4, 32), (5, 33), (6, 34), (7, 35), (8, 36), (10, 3), (11, 4)] S_ T (fun y_ W_ => G (y_ 9) W_) (by kernel_rfl) (by kernel_rfl) (by kernel_rfl) (by kernel_rfl) (by kernel_rfl) ?_ ?_ ?_
  · skip
    show G none _
    rw [hG]
    exact ⟨(Chg.refl _ _).drewN 1, fun _ => HR7.out.below (below_dr (Below.refl _ _) 1), fun h => by cases h⟩
  · skip
    refine stepsAll_cons (k := 0) ?_ ?_
    · intro fa fx fW fy hF hN hJ hE K fK
      have hJ : G (fy 9) fW := hJ
      have ev6 : fa.tmps[6]?.getD undef = .pointer (some ⟨w3.heap.size, 0, none⟩) := hF.eo 6 (by kernel_rfl)
      have hJ1 := hJ
      rw [hG] at hJ1
      have y := PB.keep hJ1.1 (by omega)
      have k0 := y.c0.cell
      have k1 := y.c1.cell
      have k2 := y.c2.cell
      have k3 := y.c3.cell
      have k4 := y.c4.cell
      have k5 := y.c5.cell
      have k6 := y.c6.cell
      have k7 := y.c7.cell
      have k8 := y.c8.cell
      have k9 := y.c9.cell
      have k10 := y.c10.cell
      have k11 := y.c11.cell
      have k12 := y.c12.cell
      have k13 := y.c13.cell
      have k14 := y.c14.cell
      simp only at k0 k1 k2 k3 k4 k5 k6 k7 k8 k9 k10 k11 k12 k13 k14
      clear hJ1 y
      refine wpOp_val rfl (wanted_none rfl) ?_ (fK (.agg #[.int .i64 e0, .int .i64 e1, .int .i64 e2, .int .i64 e3, .int .i64 e4, .int .i64 e5, .int .i64 e6, .int .i64 e7, .int .i64 e8, .int .i64 e9, .int .i64 e10, .int .i64 e11, .int .i64 e12, .int .i64 e13, .int .i64 e14]) fW (hR_ fW) (by rw [hT]; exact rfl) (hP_ 0 _ fy fW rfl hJ))
      clear fK hE hF hJ hN
      go_simp
    refine stepsAll_cons (k := 1) ?_ ?_
    · intro fa fx fW fy hF hN hJ hE K fK
      have hJ : G (fy 9) fW := hJ
      have ev0 : fa.tmps[0]?.getD undef = .slice A n c := hF.eo 0 (by kernel_rfl)
      refine wpOp_val rfl (wanted_none rfl) ?_ (fK (.slice A n c) fW (hR_ fW) (by rw [hT]; exact rfl) (hP_ 1 _ fy fW rfl hJ))
      clear fK hE hF hJ hN
      go_simp
    refine stepsAll_cons (k := 2) ?_ ?_
    · intro fa fx fW fy hF hN hJ hE K fK
      have hJ : G (fy 9) fW := hJ
      have q1 : fx 1 = .slice A n c := by have q := (hE ⟨1, .data⟩ (by simp) rfl).2; rw [hT] at q; exact q
      have ev29 : fa.tmps[29]?.getD undef = .slice A n c := (hF.ev 1 29 (by kernel_rfl)).trans q1
      refine wpOp_val rfl (wanted_none rfl) ?_ (fK (.int .i64 n) fW (hR_ fW) (by rw [hT]; exact rfl) (hP_ 2 _ fy fW rfl hJ))
      clear fK hE hF hJ hN
      go_simp
    refine stepsAll_cons (k := 3) ?_ ?_
    · intro fa fx fW fy hF hN hJ hE K fK
      have hJ : G (fy 9) fW := hJ
      have ev5 : fa.tmps[5]?.getD undef = .pointer (some ⟨b, 0, none⟩) := hF.eo 5 (by kernel_rfl)
      refine wpOp_val rfl (wanted_none rfl) ?_ (fK (.pointer (some ⟨b, 0, none⟩)) fW (hR_ fW) (by rw [hT]; exact rfl) (hP_ 3 _ fy fW rfl hJ))
      clear fK hE hF hJ hN
      go_simp
    refine stepsAll_cons (k := 4) ?_ ?_
    · intro fa fx fW fy hF hN hJ hE K fK
      have hJ : G (fy 9) fW := hJ
      have q3 : fx 3 = .pointer (some ⟨b, 0, none⟩) := by have q := (hE ⟨3, .data⟩ (by simp) rfl).2; rw [hT] at q; exact q
      have ev31 : fa.tmps[31]?.getD undef = .pointer (some ⟨b, 0, none⟩) := (hF.ev 3 31 (by kernel_rfl)).trans q3
      refine wpOp_val rfl (wanted_none rfl) ?_ (fK (.pointer (some ⟨b, 0, none⟩)) fW (hR_ fW) (by rw [hT]; exact rfl) (hP_ 4 _ fy fW rfl hJ))
      clear fK hE hF hJ hN
      go_simp
    refine stepsAll_cons (k := 5) ?_ ?_
    · intro fa fx fW fy hF hN hJ hE K fK
      have hJ : G (fy 9) fW := hJ
      have q4 : fx 4 = .pointer (some ⟨b, 0, none⟩) := by have q := (hE ⟨4, .data⟩ (by simp) rfl).2; rw [hT] at q; exact q
      have ev32 : fa.tmps[32]?.getD undef = .pointer (some ⟨b, 0, none⟩) := (hF.ev 4 32 (by kernel_rfl)).trans q4
      refine wpOp_val rfl (wanted_none rfl) ?_ (fK (.pointer (some ⟨b, 0, none⟩)) fW (hR_ fW) (by rw [hT]; exact rfl) (hP_ 5 _ fy fW rfl hJ))
      clear fK hE hF hJ hN
      go_simp
    refine stepsAll_cons (k := 6) ?_ ?_
    · intro fa fx fW fy hF hN hJ hE K fK
      have hJ : G (fy 9) fW := hJ
      have q5 : fx 5 = .pointer (some ⟨b, 0, none⟩) := by have q := (hE ⟨5, .data⟩ (by simp) rfl).2; rw [hT] at q; exact q
      have ev33 : fa.tmps[33]?.getD undef = .pointer (some ⟨b, 0, none⟩) := (hF.ev 5 33 (by kernel_rfl)).trans q5
      have hJ1 := hJ
      rw [hG] at hJ1
      have yc := (y1.keep hJ1.1 hbr).cell
      clear hJ1
      refine wpOp_val rfl (wanted_none rfl) ?_ (fK (.slice SA sn sc) fW (hR_ fW) (by rw [hT]; exact rfl) (hP_ 6 _ fy fW rfl hJ))
      clear fK hE hF hJ hN
      go_simp
    refine stepsAll_cons (k := 7) ?_ ?_
    · intro fa fx fW fy hF hN hJ hE K fK
      have hJ : G (fy 9) fW := hJ
      have q6 : fx 6 = .slice SA sn sc := by have q := (hE ⟨6, .data⟩ (by simp) rfl).2; rw [hT] at q; exact q
      have ev34 : fa.tmps[34]?.getD undef = .slice SA sn sc := (hF.ev 6 34 (by kernel_rfl)).trans q6
      refine wpOp_val rfl (wanted_none rfl) ?_ (fK (.int .i64 sn) fW (hR_ fW) (by rw [hT]; exact rfl) (hP_ 7 _ fy fW rfl hJ))
      clear fK hE hF hJ hN
      go_simp
    refine stepsAll_cons (k := 8) ?_ ?_
    · intro fa fx fW fy hF hN hJ hE K fK
      have hJ : G (fy 9) fW := hJ
      have q2 : fx 2 = .int .i64 n := by have q := (hE ⟨2, .data⟩ (by simp) rfl).2; rw [hT] at q; exact q
      have q7 : fx 7 = .int .i64 sn := by have q := (hE ⟨7, .data⟩ (by simp) rfl).2; rw [hT] at q; exact q
      have ev30 : fa.tmps[30]?.getD undef = .int .i64 n := (hF.ev 2 30 (by kernel_rfl)).trans q2
      have ev35 : fa.tmps[35]?.getD undef = .int .i64 sn := (hF.ev 7 35 (by kernel_rfl)).trans q7
      refine wpOp_val rfl (wanted_none rfl) ?_ (fK (.int .i64 ((n : Int) - sn)) fW (hR_ fW) (by rw [hT]; exact rfl) (hP_ 8 _ fy fW rfl hJ))
      clear fK hE hF hJ hN
      go_simp
      exact IntWalk.i64_in _ (by omega)
    refine stepsAll_cons (k := 9) ?_ ?_
    · intro fa fx fW fy hF hN hJ hE K fK
      have hJ : G (fy 9) fW := hJ
      have q0 : fx 0 = .agg #[.int .i64 e0, .int .i64 e1, .int .i64 e2, .int .i64 e3, .int .i64 e4, .int .i64 e5, .int .i64 e6, .int .i64 e7, .int .i64 e8, .int .i64 e9, .int .i64 e10, .int .i64 e11, .int .i64 e12, .int .i64 e13, .int .i64 e14] := by have q := (hE ⟨0, .data⟩ (by simp) rfl).2; rw [hT] at q; exact q
      have ev28 : fa.tmps[28]?.getD undef = .agg #[.int .i64 e0, .int .i64 e1, .int .i64 e2, .int .i64 e3, .int .i64 e4, .int .i64 e5, .int .i64 e6, .int .i64 e7, .int .i64 e8, .int .i64 e9, .int .i64 e10, .int .i64 e11, .int .i64 e12, .int .i64 e13, .int .i64 e14] := (hF.ev 0 28 (by kernel_rfl)).trans q0
      have ev2 : fa.tmps[2]?.getD undef = .pointer (some ⟨w.heap.size, 0, none⟩) := hF.eo 2 (by kernel_rfl)
      rw [hG, hN] at hJ
      obtain ⟨j0, j1, j2⟩ := hJ
      have x4 := j1 rfl
      have r0 := x4.c0.cell
      have q0 := x4.c0.free
      have r1 := x4.c1.cell
      have q1 := x4.c1.free
      have r2 := x4.c2.cell
      have q2 := x4.c2.free
      have r3 := x4.c3.cell
      have q3 := x4.c3.free
      have r4 := x4.c4.cell
      have q4 := x4.c4.free
      have r5 := x4.c5.cell
      have q5 := x4.c5.free
      have r6 := x4.c6.cell
      have q6 := x4.c6.free
      have r7 := x4.c7.cell
      have q7 := x4.c7.free
      have r8 := x4.c8.cell
      have q8 := x4.c8.free
      have r9 := x4.c9.cell
      have q9 := x4.c9.free
      have r10 := x4.c10.cell
      have q10 := x4.c10.free
      have r11 := x4.c11.cell
      have q11 := x4.c11.free
      have r12 := x4.c12.cell
      have q12 := x4.c12.free
      have r13 := x4.c13.cell
      have q13 := x4.c13.free
      have r14 := x4.c14.cell
      have q14 := x4.c14.free
      have hch : Chg (fun k => k = w.heap.size) fW (((((((((((((((fW.setCell ⟨w.heap.size, 0, none⟩ (.int .i64 e0)).setCell ⟨w.heap.size, 1, none⟩ (.int .i64 e1)).setCell ⟨w.heap.size, 2, none⟩ (.int .i64 e2)).setCell ⟨w.heap.size, 3, none⟩ (.int .i64 e3)).setCell ⟨w.heap.size, 4, none⟩ (.int .i64 e4)).setCell ⟨w.heap.size, 5, none⟩ (.int .i64 e5)).setCell ⟨w.heap.size, 6, none⟩ (.int .i64 e6)).setCell ⟨w.heap.size, 7, none⟩ (.int .i64 e7)).setCell ⟨w.heap.size, 8, none⟩ (.int .i64 e8)).setCell ⟨w.heap.size, 9, none⟩ (.int .i64 e9)).setCell ⟨w.heap.size, 10, none⟩ (.int .i64 e10)).setCell ⟨w.heap.size, 11, none⟩ (.int .i64 e11)).setCell ⟨w.heap.size, 12, none⟩ (.int .i64 e12)).setCell ⟨w.heap.size, 13, none⟩ (.int .i64 e13)).setCell ⟨w.heap.size, 14, none⟩ (.int .i64 e14)) := evAll_chg fW w.heap.size (⟨e0, e1, e2, e3, e4, e5, e6, e7, e8, e9, e10, e11, e12, e13, e14⟩ : Ev)
      have x5 : EvBox (((((((((((((((fW.setCell ⟨w.heap.size, 0, none⟩ (.int .i64 e0)).setCell ⟨w.heap.size, 1, none⟩ (.int .i64 e1)).setCell ⟨w.heap.size, 2, none⟩ (.int .i64 e2)).setCell ⟨w.heap.size, 3, none⟩ (.int .i64 e3)).setCell ⟨w.heap.size, 4, none⟩ (.int .i64 e4)).setCell ⟨w.heap.size, 5, none⟩ (.int .i64 e5)).setCell ⟨w.heap.size, 6, none⟩ (.int .i64 e6)).setCell ⟨w.heap.size, 7, none⟩ (.int .i64 e7)).setCell ⟨w.heap.size, 8, none⟩ (.int .i64 e8)).setCell ⟨w.heap.size, 9, none⟩ (.int .i64 e9)).setCell ⟨w.heap.size, 10, none⟩ (.int .i64 e10)).setCell ⟨w.heap.size, 11, none⟩ (.int .i64 e11)).setCell ⟨w.heap.size, 12, none⟩ (.int .i64 e12)).setCell ⟨w.heap.size, 13, none⟩ (.int .i64 e13)).setCell ⟨w.heap.size, 14, none⟩ (.int .i64 e14)) w.heap.size (⟨e0, e1, e2, e3, e4, e5, e6, e7, e8, e9, e10, e11, e12, e13, e14⟩ : Ev) := EvBox.all x4 (⟨e0, e1, e2, e3, e4, e5, e6, e7, e8, e9, e10, e11, e12, e13, e14⟩ : Ev)
      refine wpOp_done rfl (wanted_none rfl) (W' := (((((((((((((((fW.setCell ⟨w.heap.size, 0, none⟩ (.int .i64 e0)).setCell ⟨w.heap.size, 1, none⟩ (.int .i64 e1)).setCell ⟨w.heap.size, 2, none⟩ (.int .i64 e2)).setCell ⟨w.heap.size, 3, none⟩ (.int .i64 e3)).setCell ⟨w.heap.size, 4, none⟩ (.int .i64 e4)).setCell ⟨w.heap.size, 5, none⟩ (.int .i64 e5)).setCell ⟨w.heap.size, 6, none⟩ (.int .i64 e6)).setCell ⟨w.heap.size, 7, none⟩ (.int .i64 e7)).setCell ⟨w.heap.size, 8, none⟩ (.int .i64 e8)).setCell ⟨w.heap.size, 9, none⟩ (.int .i64 e9)).setCell ⟨w.heap.size, 10, none⟩ (.int .i64 e10)).setCell ⟨w.heap.size, 11, none⟩ (.int .i64 e11)).setCell ⟨w.heap.size, 12, none⟩ (.int .i64 e12)).setCell ⟨w.heap.size, 13, none⟩ (.int .i64 e13)).setCell ⟨w.heap.size, 14, none⟩ (.int .i64 e14))) (by clear fK hE hF hN x5 hch; go_simp) (fK undef _ (by rw [hS_]; exact hch) (by rw [hT]; exact rfl) ?_)
      show G (some undef) _
      rw [hG]
      exact ⟨j0.trans hch, (fun e => by cases e), fun _ => x5⟩
    refine stepsAll_cons (k := 10) ?_ ?_
    · intro fa fx fW fy hF hN hJ hE K fK
      have hJ : G (fy 9) fW := hJ
      have q8 : fx 8 = .int .i64 ((n : Int) - sn) := by have q := (hE ⟨8, .data⟩ (by simp) rfl).2; rw [hT] at q; exact q
      have ev36 : fa.tmps[36]?.getD undef = .int .i64 ((n : Int) - sn) := (hF.ev 8 36 (by kernel_rfl)).trans q8
      refine wpOp_val rfl (wanted_none rfl) ?_ (fK (.int .i64 ((n : Int) - sn)) fW (hR_ fW) (by rw [hT]; exact rfl) (hP_ 10 _ fy fW rfl hJ))
      clear fK hE hF hJ hN
      go_simp
    refine stepsAll_cons (k := 11) ?_ ?_
    · intro fa fx fW fy hF hN hJ hE K fK
      have hJ : G (fy 9) fW := hJ
      refine wpOp_val rfl (wanted_none rfl) ?_ (fK (.int .i64 0) fW (hR_ fW) (by rw [hT]; exact rfl) (hP_ 11 _ fy fW rfl hJ))
      clear fK hE hF hJ hN
      go_simp
    exact stepsAll_nil
  intro fa fx fW fy hF hJ0 hx
  have y9 : fy 9 = some (fx 9) := (hx 9 (by decide)).1
  have hJ : G (fy 9) fW := hJ0
  clear hJ0
  rw [y9] at hJ
  have q10 : fx 10 = .int .i64 ((n : Int) - sn) := by have q := (hx 10 (by decide)).2; rw [hT] at q; exact q
  have ev3 : fa.tmps[3]?.getD undef = .int .i64 ((n : Int) - sn) := (hF.ev 10 3 (by kernel_rfl)).trans q10
  have q11 : fx 11 = .int .i64 0 := by have q := (hx 11 (by decide)).2; rw [hT] at q; exact q
  have ev4 : fa.tmps[4]?.getD undef = .int .i64 0 := (hF.ev 11 4 (by kernel_rfl)).trans q11
  rw [hF.eq]
  clear hF hx hT T hP_ hR_ y9
  simp only [putAll, Act.put, List.setIfInBounds_toArray, List.set_cons_zero, List.set_cons_succ, q10, q11]
  rw [hG] at hJ
  obtain ⟨j0, j1, j2⟩ := hJ
  obtain ⟨d0, d1, d2, d3, d4, d5, d6, d7, d8, d9, d10, d11, d12, d13, d14⟩ := (j2 rfl).at_
  simp only [Nat.zero_add] at d0 d1 d2 d3 d4 d5 d6 d7 d8 d9 d10 d11 d12 d13 d14
  go_wp2
  refine bodyPost_ret (v := .tuple #[evV (⟨e0, e1, e2, e3, e4, e5, e6, e7, e8, e9, e10, e11, e12, e13, e14⟩ : Ev), .int .i64 ((n : Int) - sn), .int .i64 0]) (by simp [results, Try.results15, go_sem, evV, d0, d1, d2, d3, d4, d5, d6, d7, d8, d9, d10, d11, d12, d13, d14]) rfl ?_
  exact ⟨by rw [HBL.out, HRL.out], j0.toBelow BF BF.size (fun k e => by omega)⟩
end Go.Proofs.Ytdnddoiemaifjaa
