/- The reference's one: more kinds. -/
import Derived.Test.YtdnddoiemaifjaaOne
namespace Go.Proofs.Ytdnddoiemaifjaa
open Go.RowKit
variable {L B : Nat}
set_option maxRecDepth 100000 in
set_option maxHeartbeats 16000000 in
theorem one_thr (b : Nat) (bs : List Int) (w : World) (h : RSrc L B w b bs 0) (hB : B ≤ w.heap.size) (hu : U8s bs) (hlen : bs.length ≤ 1000000) (k : Int) (bs1 : List Int) (hg : gotE 0 octM bs 0 = (k, bs1, 0)) (h1 : ¬ k < 1) (h7 : ¬ 7 < k) (hT : tT k = true) (hV : tV k = false) (hC : tC k = false) :
    Calls Try.prog 33 #[.pointer (some ⟨b, 0, none⟩)] w (OneK L B w b (nextK k bs1 0)) := by
  have hlt := h.err.lt
  have hgu := gotE_u8 (z := 0) (well_oct hu) hu 0
  rw [hg] at hgu
  have hw8 : IntKind.i64.wrap k = k := by
    rw [IntKind.wrap_i64]
    rcases hgu.2.2 with h | h <;> simp only at h <;> omega
  have hu1 : U8s bs1 := hgu.1
  have hl1 : bs1.length ≤ 1000000 := by have := hgu.2.1; simp only at this; omega
  have hal : Below w.heap.size w (w.alloc (.cells #[.int .i64 0, .int .i64 0, .int .i64 0, .int .i64 0, .int .i64 0, .int .i64 0, .int .i64 0, .int .i64 0, .int .i64 0, .int .i64 0, .int .i64 0, .int .i64 0, .int .i64 0, .int .i64 0, .int .i64 0] 30)) := below_al (Below.refl _ _) _
  have HAL := Lib.hid hal
  have hrs0 : EvBox (w.alloc (.cells #[.int .i64 0, .int .i64 0, .int .i64 0, .int .i64 0, .int .i64 0, .int .i64 0, .int .i64 0, .int .i64 0, .int .i64 0, .int .i64 0, .int .i64 0, .int .i64 0, .int .i64 0, .int .i64 0, .int .i64 0] 30)) w.heap.size ev00 := by
    have := EvBox.new w ev00 30
    simpa [evC, ev00] using this
  have HB0 := refByte (L := L) (B := B) b 0 bs (w.alloc (.cells #[.int .i64 0, .int .i64 0, .int .i64 0, .int .i64 0, .int .i64 0, .int .i64 0, .int .i64 0, .int .i64 0, .int .i64 0, .int .i64 0, .int .i64 0, .int .i64 0, .int .i64 0, .int .i64 0, .int .i64 0] 30)) (h.below hal)
  rw [hg] at HB0
  have HB := Lib.hid HB0
  have HU := Lib.hid hu1
  have HU1 := Lib.hid hl1
  have HL := Lib.hid hB
  have HRS := Lib.hid hrs0
  have hT0 : ∀ W, Calls Try.prog 45 #[.int .i64 k] W fun e w' => e = .returned (.bool true) ∧ W = w' := fun W => by have := rthreads k W; rw [hT] at this; exact this
  have hV0 : ∀ W, Calls Try.prog 46 #[.int .i64 k] W fun e w' => e = .returned (.bool false) ∧ W = w' := fun W => by have := rvalues k W; rw [hV] at this; exact this
  have HTT := Lib.hid hT0
  have HVV := Lib.hid hV0
  have hk2 : (k == 2) = false := hC
  obtain ⟨⟨v1, bs2, er2⟩, hq1⟩ : ∃ q, numQ true bs1 0 = q := ⟨_, rfl⟩
  have hwu1 := numQ_wrap hu1 true 0 hq1
  have hw1 : IntKind.i64.wrap v1 = v1 := hwu1.1
  obtain ⟨⟨v2, bs3, er3⟩, hq2⟩ : ∃ q, numQ true bs2 er2 = q := ⟨_, rfl⟩
  have hwu2 := numQ_wrap hwu1.2 true er2 hq2
  have hw2 : IntKind.i64.wrap v2 = v2 := hwu2.1
  have HR : Hid (nextK k bs1 0 = ((⟨k, v1, v2, 0, 0, 0, 0, 0, 0, 0, 0, 0, 0, 0, 0⟩ : Ev), bs3, er3)) := by
    show _ = _
    unfold nextK
    simp only [Q6, Q5, Q4, Q3, Q2, hT, hV, numQ_no, hq1, hq2]
    rw [hC]
    rfl
  rw [HR.out]
  have HQ1 := Lib.hid hq1
  have HQ2 := Lib.hid hq2
  clear HR hg HB0 hu1 hl1 hB hal hrs0 hgu hT0 hV0 hT hV hC hq1 hwu1 hq2 hwu2
  go_enter Try.func33, Try.ntmps33
  go_wp2_with (first
    | (go_at_call 53; (with_reducible refine HB.out.mono ?_); rintro x w2 ⟨rfl, hc2, hs2⟩; simp only at hs2; have HS0 : Hid (StO L B w (w2.alloc (.cells #[.int .i64 k, .int .i64 0, .int .i64 0, .int .i64 0, .int .i64 0, .int .i64 0, .int .i64 0, .int .i64 0, .int .i64 0, .int .i64 0, .int .i64 0, .int .i64 0, .int .i64 0, .int .i64 0, .int .i64 0] 30)) b w2.heap.size w.heap.size ⟨k, 0, 0, 0, 0, 0, 0, 0, 0, 0, 0, 0, 0, 0, 0⟩ bs1 0) := (by have hsz1 : w.heap.size + 1 ≤ w2.heap.size := (by have := hc2.size; simpa using this); have hbA : Below w2.heap.size w2 (w2.alloc (.cells #[.int .i64 k, .int .i64 0, .int .i64 0, .int .i64 0, .int .i64 0, .int .i64 0, .int .i64 0, .int .i64 0, .int .i64 0, .int .i64 0, .int .i64 0, .int .i64 0, .int .i64 0, .int .i64 0, .int .i64 0] 30)) := below_al (Below.refl _ _) _; have hcA : Chg (fun k => k = b) (w.alloc (.cells #[.int .i64 0, .int .i64 0, .int .i64 0, .int .i64 0, .int .i64 0, .int .i64 0, .int .i64 0, .int .i64 0, .int .i64 0, .int .i64 0, .int .i64 0, .int .i64 0, .int .i64 0, .int .i64 0, .int .i64 0] 30)) (w2.alloc (.cells #[.int .i64 k, .int .i64 0, .int .i64 0, .int .i64 0, .int .i64 0, .int .i64 0, .int .i64 0, .int .i64 0, .int .i64 0, .int .i64 0, .int .i64 0, .int .i64 0, .int .i64 0, .int .i64 0, .int .i64 0] 30)) := hc2.trans (Chg.of_below hbA); exact ⟨hs2.below hbA, HU.out, HU1.out, EvBox.new w2 ⟨k, 0, 0, 0, 0, 0, 0, 0, 0, 0, 0, 0, 0, 0, 0⟩ _, HRS.out.keep hcA (by omega), (Chg.of_below HAL.out).trans hcA, by have := HL.out; omega⟩); have z0 := HS0.out.src.err.cell; have HN1 := Lib.hid (HS0.out.num HQ1))
    | (go_at_call 37; (with_reducible refine HN1.out.mono ?_); rintro x u1 ⟨rfl, hs1⟩; (try simp only at hs1); have g1 := hs1.ev.c1.cell; have f1 := hs1.ev.c1.free; have HS1 := Lib.hid (hs1.p1 v1); have z1 := HS1.out.ev.c0.cell; simp only at z1; have HN2 := Lib.hid (HS1.out.num HQ2); clear HN1)
    | (go_at_call 37; (with_reducible refine HN2.out.mono ?_); rintro x u2 ⟨rfl, hs2⟩; (try simp only at hs2); have g2 := hs2.ev.c2.cell; have f2 := hs2.ev.c2.free; have HS2 := Lib.hid (hs2.p2 v2); have z2 := HS2.out.ev.c0.cell; simp only at z2; have EE := HS2.out.ev; have RR := HS2.out.rs; have k0 := EE.c0.cell; have r0 := RR.c0.cell; have q0 := RR.c0.free; have k1 := EE.c1.cell; have r1 := RR.c1.cell; have q1 := RR.c1.free; have k2 := EE.c2.cell; have r2 := RR.c2.cell; have q2 := RR.c2.free; have k3 := EE.c3.cell; have r3 := RR.c3.cell; have q3 := RR.c3.free; have k4 := EE.c4.cell; have r4 := RR.c4.cell; have q4 := RR.c4.free; have k5 := EE.c5.cell; have r5 := RR.c5.cell; have q5 := RR.c5.free; have k6 := EE.c6.cell; have r6 := RR.c6.cell; have q6 := RR.c6.free; have k7 := EE.c7.cell; have r7 := RR.c7.cell; have q7 := RR.c7.free; have k8 := EE.c8.cell; have r8 := RR.c8.cell; have q8 := RR.c8.free; have k9 := EE.c9.cell; have r9 := RR.c9.cell; have q9 := RR.c9.free; have k10 := EE.c10.cell; have r10 := RR.c10.cell; have q10 := RR.c10.free; have k11 := EE.c11.cell; have r11 := RR.c11.cell; have q11 := RR.c11.free; have k12 := EE.c12.cell; have r12 := RR.c12.cell; have q12 := RR.c12.free; have k13 := EE.c13.cell; have r13 := RR.c13.cell; have q13 := RR.c13.free; have k14 := EE.c14.cell; have r14 := RR.c14.cell; have q14 := RR.c14.free; simp only at k0 k1 k2 k3 k4 k5 k6 k7 k8 k9 k10 k11 k12 k13 k14; clear EE RR)
    | (go_at_call 45; (with_reducible refine (HTT.out _).mono ?_); rintro x w9 ⟨rfl, rfl⟩)
    | (go_at_call 46; (with_reducible refine (HVV.out _).mono ?_); rintro x w9 ⟨rfl, rfl⟩))
  clear k0 r0 q0 k1 r1 q1 k2 r2 q2 k3 r3 q3 k4 r4 q4 k5 r5 q5 k6 r6 q6 k7 r7 q7 k8 r8 q8 k9 r9 q9 k10 r10 q10 k11 r11 q11 k12 r12 q12 k13 r13 q13 k14 r14 q14
  have RF : EvBox ((((((((((((((((u2.setCell ⟨w2.heap.size, 2, none⟩ (.int .i64 v2)).setCell ⟨w.heap.size, 0, none⟩ (.int .i64 k)).setCell ⟨w.heap.size, 1, none⟩ (.int .i64 v1)).setCell ⟨w.heap.size, 2, none⟩ (.int .i64 v2)).setCell ⟨w.heap.size, 3, none⟩ (.int .i64 0)).setCell ⟨w.heap.size, 4, none⟩ (.int .i64 0)).setCell ⟨w.heap.size, 5, none⟩ (.int .i64 0)).setCell ⟨w.heap.size, 6, none⟩ (.int .i64 0)).setCell ⟨w.heap.size, 7, none⟩ (.int .i64 0)).setCell ⟨w.heap.size, 8, none⟩ (.int .i64 0)).setCell ⟨w.heap.size, 9, none⟩ (.int .i64 0)).setCell ⟨w.heap.size, 10, none⟩ (.int .i64 0)).setCell ⟨w.heap.size, 11, none⟩ (.int .i64 0)).setCell ⟨w.heap.size, 12, none⟩ (.int .i64 0)).setCell ⟨w.heap.size, 13, none⟩ (.int .i64 0)).setCell ⟨w.heap.size, 14, none⟩ (.int .i64 0)) w.heap.size (⟨k, v1, v2, 0, 0, 0, 0, 0, 0, 0, 0, 0, 0, 0, 0⟩ : Ev) := EvBox.all HS2.out.rs (⟨k, v1, v2, 0, 0, 0, 0, 0, 0, 0, 0, 0, 0, 0, 0⟩ : Ev)
  have CF : Chg (fun k => k = w.heap.size) (u2.setCell ⟨w2.heap.size, 2, none⟩ (.int .i64 v2)) ((((((((((((((((u2.setCell ⟨w2.heap.size, 2, none⟩ (.int .i64 v2)).setCell ⟨w.heap.size, 0, none⟩ (.int .i64 k)).setCell ⟨w.heap.size, 1, none⟩ (.int .i64 v1)).setCell ⟨w.heap.size, 2, none⟩ (.int .i64 v2)).setCell ⟨w.heap.size, 3, none⟩ (.int .i64 0)).setCell ⟨w.heap.size, 4, none⟩ (.int .i64 0)).setCell ⟨w.heap.size, 5, none⟩ (.int .i64 0)).setCell ⟨w.heap.size, 6, none⟩ (.int .i64 0)).setCell ⟨w.heap.size, 7, none⟩ (.int .i64 0)).setCell ⟨w.heap.size, 8, none⟩ (.int .i64 0)).setCell ⟨w.heap.size, 9, none⟩ (.int .i64 0)).setCell ⟨w.heap.size, 10, none⟩ (.int .i64 0)).setCell ⟨w.heap.size, 11, none⟩ (.int .i64 0)).setCell ⟨w.heap.size, 12, none⟩ (.int .i64 0)).setCell ⟨w.heap.size, 13, none⟩ (.int .i64 0)).setCell ⟨w.heap.size, 14, none⟩ (.int .i64 0)) := evAll_chg (u2.setCell ⟨w2.heap.size, 2, none⟩ (.int .i64 v2)) w.heap.size (⟨k, v1, v2, 0, 0, 0, 0, 0, 0, 0, 0, 0, 0, 0, 0⟩ : Ev)
  generalize ((((((((((((((((u2.setCell ⟨w2.heap.size, 2, none⟩ (.int .i64 v2)).setCell ⟨w.heap.size, 0, none⟩ (.int .i64 k)).setCell ⟨w.heap.size, 1, none⟩ (.int .i64 v1)).setCell ⟨w.heap.size, 2, none⟩ (.int .i64 v2)).setCell ⟨w.heap.size, 3, none⟩ (.int .i64 0)).setCell ⟨w.heap.size, 4, none⟩ (.int .i64 0)).setCell ⟨w.heap.size, 5, none⟩ (.int .i64 0)).setCell ⟨w.heap.size, 6, none⟩ (.int .i64 0)).setCell ⟨w.heap.size, 7, none⟩ (.int .i64 0)).setCell ⟨w.heap.size, 8, none⟩ (.int .i64 0)).setCell ⟨w.heap.size, 9, none⟩ (.int .i64 0)).setCell ⟨w.heap.size, 10, none⟩ (.int .i64 0)).setCell ⟨w.heap.size, 11, none⟩ (.int .i64 0)).setCell ⟨w.heap.size, 12, none⟩ (.int .i64 0)).setCell ⟨w.heap.size, 13, none⟩ (.int .i64 0)).setCell ⟨w.heap.size, 14, none⟩ (.int .i64 0)) = WF at RF CF ⊢
  obtain ⟨d0, d1, d2, d3, d4, d5, d6, d7, d8, d9, d10, d11, d12, d13, d14⟩ := RF.at_
  simp only [Nat.zero_add] at d0 d1 d2 d3 d4 d5 d6 d7 d8 d9 d10 d11 d12 d13 d14
  obtain ⟨n1, n2, n3, n4, n5, n6⟩ := HS2.out.ne
  refine bodyPost_ret (v := evV (⟨k, v1, v2, 0, 0, 0, 0, 0, 0, 0, 0, 0, 0, 0, 0⟩ : Ev)) (by simp [results, Try.results33, go_sem, evV, d0, d1, d2, d3, d4, d5, d6, d7, d8, d9, d10, d11, d12, d13, d14]) rfl ?_
  exact ⟨rfl, HS2.out.ch.then_ CF (fun k hk e => by omega), HS2.out.src.keep CF (fun e => n2 e.symm) (fun k _ hk e => by omega), HS2.out.u8, HS2.out.len⟩
set_option maxRecDepth 100000 in
set_option maxHeartbeats 16000000 in
theorem one_val (b : Nat) (bs : List Int) (w : World) (h : RSrc L B w b bs 0) (hB : B ≤ w.heap.size) (hu : U8s bs) (hlen : bs.length ≤ 1000000) (k : Int) (bs1 : List Int) (hg : gotE 0 octM bs 0 = (k, bs1, 0)) (h1 : ¬ k < 1) (h7 : ¬ 7 < k) (hT : tT k = false) (hV : tV k = true) (hC : tC k = false) :
    Calls Try.prog 33 #[.pointer (some ⟨b, 0, none⟩)] w (OneK L B w b (nextK k bs1 0)) := by
  have hlt := h.err.lt
  have hgu := gotE_u8 (z := 0) (well_oct hu) hu 0
  rw [hg] at hgu
  have hw8 : IntKind.i64.wrap k = k := by
    rw [IntKind.wrap_i64]
    rcases hgu.2.2 with h | h <;> simp only at h <;> omega
  have hu1 : U8s bs1 := hgu.1
  have hl1 : bs1.length ≤ 1000000 := by have := hgu.2.1; simp only at this; omega
  have hal : Below w.heap.size w (w.alloc (.cells #[.int .i64 0, .int .i64 0, .int .i64 0, .int .i64 0, .int .i64 0, .int .i64 0, .int .i64 0, .int .i64 0, .int .i64 0, .int .i64 0, .int .i64 0, .int .i64 0, .int .i64 0, .int .i64 0, .int .i64 0] 30)) := below_al (Below.refl _ _) _
  have HAL := Lib.hid hal
  have hrs0 : EvBox (w.alloc (.cells #[.int .i64 0, .int .i64 0, .int .i64 0, .int .i64 0, .int .i64 0, .int .i64 0, .int .i64 0, .int .i64 0, .int .i64 0, .int .i64 0, .int .i64 0, .int .i64 0, .int .i64 0, .int .i64 0, .int .i64 0] 30)) w.heap.size ev00 := by
    have := EvBox.new w ev00 30
    simpa [evC, ev00] using this
  have HB0 := refByte (L := L) (B := B) b 0 bs (w.alloc (.cells #[.int .i64 0, .int .i64 0, .int .i64 0, .int .i64 0, .int .i64 0, .int .i64 0, .int .i64 0, .int .i64 0, .int .i64 0, .int .i64 0, .int .i64 0, .int .i64 0, .int .i64 0, .int .i64 0, .int .i64 0] 30)) (h.below hal)
  rw [hg] at HB0
  have HB := Lib.hid HB0
  have HU := Lib.hid hu1
  have HU1 := Lib.hid hl1
  have HL := Lib.hid hB
  have HRS := Lib.hid hrs0
  have hT0 : ∀ W, Calls Try.prog 45 #[.int .i64 k] W fun e w' => e = .returned (.bool false) ∧ W = w' := fun W => by have := rthreads k W; rw [hT] at this; exact this
  have hV0 : ∀ W, Calls Try.prog 46 #[.int .i64 k] W fun e w' => e = .returned (.bool true) ∧ W = w' := fun W => by have := rvalues k W; rw [hV] at this; exact this
  have HTT := Lib.hid hT0
  have HVV := Lib.hid hV0
  have hk2 : (k == 2) = false := hC
  obtain ⟨⟨v1, bs2, er2⟩, hq1⟩ : ∃ q, numQ true bs1 0 = q := ⟨_, rfl⟩
  have hwu1 := numQ_wrap hu1 true 0 hq1
  have hw1 : IntKind.i64.wrap v1 = v1 := hwu1.1
  obtain ⟨⟨v3, bs3, er3⟩, hq3⟩ : ∃ q, numQ true bs2 er2 = q := ⟨_, rfl⟩
  have hwu3 := numQ_wrap hwu1.2 true er2 hq3
  have hw3 : IntKind.i64.wrap v3 = v3 := hwu3.1
  have HR : Hid (nextK k bs1 0 = ((⟨k, v1, 0, v3, 0, 0, 0, 0, 0, 0, 0, 0, 0, 0, 0⟩ : Ev), bs3, er3)) := by
    show _ = _
    unfold nextK
    simp only [Q6, Q5, Q4, Q3, Q2, hT, hV, numQ_no, hq1, hq3]
    rw [hC]
    rfl
  rw [HR.out]
  have HQ1 := Lib.hid hq1
  have HQ3 := Lib.hid hq3
  clear HR hg HB0 hu1 hl1 hB hal hrs0 hgu hT0 hV0 hT hV hC hq1 hwu1 hq3 hwu3
  go_enter Try.func33, Try.ntmps33
  go_wp2_with (first
    | (go_at_call 53; (with_reducible refine HB.out.mono ?_); rintro x w2 ⟨rfl, hc2, hs2⟩; simp only at hs2; have HS0 : Hid (StO L B w (w2.alloc (.cells #[.int .i64 k, .int .i64 0, .int .i64 0, .int .i64 0, .int .i64 0, .int .i64 0, .int .i64 0, .int .i64 0, .int .i64 0, .int .i64 0, .int .i64 0, .int .i64 0, .int .i64 0, .int .i64 0, .int .i64 0] 30)) b w2.heap.size w.heap.size ⟨k, 0, 0, 0, 0, 0, 0, 0, 0, 0, 0, 0, 0, 0, 0⟩ bs1 0) := (by have hsz1 : w.heap.size + 1 ≤ w2.heap.size := (by have := hc2.size; simpa using this); have hbA : Below w2.heap.size w2 (w2.alloc (.cells #[.int .i64 k, .int .i64 0, .int .i64 0, .int .i64 0, .int .i64 0, .int .i64 0, .int .i64 0, .int .i64 0, .int .i64 0, .int .i64 0, .int .i64 0, .int .i64 0, .int .i64 0, .int .i64 0, .int .i64 0] 30)) := below_al (Below.refl _ _) _; have hcA : Chg (fun k => k = b) (w.alloc (.cells #[.int .i64 0, .int .i64 0, .int .i64 0, .int .i64 0, .int .i64 0, .int .i64 0, .int .i64 0, .int .i64 0, .int .i64 0, .int .i64 0, .int .i64 0, .int .i64 0, .int .i64 0, .int .i64 0, .int .i64 0] 30)) (w2.alloc (.cells #[.int .i64 k, .int .i64 0, .int .i64 0, .int .i64 0, .int .i64 0, .int .i64 0, .int .i64 0, .int .i64 0, .int .i64 0, .int .i64 0, .int .i64 0, .int .i64 0, .int .i64 0, .int .i64 0, .int .i64 0] 30)) := hc2.trans (Chg.of_below hbA); exact ⟨hs2.below hbA, HU.out, HU1.out, EvBox.new w2 ⟨k, 0, 0, 0, 0, 0, 0, 0, 0, 0, 0, 0, 0, 0, 0⟩ _, HRS.out.keep hcA (by omega), (Chg.of_below HAL.out).trans hcA, by have := HL.out; omega⟩); have z0 := HS0.out.src.err.cell; have HN1 := Lib.hid (HS0.out.num HQ1))
    | (go_at_call 37; (with_reducible refine HN1.out.mono ?_); rintro x u1 ⟨rfl, hs1⟩; (try simp only at hs1); have g1 := hs1.ev.c1.cell; have f1 := hs1.ev.c1.free; have HS1 := Lib.hid (hs1.p1 v1); have z1 := HS1.out.ev.c0.cell; simp only at z1; have HN3 := Lib.hid (HS1.out.num HQ3); clear HN1)
    | (go_at_call 37; (with_reducible refine HN3.out.mono ?_); rintro x u3 ⟨rfl, hs3⟩; (try simp only at hs3); have g3 := hs3.ev.c3.cell; have f3 := hs3.ev.c3.free; have HS3 := Lib.hid (hs3.p3 v3); have z3 := HS3.out.ev.c0.cell; simp only at z3; have EE := HS3.out.ev; have RR := HS3.out.rs; have k0 := EE.c0.cell; have r0 := RR.c0.cell; have q0 := RR.c0.free; have k1 := EE.c1.cell; have r1 := RR.c1.cell; have q1 := RR.c1.free; have k2 := EE.c2.cell; have r2 := RR.c2.cell; have q2 := RR.c2.free; have k3 := EE.c3.cell; have r3 := RR.c3.cell; have q3 := RR.c3.free; have k4 := EE.c4.cell; have r4 := RR.c4.cell; have q4 := RR.c4.free; have k5 := EE.c5.cell; have r5 := RR.c5.cell; have q5 := RR.c5.free; have k6 := EE.c6.cell; have r6 := RR.c6.cell; have q6 := RR.c6.free; have k7 := EE.c7.cell; have r7 := RR.c7.cell; have q7 := RR.c7.free; have k8 := EE.c8.cell; have r8 := RR.c8.cell; have q8 := RR.c8.free; have k9 := EE.c9.cell; have r9 := RR.c9.cell; have q9 := RR.c9.free; have k10 := EE.c10.cell; have r10 := RR.c10.cell; have q10 := RR.c10.free; have k11 := EE.c11.cell; have r11 := RR.c11.cell; have q11 := RR.c11.free; have k12 := EE.c12.cell; have r12 := RR.c12.cell; have q12 := RR.c12.free; have k13 := EE.c13.cell; have r13 := RR.c13.cell; have q13 := RR.c13.free; have k14 := EE.c14.cell; have r14 := RR.c14.cell; have q14 := RR.c14.free; simp only at k0 k1 k2 k3 k4 k5 k6 k7 k8 k9 k10 k11 k12 k13 k14; clear EE RR)
    | (go_at_call 45; (with_reducible refine (HTT.out _).mono ?_); rintro x w9 ⟨rfl, rfl⟩)
    | (go_at_call 46; (with_reducible refine (HVV.out _).mono ?_); rintro x w9 ⟨rfl, rfl⟩))
  clear k0 r0 q0 k1 r1 q1 k2 r2 q2 k3 r3 q3 k4 r4 q4 k5 r5 q5 k6 r6 q6 k7 r7 q7 k8 r8 q8 k9 r9 q9 k10 r10 q10 k11 r11 q11 k12 r12 q12 k13 r13 q13 k14 r14 q14
  have RF : EvBox ((((((((((((((((u3.setCell ⟨w2.heap.size, 3, none⟩ (.int .i64 v3)).setCell ⟨w.heap.size, 0, none⟩ (.int .i64 k)).setCell ⟨w.heap.size, 1, none⟩ (.int .i64 v1)).setCell ⟨w.heap.size, 2, none⟩ (.int .i64 0)).setCell ⟨w.heap.size, 3, none⟩ (.int .i64 v3)).setCell ⟨w.heap.size, 4, none⟩ (.int .i64 0)).setCell ⟨w.heap.size, 5, none⟩ (.int .i64 0)).setCell ⟨w.heap.size, 6, none⟩ (.int .i64 0)).setCell ⟨w.heap.size, 7, none⟩ (.int .i64 0)).setCell ⟨w.heap.size, 8, none⟩ (.int .i64 0)).setCell ⟨w.heap.size, 9, none⟩ (.int .i64 0)).setCell ⟨w.heap.size, 10, none⟩ (.int .i64 0)).setCell ⟨w.heap.size, 11, none⟩ (.int .i64 0)).setCell ⟨w.heap.size, 12, none⟩ (.int .i64 0)).setCell ⟨w.heap.size, 13, none⟩ (.int .i64 0)).setCell ⟨w.heap.size, 14, none⟩ (.int .i64 0)) w.heap.size (⟨k, v1, 0, v3, 0, 0, 0, 0, 0, 0, 0, 0, 0, 0, 0⟩ : Ev) := EvBox.all HS3.out.rs (⟨k, v1, 0, v3, 0, 0, 0, 0, 0, 0, 0, 0, 0, 0, 0⟩ : Ev)
  have CF : Chg (fun k => k = w.heap.size) (u3.setCell ⟨w2.heap.size, 3, none⟩ (.int .i64 v3)) ((((((((((((((((u3.setCell ⟨w2.heap.size, 3, none⟩ (.int .i64 v3)).setCell ⟨w.heap.size, 0, none⟩ (.int .i64 k)).setCell ⟨w.heap.size, 1, none⟩ (.int .i64 v1)).setCell ⟨w.heap.size, 2, none⟩ (.int .i64 0)).setCell ⟨w.heap.size, 3, none⟩ (.int .i64 v3)).setCell ⟨w.heap.size, 4, none⟩ (.int .i64 0)).setCell ⟨w.heap.size, 5, none⟩ (.int .i64 0)).setCell ⟨w.heap.size, 6, none⟩ (.int .i64 0)).setCell ⟨w.heap.size, 7, none⟩ (.int .i64 0)).setCell ⟨w.heap.size, 8, none⟩ (.int .i64 0)).setCell ⟨w.heap.size, 9, none⟩ (.int .i64 0)).setCell ⟨w.heap.size, 10, none⟩ (.int .i64 0)).setCell ⟨w.heap.size, 11, none⟩ (.int .i64 0)).setCell ⟨w.heap.size, 12, none⟩ (.int .i64 0)).setCell ⟨w.heap.size, 13, none⟩ (.int .i64 0)).setCell ⟨w.heap.size, 14, none⟩ (.int .i64 0)) := evAll_chg (u3.setCell ⟨w2.heap.size, 3, none⟩ (.int .i64 v3)) w.heap.size (⟨k, v1, 0, v3, 0, 0, 0, 0, 0, 0, 0, 0, 0, 0, 0⟩ : Ev)
  generalize ((((((((((((((((u3.setCell ⟨w2.heap.size, 3, none⟩ (.int .i64 v3)).setCell ⟨w.heap.size, 0, none⟩ (.int .i64 k)).setCell ⟨w.heap.size, 1, none⟩ (.int .i64 v1)).setCell ⟨w.heap.size, 2, none⟩ (.int .i64 0)).setCell ⟨w.heap.size, 3, none⟩ (.int .i64 v3)).setCell ⟨w.heap.size, 4, none⟩ (.int .i64 0)).setCell ⟨w.heap.size, 5, none⟩ (.int .i64 0)).setCell ⟨w.heap.size, 6, none⟩ (.int .i64 0)).setCell ⟨w.heap.size, 7, none⟩ (.int .i64 0)).setCell ⟨w.heap.size, 8, none⟩ (.int .i64 0)).setCell ⟨w.heap.size, 9, none⟩ (.int .i64 0)).setCell ⟨w.heap.size, 10, none⟩ (.int .i64 0)).setCell ⟨w.heap.size, 11, none⟩ (.int .i64 0)).setCell ⟨w.heap.size, 12, none⟩ (.int .i64 0)).setCell ⟨w.heap.size, 13, none⟩ (.int .i64 0)).setCell ⟨w.heap.size, 14, none⟩ (.int .i64 0)) = WF at RF CF ⊢
  obtain ⟨d0, d1, d2, d3, d4, d5, d6, d7, d8, d9, d10, d11, d12, d13, d14⟩ := RF.at_
  simp only [Nat.zero_add] at d0 d1 d2 d3 d4 d5 d6 d7 d8 d9 d10 d11 d12 d13 d14
  obtain ⟨n1, n2, n3, n4, n5, n6⟩ := HS3.out.ne
  refine bodyPost_ret (v := evV (⟨k, v1, 0, v3, 0, 0, 0, 0, 0, 0, 0, 0, 0, 0, 0⟩ : Ev)) (by simp [results, Try.results33, go_sem, evV, d0, d1, d2, d3, d4, d5, d6, d7, d8, d9, d10, d11, d12, d13, d14]) rfl ?_
  exact ⟨rfl, HS3.out.ch.then_ CF (fun k hk e => by omega), HS3.out.src.keep CF (fun e => n2 e.symm) (fun k _ hk e => by omega), HS3.out.u8, HS3.out.len⟩
set_option maxRecDepth 100000 in
set_option maxHeartbeats 16000000 in
theorem one_both (b : Nat) (bs : List Int) (w : World) (h : RSrc L B w b bs 0) (hB : B ≤ w.heap.size) (hu : U8s bs) (hlen : bs.length ≤ 1000000) (k : Int) (bs1 : List Int) (hg : gotE 0 octM bs 0 = (k, bs1, 0)) (h1 : ¬ k < 1) (h7 : ¬ 7 < k) (hT : tT k = true) (hV : tV k = true) (hC : tC k = false) :
    Calls Try.prog 33 #[.pointer (some ⟨b, 0, none⟩)] w (OneK L B w b (nextK k bs1 0)) := by
  have hlt := h.err.lt
  have hgu := gotE_u8 (z := 0) (well_oct hu) hu 0
  rw [hg] at hgu
  have hw8 : IntKind.i64.wrap k = k := by
    rw [IntKind.wrap_i64]
    rcases hgu.2.2 with h | h <;> simp only at h <;> omega
  have hu1 : U8s bs1 := hgu.1
  have hl1 : bs1.length ≤ 1000000 := by have := hgu.2.1; simp only at this; omega
  have hal : Below w.heap.size w (w.alloc (.cells #[.int .i64 0, .int .i64 0, .int .i64 0, .int .i64 0, .int .i64 0, .int .i64 0, .int .i64 0, .int .i64 0, .int .i64 0, .int .i64 0, .int .i64 0, .int .i64 0, .int .i64 0, .int .i64 0, .int .i64 0] 30)) := below_al (Below.refl _ _) _
  have HAL := Lib.hid hal
  have hrs0 : EvBox (w.alloc (.cells #[.int .i64 0, .int .i64 0, .int .i64 0, .int .i64 0, .int .i64 0, .int .i64 0, .int .i64 0, .int .i64 0, .int .i64 0, .int .i64 0, .int .i64 0, .int .i64 0, .int .i64 0, .int .i64 0, .int .i64 0] 30)) w.heap.size ev00 := by
    have := EvBox.new w ev00 30
    simpa [evC, ev00] using this
  have HB0 := refByte (L := L) (B := B) b 0 bs (w.alloc (.cells #[.int .i64 0, .int .i64 0, .int .i64 0, .int .i64 0, .int .i64 0, .int .i64 0, .int .i64 0, .int .i64 0, .int .i64 0, .int .i64 0, .int .i64 0, .int .i64 0, .int .i64 0, .int .i64 0, .int .i64 0] 30)) (h.below hal)
  rw [hg] at HB0
  have HB := Lib.hid HB0
  have HU := Lib.hid hu1
  have HU1 := Lib.hid hl1
  have HL := Lib.hid hB
  have HRS := Lib.hid hrs0
  have hT0 : ∀ W, Calls Try.prog 45 #[.int .i64 k] W fun e w' => e = .returned (.bool true) ∧ W = w' := fun W => by have := rthreads k W; rw [hT] at this; exact this
  have hV0 : ∀ W, Calls Try.prog 46 #[.int .i64 k] W fun e w' => e = .returned (.bool true) ∧ W = w' := fun W => by have := rvalues k W; rw [hV] at this; exact this
  have HTT := Lib.hid hT0
  have HVV := Lib.hid hV0
  have hk2 : (k == 2) = false := hC
  obtain ⟨⟨v1, bs2, er2⟩, hq1⟩ : ∃ q, numQ true bs1 0 = q := ⟨_, rfl⟩
  have hwu1 := numQ_wrap hu1 true 0 hq1
  have hw1 : IntKind.i64.wrap v1 = v1 := hwu1.1
  obtain ⟨⟨v2, bs3, er3⟩, hq2⟩ : ∃ q, numQ true bs2 er2 = q := ⟨_, rfl⟩
  have hwu2 := numQ_wrap hwu1.2 true er2 hq2
  have hw2 : IntKind.i64.wrap v2 = v2 := hwu2.1
  obtain ⟨⟨v3, bs4, er4⟩, hq3⟩ : ∃ q, numQ true bs3 er3 = q := ⟨_, rfl⟩
  have hwu3 := numQ_wrap hwu2.2 true er3 hq3
  have hw3 : IntKind.i64.wrap v3 = v3 := hwu3.1
  have HR : Hid (nextK k bs1 0 = ((⟨k, v1, v2, v3, 0, 0, 0, 0, 0, 0, 0, 0, 0, 0, 0⟩ : Ev), bs4, er4)) := by
    show _ = _
    unfold nextK
    simp only [Q6, Q5, Q4, Q3, Q2, hT, hV, hq1, hq2, hq3]
    rw [hC]
    rfl
  rw [HR.out]
  have HQ1 := Lib.hid hq1
  have HQ2 := Lib.hid hq2
  have HQ3 := Lib.hid hq3
  clear HR hg HB0 hu1 hl1 hB hal hrs0 hgu hT0 hV0 hT hV hC hq1 hwu1 hq2 hwu2 hq3 hwu3
  go_enter Try.func33, Try.ntmps33
  go_wp2_with (first
    | (go_at_call 53; (with_reducible refine HB.out.mono ?_); rintro x w2 ⟨rfl, hc2, hs2⟩; simp only at hs2; have HS0 : Hid (StO L B w (w2.alloc (.cells #[.int .i64 k, .int .i64 0, .int .i64 0, .int .i64 0, .int .i64 0, .int .i64 0, .int .i64 0, .int .i64 0, .int .i64 0, .int .i64 0, .int .i64 0, .int .i64 0, .int .i64 0, .int .i64 0, .int .i64 0] 30)) b w2.heap.size w.heap.size ⟨k, 0, 0, 0, 0, 0, 0, 0, 0, 0, 0, 0, 0, 0, 0⟩ bs1 0) := (by have hsz1 : w.heap.size + 1 ≤ w2.heap.size := (by have := hc2.size; simpa using this); have hbA : Below w2.heap.size w2 (w2.alloc (.cells #[.int .i64 k, .int .i64 0, .int .i64 0, .int .i64 0, .int .i64 0, .int .i64 0, .int .i64 0, .int .i64 0, .int .i64 0, .int .i64 0, .int .i64 0, .int .i64 0, .int .i64 0, .int .i64 0, .int .i64 0] 30)) := below_al (Below.refl _ _) _; have hcA : Chg (fun k => k = b) (w.alloc (.cells #[.int .i64 0, .int .i64 0, .int .i64 0, .int .i64 0, .int .i64 0, .int .i64 0, .int .i64 0, .int .i64 0, .int .i64 0, .int .i64 0, .int .i64 0, .int .i64 0, .int .i64 0, .int .i64 0, .int .i64 0] 30)) (w2.alloc (.cells #[.int .i64 k, .int .i64 0, .int .i64 0, .int .i64 0, .int .i64 0, .int .i64 0, .int .i64 0, .int .i64 0, .int .i64 0, .int .i64 0, .int .i64 0, .int .i64 0, .int .i64 0, .int .i64 0, .int .i64 0] 30)) := hc2.trans (Chg.of_below hbA); exact ⟨hs2.below hbA, HU.out, HU1.out, EvBox.new w2 ⟨k, 0, 0, 0, 0, 0, 0, 0, 0, 0, 0, 0, 0, 0, 0⟩ _, HRS.out.keep hcA (by omega), (Chg.of_below HAL.out).trans hcA, by have := HL.out; omega⟩); have z0 := HS0.out.src.err.cell; have HN1 := Lib.hid (HS0.out.num HQ1))
    | (go_at_call 37; (with_reducible refine HN1.out.mono ?_); rintro x u1 ⟨rfl, hs1⟩; (try simp only at hs1); have g1 := hs1.ev.c1.cell; have f1 := hs1.ev.c1.free; have HS1 := Lib.hid (hs1.p1 v1); have z1 := HS1.out.ev.c0.cell; simp only at z1; have HN2 := Lib.hid (HS1.out.num HQ2); clear HN1)
    | (go_at_call 37; (with_reducible refine HN2.out.mono ?_); rintro x u2 ⟨rfl, hs2⟩; (try simp only at hs2); have g2 := hs2.ev.c2.cell; have f2 := hs2.ev.c2.free; have HS2 := Lib.hid (hs2.p2 v2); have z2 := HS2.out.ev.c0.cell; simp only at z2; have HN3 := Lib.hid (HS2.out.num HQ3); clear HN2)
    | (go_at_call 37; (with_reducible refine HN3.out.mono ?_); rintro x u3 ⟨rfl, hs3⟩; (try simp only at hs3); have g3 := hs3.ev.c3.cell; have f3 := hs3.ev.c3.free; have HS3 := Lib.hid (hs3.p3 v3); have z3 := HS3.out.ev.c0.cell; simp only at z3; have EE := HS3.out.ev; have RR := HS3.out.rs; have k0 := EE.c0.cell; have r0 := RR.c0.cell; have q0 := RR.c0.free; have k1 := EE.c1.cell; have r1 := RR.c1.cell; have q1 := RR.c1.free; have k2 := EE.c2.cell; have r2 := RR.c2.cell; have q2 := RR.c2.free; have k3 := EE.c3.cell; have r3 := RR.c3.cell; have q3 := RR.c3.free; have k4 := EE.c4.cell; have r4 := RR.c4.cell; have q4 := RR.c4.free; have k5 := EE.c5.cell; have r5 := RR.c5.cell; have q5 := RR.c5.free; have k6 := EE.c6.cell; have r6 := RR.c6.cell; have q6 := RR.c6.free; have k7 := EE.c7.cell; have r7 := RR.c7.cell; have q7 := RR.c7.free; have k8 := EE.c8.cell; have r8 := RR.c8.cell; have q8 := RR.c8.free; have k9 := EE.c9.cell; have r9 := RR.c9.cell; have q9 := RR.c9.free; have k10 := EE.c10.cell; have r10 := RR.c10.cell; have q10 := RR.c10.free; have k11 := EE.c11.cell; have r11 := RR.c11.cell; have q11 := RR.c11.free; have k12 := EE.c12.cell; have r12 := RR.c12.cell; have q12 := RR.c12.free; have k13 := EE.c13.cell; have r13 := RR.c13.cell; have q13 := RR.c13.free; have k14 := EE.c14.cell; have r14 := RR.c14.cell; have q14 := RR.c14.free; simp only at k0 k1 k2 k3 k4 k5 k6 k7 k8 k9 k10 k11 k12 k13 k14; clear EE RR)
    | (go_at_call 45; (with_reducible refine (HTT.out _).mono ?_); rintro x w9 ⟨rfl, rfl⟩)
    | (go_at_call 46; (with_reducible refine (HVV.out _).mono ?_); rintro x w9 ⟨rfl, rfl⟩))
  clear k0 r0 q0 k1 r1 q1 k2 r2 q2 k3 r3 q3 k4 r4 q4 k5 r5 q5 k6 r6 q6 k7 r7 q7 k8 r8 q8 k9 r9 q9 k10 r10 q10 k11 r11 q11 k12 r12 q12 k13 r13 q13 k14 r14 q14
  have RF : EvBox ((((((((((((((((u3.setCell ⟨w2.heap.size, 3, none⟩ (.int .i64 v3)).setCell ⟨w.heap.size, 0, none⟩ (.int .i64 k)).setCell ⟨w.heap.size, 1, none⟩ (.int .i64 v1)).setCell ⟨w.heap.size, 2, none⟩ (.int .i64 v2)).setCell ⟨w.heap.size, 3, none⟩ (.int .i64 v3)).setCell ⟨w.heap.size, 4, none⟩ (.int .i64 0)).setCell ⟨w.heap.size, 5, none⟩ (.int .i64 0)).setCell ⟨w.heap.size, 6, none⟩ (.int .i64 0)).setCell ⟨w.heap.size, 7, none⟩ (.int .i64 0)).setCell ⟨w.heap.size, 8, none⟩ (.int .i64 0)).setCell ⟨w.heap.size, 9, none⟩ (.int .i64 0)).setCell ⟨w.heap.size, 10, none⟩ (.int .i64 0)).setCell ⟨w.heap.size, 11, none⟩ (.int .i64 0)).setCell ⟨w.heap.size, 12, none⟩ (.int .i64 0)).setCell ⟨w.heap.size, 13, none⟩ (.int .i64 0)).setCell ⟨w.heap.size, 14, none⟩ (.int .i64 0)) w.heap.size (⟨k, v1, v2, v3, 0, 0, 0, 0, 0, 0, 0, 0, 0, 0, 0⟩ : Ev) := EvBox.all HS3.out.rs (⟨k, v1, v2, v3, 0, 0, 0, 0, 0, 0, 0, 0, 0, 0, 0⟩ : Ev)
  have CF : Chg (fun k => k = w.heap.size) (u3.setCell ⟨w2.heap.size, 3, none⟩ (.int .i64 v3)) ((((((((((((((((u3.setCell ⟨w2.heap.size, 3, none⟩ (.int .i64 v3)).setCell ⟨w.heap.size, 0, none⟩ (.int .i64 k)).setCell ⟨w.heap.size, 1, none⟩ (.int .i64 v1)).setCell ⟨w.heap.size, 2, none⟩ (.int .i64 v2)).setCell ⟨w.heap.size, 3, none⟩ (.int .i64 v3)).setCell ⟨w.heap.size, 4, none⟩ (.int .i64 0)).setCell ⟨w.heap.size, 5, none⟩ (.int .i64 0)).setCell ⟨w.heap.size, 6, none⟩ (.int .i64 0)).setCell ⟨w.heap.size, 7, none⟩ (.int .i64 0)).setCell ⟨w.heap.size, 8, none⟩ (.int .i64 0)).setCell ⟨w.heap.size, 9, none⟩ (.int .i64 0)).setCell ⟨w.heap.size, 10, none⟩ (.int .i64 0)).setCell ⟨w.heap.size, 11, none⟩ (.int .i64 0)).setCell ⟨w.heap.size, 12, none⟩ (.int .i64 0)).setCell ⟨w.heap.size, 13, none⟩ (.int .i64 0)).setCell ⟨w.heap.size, 14, none⟩ (.int .i64 0)) := evAll_chg (u3.setCell ⟨w2.heap.size, 3, none⟩ (.int .i64 v3)) w.heap.size (⟨k, v1, v2, v3, 0, 0, 0, 0, 0, 0, 0, 0, 0, 0, 0⟩ : Ev)
  generalize ((((((((((((((((u3.setCell ⟨w2.heap.size, 3, none⟩ (.int .i64 v3)).setCell ⟨w.heap.size, 0, none⟩ (.int .i64 k)).setCell ⟨w.heap.size, 1, none⟩ (.int .i64 v1)).setCell ⟨w.heap.size, 2, none⟩ (.int .i64 v2)).setCell ⟨w.heap.size, 3, none⟩ (.int .i64 v3)).setCell ⟨w.heap.size, 4, none⟩ (.int .i64 0)).setCell ⟨w.heap.size, 5, none⟩ (.int .i64 0)).setCell ⟨w.heap.size, 6, none⟩ (.int .i64 0)).setCell ⟨w.heap.size, 7, none⟩ (.int .i64 0)).setCell ⟨w.heap.size, 8, none⟩ (.int .i64 0)).setCell ⟨w.heap.size, 9, none⟩ (.int .i64 0)).setCell ⟨w.heap.size, 10, none⟩ (.int .i64 0)).setCell ⟨w.heap.size, 11, none⟩ (.int .i64 0)).setCell ⟨w.heap.size, 12, none⟩ (.int .i64 0)).setCell ⟨w.heap.size, 13, none⟩ (.int .i64 0)).setCell ⟨w.heap.size, 14, none⟩ (.int .i64 0)) = WF at RF CF ⊢
  obtain ⟨d0, d1, d2, d3, d4, d5, d6, d7, d8, d9, d10, d11, d12, d13, d14⟩ := RF.at_
  simp only [Nat.zero_add] at d0 d1 d2 d3 d4 d5 d6 d7 d8 d9 d10 d11 d12 d13 d14
  obtain ⟨n1, n2, n3, n4, n5, n6⟩ := HS3.out.ne
  refine bodyPost_ret (v := evV (⟨k, v1, v2, v3, 0, 0, 0, 0, 0, 0, 0, 0, 0, 0, 0⟩ : Ev)) (by simp [results, Try.results33, go_sem, evV, d0, d1, d2, d3, d4, d5, d6, d7, d8, d9, d10, d11, d12, d13, d14]) rfl ?_
  exact ⟨rfl, HS3.out.ch.then_ CF (fun k hk e => by omega), HS3.out.src.keep CF (fun e => n2 e.symm) (fun k _ hk e => by omega), HS3.out.u8, HS3.out.len⟩
set_option maxRecDepth 100000 in
set_option maxHeartbeats 16000000 in
theorem one_ctx (b : Nat) (bs : List Int) (w : World) (h : RSrc L B w b bs 0) (hB : B ≤ w.heap.size) (hu : U8s bs) (hlen : bs.length ≤ 1000000) (k : Int) (bs1 : List Int) (hg : gotE 0 octM bs 0 = (k, bs1, 0)) (h1 : ¬ k < 1) (h7 : ¬ 7 < k) (hT : tT k = true) (hV : tV k = false) (hC : tC k = true) :
    Calls Try.prog 33 #[.pointer (some ⟨b, 0, none⟩)] w (OneK L B w b (nextK k bs1 0)) := by
  have hlt := h.err.lt
  have hgu := gotE_u8 (z := 0) (well_oct hu) hu 0
  rw [hg] at hgu
  have hw8 : IntKind.i64.wrap k = k := by
    rw [IntKind.wrap_i64]
    rcases hgu.2.2 with h | h <;> simp only at h <;> omega
  have hu1 : U8s bs1 := hgu.1
  have hl1 : bs1.length ≤ 1000000 := by have := hgu.2.1; simp only at this; omega
  have hal : Below w.heap.size w (w.alloc (.cells #[.int .i64 0, .int .i64 0, .int .i64 0, .int .i64 0, .int .i64 0, .int .i64 0, .int .i64 0, .int .i64 0, .int .i64 0, .int .i64 0, .int .i64 0, .int .i64 0, .int .i64 0, .int .i64 0, .int .i64 0] 30)) := below_al (Below.refl _ _) _
  have HAL := Lib.hid hal
  have hrs0 : EvBox (w.alloc (.cells #[.int .i64 0, .int .i64 0, .int .i64 0, .int .i64 0, .int .i64 0, .int .i64 0, .int .i64 0, .int .i64 0, .int .i64 0, .int .i64 0, .int .i64 0, .int .i64 0, .int .i64 0, .int .i64 0, .int .i64 0] 30)) w.heap.size ev00 := by
    have := EvBox.new w ev00 30
    simpa [evC, ev00] using this
  have HB0 := refByte (L := L) (B := B) b 0 bs (w.alloc (.cells #[.int .i64 0, .int .i64 0, .int .i64 0, .int .i64 0, .int .i64 0, .int .i64 0, .int .i64 0, .int .i64 0, .int .i64 0, .int .i64 0, .int .i64 0, .int .i64 0, .int .i64 0, .int .i64 0, .int .i64 0] 30)) (h.below hal)
  rw [hg] at HB0
  have HB := Lib.hid HB0
  have HU := Lib.hid hu1
  have HU1 := Lib.hid hl1
  have HL := Lib.hid hB
  have HRS := Lib.hid hrs0
  have hT0 : ∀ W, Calls Try.prog 45 #[.int .i64 k] W fun e w' => e = .returned (.bool true) ∧ W = w' := fun W => by have := rthreads k W; rw [hT] at this; exact this
  have hV0 : ∀ W, Calls Try.prog 46 #[.int .i64 k] W fun e w' => e = .returned (.bool false) ∧ W = w' := fun W => by have := rvalues k W; rw [hV] at this; exact this
  have HTT := Lib.hid hT0
  have HVV := Lib.hid hV0
  have hk2 : (k == 2) = true := hC
  obtain ⟨⟨v1, bs2, er2⟩, hq1⟩ : ∃ q, numQ true bs1 0 = q := ⟨_, rfl⟩
  have hwu1 := numQ_wrap hu1 true 0 hq1
  have hw1 : IntKind.i64.wrap v1 = v1 := hwu1.1
  obtain ⟨⟨v2, bs3, er3⟩, hq2⟩ : ∃ q, numQ true bs2 er2 = q := ⟨_, rfl⟩
  have hwu2 := numQ_wrap hwu1.2 true er2 hq2
  have hw2 : IntKind.i64.wrap v2 = v2 := hwu2.1
  obtain ⟨⟨v4, bs4, er4⟩, hq4⟩ : ∃ q, numQ true bs3 er3 = q := ⟨_, rfl⟩
  have hwu4 := numQ_wrap hwu2.2 true er3 hq4
  have hw4 : IntKind.i64.wrap v4 = v4 := hwu4.1
  obtain ⟨⟨v5, bs5, er5⟩, hq5⟩ : ∃ q, numQ true bs4 er4 = q := ⟨_, rfl⟩
  have hwu5 := numQ_wrap hwu4.2 true er4 hq5
  have hw5 : IntKind.i64.wrap v5 = v5 := hwu5.1
  obtain ⟨⟨v6, bs6, er6⟩, hq6⟩ : ∃ q, numQ true bs5 er5 = q := ⟨_, rfl⟩
  have hwu6 := numQ_wrap hwu5.2 true er5 hq6
  have hw6 : IntKind.i64.wrap v6 = v6 := hwu6.1
  have HR : Hid (nextK k bs1 0 = regsF 8 (⟨k, v1, v2, 0, v4, v5, 0, 0, 0, 0, 0, 0, 0, 0, v6⟩ : Ev) bs6 er6) := by
    show _ = _
    unfold nextK
    simp only [Q6, Q5, Q4, Q3, Q2, hT, hV, hC, numQ_no, hq1, hq2, hq4, hq5, hq6]
    rfl
  rw [HR.out]
  have HQ1 := Lib.hid hq1
  have HQ2 := Lib.hid hq2
  have HQ4 := Lib.hid hq4
  have HQ5 := Lib.hid hq5
  have HQ6 := Lib.hid hq6
  clear HR hg HB0 hu1 hl1 hB hal hrs0 hgu hT0 hV0 hT hV hC hq1 hwu1 hq2 hwu2 hq4 hwu4 hq5 hwu5 hq6 hwu6
  go_enter Try.func33, Try.ntmps33
  go_wp2_with (first
    | (go_at_call 53; (with_reducible refine HB.out.mono ?_); rintro x w2 ⟨rfl, hc2, hs2⟩; simp only at hs2; have HS0 : Hid (StO L B w (w2.alloc (.cells #[.int .i64 k, .int .i64 0, .int .i64 0, .int .i64 0, .int .i64 0, .int .i64 0, .int .i64 0, .int .i64 0, .int .i64 0, .int .i64 0, .int .i64 0, .int .i64 0, .int .i64 0, .int .i64 0, .int .i64 0] 30)) b w2.heap.size w.heap.size ⟨k, 0, 0, 0, 0, 0, 0, 0, 0, 0, 0, 0, 0, 0, 0⟩ bs1 0) := (by have hsz1 : w.heap.size + 1 ≤ w2.heap.size := (by have := hc2.size; simpa using this); have hbA : Below w2.heap.size w2 (w2.alloc (.cells #[.int .i64 k, .int .i64 0, .int .i64 0, .int .i64 0, .int .i64 0, .int .i64 0, .int .i64 0, .int .i64 0, .int .i64 0, .int .i64 0, .int .i64 0, .int .i64 0, .int .i64 0, .int .i64 0, .int .i64 0] 30)) := below_al (Below.refl _ _) _; have hcA : Chg (fun k => k = b) (w.alloc (.cells #[.int .i64 0, .int .i64 0, .int .i64 0, .int .i64 0, .int .i64 0, .int .i64 0, .int .i64 0, .int .i64 0, .int .i64 0, .int .i64 0, .int .i64 0, .int .i64 0, .int .i64 0, .int .i64 0, .int .i64 0] 30)) (w2.alloc (.cells #[.int .i64 k, .int .i64 0, .int .i64 0, .int .i64 0, .int .i64 0, .int .i64 0, .int .i64 0, .int .i64 0, .int .i64 0, .int .i64 0, .int .i64 0, .int .i64 0, .int .i64 0, .int .i64 0, .int .i64 0] 30)) := hc2.trans (Chg.of_below hbA); exact ⟨hs2.below hbA, HU.out, HU1.out, EvBox.new w2 ⟨k, 0, 0, 0, 0, 0, 0, 0, 0, 0, 0, 0, 0, 0, 0⟩ _, HRS.out.keep hcA (by omega), (Chg.of_below HAL.out).trans hcA, by have := HL.out; omega⟩); have z0 := HS0.out.src.err.cell; have HN1 := Lib.hid (HS0.out.num HQ1))
    | (go_at_call 37; (with_reducible refine HN1.out.mono ?_); rintro x u1 ⟨rfl, hs1⟩; (try simp only at hs1); have g1 := hs1.ev.c1.cell; have f1 := hs1.ev.c1.free; have HS1 := Lib.hid (hs1.p1 v1); have z1 := HS1.out.ev.c0.cell; simp only at z1; have HN2 := Lib.hid (HS1.out.num HQ2); clear HN1)
    | (go_at_call 37; (with_reducible refine HN2.out.mono ?_); rintro x u2 ⟨rfl, hs2⟩; (try simp only at hs2); have g2 := hs2.ev.c2.cell; have f2 := hs2.ev.c2.free; have HS2 := Lib.hid (hs2.p2 v2); have z2 := HS2.out.ev.c0.cell; simp only at z2; have HN4 := Lib.hid (HS2.out.num HQ4); clear HN2)
    | (go_at_call 37; (with_reducible refine HN4.out.mono ?_); rintro x u4 ⟨rfl, hs4⟩; (try simp only at hs4); have g4 := hs4.ev.c4.cell; have f4 := hs4.ev.c4.free; have HS4 := Lib.hid (hs4.p4 v4); have z4 := HS4.out.ev.c0.cell; simp only at z4; have HN5 := Lib.hid (HS4.out.num HQ5); clear HN4)
    | (go_at_call 37; (with_reducible refine HN5.out.mono ?_); rintro x u5 ⟨rfl, hs5⟩; (try simp only at hs5); have g5 := hs5.ev.c5.cell; have f5 := hs5.ev.c5.free; have HS5 := Lib.hid (hs5.p5 v5); have z5 := HS5.out.ev.c0.cell; simp only at z5; have HN6 := Lib.hid (HS5.out.num HQ6); clear HN5)
    | (go_at_call 37; (with_reducible refine HN6.out.mono ?_); rintro x u6 ⟨rfl, hs6⟩; (try simp only at hs6); have g6 := hs6.ev.c14.cell; have f6 := hs6.ev.c14.free; have HS6 := Lib.hid (hs6.p14 v6); have z6 := HS6.out.ev.c0.cell; simp only at z6)
    | (go_at_call 45; (with_reducible refine (HTT.out _).mono ?_); rintro x w9 ⟨rfl, rfl⟩)
    | (go_at_call 46; (with_reducible refine (HVV.out _).mono ?_); rintro x w9 ⟨rfl, rfl⟩))
  go_loopw [63] (fun i wr => ∃ j : Nat, j ≤ 8 ∧ i = .int .i64 j ∧ StO L B w wr b w2.heap.size w.heap.size (regsF j (⟨k, v1, v2, 0, v4, v5, 0, 0, 0, 0, 0, 0, 0, 0, v6⟩ : Ev) bs6 er6).1 (regsF j (⟨k, v1, v2, 0, v4, v5, 0, 0, 0, 0, 0, 0, 0, 0, v6⟩ : Ev) bs6 er6).2.1 (regsF j (⟨k, v1, v2, 0, v4, v5, 0, 0, 0, 0, 0, 0, 0, 0, v6⟩ : Ev) bs6 er6).2.2) (fun i _ => 8 - (intOf i).toNat)
  case atStart => exact ⟨0, by omega, rfl, HS6.out⟩
  case round =>
    obtain ⟨j, hj, rfl, hS⟩ := hrel
    clear z6 g6 f6
    have hcase : j = 0 ∨ j = 1 ∨ j = 2 ∨ j = 3 ∨ j = 4 ∨ j = 5 ∨ j = 6 ∨ j = 7 ∨ j = 8 := by omega
    rcases hcase with rfl | rfl | rfl | rfl | rfl | rfl | rfl | rfl | rfl
    · obtain ⟨⟨eR, bR, rR⟩, hR⟩ : ∃ q, regsF 0 (⟨k, v1, v2, 0, v4, v5, 0, 0, 0, 0, 0, 0, 0, 0, v6⟩ : Ev) bs6 er6 = q := ⟨_, rfl⟩
      rw [hR] at hS
      simp only at hS
      obtain ⟨⟨qv, qb, qe⟩, hq⟩ : ∃ q, intQ bR rR = q := ⟨_, rfl⟩
      have hI : Calls Try.prog 54 #[.pointer (some ⟨b, 0, none⟩), .int .i64 (-9223372036854775808), .int .i64 9223372036854775807] wr (TellsR (fun v => .int .i64 v) L B wr b (intQ bR rR)) := refInt (L := L) (B := B) b (-9223372036854775808) 9223372036854775807 rR bR wr hS.src hS.u8 hS.len
      have hu9 := intQ_u8 hS.u8 rR
      rw [hq] at hI hu9
      have HI := Lib.hid hI
      have HR : Hid (regsF (0 + 1) (⟨k, v1, v2, 0, v4, v5, 0, 0, 0, 0, 0, 0, 0, 0, v6⟩ : Ev) bs6 er6 = ({ eR with r0 := qv }, qb, qe)) := by
        show (setR (regsF 0 (⟨k, v1, v2, 0, v4, v5, 0, 0, 0, 0, 0, 0, 0, 0, v6⟩ : Ev) bs6 er6).1 0 (intQ (regsF 0 (⟨k, v1, v2, 0, v4, v5, 0, 0, 0, 0, 0, 0, 0, 0, v6⟩ : Ev) bs6 er6).2.1 (regsF 0 (⟨k, v1, v2, 0, v4, v5, 0, 0, 0, 0, 0, 0, 0, 0, v6⟩ : Ev) bs6 er6).2.2).1, (intQ (regsF 0 (⟨k, v1, v2, 0, v4, v5, 0, 0, 0, 0, 0, 0, 0, 0, v6⟩ : Ev) bs6 er6).2.1 (regsF 0 (⟨k, v1, v2, 0, v4, v5, 0, 0, 0, 0, 0, 0, 0, 0, v6⟩ : Ev) bs6 er6).2.2).2) = _
        rw [hR]
        simp only
        rw [hq]
        rfl
      have HU9 := Lib.hid hu9.1
      have HU8 := Lib.hid hu9.2.1
      have HS := Lib.hid hS
      clear hI hR hq hu9 hS
      go_wp2_with (go_at_call 54; (with_reducible refine HI.out.mono ?_); rintro x u9 ⟨rfl, hc9, hs9⟩; have S9 := HS.out.call hc9 hs9 HU9.out HU8.out; have g9 := S9.ev.c6.cell; have f9 := S9.ev.c6.free; have HS9 := Lib.hid (S9.put ((Chg.refl _ _).setCell w2.heap.size 6 (.int .i64 qv) rfl) (S9.ev.st6 qv)); clear S9)
      go_roundw
      case rel =>
        refine ⟨0 + 1, by omega, by first | rfl | go_num, ?_⟩
        rw [HR.out]
        exact HS9.out
      case measure => simp [intOf]
    · obtain ⟨⟨eR, bR, rR⟩, hR⟩ : ∃ q, regsF 1 (⟨k, v1, v2, 0, v4, v5, 0, 0, 0, 0, 0, 0, 0, 0, v6⟩ : Ev) bs6 er6 = q := ⟨_, rfl⟩
      rw [hR] at hS
      simp only at hS
      obtain ⟨⟨qv, qb, qe⟩, hq⟩ : ∃ q, intQ bR rR = q := ⟨_, rfl⟩
      have hI : Calls Try.prog 54 #[.pointer (some ⟨b, 0, none⟩), .int .i64 (-9223372036854775808), .int .i64 9223372036854775807] wr (TellsR (fun v => .int .i64 v) L B wr b (intQ bR rR)) := refInt (L := L) (B := B) b (-9223372036854775808) 9223372036854775807 rR bR wr hS.src hS.u8 hS.len
      have hu9 := intQ_u8 hS.u8 rR
      rw [hq] at hI hu9
      have HI := Lib.hid hI
      have HR : Hid (regsF (1 + 1) (⟨k, v1, v2, 0, v4, v5, 0, 0, 0, 0, 0, 0, 0, 0, v6⟩ : Ev) bs6 er6 = ({ eR with r1 := qv }, qb, qe)) := by
        show (setR (regsF 1 (⟨k, v1, v2, 0, v4, v5, 0, 0, 0, 0, 0, 0, 0, 0, v6⟩ : Ev) bs6 er6).1 1 (intQ (regsF 1 (⟨k, v1, v2, 0, v4, v5, 0, 0, 0, 0, 0, 0, 0, 0, v6⟩ : Ev) bs6 er6).2.1 (regsF 1 (⟨k, v1, v2, 0, v4, v5, 0, 0, 0, 0, 0, 0, 0, 0, v6⟩ : Ev) bs6 er6).2.2).1, (intQ (regsF 1 (⟨k, v1, v2, 0, v4, v5, 0, 0, 0, 0, 0, 0, 0, 0, v6⟩ : Ev) bs6 er6).2.1 (regsF 1 (⟨k, v1, v2, 0, v4, v5, 0, 0, 0, 0, 0, 0, 0, 0, v6⟩ : Ev) bs6 er6).2.2).2) = _
        rw [hR]
        simp only
        rw [hq]
        rfl
      have HU9 := Lib.hid hu9.1
      have HU8 := Lib.hid hu9.2.1
      have HS := Lib.hid hS
      clear hI hR hq hu9 hS
      go_wp2_with (go_at_call 54; (with_reducible refine HI.out.mono ?_); rintro x u9 ⟨rfl, hc9, hs9⟩; have S9 := HS.out.call hc9 hs9 HU9.out HU8.out; have g9 := S9.ev.c7.cell; have f9 := S9.ev.c7.free; have HS9 := Lib.hid (S9.put ((Chg.refl _ _).setCell w2.heap.size 7 (.int .i64 qv) rfl) (S9.ev.st7 qv)); clear S9)
      go_roundw
      case rel =>
        refine ⟨1 + 1, by omega, by first | rfl | go_num, ?_⟩
        rw [HR.out]
        exact HS9.out
      case measure => simp [intOf]
    · obtain ⟨⟨eR, bR, rR⟩, hR⟩ : ∃ q, regsF 2 (⟨k, v1, v2, 0, v4, v5, 0, 0, 0, 0, 0, 0, 0, 0, v6⟩ : Ev) bs6 er6 = q := ⟨_, rfl⟩
      rw [hR] at hS
      simp only at hS
      obtain ⟨⟨qv, qb, qe⟩, hq⟩ : ∃ q, intQ bR rR = q := ⟨_, rfl⟩
      have hI : Calls Try.prog 54 #[.pointer (some ⟨b, 0, none⟩), .int .i64 (-9223372036854775808), .int .i64 9223372036854775807] wr (TellsR (fun v => .int .i64 v) L B wr b (intQ bR rR)) := refInt (L := L) (B := B) b (-9223372036854775808) 9223372036854775807 rR bR wr hS.src hS.u8 hS.len
      have hu9 := intQ_u8 hS.u8 rR
      rw [hq] at hI hu9
      have HI := Lib.hid hI
      have HR : Hid (regsF (2 + 1) (⟨k, v1, v2, 0, v4, v5, 0, 0, 0, 0, 0, 0, 0, 0, v6⟩ : Ev) bs6 er6 = ({ eR with r2 := qv }, qb, qe)) := by
        show (setR (regsF 2 (⟨k, v1, v2, 0, v4, v5, 0, 0, 0, 0, 0, 0, 0, 0, v6⟩ : Ev) bs6 er6).1 2 (intQ (regsF 2 (⟨k, v1, v2, 0, v4, v5, 0, 0, 0, 0, 0, 0, 0, 0, v6⟩ : Ev) bs6 er6).2.1 (regsF 2 (⟨k, v1, v2, 0, v4, v5, 0, 0, 0, 0, 0, 0, 0, 0, v6⟩ : Ev) bs6 er6).2.2).1, (intQ (regsF 2 (⟨k, v1, v2, 0, v4, v5, 0, 0, 0, 0, 0, 0, 0, 0, v6⟩ : Ev) bs6 er6).2.1 (regsF 2 (⟨k, v1, v2, 0, v4, v5, 0, 0, 0, 0, 0, 0, 0, 0, v6⟩ : Ev) bs6 er6).2.2).2) = _
        rw [hR]
        simp only
        rw [hq]
        rfl
      have HU9 := Lib.hid hu9.1
      have HU8 := Lib.hid hu9.2.1
      have HS := Lib.hid hS
      clear hI hR hq hu9 hS
      go_wp2_with (go_at_call 54; (with_reducible refine HI.out.mono ?_); rintro x u9 ⟨rfl, hc9, hs9⟩; have S9 := HS.out.call hc9 hs9 HU9.out HU8.out; have g9 := S9.ev.c8.cell; have f9 := S9.ev.c8.free; have HS9 := Lib.hid (S9.put ((Chg.refl _ _).setCell w2.heap.size 8 (.int .i64 qv) rfl) (S9.ev.st8 qv)); clear S9)
      go_roundw
      case rel =>
        refine ⟨2 + 1, by omega, by first | rfl | go_num, ?_⟩
        rw [HR.out]
        exact HS9.out
      case measure => simp [intOf]
    · obtain ⟨⟨eR, bR, rR⟩, hR⟩ : ∃ q, regsF 3 (⟨k, v1, v2, 0, v4, v5, 0, 0, 0, 0, 0, 0, 0, 0, v6⟩ : Ev) bs6 er6 = q := ⟨_, rfl⟩
      rw [hR] at hS
      simp only at hS
      obtain ⟨⟨qv, qb, qe⟩, hq⟩ : ∃ q, intQ bR rR = q := ⟨_, rfl⟩
      have hI : Calls Try.prog 54 #[.pointer (some ⟨b, 0, none⟩), .int .i64 (-9223372036854775808), .int .i64 9223372036854775807] wr (TellsR (fun v => .int .i64 v) L B wr b (intQ bR rR)) := refInt (L := L) (B := B) b (-9223372036854775808) 9223372036854775807 rR bR wr hS.src hS.u8 hS.len
      have hu9 := intQ_u8 hS.u8 rR
      rw [hq] at hI hu9
      have HI := Lib.hid hI
      have HR : Hid (regsF (3 + 1) (⟨k, v1, v2, 0, v4, v5, 0, 0, 0, 0, 0, 0, 0, 0, v6⟩ : Ev) bs6 er6 = ({ eR with r3 := qv }, qb, qe)) := by
        show (setR (regsF 3 (⟨k, v1, v2, 0, v4, v5, 0, 0, 0, 0, 0, 0, 0, 0, v6⟩ : Ev) bs6 er6).1 3 (intQ (regsF 3 (⟨k, v1, v2, 0, v4, v5, 0, 0, 0, 0, 0, 0, 0, 0, v6⟩ : Ev) bs6 er6).2.1 (regsF 3 (⟨k, v1, v2, 0, v4, v5, 0, 0, 0, 0, 0, 0, 0, 0, v6⟩ : Ev) bs6 er6).2.2).1, (intQ (regsF 3 (⟨k, v1, v2, 0, v4, v5, 0, 0, 0, 0, 0, 0, 0, 0, v6⟩ : Ev) bs6 er6).2.1 (regsF 3 (⟨k, v1, v2, 0, v4, v5, 0, 0, 0, 0, 0, 0, 0, 0, v6⟩ : Ev) bs6 er6).2.2).2) = _
        rw [hR]
        simp only
        rw [hq]
        rfl
      have HU9 := Lib.hid hu9.1
      have HU8 := Lib.hid hu9.2.1
      have HS := Lib.hid hS
      clear hI hR hq hu9 hS
      go_wp2_with (go_at_call 54; (with_reducible refine HI.out.mono ?_); rintro x u9 ⟨rfl, hc9, hs9⟩; have S9 := HS.out.call hc9 hs9 HU9.out HU8.out; have g9 := S9.ev.c9.cell; have f9 := S9.ev.c9.free; have HS9 := Lib.hid (S9.put ((Chg.refl _ _).setCell w2.heap.size 9 (.int .i64 qv) rfl) (S9.ev.st9 qv)); clear S9)
      go_roundw
      case rel =>
        refine ⟨3 + 1, by omega, by first | rfl | go_num, ?_⟩
        rw [HR.out]
        exact HS9.out
      case measure => simp [intOf]
    · obtain ⟨⟨eR, bR, rR⟩, hR⟩ : ∃ q, regsF 4 (⟨k, v1, v2, 0, v4, v5, 0, 0, 0, 0, 0, 0, 0, 0, v6⟩ : Ev) bs6 er6 = q := ⟨_, rfl⟩
      rw [hR] at hS
      simp only at hS
      obtain ⟨⟨qv, qb, qe⟩, hq⟩ : ∃ q, intQ bR rR = q := ⟨_, rfl⟩
      have hI : Calls Try.prog 54 #[.pointer (some ⟨b, 0, none⟩), .int .i64 (-9223372036854775808), .int .i64 9223372036854775807] wr (TellsR (fun v => .int .i64 v) L B wr b (intQ bR rR)) := refInt (L := L) (B := B) b (-9223372036854775808) 9223372036854775807 rR bR wr hS.src hS.u8 hS.len
      have hu9 := intQ_u8 hS.u8 rR
      rw [hq] at hI hu9
      have HI := Lib.hid hI
      have HR : Hid (regsF (4 + 1) (⟨k, v1, v2, 0, v4, v5, 0, 0, 0, 0, 0, 0, 0, 0, v6⟩ : Ev) bs6 er6 = ({ eR with r4 := qv }, qb, qe)) := by
        show (setR (regsF 4 (⟨k, v1, v2, 0, v4, v5, 0, 0, 0, 0, 0, 0, 0, 0, v6⟩ : Ev) bs6 er6).1 4 (intQ (regsF 4 (⟨k, v1, v2, 0, v4, v5, 0, 0, 0, 0, 0, 0, 0, 0, v6⟩ : Ev) bs6 er6).2.1 (regsF 4 (⟨k, v1, v2, 0, v4, v5, 0, 0, 0, 0, 0, 0, 0, 0, v6⟩ : Ev) bs6 er6).2.2).1, (intQ (regsF 4 (⟨k, v1, v2, 0, v4, v5, 0, 0, 0, 0, 0, 0, 0, 0, v6⟩ : Ev) bs6 er6).2.1 (regsF 4 (⟨k, v1, v2, 0, v4, v5, 0, 0, 0, 0, 0, 0, 0, 0, v6⟩ : Ev) bs6 er6).2.2).2) = _
        rw [hR]
        simp only
        rw [hq]
        rfl
      have HU9 := Lib.hid hu9.1
      have HU8 := Lib.hid hu9.2.1
      have HS := Lib.hid hS
      clear hI hR hq hu9 hS
      go_wp2_with (go_at_call 54; (with_reducible refine HI.out.mono ?_); rintro x u9 ⟨rfl, hc9, hs9⟩; have S9 := HS.out.call hc9 hs9 HU9.out HU8.out; have g9 := S9.ev.c10.cell; have f9 := S9.ev.c10.free; have HS9 := Lib.hid (S9.put ((Chg.refl _ _).setCell w2.heap.size 10 (.int .i64 qv) rfl) (S9.ev.st10 qv)); clear S9)
      go_roundw
      case rel =>
        refine ⟨4 + 1, by omega, by first | rfl | go_num, ?_⟩
        rw [HR.out]
        exact HS9.out
      case measure => simp [intOf]
    · obtain ⟨⟨eR, bR, rR⟩, hR⟩ : ∃ q, regsF 5 (⟨k, v1, v2, 0, v4, v5, 0, 0, 0, 0, 0, 0, 0, 0, v6⟩ : Ev) bs6 er6 = q := ⟨_, rfl⟩
      rw [hR] at hS
      simp only at hS
      obtain ⟨⟨qv, qb, qe⟩, hq⟩ : ∃ q, intQ bR rR = q := ⟨_, rfl⟩
      have hI : Calls Try.prog 54 #[.pointer (some ⟨b, 0, none⟩), .int .i64 (-9223372036854775808), .int .i64 9223372036854775807] wr (TellsR (fun v => .int .i64 v) L B wr b (intQ bR rR)) := refInt (L := L) (B := B) b (-9223372036854775808) 9223372036854775807 rR bR wr hS.src hS.u8 hS.len
      have hu9 := intQ_u8 hS.u8 rR
      rw [hq] at hI hu9
      have HI := Lib.hid hI
      have HR : Hid (regsF (5 + 1) (⟨k, v1, v2, 0, v4, v5, 0, 0, 0, 0, 0, 0, 0, 0, v6⟩ : Ev) bs6 er6 = ({ eR with r5 := qv }, qb, qe)) := by
        show (setR (regsF 5 (⟨k, v1, v2, 0, v4, v5, 0, 0, 0, 0, 0, 0, 0, 0, v6⟩ : Ev) bs6 er6).1 5 (intQ (regsF 5 (⟨k, v1, v2, 0, v4, v5, 0, 0, 0, 0, 0, 0, 0, 0, v6⟩ : Ev) bs6 er6).2.1 (regsF 5 (⟨k, v1, v2, 0, v4, v5, 0, 0, 0, 0, 0, 0, 0, 0, v6⟩ : Ev) bs6 er6).2.2).1, (intQ (regsF 5 (⟨k, v1, v2, 0, v4, v5, 0, 0, 0, 0, 0, 0, 0, 0, v6⟩ : Ev) bs6 er6).2.1 (regsF 5 (⟨k, v1, v2, 0, v4, v5, 0, 0, 0, 0, 0, 0, 0, 0, v6⟩ : Ev) bs6 er6).2.2).2) = _
        rw [hR]
        simp only
        rw [hq]
        rfl
      have HU9 := Lib.hid hu9.1
      have HU8 := Lib.hid hu9.2.1
      have HS := Lib.hid hS
      clear hI hR hq hu9 hS
      go_wp2_with (go_at_call 54; (with_reducible refine HI.out.mono ?_); rintro x u9 ⟨rfl, hc9, hs9⟩; have S9 := HS.out.call hc9 hs9 HU9.out HU8.out; have g9 := S9.ev.c11.cell; have f9 := S9.ev.c11.free; have HS9 := Lib.hid (S9.put ((Chg.refl _ _).setCell w2.heap.size 11 (.int .i64 qv) rfl) (S9.ev.st11 qv)); clear S9)
      go_roundw
      case rel =>
        refine ⟨5 + 1, by omega, by first | rfl | go_num, ?_⟩
        rw [HR.out]
        exact HS9.out
      case measure => simp [intOf]
    · obtain ⟨⟨eR, bR, rR⟩, hR⟩ : ∃ q, regsF 6 (⟨k, v1, v2, 0, v4, v5, 0, 0, 0, 0, 0, 0, 0, 0, v6⟩ : Ev) bs6 er6 = q := ⟨_, rfl⟩
      rw [hR] at hS
      simp only at hS
      obtain ⟨⟨qv, qb, qe⟩, hq⟩ : ∃ q, intQ bR rR = q := ⟨_, rfl⟩
      have hI : Calls Try.prog 54 #[.pointer (some ⟨b, 0, none⟩), .int .i64 (-9223372036854775808), .int .i64 9223372036854775807] wr (TellsR (fun v => .int .i64 v) L B wr b (intQ bR rR)) := refInt (L := L) (B := B) b (-9223372036854775808) 9223372036854775807 rR bR wr hS.src hS.u8 hS.len
      have hu9 := intQ_u8 hS.u8 rR
      rw [hq] at hI hu9
      have HI := Lib.hid hI
      have HR : Hid (regsF (6 + 1) (⟨k, v1, v2, 0, v4, v5, 0, 0, 0, 0, 0, 0, 0, 0, v6⟩ : Ev) bs6 er6 = ({ eR with r6 := qv }, qb, qe)) := by
        show (setR (regsF 6 (⟨k, v1, v2, 0, v4, v5, 0, 0, 0, 0, 0, 0, 0, 0, v6⟩ : Ev) bs6 er6).1 6 (intQ (regsF 6 (⟨k, v1, v2, 0, v4, v5, 0, 0, 0, 0, 0, 0, 0, 0, v6⟩ : Ev) bs6 er6).2.1 (regsF 6 (⟨k, v1, v2, 0, v4, v5, 0, 0, 0, 0, 0, 0, 0, 0, v6⟩ : Ev) bs6 er6).2.2).1, (intQ (regsF 6 (⟨k, v1, v2, 0, v4, v5, 0, 0, 0, 0, 0, 0, 0, 0, v6⟩ : Ev) bs6 er6).2.1 (regsF 6 (⟨k, v1, v2, 0, v4, v5, 0, 0, 0, 0, 0, 0, 0, 0, v6⟩ : Ev) bs6 er6).2.2).2) = _
        rw [hR]
        simp only
        rw [hq]
        rfl
      have HU9 := Lib.hid hu9.1
      have HU8 := Lib.hid hu9.2.1
      have HS := Lib.hid hS
      clear hI hR hq hu9 hS
      go_wp2_with (go_at_call 54; (with_reducible refine HI.out.mono ?_); rintro x u9 ⟨rfl, hc9, hs9⟩; have S9 := HS.out.call hc9 hs9 HU9.out HU8.out; have g9 := S9.ev.c12.cell; have f9 := S9.ev.c12.free; have HS9 := Lib.hid (S9.put ((Chg.refl _ _).setCell w2.heap.size 12 (.int .i64 qv) rfl) (S9.ev.st12 qv)); clear S9)
      go_roundw
      case rel =>
        refine ⟨6 + 1, by omega, by first | rfl | go_num, ?_⟩
        rw [HR.out]
        exact HS9.out
      case measure => simp [intOf]
    · obtain ⟨⟨eR, bR, rR⟩, hR⟩ : ∃ q, regsF 7 (⟨k, v1, v2, 0, v4, v5, 0, 0, 0, 0, 0, 0, 0, 0, v6⟩ : Ev) bs6 er6 = q := ⟨_, rfl⟩
      rw [hR] at hS
      simp only at hS
      obtain ⟨⟨qv, qb, qe⟩, hq⟩ : ∃ q, intQ bR rR = q := ⟨_, rfl⟩
      have hI : Calls Try.prog 54 #[.pointer (some ⟨b, 0, none⟩), .int .i64 (-9223372036854775808), .int .i64 9223372036854775807] wr (TellsR (fun v => .int .i64 v) L B wr b (intQ bR rR)) := refInt (L := L) (B := B) b (-9223372036854775808) 9223372036854775807 rR bR wr hS.src hS.u8 hS.len
      have hu9 := intQ_u8 hS.u8 rR
      rw [hq] at hI hu9
      have HI := Lib.hid hI
      have HR : Hid (regsF (7 + 1) (⟨k, v1, v2, 0, v4, v5, 0, 0, 0, 0, 0, 0, 0, 0, v6⟩ : Ev) bs6 er6 = ({ eR with r7 := qv }, qb, qe)) := by
        show (setR (regsF 7 (⟨k, v1, v2, 0, v4, v5, 0, 0, 0, 0, 0, 0, 0, 0, v6⟩ : Ev) bs6 er6).1 7 (intQ (regsF 7 (⟨k, v1, v2, 0, v4, v5, 0, 0, 0, 0, 0, 0, 0, 0, v6⟩ : Ev) bs6 er6).2.1 (regsF 7 (⟨k, v1, v2, 0, v4, v5, 0, 0, 0, 0, 0, 0, 0, 0, v6⟩ : Ev) bs6 er6).2.2).1, (intQ (regsF 7 (⟨k, v1, v2, 0, v4, v5, 0, 0, 0, 0, 0, 0, 0, 0, v6⟩ : Ev) bs6 er6).2.1 (regsF 7 (⟨k, v1, v2, 0, v4, v5, 0, 0, 0, 0, 0, 0, 0, 0, v6⟩ : Ev) bs6 er6).2.2).2) = _
        rw [hR]
        simp only
        rw [hq]
        rfl
      have HU9 := Lib.hid hu9.1
      have HU8 := Lib.hid hu9.2.1
      have HS := Lib.hid hS
      clear hI hR hq hu9 hS
      go_wp2_with (go_at_call 54; (with_reducible refine HI.out.mono ?_); rintro x u9 ⟨rfl, hc9, hs9⟩; have S9 := HS.out.call hc9 hs9 HU9.out HU8.out; have g9 := S9.ev.c13.cell; have f9 := S9.ev.c13.free; have HS9 := Lib.hid (S9.put ((Chg.refl _ _).setCell w2.heap.size 13 (.int .i64 qv) rfl) (S9.ev.st13 qv)); clear S9)
      go_roundw
      case rel =>
        refine ⟨7 + 1, by omega, by first | rfl | go_num, ?_⟩
        rw [HR.out]
        exact HS9.out
      case measure => simp [intOf]
    · obtain ⟨⟨⟨a0, a1, a2, a3, a4, a5, a6, a7, a8, a9, a10, a11, a12, a13, a14⟩, bR, rR⟩, hR⟩ : ∃ q, regsF 8 (⟨k, v1, v2, 0, v4, v5, 0, 0, 0, 0, 0, 0, 0, 0, v6⟩ : Ev) bs6 er6 = q := ⟨_, rfl⟩
      rw [hR] at hS
      simp only at hS
      have HS := Lib.hid hS
      have HR := Lib.hid hR
      have k0 := hS.ev.c0.cell
      have r0 := hS.rs.c0.cell
      have q0 := hS.rs.c0.free
      have k1 := hS.ev.c1.cell
      have r1 := hS.rs.c1.cell
      have q1 := hS.rs.c1.free
      have k2 := hS.ev.c2.cell
      have r2 := hS.rs.c2.cell
      have q2 := hS.rs.c2.free
      have k3 := hS.ev.c3.cell
      have r3 := hS.rs.c3.cell
      have q3 := hS.rs.c3.free
      have k4 := hS.ev.c4.cell
      have r4 := hS.rs.c4.cell
      have q4 := hS.rs.c4.free
      have k5 := hS.ev.c5.cell
      have r5 := hS.rs.c5.cell
      have q5 := hS.rs.c5.free
      have k6 := hS.ev.c6.cell
      have r6 := hS.rs.c6.cell
      have q6 := hS.rs.c6.free
      have k7 := hS.ev.c7.cell
      have r7 := hS.rs.c7.cell
      have q7 := hS.rs.c7.free
      have k8 := hS.ev.c8.cell
      have r8 := hS.rs.c8.cell
      have q8 := hS.rs.c8.free
      have k9 := hS.ev.c9.cell
      have r9 := hS.rs.c9.cell
      have q9 := hS.rs.c9.free
      have k10 := hS.ev.c10.cell
      have r10 := hS.rs.c10.cell
      have q10 := hS.rs.c10.free
      have k11 := hS.ev.c11.cell
      have r11 := hS.rs.c11.cell
      have q11 := hS.rs.c11.free
      have k12 := hS.ev.c12.cell
      have r12 := hS.rs.c12.cell
      have q12 := hS.rs.c12.free
      have k13 := hS.ev.c13.cell
      have r13 := hS.rs.c13.cell
      have q13 := hS.rs.c13.free
      have k14 := hS.ev.c14.cell
      have r14 := hS.rs.c14.cell
      have q14 := hS.rs.c14.free
      simp only at k0 k1 k2 k3 k4 k5 k6 k7 k8 k9 k10 k11 k12 k13 k14
      clear hS hR
      go_wp2
      clear k0 k1 k2 k3 k4 k5 k6 k7 k8 k9 k10 k11 k12 k13 k14 r0 r1 r2 r3 r4 r5 r6 r7 r8 r9 r10 r11 r12 r13 r14 q0 q1 q2 q3 q4 q5 q6 q7 q8 q9 q10 q11 q12 q13 q14
      have RF : EvBox (((((((((((((((wr.setCell ⟨w.heap.size, 0, none⟩ (.int .i64 a0)).setCell ⟨w.heap.size, 1, none⟩ (.int .i64 a1)).setCell ⟨w.heap.size, 2, none⟩ (.int .i64 a2)).setCell ⟨w.heap.size, 3, none⟩ (.int .i64 a3)).setCell ⟨w.heap.size, 4, none⟩ (.int .i64 a4)).setCell ⟨w.heap.size, 5, none⟩ (.int .i64 a5)).setCell ⟨w.heap.size, 6, none⟩ (.int .i64 a6)).setCell ⟨w.heap.size, 7, none⟩ (.int .i64 a7)).setCell ⟨w.heap.size, 8, none⟩ (.int .i64 a8)).setCell ⟨w.heap.size, 9, none⟩ (.int .i64 a9)).setCell ⟨w.heap.size, 10, none⟩ (.int .i64 a10)).setCell ⟨w.heap.size, 11, none⟩ (.int .i64 a11)).setCell ⟨w.heap.size, 12, none⟩ (.int .i64 a12)).setCell ⟨w.heap.size, 13, none⟩ (.int .i64 a13)).setCell ⟨w.heap.size, 14, none⟩ (.int .i64 a14)) w.heap.size (⟨a0, a1, a2, a3, a4, a5, a6, a7, a8, a9, a10, a11, a12, a13, a14⟩ : Ev) := EvBox.all HS.out.rs (⟨a0, a1, a2, a3, a4, a5, a6, a7, a8, a9, a10, a11, a12, a13, a14⟩ : Ev)
      have CF : Chg (fun k => k = w.heap.size) wr (((((((((((((((wr.setCell ⟨w.heap.size, 0, none⟩ (.int .i64 a0)).setCell ⟨w.heap.size, 1, none⟩ (.int .i64 a1)).setCell ⟨w.heap.size, 2, none⟩ (.int .i64 a2)).setCell ⟨w.heap.size, 3, none⟩ (.int .i64 a3)).setCell ⟨w.heap.size, 4, none⟩ (.int .i64 a4)).setCell ⟨w.heap.size, 5, none⟩ (.int .i64 a5)).setCell ⟨w.heap.size, 6, none⟩ (.int .i64 a6)).setCell ⟨w.heap.size, 7, none⟩ (.int .i64 a7)).setCell ⟨w.heap.size, 8, none⟩ (.int .i64 a8)).setCell ⟨w.heap.size, 9, none⟩ (.int .i64 a9)).setCell ⟨w.heap.size, 10, none⟩ (.int .i64 a10)).setCell ⟨w.heap.size, 11, none⟩ (.int .i64 a11)).setCell ⟨w.heap.size, 12, none⟩ (.int .i64 a12)).setCell ⟨w.heap.size, 13, none⟩ (.int .i64 a13)).setCell ⟨w.heap.size, 14, none⟩ (.int .i64 a14)) := evAll_chg wr w.heap.size (⟨a0, a1, a2, a3, a4, a5, a6, a7, a8, a9, a10, a11, a12, a13, a14⟩ : Ev)
      generalize (((((((((((((((wr.setCell ⟨w.heap.size, 0, none⟩ (.int .i64 a0)).setCell ⟨w.heap.size, 1, none⟩ (.int .i64 a1)).setCell ⟨w.heap.size, 2, none⟩ (.int .i64 a2)).setCell ⟨w.heap.size, 3, none⟩ (.int .i64 a3)).setCell ⟨w.heap.size, 4, none⟩ (.int .i64 a4)).setCell ⟨w.heap.size, 5, none⟩ (.int .i64 a5)).setCell ⟨w.heap.size, 6, none⟩ (.int .i64 a6)).setCell ⟨w.heap.size, 7, none⟩ (.int .i64 a7)).setCell ⟨w.heap.size, 8, none⟩ (.int .i64 a8)).setCell ⟨w.heap.size, 9, none⟩ (.int .i64 a9)).setCell ⟨w.heap.size, 10, none⟩ (.int .i64 a10)).setCell ⟨w.heap.size, 11, none⟩ (.int .i64 a11)).setCell ⟨w.heap.size, 12, none⟩ (.int .i64 a12)).setCell ⟨w.heap.size, 13, none⟩ (.int .i64 a13)).setCell ⟨w.heap.size, 14, none⟩ (.int .i64 a14)) = WF at RF CF ⊢
      obtain ⟨d0, d1, d2, d3, d4, d5, d6, d7, d8, d9, d10, d11, d12, d13, d14⟩ := RF.at_
      simp only [Nat.zero_add] at d0 d1 d2 d3 d4 d5 d6 d7 d8 d9 d10 d11 d12 d13 d14
      obtain ⟨n1, n2, n3, n4, n5, n6⟩ := HS.out.ne
      refine bodyPost_ret (v := evV (⟨a0, a1, a2, a3, a4, a5, a6, a7, a8, a9, a10, a11, a12, a13, a14⟩ : Ev)) (by simp [results, Try.results33, go_sem, evV, d0, d1, d2, d3, d4, d5, d6, d7, d8, d9, d10, d11, d12, d13, d14]) rfl ?_
      rw [HR.out]
      exact ⟨rfl, HS.out.ch.then_ CF (fun k hk e => by omega), HS.out.src.keep CF (fun e => n2 e.symm) (fun k _ hk e => by omega), HS.out.u8, HS.out.len⟩
end Go.Proofs.Ytdnddoiemaifjaa
