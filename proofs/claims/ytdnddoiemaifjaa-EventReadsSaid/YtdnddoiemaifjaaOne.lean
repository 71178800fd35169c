/- The reference's one: the event that a source goes on with. -/
import Derived.Test.YtdnddoiemaifjaaNextNo
import Derived.Test.YtdnddoiemaifjaaRefRead
import Derived.Test.YtdnddoiemaifjaaRefGood
namespace Go.Proofs.Ytdnddoiemaifjaa
open Go.RowKit
variable {L B : Nat}
structure StO (L B : Nat) (w0 W : World) (b eb rb : Nat) (e : Ev) (bs : List Int) (er : Int) : Prop where
  src : RSrc L B W b bs er
  u8 : U8s bs
  len : bs.length ≤ 1000000
  ev : EvBox W eb e
  rs : EvBox W rb ev00
  ch : Chg (fun k => k = b) w0 W
  ne : eb ≠ b ∧ rb ≠ b ∧ rb ≠ eb ∧ w0.heap.size ≤ eb ∧ w0.heap.size ≤ rb ∧ B ≤ w0.heap.size
theorem StO.put {w0 W W' : World} {b eb rb : Nat} {e e' : Ev} {bs : List Int} {er : Int} (h : StO L B w0 W b eb rb e bs er) (hc : Chg (fun k => k = eb) W W') (he : EvBox W' eb e') : StO L B w0 W' b eb rb e' bs er := by
  obtain ⟨n1, n2, n3, n4, n5, n6⟩ := h.ne
  exact ⟨h.src.keep hc (fun e => n1 e.symm) (fun k _ hk e => by omega), h.u8, h.len, he, h.rs.keep hc n3, h.ch.then_ hc (fun k hk e => by omega), h.ne⟩
theorem StO.call {w0 W W' : World} {b eb rb : Nat} {e : Ev} {bs bs' : List Int} {er er' : Int} (h : StO L B w0 W b eb rb e bs er) (hc : Chg (fun k => k = b) W W') (hs : RSrc L B W' b bs' er') (hu : U8s bs') (hl : bs'.length ≤ bs.length) : StO L B w0 W' b eb rb e bs' er' :=
  ⟨hs, hu, Nat.le_trans hl h.len, h.ev.keep hc h.ne.1, h.rs.keep hc h.ne.2.1, h.ch.trans hc, h.ne⟩
theorem StO.num {w0 W : World} {b eb rb : Nat} {e : Ev} {bs : List Int} {er : Int} (h : StO L B w0 W b eb rb e bs er) {q : Int × List Int × Int} (hq : Hid (numQ true bs er = q)) :
    Calls Try.prog 37 #[.pointer (some ⟨b, 0, none⟩), .int .u64 4611686018427387904] W fun x W' => x = .returned (.int .u64 q.1) ∧ StO L B w0 W' b eb rb e q.2.1 q.2.2 := by
  have hu := numQ_u8 h.u8 true er
  rw [hq.out] at hu
  have hQ : Calls Try.prog 37 #[.pointer (some ⟨b, 0, none⟩), .int .u64 4611686018427387904] W (TellsR (fun v : Nat => .int .u64 v) L B W b (gotE 0 (fun bs => numM bs 4611686018427387904) bs er)) := refNum (L := L) (B := B) b 4611686018427387904 er bs W h.src h.u8 h.len
  refine hQ.mono ?_
  have e1 := hq.out
  unfold numQ at e1
  rw [if_pos rfl] at e1
  subst e1
  rintro x W' ⟨he, hc, hs⟩
  exact ⟨he, h.call hc hs hu.1 hu.2.1⟩
theorem StO.p1 {w0 W : World} {b eb rb : Nat} {e : Ev} {bs : List Int} {er : Int} (h : StO L B w0 W b eb rb e bs er) (v : Int) : StO L B w0 (W.setCell ⟨eb, 1, none⟩ (.int .i64 v)) b eb rb { e with act := v } bs er := h.put ((Chg.refl _ _).setCell eb 1 _ rfl) (h.ev.st1 v)
theorem StO.p2 {w0 W : World} {b eb rb : Nat} {e : Ev} {bs : List Int} {er : Int} (h : StO L B w0 W b eb rb e bs er) (v : Int) : StO L B w0 (W.setCell ⟨eb, 2, none⟩ (.int .i64 v)) b eb rb { e with thread := v } bs er := h.put ((Chg.refl _ _).setCell eb 2 _ rfl) (h.ev.st2 v)
theorem StO.p3 {w0 W : World} {b eb rb : Nat} {e : Ev} {bs : List Int} {er : Int} (h : StO L B w0 W b eb rb e bs er) (v : Int) : StO L B w0 (W.setCell ⟨eb, 3, none⟩ (.int .i64 v)) b eb rb { e with value := v } bs er := h.put ((Chg.refl _ _).setCell eb 3 _ rfl) (h.ev.st3 v)
theorem StO.p4 {w0 W : World} {b eb rb : Nat} {e : Ev} {bs : List Int} {er : Int} (h : StO L B w0 W b eb rb e bs er) (v : Int) : StO L B w0 (W.setCell ⟨eb, 4, none⟩ (.int .i64 v)) b eb rb { e with program := v } bs er := h.put ((Chg.refl _ _).setCell eb 4 _ rfl) (h.ev.st4 v)
theorem StO.p5 {w0 W : World} {b eb rb : Nat} {e : Ev} {bs : List Int} {er : Int} (h : StO L B w0 W b eb rb e bs er) (v : Int) : StO L B w0 (W.setCell ⟨eb, 5, none⟩ (.int .i64 v)) b eb rb { e with pc := v } bs er := h.put ((Chg.refl _ _).setCell eb 5 _ rfl) (h.ev.st5 v)
theorem StO.p14 {w0 W : World} {b eb rb : Nat} {e : Ev} {bs : List Int} {er : Int} (h : StO L B w0 W b eb rb e bs er) (v : Int) : StO L B w0 (W.setCell ⟨eb, 14, none⟩ (.int .i64 v)) b eb rb { e with depth := v } bs er := h.put ((Chg.refl _ _).setCell eb 14 _ rfl) (h.ev.st14 v)
theorem numQ_wrap {bs : List Int} (hb : U8s bs) (so : Bool) (er : Int) {q : Int × List Int × Int} (hq : numQ so bs er = q) : IntKind.i64.wrap q.1 = q.1 ∧ U8s q.2.1 := by
  have hu := numQ_u8 hb so er
  rw [hq] at hu
  refine ⟨?_, hu.1⟩
  rw [IntKind.wrap_i64]
  omega
/-- What one leaves, of a kind whose numbers are read on from an error er. -/
def OneK (L B : Nat) (w : World) (b : Nat) (r : Ev × List Int × Int) (e : Ending) (w' : World) : Prop := e = .returned (evV r.1) ∧ Chg (fun k => k = b) w w' ∧ RSrc L B w' b r.2.1 r.2.2 ∧ U8s r.2.1 ∧ r.2.1.length ≤ 1000000
theorem numQ_no (bs : List Int) (er : Int) : numQ false bs er = (0, bs, er) := rfl
set_option maxRecDepth 100000 in
set_option maxHeartbeats 16000000 in
theorem one_none (b : Nat) (bs : List Int) (w : World) (h : RSrc L B w b bs 0) (hB : B ≤ w.heap.size) (hu : U8s bs) (hlen : bs.length ≤ 1000000) (k : Int) (bs1 : List Int) (hg : gotE 0 octM bs 0 = (k, bs1, 0)) (h1 : ¬ k < 1) (h7 : ¬ 7 < k) (hT : tT k = false) (hV : tV k = false) (hC : tC k = false) :
    Calls Try.prog 33 #[.pointer (some ⟨b, 0, none⟩)] w (OneK L B w b (nextK k bs1 0)) := by
  have hlt := h.err.lt
  have hgu := gotE_u8 (z := 0) (well_oct hu) hu 0
  rw [hg] at hgu
  have hw8 : IntKind.i64.wrap k = k := by
    rw [IntKind.wrap_i64]
    rcases hgu.2.2 with h | h <;> simp only at h <;> omega
  have hu1 : U8s bs1 := hgu.1
  have hl1 : bs1.length ≤ 1000000 := by have := hgu.2.1; simp only at this; omega
  have hal : Below w.heap.size w (w.alloc (.cells #[.int .i64 0, .int .i64 0, .int .i64 0, .int .i64 0, .int .i64 0, .int .i64 0, .int .i64 0, .int .i64 0, .int .i64 0, .int .i64 0, .int .i64 0, .int .i64 0, .int .i64 0, .int .i64 0, .int .i64 0] 30)) := below_al (Below.refl _ _) _
  have HAL := Lib.hid hal
  have hrs0 : EvBox (w.alloc (.cells #[.int .i64 0, .int .i64 0, .int .i64 0, .int .i64 0, .int .i64 0, .int .i64 0, .int .i64 0, .int .i64 0, .int .i64 0, .int .i64 0, .int .i64 0, .int .i64 0, .int .i64 0, .int .i64 0, .int .i64 0] 30)) w.heap.size ev00 := by
    have := EvBox.new w ev00 30
    simpa [evC, ev00] using this
  have HB0 := refByte (L := L) (B := B) b 0 bs (w.alloc (.cells #[.int .i64 0, .int .i64 0, .int .i64 0, .int .i64 0, .int .i64 0, .int .i64 0, .int .i64 0, .int .i64 0, .int .i64 0, .int .i64 0, .int .i64 0, .int .i64 0, .int .i64 0, .int .i64 0, .int .i64 0] 30)) (h.below hal)
  rw [hg] at HB0
  have HB := Lib.hid HB0
  have HU := Lib.hid hu1
  have HU1 := Lib.hid hl1
  have HL := Lib.hid hB
  have HRS := Lib.hid hrs0
  have hT0 : ∀ W, Calls Try.prog 45 #[.int .i64 k] W fun e w' => e = .returned (.bool false) ∧ W = w' := fun W => by have := rthreads k W; rw [hT] at this; exact this
  have hV0 : ∀ W, Calls Try.prog 46 #[.int .i64 k] W fun e w' => e = .returned (.bool false) ∧ W = w' := fun W => by have := rvalues k W; rw [hV] at this; exact this
  have HTT := Lib.hid hT0
  have HVV := Lib.hid hV0
  have hk2 : (k == 2) = false := hC
  obtain ⟨⟨v1, bs2, er2⟩, hq1⟩ : ∃ q, numQ true bs1 0 = q := ⟨_, rfl⟩
  have hwu1 := numQ_wrap hu1 true 0 hq1
  have hw1 : IntKind.i64.wrap v1 = v1 := hwu1.1
  have HR : Hid (nextK k bs1 0 = ((⟨k, v1, 0, 0, 0, 0, 0, 0, 0, 0, 0, 0, 0, 0, 0⟩ : Ev), bs2, er2)) := by
    show _ = _
    unfold nextK
    simp only [Q6, Q5, Q4, Q3, Q2, hT, hV, numQ_no, hq1]
    rw [hC]
    rfl
  rw [HR.out]
  have HQ1 := Lib.hid hq1
  clear HR hg HB0 hu1 hl1 hB hal hrs0 hgu hT0 hV0 hT hV hC hq1 hwu1
  go_enter Try.func33, Try.ntmps33
  go_wp2_with (first
    | (go_at_call 53; (with_reducible refine HB.out.mono ?_); rintro x w2 ⟨rfl, hc2, hs2⟩; simp only at hs2; have HS0 : Hid (StO L B w (w2.alloc (.cells #[.int .i64 k, .int .i64 0, .int .i64 0, .int .i64 0, .int .i64 0, .int .i64 0, .int .i64 0, .int .i64 0, .int .i64 0, .int .i64 0, .int .i64 0, .int .i64 0, .int .i64 0, .int .i64 0, .int .i64 0] 30)) b w2.heap.size w.heap.size ⟨k, 0, 0, 0, 0, 0, 0, 0, 0, 0, 0, 0, 0, 0, 0⟩ bs1 0) := (by have hsz1 : w.heap.size + 1 ≤ w2.heap.size := (by have := hc2.size; simpa using this); have hbA : Below w2.heap.size w2 (w2.alloc (.cells #[.int .i64 k, .int .i64 0, .int .i64 0, .int .i64 0, .int .i64 0, .int .i64 0, .int .i64 0, .int .i64 0, .int .i64 0, .int .i64 0, .int .i64 0, .int .i64 0, .int .i64 0, .int .i64 0, .int .i64 0] 30)) := below_al (Below.refl _ _) _; have hcA : Chg (fun k => k = b) (w.alloc (.cells #[.int .i64 0, .int .i64 0, .int .i64 0, .int .i64 0, .int .i64 0, .int .i64 0, .int .i64 0, .int .i64 0, .int .i64 0, .int .i64 0, .int .i64 0, .int .i64 0, .int .i64 0, .int .i64 0, .int .i64 0] 30)) (w2.alloc (.cells #[.int .i64 k, .int .i64 0, .int .i64 0, .int .i64 0, .int .i64 0, .int .i64 0, .int .i64 0, .int .i64 0, .int .i64 0, .int .i64 0, .int .i64 0, .int .i64 0, .int .i64 0, .int .i64 0, .int .i64 0] 30)) := hc2.trans (Chg.of_below hbA); exact ⟨hs2.below hbA, HU.out, HU1.out, EvBox.new w2 ⟨k, 0, 0, 0, 0, 0, 0, 0, 0, 0, 0, 0, 0, 0, 0⟩ _, HRS.out.keep hcA (by omega), (Chg.of_below HAL.out).trans hcA, by have := HL.out; omega⟩); have z0 := HS0.out.src.err.cell; have HN1 := Lib.hid (HS0.out.num HQ1))
    | (go_at_call 37; (with_reducible refine HN1.out.mono ?_); rintro x u1 ⟨rfl, hs1⟩; (try simp only at hs1); have g1 := hs1.ev.c1.cell; have f1 := hs1.ev.c1.free; have HS1 := Lib.hid (hs1.p1 v1); have z1 := HS1.out.ev.c0.cell; simp only at z1; have EE := HS1.out.ev; have RR := HS1.out.rs; have k0 := EE.c0.cell; have r0 := RR.c0.cell; have q0 := RR.c0.free; have k1 := EE.c1.cell; have r1 := RR.c1.cell; have q1 := RR.c1.free; have k2 := EE.c2.cell; have r2 := RR.c2.cell; have q2 := RR.c2.free; have k3 := EE.c3.cell; have r3 := RR.c3.cell; have q3 := RR.c3.free; have k4 := EE.c4.cell; have r4 := RR.c4.cell; have q4 := RR.c4.free; have k5 := EE.c5.cell; have r5 := RR.c5.cell; have q5 := RR.c5.free; have k6 := EE.c6.cell; have r6 := RR.c6.cell; have q6 := RR.c6.free; have k7 := EE.c7.cell; have r7 := RR.c7.cell; have q7 := RR.c7.free; have k8 := EE.c8.cell; have r8 := RR.c8.cell; have q8 := RR.c8.free; have k9 := EE.c9.cell; have r9 := RR.c9.cell; have q9 := RR.c9.free; have k10 := EE.c10.cell; have r10 := RR.c10.cell; have q10 := RR.c10.free; have k11 := EE.c11.cell; have r11 := RR.c11.cell; have q11 := RR.c11.free; have k12 := EE.c12.cell; have r12 := RR.c12.cell; have q12 := RR.c12.free; have k13 := EE.c13.cell; have r13 := RR.c13.cell; have q13 := RR.c13.free; have k14 := EE.c14.cell; have r14 := RR.c14.cell; have q14 := RR.c14.free; simp only at k0 k1 k2 k3 k4 k5 k6 k7 k8 k9 k10 k11 k12 k13 k14; clear EE RR)
    | (go_at_call 45; (with_reducible refine (HTT.out _).mono ?_); rintro x w9 ⟨rfl, rfl⟩)
    | (go_at_call 46; (with_reducible refine (HVV.out _).mono ?_); rintro x w9 ⟨rfl, rfl⟩))
  clear k0 r0 q0 k1 r1 q1 k2 r2 q2 k3 r3 q3 k4 r4 q4 k5 r5 q5 k6 r6 q6 k7 r7 q7 k8 r8 q8 k9 r9 q9 k10 r10 q10 k11 r11 q11 k12 r12 q12 k13 r13 q13 k14 r14 q14
  have RF : EvBox ((((((((((((((((u1.setCell ⟨w2.heap.size, 1, none⟩ (.int .i64 v1)).setCell ⟨w.heap.size, 0, none⟩ (.int .i64 k)).setCell ⟨w.heap.size, 1, none⟩ (.int .i64 v1)).setCell ⟨w.heap.size, 2, none⟩ (.int .i64 0)).setCell ⟨w.heap.size, 3, none⟩ (.int .i64 0)).setCell ⟨w.heap.size, 4, none⟩ (.int .i64 0)).setCell ⟨w.heap.size, 5, none⟩ (.int .i64 0)).setCell ⟨w.heap.size, 6, none⟩ (.int .i64 0)).setCell ⟨w.heap.size, 7, none⟩ (.int .i64 0)).setCell ⟨w.heap.size, 8, none⟩ (.int .i64 0)).setCell ⟨w.heap.size, 9, none⟩ (.int .i64 0)).setCell ⟨w.heap.size, 10, none⟩ (.int .i64 0)).setCell ⟨w.heap.size, 11, none⟩ (.int .i64 0)).setCell ⟨w.heap.size, 12, none⟩ (.int .i64 0)).setCell ⟨w.heap.size, 13, none⟩ (.int .i64 0)).setCell ⟨w.heap.size, 14, none⟩ (.int .i64 0)) w.heap.size (⟨k, v1, 0, 0, 0, 0, 0, 0, 0, 0, 0, 0, 0, 0, 0⟩ : Ev) := EvBox.all HS1.out.rs (⟨k, v1, 0, 0, 0, 0, 0, 0, 0, 0, 0, 0, 0, 0, 0⟩ : Ev)
  have CF : Chg (fun k => k = w.heap.size) (u1.setCell ⟨w2.heap.size, 1, none⟩ (.int .i64 v1)) ((((((((((((((((u1.setCell ⟨w2.heap.size, 1, none⟩ (.int .i64 v1)).setCell ⟨w.heap.size, 0, none⟩ (.int .i64 k)).setCell ⟨w.heap.size, 1, none⟩ (.int .i64 v1)).setCell ⟨w.heap.size, 2, none⟩ (.int .i64 0)).setCell ⟨w.heap.size, 3, none⟩ (.int .i64 0)).setCell ⟨w.heap.size, 4, none⟩ (.int .i64 0)).setCell ⟨w.heap.size, 5, none⟩ (.int .i64 0)).setCell ⟨w.heap.size, 6, none⟩ (.int .i64 0)).setCell ⟨w.heap.size, 7, none⟩ (.int .i64 0)).setCell ⟨w.heap.size, 8, none⟩ (.int .i64 0)).setCell ⟨w.heap.size, 9, none⟩ (.int .i64 0)).setCell ⟨w.heap.size, 10, none⟩ (.int .i64 0)).setCell ⟨w.heap.size, 11, none⟩ (.int .i64 0)).setCell ⟨w.heap.size, 12, none⟩ (.int .i64 0)).setCell ⟨w.heap.size, 13, none⟩ (.int .i64 0)).setCell ⟨w.heap.size, 14, none⟩ (.int .i64 0)) := evAll_chg (u1.setCell ⟨w2.heap.size, 1, none⟩ (.int .i64 v1)) w.heap.size (⟨k, v1, 0, 0, 0, 0, 0, 0, 0, 0, 0, 0, 0, 0, 0⟩ : Ev)
  generalize ((((((((((((((((u1.setCell ⟨w2.heap.size, 1, none⟩ (.int .i64 v1)).setCell ⟨w.heap.size, 0, none⟩ (.int .i64 k)).setCell ⟨w.heap.size, 1, none⟩ (.int .i64 v1)).setCell ⟨w.heap.size, 2, none⟩ (.int .i64 0)).setCell ⟨w.heap.size, 3, none⟩ (.int .i64 0)).setCell ⟨w.heap.size, 4, none⟩ (.int .i64 0)).setCell ⟨w.heap.size, 5, none⟩ (.int .i64 0)).setCell ⟨w.heap.size, 6, none⟩ (.int .i64 0)).setCell ⟨w.heap.size, 7, none⟩ (.int .i64 0)).setCell ⟨w.heap.size, 8, none⟩ (.int .i64 0)).setCell ⟨w.heap.size, 9, none⟩ (.int .i64 0)).setCell ⟨w.heap.size, 10, none⟩ (.int .i64 0)).setCell ⟨w.heap.size, 11, none⟩ (.int .i64 0)).setCell ⟨w.heap.size, 12, none⟩ (.int .i64 0)).setCell ⟨w.heap.size, 13, none⟩ (.int .i64 0)).setCell ⟨w.heap.size, 14, none⟩ (.int .i64 0)) = WF at RF CF ⊢
  obtain ⟨d0, d1, d2, d3, d4, d5, d6, d7, d8, d9, d10, d11, d12, d13, d14⟩ := RF.at_
  simp only [Nat.zero_add] at d0 d1 d2 d3 d4 d5 d6 d7 d8 d9 d10 d11 d12 d13 d14
  obtain ⟨n1, n2, n3, n4, n5, n6⟩ := HS1.out.ne
  refine bodyPost_ret (v := evV (⟨k, v1, 0, 0, 0, 0, 0, 0, 0, 0, 0, 0, 0, 0, 0⟩ : Ev)) (by simp [results, Try.results33, go_sem, evV, d0, d1, d2, d3, d4, d5, d6, d7, d8, d9, d10, d11, d12, d13, d14]) rfl ?_
  exact ⟨rfl, HS1.out.ch.then_ CF (fun k hk e => by omega), HS1.out.src.keep CF (fun e => n2 e.symm) (fun k _ hk e => by omega), HS1.out.u8, HS1.out.len⟩
set_option maxRecDepth 100000 in
set_option maxHeartbeats 16000000 in
theorem one_err (b : Nat) (bs : List Int) (w : World) (h : RSrc L B w b bs 0) (hB : B ≤ w.heap.size) (hu : U8s bs) (hlen : bs.length ≤ 1000000) (k : Int) (bs1 : List Int) (er1 : Int) (hg : gotE 0 octM bs 0 = (k, bs1, er1)) (her : er1 ≠ 0) (hT : tT k = false) (hV : tV k = false) (hC : tC k = false) :
    Calls Try.prog 33 #[.pointer (some ⟨b, 0, none⟩)] w (OneK L B w b (nextK k bs1 er1)) := by
  have hlt := h.err.lt
  have hgu := gotE_u8 (z := 0) (well_oct hu) hu 0
  rw [hg] at hgu
  have hw8 : IntKind.i64.wrap k = k := by
    rw [IntKind.wrap_i64]
    rcases hgu.2.2 with h | h <;> simp only at h <;> omega
  have hu1 : U8s bs1 := hgu.1
  have hl1 : bs1.length ≤ 1000000 := by have := hgu.2.1; simp only at this; omega
  have hal : Below w.heap.size w (w.alloc (.cells #[.int .i64 0, .int .i64 0, .int .i64 0, .int .i64 0, .int .i64 0, .int .i64 0, .int .i64 0, .int .i64 0, .int .i64 0, .int .i64 0, .int .i64 0, .int .i64 0, .int .i64 0, .int .i64 0, .int .i64 0] 30)) := below_al (Below.refl _ _) _
  have HAL := Lib.hid hal
  have hrs0 : EvBox (w.alloc (.cells #[.int .i64 0, .int .i64 0, .int .i64 0, .int .i64 0, .int .i64 0, .int .i64 0, .int .i64 0, .int .i64 0, .int .i64 0, .int .i64 0, .int .i64 0, .int .i64 0, .int .i64 0, .int .i64 0, .int .i64 0] 30)) w.heap.size ev00 := by
    have := EvBox.new w ev00 30
    simpa [evC, ev00] using this
  have HB0 := refByte (L := L) (B := B) b 0 bs (w.alloc (.cells #[.int .i64 0, .int .i64 0, .int .i64 0, .int .i64 0, .int .i64 0, .int .i64 0, .int .i64 0, .int .i64 0, .int .i64 0, .int .i64 0, .int .i64 0, .int .i64 0, .int .i64 0, .int .i64 0, .int .i64 0] 30)) (h.below hal)
  rw [hg] at HB0
  have HB := Lib.hid HB0
  have HU := Lib.hid hu1
  have HU1 := Lib.hid hl1
  have HL := Lib.hid hB
  have HRS := Lib.hid hrs0
  have hT0 : ∀ W, Calls Try.prog 45 #[.int .i64 k] W fun e w' => e = .returned (.bool false) ∧ W = w' := fun W => by have := rthreads k W; rw [hT] at this; exact this
  have hV0 : ∀ W, Calls Try.prog 46 #[.int .i64 k] W fun e w' => e = .returned (.bool false) ∧ W = w' := fun W => by have := rvalues k W; rw [hV] at this; exact this
  have HTT := Lib.hid hT0
  have HVV := Lib.hid hV0
  have hk2 : (k == 2) = false := hC
  obtain ⟨⟨v1, bs2, er2⟩, hq1⟩ : ∃ q, numQ true bs1 er1 = q := ⟨_, rfl⟩
  have hwu1 := numQ_wrap hu1 true er1 hq1
  have hw1 : IntKind.i64.wrap v1 = v1 := hwu1.1
  have HR : Hid (nextK k bs1 er1 = ((⟨k, v1, 0, 0, 0, 0, 0, 0, 0, 0, 0, 0, 0, 0, 0⟩ : Ev), bs2, er2)) := by
    show _ = _
    unfold nextK
    simp only [Q6, Q5, Q4, Q3, Q2, hT, hV, numQ_no, hq1]
    rw [hC]
    rfl
  rw [HR.out]
  have HQ1 := Lib.hid hq1
  clear HR hg HB0 hu1 hl1 hB hal hrs0 hgu hT0 hV0 hT hV hC hq1 hwu1
  have heb : (er1 == 0) = false := by simpa using her
  go_enter Try.func33, Try.ntmps33
  go_wp2_with (first
    | (go_at_call 53; (with_reducible refine HB.out.mono ?_); rintro x w2 ⟨rfl, hc2, hs2⟩; simp only at hs2; have HS0 : Hid (StO L B w (w2.alloc (.cells #[.int .i64 k, .int .i64 0, .int .i64 0, .int .i64 0, .int .i64 0, .int .i64 0, .int .i64 0, .int .i64 0, .int .i64 0, .int .i64 0, .int .i64 0, .int .i64 0, .int .i64 0, .int .i64 0, .int .i64 0] 30)) b w2.heap.size w.heap.size ⟨k, 0, 0, 0, 0, 0, 0, 0, 0, 0, 0, 0, 0, 0, 0⟩ bs1 er1) := (by have hsz1 : w.heap.size + 1 ≤ w2.heap.size := (by have := hc2.size; simpa using this); have hbA : Below w2.heap.size w2 (w2.alloc (.cells #[.int .i64 k, .int .i64 0, .int .i64 0, .int .i64 0, .int .i64 0, .int .i64 0, .int .i64 0, .int .i64 0, .int .i64 0, .int .i64 0, .int .i64 0, .int .i64 0, .int .i64 0, .int .i64 0, .int .i64 0] 30)) := below_al (Below.refl _ _) _; have hcA : Chg (fun k => k = b) (w.alloc (.cells #[.int .i64 0, .int .i64 0, .int .i64 0, .int .i64 0, .int .i64 0, .int .i64 0, .int .i64 0, .int .i64 0, .int .i64 0, .int .i64 0, .int .i64 0, .int .i64 0, .int .i64 0, .int .i64 0, .int .i64 0] 30)) (w2.alloc (.cells #[.int .i64 k, .int .i64 0, .int .i64 0, .int .i64 0, .int .i64 0, .int .i64 0, .int .i64 0, .int .i64 0, .int .i64 0, .int .i64 0, .int .i64 0, .int .i64 0, .int .i64 0, .int .i64 0, .int .i64 0] 30)) := hc2.trans (Chg.of_below hbA); exact ⟨hs2.below hbA, HU.out, HU1.out, EvBox.new w2 ⟨k, 0, 0, 0, 0, 0, 0, 0, 0, 0, 0, 0, 0, 0, 0⟩ _, HRS.out.keep hcA (by omega), (Chg.of_below HAL.out).trans hcA, by have := HL.out; omega⟩); have z0 := HS0.out.src.err.cell; have HN1 := Lib.hid (HS0.out.num HQ1))
    | (go_at_call 37; (with_reducible refine HN1.out.mono ?_); rintro x u1 ⟨rfl, hs1⟩; (try simp only at hs1); have g1 := hs1.ev.c1.cell; have f1 := hs1.ev.c1.free; have HS1 := Lib.hid (hs1.p1 v1); have z1 := HS1.out.ev.c0.cell; simp only at z1; have EE := HS1.out.ev; have RR := HS1.out.rs; have k0 := EE.c0.cell; have r0 := RR.c0.cell; have q0 := RR.c0.free; have k1 := EE.c1.cell; have r1 := RR.c1.cell; have q1 := RR.c1.free; have k2 := EE.c2.cell; have r2 := RR.c2.cell; have q2 := RR.c2.free; have k3 := EE.c3.cell; have r3 := RR.c3.cell; have q3 := RR.c3.free; have k4 := EE.c4.cell; have r4 := RR.c4.cell; have q4 := RR.c4.free; have k5 := EE.c5.cell; have r5 := RR.c5.cell; have q5 := RR.c5.free; have k6 := EE.c6.cell; have r6 := RR.c6.cell; have q6 := RR.c6.free; have k7 := EE.c7.cell; have r7 := RR.c7.cell; have q7 := RR.c7.free; have k8 := EE.c8.cell; have r8 := RR.c8.cell; have q8 := RR.c8.free; have k9 := EE.c9.cell; have r9 := RR.c9.cell; have q9 := RR.c9.free; have k10 := EE.c10.cell; have r10 := RR.c10.cell; have q10 := RR.c10.free; have k11 := EE.c11.cell; have r11 := RR.c11.cell; have q11 := RR.c11.free; have k12 := EE.c12.cell; have r12 := RR.c12.cell; have q12 := RR.c12.free; have k13 := EE.c13.cell; have r13 := RR.c13.cell; have q13 := RR.c13.free; have k14 := EE.c14.cell; have r14 := RR.c14.cell; have q14 := RR.c14.free; simp only at k0 k1 k2 k3 k4 k5 k6 k7 k8 k9 k10 k11 k12 k13 k14; clear EE RR)
    | (go_at_call 45; (with_reducible refine (HTT.out _).mono ?_); rintro x w9 ⟨rfl, rfl⟩)
    | (go_at_call 46; (with_reducible refine (HVV.out _).mono ?_); rintro x w9 ⟨rfl, rfl⟩))
  clear k0 r0 q0 k1 r1 q1 k2 r2 q2 k3 r3 q3 k4 r4 q4 k5 r5 q5 k6 r6 q6 k7 r7 q7 k8 r8 q8 k9 r9 q9 k10 r10 q10 k11 r11 q11 k12 r12 q12 k13 r13 q13 k14 r14 q14
  have RF : EvBox ((((((((((((((((u1.setCell ⟨w2.heap.size, 1, none⟩ (.int .i64 v1)).setCell ⟨w.heap.size, 0, none⟩ (.int .i64 k)).setCell ⟨w.heap.size, 1, none⟩ (.int .i64 v1)).setCell ⟨w.heap.size, 2, none⟩ (.int .i64 0)).setCell ⟨w.heap.size, 3, none⟩ (.int .i64 0)).setCell ⟨w.heap.size, 4, none⟩ (.int .i64 0)).setCell ⟨w.heap.size, 5, none⟩ (.int .i64 0)).setCell ⟨w.heap.size, 6, none⟩ (.int .i64 0)).setCell ⟨w.heap.size, 7, none⟩ (.int .i64 0)).setCell ⟨w.heap.size, 8, none⟩ (.int .i64 0)).setCell ⟨w.heap.size, 9, none⟩ (.int .i64 0)).setCell ⟨w.heap.size, 10, none⟩ (.int .i64 0)).setCell ⟨w.heap.size, 11, none⟩ (.int .i64 0)).setCell ⟨w.heap.size, 12, none⟩ (.int .i64 0)).setCell ⟨w.heap.size, 13, none⟩ (.int .i64 0)).setCell ⟨w.heap.size, 14, none⟩ (.int .i64 0)) w.heap.size (⟨k, v1, 0, 0, 0, 0, 0, 0, 0, 0, 0, 0, 0, 0, 0⟩ : Ev) := EvBox.all HS1.out.rs (⟨k, v1, 0, 0, 0, 0, 0, 0, 0, 0, 0, 0, 0, 0, 0⟩ : Ev)
  have CF : Chg (fun k => k = w.heap.size) (u1.setCell ⟨w2.heap.size, 1, none⟩ (.int .i64 v1)) ((((((((((((((((u1.setCell ⟨w2.heap.size, 1, none⟩ (.int .i64 v1)).setCell ⟨w.heap.size, 0, none⟩ (.int .i64 k)).setCell ⟨w.heap.size, 1, none⟩ (.int .i64 v1)).setCell ⟨w.heap.size, 2, none⟩ (.int .i64 0)).setCell ⟨w.heap.size, 3, none⟩ (.int .i64 0)).setCell ⟨w.heap.size, 4, none⟩ (.int .i64 0)).setCell ⟨w.heap.size, 5, none⟩ (.int .i64 0)).setCell ⟨w.heap.size, 6, none⟩ (.int .i64 0)).setCell ⟨w.heap.size, 7, none⟩ (.int .i64 0)).setCell ⟨w.heap.size, 8, none⟩ (.int .i64 0)).setCell ⟨w.heap.size, 9, none⟩ (.int .i64 0)).setCell ⟨w.heap.size, 10, none⟩ (.int .i64 0)).setCell ⟨w.heap.size, 11, none⟩ (.int .i64 0)).setCell ⟨w.heap.size, 12, none⟩ (.int .i64 0)).setCell ⟨w.heap.size, 13, none⟩ (.int .i64 0)).setCell ⟨w.heap.size, 14, none⟩ (.int .i64 0)) := evAll_chg (u1.setCell ⟨w2.heap.size, 1, none⟩ (.int .i64 v1)) w.heap.size (⟨k, v1, 0, 0, 0, 0, 0, 0, 0, 0, 0, 0, 0, 0, 0⟩ : Ev)
  generalize ((((((((((((((((u1.setCell ⟨w2.heap.size, 1, none⟩ (.int .i64 v1)).setCell ⟨w.heap.size, 0, none⟩ (.int .i64 k)).setCell ⟨w.heap.size, 1, none⟩ (.int .i64 v1)).setCell ⟨w.heap.size, 2, none⟩ (.int .i64 0)).setCell ⟨w.heap.size, 3, none⟩ (.int .i64 0)).setCell ⟨w.heap.size, 4, none⟩ (.int .i64 0)).setCell ⟨w.heap.size, 5, none⟩ (.int .i64 0)).setCell ⟨w.heap.size, 6, none⟩ (.int .i64 0)).setCell ⟨w.heap.size, 7, none⟩ (.int .i64 0)).setCell ⟨w.heap.size, 8, none⟩ (.int .i64 0)).setCell ⟨w.heap.size, 9, none⟩ (.int .i64 0)).setCell ⟨w.heap.size, 10, none⟩ (.int .i64 0)).setCell ⟨w.heap.size, 11, none⟩ (.int .i64 0)).setCell ⟨w.heap.size, 12, none⟩ (.int .i64 0)).setCell ⟨w.heap.size, 13, none⟩ (.int .i64 0)).setCell ⟨w.heap.size, 14, none⟩ (.int .i64 0)) = WF at RF CF ⊢
  obtain ⟨d0, d1, d2, d3, d4, d5, d6, d7, d8, d9, d10, d11, d12, d13, d14⟩ := RF.at_
  simp only [Nat.zero_add] at d0 d1 d2 d3 d4 d5 d6 d7 d8 d9 d10 d11 d12 d13 d14
  obtain ⟨n1, n2, n3, n4, n5, n6⟩ := HS1.out.ne
  refine bodyPost_ret (v := evV (⟨k, v1, 0, 0, 0, 0, 0, 0, 0, 0, 0, 0, 0, 0, 0⟩ : Ev)) (by simp [results, Try.results33, go_sem, evV, d0, d1, d2, d3, d4, d5, d6, d7, d8, d9, d10, d11, d12, d13, d14]) rfl ?_
  exact ⟨rfl, HS1.out.ch.then_ CF (fun k hk e => by omega), HS1.out.src.keep CF (fun e => n2 e.symm) (fun k _ hk e => by omega), HS1.out.u8, HS1.out.len⟩
set_option maxRecDepth 100000 in
set_option maxHeartbeats 16000000 in
theorem one_new1 (b : Nat) (bs : List Int) (w : World) (h : RSrc L B w b bs 0) (hB : B ≤ w.heap.size) (hu : U8s bs) (hlen : bs.length ≤ 1000000) (k : Int) (bs1 : List Int) (hg : gotE 0 octM bs 0 = (k, bs1, 0)) (h1 : k < 1) (hT : tT k = false) (hV : tV k = false) (hC : tC k = false) :
    Calls Try.prog 33 #[.pointer (some ⟨b, 0, none⟩)] w (OneK L B w b (nextK k bs1 10)) := by
  have hlt := h.err.lt
  have hgu := gotE_u8 (z := 0) (well_oct hu) hu 0
  rw [hg] at hgu
  have hw8 : IntKind.i64.wrap k = k := by
    rw [IntKind.wrap_i64]
    rcases hgu.2.2 with h | h <;> simp only at h <;> omega
  have hu1 : U8s bs1 := hgu.1
  have hl1 : bs1.length ≤ 1000000 := by have := hgu.2.1; simp only at this; omega
  have hal : Below w.heap.size w (w.alloc (.cells #[.int .i64 0, .int .i64 0, .int .i64 0, .int .i64 0, .int .i64 0, .int .i64 0, .int .i64 0, .int .i64 0, .int .i64 0, .int .i64 0, .int .i64 0, .int .i64 0, .int .i64 0, .int .i64 0, .int .i64 0] 30)) := below_al (Below.refl _ _) _
  have HAL := Lib.hid hal
  have hrs0 : EvBox (w.alloc (.cells #[.int .i64 0, .int .i64 0, .int .i64 0, .int .i64 0, .int .i64 0, .int .i64 0, .int .i64 0, .int .i64 0, .int .i64 0, .int .i64 0, .int .i64 0, .int .i64 0, .int .i64 0, .int .i64 0, .int .i64 0] 30)) w.heap.size ev00 := by
    have := EvBox.new w ev00 30
    simpa [evC, ev00] using this
  have HB0 := refByte (L := L) (B := B) b 0 bs (w.alloc (.cells #[.int .i64 0, .int .i64 0, .int .i64 0, .int .i64 0, .int .i64 0, .int .i64 0, .int .i64 0, .int .i64 0, .int .i64 0, .int .i64 0, .int .i64 0, .int .i64 0, .int .i64 0, .int .i64 0, .int .i64 0] 30)) (h.below hal)
  rw [hg] at HB0
  have HB := Lib.hid HB0
  have HU := Lib.hid hu1
  have HU1 := Lib.hid hl1
  have HL := Lib.hid hB
  have HRS := Lib.hid hrs0
  have hT0 : ∀ W, Calls Try.prog 45 #[.int .i64 k] W fun e w' => e = .returned (.bool false) ∧ W = w' := fun W => by have := rthreads k W; rw [hT] at this; exact this
  have hV0 : ∀ W, Calls Try.prog 46 #[.int .i64 k] W fun e w' => e = .returned (.bool false) ∧ W = w' := fun W => by have := rvalues k W; rw [hV] at this; exact this
  have HTT := Lib.hid hT0
  have HVV := Lib.hid hV0
  have hk2 : (k == 2) = false := hC
  obtain ⟨⟨v1, bs2, er2⟩, hq1⟩ : ∃ q, numQ true bs1 10 = q := ⟨_, rfl⟩
  have hwu1 := numQ_wrap hu1 true 10 hq1
  have hw1 : IntKind.i64.wrap v1 = v1 := hwu1.1
  have HR : Hid (nextK k bs1 10 = ((⟨k, v1, 0, 0, 0, 0, 0, 0, 0, 0, 0, 0, 0, 0, 0⟩ : Ev), bs2, er2)) := by
    show _ = _
    unfold nextK
    simp only [Q6, Q5, Q4, Q3, Q2, hT, hV, numQ_no, hq1]
    rw [hC]
    rfl
  rw [HR.out]
  have HQ1 := Lib.hid hq1
  clear HR hg HB0 hu1 hl1 hB hal hrs0 hgu hT0 hV0 hT hV hC hq1 hwu1
  go_enter Try.func33, Try.ntmps33
  go_wp2_with (first
    | (go_at_call 53; (with_reducible refine HB.out.mono ?_); rintro x w2 ⟨rfl, hc2, hs2⟩; simp only at hs2; have HS0 : Hid (StO L B w (w2.alloc (.cells #[.int .i64 k, .int .i64 0, .int .i64 0, .int .i64 0, .int .i64 0, .int .i64 0, .int .i64 0, .int .i64 0, .int .i64 0, .int .i64 0, .int .i64 0, .int .i64 0, .int .i64 0, .int .i64 0, .int .i64 0] 30)) b w2.heap.size w.heap.size ⟨k, 0, 0, 0, 0, 0, 0, 0, 0, 0, 0, 0, 0, 0, 0⟩ bs1 0) := (by have hsz1 : w.heap.size + 1 ≤ w2.heap.size := (by have := hc2.size; simpa using this); have hbA : Below w2.heap.size w2 (w2.alloc (.cells #[.int .i64 k, .int .i64 0, .int .i64 0, .int .i64 0, .int .i64 0, .int .i64 0, .int .i64 0, .int .i64 0, .int .i64 0, .int .i64 0, .int .i64 0, .int .i64 0, .int .i64 0, .int .i64 0, .int .i64 0] 30)) := below_al (Below.refl _ _) _; have hcA : Chg (fun k => k = b) (w.alloc (.cells #[.int .i64 0, .int .i64 0, .int .i64 0, .int .i64 0, .int .i64 0, .int .i64 0, .int .i64 0, .int .i64 0, .int .i64 0, .int .i64 0, .int .i64 0, .int .i64 0, .int .i64 0, .int .i64 0, .int .i64 0] 30)) (w2.alloc (.cells #[.int .i64 k, .int .i64 0, .int .i64 0, .int .i64 0, .int .i64 0, .int .i64 0, .int .i64 0, .int .i64 0, .int .i64 0, .int .i64 0, .int .i64 0, .int .i64 0, .int .i64 0, .int .i64 0, .int .i64 0] 30)) := hc2.trans (Chg.of_below hbA); exact ⟨hs2.below hbA, HU.out, HU1.out, EvBox.new w2 ⟨k, 0, 0, 0, 0, 0, 0, 0, 0, 0, 0, 0, 0, 0, 0⟩ _, HRS.out.keep hcA (by omega), (Chg.of_below HAL.out).trans hcA, by have := HL.out; omega⟩); have z0 := HS0.out.src.err.cell; have z1 := HS0.out.src.err.free; have HSN : Hid (StO L B w ((w2.alloc (.cells #[.int .i64 k, .int .i64 0, .int .i64 0, .int .i64 0, .int .i64 0, .int .i64 0, .int .i64 0, .int .i64 0, .int .i64 0, .int .i64 0, .int .i64 0, .int .i64 0, .int .i64 0, .int .i64 0, .int .i64 0] 30)).setCell ⟨b, 1, none⟩ (.int .i64 10)) b w2.heap.size w.heap.size ⟨k, 0, 0, 0, 0, 0, 0, 0, 0, 0, 0, 0, 0, 0, 0⟩ bs1 10) := (by have hc9 : Chg (fun k => k = b) (w2.alloc (.cells #[.int .i64 k, .int .i64 0, .int .i64 0, .int .i64 0, .int .i64 0, .int .i64 0, .int .i64 0, .int .i64 0, .int .i64 0, .int .i64 0, .int .i64 0, .int .i64 0, .int .i64 0, .int .i64 0, .int .i64 0] 30)) ((w2.alloc (.cells #[.int .i64 k, .int .i64 0, .int .i64 0, .int .i64 0, .int .i64 0, .int .i64 0, .int .i64 0, .int .i64 0, .int .i64 0, .int .i64 0, .int .i64 0, .int .i64 0, .int .i64 0, .int .i64 0, .int .i64 0] 30)).setCell ⟨b, 1, none⟩ (.int .i64 10)) := (Chg.refl _ _).setCell b 1 _ rfl; obtain ⟨A, n, c, y1, y2, y3⟩ := HS0.out.src.row; exact HS0.out.call hc9 ⟨⟨A, n, c, y1.other (by decide) _, hc9.rds y2 (fun ad e => (y3 ad e).1), y3⟩, HS0.out.src.err.set _⟩ HU.out (Nat.le_refl _)); have HN1 := Lib.hid (HSN.out.num HQ1))
    | (go_at_call 37; (with_reducible refine HN1.out.mono ?_); rintro x u1 ⟨rfl, hs1⟩; (try simp only at hs1); have g1 := hs1.ev.c1.cell; have f1 := hs1.ev.c1.free; have HS1 := Lib.hid (hs1.p1 v1); have z1 := HS1.out.ev.c0.cell; simp only at z1; have EE := HS1.out.ev; have RR := HS1.out.rs; have k0 := EE.c0.cell; have r0 := RR.c0.cell; have q0 := RR.c0.free; have k1 := EE.c1.cell; have r1 := RR.c1.cell; have q1 := RR.c1.free; have k2 := EE.c2.cell; have r2 := RR.c2.cell; have q2 := RR.c2.free; have k3 := EE.c3.cell; have r3 := RR.c3.cell; have q3 := RR.c3.free; have k4 := EE.c4.cell; have r4 := RR.c4.cell; have q4 := RR.c4.free; have k5 := EE.c5.cell; have r5 := RR.c5.cell; have q5 := RR.c5.free; have k6 := EE.c6.cell; have r6 := RR.c6.cell; have q6 := RR.c6.free; have k7 := EE.c7.cell; have r7 := RR.c7.cell; have q7 := RR.c7.free; have k8 := EE.c8.cell; have r8 := RR.c8.cell; have q8 := RR.c8.free; have k9 := EE.c9.cell; have r9 := RR.c9.cell; have q9 := RR.c9.free; have k10 := EE.c10.cell; have r10 := RR.c10.cell; have q10 := RR.c10.free; have k11 := EE.c11.cell; have r11 := RR.c11.cell; have q11 := RR.c11.free; have k12 := EE.c12.cell; have r12 := RR.c12.cell; have q12 := RR.c12.free; have k13 := EE.c13.cell; have r13 := RR.c13.cell; have q13 := RR.c13.free; have k14 := EE.c14.cell; have r14 := RR.c14.cell; have q14 := RR.c14.free; simp only at k0 k1 k2 k3 k4 k5 k6 k7 k8 k9 k10 k11 k12 k13 k14; clear EE RR)
    | (go_at_call 45; (with_reducible refine (HTT.out _).mono ?_); rintro x w9 ⟨rfl, rfl⟩)
    | (go_at_call 46; (with_reducible refine (HVV.out _).mono ?_); rintro x w9 ⟨rfl, rfl⟩))
  clear k0 r0 q0 k1 r1 q1 k2 r2 q2 k3 r3 q3 k4 r4 q4 k5 r5 q5 k6 r6 q6 k7 r7 q7 k8 r8 q8 k9 r9 q9 k10 r10 q10 k11 r11 q11 k12 r12 q12 k13 r13 q13 k14 r14 q14
  have RF : EvBox ((((((((((((((((u1.setCell ⟨w2.heap.size, 1, none⟩ (.int .i64 v1)).setCell ⟨w.heap.size, 0, none⟩ (.int .i64 k)).setCell ⟨w.heap.size, 1, none⟩ (.int .i64 v1)).setCell ⟨w.heap.size, 2, none⟩ (.int .i64 0)).setCell ⟨w.heap.size, 3, none⟩ (.int .i64 0)).setCell ⟨w.heap.size, 4, none⟩ (.int .i64 0)).setCell ⟨w.heap.size, 5, none⟩ (.int .i64 0)).setCell ⟨w.heap.size, 6, none⟩ (.int .i64 0)).setCell ⟨w.heap.size, 7, none⟩ (.int .i64 0)).setCell ⟨w.heap.size, 8, none⟩ (.int .i64 0)).setCell ⟨w.heap.size, 9, none⟩ (.int .i64 0)).setCell ⟨w.heap.size, 10, none⟩ (.int .i64 0)).setCell ⟨w.heap.size, 11, none⟩ (.int .i64 0)).setCell ⟨w.heap.size, 12, none⟩ (.int .i64 0)).setCell ⟨w.heap.size, 13, none⟩ (.int .i64 0)).setCell ⟨w.heap.size, 14, none⟩ (.int .i64 0)) w.heap.size (⟨k, v1, 0, 0, 0, 0, 0, 0, 0, 0, 0, 0, 0, 0, 0⟩ : Ev) := EvBox.all HS1.out.rs (⟨k, v1, 0, 0, 0, 0, 0, 0, 0, 0, 0, 0, 0, 0, 0⟩ : Ev)
  have CF : Chg (fun k => k = w.heap.size) (u1.setCell ⟨w2.heap.size, 1, none⟩ (.int .i64 v1)) ((((((((((((((((u1.setCell ⟨w2.heap.size, 1, none⟩ (.int .i64 v1)).setCell ⟨w.heap.size, 0, none⟩ (.int .i64 k)).setCell ⟨w.heap.size, 1, none⟩ (.int .i64 v1)).setCell ⟨w.heap.size, 2, none⟩ (.int .i64 0)).setCell ⟨w.heap.size, 3, none⟩ (.int .i64 0)).setCell ⟨w.heap.size, 4, none⟩ (.int .i64 0)).setCell ⟨w.heap.size, 5, none⟩ (.int .i64 0)).setCell ⟨w.heap.size, 6, none⟩ (.int .i64 0)).setCell ⟨w.heap.size, 7, none⟩ (.int .i64 0)).setCell ⟨w.heap.size, 8, none⟩ (.int .i64 0)).setCell ⟨w.heap.size, 9, none⟩ (.int .i64 0)).setCell ⟨w.heap.size, 10, none⟩ (.int .i64 0)).setCell ⟨w.heap.size, 11, none⟩ (.int .i64 0)).setCell ⟨w.heap.size, 12, none⟩ (.int .i64 0)).setCell ⟨w.heap.size, 13, none⟩ (.int .i64 0)).setCell ⟨w.heap.size, 14, none⟩ (.int .i64 0)) := evAll_chg (u1.setCell ⟨w2.heap.size, 1, none⟩ (.int .i64 v1)) w.heap.size (⟨k, v1, 0, 0, 0, 0, 0, 0, 0, 0, 0, 0, 0, 0, 0⟩ : Ev)
  generalize ((((((((((((((((u1.setCell ⟨w2.heap.size, 1, none⟩ (.int .i64 v1)).setCell ⟨w.heap.size, 0, none⟩ (.int .i64 k)).setCell ⟨w.heap.size, 1, none⟩ (.int .i64 v1)).setCell ⟨w.heap.size, 2, none⟩ (.int .i64 0)).setCell ⟨w.heap.size, 3, none⟩ (.int .i64 0)).setCell ⟨w.heap.size, 4, none⟩ (.int .i64 0)).setCell ⟨w.heap.size, 5, none⟩ (.int .i64 0)).setCell ⟨w.heap.size, 6, none⟩ (.int .i64 0)).setCell ⟨w.heap.size, 7, none⟩ (.int .i64 0)).setCell ⟨w.heap.size, 8, none⟩ (.int .i64 0)).setCell ⟨w.heap.size, 9, none⟩ (.int .i64 0)).setCell ⟨w.heap.size, 10, none⟩ (.int .i64 0)).setCell ⟨w.heap.size, 11, none⟩ (.int .i64 0)).setCell ⟨w.heap.size, 12, none⟩ (.int .i64 0)).setCell ⟨w.heap.size, 13, none⟩ (.int .i64 0)).setCell ⟨w.heap.size, 14, none⟩ (.int .i64 0)) = WF at RF CF ⊢
  obtain ⟨d0, d1, d2, d3, d4, d5, d6, d7, d8, d9, d10, d11, d12, d13, d14⟩ := RF.at_
  simp only [Nat.zero_add] at d0 d1 d2 d3 d4 d5 d6 d7 d8 d9 d10 d11 d12 d13 d14
  obtain ⟨n1, n2, n3, n4, n5, n6⟩ := HS1.out.ne
  refine bodyPost_ret (v := evV (⟨k, v1, 0, 0, 0, 0, 0, 0, 0, 0, 0, 0, 0, 0, 0⟩ : Ev)) (by simp [results, Try.results33, go_sem, evV, d0, d1, d2, d3, d4, d5, d6, d7, d8, d9, d10, d11, d12, d13, d14]) rfl ?_
  exact ⟨rfl, HS1.out.ch.then_ CF (fun k hk e => by omega), HS1.out.src.keep CF (fun e => n2 e.symm) (fun k _ hk e => by omega), HS1.out.u8, HS1.out.len⟩
set_option maxRecDepth 100000 in
set_option maxHeartbeats 16000000 in
theorem one_new2 (b : Nat) (bs : List Int) (w : World) (h : RSrc L B w b bs 0) (hB : B ≤ w.heap.size) (hu : U8s bs) (hlen : bs.length ≤ 1000000) (k : Int) (bs1 : List Int) (hg : gotE 0 octM bs 0 = (k, bs1, 0)) (h1 : 7 < k) (hT : tT k = false) (hV : tV k = false) (hC : tC k = false) :
    Calls Try.prog 33 #[.pointer (some ⟨b, 0, none⟩)] w (OneK L B w b (nextK k bs1 10)) := by
  have hlt := h.err.lt
  have hgu := gotE_u8 (z := 0) (well_oct hu) hu 0
  rw [hg] at hgu
  have hw8 : IntKind.i64.wrap k = k := by
    rw [IntKind.wrap_i64]
    rcases hgu.2.2 with h | h <;> simp only at h <;> omega
  have hu1 : U8s bs1 := hgu.1
  have hl1 : bs1.length ≤ 1000000 := by have := hgu.2.1; simp only at this; omega
  have hal : Below w.heap.size w (w.alloc (.cells #[.int .i64 0, .int .i64 0, .int .i64 0, .int .i64 0, .int .i64 0, .int .i64 0, .int .i64 0, .int .i64 0, .int .i64 0, .int .i64 0, .int .i64 0, .int .i64 0, .int .i64 0, .int .i64 0, .int .i64 0] 30)) := below_al (Below.refl _ _) _
  have HAL := Lib.hid hal
  have hrs0 : EvBox (w.alloc (.cells #[.int .i64 0, .int .i64 0, .int .i64 0, .int .i64 0, .int .i64 0, .int .i64 0, .int .i64 0, .int .i64 0, .int .i64 0, .int .i64 0, .int .i64 0, .int .i64 0, .int .i64 0, .int .i64 0, .int .i64 0] 30)) w.heap.size ev00 := by
    have := EvBox.new w ev00 30
    simpa [evC, ev00] using this
  have HB0 := refByte (L := L) (B := B) b 0 bs (w.alloc (.cells #[.int .i64 0, .int .i64 0, .int .i64 0, .int .i64 0, .int .i64 0, .int .i64 0, .int .i64 0, .int .i64 0, .int .i64 0, .int .i64 0, .int .i64 0, .int .i64 0, .int .i64 0, .int .i64 0, .int .i64 0] 30)) (h.below hal)
  rw [hg] at HB0
  have HB := Lib.hid HB0
  have HU := Lib.hid hu1
  have HU1 := Lib.hid hl1
  have HL := Lib.hid hB
  have HRS := Lib.hid hrs0
  have hT0 : ∀ W, Calls Try.prog 45 #[.int .i64 k] W fun e w' => e = .returned (.bool false) ∧ W = w' := fun W => by have := rthreads k W; rw [hT] at this; exact this
  have hV0 : ∀ W, Calls Try.prog 46 #[.int .i64 k] W fun e w' => e = .returned (.bool false) ∧ W = w' := fun W => by have := rvalues k W; rw [hV] at this; exact this
  have HTT := Lib.hid hT0
  have HVV := Lib.hid hV0
  have hk2 : (k == 2) = false := hC
  obtain ⟨⟨v1, bs2, er2⟩, hq1⟩ : ∃ q, numQ true bs1 10 = q := ⟨_, rfl⟩
  have hwu1 := numQ_wrap hu1 true 10 hq1
  have hw1 : IntKind.i64.wrap v1 = v1 := hwu1.1
  have HR : Hid (nextK k bs1 10 = ((⟨k, v1, 0, 0, 0, 0, 0, 0, 0, 0, 0, 0, 0, 0, 0⟩ : Ev), bs2, er2)) := by
    show _ = _
    unfold nextK
    simp only [Q6, Q5, Q4, Q3, Q2, hT, hV, numQ_no, hq1]
    rw [hC]
    rfl
  rw [HR.out]
  have HQ1 := Lib.hid hq1
  clear HR hg HB0 hu1 hl1 hB hal hrs0 hgu hT0 hV0 hT hV hC hq1 hwu1
  go_enter Try.func33, Try.ntmps33
  go_wp2_with (first
    | (go_at_call 53; (with_reducible refine HB.out.mono ?_); rintro x w2 ⟨rfl, hc2, hs2⟩; simp only at hs2; have HS0 : Hid (StO L B w (w2.alloc (.cells #[.int .i64 k, .int .i64 0, .int .i64 0, .int .i64 0, .int .i64 0, .int .i64 0, .int .i64 0, .int .i64 0, .int .i64 0, .int .i64 0, .int .i64 0, .int .i64 0, .int .i64 0, .int .i64 0, .int .i64 0] 30)) b w2.heap.size w.heap.size ⟨k, 0, 0, 0, 0, 0, 0, 0, 0, 0, 0, 0, 0, 0, 0⟩ bs1 0) := (by have hsz1 : w.heap.size + 1 ≤ w2.heap.size := (by have := hc2.size; simpa using this); have hbA : Below w2.heap.size w2 (w2.alloc (.cells #[.int .i64 k, .int .i64 0, .int .i64 0, .int .i64 0, .int .i64 0, .int .i64 0, .int .i64 0, .int .i64 0, .int .i64 0, .int .i64 0, .int .i64 0, .int .i64 0, .int .i64 0, .int .i64 0, .int .i64 0] 30)) := below_al (Below.refl _ _) _; have hcA : Chg (fun k => k = b) (w.alloc (.cells #[.int .i64 0, .int .i64 0, .int .i64 0, .int .i64 0, .int .i64 0, .int .i64 0, .int .i64 0, .int .i64 0, .int .i64 0, .int .i64 0, .int .i64 0, .int .i64 0, .int .i64 0, .int .i64 0, .int .i64 0] 30)) (w2.alloc (.cells #[.int .i64 k, .int .i64 0, .int .i64 0, .int .i64 0, .int .i64 0, .int .i64 0, .int .i64 0, .int .i64 0, .int .i64 0, .int .i64 0, .int .i64 0, .int .i64 0, .int .i64 0, .int .i64 0, .int .i64 0] 30)) := hc2.trans (Chg.of_below hbA); exact ⟨hs2.below hbA, HU.out, HU1.out, EvBox.new w2 ⟨k, 0, 0, 0, 0, 0, 0, 0, 0, 0, 0, 0, 0, 0, 0⟩ _, HRS.out.keep hcA (by omega), (Chg.of_below HAL.out).trans hcA, by have := HL.out; omega⟩); have z0 := HS0.out.src.err.cell; have z1 := HS0.out.src.err.free; have HSN : Hid (StO L B w ((w2.alloc (.cells #[.int .i64 k, .int .i64 0, .int .i64 0, .int .i64 0, .int .i64 0, .int .i64 0, .int .i64 0, .int .i64 0, .int .i64 0, .int .i64 0, .int .i64 0, .int .i64 0, .int .i64 0, .int .i64 0, .int .i64 0] 30)).setCell ⟨b, 1, none⟩ (.int .i64 10)) b w2.heap.size w.heap.size ⟨k, 0, 0, 0, 0, 0, 0, 0, 0, 0, 0, 0, 0, 0, 0⟩ bs1 10) := (by have hc9 : Chg (fun k => k = b) (w2.alloc (.cells #[.int .i64 k, .int .i64 0, .int .i64 0, .int .i64 0, .int .i64 0, .int .i64 0, .int .i64 0, .int .i64 0, .int .i64 0, .int .i64 0, .int .i64 0, .int .i64 0, .int .i64 0, .int .i64 0, .int .i64 0] 30)) ((w2.alloc (.cells #[.int .i64 k, .int .i64 0, .int .i64 0, .int .i64 0, .int .i64 0, .int .i64 0, .int .i64 0, .int .i64 0, .int .i64 0, .int .i64 0, .int .i64 0, .int .i64 0, .int .i64 0, .int .i64 0, .int .i64 0] 30)).setCell ⟨b, 1, none⟩ (.int .i64 10)) := (Chg.refl _ _).setCell b 1 _ rfl; obtain ⟨A, n, c, y1, y2, y3⟩ := HS0.out.src.row; exact HS0.out.call hc9 ⟨⟨A, n, c, y1.other (by decide) _, hc9.rds y2 (fun ad e => (y3 ad e).1), y3⟩, HS0.out.src.err.set _⟩ HU.out (Nat.le_refl _)); have HN1 := Lib.hid (HSN.out.num HQ1))
    | (go_at_call 37; (with_reducible refine HN1.out.mono ?_); rintro x u1 ⟨rfl, hs1⟩; (try simp only at hs1); have g1 := hs1.ev.c1.cell; have f1 := hs1.ev.c1.free; have HS1 := Lib.hid (hs1.p1 v1); have z1 := HS1.out.ev.c0.cell; simp only at z1; have EE := HS1.out.ev; have RR := HS1.out.rs; have k0 := EE.c0.cell; have r0 := RR.c0.cell; have q0 := RR.c0.free; have k1 := EE.c1.cell; have r1 := RR.c1.cell; have q1 := RR.c1.free; have k2 := EE.c2.cell; have r2 := RR.c2.cell; have q2 := RR.c2.free; have k3 := EE.c3.cell; have r3 := RR.c3.cell; have q3 := RR.c3.free; have k4 := EE.c4.cell; have r4 := RR.c4.cell; have q4 := RR.c4.free; have k5 := EE.c5.cell; have r5 := RR.c5.cell; have q5 := RR.c5.free; have k6 := EE.c6.cell; have r6 := RR.c6.cell; have q6 := RR.c6.free; have k7 := EE.c7.cell; have r7 := RR.c7.cell; have q7 := RR.c7.free; have k8 := EE.c8.cell; have r8 := RR.c8.cell; have q8 := RR.c8.free; have k9 := EE.c9.cell; have r9 := RR.c9.cell; have q9 := RR.c9.free; have k10 := EE.c10.cell; have r10 := RR.c10.cell; have q10 := RR.c10.free; have k11 := EE.c11.cell; have r11 := RR.c11.cell; have q11 := RR.c11.free; have k12 := EE.c12.cell; have r12 := RR.c12.cell; have q12 := RR.c12.free; have k13 := EE.c13.cell; have r13 := RR.c13.cell; have q13 := RR.c13.free; have k14 := EE.c14.cell; have r14 := RR.c14.cell; have q14 := RR.c14.free; simp only at k0 k1 k2 k3 k4 k5 k6 k7 k8 k9 k10 k11 k12 k13 k14; clear EE RR)
    | (go_at_call 45; (with_reducible refine (HTT.out _).mono ?_); rintro x w9 ⟨rfl, rfl⟩)
    | (go_at_call 46; (with_reducible refine (HVV.out _).mono ?_); rintro x w9 ⟨rfl, rfl⟩))
  clear k0 r0 q0 k1 r1 q1 k2 r2 q2 k3 r3 q3 k4 r4 q4 k5 r5 q5 k6 r6 q6 k7 r7 q7 k8 r8 q8 k9 r9 q9 k10 r10 q10 k11 r11 q11 k12 r12 q12 k13 r13 q13 k14 r14 q14
  have RF : EvBox ((((((((((((((((u1.setCell ⟨w2.heap.size, 1, none⟩ (.int .i64 v1)).setCell ⟨w.heap.size, 0, none⟩ (.int .i64 k)).setCell ⟨w.heap.size, 1, none⟩ (.int .i64 v1)).setCell ⟨w.heap.size, 2, none⟩ (.int .i64 0)).setCell ⟨w.heap.size, 3, none⟩ (.int .i64 0)).setCell ⟨w.heap.size, 4, none⟩ (.int .i64 0)).setCell ⟨w.heap.size, 5, none⟩ (.int .i64 0)).setCell ⟨w.heap.size, 6, none⟩ (.int .i64 0)).setCell ⟨w.heap.size, 7, none⟩ (.int .i64 0)).setCell ⟨w.heap.size, 8, none⟩ (.int .i64 0)).setCell ⟨w.heap.size, 9, none⟩ (.int .i64 0)).setCell ⟨w.heap.size, 10, none⟩ (.int .i64 0)).setCell ⟨w.heap.size, 11, none⟩ (.int .i64 0)).setCell ⟨w.heap.size, 12, none⟩ (.int .i64 0)).setCell ⟨w.heap.size, 13, none⟩ (.int .i64 0)).setCell ⟨w.heap.size, 14, none⟩ (.int .i64 0)) w.heap.size (⟨k, v1, 0, 0, 0, 0, 0, 0, 0, 0, 0, 0, 0, 0, 0⟩ : Ev) := EvBox.all HS1.out.rs (⟨k, v1, 0, 0, 0, 0, 0, 0, 0, 0, 0, 0, 0, 0, 0⟩ : Ev)
  have CF : Chg (fun k => k = w.heap.size) (u1.setCell ⟨w2.heap.size, 1, none⟩ (.int .i64 v1)) ((((((((((((((((u1.setCell ⟨w2.heap.size, 1, none⟩ (.int .i64 v1)).setCell ⟨w.heap.size, 0, none⟩ (.int .i64 k)).setCell ⟨w.heap.size, 1, none⟩ (.int .i64 v1)).setCell ⟨w.heap.size, 2, none⟩ (.int .i64 0)).setCell ⟨w.heap.size, 3, none⟩ (.int .i64 0)).setCell ⟨w.heap.size, 4, none⟩ (.int .i64 0)).setCell ⟨w.heap.size, 5, none⟩ (.int .i64 0)).setCell ⟨w.heap.size, 6, none⟩ (.int .i64 0)).setCell ⟨w.heap.size, 7, none⟩ (.int .i64 0)).setCell ⟨w.heap.size, 8, none⟩ (.int .i64 0)).setCell ⟨w.heap.size, 9, none⟩ (.int .i64 0)).setCell ⟨w.heap.size, 10, none⟩ (.int .i64 0)).setCell ⟨w.heap.size, 11, none⟩ (.int .i64 0)).setCell ⟨w.heap.size, 12, none⟩ (.int .i64 0)).setCell ⟨w.heap.size, 13, none⟩ (.int .i64 0)).setCell ⟨w.heap.size, 14, none⟩ (.int .i64 0)) := evAll_chg (u1.setCell ⟨w2.heap.size, 1, none⟩ (.int .i64 v1)) w.heap.size (⟨k, v1, 0, 0, 0, 0, 0, 0, 0, 0, 0, 0, 0, 0, 0⟩ : Ev)
  generalize ((((((((((((((((u1.setCell ⟨w2.heap.size, 1, none⟩ (.int .i64 v1)).setCell ⟨w.heap.size, 0, none⟩ (.int .i64 k)).setCell ⟨w.heap.size, 1, none⟩ (.int .i64 v1)).setCell ⟨w.heap.size, 2, none⟩ (.int .i64 0)).setCell ⟨w.heap.size, 3, none⟩ (.int .i64 0)).setCell ⟨w.heap.size, 4, none⟩ (.int .i64 0)).setCell ⟨w.heap.size, 5, none⟩ (.int .i64 0)).setCell ⟨w.heap.size, 6, none⟩ (.int .i64 0)).setCell ⟨w.heap.size, 7, none⟩ (.int .i64 0)).setCell ⟨w.heap.size, 8, none⟩ (.int .i64 0)).setCell ⟨w.heap.size, 9, none⟩ (.int .i64 0)).setCell ⟨w.heap.size, 10, none⟩ (.int .i64 0)).setCell ⟨w.heap.size, 11, none⟩ (.int .i64 0)).setCell ⟨w.heap.size, 12, none⟩ (.int .i64 0)).setCell ⟨w.heap.size, 13, none⟩ (.int .i64 0)).setCell ⟨w.heap.size, 14, none⟩ (.int .i64 0)) = WF at RF CF ⊢
  obtain ⟨d0, d1, d2, d3, d4, d5, d6, d7, d8, d9, d10, d11, d12, d13, d14⟩ := RF.at_
  simp only [Nat.zero_add] at d0 d1 d2 d3 d4 d5 d6 d7 d8 d9 d10 d11 d12 d13 d14
  obtain ⟨n1, n2, n3, n4, n5, n6⟩ := HS1.out.ne
  refine bodyPost_ret (v := evV (⟨k, v1, 0, 0, 0, 0, 0, 0, 0, 0, 0, 0, 0, 0, 0⟩ : Ev)) (by simp [results, Try.results33, go_sem, evV, d0, d1, d2, d3, d4, d5, d6, d7, d8, d9, d10, d11, d12, d13, d14]) rfl ?_
  exact ⟨rfl, HS1.out.ch.then_ CF (fun k hk e => by omega), HS1.out.src.keep CF (fun e => n2 e.symm) (fun k _ hk e => by omega), HS1.out.u8, HS1.out.len⟩
end Go.Proofs.Ytdnddoiemaifjaa
