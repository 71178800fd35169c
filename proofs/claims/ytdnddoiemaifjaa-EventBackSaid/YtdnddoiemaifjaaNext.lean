/- Package event: next, of a kind that is one. -/
import Derived.Test.YtdnddoiemaifjaaEvBox
import Derived.Test.YtdnddoiemaifjaaEvGood
import Derived.Test.YtdnddoiemaifjaaDelete
namespace Go.Proofs.Ytdnddoiemaifjaa
open Go.RowKit
variable {B : Nat}
def ev00 : Ev := ⟨0, 0, 0, 0, 0, 0, 0, 0, 0, 0, 0, 0, 0, 0, 0⟩
def setR (e : Ev) (j : Nat) (v : Int) : Ev := match j with
  | 0 => { e with r0 := v }
  | 1 => { e with r1 := v }
  | 2 => { e with r2 := v }
  | 3 => { e with r3 := v }
  | 4 => { e with r4 := v }
  | 5 => { e with r5 := v }
  | 6 => { e with r6 := v }
  | _ => { e with r7 := v }
def regsF : Nat → Ev → List Int → Int → Ev × List Int × Int
  | 0, e, bs, er => (e, bs, er)
  | j + 1, e, bs, er => (setR (regsF j e bs er).1 j (intQ (regsF j e bs er).2.1 (regsF j e bs er).2.2).1, (intQ (regsF j e bs er).2.1 (regsF j e bs er).2.2).2)
def Q2 (k : Int) (bs : List Int) (er : Int) : Int × List Int × Int := numQ (tT k) (numQ true bs er).2.1 (numQ true bs er).2.2
def Q3 (k : Int) (bs : List Int) (er : Int) : Int × List Int × Int := numQ (tV k) (Q2 k bs er).2.1 (Q2 k bs er).2.2
def Q4 (k : Int) (bs : List Int) (er : Int) : Int × List Int × Int := numQ (tC k) (Q3 k bs er).2.1 (Q3 k bs er).2.2
def Q5 (k : Int) (bs : List Int) (er : Int) : Int × List Int × Int := numQ (tC k) (Q4 k bs er).2.1 (Q4 k bs er).2.2
def Q6 (k : Int) (bs : List Int) (er : Int) : Int × List Int × Int := numQ (tC k) (Q5 k bs er).2.1 (Q5 k bs er).2.2
/-- The event of a kind. -/
def nextK (k : Int) (bs : List Int) (er : Int) : Ev × List Int × Int :=
  if tC k then regsF 8 ⟨k, (numQ true bs er).1, (Q2 k bs er).1, (Q3 k bs er).1, (Q4 k bs er).1, (Q5 k bs er).1, 0, 0, 0, 0, 0, 0, 0, 0, (Q6 k bs er).1⟩ (Q6 k bs er).2.1 (Q6 k bs er).2.2
  else (⟨k, (numQ true bs er).1, (Q2 k bs er).1, (Q3 k bs er).1, (Q4 k bs er).1, (Q5 k bs er).1, 0, 0, 0, 0, 0, 0, 0, 0, (Q6 k bs er).1⟩, (Q6 k bs er).2)
def nextM (bs : List Int) : Ev × List Int × Int := if tK (gotE 0 octM bs 0).1 then nextK (gotE 0 octM bs 0).1 (gotE 0 octM bs 0).2.1 (gotE 0 octM bs 0).2.2 else (ev00, (gotE 0 octM bs 0).2.1, if (gotE 0 octM bs 0).2.2 ≠ 0 then (gotE 0 octM bs 0).2.2 else 10)
/-- What stands while an event is read. -/
structure StN (B : Nat) (w0 W : World) (b eb hb pb rb : Nat) (e : Ev) (k : Int) (bs : List Int) (er : Int) : Prop where
  src : Src B W b bs er
  u8 : U8s bs
  ev : EvBox W eb e
  rs : EvBox W rb ev00
  has : HasK W hb k
  box : W.cell? ⟨pb, 0, none⟩ = some (.pointer (some ⟨b, 0, none⟩))
  ch : Chg (fun k => k = b) w0 W
  ne : eb ≠ b ∧ hb ≠ b ∧ pb ≠ b ∧ rb ≠ b ∧ hb ≠ eb ∧ pb ≠ eb ∧ rb ≠ eb ∧ w0.heap.size ≤ eb ∧ w0.heap.size ≤ rb ∧ B ≤ w0.heap.size
theorem StN.call {w0 W W' : World} {b eb hb pb rb : Nat} {e : Ev} {k : Int} {bs bs' : List Int} {er er' : Int} (h : StN B w0 W b eb hb pb rb e k bs er) (hc : Chg (fun k => k = b) W W') (hs : Src B W' b bs' er') (hu : U8s bs') : StN B w0 W' b eb hb pb rb e k bs' er' :=
  ⟨hs, hu, h.ev.keep hc h.ne.1, h.rs.keep hc h.ne.2.2.2.1, h.has.keep hc h.ne.2.1, hc.cell h.box h.ne.2.2.1, h.ch.trans hc, h.ne⟩
theorem StN.put {w0 W W' : World} {b eb hb pb rb : Nat} {e e' : Ev} {k : Int} {bs : List Int} {er : Int} (h : StN B w0 W b eb hb pb rb e k bs er) (hc : Chg (fun k => k = eb) W W') (he : EvBox W' eb e') : StN B w0 W' b eb hb pb rb e' k bs er := by
  obtain ⟨n1, n2, n3, n4, n5, n6, n7, n8, n9, n10⟩ := h.ne
  exact ⟨h.src.keep hc (fun e => n1 e.symm) (fun k hk e => by omega), h.u8, he, h.rs.keep hc n7, h.has.keep hc n5, hc.cell h.box n6, h.ch.then_ hc (fun k hk e => by omega), h.ne⟩
theorem StN.size {w0 W : World} {b eb hb pb rb : Nat} {e : Ev} {k : Int} {bs : List Int} {er : Int} (h : StN B w0 W b eb hb pb rb e k bs er) : B ≤ W.heap.size := by
  have := h.ch.size
  have := h.ne.2.2.2.2.2.2.2.2.2
  omega
theorem StN.num {w0 W : World} {b eb hb pb rb : Nat} {e : Ev} {k : Int} {bs : List Int} {er : Int} (h : StN B w0 W b eb hb pb rb e k bs er) (so : Bool) {q : Int × List Int × Int} (hq : Hid (numQ so bs er = q)) :
    Calls Try.prog 50 #[.bool so, .pointer (some ⟨pb, 0, none⟩)] W fun x W' => x = .returned (.int .i64 q.1) ∧ StN B w0 W' b eb hb pb rb e k q.2.1 q.2.2 := by
  have hu := (numQ_u8 h.u8 so er).1
  rw [hq.out] at hu
  refine (numc pb b so er bs W h.src h.size h.u8 h.box).mono ?_
  rw [hq.out]
  rintro x W' ⟨he, hc, hs⟩
  exact ⟨he, h.call hc hs hu⟩
theorem StN.p1 {w0 W : World} {b eb hb pb rb : Nat} {e : Ev} {k : Int} {bs : List Int} {er : Int} (h : StN B w0 W b eb hb pb rb e k bs er) (v : Int) : StN B w0 (W.setCell ⟨eb, 1, none⟩ (.int .i64 v)) b eb hb pb rb { e with act := v } k bs er := h.put ((Chg.refl _ _).setCell eb 1 _ rfl) (h.ev.st1 v)
theorem StN.p2 {w0 W : World} {b eb hb pb rb : Nat} {e : Ev} {k : Int} {bs : List Int} {er : Int} (h : StN B w0 W b eb hb pb rb e k bs er) (v : Int) : StN B w0 (W.setCell ⟨eb, 2, none⟩ (.int .i64 v)) b eb hb pb rb { e with thread := v } k bs er := h.put ((Chg.refl _ _).setCell eb 2 _ rfl) (h.ev.st2 v)
theorem StN.p3 {w0 W : World} {b eb hb pb rb : Nat} {e : Ev} {k : Int} {bs : List Int} {er : Int} (h : StN B w0 W b eb hb pb rb e k bs er) (v : Int) : StN B w0 (W.setCell ⟨eb, 3, none⟩ (.int .i64 v)) b eb hb pb rb { e with value := v } k bs er := h.put ((Chg.refl _ _).setCell eb 3 _ rfl) (h.ev.st3 v)
theorem StN.p4 {w0 W : World} {b eb hb pb rb : Nat} {e : Ev} {k : Int} {bs : List Int} {er : Int} (h : StN B w0 W b eb hb pb rb e k bs er) (v : Int) : StN B w0 (W.setCell ⟨eb, 4, none⟩ (.int .i64 v)) b eb hb pb rb { e with program := v } k bs er := h.put ((Chg.refl _ _).setCell eb 4 _ rfl) (h.ev.st4 v)
theorem StN.p5 {w0 W : World} {b eb hb pb rb : Nat} {e : Ev} {k : Int} {bs : List Int} {er : Int} (h : StN B w0 W b eb hb pb rb e k bs er) (v : Int) : StN B w0 (W.setCell ⟨eb, 5, none⟩ (.int .i64 v)) b eb hb pb rb { e with pc := v } k bs er := h.put ((Chg.refl _ _).setCell eb 5 _ rfl) (h.ev.st5 v)
theorem StN.p14 {w0 W : World} {b eb hb pb rb : Nat} {e : Ev} {k : Int} {bs : List Int} {er : Int} (h : StN B w0 W b eb hb pb rb e k bs er) (v : Int) : StN B w0 (W.setCell ⟨eb, 14, none⟩ (.int .i64 v)) b eb hb pb rb { e with depth := v } k bs er := h.put ((Chg.refl _ _).setCell eb 14 _ rfl) (h.ev.st14 v)
/-- What next leaves, of a kind that is one. -/
def NextQ (B : Nat) (w : World) (b : Nat) (r : Ev × List Int × Int) (e : Ending) (w' : World) : Prop := e = .returned (.tuple #[evV r.1, .bool true]) ∧ Chg (fun k => k = b) w w' ∧ Src B w' b r.2.1 r.2.2 ∧ U8s r.2.1
set_option maxRecDepth 100000 in
set_option maxHeartbeats 16000000 in
theorem next_plain (b : Nat) (bs : List Int) (w : World) (h : Src B w b bs 0) (hB : B ≤ w.heap.size) (hu : U8s bs) (k : Int) (bs1 : List Int) (er1 : Int) (hg : gotE 0 octM bs 0 = (k, bs1, er1)) (hk : tK k = true) (hcx : tC k = false) :
    Calls Try.prog 29 #[.pointer (some ⟨b, 0, none⟩)] w (NextQ B w b (nextK k bs1 er1)) := by
  have hlt := h.made.lt
  have hgu := gotE_u8 (z := 0) (well_oct hu) hu 0
  rw [hg] at hgu
  have hw8 : IntKind.i64.wrap k = k := by
    rw [IntKind.wrap_i64]
    rcases hgu.2.2 with h | h <;> simp only at h <;> omega
  have hu1 : U8s bs1 := hgu.1
  have hal : Below w.heap.size w ((w.alloc (.cells #[.pointer (some ⟨b, 0, none⟩)] 55)).alloc (.cells #[.int .i64 0, .int .i64 0, .int .i64 0, .int .i64 0, .int .i64 0, .int .i64 0, .int .i64 0, .int .i64 0, .int .i64 0, .int .i64 0, .int .i64 0, .int .i64 0, .int .i64 0, .int .i64 0, .int .i64 0] 30)) := below_al (below_al (Below.refl _ _) _) _
  have HAL := Lib.hid hal
  have hx0 : (((w.alloc (.cells #[.pointer (some ⟨b, 0, none⟩)] 55)).alloc (.cells #[.int .i64 0, .int .i64 0, .int .i64 0, .int .i64 0, .int .i64 0, .int .i64 0, .int .i64 0, .int .i64 0, .int .i64 0, .int .i64 0, .int .i64 0, .int .i64 0, .int .i64 0, .int .i64 0, .int .i64 0] 30))).cell? ⟨w.heap.size, 0, none⟩ = some (.pointer (some ⟨b, 0, none⟩)) := by go_simp
  have hrs0 : EvBox ((w.alloc (.cells #[.pointer (some ⟨b, 0, none⟩)] 55)).alloc (.cells #[.int .i64 0, .int .i64 0, .int .i64 0, .int .i64 0, .int .i64 0, .int .i64 0, .int .i64 0, .int .i64 0, .int .i64 0, .int .i64 0, .int .i64 0, .int .i64 0, .int .i64 0, .int .i64 0, .int .i64 0] 30)) (w.heap.size + 1) ev00 := by
    have := EvBox.new (w.alloc (.cells #[.pointer (some ⟨b, 0, none⟩)] 55)) ev00 30
    simpa [evC, ev00] using this
  have HB0 := srcByte' (B := B) b 0 bs ((w.alloc (.cells #[.pointer (some ⟨b, 0, none⟩)] 55)).alloc (.cells #[.int .i64 0, .int .i64 0, .int .i64 0, .int .i64 0, .int .i64 0, .int .i64 0, .int .i64 0, .int .i64 0, .int .i64 0, .int .i64 0, .int .i64 0, .int .i64 0, .int .i64 0, .int .i64 0, .int .i64 0] 30)) (h.below hal) (by simp; omega) hu
  rw [hg] at HB0
  have HB := Lib.hid HB0
  have HT0 := fun W => etells k W
  rw [hk] at HT0
  have HT := Lib.hid HT0
  have HU := Lib.hid hu1
  have HL := Lib.hid hB
  have HC := Lib.hid hcx
  have HX0 := Lib.hid hx0
  have HRS := Lib.hid hrs0
  obtain ⟨⟨v1, bs2, er2⟩, hq1⟩ : ∃ q, numQ true bs1 er1 = q := ⟨_, rfl⟩
  obtain ⟨⟨v2, bs3, er3⟩, hq2⟩ : ∃ q, numQ (tT k) bs2 er2 = q := ⟨_, rfl⟩
  obtain ⟨⟨v3, bs4, er4⟩, hq3⟩ : ∃ q, numQ (tV k) bs3 er3 = q := ⟨_, rfl⟩
  obtain ⟨⟨v4, bs5, er5⟩, hq4⟩ : ∃ q, numQ (tC k) bs4 er4 = q := ⟨_, rfl⟩
  obtain ⟨⟨v5, bs6, er6⟩, hq5⟩ : ∃ q, numQ (tC k) bs5 er5 = q := ⟨_, rfl⟩
  obtain ⟨⟨v6, bs7, er7⟩, hq6⟩ : ∃ q, numQ (tC k) bs6 er6 = q := ⟨_, rfl⟩
  have HR : Hid (nextK k bs1 er1 = ((⟨k, v1, v2, v3, v4, v5, 0, 0, 0, 0, 0, 0, 0, 0, v6⟩ : Ev), bs7, er7)) := by
    show _ = _
    unfold nextK
    simp only [Q6, Q5, Q4, Q3, Q2, hq1, hq2, hq3, hq4, hq5, hq6]
    rw [hcx]
    rfl
  rw [HR.out]
  have HQ1 := Lib.hid hq1
  have HQ2 := Lib.hid hq2
  have HQ3 := Lib.hid hq3
  have HQ4 := Lib.hid hq4
  have HQ5 := Lib.hid hq5
  have HQ6 := Lib.hid hq6
  clear hq1 hq2 hq3 hq4 hq5 hq6 HR
  clear hg hk hcx HT0 HB0 hu1 hB hal hx0 hrs0 hgu
  go_enter Try.func29, Try.ntmps29
  go_wp2_with (first
    | (go_at_call 49; (with_reducible refine HB.out.mono ?_); rintro x w2 ⟨rfl, hc2, hs2⟩; simp only at hs2)
    | (go_at_call 39; (with_reducible refine (HT.out _).mono ?_); rintro x w3 ⟨rfl, hb3⟩; have HS0 : Hid (StN B w (w3.alloc (.cells #[.bool (tA k), .bool (tT k), .bool (tV k), .bool (tC k)] 68)) b w2.heap.size w3.heap.size w.heap.size (w.heap.size + 1) ⟨k, 0, 0, 0, 0, 0, 0, 0, 0, 0, 0, 0, 0, 0, 0⟩ k bs1 er1) := (by have hsz1 : w.heap.size + 2 ≤ w2.heap.size := (by have := hc2.size; simpa using this); have hsz3 : w2.heap.size + 1 ≤ w3.heap.size := (by have := hb3.size; simpa using this); have hbA : Below w2.heap.size w2 (w3.alloc (.cells #[.bool (tA k), .bool (tT k), .bool (tV k), .bool (tC k)] 68)) := below_al (below_tr (below_al (Below.refl _ _) _) hb3) _; have hcA : Chg (fun k => k = b) ((w.alloc (.cells #[.pointer (some ⟨b, 0, none⟩)] 55)).alloc (.cells #[.int .i64 0, .int .i64 0, .int .i64 0, .int .i64 0, .int .i64 0, .int .i64 0, .int .i64 0, .int .i64 0, .int .i64 0, .int .i64 0, .int .i64 0, .int .i64 0, .int .i64 0, .int .i64 0, .int .i64 0] 30)) (w3.alloc (.cells #[.bool (tA k), .bool (tT k), .bool (tV k), .bool (tC k)] 68)) := hc2.trans (Chg.of_below hbA); refine ⟨hs2.below hbA, HU.out, ?_, HRS.out.keep hcA (by omega), ?_, hcA.cell HX0.out (by simp only; omega), (Chg.of_below HAL.out).trans hcA, by have := HL.out; omega⟩; exact (((EvBox.new w2 ⟨k, 0, 0, 0, 0, 0, 0, 0, 0, 0, 0, 0, 0, 0, 0⟩ 30).below hb3).below (below_al (Below.refl _ _) _)); exact HasK.new w3 k _); have HN1 := Lib.hid (HS0.out.num true HQ1))
    | (go_at_call 50; (with_reducible refine HN1.out.mono ?_); rintro x u1 ⟨rfl, hs1⟩; (try simp only at hs1); have g1 := hs1.ev.c1.cell; have f1 := hs1.ev.c1.free; have HS1 := Lib.hid (hs1.p1 v1); have z2 := HS1.out.has.c1; have HN2 := Lib.hid (HS1.out.num (tT k) HQ2); clear HN1)
    | (go_at_call 50; (with_reducible refine HN2.out.mono ?_); rintro x u2 ⟨rfl, hs2⟩; (try simp only at hs2); have g2 := hs2.ev.c2.cell; have f2 := hs2.ev.c2.free; have HS2 := Lib.hid (hs2.p2 v2); have z3 := HS2.out.has.c2; have HN3 := Lib.hid (HS2.out.num (tV k) HQ3); clear HN2)
    | (go_at_call 50; (with_reducible refine HN3.out.mono ?_); rintro x u3 ⟨rfl, hs3⟩; (try simp only at hs3); have g3 := hs3.ev.c3.cell; have f3 := hs3.ev.c3.free; have HS3 := Lib.hid (hs3.p3 v3); have z4 := HS3.out.has.c3; have HN4 := Lib.hid (HS3.out.num (tC k) HQ4); clear HN3)
    | (go_at_call 50; (with_reducible refine HN4.out.mono ?_); rintro x u4 ⟨rfl, hs4⟩; (try simp only at hs4); have g4 := hs4.ev.c4.cell; have f4 := hs4.ev.c4.free; have HS4 := Lib.hid (hs4.p4 v4); have z5 := HS4.out.has.c3; have HN5 := Lib.hid (HS4.out.num (tC k) HQ5); clear HN4)
    | (go_at_call 50; (with_reducible refine HN5.out.mono ?_); rintro x u5 ⟨rfl, hs5⟩; (try simp only at hs5); have g5 := hs5.ev.c5.cell; have f5 := hs5.ev.c5.free; have HS5 := Lib.hid (hs5.p5 v5); have z6 := HS5.out.has.c3; have HN6 := Lib.hid (HS5.out.num (tC k) HQ6); clear HN5)
    | (go_at_call 50; (with_reducible refine HN6.out.mono ?_); rintro x u6 ⟨rfl, hs6⟩; (try simp only at hs6); have g6 := hs6.ev.c14.cell; have f6 := hs6.ev.c14.free; have HS6 := Lib.hid (hs6.p14 v6); have z7 := HS6.out.has.c3; rw [HC.out] at z7; have EE := HS6.out.ev; have RR := HS6.out.rs; have k0 := EE.c0.cell; have r0 := RR.c0.cell; have q0 := RR.c0.free; have k1 := EE.c1.cell; have r1 := RR.c1.cell; have q1 := RR.c1.free; have k2 := EE.c2.cell; have r2 := RR.c2.cell; have q2 := RR.c2.free; have k3 := EE.c3.cell; have r3 := RR.c3.cell; have q3 := RR.c3.free; have k4 := EE.c4.cell; have r4 := RR.c4.cell; have q4 := RR.c4.free; have k5 := EE.c5.cell; have r5 := RR.c5.cell; have q5 := RR.c5.free; have k6 := EE.c6.cell; have r6 := RR.c6.cell; have q6 := RR.c6.free; have k7 := EE.c7.cell; have r7 := RR.c7.cell; have q7 := RR.c7.free; have k8 := EE.c8.cell; have r8 := RR.c8.cell; have q8 := RR.c8.free; have k9 := EE.c9.cell; have r9 := RR.c9.cell; have q9 := RR.c9.free; have k10 := EE.c10.cell; have r10 := RR.c10.cell; have q10 := RR.c10.free; have k11 := EE.c11.cell; have r11 := RR.c11.cell; have q11 := RR.c11.free; have k12 := EE.c12.cell; have r12 := RR.c12.cell; have q12 := RR.c12.free; have k13 := EE.c13.cell; have r13 := RR.c13.cell; have q13 := RR.c13.free; have k14 := EE.c14.cell; have r14 := RR.c14.cell; have q14 := RR.c14.free; simp only at k0 k1 k2 k3 k4 k5 k6 k7 k8 k9 k10 k11 k12 k13 k14; clear EE RR))
  clear k0 r0 q0 k1 r1 q1 k2 r2 q2 k3 r3 q3 k4 r4 q4 k5 r5 q5 k6 r6 q6 k7 r7 q7 k8 r8 q8 k9 r9 q9 k10 r10 q10 k11 r11 q11 k12 r12 q12 k13 r13 q13 k14 r14 q14
  have RF : EvBox ((((((((((((((((u6.setCell ⟨w2.heap.size, 14, none⟩ (.int .i64 v6)).setCell ⟨w.heap.size + 1, 0, none⟩ (.int .i64 k)).setCell ⟨w.heap.size + 1, 1, none⟩ (.int .i64 v1)).setCell ⟨w.heap.size + 1, 2, none⟩ (.int .i64 v2)).setCell ⟨w.heap.size + 1, 3, none⟩ (.int .i64 v3)).setCell ⟨w.heap.size + 1, 4, none⟩ (.int .i64 v4)).setCell ⟨w.heap.size + 1, 5, none⟩ (.int .i64 v5)).setCell ⟨w.heap.size + 1, 6, none⟩ (.int .i64 0)).setCell ⟨w.heap.size + 1, 7, none⟩ (.int .i64 0)).setCell ⟨w.heap.size + 1, 8, none⟩ (.int .i64 0)).setCell ⟨w.heap.size + 1, 9, none⟩ (.int .i64 0)).setCell ⟨w.heap.size + 1, 10, none⟩ (.int .i64 0)).setCell ⟨w.heap.size + 1, 11, none⟩ (.int .i64 0)).setCell ⟨w.heap.size + 1, 12, none⟩ (.int .i64 0)).setCell ⟨w.heap.size + 1, 13, none⟩ (.int .i64 0)).setCell ⟨w.heap.size + 1, 14, none⟩ (.int .i64 v6)) (w.heap.size + 1) (⟨k, v1, v2, v3, v4, v5, 0, 0, 0, 0, 0, 0, 0, 0, v6⟩ : Ev) := EvBox.all HS6.out.rs (⟨k, v1, v2, v3, v4, v5, 0, 0, 0, 0, 0, 0, 0, 0, v6⟩ : Ev)
  have CF : Chg (fun k => k = w.heap.size + 1) (u6.setCell ⟨w2.heap.size, 14, none⟩ (.int .i64 v6)) ((((((((((((((((u6.setCell ⟨w2.heap.size, 14, none⟩ (.int .i64 v6)).setCell ⟨w.heap.size + 1, 0, none⟩ (.int .i64 k)).setCell ⟨w.heap.size + 1, 1, none⟩ (.int .i64 v1)).setCell ⟨w.heap.size + 1, 2, none⟩ (.int .i64 v2)).setCell ⟨w.heap.size + 1, 3, none⟩ (.int .i64 v3)).setCell ⟨w.heap.size + 1, 4, none⟩ (.int .i64 v4)).setCell ⟨w.heap.size + 1, 5, none⟩ (.int .i64 v5)).setCell ⟨w.heap.size + 1, 6, none⟩ (.int .i64 0)).setCell ⟨w.heap.size + 1, 7, none⟩ (.int .i64 0)).setCell ⟨w.heap.size + 1, 8, none⟩ (.int .i64 0)).setCell ⟨w.heap.size + 1, 9, none⟩ (.int .i64 0)).setCell ⟨w.heap.size + 1, 10, none⟩ (.int .i64 0)).setCell ⟨w.heap.size + 1, 11, none⟩ (.int .i64 0)).setCell ⟨w.heap.size + 1, 12, none⟩ (.int .i64 0)).setCell ⟨w.heap.size + 1, 13, none⟩ (.int .i64 0)).setCell ⟨w.heap.size + 1, 14, none⟩ (.int .i64 v6)) := evAll_chg (u6.setCell ⟨w2.heap.size, 14, none⟩ (.int .i64 v6)) (w.heap.size + 1) (⟨k, v1, v2, v3, v4, v5, 0, 0, 0, 0, 0, 0, 0, 0, v6⟩ : Ev)
  generalize ((((((((((((((((u6.setCell ⟨w2.heap.size, 14, none⟩ (.int .i64 v6)).setCell ⟨w.heap.size + 1, 0, none⟩ (.int .i64 k)).setCell ⟨w.heap.size + 1, 1, none⟩ (.int .i64 v1)).setCell ⟨w.heap.size + 1, 2, none⟩ (.int .i64 v2)).setCell ⟨w.heap.size + 1, 3, none⟩ (.int .i64 v3)).setCell ⟨w.heap.size + 1, 4, none⟩ (.int .i64 v4)).setCell ⟨w.heap.size + 1, 5, none⟩ (.int .i64 v5)).setCell ⟨w.heap.size + 1, 6, none⟩ (.int .i64 0)).setCell ⟨w.heap.size + 1, 7, none⟩ (.int .i64 0)).setCell ⟨w.heap.size + 1, 8, none⟩ (.int .i64 0)).setCell ⟨w.heap.size + 1, 9, none⟩ (.int .i64 0)).setCell ⟨w.heap.size + 1, 10, none⟩ (.int .i64 0)).setCell ⟨w.heap.size + 1, 11, none⟩ (.int .i64 0)).setCell ⟨w.heap.size + 1, 12, none⟩ (.int .i64 0)).setCell ⟨w.heap.size + 1, 13, none⟩ (.int .i64 0)).setCell ⟨w.heap.size + 1, 14, none⟩ (.int .i64 v6)) = WF at RF CF ⊢
  obtain ⟨d0, d1, d2, d3, d4, d5, d6, d7, d8, d9, d10, d11, d12, d13, d14⟩ := RF.at_
  simp only [Nat.zero_add] at d0 d1 d2 d3 d4 d5 d6 d7 d8 d9 d10 d11 d12 d13 d14
  obtain ⟨n1, n2, n3, n4, n5, n6, n7, n8, n9, n10⟩ := HS6.out.ne
  refine bodyPost_ret (v := .tuple #[evV (⟨k, v1, v2, v3, v4, v5, 0, 0, 0, 0, 0, 0, 0, 0, v6⟩ : Ev), .bool true]) (by simp [results, Try.results29, go_sem, evV, d0, d1, d2, d3, d4, d5, d6, d7, d8, d9, d10, d11, d12, d13, d14]) rfl ?_
  exact ⟨rfl, HS6.out.ch.then_ CF (fun k hk e => by omega), HS6.out.src.keep CF (fun e => n4 e.symm) (fun k hk e => by omega), HS6.out.u8⟩
set_option maxRecDepth 100000 in
set_option maxHeartbeats 16000000 in
theorem next_ctx (b : Nat) (bs : List Int) (w : World) (h : Src B w b bs 0) (hB : B ≤ w.heap.size) (hu : U8s bs) (k : Int) (bs1 : List Int) (er1 : Int) (hg : gotE 0 octM bs 0 = (k, bs1, er1)) (hk : tK k = true) (hcx : tC k = true) :
    Calls Try.prog 29 #[.pointer (some ⟨b, 0, none⟩)] w (NextQ B w b (nextK k bs1 er1)) := by
  have hlt := h.made.lt
  have hgu := gotE_u8 (z := 0) (well_oct hu) hu 0
  rw [hg] at hgu
  have hw8 : IntKind.i64.wrap k = k := by
    rw [IntKind.wrap_i64]
    rcases hgu.2.2 with h | h <;> simp only at h <;> omega
  have hu1 : U8s bs1 := hgu.1
  have hal : Below w.heap.size w ((w.alloc (.cells #[.pointer (some ⟨b, 0, none⟩)] 55)).alloc (.cells #[.int .i64 0, .int .i64 0, .int .i64 0, .int .i64 0, .int .i64 0, .int .i64 0, .int .i64 0, .int .i64 0, .int .i64 0, .int .i64 0, .int .i64 0, .int .i64 0, .int .i64 0, .int .i64 0, .int .i64 0] 30)) := below_al (below_al (Below.refl _ _) _) _
  have HAL := Lib.hid hal
  have hx0 : (((w.alloc (.cells #[.pointer (some ⟨b, 0, none⟩)] 55)).alloc (.cells #[.int .i64 0, .int .i64 0, .int .i64 0, .int .i64 0, .int .i64 0, .int .i64 0, .int .i64 0, .int .i64 0, .int .i64 0, .int .i64 0, .int .i64 0, .int .i64 0, .int .i64 0, .int .i64 0, .int .i64 0] 30))).cell? ⟨w.heap.size, 0, none⟩ = some (.pointer (some ⟨b, 0, none⟩)) := by go_simp
  have hrs0 : EvBox ((w.alloc (.cells #[.pointer (some ⟨b, 0, none⟩)] 55)).alloc (.cells #[.int .i64 0, .int .i64 0, .int .i64 0, .int .i64 0, .int .i64 0, .int .i64 0, .int .i64 0, .int .i64 0, .int .i64 0, .int .i64 0, .int .i64 0, .int .i64 0, .int .i64 0, .int .i64 0, .int .i64 0] 30)) (w.heap.size + 1) ev00 := by
    have := EvBox.new (w.alloc (.cells #[.pointer (some ⟨b, 0, none⟩)] 55)) ev00 30
    simpa [evC, ev00] using this
  have HB0 := srcByte' (B := B) b 0 bs ((w.alloc (.cells #[.pointer (some ⟨b, 0, none⟩)] 55)).alloc (.cells #[.int .i64 0, .int .i64 0, .int .i64 0, .int .i64 0, .int .i64 0, .int .i64 0, .int .i64 0, .int .i64 0, .int .i64 0, .int .i64 0, .int .i64 0, .int .i64 0, .int .i64 0, .int .i64 0, .int .i64 0] 30)) (h.below hal) (by simp; omega) hu
  rw [hg] at HB0
  have HB := Lib.hid HB0
  have HT0 := fun W => etells k W
  rw [hk] at HT0
  have HT := Lib.hid HT0
  have HU := Lib.hid hu1
  have HL := Lib.hid hB
  have HC := Lib.hid hcx
  have HX0 := Lib.hid hx0
  have HRS := Lib.hid hrs0
  obtain ⟨⟨v1, bs2, er2⟩, hq1⟩ : ∃ q, numQ true bs1 er1 = q := ⟨_, rfl⟩
  obtain ⟨⟨v2, bs3, er3⟩, hq2⟩ : ∃ q, numQ (tT k) bs2 er2 = q := ⟨_, rfl⟩
  obtain ⟨⟨v3, bs4, er4⟩, hq3⟩ : ∃ q, numQ (tV k) bs3 er3 = q := ⟨_, rfl⟩
  obtain ⟨⟨v4, bs5, er5⟩, hq4⟩ : ∃ q, numQ (tC k) bs4 er4 = q := ⟨_, rfl⟩
  obtain ⟨⟨v5, bs6, er6⟩, hq5⟩ : ∃ q, numQ (tC k) bs5 er5 = q := ⟨_, rfl⟩
  obtain ⟨⟨v6, bs7, er7⟩, hq6⟩ : ∃ q, numQ (tC k) bs6 er6 = q := ⟨_, rfl⟩
  have HR : Hid (nextK k bs1 er1 = regsF 8 (⟨k, v1, v2, v3, v4, v5, 0, 0, 0, 0, 0, 0, 0, 0, v6⟩ : Ev) bs7 er7) := by
    show _ = _
    unfold nextK
    simp only [Q6, Q5, Q4, Q3, Q2, hq1, hq2, hq3, hq4, hq5, hq6]
    rw [hcx]
    rfl
  rw [HR.out]
  have HQ1 := Lib.hid hq1
  have HQ2 := Lib.hid hq2
  have HQ3 := Lib.hid hq3
  have HQ4 := Lib.hid hq4
  have HQ5 := Lib.hid hq5
  have HQ6 := Lib.hid hq6
  clear hq1 hq2 hq3 hq4 hq5 hq6 HR
  clear hg hk hcx HT0 HB0 hu1 hB hal hx0 hrs0 hgu
  go_enter Try.func29, Try.ntmps29
  go_wp2_with (first
    | (go_at_call 49; (with_reducible refine HB.out.mono ?_); rintro x w2 ⟨rfl, hc2, hs2⟩; simp only at hs2)
    | (go_at_call 39; (with_reducible refine (HT.out _).mono ?_); rintro x w3 ⟨rfl, hb3⟩; have HS0 : Hid (StN B w (w3.alloc (.cells #[.bool (tA k), .bool (tT k), .bool (tV k), .bool (tC k)] 68)) b w2.heap.size w3.heap.size w.heap.size (w.heap.size + 1) ⟨k, 0, 0, 0, 0, 0, 0, 0, 0, 0, 0, 0, 0, 0, 0⟩ k bs1 er1) := (by have hsz1 : w.heap.size + 2 ≤ w2.heap.size := (by have := hc2.size; simpa using this); have hsz3 : w2.heap.size + 1 ≤ w3.heap.size := (by have := hb3.size; simpa using this); have hbA : Below w2.heap.size w2 (w3.alloc (.cells #[.bool (tA k), .bool (tT k), .bool (tV k), .bool (tC k)] 68)) := below_al (below_tr (below_al (Below.refl _ _) _) hb3) _; have hcA : Chg (fun k => k = b) ((w.alloc (.cells #[.pointer (some ⟨b, 0, none⟩)] 55)).alloc (.cells #[.int .i64 0, .int .i64 0, .int .i64 0, .int .i64 0, .int .i64 0, .int .i64 0, .int .i64 0, .int .i64 0, .int .i64 0, .int .i64 0, .int .i64 0, .int .i64 0, .int .i64 0, .int .i64 0, .int .i64 0] 30)) (w3.alloc (.cells #[.bool (tA k), .bool (tT k), .bool (tV k), .bool (tC k)] 68)) := hc2.trans (Chg.of_below hbA); refine ⟨hs2.below hbA, HU.out, ?_, HRS.out.keep hcA (by omega), ?_, hcA.cell HX0.out (by simp only; omega), (Chg.of_below HAL.out).trans hcA, by have := HL.out; omega⟩; exact (((EvBox.new w2 ⟨k, 0, 0, 0, 0, 0, 0, 0, 0, 0, 0, 0, 0, 0, 0⟩ 30).below hb3).below (below_al (Below.refl _ _) _)); exact HasK.new w3 k _); have HN1 := Lib.hid (HS0.out.num true HQ1))
    | (go_at_call 50; (with_reducible refine HN1.out.mono ?_); rintro x u1 ⟨rfl, hs1⟩; (try simp only at hs1); have g1 := hs1.ev.c1.cell; have f1 := hs1.ev.c1.free; have HS1 := Lib.hid (hs1.p1 v1); have z2 := HS1.out.has.c1; have HN2 := Lib.hid (HS1.out.num (tT k) HQ2); clear HN1)
    | (go_at_call 50; (with_reducible refine HN2.out.mono ?_); rintro x u2 ⟨rfl, hs2⟩; (try simp only at hs2); have g2 := hs2.ev.c2.cell; have f2 := hs2.ev.c2.free; have HS2 := Lib.hid (hs2.p2 v2); have z3 := HS2.out.has.c2; have HN3 := Lib.hid (HS2.out.num (tV k) HQ3); clear HN2)
    | (go_at_call 50; (with_reducible refine HN3.out.mono ?_); rintro x u3 ⟨rfl, hs3⟩; (try simp only at hs3); have g3 := hs3.ev.c3.cell; have f3 := hs3.ev.c3.free; have HS3 := Lib.hid (hs3.p3 v3); have z4 := HS3.out.has.c3; have HN4 := Lib.hid (HS3.out.num (tC k) HQ4); clear HN3)
    | (go_at_call 50; (with_reducible refine HN4.out.mono ?_); rintro x u4 ⟨rfl, hs4⟩; (try simp only at hs4); have g4 := hs4.ev.c4.cell; have f4 := hs4.ev.c4.free; have HS4 := Lib.hid (hs4.p4 v4); have z5 := HS4.out.has.c3; have HN5 := Lib.hid (HS4.out.num (tC k) HQ5); clear HN4)
    | (go_at_call 50; (with_reducible refine HN5.out.mono ?_); rintro x u5 ⟨rfl, hs5⟩; (try simp only at hs5); have g5 := hs5.ev.c5.cell; have f5 := hs5.ev.c5.free; have HS5 := Lib.hid (hs5.p5 v5); have z6 := HS5.out.has.c3; have HN6 := Lib.hid (HS5.out.num (tC k) HQ6); clear HN5)
    | (go_at_call 50; (with_reducible refine HN6.out.mono ?_); rintro x u6 ⟨rfl, hs6⟩; (try simp only at hs6); have g6 := hs6.ev.c14.cell; have f6 := hs6.ev.c14.free; have HS6 := Lib.hid (hs6.p14 v6); have z7 := HS6.out.has.c3; rw [HC.out] at z7))
  clear HN6
  go_loopw [59] (fun i wr => ∃ j : Nat, j ≤ 8 ∧ i = .int .i64 j ∧ StN B w wr b w2.heap.size w3.heap.size w.heap.size (w.heap.size + 1) (regsF j (⟨k, v1, v2, v3, v4, v5, 0, 0, 0, 0, 0, 0, 0, 0, v6⟩ : Ev) bs7 er7).1 k (regsF j (⟨k, v1, v2, v3, v4, v5, 0, 0, 0, 0, 0, 0, 0, 0, v6⟩ : Ev) bs7 er7).2.1 (regsF j (⟨k, v1, v2, v3, v4, v5, 0, 0, 0, 0, 0, 0, 0, 0, v6⟩ : Ev) bs7 er7).2.2) (fun i _ => 8 - (intOf i).toNat)
  case atStart => exact ⟨0, by omega, rfl, HS6.out⟩
  case round =>
    obtain ⟨j, hj, rfl, hS⟩ := hrel
    clear z7 g6 f6
    have hcase : j = 0 ∨ j = 1 ∨ j = 2 ∨ j = 3 ∨ j = 4 ∨ j = 5 ∨ j = 6 ∨ j = 7 ∨ j = 8 := by omega
    rcases hcase with rfl | rfl | rfl | rfl | rfl | rfl | rfl | rfl | rfl
    · obtain ⟨⟨eR, bR, rR⟩, hR⟩ : ∃ q, regsF 0 (⟨k, v1, v2, v3, v4, v5, 0, 0, 0, 0, 0, 0, 0, 0, v6⟩ : Ev) bs7 er7 = q := ⟨_, rfl⟩
      rw [hR] at hS
      simp only at hS
      obtain ⟨⟨qv, qb, qe⟩, hq⟩ : ∃ q, intQ bR rR = q := ⟨_, rfl⟩
      have hI : Calls Try.prog 51 #[.pointer (some ⟨b, 0, none⟩), .int .i64 (-9223372036854775808), .int .i64 9223372036854775807] wr (Tells (fun v => .int .i64 v) B wr b (intQ bR rR)) := srcInt' (B := B) b (-9223372036854775808) 9223372036854775807 rR bR wr hS.src hS.size hS.u8
      have hu9 := (intQ_u8 hS.u8 rR).1
      rw [hq] at hI hu9
      have HI := Lib.hid hI
      have HR : Hid (regsF (0 + 1) (⟨k, v1, v2, v3, v4, v5, 0, 0, 0, 0, 0, 0, 0, 0, v6⟩ : Ev) bs7 er7 = ({ eR with r0 := qv }, qb, qe)) := by
        show (setR (regsF 0 (⟨k, v1, v2, v3, v4, v5, 0, 0, 0, 0, 0, 0, 0, 0, v6⟩ : Ev) bs7 er7).1 0 (intQ (regsF 0 (⟨k, v1, v2, v3, v4, v5, 0, 0, 0, 0, 0, 0, 0, 0, v6⟩ : Ev) bs7 er7).2.1 (regsF 0 (⟨k, v1, v2, v3, v4, v5, 0, 0, 0, 0, 0, 0, 0, 0, v6⟩ : Ev) bs7 er7).2.2).1, (intQ (regsF 0 (⟨k, v1, v2, v3, v4, v5, 0, 0, 0, 0, 0, 0, 0, 0, v6⟩ : Ev) bs7 er7).2.1 (regsF 0 (⟨k, v1, v2, v3, v4, v5, 0, 0, 0, 0, 0, 0, 0, 0, v6⟩ : Ev) bs7 er7).2.2).2) = _
        rw [hR]
        simp only
        rw [hq]
        rfl
      have HU9 := Lib.hid hu9
      have zb := hS.box
      have HS := Lib.hid hS
      clear hI hR hq hu9 hS
      go_wp2_with (go_at_call 51; (with_reducible refine HI.out.mono ?_); rintro x u9 ⟨rfl, hc9, hs9⟩; have S9 := HS.out.call hc9 hs9 HU9.out; have g9 := S9.ev.c6.cell; have f9 := S9.ev.c6.free; have HS9 := Lib.hid (S9.put ((Chg.refl _ _).setCell w2.heap.size 6 (.int .i64 qv) rfl) (S9.ev.st6 qv)); clear S9)
      go_roundw
      case rel =>
        refine ⟨0 + 1, by omega, by first | rfl | go_num, ?_⟩
        rw [HR.out]
        exact HS9.out
      case measure => simp [intOf]
    · obtain ⟨⟨eR, bR, rR⟩, hR⟩ : ∃ q, regsF 1 (⟨k, v1, v2, v3, v4, v5, 0, 0, 0, 0, 0, 0, 0, 0, v6⟩ : Ev) bs7 er7 = q := ⟨_, rfl⟩
      rw [hR] at hS
      simp only at hS
      obtain ⟨⟨qv, qb, qe⟩, hq⟩ : ∃ q, intQ bR rR = q := ⟨_, rfl⟩
      have hI : Calls Try.prog 51 #[.pointer (some ⟨b, 0, none⟩), .int .i64 (-9223372036854775808), .int .i64 9223372036854775807] wr (Tells (fun v => .int .i64 v) B wr b (intQ bR rR)) := srcInt' (B := B) b (-9223372036854775808) 9223372036854775807 rR bR wr hS.src hS.size hS.u8
      have hu9 := (intQ_u8 hS.u8 rR).1
      rw [hq] at hI hu9
      have HI := Lib.hid hI
      have HR : Hid (regsF (1 + 1) (⟨k, v1, v2, v3, v4, v5, 0, 0, 0, 0, 0, 0, 0, 0, v6⟩ : Ev) bs7 er7 = ({ eR with r1 := qv }, qb, qe)) := by
        show (setR (regsF 1 (⟨k, v1, v2, v3, v4, v5, 0, 0, 0, 0, 0, 0, 0, 0, v6⟩ : Ev) bs7 er7).1 1 (intQ (regsF 1 (⟨k, v1, v2, v3, v4, v5, 0, 0, 0, 0, 0, 0, 0, 0, v6⟩ : Ev) bs7 er7).2.1 (regsF 1 (⟨k, v1, v2, v3, v4, v5, 0, 0, 0, 0, 0, 0, 0, 0, v6⟩ : Ev) bs7 er7).2.2).1, (intQ (regsF 1 (⟨k, v1, v2, v3, v4, v5, 0, 0, 0, 0, 0, 0, 0, 0, v6⟩ : Ev) bs7 er7).2.1 (regsF 1 (⟨k, v1, v2, v3, v4, v5, 0, 0, 0, 0, 0, 0, 0, 0, v6⟩ : Ev) bs7 er7).2.2).2) = _
        rw [hR]
        simp only
        rw [hq]
        rfl
      have HU9 := Lib.hid hu9
      have zb := hS.box
      have HS := Lib.hid hS
      clear hI hR hq hu9 hS
      go_wp2_with (go_at_call 51; (with_reducible refine HI.out.mono ?_); rintro x u9 ⟨rfl, hc9, hs9⟩; have S9 := HS.out.call hc9 hs9 HU9.out; have g9 := S9.ev.c7.cell; have f9 := S9.ev.c7.free; have HS9 := Lib.hid (S9.put ((Chg.refl _ _).setCell w2.heap.size 7 (.int .i64 qv) rfl) (S9.ev.st7 qv)); clear S9)
      go_roundw
      case rel =>
        refine ⟨1 + 1, by omega, by first | rfl | go_num, ?_⟩
        rw [HR.out]
        exact HS9.out
      case measure => simp [intOf]
    · obtain ⟨⟨eR, bR, rR⟩, hR⟩ : ∃ q, regsF 2 (⟨k, v1, v2, v3, v4, v5, 0, 0, 0, 0, 0, 0, 0, 0, v6⟩ : Ev) bs7 er7 = q := ⟨_, rfl⟩
      rw [hR] at hS
      simp only at hS
      obtain ⟨⟨qv, qb, qe⟩, hq⟩ : ∃ q, intQ bR rR = q := ⟨_, rfl⟩
      have hI : Calls Try.prog 51 #[.pointer (some ⟨b, 0, none⟩), .int .i64 (-9223372036854775808), .int .i64 9223372036854775807] wr (Tells (fun v => .int .i64 v) B wr b (intQ bR rR)) := srcInt' (B := B) b (-9223372036854775808) 9223372036854775807 rR bR wr hS.src hS.size hS.u8
      have hu9 := (intQ_u8 hS.u8 rR).1
      rw [hq] at hI hu9
      have HI := Lib.hid hI
      have HR : Hid (regsF (2 + 1) (⟨k, v1, v2, v3, v4, v5, 0, 0, 0, 0, 0, 0, 0, 0, v6⟩ : Ev) bs7 er7 = ({ eR with r2 := qv }, qb, qe)) := by
        show (setR (regsF 2 (⟨k, v1, v2, v3, v4, v5, 0, 0, 0, 0, 0, 0, 0, 0, v6⟩ : Ev) bs7 er7).1 2 (intQ (regsF 2 (⟨k, v1, v2, v3, v4, v5, 0, 0, 0, 0, 0, 0, 0, 0, v6⟩ : Ev) bs7 er7).2.1 (regsF 2 (⟨k, v1, v2, v3, v4, v5, 0, 0, 0, 0, 0, 0, 0, 0, v6⟩ : Ev) bs7 er7).2.2).1, (intQ (regsF 2 (⟨k, v1, v2, v3, v4, v5, 0, 0, 0, 0, 0, 0, 0, 0, v6⟩ : Ev) bs7 er7).2.1 (regsF 2 (⟨k, v1, v2, v3, v4, v5, 0, 0, 0, 0, 0, 0, 0, 0, v6⟩ : Ev) bs7 er7).2.2).2) = _
        rw [hR]
        simp only
        rw [hq]
        rfl
      have HU9 := Lib.hid hu9
      have zb := hS.box
      have HS := Lib.hid hS
      clear hI hR hq hu9 hS
      go_wp2_with (go_at_call 51; (with_reducible refine HI.out.mono ?_); rintro x u9 ⟨rfl, hc9, hs9⟩; have S9 := HS.out.call hc9 hs9 HU9.out; have g9 := S9.ev.c8.cell; have f9 := S9.ev.c8.free; have HS9 := Lib.hid (S9.put ((Chg.refl _ _).setCell w2.heap.size 8 (.int .i64 qv) rfl) (S9.ev.st8 qv)); clear S9)
      go_roundw
      case rel =>
        refine ⟨2 + 1, by omega, by first | rfl | go_num, ?_⟩
        rw [HR.out]
        exact HS9.out
      case measure => simp [intOf]
    · obtain ⟨⟨eR, bR, rR⟩, hR⟩ : ∃ q, regsF 3 (⟨k, v1, v2, v3, v4, v5, 0, 0, 0, 0, 0, 0, 0, 0, v6⟩ : Ev) bs7 er7 = q := ⟨_, rfl⟩
      rw [hR] at hS
      simp only at hS
      obtain ⟨⟨qv, qb, qe⟩, hq⟩ : ∃ q, intQ bR rR = q := ⟨_, rfl⟩
      have hI : Calls Try.prog 51 #[.pointer (some ⟨b, 0, none⟩), .int .i64 (-9223372036854775808), .int .i64 9223372036854775807] wr (Tells (fun v => .int .i64 v) B wr b (intQ bR rR)) := srcInt' (B := B) b (-9223372036854775808) 9223372036854775807 rR bR wr hS.src hS.size hS.u8
      have hu9 := (intQ_u8 hS.u8 rR).1
      rw [hq] at hI hu9
      have HI := Lib.hid hI
      have HR : Hid (regsF (3 + 1) (⟨k, v1, v2, v3, v4, v5, 0, 0, 0, 0, 0, 0, 0, 0, v6⟩ : Ev) bs7 er7 = ({ eR with r3 := qv }, qb, qe)) := by
        show (setR (regsF 3 (⟨k, v1, v2, v3, v4, v5, 0, 0, 0, 0, 0, 0, 0, 0, v6⟩ : Ev) bs7 er7).1 3 (intQ (regsF 3 (⟨k, v1, v2, v3, v4, v5, 0, 0, 0, 0, 0, 0, 0, 0, v6⟩ : Ev) bs7 er7).2.1 (regsF 3 (⟨k, v1, v2, v3, v4, v5, 0, 0, 0, 0, 0, 0, 0, 0, v6⟩ : Ev) bs7 er7).2.2).1, (intQ (regsF 3 (⟨k, v1, v2, v3, v4, v5, 0, 0, 0, 0, 0, 0, 0, 0, v6⟩ : Ev) bs7 er7).2.1 (regsF 3 (⟨k, v1, v2, v3, v4, v5, 0, 0, 0, 0, 0, 0, 0, 0, v6⟩ : Ev) bs7 er7).2.2).2) = _
        rw [hR]
        simp only
        rw [hq]
        rfl
      have HU9 := Lib.hid hu9
      have zb := hS.box
      have HS := Lib.hid hS
      clear hI hR hq hu9 hS
      go_wp2_with (go_at_call 51; (with_reducible refine HI.out.mono ?_); rintro x u9 ⟨rfl, hc9, hs9⟩; have S9 := HS.out.call hc9 hs9 HU9.out; have g9 := S9.ev.c9.cell; have f9 := S9.ev.c9.free; have HS9 := Lib.hid (S9.put ((Chg.refl _ _).setCell w2.heap.size 9 (.int .i64 qv) rfl) (S9.ev.st9 qv)); clear S9)
      go_roundw
      case rel =>
        refine ⟨3 + 1, by omega, by first | rfl | go_num, ?_⟩
        rw [HR.out]
        exact HS9.out
      case measure => simp [intOf]
    · obtain ⟨⟨eR, bR, rR⟩, hR⟩ : ∃ q, regsF 4 (⟨k, v1, v2, v3, v4, v5, 0, 0, 0, 0, 0, 0, 0, 0, v6⟩ : Ev) bs7 er7 = q := ⟨_, rfl⟩
      rw [hR] at hS
      simp only at hS
      obtain ⟨⟨qv, qb, qe⟩, hq⟩ : ∃ q, intQ bR rR = q := ⟨_, rfl⟩
      have hI : Calls Try.prog 51 #[.pointer (some ⟨b, 0, none⟩), .int .i64 (-9223372036854775808), .int .i64 9223372036854775807] wr (Tells (fun v => .int .i64 v) B wr b (intQ bR rR)) := srcInt' (B := B) b (-9223372036854775808) 9223372036854775807 rR bR wr hS.src hS.size hS.u8
      have hu9 := (intQ_u8 hS.u8 rR).1
      rw [hq] at hI hu9
      have HI := Lib.hid hI
      have HR : Hid (regsF (4 + 1) (⟨k, v1, v2, v3, v4, v5, 0, 0, 0, 0, 0, 0, 0, 0, v6⟩ : Ev) bs7 er7 = ({ eR with r4 := qv }, qb, qe)) := by
        show (setR (regsF 4 (⟨k, v1, v2, v3, v4, v5, 0, 0, 0, 0, 0, 0, 0, 0, v6⟩ : Ev) bs7 er7).1 4 (intQ (regsF 4 (⟨k, v1, v2, v3, v4, v5, 0, 0, 0, 0, 0, 0, 0, 0, v6⟩ : Ev) bs7 er7).2.1 (regsF 4 (⟨k, v1, v2, v3, v4, v5, 0, 0, 0, 0, 0, 0, 0, 0, v6⟩ : Ev) bs7 er7).2.2).1, (intQ (regsF 4 (⟨k, v1, v2, v3, v4, v5, 0, 0, 0, 0, 0, 0, 0, 0, v6⟩ : Ev) bs7 er7).2.1 (regsF 4 (⟨k, v1, v2, v3, v4, v5, 0, 0, 0, 0, 0, 0, 0, 0, v6⟩ : Ev) bs7 er7).2.2).2) = _
        rw [hR]
        simp only
        rw [hq]
        rfl
      have HU9 := Lib.hid hu9
      have zb := hS.box
      have HS := Lib.hid hS
      clear hI hR hq hu9 hS
      go_wp2_with (go_at_call 51; (with_reducible refine HI.out.mono ?_); rintro x u9 ⟨rfl, hc9, hs9⟩; have S9 := HS.out.call hc9 hs9 HU9.out; have g9 := S9.ev.c10.cell; have f9 := S9.ev.c10.free; have HS9 := Lib.hid (S9.put ((Chg.refl _ _).setCell w2.heap.size 10 (.int .i64 qv) rfl) (S9.ev.st10 qv)); clear S9)
      go_roundw
      case rel =>
        refine ⟨4 + 1, by omega, by first | rfl | go_num, ?_⟩
        rw [HR.out]
        exact HS9.out
      case measure => simp [intOf]
    · obtain ⟨⟨eR, bR, rR⟩, hR⟩ : ∃ q, regsF 5 (⟨k, v1, v2, v3, v4, v5, 0, 0, 0, 0, 0, 0, 0, 0, v6⟩ : Ev) bs7 er7 = q := ⟨_, rfl⟩
      rw [hR] at hS
      simp only at hS
      obtain ⟨⟨qv, qb, qe⟩, hq⟩ : ∃ q, intQ bR rR = q := ⟨_, rfl⟩
      have hI : Calls Try.prog 51 #[.pointer (some ⟨b, 0, none⟩), .int .i64 (-9223372036854775808), .int .i64 9223372036854775807] wr (Tells (fun v => .int .i64 v) B wr b (intQ bR rR)) := srcInt' (B := B) b (-9223372036854775808) 9223372036854775807 rR bR wr hS.src hS.size hS.u8
      have hu9 := (intQ_u8 hS.u8 rR).1
      rw [hq] at hI hu9
      have HI := Lib.hid hI
      have HR : Hid (regsF (5 + 1) (⟨k, v1, v2, v3, v4, v5, 0, 0, 0, 0, 0, 0, 0, 0, v6⟩ : Ev) bs7 er7 = ({ eR with r5 := qv }, qb, qe)) := by
        show (setR (regsF 5 (⟨k, v1, v2, v3, v4, v5, 0, 0, 0, 0, 0, 0, 0, 0, v6⟩ : Ev) bs7 er7).1 5 (intQ (regsF 5 (⟨k, v1, v2, v3, v4, v5, 0, 0, 0, 0, 0, 0, 0, 0, v6⟩ : Ev) bs7 er7).2.1 (regsF 5 (⟨k, v1, v2, v3, v4, v5, 0, 0, 0, 0, 0, 0, 0, 0, v6⟩ : Ev) bs7 er7).2.2).1, (intQ (regsF 5 (⟨k, v1, v2, v3, v4, v5, 0, 0, 0, 0, 0, 0, 0, 0, v6⟩ : Ev) bs7 er7).2.1 (regsF 5 (⟨k, v1, v2, v3, v4, v5, 0, 0, 0, 0, 0, 0, 0, 0, v6⟩ : Ev) bs7 er7).2.2).2) = _
        rw [hR]
        simp only
        rw [hq]
        rfl
      have HU9 := Lib.hid hu9
      have zb := hS.box
      have HS := Lib.hid hS
      clear hI hR hq hu9 hS
      go_wp2_with (go_at_call 51; (with_reducible refine HI.out.mono ?_); rintro x u9 ⟨rfl, hc9, hs9⟩; have S9 := HS.out.call hc9 hs9 HU9.out; have g9 := S9.ev.c11.cell; have f9 := S9.ev.c11.free; have HS9 := Lib.hid (S9.put ((Chg.refl _ _).setCell w2.heap.size 11 (.int .i64 qv) rfl) (S9.ev.st11 qv)); clear S9)
      go_roundw
      case rel =>
        refine ⟨5 + 1, by omega, by first | rfl | go_num, ?_⟩
        rw [HR.out]
        exact HS9.out
      case measure => simp [intOf]
    · obtain ⟨⟨eR, bR, rR⟩, hR⟩ : ∃ q, regsF 6 (⟨k, v1, v2, v3, v4, v5, 0, 0, 0, 0, 0, 0, 0, 0, v6⟩ : Ev) bs7 er7 = q := ⟨_, rfl⟩
      rw [hR] at hS
      simp only at hS
      obtain ⟨⟨qv, qb, qe⟩, hq⟩ : ∃ q, intQ bR rR = q := ⟨_, rfl⟩
      have hI : Calls Try.prog 51 #[.pointer (some ⟨b, 0, none⟩), .int .i64 (-9223372036854775808), .int .i64 9223372036854775807] wr (Tells (fun v => .int .i64 v) B wr b (intQ bR rR)) := srcInt' (B := B) b (-9223372036854775808) 9223372036854775807 rR bR wr hS.src hS.size hS.u8
      have hu9 := (intQ_u8 hS.u8 rR).1
      rw [hq] at hI hu9
      have HI := Lib.hid hI
      have HR : Hid (regsF (6 + 1) (⟨k, v1, v2, v3, v4, v5, 0, 0, 0, 0, 0, 0, 0, 0, v6⟩ : Ev) bs7 er7 = ({ eR with r6 := qv }, qb, qe)) := by
        show (setR (regsF 6 (⟨k, v1, v2, v3, v4, v5, 0, 0, 0, 0, 0, 0, 0, 0, v6⟩ : Ev) bs7 er7).1 6 (intQ (regsF 6 (⟨k, v1, v2, v3, v4, v5, 0, 0, 0, 0, 0, 0, 0, 0, v6⟩ : Ev) bs7 er7).2.1 (regsF 6 (⟨k, v1, v2, v3, v4, v5, 0, 0, 0, 0, 0, 0, 0, 0, v6⟩ : Ev) bs7 er7).2.2).1, (intQ (regsF 6 (⟨k, v1, v2, v3, v4, v5, 0, 0, 0, 0, 0, 0, 0, 0, v6⟩ : Ev) bs7 er7).2.1 (regsF 6 (⟨k, v1, v2, v3, v4, v5, 0, 0, 0, 0, 0, 0, 0, 0, v6⟩ : Ev) bs7 er7).2.2).2) = _
        rw [hR]
        simp only
        rw [hq]
        rfl
      have HU9 := Lib.hid hu9
      have zb := hS.box
      have HS := Lib.hid hS
      clear hI hR hq hu9 hS
      go_wp2_with (go_at_call 51; (with_reducible refine HI.out.mono ?_); rintro x u9 ⟨rfl, hc9, hs9⟩; have S9 := HS.out.call hc9 hs9 HU9.out; have g9 := S9.ev.c12.cell; have f9 := S9.ev.c12.free; have HS9 := Lib.hid (S9.put ((Chg.refl _ _).setCell w2.heap.size 12 (.int .i64 qv) rfl) (S9.ev.st12 qv)); clear S9)
      go_roundw
      case rel =>
        refine ⟨6 + 1, by omega, by first | rfl | go_num, ?_⟩
        rw [HR.out]
        exact HS9.out
      case measure => simp [intOf]
    · obtain ⟨⟨eR, bR, rR⟩, hR⟩ : ∃ q, regsF 7 (⟨k, v1, v2, v3, v4, v5, 0, 0, 0, 0, 0, 0, 0, 0, v6⟩ : Ev) bs7 er7 = q := ⟨_, rfl⟩
      rw [hR] at hS
      simp only at hS
      obtain ⟨⟨qv, qb, qe⟩, hq⟩ : ∃ q, intQ bR rR = q := ⟨_, rfl⟩
      have hI : Calls Try.prog 51 #[.pointer (some ⟨b, 0, none⟩), .int .i64 (-9223372036854775808), .int .i64 9223372036854775807] wr (Tells (fun v => .int .i64 v) B wr b (intQ bR rR)) := srcInt' (B := B) b (-9223372036854775808) 9223372036854775807 rR bR wr hS.src hS.size hS.u8
      have hu9 := (intQ_u8 hS.u8 rR).1
      rw [hq] at hI hu9
      have HI := Lib.hid hI
      have HR : Hid (regsF (7 + 1) (⟨k, v1, v2, v3, v4, v5, 0, 0, 0, 0, 0, 0, 0, 0, v6⟩ : Ev) bs7 er7 = ({ eR with r7 := qv }, qb, qe)) := by
        show (setR (regsF 7 (⟨k, v1, v2, v3, v4, v5, 0, 0, 0, 0, 0, 0, 0, 0, v6⟩ : Ev) bs7 er7).1 7 (intQ (regsF 7 (⟨k, v1, v2, v3, v4, v5, 0, 0, 0, 0, 0, 0, 0, 0, v6⟩ : Ev) bs7 er7).2.1 (regsF 7 (⟨k, v1, v2, v3, v4, v5, 0, 0, 0, 0, 0, 0, 0, 0, v6⟩ : Ev) bs7 er7).2.2).1, (intQ (regsF 7 (⟨k, v1, v2, v3, v4, v5, 0, 0, 0, 0, 0, 0, 0, 0, v6⟩ : Ev) bs7 er7).2.1 (regsF 7 (⟨k, v1, v2, v3, v4, v5, 0, 0, 0, 0, 0, 0, 0, 0, v6⟩ : Ev) bs7 er7).2.2).2) = _
        rw [hR]
        simp only
        rw [hq]
        rfl
      have HU9 := Lib.hid hu9
      have zb := hS.box
      have HS := Lib.hid hS
      clear hI hR hq hu9 hS
      go_wp2_with (go_at_call 51; (with_reducible refine HI.out.mono ?_); rintro x u9 ⟨rfl, hc9, hs9⟩; have S9 := HS.out.call hc9 hs9 HU9.out; have g9 := S9.ev.c13.cell; have f9 := S9.ev.c13.free; have HS9 := Lib.hid (S9.put ((Chg.refl _ _).setCell w2.heap.size 13 (.int .i64 qv) rfl) (S9.ev.st13 qv)); clear S9)
      go_roundw
      case rel =>
        refine ⟨7 + 1, by omega, by first | rfl | go_num, ?_⟩
        rw [HR.out]
        exact HS9.out
      case measure => simp [intOf]
    · obtain ⟨⟨⟨a0, a1, a2, a3, a4, a5, a6, a7, a8, a9, a10, a11, a12, a13, a14⟩, bR, rR⟩, hR⟩ : ∃ q, regsF 8 (⟨k, v1, v2, v3, v4, v5, 0, 0, 0, 0, 0, 0, 0, 0, v6⟩ : Ev) bs7 er7 = q := ⟨_, rfl⟩
      rw [hR] at hS
      simp only at hS
      have HS := Lib.hid hS
      have HR := Lib.hid hR
      have k0 := hS.ev.c0.cell
      have r0 := hS.rs.c0.cell
      have q0 := hS.rs.c0.free
      have k1 := hS.ev.c1.cell
      have r1 := hS.rs.c1.cell
      have q1 := hS.rs.c1.free
      have k2 := hS.ev.c2.cell
      have r2 := hS.rs.c2.cell
      have q2 := hS.rs.c2.free
      have k3 := hS.ev.c3.cell
      have r3 := hS.rs.c3.cell
      have q3 := hS.rs.c3.free
      have k4 := hS.ev.c4.cell
      have r4 := hS.rs.c4.cell
      have q4 := hS.rs.c4.free
      have k5 := hS.ev.c5.cell
      have r5 := hS.rs.c5.cell
      have q5 := hS.rs.c5.free
      have k6 := hS.ev.c6.cell
      have r6 := hS.rs.c6.cell
      have q6 := hS.rs.c6.free
      have k7 := hS.ev.c7.cell
      have r7 := hS.rs.c7.cell
      have q7 := hS.rs.c7.free
      have k8 := hS.ev.c8.cell
      have r8 := hS.rs.c8.cell
      have q8 := hS.rs.c8.free
      have k9 := hS.ev.c9.cell
      have r9 := hS.rs.c9.cell
      have q9 := hS.rs.c9.free
      have k10 := hS.ev.c10.cell
      have r10 := hS.rs.c10.cell
      have q10 := hS.rs.c10.free
      have k11 := hS.ev.c11.cell
      have r11 := hS.rs.c11.cell
      have q11 := hS.rs.c11.free
      have k12 := hS.ev.c12.cell
      have r12 := hS.rs.c12.cell
      have q12 := hS.rs.c12.free
      have k13 := hS.ev.c13.cell
      have r13 := hS.rs.c13.cell
      have q13 := hS.rs.c13.free
      have k14 := hS.ev.c14.cell
      have r14 := hS.rs.c14.cell
      have q14 := hS.rs.c14.free
      simp only at k0 k1 k2 k3 k4 k5 k6 k7 k8 k9 k10 k11 k12 k13 k14
      clear hS hR
      go_wp2
      clear k0 k1 k2 k3 k4 k5 k6 k7 k8 k9 k10 k11 k12 k13 k14 r0 r1 r2 r3 r4 r5 r6 r7 r8 r9 r10 r11 r12 r13 r14 q0 q1 q2 q3 q4 q5 q6 q7 q8 q9 q10 q11 q12 q13 q14
      have RF : EvBox (((((((((((((((wr.setCell ⟨w.heap.size + 1, 0, none⟩ (.int .i64 a0)).setCell ⟨w.heap.size + 1, 1, none⟩ (.int .i64 a1)).setCell ⟨w.heap.size + 1, 2, none⟩ (.int .i64 a2)).setCell ⟨w.heap.size + 1, 3, none⟩ (.int .i64 a3)).setCell ⟨w.heap.size + 1, 4, none⟩ (.int .i64 a4)).setCell ⟨w.heap.size + 1, 5, none⟩ (.int .i64 a5)).setCell ⟨w.heap.size + 1, 6, none⟩ (.int .i64 a6)).setCell ⟨w.heap.size + 1, 7, none⟩ (.int .i64 a7)).setCell ⟨w.heap.size + 1, 8, none⟩ (.int .i64 a8)).setCell ⟨w.heap.size + 1, 9, none⟩ (.int .i64 a9)).setCell ⟨w.heap.size + 1, 10, none⟩ (.int .i64 a10)).setCell ⟨w.heap.size + 1, 11, none⟩ (.int .i64 a11)).setCell ⟨w.heap.size + 1, 12, none⟩ (.int .i64 a12)).setCell ⟨w.heap.size + 1, 13, none⟩ (.int .i64 a13)).setCell ⟨w.heap.size + 1, 14, none⟩ (.int .i64 a14)) (w.heap.size + 1) (⟨a0, a1, a2, a3, a4, a5, a6, a7, a8, a9, a10, a11, a12, a13, a14⟩ : Ev) := EvBox.all HS.out.rs (⟨a0, a1, a2, a3, a4, a5, a6, a7, a8, a9, a10, a11, a12, a13, a14⟩ : Ev)
      have CF : Chg (fun k => k = w.heap.size + 1) wr (((((((((((((((wr.setCell ⟨w.heap.size + 1, 0, none⟩ (.int .i64 a0)).setCell ⟨w.heap.size + 1, 1, none⟩ (.int .i64 a1)).setCell ⟨w.heap.size + 1, 2, none⟩ (.int .i64 a2)).setCell ⟨w.heap.size + 1, 3, none⟩ (.int .i64 a3)).setCell ⟨w.heap.size + 1, 4, none⟩ (.int .i64 a4)).setCell ⟨w.heap.size + 1, 5, none⟩ (.int .i64 a5)).setCell ⟨w.heap.size + 1, 6, none⟩ (.int .i64 a6)).setCell ⟨w.heap.size + 1, 7, none⟩ (.int .i64 a7)).setCell ⟨w.heap.size + 1, 8, none⟩ (.int .i64 a8)).setCell ⟨w.heap.size + 1, 9, none⟩ (.int .i64 a9)).setCell ⟨w.heap.size + 1, 10, none⟩ (.int .i64 a10)).setCell ⟨w.heap.size + 1, 11, none⟩ (.int .i64 a11)).setCell ⟨w.heap.size + 1, 12, none⟩ (.int .i64 a12)).setCell ⟨w.heap.size + 1, 13, none⟩ (.int .i64 a13)).setCell ⟨w.heap.size + 1, 14, none⟩ (.int .i64 a14)) := evAll_chg wr (w.heap.size + 1) (⟨a0, a1, a2, a3, a4, a5, a6, a7, a8, a9, a10, a11, a12, a13, a14⟩ : Ev)
      generalize (((((((((((((((wr.setCell ⟨w.heap.size + 1, 0, none⟩ (.int .i64 a0)).setCell ⟨w.heap.size + 1, 1, none⟩ (.int .i64 a1)).setCell ⟨w.heap.size + 1, 2, none⟩ (.int .i64 a2)).setCell ⟨w.heap.size + 1, 3, none⟩ (.int .i64 a3)).setCell ⟨w.heap.size + 1, 4, none⟩ (.int .i64 a4)).setCell ⟨w.heap.size + 1, 5, none⟩ (.int .i64 a5)).setCell ⟨w.heap.size + 1, 6, none⟩ (.int .i64 a6)).setCell ⟨w.heap.size + 1, 7, none⟩ (.int .i64 a7)).setCell ⟨w.heap.size + 1, 8, none⟩ (.int .i64 a8)).setCell ⟨w.heap.size + 1, 9, none⟩ (.int .i64 a9)).setCell ⟨w.heap.size + 1, 10, none⟩ (.int .i64 a10)).setCell ⟨w.heap.size + 1, 11, none⟩ (.int .i64 a11)).setCell ⟨w.heap.size + 1, 12, none⟩ (.int .i64 a12)).setCell ⟨w.heap.size + 1, 13, none⟩ (.int .i64 a13)).setCell ⟨w.heap.size + 1, 14, none⟩ (.int .i64 a14)) = WF at RF CF ⊢
      obtain ⟨d0, d1, d2, d3, d4, d5, d6, d7, d8, d9, d10, d11, d12, d13, d14⟩ := RF.at_
      simp only [Nat.zero_add] at d0 d1 d2 d3 d4 d5 d6 d7 d8 d9 d10 d11 d12 d13 d14
      obtain ⟨n1, n2, n3, n4, n5, n6, n7, n8, n9, n10⟩ := HS.out.ne
      refine bodyPost_ret (v := .tuple #[evV (⟨a0, a1, a2, a3, a4, a5, a6, a7, a8, a9, a10, a11, a12, a13, a14⟩ : Ev), .bool true]) (by simp [results, Try.results29, go_sem, evV, d0, d1, d2, d3, d4, d5, d6, d7, d8, d9, d10, d11, d12, d13, d14]) rfl ?_
      rw [HR.out]
      exact ⟨rfl, HS.out.ch.then_ CF (fun k hk e => by omega), HS.out.src.keep CF (fun e => n4 e.symm) (fun k hk e => by omega), HS.out.u8⟩
end Go.Proofs.Ytdnddoiemaifjaa
