/- Package event: next, of a kind that is none; next of any bytes. -/
import Derived.Test.YtdnddoiemaifjaaNext
namespace Go.Proofs.Ytdnddoiemaifjaa
open Go.RowKit
variable {B : Nat}
/-- What next leaves. -/
def NextA (B : Nat) (w : World) (b : Nat) (r : Ev × List Int × Int) (e : Ending) (w' : World) : Prop := ∃ ok er, e = .returned (.tuple #[evV r.1, .bool ok]) ∧ Chg (fun k => k = b) w w' ∧ Src B w' b r.2.1 er ∧ U8s r.2.1 ∧ ((ok = true ∧ er = r.2.2) ∨ (ok = false ∧ er = 0 ∧ r.2.2 = 10))
set_option maxRecDepth 100000 in
set_option maxHeartbeats 16000000 in
theorem next_no (b : Nat) (bs : List Int) (w : World) (h : Src B w b bs 0) (hB : B ≤ w.heap.size) (hu : U8s bs) (k : Int) (bs1 : List Int) (er1 : Int) (hg : gotE 0 octM bs 0 = (k, bs1, er1)) (hk : tK k = false) :
    Calls Try.prog 29 #[.pointer (some ⟨b, 0, none⟩)] w fun e w' => e = .returned (.tuple #[evV ev00, .bool (er1 != 0)]) ∧ Chg (fun k => k = b) w w' ∧ Src B w' b bs1 er1 ∧ U8s bs1 := by
  have hlt := h.made.lt
  have hgu := gotE_u8 (z := 0) (well_oct hu) hu 0
  rw [hg] at hgu
  have hw8 : IntKind.i64.wrap k = k := by
    rw [IntKind.wrap_i64]
    rcases hgu.2.2 with h | h <;> simp only at h <;> omega
  have hu1 : U8s bs1 := hgu.1
  have hal : Below w.heap.size w ((w.alloc (.cells #[.pointer (some ⟨b, 0, none⟩)] 55)).alloc (.cells #[.int .i64 0, .int .i64 0, .int .i64 0, .int .i64 0, .int .i64 0, .int .i64 0, .int .i64 0, .int .i64 0, .int .i64 0, .int .i64 0, .int .i64 0, .int .i64 0, .int .i64 0, .int .i64 0, .int .i64 0] 30)) := below_al (below_al (Below.refl _ _) _) _
  have HAL := Lib.hid hal
  have hx0 : ((w.alloc (.cells #[.pointer (some ⟨b, 0, none⟩)] 55)).alloc (.cells #[.int .i64 0, .int .i64 0, .int .i64 0, .int .i64 0, .int .i64 0, .int .i64 0, .int .i64 0, .int .i64 0, .int .i64 0, .int .i64 0, .int .i64 0, .int .i64 0, .int .i64 0, .int .i64 0, .int .i64 0] 30)).cell? ⟨w.heap.size, 0, none⟩ = some (.pointer (some ⟨b, 0, none⟩)) := by go_simp
  have hrs0 : EvBox ((w.alloc (.cells #[.pointer (some ⟨b, 0, none⟩)] 55)).alloc (.cells #[.int .i64 0, .int .i64 0, .int .i64 0, .int .i64 0, .int .i64 0, .int .i64 0, .int .i64 0, .int .i64 0, .int .i64 0, .int .i64 0, .int .i64 0, .int .i64 0, .int .i64 0, .int .i64 0, .int .i64 0] 30)) (w.heap.size + 1) ev00 := by
    have := EvBox.new (w.alloc (.cells #[.pointer (some ⟨b, 0, none⟩)] 55)) ev00 30
    simpa [evC, ev00] using this
  have HB0 := srcByte' (B := B) b 0 bs _ (h.below hal) (by simp; omega) hu
  rw [hg] at HB0
  have HB := Lib.hid HB0
  have HT0 := fun W => etells k W
  rw [hk] at HT0
  have HT := Lib.hid HT0
  have HU := Lib.hid hu1
  have HX0 := Lib.hid hx0
  have HL := Lib.hid hB
  have HRS := Lib.hid hrs0
  clear hg hk HT0 HB0 hu1 hB hal hx0 hrs0 hgu
  go_enter Try.func29, Try.ntmps29
  go_wp2_with (first
    | (go_at_call 49; (with_reducible refine HB.out.mono ?_); rintro x w2 ⟨rfl, hc2, hs2⟩; simp only at hs2)
    | (go_at_call 39; (with_reducible refine (HT.out _).mono ?_); rintro x w3 ⟨rfl, hb3⟩; have HS0 : Hid (Src B (w3.alloc (.cells #[.bool (tA k), .bool (tT k), .bool (tV k), .bool (tC k)] 68)) b bs1 er1 ∧ (w3.alloc (.cells #[.bool (tA k), .bool (tT k), .bool (tV k), .bool (tC k)] 68)).cell? ⟨w.heap.size, 0, none⟩ = some (.pointer (some ⟨b, 0, none⟩)) ∧ EvBox (w3.alloc (.cells #[.bool (tA k), .bool (tT k), .bool (tV k), .bool (tC k)] 68)) (w.heap.size + 1) ev00 ∧ Chg (fun k => k = b) w (w3.alloc (.cells #[.bool (tA k), .bool (tT k), .bool (tV k), .bool (tC k)] 68))) := (by have hbA : Below w2.heap.size w2 (w3.alloc (.cells #[.bool (tA k), .bool (tT k), .bool (tV k), .bool (tC k)] 68)) := below_al (below_tr (below_al (Below.refl _ _) _) hb3) _; have hcA := hc2.trans (Chg.of_below hbA); exact ⟨hs2.below hbA, hcA.cell HX0.out (by simp only; omega), HRS.out.keep hcA (by omega), (Chg.of_below HAL.out).trans hcA⟩); have z0 := HS0.out.2.1; have HE := Lib.hid (srcErr (B := B) b er1 bs1 _ HS0.out.1); have RR := HS0.out.2.2.1; have r0 := RR.c0.cell; have q0 := RR.c0.free; have r1 := RR.c1.cell; have q1 := RR.c1.free; have r2 := RR.c2.cell; have q2 := RR.c2.free; have r3 := RR.c3.cell; have q3 := RR.c3.free; have r4 := RR.c4.cell; have q4 := RR.c4.free; have r5 := RR.c5.cell; have q5 := RR.c5.free; have r6 := RR.c6.cell; have q6 := RR.c6.free; have r7 := RR.c7.cell; have q7 := RR.c7.free; have r8 := RR.c8.cell; have q8 := RR.c8.free; have r9 := RR.c9.cell; have q9 := RR.c9.free; have r10 := RR.c10.cell; have q10 := RR.c10.free; have r11 := RR.c11.cell; have q11 := RR.c11.free; have r12 := RR.c12.cell; have q12 := RR.c12.free; have r13 := RR.c13.cell; have q13 := RR.c13.free; have r14 := RR.c14.cell; have q14 := RR.c14.free; clear RR)
    | (go_at_call 30; (with_reducible refine HE.out.mono ?_); rintro x w4 ⟨rfl, rfl⟩))
  clear r0 q0 r1 q1 r2 q2 r3 q3 r4 q4 r5 q5 r6 q6 r7 q7 r8 q8 r9 q9 r10 q10 r11 q11 r12 q12 r13 q13 r14 q14 z0
  have RF : EvBox ((((((((((((((((w3.alloc (.cells #[.bool (tA k), .bool (tT k), .bool (tV k), .bool (tC k)] 68)).setCell ⟨w.heap.size + 1, 0, none⟩ (.int .i64 0)).setCell ⟨w.heap.size + 1, 1, none⟩ (.int .i64 0)).setCell ⟨w.heap.size + 1, 2, none⟩ (.int .i64 0)).setCell ⟨w.heap.size + 1, 3, none⟩ (.int .i64 0)).setCell ⟨w.heap.size + 1, 4, none⟩ (.int .i64 0)).setCell ⟨w.heap.size + 1, 5, none⟩ (.int .i64 0)).setCell ⟨w.heap.size + 1, 6, none⟩ (.int .i64 0)).setCell ⟨w.heap.size + 1, 7, none⟩ (.int .i64 0)).setCell ⟨w.heap.size + 1, 8, none⟩ (.int .i64 0)).setCell ⟨w.heap.size + 1, 9, none⟩ (.int .i64 0)).setCell ⟨w.heap.size + 1, 10, none⟩ (.int .i64 0)).setCell ⟨w.heap.size + 1, 11, none⟩ (.int .i64 0)).setCell ⟨w.heap.size + 1, 12, none⟩ (.int .i64 0)).setCell ⟨w.heap.size + 1, 13, none⟩ (.int .i64 0)).setCell ⟨w.heap.size + 1, 14, none⟩ (.int .i64 0)) (w.heap.size + 1) ev00 := EvBox.all HS0.out.2.2.1 ev00
  have CF : Chg (fun k => k = w.heap.size + 1) (w3.alloc (.cells #[.bool (tA k), .bool (tT k), .bool (tV k), .bool (tC k)] 68)) ((((((((((((((((w3.alloc (.cells #[.bool (tA k), .bool (tT k), .bool (tV k), .bool (tC k)] 68)).setCell ⟨w.heap.size + 1, 0, none⟩ (.int .i64 0)).setCell ⟨w.heap.size + 1, 1, none⟩ (.int .i64 0)).setCell ⟨w.heap.size + 1, 2, none⟩ (.int .i64 0)).setCell ⟨w.heap.size + 1, 3, none⟩ (.int .i64 0)).setCell ⟨w.heap.size + 1, 4, none⟩ (.int .i64 0)).setCell ⟨w.heap.size + 1, 5, none⟩ (.int .i64 0)).setCell ⟨w.heap.size + 1, 6, none⟩ (.int .i64 0)).setCell ⟨w.heap.size + 1, 7, none⟩ (.int .i64 0)).setCell ⟨w.heap.size + 1, 8, none⟩ (.int .i64 0)).setCell ⟨w.heap.size + 1, 9, none⟩ (.int .i64 0)).setCell ⟨w.heap.size + 1, 10, none⟩ (.int .i64 0)).setCell ⟨w.heap.size + 1, 11, none⟩ (.int .i64 0)).setCell ⟨w.heap.size + 1, 12, none⟩ (.int .i64 0)).setCell ⟨w.heap.size + 1, 13, none⟩ (.int .i64 0)).setCell ⟨w.heap.size + 1, 14, none⟩ (.int .i64 0)) := evAll_chg (w3.alloc (.cells #[.bool (tA k), .bool (tT k), .bool (tV k), .bool (tC k)] 68)) (w.heap.size + 1) ev00
  generalize ((((((((((((((((w3.alloc (.cells #[.bool (tA k), .bool (tT k), .bool (tV k), .bool (tC k)] 68)).setCell ⟨w.heap.size + 1, 0, none⟩ (.int .i64 0)).setCell ⟨w.heap.size + 1, 1, none⟩ (.int .i64 0)).setCell ⟨w.heap.size + 1, 2, none⟩ (.int .i64 0)).setCell ⟨w.heap.size + 1, 3, none⟩ (.int .i64 0)).setCell ⟨w.heap.size + 1, 4, none⟩ (.int .i64 0)).setCell ⟨w.heap.size + 1, 5, none⟩ (.int .i64 0)).setCell ⟨w.heap.size + 1, 6, none⟩ (.int .i64 0)).setCell ⟨w.heap.size + 1, 7, none⟩ (.int .i64 0)).setCell ⟨w.heap.size + 1, 8, none⟩ (.int .i64 0)).setCell ⟨w.heap.size + 1, 9, none⟩ (.int .i64 0)).setCell ⟨w.heap.size + 1, 10, none⟩ (.int .i64 0)).setCell ⟨w.heap.size + 1, 11, none⟩ (.int .i64 0)).setCell ⟨w.heap.size + 1, 12, none⟩ (.int .i64 0)).setCell ⟨w.heap.size + 1, 13, none⟩ (.int .i64 0)).setCell ⟨w.heap.size + 1, 14, none⟩ (.int .i64 0)) = WF at RF CF ⊢
  have DD := RF.at_
  unfold ev00 at DD
  obtain ⟨d0, d1, d2, d3, d4, d5, d6, d7, d8, d9, d10, d11, d12, d13, d14⟩ := DD
  simp only [Nat.zero_add] at d0 d1 d2 d3 d4 d5 d6 d7 d8 d9 d10 d11 d12 d13 d14
  have hne : w.heap.size + 1 ≠ b := by omega
  refine bodyPost_ret (v := .tuple #[evV ev00, .bool (er1 != 0)]) (by simp [results, Try.results29, go_sem, evV, ev00, d0, d1, d2, d3, d4, d5, d6, d7, d8, d9, d10, d11, d12, d13, d14]) rfl ?_
  exact ⟨rfl, HS0.out.2.2.2.then_ CF (fun k hk e => by omega), HS0.out.1.keep CF (fun e => hne e.symm) (fun k hk e => by have := HL.out; omega), HU.out⟩
theorem next_any (b : Nat) (bs : List Int) (w : World) (h : Src B w b bs 0) (hB : B ≤ w.heap.size) (hu : U8s bs) : Calls Try.prog 29 #[.pointer (some ⟨b, 0, none⟩)] w (NextA B w b (nextM bs)) := by
  obtain ⟨⟨k, bs1, er1⟩, hg⟩ : ∃ q, gotE 0 octM bs 0 = q := ⟨_, rfl⟩
  cases hk : tK k with
  | true =>
    have hn : nextM bs = nextK k bs1 er1 := by unfold nextM; rw [hg]; simp only; rw [if_pos hk]
    rw [hn]
    cases hc : tC k with
    | true =>
      refine (next_ctx b bs w h hB hu k bs1 er1 hg hk hc).mono ?_
      rintro e w' ⟨rfl, h1, h2, h3⟩
      exact ⟨true, _, rfl, h1, h2, h3, .inl ⟨rfl, rfl⟩⟩
    | false =>
      refine (next_plain b bs w h hB hu k bs1 er1 hg hk hc).mono ?_
      rintro e w' ⟨rfl, h1, h2, h3⟩
      exact ⟨true, _, rfl, h1, h2, h3, .inl ⟨rfl, rfl⟩⟩
  | false =>
    have hn : nextM bs = (ev00, bs1, if er1 ≠ 0 then er1 else 10) := by unfold nextM; rw [hg]; simp only; rw [if_neg (by rw [hk]; decide)]
    rw [hn]
    refine (next_no b bs w h hB hu k bs1 er1 hg hk).mono ?_
    rintro e w' ⟨rfl, h1, h2, h3⟩
    refine ⟨_, er1, rfl, h1, h2, h3, ?_⟩
    by_cases h0 : er1 = 0
    · right
      subst h0
      exact ⟨rfl, rfl, rfl⟩
    · left
      refine ⟨by simpa using h0, ?_⟩
      simp only
      rw [if_pos h0]
end Go.Proofs.Ytdnddoiemaifjaa
