/- An event in a block of its own, that may be written; what a source tells of numbers. -/
import Derived.Test.YtdnddoiemaifjaaSrcRest
import Derived.Test.YtdnddoiemaifjaaEvBytes
namespace Go.Proofs.Ytdnddoiemaifjaa
open Go.RowKit
variable {B : Nat}
/-- An event in a block. -/
structure EvBox (w : World) (b : Nat) (e : Ev) : Prop where
  c0 : Box w b 0 (.int .i64 e.kind)
  c1 : Box w b 1 (.int .i64 e.act)
  c2 : Box w b 2 (.int .i64 e.thread)
  c3 : Box w b 3 (.int .i64 e.value)
  c4 : Box w b 4 (.int .i64 e.program)
  c5 : Box w b 5 (.int .i64 e.pc)
  c6 : Box w b 6 (.int .i64 e.r0)
  c7 : Box w b 7 (.int .i64 e.r1)
  c8 : Box w b 8 (.int .i64 e.r2)
  c9 : Box w b 9 (.int .i64 e.r3)
  c10 : Box w b 10 (.int .i64 e.r4)
  c11 : Box w b 11 (.int .i64 e.r5)
  c12 : Box w b 12 (.int .i64 e.r6)
  c13 : Box w b 13 (.int .i64 e.r7)
  c14 : Box w b 14 (.int .i64 e.depth)
theorem EvBox.keep {S : Nat → Prop} {w w1 : World} {b : Nat} {e : Ev} (h : EvBox w b e) (hc : Chg S w w1) (hs : ¬ S b) : EvBox w1 b e :=
  ⟨h.c0.keep hc hs, h.c1.keep hc hs, h.c2.keep hc hs, h.c3.keep hc hs, h.c4.keep hc hs, h.c5.keep hc hs, h.c6.keep hc hs, h.c7.keep hc hs, h.c8.keep hc hs, h.c9.keep hc hs, h.c10.keep hc hs, h.c11.keep hc hs, h.c12.keep hc hs, h.c13.keep hc hs, h.c14.keep hc hs⟩
theorem EvBox.below {w w1 : World} {b : Nat} {e : Ev} (h : EvBox w b e) (hb : Below w.heap.size w w1) : EvBox w1 b e := h.keep (S := fun _ => False) (.of_below hb) (fun h => h)
theorem EvBox.new (w : World) (e : Ev) (t : TypeId) : EvBox (w.alloc (.cells (evC e).toArray t)) w.heap.size e := by
  unfold evC
  constructor <;> constructor <;> go_simp
theorem EvBox.at_ {w : World} {b : Nat} {e : Ev} (h : EvBox w b e) : EvAt w ⟨b, 0, none⟩ e := by
  exact ⟨h.c0.cell, h.c1.cell, h.c2.cell, h.c3.cell, h.c4.cell, h.c5.cell, h.c6.cell, h.c7.cell, h.c8.cell, h.c9.cell, h.c10.cell, h.c11.cell, h.c12.cell, h.c13.cell, h.c14.cell⟩
theorem EvBox.st0 {w : World} {b : Nat} {e : Ev} (h : EvBox w b e) (v : Int) : EvBox (w.setCell ⟨b, 0, none⟩ (.int .i64 v)) b { e with kind := v } :=
  ⟨h.c0.set _, h.c1.other (by decide) _, h.c2.other (by decide) _, h.c3.other (by decide) _, h.c4.other (by decide) _, h.c5.other (by decide) _, h.c6.other (by decide) _, h.c7.other (by decide) _, h.c8.other (by decide) _, h.c9.other (by decide) _, h.c10.other (by decide) _, h.c11.other (by decide) _, h.c12.other (by decide) _, h.c13.other (by decide) _, h.c14.other (by decide) _⟩
theorem EvBox.st1 {w : World} {b : Nat} {e : Ev} (h : EvBox w b e) (v : Int) : EvBox (w.setCell ⟨b, 1, none⟩ (.int .i64 v)) b { e with act := v } :=
  ⟨h.c0.other (by decide) _, h.c1.set _, h.c2.other (by decide) _, h.c3.other (by decide) _, h.c4.other (by decide) _, h.c5.other (by decide) _, h.c6.other (by decide) _, h.c7.other (by decide) _, h.c8.other (by decide) _, h.c9.other (by decide) _, h.c10.other (by decide) _, h.c11.other (by decide) _, h.c12.other (by decide) _, h.c13.other (by decide) _, h.c14.other (by decide) _⟩
theorem EvBox.st2 {w : World} {b : Nat} {e : Ev} (h : EvBox w b e) (v : Int) : EvBox (w.setCell ⟨b, 2, none⟩ (.int .i64 v)) b { e with thread := v } :=
  ⟨h.c0.other (by decide) _, h.c1.other (by decide) _, h.c2.set _, h.c3.other (by decide) _, h.c4.other (by decide) _, h.c5.other (by decide) _, h.c6.other (by decide) _, h.c7.other (by decide) _, h.c8.other (by decide) _, h.c9.other (by decide) _, h.c10.other (by decide) _, h.c11.other (by decide) _, h.c12.other (by decide) _, h.c13.other (by decide) _, h.c14.other (by decide) _⟩
theorem EvBox.st3 {w : World} {b : Nat} {e : Ev} (h : EvBox w b e) (v : Int) : EvBox (w.setCell ⟨b, 3, none⟩ (.int .i64 v)) b { e with value := v } :=
  ⟨h.c0.other (by decide) _, h.c1.other (by decide) _, h.c2.other (by decide) _, h.c3.set _, h.c4.other (by decide) _, h.c5.other (by decide) _, h.c6.other (by decide) _, h.c7.other (by decide) _, h.c8.other (by decide) _, h.c9.other (by decide) _, h.c10.other (by decide) _, h.c11.other (by decide) _, h.c12.other (by decide) _, h.c13.other (by decide) _, h.c14.other (by decide) _⟩
theorem EvBox.st4 {w : World} {b : Nat} {e : Ev} (h : EvBox w b e) (v : Int) : EvBox (w.setCell ⟨b, 4, none⟩ (.int .i64 v)) b { e with program := v } :=
  ⟨h.c0.other (by decide) _, h.c1.other (by decide) _, h.c2.other (by decide) _, h.c3.other (by decide) _, h.c4.set _, h.c5.other (by decide) _, h.c6.other (by decide) _, h.c7.other (by decide) _, h.c8.other (by decide) _, h.c9.other (by decide) _, h.c10.other (by decide) _, h.c11.other (by decide) _, h.c12.other (by decide) _, h.c13.other (by decide) _, h.c14.other (by decide) _⟩
theorem EvBox.st5 {w : World} {b : Nat} {e : Ev} (h : EvBox w b e) (v : Int) : EvBox (w.setCell ⟨b, 5, none⟩ (.int .i64 v)) b { e with pc := v } :=
  ⟨h.c0.other (by decide) _, h.c1.other (by decide) _, h.c2.other (by decide) _, h.c3.other (by decide) _, h.c4.other (by decide) _, h.c5.set _, h.c6.other (by decide) _, h.c7.other (by decide) _, h.c8.other (by decide) _, h.c9.other (by decide) _, h.c10.other (by decide) _, h.c11.other (by decide) _, h.c12.other (by decide) _, h.c13.other (by decide) _, h.c14.other (by decide) _⟩
theorem EvBox.st6 {w : World} {b : Nat} {e : Ev} (h : EvBox w b e) (v : Int) : EvBox (w.setCell ⟨b, 6, none⟩ (.int .i64 v)) b { e with r0 := v } :=
  ⟨h.c0.other (by decide) _, h.c1.other (by decide) _, h.c2.other (by decide) _, h.c3.other (by decide) _, h.c4.other (by decide) _, h.c5.other (by decide) _, h.c6.set _, h.c7.other (by decide) _, h.c8.other (by decide) _, h.c9.other (by decide) _, h.c10.other (by decide) _, h.c11.other (by decide) _, h.c12.other (by decide) _, h.c13.other (by decide) _, h.c14.other (by decide) _⟩
theorem EvBox.st7 {w : World} {b : Nat} {e : Ev} (h : EvBox w b e) (v : Int) : EvBox (w.setCell ⟨b, 7, none⟩ (.int .i64 v)) b { e with r1 := v } :=
  ⟨h.c0.other (by decide) _, h.c1.other (by decide) _, h.c2.other (by decide) _, h.c3.other (by decide) _, h.c4.other (by decide) _, h.c5.other (by decide) _, h.c6.other (by decide) _, h.c7.set _, h.c8.other (by decide) _, h.c9.other (by decide) _, h.c10.other (by decide) _, h.c11.other (by decide) _, h.c12.other (by decide) _, h.c13.other (by decide) _, h.c14.other (by decide) _⟩
theorem EvBox.st8 {w : World} {b : Nat} {e : Ev} (h : EvBox w b e) (v : Int) : EvBox (w.setCell ⟨b, 8, none⟩ (.int .i64 v)) b { e with r2 := v } :=
  ⟨h.c0.other (by decide) _, h.c1.other (by decide) _, h.c2.other (by decide) _, h.c3.other (by decide) _, h.c4.other (by decide) _, h.c5.other (by decide) _, h.c6.other (by decide) _, h.c7.other (by decide) _, h.c8.set _, h.c9.other (by decide) _, h.c10.other (by decide) _, h.c11.other (by decide) _, h.c12.other (by decide) _, h.c13.other (by decide) _, h.c14.other (by decide) _⟩
theorem EvBox.st9 {w : World} {b : Nat} {e : Ev} (h : EvBox w b e) (v : Int) : EvBox (w.setCell ⟨b, 9, none⟩ (.int .i64 v)) b { e with r3 := v } :=
  ⟨h.c0.other (by decide) _, h.c1.other (by decide) _, h.c2.other (by decide) _, h.c3.other (by decide) _, h.c4.other (by decide) _, h.c5.other (by decide) _, h.c6.other (by decide) _, h.c7.other (by decide) _, h.c8.other (by decide) _, h.c9.set _, h.c10.other (by decide) _, h.c11.other (by decide) _, h.c12.other (by decide) _, h.c13.other (by decide) _, h.c14.other (by decide) _⟩
theorem EvBox.st10 {w : World} {b : Nat} {e : Ev} (h : EvBox w b e) (v : Int) : EvBox (w.setCell ⟨b, 10, none⟩ (.int .i64 v)) b { e with r4 := v } :=
  ⟨h.c0.other (by decide) _, h.c1.other (by decide) _, h.c2.other (by decide) _, h.c3.other (by decide) _, h.c4.other (by decide) _, h.c5.other (by decide) _, h.c6.other (by decide) _, h.c7.other (by decide) _, h.c8.other (by decide) _, h.c9.other (by decide) _, h.c10.set _, h.c11.other (by decide) _, h.c12.other (by decide) _, h.c13.other (by decide) _, h.c14.other (by decide) _⟩
theorem EvBox.st11 {w : World} {b : Nat} {e : Ev} (h : EvBox w b e) (v : Int) : EvBox (w.setCell ⟨b, 11, none⟩ (.int .i64 v)) b { e with r5 := v } :=
  ⟨h.c0.other (by decide) _, h.c1.other (by decide) _, h.c2.other (by decide) _, h.c3.other (by decide) _, h.c4.other (by decide) _, h.c5.other (by decide) _, h.c6.other (by decide) _, h.c7.other (by decide) _, h.c8.other (by decide) _, h.c9.other (by decide) _, h.c10.other (by decide) _, h.c11.set _, h.c12.other (by decide) _, h.c13.other (by decide) _, h.c14.other (by decide) _⟩
theorem EvBox.st12 {w : World} {b : Nat} {e : Ev} (h : EvBox w b e) (v : Int) : EvBox (w.setCell ⟨b, 12, none⟩ (.int .i64 v)) b { e with r6 := v } :=
  ⟨h.c0.other (by decide) _, h.c1.other (by decide) _, h.c2.other (by decide) _, h.c3.other (by decide) _, h.c4.other (by decide) _, h.c5.other (by decide) _, h.c6.other (by decide) _, h.c7.other (by decide) _, h.c8.other (by decide) _, h.c9.other (by decide) _, h.c10.other (by decide) _, h.c11.other (by decide) _, h.c12.set _, h.c13.other (by decide) _, h.c14.other (by decide) _⟩
theorem EvBox.st13 {w : World} {b : Nat} {e : Ev} (h : EvBox w b e) (v : Int) : EvBox (w.setCell ⟨b, 13, none⟩ (.int .i64 v)) b { e with r7 := v } :=
  ⟨h.c0.other (by decide) _, h.c1.other (by decide) _, h.c2.other (by decide) _, h.c3.other (by decide) _, h.c4.other (by decide) _, h.c5.other (by decide) _, h.c6.other (by decide) _, h.c7.other (by decide) _, h.c8.other (by decide) _, h.c9.other (by decide) _, h.c10.other (by decide) _, h.c11.other (by decide) _, h.c12.other (by decide) _, h.c13.set _, h.c14.other (by decide) _⟩
theorem EvBox.st14 {w : World} {b : Nat} {e : Ev} (h : EvBox w b e) (v : Int) : EvBox (w.setCell ⟨b, 14, none⟩ (.int .i64 v)) b { e with depth := v } :=
  ⟨h.c0.other (by decide) _, h.c1.other (by decide) _, h.c2.other (by decide) _, h.c3.other (by decide) _, h.c4.other (by decide) _, h.c5.other (by decide) _, h.c6.other (by decide) _, h.c7.other (by decide) _, h.c8.other (by decide) _, h.c9.other (by decide) _, h.c10.other (by decide) _, h.c11.other (by decide) _, h.c12.other (by decide) _, h.c13.other (by decide) _, h.c14.set _⟩
theorem EvBox.all {w : World} {b : Nat} {e0 : Ev} (h : EvBox w b e0) (e : Ev) : EvBox (((((((((((((((w.setCell ⟨b, 0, none⟩ (.int .i64 e.kind)).setCell ⟨b, 1, none⟩ (.int .i64 e.act)).setCell ⟨b, 2, none⟩ (.int .i64 e.thread)).setCell ⟨b, 3, none⟩ (.int .i64 e.value)).setCell ⟨b, 4, none⟩ (.int .i64 e.program)).setCell ⟨b, 5, none⟩ (.int .i64 e.pc)).setCell ⟨b, 6, none⟩ (.int .i64 e.r0)).setCell ⟨b, 7, none⟩ (.int .i64 e.r1)).setCell ⟨b, 8, none⟩ (.int .i64 e.r2)).setCell ⟨b, 9, none⟩ (.int .i64 e.r3)).setCell ⟨b, 10, none⟩ (.int .i64 e.r4)).setCell ⟨b, 11, none⟩ (.int .i64 e.r5)).setCell ⟨b, 12, none⟩ (.int .i64 e.r6)).setCell ⟨b, 13, none⟩ (.int .i64 e.r7)).setCell ⟨b, 14, none⟩ (.int .i64 e.depth)) b e :=
  (((((((((((((((h.st0 e.kind).st1 e.act).st2 e.thread).st3 e.value).st4 e.program).st5 e.pc).st6 e.r0).st7 e.r1).st8 e.r2).st9 e.r3).st10 e.r4).st11 e.r5).st12 e.r6).st13 e.r7).st14 e.depth)
theorem evAll_chg (w : World) (b : Nat) (e : Ev) : Chg (fun k => k = b) w (((((((((((((((w.setCell ⟨b, 0, none⟩ (.int .i64 e.kind)).setCell ⟨b, 1, none⟩ (.int .i64 e.act)).setCell ⟨b, 2, none⟩ (.int .i64 e.thread)).setCell ⟨b, 3, none⟩ (.int .i64 e.value)).setCell ⟨b, 4, none⟩ (.int .i64 e.program)).setCell ⟨b, 5, none⟩ (.int .i64 e.pc)).setCell ⟨b, 6, none⟩ (.int .i64 e.r0)).setCell ⟨b, 7, none⟩ (.int .i64 e.r1)).setCell ⟨b, 8, none⟩ (.int .i64 e.r2)).setCell ⟨b, 9, none⟩ (.int .i64 e.r3)).setCell ⟨b, 10, none⟩ (.int .i64 e.r4)).setCell ⟨b, 11, none⟩ (.int .i64 e.r5)).setCell ⟨b, 12, none⟩ (.int .i64 e.r6)).setCell ⟨b, 13, none⟩ (.int .i64 e.r7)).setCell ⟨b, 14, none⟩ (.int .i64 e.depth)) := ((((((((((((((((Chg.refl (fun k => k = b) w).setCell b 0 (.int .i64 e.kind) rfl).setCell b 1 (.int .i64 e.act) rfl).setCell b 2 (.int .i64 e.thread) rfl).setCell b 3 (.int .i64 e.value) rfl).setCell b 4 (.int .i64 e.program) rfl).setCell b 5 (.int .i64 e.pc) rfl).setCell b 6 (.int .i64 e.r0) rfl).setCell b 7 (.int .i64 e.r1) rfl).setCell b 8 (.int .i64 e.r2) rfl).setCell b 9 (.int .i64 e.r3) rfl).setCell b 10 (.int .i64 e.r4) rfl).setCell b 11 (.int .i64 e.r5) rfl).setCell b 12 (.int .i64 e.r6) rfl).setCell b 13 (.int .i64 e.r7) rfl).setCell b 14 (.int .i64 e.depth) rfl)
def numQ (so : Bool) (bs : List Int) (er : Int) : Int × List Int × Int := if so then (((gotE 0 (fun bs => numM bs 4611686018427387904) bs er).1 : Int), (gotE 0 (fun bs => numM bs 4611686018427387904) bs er).2.1, (gotE 0 (fun bs => numM bs 4611686018427387904) bs er).2.2) else (0, bs, er)
def intQ (bs : List Int) (er : Int) : Int × List Int × Int := gotE 0 (fun bs => withinM bs (-9223372036854775808) 9223372036854775807) bs er
theorem gotE_u8 {T : Type} {z : T} {f : List Int → Except Int (T × List Int)} {bs : List Int} {P : T → Prop} (hw : Well bs (f bs) P) (hb : U8s bs) (er : Int) : U8s (gotE z f bs er).2.1 ∧ (gotE z f bs er).2.1.length ≤ bs.length ∧ ((gotE z f bs er).1 = z ∨ P (gotE z f bs er).1) := by
  unfold gotE
  split
  · exact ⟨hb, Nat.le_refl _, .inl rfl⟩
  · unfold Well at hw
    cases hf : f bs with
    | error x => exact ⟨(fun x hx => by cases hx), Nat.zero_le _, .inl rfl⟩
    | ok q =>
      obtain ⟨v, rest⟩ := q
      rw [hf] at hw
      exact ⟨hw.2.1, by have := hw.2.2; omega, .inr hw.1⟩
theorem numQ_u8 {bs : List Int} (hb : U8s bs) (so : Bool) (er : Int) : U8s (numQ so bs er).2.1 ∧ (numQ so bs er).2.1.length ≤ bs.length ∧ 0 ≤ (numQ so bs er).1 ∧ (numQ so bs er).1 ≤ 4611686018427387904 := by
  have h := gotE_u8 (z := 0) (f := fun bs => numM bs 4611686018427387904) (well_numM hb 4611686018427387904) hb er
  unfold numQ
  cases so
  · exact ⟨hb, Nat.le_refl _, Int.le_refl _, (by show (0 : Int) ≤ _; decide)⟩
  · refine ⟨h.1, h.2.1, Int.natCast_nonneg _, ?_⟩
    show (((gotE 0 (fun bs => numM bs 4611686018427387904) bs er).1 : Nat) : Int) ≤ _
    rcases h.2.2 with h | h
    · rw [h]; decide
    · exact Int.ofNat_le.2 h
theorem intQ_u8 {bs : List Int} (hb : U8s bs) (er : Int) : U8s (intQ bs er).2.1 ∧ (intQ bs er).2.1.length ≤ bs.length ∧ I64 (intQ bs er).1 := by
  have h := gotE_u8 (z := 0) (f := fun bs => withinM bs (-9223372036854775808) 9223372036854775807) (well_within hb (-9223372036854775808) 9223372036854775807) hb er
  refine ⟨h.1, h.2.1, ?_⟩
  rcases h.2.2 with h | h
  · unfold intQ; simp only [h]; unfold I64; decide
  · exact h
theorem numc_no (v : Value) (w : World) : Calls Try.prog 50 #[.bool false, v] w fun e w' => e = .returned (.int .i64 0) ∧ w = w' := by
  go_enter Try.func50, Try.ntmps50
  go_wp2
  go_ret
  exact ⟨rfl, rfl⟩
theorem numc_yes (pb b : Nat) (er : Int) (bs : List Int) (w : World) (h : Src B w b bs er) (hB : B ≤ w.heap.size) (hb : U8s bs) (hp : w.cell? ⟨pb, 0, none⟩ = some (.pointer (some ⟨b, 0, none⟩))) :
    Calls Try.prog 50 #[.bool true, .pointer (some ⟨pb, 0, none⟩)] w (Tells (fun v : Int => .int .i64 v) B w b (numQ true bs er)) := by
  have HQ : Calls Try.prog 35 #[.pointer (some ⟨b, 0, none⟩), .int .u64 4611686018427387904] w (Tells (fun v : Nat => .int .u64 v) B w b (gotE 0 (fun bs => numM bs 4611686018427387904) bs er)) := srcNum' (B := B) b 4611686018427387904 er bs w h hB hb
  have hq := (numQ_u8 hb true er).2.2
  unfold numQ at hq ⊢
  simp only [if_pos] at hq ⊢
  generalize gotE 0 (fun bs => numM bs 4611686018427387904) bs er = q at HQ hq ⊢
  obtain ⟨v, rest, er'⟩ := q
  have hwv : IntKind.i64.wrap (v : Int) = v := by rw [IntKind.wrap_i64]; simp only at hq; omega
  have HQ' := Lib.hid HQ
  clear HQ hq h hb
  go_enter Try.func50, Try.ntmps50
  go_wp2_with ((with_reducible refine HQ'.out.mono ?_); rintro e w1 ⟨rfl, hc, hs⟩)
  go_ret
  exact ⟨rfl, hc, hs⟩
theorem numc (pb b : Nat) (so : Bool) (er : Int) (bs : List Int) (w : World) (h : Src B w b bs er) (hB : B ≤ w.heap.size) (hb : U8s bs) (hp : w.cell? ⟨pb, 0, none⟩ = some (.pointer (some ⟨b, 0, none⟩))) :
    Calls Try.prog 50 #[.bool so, .pointer (some ⟨pb, 0, none⟩)] w (Tells (fun v : Int => .int .i64 v) B w b (numQ so bs er)) := by
  cases so
  · refine (numc_no _ w).mono ?_
    rintro e w' ⟨rfl, rfl⟩
    exact ⟨rfl, Chg.refl _ _, h⟩
  · exact numc_yes pb b er bs w h hB hb hp
end Go.Proofs.Ytdnddoiemaifjaa
