/- Package code: what is deferred: a fault is caught. -/
import Derived.Test.YtdnddoiemaifjaaCodeNone
import Derived.Test.YtdnddoiemaifjaaChg
import Derived.Defers
import Derived.Recover
import Derived.Laws.Pointers
namespace Go.Proofs.Ytdnddoiemaifjaa
open Go.RowKit
set_option maxRecDepth 100000 in
set_option maxHeartbeats 2000000 in
theorem caught_idle (p : Option Addr) (w : World) :
    CallsD Try.prog 70 #[.pointer p] .returning w fun e u' w' => e = .returned (.tuple #[]) ∧ u' = .returning ∧ w' = w := by
  have hrep : Array.replicate 18 undef = #[undef, undef, undef, undef, undef, undef, undef, undef, undef, undef, undef, undef, undef, undef, undef, undef, undef, undef] := rfl
  refine callsD_of_wpS Try.func70 rfl fun c₀ cs hu => ?_
  apply wpS_seq
  apply wpS_region
  simp [wpOpsS, go_sem, recoverD, hu, Try.ntmps70, Exit.thenS, hrep]
  refine wpS_of_wp ?_
  go_wp2
  cases c₀
  simp_all [bodyPostS, results, Try.results70]
theorem Box.other {w : World} {b o o' : Nat} {v : Value} (h : Box w b o v) (hne : o ≠ o') (u : Value) : Box (w.setCell ⟨b, o', none⟩ u) b o v := by
  have h1 := h.cell
  have h2 := h.free
  constructor
  · go_simp
  · go_simp
def faultV (er : Int) : Value := .iface 92 (.agg #[.int .i64 er])
set_option maxRecDepth 100000 in
set_option maxHeartbeats 2000000 in
theorem caught_fault (b : Nat) (v0 v : Value) (e0 er : Int) (w : World) (h0 : Box w b 0 v0) (h1 : Box w b 1 v) (h2 : Box w b 2 (.int .i64 e0)) (older : List PanicEntry) :
    CallsD Try.prog 70 #[.pointer (some ⟨b, 0, none⟩)] (.panicking ({ v := faultV er, recovered := false } :: older)) w fun e u' w' => e = .returned (.tuple #[]) ∧ u' = .panicking ({ v := faultV er, recovered := true } :: older) ∧ Chg (fun k => k = b) w w' ∧ Box w' b 0 v0 ∧ Box w' b 1 (.slice none 0 0) ∧ Box w' b 2 (.int .i64 er) := by
  have hrep : Array.replicate 18 undef = #[undef, undef, undef, undef, undef, undef, undef, undef, undef, undef, undef, undef, undef, undef, undef, undef, undef, undef] := rfl
  have hlt := h1.lt
  have hal : Below w.heap.size w (w.alloc (.cells #[.int .i64 er] 92)) := below_al (Below.refl _ _) _
  have q1 := h1.other (o' := 2) (by decide) (.int .i64 er)
  have k1 := q1.below (below_al (Below.refl _ _) (.cells #[.int .i64 er] 92))
  have hf1 := k1.free
  have hc1 := k1.cell
  have k2 := h2.below hal
  have hf2 := k2.free
  have hc2 := k2.cell
  have hta : ∀ w, (Instr.typeAssert (.iface 92 (.agg #[.int .i64 er])) 20 92 true).run Try.prog w = .ok (.tuple #[.agg #[.int .i64 er], .bool true]) w := fun w => by kernel_rfl
  unfold faultV
  refine callsD_of_wpS Try.func70 rfl fun c₀ cs hu => ?_
  apply wpS_seq
  apply wpS_region
  simp [wpOpsS, go_sem, recoverD, hu, Try.ntmps70, Exit.thenS, hrep]
  refine wpS_of_wp ?_
  go_wp2
  have hal2 : Below ((w.setCell ⟨b, 2, none⟩ (.int .i64 er)).setCell ⟨b, 1, none⟩ (.slice none 0 0)).heap.size ((w.setCell ⟨b, 2, none⟩ (.int .i64 er)).setCell ⟨b, 1, none⟩ (.slice none 0 0)) (((w.setCell ⟨b, 2, none⟩ (.int .i64 er)).setCell ⟨b, 1, none⟩ (.slice none 0 0)).alloc (.cells #[.int .i64 er] 92)) := below_al (Below.refl _ _) _
  have e0 : Chg (fun k => k = b) w ((w.setCell ⟨b, 2, none⟩ (.int .i64 er)).setCell ⟨b, 1, none⟩ (.slice none 0 0)) := Chg.setCell (S := fun k => k = b) (Chg.setCell (S := fun k => k = b) (Chg.refl _ _) b 2 _ rfl) b 1 _ rfl
  have e1 := e0.trans (.of_below hal2)
  have e2 := (q1.set (.slice none 0 0)).below hal2
  have e4 := ((h0.other (o' := 2) (by decide) (.int .i64 er)).other (o' := 1) (by decide) (.slice none 0 0)).below hal2
  have e3 := ((h2.set (.int .i64 er)).other (o' := 1) (by decide) (.slice none 0 0)).below hal2
  simp only [bodyPostS]
  exact ⟨trivial, _, rfl, .tuple #[], by simp [results, Try.results70], rfl, rfl, e1, e4, e2, e3⟩
end Go.Proofs.Ytdnddoiemaifjaa
