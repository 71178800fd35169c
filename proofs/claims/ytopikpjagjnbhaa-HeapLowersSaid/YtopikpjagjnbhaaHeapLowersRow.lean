/- The law HeapLowers holds: for any keys and any number by which they are lowered the call returns true, and the arguments read as they did. No condition. -/
import Derived.Test.YtopikpjagjnbhaaHeapLowers
import Derived.Test.YtopikpjagjnbhaaOpen
namespace Go.Proofs.Ytopikpjagjnbhaa.heapLowers
theorem law (A : Option Addr) (n c : Nat) (keys : List Int) (z : Int) (w : World) (hr : Rds w 1 A n c (nums .i32 keys)) (hk : ∀ x ∈ keys, (Lit.int .i32 x).wf = true) (hz : (Lit.int .i32 z).wf = true) :
    Calls Try.prog 6 #[.slice A n c, .int .i32 z] w fun e w' => e = .returned (.bool true) ∧ Go.RowKit.Below w.heap.size w w' := by
  by_cases h1 : 100 < n
  · exact lowers_lives A n c z w h1
  · exact lowers_walk A n c keys z w hr (by omega) (fun x hx => i32_of_wf (hk x hx)) (i32_of_wf hz)
end Go.Proofs.Ytopikpjagjnbhaa.heapLowers
namespace Go.Proofs.Ytopikpjagjnbhaa.heapLowers
open Go.ChangeShapes Go.WideShapes Go.ChangeAt Go.RowKit
open Go.ChangeMaps (open_string shut_string)
set_option linter.unusedVariables false
theorem own : ownKnob Try.prog.godebug = none := by kernel_rfl
theorem laidOut : laidOutB Try.prog = true := by kernel_rfl
set_option maxRecDepth 100000 in
set_option maxHeartbeats 1000000 in
theorem lifted (os : Os) (started : os.Started) (H : Type) (enc : TypeId × Value → H) :
    ReturnsInHanded {} Try.checked os 6 .any (Rows.heapLowersSpec.pre6 enc Try.prog Try.f6 Rows.heapLowersRow.domain false) (Rows.heapLowersSpec.post enc Try.prog Try.f6 false true false false) := by
  refine returnsInHanded_of_change_sized (C := Try.checked) own started (by kernel_rfl) Try.func6
    (ChangeSpec.witness6 (enc := enc) (C := Try.checked) false ⟨#[], #[.slice none 0 0, .int .i32 0], []⟩ 8 (by kernel_rfl) (by kernel_rfl) (by kernel_rfl) (by kernel_rfl)) ?_
  intro W base args ds gs before hval0 hW hcnd hsz0 _
  have hval : ∀ (j : Nat) t v, Try.f6.params[j]? = some t → args[j]? = some v → Value.okWide Try.prog W .any base t v := hval0
  have hW' := hW
  obtain ⟨p, q, hA0, hV, rfl, hfz, hnd⟩ := hW
  have hA : DataW.TrodAll enc Try.prog W 0 (fun _ => true) true Try.f6.params.toList args.toList ds p := hA0
  rw [Try.params6] at hA hval
  obtain ⟨v0, vs0, d0, ds0, p0, q0, hargs, rfl, rfl, h0, r0⟩ := trodAll_cons hA
  obtain ⟨v1, vs1, d1, ds1, p1, q1, rfl, rfl, rfl, h1, r1⟩ := trodAll_cons r0
  obtain ⟨rfl, rfl, rfl⟩ := trodAll_nil r1
  obtain rfl : args = #[v0, v1] := by cases args; simp_all
  obtain ⟨rfl, rfl⟩ := trodVars_none hV
  have k0 := h0
  have lt0 : ∀ x ∈ p0, x.block < W.heap.size := by obtain ⟨m, hm⟩ := k0; exact DataW.trod_lt m _ _ _ hm
  obtain ⟨a0, len0, cap0, rfl⟩ := okWide_slice Try.underlying49 (hval 0 49 v0 rfl rfl)
  obtain ⟨fuel0, hf0⟩ := h0
  have ok0 := opens 3 6 fuel0 _ _ _ _ hf0 (by kernel_rfl : leaves Try.prog 6 49 = some [.slice 21])
  obtain ⟨_, _, e0, l0, _⟩ := allOk_cons ok0
  obtain ⟨A', n', c', xs0, e', hr0, hx0⟩ := leaf_nums (k := .i32) (by kernel_rfl) (by kernel_rfl) l0
  subst e'
  simp only [Value.cells, List.cons.injEq, Value.slice.injEq] at e0
  obtain ⟨⟨rfl, rfl, rfl⟩, _⟩ := e0
  have k1 := h1
  have lt1 : ∀ x ∈ p1, x.block < W.heap.size := by obtain ⟨m, hm⟩ := k1; exact DataW.trod_lt m _ _ _ hm
  obtain ⟨n1, rfl, _, _, wn1⟩ := open_int Try.underlying21 (hval 1 21 v1 rfl rfl) h1
  clear hA0 hval0 hsz0
  refine (law a0 len0 cap0 xs0 n1 W hr0 hx0 wn1).mono fun e W' ⟨he, bel⟩ => ?_
  subst he
  exact ⟨_, rfl, _, _, _, [], _, [], hW', trodAll_mk1 (shut_bool Try.underlying4 _), (trodAll_cons_mk (Below.trod laidOut (by kernel_rfl) (of_decide_eq_true (by kernel_rfl)) k0 bel lt0) (trodAll_cons_mk (Below.trod laidOut (by kernel_rfl) (of_decide_eq_true (by kernel_rfl)) k1 bel lt1) trodAll_mk0)), rfl, bel.frame _, fun h => by cases h⟩
theorem over : Rows.heapLowersRow.holds Try.pinned (OpenSpec.ofChange Rows.heapLowersSpec) :=
  OpenClaim.holds_of_wide 6 Try.f6 rfl rfl rfl rfl rfl rfl rfl ⟨rfl, rfl, rfl, rfl, rfl⟩ rfl rfl rfl rfl rfl (by kernel_rfl) Try.func6 (by kernel_rfl)
    (of_decide_eq_true (by kernel_rfl)) (by unfold Func.isWrapper; first | (rw [if_pos (by decide +kernel)]; kernel_rfl) | (rw [if_neg (by decide +kernel)]; exact ⟨rfl, rfl⟩))
    (fun os started H enc _ => lifted os started H enc)
end Go.Proofs.Ytopikpjagjnbhaa.heapLowers
namespace Go.Proofs.Ytopikpjagjnbhaa
theorem heapLowers_holds : Rows.HeapLowersSaid := heapLowers.over
end Go.Proofs.Ytopikpjagjnbhaa
