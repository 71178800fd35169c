/- The law ReadyNone holds: for any act the call returns true, and the argument reads as it did. No condition. -/
import Derived.Test.YtabdipfpfbdghaaReadyNone
import Derived.Test.YtabdipfpfbdghaaOpen
namespace Go.Proofs.Ytabdipfpfbdghaa.readyNone
theorem leaves_0 : leaves Try.prog 6 30 = some [.int .i64, .int .i64, .int .i64] := by kernel_rfl
end Go.Proofs.Ytabdipfpfbdghaa.readyNone
namespace Go.Proofs.Ytabdipfpfbdghaa.readyNone
open Go.ChangeShapes Go.WideShapes Go.ChangeAt Go.RowKit
open Go.ChangeMaps (open_string shut_string)
set_option linter.unusedVariables false
theorem own : ownKnob Try.prog.godebug = none := by kernel_rfl
theorem laidOut : laidOutB Try.prog = true := by kernel_rfl
set_option maxRecDepth 100000 in
set_option maxHeartbeats 1000000 in
theorem lifted (os : Os) (started : os.Started) (H : Type) (enc : TypeId × Value → H) :
    ReturnsInHanded {} Try.checked os 4 .any (Rows.readyNoneSpec.pre6 enc Try.prog Try.f4 Rows.readyNoneRow.domain false) (Rows.readyNoneSpec.post enc Try.prog Try.f4 false true false false) := by
  refine returnsInHanded_of_change_sized (C := Try.checked) own started (by kernel_rfl) Try.func4
    (ChangeSpec.witness6 (enc := enc) (C := Try.checked) false ⟨#[], #[.agg #[.int .i64 0, .int .i64 0, .int .i64 0]], []⟩ 8 (by kernel_rfl) (by kernel_rfl) (by kernel_rfl) (by kernel_rfl)) ?_
  intro W base args ds gs before hval0 hW hcnd hsz0 _
  have hval : ∀ (j : Nat) t v, Try.f4.params[j]? = some t → args[j]? = some v → Value.okWide Try.prog W .any base t v := hval0
  have hW' := hW
  obtain ⟨p, q, hA0, hV, rfl, hfz, hnd⟩ := hW
  have hA : DataW.TrodAll enc Try.prog W 0 (fun _ => true) true Try.f4.params.toList args.toList ds p := hA0
  rw [Try.params4] at hA hval
  obtain ⟨v0, vs0, d0, ds0, p0, q0, hargs, rfl, rfl, h0, r0⟩ := trodAll_cons hA
  obtain ⟨rfl, rfl, rfl⟩ := trodAll_nil r0
  obtain rfl : args = #[v0] := by cases args; simp_all
  obtain ⟨rfl, rfl⟩ := trodVars_none hV
  have k0 := h0
  have lt0 : ∀ x ∈ p0, x.block < W.heap.size := by obtain ⟨m, hm⟩ := k0; exact DataW.trod_lt m _ _ _ hm
  obtain ⟨⟨cs0⟩, rfl, hsz0⟩ := okWide_struct Try.underlying30 (hval 0 30 v0 rfl rfl)
  obtain ⟨fuel0, hf0⟩ := h0
  have ok0 := opens 3 6 fuel0 _ _ _ _ hf0 (leaves_0)
  clear hA0 hval0 hsz0
  obtain ⟨_, _, rfl, ⟨k, rfl, _⟩, o0⟩ := allOk_cons ok0
  obtain ⟨_, _, rfl, ⟨n, rfl, _⟩, o1⟩ := allOk_cons o0
  obtain ⟨_, _, rfl, ⟨e0, rfl, _⟩, o2⟩ := allOk_cons o1
  obtain rfl := allOk_nil o2
  refine (none_walk k n e0 W).mono fun e W' ⟨he, bel⟩ => ?_
  subst he
  exact ⟨_, rfl, _, _, _, [], _, [], hW', trodAll_mk1 (shut_bool Try.underlying4 _), (trodAll_cons_mk (Below.trod laidOut (by kernel_rfl) (of_decide_eq_true (by kernel_rfl)) k0 bel lt0) trodAll_mk0), rfl, bel.frame _, fun h => by cases h⟩
theorem over : Rows.readyNoneRow.holds Try.pinned (OpenSpec.ofChange Rows.readyNoneSpec) :=
  OpenClaim.holds_of_wide 4 Try.f4 rfl rfl rfl rfl rfl rfl rfl ⟨rfl, rfl, rfl, rfl, rfl⟩ rfl rfl rfl rfl rfl (by kernel_rfl) Try.func4 (by kernel_rfl)
    (of_decide_eq_true (by kernel_rfl)) (by unfold Func.isWrapper; first | (rw [if_pos (by decide +kernel)]; kernel_rfl) | (rw [if_neg (by decide +kernel)]; exact ⟨rfl, rfl⟩))
    (fun os started H enc _ => lifted os started H enc)
end Go.Proofs.Ytabdipfpfbdghaa.readyNone
namespace Go.Proofs.Ytabdipfpfbdghaa
theorem readyNone_holds : Rows.ReadyNoneSaid := readyNone.over
end Go.Proofs.Ytabdipfpfbdghaa
