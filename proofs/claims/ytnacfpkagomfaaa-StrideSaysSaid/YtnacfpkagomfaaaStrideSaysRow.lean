/- The law StrideSays holds: for any five numbers the call returns true. No condition. -/
import Derived.Test.YtnacfpkagomfaaaStrideSays
import Derived.Test.YtnacfpkagomfaaaOpen
namespace Go.Proofs.Ytnacfpkagomfaaa.strideSays
theorem leaf_int64 {P : Program} {w : World} {d : Nat} {v : Value} (h : LeafOk P w d (.int .i64) v) : ∃ n, v = .int .i64 n ∧ I64 n := by
  have h4 : ∃ n, v = .int .i64 n ∧ (Lit.int .i64 n).wf = true := by cases d <;> exact h
  obtain ⟨n, rfl, hw⟩ := h4
  exact ⟨n, rfl, i64_of_wf hw⟩
theorem leaves_0 : leaves Try.prog 6 35 = some [.int .i64, .int .i64, .int .i64, .int .i64, .int .i64] := by kernel_rfl
end Go.Proofs.Ytnacfpkagomfaaa.strideSays
namespace Go.Proofs.Ytnacfpkagomfaaa.strideSays
open Go.ChangeShapes Go.WideShapes Go.ChangeAt Go.RowKit
open Go.ChangeMaps (open_string shut_string)
set_option linter.unusedVariables false
theorem own : ownKnob Try.prog.godebug = none := by kernel_rfl
theorem laidOut : laidOutB Try.prog = true := by kernel_rfl
set_option maxRecDepth 100000 in
set_option maxHeartbeats 1000000 in
theorem lifted (os : Os) (started : os.Started) (H : Type) (enc : TypeId × Value → H) :
    ReturnsInHanded {} Try.checked os 6 .any (Rows.strideSaysSpec.pre6 enc Try.prog Try.f6 Rows.strideSaysRow.domain false) (Rows.strideSaysSpec.post enc Try.prog Try.f6 false true false false) := by
  refine returnsInHanded_of_change_sized (C := Try.checked) own started (by kernel_rfl) Try.func6
    (ChangeSpec.witness6 (enc := enc) (C := Try.checked) false ⟨#[], #[.agg #[.int .i64 0, .int .i64 0, .int .i64 0, .int .i64 0, .int .i64 0]], []⟩ 8 (by kernel_rfl) (by kernel_rfl) (by kernel_rfl) (by kernel_rfl)) ?_
  intro W base args ds gs before hval0 hW hcnd hsz0 _
  have hval : ∀ (j : Nat) t v, Try.f6.params[j]? = some t → args[j]? = some v → Value.okWide Try.prog W .any base t v := hval0
  have hW' := hW
  obtain ⟨p, q, hA0, hV, rfl, hfz, hnd⟩ := hW
  have hA : DataW.TrodAll enc Try.prog W 0 (fun _ => true) true Try.f6.params.toList args.toList ds p := hA0
  rw [Try.params6] at hA hval
  obtain ⟨v0, vs0, d0, ds0, p0, q0, hargs, rfl, rfl, h0, r0⟩ := trodAll_cons hA
  obtain ⟨rfl, rfl, rfl⟩ := trodAll_nil r0
  obtain rfl : args = #[v0] := by cases args; simp_all
  obtain ⟨rfl, rfl⟩ := trodVars_none hV
  have k0 := h0
  have lt0 : ∀ x ∈ p0, x.block < W.heap.size := by obtain ⟨m, hm⟩ := k0; exact DataW.trod_lt m _ _ _ hm
  obtain ⟨⟨cs0⟩, rfl, hsz0⟩ := okWide_struct Try.underlying35 (hval 0 35 v0 rfl rfl)
  obtain ⟨fuel0, hf0⟩ := h0
  have ok0 := opens 3 6 fuel0 _ _ _ _ hf0 (leaves_0)
  clear hA0 hval0 hsz0
  obtain ⟨_, _, rfl, k1, ok0⟩ := allOk_cons ok0
  obtain ⟨_, _, rfl, k2, ok0⟩ := allOk_cons ok0
  obtain ⟨_, _, rfl, k3, ok0⟩ := allOk_cons ok0
  obtain ⟨_, _, rfl, k4, ok0⟩ := allOk_cons ok0
  obtain ⟨_, _, rfl, k5, ok0⟩ := allOk_cons ok0
  obtain rfl := allOk_nil ok0
  obtain ⟨n1, rfl, w1⟩ := leaf_int64 k1
  obtain ⟨n2, rfl, w2⟩ := leaf_int64 k2
  obtain ⟨n3, rfl, w3⟩ := leaf_int64 k3
  obtain ⟨n4, rfl, w4⟩ := leaf_int64 k4
  obtain ⟨n5, rfl, w5⟩ := leaf_int64 k5
  refine (says_law n1 n2 n3 n4 n5 w1 w2 w3 w4 W).mono fun e W' ⟨he, bel⟩ => ?_
  subst he
  exact ⟨_, rfl, _, _, _, [], _, [], hW', trodAll_mk1 (shut_bool Try.underlying4 _), (trodAll_cons_mk (Below.trod laidOut (by kernel_rfl) (of_decide_eq_true (by kernel_rfl)) k0 bel lt0) trodAll_mk0), rfl, bel.frame _, fun h => by cases h⟩
theorem over : Rows.strideSaysRow.holds Try.pinned (OpenSpec.ofChange Rows.strideSaysSpec) :=
  OpenClaim.holds_of_wide 6 Try.f6 rfl rfl rfl rfl rfl rfl rfl ⟨rfl, rfl, rfl, rfl, rfl⟩ rfl rfl rfl rfl rfl (by kernel_rfl) Try.func6 (by kernel_rfl)
    (of_decide_eq_true (by kernel_rfl)) (by unfold Func.isWrapper; first | (rw [if_pos (by decide +kernel)]; kernel_rfl) | (rw [if_neg (by decide +kernel)]; exact ⟨rfl, rfl⟩))
    (fun os started H enc _ => lifted os started H enc)
end Go.Proofs.Ytnacfpkagomfaaa.strideSays
namespace Go.Proofs.Ytnacfpkagomfaaa
theorem strideSays_holds : Rows.StrideSaysSaid := strideSays.over
end Go.Proofs.Ytnacfpkagomfaaa
