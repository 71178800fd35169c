/- The law NumOrder holds: for any three fractions the call returns true. No condition. -/
import Derived.Test.YtkebkmjffbnihaaNumOrder
import Derived.Test.YtkebkmjffbnihaaOpen
namespace Go.Proofs.Ytkebkmjffbnihaa.numOrder
theorem u32_of_wf {n : Int} (h : (Lit.int .u32 n).wf = true) : 0 ≤ n ∧ n ≤ 4294967295 := by
  have hmin : IntKind.u32.min = 0 := rfl
  have hmax : IntKind.u32.max = 4294967295 := rfl
  simp only [Lit.wf, Bool.and_eq_true, decide_eq_true_eq] at h
  omega
theorem leaf_u32 {P : Program} {w : World} {d : Nat} {v : Value} (h : LeafOk P w d (.int .u32) v) : ∃ n, v = .int .u32 n ∧ 0 ≤ n ∧ n ≤ 4294967295 := by
  have h4 : ∃ n, v = .int .u32 n ∧ (Lit.int .u32 n).wf = true := by cases d <;> exact h
  obtain ⟨n, rfl, hw⟩ := h4
  exact ⟨n, rfl, u32_of_wf hw⟩
theorem okWide_array {P : Program} {w : World} {r : Reach} {base : Nat} {t : TypeId} {v : Value} {n : Nat} {e : TypeId} (ht : P.underlying t = some (.array n e)) (h : Value.okWide P w r base t v) : ∃ cs, v = .agg cs ∧ cs.size = P.cellsOf t := by
  simp only [Value.okWide, ht] at h
  obtain ⟨cs, h1, h2, _⟩ := h
  exact ⟨cs, h1, h2⟩
theorem leaves_0 : leaves Try.prog 6 34 = some [.int .u32, .int .u32] := by kernel_rfl
theorem leaves_1 : leaves Try.prog 6 34 = some [.int .u32, .int .u32] := leaves_0
theorem leaves_2 : leaves Try.prog 6 34 = some [.int .u32, .int .u32] := leaves_0
end Go.Proofs.Ytkebkmjffbnihaa.numOrder
namespace Go.Proofs.Ytkebkmjffbnihaa.numOrder
open Go.ChangeShapes Go.WideShapes Go.ChangeAt Go.RowKit
open Go.ChangeMaps (open_string shut_string)
set_option linter.unusedVariables false
theorem own : ownKnob Try.prog.godebug = none := by kernel_rfl
theorem laidOut : laidOutB Try.prog = true := by kernel_rfl
set_option maxRecDepth 100000 in
set_option maxHeartbeats 1000000 in
theorem lifted (os : Os) (started : os.Started) (H : Type) (enc : TypeId × Value → H) :
    ReturnsInHanded {} Try.checked os 7 .any (Rows.numOrderSpec.pre6 enc Try.prog Try.f7 Rows.numOrderRow.domain false) (Rows.numOrderSpec.post enc Try.prog Try.f7 false true false false) := by
  refine returnsInHanded_of_change_sized (C := Try.checked) own started (by kernel_rfl) Try.func7
    (ChangeSpec.witness6 (enc := enc) (C := Try.checked) false ⟨#[], #[.agg #[.int .u32 0, .int .u32 0], .agg #[.int .u32 0, .int .u32 0], .agg #[.int .u32 0, .int .u32 0]], []⟩ 8 (by kernel_rfl) (by kernel_rfl) (by kernel_rfl) (by kernel_rfl)) ?_
  intro W base args ds gs before hval0 hW hcnd hsz0 _
  have hval : ∀ (j : Nat) t v, Try.f7.params[j]? = some t → args[j]? = some v → Value.okWide Try.prog W .any base t v := hval0
  have hW' := hW
  obtain ⟨p, q, hA0, hV, rfl, hfz, hnd⟩ := hW
  have hA : DataW.TrodAll enc Try.prog W 0 (fun _ => true) true Try.f7.params.toList args.toList ds p := hA0
  rw [Try.params7] at hA hval
  obtain ⟨v0, vs0, d0, ds0, p0, q0, hargs, rfl, rfl, h0, r0⟩ := trodAll_cons hA
  obtain ⟨v1, vs1, d1, ds1, p1, q1, rfl, rfl, rfl, h1, r1⟩ := trodAll_cons r0
  obtain ⟨v2, vs2, d2, ds2, p2, q2, rfl, rfl, rfl, h2, r2⟩ := trodAll_cons r1
  obtain ⟨rfl, rfl, rfl⟩ := trodAll_nil r2
  obtain rfl : args = #[v0, v1, v2] := by cases args; simp_all
  obtain ⟨rfl, rfl⟩ := trodVars_none hV
  have k0 := h0
  have lt0 : ∀ x ∈ p0, x.block < W.heap.size := by obtain ⟨m, hm⟩ := k0; exact DataW.trod_lt m _ _ _ hm
  obtain ⟨⟨cs0⟩, rfl, hsz0⟩ := okWide_array Try.underlying34 (hval 0 34 v0 rfl rfl)
  obtain ⟨fuel0, hf0⟩ := h0
  have ok0 := opens 3 6 fuel0 _ _ _ _ hf0 (leaves_0)
  have k1 := h1
  have lt1 : ∀ x ∈ p1, x.block < W.heap.size := by obtain ⟨m, hm⟩ := k1; exact DataW.trod_lt m _ _ _ hm
  obtain ⟨⟨cs1⟩, rfl, hsz1⟩ := okWide_array Try.underlying34 (hval 1 34 v1 rfl rfl)
  obtain ⟨fuel1, hf1⟩ := h1
  have ok1 := opens 3 6 fuel1 _ _ _ _ hf1 (leaves_1)
  have k2 := h2
  have lt2 : ∀ x ∈ p2, x.block < W.heap.size := by obtain ⟨m, hm⟩ := k2; exact DataW.trod_lt m _ _ _ hm
  obtain ⟨⟨cs2⟩, rfl, hsz2⟩ := okWide_array Try.underlying34 (hval 2 34 v2 rfl rfl)
  obtain ⟨fuel2, hf2⟩ := h2
  have ok2 := opens 3 6 fuel2 _ _ _ _ hf2 (leaves_2)
  clear hA0 hval0 hsz0
  obtain ⟨_, _, rfl, k00, ok0⟩ := allOk_cons ok0
  obtain ⟨_, _, rfl, k01, ok0⟩ := allOk_cons ok0
  obtain rfl := allOk_nil ok0
  obtain ⟨m00, rfl, u00⟩ := leaf_u32 k00
  obtain ⟨m01, rfl, u01⟩ := leaf_u32 k01
  obtain ⟨_, _, rfl, k10, ok1⟩ := allOk_cons ok1
  obtain ⟨_, _, rfl, k11, ok1⟩ := allOk_cons ok1
  obtain rfl := allOk_nil ok1
  obtain ⟨m10, rfl, u10⟩ := leaf_u32 k10
  obtain ⟨m11, rfl, u11⟩ := leaf_u32 k11
  obtain ⟨_, _, rfl, k20, ok2⟩ := allOk_cons ok2
  obtain ⟨_, _, rfl, k21, ok2⟩ := allOk_cons ok2
  obtain rfl := allOk_nil ok2
  obtain ⟨m20, rfl, u20⟩ := leaf_u32 k20
  obtain ⟨m21, rfl, u21⟩ := leaf_u32 k21
  refine (order_law m00 m01 m10 m11 m20 m21 u00 u01 u10 u11 u20 u21 W).mono fun e W' ⟨he, bel⟩ => ?_
  subst he
  exact ⟨_, rfl, _, _, _, [], _, [], hW', trodAll_mk1 (shut_bool Try.underlying4 _), (trodAll_cons_mk (Below.trod laidOut (by kernel_rfl) (of_decide_eq_true (by kernel_rfl)) k0 bel lt0) (trodAll_cons_mk (Below.trod laidOut (by kernel_rfl) (of_decide_eq_true (by kernel_rfl)) k1 bel lt1) (trodAll_cons_mk (Below.trod laidOut (by kernel_rfl) (of_decide_eq_true (by kernel_rfl)) k2 bel lt2) trodAll_mk0))), rfl, bel.frame _, fun h => by cases h⟩
theorem over : Rows.numOrderRow.holds Try.pinned (OpenSpec.ofChange Rows.numOrderSpec) :=
  OpenClaim.holds_of_wide 7 Try.f7 rfl rfl rfl rfl rfl rfl rfl ⟨rfl, rfl, rfl, rfl, rfl⟩ rfl rfl rfl rfl rfl (by kernel_rfl) Try.func7 (by kernel_rfl)
    (of_decide_eq_true (by kernel_rfl)) (by unfold Func.isWrapper; first | (rw [if_pos (by decide +kernel)]; kernel_rfl) | (rw [if_neg (by decide +kernel)]; exact ⟨rfl, rfl⟩))
    (fun os started H enc _ => lifted os started H enc)
end Go.Proofs.Ytkebkmjffbnihaa.numOrder
namespace Go.Proofs.Ytkebkmjffbnihaa
theorem numOrder_holds : Rows.NumOrderSaid := numOrder.over
end Go.Proofs.Ytkebkmjffbnihaa
