/- The law CodeBack holds: for any values the call returns true, and the argument reads as it did. No condition. -/
import Derived.Test.YtdhckbpfkdekmaaCodeBack
namespace Go.Proofs.Ytdhckbpfkdekmaa.codeBack
open Go.RowKit
theorem leaves_0 : leaves Try.prog 6 59 = some [.slice 26] := by kernel_rfl
theorem leaves_v : leaves Try.prog 6 26 = some [.int .i64, .int .u64, .int .i64, .str, .slice 3] := by kernel_rfl
theorem leaves_int : leaves Try.prog 6 3 = some [.int .i64] := by kernel_rfl
theorem leaf_vals {P : Program} {w : World} {d : Nat} {e f : TypeId} {v : Value} (hc : P.cellsOf e = 5) (hcf : P.cellsOf f = 1) (hl : leaves P 6 e = some [.int .i64, .int .u64, .int .i64, .str, .slice f]) (hlf : leaves P 6 f = some [.int .i64]) (h : LeafOk P w (d + 2) (.slice e) v) :
    ∃ A n c l, v = .slice A n c ∧ Rds w 5 A n c (vals l) ∧ ∀ q ∈ l, q.ok w := by
  have one : ∀ v, LeafOk P w (d + 1) (.int .i64) v → ∃ n, v = .int .i64 n ∧ I64 n := by
    intro v h
    have h4 : ∃ n, v = .int .i64 n ∧ (Lit.int .i64 n).wf = true := h
    obtain ⟨n, rfl, hw⟩ := h4
    exact ⟨n, rfl, i64_of_wf hw⟩
  have two : ∀ v, LeafOk P w (d + 1) (.int .u64) v → ∃ n : Nat, v = .int .u64 n ∧ n < 18446744073709551616 := by
    intro v h
    have h4 : ∃ n, v = .int .u64 n ∧ (Lit.int .u64 n).wf = true := h
    obtain ⟨n, rfl, hw⟩ := h4
    have hmin : IntKind.u64.min = 0 := rfl
    have hmax : IntKind.u64.max = 18446744073709551615 := rfl
    simp only [Lit.wf, Bool.and_eq_true, decide_eq_true_eq] at hw
    obtain ⟨x, rfl⟩ := Int.eq_ofNat_of_zero_le (show 0 ≤ n by omega)
    exact ⟨x, rfl, by omega⟩
  obtain ⟨A, n, c, rows, rfl, hr⟩ := h
  obtain ⟨xs, rfl, hx⟩ := rows_map (f := valC) (good := ValV.ok w) (rows := rows) (by
    intro r hr'
    have h1 := (hr.el r hr').2 _ hl
    obtain ⟨v1, vs, rfl, k1, h1⟩ := allOk_cons h1
    obtain ⟨v2, vs, rfl, k2, h1⟩ := allOk_cons h1
    obtain ⟨v3, vs, rfl, k3, h1⟩ := allOk_cons h1
    obtain ⟨v4, vs, rfl, k4, h1⟩ := allOk_cons h1
    obtain ⟨v5, vs, rfl, k5, h1⟩ := allOk_cons h1
    have := allOk_nil h1
    subst this
    obtain ⟨n1, rfl, w1⟩ := one _ k1
    obtain ⟨n2, rfl, w2⟩ := two _ k2
    obtain ⟨n3, rfl, w3⟩ := one _ k3
    obtain ⟨s, rfl, w4⟩ := k4
    obtain ⟨B, m, d', ys, rfl, hr5, hy⟩ := leaf_nums hcf hlf k5
    exact ⟨⟨n1, n2, n3, s, B, m, d', ys⟩, rfl, w2, w3, (fun x hx => i64_of_wf (hy x hx)), hr5⟩)
  have := hr.rds
  rw [hc] at this
  refine ⟨A, n, c, xs, rfl, ?_, hx⟩
  have e : (xs.map valC).flatten = vals xs := by simp [vals, List.flatMap]
  rw [← e]
  exact this
theorem law (D : Option Addr) (m d : Nat) (l : List ValV) (w : World) (hr : Rds w 5 D m d (vals l)) (hv : ∀ q ∈ l, q.ok w) :
    Calls Try.prog 8 #[.slice D m d] w fun e w' => e = .returned (.bool true) ∧ Go.RowKit.Below w.heap.size w w' := by
  by_cases h : 30 < m
  · exact back_lives D m d w h
  · exact back_walk D m d l w hr hv (by omega)
end Go.Proofs.Ytdhckbpfkdekmaa.codeBack
namespace Go.Proofs.Ytdhckbpfkdekmaa.codeBack
open Go.ChangeShapes Go.WideShapes Go.ChangeAt Go.RowKit
open Go.ChangeMaps (open_string shut_string)
set_option linter.unusedVariables false
theorem own : ownKnob Try.prog.godebug = none := by kernel_rfl
theorem laidOut : laidOutB Try.prog = true := by kernel_rfl
set_option maxRecDepth 100000 in
set_option maxHeartbeats 1000000 in
theorem lifted (os : Os) (started : os.Started) (H : Type) (enc : TypeId × Value → H) :
    ReturnsInHanded {} Try.checked os 8 .any (Rows.codeBackSpec.pre6 enc Try.prog Try.f8 Rows.codeBackRow.domain false) (Rows.codeBackSpec.post enc Try.prog Try.f8 false true false false) := by
  refine returnsInHanded_of_change_sized (C := Try.checked) own started (by kernel_rfl) Try.func8
    (ChangeSpec.witness6 (enc := enc) (C := Try.checked) false ⟨#[], #[.slice none 0 0], []⟩ 8 (by kernel_rfl) (by kernel_rfl) (by kernel_rfl) (by kernel_rfl)) ?_
  intro W base args ds gs before hval0 hW hcnd hsz0 _
  have hval : ∀ (j : Nat) t v, Try.f8.params[j]? = some t → args[j]? = some v → Value.okWide Try.prog W .any base t v := hval0
  have hW' := hW
  obtain ⟨p, q, hA0, hV, rfl, hfz, hnd⟩ := hW
  have hA : DataW.TrodAll enc Try.prog W 0 (fun _ => true) true Try.f8.params.toList args.toList ds p := hA0
  rw [Try.params8] at hA hval
  obtain ⟨v0, vs0, d0, ds0, p0, q0, hargs, rfl, rfl, h0, r0⟩ := trodAll_cons hA
  obtain ⟨rfl, rfl, rfl⟩ := trodAll_nil r0
  obtain rfl : args = #[v0] := by cases args; simp_all
  obtain ⟨rfl, rfl⟩ := trodVars_none hV
  have k0 := h0
  have lt0 : ∀ x ∈ p0, x.block < W.heap.size := by obtain ⟨m, hm⟩ := k0; exact DataW.trod_lt m _ _ _ hm
  obtain ⟨a0, len0, cap0, rfl⟩ := okWide_slice Try.underlying59 (hval 0 59 v0 rfl rfl)
  obtain ⟨fuel0, hf0⟩ := h0
  have ok0 := opens 3 6 fuel0 _ _ _ _ hf0 (leaves_0)
  clear hA0 hval0 hsz0
  obtain ⟨_, _, e0, l0, _⟩ := allOk_cons ok0
  obtain ⟨A', n', c', xs0, e', hr0, hx0⟩ := leaf_vals (by kernel_rfl) (by kernel_rfl) leaves_v leaves_int l0
  subst e'
  simp only [Value.cells, List.cons.injEq, Value.slice.injEq] at e0
  obtain ⟨⟨rfl, rfl, rfl⟩, _⟩ := e0
  refine (law a0 len0 cap0 xs0 W hr0 hx0).mono fun e W' ⟨he, bel⟩ => ?_
  subst he
  exact ⟨_, rfl, _, _, _, [], _, [], hW', trodAll_mk1 (shut_bool Try.underlying4 _), (trodAll_cons_mk (Below.trod laidOut (by kernel_rfl) (of_decide_eq_true (by kernel_rfl)) k0 bel lt0) trodAll_mk0), rfl, bel.frame _, fun h => by cases h⟩
theorem over : Rows.codeBackRow.holds Try.pinned (OpenSpec.ofChange Rows.codeBackSpec) :=
  OpenClaim.holds_of_wide 8 Try.f8 rfl rfl rfl rfl rfl rfl rfl ⟨rfl, rfl, rfl, rfl, rfl⟩ rfl rfl rfl rfl rfl (by kernel_rfl) Try.func8 (by kernel_rfl)
    (of_decide_eq_true (by kernel_rfl)) (by unfold Func.isWrapper; first | (rw [if_pos (by decide +kernel)]; kernel_rfl) | (rw [if_neg (by decide +kernel)]; exact ⟨rfl, rfl⟩))
    (fun os started H enc _ => lifted os started H enc)
end Go.Proofs.Ytdhckbpfkdekmaa.codeBack
namespace Go.Proofs.Ytdhckbpfkdekmaa
theorem codeBack_holds : Rows.CodeBackSaid := codeBack.over
end Go.Proofs.Ytdhckbpfkdekmaa
