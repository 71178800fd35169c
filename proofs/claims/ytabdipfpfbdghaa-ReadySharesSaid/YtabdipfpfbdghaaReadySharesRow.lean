/- The law ReadyShares holds: for any numbers and any acts the call returns true, and the arguments read as they did. No condition. -/
import Derived.Test.YtabdipfpfbdghaaReadyShares
import Derived.Test.YtabdipfpfbdghaaOpen
namespace Go.Proofs.Ytabdipfpfbdghaa
open Go.RowKit
theorem leaf_acs3 {P : Program} {w : World} {d : Nat} {e : TypeId} {v : Value} (hc : P.cellsOf e = 3) (hl : leaves P 6 e = some [.int .i64, .int .i64, .int .i64]) (h : LeafOk P w (d + 1) (.slice e) v) :
    ∃ A n c l, v = .slice A n c ∧ Rds w 3 A n c (acs3 l) := by
  have one : ∀ v, LeafOk P w d (.int .i64) v → ∃ n, v = .int .i64 n := by
    intro v h
    have h4 : ∃ n, v = .int .i64 n ∧ (Lit.int .i64 n).wf = true := by cases d <;> exact h
    obtain ⟨n, rfl, _⟩ := h4
    exact ⟨n, rfl⟩
  obtain ⟨A, n, c, rows, rfl, hr⟩ := h
  obtain ⟨xs, rfl, _⟩ := rows_map (f := acC3) (good := fun _ => True) (rows := rows) (by
    intro r hr'
    have h1 := (hr.el r hr').2 _ hl
    obtain ⟨v1, vs, rfl, k1, h1⟩ := allOk_cons h1
    obtain ⟨v2, vs, rfl, k2, h1⟩ := allOk_cons h1
    obtain ⟨v3, vs, rfl, k3, h1⟩ := allOk_cons h1
    have := allOk_nil h1
    subst this
    obtain ⟨n1, rfl⟩ := one _ k1
    obtain ⟨n2, rfl⟩ := one _ k2
    obtain ⟨n3, rfl⟩ := one _ k3
    exact ⟨⟨n1, n2, n3⟩, rfl, trivial⟩)
  have := hr.rds
  rw [hc] at this
  exact ⟨A, n, c, xs, rfl, this⟩
theorem actLeaves : leaves Try.prog 6 23 = some [.slice 30] := by kernel_rfl
theorem actLeaves2 : leaves Try.prog 6 30 = some [.int .i64, .int .i64, .int .i64] := by kernel_rfl
end Go.Proofs.Ytabdipfpfbdghaa
namespace Go.Proofs.Ytabdipfpfbdghaa.readyShares
theorem leaves_2 : leaves Try.prog 6 23 = some [.slice 30] := actLeaves
theorem u16_of_wf {x : Int} (h : (Lit.int .u16 x).wf = true) : 0 ≤ x ∧ x ≤ 65535 := by
  have hmin : IntKind.u16.min = 0 := rfl
  have hmax : IntKind.u16.max = 65535 := rfl
  simp only [Lit.wf, Bool.and_eq_true, decide_eq_true_eq] at h
  omega
theorem law (a b : Int) (ha : 0 ≤ a ∧ a ≤ 65535) (hb : 0 ≤ b ∧ b ≤ 65535) (A : Option Addr) (n c : Nat) (l : List Ac3) (w : World) (hr : Rds w 3 A n c (acs3 l)) :
    Calls Try.prog 3 #[.int .u16 a, .int .u16 b, .slice A n c] w fun e w' => e = .returned (.bool true) ∧ Go.RowKit.Below w.heap.size w w' := by
  by_cases h : 150 < n
  · exact shares_lives a b A n c w h
  · exact shares_walk a b ha hb A n c l w hr (by omega)
end Go.Proofs.Ytabdipfpfbdghaa.readyShares
namespace Go.Proofs.Ytabdipfpfbdghaa.readyShares
open Go.ChangeShapes Go.WideShapes Go.ChangeAt Go.RowKit
open Go.ChangeMaps (open_string shut_string)
set_option linter.unusedVariables false
theorem own : ownKnob Try.prog.godebug = none := by kernel_rfl
theorem laidOut : laidOutB Try.prog = true := by kernel_rfl
set_option maxRecDepth 100000 in
set_option maxHeartbeats 1000000 in
theorem lifted (os : Os) (started : os.Started) (H : Type) (enc : TypeId × Value → H) :
    ReturnsInHanded {} Try.checked os 3 .any (Rows.readySharesSpec.pre6 enc Try.prog Try.f3 Rows.readySharesRow.domain false) (Rows.readySharesSpec.post enc Try.prog Try.f3 false true false false) := by
  refine returnsInHanded_of_change_sized (C := Try.checked) own started (by kernel_rfl) Try.func3
    (ChangeSpec.witness6 (enc := enc) (C := Try.checked) false ⟨#[], #[.int .u16 0, .int .u16 0, .slice none 0 0], []⟩ 8 (by kernel_rfl) (by kernel_rfl) (by kernel_rfl) (by kernel_rfl)) ?_
  intro W base args ds gs before hval0 hW hcnd hsz0 _
  have hval : ∀ (j : Nat) t v, Try.f3.params[j]? = some t → args[j]? = some v → Value.okWide Try.prog W .any base t v := hval0
  have hW' := hW
  obtain ⟨p, q, hA0, hV, rfl, hfz, hnd⟩ := hW
  have hA : DataW.TrodAll enc Try.prog W 0 (fun _ => true) true Try.f3.params.toList args.toList ds p := hA0
  rw [Try.params3] at hA hval
  obtain ⟨v0, vs0, d0, ds0, p0, q0, hargs, rfl, rfl, h0, r0⟩ := trodAll_cons hA
  obtain ⟨v1, vs1, d1, ds1, p1, q1, rfl, rfl, rfl, h1, r1⟩ := trodAll_cons r0
  obtain ⟨v2, vs2, d2, ds2, p2, q2, rfl, rfl, rfl, h2, r2⟩ := trodAll_cons r1
  obtain ⟨rfl, rfl, rfl⟩ := trodAll_nil r2
  obtain rfl : args = #[v0, v1, v2] := by cases args; simp_all
  obtain ⟨rfl, rfl⟩ := trodVars_none hV
  have k0 := h0
  have lt0 : ∀ x ∈ p0, x.block < W.heap.size := by obtain ⟨m, hm⟩ := k0; exact DataW.trod_lt m _ _ _ hm
  obtain ⟨n0, rfl, _, _, wn0⟩ := open_int Try.underlying22 (hval 0 22 v0 rfl rfl) h0
  have k1 := h1
  have lt1 : ∀ x ∈ p1, x.block < W.heap.size := by obtain ⟨m, hm⟩ := k1; exact DataW.trod_lt m _ _ _ hm
  obtain ⟨n1, rfl, _, _, wn1⟩ := open_int Try.underlying22 (hval 1 22 v1 rfl rfl) h1
  have k2 := h2
  have lt2 : ∀ x ∈ p2, x.block < W.heap.size := by obtain ⟨m, hm⟩ := k2; exact DataW.trod_lt m _ _ _ hm
  obtain ⟨a2, len2, cap2, rfl⟩ := okWide_slice Try.underlying23 (hval 2 23 v2 rfl rfl)
  obtain ⟨fuel2, hf2⟩ := h2
  have ok2 := opens 3 6 fuel2 _ _ _ _ hf2 (leaves_2)
  clear hA0 hval0 hsz0
  obtain ⟨_, _, e2, l2, _⟩ := allOk_cons ok2
  obtain ⟨A', n', c', xs2, e', hr2⟩ := leaf_acs3 (by kernel_rfl) actLeaves2 l2
  subst e'
  simp only [Value.cells, List.cons.injEq, Value.slice.injEq] at e2
  obtain ⟨⟨rfl, rfl, rfl⟩, _⟩ := e2
  refine (law n0 n1 (u16_of_wf wn0) (u16_of_wf wn1) a2 len2 cap2 xs2 W hr2).mono fun e W' ⟨he, bel⟩ => ?_
  subst he
  exact ⟨_, rfl, _, _, _, [], _, [], hW', trodAll_mk1 (shut_bool Try.underlying4 _), (trodAll_cons_mk (Below.trod laidOut (by kernel_rfl) (of_decide_eq_true (by kernel_rfl)) k0 bel lt0) (trodAll_cons_mk (Below.trod laidOut (by kernel_rfl) (of_decide_eq_true (by kernel_rfl)) k1 bel lt1) (trodAll_cons_mk (Below.trod laidOut (by kernel_rfl) (of_decide_eq_true (by kernel_rfl)) k2 bel lt2) trodAll_mk0))), rfl, bel.frame _, fun h => by cases h⟩
theorem over : Rows.readySharesRow.holds Try.pinned (OpenSpec.ofChange Rows.readySharesSpec) :=
  OpenClaim.holds_of_wide 3 Try.f3 rfl rfl rfl rfl rfl rfl rfl ⟨rfl, rfl, rfl, rfl, rfl⟩ rfl rfl rfl rfl rfl (by kernel_rfl) Try.func3 (by kernel_rfl)
    (of_decide_eq_true (by kernel_rfl)) (by unfold Func.isWrapper; first | (rw [if_pos (by decide +kernel)]; kernel_rfl) | (rw [if_neg (by decide +kernel)]; exact ⟨rfl, rfl⟩))
    (fun os started H enc _ => lifted os started H enc)
end Go.Proofs.Ytabdipfpfbdghaa.readyShares
namespace Go.Proofs.Ytabdipfpfbdghaa
theorem readyShares_holds : Rows.ReadySharesSaid := readyShares.over
end Go.Proofs.Ytabdipfpfbdghaa
