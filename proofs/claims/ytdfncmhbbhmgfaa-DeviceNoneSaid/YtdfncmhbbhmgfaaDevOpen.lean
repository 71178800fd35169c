/- A slice of requests that came in, opened. -/
import Derived.Test.YtdfncmhbbhmgfaaDev
import Derived.Test.YtdfncmhbbhmgfaaOpen
namespace Go.Proofs.Ytdfncmhbbhmgfaa
open Go.RowKit
theorem leaf_rqs {P : Program} {w : World} {d : Nat} {e : TypeId} {v : Value} (hc : P.cellsOf e = 5) (hl : leaves P 6 e = some [.int .i64, .int .i64, .int .i64, .int .i64, .int .i64]) (h : LeafOk P w (d + 1) (.slice e) v) :
    ∃ A n c l, v = .slice A n c ∧ Rds w 5 A n c (rqs l) ∧ ∀ r ∈ l, I64 r.id ∧ I64 r.space ∧ I64 r.thread ∧ I64 r.kind ∧ I64 r.size := by
  have one : ∀ v, LeafOk P w d (.int .i64) v → ∃ n, v = .int .i64 n ∧ I64 n := by
    intro v h
    have h4 : ∃ n, v = .int .i64 n ∧ (Lit.int .i64 n).wf = true := by cases d <;> exact h
    obtain ⟨n, rfl, hw⟩ := h4
    refine ⟨n, rfl, ?_⟩
    have hmin : IntKind.i64.min = -9223372036854775808 := rfl
    have hmax : IntKind.i64.max = 9223372036854775807 := rfl
    simp only [Lit.wf, Bool.and_eq_true, decide_eq_true_eq] at hw
    unfold I64
    omega
  obtain ⟨A, n, c, rows, rfl, hr⟩ := h
  obtain ⟨xs, rfl, hx⟩ := rows_map (f := rqC) (good := fun r => I64 r.id ∧ I64 r.space ∧ I64 r.thread ∧ I64 r.kind ∧ I64 r.size) (rows := rows) (by
    intro r hr'
    have h1 := (hr.el r hr').2 _ hl
    obtain ⟨v1, vs, rfl, k1, h1⟩ := allOk_cons h1
    obtain ⟨v2, vs, rfl, k2, h1⟩ := allOk_cons h1
    obtain ⟨v3, vs, rfl, k3, h1⟩ := allOk_cons h1
    obtain ⟨v4, vs, rfl, k4, h1⟩ := allOk_cons h1
    obtain ⟨v5, vs, rfl, k5, h1⟩ := allOk_cons h1
    have := allOk_nil h1
    subst this
    obtain ⟨n1, rfl, w1⟩ := one _ k1
    obtain ⟨n2, rfl, w2⟩ := one _ k2
    obtain ⟨n3, rfl, w3⟩ := one _ k3
    obtain ⟨n4, rfl, w4⟩ := one _ k4
    obtain ⟨n5, rfl, w5⟩ := one _ k5
    exact ⟨⟨n1, n2, n3, n4, n5⟩, rfl, w1, w2, w3, w4, w5⟩)
  have := hr.rds
  rw [hc] at this
  refine ⟨A, n, c, xs, rfl, ?_, hx⟩
  have e : (xs.map rqC).flatten = rqs xs := by simp [rqs, List.flatMap]
  rw [← e]
  exact this
theorem leaf_i64 {P : Program} {w : World} {d : Nat} {v : Value} (h : LeafOk P w d (.int .i64) v) : ∃ n, v = .int .i64 n ∧ I64 n := by
  have h4 : ∃ n, v = .int .i64 n ∧ (Lit.int .i64 n).wf = true := by cases d <;> exact h
  obtain ⟨n, rfl, hw⟩ := h4
  refine ⟨n, rfl, ?_⟩
  have hmin : IntKind.i64.min = -9223372036854775808 := rfl
  have hmax : IntKind.i64.max = 9223372036854775807 := rfl
  simp only [Lit.wf, Bool.and_eq_true, decide_eq_true_eq] at hw
  unfold I64
  omega
theorem onceLeaves : leaves Try.prog 6 22 = some [.slice 28] := by kernel_rfl
theorem onceLeaves2 : leaves Try.prog 6 28 = some [.int .i64, .int .i64, .int .i64, .int .i64, .int .i64] := by kernel_rfl
end Go.Proofs.Ytdfncmhbbhmgfaa
