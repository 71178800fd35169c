/- A slice of acts that came in, opened. -/
import Derived.Test.YtdfncmhbbhmgfaaDeviceActs
import Derived.Test.YtdfncmhbbhmgfaaOpen
namespace Go.Proofs.Ytdfncmhbbhmgfaa
open Go.RowKit
theorem leaf_acs {P : Program} {w : World} {d : Nat} {e : TypeId} {v : Value} (hc : P.cellsOf e = 7) (hl : leaves P 6 e = some [.int .i64, .int .i64, .int .i64, .int .i64, .int .i64, .int .i64, .int .i64]) (h : LeafOk P w (d + 1) (.slice e) v) :
    ∃ A n c l, v = .slice A n c ∧ Rds w 7 A n c (acs l) := by
  have one : ∀ v, LeafOk P w d (.int .i64) v → ∃ n, v = .int .i64 n ∧ I64 n := by
    intro v h
    have h4 : ∃ n, v = .int .i64 n ∧ (Lit.int .i64 n).wf = true := by cases d <;> exact h
    obtain ⟨n, rfl, hw⟩ := h4
    refine ⟨n, rfl, ?_⟩
    have hmin : IntKind.i64.min = -9223372036854775808 := rfl
    have hmax : IntKind.i64.max = 9223372036854775807 := rfl
    simp only [Lit.wf, Bool.and_eq_true, decide_eq_true_eq] at hw
    unfold I64
    omega
  obtain ⟨A, n, c, rows, rfl, hr⟩ := h
  obtain ⟨xs, rfl, _⟩ := rows_map (f := acC) (good := fun _ => True) (rows := rows) (by
    intro r hr'
    have h1 := (hr.el r hr').2 _ hl
    obtain ⟨v1, vs, rfl, k1, h1⟩ := allOk_cons h1
    obtain ⟨v2, vs, rfl, k2, h1⟩ := allOk_cons h1
    obtain ⟨v3, vs, rfl, k3, h1⟩ := allOk_cons h1
    obtain ⟨v4, vs, rfl, k4, h1⟩ := allOk_cons h1
    obtain ⟨v5, vs, rfl, k5, h1⟩ := allOk_cons h1
    obtain ⟨v6, vs, rfl, k6, h1⟩ := allOk_cons h1
    obtain ⟨v7, vs, rfl, k7, h1⟩ := allOk_cons h1
    have := allOk_nil h1
    subst this
    obtain ⟨n1, rfl, _⟩ := one _ k1
    obtain ⟨n2, rfl, _⟩ := one _ k2
    obtain ⟨n3, rfl, _⟩ := one _ k3
    obtain ⟨n4, rfl, _⟩ := one _ k4
    obtain ⟨n5, rfl, _⟩ := one _ k5
    obtain ⟨n6, rfl, _⟩ := one _ k6
    obtain ⟨n7, rfl, _⟩ := one _ k7
    exact ⟨⟨n1, n2, ⟨n3, n4, n5, n6, n7⟩⟩, rfl, trivial⟩)
  have := hr.rds
  rw [hc] at this
  refine ⟨A, n, c, xs, rfl, ?_⟩
  have e : (xs.map acC).flatten = acs xs := by simp [acs, List.flatMap]
  rw [← e]
  exact this
theorem actLeaves : leaves Try.prog 6 37 = some [.slice 41] := by kernel_rfl
theorem actLeaves2 : leaves Try.prog 6 41 = some [.int .i64, .int .i64, .int .i64, .int .i64, .int .i64, .int .i64, .int .i64] := by kernel_rfl
end Go.Proofs.Ytdfncmhbbhmgfaa
