/- A slice of claims that came in, opened. -/
import Derived.Test.YtmacpgjmhaoneaaShareLives
import Derived.Test.YtmacpgjmhaoneaaOpen
namespace Go.Proofs.Ytmacpgjmhaoneaa
open Go.RowKit
theorem leaf_cls {P : Program} {w : World} {d : Nat} {e : TypeId} {v : Value} (hc : P.cellsOf e = 2) (hl : leaves P 6 e = some [.int .i64, .int .i64]) (h : LeafOk P w (d + 1) (.slice e) v) :
    ∃ A n c l, v = .slice A n c ∧ Rds w 2 A n c (cls l) := by
  have one : ∀ v, LeafOk P w d (.int .i64) v → ∃ n, v = .int .i64 n ∧ I64 n := by
    intro v h
    have h4 : ∃ n, v = .int .i64 n ∧ (Lit.int .i64 n).wf = true := by cases d <;> exact h
    obtain ⟨n, rfl, hw⟩ := h4
    exact ⟨n, rfl, i64_of_wf hw⟩
  obtain ⟨A, n, c, rows, rfl, hr⟩ := h
  obtain ⟨xs, rfl, hx⟩ := rows_map (f := clC) (good := fun _ => True) (rows := rows) (by
    intro r hr'
    have h1 := (hr.el r hr').2 _ hl
    obtain ⟨v1, vs, rfl, k1, h1⟩ := allOk_cons h1
    obtain ⟨v2, vs, rfl, k2, h1⟩ := allOk_cons h1
    have := allOk_nil h1
    subst this
    obtain ⟨n1, rfl, w1⟩ := one _ k1
    obtain ⟨n2, rfl, w2⟩ := one _ k2
    exact ⟨⟨n1, n2⟩, rfl, trivial⟩)
  have := hr.rds
  rw [hc] at this
  refine ⟨A, n, c, xs, rfl, ?_⟩
  have e : (xs.map clC).flatten = cls xs := by simp [cls, List.flatMap]
  rw [← e]
  exact this
theorem clsLeaves : leaves Try.prog 6 22 = some [.slice 30] := by kernel_rfl
theorem clsLeaves2 : leaves Try.prog 6 30 = some [.int .i64, .int .i64] := by kernel_rfl
end Go.Proofs.Ytmacpgjmhaoneaa
