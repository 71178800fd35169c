/- A slice of asks that came in, opened. -/
import Derived.Test.YtdhckbpfkdekmaaAsk
namespace Go.Proofs.Ytdhckbpfkdekmaa
open Go.RowKit
theorem leaf_asks {P : Program} {w : World} {d : Nat} {e : TypeId} {v : Value} (hc : P.cellsOf e = 5) (hl : leaves P 6 e = some [.int .i64, .int .i64, .int .i64, .int .u64, .int .i64]) (h : LeafOk P w (d + 1) (.slice e) v) :
    ∃ A n c l, v = .slice A n c ∧ Rds w 5 A n c (asks l) ∧ ∀ q ∈ l, q.ok := by
  have one : ∀ v, LeafOk P w d (.int .i64) v → ∃ n, v = .int .i64 n ∧ I64 n := by
    intro v h
    have h4 : ∃ n, v = .int .i64 n ∧ (Lit.int .i64 n).wf = true := by cases d <;> exact h
    obtain ⟨n, rfl, hw⟩ := h4
    exact ⟨n, rfl, i64_of_wf hw⟩
  have two : ∀ v, LeafOk P w d (.int .u64) v → ∃ n : Nat, v = .int .u64 n := by
    intro v h
    have h4 : ∃ n, v = .int .u64 n ∧ (Lit.int .u64 n).wf = true := by cases d <;> exact h
    obtain ⟨n, rfl, hw⟩ := h4
    have hmin : IntKind.u64.min = 0 := rfl
    simp only [Lit.wf, Bool.and_eq_true, decide_eq_true_eq] at hw
    obtain ⟨x, rfl⟩ := Int.eq_ofNat_of_zero_le (show 0 ≤ n by omega)
    exact ⟨x, rfl⟩
  obtain ⟨A, n, c, rows, rfl, hr⟩ := h
  obtain ⟨xs, rfl, hx⟩ := rows_map (f := askC) (good := AskV.ok) (rows := rows) (by
    intro r hr'
    have h1 := (hr.el r hr').2 _ hl
    obtain ⟨v1, vs, rfl, k1, h1⟩ := allOk_cons h1
    obtain ⟨v2, vs, rfl, k2, h1⟩ := allOk_cons h1
    obtain ⟨v3, vs, rfl, k3, h1⟩ := allOk_cons h1
    obtain ⟨v4, vs, rfl, k4, h1⟩ := allOk_cons h1
    obtain ⟨v5, vs, rfl, k5, h1⟩ := allOk_cons h1
    have := allOk_nil h1
    subst this
    obtain ⟨n1, rfl, w1⟩ := one _ k1
    obtain ⟨n2, rfl, w2⟩ := one _ k2
    obtain ⟨n3, rfl, w3⟩ := one _ k3
    obtain ⟨n4, rfl⟩ := two _ k4
    obtain ⟨n5, rfl, w5⟩ := one _ k5
    exact ⟨⟨n1, n2, n3, n4, n5⟩, rfl, w3, w5⟩)
  have := hr.rds
  rw [hc] at this
  refine ⟨A, n, c, xs, rfl, ?_, hx⟩
  have e : (xs.map askC).flatten = asks xs := by simp [asks, List.flatMap]
  rw [← e]
  exact this
theorem askLeaves : leaves Try.prog 6 51 = some [.slice 42] := by kernel_rfl
theorem askLeaves2 : leaves Try.prog 6 42 = some [.int .i64, .int .i64, .int .i64, .int .u64, .int .i64] := by kernel_rfl
theorem u8s_of_wf {xs : List Int} (h : ∀ x ∈ xs, (Lit.int .u8 x).wf = true) : U8s xs := by
  intro x hx
  have hw := h x hx
  have hmin : IntKind.u8.min = 0 := rfl
  have hmax : IntKind.u8.max = 255 := rfl
  simp only [Lit.wf, Bool.and_eq_true, decide_eq_true_eq] at hw
  omega
end Go.Proofs.Ytdhckbpfkdekmaa
