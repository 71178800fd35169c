/- A slice of events that came in, opened. -/
import Derived.Test.YtdnddoiemaifjaaEv
import Derived.Test.YtdnddoiemaifjaaOpen
import Derived.Test.YtdnddoiemaifjaaCodePlain
namespace Go.Proofs.Ytdnddoiemaifjaa
open Go.RowKit
def EvOk (r : Ev) : Prop := I64 r.kind ∧ I64 r.act ∧ I64 r.thread ∧ I64 r.value ∧ I64 r.program ∧ I64 r.pc ∧ I64 r.r0 ∧ I64 r.r1 ∧ I64 r.r2 ∧ I64 r.r3 ∧ I64 r.r4 ∧ I64 r.r5 ∧ I64 r.r6 ∧ I64 r.r7 ∧ I64 r.depth
theorem leaf_evs {P : Program} {w : World} {d : Nat} {e : TypeId} {v : Value} (hc : P.cellsOf e = 15) (hl : leaves P 6 e = some [.int .i64, .int .i64, .int .i64, .int .i64, .int .i64, .int .i64, .int .i64, .int .i64, .int .i64, .int .i64, .int .i64, .int .i64, .int .i64, .int .i64, .int .i64]) (h : LeafOk P w (d + 1) (.slice e) v) :
    ∃ A n c l, v = .slice A n c ∧ Rds w 15 A n c (evs l) ∧ ∀ r ∈ l, EvOk r := by
  have one : ∀ v, LeafOk P w d (.int .i64) v → ∃ n, v = .int .i64 n ∧ I64 n := by
    intro v h
    have h4 : ∃ n, v = .int .i64 n ∧ (Lit.int .i64 n).wf = true := by cases d <;> exact h
    obtain ⟨n, rfl, hw⟩ := h4
    refine ⟨n, rfl, ?_⟩
    have hmin : IntKind.i64.min = -9223372036854775808 := rfl
    have hmax : IntKind.i64.max = 9223372036854775807 := rfl
    simp only [Lit.wf, Bool.and_eq_true, decide_eq_true_eq] at hw
    unfold I64
    omega
  obtain ⟨A, n, c, rows, rfl, hr⟩ := h
  obtain ⟨xs, rfl, hx⟩ := rows_map (f := evC) (good := EvOk) (rows := rows) (by
    intro r hr'
    have h1 := (hr.el r hr').2 _ hl
    obtain ⟨v1, vs, rfl, k1, h1⟩ := allOk_cons h1
    obtain ⟨v2, vs, rfl, k2, h1⟩ := allOk_cons h1
    obtain ⟨v3, vs, rfl, k3, h1⟩ := allOk_cons h1
    obtain ⟨v4, vs, rfl, k4, h1⟩ := allOk_cons h1
    obtain ⟨v5, vs, rfl, k5, h1⟩ := allOk_cons h1
    obtain ⟨v6, vs, rfl, k6, h1⟩ := allOk_cons h1
    obtain ⟨v7, vs, rfl, k7, h1⟩ := allOk_cons h1
    obtain ⟨v8, vs, rfl, k8, h1⟩ := allOk_cons h1
    obtain ⟨v9, vs, rfl, k9, h1⟩ := allOk_cons h1
    obtain ⟨v10, vs, rfl, k10, h1⟩ := allOk_cons h1
    obtain ⟨v11, vs, rfl, k11, h1⟩ := allOk_cons h1
    obtain ⟨v12, vs, rfl, k12, h1⟩ := allOk_cons h1
    obtain ⟨v13, vs, rfl, k13, h1⟩ := allOk_cons h1
    obtain ⟨v14, vs, rfl, k14, h1⟩ := allOk_cons h1
    obtain ⟨v15, vs, rfl, k15, h1⟩ := allOk_cons h1
    have := allOk_nil h1
    subst this
    obtain ⟨n1, rfl, w1⟩ := one _ k1
    obtain ⟨n2, rfl, w2⟩ := one _ k2
    obtain ⟨n3, rfl, w3⟩ := one _ k3
    obtain ⟨n4, rfl, w4⟩ := one _ k4
    obtain ⟨n5, rfl, w5⟩ := one _ k5
    obtain ⟨n6, rfl, w6⟩ := one _ k6
    obtain ⟨n7, rfl, w7⟩ := one _ k7
    obtain ⟨n8, rfl, w8⟩ := one _ k8
    obtain ⟨n9, rfl, w9⟩ := one _ k9
    obtain ⟨n10, rfl, w10⟩ := one _ k10
    obtain ⟨n11, rfl, w11⟩ := one _ k11
    obtain ⟨n12, rfl, w12⟩ := one _ k12
    obtain ⟨n13, rfl, w13⟩ := one _ k13
    obtain ⟨n14, rfl, w14⟩ := one _ k14
    obtain ⟨n15, rfl, w15⟩ := one _ k15
    exact ⟨⟨n1, n2, n3, n4, n5, n6, n7, n8, n9, n10, n11, n12, n13, n14, n15⟩, rfl, w1, w2, w3, w4, w5, w6, w7, w8, w9, w10, w11, w12, w13, w14, w15⟩)
  have := hr.rds
  rw [hc] at this
  refine ⟨A, n, c, xs, rfl, ?_, hx⟩
  have e : (xs.map evC).flatten = evs xs := by simp [evs, List.flatMap]
  rw [← e]
  exact this
theorem evLeaves : leaves Try.prog 6 22 = some [.slice 30] := by kernel_rfl
theorem evLeaves2 : leaves Try.prog 6 30 = some [.int .i64, .int .i64, .int .i64, .int .i64, .int .i64, .int .i64, .int .i64, .int .i64, .int .i64, .int .i64, .int .i64, .int .i64, .int .i64, .int .i64, .int .i64] := by kernel_rfl
end Go.Proofs.Ytdnddoiemaifjaa
