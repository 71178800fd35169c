/- An array of ints, by value, at an index. -/
import Derived.Test.YtdnddoiemaifjaaBase
namespace Go.Proofs.Ytdnddoiemaifjaa
open Go.RowKit
theorem idxA {P : Program} (t e : TypeId) (n : Nat) (cs : Array Value) (j : Nat) (k q : IntKind) (v : Value) (h : P.underlying t = some (.array n e)) (he : P.underlying e = some (.int q)) (hs : (P.info? e).map (fun i => i.size) = some 1) (hj : j < n) (hv : cs[j]? = some v) (i : Int) (hi : i = j) (w : World) :
    (Instr.index t (.agg cs) (.int k i)).run P w = .ok v w := by
  subst hi
  obtain ⟨ti, hti, h1⟩ : ∃ ti, P.info? e = some ti ∧ ti.size = 1 := by
    cases hq : P.info? e with
    | none => rw [hq] at hs; simp at hs
    | some ti => rw [hq] at hs; simp at hs; exact ⟨ti, rfl, hs⟩
  have hz : (typeInfo e).run P w = .ok ti w := by simp [typeInfo, hti]
  have hz2 : (sizeOf e).run P w = .ok 1 w := by simp [sizeOf, hz, h1]
  simp [Instr.index, run_underlying h, run_underlying he, asIntOf, hj, part, isAgg, hz2, hv, go_sem]
end Go.Proofs.Ytdnddoiemaifjaa
