/- copy onto a row of the call's own, of elements of several cells; a cell of an own row written. -/
import Derived.Test.YtdfncmhbbhmgfaaDelete
import Derived.Laws.CopyRow
import Derived.Laws.CopyOwn
namespace Go.Proofs.Ytdfncmhbbhmgfaa
open Go.RowKit
theorem run_copy_k {P : Program} (w : World) (dT sT ty elem : TypeId) (g o n dCap size : Nat) (a : Addr) (sCap : Nat) (cur : Array Value) (t : TypeId) (cs : List Value)
    (hu : P.underlying dT = some (.slice elem)) (hs : (P.info? elem).map (·.size) = some size)
    (hg : w.heap[g]? = some (.cells cur t (0, 0))) (hn : cs.length = n * size)
    (hsrc : ∀ j v, cs[j]? = some v → w.cell? (a.add j) = some v) (hfit : o + cs.length ≤ cur.size) (h1 : ∀ v ∈ cs, v.oneCell' = true) :
    (Builtin.copy_ #[dT, sT] ty #[.slice (some ⟨g, o, none⟩) n dCap, .slice (some a) n sCap]).run P w =
      .ok (goInt n) (w.setRow g (cur.toList.take o ++ cs ++ cur.toList.drop (o + cs.length)).toArray) := by
  have hl := run_loadCells_list (P := P) w a cs hsrc
  have hst := run_storeCells_at P g o t cs 0 cur w hg (by simpa using hfit) h1
  cases hq : P.info? elem with
  | none => simp [hq] at hs
  | some i =>
    have hi : i.size = size := by simpa [hq] using hs
    simp [Builtin.copy_, run_underlying hu, Builtin.lenOf, Builtin.firstCells, sizeOf, typeInfo, hq, hi, ← hn, hl, hst]
theorem run_copy_k0 {P : Program} (w : World) (dT sT ty elem : TypeId) (d : Option Addr) (dCap sCap size : Nat) (hu : P.underlying dT = some (.slice elem)) (hs : (P.info? elem).map (·.size) = some size) :
    (Builtin.copy_ #[dT, sT] ty #[.slice d 0 dCap, .slice none 0 sCap]).run P w = .ok (goInt 0) w := by
  cases hq : P.info? elem with
  | none => simp [hq] at hs
  | some i => cases d <;> simp [Builtin.copy_, run_underlying hu, Builtin.lenOf, Builtin.firstCells, sizeOf, typeInfo, hq, storeCells]
theorem cpk_run {P : Program} {W : World} {base : Nat} {t e : TypeId} (t2 : TypeId) {size : Nat} (ht : P.underlying t = some (.slice e)) (hs : (P.info? e).map (·.size) = some size)
    {g n cap : Nat} {xs ys : List Value} {A : Option Addr} {c : Nat} (HO : W.ownsRow base e size (.slice (some ⟨g, 0, none⟩) n cap) n xs) (hr : Rds W size A n c ys) (h1 : ∀ u ∈ ys, u.oneCell' = true) :
    ∃ w1, (∀ ty, (Builtin.copy_ #[t, t2] ty #[.slice (some ⟨g, 0, none⟩) n cap, .slice A n c]).run P W = .ok (goInt n) w1) ∧ w1.ownsRow base e size (.slice (some ⟨g, 0, none⟩) n cap) n ys ∧ W.grownBy w1 (some g) := by
  cases A with
  | none =>
    obtain ⟨rfl, rfl, rfl⟩ := hr.nil_n
    exact ⟨W, fun ty => run_copy_k0 (P := P) W t t2 ty e (some ⟨g, 0, none⟩) cap 0 size ht hs, by have := HO.1; simp at this; rw [this] at HO; exact HO, World.grownBy.refl _ _⟩
  | some ad =>
    rcases HO.2 with ⟨h3, _⟩ | ⟨g', cap', cur, hv, hb, hg, hnc, hcm, hcs, htk⟩
    · simp at h3
    · simp only [Value.slice.injEq, Option.some.injEq, Addr.mk.injEq, and_true, true_and] at hv
      obtain ⟨rfl, rfl⟩ := hv
      have hyl := hr.len
      have hle : n * size ≤ cap * size := Nat.mul_le_mul_right _ hnc
      refine ⟨W.setRow g (ys ++ cur.toList.drop ys.length).toArray, fun ty => ?_, ⟨hyl, .inr ⟨g, cap, _, rfl, hb, setRow_heap W g cur _ e _ hg, hnc, hcm, by simp; omega, by simp [← hyl]⟩⟩, ⟨rfl, rfl, rfl, by simp [World.setRow], fun k _ hk => setRow_other W g k _ (fun e => hk (by rw [e]))⟩⟩
      have hrun := run_copy_k (P := P) W t t2 ty e g 0 n cap size ad c cur e ys ht hs hg hyl (fun j v hj => hr.cell ad rfl j v hj) (by omega) h1
      simpa only [List.take_zero, List.nil_append, Nat.zero_add] using hrun
theorem own_set1 {base g n cap sz o : Nat} {e : TypeId} {xs : List Value} {w : World} (v : Value) (h : w.ownsRow base e sz (.slice (some ⟨g, 0, none⟩) n cap) n xs) :
    (w.setCell ⟨g, o, none⟩ v).ownsRow base e sz (.slice (some ⟨g, 0, none⟩) n cap) n (xs.set o v) := by
  refine ⟨by rw [List.length_set]; exact h.1, ?_⟩
  rcases h.2 with ⟨h1, _⟩ | ⟨g', cap', cur, hv, hb, hg, hnc, hcm, hcs, ht⟩
  · simp at h1
  · simp only [Value.slice.injEq, Option.some.injEq, Addr.mk.injEq, and_true, true_and] at hv
    obtain ⟨rfl, rfl⟩ := hv
    refine .inr ⟨g, cap, cur.setIfInBounds o v, rfl, hb, heap_setCell_same w g o cur e v hg, hnc, hcm, by simpa using hcs, ?_⟩
    rw [← ht, Array.toList_setIfInBounds, List.take_set]
end Go.Proofs.Ytdfncmhbbhmgfaa
