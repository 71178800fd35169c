/- What slices.Delete wants: the first ones of an own row, and a row whose cells behind its end are written. -/
import Derived.Test.YtopikpjagjnbhaaChg
import Derived.Laws.OwnMore
import Derived.Laws.IdiomCopy
import Derived.OwnWalk
namespace Go.Proofs.Ytopikpjagjnbhaa
open Go.RowKit
theorem Chg.then_ {S S' : Nat → Prop} {w w1 w2 : World} (h : Chg S w w1) (k : Chg S' w1 w2) (hs : ∀ i, i < w.heap.size → S' i → S i) : Chg S w w2 :=
  ⟨k.os.trans h.os, k.tape.trans h.tape, k.output.trans h.output, Nat.le_trans h.size k.size, fun i hi hn => (k.block i (Nat.lt_of_lt_of_le hi h.size) (fun h' => hn (hs i hi h'))).trans (h.block i hi hn)⟩
/-- The first k of a row of the call's own are one. -/
theorem own_take {w : World} {base g n cap sz : Nat} {e : TypeId} {xs : List Value} (h : w.ownsRow base e sz (.slice (some ⟨g, 0, none⟩) n cap) n xs) (k : Nat) (hk : k ≤ n) : w.ownsRow base e sz (.slice (some ⟨g, 0, none⟩) k cap) k (xs.take (k * sz)) := by
  have hle : k * sz ≤ n * sz := Nat.mul_le_mul_right _ hk
  refine ⟨by rw [List.length_take, h.1]; omega, ?_⟩
  rcases h.2 with ⟨h1, _⟩ | ⟨g', cap', cur, hv, hb, hg, hnc, hcm, hcs, ht⟩
  · simp at h1
  · simp only [Value.slice.injEq, Option.some.injEq, Addr.mk.injEq, and_true, true_and] at hv
    obtain ⟨rfl, rfl⟩ := hv
    refine .inr ⟨g, cap, cur, rfl, hb, hg, by omega, hcm, hcs, ?_⟩
    rw [← ht, List.take_take]
    congr 1
    omega
theorem own_setCells {base g n cap sz : Nat} {e : TypeId} {xs : List Value} : ∀ (vs : List Value) (o : Nat) (w : World), w.ownsRow base e sz (.slice (some ⟨g, 0, none⟩) n cap) n xs → n * sz ≤ o →
    (w.setCells g o vs).ownsRow base e sz (.slice (some ⟨g, 0, none⟩) n cap) n xs ∧ w.grownBy (w.setCells g o vs) (some g)
  | [], o, w, h, _ => ⟨h, World.grownBy.refl _ _⟩
  | v :: vs, o, w, h, ho => by
    have h1 : (w.setCell ⟨g, o, none⟩ v).ownsRow base e sz (.slice (some ⟨g, 0, none⟩) n cap) n xs := by
      refine ⟨h.1, ?_⟩
      rcases h.2 with ⟨h1, _⟩ | ⟨g', cap', cur, hv, hb, hg, hnc, hcm, hcs, ht⟩
      · simp at h1
      · simp only [Value.slice.injEq, Option.some.injEq, Addr.mk.injEq, and_true, true_and] at hv
        obtain ⟨rfl, rfl⟩ := hv
        refine .inr ⟨g, cap, cur.setIfInBounds o v, rfl, hb, heap_setCell_same w g o cur e v hg, hnc, hcm, by simpa using hcs, ?_⟩
        rw [← ht, Array.toList_setIfInBounds, List.take_set_of_le ho]
    have h2 : w.grownBy (w.setCell ⟨g, o, none⟩ v) (some g) := ⟨rfl, rfl, rfl, by simp, fun k _ hk => heap_setCell_other w ⟨g, o, none⟩ k v (fun e => hk (by have e2 : k = g := e; rw [e2]))⟩
    obtain ⟨h3, h4⟩ := own_setCells vs (o + 1) _ h1 (by omega)
    exact ⟨h3, World.grownBy.trans h2 h4⟩
theorem own_there {w : World} {base g n cap sz : Nat} {e : TypeId} {xs : List Value} (h : w.ownsRow base e sz (.slice (some ⟨g, 0, none⟩) n cap) n xs) (j : Nat) (hj : j < cap * sz) : (w.cell? ⟨g, j, none⟩).isSome = true ∧ w.frozen? ⟨g, j, none⟩ = false := by
  rcases h.2 with ⟨h1, _⟩ | ⟨g', cap', cur, hv, hb, hg, hnc, hcm, hcs, ht⟩
  · simp at h1
  · simp only [Value.slice.injEq, Option.some.injEq, Addr.mk.injEq, and_true, true_and] at hv
    obtain ⟨rfl, rfl⟩ := hv
    rw [cell_of_row w g j cur e (0, 0) hg]
    exact ⟨by simp [hcs, hj], frozen_of_row w g j cur e hg⟩
/-- clear(s[k:..]) behind an own row's end. -/
theorem run_clear_own {P : Program} {w : World} {base g n cap sz : Nat} {e : TypeId} {xs : List Value} (t ty : TypeId) (z : Value) (ht : P.underlying t = some (.slice e)) (hv : ∀ w, (zeroValue e).run P w = .ok z w) (hz : z.cells.size = sz) (hs : 0 < sz) (h1 : ∀ u ∈ z.cells.toList, u.oneCell' = true)
    (h : w.ownsRow base e sz (.slice (some ⟨g, 0, none⟩) n cap) n xs) (k m c : Nat) (hk : n ≤ k) (hm : k + m ≤ cap) (hm0 : 0 < m) :
    ∃ w', (Builtin.clear_ #[t] ty #[.slice (some ⟨g, k * sz, none⟩) m c]).run P w = .ok (.tuple #[]) w' ∧ w'.ownsRow base e sz (.slice (some ⟨g, 0, none⟩) n cap) n xs ∧ w.grownBy w' (some g) := by
  have hzl : (Builtin.zeroCells z.cells m).toList.length = m * sz := by simp [Builtin.zeroCells, hz]
  have hb : k * sz + m * sz ≤ cap * sz := by rw [← Nat.add_mul]; exact Nat.mul_le_mul_right _ hm
  have hst := run_storeCells_cells (P := P) g (k * sz) (Builtin.zeroCells z.cells m).toList 0 w (fun j hj => by rw [hzl] at hj; exact (own_there h _ (by omega)).1) (fun j hj => by rw [hzl] at hj; exact (own_there h _ (by omega)).2) (by
    intro u hu
    simp only [Builtin.zeroCells, Array.toList_map, List.mem_map, Array.toList_range, List.mem_range] at hu
    obtain ⟨i, _, rfl⟩ := hu
    have hi : i % z.cells.size < z.cells.size := Nat.mod_lt _ (by omega)
    rw [getElem!_pos z.cells _ hi]
    exact h1 _ (by simp))
  rw [Nat.add_zero] at hst
  obtain ⟨q1, q2⟩ := own_setCells (Builtin.zeroCells z.cells m).toList (k * sz) w h (Nat.mul_le_mul_right _ hk)
  refine ⟨_, ?_, q1, q2⟩
  obtain ⟨m', rfl⟩ : ∃ m', m = m' + 1 := ⟨m - 1, by omega⟩
  simp [Builtin.clear_, run_underlying ht, hv, hst]
end Go.Proofs.Ytopikpjagjnbhaa
