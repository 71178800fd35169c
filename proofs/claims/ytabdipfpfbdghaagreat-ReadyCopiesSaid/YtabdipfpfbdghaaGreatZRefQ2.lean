/- The reference's queue: who waits. -/
import Derived.Test.YtabdipfpfbdghaaGreatZRefQ
import Derived.Test.YtabdipfpfbdghaaGreatZSortAll
namespace Go.Proofs.YtabdipfpfbdghaaGreat
open Go.RowKit
variable {w : World} {base mb mg n c : Nat} {now : Int} {rows : List RowQ}
/-- The passes. -/
def pks (rows : List RowQ) : List Int := rows.map (·.ps)
theorem pks_get (rows : List RowQ) (x : Nat) (hx : x < rows.length) : (pks rows).getD x 0 = (rows.getD x row0).ps := by
  simp [pks, List.getD_eq_getElem?_getD, hx]
/-- Those of the first ones that wait. -/
def wIds (rows : List RowQ) (j : Nat) : List Nat := (List.range j).filter (fun x => decide ((rows.getD x row0).st = 1))
theorem wIds_mem {rows : List RowQ} {j x : Nat} : x ∈ wIds rows j ↔ x < j ∧ (rows.getD x row0).st = 1 := by
  simp [wIds]
theorem wIds_yes {rows : List RowQ} {j : Nat} (h : (rows.getD j row0).st = 1) : wIds rows (j + 1) = wIds rows j ++ [j] := by
  unfold wIds
  rw [List.range_succ, List.filter_append, List.filter_cons, if_pos (by simpa using h)]
  rfl
theorem wIds_no {rows : List RowQ} {j : Nat} (h : (rows.getD j row0).st ≠ 1) : wIds rows (j + 1) = wIds rows j := by
  unfold wIds
  rw [List.range_succ, List.filter_append, List.filter_cons, if_neg (by simpa using h)]
  simp
theorem wIds_len (rows : List RowQ) (j : Nat) : (wIds rows j).length ≤ j := by
  have := List.length_filter_le (fun x => decide ((rows.getD x row0).st = 1)) (List.range j)
  simpa [wIds] using this
theorem wIds_nodup (rows : List RowQ) (j : Nat) : (wIds rows j).Nodup := List.Pairwise.filter _ List.nodup_range
theorem byKeys_perm' (ks : List Int) (l : List Nat) : (byKeys ks l).Perm l := List.mergeSort_perm _ _
theorem byKeys_ord' (ks : List Int) (l : List Nat) : (byKeys ks l).Pairwise (fun x y => leK ks x y) := by
  have h := List.pairwise_mergeSort (le := fun x y => !ltF ks y x) (fun a b c h1 h2 => by
    simp only [Bool.not_eq_true'] at h1 h2 ⊢
    rw [ltF_false] at *
    exact leK_trans h1 h2) (fun a b => by
    rcases leK_total ks a b with h | h
    · rw [← ltF_false] at h
      simp [h]
    · rw [← ltF_false] at h
      simp [h]) l
  refine h.imp (fun {a b} hab => ?_)
  simp only [Bool.not_eq_true'] at hab
  exact (ltF_false ks b a).1 hab
theorem byKeys_uniq' {ks : List Int} {l r : List Nat} (hp : r.Perm l) (ho : r.Pairwise (fun x y => leK ks x y)) : r = byKeys ks l := by
  refine List.Perm.eq_of_pairwise (le := fun x y => leK ks x y) ?_ ho (byKeys_ord' ks l) (hp.trans (byKeys_perm' ks l).symm)
  intro a b _ _ h1 h2
  unfold leK at *
  omega
/-- The row while one is moved down to its place. -/
structure Mid (L : List Nat) (k : Nat) (C : List Nat) : Prop where
  len : C.length = L.length + 1
  kle : k ≤ L.length
  lo : ∀ j, j < k → C.getD j 0 = L.getD j 0
  hi : ∀ j, k < j → j ≤ L.length → C.getD j 0 = L.getD (j - 1) 0
theorem Mid.start (L : List Nat) (x : Nat) : Mid L L.length (L ++ [x]) := by
  refine ⟨by simp, Nat.le_refl _, fun j hj => ?_, fun j h1 h2 => by omega⟩
  rw [List.getD_eq_getElem?_getD, List.getElem?_append_left hj, List.getD_eq_getElem?_getD]
theorem Mid.step {L : List Nat} {k : Nat} {C : List Nat} (M : Mid L (k + 1) C) : Mid L k (C.set (k + 1) (L.getD k 0)) := by
  have hl := M.len
  have hk := M.kle
  have hd : ∀ j, (C.set (k + 1) (L.getD k 0)).getD j 0 = if j = k + 1 then L.getD k 0 else C.getD j 0 := fun j => by
    rw [List.getD_eq_getElem?_getD, set_get _ _ _ _ (by omega)]
    split
    · rfl
    · rw [List.getD_eq_getElem?_getD]
  refine ⟨by simpa using hl, by omega, fun j hj => ?_, fun j h1 h2 => ?_⟩
  · rw [hd, if_neg (by omega)]
    exact M.lo j (by omega)
  · rw [hd]
    by_cases e : j = k + 1
    · rw [if_pos e, e]
      rfl
    · rw [if_neg e]
      exact M.hi j (by omega) h2
theorem Mid.fin {L : List Nat} {k : Nat} {C : List Nat} (M : Mid L k C) (x : Nat) : C.set k x = L.take k ++ x :: L.drop k := by
  have hl := M.len
  have hk := M.kle
  apply List.ext_getElem?
  intro j
  rw [set_get _ _ _ _ (by omega)]
  have hC : ∀ j, j < C.length → C[j]? = some (C.getD j 0) := fun j hj => by simp [List.getD_eq_getElem?_getD, hj]
  have hL : ∀ j, j < L.length → L[j]? = some (L.getD j 0) := fun j hj => by simp [List.getD_eq_getElem?_getD, hj]
  rcases Nat.lt_trichotomy j k with h | h | h
  · rw [if_neg (by omega), List.getElem?_append_left (by simp; omega), List.getElem?_take, if_pos h, hC j (by omega), hL j (by omega), M.lo j h]
  · rw [if_pos h, List.getElem?_append_right (by simp; omega)]
    simp [h, Nat.min_eq_left hk]
  · rw [if_neg (by omega), List.getElem?_append_right (by simp; omega), List.length_take, Nat.min_eq_left hk]
    obtain ⟨i, rfl⟩ : ∃ i, j = k + 1 + i := ⟨j - k - 1, by omega⟩
    rw [show k + 1 + i - k = i + 1 by omega, List.getElem?_cons_succ, List.getElem?_drop]
    by_cases hj : k + 1 + i < C.length
    · rw [hC _ hj, M.hi _ (by omega) (by omega), hL _ (by omega)]
      simp [show k + 1 + i - 1 = k + i by omega]
    · rw [List.getElem?_eq_none (by omega), List.getElem?_eq_none (by omega)]
/-- One more, in its place. -/
theorem byKeys_ins {ks : List Int} {l : List Nat} {x k : Nat} (hk : k ≤ (byKeys ks l).length) (h1 : ∀ j, k ≤ j → j < (byKeys ks l).length → leK ks x ((byKeys ks l).getD j 0)) (h2 : 0 < k → leK ks ((byKeys ks l).getD (k - 1) 0) x) :
    (byKeys ks l).take k ++ x :: (byKeys ks l).drop k = byKeys ks (l ++ [x]) := by
  have hord := byKeys_ord' ks l
  have hperm := byKeys_perm' ks l
  generalize byKeys ks l = L at *
  apply byKeys_uniq'
  · have e1 : (L.take k ++ x :: L.drop k).Perm (x :: (L.take k ++ L.drop k)) := List.perm_middle
    rw [List.take_append_drop] at e1
    exact e1.trans ((List.Perm.cons x hperm).trans (List.perm_append_comm (l₁ := [x])))
  · rw [List.pairwise_append, List.pairwise_cons]
    have hsplit : (L.take k ++ L.drop k).Pairwise (fun x y => leK ks x y) := by rw [List.take_append_drop]; exact hord
    rw [List.pairwise_append] at hsplit
    have hlow : ∀ a ∈ L.take k, leK ks a x := by
      intro a ha
      obtain ⟨i, hi⟩ := List.mem_iff_getElem?.1 ha
      have hik : i < k := by
        have := (List.getElem?_eq_some_iff.1 hi).1
        simp at this
        omega
      have hi2 : L[i]? = some a := by rw [List.getElem?_take, if_pos hik] at hi; exact hi
      have hk1 : k - 1 < L.length := by omega
      have hlast := h2 (by omega)
      by_cases e : i = k - 1
      · subst e
        rw [List.getD_eq_getElem?_getD, hi2] at hlast
        exact hlast
      · have hp := List.pairwise_iff_getElem.1 hord i (k - 1) (get_lt hi2) hk1 (by omega)
        have e1 : L[i]'(get_lt hi2) = a := by have := (List.getElem?_eq_some_iff.1 hi2).2; exact this
        rw [e1] at hp
        have e2 : L.getD (k - 1) 0 = L[k - 1] := by simp [List.getD_eq_getElem?_getD, hk1]
        rw [e2] at hlast
        exact leK_trans hp hlast
    have hhigh : ∀ a ∈ L.drop k, leK ks x a := by
      intro a ha
      obtain ⟨i, hi⟩ := List.mem_iff_getElem?.1 ha
      rw [List.getElem?_drop] at hi
      have := h1 (k + i) (by omega) (get_lt hi)
      rw [List.getD_eq_getElem?_getD, hi] at this
      exact this
    refine ⟨hsplit.1, ⟨hhigh, hsplit.2.1⟩, fun a ha b hb => ?_⟩
    rcases List.mem_cons.1 hb with e | e
    · rw [e]; exact hlow a ha
    · exact leK_trans (hlow a ha) (hhigh b e)
end Go.Proofs.YtabdipfpfbdghaaGreat
