/- Rows that are sorted in parts, plain. -/
import Derived.Test.YtopikpjagjnbhaaHeapOps
namespace Go.Proofs.Ytopikpjagjnbhaa
open Go.RowKit
/-- l' is l with the places from a to b mixed. -/
structure PermOn (a b : Nat) (l l' : List Nat) : Prop where
  len : l'.length = l.length
  out : ∀ i, (i < a ∨ b ≤ i) → l'.getD i 0 = l.getD i 0
  perm : l'.Perm l
theorem PermOn.refl (a b : Nat) (l : List Nat) : PermOn a b l l := ⟨rfl, fun _ _ => rfl, List.Perm.refl _⟩
theorem PermOn.trans {a b : Nat} {l l' l'' : List Nat} (h : PermOn a b l l') (k : PermOn a b l' l'') : PermOn a b l l'' :=
  ⟨k.len.trans h.len, fun i hi => (k.out i hi).trans (h.out i hi), k.perm.trans h.perm⟩
theorem PermOn.wider {a b a' b' : Nat} {l l' : List Nat} (h : PermOn a b l l') (h1 : a' ≤ a) (h2 : b ≤ b') : PermOn a' b' l l' :=
  ⟨h.len, fun i hi => h.out i (by omega), h.perm⟩
def swapL (l : List Nat) (i j : Nat) : List Nat := (l.set i (l.getD j 0)).set j (l.getD i 0)
theorem swapL_len (l : List Nat) (i j : Nat) : (swapL l i j).length = l.length := by simp [swapL]
theorem setD (l : List Nat) (i j x : Nat) (h : i < l.length) : (l.set i x).getD j 0 = if j = i then x else l.getD j 0 := by
  rw [List.getD_eq_getElem?_getD, set_get _ _ _ _ h]
  split
  · rfl
  · rw [List.getD_eq_getElem?_getD]
theorem swapL_get (l : List Nat) {i j : Nat} (hi : i < l.length) (hj : j < l.length) (k : Nat) : (swapL l i j).getD k 0 = if k = j then l.getD i 0 else if k = i then l.getD j 0 else l.getD k 0 := by
  unfold swapL
  rw [setD _ _ _ _ (by simpa using hj), setD _ _ _ _ hi]
theorem swapL_perm (l : List Nat) {i j : Nat} (hi : i < l.length) (hj : j < l.length) : (swapL l i j).Perm l := by
  have h := Array.swap_perm (xs := l.toArray) (i := i) (j := j) (by simpa using hi) (by simpa using hj)
  have e : (l.toArray.swap i j (by simpa using hi) (by simpa using hj)).toList = swapL l i j := by
    unfold swapL
    simp [Array.swap_def, List.getD_eq_getElem?_getD, hi, hj]
  rw [← e]
  exact h.toList
theorem PermOn.swap (l : List Nat) {a b i j : Nat} (hi : a ≤ i ∧ i < b) (hj : a ≤ j ∧ j < b) (hb : b ≤ l.length) : PermOn a b l (swapL l i j) :=
  ⟨swapL_len _ _ _, fun k hk => by rw [swapL_get l (by omega) (by omega), if_neg (by omega), if_neg (by omega)], swapL_perm l (by omega) (by omega)⟩
/-- The places from a to b rise. -/
def SortOn (ks : List Int) (a b : Nat) (l : List Nat) : Prop := ∀ p q, a ≤ p → p < q → q < b → leK ks (l.getD p 0) (l.getD q 0)
/-- They do but for the place j. -/
def InsOn (ks : List Int) (a b j : Nat) (l : List Nat) : Prop := ∀ p q, a ≤ p → p < q → q < b → q ≠ j → leK ks (l.getD p 0) (l.getD q 0)
theorem leK_total (ks : List Int) (x y : Nat) : leK ks x y ∨ leK ks y x := by unfold leK; omega
theorem InsOn.start {ks : List Int} {a i : Nat} {l : List Nat} (h : SortOn ks a i l) : InsOn ks a (i + 1) i l := fun p q h1 h2 h3 h4 => h p q h1 h2 (by omega)
theorem InsOn.done {ks : List Int} {a b j : Nat} {l : List Nat} (h : InsOn ks a b j l) (hj : j = a ∨ leK ks (l.getD (j - 1) 0) (l.getD j 0)) : SortOn ks a b l := by
  intro p q h1 h2 h3
  by_cases e : q = j
  · subst e
    rcases hj with hj | hj
    · omega
    · by_cases e2 : p = q - 1
      · rw [e2]; exact hj
      · exact leK_trans (h p (q - 1) h1 (by omega) (by omega) (by omega)) hj
  · exact h p q h1 h2 h3 e
theorem InsOn.step {ks : List Int} {a b j : Nat} {l : List Nat} (h : InsOn ks a b (j + 1) l) (ha : a ≤ j) (hjb : j + 1 < b) (hb : b ≤ l.length) (hl : leK ks (l.getD (j + 1) 0) (l.getD j 0)) : InsOn ks a b j (swapL l (j + 1) j) := by
  intro p q h1 h2 h3 h4
  rw [swapL_get l (by omega) (by omega), swapL_get l (by omega) (by omega)]
  by_cases q1 : q = j + 1
  · rw [if_neg h4, if_pos q1]
    by_cases p1 : p = j
    · rw [if_pos p1]; exact hl
    · rw [if_neg p1, if_neg (by omega)]
      exact h p j h1 (by omega) (by omega) (by omega)
  · rw [if_neg h4, if_neg q1]
    by_cases p1 : p = j
    · rw [if_pos p1]
      exact h (j + 1) q (by omega) (by omega) h3 q1
    · rw [if_neg p1]
      by_cases p2 : p = j + 1
      · rw [if_pos p2]
        exact h j q (by omega) (by omega) h3 q1
      · rw [if_neg p2]
        exact h p q h1 h2 h3 q1
end Go.Proofs.Ytopikpjagjnbhaa
