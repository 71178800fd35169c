/- DeviceOnce, plain: what is taken in, and that each goes once. -/
import Derived.Test.YtdfncmhbbhmgfaaDev
namespace Go.Proofs.Ytdfncmhbbhmgfaa
open Go.RowKit
def accR (acc : List Rq) (r : Rq) : List Rq := if goodR r then acc ++ [{ r with id := acc.length + 1 }] else acc
def accL (l : List Rq) : List Rq := l.foldl accR []
theorem accL_snoc (l : List Rq) (r : Rq) : accL (l ++ [r]) = accR (accL l) r := by simp [accL]
theorem accL_length (l : List Rq) : (accL l).length ≤ l.length := by
  have : ∀ (l acc : List Rq), (l.foldl accR acc).length ≤ acc.length + l.length := by
    intro l
    induction l with
    | nil => intro acc; simp
    | cons r l ih =>
      intro acc
      have h := ih (accR acc r)
      have h2 : (accR acc r).length ≤ acc.length + 1 := by unfold accR; split <;> simp
      simp only [List.foldl_cons, List.length_cons]
      omega
  have := this l []
  simpa [accL] using this
/-- Taken in: each is good, its id is its place. -/
def Taken (acc : List Rq) : Prop := (∀ r ∈ acc, goodR r = true) ∧ acc.map (·.id) = (List.range acc.length).map (fun (i : Nat) => (i : Int) + 1)
theorem taken_accL (l : List Rq) : Taken (accL l) := by
  have : ∀ (l acc : List Rq), Taken acc → Taken (l.foldl accR acc) := by
    intro l
    induction l with
    | nil => intro acc h; exact h
    | cons r l ih =>
      intro acc h
      refine ih _ ?_
      unfold accR
      split
      · rename_i hg
        refine ⟨?_, ?_⟩
        · intro r' hr'
          simp only [List.mem_append, List.mem_singleton] at hr'
          rcases hr' with h' | rfl
          · exact h.1 r' h'
          · exact hg
        · rw [List.map_append, h.2, List.length_append, List.length_singleton, List.range_succ, List.map_append]
          simp
      · exact h
  exact this l [] ⟨by simp, rfl⟩
/-- What is still there: good ones, whose ids are unlike, within 1 to n, and were not seen. -/
structure Still (n : Nat) (R : List Rq) (seen : List Int) : Prop where
  good : ∀ r ∈ R, goodR r = true
  ids : ∀ r ∈ R, 1 ≤ r.id ∧ r.id ≤ n
  apart : R.Pairwise (fun a b => a.id ≠ b.id)
  len : seen.length = 41
  none : ∀ r ∈ R, seen[r.id.toNat]? = some 0
theorem still_first {acc : List Rq} (h : Taken acc) (hl : acc.length ≤ 40) : Still acc.length acc (List.replicate 41 0) := by
  have hm : ∀ r ∈ acc, 1 ≤ r.id ∧ r.id ≤ acc.length := by
    intro r hr
    have : r.id ∈ acc.map (·.id) := List.mem_map.2 ⟨r, hr, rfl⟩
    rw [h.2] at this
    obtain ⟨i, hi, e⟩ := List.mem_map.1 this
    rw [List.mem_range] at hi
    omega
  refine ⟨h.1, hm, ?_, by simp, ?_⟩
  · have hp : ((List.range acc.length).map (fun (i : Nat) => (i : Int) + 1)).Pairwise (fun a b => a ≠ b) := by
      rw [List.pairwise_map]
      exact (List.nodup_range).imp (by intro a b e; omega)
    rw [← h.2, List.pairwise_map] at hp
    exact hp
  · intro r hr
    have := hm r hr
    rw [List.getElem?_replicate, if_pos (by omega)]
theorem still_next {n : Nat} {R : List Rq} {seen : List Int} (h : Still n R seen) (i : Nat) (r : Rq) (hi : R[i]? = some r) : Still n (R.eraseIdx i) (seen.set r.id.toNat 1) := by
  have hsub : ∀ x ∈ R.eraseIdx i, x ∈ R := fun x hx => List.mem_of_mem_eraseIdx hx
  have hlt : i < R.length := (List.getElem?_eq_some_iff.1 hi).1
  have hri : R[i] = r := (List.getElem?_eq_some_iff.1 hi).2
  have hR : R = R.take i ++ r :: R.drop (i + 1) := by rw [← hri, ← List.drop_eq_getElem_cons hlt, List.take_append_drop]
  have hap := h.apart
  rw [hR, List.pairwise_append, List.pairwise_cons] at hap
  refine ⟨fun x hx => h.good x (hsub x hx), fun x hx => h.ids x (hsub x hx), h.apart.sublist (List.eraseIdx_sublist R i), by simpa using h.len, ?_⟩
  intro x hx
  have hxr : x.id ≠ r.id := by
    rw [List.eraseIdx_eq_take_drop_succ, List.mem_append] at hx
    rcases hx with hx | hx
    · exact hap.2.2 x hx r (by simp)
    · exact Ne.symm (hap.2.1.1 x hx)
  have h1 := h.ids x (hsub x hx)
  have h2 := h.ids r (hri ▸ List.getElem_mem hlt)
  rw [List.getElem?_set_ne (by omega)]
  exact h.none x (hsub x hx)
theorem resV_read (r : Rq) (hg : goodR r = true) (hid : 1 ≤ r.id ∧ r.id ≤ 1000) : 0 ≤ resV r ∧ resV r ≤ 1000 ∧ (r.kind = 2 → resV r = r.size) := by
  simp only [goodR, Bool.and_eq_true, Bool.or_eq_true, decide_eq_true_eq] at hg
  obtain ⟨⟨⟨⟨h1, h2⟩, h3⟩, h4⟩, h5⟩ := hg
  unfold resV
  by_cases hk : r.kind = 1
  · rw [if_pos hk]
    have e1 : r.id.tmod 1000 = r.id % 1000 := Int.tmod_eq_emod_of_nonneg (by omega)
    rw [e1]
    have e2 : wrap64 (r.id % 1000 * 31) = r.id % 1000 * 31 := by unfold wrap64; omega
    have e3 : wrap64 (r.size * 7) = r.size * 7 := by unfold wrap64; omega
    rw [e2, e3]
    have e4 : wrap64 (r.id % 1000 * 31 + r.size * 7) = r.id % 1000 * 31 + r.size * 7 := by unfold wrap64; omega
    rw [e4, Int.tmod_eq_emod_of_nonneg (by omega)]
    refine ⟨by omega, by omega, fun h => by omega⟩
  · rw [if_neg hk]
    exact ⟨h4, h5, fun _ => rfl⟩
end Go.Proofs.Ytdfncmhbbhmgfaa
