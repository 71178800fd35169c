/- All cores are given, or all demands are met: plain. -/
import Derived.Test.YtmacpgjmhaoneaaSharePlain
namespace Go.Proofs.Ytmacpgjmhaoneaa
theorem getD_set (x : List Int) (i j : Nat) (v : Int) (hi : i < x.length) : (x.set i v).getD j 0 = if j = i then v else x.getD j 0 := by
  simp only [List.getD_eq_getElem?_getD, List.getElem?_set]
  by_cases h : i = j
  · subst h; simp [hi]
  · simp [h, Ne.symm h]
theorem sum_set : ∀ (x : List Int) (i : Nat) (v : Int), i < x.length → (x.set i v).sum = x.sum - x.getD i 0 + v
  | [], i, v, h => by simp at h
  | a :: x, 0, v, h => by simp; omega
  | a :: x, i + 1, v, h => by
    have := sum_set x i v (by simpa using h)
    simp only [List.set_cons_succ, List.sum_cons, List.getD_cons_succ] at this ⊢
    omega
theorem sum_inc {x : List Int} {i : Nat} (h : i < x.length) : (incC x i).sum = x.sum + 1 := by
  unfold incC
  rw [sum_set x i _ h]
  omega
theorem roundC_mem {n a i : Nat} (ha : a < n) (hi : i < n) : i ∈ roundC n a := by
  unfold roundC
  rw [List.mem_map]
  by_cases h : a ≤ i
  · exact ⟨i - a, by rw [List.mem_range]; omega, by rw [show a + (i - a) = i by omega]; exact Nat.mod_eq_of_lt hi⟩
  · exact ⟨i + n - a, by rw [List.mem_range]; omega, by rw [show a + (i + n - a) = i + n by omega, Nat.add_mod_right]; exact Nat.mod_eq_of_lt hi⟩
theorem roundC_lt {n a i : Nat} (h : i ∈ roundC n a) : i < n := by
  unfold roundC at h
  obtain ⟨k, hk, rfl⟩ := List.mem_map.1 h
  rw [List.mem_range] at hk
  exact Nat.mod_lt _ (by omega)
/-- What holds behind so many cores. -/
structure Parted (l : List Cl) (order : List Nat) (n : Nat) (x : List Int) : Prop where
  len : x.length = l.length
  in_ : ∀ i, i < l.length → 0 ≤ x.getD i 0 ∧ x.getD i 0 ≤ (l.getD i default).demand
  sum : x.sum = n ∨ (x.sum ≤ n ∧ nextC l x order = none)
theorem parted {l : List Cl} {order : List Nat} (hg : ∀ c ∈ l, 0 ≤ c.demand) (ho : ∀ i ∈ order, i < l.length) : ∀ n, Parted l order n (divC l order n (List.replicate l.length 0))
  | 0 => by
    refine ⟨by simp [divC], fun i hi => ?_, .inl ?_⟩
    · have : (List.replicate l.length (0 : Int)).getD i 0 = 0 := by
        simp [List.getD_eq_getElem?_getD, hi]
      rw [divC, this]
      have h2 : l.getD i default = l[i] := by simp [List.getD_eq_getElem?_getD, hi]
      rw [h2]
      exact ⟨Int.le_refl _, hg _ (List.getElem_mem hi)⟩
    · simp [divC]
  | n + 1 => by
    have ih := parted hg ho n
    rw [divC_succ]
    generalize divC l order n (List.replicate l.length 0) = x at ih ⊢
    unfold oneC
    cases h : nextC l x order with
    | none =>
      simp only
      refine ⟨ih.len, ih.in_, .inr ⟨?_, h⟩⟩
      rcases ih.sum with h1 | h1 <;> omega
    | some i =>
      simp only
      obtain ⟨hm, hh⟩ := nextC_mem l x order i h
      have hi := ho i hm
      have hix : i < x.length := by rw [ih.len]; exact hi
      refine ⟨by rw [incC_length]; exact ih.len, fun j hj => ?_, .inl ?_⟩
      · have := ih.in_ j hj
        unfold incC
        rw [getD_set _ _ _ _ hix]
        split
        · rename_i e
          subst e
          unfold hungryC at hh
          simp at hh
          simp only [List.getD_eq_getElem?_getD] at this hh ⊢
          omega
        · exact this
      · rw [sum_inc hix]
        rcases ih.sum with h1 | ⟨_, h1⟩
        · omega
        · rw [h1] at h; cases h
def wantC (l : List Cl) : Int := (l.map (·.demand)).sum
theorem sums_le : ∀ (l : List Cl) (x : List Int), x.length = l.length → (∀ i, i < l.length → x.getD i 0 ≤ (l.getD i default).demand) → x.sum ≤ wantC l
  | [], x, h, _ => by
    have : x = [] := List.eq_nil_of_length_eq_zero (by simpa using h)
    subst this
    simp [wantC]
  | c :: l, [], h, _ => by simp at h
  | c :: l, a :: x, h, hi => by
    have h0 := hi 0 (by simp)
    have ih := sums_le l x (by simpa using h) (fun i hl => by have := hi (i + 1) (by simpa using hl); simpa using this)
    simp only [wantC, List.map_cons, List.sum_cons, List.getD_cons_zero] at ih h0 ⊢
    omega
theorem sums_eq : ∀ (l : List Cl) (x : List Int), x.length = l.length → (∀ i, i < l.length → x.getD i 0 = (l.getD i default).demand) → x.sum = wantC l
  | [], x, h, _ => by
    have : x = [] := List.eq_nil_of_length_eq_zero (by simpa using h)
    subst this
    simp [wantC]
  | c :: l, [], h, _ => by simp at h
  | c :: l, a :: x, h, hi => by
    have h0 := hi 0 (by simp)
    have ih := sums_eq l x (by simpa using h) (fun i hl => by have := hi (i + 1) (by simpa using hl); simpa using this)
    simp only [wantC, List.map_cons, List.sum_cons, List.getD_cons_zero] at ih h0 ⊢
    omega
theorem parted_sum {l : List Cl} {a n : Nat} (hg : ∀ c ∈ l, 0 ≤ c.demand) (ha : a < l.length ∨ l = []) : (divideC n l a).sum = min (wantC l) n := by
  have ho : ∀ i ∈ roundC l.length a, i < l.length := fun i hi => roundC_lt hi
  have h := parted hg ho n
  unfold divideC
  generalize divC l (roundC l.length a) n (List.replicate l.length 0) = x at h ⊢
  have hle := sums_le l x h.len (fun i hi => (h.in_ i hi).2)
  rcases h.sum with h1 | ⟨h1, h2⟩
  · omega
  · have heq : x.sum = wantC l := by
      apply sums_eq l x h.len
      intro i hi
      have hal : a < l.length := by rcases ha with ha | ha; exact ha; subst ha; simp at hi
      have h3 := nextC_none l x _ h2 i (roundC_mem hal hi)
      unfold hungryC at h3
      have h4 := (h.in_ i hi).2
      simp at h3
      simp only [List.getD_eq_getElem?_getD] at h3 h4 ⊢
      omega
    omega
end Go.Proofs.Ytmacpgjmhaoneaa
