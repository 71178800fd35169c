/- Behind the plan each has just its target: plain. -/
import Derived.Test.YtjpclnmohemjlaaPlans09
import Derived.Test.YtjpclnmohemjlaaReachPlain
namespace Go.Proofs.Ytjpclnmohemjlaa
open Go.RowKit
theorem countP_split (os : List Int) (m : Nat) : os.countP (fun x => decide (x ≤ (m : Int) + 1)) = os.countP (fun x => decide (x ≤ (m : Int))) + os.count ((m : Int) + 1) := by
  induction os with
  | nil => rfl
  | cons o os ih =>
    rw [List.countP_cons, List.countP_cons, List.count_cons, ih]
    by_cases h1 : o ≤ (m : Int)
    · have h2 : o ≤ (m : Int) + 1 := by omega
      have h3 : ¬ o = (m : Int) + 1 := by omega
      simp [h1, h2, h3]
      omega
    · by_cases h3 : o = (m : Int) + 1
      · subst h3
        have h9 : ¬ ((m : Int) + 1 ≤ (m : Int)) := by omega
        simp [h9]
        omega
      · have h2 : ¬ o ≤ (m : Int) + 1 := by omega
        simp [h1, h2, h3]
theorem cntL_succ (os : List Int) (m : Nat) : cntL os (m + 1) = cntL os m ++ [((os.count ((m : Int) + 1) : Nat) : Int)] := by
  simp [cntL, List.range_succ]
theorem sum_cnt (os : List Int) (h : ∀ o ∈ os, 0 ≤ o) : ∀ m : Nat, ((os.countP (fun x => decide (x ≤ (m : Int))) : Nat) : Int) = (os.count 0 : Nat) + sumI (cntL os m)
  | 0 => by
    have : os.countP (fun x => decide (x ≤ ((0 : Nat) : Int))) = os.count 0 := by
      rw [List.count_eq_countP]
      apply List.countP_congr
      intro x hx
      have := h x hx
      simp
      omega
    rw [this]
    simp [cntL, sumI]
  | m + 1 => by
    have ih := sum_cnt os h m
    have h2 := countP_split os m
    rw [cntL_succ, sumI_append]
    simp only [sumI]
    rw [show ((m + 1 : Nat) : Int) = (m : Int) + 1 by omega, h2]
    omega
theorem len_cnt {os : List Int} {n : Nat} (h : ∀ o ∈ os, 0 ≤ o ∧ o ≤ (n : Int)) : (os.length : Int) = (os.count 0 : Nat) + sumI (cntL os n) := by
  rw [← sum_cnt os (fun o ho => (h o ho).1) n]
  congr 1
  rw [eq_comm, List.countP_eq_length]
  intro x hx
  simpa using (h x hx).2
theorem enough_sum : ∀ {ts : List Int} {c : Int}, enoughB c ts = true → 0 ≤ c → sumI ts ≤ c
  | [], c, _, h => by simpa [sumI] using h
  | t :: ts, c, h, hc => by
    simp only [enoughB] at h
    split at h
    · cases h
    · have := enough_sum h (by omega)
      simp only [sumI]
      omega
theorem sum_more_lack : ∀ (cs ts : List Int), cs.length = ts.length → sumI (moreL cs ts) - sumI (lackL cs ts) = sumI cs - sumI ts
  | [], [], _ => rfl
  | [], _ :: _, h => by simp at h
  | _ :: _, [], h => by simp at h
  | c :: cs, t :: ts, h => by
    have ih := sum_more_lack cs ts (by simpa using h)
    simp only [moreL, lackL, List.zipWith_cons_cons, sumI] at ih ⊢
    omega
theorem picks_length (os : List Int) : ∀ (ks : List Int) (i : Nat), (∀ (j : Nat) (k : Int), ks[j]? = some k → 0 ≤ k ∧ k ≤ os.count (((i + j : Nat) : Int) + 1)) → ((picks os i ks).length : Int) = sumI ks
  | [], i, _ => by simp [picks, sumI]
  | k :: ks, i, h => by
    have ih := picks_length os ks (i + 1) (fun j k' hj => by
      have := h (j + 1) k' (by simpa using hj)
      rw [show i + (j + 1) = i + 1 + j by omega] at this
      exact this)
    have h1 := h 0 k (by simp)
    rw [Nat.add_zero] at h1
    simp only [picks, sumI, List.length_append]
    rw [pick_length os _ _ _ (Nat.le_refl _), List.take_length]
    omega
/-- What is known of a plan. -/
structure PlanOf (os ts : List Int) where
  n : Nat
  hn : ts.length = n
  right : Right9 os ts
  enough : enoughB os.length ts = true
theorem plan_need {os ts : List Int} (hr : Right9 os ts) : needV os ts = (moreL (cntL os ts.length) ts, lackL (cntL os ts.length) ts) := by
  unfold needV
  rw [rightB_iff.2 hr]
  rfl
theorem plan_eq {os ts : List Int} (hr : Right9 os ts) (he : enoughB os.length ts = true) : planV os ts = movesC os (coresV os (moreL (cntL os ts.length) ts)) (placesV (lackL (cntL os ts.length) ts)) := by
  unfold planV
  rw [rightB_iff.2 hr, he, plan_need hr]
  rfl
theorem plan_len {os ts : List Int} (hr : Right9 os ts) (he : enoughB os.length ts = true) : (placesV (lackL (cntL os ts.length) ts)).length ≤ (coresV os (moreL (cntL os ts.length) ts)).length := by
  obtain ⟨⟨g1, g2, g3, g4⟩, g5⟩ := hr
  have h1 := len_cnt g4
  have h2 := enough_sum he (by omega)
  have h3 := sum_more_lack (cntL os ts.length) ts (cntL_length _ _)
  have h4 := placesF_length (lackL (cntL os ts.length) ts) 0 (fun k hk => by
    unfold lackL at hk
    obtain ⟨i, hi, rfl⟩ := List.getElem_of_mem hk
    rw [List.getElem_zipWith]
    omega)
  have h5 := picks_length os (moreL (cntL os ts.length) ts) 0 (fun j k hj => by
    unfold moreL at hj
    rw [List.getElem?_zipWith] at hj
    cases hc : (cntL os ts.length)[j]? with
    | none => rw [hc] at hj; simp at hj
    | some c =>
      cases ht : ts[j]? with
      | none => rw [hc, ht] at hj; simp at hj
      | some t =>
        rw [hc, ht] at hj
        simp at hj
        have hjl : j < ts.length := (List.getElem?_eq_some_iff.1 ht).1
        rw [cntL_get _ _ _ hjl] at hc
        simp at hc
        have := g5 t (List.mem_of_getElem? ht)
        rw [Nat.zero_add]
        omega)
  have h6 := freeC_len os os.length (Nat.le_refl _)
  rw [List.take_length] at h6
  rw [coresV_eq, List.length_append]
  unfold placesV
  omega
theorem plan_set {os ts : List Int} (hr : Right9 os ts) (he : enoughB os.length ts = true) : applyV os (planV os ts) = setAll os (coresV os (moreL (cntL os ts.length) ts)) (placesV (lackL (cntL os ts.length) ts)) := by
  rw [plan_eq hr he]
  exact apply_moves os _ _ os ⟨coresV_nodup _ _, coresV_in _ _⟩ (fun _ _ => rfl)
theorem plan_count {os ts : List Int} (hr : Right9 os ts) (he : enoughB os.length ts = true) (v : Nat) (t : Int) (ht : ts[v]? = some t) : (((applyV os (planV os ts)).count ((v : Int) + 1) : Nat) : Int) = t := by
  have hl := plan_len hr he
  have hv : v < ts.length := (List.getElem?_eq_some_iff.1 ht).1
  have h1 := setAll_count ((v : Int) + 1) (coresV os (moreL (cntL os ts.length) ts)) (placesV (lackL (cntL os ts.length) ts)) os ⟨coresV_nodup _ _, coresV_in _ _⟩
  rw [← plan_set hr he, coresV_count, padP_eq _ _ hl, List.count_append, List.count_replicate] at h1
  have h2 := placesF_count v (lackL (cntL os ts.length) ts) 0
  rw [if_pos (Nat.zero_le _), Nat.sub_zero] at h2
  have hc := cntL_get os ts.length v hv
  rw [lackL_get hc ht] at h2
  rw [moreL_get hc ht] at h1
  have h0 : ((0 : Int) == (v : Int) + 1) = false := by simp; omega
  rw [h0] at h1
  have h3 := hr.pos t (List.mem_of_getElem? ht)
  unfold placesV at h1
  rw [h2] at h1
  simp only [Option.getD_some, Bool.false_eq_true, if_false] at h1
  omega
theorem plan_good {os ts : List Int} (hr : Right9 os ts) (he : enoughB os.length ts = true) : Good9 (applyV os (planV os ts)) ts.length := by
  obtain ⟨⟨g1, g2, g3, g4⟩, g5⟩ := hr
  refine ⟨by rw [applyV_length]; exact g1, g2, g3, fun o ho => ?_⟩
  rw [plan_set ⟨⟨g1, g2, g3, g4⟩, g5⟩ he] at ho
  rcases setAll_mem _ _ _ _ ho with h | h | h
  · exact g4 o h
  · subst h
    omega
  · obtain ⟨q, rfl, h2, h3⟩ := placesF_mem _ _ _ h
    have : (lackL (cntL os ts.length) ts).length = ts.length := by simp [lackL, cntL_length]
    omega
theorem plan_reach {os ts : List Int} (hr : Right9 os ts) (he : enoughB os.length ts = true) : countV (applyV os (planV os ts)) ts.length = ts := by
  unfold countV
  rw [goodB_iff.2 (plan_good hr he)]
  simp only [if_true, Int.toNat_natCast]
  apply List.ext_getElem?
  intro v
  by_cases hv : v < ts.length
  · rw [cntL_get _ _ _ hv, plan_count hr he v ts[v] (List.getElem?_eq_getElem hv), List.getElem?_eq_getElem hv]
  · rw [List.getElem?_eq_none (by rw [cntL_length]; omega), List.getElem?_eq_none (by omega)]
end Go.Proofs.Ytjpclnmohemjlaa
