/- How far owners are from a target; a plan is no longer than that; behind it there is none; each move brings it down: plain. -/
import Derived.Test.YtjpclnmohemjlaaReachLaw
namespace Go.Proofs.Ytjpclnmohemjlaa
open Go.RowKit
theorem movesC_one (os : List Int) (c : Int) (cs ps : List Int) {t o : Int} (ht : ps.headD 0 = t) (ho : (os[c.toNat]?).getD 0 = o) : movesC os (c :: cs) ps = (if t = o then [] else [⟨c, o, t⟩]) ++ movesC os cs ps.tail := by
  subst ht
  subst ho
  rfl
theorem movesC_len (os : List Int) : ∀ (cs ps : List Int), (movesC os cs ps).length ≤ ps.length + (cs.filter fun c => decide ((os[c.toNat]?).getD 0 ≠ 0)).length
  | [], _ => by simp [movesC]
  | c :: cs, [] => by
    have ih := movesC_len os cs []
    rw [movesC_one os c cs [] (t := 0) rfl rfl, List.filter_cons, List.length_append]
    generalize (os[c.toNat]?).getD 0 = o
    simp only [List.tail_nil, List.length_nil, Nat.zero_add] at ih ⊢
    by_cases e : o = 0
    · subst e
      simpa using ih
    · rw [if_neg (fun h => e h.symm), if_pos (by simp [e])]
      simp only [List.length_cons, List.length_nil]
      omega
  | c :: cs, p :: ps => by
    have ih := movesC_len os cs ps
    rw [movesC_one os c cs (p :: ps) (t := p) rfl rfl, List.filter_cons, List.length_append]
    generalize (os[c.toNat]?).getD 0 = o
    have h1 : (if p = o then ([] : List Mv) else [⟨c, o, p⟩]).length ≤ 1 := by split <;> simp
    simp only [List.tail_cons, List.length_cons]
    generalize (if p = o then ([] : List Mv) else [⟨c, o, p⟩]).length = L at h1 ⊢
    split
    · simp only [List.length_cons]
      omega
    · omega
theorem lackL_pos {cs ts : List Int} : ∀ k ∈ lackL cs ts, 0 ≤ k := by
  intro k hk
  unfold lackL at hk
  obtain ⟨i, hi, rfl⟩ := List.getElem_of_mem hk
  rw [List.getElem_zipWith]
  omega
theorem more_pick {os ts : List Int} (h5 : ∀ t ∈ ts, 0 ≤ t) : ((picks os 0 (moreL (cntL os ts.length) ts)).length : Int) = sumI (moreL (cntL os ts.length) ts) :=
  picks_length os (moreL (cntL os ts.length) ts) 0 (fun j k hj => by
    unfold moreL at hj
    rw [List.getElem?_zipWith] at hj
    cases hc : (cntL os ts.length)[j]? with
    | none => rw [hc] at hj; simp at hj
    | some c =>
      cases ht : ts[j]? with
      | none => rw [hc, ht] at hj; simp at hj
      | some t =>
        rw [hc, ht] at hj
        simp at hj
        have hjl : j < ts.length := (List.getElem?_eq_some_iff.1 ht).1
        rw [cntL_get _ _ _ hjl] at hc
        simp at hc
        have := h5 t (List.mem_of_getElem? ht)
        rw [Nat.zero_add]
        omega)
def farV (os ts : List Int) : Int := sumI (moreL (cntL os ts.length) ts) + sumI (lackL (cntL os ts.length) ts)
theorem plan_least {os ts : List Int} (hr : Right9 os ts) (he : enoughB os.length ts = true) : ((planV os ts).length : Int) ≤ farV os ts := by
  rw [plan_eq hr he]
  have h1 := movesC_len os (coresV os (moreL (cntL os ts.length) ts)) (placesV (lackL (cntL os ts.length) ts))
  have h2 := placesF_length (lackL (cntL os ts.length) ts) 0 lackL_pos
  have h3 := more_pick (os := os) hr.pos
  have h4 : ((coresV os (moreL (cntL os ts.length) ts)).filter fun c => decide ((os[c.toNat]?).getD 0 ≠ 0)).length ≤ (picks os 0 (moreL (cntL os ts.length) ts)).length := by
    rw [coresV_eq, List.filter_append, List.length_append]
    have h5 : (freeC os os.length).filter (fun c => decide ((os[c.toNat]?).getD 0 ≠ 0)) = [] := by
      rw [List.filter_eq_nil_iff]
      intro x hx
      obtain ⟨j, rfl, _, ho⟩ := freeC_mem _ _ _ hx
      simp [ho]
    rw [h5]
    simpa using List.length_filter_le _ _
  unfold farV
  unfold placesV at h1 ⊢
  omega
theorem sumI_le : ∀ (a b : List Int), a.length = b.length → (∀ (i : Nat) (x y : Int), a[i]? = some x → b[i]? = some y → x ≤ y) → sumI a ≤ sumI b
  | [], [], _, _ => Int.le_refl _
  | [], _ :: _, h, _ => by simp at h
  | _ :: _, [], h, _ => by simp at h
  | x :: a, y :: b, h, hp => by
    have h1 := hp 0 x y rfl rfl
    have h2 := sumI_le a b (by simpa using h) (fun i x y h1 h2 => hp (i + 1) x y (by simpa using h1) (by simpa using h2))
    simp only [sumI]
    omega
theorem sumI_lt : ∀ (a b : List Int), a.length = b.length → (∀ (i : Nat) (x y : Int), a[i]? = some x → b[i]? = some y → x ≤ y) → (∃ (i : Nat) (x y : Int), a[i]? = some x ∧ b[i]? = some y ∧ x < y) → sumI a < sumI b
  | [], _, _, _, ⟨i, x, y, h, _⟩ => by simp at h
  | _ :: _, [], h, _, _ => by simp at h
  | u :: a, v :: b, h, hp, ⟨i, x, y, h1, h2, h3⟩ => by
    have hl : a.length = b.length := by simpa using h
    have hp' : ∀ (i : Nat) (x y : Int), a[i]? = some x → b[i]? = some y → x ≤ y := fun i x y h1 h2 => hp (i + 1) x y (by simpa using h1) (by simpa using h2)
    have h0 := hp 0 u v rfl rfl
    cases i with
    | zero =>
      have := sumI_le a b hl hp'
      simp only [List.getElem?_cons_zero, Option.some.injEq] at h1 h2
      simp only [sumI]
      omega
    | succ i =>
      have := sumI_lt a b hl hp' ⟨i, x, y, by simpa using h1, by simpa using h2, h3⟩
      simp only [sumI]
      omega
def distL (cs ts : List Int) : List Int := List.zipWith (fun c t => max (c - t) 0 + max (t - c) 0) cs ts
theorem sum_dist : ∀ (cs ts : List Int), sumI (moreL cs ts) + sumI (lackL cs ts) = sumI (distL cs ts)
  | [], _ => by simp [moreL, lackL, distL, sumI]
  | _ :: _, [] => by simp [moreL, lackL, distL, sumI]
  | c :: cs, t :: ts => by
    have ih := sum_dist cs ts
    simp only [moreL, lackL, distL, List.zipWith_cons_cons, sumI] at ih ⊢
    omega
theorem dist_get {cs ts : List Int} {k : Nat} {c t : Int} (hc : cs[k]? = some c) (ht : ts[k]? = some t) : (distL cs ts)[k]? = some (max (c - t) 0 + max (t - c) 0) := by
  simp [distL, List.getElem?_zipWith, hc, ht]
theorem dist_self : ∀ ts : List Int, sumI (distL ts ts) = 0
  | [] => rfl
  | t :: ts => by
    have := dist_self ts
    simp only [distL, List.zipWith_cons_cons, sumI] at this ⊢
    omega
theorem reach_cnt {os ts : List Int} (hr : Right9 os ts) (he : enoughB os.length ts = true) : cntL (applyV os (planV os ts)) ts.length = ts := by
  have h := plan_reach hr he
  unfold countV at h
  rw [goodB_iff.2 (plan_good hr he)] at h
  simpa using h
theorem far_zero {os ts : List Int} (hr : Right9 os ts) (he : enoughB os.length ts = true) (h : planV os ts = []) : farV os ts = 0 := by
  have h1 := reach_cnt hr he
  rw [h] at h1
  have h2 : applyV os [] = os := rfl
  rw [h2] at h1
  unfold farV
  rw [h1, sum_dist, dist_self]
theorem more_self : ∀ ts : List Int, moreL ts ts = List.replicate ts.length 0
  | [] => rfl
  | t :: ts => by
    have := more_self ts
    simp only [moreL, List.zipWith_cons_cons, List.length_cons, List.replicate_succ] at this ⊢
    rw [this]
    simp
theorem lack_self : ∀ ts : List Int, lackL ts ts = List.replicate ts.length 0
  | [] => rfl
  | t :: ts => by
    have := lack_self ts
    simp only [lackL, List.zipWith_cons_cons, List.length_cons, List.replicate_succ] at this ⊢
    rw [this]
    simp
theorem picks_zero (os : List Int) : ∀ (k i : Nat), picks os i (List.replicate k 0) = []
  | 0, i => rfl
  | k + 1, i => by
    simp only [List.replicate_succ, picks]
    rw [picks_zero os k, show (0 : Int).toNat = 0 from rfl, pick_zero]
    rfl
theorem places_zero : ∀ (k s : Nat), placesF s (List.replicate k 0) = []
  | 0, s => rfl
  | k + 1, s => by
    simp only [List.replicate_succ, placesF]
    rw [places_zero k]
    rfl
theorem movesC_free (os : List Int) : ∀ cs : List Int, (∀ c ∈ cs, (os[c.toNat]?).getD 0 = 0) → movesC os cs [] = []
  | [], _ => rfl
  | c :: cs, h => by
    have h1 := h c (by simp)
    rw [movesC_one os c cs [] (t := 0) rfl h1, if_pos rfl, List.tail_nil, movesC_free os cs (fun y hy => h y (by simp [hy]))]
    rfl
theorem plan_again {os ts : List Int} (hr : Right9 os ts) (he : enoughB os.length ts = true) : planV (applyV os (planV os ts)) ts = [] := by
  have hr2 : Right9 (applyV os (planV os ts)) ts := ⟨plan_good hr he, hr.pos⟩
  have he2 : enoughB (applyV os (planV os ts)).length ts = true := by rw [applyV_length]; exact he
  rw [plan_eq hr2 he2, reach_cnt hr he, more_self, lack_self]
  unfold placesV
  rw [places_zero, coresV_eq, picks_zero, List.append_nil]
  exact movesC_free _ _ (fun c hc => by obtain ⟨j, rfl, _, ho⟩ := freeC_mem _ _ _ hc; simp [ho])
theorem movesC_to (os : List Int) : ∀ (cs ps : List Int), ∀ mv ∈ movesC os cs ps, mv.to = 0 ∨ mv.to ∈ ps
  | [], _, mv, h => by simp [movesC] at h
  | c :: cs, ps, mv, h => by
    simp only [movesC, List.mem_append] at h
    rcases h with h | h
    · split at h
      · simp at h
      · simp only [List.mem_singleton] at h
        subst h
        cases ps with
        | nil => exact .inl rfl
        | cons p ps => exact .inr (by simp)
    · rcases movesC_to os cs ps.tail mv h with h1 | h1
      · exact .inl h1
      · exact .inr (List.mem_of_mem_tail h1)
/-- One move: still right, and nearer. -/
theorem step_good {os ts : List Int} (hr : Right9 os ts) (he : enoughB os.length ts = true) (mv : Mv) (h : mv ∈ planV os ts) : Right9 (applyM os mv) ts ∧ farV (applyM os mv) ts < farV os ts := by
  obtain ⟨j, hj1, hj2, hj3, hj4⟩ := plan_mem hr he mv h
  have hto : mv.to = 0 ∨ ∃ (p : Nat) (k : Int), mv.to = (p : Int) + 1 ∧ p < ts.length ∧ (lackL (cntL os ts.length) ts)[p]? = some k ∧ 0 < k := by
    have h2 := h
    rw [plan_eq hr he] at h2
    rcases movesC_to _ _ _ mv h2 with h3 | h3
    · exact .inl h3
    · right
      have h4 := placesF_count
      obtain ⟨q, hq1, _, hq3⟩ := placesF_mem _ _ _ h3
      have hll : (lackL (cntL os ts.length) ts).length = ts.length := by simp [lackL, cntL_length]
      have hqn : q < ts.length := by omega
      have h5 := h4 q (lackL (cntL os ts.length) ts) 0
      rw [if_pos (Nat.zero_le _), Nat.sub_zero, List.getElem?_eq_getElem (by omega)] at h5
      rw [hq1] at h3
      have h6 := List.count_pos_iff.2 h3
      unfold placesV at h6
      rw [h5] at h6
      exact ⟨q, _, hq1, hqn, List.getElem?_eq_getElem (by omega), by simp at h6; omega⟩
  have hjl : j < os.length := (List.getElem?_eq_some_iff.1 hj2).1
  have hjx : os[j] = mv.from_ := (List.getElem?_eq_some_iff.1 hj2).2
  have hap : applyM os mv = os.set j mv.to := by
    unfold applyM
    rw [hj1, if_pos ⟨by omega, by simpa using hj2⟩]
    rfl
  rw [hap]
  constructor
  · refine ⟨⟨by rw [List.length_set]; exact hr.good.len, hr.good.n0, hr.good.n1, fun o ho => ?_⟩, hr.pos⟩
    rcases List.mem_or_eq_of_mem_set ho with h1 | h1
    · exact hr.good.each o h1
    · subst h1
      rcases hto with h2 | ⟨p, k, h2, h3, _⟩
      · omega
      · omega
  · unfold farV
    rw [sum_dist, sum_dist]
    have hcnt : ∀ v : Nat, (((os.set j mv.to).count ((v : Int) + 1) : Nat) : Int) = ((os.count ((v : Int) + 1) : Nat) : Int) - (if mv.from_ = (v : Int) + 1 then 1 else 0) + (if mv.to = (v : Int) + 1 then 1 else 0) := by
      intro v
      rw [List.count_set hjl, hjx]
      have hle : mv.from_ = (v : Int) + 1 → 1 ≤ os.count ((v : Int) + 1) := fun e => List.count_pos_iff.2 (by rw [← e, ← hjx]; exact List.getElem_mem hjl)
      by_cases e1 : mv.from_ = (v : Int) + 1 <;> by_cases e2 : mv.to = (v : Int) + 1
      all_goals
        simp only [e1, e2, if_true, if_false, beq_self_eq_true, beq_eq_false_iff_ne.2, ne_eq, not_false_eq_true, Bool.false_eq_true]
        try have := hle e1
        first
          | omega
          | (have b1 : (mv.from_ == (v : Int) + 1) = false := by simp [e1]
             have b2 : (mv.to == (v : Int) + 1) = false := by simp [e2]
             simp [b1, b2])
          | (have b1 : (mv.from_ == (v : Int) + 1) = false := by simp [e1]
             simp [b1])
          | (have b2 : (mv.to == (v : Int) + 1) = false := by simp [e2]
             simp [b2]; omega)
    have hfrom : ∀ (v : Nat) (t : Int), ts[v]? = some t → mv.from_ = (v : Int) + 1 → t < ((os.count ((v : Int) + 1) : Nat) : Int) := by
      intro v t ht e
      have hv : v < ts.length := (List.getElem?_eq_some_iff.1 ht).1
      rcases hj4 with h1 | ⟨q, k, h1, h2, h3⟩
      · omega
      · have : q = v := by omega
        subst this
        rw [moreL_get (cntL_get os ts.length q hv) ht] at h2
        simp only [Option.some.injEq] at h2
        omega
    have htoo : ∀ (v : Nat) (t : Int), ts[v]? = some t → mv.to = (v : Int) + 1 → ((os.count ((v : Int) + 1) : Nat) : Int) < t := by
      intro v t ht e
      have hv : v < ts.length := (List.getElem?_eq_some_iff.1 ht).1
      rcases hto with h1 | ⟨q, k, h1, h4, h2, h3⟩
      · omega
      · have : q = v := by omega
        subst this
        rw [lackL_get (cntL_get os ts.length q hv) ht] at h2
        simp only [Option.some.injEq] at h2
        omega
    have hval : ∀ (v : Nat) (t x y : Int), ts[v]? = some t → (distL (cntL (os.set j mv.to) ts.length) ts)[v]? = some x → (distL (cntL os ts.length) ts)[v]? = some y → x ≤ y ∧ (mv.from_ = (v : Int) + 1 ∨ mv.to = (v : Int) + 1 → x < y) := by
      intro v t x y ht hx hy
      have hv : v < ts.length := (List.getElem?_eq_some_iff.1 ht).1
      rw [dist_get (cntL_get _ ts.length v hv) ht, hcnt v] at hx
      rw [dist_get (cntL_get _ ts.length v hv) ht] at hy
      have h1 := hfrom v t ht
      have h2 := htoo v t ht
      simp only [Option.some.injEq] at hx hy
      subst hx
      subst hy
      by_cases e1 : mv.from_ = (v : Int) + 1 <;> by_cases e2 : mv.to = (v : Int) + 1
      · exact absurd (e1.trans e2.symm) hj3
      · rw [if_pos e1, if_neg e2]
        have := h1 e1
        omega
      · rw [if_neg e1, if_pos e2]
        have := h2 e2
        omega
      · rw [if_neg e1, if_neg e2]
        omega
    have hlen : ∀ os : List Int, (distL (cntL os ts.length) ts).length = ts.length := by intro os; simp [distL, cntL_length]
    have hex : ∃ v : Nat, v < ts.length ∧ (mv.from_ = (v : Int) + 1 ∨ mv.to = (v : Int) + 1) := by
      rcases hj4 with h1 | ⟨q, k, h1, h2, h3⟩
      · rcases hto with h4 | ⟨p, k, h4, h5, _⟩
        · exact absurd (h1.trans h4.symm) hj3
        · exact ⟨p, h5, .inr h4⟩
      · have : (moreL (cntL os ts.length) ts).length = ts.length := by simp [moreL, cntL_length]
        exact ⟨q, by rw [← this]; exact (List.getElem?_eq_some_iff.1 h2).1, .inl h1⟩
    refine sumI_lt _ _ (by rw [hlen, hlen]) ?_ ?_
    · intro v x y hx hy
      have hv : v < ts.length := by rw [← hlen os]; exact (List.getElem?_eq_some_iff.1 hy).1
      exact (hval v ts[v] x y (List.getElem?_eq_getElem hv) hx hy).1
    · obtain ⟨v, hv, h1⟩ := hex
      have hx : v < (distL (cntL (os.set j mv.to) ts.length) ts).length := by rw [hlen]; exact hv
      have hy : v < (distL (cntL os ts.length) ts).length := by rw [hlen]; exact hv
      exact ⟨v, _, _, List.getElem?_eq_getElem hx, List.getElem?_eq_getElem hy, (hval v ts[v] _ _ (List.getElem?_eq_getElem hv) (List.getElem?_eq_getElem hx) (List.getElem?_eq_getElem hy)).2 h1⟩
end Go.Proofs.Ytjpclnmohemjlaa
