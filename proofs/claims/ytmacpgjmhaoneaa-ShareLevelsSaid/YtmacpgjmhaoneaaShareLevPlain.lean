/- How those that are hungry stand to the others: plain. -/
import Derived.Test.YtmacpgjmhaoneaaShareAllPlain
namespace Go.Proofs.Ytmacpgjmhaoneaa
def wtC (l : List Cl) (i : Nat) : Int := (l.getD i default).weight
/-- b, at place p, is the first of the least ones. -/
structure BestC (l : List Cl) (x : List Int) (order : List Nat) (b p : Nat) : Prop where
  at_ : order[p]? = some b
  least : ∀ q i, order[q]? = some i → hungryC l x i = true → x.getD b 0 * wtC l i < x.getD i 0 * wtC l b ∨ (x.getD b 0 * wtC l i = x.getD i 0 * wtC l b ∧ p ≤ q)
theorem cross_trans {a b c wa wb wc : Int} (ha : 1 ≤ wa) (hb : 1 ≤ wb) (hc : 1 ≤ wc) (h1 : a * wb < b * wa) (h2 : b * wc ≤ c * wb) : a * wc < c * wa := by
  have h3 : a * wb * wc < b * wa * wc := Int.mul_lt_mul_of_pos_right h1 (by omega)
  have h4 : b * wc * wa ≤ c * wb * wa := Int.mul_le_mul_of_nonneg_right h2 (by omega)
  have e1 : b * wa * wc = b * wc * wa := by rw [Int.mul_assoc, Int.mul_comm wa wc, ← Int.mul_assoc]
  have e2 : a * wb * wc = a * wc * wb := by rw [Int.mul_assoc, Int.mul_comm wb wc, ← Int.mul_assoc]
  have e3 : c * wb * wa = c * wa * wb := by rw [Int.mul_assoc, Int.mul_comm wb wa, ← Int.mul_assoc]
  rw [e1, e2] at h3
  rw [e3] at h4
  exact Int.lt_of_mul_lt_mul_right (Int.lt_of_lt_of_le h3 h4) (by omega)
theorem bestC {l : List Cl} {x : List Int} (hw : ∀ c ∈ l, 1 ≤ c.weight) {order : List Nat} (ho : ∀ i ∈ order, i < l.length) : ∀ k, k ≤ order.length → ∀ b, nextC l x (order.take k) = some b → ∃ p, BestC l x (order.take k) b p
  | 0, _, b, h => by simp [nextC] at h
  | k + 1, hk, b, h => by
    have hk' : k < order.length := by omega
    have hwt : ∀ i ∈ order, 1 ≤ wtC l i := by
      intro i hi
      have h1 := ho i hi
      unfold wtC
      have h2 : l.getD i default = l[i] := by simp [List.getD_eq_getElem?_getD, h1]
      rw [h2]
      exact hw _ (List.getElem_mem h1)
    have hwk := hwt order[k] (List.getElem_mem hk')
    have htk : order.take (k + 1) = order.take k ++ [order[k]] := List.take_succ_eq_append_getElem hk'
    have hlk : (order.take k).length = k := by rw [List.length_take]; omega
    have hgk : ∀ (q i : Nat), (order.take (k + 1))[q]? = some i → (order.take k)[q]? = some i ∨ (q = k ∧ i = order[k]) := by
      intro q i hq
      rw [htk] at hq
      rcases Nat.lt_or_ge q k with h1 | h1
      · rw [List.getElem?_append_left (by omega)] at hq; exact .inl hq
      · rw [List.getElem?_append_right (by omega), hlk] at hq
        rcases Nat.eq_or_lt_of_le h1 with h2 | h2
        · subst h2; simp at hq; exact .inr ⟨rfl, hq.symm⟩
        · rw [List.getElem?_eq_none (by simp; omega)] at hq; cases hq
    have hbk : (order.take (k + 1))[k]? = some order[k] := by rw [htk, List.getElem?_append_right (by omega), hlk]; simp
    have hup : ∀ (p b : Nat), (order.take k)[p]? = some b → (order.take (k + 1))[p]? = some b := by
      intro p b hp
      have hpl := (List.getElem?_eq_some_iff.1 hp).1
      rw [htk, List.getElem?_append_left (by omega)]
      exact hp
    rw [htk, nextC_snoc] at h
    have hmem : ∀ (q i : Nat), (order.take k)[q]? = some i → i ∈ order := fun q i hq => List.mem_of_mem_take (List.mem_of_getElem? hq)
    unfold stepC at h
    by_cases hh : hungryC l x order[k] = true
    · rw [if_pos hh] at h
      cases hn : nextC l x (order.take k) with
      | none =>
        rw [hn] at h
        simp only [Option.some.injEq] at h
        subst h
        refine ⟨k, hbk, fun q i hq hi => ?_⟩
        rcases hgk q i hq with h1 | ⟨h1, h2⟩
        · have := nextC_none l x (order.take k) hn i (List.mem_of_getElem? h1)
          rw [this] at hi; cases hi
        · subst h1; subst h2; exact .inr ⟨rfl, Nat.le_refl _⟩
      | some c =>
        rw [hn] at h
        obtain ⟨p, hp⟩ := bestC hw ho k (by omega) c hn
        have hwc := hwt c (hmem p c hp.at_)
        simp only at h
        by_cases hl : lessC l x order[k] c = true
        · rw [if_pos hl, Option.some.injEq] at h
          subst h
          have hl' : x.getD order[k] 0 * wtC l c < x.getD c 0 * wtC l order[k] := by simpa [lessC, wtC] using hl
          refine ⟨k, hbk, fun q i hq hi => ?_⟩
          rcases hgk q i hq with h1 | ⟨h1, h2⟩
          · left
            have hwi := hwt i (hmem q i h1)
            refine cross_trans hwk hwc hwi hl' ?_
            rcases hp.least q i h1 hi with h3 | ⟨h3, _⟩
            · exact Int.le_of_lt h3
            · exact Int.le_of_eq h3
          · subst h1; subst h2; exact .inr ⟨rfl, Nat.le_refl _⟩
        · rw [if_neg hl, Option.some.injEq] at h
          subst h
          have hl' : ¬ x.getD order[k] 0 * wtC l c < x.getD c 0 * wtC l order[k] := by simpa [lessC, wtC] using hl
          refine ⟨p, hup _ _ hp.at_, fun q i hq hi => ?_⟩
          rcases hgk q i hq with h1 | ⟨h1, h2⟩
          · exact hp.least q i h1 hi
          · subst h2
            have hpl : p < k := by have := (List.getElem?_eq_some_iff.1 hp.at_).1; omega
            rcases Int.lt_or_le (x.getD c 0 * wtC l order[k]) (x.getD order[k] 0 * wtC l c) with h3 | h3
            · exact .inl h3
            · exact .inr ⟨by omega, by omega⟩
    · rw [if_neg hh] at h
      obtain ⟨p, hp⟩ := bestC hw ho k (by omega) b h
      refine ⟨p, hup _ _ hp.at_, fun q i hq hi => ?_⟩
      rcases hgk q i hq with h1 | ⟨h1, h2⟩
      · exact hp.least q i h1 hi
      · subst h2; exact absurd hi hh
/-- A place's number in the round. -/
def posC (n a i : Nat) : Int := ((i : Int) - a + n) % n
theorem posC_round {n a q : Nat} (ha : a < n) (hq : q < n) : posC n a ((a + q) % n) = q := by
  unfold posC
  rcases Nat.lt_or_ge (a + q) n with h | h
  · rw [Nat.mod_eq_of_lt h, show (((a + q : Nat) : Int) - a + n) = q + n by omega, Int.add_emod_right]
    exact Int.emod_eq_of_lt (by omega) (by omega)
  · have e : (a + q) % n = a + q - n := by
      rw [Nat.mod_eq_sub_mod h]; exact Nat.mod_eq_of_lt (by omega)
    rw [e, show (((a + q - n : Nat) : Int) - a + n) = q by omega]
    exact Int.emod_eq_of_lt (by omega) (by omega)
/-- What the law says of two places. -/
def LevC (l : List Cl) (a : Nat) (x : List Int) : Prop := ∀ i j, i < l.length → j < l.length → i ≠ j → hungryC l x i = true → 0 < x.getD j 0 →
  (x.getD j 0 - 1) * wtC l i < x.getD i 0 * wtC l j ∨ ((x.getD j 0 - 1) * wtC l i = x.getD i 0 * wtC l j ∧ posC l.length a j < posC l.length a i)
theorem levC_step {l : List Cl} {a : Nat} {x : List Int} (hw : ∀ c ∈ l, 1 ≤ c.weight) (ha : a < l.length) (hx : x.length = l.length) (h : LevC l a x) {m : Nat} (hm : nextC l x (roundC l.length a) = some m) : LevC l a (incC x m) := by
  have hlen : (roundC l.length a).length = l.length := by simp [roundC]
  have ho : ∀ i ∈ roundC l.length a, i < l.length := fun i hi => roundC_lt hi
  obtain ⟨hmm, hmh⟩ := nextC_mem l x _ m hm
  have hml := ho m hmm
  have hb := bestC (x := x) hw ho (roundC l.length a).length (Nat.le_refl _) m
  rw [List.take_length] at hb
  obtain ⟨p, hp⟩ := hb hm
  have hwt : ∀ i, i < l.length → 1 ≤ wtC l i := by
    intro i h1
    unfold wtC
    have h2 : l.getD i default = l[i] := by simp [List.getD_eq_getElem?_getD, h1]
    rw [h2]
    exact hw _ (List.getElem_mem h1)
  have hget : ∀ q, q < l.length → (roundC l.length a)[q]? = some ((a + q) % l.length) := fun q hq => by simp [roundC, hq]
  have hpl : p < l.length := by have := (List.getElem?_eq_some_iff.1 hp.at_).1; omega
  have hpm : m = (a + p) % l.length := by have := hp.at_; rw [hget p hpl] at this; exact (Option.some.inj this).symm
  have hgi : ∀ i, (incC x m).getD i 0 = if i = m then x.getD m 0 + 1 else x.getD i 0 := fun i => by unfold incC; rw [getD_set x m i _ (by omega)]
  intro i j hi hj hij hh hj0
  have hhi : hungryC l x i = true := by
    unfold hungryC at hh ⊢
    rw [hgi] at hh
    simp only [decide_eq_true_eq] at hh ⊢
    split at hh
    · rename_i e; subst e; omega
    · exact hh
  rw [hgi] at hj0
  rw [hgi, hgi]
  by_cases hjm : j = m
  · subst hjm
    rw [if_pos rfl, if_neg hij]
    rw [show x.getD j 0 + 1 - 1 = x.getD j 0 by omega]
    obtain ⟨q, hq, hqi⟩ : ∃ q, q < l.length ∧ (roundC l.length a)[q]? = some i := by
      obtain ⟨q, hq, e⟩ := List.mem_iff_getElem.1 (roundC_mem ha hi)
      exact ⟨q, by omega, by rw [List.getElem?_eq_getElem hq, e]⟩
    rcases hp.least q i hqi hhi with h1 | ⟨h1, h2⟩
    · exact .inl h1
    · right
      refine ⟨h1, ?_⟩
      have hqe : i = (a + q) % l.length := by have := hqi; rw [hget q hq] at this; exact (Option.some.inj this).symm
      rw [hqe, hpm, posC_round ha hpl, posC_round ha hq]
      rcases Nat.eq_or_lt_of_le h2 with h3 | h3
      · exfalso; subst h3; exact hij (by rw [hqe, ← hpm])
      · omega
  · rw [if_neg hjm] at hj0 ⊢
    have hold := h i j hi hj hij hhi hj0
    by_cases him : i = m
    · subst him
      rw [if_pos rfl]
      left
      have hwj := hwt j hj
      rw [Int.add_mul, Int.one_mul]
      rcases hold with h1 | ⟨h1, _⟩ <;> omega
    · rw [if_neg him]
      exact hold
theorem levC_all {l : List Cl} {a : Nat} (hw : ∀ c ∈ l, 1 ≤ c.weight) (ha : a < l.length) : ∀ n, LevC l a (divC l (roundC l.length a) n (List.replicate l.length 0))
  | 0 => by
    intro i j _ hj _ _ h0
    exfalso
    have : (List.replicate l.length (0 : Int)).getD j 0 = 0 := by simp [List.getD_eq_getElem?_getD, hj]
    rw [divC, this] at h0
    omega
  | n + 1 => by
    rw [divC_succ]
    unfold oneC
    have ih := levC_all hw ha n
    cases hn : nextC l (divC l (roundC l.length a) n (List.replicate l.length 0)) (roundC l.length a) with
    | none => exact ih
    | some m => exact levC_step hw ha (by rw [divC_length]; simp) ih hn
end Go.Proofs.Ytmacpgjmhaoneaa
