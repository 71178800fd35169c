/- What a plan's moves make of the owners: plain lists, no program. -/
import Derived.Test.YtjpclnmohemjlaaPlanPlain
namespace Go.Proofs.Ytjpclnmohemjlaa
open Go.RowKit
/-! ### the cores that go -/
def pick (os : List Int) (o : Int) : Nat → Nat → List Int
  | 0, _ => []
  | _ + 1, 0 => []
  | c + 1, k + 1 => if os[c]? = some o then (c : Int) :: pick os o c k else pick os o c (k + 1)
theorem pick_zero (os : List Int) (o : Int) : ∀ c, pick os o c 0 = []
  | 0 => rfl
  | _ + 1 => rfl
theorem downC_pick (os : List Int) (o : Int) : ∀ (c k : Nat) (out : List Int), downC os o (out.length + k) c out = out ++ pick os o c k
  | 0, k, out => by simp [downC, pick]
  | c + 1, 0, out => by simp [downC, pick]
  | c + 1, k + 1, out => by
    simp only [downC]
    rw [if_pos (by omega)]
    simp only [pick, takeC]
    split
    · have := downC_pick os o c k (out ++ [(c : Int)])
      rw [show (out ++ [(c : Int)]).length + k = out.length + (k + 1) by simp; omega] at this
      rw [this]
      simp
    · exact downC_pick os o c (k + 1) out
theorem pick_mem (os : List Int) (o : Int) : ∀ (c k : Nat) (x : Int), x ∈ pick os o c k → ∃ j : Nat, x = j ∧ j < c ∧ os[j]? = some o
  | 0, k, x, h => by simp [pick] at h
  | c + 1, 0, x, h => by simp [pick] at h
  | c + 1, k + 1, x, h => by
    simp only [pick] at h
    split at h
    · rename_i ho
      simp only [List.mem_cons] at h
      rcases h with rfl | h
      · exact ⟨c, rfl, by omega, ho⟩
      · obtain ⟨j, h1, h2, h3⟩ := pick_mem os o c k x h
        exact ⟨j, h1, by omega, h3⟩
    · obtain ⟨j, h1, h2, h3⟩ := pick_mem os o c (k + 1) x h
      exact ⟨j, h1, by omega, h3⟩
theorem pick_nodup (os : List Int) (o : Int) : ∀ (c k : Nat), (pick os o c k).Nodup
  | 0, k => by simp [pick]
  | c + 1, 0 => by simp [pick]
  | c + 1, k + 1 => by
    simp only [pick]
    split
    · refine List.nodup_cons.2 ⟨fun h => ?_, pick_nodup os o c k⟩
      obtain ⟨j, h1, h2, _⟩ := pick_mem os o c k _ h
      omega
    · exact pick_nodup os o c (k + 1)
theorem pick_length (os : List Int) (o : Int) : ∀ (c k : Nat), c ≤ os.length → (pick os o c k).length = min k ((os.take c).count o)
  | 0, k, _ => by simp [pick]
  | c + 1, 0, _ => by simp [pick]
  | c + 1, k + 1, h => by
    have hc : c < os.length := by omega
    rw [List.take_succ_eq_append_getElem hc, List.count_append]
    have hg : os[c]? = some os[c] := List.getElem?_eq_getElem hc
    simp only [pick, hg]
    by_cases e : os[c] = o
    · rw [if_pos (by rw [e]), List.length_cons, pick_length os o c k (by omega), e]
      simp
    · rw [if_neg (by simpa using e), pick_length os o c (k + 1) (by omega)]
      simp [e]
def picks (os : List Int) : Nat → List Int → List Int
  | _, [] => []
  | i, k :: ks => pick os ((i : Int) + 1) os.length k.toNat ++ picks os (i + 1) ks
theorem moreC_picks (os : List Int) : ∀ (ks : List Int) (i : Nat) (out : List Int), moreC os i ks out = out ++ picks os i ks
  | [], i, out => by simp [moreC, picks]
  | k :: ks, i, out => by
    simp only [moreC, picks]
    rw [downC_pick, moreC_picks os ks (i + 1)]
    simp
theorem coresV_eq (os more : List Int) : coresV os more = freeC os os.length ++ picks os 0 more := moreC_picks os more 0 _
theorem freeC_mem (os : List Int) : ∀ (k : Nat) (x : Int), x ∈ freeC os k → ∃ j : Nat, x = j ∧ j < k ∧ os[j]? = some 0
  | 0, x, h => by simp [freeC] at h
  | k + 1, x, h => by
    simp only [freeC, takeC] at h
    split at h
    · rename_i ho
      simp only [List.mem_append, List.mem_singleton] at h
      rcases h with h | rfl
      · obtain ⟨j, h1, h2, h3⟩ := freeC_mem os k x h
        exact ⟨j, h1, by omega, h3⟩
      · exact ⟨k, rfl, by omega, ho⟩
    · obtain ⟨j, h1, h2, h3⟩ := freeC_mem os k x h
      exact ⟨j, h1, by omega, h3⟩
theorem freeC_nodup (os : List Int) : ∀ k, (freeC os k).Nodup
  | 0 => by simp [freeC]
  | k + 1 => by
    simp only [freeC, takeC]
    split
    · rw [List.nodup_append]
      refine ⟨freeC_nodup os k, by simp, fun x hx y hy e => ?_⟩
      simp only [List.mem_singleton] at hy
      obtain ⟨j, h1, h2, _⟩ := freeC_mem os k x hx
      omega
    · exact freeC_nodup os k
theorem freeC_len (os : List Int) : ∀ k, k ≤ os.length → (freeC os k).length = (os.take k).count 0
  | 0, _ => by simp [freeC]
  | k + 1, h => by
    have hc : k < os.length := by omega
    rw [List.take_succ_eq_append_getElem hc, List.count_append]
    have hg : os[k]? = some os[k] := List.getElem?_eq_getElem hc
    simp only [freeC, takeC, hg]
    by_cases e : os[k] = 0
    · rw [if_pos (by rw [e]), List.length_append, freeC_len os k (by omega), e]
      simp
    · rw [if_neg (by simpa using e), freeC_len os k (by omega)]
      simp [e]
theorem picks_mem (os : List Int) : ∀ (ks : List Int) (i : Nat) (x : Int), x ∈ picks os i ks → ∃ j q : Nat, x = j ∧ j < os.length ∧ i ≤ q ∧ os[j]? = some ((q : Int) + 1) ∧ ∃ k, ks[q - i]? = some k ∧ 0 < k
  | [], i, x, h => by simp [picks] at h
  | k :: ks, i, x, h => by
    simp only [picks, List.mem_append] at h
    rcases h with h | h
    · obtain ⟨j, h1, h2, h3⟩ := pick_mem os _ _ _ x h
      refine ⟨j, i, h1, h2, Nat.le_refl _, h3, k, by simp, ?_⟩
      rcases Nat.eq_zero_or_pos k.toNat with h0 | h0
      · rw [h0, pick_zero] at h
        simp at h
      · omega
    · obtain ⟨j, q, h1, h2, h3, h4, k', h5, h6⟩ := picks_mem os ks (i + 1) x h
      refine ⟨j, q, h1, h2, by omega, h4, k', ?_, h6⟩
      rw [show q - i = (q - (i + 1)) + 1 by omega]
      simpa using h5
theorem picks_nodup (os : List Int) : ∀ (ks : List Int) (i : Nat), (picks os i ks).Nodup
  | [], i => by simp [picks]
  | k :: ks, i => by
    simp only [picks]
    rw [List.nodup_append]
    refine ⟨pick_nodup _ _ _ _, picks_nodup os ks (i + 1), fun x hx y hy e => ?_⟩
    subst e
    obtain ⟨j, h1, _, h3⟩ := pick_mem os _ _ _ x hx
    obtain ⟨j', q, h1', _, h4, h5, _⟩ := picks_mem os ks (i + 1) x hy
    have : j = j' := by omega
    subst this
    rw [h3] at h5
    simp at h5
    omega
theorem coresV_nodup (os more : List Int) : (coresV os more).Nodup := by
  rw [coresV_eq, List.nodup_append]
  refine ⟨freeC_nodup os _, picks_nodup os _ _, fun x hx y hy e => ?_⟩
  subst e
  obtain ⟨j, h1, _, h3⟩ := freeC_mem os _ x hx
  obtain ⟨j', q, h1', _, h4, h5, _⟩ := picks_mem os _ _ x hy
  have : j = j' := by omega
  subst this
  rw [h3] at h5
  simp at h5
  omega
/-! ### owners of a list of cores -/
def valsAt (os cs : List Int) : List Int := cs.map fun c => (os[c.toNat]?).getD 0
theorem valsAt_const {os cs : List Int} {o : Int} (h : ∀ x ∈ cs, ∃ j : Nat, x = j ∧ os[j]? = some o) : valsAt os cs = List.replicate cs.length o := by
  unfold valsAt
  rw [List.eq_replicate_iff]
  refine ⟨by simp, fun b hb => ?_⟩
  obtain ⟨x, hx, rfl⟩ := List.mem_map.1 hb
  obtain ⟨j, rfl, h2⟩ := h x hx
  simp [h2]
theorem valsAt_append (os a b : List Int) : valsAt os (a ++ b) = valsAt os a ++ valsAt os b := by simp [valsAt]
theorem picks_count (os : List Int) (v : Nat) : ∀ (ks : List Int) (i : Nat), (valsAt os (picks os i ks)).count ((v : Int) + 1) = if i ≤ v then min (((ks[v - i]?).getD 0).toNat) (os.count ((v : Int) + 1)) else 0
  | [], i => by simp [picks, valsAt]
  | k :: ks, i => by
    simp only [picks]
    rw [valsAt_append, List.count_append, picks_count os v ks (i + 1), valsAt_const (o := (i : Int) + 1) (fun x hx => by obtain ⟨j, h1, _, h3⟩ := pick_mem os _ _ _ x hx; exact ⟨j, h1, h3⟩), pick_length os _ _ _ (Nat.le_refl _), List.take_length, List.count_replicate]
    by_cases h1 : i = v
    · subst h1
      simp
      intro h
      omega
    · have h2 : ¬ ((i : Int) + 1 = (v : Int) + 1) := by omega
      rw [if_neg (by simpa using h2)]
      by_cases h3 : i ≤ v
      · rw [if_pos h3, if_pos (by omega), show v - i = (v - (i + 1)) + 1 by omega]
        simp
      · rw [if_neg h3, if_neg (by omega)]
theorem freeC_count (os : List Int) (v : Nat) (k : Nat) : (valsAt os (freeC os k)).count ((v : Int) + 1) = 0 := by
  rw [valsAt_const (o := 0) (fun x hx => by obtain ⟨j, h1, _, h3⟩ := freeC_mem os _ x hx; exact ⟨j, h1, h3⟩), List.count_replicate]
  rw [if_neg]
  simp
  omega
theorem coresV_count (os more : List Int) (v : Nat) : (valsAt os (coresV os more)).count ((v : Int) + 1) = min (((more[v]?).getD 0).toNat) (os.count ((v : Int) + 1)) := by
  rw [coresV_eq, valsAt_append, List.count_append, freeC_count, picks_count, if_pos (Nat.zero_le _)]
  simp
/-! ### what is set -/
def setAll : List Int → List Int → List Int → List Int
  | os, [], _ => os
  | os, c :: cs, ps => setAll (os.set c.toNat (ps.headD 0)) cs ps.tail
def padP : List Int → Nat → List Int
  | _, 0 => []
  | ps, k + 1 => ps.headD 0 :: padP ps.tail k
theorem padP_eq : ∀ (k : Nat) (ps : List Int), ps.length ≤ k → padP ps k = ps ++ List.replicate (k - ps.length) 0
  | 0, ps, h => by
    have : ps = [] := List.eq_nil_of_length_eq_zero (by omega)
    subst this
    rfl
  | k + 1, [], _ => by
    have := padP_eq k [] (by simp)
    simp only [padP, List.tail_nil, List.headD_nil, this]
    simp [List.replicate_succ]
  | k + 1, p :: ps, h => by
    have := padP_eq k ps (by simpa using h)
    simp only [padP, List.tail_cons, List.headD_cons, this]
    simp
def Good2 (os cs : List Int) : Prop := cs.Nodup ∧ ∀ c ∈ cs, 0 ≤ c ∧ c < (os.length : Int)
theorem Good2.tail {os cs : List Int} {c x : Int} (h : Good2 os (c :: cs)) : Good2 (os.set c.toNat x) cs :=
  ⟨(List.nodup_cons.1 h.1).2, fun y hy => by rw [List.length_set]; exact h.2 y (by simp [hy])⟩
theorem Good2.away {os cs : List Int} {c x : Int} (h : Good2 os (c :: cs)) : ∀ y ∈ cs, (os.set c.toNat x)[y.toNat]? = os[y.toNat]? := by
  intro y hy
  have h1 := h.2 y (by simp [hy])
  have h2 := h.2 c (by simp)
  have h3 : y ≠ c := fun e => (List.nodup_cons.1 h.1).1 (by rw [← e]; exact hy)
  rw [List.getElem?_set_ne (by omega)]
theorem apply_moves (os : List Int) : ∀ (cs ps cur : List Int), Good2 cur cs → (∀ c ∈ cs, cur[c.toNat]? = os[c.toNat]?) → applyV cur (movesC os cs ps) = setAll cur cs ps
  | [], ps, cur, _, _ => rfl
  | c :: cs, ps, cur, hg, he => by
    have hc := he c (by simp)
    have hr := hg.2 c (by simp)
    have hlt : c.toNat < cur.length := by omega
    have hcc : cur[c.toNat]? = some cur[c.toNat] := List.getElem?_eq_getElem hlt
    have hoc : (os[c.toNat]?).getD 0 = cur[c.toNat] := by rw [← hc, hcc]; rfl
    simp only [movesC, setAll, hoc]
    have ih := apply_moves os cs ps.tail (cur.set c.toNat (ps.headD 0)) hg.tail (fun y hy => by rw [hg.away y hy]; exact he y (by simp [hy]))
    by_cases e : ps.headD 0 = cur[c.toNat]
    · rw [if_pos e, List.nil_append, ← ih, e, List.set_getElem_self]
    · rw [if_neg e, ← ih]
      simp only [applyV, List.singleton_append, List.foldl_cons]
      congr 1
      unfold applyM
      rw [if_pos ⟨hr.1, hcc⟩]
theorem setAll_count (v : Int) : ∀ (cs ps cur : List Int), Good2 cur cs → (setAll cur cs ps).count v + (valsAt cur cs).count v = cur.count v + (padP ps cs.length).count v
  | [], ps, cur, _ => by simp [setAll, valsAt, padP]
  | c :: cs, ps, cur, hg => by
    have hr := hg.2 c (by simp)
    have hlt : c.toNat < cur.length := by omega
    have ih := setAll_count v cs ps.tail (cur.set c.toNat (ps.headD 0)) hg.tail
    have hva : valsAt (cur.set c.toNat (ps.headD 0)) cs = valsAt cur cs := by
      unfold valsAt
      apply List.map_congr_left
      intro y hy
      rw [hg.away y hy]
    rw [hva, List.count_set hlt] at ih
    have hcc : cur[c.toNat]? = some cur[c.toNat] := List.getElem?_eq_getElem hlt
    have hle : (if cur[c.toNat] == v then 1 else 0) ≤ cur.count v := by
      split
      · rename_i h
        rw [beq_iff_eq] at h
        exact List.count_pos_iff.2 (by rw [← h]; exact List.getElem_mem hlt)
      · exact Nat.zero_le _
    have e1 : valsAt cur (c :: cs) = cur[c.toNat] :: valsAt cur cs := by simp [valsAt, hcc]
    have e2 : padP ps (c :: cs).length = ps.headD 0 :: padP ps.tail cs.length := rfl
    rw [e1, e2, List.count_cons, List.count_cons]
    simp only [setAll]
    omega
theorem setAll_length : ∀ (cs ps cur : List Int), (setAll cur cs ps).length = cur.length
  | [], _, _ => rfl
  | c :: cs, ps, cur => by simp only [setAll]; rw [setAll_length cs]; simp
theorem setAll_mem : ∀ (cs ps cur : List Int) (x : Int), x ∈ setAll cur cs ps → x ∈ cur ∨ x = 0 ∨ x ∈ ps
  | [], _, _, x, h => .inl h
  | c :: cs, ps, cur, x, h => by
    simp only [setAll] at h
    rcases setAll_mem cs ps.tail _ x h with h | h | h
    · rcases List.mem_or_eq_of_mem_set h with h | h
      · exact .inl h
      · cases ps with
        | nil => exact .inr (.inl (by simpa using h))
        | cons p ps => exact .inr (.inr (by simp at h; simp [h]))
    · exact .inr (.inl h)
    · exact .inr (.inr (List.mem_of_mem_tail h))
/-! ### places -/
theorem placesF_count (v : Nat) : ∀ (ks : List Int) (s : Nat), (placesF s ks).count ((v : Int) + 1) = if s ≤ v then ((ks[v - s]?).getD 0).toNat else 0
  | [], s => by simp [placesF]
  | k :: ks, s => by
    simp only [placesF]
    rw [List.count_append, placesF_count v ks (s + 1), List.count_replicate]
    by_cases h1 : s = v
    · subst h1
      simp
      intro h
      omega
    · have h2 : ¬ ((s : Int) + 1 = (v : Int) + 1) := by omega
      rw [if_neg (by simpa using h2)]
      by_cases h3 : s ≤ v
      · rw [if_pos h3, if_pos (by omega), show v - s = (v - (s + 1)) + 1 by omega]
        simp
      · rw [if_neg h3, if_neg (by omega)]
theorem placesF_mem : ∀ (ks : List Int) (s : Nat) (x : Int), x ∈ placesF s ks → ∃ q : Nat, x = (q : Int) + 1 ∧ s ≤ q ∧ q < s + ks.length
  | [], s, x, h => by simp [placesF] at h
  | k :: ks, s, x, h => by
    simp only [placesF, List.mem_append, List.mem_replicate] at h
    rcases h with ⟨_, rfl⟩ | h
    · exact ⟨s, rfl, Nat.le_refl _, by simp⟩
    · obtain ⟨q, h1, h2, h3⟩ := placesF_mem ks (s + 1) x h
      exact ⟨q, h1, by omega, by simp; omega⟩
def sumI : List Int → Int
  | [] => 0
  | x :: l => x + sumI l
theorem sumI_append (a b : List Int) : sumI (a ++ b) = sumI a + sumI b := by
  induction a with
  | nil => simp [sumI]
  | cons x a ih => simp only [List.cons_append, sumI, ih]; omega
theorem placesF_length : ∀ (ks : List Int) (s : Nat), (∀ k ∈ ks, 0 ≤ k) → ((placesF s ks).length : Int) = sumI ks
  | [], s, _ => by simp [placesF, sumI]
  | k :: ks, s, h => by
    have ih := placesF_length ks (s + 1) (fun k hk => h k (by simp [hk]))
    have h1 := h k (by simp)
    simp only [placesF, sumI, List.length_append, List.length_replicate]
    omega
end Go.Proofs.Ytjpclnmohemjlaa
