/- Owners, counts, needs: plain lists, no program. -/
import Derived.WalkKit
import Derived.IntWalk
namespace Go.Proofs.Ytjpclnmohemjlaa
open Go.RowKit
def I64 (n : Int) : Prop := -9223372036854775808 ≤ n ∧ n < 9223372036854775808
instance (n : Int) : Decidable (I64 n) := by unfold I64; infer_instance
theorem i64_of_wf {n : Int} (h : (Lit.int .i64 n).wf = true) : I64 n := by
  have hmin : IntKind.i64.min = -9223372036854775808 := rfl
  have hmax : IntKind.i64.max = 9223372036854775807 := rfl
  simp only [Lit.wf, Bool.and_eq_true, decide_eq_true_eq] at h
  unfold I64
  omega
def wrongO (n o : Int) : Bool := decide (o < 0) || decide (n < o)
def goodB (os : List Int) (n : Int) : Bool := decide (os.length ≤ 64) && decide (0 ≤ n) && decide (n ≤ 64) && !os.any (wrongO n)
structure Good9 (os : List Int) (n : Int) : Prop where
  len : os.length ≤ 64
  n0 : 0 ≤ n
  n1 : n ≤ 64
  each : ∀ o ∈ os, 0 ≤ o ∧ o ≤ n
theorem goodB_iff {os : List Int} {n : Int} : goodB os n = true ↔ Good9 os n := by
  constructor
  · intro h
    simp only [goodB, wrongO, Bool.and_eq_true, decide_eq_true_eq, Bool.not_eq_true', List.any_eq_false, Bool.or_eq_true, not_or, Int.not_lt] at h
    exact ⟨h.1.1.1, h.1.1.2, h.1.2, fun o ho => h.2 o ho⟩
  · intro h
    simp only [goodB, wrongO, Bool.and_eq_true, decide_eq_true_eq, Bool.not_eq_true', List.any_eq_false, Bool.or_eq_true, not_or, Int.not_lt]
    exact ⟨⟨⟨h.len, h.n0⟩, h.n1⟩, fun o ho => h.each o ho⟩
/-- How many of each. -/
def hist (os : List Int) (m : Nat) : List Int := (List.range m).map fun i : Nat => ((os.count (i : Int) : Nat) : Int)
theorem hist_length (os : List Int) (m : Nat) : (hist os m).length = m := by simp [hist]
theorem hist_get (os : List Int) (m i : Nat) (h : i < m) : (hist os m)[i]? = some ((os.count (i : Int) : Nat) : Int) := by simp [hist, h]
theorem hist_nil (m : Nat) : hist [] m = List.replicate m 0 := by
  apply List.ext_getElem?
  intro j
  by_cases h : j < m <;> simp [hist, h]
theorem hist_snoc (os : List Int) (m : Nat) (o : Int) (h0 : 0 ≤ o) : hist (os ++ [o]) m = (hist os m).set o.toNat ((os.count o : Nat) + 1 : Int) := by
  apply List.ext_getElem?
  intro j
  rw [List.getElem?_set]
  by_cases h : j < m
  · rw [hist_get _ _ _ h, hist_get _ _ _ h, hist_length, List.count_append]
    by_cases e : o.toNat = j
    · rw [if_pos e, if_pos (by omega)]
      have e2 : (j : Int) = o := by omega
      rw [e2]
      simp
    · rw [if_neg e]
      have e2 : ¬ o = (j : Int) := by omega
      simp [e2]
  · have h1 : (hist (os ++ [o]) m)[j]? = none := List.getElem?_eq_none (by rw [hist_length]; omega)
    have h2 : (hist os m)[j]? = none := List.getElem?_eq_none (by rw [hist_length]; omega)
    rw [h1, h2, hist_length]
    split
    · rw [if_neg (by omega)]
    · rfl
/-- How many each has: the owners 1 and on. -/
def cntL (os : List Int) (m : Nat) : List Int := (List.range m).map fun i : Nat => ((os.count ((i : Int) + 1) : Nat) : Int)
theorem cntL_length (os : List Int) (m : Nat) : (cntL os m).length = m := by simp [cntL]
theorem cntL_get (os : List Int) (m i : Nat) (h : i < m) : (cntL os m)[i]? = some ((os.count ((i : Int) + 1) : Nat) : Int) := by simp [cntL, h]
theorem cntL_hist (os : List Int) (m : Nat) : (hist os (m + 1)).drop 1 = cntL os m := by
  apply List.ext_getElem?
  intro j
  rw [List.getElem?_drop]
  by_cases h : j < m
  · rw [hist_get _ _ _ (by omega), cntL_get _ _ _ h]
    rw [show ((1 + j : Nat) : Int) = (j : Int) + 1 from by omega]
  · rw [List.getElem?_eq_none (by rw [hist_length]; omega), List.getElem?_eq_none (by rw [cntL_length]; omega)]
theorem cntL_nil (m : Nat) : cntL [] m = List.replicate m 0 := by
  apply List.ext_getElem?
  intro j
  by_cases h : j < m <;> simp [cntL, h]
theorem cntL_snoc (os : List Int) (m : Nat) (o : Int) (h0 : 0 < o) : cntL (os ++ [o]) m = (cntL os m).set (o - 1).toNat ((os.count o : Nat) + 1 : Int) := by
  apply List.ext_getElem?
  intro j
  rw [List.getElem?_set]
  by_cases h : j < m
  · rw [cntL_get _ _ _ h, cntL_get _ _ _ h, cntL_length, List.count_append]
    by_cases e : (o - 1).toNat = j
    · rw [if_pos e, if_pos (by omega)]
      have e2 : (j : Int) + 1 = o := by omega
      rw [e2]
      simp
    · rw [if_neg e]
      have e2 : ¬ o = (j : Int) + 1 := by omega
      simp [e2]
  · have h1 : (cntL (os ++ [o]) m)[j]? = none := List.getElem?_eq_none (by rw [cntL_length]; omega)
    have h2 : (cntL os m)[j]? = none := List.getElem?_eq_none (by rw [cntL_length]; omega)
    rw [h1, h2, cntL_length]
    split
    · rw [if_neg (by omega)]
    · rfl
theorem cntL_zero (os : List Int) (m : Nat) (o : Int) (h0 : o ≤ 0) : cntL (os ++ [o]) m = cntL os m := by
  unfold cntL
  apply List.map_congr_left
  intro i _
  rw [List.count_append]
  have e2 : ¬ o = (i : Int) + 1 := by omega
  simp [e2]
def countV (os : List Int) (n : Int) : List Int := if goodB os n then cntL os n.toNat else []
def rightB (os ts : List Int) : Bool := goodB os ts.length && !ts.any (fun t => decide (t < 0))
structure Right9 (os ts : List Int) : Prop where
  good : Good9 os ts.length
  pos : ∀ t ∈ ts, 0 ≤ t
theorem rightB_iff {os ts : List Int} : rightB os ts = true ↔ Right9 os ts := by
  unfold rightB
  rw [Bool.and_eq_true, goodB_iff]
  simp only [Bool.not_eq_true', List.any_eq_false, decide_eq_true_eq, Int.not_lt]
  exact ⟨fun h => ⟨h.1, h.2⟩, fun h => ⟨h.good, h.pos⟩⟩
/-- How many too many, how many lacking: the first k of them; 0 behind. -/
def moreL (cs ts : List Int) : List Int := List.zipWith (fun c t => max (c - t) 0) cs ts
def lackL (cs ts : List Int) : List Int := List.zipWith (fun c t => max (t - c) 0) cs ts
def needV (os ts : List Int) : List Int × List Int := if rightB os ts then (moreL (cntL os ts.length) ts, lackL (cntL os ts.length) ts) else ([], [])
/-- The first k of xs, then 0 for each. -/
def upto (k : Nat) (xs : List Int) : List Int := xs.take k ++ List.replicate (xs.length - k) 0
theorem upto_zero (xs : List Int) : upto 0 xs = List.replicate xs.length 0 := by simp [upto]
theorem upto_all (xs : List Int) (k : Nat) (h : xs.length ≤ k) : upto k xs = xs := by
  unfold upto
  rw [List.take_of_length_le h, show xs.length - k = 0 from by omega]
  simp
theorem upto_length (k : Nat) (xs : List Int) (h : k ≤ xs.length) : (upto k xs).length = xs.length := by
  unfold upto
  simp
  omega
theorem upto_succ (k : Nat) (xs : List Int) (x : Int) (h : xs[k]? = some x) : upto (k + 1) xs = (upto k xs).set k x := by
  have hk : k < xs.length := (List.getElem?_eq_some_iff.1 h).1
  have hx : xs[k] = x := (List.getElem?_eq_some_iff.1 h).2
  unfold upto
  rw [List.set_append, if_neg (by simp; omega)]
  have h1 : (xs.take k).length = k := by simp; omega
  rw [h1, Nat.sub_self, List.take_succ_eq_append_getElem hk, hx]
  have h2 : xs.length - k = (xs.length - (k + 1)) + 1 := by omega
  rw [h2, List.replicate_succ]
  simp
theorem upto_get (k : Nat) (xs : List Int) (h : k < xs.length) : (upto k xs)[k]? = some 0 := by
  unfold upto
  rw [List.getElem?_append_right (by simp; omega), List.getElem?_replicate, if_pos (by simp; omega)]
end Go.Proofs.Ytjpclnmohemjlaa
