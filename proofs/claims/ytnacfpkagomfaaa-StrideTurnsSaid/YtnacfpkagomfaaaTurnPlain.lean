/- Turns by strides: plain. -/
import Derived.Test.YtnacfpkagomfaaaStrideWithin
import Derived.Test.YtnacfpkagomfaaaStrideBound2
namespace Go.Proofs.Ytnacfpkagomfaaa
def sd (t : List Int) (i : Nat) : Int := strideV (t.getD i 0)
def RightL (t : List Int) : Prop := t.length ≤ 8 ∧ ∀ x ∈ t, 1 ≤ x ∧ x ≤ 65536
theorem RightL.at_ {t : List Int} (h : RightL t) {i : Nat} (hi : i < t.length) : 1 ≤ t.getD i 0 ∧ t.getD i 0 ≤ 65536 := by
  rw [show t.getD i 0 = t[i] by simp [List.getD_eq_getElem?_getD, hi]]
  exact h.2 _ (List.getElem_mem hi)
theorem RightL.sd {t : List Int} (h : RightL t) {i : Nat} (hi : i < t.length) : 16777216 ≤ sd t i ∧ sd t i ≤ 1099511627776 := strideV_in (h.at_ hi)
def sumR (f : Nat → Int) : Nat → Int
  | 0 => 0
  | n + 1 => sumR f n + f n
theorem sumR_congr {f g : Nat → Int} : ∀ {n : Nat}, (∀ j, j < n → f j = g j) → sumR f n = sumR g n
  | 0, _ => rfl
  | n + 1, h => by simp only [sumR]; rw [sumR_congr (fun j hj => h j (by omega)), h n (by omega)]
theorem sumR_zero : ∀ n, sumR (fun _ => 0) n = 0
  | 0 => rfl
  | n + 1 => by simp only [sumR]; rw [sumR_zero n]; rfl
theorem sumR_inc (f : Nat → Int) (b : Nat) : ∀ n, sumR (fun j => if j = b then f j + 1 else f j) n = sumR f n + if b < n then 1 else 0
  | 0 => by simp [sumR]
  | n + 1 => by
    simp only [sumR]
    rw [sumR_inc f b n]
    by_cases h : n = b
    · subst h; simp; omega
    · by_cases h2 : b < n
      · simp [h, h2, show b < n + 1 by omega]; omega
      · simp [h, h2, show ¬ b < n + 1 by omega]
theorem sumF_range (f : Int → Int) (t : List Int) : sumF f t = sumR (fun j => f (t.getD j 0)) t.length := by
  have : ∀ k, k ≤ t.length → sumF f (t.take k) = sumR (fun j => f (t.getD j 0)) k := by
    intro k
    induction k with
    | zero => intro _; simp [sumF, sumR]
    | succ k ih =>
      intro hk
      rw [List.take_succ_eq_append_getElem (by omega), sumF_snoc, ih (by omega)]
      simp only [sumR]
      rw [show t.getD k 0 = t[k] by simp [List.getD_eq_getElem?_getD, show k < t.length by omega]]
  have h := this t.length (Nat.le_refl _)
  rwa [List.take_length] at h
structure Turn (t pass n since : List Int) (k : Nat) : Prop where
  lp : pass.length = t.length
  ln : n.length = t.length
  ls : since.length = t.length
  pv : ∀ i, i < t.length → pass.getD i 0 = n.getD i 0 * sd t i
  nn : ∀ i, i < t.length → 0 ≤ n.getD i 0 ∧ n.getD i 0 ≤ k
  lead : ∀ i j, i < t.length → j < t.length → pass.getD i 0 ≤ pass.getD j 0 + sd t i
  wait : ∃ c : Nat → Nat → Int, (∀ i j, i < t.length → j < t.length → 0 ≤ c i j ∧ c i j ≤ sd t i / sd t j + 1 ∧ pass.getD i 0 - sd t i ≤ pass.getD j 0 - c i j * sd t j) ∧ (∀ i, i < t.length → c i i = 0) ∧ (∀ i, i < t.length → since.getD i 0 = sumR (c i) t.length)
theorem getD_rep (n i : Nat) : (List.replicate n (0 : Int)).getD i 0 = 0 := by
  by_cases h : i < n <;> simp [List.getD_eq_getElem?_getD, h]
theorem Turn.start {t : List Int} (h : RightL t) : Turn t (List.replicate t.length 0) (List.replicate t.length 0) (List.replicate t.length 0) 0 := by
  refine ⟨by simp, by simp, by simp, fun i _ => by rw [getD_rep]; simp, fun i _ => by rw [getD_rep]; omega, fun i j hi _ => by rw [getD_rep, getD_rep]; have := h.sd hi; omega, fun _ _ => 0, ?_, fun _ _ => rfl, fun i _ => by rw [getD_rep, sumR_zero]⟩
  intro i j hi hj
  rw [getD_rep, getD_rep]
  have h1 := h.sd hi
  have h2 := h.sd hj
  have : 0 ≤ sd t i / sd t j := Int.ediv_nonneg (by omega) (by omega)
  refine ⟨Int.le_refl _, ?_, ?_⟩
  · show (0 : Int) ≤ _; omega
  · show (0 : Int) - sd t i ≤ 0 - 0 * sd t j; omega
theorem getD_set' (x : List Int) (i j : Nat) (v : Int) (hi : i < x.length) : (x.set i v).getD j 0 = if j = i then v else x.getD j 0 := by
  simp only [List.getD_eq_getElem?_getD, List.getElem?_set]
  by_cases h : i = j
  · subst h; simp [hi]
  · simp [h, Ne.symm h]
def incL (since : List Int) : List Int := since.map (· + 1)
theorem incL_get {since : List Int} {i : Nat} (h : i < since.length) : (incL since).getD i 0 = since.getD i 0 + 1 := by
  simp [incL, List.getD_eq_getElem?_getD, h]
theorem Turn.step {t pass n since : List Int} {k b : Nat} (h : Turn t pass n since k) (ht : RightL t) (hb : b < t.length) (hm : ∀ j, j < t.length → pass.getD b 0 ≤ pass.getD j 0) :
    Turn t (pass.set b (pass.getD b 0 + sd t b)) (n.set b (n.getD b 0 + 1)) ((incL since).set b 0) (k + 1) := by
  have hsb := ht.sd hb
  obtain ⟨c, hc, hc0, hcs⟩ := h.wait
  have hpb : b < pass.length := by rw [h.lp]; exact hb
  have hnb : b < n.length := by rw [h.ln]; exact hb
  have hib : b < (incL since).length := by simp [incL, h.ls]; exact hb
  refine ⟨by simp [h.lp], by simp [h.ln], by simp [incL, h.ls], ?_, ?_, ?_, fun i j => if i = b then 0 else if j = b then c i b + 1 else c i j, ?_, ?_, ?_⟩
  · intro i hi
    rw [getD_set' _ _ _ _ hpb, getD_set' _ _ _ _ hnb]
    by_cases hib : i = b
    · subst hib
      rw [if_pos rfl, if_pos rfl, h.pv i hi, Int.add_mul, Int.one_mul]
    · rw [if_neg hib, if_neg hib]
      exact h.pv i hi
  · intro i hi
    rw [getD_set' _ _ _ _ hnb]
    have h1 := h.nn i hi
    have h2 := h.nn b hb
    split <;> omega
  · intro i j hi hj
    rw [getD_set' _ _ _ _ hpb, getD_set' _ _ _ _ hpb]
    have h1 := h.lead i j hi hj
    have h2 := hm j hj
    have h3 := ht.sd hi
    by_cases hib : i = b
    · subst hib
      rw [if_pos rfl]
      by_cases hjb : j = i
      · rw [if_pos hjb]; omega
      · rw [if_neg hjb]; omega
    · rw [if_neg hib]
      by_cases hjb : j = b
      · subst hjb; rw [if_pos rfl]; omega
      · rw [if_neg hjb]; exact h1
  · intro i j hi hj
    rw [getD_set' _ _ _ _ hpb, getD_set' _ _ _ _ hpb]
    have hsi := ht.sd hi
    have hsj := ht.sd hj
    have hq : 0 ≤ sd t i / sd t j := Int.ediv_nonneg (by omega) (by omega)
    by_cases hib : i = b
    · subst hib
      simp only [if_true]
      have h2 := hm j hj
      by_cases hjb : j = i
      · rw [if_pos hjb]; omega
      · rw [if_neg hjb]; omega
    · simp only [hib, if_false]
      by_cases hjb : j = b
      · subst hjb
        simp only [if_true]
        obtain ⟨c1, c2, c3⟩ := hc i j hi hj
        have h2 := hm i hi
        have h4 : c i j ≤ sd t i / sd t j := by
          rw [Int.le_ediv_iff_mul_le (by omega)]
          omega
        rw [Int.add_mul, Int.one_mul]
        omega
      · simp only [hjb, if_false]
        exact hc i j hi hj
  · intro i hi
    by_cases hib : i = b
    · simp [hib]
    · simp only [hib, if_false]
      exact hc0 i hi
  · intro i hi
    rw [getD_set' _ _ _ _ hib]
    by_cases hib2 : i = b
    · rw [if_pos hib2]
      simp only [hib2, if_true]
      rw [sumR_zero]
    · rw [if_neg hib2, incL_get (by rw [h.ls]; exact hi), hcs i hi]
      simp only [hib2, if_false]
      have := sumR_inc (c i) b t.length
      rw [if_pos hb] at this
      rw [← this]
      exact sumR_congr (fun j _ => by by_cases hj : j = b <;> simp [hj])
theorem Turn.pass_in {t pass n since : List Int} {k : Nat} (h : Turn t pass n since k) (ht : RightL t) (hk : k ≤ 300) {i : Nat} (hi : i < t.length) : 0 ≤ pass.getD i 0 ∧ pass.getD i 0 ≤ 329853488332800 := by
  rw [h.pv i hi]
  have h1 := h.nn i hi
  have h2 := ht.sd hi
  refine ⟨Int.mul_nonneg h1.1 (by omega), ?_⟩
  have h3 : n.getD i 0 * sd t i ≤ 300 * sd t i := Int.mul_le_mul_of_nonneg_right (by omega) (by omega)
  omega
theorem Turn.since_in {t pass n since : List Int} {k : Nat} (h : Turn t pass n since k) (ht : RightL t) {i : Nat} (hi : i < t.length) : 0 ≤ since.getD i 0 ∧ since.getD i 0 + 1 ≤ boundV t i ∧ boundV t i ≤ 9000000000000 := by
  obtain ⟨c, hc, hc0, hcs⟩ := h.wait
  have hv : allV t (i : Int) = true := allV_iff.2 ⟨by have := ht.1; omega, by omega, by omega, ht.2⟩
  have hsi := ht.sd hi
  have hb : boundV t (i : Int) = sumR (fun j => 2 + sd t i / sd t j) t.length := by
    unfold boundV
    rw [if_pos hv, Int.toNat_natCast, sumF_range]
    rfl
  have hk : ∀ K, K ≤ t.length → 0 ≤ sumR (c i) K ∧ sumR (c i) K + K ≤ sumR (fun j => 2 + sd t i / sd t j) K ∧ sumR (fun j => 2 + sd t i / sd t j) K ≤ K * 1099511627778 := by
    intro K
    induction K with
    | zero => intro _; simp [sumR]
    | succ K ih =>
      intro hK
      have h1 := ih (by omega)
      obtain ⟨c1, c2, _⟩ := hc i K hi (by omega)
      have hsk := ht.sd (show K < t.length by omega)
      have h2 : sd t i / sd t K ≤ sd t i := Int.ediv_le_self _ (by omega)
      simp only [sumR]
      refine ⟨by omega, by push_cast; omega, by push_cast; omega⟩
  have h1 := hk t.length (Nat.le_refl _)
  rw [hcs i hi, hb]
  have h8 := ht.1
  refine ⟨h1.1, by omega, by omega⟩
/-- Shares stand near. -/
theorem near_one {s a u b n m : Int} (ha : 1 ≤ a ∧ a ≤ 65536) (hb : 1 ≤ b ∧ b ≤ 65536) (hs : s = 1099511627776 / a) (hu : u = 1099511627776 / b) (hn : 0 ≤ n ∧ n ≤ 300) (hm : 0 ≤ m) (h : n * s ≤ m * u + s) : n * b - m * a ≤ 2 * b := by
  have e1 : s * a ≤ 1099511627776 ∧ 1099511627776 - 65536 ≤ s * a := by
    have h1 := Int.mul_ediv_add_emod 1099511627776 a
    have h2 := Int.emod_lt_of_pos (1099511627776 : Int) (show 0 < a by omega)
    have h3 := Int.emod_nonneg (1099511627776 : Int) (show a ≠ 0 by omega)
    rw [← hs, Int.mul_comm] at h1
    omega
  have e2 : u * b ≤ 1099511627776 := by
    have h1 := Int.mul_ediv_add_emod 1099511627776 b
    have h3 := Int.emod_nonneg (1099511627776 : Int) (show b ≠ 0 by omega)
    rw [← hu, Int.mul_comm] at h1
    omega
  have hab : 0 ≤ a * b := Int.mul_nonneg (by omega) (by omega)
  have h1 := Int.mul_le_mul_of_nonneg_right h hab
  have f1 : n * s * (a * b) = (n * b) * (s * a) := by
    rw [Int.mul_assoc, Int.mul_assoc]; congr 1
    rw [← Int.mul_assoc, Int.mul_comm (s * a) b]
  have f2 : (m * u + s) * (a * b) = (m * a) * (u * b) + b * (s * a) := by
    rw [Int.add_mul]
    congr 1
    · rw [Int.mul_assoc, Int.mul_assoc]; congr 1
      rw [← Int.mul_assoc, Int.mul_comm u a, Int.mul_assoc]
    · rw [← Int.mul_assoc, Int.mul_comm]
  rw [f1, f2] at h1
  have g1 : (n * b) * (1099511627776 - 65536) ≤ (n * b) * (s * a) := Int.mul_le_mul_of_nonneg_left e1.2 (Int.mul_nonneg hn.1 (by omega))
  have g2 : (m * a) * (u * b) ≤ (m * a) * 1099511627776 := Int.mul_le_mul_of_nonneg_left e2 (Int.mul_nonneg hm (by omega))
  have g3 : b * (s * a) ≤ b * 1099511627776 := Int.mul_le_mul_of_nonneg_left e1.1 (by omega)
  have g4 : n * b ≤ 300 * b := Int.mul_le_mul_of_nonneg_right hn.2 (by omega)
  generalize n * b = D at *
  generalize m * a = E at *
  generalize D * (s * a) = X at *
  generalize E * (u * b) = Y at *
  generalize b * (s * a) = Z at *
  omega
theorem right_of {x : Int} (h : 1 ≤ x ∧ x ≤ 65536) : rightT x = true := decide_eq_true h
theorem Turn.near {t pass n since : List Int} {k : Nat} (h : Turn t pass n since k) (ht : RightL t) (hk : k ≤ 300) {i j : Nat} (hi : i < t.length) (hj : j < t.length) : withinV (n.getD i 0) (t.getD i 0) (n.getD j 0) (t.getD j 0) 1 = true := by
  have ai := ht.at_ hi
  have aj := ht.at_ hj
  have hsi : sd t i = 1099511627776 / t.getD i 0 := by unfold sd strideV; rw [if_pos (right_of ai)]
  have hsj : sd t j = 1099511627776 / t.getD j 0 := by unfold sd strideV; rw [if_pos (right_of aj)]
  have l1 := h.lead i j hi hj
  have l2 := h.lead j i hj hi
  rw [h.pv i hi, h.pv j hj] at l1 l2
  have ni := h.nn i hi
  have nj := h.nn j hj
  have r1 := near_one ai aj hsi hsj ⟨ni.1, by omega⟩ nj.1 l1
  have r2 := near_one aj ai hsj hsi ⟨nj.1, by omega⟩ ni.1 l2
  unfold withinV
  rw [if_neg (by omega), right_of ai, right_of aj, if_pos (show (true && true) = true from rfl)]
  unfold nearV
  simp only [decide_eq_true_eq]
  generalize n.getD i 0 * t.getD j 0 = D at *
  generalize n.getD j 0 * t.getD i 0 = E at *
  omega
end Go.Proofs.Ytnacfpkagomfaaa
