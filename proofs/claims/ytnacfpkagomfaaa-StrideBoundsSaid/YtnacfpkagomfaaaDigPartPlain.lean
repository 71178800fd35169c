/- Division, bit by bit: plain. -/
import Derived.Test.YtnacfpkagomfaaaDigSumPlain
namespace Go.Proofs.Ytnacfpkagomfaaa
/-- Behind the bits from i on: q times B and r are what stands there. -/
structure PartJ (A B : Int) (i : Nat) (q r : Int) : Prop where
  eq : A / 2 ^ i = q * B + r
  q0 : 0 ≤ q
  r0 : 0 ≤ r
  r1 : r < B
  qa : q ≤ A
theorem pow2_pos (i : Nat) : (1 : Int) ≤ 2 ^ i := by
  induction i with
  | zero => decide
  | succ i ih => rw [Int.pow_succ]; omega
theorem div_pow_succ (A : Int) (i : Nat) : A / 2 ^ i = 2 * (A / 2 ^ (i + 1)) + A / 2 ^ i % 2 := by
  have h : A / 2 ^ (i + 1) = A / 2 ^ i / 2 := by
    rw [Int.pow_succ, Int.mul_comm, Int.ediv_ediv_of_nonneg (by have := pow2_pos i; omega), Int.mul_comm]
  rw [h]
  omega
theorem le_mul_pos {q B : Int} (hq : 0 ≤ q) (hB : 1 ≤ B) : q ≤ q * B := by
  have := Int.mul_le_mul_of_nonneg_left (c := q) hB hq
  rwa [Int.mul_one] at this
theorem PartJ.step {A B : Int} {i : Nat} {q r : Int} (h : PartJ A B (i + 1) q r) (hA : 0 ≤ A) (hB : 1 ≤ B) {t : Int} (ht : t = A / 2 ^ i % 2) :
    (2 * r + t < B → PartJ A B i (2 * q) (2 * r + t)) ∧ (B ≤ 2 * r + t → PartJ A B i (2 * q + 1) (2 * r + t - B)) ∧ 0 ≤ 2 * r + t ∧ 0 ≤ t ∧ t ≤ 1 := by
  have e := div_pow_succ A i
  have h1 := h.eq
  have h2 := h.q0
  have h3 := h.r0
  have h4 := h.r1
  rw [← ht, h1, Int.mul_add, ← Int.mul_assoc] at e
  have hp := pow2_pos i
  have hle : A / 2 ^ i ≤ A := Int.ediv_le_self _ hA
  have ht2 : 0 ≤ t ∧ t ≤ 1 := by rw [ht]; omega
  have hq2 := le_mul_pos (q := 2 * q) (by omega) hB
  have hq3 := le_mul_pos (q := 2 * q + 1) (by omega) hB
  have hm : (2 * q + 1) * B = 2 * q * B + B := by rw [Int.add_mul, Int.one_mul]
  exact ⟨fun h => ⟨by omega, by omega, by omega, by omega, by omega⟩, fun h => ⟨by omega, by omega, by omega, by omega, by omega⟩, by omega, ht2.1, ht2.2⟩
theorem PartJ.start {A B : Int} {n : Nat} (_hA : 0 ≤ A) (h : A < pw n) (hB : 1 ≤ B) : PartJ A B (16 * n) 0 0 := by
  have e : pw n = 2 ^ (16 * n) := by unfold pw; rw [show (65536 : Int) = 2 ^ 16 from rfl, ← Int.pow_mul]
  rw [e] at h
  exact ⟨by rw [Int.ediv_eq_zero_of_lt _hA h]; simp, by omega, by omega, by omega, _hA⟩
/-- What both parts are in the end. -/
theorem part_done {x y q r Q : Int} (hy : y ≠ 0) (h : PartJ x.natAbs y.natAbs 0 q r) (hQ : Q = if decide (x < 0) = decide (y < 0) then q else if 0 < r then -q + -1 else -q) :
    x = Q * y + (x + -(Q * y)) ∧ (0 < y → 0 ≤ x + -(Q * y) ∧ x + -(Q * y) < y) ∧ (y < 0 → y < x + -(Q * y) ∧ x + -(Q * y) ≤ 0) := by
  have e := h.eq
  rw [Int.pow_zero, Int.ediv_one] at e
  have h1 := h.r0
  have h2 := h.r1
  refine ⟨by omega, ?_⟩
  rcases Int.lt_or_gt_of_ne hy with hy' | hy'
  · have ey : ((y.natAbs : Nat) : Int) = -y := by omega
    rw [ey] at e h2
    rw [Int.mul_neg] at e
    by_cases hx : x < 0
    · have ex : ((x.natAbs : Nat) : Int) = -x := by omega
      rw [ex] at e
      rw [if_pos (by simp [hx, hy'])] at hQ
      subst hQ
      generalize Q * y = m at *
      omega
    · have ex : ((x.natAbs : Nat) : Int) = x := by omega
      rw [ex] at e
      rw [if_neg (by simp [hx, hy'])] at hQ
      by_cases hr : 0 < r
      · rw [if_pos hr] at hQ
        subst hQ
        rw [Int.add_mul, Int.neg_mul, Int.neg_mul, Int.one_mul]
        generalize q * y = m at *
        omega
      · rw [if_neg hr] at hQ
        subst hQ
        rw [Int.neg_mul]
        generalize q * y = m at *
        omega
  · have ey : ((y.natAbs : Nat) : Int) = y := by omega
    have hy2 : ¬ y < 0 := by omega
    rw [ey] at e h2
    by_cases hx : x < 0
    · have ex : ((x.natAbs : Nat) : Int) = -x := by omega
      rw [ex] at e
      rw [if_neg (by simp [hx, hy2])] at hQ
      by_cases hr : 0 < r
      · rw [if_pos hr] at hQ
        subst hQ
        rw [Int.add_mul, Int.neg_mul, Int.neg_mul, Int.one_mul]
        generalize q * y = m at *
        omega
      · rw [if_neg hr] at hQ
        subst hQ
        rw [Int.neg_mul]
        generalize q * y = m at *
        omega
    · have ex : ((x.natAbs : Nat) : Int) = x := by omega
      rw [ex] at e
      rw [if_pos (by simp [hx, hy2])] at hQ
      subst hQ
      generalize Q * y = m at *
      omega
theorem pw_two (k : Nat) : pw k = 2 ^ (16 * k) := by unfold pw; rw [show (65536 : Int) = 2 ^ 16 from rfl, ← Int.pow_mul]
/-- One bit of a size. -/
theorem bit_val {ds : List Int} (hd : Dig ds) (i : Nat) : (ds.getD (i / 16) 0) / 2 ^ (i % 16) % 2 = valD ds / 2 ^ i % 2 := by
  obtain ⟨k, j, hj, rfl⟩ : ∃ k j, j < 16 ∧ i = 16 * k + j := ⟨i / 16, i % 16, by omega, by omega⟩
  rw [show (16 * k + j) / 16 = k by omega, show (16 * k + j) % 16 = j by omega]
  have hsp : valD ds = valD (ds.take k) + pw k * valD (ds.drop k) := by
    rcases Nat.lt_or_ge k ds.length with h | h
    · have := valD_append (ds.take k) (ds.drop k)
      rw [List.take_append_drop, List.length_take, Nat.min_eq_left (by omega)] at this
      exact this
    · rw [List.take_of_length_le h, List.drop_of_length_le h, valD]; omega
  have hb := valD_bd (dig_take hd k)
  have hlt : valD (ds.take k) < pw k := by
    have := pw_mono (show (ds.take k).length ≤ k by rw [List.length_take]; omega)
    omega
  have hdiv : valD ds / 2 ^ (16 * k) = valD (ds.drop k) := by
    rw [hsp, ← pw_two, Int.add_mul_ediv_left _ _ (by have := pw_pos k; omega), Int.ediv_eq_zero_of_lt hb.1 hlt, Int.zero_add]
  have hdd : valD (ds.drop k) = ds.getD k 0 + 65536 * valD (ds.drop (k + 1)) := by
    rcases Nat.lt_or_ge k ds.length with h | h
    · rw [show ds.drop k = ds[k] :: ds.drop (k + 1) by rw [List.getElem_cons_drop], valD]
      simp [List.getD_eq_getElem?_getD, h]
    · rw [List.drop_of_length_le h, List.drop_of_length_le (by omega), valD]
      simp [List.getD_eq_getElem?_getD, h]
  rw [Int.pow_add, ← Int.ediv_ediv_of_nonneg (by have := pow2_pos (16 * k); omega), hdiv, hdd]
  have h6 : (65536 : Int) = 2 ^ j * (2 * 2 ^ (15 - j)) := by
    rw [show (2 : Int) * 2 ^ (15 - j) = 2 ^ (16 - j) by rw [show 16 - j = (15 - j) + 1 by omega, Int.pow_succ, Int.mul_comm], ← Int.pow_add, show j + (16 - j) = 16 by omega]
    rfl
  rw [h6, Int.mul_assoc, Int.add_mul_ediv_left _ _ (by have := pow2_pos j; omega), Int.mul_assoc]
  omega
end Go.Proofs.Ytnacfpkagomfaaa
