/- Wide numbers multiplied: plain. -/
import Derived.Test.YtabdipfpfbdghaaDigPlain
namespace Go.Proofs.Ytabdipfpfbdghaa
theorem valD_set : ∀ (ds : List Int) (p : Nat) (v : Int), p < ds.length → valD (ds.set p v) = valD ds + pw p * (v - ds.getD p 0)
  | [], p, v, h => by simp at h
  | d :: ds, 0, v, _ => by simp [valD, pw_zero]; omega
  | d :: ds, p + 1, v, h => by
    have ih := valD_set ds p v (by simpa using h)
    simp only [List.set_cons_succ, valD, List.getD_cons_succ, pw_succ]
    rw [ih, Int.mul_add, ← Int.mul_assoc, Int.mul_comm 65536 (pw p)]
    omega
theorem dig_set {ds : List Int} (h : Dig ds) (p : Nat) {v : Int} (hv : 0 ≤ v ∧ v < 65536) : Dig (ds.set p v) := by
  intro d hd
  rcases List.mem_or_eq_of_mem_set hd with h1 | h1
  · exact h d h1
  · rw [h1]; exact hv
theorem dig_getD {ds : List Int} (h : Dig ds) (p : Nat) : 0 ≤ ds.getD p 0 ∧ ds.getD p 0 < 65536 := by
  rcases Nat.lt_or_ge p ds.length with h1 | h1
  · rw [show ds.getD p 0 = ds[p] by simp [List.getD_eq_getElem?_getD, h1]]
    exact h _ (List.getElem_mem h1)
  · rw [show ds.getD p 0 = 0 by simp [List.getD_eq_getElem?_getD, h1]]
    omega
/-- One digit's step. -/
theorem times_step {d : List Int} {p : Nat} {c z s : Int} (hp : p < d.length) (hs : s = c + (d.getD p 0 + z)) :
    valD (d.set p (s % 65536)) + pw (p + 1) * (s / 65536) = valD d + pw p * c + pw p * z := by
  rw [valD_set d p _ hp, pw_succ, Int.mul_assoc]
  have e : pw p * (s % 65536 - d.getD p 0) + pw p * (65536 * (s / 65536)) = pw p * c + pw p * z := by
    rw [← Int.mul_add, ← Int.mul_add]
    congr 1
    omega
  omega
theorem take_valD {a : List Int} {i : Nat} (h : i < a.length) : valD (a.take (i + 1)) = valD (a.take i) + pw i * a.getD i 0 := by
  rw [List.take_succ_eq_append_getElem h, valD_snoc, List.length_take, Nat.min_eq_left (by omega), show a.getD i 0 = a[i] by simp [List.getD_eq_getElem?_getD, h]]
theorem take_valD' {b : List Int} (j : Nat) : valD (b.take (j + 1)) = valD (b.take j) + pw j * b.getD j 0 := by
  rcases Nat.lt_or_ge j b.length with h | h
  · exact take_valD h
  · rw [List.take_of_length_le (by omega), List.take_of_length_le h, show b.getD j 0 = 0 by simp [List.getD_eq_getElem?_getD, h]]
    omega
/-- What holds within the inner loop. -/
structure Row (a b : List Int) (i j : Nat) (d : List Int) (c : Int) : Prop where
  len : d.length = a.length + b.length + 1
  dig : Dig d
  c0 : 0 ≤ c
  c1 : c < 65536
  val : valD d + pw (i + j) * c = valD (a.take i) * valD b + pw i * a.getD i 0 * valD (b.take j)
theorem Row.at {a b : List Int} {i j : Nat} {d : List Int} {c : Int} (h : Row a b i j d c) (ha : Dig a) (hb : Dig b) (hi : i < a.length) (hc : j < b.length ∨ 0 < c) : i + j < d.length ∧ j ≤ b.length := by
  have hl := h.len
  rcases hc with h1 | h1
  · omega
  · rcases Nat.lt_or_ge b.length j with h2 | h2
    · exfalso
      have hv := h.val
      rw [List.take_of_length_le (l := b) (by omega), ← Int.add_mul, ← take_valD hi] at hv
      have k1 := valD_bd (dig_take ha (i + 1))
      rw [List.length_take, Nat.min_eq_left (by omega)] at k1
      have k2 := valD_bd hb
      have k3 := valD_bd h.dig
      have k4 : valD (a.take (i + 1)) * valD b ≤ valD (a.take (i + 1)) * pw b.length := Int.mul_le_mul_of_nonneg_left (by omega) k1.1
      have k5 : valD (a.take (i + 1)) * pw b.length < pw (i + 1) * pw b.length := Int.mul_lt_mul_of_pos_right k1.2 (by have := pw_pos b.length; omega)
      rw [← pw_add] at k5
      have k6 := pw_mono (show i + 1 + b.length ≤ i + j by omega)
      have k7 := Int.mul_le_mul_of_nonneg_left (c := pw (i + j)) (show 1 ≤ c by omega) (by have := pw_pos (i + j); omega)
      omega
    · omega
theorem Row.step {a b : List Int} {i j : Nat} {d : List Int} {c : Int} (h : Row a b i j d c) (ha : Dig a) (hb : Dig b) (hp : i + j < d.length) {s : Int} (hs : s = c + (d.getD (i + j) 0 + a.getD i 0 * b.getD j 0)) :
    0 ≤ s ∧ s ≤ 4294967295 ∧ Row a b i (j + 1) (d.set (i + j) (s % 65536)) (s / 65536) := by
  have x := dig_getD ha i
  have y := dig_getD hb j
  have z := dig_getD h.dig (i + j)
  have c0 := h.c0
  have c1 := h.c1
  have m0 : 0 * 0 ≤ a.getD i 0 * b.getD j 0 := Int.mul_le_mul (by omega) (by omega) (by omega) (by omega)
  have m1 : a.getD i 0 * b.getD j 0 ≤ 65535 * 65535 := Int.mul_le_mul (by omega) (by omega) (by omega) (by omega)
  have st := times_step hp hs
  generalize hm : a.getD i 0 * b.getD j 0 = m at *
  refine ⟨by omega, by omega, by rw [List.length_set]; exact h.len, dig_set h.dig _ (by omega), by omega, by omega, ?_⟩
  rw [← Nat.add_assoc, st, h.val, take_valD', Int.mul_add, ← hm, pw_add]
  have e : pw i * a.getD i 0 * (pw j * b.getD j 0) = pw i * pw j * (a.getD i 0 * b.getD j 0) := by
    rw [Int.mul_assoc, Int.mul_assoc]
    congr 1
    rw [← Int.mul_assoc, Int.mul_comm (a.getD i 0) (pw j), Int.mul_assoc]
  omega
end Go.Proofs.Ytabdipfpfbdghaa
