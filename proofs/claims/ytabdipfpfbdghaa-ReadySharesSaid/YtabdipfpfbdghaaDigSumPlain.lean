/- Sums and differences of digits: plain. -/
import Derived.Test.YtabdipfpfbdghaaDigTimesPlain
namespace Go.Proofs.Ytabdipfpfbdghaa
/-- The sum's word: i digits, and what is carried. -/
structure Sum (a b : List Int) (i : Nat) (d : List Int) (c : Int) : Prop where
  len : d.length = i
  dig : Dig d
  c0 : 0 ≤ c
  c1 : c ≤ 1
  val : valD d + pw i * c = valD (a.take i) + valD (b.take i)
theorem Sum.start (a b : List Int) : Sum a b 0 [] 0 := ⟨rfl, (by intro d h; cases h), by omega, by omega, by simp [valD]⟩
theorem Sum.step {a b : List Int} {i : Nat} {d : List Int} {c s : Int} (h : Sum a b i d c) (ha : Dig a) (hb : Dig b) (hs : s = c + a.getD i 0 + b.getD i 0) :
    0 ≤ s ∧ s ≤ 131071 ∧ Sum a b (i + 1) (d ++ [s % 65536]) (s / 65536) ∧ (a.length ≤ i → b.length ≤ i → s / 65536 = 0) := by
  have x := dig_getD ha i
  have y := dig_getD hb i
  have c0 := h.c0
  have c1 := h.c1
  refine ⟨by omega, by omega, ⟨by rw [List.length_append, h.len]; rfl, dig_append.2 ⟨h.dig, by intro z hz; simp at hz; omega⟩, by omega, by omega, ?_⟩, fun h1 h2 => ?_⟩
  · have e := h.val
    rw [valD_snoc, h.len, pw_succ, Int.mul_assoc, take_valD', take_valD', Int.add_assoc, ← Int.mul_add, show s % 65536 + 65536 * (s / 65536) = s by omega, hs, Int.mul_add, Int.mul_add]
    omega
  · have e1 : a.getD i 0 = 0 := by simp [List.getD_eq_getElem?_getD, List.getElem?_eq_none h1]
    have e2 : b.getD i 0 = 0 := by simp [List.getD_eq_getElem?_getD, List.getElem?_eq_none h2]
    omega
theorem Sum.done {a b : List Int} {i : Nat} {d : List Int} {c : Int} (h : Sum a b i d c) (h1 : a.length ≤ i) (h2 : b.length ≤ i) (hc : c = 0) : valD d = valD a + valD b := by
  have e := h.val
  rw [hc, List.take_of_length_le h1, List.take_of_length_le h2] at e
  omega
/-- The difference's word. -/
structure Dif (a b : List Int) (i : Nat) (d : List Int) (c : Int) : Prop where
  len : d.length = i
  dig : Dig d
  c0 : -1 ≤ c
  c1 : c ≤ 0
  val : valD d + pw i * c = valD (a.take i) - valD (b.take i)
theorem Dif.start (a b : List Int) : Dif a b 0 [] 0 := ⟨rfl, (by intro d h; cases h), by omega, by omega, by simp [valD]⟩
theorem Dif.step {a b : List Int} {i : Nat} {d : List Int} {c s : Int} (h : Dif a b i d c) (ha : Dig a) (hb : Dig b) (hs : s = c + a.getD i 0 - b.getD i 0) :
    -65536 ≤ s ∧ s ≤ 65535 ∧ Dif a b (i + 1) (d ++ [s % 65536]) (s / 65536) := by
  have x := dig_getD ha i
  have y := dig_getD hb i
  have c0 := h.c0
  have c1 := h.c1
  refine ⟨by omega, by omega, ⟨by rw [List.length_append, h.len]; rfl, dig_append.2 ⟨h.dig, by intro z hz; simp at hz; omega⟩, by omega, by omega, ?_⟩⟩
  have e := h.val
  rw [valD_snoc, h.len, pw_succ, Int.mul_assoc, take_valD', take_valD', Int.add_assoc, ← Int.mul_add, show s % 65536 + 65536 * (s / 65536) = s by omega, hs, Int.mul_sub, Int.mul_add]
  omega
theorem Dif.done {a b : List Int} {d : List Int} {c : Int} (h : Dif a b a.length d c) (h2 : b.length ≤ a.length) (hv : valD b ≤ valD a) : valD d = valD a - valD b := by
  have e := h.val
  rw [List.take_of_length_le (Nat.le_refl _), List.take_of_length_le h2] at e
  have hd := valD_bd h.dig
  rw [h.len] at hd
  have c0 := h.c0
  have c1 := h.c1
  by_cases hc : c = 0
  · rw [hc] at e; omega
  · obtain rfl : c = -1 := by omega
    omega
theorem len_le_of_val {a b : List Int} (ha : Dig a) (hb : Dig b) (ht : Trimmed b) (h : valD b ≤ valD a) : b.length ≤ a.length := by
  rcases Nat.lt_or_ge a.length b.length with h1 | h1
  · have := valD_short ha hb ht h1; omega
  · exact h1
/-- A small number has few digits. -/
theorem len_small {a : List Int} {k : Nat} (ha : Dig a) (ht : Trimmed a) (h : valD a < pw k) : a.length ≤ k := by
  rcases Nat.lt_or_ge k a.length with h1 | h1
  · have := valD_ge ha ht (by intro e; rw [e] at h1; simp at h1)
    have := pw_mono (show k ≤ a.length - 1 by omega)
    omega
  · exact h1
end Go.Proofs.Ytabdipfpfbdghaa
