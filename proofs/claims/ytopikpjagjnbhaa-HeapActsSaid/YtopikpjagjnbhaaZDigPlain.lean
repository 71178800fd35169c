/- Numbers as digits to base 2^16, the lowest first: plain. -/
import Derived.WalkKit
import Derived.Test.YtopikpjagjnbhaaNumPlain
import Derived.Test.YtopikpjagjnbhaaRows
import Derived.Test.YtopikpjagjnbhaaBase
import Derived.Lib.Mul64
import Derived.Laws.Bits64b
import Derived.Shelf.Bits.Mul64
import Derived.Laws.StructEq
import Derived.Test.YtopikpjagjnbhaaRegionJ
namespace Go.Proofs.Ytopikpjagjnbhaa
def valD : List Int → Int
  | [] => 0
  | d :: ds => d + 65536 * valD ds
def Dig (ds : List Int) : Prop := ∀ d ∈ ds, 0 ≤ d ∧ d < 65536
def Trimmed (ds : List Int) : Prop := ds.getLast? ≠ some 0
def pw (k : Nat) : Int := 65536 ^ k
theorem pw_zero : pw 0 = 1 := rfl
theorem pw_succ (k : Nat) : pw (k + 1) = pw k * 65536 := by unfold pw; rw [Int.pow_succ]
theorem pw_pos : ∀ k, 1 ≤ pw k
  | 0 => by rw [pw_zero]; omega
  | k + 1 => by rw [pw_succ]; have := pw_pos k; omega
theorem pw_add (a b : Nat) : pw (a + b) = pw a * pw b := by unfold pw; rw [Int.pow_add]
theorem pw_mono {a b : Nat} (h : a ≤ b) : pw a ≤ pw b := by
  obtain ⟨c, rfl⟩ : ∃ c, b = a + c := ⟨b - a, by omega⟩
  rw [pw_add]
  have h1 := pw_pos a
  have h2 := pw_pos c
  have := Int.mul_le_mul_of_nonneg_left (c := pw a) h2 (by omega)
  omega
theorem valD_append : ∀ (a b : List Int), valD (a ++ b) = valD a + pw a.length * valD b
  | [], b => by simp [valD, pw_zero]
  | d :: a, b => by
    simp only [List.cons_append, valD, List.length_cons, pw_succ]
    rw [valD_append a b, Int.mul_add, Int.add_assoc, Int.mul_comm (pw a.length) 65536, Int.mul_assoc]
theorem valD_snoc (a : List Int) (d : Int) : valD (a ++ [d]) = valD a + pw a.length * d := by
  rw [valD_append]; simp [valD]
theorem dig_cons {d : Int} {ds : List Int} : Dig (d :: ds) ↔ (0 ≤ d ∧ d < 65536) ∧ Dig ds := by simp [Dig]
theorem dig_append {a b : List Int} : Dig (a ++ b) ↔ Dig a ∧ Dig b := by
  unfold Dig
  constructor
  · intro h; exact ⟨fun d hd => h d (by simp [hd]), fun d hd => h d (by simp [hd])⟩
  · rintro ⟨h1, h2⟩ d hd
    rcases List.mem_append.1 hd with h | h
    · exact h1 d h
    · exact h2 d h
theorem dig_take {a : List Int} (h : Dig a) (k : Nat) : Dig (a.take k) := fun d hd => h d (List.mem_of_mem_take hd)
theorem dig_drop {a : List Int} (h : Dig a) (k : Nat) : Dig (a.drop k) := fun d hd => h d (List.mem_of_mem_drop hd)
theorem valD_bd : ∀ {ds : List Int}, Dig ds → 0 ≤ valD ds ∧ valD ds < pw ds.length
  | [], _ => by simp [valD, pw_zero]
  | d :: ds, h => by
    obtain ⟨h1, h2⟩ := dig_cons.1 h
    obtain ⟨h3, h4⟩ := valD_bd h2
    simp only [valD, List.length_cons, pw_succ]
    omega
theorem valD_split (ds : List Int) (i : Nat) (h : i < ds.length) : valD ds = valD (ds.take i) + pw i * (ds[i] + 65536 * valD (ds.drop (i + 1))) := by
  have h1 : ds = ds.take i ++ (ds[i] :: ds.drop (i + 1)) := by rw [List.getElem_cons_drop, List.take_append_drop]
  have h2 := valD_append (ds.take i) (ds[i] :: ds.drop (i + 1))
  rw [← h1] at h2
  rw [h2, List.length_take, Nat.min_eq_left (by omega)]
  rfl
/-- The highest digit that parts two of one length tells. -/
theorem valD_lt {a b : List Int} {i : Nat} (ha : Dig a) (hb : Dig b) (hia : i < a.length) (hib : i < b.length) (he : a.drop (i + 1) = b.drop (i + 1)) (hl : a[i] < b[i]) : valD a < valD b := by
  rw [valD_split a i hia, valD_split b i hib, he]
  have h1 := valD_bd (dig_take ha i)
  have h2 := valD_bd (dig_take hb i)
  rw [List.length_take, Nat.min_eq_left (by omega)] at h1 h2
  have h3 : pw i * (a[i] + 65536 * valD (b.drop (i + 1))) + pw i ≤ pw i * (b[i] + 65536 * valD (b.drop (i + 1))) := by
    have := Int.mul_le_mul_of_nonneg_left (c := pw i) (show a[i] + 65536 * valD (b.drop (i + 1)) + 1 ≤ b[i] + 65536 * valD (b.drop (i + 1)) by omega) (by have := pw_pos i; omega)
    rw [Int.mul_add (pw i) _ 1, Int.mul_one] at this
    exact this
  omega
theorem valD_ge {b : List Int} (hb : Dig b) (ht : Trimmed b) (hn : b ≠ []) : pw (b.length - 1) ≤ valD b := by
  obtain ⟨bs, x, rfl⟩ : ∃ bs x, b = bs ++ [x] := ⟨b.dropLast, b.getLast hn, (List.dropLast_concat_getLast hn).symm⟩
  obtain ⟨h1, h2⟩ := dig_append.1 hb
  have h3 := h2 x (by simp)
  have h4 : x ≠ 0 := by
    intro e
    apply ht
    simp [e]
  rw [valD_snoc]
  have h5 := valD_bd h1
  have h6 := Int.mul_le_mul_of_nonneg_left (c := pw bs.length) (show 1 ≤ x by omega) (by have := pw_pos bs.length; omega)
  simp only [List.length_append, List.length_cons, List.length_nil, Nat.zero_add, Nat.add_sub_cancel]
  omega
theorem valD_short {a b : List Int} (ha : Dig a) (hb : Dig b) (ht : Trimmed b) (hl : a.length < b.length) : valD a < valD b := by
  have h1 := valD_bd ha
  have h2 := valD_ge hb ht (by intro e; rw [e] at hl; simp at hl)
  have := pw_mono (show a.length ≤ b.length - 1 by omega)
  omega
theorem valD_zero {b : List Int} (hb : Dig b) (ht : Trimmed b) (h : valD b = 0) : b = [] := by
  cases b with
  | nil => rfl
  | cons d ds =>
    have := valD_ge hb ht (by simp)
    have := pw_pos ((d :: ds).length - 1)
    omega
/-- Trimming: a nought at the end goes. -/
theorem valD_drop {ds : List Int} {k : Nat} (h : k < ds.length) (h0 : ds[k] = 0) (hv : valD (ds.take (k + 1)) = valD ds) : valD (ds.take k) = valD ds := by
  rw [List.take_succ_eq_append_getElem h, h0, valD_snoc] at hv
  omega
theorem trimmed_take {ds : List Int} {k : Nat} (h : k < ds.length) (h0 : ds[k] ≠ 0) : Trimmed (ds.take (k + 1)) := by
  unfold Trimmed
  rw [List.take_succ_eq_append_getElem h, List.getLast?_concat]
  intro e
  exact h0 (Option.some.inj e)
theorem trimmed_nil : Trimmed [] := by simp [Trimmed]
end Go.Proofs.Ytopikpjagjnbhaa

/- Wide numbers multiplied: plain. -/
namespace Go.Proofs.Ytopikpjagjnbhaa
theorem valD_set : ∀ (ds : List Int) (p : Nat) (v : Int), p < ds.length → valD (ds.set p v) = valD ds + pw p * (v - ds.getD p 0)
  | [], p, v, h => by simp at h
  | d :: ds, 0, v, _ => by simp [valD, pw_zero]; omega
  | d :: ds, p + 1, v, h => by
    have ih := valD_set ds p v (by simpa using h)
    simp only [List.set_cons_succ, valD, List.getD_cons_succ, pw_succ]
    rw [ih, Int.mul_add, ← Int.mul_assoc, Int.mul_comm 65536 (pw p)]
    omega
theorem dig_set {ds : List Int} (h : Dig ds) (p : Nat) {v : Int} (hv : 0 ≤ v ∧ v < 65536) : Dig (ds.set p v) := by
  intro d hd
  rcases List.mem_or_eq_of_mem_set hd with h1 | h1
  · exact h d h1
  · rw [h1]; exact hv
theorem dig_getD {ds : List Int} (h : Dig ds) (p : Nat) : 0 ≤ ds.getD p 0 ∧ ds.getD p 0 < 65536 := by
  rcases Nat.lt_or_ge p ds.length with h1 | h1
  · rw [show ds.getD p 0 = ds[p] by simp [List.getD_eq_getElem?_getD, h1]]
    exact h _ (List.getElem_mem h1)
  · rw [show ds.getD p 0 = 0 by simp [List.getD_eq_getElem?_getD, h1]]
    omega
/-- One digit's step. -/
theorem times_step {d : List Int} {p : Nat} {c z s : Int} (hp : p < d.length) (hs : s = c + (d.getD p 0 + z)) :
    valD (d.set p (s % 65536)) + pw (p + 1) * (s / 65536) = valD d + pw p * c + pw p * z := by
  rw [valD_set d p _ hp, pw_succ, Int.mul_assoc]
  have e : pw p * (s % 65536 - d.getD p 0) + pw p * (65536 * (s / 65536)) = pw p * c + pw p * z := by
    rw [← Int.mul_add, ← Int.mul_add]
    congr 1
    omega
  omega
theorem take_valD {a : List Int} {i : Nat} (h : i < a.length) : valD (a.take (i + 1)) = valD (a.take i) + pw i * a.getD i 0 := by
  rw [List.take_succ_eq_append_getElem h, valD_snoc, List.length_take, Nat.min_eq_left (by omega), show a.getD i 0 = a[i] by simp [List.getD_eq_getElem?_getD, h]]
theorem take_valD' {b : List Int} (j : Nat) : valD (b.take (j + 1)) = valD (b.take j) + pw j * b.getD j 0 := by
  rcases Nat.lt_or_ge j b.length with h | h
  · exact take_valD h
  · rw [List.take_of_length_le (by omega), List.take_of_length_le h, show b.getD j 0 = 0 by simp [List.getD_eq_getElem?_getD, h]]
    omega
/-- What holds within the inner loop. -/
structure Row (a b : List Int) (i j : Nat) (d : List Int) (c : Int) : Prop where
  len : d.length = a.length + b.length + 1
  dig : Dig d
  c0 : 0 ≤ c
  c1 : c < 65536
  val : valD d + pw (i + j) * c = valD (a.take i) * valD b + pw i * a.getD i 0 * valD (b.take j)
theorem Row.at {a b : List Int} {i j : Nat} {d : List Int} {c : Int} (h : Row a b i j d c) (ha : Dig a) (hb : Dig b) (hi : i < a.length) (hc : j < b.length ∨ 0 < c) : i + j < d.length ∧ j ≤ b.length := by
  have hl := h.len
  rcases hc with h1 | h1
  · omega
  · rcases Nat.lt_or_ge b.length j with h2 | h2
    · exfalso
      have hv := h.val
      rw [List.take_of_length_le (l := b) (by omega), ← Int.add_mul, ← take_valD hi] at hv
      have k1 := valD_bd (dig_take ha (i + 1))
      rw [List.length_take, Nat.min_eq_left (by omega)] at k1
      have k2 := valD_bd hb
      have k3 := valD_bd h.dig
      have k4 : valD (a.take (i + 1)) * valD b ≤ valD (a.take (i + 1)) * pw b.length := Int.mul_le_mul_of_nonneg_left (by omega) k1.1
      have k5 : valD (a.take (i + 1)) * pw b.length < pw (i + 1) * pw b.length := Int.mul_lt_mul_of_pos_right k1.2 (by have := pw_pos b.length; omega)
      rw [← pw_add] at k5
      have k6 := pw_mono (show i + 1 + b.length ≤ i + j by omega)
      have k7 := Int.mul_le_mul_of_nonneg_left (c := pw (i + j)) (show 1 ≤ c by omega) (by have := pw_pos (i + j); omega)
      omega
    · omega
theorem Row.step {a b : List Int} {i j : Nat} {d : List Int} {c : Int} (h : Row a b i j d c) (ha : Dig a) (hb : Dig b) (hp : i + j < d.length) {s : Int} (hs : s = c + (d.getD (i + j) 0 + a.getD i 0 * b.getD j 0)) :
    0 ≤ s ∧ s ≤ 4294967295 ∧ Row a b i (j + 1) (d.set (i + j) (s % 65536)) (s / 65536) := by
  have x := dig_getD ha i
  have y := dig_getD hb j
  have z := dig_getD h.dig (i + j)
  have c0 := h.c0
  have c1 := h.c1
  have m0 : 0 * 0 ≤ a.getD i 0 * b.getD j 0 := Int.mul_le_mul (by omega) (by omega) (by omega) (by omega)
  have m1 : a.getD i 0 * b.getD j 0 ≤ 65535 * 65535 := Int.mul_le_mul (by omega) (by omega) (by omega) (by omega)
  have st := times_step hp hs
  generalize hm : a.getD i 0 * b.getD j 0 = m at *
  refine ⟨by omega, by omega, by rw [List.length_set]; exact h.len, dig_set h.dig _ (by omega), by omega, by omega, ?_⟩
  rw [← Nat.add_assoc, st, h.val, take_valD', Int.mul_add, ← hm, pw_add]
  have e : pw i * a.getD i 0 * (pw j * b.getD j 0) = pw i * pw j * (a.getD i 0 * b.getD j 0) := by
    rw [Int.mul_assoc, Int.mul_assoc]
    congr 1
    rw [← Int.mul_assoc, Int.mul_comm (a.getD i 0) (pw j), Int.mul_assoc]
  omega
end Go.Proofs.Ytopikpjagjnbhaa

/- Sums and differences of digits: plain. -/
namespace Go.Proofs.Ytopikpjagjnbhaa
/-- The sum's word: i digits, and what is carried. -/
structure Sum (a b : List Int) (i : Nat) (d : List Int) (c : Int) : Prop where
  len : d.length = i
  dig : Dig d
  c0 : 0 ≤ c
  c1 : c ≤ 1
  val : valD d + pw i * c = valD (a.take i) + valD (b.take i)
theorem Sum.start (a b : List Int) : Sum a b 0 [] 0 := ⟨rfl, (by intro d h; cases h), by omega, by omega, by simp [valD]⟩
theorem Sum.step {a b : List Int} {i : Nat} {d : List Int} {c s : Int} (h : Sum a b i d c) (ha : Dig a) (hb : Dig b) (hs : s = c + a.getD i 0 + b.getD i 0) :
    0 ≤ s ∧ s ≤ 131071 ∧ Sum a b (i + 1) (d ++ [s % 65536]) (s / 65536) ∧ (a.length ≤ i → b.length ≤ i → s / 65536 = 0) := by
  have x := dig_getD ha i
  have y := dig_getD hb i
  have c0 := h.c0
  have c1 := h.c1
  refine ⟨by omega, by omega, ⟨by rw [List.length_append, h.len]; rfl, dig_append.2 ⟨h.dig, by intro z hz; simp at hz; omega⟩, by omega, by omega, ?_⟩, fun h1 h2 => ?_⟩
  · have e := h.val
    rw [valD_snoc, h.len, pw_succ, Int.mul_assoc, take_valD', take_valD', Int.add_assoc, ← Int.mul_add, show s % 65536 + 65536 * (s / 65536) = s by omega, hs, Int.mul_add, Int.mul_add]
    omega
  · have e1 : a.getD i 0 = 0 := by simp [List.getD_eq_getElem?_getD, List.getElem?_eq_none h1]
    have e2 : b.getD i 0 = 0 := by simp [List.getD_eq_getElem?_getD, List.getElem?_eq_none h2]
    omega
theorem Sum.done {a b : List Int} {i : Nat} {d : List Int} {c : Int} (h : Sum a b i d c) (h1 : a.length ≤ i) (h2 : b.length ≤ i) (hc : c = 0) : valD d = valD a + valD b := by
  have e := h.val
  rw [hc, List.take_of_length_le h1, List.take_of_length_le h2] at e
  omega
/-- The difference's word. -/
structure Dif (a b : List Int) (i : Nat) (d : List Int) (c : Int) : Prop where
  len : d.length = i
  dig : Dig d
  c0 : -1 ≤ c
  c1 : c ≤ 0
  val : valD d + pw i * c = valD (a.take i) - valD (b.take i)
theorem Dif.start (a b : List Int) : Dif a b 0 [] 0 := ⟨rfl, (by intro d h; cases h), by omega, by omega, by simp [valD]⟩
theorem Dif.step {a b : List Int} {i : Nat} {d : List Int} {c s : Int} (h : Dif a b i d c) (ha : Dig a) (hb : Dig b) (hs : s = c + a.getD i 0 - b.getD i 0) :
    -65536 ≤ s ∧ s ≤ 65535 ∧ Dif a b (i + 1) (d ++ [s % 65536]) (s / 65536) := by
  have x := dig_getD ha i
  have y := dig_getD hb i
  have c0 := h.c0
  have c1 := h.c1
  refine ⟨by omega, by omega, ⟨by rw [List.length_append, h.len]; rfl, dig_append.2 ⟨h.dig, by intro z hz; simp at hz; omega⟩, by omega, by omega, ?_⟩⟩
  have e := h.val
  rw [valD_snoc, h.len, pw_succ, Int.mul_assoc, take_valD', take_valD', Int.add_assoc, ← Int.mul_add, show s % 65536 + 65536 * (s / 65536) = s by omega, hs, Int.mul_sub, Int.mul_add]
  omega
theorem Dif.done {a b : List Int} {d : List Int} {c : Int} (h : Dif a b a.length d c) (h2 : b.length ≤ a.length) (hv : valD b ≤ valD a) : valD d = valD a - valD b := by
  have e := h.val
  rw [List.take_of_length_le (Nat.le_refl _), List.take_of_length_le h2] at e
  have hd := valD_bd h.dig
  rw [h.len] at hd
  have c0 := h.c0
  have c1 := h.c1
  by_cases hc : c = 0
  · rw [hc] at e; omega
  · obtain rfl : c = -1 := by omega
    omega
theorem len_le_of_val {a b : List Int} (ha : Dig a) (hb : Dig b) (ht : Trimmed b) (h : valD b ≤ valD a) : b.length ≤ a.length := by
  rcases Nat.lt_or_ge a.length b.length with h1 | h1
  · have := valD_short ha hb ht h1; omega
  · exact h1
/-- A small number has few digits. -/
theorem len_small {a : List Int} {k : Nat} (ha : Dig a) (ht : Trimmed a) (h : valD a < pw k) : a.length ≤ k := by
  rcases Nat.lt_or_ge k a.length with h1 | h1
  · have := valD_ge ha ht (by intro e; rw [e] at h1; simp at h1)
    have := pw_mono (show k ≤ a.length - 1 by omega)
    omega
  · exact h1
end Go.Proofs.Ytopikpjagjnbhaa

/- Whole numbers in two words with a sign: plain. -/
namespace Go.Proofs.Ytopikpjagjnbhaa
open Go.RowKit
theorem sub_law {a b : Int} (ha : I64 a) (hb : I64 b) : I64 (a - b) ↔ ¬ (¬ (0 ≤ a ↔ 0 ≤ b) ∧ ¬ (0 ≤ wrap64 (a - b) ↔ 0 ≤ a)) := sub_test ha hb
def hiN (p : Int) : Nat := p.natAbs / 18446744073709551616
def loN (p : Int) : Nat := p.natAbs % 18446744073709551616
/-- A number as a wide one. -/
def wideV (p : Int) : Value := .agg #[.bool (decide (p < 0)), .int .u64 (hiN p), .int .u64 (loN p)]
def cmpV (p q : Int) : Int := if p < q then -1 else if q < p then 1 else 0
theorem abs_lt {a : Int} (h : I64 a) : a.natAbs ≤ 9223372036854775808 := by unfold I64 at h; omega
theorem mul_abs_le {a b : Int} (ha : I64 a) (hb : I64 b) : (a * b).natAbs ≤ 85070591730234615865843651857942052864 := by
  rw [Int.natAbs_mul]
  exact Nat.le_trans (Nat.mul_le_mul (abs_lt ha) (abs_lt hb)) (by decide)
theorem hi_lt {p : Int} (h : p.natAbs ≤ 85070591730234615865843651857942052864) : hiN p ≤ 4611686018427387904 := by unfold hiN; omega
theorem lo_lt (p : Int) : loN p < 18446744073709551616 := by unfold loN; omega
theorem abs_hl (p : Int) : p.natAbs = hiN p * 18446744073709551616 + loN p := by unfold hiN loN; omega
/-- The sign of a product. -/
theorem neg_mul (a b : Int) : decide (a * b < 0) = (decide (a * b ≠ 0) && (decide (a < 0) != decide (b < 0))) := by
  rcases Int.lt_trichotomy a 0 with h | h | h <;> rcases Int.lt_trichotomy b 0 with h' | h' | h'
  · have := Int.mul_pos_of_neg_of_neg h h'
    have h1 : ¬ a * b < 0 := by omega
    simp [h, h', h1]
  · simp [h']
  · have := Int.mul_neg_of_neg_of_pos h h'
    have h2 : ¬ b < 0 := by omega
    have h3 : a * b ≠ 0 := by omega
    simp [h, h2, h3, this]
  · simp [h]
  · simp [h]
  · simp [h]
  · have := Int.mul_neg_of_pos_of_neg h h'
    have h2 : ¬ a < 0 := by omega
    have h3 : a * b ≠ 0 := by omega
    simp [h', h2, h3, this]
  · simp [h']
  · have := Int.mul_pos h h'
    have h2 : ¬ a < 0 := by omega
    have h3 : ¬ b < 0 := by omega
    have h1 : ¬ a * b < 0 := by omega
    simp [h2, h3, h1]
/-- How sizes stand, high words first. -/
def sizeCmp (p q : Int) : Int := if p.natAbs < q.natAbs then -1 else if q.natAbs < p.natAbs then 1 else 0
def cmpN (a b : Nat) : Int := if a < b then -1 else if b < a then 1 else 0
theorem sizeCmp_words (p q : Int) : sizeCmp p q = if cmpN (hiN p) (hiN q) = 0 then cmpN (loN p) (loN q) else cmpN (hiN p) (hiN q) := by
  unfold sizeCmp cmpN
  have h1 := abs_hl p
  have h2 := abs_hl q
  have h3 := lo_lt p
  have h4 := lo_lt q
  rcases Nat.lt_trichotomy (hiN p) (hiN q) with h | h | h <;> rcases Nat.lt_trichotomy (loN p) (loN q) with h' | h' | h' <;> (repeat' split) <;> first | rfl | (exfalso; omega) | omega
/-- How numbers stand, of signs and sizes. -/
theorem cmpV_parts (p q : Int) : cmpV p q = if decide (p < 0) = decide (q < 0) then (if p < 0 then - sizeCmp p q else sizeCmp p q) else (if p < 0 then -1 else 1) := by
  unfold cmpV sizeCmp
  by_cases h1 : p < 0 <;> by_cases h2 : q < 0 <;> simp [h1, h2] <;> (repeat' split) <;> first | rfl | (exfalso; omega) | omega
end Go.Proofs.Ytopikpjagjnbhaa

/- Package num: sizes, products. -/
namespace Go.Proofs.Ytopikpjagjnbhaa
open Go.RowKit
theorem u64_neg {a : Int} (h : I64 a) (hn : a < 0) : IntKind.u64.wrap (- IntKind.u64.wrap a) = (a.natAbs : Int) := by
  unfold I64 at h
  rw [IntKind.wrap_u64, IntKind.wrap_u64]
  omega
theorem u64_pos {a : Int} (h : I64 a) (hn : ¬ a < 0) : IntKind.u64.wrap a = (a.natAbs : Int) := by
  unfold I64 at h
  rw [IntKind.wrap_u64]
  omega
set_option maxHeartbeats 1000000 in
theorem bmul64 (x y : Nat) (hx : x < 18446744073709551616) (hy : y < 18446744073709551616) (w : World) :
    Calls Try.prog 55 #[.int .u64 x, .int .u64 y] w fun e w' => e = .returned (.tuple #[.int .u64 ((x * y / 18446744073709551616 : Nat) : Int), .int .u64 ((x * y % 18446744073709551616 : Nat) : Int)]) ∧ w = w' := by
  obtain ⟨bd, bt, bw, hhi⟩ := Lib.mul64_hi x y hx hy
  have ba := Lib.half_mul_le (a := x / 4294967296) (b := y / 4294967296) (by omega) (by omega)
  have bb := Lib.half_mul_le (a := x / 4294967296) (b := y % 4294967296) (by omega) (by omega)
  have bc := Lib.half_mul_le (a := x % 4294967296) (b := y / 4294967296) (by omega) (by omega)
  have ba' : x / 4294967296 * (y / 4294967296) < 18446744073709551616 := by omega
  have bb' : x / 4294967296 * (y % 4294967296) < 18446744073709551616 := by omega
  have bc' : x % 4294967296 * (y / 4294967296) < 18446744073709551616 := by omega
  have bh1 : x / 4294967296 * (y / 4294967296) + (x / 4294967296 * (y % 4294967296) + x % 4294967296 * (y % 4294967296) / 4294967296) / 4294967296 < 18446744073709551616 := by omega
  have bh : x / 4294967296 * (y / 4294967296) + (x / 4294967296 * (y % 4294967296) + x % 4294967296 * (y % 4294967296) / 4294967296) / 4294967296 + ((x / 4294967296 * (y % 4294967296) + x % 4294967296 * (y % 4294967296) / 4294967296) % 4294967296 + x % 4294967296 * (y / 4294967296)) / 4294967296 < 18446744073709551616 := by omega
  go_enter Try.func55, Try.ntmps55
  go_wp2
  simp only [Mul64.maskN x hx, Mul64.maskN y hy, Mul64.divN, Mul64.mulN, Mul64.addN, Mul64.wrapN _ bd, Mul64.wrapN _ bb', Mul64.wrapN _ bt, Mul64.maskN _ bt, Mul64.wrapN _ bc', Mul64.wrapN _ bw, Mul64.wrapN _ ba', Mul64.wrapN _ bh1, Mul64.wrapN _ bh, Mul64.wrapM (x * y)]
  rw [hhi]
  go_ret2
  exact ⟨rfl, rfl⟩
end Go.Proofs.Ytopikpjagjnbhaa

/- Package num: how products stand, quotients, the greatest divisor. -/
namespace Go.Proofs.Ytopikpjagjnbhaa
open Go.RowKit
/-- The first that is not nought. -/
def orV : List Int → Int
  | [] => 0
  | x :: l => if x = 0 then orV l else x
set_option maxHeartbeats 1000000 in
theorem nor (A : Option Addr) (c : Nat) (x y : Int) (w : World) (hr : Rds w 1 A 2 c (nums .i64 [x, y])) : Calls Try.prog 49 #[.slice A 2 c] w fun e w' => e = .returned (.int .i64 (if x = 0 then y else x)) ∧ w = w' := by
  obtain ⟨ad, rfl⟩ := hr.some_ (by omega)
  have c0 : w.cell? ad = some (.int .i64 x) := hr.cell ad rfl 0 _ rfl
  have c1 : w.cell? ⟨ad.block, ad.off + 1, none⟩ = some (.int .i64 y) := hr.cell ad rfl 1 _ rfl
  clear hr
  go_enter Try.func49, Try.ntmps49
  go_wp2
  go_loop [8] (fun i => ∃ k : Nat, k ≤ 2 ∧ i = .int .i64 k ∧ (1 ≤ k → x = 0) ∧ (2 ≤ k → y = 0)) (fun i => 2 - (intOf i).toNat)
  case atStart => exact ⟨0, by omega, rfl, fun h => by omega, fun h => by omega⟩
  case round =>
    obtain ⟨k, hk, rfl, h1, h2⟩ := hrel
    have h3 : k = 0 ∨ k = 1 ∨ k = 2 := by omega
    rcases h3 with rfl | rfl | rfl
    · by_cases hx : x = 0
      · have hb : (x == 0) = true := by simp [hx]
        have HX := Lib.hid hx
        clear hx h1 h2
        go_wp2
        go_round
        case rel => exact ⟨1, by omega, rfl, fun _ => HX.out, fun h => by omega⟩
        case measure => simp [intOf]
      · have hb : (x == 0) = false := by simp [hx]
        have HX := Lib.hid hx
        clear hx h1 h2
        go_wp2
        go_ret
        exact ⟨rfl, rfl⟩
    · have HX := Lib.hid (h1 (by omega))
      by_cases hy : y = 0
      · have hb : (y == 0) = true := by simp [hy]
        have HY := Lib.hid hy
        clear hy h1 h2
        go_wp2
        go_round
        case rel => exact ⟨2, by omega, rfl, fun _ => HX.out, fun _ => HY.out⟩
        case measure => simp [intOf]
      · have hb : (y == 0) = false := by simp [hy]
        have HY := Lib.hid hy
        clear hy h1 h2
        go_wp2
        go_ret
        exact ⟨rfl, rfl⟩
    · have HX := Lib.hid (h1 (by omega))
      have HY := Lib.hid (h2 (by omega))
      clear h1 h2
      go_wp2
      go_ret
      exact ⟨ret_int HY.out.symm, rfl⟩
def bigV (h l h' l' : Nat) : Int := if cmpN h h' = 0 then cmpN l l' else cmpN h h'
theorem bigV_size (p q : Int) : bigV (hiN p) (loN p) (hiN q) (loN q) = sizeCmp p q := (sizeCmp_words p q).symm
end Go.Proofs.Ytopikpjagjnbhaa
