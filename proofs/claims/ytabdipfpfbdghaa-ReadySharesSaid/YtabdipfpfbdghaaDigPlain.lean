/- Numbers as digits to base 2^16, the lowest first: plain. -/
import Derived.WalkKit
namespace Go.Proofs.Ytabdipfpfbdghaa
def valD : List Int → Int
  | [] => 0
  | d :: ds => d + 65536 * valD ds
def Dig (ds : List Int) : Prop := ∀ d ∈ ds, 0 ≤ d ∧ d < 65536
def Trimmed (ds : List Int) : Prop := ds.getLast? ≠ some 0
def pw (k : Nat) : Int := 65536 ^ k
theorem pw_zero : pw 0 = 1 := rfl
theorem pw_succ (k : Nat) : pw (k + 1) = pw k * 65536 := by unfold pw; rw [Int.pow_succ]
theorem pw_pos : ∀ k, 1 ≤ pw k
  | 0 => by rw [pw_zero]; omega
  | k + 1 => by rw [pw_succ]; have := pw_pos k; omega
theorem pw_add (a b : Nat) : pw (a + b) = pw a * pw b := by unfold pw; rw [Int.pow_add]
theorem pw_mono {a b : Nat} (h : a ≤ b) : pw a ≤ pw b := by
  obtain ⟨c, rfl⟩ : ∃ c, b = a + c := ⟨b - a, by omega⟩
  rw [pw_add]
  have h1 := pw_pos a
  have h2 := pw_pos c
  have := Int.mul_le_mul_of_nonneg_left (c := pw a) h2 (by omega)
  omega
theorem valD_append : ∀ (a b : List Int), valD (a ++ b) = valD a + pw a.length * valD b
  | [], b => by simp [valD, pw_zero]
  | d :: a, b => by
    simp only [List.cons_append, valD, List.length_cons, pw_succ]
    rw [valD_append a b, Int.mul_add, Int.add_assoc, Int.mul_comm (pw a.length) 65536, Int.mul_assoc]
theorem valD_snoc (a : List Int) (d : Int) : valD (a ++ [d]) = valD a + pw a.length * d := by
  rw [valD_append]; simp [valD]
theorem dig_cons {d : Int} {ds : List Int} : Dig (d :: ds) ↔ (0 ≤ d ∧ d < 65536) ∧ Dig ds := by simp [Dig]
theorem dig_append {a b : List Int} : Dig (a ++ b) ↔ Dig a ∧ Dig b := by
  unfold Dig
  constructor
  · intro h; exact ⟨fun d hd => h d (by simp [hd]), fun d hd => h d (by simp [hd])⟩
  · rintro ⟨h1, h2⟩ d hd
    rcases List.mem_append.1 hd with h | h
    · exact h1 d h
    · exact h2 d h
theorem dig_take {a : List Int} (h : Dig a) (k : Nat) : Dig (a.take k) := fun d hd => h d (List.mem_of_mem_take hd)
theorem dig_drop {a : List Int} (h : Dig a) (k : Nat) : Dig (a.drop k) := fun d hd => h d (List.mem_of_mem_drop hd)
theorem valD_bd : ∀ {ds : List Int}, Dig ds → 0 ≤ valD ds ∧ valD ds < pw ds.length
  | [], _ => by simp [valD, pw_zero]
  | d :: ds, h => by
    obtain ⟨h1, h2⟩ := dig_cons.1 h
    obtain ⟨h3, h4⟩ := valD_bd h2
    simp only [valD, List.length_cons, pw_succ]
    omega
theorem valD_split (ds : List Int) (i : Nat) (h : i < ds.length) : valD ds = valD (ds.take i) + pw i * (ds[i] + 65536 * valD (ds.drop (i + 1))) := by
  have h1 : ds = ds.take i ++ (ds[i] :: ds.drop (i + 1)) := by rw [List.getElem_cons_drop, List.take_append_drop]
  have h2 := valD_append (ds.take i) (ds[i] :: ds.drop (i + 1))
  rw [← h1] at h2
  rw [h2, List.length_take, Nat.min_eq_left (by omega)]
  rfl
/-- The highest digit that parts two of one length tells. -/
theorem valD_lt {a b : List Int} {i : Nat} (ha : Dig a) (hb : Dig b) (hia : i < a.length) (hib : i < b.length) (he : a.drop (i + 1) = b.drop (i + 1)) (hl : a[i] < b[i]) : valD a < valD b := by
  rw [valD_split a i hia, valD_split b i hib, he]
  have h1 := valD_bd (dig_take ha i)
  have h2 := valD_bd (dig_take hb i)
  rw [List.length_take, Nat.min_eq_left (by omega)] at h1 h2
  have h3 : pw i * (a[i] + 65536 * valD (b.drop (i + 1))) + pw i ≤ pw i * (b[i] + 65536 * valD (b.drop (i + 1))) := by
    have := Int.mul_le_mul_of_nonneg_left (c := pw i) (show a[i] + 65536 * valD (b.drop (i + 1)) + 1 ≤ b[i] + 65536 * valD (b.drop (i + 1)) by omega) (by have := pw_pos i; omega)
    rw [Int.mul_add (pw i) _ 1, Int.mul_one] at this
    exact this
  omega
theorem valD_ge {b : List Int} (hb : Dig b) (ht : Trimmed b) (hn : b ≠ []) : pw (b.length - 1) ≤ valD b := by
  obtain ⟨bs, x, rfl⟩ : ∃ bs x, b = bs ++ [x] := ⟨b.dropLast, b.getLast hn, (List.dropLast_concat_getLast hn).symm⟩
  obtain ⟨h1, h2⟩ := dig_append.1 hb
  have h3 := h2 x (by simp)
  have h4 : x ≠ 0 := by
    intro e
    apply ht
    simp [e]
  rw [valD_snoc]
  have h5 := valD_bd h1
  have h6 := Int.mul_le_mul_of_nonneg_left (c := pw bs.length) (show 1 ≤ x by omega) (by have := pw_pos bs.length; omega)
  simp only [List.length_append, List.length_cons, List.length_nil, Nat.zero_add, Nat.add_sub_cancel]
  omega
theorem valD_short {a b : List Int} (ha : Dig a) (hb : Dig b) (ht : Trimmed b) (hl : a.length < b.length) : valD a < valD b := by
  have h1 := valD_bd ha
  have h2 := valD_ge hb ht (by intro e; rw [e] at hl; simp at hl)
  have := pw_mono (show a.length ≤ b.length - 1 by omega)
  omega
theorem valD_zero {b : List Int} (hb : Dig b) (ht : Trimmed b) (h : valD b = 0) : b = [] := by
  cases b with
  | nil => rfl
  | cons d ds =>
    have := valD_ge hb ht (by simp)
    have := pw_pos ((d :: ds).length - 1)
    omega
/-- Trimming: a nought at the end goes. -/
theorem valD_drop {ds : List Int} {k : Nat} (h : k < ds.length) (h0 : ds[k] = 0) (hv : valD (ds.take (k + 1)) = valD ds) : valD (ds.take k) = valD ds := by
  rw [List.take_succ_eq_append_getElem h, h0, valD_snoc] at hv
  omega
theorem trimmed_take {ds : List Int} {k : Nat} (h : k < ds.length) (h0 : ds[k] ≠ 0) : Trimmed (ds.take (k + 1)) := by
  unfold Trimmed
  rw [List.take_succ_eq_append_getElem h, List.getLast?_concat]
  intro e
  exact h0 (Option.some.inj e)
theorem trimmed_nil : Trimmed [] := by simp [Trimmed]
end Go.Proofs.Ytabdipfpfbdghaa
