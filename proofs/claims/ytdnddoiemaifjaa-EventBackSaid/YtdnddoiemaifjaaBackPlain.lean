/- Values' bytes, read back: plain. -/
import Derived.Test.YtdnddoiemaifjaaSrcPlain
namespace Go.Proofs.Ytdnddoiemaifjaa
open Go.RowKit
theorem numF_enc : ∀ (k i acc m : Nat) (r : List Int), k + i = 9 → (i ≠ 0 → m ≠ 0) → acc + m * 128 ^ i < 18446744073709551616 → numF (k + 1) i acc (encK k m ++ r) = .ok (acc + m * 128 ^ i, r)
  | 0, i, acc, m, r, hk, hm, hl => by
    obtain rfl : i = 9 := by omega
    have hm0 := hm (by omega)
    have h1 : m ≤ 1 := by simp at hl; omega
    have hs : encK 0 m ++ r = (m : Int) :: r := rfl
    rw [hs]
    unfold numF
    rw [if_neg (by omega), if_neg (by omega), if_pos (by omega), show ((m : Int) % 128).toNat = m by omega]
  | k + 1, i, acc, m, r, hk, hm, hl => by
    by_cases h : m < 128
    · rw [encK_lt _ _ h]
      have hs : [(m : Int)] ++ r = (m : Int) :: r := rfl
      rw [hs]
      unfold numF
      rw [if_neg (fun ⟨h1, h2⟩ => hm h1 (by omega)), if_neg (by omega), if_pos (by omega), show ((m : Int) % 128).toNat = m by omega]
    · rw [encK.eq_2, if_neg h, List.cons_append]
      have e1 : ((((m % 128 + 128 : Nat)) : Int) % 128).toNat = m % 128 := by omega
      have e2 : acc + m % 128 * 128 ^ i + m / 128 * 128 ^ (i + 1) = acc + m * 128 ^ i := by
        rw [Nat.pow_succ, Nat.add_assoc]
        congr 1
        rw [Nat.mul_comm (128 ^ i) 128, ← Nat.mul_assoc, ← Nat.add_mul]
        congr 1
        omega
      have ih := numF_enc k (i + 1) (acc + m % 128 * 128 ^ i) (m / 128) r (by omega) (fun _ => by omega) (by rw [e2]; exact hl)
      rw [e2] at ih
      rw [numF.eq_3, if_neg (by omega), if_neg (by omega), if_neg (by omega), e1]
      exact ih
theorem numS_enc {n : Nat} (h : n < 18446744073709551616) (r : List Int) : numS (enc n ++ r) = .ok (n, r) := by
  have := numF_enc 9 0 0 n r rfl (fun h => absurd rfl h) (by simpa using h)
  rw [Nat.pow_zero, Nat.mul_one, Nat.zero_add] at this
  exact this
theorem numM_enc {n : Nat} (h : n < 18446744073709551616) (r : List Int) : numM (enc n ++ r) 18446744073709551615 = .ok (n, r) := by
  unfold numM
  rw [numS_enc h]
  simp only
  rw [if_pos (by omega)]
theorem withinM_enc {x : Int} (h : I64 x) (r : List Int) : withinM (enc (zigN x) ++ r) (-9223372036854775808) 9223372036854775807 = .ok (x, r) := by
  unfold withinM
  rw [numS_enc (zigN_lt x h.1 h.2)]
  simp only [thenE]
  rw [zag_zig x h, if_pos ⟨h.1, by have := h.2; omega⟩]
theorem countM_enc {n : Nat} {most : Nat} (h : n ≤ most) (hm : most ≤ 1000) (r : List Int) : countM (enc n ++ r) most = .ok (n, r) := by
  unfold countM
  rw [numS_enc (by omega)]
  simp only [thenE]
  rw [if_pos (by omega)]
theorem textM_enc {t : List Int} (h : t.length ≤ 200) (r : List Int) : textM (enc t.length ++ t ++ r) 200 = .ok (t, r) := by
  unfold textM
  have := countM_enc (most := 200) h (by omega) (t ++ r)
  rw [List.append_assoc, show ((200 : Nat) : Int) = 200 from rfl] at *
  rw [this]
  simp only [thenE]
  rw [if_pos (by rw [List.length_append]; omega), List.take_left, List.drop_left]
theorem flagM_enc (f : Bool) (r : List Int) : flagM ((if f then 1 else 0) :: r) = .ok (f, r) := by
  cases f <;> simp [flagM, octM, thenE]
theorem intsF_enc : ∀ (l acc r : List Int), (∀ x ∈ l, I64 x) → intsF (-9223372036854775808) 9223372036854775807 l.length acc (encs l ++ r) = .ok (acc ++ l, r)
  | [], acc, r, _ => by simp [intsF, encs]
  | x :: l, acc, r, h => by
    have hs : encs (x :: l) ++ r = enc (zigN x) ++ (encs l ++ r) := by simp [encs]
    rw [hs, List.length_cons]
    unfold intsF
    rw [withinM_enc (h x (List.mem_cons_self ..))]
    simp only [thenE]
    rw [intsF_enc l _ r (fun y hy => h y (List.mem_cons_of_mem _ hy))]
    simp
theorem intsM_enc {l : List Int} (hl : l.length ≤ 50) (h : ∀ x ∈ l, I64 x) (r : List Int) : intsM (enc l.length ++ encs l ++ r) 50 (-9223372036854775808) 9223372036854775807 = .ok (l, r) := by
  unfold intsM
  have := countM_enc (most := 50) hl (by omega) (encs l ++ r)
  rw [List.append_assoc, show ((50 : Nat) : Int) = 50 from rfl] at *
  rw [this]
  simp only [thenE]
  rw [intsF_enc l [] r h, List.nil_append]
theorem str_bytes (s : ByteArray) : strOfNums (bytesOf s) = s := by
  obtain ⟨d⟩ := s
  simp [strOfNums, bytesOf, List.map_map, Function.comp_def]
end Go.Proofs.Ytdnddoiemaifjaa
