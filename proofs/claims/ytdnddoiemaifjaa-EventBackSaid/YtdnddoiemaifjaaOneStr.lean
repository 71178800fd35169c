/- Numbers' bytes as texts: unlike, none begins the other: plain. -/
import Derived.Test.YtdnddoiemaifjaaNumOk
namespace Go.Proofs.Ytdnddoiemaifjaa
def backL (l : List UInt8) : List Int := l.map fun u => (u.toNat : Int)
theorem back_str (xs : List Int) (h : ∀ x ∈ xs, 0 ≤ x ∧ x < 256) : backL (strOfNums xs).toList = xs := by
  rw [ByteArray.toList_eq, strOfNums_data]
  unfold backL
  rw [List.map_map]
  refine (List.map_congr_left (g := id) (fun x hx => ?_)).trans (List.map_id _)
  have := h x hx
  simp
  omega
theorem encK_in : ∀ (k n : Nat), n < 128 ^ k * 256 → ∀ x ∈ encK k n, 0 ≤ x ∧ x < 256
  | 0, n, h, x, hx => by simp [encK] at hx h; omega
  | k + 1, n, h, x, hx => by
    rw [encK.eq_2] at hx
    split at hx
    · simp at hx; omega
    · rcases List.mem_cons.1 hx with rfl | hx
      · omega
      · exact encK_in k _ (by rw [Nat.pow_succ] at h; omega) x hx
theorem enc_in {n : Nat} (h : n < 18446744073709551616) : ∀ x ∈ enc n, 0 ≤ x ∧ x < 256 := encK_in 9 n (by omega)
theorem str_ne {a b : Nat} (ha : a < 18446744073709551616) (hb : b < 18446744073709551616) (h : a ≠ b) : ((strOfNums (enc a)).toList == (strOfNums (enc b)).toList) = false := by
  simp only [beq_eq_false_iff_ne]
  intro e
  have e2 := congrArg backL e
  rw [back_str _ (enc_in ha), back_str _ (enc_in hb)] at e2
  exact h (enc_inj (r := []) (s := []) (by rw [e2])).1
theorem str_pre {a b : Nat} (ha : a < 18446744073709551616) (hb : b < 18446744073709551616) (h : a ≠ b) : (((strOfNums (enc b)).extract 0 (strOfNums (enc a)).size).toList == (strOfNums (enc a)).toList) = false := by
  simp only [beq_eq_false_iff_ne]
  intro e
  have e2 := congrArg backL e
  rw [back_str _ (enc_in ha)] at e2
  have e3 : backL ((strOfNums (enc b)).extract 0 (strOfNums (enc a)).size).toList = (enc b).take (enc a).length := by
    have h1 := back_str _ (enc_in hb)
    rw [ByteArray.toList_eq] at h1 ⊢
    rw [strOfNums_size, ByteArray.data_extract, Array.toList_extract]
    unfold backL at h1 ⊢
    simp only [List.extract_eq_take_drop, List.drop_zero, Nat.sub_zero]
    rw [List.map_take, h1]
  rw [e3] at e2
  refine h (enc_inj (r := (enc b).drop (enc a).length) (s := []) ?_).1
  conv => lhs; rw [← e2]
  rw [List.append_nil]
  rw [show ((enc b).take (enc a).length).length = (enc a).length by rw [e2]] 
  exact List.take_append_drop _ _
end Go.Proofs.Ytdnddoiemaifjaa
