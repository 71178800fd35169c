/- Numbers' bytes, read: plain. -/
import Derived.Test.YtdnddoiemaifjaaSrcNum
namespace Go.Proofs.Ytdnddoiemaifjaa
theorem encK_inj : ∀ (k a b : Nat) (r s : List Int), encK k a ++ r = encK k b ++ s → a = b ∧ r = s
  | 0, a, b, r, s, h => by
    simp only [encK, List.cons_append, List.nil_append, List.cons.injEq] at h
    exact ⟨by omega, h.2⟩
  | k + 1, a, b, r, s, h => by
    rw [encK.eq_2, encK.eq_2] at h
    by_cases ha : a < 128 <;> by_cases hb : b < 128 <;> simp only [ha, hb, if_true, if_false, List.cons_append, List.nil_append, List.cons.injEq] at h
    · exact ⟨by omega, h.2⟩
    · omega
    · omega
    · obtain ⟨h1, h2⟩ := encK_inj k _ _ _ _ h.2
      exact ⟨by omega, h2⟩
theorem enc_inj {a b : Nat} {r s : List Int} (h : enc a ++ r = enc b ++ s) : a = b ∧ r = s := encK_inj 9 a b r s h
theorem numF_ok : ∀ (k i acc : Nat) (bs : List Int) (v : Nat) (rest : List Int), k + i = 10 → acc < 128 ^ i → (∀ y ∈ bs, 0 ≤ y ∧ y < 256) → numF k i acc bs = .ok (v, rest) →
    v < 18446744073709551616 ∧ ∃ m, v = acc + m * 128 ^ i ∧ (i ≠ 0 → m ≠ 0) ∧ ∃ k', k = k' + 1 ∧ bs = encK k' m ++ rest
  | 0, _, _, _, _, _, _, _, _, h => by cases h
  | k + 1, i, acc, [], _, _, _, _, _, h => by cases h
  | k + 1, i, acc, x :: bs, v, rest, hk, ha, hb, h => by
    have hx := hb x (List.mem_cons_self ..)
    unfold numF at h
    split at h
    · cases h
    · rename_i hA
      split at h
      · cases h
      · rename_i hB
        split at h
        · rename_i h128
          simp only [Except.ok.injEq, Prod.mk.injEq] at h
          obtain ⟨hv, rfl⟩ := h
          have e1 : (x % 128).toNat = x.toNat := by omega
          rw [e1] at hv
          have hy := shl_at x.toNat i (by omega) (by omega) (fun e => by omega)
          have hP := shl_at 1 i (by omega) (by omega) (by omega)
          refine ⟨?_, x.toNat, hv.symm, fun h0 => by omega, k, rfl, ?_⟩
          · rw [← hv]
            have : i = 0 ∨ i = 1 ∨ i = 2 ∨ i = 3 ∨ i = 4 ∨ i = 5 ∨ i = 6 ∨ i = 7 ∨ i = 8 ∨ i = 9 := by omega
            rcases this with rfl | rfl | rfl | rfl | rfl | rfl | rfl | rfl | rfl | rfl <;> simp at * <;> omega
          · rw [encK_lt k x.toNat (by omega), show ((x.toNat : Nat) : Int) = x by omega]
            rfl
        · rename_i h128
          obtain ⟨y, hy⟩ : ∃ y : Nat, (x % 128).toNat = y := ⟨_, rfl⟩
          rw [hy] at h
          have hacc : acc + y * 128 ^ i < 128 ^ (i + 1) := by
            have := Nat.mul_le_mul_right (128 ^ i) (show y ≤ 127 by omega)
            rw [Nat.pow_succ]
            omega
          obtain ⟨h1, m', h2, h3, k', h4, h5⟩ := numF_ok k (i + 1) _ bs v rest (by omega) hacc (fun z hz => hb z (List.mem_cons_of_mem _ hz)) h
          have hm' := h3 (by omega)
          refine ⟨h1, y + 128 * m', ?_, fun _ => by omega, k, rfl, ?_⟩
          · rw [h2, Nat.pow_succ, Nat.add_mul, Nat.add_assoc]
            congr 2
            rw [Nat.mul_comm (128 ^ i) 128, ← Nat.mul_assoc, Nat.mul_comm m' 128]
          · subst h4
            rw [encK.eq_2, if_neg (by omega), h5, show (y + 128 * m') / 128 = m' by omega, show ((((y + 128 * m') % 128 + 128 : Nat)) : Int) = x by omega]
            rfl
theorem numS_ok {bs : List Int} {v : Nat} {rest : List Int} (hb : ∀ y ∈ bs, 0 ≤ y ∧ y < 256) (h : numS bs = .ok (v, rest)) : v < 18446744073709551616 ∧ bs = enc v ++ rest := by
  obtain ⟨h1, m, h2, _, k', h4, h5⟩ := numF_ok 10 0 0 bs v rest rfl (by simp) hb h
  have e : k' = 9 := by omega
  subst e
  simp at h2
  subst h2
  exact ⟨h1, h5⟩
end Go.Proofs.Ytdnddoiemaifjaa
