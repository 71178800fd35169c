/- Numbers as bytes: plain lists, no program. -/
import Derived.WalkKit
import Derived.Laws.BitsAllLaws
namespace Go.Proofs.Ytdnddoiemaifjaa
open Go.RowKit
/-- A number's bytes. -/
def encK : Nat → Nat → List Int
  | 0, n => [(n : Int)]
  | k + 1, n => if n < 128 then [(n : Int)] else ((n % 128 + 128 : Nat) : Int) :: encK k (n / 128)
def enc (n : Nat) : List Int := encK 9 n
theorem encK_lt (k n : Nat) (h : n < 128) : encK k n = [(n : Int)] := by cases k <;> simp [encK, h]
theorem encK_more (k : Nat) : ∀ n, n < 128 ^ (k + 1) → encK (k + 1) n = encK k n := by
  induction k with
  | zero => intro n h; simp [encK]; omega
  | succ k ih =>
    intro n h
    rw [encK]
    by_cases hn : n < 128
    · simp [hn, encK_lt]
    · rw [if_neg hn, ih (n / 128) (by rw [Nat.pow_succ] at h; omega)]
      rw [encK.eq_2 n k, if_neg hn]
theorem encK_length (k n : Nat) : (encK k n).length ≤ k + 1 := by
  induction k generalizing n with
  | zero => simp [encK]
  | succ k ih => rw [encK]; split <;> simp; exact ih _
theorem encK_pos (k n : Nat) : 0 < (encK k n).length := by
  cases k <;> rw [encK] <;> try split
  all_goals simp
theorem enc_length (n : Nat) : (enc n).length ≤ 10 := encK_length 9 n
theorem enc_pos (n : Nat) : 0 < (enc n).length := encK_pos 9 n
theorem enc_lt (n : Nat) (h : n < 128) : enc n = [(n : Int)] := encK_lt 9 n h
theorem enc_ge (n : Nat) (h : ¬ n < 128) (hn : n < 128 ^ 10) : enc n = ((n % 128 + 128 : Nat) : Int) :: enc (n / 128) := by
  unfold enc
  rw [encK.eq_2 n 8, if_neg h, encK_more 8 (n / 128) (by rw [Nat.pow_succ] at hn; omega)]
theorem or128 (n : Nat) : bits BinOp.or IntKind.u8 ((n : Int) % 256) 128 = ((n % 128 + 128 : Nat) : Int) := by
  have h : ∀ k : Fin 256, bits BinOp.or IntKind.u8 (k.val : Int) 128 = ((k.val % 128 + 128 : Nat) : Int) := by decide +kernel
  have := h ⟨n % 256, by omega⟩
  simp only at this
  have e : ((n : Int) % 256) = ((n % 256 : Nat) : Int) := by omega
  rw [e, this]
  congr 2
  omega
theorem and127or128 (n : Nat) (hn : n < 18446744073709551616) : (bits BinOp.or IntKind.u64 (bits BinOp.and IntKind.u64 (n : Int) 127) 128) % 256 = ((n % 128 + 128 : Nat) : Int) := by
  have e1 : bits BinOp.and IntKind.u64 (n : Int) 127 = ((n % 128 : Nat) : Int) := by
    have := u64_and_nat n 127 hn (by decide)
    rw [nat_mask7] at this
    exact this
  have e2 := u64_or_nat (n % 128) 128 (by omega) (by decide)
  have e3 : n % 128 ||| 128 = n % 128 + 128 := by
    rw [Nat.or_comm, nat_join 7 128 (n % 128) (by decide) (by omega)]
    omega
  rw [e1]
  have e4 : bits BinOp.or IntKind.u64 ((n % 128 : Nat) : Int) 128 = ((n % 128 + 128 : Nat) : Int) := by rw [← e3]; exact e2
  rw [e4]
  omega
/-- An int as a number. -/
def zigN (n : Int) : Nat := if 0 ≤ n then (2 * n).toNat else (-2 * n - 1).toNat
theorem zigN_lt (n : Int) (h0 : -9223372036854775808 ≤ n) (h1 : n < 9223372036854775808) : zigN n < 18446744073709551616 := by
  unfold zigN; split <;> omega
theorem zigN_128 (n : Int) (h0 : -9223372036854775808 ≤ n) (h1 : n < 9223372036854775808) : zigN n < 128 ^ 10 := by
  have := zigN_lt n h0 h1
  omega
theorem xor_ones (x : Nat) (h : x < 18446744073709551616) : x ^^^ 18446744073709551615 = 18446744073709551615 - x := by
  have h1 : (BitVec.ofNat 64 x ^^^ BitVec.allOnes 64) = ~~~ BitVec.ofNat 64 x := BitVec.xor_allOnes
  have h2 := congrArg BitVec.toNat h1
  rw [BitVec.toNat_xor, BitVec.toNat_not, BitVec.toNat_ofNat, BitVec.toNat_allOnes, Nat.mod_eq_of_lt (show x < 2 ^ 64 from h)] at h2
  exact h2
theorem zig_code (n : Int) (h0 : -9223372036854775808 ≤ n) (h1 : n < 9223372036854775808) :
    bits .xor .u64 (IntKind.u64.wrap (IntKind.u64.wrap n * 2)) (IntKind.u64.wrap (n / 9223372036854775808)) = (zigN n : Int) := by
  simp only [IntKind.wrap_u64]
  unfold zigN
  split
  · rename_i h
    have e1 : n / 9223372036854775808 % 18446744073709551616 = 0 := by omega
    have e2 : n % 18446744073709551616 * 2 % 18446744073709551616 = ((2 * n).toNat : Int) := by omega
    rw [e1, e2]
    have := u64_xor_nat (2 * n).toNat 0 (by omega) (by decide)
    rw [Nat.xor_zero] at this
    exact this
  · rename_i h
    have e1 : n / 9223372036854775808 % 18446744073709551616 = 18446744073709551615 := by omega
    have e2 : n % 18446744073709551616 * 2 % 18446744073709551616 = ((18446744073709551616 + 2 * n).toNat : Int) := by omega
    rw [e1, e2]
    have := u64_xor_nat (18446744073709551616 + 2 * n).toNat 18446744073709551615 (by omega) (by decide)
    rw [xor_ones _ (by omega)] at this
    refine this.trans ?_
    omega
/-- n is an int. -/
def I64 (n : Int) : Prop := -9223372036854775808 ≤ n ∧ n < 9223372036854775808
theorem i64_of_wf {n : Int} (h : (Lit.int .i64 n).wf = true) : I64 n := by
  have hmin : IntKind.i64.min = -9223372036854775808 := rfl
  have hmax : IntKind.i64.max = 9223372036854775807 := rfl
  simp only [Lit.wf, Bool.and_eq_true, decide_eq_true_eq] at h
  unfold I64
  omega
/-- A text's bytes. -/
def bytesOf (s : ByteArray) : List Int := s.data.toList.map fun b => (b.toNat : Int)
theorem bytesOf_length (s : ByteArray) : (bytesOf s).length = s.size := by rw [bytesOf, List.length_map, Array.length_toList]; rfl
/-- A list's bytes. -/
def encs (l : List Int) : List Int := l.flatMap fun n => enc (zigN n)
theorem encs_length (l : List Int) : (encs l).length ≤ 10 * l.length := by
  induction l with
  | nil => simp [encs]
  | cons x l ih => simp only [encs, List.flatMap_cons, List.length_append, List.length_cons] at ih ⊢; have := enc_length (zigN x); omega
theorem encs_snoc (l : List Int) (x : Int) : encs (l ++ [x]) = encs l ++ enc (zigN x) := by simp [encs]
end Go.Proofs.Ytdnddoiemaifjaa
