/- wherryref01: Int, told. -/
import Derived.Test.YtabdipfpfbdghaaDigPlus
namespace Go.Proofs.Ytabdipfpfbdghaa
open Go.RowKit
theorem or16 (u d : Int) (h0 : 0 ≤ u) (h1 : u < 281474976710656) (h2 : 0 ≤ d) (h3 : d < 65536) : bits BinOp.or IntKind.u64 (u * 65536) d = u * 65536 + d := by
  obtain ⟨k, rfl⟩ : ∃ k : Nat, u = k := ⟨u.toNat, by omega⟩
  obtain ⟨j, rfl⟩ : ∃ j : Nat, d = j := ⟨d.toNat, by omega⟩
  have e := u64_or_nat (k * 65536) j (by omega) (by omega)
  rw [nat_join 16 (k * 65536) j (by omega) (by omega)] at e
  rw [show (k : Int) * 65536 = ((k * 65536 : Nat) : Int) by omega, e]
  omega
theorem valD_drop1 {ds : List Int} {k : Nat} (h : k < ds.length) : valD (ds.drop k) = ds.getD k 0 + 65536 * valD (ds.drop (k + 1)) := by
  rw [show ds.drop k = ds[k] :: ds.drop (k + 1) by rw [List.getElem_cons_drop], valD, getD_get h]
theorem int_no {ds : List Int} (hd : Dig ds) (ht : Trimmed ds) {z : Int} (hv : valD ds = z.natAbs) (hn : 4 < ds.length) : fitB z = false := by
  have h1 := valD_ge hd ht (by intro e; rw [e] at hn; simp at hn)
  have h2 := pw_mono (show 4 ≤ ds.length - 1 by omega)
  rw [show pw 4 = 18446744073709551616 from rfl] at h2
  refine (fit_no ?_).2
  unfold I64
  omega
def IntR (z : Int) (e : Ending) : Prop := ∃ r, e = .returned (.tuple #[.int .i64 r, .bool (fitB z)]) ∧ (I64 z → r = z)
theorem intR_of {z r : Int} {b : Bool} (hb : b = fitB z) (hr : I64 z → r = z) : IntR z (.returned (.tuple #[.int .i64 r, .bool b])) := ⟨r, by rw [hb], hr⟩
end Go.Proofs.Ytabdipfpfbdghaa
