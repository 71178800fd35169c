/- wherryref01: bit. -/
import Derived.Test.YtnacfpkagomfaaaDigInt
import Derived.Test.YtnacfpkagomfaaaDigPartPlain
namespace Go.Proofs.Ytnacfpkagomfaaa
open Go.RowKit
theorem and1 (y : Int) (h0 : 0 ≤ y) (h1 : y ≤ 4294967295) : bits BinOp.and IntKind.u32 y 1 = y % 2 := by
  obtain ⟨k, rfl⟩ : ∃ k : Nat, y = k := ⟨y.toNat, by omega⟩
  have e := u32_and_nat k 1 (by omega) (by decide)
  rw [nat_mask1] at e
  rw [show (1 : Int) = ((1 : Nat) : Int) from rfl, e]
  omega
set_option maxRecDepth 100000 in
set_option maxHeartbeats 2000000 in
theorem dbit (A : Option Addr) (n c : Nat) (ds : List Int) (i : Nat) (w : World) (hr : Rds w 1 A n c (nums .u32 ds)) (hd : Dig ds) (hi : i < 1000000) :
    Calls Try.prog 46 #[.slice A n c, .int .i64 i] w fun e w' => e = .returned (.int .u32 (valD ds / 2 ^ i % 2)) ∧ w = w' := by
  have HN := Lib.hid (u32s_len hr)
  have HB := Lib.hid (bit_val hd i)
  have hq : (i : Int) / 16 = ((i / 16 : Nat) : Int) := by omega
  have HQ := Lib.hid hq
  have hrm : (i : Int) % 16 = ((i % 16 : Nat) : Int) := by omega
  have HRM := Lib.hid hrm
  clear hq hrm
  generalize valD ds / 2 ^ i % 2 = v at *
  by_cases h : i / 16 < n
  · have hx : i / 16 < ds.length := by rw [HN.out]; exact h
    obtain ⟨ad, rfl⟩ := hr.some_ (by omega)
    have hca := hr.cell ad rfl (i / 16) _ (nums_get .u32 ds (i / 16) hx)
    rw [getD_get hx] at hca
    have hda := dig_getD hd (i / 16)
    have hlt : (i : Int) / 16 < n := by omega
    have htn : ((i : Int) / 16).toNat = i / 16 := by omega
    generalize ds.getD (i / 16) 0 = x at *
    clear hd
    go_enter Try.func46, Try.ntmps46
    go_wp2
    go_ret
    refine ⟨?_, rfl⟩
    have h0 : 0 ≤ x / 2 ^ (i % 16) := Int.ediv_nonneg hda.1 (by have := pow2_pos (i % 16); omega)
    have h1 : x / 2 ^ (i % 16) ≤ x := Int.ediv_le_self _ hda.1
    have h2 := HB.out
    show Ending.returned (.int .u32 (bits BinOp.and IntKind.u32 (x / 2 ^ (i % 16)) 1)) = .returned (.int .u32 v)
    rw [and1 _ h0 (by omega), h2]
  · have hlt : ¬ (i : Int) / 16 < n := by omega
    have hz : v = 0 := by
      have := HB.out
      rw [show ds.getD (i / 16) 0 = 0 by simp [List.getD_eq_getElem?_getD, Nat.le_of_not_lt (show ¬ i / 16 < ds.length by rw [HN.out]; exact h)]] at this
      rw [← this]; simp
    subst hz
    clear HB h hd
    go_enter Try.func46, Try.ntmps46
    go_wp2
    go_ret
    exact ⟨rfl, rfl⟩
end Go.Proofs.Ytnacfpkagomfaaa
