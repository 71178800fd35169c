/- Package num: how products stand, quotients, the greatest divisor. -/
import Derived.Test.YtabdipfpfbdghaaNumW
import Derived.Test.YtabdipfpfbdghaaRegionJ
namespace Go.Proofs.Ytabdipfpfbdghaa
open Go.RowKit
/-- The first that is not nought. -/
def orV : List Int → Int
  | [] => 0
  | x :: l => if x = 0 then orV l else x
set_option maxHeartbeats 1000000 in
theorem nor (A : Option Addr) (c : Nat) (x y : Int) (w : World) (hr : Rds w 1 A 2 c (nums .i64 [x, y])) : Calls Try.prog 77 #[.slice A 2 c] w fun e w' => e = .returned (.int .i64 (if x = 0 then y else x)) ∧ w = w' := by
  obtain ⟨ad, rfl⟩ := hr.some_ (by omega)
  have c0 : w.cell? ad = some (.int .i64 x) := hr.cell ad rfl 0 _ rfl
  have c1 : w.cell? ⟨ad.block, ad.off + 1, none⟩ = some (.int .i64 y) := hr.cell ad rfl 1 _ rfl
  clear hr
  go_enter Try.func77, Try.ntmps77
  go_wp2
  go_loop [8] (fun i => ∃ k : Nat, k ≤ 2 ∧ i = .int .i64 k ∧ (1 ≤ k → x = 0) ∧ (2 ≤ k → y = 0)) (fun i => 2 - (intOf i).toNat)
  case atStart => exact ⟨0, by omega, rfl, fun h => by omega, fun h => by omega⟩
  case round =>
    obtain ⟨k, hk, rfl, h1, h2⟩ := hrel
    have h3 : k = 0 ∨ k = 1 ∨ k = 2 := by omega
    rcases h3 with rfl | rfl | rfl
    · by_cases hx : x = 0
      · have hb : (x == 0) = true := by simp [hx]
        have HX := Lib.hid hx
        clear hx h1 h2
        go_wp2
        go_round
        case rel => exact ⟨1, by omega, rfl, fun _ => HX.out, fun h => by omega⟩
        case measure => simp [intOf]
      · have hb : (x == 0) = false := by simp [hx]
        have HX := Lib.hid hx
        clear hx h1 h2
        go_wp2
        go_ret
        exact ⟨rfl, rfl⟩
    · have HX := Lib.hid (h1 (by omega))
      by_cases hy : y = 0
      · have hb : (y == 0) = true := by simp [hy]
        have HY := Lib.hid hy
        clear hy h1 h2
        go_wp2
        go_round
        case rel => exact ⟨2, by omega, rfl, fun _ => HX.out, fun _ => HY.out⟩
        case measure => simp [intOf]
      · have hb : (y == 0) = false := by simp [hy]
        have HY := Lib.hid hy
        clear hy h1 h2
        go_wp2
        go_ret
        exact ⟨rfl, rfl⟩
    · have HX := Lib.hid (h1 (by omega))
      have HY := Lib.hid (h2 (by omega))
      clear h1 h2
      go_wp2
      go_ret
      exact ⟨ret_int HY.out.symm, rfl⟩
def bigV (h l h' l' : Nat) : Int := if cmpN h h' = 0 then cmpN l l' else cmpN h h'
theorem bigV_size (p q : Int) : bigV (hiN p) (loN p) (hiN q) (loN q) = sizeCmp p q := (sizeCmp_words p q).symm
end Go.Proofs.Ytabdipfpfbdghaa
