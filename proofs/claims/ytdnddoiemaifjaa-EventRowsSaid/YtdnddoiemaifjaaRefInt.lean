/- The reference's Int of layer 7. -/
import Derived.Test.YtdnddoiemaifjaaRefNum
namespace Go.Proofs.Ytdnddoiemaifjaa
open Go.RowKit
set_option maxHeartbeats 400000 in
theorem rzig (n : Int) (hn : I64 n) (w : World) : Calls Try.prog 63 #[.int .i64 n] w fun e w' => e = .returned (.int .u64 (zigN n)) ∧ w = w' := by
  have H := Lib.hid hn
  clear hn
  by_cases h : 0 ≤ n
  · go_enter Try.func63, Try.ntmps63
    go_wp2
    go_ret
    refine ⟨ret_int ?_, rfl⟩
    have h1 := H.out.2
    have h2 := H.out.1
    simp only [IntKind.wrap_u64, zigN]
    rw [if_pos h]
    omega
  · go_enter Try.func63, Try.ntmps63
    go_wp2
    go_ret
    refine ⟨ret_int ?_, rfl⟩
    have h1 := H.out.2
    have h2 := H.out.1
    simp only [IntKind.wrap_u64, zigN, wrap64]
    rw [if_neg (by omega)]
    omega
set_option maxHeartbeats 400000 in
theorem rint (A : Option Addr) (n c : Nat) (bs : List Int) (x : Int) (hx : I64 x) (w : World) (hr : Rds w 1 A n c (nums .u8 bs)) (hb : n ≤ 140737488000000) :
    Calls Try.prog 47 #[.slice A n c, .int .i64 x] w (Puts w (bs ++ enc (zigN x))) := by
  have H := Lib.hid hx
  have HZ := Lib.hid (zigN_lt x hx.1 hx.2)
  clear hx
  go_enter Try.func47, Try.ntmps47
  go_wp2_with (first | (go_at_call 63; refine (rzig _ H.out _).mono ?_; rintro e w' ⟨rfl, rfl⟩) | (go_at_call 25; refine (rnum _ _ _ _ _ HZ.out _ hr hb).mono ?_; rintro e w1 ⟨v, rfl, hown, hbel⟩))
  go_ret
  exact ⟨v, rfl, hown, hbel⟩
end Go.Proofs.Ytdnddoiemaifjaa
