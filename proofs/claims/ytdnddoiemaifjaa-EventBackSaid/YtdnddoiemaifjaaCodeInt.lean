/- The Int of package code. -/
import Derived.Test.YtdnddoiemaifjaaCodeNum
namespace Go.Proofs.Ytdnddoiemaifjaa
open Go.RowKit
set_option maxHeartbeats 400000 in
theorem czig (n : Int) (hn : I64 n) (w : World) : Calls Try.prog 62 #[.int .i64 n] w fun e w' => e = .returned (.int .u64 (zigN n)) ∧ w = w' := by
  have H := Lib.hid hn
  clear hn
  go_enter Try.func62, Try.ntmps62
  go_wp2
  go_ret
  refine ⟨?_, rfl⟩
  rw [← zig_code n H.out.1 H.out.2]
  first | rfl | (simp; done)
set_option maxHeartbeats 400000 in
theorem cint (A : Option Addr) (n c : Nat) (bs : List Int) (x : Int) (hx : I64 x) (w : World) (hr : Rds w 1 A n c (nums .u8 bs)) (hb : n ≤ 140737488000000) :
    Calls Try.prog 43 #[.slice A n c, .int .i64 x] w (Puts w (bs ++ enc (zigN x))) := by
  have H := Lib.hid hx
  have HZ := Lib.hid (zigN_lt x hx.1 hx.2)
  clear hx
  go_enter Try.func43, Try.ntmps43
  go_wp2_with (first | (go_at_call 62; refine (czig _ H.out _).mono ?_; rintro e w' ⟨rfl, rfl⟩) | (go_at_call 44; refine (cnum _ _ _ _ _ HZ.out _ hr hb).mono ?_; rintro e w1 ⟨v, rfl, hown, hbel⟩))
  go_ret
  exact ⟨v, rfl, hown, hbel⟩
end Go.Proofs.Ytdnddoiemaifjaa
