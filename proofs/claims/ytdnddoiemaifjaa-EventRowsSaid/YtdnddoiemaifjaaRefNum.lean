/- The reference's Num of layer 7. -/
import Derived.Test.YtdnddoiemaifjaaCodeNum
namespace Go.Proofs.Ytdnddoiemaifjaa
open Go.RowKit
set_option maxRecDepth 100000 in
set_option maxHeartbeats 400000 in
theorem rnum (A : Option Addr) (n c : Nat) (bs : List Int) (x : Nat) (hx : x < 18446744073709551616) (w : World) (hr : Rds w 1 A n c (nums .u8 bs)) (hb : n ≤ 140737488000000) :
    Calls Try.prog 25 #[.slice A n c, .int .u64 x] w (Puts w (bs ++ enc x)) := by
  have HX := Lib.hid hx
  have HN := Lib.hid (rds_len hr)
  have hel := enc_length x
  clear hx
  go_enter Try.func25, Try.ntmps25
  go_wp2_with (at_builtin; refine apbs (w0 := w) (by rfl) _ _ (by rfl) _ [] A n c bs (by rfl) (by rfl) (hr.below (below_al (Below.refl _ _) _)) (lit_own (Below.refl _ _) _) (below_al (Below.refl _ _) _) (by simp; omega) ?_; intro v1 w1 hown hbel)
  go_loopw [5, 1] (fun v i wr => ∃ (y : Nat) (ys : List Int), i = .int .u64 y ∧ y ≤ x ∧ wr.ownsRow w.heap.size 5 1 v (bs ++ ys).length (nums .u8 (bs ++ ys)) ∧ Below w.heap.size w wr ∧ Hid (ys ++ enc y = enc x)) (fun _ i _ => (intOf i).toNat)
  case atStart => exact ⟨x, [], rfl, Nat.le_refl _, by simpa using hown, hbel, rfl⟩
  case round =>
    obtain ⟨y, ys, rfl, hyx, hownr, hbr, HE⟩ := hrel
    have hys : ys.length < (enc x).length := by rw [← HE.out, List.length_append]; have := enc_pos y; omega
    have hlen : (bs ++ ys).length < 140737488355328 := by rw [List.length_append, HN.out]; omega
    clear hown hbel
    go_wp2_with (at_builtin; refine apb (w0 := w) (by rfl) _ _ (by rfl) _ _ _ (by rfl) (by rfl) hownr hbr hlen ?_; intro v1 w1 hown1 hbel1)
    · have hy : ¬ y < 128 := by have : (128 : Int) ≤ y := by assumption
                                omega
      refine ⟨⟨y / 128, ys ++ [((y % 128 + 128 : Nat) : Int)], by go_num, by omega, by rw [and127or128 y (by have := HX.out; omega), List.append_assoc] at hown1; exact hown1, hbel1, ?_⟩, by simp [intOf]; omega⟩
      show _ = _
      rw [← HE.out, enc_ge y hy (by have := HX.out; omega)]
      simp
    · have hy : y < 128 := by have : (y : Int) < 128 := by assumption
                              omega
      go_ret
      refine ⟨v1, rfl, ?_, hbel1⟩
      rw [← HE.out, enc_lt y hy, ← List.append_assoc]
      exact hown1

end Go.Proofs.Ytdnddoiemaifjaa
