/- Package num: a wide one as an int, Mul. -/
import Derived.Test.YtkebkmjffbnihaaNumW
namespace Go.Proofs.Ytkebkmjffbnihaa
open Go.RowKit
theorem int_hi {p : Int} (h : 0 < hiN p) : ¬ I64 p := by unfold hiN at h; unfold I64; omega
set_option maxRecDepth 100000 in
set_option maxHeartbeats 1000000 in
theorem nint (p : Int) (w : World) : Calls Try.prog 33 #[wideV p] w fun e w' => e = .returned (.tuple #[.int .i64 (fitV p), .bool (fitB p)]) ∧ Below w.heap.size w w' := by
  have HL := Lib.hid (abs_hl p)
  have hl := lo_lt p
  unfold wideV
  by_cases h0 : 0 < hiN p
  · have hf := fit_no (int_hi h0)
    rw [hf.1, hf.2]
    clear hf
    generalize hiN p = h at *
    generalize loN p = l at *
    generalize decide (p < 0) = b at *
    clear HL
    go_enter Try.func33, Try.ntmps33
    go_wp2
    go_ret2
    exact ⟨rfl, below_al (Below.refl _ _) _⟩
  · have h1 : hiN p = 0 := by omega
    rw [h1] at HL ⊢
    have HP : Hid (p.natAbs = loN p) := by have := HL.out; show _ = _; omega
    clear HL h0 h1
    generalize loN p = l at *
    by_cases hn : p < 0
    · have hd : decide (p < 0) = true := by simp [hn]
      rw [hd]
      by_cases hm : l ≤ 9223372036854775808
      · have hf : I64 p := by have := HP.out; unfold I64; omega
        have hv : Hid (p = wrap64 (IntKind.u64.wrap (-(l : Int)))) := by have := HP.out; show _ = _; rw [IntKind.wrap_u64]; unfold wrap64; omega
        rw [(fit_yes hf).1, (fit_yes hf).2]
        clear hd hf hn
        go_enter Try.func33, Try.ntmps33
        go_wp2
        go_ret2
        exact ⟨ret_ib hv.out.symm rfl, below_al (Below.refl _ _) _⟩
      · have hf : ¬ I64 p := by have := HP.out; unfold I64; omega
        rw [(fit_no hf).1, (fit_no hf).2]
        clear hd hf hn HP
        go_enter Try.func33, Try.ntmps33
        go_wp2
        go_ret2
        exact ⟨rfl, below_al (Below.refl _ _) _⟩
    · have hd : decide (p < 0) = false := by simp [hn]
      rw [hd]
      by_cases hm : l ≤ 9223372036854775807
      · have hf : I64 p := by have := HP.out; unfold I64; omega
        have hv : Hid (p = (l : Int)) := by have := HP.out; show _ = _; omega
        rw [(fit_yes hf).1, (fit_yes hf).2]
        clear hd hf hn
        go_enter Try.func33, Try.ntmps33
        go_wp2
        go_ret2
        exact ⟨ret_ib hv.out.symm rfl, below_al (Below.refl _ _) _⟩
      · have hf : ¬ I64 p := by have := HP.out; unfold I64; omega
        rw [(fit_no hf).1, (fit_no hf).2]
        clear hd hf hn HP
        go_enter Try.func33, Try.ntmps33
        go_wp2
        go_ret2
        exact ⟨rfl, below_al (Below.refl _ _) _⟩
set_option maxHeartbeats 400000 in
theorem nmul (a b : Int) (ha : I64 a) (hb : I64 b) (w : World) : Calls Try.prog 19 #[.int .i64 a, .int .i64 b] w fun e w' => e = .returned (.tuple #[.int .i64 (fitV (a * b)), .bool (fitB (a * b))]) ∧ Below w.heap.size w w' := by
  have H1 := Lib.hid (fun W => nproduct a b ha hb W)
  have H3 := Lib.hid (fun W => nint (a * b) W)
  generalize fitV (a * b) = r at *
  generalize fitB (a * b) = s at *
  generalize wideV (a * b) = x at *
  clear ha hb
  go_enter Try.func19, Try.ntmps19
  go_wp2_with (first | (with_reducible refine (H1.out _).mono ?_; rintro e w1 ⟨rfl, hb1⟩) | (with_reducible refine (H3.out _).mono ?_; rintro e w3 ⟨rfl, hb3⟩))
  go_ret2
  exact ⟨rfl, below_tr hb1 hb3⟩
end Go.Proofs.Ytkebkmjffbnihaa
