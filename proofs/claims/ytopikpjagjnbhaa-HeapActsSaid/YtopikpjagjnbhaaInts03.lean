/- The reference's comparison of two lists of ints. -/
import Derived.Test.YtopikpjagjnbhaaRows
import Derived.Test.YtopikpjagjnbhaaBase
namespace Go.Proofs.Ytopikpjagjnbhaa
open Go.RowKit
theorem nums_inj_len {w : World} {A : Option Addr} {n c : Nat} {k : IntKind} {bs : List Int} (h : Rds w 1 A n c (nums k bs)) : bs.length = n := by
  have := h.len; rw [nums_length] at this; omega
set_option maxHeartbeats 1000000 in
theorem ints03 (A : Option Addr) (n c : Nat) (xs : List Int) (B : Option Addr) (m d : Nat) (ys : List Int) (w : World) (hr : Rds w 1 A n c (nums .i64 xs)) (hr2 : Rds w 1 B m d (nums .i64 ys)) :
    Calls Try.prog 16 #[.slice A n c, .slice B m d] w fun e w' => e = .returned (.bool (decide (xs = ys))) ∧ Below w.heap.size w w' := by
  have HN := Lib.hid (nums_inj_len hr)
  have HM := Lib.hid (nums_inj_len hr2)
  have hmax : n ≤ 9223372036854775807 := by have := hr.le; have := hr.max; unfold maxLen at this; omega
  by_cases hnm : n = m
  · subst hnm
    go_enter Try.func16, Try.ntmps16
    go_wp2
    go_loopw [13] (fun i wr => ∃ k : Nat, k ≤ n ∧ i = .int .i64 k ∧ Below w.heap.size w wr ∧ Hid (xs.take k = ys.take k)) (fun i _ => n - (intOf i).toNat)
    case atStart => exact ⟨0, Nat.zero_le _, rfl, Below.refl _ _, by show _ = _; simp⟩
    case round =>
      obtain ⟨k, hk, rfl, hb, HJ⟩ := hrel
      by_cases hlt : k < n
      · have hkx : k < xs.length := by rw [HN.out]; exact hlt
        have hky : k < ys.length := by rw [HM.out]; exact hlt
        obtain ⟨ad, rfl⟩ := hr.some_ (by omega)
        obtain ⟨bd, rfl⟩ := hr2.some_ (by omega)
        have hc1 := (hr.below hb).cell ad rfl k _ (nums_get .i64 xs k hkx)
        have hc2 := (hr2.below hb).cell bd rfl k _ (nums_get .i64 ys k hky)
        have hi0 : (0 : Int) ≤ (k : Int) := by omega
        have hi1 : (k : Int) < (n : Int) := by omega
        obtain ⟨x, hx⟩ : ∃ x, x = xs[k] := ⟨_, rfl⟩
        obtain ⟨y, hy⟩ : ∃ y, y = ys[k] := ⟨_, rfl⟩
        rw [← hx] at hc1
        rw [← hy] at hc2
        have HX := Lib.hid hx
        have HY := Lib.hid hy
        clear hx hy
        by_cases hxy : x = y
        · have hne : (x != y) = false := by simp [hxy]
          have HE := Lib.hid hxy
          clear hxy
          go_wp2
          go_quiet (fail)
          go_wp2
          go_roundw
          case rel =>
            refine ⟨k + 1, by omega, by go_num, below_dr hb _, ?_⟩
            show _ = _
            rw [List.take_succ_eq_append_getElem hkx, List.take_succ_eq_append_getElem hky, HJ.out, ← HX.out, ← HY.out, HE.out]
          case measure => simp [intOf]; omega
        · have hne : (x != y) = true := by simp [hxy]
          have HE := Lib.hid hxy
          clear hxy
          go_wp2
          go_quiet (fail)
          go_wp2
          go_ret
          refine ⟨ret_bool ?_, below_dr hb _⟩
          rw [eq_comm, decide_eq_false_iff_not]
          intro e
          exact HE.out (by rw [HX.out, HY.out]; simp [e])
      · go_wp2
        go_ret
        refine ⟨ret_bool ?_, hb⟩
        have hkn : k = n := by omega
        have h := HJ.out
        rw [List.take_of_length_le (by rw [HN.out]; omega), List.take_of_length_le (by rw [HM.out]; omega)] at h
        simp [h]
  · go_enter Try.func16, Try.ntmps16
    go_wp2
    go_ret
    refine ⟨ret_bool ?_, Below.refl _ _⟩
    rw [eq_comm, decide_eq_false_iff_not]
    intro e
    have h1 := HN.out
    have h2 := HM.out
    rw [e] at h1
    omega
end Go.Proofs.Ytopikpjagjnbhaa
