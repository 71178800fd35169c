/- Package stride: strides and passes that enter. -/
import Derived.Test.YtabdipfpfbdghaaIdxInt
import Derived.Test.YtabdipfpfbdghaaNum
namespace Go.Proofs.Ytabdipfpfbdghaa
open Go.RowKit
theorem info_int : (Try.prog.info? 3).map (fun i => (i.zero, i.size, i.bytes)) = some (some (.int .i64 0), 1, 8) := by kernel_rfl
def wrongT (t : Int) : Bool := decide (t < 1) || decide (65536 < t)
def rightT (t : Int) : Bool := decide (1 ≤ t ∧ t ≤ 65536)
theorem right_wrong (t : Int) : (!wrongT t) = rightT t := by
  unfold wrongT rightT
  rw [Bool.eq_iff_iff]
  simp
set_option maxHeartbeats 400000 in
theorem sright1 (t : Int) (w : World) : Calls Try.prog 69 #[.int .i64 t] w fun e w' => e = .returned (.bool (wrongT t)) ∧ w = w' := by
  by_cases h1 : t < 1 <;> by_cases h2 : 65536 < t
  all_goals
    go_enter Try.func69, Try.ntmps69
    go_wp2
    all_goals
      go_ret
      exact ⟨ret_bool (by simp [wrongT]; omega), rfl⟩
set_option maxHeartbeats 400000 in
theorem sright (A : Option Addr) (n c : Nat) (xs : List Int) (w : World) (hr : Rds w 1 A n c (nums .i64 xs)) :
    Calls Try.prog 49 #[.slice A n c] w fun e w' => e = .returned (.bool (xs.all rightT)) ∧ w = w' := by
  have eg : ∀ args w, (callFunc 69 args).run Try.prog w = .ok (.enter 69 args) w := Go.Proofs.enters_of Try.func69 (by kernel_rfl) rfl
  have HI := Lib.hid (containsInt 69 #[] eg wrongT A n c xs w hr (fun x _ => sright1 x w))
  have HB : Hid ((!xs.any wrongT) = xs.all rightT) := by
    show _ = _
    rw [List.not_any_eq_all_not]
    congr 1
    funext t
    exact right_wrong t
  generalize xs.any wrongT = q at HI HB
  generalize xs.all rightT = b at HB
  clear eg hr
  go_enter Try.func49, Try.ntmps49
  go_wp2_with (go_at_call 70; refine HI.out.mono ?_; rintro e w' ⟨rfl, rfl⟩)
  go_ret
  exact ⟨ret_bool HB.out, rfl⟩
def strideV (t : Int) : Int := if rightT t then 1099511627776 / t else 0
set_option maxHeartbeats 400000 in
theorem sstride (t : Int) (w : World) : Calls Try.prog 26 #[.int .i64 t] w fun e w' => e = .returned (.int .i64 (strideV t)) ∧ Below w.heap.size w w' := by
  cases h : rightT t with
  | true =>
    have h1 : 1 ≤ t ∧ t ≤ 65536 := by simpa [rightT] using h
    obtain ⟨h1, h2⟩ := h1
    have HI := Lib.hid h
    clear h
    go_enter Try.func26, Try.ntmps26
    go_wp2_with (go_at_call 49; refine (sright _ 1 1 [t] _ (rds_lit _ _ 1 1 (nums .i64 [t]) rfl (by decide))).mono ?_; rintro e w' ⟨rfl, rfl⟩; rw [show List.all [t] rightT = true by simp [HI.out]])
    go_ret
    refine ⟨ret_int ?_, below_al (Below.refl _ _) _⟩
    unfold strideV
    rw [if_pos HI.out]
  | false =>
    have HI := Lib.hid h
    clear h
    go_enter Try.func26, Try.ntmps26
    go_wp2_with (go_at_call 49; refine (sright _ 1 1 [t] _ (rds_lit _ _ 1 1 (nums .i64 [t]) rfl (by decide))).mono ?_; rintro e w' ⟨rfl, rfl⟩; rw [show List.all [t] rightT = false by simp [HI.out]])
    go_ret
    refine ⟨ret_int ?_, below_al (Below.refl _ _) _⟩
    unfold strideV
    rw [HI.out]
    rfl
def satAdd (a b : Int) : Int := if I64 (a + b) then a + b else if b < 0 then -9223372036854775808 else 9223372036854775807
def enterV (pass now s : Int) : Int := clampV pass now (satAdd now s)
set_option maxRecDepth 100000 in
set_option maxHeartbeats 400000 in
theorem senter (p n s : Int) (hn : I64 n) (hs : I64 s) (w : World) : Calls Try.prog 53 #[.int .i64 p, .int .i64 n, .int .i64 s] w fun e w' => e = .returned (.int .i64 (enterV p n s)) ∧ w = w' := by
  have HA := Lib.hid (nadd n s hn hs w)
  clear hn hs
  by_cases h : I64 (n + s)
  · have HS : Hid (satAdd n s = n + s) := by show _ = _; unfold satAdd; rw [if_pos h]
    rw [(fit_yes h).1, (fit_yes h).2] at HA
    clear h
    generalize n + s = m at HA HS
    go_enter Try.func53, Try.ntmps53
    go_wp2_with (first | (go_at_call 56; refine HA.out.mono ?_; rintro e w' ⟨rfl, rfl⟩) | (go_at_call 72; refine (nclamp _ _ _ _).mono ?_; rintro e w' ⟨rfl, rfl⟩))
    go_ret
    exact ⟨ret_int (by unfold enterV; rw [HS.out]), rfl⟩
  · by_cases h2 : s < 0
    · have HS : Hid (satAdd n s = -9223372036854775808) := by show _ = _; unfold satAdd; rw [if_neg h, if_pos h2]
      rw [(fit_no h).1, (fit_no h).2] at HA
      clear h
      go_enter Try.func53, Try.ntmps53
      go_wp2_with (first | (go_at_call 56; refine HA.out.mono ?_; rintro e w' ⟨rfl, rfl⟩) | (go_at_call 72; refine (nclamp _ _ _ _).mono ?_; rintro e w' ⟨rfl, rfl⟩))
      go_ret
      exact ⟨ret_int (by unfold enterV; rw [HS.out]), rfl⟩
    · have HS : Hid (satAdd n s = 9223372036854775807) := by show _ = _; unfold satAdd; rw [if_neg h, if_neg h2]
      rw [(fit_no h).1, (fit_no h).2] at HA
      clear h
      go_enter Try.func53, Try.ntmps53
      go_wp2_with (first | (go_at_call 56; refine HA.out.mono ?_; rintro e w' ⟨rfl, rfl⟩) | (go_at_call 72; refine (nclamp _ _ _ _).mono ?_; rintro e w' ⟨rfl, rfl⟩))
      go_ret
      exact ⟨ret_int (by unfold enterV; rw [HS.out]), rfl⟩
end Go.Proofs.Ytabdipfpfbdghaa
