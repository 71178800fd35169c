/- CodeNone: a source that no call made. -/
import Derived.Test.YtdnddoiemaifjaaCodeNum
namespace Go.Proofs.Ytdnddoiemaifjaa
open Go.RowKit
set_option maxHeartbeats 1000000 in
theorem sis_nil (w : World) : Calls Try.prog 52 #[.pointer none] w fun e w' => e = .returned (.bool false) ∧ w = w' := by
  go_enter Try.func52, Try.ntmps52
  go_wp2
  go_ret
  exact ⟨rfl, rfl⟩
set_option maxHeartbeats 1000000 in
theorem sis (b : Nat) (m : Bool) (w : World) (h : w.cell? ⟨b, 0, none⟩ = some (.bool m)) : Calls Try.prog 52 #[.pointer (some ⟨b, 0, none⟩)] w fun e w' => e = .returned (.bool m) ∧ w = w' := by
  go_enter Try.func52, Try.ntmps52
  go_wp2
  go_ret
  exact ⟨rfl, rfl⟩
/-- No call made it. -/
def NoSrc (p : Option Addr) (w : World) : Prop := ∀ W, Below w.heap.size w W → Calls Try.prog 52 #[.pointer p] W fun e w' => e = .returned (.bool false) ∧ W = w'
theorem NoSrc.below {p : Option Addr} {w w1 : World} (h : NoSrc p w) (hb : Below w.heap.size w w1) : NoSrc p w1 := fun W hW => h W (below_tr hb hW)
theorem nosrc_nil (w : World) : NoSrc none w := fun W _ => sis_nil W
theorem nosrc_zero (w : World) (b : Nat) (h : w.cell? ⟨b, 0, none⟩ = some (.bool false)) : NoSrc (some ⟨b, 0, none⟩) w := fun W hW => sis b false W (cell_below hW h)
set_option maxRecDepth 100000 in
set_option maxHeartbeats 2000000 in
theorem nget_u64 (p : Option Addr) (st : Value) (w : World) (h : NoSrc p w) : Calls Try.prog 56 #[.pointer p, st] w fun e w' => e = .returned (.int .u64 0) ∧ Below w.heap.size w w' := by
  have hal : Below w.heap.size w (((w.alloc (.cells #[.pointer p] 55)).alloc (.cells #[.int .u64 0] 54)).alloc (.cells #[.int .u64 0] 54)) := below_al (below_al (below_al (Below.refl _ _) _) _) _
  have HM := Lib.hid (h _ hal)
  clear h
  go_enter Try.func56, Try.ntmps56
  go_wp2_with ((with_reducible refine HM.out.mono ?_); rintro e w1 ⟨rfl, rfl⟩)
  exact bodyPost_ret (v := .int .u64 0) (by simp [results, Try.results56, go_sem]) rfl ⟨rfl, hal⟩
set_option maxRecDepth 100000 in
set_option maxHeartbeats 2000000 in
theorem nget_int (p : Option Addr) (st : Value) (w : World) (h : NoSrc p w) : Calls Try.prog 66 #[.pointer p, st] w fun e w' => e = .returned (.int .i64 0) ∧ Below w.heap.size w w' := by
  have hal : Below w.heap.size w (((w.alloc (.cells #[.pointer p] 55)).alloc (.cells #[.int .i64 0] 3)).alloc (.cells #[.int .i64 0] 3)) := below_al (below_al (below_al (Below.refl _ _) _) _) _
  have HM := Lib.hid (h _ hal)
  clear h
  go_enter Try.func66, Try.ntmps66
  go_wp2_with ((with_reducible refine HM.out.mono ?_); rintro e w1 ⟨rfl, rfl⟩)
  exact bodyPost_ret (v := .int .i64 0) (by simp [results, Try.results66, go_sem]) rfl ⟨rfl, hal⟩
set_option maxRecDepth 100000 in
set_option maxHeartbeats 2000000 in
theorem nsNum (p : Option Addr) (n : Int) (w : World) (h : NoSrc p w) : Calls Try.prog 35 #[.pointer p, .int .u64 n] w fun e w' => e = .returned (.int .u64 0) ∧ Below w.heap.size w w' := by
  have hal : Below w.heap.size w ((w.alloc (.cells #[.pointer p] 55)).alloc (.cells #[.int .u64 n] 54)) := below_al (below_al (Below.refl _ _) _) _
  have HG := Lib.hid (fun st => nget_u64 p st _ (h.below hal))
  have HAL := Lib.hid hal
  clear h hal
  go_enter Try.func35, Try.ntmps35
  go_wp2_with ((with_reducible refine (HG.out _).mono ?_); rintro e w1 ⟨rfl, hb1⟩)
  go_ret
  exact ⟨rfl, below_then HAL.out HAL.out.size hb1⟩
set_option maxRecDepth 100000 in
set_option maxHeartbeats 2000000 in
theorem nsInt (p : Option Addr) (a b : Int) (w : World) (h : NoSrc p w) : Calls Try.prog 51 #[.pointer p, .int .i64 a, .int .i64 b] w fun e w' => e = .returned (.int .i64 0) ∧ Below w.heap.size w w' := by
  have hal : Below w.heap.size w (((w.alloc (.cells #[.pointer p] 55)).alloc (.cells #[.int .i64 a] 3)).alloc (.cells #[.int .i64 b] 3)) := below_al (below_al (below_al (Below.refl _ _) _) _) _
  have HG := Lib.hid (fun st => nget_int p st _ (h.below hal))
  have HAL := Lib.hid hal
  clear h hal
  go_enter Try.func51, Try.ntmps51
  go_wp2_with ((with_reducible refine (HG.out _).mono ?_); rintro e w1 ⟨rfl, hb1⟩)
  go_ret
  exact ⟨rfl, below_then HAL.out HAL.out.size hb1⟩
set_option maxHeartbeats 1000000 in
theorem nsByte (p : Option Addr) (w : World) (h : NoSrc p w) : Calls Try.prog 49 #[.pointer p] w fun e w' => e = .returned (.int .u8 0) ∧ w = w' := by
  have HM := Lib.hid (h _ (Below.refl _ _))
  clear h
  go_enter Try.func49, Try.ntmps49
  go_wp2_with ((with_reducible refine HM.out.mono ?_); rintro e w1 ⟨rfl, rfl⟩)
  go_ret
  exact ⟨rfl, rfl⟩
set_option maxHeartbeats 1000000 in
theorem nsLeft (p : Option Addr) (w : World) (h : NoSrc p w) : Calls Try.prog 31 #[.pointer p] w fun e w' => e = .returned (.int .i64 0) ∧ w = w' := by
  have HM := Lib.hid (h _ (Below.refl _ _))
  clear h
  go_enter Try.func31, Try.ntmps31
  go_wp2_with ((with_reducible refine HM.out.mono ?_); rintro e w1 ⟨rfl, rfl⟩)
  go_ret
  exact ⟨rfl, rfl⟩
set_option maxHeartbeats 1000000 in
theorem nsErr (p : Option Addr) (w : World) (h : NoSrc p w) : Calls Try.prog 30 #[.pointer p] w fun e w' => e = .returned (.int .i64 1) ∧ w = w' := by
  have HM := Lib.hid (h _ (Below.refl _ _))
  clear h
  go_enter Try.func30, Try.ntmps30
  go_wp2_with ((with_reducible refine HM.out.mono ?_); rintro e w1 ⟨rfl, rfl⟩)
  go_ret
  exact ⟨rfl, rfl⟩
set_option maxHeartbeats 1000000 in
theorem nsEnd (p : Option Addr) (w : World) (h : NoSrc p w) : Calls Try.prog 36 #[.pointer p] w fun e w' => e = .returned (.int .i64 1) ∧ w = w' := by
  have HM := Lib.hid (nsErr p w h)
  clear h
  go_enter Try.func36, Try.ntmps36
  go_wp2_with ((with_reducible refine HM.out.mono ?_); rintro e w1 ⟨rfl, rfl⟩)
  go_ret
  exact ⟨rfl, rfl⟩
end Go.Proofs.Ytdnddoiemaifjaa
