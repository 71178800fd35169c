/- Package code: a source with an error: each getter tells a zero, and nothing changes. -/
import Derived.Test.YtdnddoiemaifjaaOctet
namespace Go.Proofs.Ytdnddoiemaifjaa
open Go.RowKit
variable {B : Nat}
set_option maxRecDepth 100000 in
set_option maxHeartbeats 2000000 in
theorem sget_u64 (b : Nat) (er : Int) (bs : List Int) (h0 : er ≠ 0) (st : Value) (w : World) (h : Src B w b bs er) : Calls Try.prog 56 #[.pointer (some ⟨b, 0, none⟩), st] w fun e w' => e = .returned (.int .u64 0) ∧ Below w.heap.size w w' := by
  have hal : Below w.heap.size w (((w.alloc (.cells #[.pointer (some ⟨b, 0, none⟩)] 55)).alloc (.cells #[.int .u64 0] 54)).alloc (.cells #[.int .u64 0] 54)) := below_al (below_al (below_al (Below.refl _ _) _) _) _
  have h3 := h.below hal
  have HM := Lib.hid (sis b true _ h3.made.cell)
  have he := h3.err.cell
  have hn : (er != 0) = true := by simpa using h0
  clear h h0 h3
  go_enter Try.func56, Try.ntmps56
  go_wp2_with ((with_reducible refine HM.out.mono ?_); rintro e w1 ⟨rfl, rfl⟩)
  exact bodyPost_ret (v := .int .u64 0) (by simp [results, Try.results56, go_sem]) rfl ⟨rfl, hal⟩
set_option maxRecDepth 100000 in
set_option maxHeartbeats 2000000 in
theorem sget_int (b : Nat) (er : Int) (bs : List Int) (h0 : er ≠ 0) (st : Value) (w : World) (h : Src B w b bs er) : Calls Try.prog 66 #[.pointer (some ⟨b, 0, none⟩), st] w fun e w' => e = .returned (.int .i64 0) ∧ Below w.heap.size w w' := by
  have hal : Below w.heap.size w (((w.alloc (.cells #[.pointer (some ⟨b, 0, none⟩)] 55)).alloc (.cells #[.int .i64 0] 3)).alloc (.cells #[.int .i64 0] 3)) := below_al (below_al (below_al (Below.refl _ _) _) _) _
  have h3 := h.below hal
  have HM := Lib.hid (sis b true _ h3.made.cell)
  have he := h3.err.cell
  have hn : (er != 0) = true := by simpa using h0
  clear h h0 h3
  go_enter Try.func66, Try.ntmps66
  go_wp2_with ((with_reducible refine HM.out.mono ?_); rintro e w1 ⟨rfl, rfl⟩)
  exact bodyPost_ret (v := .int .i64 0) (by simp [results, Try.results66, go_sem]) rfl ⟨rfl, hal⟩
set_option maxRecDepth 100000 in
set_option maxHeartbeats 2000000 in
theorem sget_byte (b : Nat) (er : Int) (bs : List Int) (h0 : er ≠ 0) (st : Value) (w : World) (h : Src B w b bs er) : Calls Try.prog 64 #[.pointer (some ⟨b, 0, none⟩), st] w fun e w' => e = .returned (.int .u8 0) ∧ Below w.heap.size w w' := by
  have hal : Below w.heap.size w (((w.alloc (.cells #[.pointer (some ⟨b, 0, none⟩)] 55)).alloc (.cells #[.int .u8 0] 5)).alloc (.cells #[.int .u8 0] 5)) := below_al (below_al (below_al (Below.refl _ _) _) _) _
  have h3 := h.below hal
  have HM := Lib.hid (sis b true _ h3.made.cell)
  have he := h3.err.cell
  have hn : (er != 0) = true := by simpa using h0
  clear h h0 h3
  go_enter Try.func64, Try.ntmps64
  go_wp2_with ((with_reducible refine HM.out.mono ?_); rintro e w1 ⟨rfl, rfl⟩)
  exact bodyPost_ret (v := .int .u8 0) (by simp [results, Try.results64, go_sem]) rfl ⟨rfl, hal⟩
set_option maxRecDepth 100000 in
set_option maxHeartbeats 2000000 in
theorem qNum (b : Nat) (er : Int) (bs : List Int) (h0 : er ≠ 0) (m : Int) (w : World) (h : Src B w b bs er) : Calls Try.prog 35 #[.pointer (some ⟨b, 0, none⟩), .int .u64 m] w fun e w' => e = .returned (.int .u64 0) ∧ Below w.heap.size w w' := by
  have hal : Below w.heap.size w ((w.alloc (.cells #[.pointer (some ⟨b, 0, none⟩)] 55)).alloc (.cells #[.int .u64 m] 54)) := below_al (below_al (Below.refl _ _) _) _
  have HG := Lib.hid (fun st => sget_u64 b er bs h0 st _ (h.below hal))
  have HAL := Lib.hid hal
  clear h hal h0
  go_enter Try.func35, Try.ntmps35
  go_wp2_with ((with_reducible refine (HG.out _).mono ?_); rintro e w1 ⟨rfl, hb1⟩)
  go_ret
  exact ⟨rfl, below_then HAL.out HAL.out.size hb1⟩
set_option maxRecDepth 100000 in
set_option maxHeartbeats 2000000 in
theorem qInt (b : Nat) (er : Int) (bs : List Int) (h0 : er ≠ 0) (a d : Int) (w : World) (h : Src B w b bs er) : Calls Try.prog 51 #[.pointer (some ⟨b, 0, none⟩), .int .i64 a, .int .i64 d] w fun e w' => e = .returned (.int .i64 0) ∧ Below w.heap.size w w' := by
  have hal : Below w.heap.size w (((w.alloc (.cells #[.pointer (some ⟨b, 0, none⟩)] 55)).alloc (.cells #[.int .i64 a] 3)).alloc (.cells #[.int .i64 d] 3)) := below_al (below_al (below_al (Below.refl _ _) _) _) _
  have HG := Lib.hid (fun st => sget_int b er bs h0 st _ (h.below hal))
  have HAL := Lib.hid hal
  clear h hal h0
  go_enter Try.func51, Try.ntmps51
  go_wp2_with ((with_reducible refine (HG.out _).mono ?_); rintro e w1 ⟨rfl, hb1⟩)
  go_ret
  exact ⟨rfl, below_then HAL.out HAL.out.size hb1⟩
set_option maxRecDepth 100000 in
set_option maxHeartbeats 2000000 in
theorem qByte (b : Nat) (er : Int) (bs : List Int) (h0 : er ≠ 0) (w : World) (h : Src B w b bs er) : Calls Try.prog 49 #[.pointer (some ⟨b, 0, none⟩)] w fun e w' => e = .returned (.int .u8 0) ∧ Below w.heap.size w w' := by
  have hmf : ∀ (fn : Fn) (first cap : Array Value) (w : World), (Instr.makeFunc fn first cap).run Try.prog w = .ok (.func fn first cap) w := fun _ _ _ _ => rfl
  have HM := Lib.hid (sis b true _ h.made.cell)
  have HG := Lib.hid (fun st => sget_byte b er bs h0 st _ h)
  clear h h0
  go_enter Try.func49, Try.ntmps49
  go_wp2_with (first | (go_at_call 52; (with_reducible refine HM.out.mono ?_); rintro e w1 ⟨rfl, rfl⟩) | ((with_reducible refine (HG.out _).mono ?_); rintro e w1 ⟨rfl, hb1⟩))
  go_ret
  exact ⟨rfl, hb1⟩
end Go.Proofs.Ytdnddoiemaifjaa
