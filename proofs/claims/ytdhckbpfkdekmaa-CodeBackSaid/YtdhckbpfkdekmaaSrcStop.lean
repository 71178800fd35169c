/- Package code: a source with an error: each getter tells a zero, and nothing changes. -/
import Derived.Test.YtdhckbpfkdekmaaOctet
namespace Go.Proofs.Ytdhckbpfkdekmaa
open Go.RowKit
variable {B : Nat}
set_option maxRecDepth 100000 in
set_option maxHeartbeats 2000000 in
theorem sget_u64 (b : Nat) (er : Int) (bs : List Int) (h0 : er ≠ 0) (st : Value) (w : World) (h : Src B w b bs er) : Calls Try.prog 38 #[.pointer (some ⟨b, 0, none⟩), st] w fun e w' => e = .returned (.int .u64 0) ∧ Below w.heap.size w w' := by
  have hal : Below w.heap.size w (((w.alloc (.cells #[.pointer (some ⟨b, 0, none⟩)] 34)).alloc (.cells #[.int .u64 0] 23)).alloc (.cells #[.int .u64 0] 23)) := below_al (below_al (below_al (Below.refl _ _) _) _) _
  have h3 := h.below hal
  have HM := Lib.hid (sis b true _ h3.made.cell)
  have he := h3.err.cell
  have hn : (er != 0) = true := by simpa using h0
  clear h h0 h3
  go_enter Try.func38, Try.ntmps38
  go_wp2_with ((with_reducible refine HM.out.mono ?_); rintro e w1 ⟨rfl, rfl⟩)
  exact bodyPost_ret (v := .int .u64 0) (by simp [results, Try.results38, go_sem]) rfl ⟨rfl, hal⟩
set_option maxRecDepth 100000 in
set_option maxHeartbeats 2000000 in
theorem sget_int (b : Nat) (er : Int) (bs : List Int) (h0 : er ≠ 0) (st : Value) (w : World) (h : Src B w b bs er) : Calls Try.prog 43 #[.pointer (some ⟨b, 0, none⟩), st] w fun e w' => e = .returned (.int .i64 0) ∧ Below w.heap.size w w' := by
  have hal : Below w.heap.size w (((w.alloc (.cells #[.pointer (some ⟨b, 0, none⟩)] 34)).alloc (.cells #[.int .i64 0] 3)).alloc (.cells #[.int .i64 0] 3)) := below_al (below_al (below_al (Below.refl _ _) _) _) _
  have h3 := h.below hal
  have HM := Lib.hid (sis b true _ h3.made.cell)
  have he := h3.err.cell
  have hn : (er != 0) = true := by simpa using h0
  clear h h0 h3
  go_enter Try.func43, Try.ntmps43
  go_wp2_with ((with_reducible refine HM.out.mono ?_); rintro e w1 ⟨rfl, rfl⟩)
  exact bodyPost_ret (v := .int .i64 0) (by simp [results, Try.results43, go_sem]) rfl ⟨rfl, hal⟩
set_option maxRecDepth 100000 in
set_option maxHeartbeats 2000000 in
theorem sget_str (b : Nat) (er : Int) (bs : List Int) (h0 : er ≠ 0) (st : Value) (w : World) (h : Src B w b bs er) : Calls Try.prog 46 #[.pointer (some ⟨b, 0, none⟩), st] w fun e w' => e = .returned (.string ⟨#[]⟩) ∧ Below w.heap.size w w' := by
  have hal : Below w.heap.size w (((w.alloc (.cells #[.pointer (some ⟨b, 0, none⟩)] 34)).alloc (.cells #[.string ⟨#[]⟩] 9)).alloc (.cells #[.string ⟨#[]⟩] 9)) := below_al (below_al (below_al (Below.refl _ _) _) _) _
  have h3 := h.below hal
  have HM := Lib.hid (sis b true _ h3.made.cell)
  have he := h3.err.cell
  have hn : (er != 0) = true := by simpa using h0
  clear h h0 h3
  go_enter Try.func46, Try.ntmps46
  go_wp2_with ((with_reducible refine HM.out.mono ?_); rintro e w1 ⟨rfl, rfl⟩)
  exact bodyPost_ret (v := .string ⟨#[]⟩) (by simp [results, Try.results46, go_sem]) rfl ⟨rfl, hal⟩
set_option maxRecDepth 100000 in
set_option maxHeartbeats 2000000 in
theorem sget_bool (b : Nat) (er : Int) (bs : List Int) (h0 : er ≠ 0) (st : Value) (w : World) (h : Src B w b bs er) : Calls Try.prog 49 #[.pointer (some ⟨b, 0, none⟩), st] w fun e w' => e = .returned (.bool false) ∧ Below w.heap.size w w' := by
  have hal : Below w.heap.size w (((w.alloc (.cells #[.pointer (some ⟨b, 0, none⟩)] 34)).alloc (.cells #[.bool false] 4)).alloc (.cells #[.bool false] 4)) := below_al (below_al (below_al (Below.refl _ _) _) _) _
  have h3 := h.below hal
  have HM := Lib.hid (sis b true _ h3.made.cell)
  have he := h3.err.cell
  have hn : (er != 0) = true := by simpa using h0
  clear h h0 h3
  go_enter Try.func49, Try.ntmps49
  go_wp2_with ((with_reducible refine HM.out.mono ?_); rintro e w1 ⟨rfl, rfl⟩)
  exact bodyPost_ret (v := .bool false) (by simp [results, Try.results49, go_sem]) rfl ⟨rfl, hal⟩
set_option maxRecDepth 100000 in
set_option maxHeartbeats 2000000 in
theorem sget_ints (b : Nat) (er : Int) (bs : List Int) (h0 : er ≠ 0) (st : Value) (w : World) (h : Src B w b bs er) : Calls Try.prog 52 #[.pointer (some ⟨b, 0, none⟩), st] w fun e w' => e = .returned (.slice none 0 0) ∧ Below w.heap.size w w' := by
  have hal : Below w.heap.size w (((w.alloc (.cells #[.pointer (some ⟨b, 0, none⟩)] 34)).alloc (.cells #[.slice none 0 0] 24)).alloc (.cells #[.slice none 0 0] 24)) := below_al (below_al (below_al (Below.refl _ _) _) _) _
  have h3 := h.below hal
  have HM := Lib.hid (sis b true _ h3.made.cell)
  have he := h3.err.cell
  have hn : (er != 0) = true := by simpa using h0
  clear h h0 h3
  go_enter Try.func52, Try.ntmps52
  go_wp2_with ((with_reducible refine HM.out.mono ?_); rintro e w1 ⟨rfl, rfl⟩)
  exact bodyPost_ret (v := .slice none 0 0) (by simp [results, Try.results52, go_sem]) rfl ⟨rfl, hal⟩
set_option maxRecDepth 100000 in
set_option maxHeartbeats 2000000 in
theorem sget_byte (b : Nat) (er : Int) (bs : List Int) (h0 : er ≠ 0) (st : Value) (w : World) (h : Src B w b bs er) : Calls Try.prog 54 #[.pointer (some ⟨b, 0, none⟩), st] w fun e w' => e = .returned (.int .u8 0) ∧ Below w.heap.size w w' := by
  have hal : Below w.heap.size w (((w.alloc (.cells #[.pointer (some ⟨b, 0, none⟩)] 34)).alloc (.cells #[.int .u8 0] 5)).alloc (.cells #[.int .u8 0] 5)) := below_al (below_al (below_al (Below.refl _ _) _) _) _
  have h3 := h.below hal
  have HM := Lib.hid (sis b true _ h3.made.cell)
  have he := h3.err.cell
  have hn : (er != 0) = true := by simpa using h0
  clear h h0 h3
  go_enter Try.func54, Try.ntmps54
  go_wp2_with ((with_reducible refine HM.out.mono ?_); rintro e w1 ⟨rfl, rfl⟩)
  exact bodyPost_ret (v := .int .u8 0) (by simp [results, Try.results54, go_sem]) rfl ⟨rfl, hal⟩
set_option maxRecDepth 100000 in
set_option maxHeartbeats 2000000 in
theorem qNum (b : Nat) (er : Int) (bs : List Int) (h0 : er ≠ 0) (m : Int) (w : World) (h : Src B w b bs er) : Calls Try.prog 21 #[.pointer (some ⟨b, 0, none⟩), .int .u64 m] w fun e w' => e = .returned (.int .u64 0) ∧ Below w.heap.size w w' := by
  have hal : Below w.heap.size w ((w.alloc (.cells #[.pointer (some ⟨b, 0, none⟩)] 34)).alloc (.cells #[.int .u64 m] 23)) := below_al (below_al (Below.refl _ _) _) _
  have HG := Lib.hid (fun st => sget_u64 b er bs h0 st _ (h.below hal))
  have HAL := Lib.hid hal
  clear h hal h0
  go_enter Try.func21, Try.ntmps21
  go_wp2_with ((with_reducible refine (HG.out _).mono ?_); rintro e w1 ⟨rfl, hb1⟩)
  go_ret
  exact ⟨rfl, below_then HAL.out HAL.out.size hb1⟩
set_option maxRecDepth 100000 in
set_option maxHeartbeats 2000000 in
theorem qInt (b : Nat) (er : Int) (bs : List Int) (h0 : er ≠ 0) (a d : Int) (w : World) (h : Src B w b bs er) : Calls Try.prog 24 #[.pointer (some ⟨b, 0, none⟩), .int .i64 a, .int .i64 d] w fun e w' => e = .returned (.int .i64 0) ∧ Below w.heap.size w w' := by
  have hal : Below w.heap.size w (((w.alloc (.cells #[.pointer (some ⟨b, 0, none⟩)] 34)).alloc (.cells #[.int .i64 a] 3)).alloc (.cells #[.int .i64 d] 3)) := below_al (below_al (below_al (Below.refl _ _) _) _) _
  have HG := Lib.hid (fun st => sget_int b er bs h0 st _ (h.below hal))
  have HAL := Lib.hid hal
  clear h hal h0
  go_enter Try.func24, Try.ntmps24
  go_wp2_with ((with_reducible refine (HG.out _).mono ?_); rintro e w1 ⟨rfl, hb1⟩)
  go_ret
  exact ⟨rfl, below_then HAL.out HAL.out.size hb1⟩
set_option maxRecDepth 100000 in
set_option maxHeartbeats 2000000 in
theorem qText (b : Nat) (er : Int) (bs : List Int) (h0 : er ≠ 0) (a : Int) (w : World) (h : Src B w b bs er) : Calls Try.prog 25 #[.pointer (some ⟨b, 0, none⟩), .int .i64 a] w fun e w' => e = .returned (.string ⟨#[]⟩) ∧ Below w.heap.size w w' := by
  have hal : Below w.heap.size w ((w.alloc (.cells #[.pointer (some ⟨b, 0, none⟩)] 34)).alloc (.cells #[.int .i64 a] 3)) := below_al (below_al (Below.refl _ _) _) _
  have HG := Lib.hid (fun st => sget_str b er bs h0 st _ (h.below hal))
  have HAL := Lib.hid hal
  clear h hal h0
  go_enter Try.func25, Try.ntmps25
  go_wp2_with ((with_reducible refine (HG.out _).mono ?_); rintro e w1 ⟨rfl, hb1⟩)
  go_ret
  exact ⟨rfl, below_then HAL.out HAL.out.size hb1⟩
set_option maxRecDepth 100000 in
set_option maxHeartbeats 2000000 in
theorem qFlag (b : Nat) (er : Int) (bs : List Int) (h0 : er ≠ 0) (w : World) (h : Src B w b bs er) : Calls Try.prog 26 #[.pointer (some ⟨b, 0, none⟩)] w fun e w' => e = .returned (.bool false) ∧ Below w.heap.size w w' := by
  have hal : Below w.heap.size w (w.alloc (.cells #[.pointer (some ⟨b, 0, none⟩)] 34)) := below_al (Below.refl _ _) _
  have HG := Lib.hid (fun st => sget_bool b er bs h0 st _ (h.below hal))
  have HAL := Lib.hid hal
  clear h hal h0
  go_enter Try.func26, Try.ntmps26
  go_wp2_with ((with_reducible refine (HG.out _).mono ?_); rintro e w1 ⟨rfl, hb1⟩)
  go_ret
  exact ⟨rfl, below_then HAL.out HAL.out.size hb1⟩
set_option maxRecDepth 100000 in
set_option maxHeartbeats 2000000 in
theorem qInts (b : Nat) (er : Int) (bs : List Int) (h0 : er ≠ 0) (n a d : Int) (w : World) (h : Src B w b bs er) : Calls Try.prog 27 #[.pointer (some ⟨b, 0, none⟩), .int .i64 n, .int .i64 a, .int .i64 d] w fun e w' => e = .returned (.slice none 0 0) ∧ Below w.heap.size w w' := by
  have hal : Below w.heap.size w ((((w.alloc (.cells #[.pointer (some ⟨b, 0, none⟩)] 34)).alloc (.cells #[.int .i64 n] 3)).alloc (.cells #[.int .i64 a] 3)).alloc (.cells #[.int .i64 d] 3)) := below_al (below_al (below_al (below_al (Below.refl _ _) _) _) _) _
  have HG := Lib.hid (fun st => sget_ints b er bs h0 st _ (h.below hal))
  have HAL := Lib.hid hal
  clear h hal h0
  go_enter Try.func27, Try.ntmps27
  go_wp2_with ((with_reducible refine (HG.out _).mono ?_); rintro e w1 ⟨rfl, hb1⟩)
  go_ret
  exact ⟨rfl, below_then HAL.out HAL.out.size hb1⟩
set_option maxRecDepth 100000 in
set_option maxHeartbeats 2000000 in
theorem qByte (b : Nat) (er : Int) (bs : List Int) (h0 : er ≠ 0) (w : World) (h : Src B w b bs er) : Calls Try.prog 28 #[.pointer (some ⟨b, 0, none⟩)] w fun e w' => e = .returned (.int .u8 0) ∧ Below w.heap.size w w' := by
  have hmf : ∀ (fn : Fn) (first cap : Array Value) (w : World), (Instr.makeFunc fn first cap).run Try.prog w = .ok (.func fn first cap) w := fun _ _ _ _ => rfl
  have HM := Lib.hid (sis b true _ h.made.cell)
  have HG := Lib.hid (fun st => sget_byte b er bs h0 st _ h)
  clear h h0
  go_enter Try.func28, Try.ntmps28
  go_wp2_with (first | (go_at_call 42; (with_reducible refine HM.out.mono ?_); rintro e w1 ⟨rfl, rfl⟩) | ((with_reducible refine (HG.out _).mono ?_); rintro e w1 ⟨rfl, hb1⟩))
  go_ret
  exact ⟨rfl, hb1⟩
end Go.Proofs.Ytdhckbpfkdekmaa
