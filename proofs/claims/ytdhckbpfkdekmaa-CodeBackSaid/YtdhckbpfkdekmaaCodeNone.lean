/- CodeNone: a source that no call made. -/
import Derived.Test.YtdhckbpfkdekmaaLaw07
namespace Go.Proofs.Ytdhckbpfkdekmaa
open Go.RowKit
set_option maxHeartbeats 1000000 in
theorem sis_nil (w : World) : Calls Try.prog 42 #[.pointer none] w fun e w' => e = .returned (.bool false) ∧ w = w' := by
  go_enter Try.func42, Try.ntmps42
  go_wp2
  go_ret
  exact ⟨rfl, rfl⟩
set_option maxHeartbeats 1000000 in
theorem sis (b : Nat) (m : Bool) (w : World) (h : w.cell? ⟨b, 0, none⟩ = some (.bool m)) : Calls Try.prog 42 #[.pointer (some ⟨b, 0, none⟩)] w fun e w' => e = .returned (.bool m) ∧ w = w' := by
  go_enter Try.func42, Try.ntmps42
  go_wp2
  go_ret
  exact ⟨rfl, rfl⟩
/-- No call made it. -/
def NoSrc (p : Option Addr) (w : World) : Prop := ∀ W, Below w.heap.size w W → Calls Try.prog 42 #[.pointer p] W fun e w' => e = .returned (.bool false) ∧ W = w'
theorem NoSrc.below {p : Option Addr} {w w1 : World} (h : NoSrc p w) (hb : Below w.heap.size w w1) : NoSrc p w1 := fun W hW => h W (below_tr hb hW)
theorem nosrc_nil (w : World) : NoSrc none w := fun W _ => sis_nil W
theorem nosrc_zero (w : World) (b : Nat) (h : w.cell? ⟨b, 0, none⟩ = some (.bool false)) : NoSrc (some ⟨b, 0, none⟩) w := fun W hW => sis b false W (cell_below hW h)
set_option maxRecDepth 100000 in
set_option maxHeartbeats 2000000 in
theorem nget_u64 (p : Option Addr) (st : Value) (w : World) (h : NoSrc p w) : Calls Try.prog 38 #[.pointer p, st] w fun e w' => e = .returned (.int .u64 0) ∧ Below w.heap.size w w' := by
  have hal : Below w.heap.size w (((w.alloc (.cells #[.pointer p] 34)).alloc (.cells #[.int .u64 0] 23)).alloc (.cells #[.int .u64 0] 23)) := below_al (below_al (below_al (Below.refl _ _) _) _) _
  have HM := Lib.hid (h _ hal)
  clear h
  go_enter Try.func38, Try.ntmps38
  go_wp2_with ((with_reducible refine HM.out.mono ?_); rintro e w1 ⟨rfl, rfl⟩)
  exact bodyPost_ret (v := .int .u64 0) (by simp [results, Try.results38, go_sem]) rfl ⟨rfl, hal⟩
set_option maxRecDepth 100000 in
set_option maxHeartbeats 2000000 in
theorem nget_int (p : Option Addr) (st : Value) (w : World) (h : NoSrc p w) : Calls Try.prog 43 #[.pointer p, st] w fun e w' => e = .returned (.int .i64 0) ∧ Below w.heap.size w w' := by
  have hal : Below w.heap.size w (((w.alloc (.cells #[.pointer p] 34)).alloc (.cells #[.int .i64 0] 3)).alloc (.cells #[.int .i64 0] 3)) := below_al (below_al (below_al (Below.refl _ _) _) _) _
  have HM := Lib.hid (h _ hal)
  clear h
  go_enter Try.func43, Try.ntmps43
  go_wp2_with ((with_reducible refine HM.out.mono ?_); rintro e w1 ⟨rfl, rfl⟩)
  exact bodyPost_ret (v := .int .i64 0) (by simp [results, Try.results43, go_sem]) rfl ⟨rfl, hal⟩
set_option maxRecDepth 100000 in
set_option maxHeartbeats 2000000 in
theorem nget_str (p : Option Addr) (st : Value) (w : World) (h : NoSrc p w) : Calls Try.prog 46 #[.pointer p, st] w fun e w' => e = .returned (.string ⟨#[]⟩) ∧ Below w.heap.size w w' := by
  have hal : Below w.heap.size w (((w.alloc (.cells #[.pointer p] 34)).alloc (.cells #[.string ⟨#[]⟩] 9)).alloc (.cells #[.string ⟨#[]⟩] 9)) := below_al (below_al (below_al (Below.refl _ _) _) _) _
  have HM := Lib.hid (h _ hal)
  clear h
  go_enter Try.func46, Try.ntmps46
  go_wp2_with ((with_reducible refine HM.out.mono ?_); rintro e w1 ⟨rfl, rfl⟩)
  exact bodyPost_ret (v := .string ⟨#[]⟩) (by simp [results, Try.results46, go_sem]) rfl ⟨rfl, hal⟩
set_option maxRecDepth 100000 in
set_option maxHeartbeats 2000000 in
theorem nget_bool (p : Option Addr) (st : Value) (w : World) (h : NoSrc p w) : Calls Try.prog 49 #[.pointer p, st] w fun e w' => e = .returned (.bool false) ∧ Below w.heap.size w w' := by
  have hal : Below w.heap.size w (((w.alloc (.cells #[.pointer p] 34)).alloc (.cells #[.bool false] 4)).alloc (.cells #[.bool false] 4)) := below_al (below_al (below_al (Below.refl _ _) _) _) _
  have HM := Lib.hid (h _ hal)
  clear h
  go_enter Try.func49, Try.ntmps49
  go_wp2_with ((with_reducible refine HM.out.mono ?_); rintro e w1 ⟨rfl, rfl⟩)
  exact bodyPost_ret (v := .bool false) (by simp [results, Try.results49, go_sem]) rfl ⟨rfl, hal⟩
set_option maxRecDepth 100000 in
set_option maxHeartbeats 2000000 in
theorem nget_ints (p : Option Addr) (st : Value) (w : World) (h : NoSrc p w) : Calls Try.prog 52 #[.pointer p, st] w fun e w' => e = .returned (.slice none 0 0) ∧ Below w.heap.size w w' := by
  have hal : Below w.heap.size w (((w.alloc (.cells #[.pointer p] 34)).alloc (.cells #[.slice none 0 0] 24)).alloc (.cells #[.slice none 0 0] 24)) := below_al (below_al (below_al (Below.refl _ _) _) _) _
  have HM := Lib.hid (h _ hal)
  clear h
  go_enter Try.func52, Try.ntmps52
  go_wp2_with ((with_reducible refine HM.out.mono ?_); rintro e w1 ⟨rfl, rfl⟩)
  exact bodyPost_ret (v := .slice none 0 0) (by simp [results, Try.results52, go_sem]) rfl ⟨rfl, hal⟩
set_option maxRecDepth 100000 in
set_option maxHeartbeats 2000000 in
theorem nsNum (p : Option Addr) (n : Int) (w : World) (h : NoSrc p w) : Calls Try.prog 21 #[.pointer p, .int .u64 n] w fun e w' => e = .returned (.int .u64 0) ∧ Below w.heap.size w w' := by
  have hal : Below w.heap.size w ((w.alloc (.cells #[.pointer p] 34)).alloc (.cells #[.int .u64 n] 23)) := below_al (below_al (Below.refl _ _) _) _
  have HG := Lib.hid (fun st => nget_u64 p st _ (h.below hal))
  have HAL := Lib.hid hal
  clear h hal
  go_enter Try.func21, Try.ntmps21
  go_wp2_with ((with_reducible refine (HG.out _).mono ?_); rintro e w1 ⟨rfl, hb1⟩)
  go_ret
  exact ⟨rfl, below_then HAL.out HAL.out.size hb1⟩
set_option maxRecDepth 100000 in
set_option maxHeartbeats 2000000 in
theorem nsInt (p : Option Addr) (a b : Int) (w : World) (h : NoSrc p w) : Calls Try.prog 24 #[.pointer p, .int .i64 a, .int .i64 b] w fun e w' => e = .returned (.int .i64 0) ∧ Below w.heap.size w w' := by
  have hal : Below w.heap.size w (((w.alloc (.cells #[.pointer p] 34)).alloc (.cells #[.int .i64 a] 3)).alloc (.cells #[.int .i64 b] 3)) := below_al (below_al (below_al (Below.refl _ _) _) _) _
  have HG := Lib.hid (fun st => nget_int p st _ (h.below hal))
  have HAL := Lib.hid hal
  clear h hal
  go_enter Try.func24, Try.ntmps24
  go_wp2_with ((with_reducible refine (HG.out _).mono ?_); rintro e w1 ⟨rfl, hb1⟩)
  go_ret
  exact ⟨rfl, below_then HAL.out HAL.out.size hb1⟩
set_option maxRecDepth 100000 in
set_option maxHeartbeats 2000000 in
theorem nsText (p : Option Addr) (a : Int) (w : World) (h : NoSrc p w) : Calls Try.prog 25 #[.pointer p, .int .i64 a] w fun e w' => e = .returned (.string ⟨#[]⟩) ∧ Below w.heap.size w w' := by
  have hal : Below w.heap.size w ((w.alloc (.cells #[.pointer p] 34)).alloc (.cells #[.int .i64 a] 3)) := below_al (below_al (Below.refl _ _) _) _
  have HG := Lib.hid (fun st => nget_str p st _ (h.below hal))
  have HAL := Lib.hid hal
  clear h hal
  go_enter Try.func25, Try.ntmps25
  go_wp2_with ((with_reducible refine (HG.out _).mono ?_); rintro e w1 ⟨rfl, hb1⟩)
  go_ret
  exact ⟨rfl, below_then HAL.out HAL.out.size hb1⟩
set_option maxRecDepth 100000 in
set_option maxHeartbeats 2000000 in
theorem nsFlag (p : Option Addr) (w : World) (h : NoSrc p w) : Calls Try.prog 26 #[.pointer p] w fun e w' => e = .returned (.bool false) ∧ Below w.heap.size w w' := by
  have hal : Below w.heap.size w (w.alloc (.cells #[.pointer p] 34)) := below_al (Below.refl _ _) _
  have HG := Lib.hid (fun st => nget_bool p st _ (h.below hal))
  have HAL := Lib.hid hal
  clear h hal
  go_enter Try.func26, Try.ntmps26
  go_wp2_with ((with_reducible refine (HG.out _).mono ?_); rintro e w1 ⟨rfl, hb1⟩)
  go_ret
  exact ⟨rfl, below_then HAL.out HAL.out.size hb1⟩
set_option maxRecDepth 100000 in
set_option maxHeartbeats 2000000 in
theorem nsInts (p : Option Addr) (c a b : Int) (w : World) (h : NoSrc p w) : Calls Try.prog 27 #[.pointer p, .int .i64 c, .int .i64 a, .int .i64 b] w fun e w' => e = .returned (.slice none 0 0) ∧ Below w.heap.size w w' := by
  have hal : Below w.heap.size w ((((w.alloc (.cells #[.pointer p] 34)).alloc (.cells #[.int .i64 c] 3)).alloc (.cells #[.int .i64 a] 3)).alloc (.cells #[.int .i64 b] 3)) := below_al (below_al (below_al (below_al (Below.refl _ _) _) _) _) _
  have HG := Lib.hid (fun st => nget_ints p st _ (h.below hal))
  have HAL := Lib.hid hal
  clear h hal
  go_enter Try.func27, Try.ntmps27
  go_wp2_with ((with_reducible refine (HG.out _).mono ?_); rintro e w1 ⟨rfl, hb1⟩)
  go_ret
  exact ⟨rfl, below_then HAL.out HAL.out.size hb1⟩
set_option maxHeartbeats 1000000 in
theorem nsByte (p : Option Addr) (w : World) (h : NoSrc p w) : Calls Try.prog 28 #[.pointer p] w fun e w' => e = .returned (.int .u8 0) ∧ w = w' := by
  have HM := Lib.hid (h _ (Below.refl _ _))
  clear h
  go_enter Try.func28, Try.ntmps28
  go_wp2_with ((with_reducible refine HM.out.mono ?_); rintro e w1 ⟨rfl, rfl⟩)
  go_ret
  exact ⟨rfl, rfl⟩
set_option maxHeartbeats 1000000 in
theorem nsLeft (p : Option Addr) (w : World) (h : NoSrc p w) : Calls Try.prog 22 #[.pointer p] w fun e w' => e = .returned (.int .i64 0) ∧ w = w' := by
  have HM := Lib.hid (h _ (Below.refl _ _))
  clear h
  go_enter Try.func22, Try.ntmps22
  go_wp2_with ((with_reducible refine HM.out.mono ?_); rintro e w1 ⟨rfl, rfl⟩)
  go_ret
  exact ⟨rfl, rfl⟩
set_option maxHeartbeats 1000000 in
theorem nsErr (p : Option Addr) (w : World) (h : NoSrc p w) : Calls Try.prog 23 #[.pointer p] w fun e w' => e = .returned (.int .i64 1) ∧ w = w' := by
  have HM := Lib.hid (h _ (Below.refl _ _))
  clear h
  go_enter Try.func23, Try.ntmps23
  go_wp2_with ((with_reducible refine HM.out.mono ?_); rintro e w1 ⟨rfl, rfl⟩)
  go_ret
  exact ⟨rfl, rfl⟩
set_option maxHeartbeats 1000000 in
theorem nsEnd (p : Option Addr) (w : World) (h : NoSrc p w) : Calls Try.prog 29 #[.pointer p] w fun e w' => e = .returned (.int .i64 1) ∧ w = w' := by
  have HM := Lib.hid (nsErr p w h)
  clear h
  go_enter Try.func29, Try.ntmps29
  go_wp2_with ((with_reducible refine HM.out.mono ?_); rintro e w1 ⟨rfl, rfl⟩)
  go_ret
  exact ⟨rfl, rfl⟩
set_option maxRecDepth 100000 in
set_option maxHeartbeats 8000000 in
theorem cnone_walk (k a b n c : Int) (w : World) : Calls Try.prog 5 #[.agg #[.int .i64 k, .int .i64 a, .int .i64 b, .int .u64 n, .int .i64 c]] w fun e w' => e = .returned (.bool true) ∧ Below w.heap.size w w' := by
  have HL := Lib.hid (fun W => lives07 W)
  go_enter Try.func5, Try.ntmps5
  go_wp2
  obtain ⟨W0, hW0⟩ : ∃ W0, W0 = (w.alloc (.cells #[.int .i64 k, .int .i64 a, .int .i64 b, .int .u64 n, .int .i64 c] 42)).alloc (.cells #[.bool false, .slice none 0 0, .int .i64 0] 44) := ⟨_, rfl⟩
  have hB0 : Below w.heap.size w W0 := by rw [hW0]; exact below_al (below_al (Below.refl _ _) _) _
  have c1 : W0.cell? ⟨w.heap.size, 1, none⟩ = some (.int .i64 a) := by rw [hW0]; go_simp
  have c2 : W0.cell? ⟨w.heap.size, 2, none⟩ = some (.int .i64 b) := by rw [hW0]; go_simp
  have c3 : W0.cell? ⟨w.heap.size, 3, none⟩ = some (.int .u64 n) := by rw [hW0]; go_simp
  have c4 : W0.cell? ⟨w.heap.size, 4, none⟩ = some (.int .i64 c) := by rw [hW0]; go_simp
  have n0 := nosrc_nil W0
  have n1 := nosrc_zero W0 (w.heap.size + 1) (by rw [hW0]; go_simp)
  rw [← hW0]
  clear hW0
  go_loopw [7] (fun i wr => ∃ q : Nat, q ≤ 2 ∧ i = .int .i64 q ∧ Below W0.heap.size W0 wr) (fun i _ => 2 - (intOf i).toNat)
  case atStart => exact ⟨0, by omega, rfl, Below.refl _ _⟩
  case round =>
    obtain ⟨q, hq, rfl, hb⟩ := hrel
    by_cases h2 : q = 2
    · subst h2
      clear n0 n1
      go_wp2_with (go_at_call 9; (with_reducible refine (HL.out _).mono ?_); rintro e w1 ⟨rfl, hb1⟩)
      go_ret
      exact ⟨rfl, below_tr (below_tr hB0 hb) hb1⟩
    · obtain ⟨p, hp, hn⟩ : ∃ p, (∀ W, (Instr.index 45 (.agg #[.pointer none, .pointer (some ⟨w.heap.size + 1, 0, none⟩)]) (.int .i64 q)).run Try.prog W = .ok (.pointer p) W) ∧ NoSrc p W0 := by
        have h3 : q = 0 ∨ q = 1 := by omega
        rcases h3 with rfl | rfl
        · exact ⟨_, fun w => by kernel_rfl, n0⟩
        · exact ⟨_, fun w => by kernel_rfl, n1⟩
      have k3 := cell_below hb c3
      have HS := Lib.hid (nsNum p n wr (hn.below hb))
      have hlt : q < 2 := by omega
      have HN := Lib.hid (fun W (h : Below W0.heap.size W0 W) => hn.below h)
      clear n0 n1 hn h2
      go_wp2_with (first
        | ((with_reducible refine HS.out.mono ?_); rintro e w2 ⟨rfl, hb2⟩; have B2 := below_tr hb hb2; have k1 := cell_below B2 c1; have k2 := cell_below B2 c2; have HI := Lib.hid (nsInt p a b w2 (HN.out _ B2)))
        | ((with_reducible refine HI.out.mono ?_); rintro e w3 ⟨rfl, hb3⟩; have B3 := below_tr B2 hb3; have k4 := cell_below B3 c2; have HT := Lib.hid (nsText p b w3 (HN.out _ B3)))
        | ((with_reducible refine HT.out.mono ?_); rintro e w4 ⟨rfl, hb4⟩; have B4 := below_tr B3 hb4; have HF := Lib.hid (nsFlag p w4 (HN.out _ B4)))
        | ((with_reducible refine HF.out.mono ?_); rintro e w5 ⟨rfl, hb5⟩; have B5 := below_tr B4 hb5; have k5 := cell_below B5 c4; have k6 := cell_below B5 c1; have k7 := cell_below B5 c2; have HG := Lib.hid (nsInts p c a b w5 (HN.out _ B5)))
        | ((with_reducible refine HG.out.mono ?_); rintro e w6 ⟨rfl, hb6⟩; have B6 := below_tr B5 hb6; have HY := Lib.hid (nsByte p w6 (HN.out _ B6)); have HLf := Lib.hid (nsLeft p w6 (HN.out _ B6)); have HE := Lib.hid (nsErr p w6 (HN.out _ B6)); have HD := Lib.hid (nsEnd p w6 (HN.out _ B6)))
        | ((with_reducible refine HY.out.mono ?_); rintro e w7 ⟨rfl, rfl⟩)
        | ((with_reducible refine HLf.out.mono ?_); rintro e w7 ⟨rfl, rfl⟩)
        | ((with_reducible refine HE.out.mono ?_); rintro e w7 ⟨rfl, rfl⟩)
        | ((with_reducible refine HD.out.mono ?_); rintro e w7 ⟨rfl, rfl⟩))
      go_roundw
      case rel => exact ⟨q + 1, by omega, by go_num, B6⟩
      case measure => simp only [intOf]; omega
end Go.Proofs.Ytdhckbpfkdekmaa
