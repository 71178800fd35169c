/- A heap that no call made; the law HeapNone, walked. -/
import Derived.Test.YtopikpjagjnbhaaHeapUse
namespace Go.Proofs.Ytopikpjagjnbhaa
open Go.RowKit
/-- No heap that a call made. -/
def NoHeap (p : Option Addr) (w : World) : Prop := p = none ∨ ∃ b, p = some ⟨b, 0, none⟩ ∧ w.cell? ⟨b, 2, none⟩ = some (.slice none 0 0)
theorem NoHeap.below {p : Option Addr} {w w1 : World} (h : NoHeap p w) (hb : Below w.heap.size w w1) : NoHeap p w1 := by
  rcases h with rfl | ⟨b, rfl, h⟩
  · exact .inl rfl
  · exact .inr ⟨b, rfl, cell_below hb h⟩
set_option maxHeartbeats 1000000 in
theorem zmade (p : Option Addr) (w : World) (h : NoHeap p w) : Calls Try.prog 30 #[.pointer p] w fun e w' => e = .returned (.bool false) ∧ w = w' := by
  rcases h with rfl | ⟨b, rfl, h⟩
  · go_enter Try.func30, Try.ntmps30
    go_wp2
    go_ret
    exact ⟨rfl, rfl⟩
  · go_enter Try.func30, Try.ntmps30
    go_wp2
    go_ret
    exact ⟨rfl, rfl⟩
set_option maxHeartbeats 2000000 in
theorem zlen (p : Option Addr) (w : World) (h : NoHeap p w) : Calls Try.prog 12 #[.pointer p] w fun e w' => e = .returned (.int .i64 0) ∧ w = w' := by
  have H0 := Lib.hid (zmade p w h)
  clear h
  go_enter Try.func12, Try.ntmps12
  go_wp2_with (first | (go_at_call 30; (with_reducible refine H0.out.mono ?_); rintro e w1 ⟨rfl, rfl⟩))
  go_ret
  exact ⟨rfl, rfl⟩
set_option maxHeartbeats 2000000 in
theorem zfind (p : Option Addr) (id o : Int) (t : Bool) (w : World) (h : NoHeap p w) : Calls Try.prog 27 #[.pointer p, .int .i64 id, .bool t, .int .i64 o] w fun e w' => e = .returned (.int .i64 1) ∧ w = w' := by
  have H0 := Lib.hid (zmade p w h)
  clear h
  go_enter Try.func27, Try.ntmps27
  go_wp2_with (first | (go_at_call 30; (with_reducible refine H0.out.mono ?_); rintro e w1 ⟨rfl, rfl⟩))
  go_ret
  exact ⟨rfl, rfl⟩
set_option maxHeartbeats 2000000 in
theorem zput (p : Option Addr) (id key : Int) (w : World) (h : NoHeap p w) : Calls Try.prog 10 #[.pointer p, .int .i64 id, .int .i64 key] w fun e w' => e = .returned (.int .i64 1) ∧ w = w' := by
  have H0 := Lib.hid (zfind p id 5 false w h)
  clear h
  go_enter Try.func10, Try.ntmps10
  go_wp2_with (first | (go_at_call 27; (with_reducible refine H0.out.mono ?_); rintro e w1 ⟨rfl, rfl⟩))
  go_ret
  exact ⟨rfl, rfl⟩
set_option maxHeartbeats 2000000 in
theorem zchange (p : Option Addr) (id key : Int) (w : World) (h : NoHeap p w) : Calls Try.prog 13 #[.pointer p, .int .i64 id, .int .i64 key] w fun e w' => e = .returned (.int .i64 1) ∧ w = w' := by
  have H0 := Lib.hid (zfind p id 4 true w h)
  clear h
  go_enter Try.func13, Try.ntmps13
  go_wp2_with (first | (go_at_call 27; (with_reducible refine H0.out.mono ?_); rintro e w1 ⟨rfl, rfl⟩))
  go_ret
  exact ⟨rfl, rfl⟩
set_option maxHeartbeats 2000000 in
theorem zremove (p : Option Addr) (id : Int) (w : World) (h : NoHeap p w) : Calls Try.prog 14 #[.pointer p, .int .i64 id] w fun e w' => e = .returned (.int .i64 1) ∧ w = w' := by
  have H0 := Lib.hid (zfind p id 4 true w h)
  clear h
  go_enter Try.func14, Try.ntmps14
  go_wp2_with (first | (go_at_call 27; (with_reducible refine H0.out.mono ?_); rintro e w1 ⟨rfl, rfl⟩))
  go_ret
  exact ⟨rfl, rfl⟩
set_option maxHeartbeats 2000000 in
theorem zleast (p : Option Addr) (w : World) (h : NoHeap p w) : Calls Try.prog 21 #[.pointer p] w fun e w' => e = .returned (.tuple #[.int .i64 0, .int .i64 0, .bool false]) ∧ w = w' := by
  have H0 := Lib.hid (zlen p w h)
  clear h
  go_enter Try.func21, Try.ntmps21
  go_wp2_with (first | (go_at_call 12; (with_reducible refine H0.out.mono ?_); rintro e w1 ⟨rfl, rfl⟩))
  go_ret3
  exact ⟨rfl, rfl⟩
set_option maxHeartbeats 2000000 in
theorem zpop (p : Option Addr) (w : World) (h : NoHeap p w) : Calls Try.prog 11 #[.pointer p] w fun e w' => e = .returned (.tuple #[.int .i64 0, .int .i64 0, .bool false]) ∧ w = w' := by
  have H0 := Lib.hid (zleast p w h)
  clear h
  go_enter Try.func11, Try.ntmps11
  go_wp2_with (first | (go_at_call 21; (with_reducible refine H0.out.mono ?_); rintro e w1 ⟨rfl, rfl⟩))
  go_ret3
  exact ⟨rfl, rfl⟩
set_option maxHeartbeats 2000000 in
theorem zkey (p : Option Addr) (id : Int) (w : World) (h : NoHeap p w) : Calls Try.prog 15 #[.pointer p, .int .i64 id] w fun e w' => e = .returned (.tuple #[.int .i64 0, .bool false]) ∧ w = w' := by
  have H0 := Lib.hid (zfind p id 4 true w h)
  clear h
  go_enter Try.func15, Try.ntmps15
  go_wp2_with (first | (go_at_call 27; (with_reducible refine H0.out.mono ?_); rintro e w1 ⟨rfl, rfl⟩))
  go_ret2
  exact ⟨rfl, rfl⟩
set_option maxHeartbeats 2000000 in
theorem zall (p : Option Addr) (w : World) (h : NoHeap p w) : Calls Try.prog 17 #[.pointer p] w fun e w' => e = .returned (.slice none 0 0) ∧ w = w' := by
  have H0 := Lib.hid (zlen p w h)
  clear h
  go_enter Try.func17, Try.ntmps17
  go_wp2_with (first | (go_at_call 12; (with_reducible refine H0.out.mono ?_); rintro e w1 ⟨rfl, rfl⟩))
  go_ret
  exact ⟨rfl, rfl⟩
set_option maxHeartbeats 2000000 in
theorem zlower (p : Option Addr) (by_ : Int) (w : World) (h : NoHeap p w) : Calls Try.prog 24 #[.pointer p, .int .i64 by_] w fun e w' => e = .returned (.int .i64 1) ∧ w = w' := by
  have H0 := Lib.hid (zmade p w h)
  clear h
  go_enter Try.func24, Try.ntmps24
  go_wp2_with (first | (go_at_call 30; (with_reducible refine H0.out.mono ?_); rintro e w1 ⟨rfl, rfl⟩))
  go_ret
  exact ⟨rfl, rfl⟩
set_option maxHeartbeats 2000000 in
theorem zsound (p : Option Addr) (w : World) (h : NoHeap p w) : Calls Try.prog 18 #[.pointer p] w fun e w' => e = .returned (.bool false) ∧ w = w' := by
  have H0 := Lib.hid (zmade p w h)
  clear h
  go_enter Try.func18, Try.ntmps18
  go_wp2_with (first | (go_at_call 30; (with_reducible refine H0.out.mono ?_); rintro e w1 ⟨rfl, rfl⟩))
  go_ret
  exact ⟨rfl, rfl⟩
set_option maxHeartbeats 2000000 in
theorem zcopy (p : Option Addr) (w : World) (h : NoHeap p w) : Calls Try.prog 25 #[.pointer p] w fun e w' => e = .returned (.pointer none) ∧ w = w' := by
  have H0 := Lib.hid (zmade p w h)
  clear h
  go_enter Try.func25, Try.ntmps25
  go_wp2_with (first | (go_at_call 30; (with_reducible refine H0.out.mono ?_); rintro e w1 ⟨rfl, rfl⟩))
  go_ret
  exact ⟨rfl, rfl⟩
set_option maxRecDepth 100000 in
set_option maxHeartbeats 16000000 in
theorem none_walk (k n e0 : Int) (w : World) : Calls Try.prog 7 #[.agg #[.int .i64 k, .int .i64 n, .int .i64 e0]] w fun e w' => e = .returned (.bool true) ∧ Below w.heap.size w w' := by
  have HL := Lib.hid (fun W => lives06 W)
  go_enter Try.func7, Try.ntmps7
  go_wp2
  obtain ⟨W0, hW0⟩ : ∃ W0, W0 = (w.alloc (.cells #[.int .i64 k, .int .i64 n, .int .i64 e0] (44 : Nat))).alloc (.cells #[.slice none 0 0, .slice none 0 0, .slice none 0 0] (53 : Nat)) := ⟨_, rfl⟩
  have hB0 : Below w.heap.size w W0 := by rw [hW0]; exact below_al (below_al (Below.refl _ _) _) _
  have c1 : W0.cell? ⟨w.heap.size, 1, none⟩ = some (.int .i64 n) := by rw [hW0]; go_simp
  have c2 : W0.cell? ⟨w.heap.size, 2, none⟩ = some (.int .i64 e0) := by rw [hW0]; go_simp
  have n0 : NoHeap none W0 := .inl rfl
  have n1 : NoHeap (some ⟨w.heap.size + 1, 0, none⟩) W0 := .inr ⟨_, rfl, by rw [hW0]; go_simp⟩
  rw [← hW0]
  clear hW0
  go_loopw [15] (fun i wr => ∃ q : Nat, q ≤ 2 ∧ i = .int .i64 q ∧ W0 = wr) (fun i _ => 2 - (intOf i).toNat)
  case atStart => exact ⟨0, by omega, rfl, rfl⟩
  case round =>
    obtain ⟨q, hq, rfl, rfl⟩ := hrel
    by_cases h2 : q = 2
    · subst h2
      clear n0 n1
      go_wp2_with (go_at_call 8; (with_reducible refine (HL.out _).mono ?_); rintro e w1 ⟨rfl, hb1⟩)
      go_ret
      exact ⟨rfl, below_tr hB0 hb1⟩
    · obtain ⟨p, hp, hn⟩ : ∃ p, (∀ W, (Instr.index 54 (.agg #[.pointer none, .pointer (some ⟨w.heap.size + 1, 0, none⟩)]) (.int .i64 q)).run Try.prog W = .ok (.pointer p) W) ∧ NoHeap p W0 := by
        have h3 : q = 0 ∨ q = 1 := by omega
        rcases h3 with rfl | rfl
        · exact ⟨_, fun w => by kernel_rfl, n0⟩
        · exact ⟨_, fun w => by kernel_rfl, n1⟩
      have hlt : q < 2 := by omega
      have H0 := Lib.hid (zleast p W0 hn)
      have H1 := Lib.hid (zpop p W0 hn)
      have H2 := Lib.hid (zkey p n W0 hn)
      have H3 := Lib.hid (zput p n e0 W0 hn)
      have H4 := Lib.hid (zchange p n e0 W0 hn)
      have H5 := Lib.hid (zremove p n W0 hn)
      have H6 := Lib.hid (zlower p e0 W0 hn)
      have H7 := Lib.hid (zlen p W0 hn)
      have H8 := Lib.hid (zall p W0 hn)
      have H9 := Lib.hid (zsound p W0 hn)
      have H10 := Lib.hid (zcopy p W0 hn)
      clear n0 n1 hn h2
      go_wp2_with (first
        | (go_at_call 21; (with_reducible refine H0.out.mono ?_); rintro e w1 ⟨rfl, rfl⟩)
        | (go_at_call 11; (with_reducible refine H1.out.mono ?_); rintro e w1 ⟨rfl, rfl⟩)
        | (go_at_call 15; (with_reducible refine H2.out.mono ?_); rintro e w1 ⟨rfl, rfl⟩)
        | (go_at_call 10; (with_reducible refine H3.out.mono ?_); rintro e w1 ⟨rfl, rfl⟩)
        | (go_at_call 13; (with_reducible refine H4.out.mono ?_); rintro e w1 ⟨rfl, rfl⟩)
        | (go_at_call 14; (with_reducible refine H5.out.mono ?_); rintro e w1 ⟨rfl, rfl⟩)
        | (go_at_call 24; (with_reducible refine H6.out.mono ?_); rintro e w1 ⟨rfl, rfl⟩)
        | (go_at_call 12; (with_reducible refine H7.out.mono ?_); rintro e w1 ⟨rfl, rfl⟩)
        | (go_at_call 17; (with_reducible refine H8.out.mono ?_); rintro e w1 ⟨rfl, rfl⟩)
        | (go_at_call 18; (with_reducible refine H9.out.mono ?_); rintro e w1 ⟨rfl, rfl⟩)
        | (go_at_call 25; (with_reducible refine H10.out.mono ?_); rintro e w1 ⟨rfl, rfl⟩))
      go_roundw
      case rel => exact ⟨q + 1, by omega, by go_num, trivial⟩
      case measure => simp only [intOf]; omega
end Go.Proofs.Ytopikpjagjnbhaa
