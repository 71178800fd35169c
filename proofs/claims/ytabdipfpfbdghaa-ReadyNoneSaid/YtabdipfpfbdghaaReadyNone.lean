/- A queue that no call made; the law ReadyNone, walked. -/
import Derived.Test.YtabdipfpfbdghaaReadyNew
namespace Go.Proofs.Ytabdipfpfbdghaa
open Go.RowKit
/-- No queue that a call made. -/
def NoQ (p : Option Addr) (w : World) : Prop := p = none ∨ ∃ b, p = some ⟨b, 0, none⟩ ∧ w.cell? ⟨b, 2, none⟩ = some (.pointer none)
theorem NoQ.below {p : Option Addr} {w w1 : World} (h : NoQ p w) (hb : Below w.heap.size w w1) : NoQ p w1 := by
  rcases h with rfl | ⟨b, rfl, h⟩
  · exact .inl rfl
  · exact .inr ⟨b, rfl, cell_below hb h⟩
set_option maxHeartbeats 1000000 in
theorem zqmade (p : Option Addr) (w : World) (h : NoQ p w) : Calls Try.prog 32 #[.pointer p] w fun e w' => e = .returned (.bool false) ∧ w = w' := by
  rcases h with rfl | ⟨b, rfl, h⟩
  · go_enter Try.func32, Try.ntmps32
    go_wp2
    go_ret
    exact ⟨rfl, rfl⟩
  · go_enter Try.func32, Try.ntmps32
    go_wp2
    go_ret
    exact ⟨rfl, rfl⟩
theorem zqmade' (p : Option Addr) (w : World) (h : NoQ p w) : Calls Try.prog 32 #[.pointer p] w fun e w' => e = .returned (.bool false) ∧ Below w.heap.size w w' := by
  refine (zqmade p w h).mono ?_
  rintro e w' ⟨rfl, rfl⟩
  exact ⟨rfl, Below.refl _ _⟩
set_option maxRecDepth 100000 in
set_option maxHeartbeats 2000000 in
theorem zqfind (p : Option Addr) (id : Int) (w : World) (h : NoQ p w) : Calls Try.prog 25 #[.pointer p, .int .i64 id] w fun e w' => e = .returned (.tuple #[.pointer none, .int .i64 1]) ∧ Below w.heap.size w w' := by
  have H0 := Lib.hid (zqmade' p w h)
  clear h
  go_enter Try.func25, Try.ntmps25
  go_wp2_with (first | (go_at_call 32; (with_reducible refine H0.out.mono ?_); rintro e w1 ⟨rfl, hb1⟩))
  go_ret2
  exact ⟨rfl, hb1⟩
set_option maxRecDepth 100000 in
set_option maxHeartbeats 2000000 in
theorem zqturn (p : Option Addr) (id frm tgt : Int) (fv : Value) (w : World) (h : NoQ p w) : Calls Try.prog 29 #[.pointer p, .int .i64 id, .int .i64 frm, .int .i64 tgt, fv] w fun e w' => e = .returned (.int .i64 1) ∧ Below w.heap.size w w' := by
  have H0 := Lib.hid (zqfind p id w h)
  clear h
  go_enter Try.func29, Try.ntmps29
  go_wp2_with (first | (go_at_call 25; (with_reducible refine H0.out.mono ?_); rintro e w1 ⟨rfl, hb1⟩))
  go_ret
  exact ⟨rfl, hb1⟩
set_option maxRecDepth 100000 in
set_option maxHeartbeats 2000000 in
theorem zqenter (p : Option Addr) (id frm : Int) (w : World) (h : NoQ p w) : Calls Try.prog 28 #[.pointer p, .int .i64 id, .int .i64 frm] w fun e w' => e = .returned (.int .i64 1) ∧ Below w.heap.size w w' := by
  have hal : Below w.heap.size w ((w.alloc (.cells #[.pointer p] (25 : Nat))).alloc (.cells #[.int .i64 id] (3 : Nat))) := below_al (below_al (Below.refl _ _) _) _
  have hq := h.below hal
  have H0 := Lib.hid (fun fv => zqturn p id frm 1 fv _ hq)
  have HAL := Lib.hid hal
  clear h hal hq
  go_enter Try.func28, Try.ntmps28
  go_wp2_with (first | (go_at_call 29; (with_reducible refine (H0.out _).mono ?_); rintro e w1 ⟨rfl, hb1⟩))
  go_ret
  exact ⟨rfl, below_then HAL.out HAL.out.size hb1⟩
set_option maxRecDepth 100000 in
set_option maxHeartbeats 2000000 in
theorem zqback (p : Option Addr) (id : Int) (w : World) (h : NoQ p w) : Calls Try.prog 8 #[.pointer p, .int .i64 id] w fun e w' => e = .returned (.int .i64 1) ∧ Below w.heap.size w w' := by
  have H0 := Lib.hid (zqenter p id 2 w h)
  clear h
  go_enter Try.func8, Try.ntmps8
  go_wp2_with (first | (go_at_call 28; (with_reducible refine H0.out.mono ?_); rintro e w1 ⟨rfl, hb1⟩))
  go_ret
  exact ⟨rfl, hb1⟩
set_option maxRecDepth 100000 in
set_option maxHeartbeats 2000000 in
theorem zqwake (p : Option Addr) (id : Int) (w : World) (h : NoQ p w) : Calls Try.prog 10 #[.pointer p, .int .i64 id] w fun e w' => e = .returned (.int .i64 1) ∧ Below w.heap.size w w' := by
  have H0 := Lib.hid (zqenter p id 3 w h)
  clear h
  go_enter Try.func10, Try.ntmps10
  go_wp2_with (first | (go_at_call 28; (with_reducible refine H0.out.mono ?_); rintro e w1 ⟨rfl, hb1⟩))
  go_ret
  exact ⟨rfl, hb1⟩
set_option maxRecDepth 100000 in
set_option maxHeartbeats 2000000 in
theorem zqtake (p : Option Addr) (id : Int) (w : World) (h : NoQ p w) : Calls Try.prog 18 #[.pointer p, .int .i64 id] w fun e w' => e = .returned (.int .i64 1) ∧ Below w.heap.size w w' := by
  have hal : Below w.heap.size w ((w.alloc (.cells #[.pointer p] (25 : Nat))).alloc (.cells #[.int .i64 id] (3 : Nat))) := below_al (below_al (Below.refl _ _) _) _
  have hq := h.below hal
  have H0 := Lib.hid (fun fv => zqturn p id 1 2 fv _ hq)
  have HAL := Lib.hid hal
  clear h hal hq
  go_enter Try.func18, Try.ntmps18
  go_wp2_with (first | (go_at_call 29; (with_reducible refine (H0.out _).mono ?_); rintro e w1 ⟨rfl, hb1⟩))
  go_ret
  exact ⟨rfl, below_then HAL.out HAL.out.size hb1⟩
set_option maxRecDepth 100000 in
set_option maxHeartbeats 2000000 in
theorem zqblock (p : Option Addr) (id : Int) (w : World) (h : NoQ p w) : Calls Try.prog 9 #[.pointer p, .int .i64 id] w fun e w' => e = .returned (.int .i64 1) ∧ Below w.heap.size w w' := by
  have H0 := Lib.hid (fun fv => zqturn p id 2 3 fv w h)
  clear h
  go_enter Try.func9, Try.ntmps9
  go_wp2_with (first | (go_at_call 29; (with_reducible refine (H0.out _).mono ?_); rintro e w1 ⟨rfl, hb1⟩))
  go_ret
  exact ⟨rfl, hb1⟩
set_option maxRecDepth 100000 in
set_option maxHeartbeats 2000000 in
theorem zqresume (p : Option Addr) (id : Int) (w : World) (h : NoQ p w) : Calls Try.prog 19 #[.pointer p, .int .i64 id] w fun e w' => e = .returned (.int .i64 1) ∧ Below w.heap.size w w' := by
  have H0 := Lib.hid (fun fv => zqturn p id 3 2 fv w h)
  clear h
  go_enter Try.func19, Try.ntmps19
  go_wp2_with (first | (go_at_call 29; (with_reducible refine (H0.out _).mono ?_); rintro e w1 ⟨rfl, hb1⟩))
  go_ret
  exact ⟨rfl, hb1⟩
set_option maxRecDepth 100000 in
set_option maxHeartbeats 2000000 in
theorem zqjoin (p : Option Addr) (id t : Int) (w : World) (h : NoQ p w) : Calls Try.prog 7 #[.pointer p, .int .i64 id, .int .i64 t] w fun e w' => e = .returned (.int .i64 1) ∧ Below w.heap.size w w' := by
  have H0 := Lib.hid (zqfind p id w h)
  clear h
  go_enter Try.func7, Try.ntmps7
  go_wp2_with (first | (go_at_call 25; (with_reducible refine H0.out.mono ?_); rintro e w1 ⟨rfl, hb1⟩))
  go_ret
  exact ⟨rfl, hb1⟩
set_option maxRecDepth 100000 in
set_option maxHeartbeats 2000000 in
theorem zqdrop (p : Option Addr) (id : Int) (w : World) (h : NoQ p w) : Calls Try.prog 12 #[.pointer p, .int .i64 id] w fun e w' => e = .returned (.int .i64 1) ∧ Below w.heap.size w w' := by
  have H0 := Lib.hid (zqfind p id w h)
  clear h
  go_enter Try.func12, Try.ntmps12
  go_wp2_with (first | (go_at_call 25; (with_reducible refine H0.out.mono ?_); rintro e w1 ⟨rfl, hb1⟩))
  go_ret
  exact ⟨rfl, hb1⟩
set_option maxRecDepth 100000 in
set_option maxHeartbeats 2000000 in
theorem zqstate (p : Option Addr) (id : Int) (w : World) (h : NoQ p w) : Calls Try.prog 11 #[.pointer p, .int .i64 id] w fun e w' => e = .returned (.int .i64 0) ∧ Below w.heap.size w w' := by
  have H0 := Lib.hid (zqfind p id w h)
  clear h
  go_enter Try.func11, Try.ntmps11
  go_wp2_with (first | (go_at_call 25; (with_reducible refine H0.out.mono ?_); rintro e w1 ⟨rfl, hb1⟩))
  go_ret
  exact ⟨rfl, hb1⟩
set_option maxRecDepth 100000 in
set_option maxHeartbeats 2000000 in
theorem zqpass (p : Option Addr) (id : Int) (w : World) (h : NoQ p w) : Calls Try.prog 17 #[.pointer p, .int .i64 id] w fun e w' => e = .returned (.tuple #[.int .i64 0, .bool false]) ∧ Below w.heap.size w w' := by
  have H0 := Lib.hid (zqfind p id w h)
  clear h
  go_enter Try.func17, Try.ntmps17
  go_wp2_with (first | (go_at_call 25; (with_reducible refine H0.out.mono ?_); rintro e w1 ⟨rfl, hb1⟩))
  go_ret2
  exact ⟨rfl, hb1⟩
set_option maxRecDepth 100000 in
set_option maxHeartbeats 2000000 in
theorem zqpicks (p : Option Addr) (id : Int) (w : World) (h : NoQ p w) : Calls Try.prog 15 #[.pointer p, .int .i64 id] w fun e w' => e = .returned (.int .i64 0) ∧ Below w.heap.size w w' := by
  have H0 := Lib.hid (zqfind p id w h)
  clear h
  go_enter Try.func15, Try.ntmps15
  go_wp2_with (first | (go_at_call 25; (with_reducible refine H0.out.mono ?_); rintro e w1 ⟨rfl, hb1⟩))
  go_ret
  exact ⟨rfl, hb1⟩
set_option maxRecDepth 100000 in
set_option maxHeartbeats 2000000 in
theorem zqpick (p : Option Addr) (w : World) (h : NoQ p w) : Calls Try.prog 13 #[.pointer p] w fun e w' => e = .returned (.tuple #[.int .i64 0, .bool false]) ∧ Below w.heap.size w w' := by
  have H0 := Lib.hid (zqmade' p w h)
  clear h
  go_enter Try.func13, Try.ntmps13
  go_wp2_with (first | (go_at_call 32; (with_reducible refine H0.out.mono ?_); rintro e w1 ⟨rfl, hb1⟩))
  go_ret2
  exact ⟨rfl, hb1⟩
set_option maxRecDepth 100000 in
set_option maxHeartbeats 2000000 in
theorem zqnow (p : Option Addr) (w : World) (h : NoQ p w) : Calls Try.prog 20 #[.pointer p] w fun e w' => e = .returned (.int .i64 0) ∧ Below w.heap.size w w' := by
  have H0 := Lib.hid (zqmade' p w h)
  clear h
  go_enter Try.func20, Try.ntmps20
  go_wp2_with (first | (go_at_call 32; (with_reducible refine H0.out.mono ?_); rintro e w1 ⟨rfl, hb1⟩))
  go_ret
  exact ⟨rfl, hb1⟩
set_option maxRecDepth 100000 in
set_option maxHeartbeats 2000000 in
theorem zqwaiting (p : Option Addr) (w : World) (h : NoQ p w) : Calls Try.prog 21 #[.pointer p] w fun e w' => e = .returned (.slice none 0 0) ∧ Below w.heap.size w w' := by
  have H0 := Lib.hid (zqmade' p w h)
  clear h
  go_enter Try.func21, Try.ntmps21
  go_wp2_with (first | (go_at_call 32; (with_reducible refine H0.out.mono ?_); rintro e w1 ⟨rfl, hb1⟩))
  go_ret
  exact ⟨rfl, hb1⟩
set_option maxRecDepth 100000 in
set_option maxHeartbeats 2000000 in
theorem zqlower (p : Option Addr) (w : World) (h : NoQ p w) : Calls Try.prog 22 #[.pointer p] w fun e w' => e = .returned (.int .i64 0) ∧ Below w.heap.size w w' := by
  have H0 := Lib.hid (zqmade' p w h)
  clear h
  go_enter Try.func22, Try.ntmps22
  go_wp2_with (first | (go_at_call 32; (with_reducible refine H0.out.mono ?_); rintro e w1 ⟨rfl, hb1⟩))
  go_ret
  exact ⟨rfl, hb1⟩
set_option maxRecDepth 100000 in
set_option maxHeartbeats 2000000 in
theorem zqsound (p : Option Addr) (w : World) (h : NoQ p w) : Calls Try.prog 16 #[.pointer p] w fun e w' => e = .returned (.bool false) ∧ Below w.heap.size w w' := by
  have H0 := Lib.hid (zqmade' p w h)
  clear h
  go_enter Try.func16, Try.ntmps16
  go_wp2_with (first | (go_at_call 32; (with_reducible refine H0.out.mono ?_); rintro e w1 ⟨rfl, hb1⟩))
  go_ret
  exact ⟨rfl, hb1⟩
set_option maxRecDepth 100000 in
set_option maxHeartbeats 2000000 in
theorem zqcopy (p : Option Addr) (w : World) (h : NoQ p w) : Calls Try.prog 23 #[.pointer p] w fun e w' => e = .returned (.pointer none) ∧ Below w.heap.size w w' := by
  have H0 := Lib.hid (zqmade' p w h)
  clear h
  go_enter Try.func23, Try.ntmps23
  go_wp2_with (first | (go_at_call 32; (with_reducible refine H0.out.mono ?_); rintro e w1 ⟨rfl, hb1⟩))
  go_ret
  exact ⟨rfl, hb1⟩
set_option maxRecDepth 100000 in
set_option maxHeartbeats 16000000 in
theorem none_walk (k n e0 : Int) (w : World) : Calls Try.prog 4 #[.agg #[.int .i64 k, .int .i64 n, .int .i64 e0]] w fun e w' => e = .returned (.bool true) ∧ Below w.heap.size w w' := by
  have HL := Lib.hid (fun W => lives18 W)
  go_enter Try.func4, Try.ntmps4
  go_wp2
  obtain ⟨W0, hW0⟩ : ∃ W0, W0 = (w.alloc (.cells #[.int .i64 k, .int .i64 n, .int .i64 e0] (30 : Nat))).alloc (.cells #[.int .i64 0, .slice none 0 0, .pointer none] (41 : Nat)) := ⟨_, rfl⟩
  have hB0 : Below w.heap.size w W0 := by rw [hW0]; exact below_al (below_al (Below.refl _ _) _) _
  have c1 : W0.cell? ⟨w.heap.size, 1, none⟩ = some (.int .i64 n) := by rw [hW0]; go_simp
  have c2 : W0.cell? ⟨w.heap.size, 2, none⟩ = some (.int .i64 e0) := by rw [hW0]; go_simp
  have n0 : NoQ none W0 := .inl rfl
  have n1 : NoQ (some ⟨w.heap.size + 1, 0, none⟩) W0 := .inr ⟨_, rfl, by rw [hW0]; go_simp⟩
  rw [← hW0]
  clear hW0
  go_loopw [13] (fun i wr => ∃ q : Nat, q ≤ 2 ∧ i = .int .i64 q ∧ Below W0.heap.size W0 wr) (fun i _ => 2 - (intOf i).toNat)
  case atStart => exact ⟨0, by omega, rfl, Below.refl _ _⟩
  case round =>
    obtain ⟨q, hq, rfl, hb⟩ := hrel
    by_cases h2 : q = 2
    · subst h2
      clear n0 n1
      go_wp2_with (go_at_call 5; (with_reducible refine (HL.out _).mono ?_); rintro e w1 ⟨rfl, hb1⟩)
      go_ret
      exact ⟨rfl, below_tr (below_tr hB0 hb) hb1⟩
    · obtain ⟨p, hp, hn⟩ : ∃ p, (∀ W, (Instr.index 42 (.agg #[.pointer none, .pointer (some ⟨w.heap.size + 1, 0, none⟩)]) (.int .i64 q)).run Try.prog W = .ok (.pointer p) W) ∧ NoQ p W0 := by
        have h3 : q = 0 ∨ q = 1 := by omega
        rcases h3 with rfl | rfl
        · exact ⟨_, fun w => by kernel_rfl, n0⟩
        · exact ⟨_, fun w => by kernel_rfl, n1⟩
      have hlt : q < 2 := by omega
      have H0 := Lib.hid (zqpick p wr (hn.below hb))
      have H1 := Lib.hid (fun W (h : Below W0.heap.size W0 W) => zqpass p n W (hn.below h))
      have HC1 := Lib.hid c1
      have HC2 := Lib.hid c2
      have HN := Lib.hid hn
      clear n0 n1 h2 c1 c2
      go_wp2_with (first
        | (go_at_call 13; (with_reducible refine H0.out.mono ?_); rintro e w1 ⟨rfl, hb1⟩; have hb2 := below_tr hb hb1; have k1 := cell_below hb2 HC1.out)
        | (go_at_call 17; (with_reducible refine (H1.out _ hb2).mono ?_); rintro e w2 ⟨rfl, hb3⟩; have hb4 := below_tr hb2 hb3))
      obtain ⟨T, hT⟩ : ∃ T : Nat → Fact, ∀ t_, T t_ = ([Fact.eq (.pointer p), Fact.eq (.pointer (some ⟨w.heap.size, 1, none⟩)), Fact.eq (.int .i64 n), Fact.eq (.pointer (some ⟨w.heap.size, 2, none⟩)), Fact.eq (.int .i64 e0), Fact.eq (.int .i64 1), Fact.eq (.pointer p), Fact.eq (.pointer (some ⟨w.heap.size, 1, none⟩)), Fact.eq (.int .i64 n), Fact.eq (.int .i64 1), Fact.eq (.pointer p), Fact.eq (.pointer (some ⟨w.heap.size, 1, none⟩)), Fact.eq (.int .i64 n), Fact.eq (.int .i64 1), Fact.eq (.pointer p), Fact.eq (.pointer (some ⟨w.heap.size, 1, none⟩)), Fact.eq (.int .i64 n), Fact.eq (.int .i64 1), Fact.eq (.pointer p), Fact.eq (.pointer (some ⟨w.heap.size, 1, none⟩)), Fact.eq (.int .i64 n), Fact.eq (.int .i64 1), Fact.eq (.pointer p), Fact.eq (.pointer (some ⟨w.heap.size, 1, none⟩)), Fact.eq (.int .i64 n), Fact.eq (.int .i64 1), Fact.eq (.pointer p), Fact.eq (.pointer (some ⟨w.heap.size, 1, none⟩)), Fact.eq (.int .i64 n), Fact.eq (.int .i64 1), Fact.eq (.agg #[.int .i64 1, .int .i64 1, .int .i64 1, .int .i64 1, .int .i64 1, .int .i64 1, .int .i64 1]), Fact.eq (.int .i64 0)] : List (Fact)).getD t_ Fact.any := ⟨_, fun _ => rfl⟩
      refine region_tab [(0, 28), (1, 29), (2, 30), (3, 31), (4, 32), (5, 33), (6, 34), (7, 35), (8, 36), (9, 37), (10, 38), (11, 39), (12, 40), (13, 41), (14, 42), (15, 43), (16, 44), (17, 45), (18, 46), (19, 47), (20, 48), (21, 49), (22, 50), (23, 51), (24, 52), (25, 53), (26, 54), (27, 55), (28, 56), (29, 57), (30, 58), (31, 59)] T (by kernel_rfl) (by kernel_rfl) (by kernel_rfl) (by kernel_rfl) (by kernel_rfl) ?_ ?_
      · skip
        refine stepsAll_cons (k := 0) ?_ ?_
        · intro fa fx fW hF fB hE K fK
          have ev5 : fa.tmps[5]?.getD undef = .pointer p := hF.eo 5 (by kernel_rfl)
          refine wpOp_val rfl (wanted_none rfl) ?_ (fK (.pointer p) fW (Below.refl _ _) (by rw [hT]; exact rfl))
          clear fK hE hF
          go_simp
        refine stepsAll_cons (k := 1) ?_ ?_
        · intro fa fx fW hF fB hE K fK
          have ev1 : fa.tmps[1]?.getD undef = .pointer (some ⟨w.heap.size, 0, none⟩) := hF.eo 1 (by kernel_rfl)
          refine wpOp_val rfl (wanted_none rfl) ?_ (fK (.pointer (some ⟨w.heap.size, 1, none⟩)) fW (Below.refl _ _) (by rw [hT]; exact rfl))
          clear fK hE hF
          go_simp
        refine stepsAll_cons (k := 2) ?_ ?_
        · intro fa fx fW hF fB hE K fK
          have q1 : fx 1 = .pointer (some ⟨w.heap.size, 1, none⟩) := by have q := hE ⟨1, .data⟩ (by simp) rfl; rw [hT] at q; exact q
          have ev29 : fa.tmps[29]?.getD undef = .pointer (some ⟨w.heap.size, 1, none⟩) := (hF.ev 1 29 (by kernel_rfl)).trans q1
          have y0 := cell_below (below_tr hb4 fB) HC1.out
          refine wpOp_val rfl (wanted_none rfl) ?_ (fK (.int .i64 n) fW (Below.refl _ _) (by rw [hT]; exact rfl))
          clear fK hE hF
          go_simp
        refine stepsAll_cons (k := 3) ?_ ?_
        · intro fa fx fW hF fB hE K fK
          have ev1 : fa.tmps[1]?.getD undef = .pointer (some ⟨w.heap.size, 0, none⟩) := hF.eo 1 (by kernel_rfl)
          refine wpOp_val rfl (wanted_none rfl) ?_ (fK (.pointer (some ⟨w.heap.size, 2, none⟩)) fW (Below.refl _ _) (by rw [hT]; exact rfl))
          clear fK hE hF
          go_simp
        refine stepsAll_cons (k := 4) ?_ ?_
        · intro fa fx fW hF fB hE K fK
          have q3 : fx 3 = .pointer (some ⟨w.heap.size, 2, none⟩) := by have q := hE ⟨3, .data⟩ (by simp) rfl; rw [hT] at q; exact q
          have ev31 : fa.tmps[31]?.getD undef = .pointer (some ⟨w.heap.size, 2, none⟩) := (hF.ev 3 31 (by kernel_rfl)).trans q3
          have y0 := cell_below (below_tr hb4 fB) HC2.out
          refine wpOp_val rfl (wanted_none rfl) ?_ (fK (.int .i64 e0) fW (Below.refl _ _) (by rw [hT]; exact rfl))
          clear fK hE hF
          go_simp
        refine stepsAll_cons (k := 5) ?_ ?_
        · intro fa fx fW hF fB hE K fK
          have q0 : fx 0 = .pointer p := by have q := hE ⟨0, .data⟩ (by simp) rfl; rw [hT] at q; exact q
          have q2 : fx 2 = .int .i64 n := by have q := hE ⟨2, .data⟩ (by simp) rfl; rw [hT] at q; exact q
          have q4 : fx 4 = .int .i64 e0 := by have q := hE ⟨4, .data⟩ (by simp) rfl; rw [hT] at q; exact q
          have ev28 : fa.tmps[28]?.getD undef = .pointer p := (hF.ev 0 28 (by kernel_rfl)).trans q0
          have ev30 : fa.tmps[30]?.getD undef = .int .i64 n := (hF.ev 2 30 (by kernel_rfl)).trans q2
          have ev32 : fa.tmps[32]?.getD undef = .int .i64 e0 := (hF.ev 4 32 (by kernel_rfl)).trans q4
          refine wpOp_call rfl (wanted_none rfl) (by go_simp; exact ⟨rfl, rfl⟩) ?_
          refine (zqjoin p n e0 fW (HN.out.below (below_tr hb4 fB))).mono ?_
          rintro e' w' ⟨rfl, hbb⟩
          exact ⟨_, rfl, fK (.int .i64 1) (w') (hbb) (by rw [hT]; exact rfl)⟩
        refine stepsAll_cons (k := 6) ?_ ?_
        · intro fa fx fW hF fB hE K fK
          have ev5 : fa.tmps[5]?.getD undef = .pointer p := hF.eo 5 (by kernel_rfl)
          refine wpOp_val rfl (wanted_none rfl) ?_ (fK (.pointer p) fW (Below.refl _ _) (by rw [hT]; exact rfl))
          clear fK hE hF
          go_simp
        refine stepsAll_cons (k := 7) ?_ ?_
        · intro fa fx fW hF fB hE K fK
          have ev1 : fa.tmps[1]?.getD undef = .pointer (some ⟨w.heap.size, 0, none⟩) := hF.eo 1 (by kernel_rfl)
          refine wpOp_val rfl (wanted_none rfl) ?_ (fK (.pointer (some ⟨w.heap.size, 1, none⟩)) fW (Below.refl _ _) (by rw [hT]; exact rfl))
          clear fK hE hF
          go_simp
        refine stepsAll_cons (k := 8) ?_ ?_
        · intro fa fx fW hF fB hE K fK
          have q7 : fx 7 = .pointer (some ⟨w.heap.size, 1, none⟩) := by have q := hE ⟨7, .data⟩ (by simp) rfl; rw [hT] at q; exact q
          have ev35 : fa.tmps[35]?.getD undef = .pointer (some ⟨w.heap.size, 1, none⟩) := (hF.ev 7 35 (by kernel_rfl)).trans q7
          have y0 := cell_below (below_tr hb4 fB) HC1.out
          refine wpOp_val rfl (wanted_none rfl) ?_ (fK (.int .i64 n) fW (Below.refl _ _) (by rw [hT]; exact rfl))
          clear fK hE hF
          go_simp
        refine stepsAll_cons (k := 9) ?_ ?_
        · intro fa fx fW hF fB hE K fK
          have q6 : fx 6 = .pointer p := by have q := hE ⟨6, .data⟩ (by simp) rfl; rw [hT] at q; exact q
          have q8 : fx 8 = .int .i64 n := by have q := hE ⟨8, .data⟩ (by simp) rfl; rw [hT] at q; exact q
          have ev34 : fa.tmps[34]?.getD undef = .pointer p := (hF.ev 6 34 (by kernel_rfl)).trans q6
          have ev36 : fa.tmps[36]?.getD undef = .int .i64 n := (hF.ev 8 36 (by kernel_rfl)).trans q8
          refine wpOp_call rfl (wanted_none rfl) (by go_simp; exact ⟨rfl, rfl⟩) ?_
          refine (zqtake p n fW (HN.out.below (below_tr hb4 fB))).mono ?_
          rintro e' w' ⟨rfl, hbb⟩
          exact ⟨_, rfl, fK (.int .i64 1) (w') (hbb) (by rw [hT]; exact rfl)⟩
        refine stepsAll_cons (k := 10) ?_ ?_
        · intro fa fx fW hF fB hE K fK
          have ev5 : fa.tmps[5]?.getD undef = .pointer p := hF.eo 5 (by kernel_rfl)
          refine wpOp_val rfl (wanted_none rfl) ?_ (fK (.pointer p) fW (Below.refl _ _) (by rw [hT]; exact rfl))
          clear fK hE hF
          go_simp
        refine stepsAll_cons (k := 11) ?_ ?_
        · intro fa fx fW hF fB hE K fK
          have ev1 : fa.tmps[1]?.getD undef = .pointer (some ⟨w.heap.size, 0, none⟩) := hF.eo 1 (by kernel_rfl)
          refine wpOp_val rfl (wanted_none rfl) ?_ (fK (.pointer (some ⟨w.heap.size, 1, none⟩)) fW (Below.refl _ _) (by rw [hT]; exact rfl))
          clear fK hE hF
          go_simp
        refine stepsAll_cons (k := 12) ?_ ?_
        · intro fa fx fW hF fB hE K fK
          have q11 : fx 11 = .pointer (some ⟨w.heap.size, 1, none⟩) := by have q := hE ⟨11, .data⟩ (by simp) rfl; rw [hT] at q; exact q
          have ev39 : fa.tmps[39]?.getD undef = .pointer (some ⟨w.heap.size, 1, none⟩) := (hF.ev 11 39 (by kernel_rfl)).trans q11
          have y0 := cell_below (below_tr hb4 fB) HC1.out
          refine wpOp_val rfl (wanted_none rfl) ?_ (fK (.int .i64 n) fW (Below.refl _ _) (by rw [hT]; exact rfl))
          clear fK hE hF
          go_simp
        refine stepsAll_cons (k := 13) ?_ ?_
        · intro fa fx fW hF fB hE K fK
          have q10 : fx 10 = .pointer p := by have q := hE ⟨10, .data⟩ (by simp) rfl; rw [hT] at q; exact q
          have q12 : fx 12 = .int .i64 n := by have q := hE ⟨12, .data⟩ (by simp) rfl; rw [hT] at q; exact q
          have ev38 : fa.tmps[38]?.getD undef = .pointer p := (hF.ev 10 38 (by kernel_rfl)).trans q10
          have ev40 : fa.tmps[40]?.getD undef = .int .i64 n := (hF.ev 12 40 (by kernel_rfl)).trans q12
          refine wpOp_call rfl (wanted_none rfl) (by go_simp; exact ⟨rfl, rfl⟩) ?_
          refine (zqback p n fW (HN.out.below (below_tr hb4 fB))).mono ?_
          rintro e' w' ⟨rfl, hbb⟩
          exact ⟨_, rfl, fK (.int .i64 1) (w') (hbb) (by rw [hT]; exact rfl)⟩
        refine stepsAll_cons (k := 14) ?_ ?_
        · intro fa fx fW hF fB hE K fK
          have ev5 : fa.tmps[5]?.getD undef = .pointer p := hF.eo 5 (by kernel_rfl)
          refine wpOp_val rfl (wanted_none rfl) ?_ (fK (.pointer p) fW (Below.refl _ _) (by rw [hT]; exact rfl))
          clear fK hE hF
          go_simp
        refine stepsAll_cons (k := 15) ?_ ?_
        · intro fa fx fW hF fB hE K fK
          have ev1 : fa.tmps[1]?.getD undef = .pointer (some ⟨w.heap.size, 0, none⟩) := hF.eo 1 (by kernel_rfl)
          refine wpOp_val rfl (wanted_none rfl) ?_ (fK (.pointer (some ⟨w.heap.size, 1, none⟩)) fW (Below.refl _ _) (by rw [hT]; exact rfl))
          clear fK hE hF
          go_simp
        refine stepsAll_cons (k := 16) ?_ ?_
        · intro fa fx fW hF fB hE K fK
          have q15 : fx 15 = .pointer (some ⟨w.heap.size, 1, none⟩) := by have q := hE ⟨15, .data⟩ (by simp) rfl; rw [hT] at q; exact q
          have ev43 : fa.tmps[43]?.getD undef = .pointer (some ⟨w.heap.size, 1, none⟩) := (hF.ev 15 43 (by kernel_rfl)).trans q15
          have y0 := cell_below (below_tr hb4 fB) HC1.out
          refine wpOp_val rfl (wanted_none rfl) ?_ (fK (.int .i64 n) fW (Below.refl _ _) (by rw [hT]; exact rfl))
          clear fK hE hF
          go_simp
        refine stepsAll_cons (k := 17) ?_ ?_
        · intro fa fx fW hF fB hE K fK
          have q14 : fx 14 = .pointer p := by have q := hE ⟨14, .data⟩ (by simp) rfl; rw [hT] at q; exact q
          have q16 : fx 16 = .int .i64 n := by have q := hE ⟨16, .data⟩ (by simp) rfl; rw [hT] at q; exact q
          have ev42 : fa.tmps[42]?.getD undef = .pointer p := (hF.ev 14 42 (by kernel_rfl)).trans q14
          have ev44 : fa.tmps[44]?.getD undef = .int .i64 n := (hF.ev 16 44 (by kernel_rfl)).trans q16
          refine wpOp_call rfl (wanted_none rfl) (by go_simp; exact ⟨rfl, rfl⟩) ?_
          refine (zqblock p n fW (HN.out.below (below_tr hb4 fB))).mono ?_
          rintro e' w' ⟨rfl, hbb⟩
          exact ⟨_, rfl, fK (.int .i64 1) (w') (hbb) (by rw [hT]; exact rfl)⟩
        refine stepsAll_cons (k := 18) ?_ ?_
        · intro fa fx fW hF fB hE K fK
          have ev5 : fa.tmps[5]?.getD undef = .pointer p := hF.eo 5 (by kernel_rfl)
          refine wpOp_val rfl (wanted_none rfl) ?_ (fK (.pointer p) fW (Below.refl _ _) (by rw [hT]; exact rfl))
          clear fK hE hF
          go_simp
        refine stepsAll_cons (k := 19) ?_ ?_
        · intro fa fx fW hF fB hE K fK
          have ev1 : fa.tmps[1]?.getD undef = .pointer (some ⟨w.heap.size, 0, none⟩) := hF.eo 1 (by kernel_rfl)
          refine wpOp_val rfl (wanted_none rfl) ?_ (fK (.pointer (some ⟨w.heap.size, 1, none⟩)) fW (Below.refl _ _) (by rw [hT]; exact rfl))
          clear fK hE hF
          go_simp
        refine stepsAll_cons (k := 20) ?_ ?_
        · intro fa fx fW hF fB hE K fK
          have q19 : fx 19 = .pointer (some ⟨w.heap.size, 1, none⟩) := by have q := hE ⟨19, .data⟩ (by simp) rfl; rw [hT] at q; exact q
          have ev47 : fa.tmps[47]?.getD undef = .pointer (some ⟨w.heap.size, 1, none⟩) := (hF.ev 19 47 (by kernel_rfl)).trans q19
          have y0 := cell_below (below_tr hb4 fB) HC1.out
          refine wpOp_val rfl (wanted_none rfl) ?_ (fK (.int .i64 n) fW (Below.refl _ _) (by rw [hT]; exact rfl))
          clear fK hE hF
          go_simp
        refine stepsAll_cons (k := 21) ?_ ?_
        · intro fa fx fW hF fB hE K fK
          have q18 : fx 18 = .pointer p := by have q := hE ⟨18, .data⟩ (by simp) rfl; rw [hT] at q; exact q
          have q20 : fx 20 = .int .i64 n := by have q := hE ⟨20, .data⟩ (by simp) rfl; rw [hT] at q; exact q
          have ev46 : fa.tmps[46]?.getD undef = .pointer p := (hF.ev 18 46 (by kernel_rfl)).trans q18
          have ev48 : fa.tmps[48]?.getD undef = .int .i64 n := (hF.ev 20 48 (by kernel_rfl)).trans q20
          refine wpOp_call rfl (wanted_none rfl) (by go_simp; exact ⟨rfl, rfl⟩) ?_
          refine (zqwake p n fW (HN.out.below (below_tr hb4 fB))).mono ?_
          rintro e' w' ⟨rfl, hbb⟩
          exact ⟨_, rfl, fK (.int .i64 1) (w') (hbb) (by rw [hT]; exact rfl)⟩
        refine stepsAll_cons (k := 22) ?_ ?_
        · intro fa fx fW hF fB hE K fK
          have ev5 : fa.tmps[5]?.getD undef = .pointer p := hF.eo 5 (by kernel_rfl)
          refine wpOp_val rfl (wanted_none rfl) ?_ (fK (.pointer p) fW (Below.refl _ _) (by rw [hT]; exact rfl))
          clear fK hE hF
          go_simp
        refine stepsAll_cons (k := 23) ?_ ?_
        · intro fa fx fW hF fB hE K fK
          have ev1 : fa.tmps[1]?.getD undef = .pointer (some ⟨w.heap.size, 0, none⟩) := hF.eo 1 (by kernel_rfl)
          refine wpOp_val rfl (wanted_none rfl) ?_ (fK (.pointer (some ⟨w.heap.size, 1, none⟩)) fW (Below.refl _ _) (by rw [hT]; exact rfl))
          clear fK hE hF
          go_simp
        refine stepsAll_cons (k := 24) ?_ ?_
        · intro fa fx fW hF fB hE K fK
          have q23 : fx 23 = .pointer (some ⟨w.heap.size, 1, none⟩) := by have q := hE ⟨23, .data⟩ (by simp) rfl; rw [hT] at q; exact q
          have ev51 : fa.tmps[51]?.getD undef = .pointer (some ⟨w.heap.size, 1, none⟩) := (hF.ev 23 51 (by kernel_rfl)).trans q23
          have y0 := cell_below (below_tr hb4 fB) HC1.out
          refine wpOp_val rfl (wanted_none rfl) ?_ (fK (.int .i64 n) fW (Below.refl _ _) (by rw [hT]; exact rfl))
          clear fK hE hF
          go_simp
        refine stepsAll_cons (k := 25) ?_ ?_
        · intro fa fx fW hF fB hE K fK
          have q22 : fx 22 = .pointer p := by have q := hE ⟨22, .data⟩ (by simp) rfl; rw [hT] at q; exact q
          have q24 : fx 24 = .int .i64 n := by have q := hE ⟨24, .data⟩ (by simp) rfl; rw [hT] at q; exact q
          have ev50 : fa.tmps[50]?.getD undef = .pointer p := (hF.ev 22 50 (by kernel_rfl)).trans q22
          have ev52 : fa.tmps[52]?.getD undef = .int .i64 n := (hF.ev 24 52 (by kernel_rfl)).trans q24
          refine wpOp_call rfl (wanted_none rfl) (by go_simp; exact ⟨rfl, rfl⟩) ?_
          refine (zqresume p n fW (HN.out.below (below_tr hb4 fB))).mono ?_
          rintro e' w' ⟨rfl, hbb⟩
          exact ⟨_, rfl, fK (.int .i64 1) (w') (hbb) (by rw [hT]; exact rfl)⟩
        refine stepsAll_cons (k := 26) ?_ ?_
        · intro fa fx fW hF fB hE K fK
          have ev5 : fa.tmps[5]?.getD undef = .pointer p := hF.eo 5 (by kernel_rfl)
          refine wpOp_val rfl (wanted_none rfl) ?_ (fK (.pointer p) fW (Below.refl _ _) (by rw [hT]; exact rfl))
          clear fK hE hF
          go_simp
        refine stepsAll_cons (k := 27) ?_ ?_
        · intro fa fx fW hF fB hE K fK
          have ev1 : fa.tmps[1]?.getD undef = .pointer (some ⟨w.heap.size, 0, none⟩) := hF.eo 1 (by kernel_rfl)
          refine wpOp_val rfl (wanted_none rfl) ?_ (fK (.pointer (some ⟨w.heap.size, 1, none⟩)) fW (Below.refl _ _) (by rw [hT]; exact rfl))
          clear fK hE hF
          go_simp
        refine stepsAll_cons (k := 28) ?_ ?_
        · intro fa fx fW hF fB hE K fK
          have q27 : fx 27 = .pointer (some ⟨w.heap.size, 1, none⟩) := by have q := hE ⟨27, .data⟩ (by simp) rfl; rw [hT] at q; exact q
          have ev55 : fa.tmps[55]?.getD undef = .pointer (some ⟨w.heap.size, 1, none⟩) := (hF.ev 27 55 (by kernel_rfl)).trans q27
          have y0 := cell_below (below_tr hb4 fB) HC1.out
          refine wpOp_val rfl (wanted_none rfl) ?_ (fK (.int .i64 n) fW (Below.refl _ _) (by rw [hT]; exact rfl))
          clear fK hE hF
          go_simp
        refine stepsAll_cons (k := 29) ?_ ?_
        · intro fa fx fW hF fB hE K fK
          have q26 : fx 26 = .pointer p := by have q := hE ⟨26, .data⟩ (by simp) rfl; rw [hT] at q; exact q
          have q28 : fx 28 = .int .i64 n := by have q := hE ⟨28, .data⟩ (by simp) rfl; rw [hT] at q; exact q
          have ev54 : fa.tmps[54]?.getD undef = .pointer p := (hF.ev 26 54 (by kernel_rfl)).trans q26
          have ev56 : fa.tmps[56]?.getD undef = .int .i64 n := (hF.ev 28 56 (by kernel_rfl)).trans q28
          refine wpOp_call rfl (wanted_none rfl) (by go_simp; exact ⟨rfl, rfl⟩) ?_
          refine (zqdrop p n fW (HN.out.below (below_tr hb4 fB))).mono ?_
          rintro e' w' ⟨rfl, hbb⟩
          exact ⟨_, rfl, fK (.int .i64 1) (w') (hbb) (by rw [hT]; exact rfl)⟩
        refine stepsAll_cons (k := 30) ?_ ?_
        · intro fa fx fW hF fB hE K fK
          have q5 : fx 5 = .int .i64 1 := by have q := hE ⟨5, .data⟩ (by simp) rfl; rw [hT] at q; exact q
          have q9 : fx 9 = .int .i64 1 := by have q := hE ⟨9, .data⟩ (by simp) rfl; rw [hT] at q; exact q
          have q13 : fx 13 = .int .i64 1 := by have q := hE ⟨13, .data⟩ (by simp) rfl; rw [hT] at q; exact q
          have q17 : fx 17 = .int .i64 1 := by have q := hE ⟨17, .data⟩ (by simp) rfl; rw [hT] at q; exact q
          have q21 : fx 21 = .int .i64 1 := by have q := hE ⟨21, .data⟩ (by simp) rfl; rw [hT] at q; exact q
          have q25 : fx 25 = .int .i64 1 := by have q := hE ⟨25, .data⟩ (by simp) rfl; rw [hT] at q; exact q
          have q29 : fx 29 = .int .i64 1 := by have q := hE ⟨29, .data⟩ (by simp) rfl; rw [hT] at q; exact q
          have ev33 : fa.tmps[33]?.getD undef = .int .i64 1 := (hF.ev 5 33 (by kernel_rfl)).trans q5
          have ev37 : fa.tmps[37]?.getD undef = .int .i64 1 := (hF.ev 9 37 (by kernel_rfl)).trans q9
          have ev41 : fa.tmps[41]?.getD undef = .int .i64 1 := (hF.ev 13 41 (by kernel_rfl)).trans q13
          have ev45 : fa.tmps[45]?.getD undef = .int .i64 1 := (hF.ev 17 45 (by kernel_rfl)).trans q17
          have ev49 : fa.tmps[49]?.getD undef = .int .i64 1 := (hF.ev 21 49 (by kernel_rfl)).trans q21
          have ev53 : fa.tmps[53]?.getD undef = .int .i64 1 := (hF.ev 25 53 (by kernel_rfl)).trans q25
          have ev57 : fa.tmps[57]?.getD undef = .int .i64 1 := (hF.ev 29 57 (by kernel_rfl)).trans q29
          refine wpOp_val rfl (wanted_none rfl) ?_ (fK (.agg #[.int .i64 1, .int .i64 1, .int .i64 1, .int .i64 1, .int .i64 1, .int .i64 1, .int .i64 1]) fW (Below.refl _ _) (by rw [hT]; exact rfl))
          clear fK hE hF
          go_simp
        refine stepsAll_cons (k := 31) ?_ ?_
        · intro fa fx fW hF fB hE K fK
          refine wpOp_val rfl (wanted_none rfl) ?_ (fK (.int .i64 0) fW (Below.refl _ _) (by rw [hT]; exact rfl))
          clear fK hE hF
          go_simp
        exact stepsAll_nil
      intro fa fx fW hF fB hx
      have q30 : fx 30 = .agg #[.int .i64 1, .int .i64 1, .int .i64 1, .int .i64 1, .int .i64 1, .int .i64 1, .int .i64 1] := by have q := hx 30 (by decide); rw [hT] at q; exact q
      have ev58 : fa.tmps[58]?.getD undef = .agg #[.int .i64 1, .int .i64 1, .int .i64 1, .int .i64 1, .int .i64 1, .int .i64 1, .int .i64 1] := (hF.ev 30 58 (by kernel_rfl)).trans q30
      have q31 : fx 31 = .int .i64 0 := by have q := hx 31 (by decide); rw [hT] at q; exact q
      have ev59 : fa.tmps[59]?.getD undef = .int .i64 0 := (hF.ev 31 59 (by kernel_rfl)).trans q31
      rw [hF.eq]
      clear hF hx
      simp only [putAll, Act.put, List.setIfInBounds_toArray, List.set_cons_zero, List.set_cons_succ, q30, q31]
      have hb5 := below_tr hb4 fB
      clear H0 H1 hb hb1 hb2 hb3 hb4 k1
      go_wp2
      obtain ⟨W5, rfl⟩ : ∃ x, x = fW := ⟨_, rfl⟩
      go_loopw [59] (fun i wr => ∃ j : Nat, j ≤ 7 ∧ i = .int .i64 j ∧ Below W0.heap.size W0 wr) (fun i _ => 7 - (intOf i).toNat)
      case atStart => exact ⟨0, by omega, rfl, hb5⟩
      case round =>
        obtain ⟨j, hj, rfl, hb6⟩ := hrel
        by_cases h7 : j = 7
        · subst h7
          go_wp2
          obtain ⟨T, hT⟩ : ∃ T : Nat → Fact, ∀ t_, T t_ = ([Fact.eq (.bool false), Fact.eq (.bool false), Fact.eq (.bool false), Fact.eq (.bool false), Fact.eq (.bool false), Fact.eq (.pointer p), Fact.eq (.pointer (some ⟨w.heap.size, 1, none⟩)), Fact.eq (.int .i64 n), Fact.eq (.int .i64 0), Fact.eq (.pointer p), Fact.eq (.pointer (some ⟨w.heap.size, 1, none⟩)), Fact.eq (.int .i64 n), Fact.eq (.int .i64 0), Fact.eq (.int .i64 0), Fact.eq (.pointer p), Fact.eq (.int .i64 0), Fact.eq (.int .i64 0), Fact.eq (.pointer p), Fact.eq (.slice none 0 0), Fact.eq (.int .i64 0), Fact.eq (.int .i64 0), Fact.eq (.pointer p), Fact.eq (.int .i64 0), Fact.eq (.int .i64 0), Fact.eq (.bool false), Fact.eq (.bool false), Fact.eq (.bool false), Fact.eq (.pointer p), Fact.eq (.bool false), Fact.eq (.bool false), Fact.eq (.bool false), Fact.eq (.pointer p), Fact.eq (.pointer none), Fact.eq (.bool false), Fact.eq (.bool false)] : List (Fact)).getD t_ Fact.any := ⟨_, fun _ => rfl⟩
          refine region_tab [(0, 65), (1, 66), (2, 67), (3, 68), (4, 69), (5, 70), (6, 71), (7, 72), (8, 73), (9, 74), (10, 75), (11, 76), (12, 77), (13, 78), (14, 79), (15, 80), (16, 81), (17, 82), (18, 83), (19, 84), (20, 85), (21, 86), (22, 87), (23, 88), (24, 89), (25, 90), (26, 91), (27, 92), (28, 93), (29, 94), (30, 95), (31, 96), (32, 97), (33, 98), (34, 99)] T (by kernel_rfl) (by kernel_rfl) (by kernel_rfl) (by kernel_rfl) (by kernel_rfl) ?_ ?_
          · skip
            refine stepsAll_cons (k := 0) ?_ ?_
            · intro fa fx fW hF fB hE K fK
              have ev7 : fa.tmps[7]?.getD undef = .bool false := hF.eo 7 (by kernel_rfl)
              refine wpOp_val rfl (wanted_none rfl) ?_ (fK (.bool false) fW (Below.refl _ _) (by rw [hT]; exact rfl))
              clear fK hE hF
              go_simp
            refine stepsAll_cons (k := 1) ?_ ?_
            · intro fa fx fW hF fB hE K fK
              have q0 : fx 0 = .bool false := by have q := hE ⟨0, .data⟩ (by simp) rfl; rw [hT] at q; exact q
              have ev65 : fa.tmps[65]?.getD undef = .bool false := (hF.ev 0 65 (by kernel_rfl)).trans q0
              refine wpOp_val rfl (wanted_none rfl) ?_ (fK (.bool false) fW (Below.refl _ _) (by rw [hT]; exact rfl))
              clear fK hE hF
              go_simp
            refine stepsAll_cons (k := 2) ?_ ?_
            · intro fa fx fW hF fB hE K fK
              have q1 : fx 1 = .bool false := by have q := hE ⟨1, .guard⟩ (by simp) rfl; rw [hT] at q; exact q
              have ev9 : fa.tmps[9]?.getD undef = .bool false := hF.eo 9 (by kernel_rfl)
              refine wpOp_val rfl (wanted_not rfl (hF.yes 1 66 (by kernel_rfl) false q1)) ?_ (fK (.bool false) fW (Below.refl _ _) (by rw [hT]; exact rfl))
              clear fK hE hF
              go_simp
            refine stepsAll_cons (k := 3) ?_ ?_
            · intro fa fx fW hF fB hE K fK
              have q1 : fx 1 = .bool false := by have q := hE ⟨1, .data⟩ (by simp) rfl; rw [hT] at q; exact q
              have q2 : fx 2 = .bool false := by have q := hE ⟨2, .data⟩ (by simp) rfl; rw [hT] at q; exact q
              have ev66 : fa.tmps[66]?.getD undef = .bool false := (hF.ev 1 66 (by kernel_rfl)).trans q1
              have ev67 : fa.tmps[67]?.getD undef = .bool false := (hF.ev 2 67 (by kernel_rfl)).trans q2
              refine wpOp_val rfl (wanted_none rfl) ?_ (fK (.bool false) fW (Below.refl _ _) (by rw [hT]; exact rfl))
              clear fK hE hF
              go_simp
            refine stepsAll_cons (k := 4) ?_ ?_
            · intro fa fx fW hF fB hE K fK
              have q3 : fx 3 = .bool false := by have q := hE ⟨3, .data⟩ (by simp) rfl; rw [hT] at q; exact q
              have ev68 : fa.tmps[68]?.getD undef = .bool false := (hF.ev 3 68 (by kernel_rfl)).trans q3
              refine wpOp_val rfl (wanted_none rfl) ?_ (fK (.bool false) fW (Below.refl _ _) (by rw [hT]; exact rfl))
              clear fK hE hF
              go_simp
            refine stepsAll_cons (k := 5) ?_ ?_
            · intro fa fx fW hF fB hE K fK
              have q4 : fx 4 = .bool false := by have q := hE ⟨4, .guard⟩ (by simp) rfl; rw [hT] at q; exact q
              have ev5 : fa.tmps[5]?.getD undef = .pointer p := hF.eo 5 (by kernel_rfl)
              refine wpOp_val rfl (wanted_not rfl (hF.yes 4 69 (by kernel_rfl) false q4)) ?_ (fK (.pointer p) fW (Below.refl _ _) (by rw [hT]; exact rfl))
              clear fK hE hF
              go_simp
            refine stepsAll_cons (k := 6) ?_ ?_
            · intro fa fx fW hF fB hE K fK
              have q4 : fx 4 = .bool false := by have q := hE ⟨4, .guard⟩ (by simp) rfl; rw [hT] at q; exact q
              have ev1 : fa.tmps[1]?.getD undef = .pointer (some ⟨w.heap.size, 0, none⟩) := hF.eo 1 (by kernel_rfl)
              refine wpOp_val rfl (wanted_not rfl (hF.yes 4 69 (by kernel_rfl) false q4)) ?_ (fK (.pointer (some ⟨w.heap.size, 1, none⟩)) fW (Below.refl _ _) (by rw [hT]; exact rfl))
              clear fK hE hF
              go_simp
            refine stepsAll_cons (k := 7) ?_ ?_
            · intro fa fx fW hF fB hE K fK
              have q4 : fx 4 = .bool false := by have q := hE ⟨4, .guard⟩ (by simp) rfl; rw [hT] at q; exact q
              have q6 : fx 6 = .pointer (some ⟨w.heap.size, 1, none⟩) := by have q := hE ⟨6, .data⟩ (by simp) rfl; rw [hT] at q; exact q
              have ev71 : fa.tmps[71]?.getD undef = .pointer (some ⟨w.heap.size, 1, none⟩) := (hF.ev 6 71 (by kernel_rfl)).trans q6
              have y0 := cell_below (below_tr hb6 fB) HC1.out
              refine wpOp_val rfl (wanted_not rfl (hF.yes 4 69 (by kernel_rfl) false q4)) ?_ (fK (.int .i64 n) fW (Below.refl _ _) (by rw [hT]; exact rfl))
              clear fK hE hF
              go_simp
            refine stepsAll_cons (k := 8) ?_ ?_
            · intro fa fx fW hF fB hE K fK
              have q4 : fx 4 = .bool false := by have q := hE ⟨4, .chain⟩ (by simp) rfl; rw [hT] at q; exact q
              have q5 : fx 5 = .pointer p := by have q := hE ⟨5, .data⟩ (by simp) rfl; rw [hT] at q; exact q
              have q7 : fx 7 = .int .i64 n := by have q := hE ⟨7, .data⟩ (by simp) rfl; rw [hT] at q; exact q
              have ev70 : fa.tmps[70]?.getD undef = .pointer p := (hF.ev 5 70 (by kernel_rfl)).trans q5
              have ev72 : fa.tmps[72]?.getD undef = .int .i64 n := (hF.ev 7 72 (by kernel_rfl)).trans q7
              refine wpOp_call rfl (wanted_not rfl (hF.yes 4 69 (by kernel_rfl) false q4)) (by go_simp; exact ⟨rfl, rfl⟩) ?_
              refine (zqstate p n fW (HN.out.below (below_tr hb6 fB))).mono ?_
              rintro e' w' ⟨rfl, hbb⟩
              exact ⟨_, rfl, fK (.int .i64 0) (w') (hbb) (by rw [hT]; exact rfl)⟩
            refine stepsAll_cons (k := 9) ?_ ?_
            · intro fa fx fW hF fB hE K fK
              have q4 : fx 4 = .bool false := by have q := hE ⟨4, .guard⟩ (by simp) rfl; rw [hT] at q; exact q
              have ev5 : fa.tmps[5]?.getD undef = .pointer p := hF.eo 5 (by kernel_rfl)
              refine wpOp_val rfl (wanted_not rfl (hF.yes 4 69 (by kernel_rfl) false q4)) ?_ (fK (.pointer p) fW (Below.refl _ _) (by rw [hT]; exact rfl))
              clear fK hE hF
              go_simp
            refine stepsAll_cons (k := 10) ?_ ?_
            · intro fa fx fW hF fB hE K fK
              have q4 : fx 4 = .bool false := by have q := hE ⟨4, .guard⟩ (by simp) rfl; rw [hT] at q; exact q
              have ev1 : fa.tmps[1]?.getD undef = .pointer (some ⟨w.heap.size, 0, none⟩) := hF.eo 1 (by kernel_rfl)
              refine wpOp_val rfl (wanted_not rfl (hF.yes 4 69 (by kernel_rfl) false q4)) ?_ (fK (.pointer (some ⟨w.heap.size, 1, none⟩)) fW (Below.refl _ _) (by rw [hT]; exact rfl))
              clear fK hE hF
              go_simp
            refine stepsAll_cons (k := 11) ?_ ?_
            · intro fa fx fW hF fB hE K fK
              have q4 : fx 4 = .bool false := by have q := hE ⟨4, .guard⟩ (by simp) rfl; rw [hT] at q; exact q
              have q10 : fx 10 = .pointer (some ⟨w.heap.size, 1, none⟩) := by have q := hE ⟨10, .data⟩ (by simp) rfl; rw [hT] at q; exact q
              have ev75 : fa.tmps[75]?.getD undef = .pointer (some ⟨w.heap.size, 1, none⟩) := (hF.ev 10 75 (by kernel_rfl)).trans q10
              have y0 := cell_below (below_tr hb6 fB) HC1.out
              refine wpOp_val rfl (wanted_not rfl (hF.yes 4 69 (by kernel_rfl) false q4)) ?_ (fK (.int .i64 n) fW (Below.refl _ _) (by rw [hT]; exact rfl))
              clear fK hE hF
              go_simp
            refine stepsAll_cons (k := 12) ?_ ?_
            · intro fa fx fW hF fB hE K fK
              have q4 : fx 4 = .bool false := by have q := hE ⟨4, .guard⟩ (by simp) rfl; rw [hT] at q; exact q
              have q9 : fx 9 = .pointer p := by have q := hE ⟨9, .data⟩ (by simp) rfl; rw [hT] at q; exact q
              have q11 : fx 11 = .int .i64 n := by have q := hE ⟨11, .data⟩ (by simp) rfl; rw [hT] at q; exact q
              have ev74 : fa.tmps[74]?.getD undef = .pointer p := (hF.ev 9 74 (by kernel_rfl)).trans q9
              have ev76 : fa.tmps[76]?.getD undef = .int .i64 n := (hF.ev 11 76 (by kernel_rfl)).trans q11
              refine wpOp_call rfl (wanted_not rfl (hF.yes 4 69 (by kernel_rfl) false q4)) (by go_simp; exact ⟨rfl, rfl⟩) ?_
              refine (zqpicks p n fW (HN.out.below (below_tr hb6 fB))).mono ?_
              rintro e' w' ⟨rfl, hbb⟩
              exact ⟨_, rfl, fK (.int .i64 0) (w') (hbb) (by rw [hT]; exact rfl)⟩
            refine stepsAll_cons (k := 13) ?_ ?_
            · intro fa fx fW hF fB hE K fK
              have q4 : fx 4 = .bool false := by have q := hE ⟨4, .guard⟩ (by simp) rfl; rw [hT] at q; exact q
              have q8 : fx 8 = .int .i64 0 := by have q := hE ⟨8, .data⟩ (by simp) rfl; rw [hT] at q; exact q
              have q12 : fx 12 = .int .i64 0 := by have q := hE ⟨12, .data⟩ (by simp) rfl; rw [hT] at q; exact q
              have ev73 : fa.tmps[73]?.getD undef = .int .i64 0 := (hF.ev 8 73 (by kernel_rfl)).trans q8
              have ev77 : fa.tmps[77]?.getD undef = .int .i64 0 := (hF.ev 12 77 (by kernel_rfl)).trans q12
              refine wpOp_val rfl (wanted_not rfl (hF.yes 4 69 (by kernel_rfl) false q4)) ?_ (fK (.int .i64 0) fW (Below.refl _ _) (by rw [hT]; exact rfl))
              clear fK hE hF
              go_simp
              rfl
            refine stepsAll_cons (k := 14) ?_ ?_
            · intro fa fx fW hF fB hE K fK
              have q4 : fx 4 = .bool false := by have q := hE ⟨4, .guard⟩ (by simp) rfl; rw [hT] at q; exact q
              have ev5 : fa.tmps[5]?.getD undef = .pointer p := hF.eo 5 (by kernel_rfl)
              refine wpOp_val rfl (wanted_not rfl (hF.yes 4 69 (by kernel_rfl) false q4)) ?_ (fK (.pointer p) fW (Below.refl _ _) (by rw [hT]; exact rfl))
              clear fK hE hF
              go_simp
            refine stepsAll_cons (k := 15) ?_ ?_
            · intro fa fx fW hF fB hE K fK
              have q4 : fx 4 = .bool false := by have q := hE ⟨4, .guard⟩ (by simp) rfl; rw [hT] at q; exact q
              have q14 : fx 14 = .pointer p := by have q := hE ⟨14, .data⟩ (by simp) rfl; rw [hT] at q; exact q
              have ev79 : fa.tmps[79]?.getD undef = .pointer p := (hF.ev 14 79 (by kernel_rfl)).trans q14
              refine wpOp_call rfl (wanted_not rfl (hF.yes 4 69 (by kernel_rfl) false q4)) (by go_simp; exact ⟨rfl, rfl⟩) ?_
              refine (zqnow p fW (HN.out.below (below_tr hb6 fB))).mono ?_
              rintro e' w' ⟨rfl, hbb⟩
              exact ⟨_, rfl, fK (.int .i64 0) (w') (hbb) (by rw [hT]; exact rfl)⟩
            refine stepsAll_cons (k := 16) ?_ ?_
            · intro fa fx fW hF fB hE K fK
              have q4 : fx 4 = .bool false := by have q := hE ⟨4, .guard⟩ (by simp) rfl; rw [hT] at q; exact q
              have q13 : fx 13 = .int .i64 0 := by have q := hE ⟨13, .data⟩ (by simp) rfl; rw [hT] at q; exact q
              have q15 : fx 15 = .int .i64 0 := by have q := hE ⟨15, .data⟩ (by simp) rfl; rw [hT] at q; exact q
              have ev78 : fa.tmps[78]?.getD undef = .int .i64 0 := (hF.ev 13 78 (by kernel_rfl)).trans q13
              have ev80 : fa.tmps[80]?.getD undef = .int .i64 0 := (hF.ev 15 80 (by kernel_rfl)).trans q15
              refine wpOp_val rfl (wanted_not rfl (hF.yes 4 69 (by kernel_rfl) false q4)) ?_ (fK (.int .i64 0) fW (Below.refl _ _) (by rw [hT]; exact rfl))
              clear fK hE hF
              go_simp
              rfl
            refine stepsAll_cons (k := 17) ?_ ?_
            · intro fa fx fW hF fB hE K fK
              have q4 : fx 4 = .bool false := by have q := hE ⟨4, .guard⟩ (by simp) rfl; rw [hT] at q; exact q
              have ev5 : fa.tmps[5]?.getD undef = .pointer p := hF.eo 5 (by kernel_rfl)
              refine wpOp_val rfl (wanted_not rfl (hF.yes 4 69 (by kernel_rfl) false q4)) ?_ (fK (.pointer p) fW (Below.refl _ _) (by rw [hT]; exact rfl))
              clear fK hE hF
              go_simp
            refine stepsAll_cons (k := 18) ?_ ?_
            · intro fa fx fW hF fB hE K fK
              have q4 : fx 4 = .bool false := by have q := hE ⟨4, .guard⟩ (by simp) rfl; rw [hT] at q; exact q
              have q17 : fx 17 = .pointer p := by have q := hE ⟨17, .data⟩ (by simp) rfl; rw [hT] at q; exact q
              have ev82 : fa.tmps[82]?.getD undef = .pointer p := (hF.ev 17 82 (by kernel_rfl)).trans q17
              refine wpOp_call rfl (wanted_not rfl (hF.yes 4 69 (by kernel_rfl) false q4)) (by go_simp; exact ⟨rfl, rfl⟩) ?_
              refine (zqwaiting p fW (HN.out.below (below_tr hb6 fB))).mono ?_
              rintro e' w' ⟨rfl, hbb⟩
              exact ⟨_, rfl, fK (.slice none 0 0) (w') (hbb) (by rw [hT]; exact rfl)⟩
            refine stepsAll_cons (k := 19) ?_ ?_
            · intro fa fx fW hF fB hE K fK
              have q4 : fx 4 = .bool false := by have q := hE ⟨4, .guard⟩ (by simp) rfl; rw [hT] at q; exact q
              have q18 : fx 18 = .slice none 0 0 := by have q := hE ⟨18, .data⟩ (by simp) rfl; rw [hT] at q; exact q
              have ev83 : fa.tmps[83]?.getD undef = .slice none 0 0 := (hF.ev 18 83 (by kernel_rfl)).trans q18
              refine wpOp_val rfl (wanted_not rfl (hF.yes 4 69 (by kernel_rfl) false q4)) ?_ (fK (.int .i64 0) fW (Below.refl _ _) (by rw [hT]; exact rfl))
              clear fK hE hF
              go_simp
            refine stepsAll_cons (k := 20) ?_ ?_
            · intro fa fx fW hF fB hE K fK
              have q4 : fx 4 = .bool false := by have q := hE ⟨4, .guard⟩ (by simp) rfl; rw [hT] at q; exact q
              have q16 : fx 16 = .int .i64 0 := by have q := hE ⟨16, .data⟩ (by simp) rfl; rw [hT] at q; exact q
              have q19 : fx 19 = .int .i64 0 := by have q := hE ⟨19, .data⟩ (by simp) rfl; rw [hT] at q; exact q
              have ev81 : fa.tmps[81]?.getD undef = .int .i64 0 := (hF.ev 16 81 (by kernel_rfl)).trans q16
              have ev84 : fa.tmps[84]?.getD undef = .int .i64 0 := (hF.ev 19 84 (by kernel_rfl)).trans q19
              refine wpOp_val rfl (wanted_not rfl (hF.yes 4 69 (by kernel_rfl) false q4)) ?_ (fK (.int .i64 0) fW (Below.refl _ _) (by rw [hT]; exact rfl))
              clear fK hE hF
              go_simp
              rfl
            refine stepsAll_cons (k := 21) ?_ ?_
            · intro fa fx fW hF fB hE K fK
              have q4 : fx 4 = .bool false := by have q := hE ⟨4, .guard⟩ (by simp) rfl; rw [hT] at q; exact q
              have ev5 : fa.tmps[5]?.getD undef = .pointer p := hF.eo 5 (by kernel_rfl)
              refine wpOp_val rfl (wanted_not rfl (hF.yes 4 69 (by kernel_rfl) false q4)) ?_ (fK (.pointer p) fW (Below.refl _ _) (by rw [hT]; exact rfl))
              clear fK hE hF
              go_simp
            refine stepsAll_cons (k := 22) ?_ ?_
            · intro fa fx fW hF fB hE K fK
              have q4 : fx 4 = .bool false := by have q := hE ⟨4, .guard⟩ (by simp) rfl; rw [hT] at q; exact q
              have q21 : fx 21 = .pointer p := by have q := hE ⟨21, .data⟩ (by simp) rfl; rw [hT] at q; exact q
              have ev86 : fa.tmps[86]?.getD undef = .pointer p := (hF.ev 21 86 (by kernel_rfl)).trans q21
              refine wpOp_call rfl (wanted_not rfl (hF.yes 4 69 (by kernel_rfl) false q4)) (by go_simp; exact ⟨rfl, rfl⟩) ?_
              refine (zqlower p fW (HN.out.below (below_tr hb6 fB))).mono ?_
              rintro e' w' ⟨rfl, hbb⟩
              exact ⟨_, rfl, fK (.int .i64 0) (w') (hbb) (by rw [hT]; exact rfl)⟩
            refine stepsAll_cons (k := 23) ?_ ?_
            · intro fa fx fW hF fB hE K fK
              have q4 : fx 4 = .bool false := by have q := hE ⟨4, .guard⟩ (by simp) rfl; rw [hT] at q; exact q
              have q20 : fx 20 = .int .i64 0 := by have q := hE ⟨20, .data⟩ (by simp) rfl; rw [hT] at q; exact q
              have q22 : fx 22 = .int .i64 0 := by have q := hE ⟨22, .data⟩ (by simp) rfl; rw [hT] at q; exact q
              have ev85 : fa.tmps[85]?.getD undef = .int .i64 0 := (hF.ev 20 85 (by kernel_rfl)).trans q20
              have ev87 : fa.tmps[87]?.getD undef = .int .i64 0 := (hF.ev 22 87 (by kernel_rfl)).trans q22
              refine wpOp_val rfl (wanted_not rfl (hF.yes 4 69 (by kernel_rfl) false q4)) ?_ (fK (.int .i64 0) fW (Below.refl _ _) (by rw [hT]; exact rfl))
              clear fK hE hF
              go_simp
              rfl
            refine stepsAll_cons (k := 24) ?_ ?_
            · intro fa fx fW hF fB hE K fK
              have q4 : fx 4 = .bool false := by have q := hE ⟨4, .guard⟩ (by simp) rfl; rw [hT] at q; exact q
              have q23 : fx 23 = .int .i64 0 := by have q := hE ⟨23, .data⟩ (by simp) rfl; rw [hT] at q; exact q
              have ev88 : fa.tmps[88]?.getD undef = .int .i64 0 := (hF.ev 23 88 (by kernel_rfl)).trans q23
              refine wpOp_val rfl (wanted_not rfl (hF.yes 4 69 (by kernel_rfl) false q4)) ?_ (fK (.bool false) fW (Below.refl _ _) (by rw [hT]; exact rfl))
              clear fK hE hF
              go_simp
            refine stepsAll_cons (k := 25) ?_ ?_
            · intro fa fx fW hF fB hE K fK
              have q4 : fx 4 = .bool false := by have q := hE ⟨4, .data⟩ (by simp) rfl; rw [hT] at q; exact q
              have q24 : fx 24 = .bool false := by have q := hE ⟨24, .data⟩ (by simp) rfl; rw [hT] at q; exact q
              have ev69 : fa.tmps[69]?.getD undef = .bool false := (hF.ev 4 69 (by kernel_rfl)).trans q4
              have ev89 : fa.tmps[89]?.getD undef = .bool false := (hF.ev 24 89 (by kernel_rfl)).trans q24
              refine wpOp_val rfl (wanted_none rfl) ?_ (fK (.bool false) fW (Below.refl _ _) (by rw [hT]; exact rfl))
              clear fK hE hF
              go_simp
            refine stepsAll_cons (k := 26) ?_ ?_
            · intro fa fx fW hF fB hE K fK
              have q25 : fx 25 = .bool false := by have q := hE ⟨25, .data⟩ (by simp) rfl; rw [hT] at q; exact q
              have ev90 : fa.tmps[90]?.getD undef = .bool false := (hF.ev 25 90 (by kernel_rfl)).trans q25
              refine wpOp_val rfl (wanted_none rfl) ?_ (fK (.bool false) fW (Below.refl _ _) (by rw [hT]; exact rfl))
              clear fK hE hF
              go_simp
            refine stepsAll_cons (k := 27) ?_ ?_
            · intro fa fx fW hF fB hE K fK
              have q26 : fx 26 = .bool false := by have q := hE ⟨26, .guard⟩ (by simp) rfl; rw [hT] at q; exact q
              have ev5 : fa.tmps[5]?.getD undef = .pointer p := hF.eo 5 (by kernel_rfl)
              refine wpOp_val rfl (wanted_not rfl (hF.yes 26 91 (by kernel_rfl) false q26)) ?_ (fK (.pointer p) fW (Below.refl _ _) (by rw [hT]; exact rfl))
              clear fK hE hF
              go_simp
            refine stepsAll_cons (k := 28) ?_ ?_
            · intro fa fx fW hF fB hE K fK
              have q26 : fx 26 = .bool false := by have q := hE ⟨26, .chain⟩ (by simp) rfl; rw [hT] at q; exact q
              have q27 : fx 27 = .pointer p := by have q := hE ⟨27, .data⟩ (by simp) rfl; rw [hT] at q; exact q
              have ev92 : fa.tmps[92]?.getD undef = .pointer p := (hF.ev 27 92 (by kernel_rfl)).trans q27
              refine wpOp_call rfl (wanted_not rfl (hF.yes 26 91 (by kernel_rfl) false q26)) (by go_simp; exact ⟨rfl, rfl⟩) ?_
              refine (zqsound p fW (HN.out.below (below_tr hb6 fB))).mono ?_
              rintro e' w' ⟨rfl, hbb⟩
              exact ⟨_, rfl, fK (.bool false) (w') (hbb) (by rw [hT]; exact rfl)⟩
            refine stepsAll_cons (k := 29) ?_ ?_
            · intro fa fx fW hF fB hE K fK
              have q26 : fx 26 = .bool false := by have q := hE ⟨26, .data⟩ (by simp) rfl; rw [hT] at q; exact q
              have q28 : fx 28 = .bool false := by have q := hE ⟨28, .data⟩ (by simp) rfl; rw [hT] at q; exact q
              have ev91 : fa.tmps[91]?.getD undef = .bool false := (hF.ev 26 91 (by kernel_rfl)).trans q26
              have ev93 : fa.tmps[93]?.getD undef = .bool false := (hF.ev 28 93 (by kernel_rfl)).trans q28
              refine wpOp_val rfl (wanted_none rfl) ?_ (fK (.bool false) fW (Below.refl _ _) (by rw [hT]; exact rfl))
              clear fK hE hF
              go_simp
            refine stepsAll_cons (k := 30) ?_ ?_
            · intro fa fx fW hF fB hE K fK
              have q29 : fx 29 = .bool false := by have q := hE ⟨29, .data⟩ (by simp) rfl; rw [hT] at q; exact q
              have ev94 : fa.tmps[94]?.getD undef = .bool false := (hF.ev 29 94 (by kernel_rfl)).trans q29
              refine wpOp_val rfl (wanted_none rfl) ?_ (fK (.bool false) fW (Below.refl _ _) (by rw [hT]; exact rfl))
              clear fK hE hF
              go_simp
            refine stepsAll_cons (k := 31) ?_ ?_
            · intro fa fx fW hF fB hE K fK
              have q30 : fx 30 = .bool false := by have q := hE ⟨30, .guard⟩ (by simp) rfl; rw [hT] at q; exact q
              have ev5 : fa.tmps[5]?.getD undef = .pointer p := hF.eo 5 (by kernel_rfl)
              refine wpOp_val rfl (wanted_not rfl (hF.yes 30 95 (by kernel_rfl) false q30)) ?_ (fK (.pointer p) fW (Below.refl _ _) (by rw [hT]; exact rfl))
              clear fK hE hF
              go_simp
            refine stepsAll_cons (k := 32) ?_ ?_
            · intro fa fx fW hF fB hE K fK
              have q30 : fx 30 = .bool false := by have q := hE ⟨30, .chain⟩ (by simp) rfl; rw [hT] at q; exact q
              have q31 : fx 31 = .pointer p := by have q := hE ⟨31, .data⟩ (by simp) rfl; rw [hT] at q; exact q
              have ev96 : fa.tmps[96]?.getD undef = .pointer p := (hF.ev 31 96 (by kernel_rfl)).trans q31
              refine wpOp_call rfl (wanted_not rfl (hF.yes 30 95 (by kernel_rfl) false q30)) (by go_simp; exact ⟨rfl, rfl⟩) ?_
              refine (zqcopy p fW (HN.out.below (below_tr hb6 fB))).mono ?_
              rintro e' w' ⟨rfl, hbb⟩
              exact ⟨_, rfl, fK (.pointer none) (w') (hbb) (by rw [hT]; exact rfl)⟩
            refine stepsAll_cons (k := 33) ?_ ?_
            · intro fa fx fW hF fB hE K fK
              have q30 : fx 30 = .bool false := by have q := hE ⟨30, .guard⟩ (by simp) rfl; rw [hT] at q; exact q
              have q32 : fx 32 = .pointer none := by have q := hE ⟨32, .data⟩ (by simp) rfl; rw [hT] at q; exact q
              have ev97 : fa.tmps[97]?.getD undef = .pointer none := (hF.ev 32 97 (by kernel_rfl)).trans q32
              refine wpOp_val rfl (wanted_not rfl (hF.yes 30 95 (by kernel_rfl) false q30)) ?_ (fK (.bool false) fW (Below.refl _ _) (by rw [hT]; exact rfl))
              clear fK hE hF
              go_simp
            refine stepsAll_cons (k := 34) ?_ ?_
            · intro fa fx fW hF fB hE K fK
              have q30 : fx 30 = .bool false := by have q := hE ⟨30, .data⟩ (by simp) rfl; rw [hT] at q; exact q
              have q33 : fx 33 = .bool false := by have q := hE ⟨33, .data⟩ (by simp) rfl; rw [hT] at q; exact q
              have ev95 : fa.tmps[95]?.getD undef = .bool false := (hF.ev 30 95 (by kernel_rfl)).trans q30
              have ev98 : fa.tmps[98]?.getD undef = .bool false := (hF.ev 33 98 (by kernel_rfl)).trans q33
              refine wpOp_val rfl (wanted_none rfl) ?_ (fK (.bool false) fW (Below.refl _ _) (by rw [hT]; exact rfl))
              clear fK hE hF
              go_simp
            exact stepsAll_nil
          intro fa fx fW hF fB hx
          have q34 : fx 34 = .bool false := by have q := hx 34 (by decide); rw [hT] at q; exact q
          have ev99 : fa.tmps[99]?.getD undef = .bool false := (hF.ev 34 99 (by kernel_rfl)).trans q34
          rw [hF.eq]
          clear hF hx
          simp only [putAll, Act.put, List.setIfInBounds_toArray, List.set_cons_zero, List.set_cons_succ, q34]
          have hb9 := below_tr hb6 fB
          go_wp2
          go_roundw
          case rel => exact ⟨q + 1, by omega, by go_num, hb9⟩
          case measure => simp only [intOf]; omega
        · have hix : ∀ W, (Instr.index 44 (.agg #[.int .i64 1, .int .i64 1, .int .i64 1, .int .i64 1, .int .i64 1, .int .i64 1, .int .i64 1]) (.int .i64 j)).run Try.prog W = .ok (.int .i64 1) W := by
            have h3 : j = 0 ∨ j = 1 ∨ j = 2 ∨ j = 3 ∨ j = 4 ∨ j = 5 ∨ j = 6 := by omega
            rcases h3 with rfl | rfl | rfl | rfl | rfl | rfl | rfl <;> exact fun w => by kernel_rfl
          have hlt7 : j < 7 := by omega
          go_wp2
          go_roundw
          case rel => exact ⟨j + 1, by omega, by go_num, hb6⟩
          case measure => simp only [intOf]; omega
end Go.Proofs.Ytabdipfpfbdghaa
