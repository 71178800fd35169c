/- Package mail: a box that no call made; the law MailNone, walked. -/
import Derived.Test.YtjefnhlpidjndaaMailLives
namespace Go.Proofs.Ytjefnhlpidjndaa
open Go.RowKit
set_option maxHeartbeats 1000000 in
theorem mmade_nil (w : World) : Calls Try.prog 18 #[.pointer none] w fun e w' => e = .returned (.bool false) ∧ w = w' := by
  go_enter Try.func18, Try.ntmps18
  go_wp2
  go_ret
  exact ⟨rfl, rfl⟩
set_option maxHeartbeats 1000000 in
theorem mmade_zero (b : Nat) (w : World) (h : w.cell? ⟨b, 1, none⟩ = some (.int .i64 0)) : Calls Try.prog 18 #[.pointer (some ⟨b, 0, none⟩)] w fun e w' => e = .returned (.bool false) ∧ w = w' := by
  go_enter Try.func18, Try.ntmps18
  go_wp2
  go_ret
  exact ⟨rfl, rfl⟩
/-- No box that a call made. -/
def NoBox (p : Option Addr) (w : World) : Prop := ∀ W, Below w.heap.size w W → Calls Try.prog 18 #[.pointer p] W fun e w' => e = .returned (.bool false) ∧ W = w'
theorem NoBox.below {p : Option Addr} {w w1 : World} (h : NoBox p w) (hb : Below w.heap.size w w1) : NoBox p w1 := fun W hW => h W (below_tr hb hW)
theorem nobox_nil (w : World) : NoBox none w := fun W _ => mmade_nil W
theorem nobox_zero (w : World) (b : Nat) (h : w.cell? ⟨b, 1, none⟩ = some (.int .i64 0)) : NoBox (some ⟨b, 0, none⟩) w := fun W hW => mmade_zero b W (cell_below hW h)
set_option maxRecDepth 100000 in
set_option maxHeartbeats 2000000 in
theorem nmay (p : Option Addr) (v : Value) (w : World) (h : NoBox p w) : Calls Try.prog 17 #[.pointer p, v] w fun e w' => e = .returned (.int .i64 1) ∧ Below w.heap.size w w' := by
  have HM := Lib.hid (h _ (Below.refl _ _))
  clear h
  go_enter Try.func17, Try.ntmps17
  go_wp2_with ((with_reducible refine HM.out.mono ?_); rintro e w1 ⟨rfl, rfl⟩)
  go_ret
  exact ⟨rfl, Below.refl _ _⟩
set_option maxRecDepth 100000 in
set_option maxHeartbeats 2000000 in
theorem nTake (p : Option Addr) (n : Int) (w : World) (h : NoBox p w) : Calls Try.prog 9 #[.pointer p, .int .i64 n] w fun e w' => e = .returned (.slice none 0 0) ∧ Below w.heap.size w w' := by
  have HM := Lib.hid (h _ (Below.refl _ _))
  clear h
  go_enter Try.func9, Try.ntmps9
  go_wp2_with ((with_reducible refine HM.out.mono ?_); rintro e w1 ⟨rfl, rfl⟩)
  go_ret
  exact ⟨rfl, Below.refl _ _⟩
set_option maxRecDepth 100000 in
set_option maxHeartbeats 2000000 in
theorem nDrop (p : Option Addr) (n : Int) (w : World) (h : NoBox p w) : Calls Try.prog 14 #[.pointer p, .int .i64 n] w fun e w' => e = .returned (.int .i64 0) ∧ Below w.heap.size w w' := by
  have hal : Below w.heap.size w (w.alloc (.cells #[.int .i64 n] 3)) := below_al (Below.refl _ _) _
  have HM := Lib.hid (h _ hal)
  have HAL := Lib.hid hal
  clear h hal
  go_enter Try.func14, Try.ntmps14
  go_wp2_with ((with_reducible refine HM.out.mono ?_); rintro e w1 ⟨rfl, rfl⟩)
  go_ret
  exact ⟨rfl, HAL.out⟩
set_option maxRecDepth 100000 in
set_option maxHeartbeats 2000000 in
theorem nCount (p : Option Addr) (n : Int) (w : World) (h : NoBox p w) : Calls Try.prog 15 #[.pointer p, .int .i64 n] w fun e w' => e = .returned (.int .i64 0) ∧ Below w.heap.size w w' := by
  have HM := Lib.hid (h _ (Below.refl _ _))
  clear h
  go_enter Try.func15, Try.ntmps15
  go_wp2_with ((with_reducible refine HM.out.mono ?_); rintro e w1 ⟨rfl, rfl⟩)
  go_ret
  exact ⟨rfl, Below.refl _ _⟩
set_option maxRecDepth 100000 in
set_option maxHeartbeats 2000000 in
theorem nLen (p : Option Addr) (w : World) (h : NoBox p w) : Calls Try.prog 8 #[.pointer p] w fun e w' => e = .returned (.int .i64 0) ∧ Below w.heap.size w w' := by
  have HM := Lib.hid (h _ (Below.refl _ _))
  clear h
  go_enter Try.func8, Try.ntmps8
  go_wp2_with ((with_reducible refine HM.out.mono ?_); rintro e w1 ⟨rfl, rfl⟩)
  go_ret
  exact ⟨rfl, Below.refl _ _⟩
set_option maxRecDepth 100000 in
set_option maxHeartbeats 2000000 in
theorem nAll (p : Option Addr) (w : World) (h : NoBox p w) : Calls Try.prog 12 #[.pointer p] w fun e w' => e = .returned (.slice none 0 0) ∧ Below w.heap.size w w' := by
  have HM := Lib.hid (h _ (Below.refl _ _))
  clear h
  go_enter Try.func12, Try.ntmps12
  go_wp2_with ((with_reducible refine HM.out.mono ?_); rintro e w1 ⟨rfl, rfl⟩)
  go_ret
  exact ⟨rfl, Below.refl _ _⟩
set_option maxRecDepth 100000 in
set_option maxHeartbeats 2000000 in
theorem nCopy (p : Option Addr) (w : World) (h : NoBox p w) : Calls Try.prog 16 #[.pointer p] w fun e w' => e = .returned (.pointer none) ∧ Below w.heap.size w w' := by
  have HM := Lib.hid (h _ (Below.refl _ _))
  clear h
  go_enter Try.func16, Try.ntmps16
  go_wp2_with ((with_reducible refine HM.out.mono ?_); rintro e w1 ⟨rfl, rfl⟩)
  go_ret
  exact ⟨rfl, Below.refl _ _⟩
set_option maxRecDepth 100000 in
set_option maxHeartbeats 2000000 in
theorem nUndo (p : Option Addr) (v : Value) (w : World) (h : NoBox p w) : Calls Try.prog 10 #[.pointer p, v] w fun e w' => e = .returned (.int .i64 1) ∧ Below w.heap.size w w' := by
  have HM := Lib.hid (nmay p v w h)
  clear h
  go_enter Try.func10, Try.ntmps10
  go_wp2_with ((with_reducible refine HM.out.mono ?_); rintro e w1 ⟨rfl, hb1⟩)
  go_ret
  exact ⟨rfl, hb1⟩
set_option maxRecDepth 100000 in
set_option maxHeartbeats 4000000 in
theorem nPut (p : Option Addr) (e0 e1 e2 e3 e4 e5 e6 e7 e8 e9 e10 e11 e12 e13 e14 : Int) (w : World) (h : NoBox p w) : Calls Try.prog 7 #[.pointer p, .agg #[.int .i64 e0, .int .i64 e1, .int .i64 e2, .int .i64 e3, .int .i64 e4, .int .i64 e5, .int .i64 e6, .int .i64 e7, .int .i64 e8, .int .i64 e9, .int .i64 e10, .int .i64 e11, .int .i64 e12, .int .i64 e13, .int .i64 e14]] w fun e w' => e = .returned (.int .i64 1) ∧ Below w.heap.size w w' := by
  have hal : Below w.heap.size w ((w.alloc (.cells #[.int .i64 e0, .int .i64 e1, .int .i64 e2, .int .i64 e3, .int .i64 e4, .int .i64 e5, .int .i64 e6, .int .i64 e7, .int .i64 e8, .int .i64 e9, .int .i64 e10, .int .i64 e11, .int .i64 e12, .int .i64 e13, .int .i64 e14] 31)).alloc (.cells #[.int .i64 e0, .int .i64 e1, .int .i64 e2, .int .i64 e3, .int .i64 e4, .int .i64 e5, .int .i64 e6, .int .i64 e7, .int .i64 e8, .int .i64 e9, .int .i64 e10, .int .i64 e11, .int .i64 e12, .int .i64 e13, .int .i64 e14] 31)) := below_al (below_al (Below.refl _ _) _) _
  have HM := Lib.hid (fun v => nmay p v _ (h.below hal))
  have HAL := Lib.hid hal
  clear h hal
  go_enter Try.func7, Try.ntmps7
  go_wp2_with ((with_reducible refine (HM.out _).mono ?_); rintro e w1 ⟨rfl, hb1⟩)
  go_ret
  exact ⟨rfl, below_then HAL.out HAL.out.size hb1⟩
set_option maxRecDepth 100000 in
set_option maxHeartbeats 4000000 in
theorem nFind (p : Option Addr) (n : Int) (w : World) (h : NoBox p w) : Calls Try.prog 13 #[.pointer p, .int .i64 n] w fun e w' => e = .returned (.tuple #[.agg #[.int .i64 0, .int .i64 0, .int .i64 0, .int .i64 0, .int .i64 0, .int .i64 0, .int .i64 0, .int .i64 0, .int .i64 0, .int .i64 0, .int .i64 0, .int .i64 0, .int .i64 0, .int .i64 0, .int .i64 0], .bool false]) ∧ Below w.heap.size w w' := by
  have hal : Below w.heap.size w (w.alloc (.cells #[.int .i64 0, .int .i64 0, .int .i64 0, .int .i64 0, .int .i64 0, .int .i64 0, .int .i64 0, .int .i64 0, .int .i64 0, .int .i64 0, .int .i64 0, .int .i64 0, .int .i64 0, .int .i64 0, .int .i64 0] 31)) := below_al (Below.refl _ _) _
  have HM := Lib.hid (h _ hal)
  have HAL := Lib.hid hal
  clear h hal
  go_enter Try.func13, Try.ntmps13
  go_wp2_with ((with_reducible refine HM.out.mono ?_); rintro e w1 ⟨rfl, rfl⟩)
  exact bodyPost_ret (v := .tuple #[.agg #[.int .i64 0, .int .i64 0, .int .i64 0, .int .i64 0, .int .i64 0, .int .i64 0, .int .i64 0, .int .i64 0, .int .i64 0, .int .i64 0, .int .i64 0, .int .i64 0, .int .i64 0, .int .i64 0, .int .i64 0], .bool false]) (by simp [results, Try.results13, go_sem]) rfl ⟨rfl, HAL.out⟩
set_option maxRecDepth 100000 in
set_option maxHeartbeats 16000000 in
theorem none_walk (k n : Int) (e0 e1 e2 e3 e4 e5 e6 e7 e8 e9 e10 e11 e12 e13 e14 : Int) (A : Option Addr) (m c : Nat) (w : World) : Calls Try.prog 4 #[.agg #[.int .i64 k, .int .i64 n, .int .i64 e0, .int .i64 e1, .int .i64 e2, .int .i64 e3, .int .i64 e4, .int .i64 e5, .int .i64 e6, .int .i64 e7, .int .i64 e8, .int .i64 e9, .int .i64 e10, .int .i64 e11, .int .i64 e12, .int .i64 e13, .int .i64 e14, .slice A m c]] w fun e w' => e = .returned (.bool true) ∧ Below w.heap.size w w' := by
  have HL := Lib.hid (fun W => lives15 W)
  go_enter Try.func4, Try.ntmps4
  go_wp2
  obtain ⟨W0, hW0⟩ : ∃ W0, W0 = (w.alloc (.cells #[.int .i64 k, .int .i64 n, .int .i64 e0, .int .i64 e1, .int .i64 e2, .int .i64 e3, .int .i64 e4, .int .i64 e5, .int .i64 e6, .int .i64 e7, .int .i64 e8, .int .i64 e9, .int .i64 e10, .int .i64 e11, .int .i64 e12, .int .i64 e13, .int .i64 e14, .slice A m c] (41 : Nat))).alloc (.cells #[.slice none 0 0, .int .i64 0] (45 : Nat)) := ⟨_, rfl⟩
  have hB0 : Below w.heap.size w W0 := by rw [hW0]; exact below_al (below_al (Below.refl _ _) _) _
  have c1 : W0.cell? ⟨w.heap.size, 1, none⟩ = some (.int .i64 n) := by rw [hW0]; go_simp
  have d0 : W0.cell? ⟨w.heap.size, 2, none⟩ = some (.int .i64 e0) := by rw [hW0]; go_simp
  have d1 : W0.cell? ⟨w.heap.size, 3, none⟩ = some (.int .i64 e1) := by rw [hW0]; go_simp
  have d2 : W0.cell? ⟨w.heap.size, 4, none⟩ = some (.int .i64 e2) := by rw [hW0]; go_simp
  have d3 : W0.cell? ⟨w.heap.size, 5, none⟩ = some (.int .i64 e3) := by rw [hW0]; go_simp
  have d4 : W0.cell? ⟨w.heap.size, 6, none⟩ = some (.int .i64 e4) := by rw [hW0]; go_simp
  have d5 : W0.cell? ⟨w.heap.size, 7, none⟩ = some (.int .i64 e5) := by rw [hW0]; go_simp
  have d6 : W0.cell? ⟨w.heap.size, 8, none⟩ = some (.int .i64 e6) := by rw [hW0]; go_simp
  have d7 : W0.cell? ⟨w.heap.size, 9, none⟩ = some (.int .i64 e7) := by rw [hW0]; go_simp
  have d8 : W0.cell? ⟨w.heap.size, 10, none⟩ = some (.int .i64 e8) := by rw [hW0]; go_simp
  have d9 : W0.cell? ⟨w.heap.size, 11, none⟩ = some (.int .i64 e9) := by rw [hW0]; go_simp
  have d10 : W0.cell? ⟨w.heap.size, 12, none⟩ = some (.int .i64 e10) := by rw [hW0]; go_simp
  have d11 : W0.cell? ⟨w.heap.size, 13, none⟩ = some (.int .i64 e11) := by rw [hW0]; go_simp
  have d12 : W0.cell? ⟨w.heap.size, 14, none⟩ = some (.int .i64 e12) := by rw [hW0]; go_simp
  have d13 : W0.cell? ⟨w.heap.size, 15, none⟩ = some (.int .i64 e13) := by rw [hW0]; go_simp
  have d14 : W0.cell? ⟨w.heap.size, 16, none⟩ = some (.int .i64 e14) := by rw [hW0]; go_simp
  have c17 : W0.cell? ⟨w.heap.size, 17, none⟩ = some (.slice A m c) := by rw [hW0]; go_simp
  have n0 := nobox_nil W0
  have n1 := nobox_zero W0 (w.heap.size + 1) (by rw [hW0]; go_simp)
  rw [← hW0]
  clear hW0
  have HCC : Hid (W0.cell? ⟨w.heap.size, 1, none⟩ = some (.int .i64 n) ∧ W0.cell? ⟨w.heap.size, 2, none⟩ = some (.int .i64 e0) ∧ W0.cell? ⟨w.heap.size, 3, none⟩ = some (.int .i64 e1) ∧ W0.cell? ⟨w.heap.size, 4, none⟩ = some (.int .i64 e2) ∧ W0.cell? ⟨w.heap.size, 5, none⟩ = some (.int .i64 e3) ∧ W0.cell? ⟨w.heap.size, 6, none⟩ = some (.int .i64 e4) ∧ W0.cell? ⟨w.heap.size, 7, none⟩ = some (.int .i64 e5) ∧ W0.cell? ⟨w.heap.size, 8, none⟩ = some (.int .i64 e6) ∧ W0.cell? ⟨w.heap.size, 9, none⟩ = some (.int .i64 e7) ∧ W0.cell? ⟨w.heap.size, 10, none⟩ = some (.int .i64 e8) ∧ W0.cell? ⟨w.heap.size, 11, none⟩ = some (.int .i64 e9) ∧ W0.cell? ⟨w.heap.size, 12, none⟩ = some (.int .i64 e10) ∧ W0.cell? ⟨w.heap.size, 13, none⟩ = some (.int .i64 e11) ∧ W0.cell? ⟨w.heap.size, 14, none⟩ = some (.int .i64 e12) ∧ W0.cell? ⟨w.heap.size, 15, none⟩ = some (.int .i64 e13) ∧ W0.cell? ⟨w.heap.size, 16, none⟩ = some (.int .i64 e14) ∧ W0.cell? ⟨w.heap.size, 17, none⟩ = some (.slice A m c)) := ⟨c1, d0, d1, d2, d3, d4, d5, d6, d7, d8, d9, d10, d11, d12, d13, d14, c17⟩
  go_loopw [9] (fun i wr => ∃ q : Nat, q ≤ 2 ∧ i = .int .i64 q ∧ Below W0.heap.size W0 wr) (fun i _ => 2 - (intOf i).toNat)
  case atStart => exact ⟨0, by omega, rfl, Below.refl _ _⟩
  case round =>
    obtain ⟨q, hq, rfl, hb⟩ := hrel
    by_cases h2 : q = 2
    · subst h2
      clear n0 n1
      go_wp2_with (go_at_call 5; (with_reducible refine (HL.out _).mono ?_); rintro e w1 ⟨rfl, hb1⟩)
      go_ret
      exact ⟨rfl, below_tr (below_tr hB0 hb) hb1⟩
    · obtain ⟨p, hp, hn⟩ : ∃ p, (∀ W, (Instr.index 46 (.agg #[.pointer none, .pointer (some ⟨w.heap.size + 1, 0, none⟩)]) (.int .i64 q)).run Try.prog W = .ok (.pointer p) W) ∧ NoBox p W0 := by
        have h3 : q = 0 ∨ q = 1 := by omega
        rcases h3 with rfl | rfl
        · exact ⟨_, fun w => by kernel_rfl, n0⟩
        · exact ⟨_, fun w => by kernel_rfl, n1⟩
      have k3 := cell_below hb c1
      have HS := Lib.hid (nFind p n wr (hn.below hb))
      have hlt : q < 2 := by omega
      have HN := Lib.hid hn
      clear n0 n1 hn h2 d0 d1 d2 d3 d4 d5 d6 d7 d8 d9 d10 d11 d12 d13 d14 c1 c17
      go_wp2_with ((with_reducible refine HS.out.mono ?_); rintro e w2 ⟨rfl, hb2⟩)
      obtain ⟨W5, hW5⟩ : ∃ W5, W5 = w2.alloc (.cells #[.int .i64 0, .int .i64 0, .int .i64 0, .int .i64 0, .int .i64 0, .int .i64 0, .int .i64 0, .int .i64 0, .int .i64 0, .int .i64 0, .int .i64 0, .int .i64 0, .int .i64 0, .int .i64 0, .int .i64 0] (31 : Nat)) := ⟨_, rfl⟩
      rw [← hW5]
      have hb5 : Below W0.heap.size W0 W5 := by rw [hW5]; exact below_al (below_tr hb hb2) _
      clear hW5
      obtain ⟨T, hT⟩ : ∃ T : Nat → Fact, ∀ t_, T t_ = ([Fact.eq (.pointer p), Fact.eq (.pointer (some ⟨w.heap.size, 2, none⟩)), Fact.eq (.agg #[.int .i64 e0, .int .i64 e1, .int .i64 e2, .int .i64 e3, .int .i64 e4, .int .i64 e5, .int .i64 e6, .int .i64 e7, .int .i64 e8, .int .i64 e9, .int .i64 e10, .int .i64 e11, .int .i64 e12, .int .i64 e13, .int .i64 e14]), Fact.eq (.int .i64 1), Fact.eq (.bool false), Fact.eq (.bool false), Fact.eq (.pointer p), Fact.eq (.pointer (some ⟨w.heap.size, 17, none⟩)), Fact.eq (.slice A m c), Fact.eq (.int .i64 1), Fact.eq (.bool false), Fact.eq (.bool false), Fact.eq (.bool false), Fact.eq (.pointer p), Fact.eq (.pointer (some ⟨w.heap.size, 1, none⟩)), Fact.eq (.int .i64 n), Fact.eq (.slice none 0 0), Fact.eq (.int .i64 0), Fact.eq (.pointer p), Fact.eq (.pointer (some ⟨w.heap.size, 1, none⟩)), Fact.eq (.int .i64 n), Fact.eq (.int .i64 0), Fact.eq (.int .i64 0), Fact.eq (.pointer p), Fact.eq (.pointer (some ⟨w.heap.size, 1, none⟩)), Fact.eq (.int .i64 n), Fact.eq (.int .i64 0), Fact.eq (.int .i64 0), Fact.eq (.pointer p), Fact.eq (.int .i64 0), Fact.eq (.int .i64 0), Fact.eq (.pointer p), Fact.eq (.slice none 0 0), Fact.eq (.int .i64 0), Fact.eq (.int .i64 0), Fact.eq (.bool false), Fact.eq (.bool false), Fact.eq (.bool false), Fact.eq (.bool false), Fact.eq (.bool false), Fact.eq (.bool false), Fact.eq (.pointer p), Fact.eq (.pointer none), Fact.eq (.bool false), Fact.eq (.bool false)] : List (Fact)).getD t_ Fact.any := ⟨_, fun _ => rfl⟩
      refine region_tab [(0, 19), (1, 20), (2, 21), (3, 22), (4, 23), (5, 24), (6, 25), (7, 26), (8, 27), (9, 28), (10, 29), (11, 30), (12, 31), (13, 32), (14, 33), (15, 34), (16, 35), (17, 36), (18, 37), (19, 38), (20, 39), (21, 40), (22, 41), (23, 42), (24, 43), (25, 44), (26, 45), (27, 46), (28, 47), (29, 48), (30, 49), (31, 50), (32, 51), (33, 52), (34, 53), (35, 54), (36, 55), (37, 56), (38, 57), (39, 58), (40, 59), (41, 60), (42, 61), (43, 62), (44, 63)] T (by kernel_rfl) (by kernel_rfl) (by kernel_rfl) (by kernel_rfl) (by kernel_rfl) ?_ ?_
      · skip
        refine stepsAll_cons (k := 0) ?_ ?_
        · intro fa fx fW hF fB hE K fK
          have ev5 : fa.tmps[5]?.getD undef = .pointer p := hF.eo 5 (by kernel_rfl)
          refine wpOp_val rfl (wanted_none rfl) ?_ (fK (.pointer p) fW (Below.refl _ _) (by rw [hT]; exact rfl))
          clear fK hE hF
          go_simp
        refine stepsAll_cons (k := 1) ?_ ?_
        · intro fa fx fW hF fB hE K fK
          have ev1 : fa.tmps[1]?.getD undef = .pointer (some ⟨w.heap.size, 0, none⟩) := hF.eo 1 (by kernel_rfl)
          refine wpOp_val rfl (wanted_none rfl) ?_ (fK (.pointer (some ⟨w.heap.size, 2, none⟩)) fW (Below.refl _ _) (by rw [hT]; exact rfl))
          clear fK hE hF
          go_simp
        refine stepsAll_cons (k := 2) ?_ ?_
        · intro fa fx fW hF fB hE K fK
          have q1 : fx 1 = .pointer (some ⟨w.heap.size, 2, none⟩) := by have q := hE ⟨1, .data⟩ (by simp) rfl; rw [hT] at q; exact q
          have ev20 : fa.tmps[20]?.getD undef = .pointer (some ⟨w.heap.size, 2, none⟩) := (hF.ev 1 20 (by kernel_rfl)).trans q1
          obtain ⟨_, x0, x1, x2, x3, x4, x5, x6, x7, x8, x9, x10, x11, x12, x13, x14, _⟩ := HCC.out
          have y0 := cell_below (below_tr hb5 fB) x0
          have y1 := cell_below (below_tr hb5 fB) x1
          have y2 := cell_below (below_tr hb5 fB) x2
          have y3 := cell_below (below_tr hb5 fB) x3
          have y4 := cell_below (below_tr hb5 fB) x4
          have y5 := cell_below (below_tr hb5 fB) x5
          have y6 := cell_below (below_tr hb5 fB) x6
          have y7 := cell_below (below_tr hb5 fB) x7
          have y8 := cell_below (below_tr hb5 fB) x8
          have y9 := cell_below (below_tr hb5 fB) x9
          have y10 := cell_below (below_tr hb5 fB) x10
          have y11 := cell_below (below_tr hb5 fB) x11
          have y12 := cell_below (below_tr hb5 fB) x12
          have y13 := cell_below (below_tr hb5 fB) x13
          have y14 := cell_below (below_tr hb5 fB) x14
          refine wpOp_val rfl (wanted_none rfl) ?_ (fK (.agg #[.int .i64 e0, .int .i64 e1, .int .i64 e2, .int .i64 e3, .int .i64 e4, .int .i64 e5, .int .i64 e6, .int .i64 e7, .int .i64 e8, .int .i64 e9, .int .i64 e10, .int .i64 e11, .int .i64 e12, .int .i64 e13, .int .i64 e14]) fW (Below.refl _ _) (by rw [hT]; exact rfl))
          clear fK hE hF
          go_simp
        refine stepsAll_cons (k := 3) ?_ ?_
        · intro fa fx fW hF fB hE K fK
          have q0 : fx 0 = .pointer p := by have q := hE ⟨0, .data⟩ (by simp) rfl; rw [hT] at q; exact q
          have q2 : fx 2 = .agg #[.int .i64 e0, .int .i64 e1, .int .i64 e2, .int .i64 e3, .int .i64 e4, .int .i64 e5, .int .i64 e6, .int .i64 e7, .int .i64 e8, .int .i64 e9, .int .i64 e10, .int .i64 e11, .int .i64 e12, .int .i64 e13, .int .i64 e14] := by have q := hE ⟨2, .data⟩ (by simp) rfl; rw [hT] at q; exact q
          have ev19 : fa.tmps[19]?.getD undef = .pointer p := (hF.ev 0 19 (by kernel_rfl)).trans q0
          have ev21 : fa.tmps[21]?.getD undef = .agg #[.int .i64 e0, .int .i64 e1, .int .i64 e2, .int .i64 e3, .int .i64 e4, .int .i64 e5, .int .i64 e6, .int .i64 e7, .int .i64 e8, .int .i64 e9, .int .i64 e10, .int .i64 e11, .int .i64 e12, .int .i64 e13, .int .i64 e14] := (hF.ev 2 21 (by kernel_rfl)).trans q2
          refine wpOp_call rfl (wanted_none rfl) (by go_simp; exact ⟨rfl, rfl⟩) ?_
          refine (nPut p e0 e1 e2 e3 e4 e5 e6 e7 e8 e9 e10 e11 e12 e13 e14 fW ((HN.out.below hb5).below fB)).mono ?_
          rintro e' w' ⟨rfl, hbb⟩
          exact ⟨_, rfl, fK (.int .i64 1) (w') (hbb) (by rw [hT]; exact rfl)⟩
        refine stepsAll_cons (k := 4) ?_ ?_
        · intro fa fx fW hF fB hE K fK
          have q3 : fx 3 = .int .i64 1 := by have q := hE ⟨3, .data⟩ (by simp) rfl; rw [hT] at q; exact q
          have ev22 : fa.tmps[22]?.getD undef = .int .i64 1 := (hF.ev 3 22 (by kernel_rfl)).trans q3
          refine wpOp_val rfl (wanted_none rfl) ?_ (fK (.bool false) fW (Below.refl _ _) (by rw [hT]; exact rfl))
          clear fK hE hF
          go_simp
        refine stepsAll_cons (k := 5) ?_ ?_
        · intro fa fx fW hF fB hE K fK
          have q4 : fx 4 = .bool false := by have q := hE ⟨4, .data⟩ (by simp) rfl; rw [hT] at q; exact q
          have ev23 : fa.tmps[23]?.getD undef = .bool false := (hF.ev 4 23 (by kernel_rfl)).trans q4
          refine wpOp_val rfl (wanted_none rfl) ?_ (fK (.bool false) fW (Below.refl _ _) (by rw [hT]; exact rfl))
          clear fK hE hF
          go_simp
        refine stepsAll_cons (k := 6) ?_ ?_
        · intro fa fx fW hF fB hE K fK
          have q5 : fx 5 = .bool false := by have q := hE ⟨5, .guard⟩ (by simp) rfl; rw [hT] at q; exact q
          have ev5 : fa.tmps[5]?.getD undef = .pointer p := hF.eo 5 (by kernel_rfl)
          refine wpOp_val rfl (wanted_not rfl (hF.yes 5 24 (by kernel_rfl) false q5)) ?_ (fK (.pointer p) fW (Below.refl _ _) (by rw [hT]; exact rfl))
          clear fK hE hF
          go_simp
        refine stepsAll_cons (k := 7) ?_ ?_
        · intro fa fx fW hF fB hE K fK
          have q5 : fx 5 = .bool false := by have q := hE ⟨5, .guard⟩ (by simp) rfl; rw [hT] at q; exact q
          have ev1 : fa.tmps[1]?.getD undef = .pointer (some ⟨w.heap.size, 0, none⟩) := hF.eo 1 (by kernel_rfl)
          refine wpOp_val rfl (wanted_not rfl (hF.yes 5 24 (by kernel_rfl) false q5)) ?_ (fK (.pointer (some ⟨w.heap.size, 17, none⟩)) fW (Below.refl _ _) (by rw [hT]; exact rfl))
          clear fK hE hF
          go_simp
        refine stepsAll_cons (k := 8) ?_ ?_
        · intro fa fx fW hF fB hE K fK
          have q5 : fx 5 = .bool false := by have q := hE ⟨5, .guard⟩ (by simp) rfl; rw [hT] at q; exact q
          have q7 : fx 7 = .pointer (some ⟨w.heap.size, 17, none⟩) := by have q := hE ⟨7, .data⟩ (by simp) rfl; rw [hT] at q; exact q
          have ev26 : fa.tmps[26]?.getD undef = .pointer (some ⟨w.heap.size, 17, none⟩) := (hF.ev 7 26 (by kernel_rfl)).trans q7
          have y0 := cell_below (below_tr hb5 fB) HCC.out.2.2.2.2.2.2.2.2.2.2.2.2.2.2.2.2
          refine wpOp_val rfl (wanted_not rfl (hF.yes 5 24 (by kernel_rfl) false q5)) ?_ (fK (.slice A m c) fW (Below.refl _ _) (by rw [hT]; exact rfl))
          clear fK hE hF
          go_simp
        refine stepsAll_cons (k := 9) ?_ ?_
        · intro fa fx fW hF fB hE K fK
          have q5 : fx 5 = .bool false := by have q := hE ⟨5, .chain⟩ (by simp) rfl; rw [hT] at q; exact q
          have q6 : fx 6 = .pointer p := by have q := hE ⟨6, .data⟩ (by simp) rfl; rw [hT] at q; exact q
          have q8 : fx 8 = .slice A m c := by have q := hE ⟨8, .data⟩ (by simp) rfl; rw [hT] at q; exact q
          have ev25 : fa.tmps[25]?.getD undef = .pointer p := (hF.ev 6 25 (by kernel_rfl)).trans q6
          have ev27 : fa.tmps[27]?.getD undef = .slice A m c := (hF.ev 8 27 (by kernel_rfl)).trans q8
          refine wpOp_call rfl (wanted_not rfl (hF.yes 5 24 (by kernel_rfl) false q5)) (by go_simp; exact ⟨rfl, rfl⟩) ?_
          refine (nUndo p _ fW ((HN.out.below hb5).below fB)).mono ?_
          rintro e' w' ⟨rfl, hbb⟩
          exact ⟨_, rfl, fK (.int .i64 1) (w') (hbb) (by rw [hT]; exact rfl)⟩
        refine stepsAll_cons (k := 10) ?_ ?_
        · intro fa fx fW hF fB hE K fK
          have q5 : fx 5 = .bool false := by have q := hE ⟨5, .guard⟩ (by simp) rfl; rw [hT] at q; exact q
          have q9 : fx 9 = .int .i64 1 := by have q := hE ⟨9, .data⟩ (by simp) rfl; rw [hT] at q; exact q
          have ev28 : fa.tmps[28]?.getD undef = .int .i64 1 := (hF.ev 9 28 (by kernel_rfl)).trans q9
          refine wpOp_val rfl (wanted_not rfl (hF.yes 5 24 (by kernel_rfl) false q5)) ?_ (fK (.bool false) fW (Below.refl _ _) (by rw [hT]; exact rfl))
          clear fK hE hF
          go_simp
        refine stepsAll_cons (k := 11) ?_ ?_
        · intro fa fx fW hF fB hE K fK
          have q5 : fx 5 = .bool false := by have q := hE ⟨5, .data⟩ (by simp) rfl; rw [hT] at q; exact q
          have q10 : fx 10 = .bool false := by have q := hE ⟨10, .data⟩ (by simp) rfl; rw [hT] at q; exact q
          have ev24 : fa.tmps[24]?.getD undef = .bool false := (hF.ev 5 24 (by kernel_rfl)).trans q5
          have ev29 : fa.tmps[29]?.getD undef = .bool false := (hF.ev 10 29 (by kernel_rfl)).trans q10
          refine wpOp_val rfl (wanted_none rfl) ?_ (fK (.bool false) fW (Below.refl _ _) (by rw [hT]; exact rfl))
          clear fK hE hF
          go_simp
        refine stepsAll_cons (k := 12) ?_ ?_
        · intro fa fx fW hF fB hE K fK
          have q11 : fx 11 = .bool false := by have q := hE ⟨11, .data⟩ (by simp) rfl; rw [hT] at q; exact q
          have ev30 : fa.tmps[30]?.getD undef = .bool false := (hF.ev 11 30 (by kernel_rfl)).trans q11
          refine wpOp_val rfl (wanted_none rfl) ?_ (fK (.bool false) fW (Below.refl _ _) (by rw [hT]; exact rfl))
          clear fK hE hF
          go_simp
        refine stepsAll_cons (k := 13) ?_ ?_
        · intro fa fx fW hF fB hE K fK
          have q12 : fx 12 = .bool false := by have q := hE ⟨12, .guard⟩ (by simp) rfl; rw [hT] at q; exact q
          have ev5 : fa.tmps[5]?.getD undef = .pointer p := hF.eo 5 (by kernel_rfl)
          refine wpOp_val rfl (wanted_not rfl (hF.yes 12 31 (by kernel_rfl) false q12)) ?_ (fK (.pointer p) fW (Below.refl _ _) (by rw [hT]; exact rfl))
          clear fK hE hF
          go_simp
        refine stepsAll_cons (k := 14) ?_ ?_
        · intro fa fx fW hF fB hE K fK
          have q12 : fx 12 = .bool false := by have q := hE ⟨12, .guard⟩ (by simp) rfl; rw [hT] at q; exact q
          have ev1 : fa.tmps[1]?.getD undef = .pointer (some ⟨w.heap.size, 0, none⟩) := hF.eo 1 (by kernel_rfl)
          refine wpOp_val rfl (wanted_not rfl (hF.yes 12 31 (by kernel_rfl) false q12)) ?_ (fK (.pointer (some ⟨w.heap.size, 1, none⟩)) fW (Below.refl _ _) (by rw [hT]; exact rfl))
          clear fK hE hF
          go_simp
        refine stepsAll_cons (k := 15) ?_ ?_
        · intro fa fx fW hF fB hE K fK
          have q12 : fx 12 = .bool false := by have q := hE ⟨12, .guard⟩ (by simp) rfl; rw [hT] at q; exact q
          have q14 : fx 14 = .pointer (some ⟨w.heap.size, 1, none⟩) := by have q := hE ⟨14, .data⟩ (by simp) rfl; rw [hT] at q; exact q
          have ev33 : fa.tmps[33]?.getD undef = .pointer (some ⟨w.heap.size, 1, none⟩) := (hF.ev 14 33 (by kernel_rfl)).trans q14
          have y0 := cell_below (below_tr hb5 fB) HCC.out.1
          refine wpOp_val rfl (wanted_not rfl (hF.yes 12 31 (by kernel_rfl) false q12)) ?_ (fK (.int .i64 n) fW (Below.refl _ _) (by rw [hT]; exact rfl))
          clear fK hE hF
          go_simp
        refine stepsAll_cons (k := 16) ?_ ?_
        · intro fa fx fW hF fB hE K fK
          have q12 : fx 12 = .bool false := by have q := hE ⟨12, .chain⟩ (by simp) rfl; rw [hT] at q; exact q
          have q13 : fx 13 = .pointer p := by have q := hE ⟨13, .data⟩ (by simp) rfl; rw [hT] at q; exact q
          have q15 : fx 15 = .int .i64 n := by have q := hE ⟨15, .data⟩ (by simp) rfl; rw [hT] at q; exact q
          have ev32 : fa.tmps[32]?.getD undef = .pointer p := (hF.ev 13 32 (by kernel_rfl)).trans q13
          have ev34 : fa.tmps[34]?.getD undef = .int .i64 n := (hF.ev 15 34 (by kernel_rfl)).trans q15
          refine wpOp_call rfl (wanted_not rfl (hF.yes 12 31 (by kernel_rfl) false q12)) (by go_simp; exact ⟨rfl, rfl⟩) ?_
          refine (nTake p n fW ((HN.out.below hb5).below fB)).mono ?_
          rintro e' w' ⟨rfl, hbb⟩
          exact ⟨_, rfl, fK (.slice none 0 0) (w') (hbb) (by rw [hT]; exact rfl)⟩
        refine stepsAll_cons (k := 17) ?_ ?_
        · intro fa fx fW hF fB hE K fK
          have q12 : fx 12 = .bool false := by have q := hE ⟨12, .guard⟩ (by simp) rfl; rw [hT] at q; exact q
          have q16 : fx 16 = .slice none 0 0 := by have q := hE ⟨16, .data⟩ (by simp) rfl; rw [hT] at q; exact q
          have ev35 : fa.tmps[35]?.getD undef = .slice none 0 0 := (hF.ev 16 35 (by kernel_rfl)).trans q16
          refine wpOp_val rfl (wanted_not rfl (hF.yes 12 31 (by kernel_rfl) false q12)) ?_ (fK (.int .i64 0) fW (Below.refl _ _) (by rw [hT]; exact rfl))
          clear fK hE hF
          go_simp
        refine stepsAll_cons (k := 18) ?_ ?_
        · intro fa fx fW hF fB hE K fK
          have q12 : fx 12 = .bool false := by have q := hE ⟨12, .guard⟩ (by simp) rfl; rw [hT] at q; exact q
          have ev5 : fa.tmps[5]?.getD undef = .pointer p := hF.eo 5 (by kernel_rfl)
          refine wpOp_val rfl (wanted_not rfl (hF.yes 12 31 (by kernel_rfl) false q12)) ?_ (fK (.pointer p) fW (Below.refl _ _) (by rw [hT]; exact rfl))
          clear fK hE hF
          go_simp
        refine stepsAll_cons (k := 19) ?_ ?_
        · intro fa fx fW hF fB hE K fK
          have q12 : fx 12 = .bool false := by have q := hE ⟨12, .guard⟩ (by simp) rfl; rw [hT] at q; exact q
          have ev1 : fa.tmps[1]?.getD undef = .pointer (some ⟨w.heap.size, 0, none⟩) := hF.eo 1 (by kernel_rfl)
          refine wpOp_val rfl (wanted_not rfl (hF.yes 12 31 (by kernel_rfl) false q12)) ?_ (fK (.pointer (some ⟨w.heap.size, 1, none⟩)) fW (Below.refl _ _) (by rw [hT]; exact rfl))
          clear fK hE hF
          go_simp
        refine stepsAll_cons (k := 20) ?_ ?_
        · intro fa fx fW hF fB hE K fK
          have q12 : fx 12 = .bool false := by have q := hE ⟨12, .guard⟩ (by simp) rfl; rw [hT] at q; exact q
          have q19 : fx 19 = .pointer (some ⟨w.heap.size, 1, none⟩) := by have q := hE ⟨19, .data⟩ (by simp) rfl; rw [hT] at q; exact q
          have ev38 : fa.tmps[38]?.getD undef = .pointer (some ⟨w.heap.size, 1, none⟩) := (hF.ev 19 38 (by kernel_rfl)).trans q19
          have y0 := cell_below (below_tr hb5 fB) HCC.out.1
          refine wpOp_val rfl (wanted_not rfl (hF.yes 12 31 (by kernel_rfl) false q12)) ?_ (fK (.int .i64 n) fW (Below.refl _ _) (by rw [hT]; exact rfl))
          clear fK hE hF
          go_simp
        refine stepsAll_cons (k := 21) ?_ ?_
        · intro fa fx fW hF fB hE K fK
          have q12 : fx 12 = .bool false := by have q := hE ⟨12, .guard⟩ (by simp) rfl; rw [hT] at q; exact q
          have q18 : fx 18 = .pointer p := by have q := hE ⟨18, .data⟩ (by simp) rfl; rw [hT] at q; exact q
          have q20 : fx 20 = .int .i64 n := by have q := hE ⟨20, .data⟩ (by simp) rfl; rw [hT] at q; exact q
          have ev37 : fa.tmps[37]?.getD undef = .pointer p := (hF.ev 18 37 (by kernel_rfl)).trans q18
          have ev39 : fa.tmps[39]?.getD undef = .int .i64 n := (hF.ev 20 39 (by kernel_rfl)).trans q20
          refine wpOp_call rfl (wanted_not rfl (hF.yes 12 31 (by kernel_rfl) false q12)) (by go_simp; exact ⟨rfl, rfl⟩) ?_
          refine (nDrop p n fW ((HN.out.below hb5).below fB)).mono ?_
          rintro e' w' ⟨rfl, hbb⟩
          exact ⟨_, rfl, fK (.int .i64 0) (w') (hbb) (by rw [hT]; exact rfl)⟩
        refine stepsAll_cons (k := 22) ?_ ?_
        · intro fa fx fW hF fB hE K fK
          have q12 : fx 12 = .bool false := by have q := hE ⟨12, .guard⟩ (by simp) rfl; rw [hT] at q; exact q
          have q17 : fx 17 = .int .i64 0 := by have q := hE ⟨17, .data⟩ (by simp) rfl; rw [hT] at q; exact q
          have q21 : fx 21 = .int .i64 0 := by have q := hE ⟨21, .data⟩ (by simp) rfl; rw [hT] at q; exact q
          have ev36 : fa.tmps[36]?.getD undef = .int .i64 0 := (hF.ev 17 36 (by kernel_rfl)).trans q17
          have ev40 : fa.tmps[40]?.getD undef = .int .i64 0 := (hF.ev 21 40 (by kernel_rfl)).trans q21
          refine wpOp_val rfl (wanted_not rfl (hF.yes 12 31 (by kernel_rfl) false q12)) ?_ (fK (.int .i64 0) fW (Below.refl _ _) (by rw [hT]; exact rfl))
          clear fK hE hF
          go_simp
          rfl
        refine stepsAll_cons (k := 23) ?_ ?_
        · intro fa fx fW hF fB hE K fK
          have q12 : fx 12 = .bool false := by have q := hE ⟨12, .guard⟩ (by simp) rfl; rw [hT] at q; exact q
          have ev5 : fa.tmps[5]?.getD undef = .pointer p := hF.eo 5 (by kernel_rfl)
          refine wpOp_val rfl (wanted_not rfl (hF.yes 12 31 (by kernel_rfl) false q12)) ?_ (fK (.pointer p) fW (Below.refl _ _) (by rw [hT]; exact rfl))
          clear fK hE hF
          go_simp
        refine stepsAll_cons (k := 24) ?_ ?_
        · intro fa fx fW hF fB hE K fK
          have q12 : fx 12 = .bool false := by have q := hE ⟨12, .guard⟩ (by simp) rfl; rw [hT] at q; exact q
          have ev1 : fa.tmps[1]?.getD undef = .pointer (some ⟨w.heap.size, 0, none⟩) := hF.eo 1 (by kernel_rfl)
          refine wpOp_val rfl (wanted_not rfl (hF.yes 12 31 (by kernel_rfl) false q12)) ?_ (fK (.pointer (some ⟨w.heap.size, 1, none⟩)) fW (Below.refl _ _) (by rw [hT]; exact rfl))
          clear fK hE hF
          go_simp
        refine stepsAll_cons (k := 25) ?_ ?_
        · intro fa fx fW hF fB hE K fK
          have q12 : fx 12 = .bool false := by have q := hE ⟨12, .guard⟩ (by simp) rfl; rw [hT] at q; exact q
          have q24 : fx 24 = .pointer (some ⟨w.heap.size, 1, none⟩) := by have q := hE ⟨24, .data⟩ (by simp) rfl; rw [hT] at q; exact q
          have ev43 : fa.tmps[43]?.getD undef = .pointer (some ⟨w.heap.size, 1, none⟩) := (hF.ev 24 43 (by kernel_rfl)).trans q24
          have y0 := cell_below (below_tr hb5 fB) HCC.out.1
          refine wpOp_val rfl (wanted_not rfl (hF.yes 12 31 (by kernel_rfl) false q12)) ?_ (fK (.int .i64 n) fW (Below.refl _ _) (by rw [hT]; exact rfl))
          clear fK hE hF
          go_simp
        refine stepsAll_cons (k := 26) ?_ ?_
        · intro fa fx fW hF fB hE K fK
          have q12 : fx 12 = .bool false := by have q := hE ⟨12, .guard⟩ (by simp) rfl; rw [hT] at q; exact q
          have q23 : fx 23 = .pointer p := by have q := hE ⟨23, .data⟩ (by simp) rfl; rw [hT] at q; exact q
          have q25 : fx 25 = .int .i64 n := by have q := hE ⟨25, .data⟩ (by simp) rfl; rw [hT] at q; exact q
          have ev42 : fa.tmps[42]?.getD undef = .pointer p := (hF.ev 23 42 (by kernel_rfl)).trans q23
          have ev44 : fa.tmps[44]?.getD undef = .int .i64 n := (hF.ev 25 44 (by kernel_rfl)).trans q25
          refine wpOp_call rfl (wanted_not rfl (hF.yes 12 31 (by kernel_rfl) false q12)) (by go_simp; exact ⟨rfl, rfl⟩) ?_
          refine (nCount p n fW ((HN.out.below hb5).below fB)).mono ?_
          rintro e' w' ⟨rfl, hbb⟩
          exact ⟨_, rfl, fK (.int .i64 0) (w') (hbb) (by rw [hT]; exact rfl)⟩
        refine stepsAll_cons (k := 27) ?_ ?_
        · intro fa fx fW hF fB hE K fK
          have q12 : fx 12 = .bool false := by have q := hE ⟨12, .guard⟩ (by simp) rfl; rw [hT] at q; exact q
          have q22 : fx 22 = .int .i64 0 := by have q := hE ⟨22, .data⟩ (by simp) rfl; rw [hT] at q; exact q
          have q26 : fx 26 = .int .i64 0 := by have q := hE ⟨26, .data⟩ (by simp) rfl; rw [hT] at q; exact q
          have ev41 : fa.tmps[41]?.getD undef = .int .i64 0 := (hF.ev 22 41 (by kernel_rfl)).trans q22
          have ev45 : fa.tmps[45]?.getD undef = .int .i64 0 := (hF.ev 26 45 (by kernel_rfl)).trans q26
          refine wpOp_val rfl (wanted_not rfl (hF.yes 12 31 (by kernel_rfl) false q12)) ?_ (fK (.int .i64 0) fW (Below.refl _ _) (by rw [hT]; exact rfl))
          clear fK hE hF
          go_simp
          rfl
        refine stepsAll_cons (k := 28) ?_ ?_
        · intro fa fx fW hF fB hE K fK
          have q12 : fx 12 = .bool false := by have q := hE ⟨12, .guard⟩ (by simp) rfl; rw [hT] at q; exact q
          have ev5 : fa.tmps[5]?.getD undef = .pointer p := hF.eo 5 (by kernel_rfl)
          refine wpOp_val rfl (wanted_not rfl (hF.yes 12 31 (by kernel_rfl) false q12)) ?_ (fK (.pointer p) fW (Below.refl _ _) (by rw [hT]; exact rfl))
          clear fK hE hF
          go_simp
        refine stepsAll_cons (k := 29) ?_ ?_
        · intro fa fx fW hF fB hE K fK
          have q12 : fx 12 = .bool false := by have q := hE ⟨12, .guard⟩ (by simp) rfl; rw [hT] at q; exact q
          have q28 : fx 28 = .pointer p := by have q := hE ⟨28, .data⟩ (by simp) rfl; rw [hT] at q; exact q
          have ev47 : fa.tmps[47]?.getD undef = .pointer p := (hF.ev 28 47 (by kernel_rfl)).trans q28
          refine wpOp_call rfl (wanted_not rfl (hF.yes 12 31 (by kernel_rfl) false q12)) (by go_simp; exact ⟨rfl, rfl⟩) ?_
          refine (nLen p fW ((HN.out.below hb5).below fB)).mono ?_
          rintro e' w' ⟨rfl, hbb⟩
          exact ⟨_, rfl, fK (.int .i64 0) (w') (hbb) (by rw [hT]; exact rfl)⟩
        refine stepsAll_cons (k := 30) ?_ ?_
        · intro fa fx fW hF fB hE K fK
          have q12 : fx 12 = .bool false := by have q := hE ⟨12, .guard⟩ (by simp) rfl; rw [hT] at q; exact q
          have q27 : fx 27 = .int .i64 0 := by have q := hE ⟨27, .data⟩ (by simp) rfl; rw [hT] at q; exact q
          have q29 : fx 29 = .int .i64 0 := by have q := hE ⟨29, .data⟩ (by simp) rfl; rw [hT] at q; exact q
          have ev46 : fa.tmps[46]?.getD undef = .int .i64 0 := (hF.ev 27 46 (by kernel_rfl)).trans q27
          have ev48 : fa.tmps[48]?.getD undef = .int .i64 0 := (hF.ev 29 48 (by kernel_rfl)).trans q29
          refine wpOp_val rfl (wanted_not rfl (hF.yes 12 31 (by kernel_rfl) false q12)) ?_ (fK (.int .i64 0) fW (Below.refl _ _) (by rw [hT]; exact rfl))
          clear fK hE hF
          go_simp
          rfl
        refine stepsAll_cons (k := 31) ?_ ?_
        · intro fa fx fW hF fB hE K fK
          have q12 : fx 12 = .bool false := by have q := hE ⟨12, .guard⟩ (by simp) rfl; rw [hT] at q; exact q
          have ev5 : fa.tmps[5]?.getD undef = .pointer p := hF.eo 5 (by kernel_rfl)
          refine wpOp_val rfl (wanted_not rfl (hF.yes 12 31 (by kernel_rfl) false q12)) ?_ (fK (.pointer p) fW (Below.refl _ _) (by rw [hT]; exact rfl))
          clear fK hE hF
          go_simp
        refine stepsAll_cons (k := 32) ?_ ?_
        · intro fa fx fW hF fB hE K fK
          have q12 : fx 12 = .bool false := by have q := hE ⟨12, .guard⟩ (by simp) rfl; rw [hT] at q; exact q
          have q31 : fx 31 = .pointer p := by have q := hE ⟨31, .data⟩ (by simp) rfl; rw [hT] at q; exact q
          have ev50 : fa.tmps[50]?.getD undef = .pointer p := (hF.ev 31 50 (by kernel_rfl)).trans q31
          refine wpOp_call rfl (wanted_not rfl (hF.yes 12 31 (by kernel_rfl) false q12)) (by go_simp; exact ⟨rfl, rfl⟩) ?_
          refine (nAll p fW ((HN.out.below hb5).below fB)).mono ?_
          rintro e' w' ⟨rfl, hbb⟩
          exact ⟨_, rfl, fK (.slice none 0 0) (w') (hbb) (by rw [hT]; exact rfl)⟩
        refine stepsAll_cons (k := 33) ?_ ?_
        · intro fa fx fW hF fB hE K fK
          have q12 : fx 12 = .bool false := by have q := hE ⟨12, .guard⟩ (by simp) rfl; rw [hT] at q; exact q
          have q32 : fx 32 = .slice none 0 0 := by have q := hE ⟨32, .data⟩ (by simp) rfl; rw [hT] at q; exact q
          have ev51 : fa.tmps[51]?.getD undef = .slice none 0 0 := (hF.ev 32 51 (by kernel_rfl)).trans q32
          refine wpOp_val rfl (wanted_not rfl (hF.yes 12 31 (by kernel_rfl) false q12)) ?_ (fK (.int .i64 0) fW (Below.refl _ _) (by rw [hT]; exact rfl))
          clear fK hE hF
          go_simp
        refine stepsAll_cons (k := 34) ?_ ?_
        · intro fa fx fW hF fB hE K fK
          have q12 : fx 12 = .bool false := by have q := hE ⟨12, .guard⟩ (by simp) rfl; rw [hT] at q; exact q
          have q30 : fx 30 = .int .i64 0 := by have q := hE ⟨30, .data⟩ (by simp) rfl; rw [hT] at q; exact q
          have q33 : fx 33 = .int .i64 0 := by have q := hE ⟨33, .data⟩ (by simp) rfl; rw [hT] at q; exact q
          have ev49 : fa.tmps[49]?.getD undef = .int .i64 0 := (hF.ev 30 49 (by kernel_rfl)).trans q30
          have ev52 : fa.tmps[52]?.getD undef = .int .i64 0 := (hF.ev 33 52 (by kernel_rfl)).trans q33
          refine wpOp_val rfl (wanted_not rfl (hF.yes 12 31 (by kernel_rfl) false q12)) ?_ (fK (.int .i64 0) fW (Below.refl _ _) (by rw [hT]; exact rfl))
          clear fK hE hF
          go_simp
          rfl
        refine stepsAll_cons (k := 35) ?_ ?_
        · intro fa fx fW hF fB hE K fK
          have q12 : fx 12 = .bool false := by have q := hE ⟨12, .guard⟩ (by simp) rfl; rw [hT] at q; exact q
          have q34 : fx 34 = .int .i64 0 := by have q := hE ⟨34, .data⟩ (by simp) rfl; rw [hT] at q; exact q
          have ev53 : fa.tmps[53]?.getD undef = .int .i64 0 := (hF.ev 34 53 (by kernel_rfl)).trans q34
          refine wpOp_val rfl (wanted_not rfl (hF.yes 12 31 (by kernel_rfl) false q12)) ?_ (fK (.bool false) fW (Below.refl _ _) (by rw [hT]; exact rfl))
          clear fK hE hF
          go_simp
        refine stepsAll_cons (k := 36) ?_ ?_
        · intro fa fx fW hF fB hE K fK
          have q12 : fx 12 = .bool false := by have q := hE ⟨12, .data⟩ (by simp) rfl; rw [hT] at q; exact q
          have q35 : fx 35 = .bool false := by have q := hE ⟨35, .data⟩ (by simp) rfl; rw [hT] at q; exact q
          have ev31 : fa.tmps[31]?.getD undef = .bool false := (hF.ev 12 31 (by kernel_rfl)).trans q12
          have ev54 : fa.tmps[54]?.getD undef = .bool false := (hF.ev 35 54 (by kernel_rfl)).trans q35
          refine wpOp_val rfl (wanted_none rfl) ?_ (fK (.bool false) fW (Below.refl _ _) (by rw [hT]; exact rfl))
          clear fK hE hF
          go_simp
        refine stepsAll_cons (k := 37) ?_ ?_
        · intro fa fx fW hF fB hE K fK
          have q36 : fx 36 = .bool false := by have q := hE ⟨36, .data⟩ (by simp) rfl; rw [hT] at q; exact q
          have ev55 : fa.tmps[55]?.getD undef = .bool false := (hF.ev 36 55 (by kernel_rfl)).trans q36
          refine wpOp_val rfl (wanted_none rfl) ?_ (fK (.bool false) fW (Below.refl _ _) (by rw [hT]; exact rfl))
          clear fK hE hF
          go_simp
        refine stepsAll_cons (k := 38) ?_ ?_
        · intro fa fx fW hF fB hE K fK
          have q37 : fx 37 = .bool false := by have q := hE ⟨37, .guard⟩ (by simp) rfl; rw [hT] at q; exact q
          have ev7 : fa.tmps[7]?.getD undef = .bool false := hF.eo 7 (by kernel_rfl)
          refine wpOp_val rfl (wanted_not rfl (hF.yes 37 56 (by kernel_rfl) false q37)) ?_ (fK (.bool false) fW (Below.refl _ _) (by rw [hT]; exact rfl))
          clear fK hE hF
          go_simp
        refine stepsAll_cons (k := 39) ?_ ?_
        · intro fa fx fW hF fB hE K fK
          have q37 : fx 37 = .bool false := by have q := hE ⟨37, .data⟩ (by simp) rfl; rw [hT] at q; exact q
          have q38 : fx 38 = .bool false := by have q := hE ⟨38, .data⟩ (by simp) rfl; rw [hT] at q; exact q
          have ev56 : fa.tmps[56]?.getD undef = .bool false := (hF.ev 37 56 (by kernel_rfl)).trans q37
          have ev57 : fa.tmps[57]?.getD undef = .bool false := (hF.ev 38 57 (by kernel_rfl)).trans q38
          refine wpOp_val rfl (wanted_none rfl) ?_ (fK (.bool false) fW (Below.refl _ _) (by rw [hT]; exact rfl))
          clear fK hE hF
          go_simp
        refine stepsAll_cons (k := 40) ?_ ?_
        · intro fa fx fW hF fB hE K fK
          have q39 : fx 39 = .bool false := by have q := hE ⟨39, .data⟩ (by simp) rfl; rw [hT] at q; exact q
          have ev58 : fa.tmps[58]?.getD undef = .bool false := (hF.ev 39 58 (by kernel_rfl)).trans q39
          refine wpOp_val rfl (wanted_none rfl) ?_ (fK (.bool false) fW (Below.refl _ _) (by rw [hT]; exact rfl))
          clear fK hE hF
          go_simp
        refine stepsAll_cons (k := 41) ?_ ?_
        · intro fa fx fW hF fB hE K fK
          have q40 : fx 40 = .bool false := by have q := hE ⟨40, .guard⟩ (by simp) rfl; rw [hT] at q; exact q
          have ev5 : fa.tmps[5]?.getD undef = .pointer p := hF.eo 5 (by kernel_rfl)
          refine wpOp_val rfl (wanted_not rfl (hF.yes 40 59 (by kernel_rfl) false q40)) ?_ (fK (.pointer p) fW (Below.refl _ _) (by rw [hT]; exact rfl))
          clear fK hE hF
          go_simp
        refine stepsAll_cons (k := 42) ?_ ?_
        · intro fa fx fW hF fB hE K fK
          have q40 : fx 40 = .bool false := by have q := hE ⟨40, .chain⟩ (by simp) rfl; rw [hT] at q; exact q
          have q41 : fx 41 = .pointer p := by have q := hE ⟨41, .data⟩ (by simp) rfl; rw [hT] at q; exact q
          have ev60 : fa.tmps[60]?.getD undef = .pointer p := (hF.ev 41 60 (by kernel_rfl)).trans q41
          refine wpOp_call rfl (wanted_not rfl (hF.yes 40 59 (by kernel_rfl) false q40)) (by go_simp; exact ⟨rfl, rfl⟩) ?_
          refine (nCopy p fW ((HN.out.below hb5).below fB)).mono ?_
          rintro e' w' ⟨rfl, hbb⟩
          exact ⟨_, rfl, fK (.pointer none) (w') (hbb) (by rw [hT]; exact rfl)⟩
        refine stepsAll_cons (k := 43) ?_ ?_
        · intro fa fx fW hF fB hE K fK
          have q40 : fx 40 = .bool false := by have q := hE ⟨40, .guard⟩ (by simp) rfl; rw [hT] at q; exact q
          have q42 : fx 42 = .pointer none := by have q := hE ⟨42, .data⟩ (by simp) rfl; rw [hT] at q; exact q
          have ev61 : fa.tmps[61]?.getD undef = .pointer none := (hF.ev 42 61 (by kernel_rfl)).trans q42
          refine wpOp_val rfl (wanted_not rfl (hF.yes 40 59 (by kernel_rfl) false q40)) ?_ (fK (.bool false) fW (Below.refl _ _) (by rw [hT]; exact rfl))
          clear fK hE hF
          go_simp
        refine stepsAll_cons (k := 44) ?_ ?_
        · intro fa fx fW hF fB hE K fK
          have q40 : fx 40 = .bool false := by have q := hE ⟨40, .data⟩ (by simp) rfl; rw [hT] at q; exact q
          have q43 : fx 43 = .bool false := by have q := hE ⟨43, .data⟩ (by simp) rfl; rw [hT] at q; exact q
          have ev59 : fa.tmps[59]?.getD undef = .bool false := (hF.ev 40 59 (by kernel_rfl)).trans q40
          have ev62 : fa.tmps[62]?.getD undef = .bool false := (hF.ev 43 62 (by kernel_rfl)).trans q43
          refine wpOp_val rfl (wanted_none rfl) ?_ (fK (.bool false) fW (Below.refl _ _) (by rw [hT]; exact rfl))
          clear fK hE hF
          go_simp
        exact stepsAll_nil
      intro fa fx fW hF fB hx
      have q44 : fx 44 = .bool false := by have q := hx 44 (by decide); rw [hT] at q; exact q
      have ev63 : fa.tmps[63]?.getD undef = .bool false := (hF.ev 44 63 (by kernel_rfl)).trans q44
      rw [hF.eq]
      clear hF hx
      simp only [putAll, Act.put, List.setIfInBounds_toArray, List.set_cons_zero, List.set_cons_succ, q44]
      have hb9 := below_tr hb5 fB
      go_wp2
      exact ⟨⟨q + 1, by omega, by go_num, hb9⟩, by simp only [intOf]; omega⟩
end Go.Proofs.Ytjefnhlpidjndaa
