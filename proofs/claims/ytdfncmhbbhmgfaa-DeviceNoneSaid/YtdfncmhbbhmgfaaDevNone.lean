/- DeviceNone: a device that no call made. -/
import Derived.Test.YtdfncmhbbhmgfaaDevLives
import Derived.Test.YtdfncmhbbhmgfaaDevOpen
namespace Go.Proofs.Ytdfncmhbbhmgfaa
open Go.RowKit
/-- No call made it. -/
def NoDev (p : Value) (w : World) : Prop := ∀ W, Below w.heap.size w W → Calls Try.prog 21 #[p] W fun e w' => e = .returned (.bool false) ∧ W = w'
theorem NoDev.below {p : Value} {w w1 : World} (h : NoDev p w) (hb : Below w.heap.size w w1) : NoDev p w1 := fun W hW => h W (below_tr hb hW)
theorem nodev_nil (w : World) : NoDev (.pointer none) w := fun W _ => dmade_nil W
theorem nodev_zero (w : World) (b : Nat) (h : w.cell? ⟨b, 0, none⟩ = some (.int .i64 0)) : NoDev (.pointer (some ⟨b, 0, none⟩)) w := fun W hW => by
  have := dmade b 0 W (cell_below hW h)
  simpa using this
set_option maxHeartbeats 1000000 in
theorem nstart (p : Value) (r : Rq) (w : World) (h : NoDev p w) : Calls Try.prog 9 #[p, rqV r] w fun e w' => e = .returned (.tuple #[.int .i64 0, .int .i64 1]) ∧ Below w.heap.size w w' := by
  obtain ⟨r1, r2, r3, r4, r5⟩ := r
  have hal : Below w.heap.size w (w.alloc (.cells #[.int .i64 r1, .int .i64 r2, .int .i64 r3, .int .i64 r4, .int .i64 r5] 28)) := below_al (Below.refl _ _) _
  have HM := Lib.hid (h _ hal)
  unfold rqV
  clear h
  go_enter Try.func9, Try.ntmps9
  go_wp2_with ((with_reducible refine HM.out.mono ?_); rintro e w1 ⟨rfl, rfl⟩)
  go_ret2
  exact ⟨rfl, hal⟩
set_option maxHeartbeats 1000000 in
theorem nfin (p : Value) (k : Int) (w : World) (h : NoDev p w) : Calls Try.prog 10 #[p, .int .i64 k] w fun e w' => e = .returned (.tuple #[.agg #[.int .i64 0, .int .i64 0, .int .i64 0, .int .i64 0, .int .i64 0], .int .i64 0, .int .i64 1]) ∧ Below w.heap.size w w' := by
  have hal : Below w.heap.size w (w.alloc (.cells #[.int .i64 0, .int .i64 0, .int .i64 0, .int .i64 0, .int .i64 0] 28)) := below_al (Below.refl _ _) _
  have HM := Lib.hid (h _ hal)
  clear h
  go_enter Try.func10, Try.ntmps10
  go_wp2_with ((with_reducible refine HM.out.mono ?_); rintro e w1 ⟨rfl, rfl⟩)
  exact bodyPost_ret (v := .tuple #[.agg #[.int .i64 0, .int .i64 0, .int .i64 0, .int .i64 0, .int .i64 0], .int .i64 0, .int .i64 1]) (by simp [results, Try.results10, go_sem]) rfl ⟨rfl, hal⟩
set_option maxHeartbeats 1000000 in
theorem ncancel (p : Value) (k : Int) (w : World) (h : NoDev p w) : Calls Try.prog 20 #[p, .int .i64 k] w fun e w' => e = .returned (.int .i64 0) ∧ Below w.heap.size w w' := by
  have hal : Below w.heap.size w (w.alloc (.cells #[.int .i64 k] 3)) := below_al (Below.refl _ _) _
  have HM := Lib.hid (h _ hal)
  clear h
  go_enter Try.func20, Try.ntmps20
  go_wp2_with ((with_reducible refine HM.out.mono ?_); rintro e w1 ⟨rfl, rfl⟩)
  go_ret
  exact ⟨rfl, hal⟩
set_option maxHeartbeats 1000000 in
theorem nall (p : Value) (w : World) (h : NoDev p w) : Calls Try.prog 19 #[p] w fun e w' => e = .returned (.slice none 0 0) ∧ w = w' := by
  have HM := Lib.hid (h _ (Below.refl _ _))
  clear h
  go_enter Try.func19, Try.ntmps19
  go_wp2_with ((with_reducible refine HM.out.mono ?_); rintro e w1 ⟨rfl, rfl⟩)
  go_ret
  exact ⟨rfl, rfl⟩
set_option maxHeartbeats 1000000 in
theorem nlen (p : Value) (w : World) (h : NoDev p w) : Calls Try.prog 12 #[p] w fun e w' => e = .returned (.int .i64 0) ∧ w = w' := by
  have HM := Lib.hid (h _ (Below.refl _ _))
  clear h
  go_enter Try.func12, Try.ntmps12
  go_wp2_with ((with_reducible refine HM.out.mono ?_); rintro e w1 ⟨rfl, rfl⟩)
  go_ret
  exact ⟨rfl, rfl⟩
set_option maxHeartbeats 1000000 in
theorem ndone (p : Value) (w : World) (h : NoDev p w) : Calls Try.prog 11 #[p] w fun e w' => e = .returned (.int .i64 0) ∧ w = w' := by
  have HM := Lib.hid (h _ (Below.refl _ _))
  clear h
  go_enter Try.func11, Try.ntmps11
  go_wp2_with ((with_reducible refine HM.out.mono ?_); rintro e w1 ⟨rfl, rfl⟩)
  go_ret
  exact ⟨rfl, rfl⟩
set_option maxHeartbeats 1000000 in
theorem ncopy (p : Value) (w : World) (h : NoDev p w) : Calls Try.prog 15 #[p] w fun e w' => e = .returned (.pointer none) ∧ w = w' := by
  have HM := Lib.hid (h _ (Below.refl _ _))
  clear h
  go_enter Try.func15, Try.ntmps15
  go_wp2_with ((with_reducible refine HM.out.mono ?_); rintro e w1 ⟨rfl, rfl⟩)
  go_ret
  exact ⟨rfl, rfl⟩
set_option maxRecDepth 100000 in
set_option maxHeartbeats 4000000 in
theorem none_walk (kind k : Int) (r : Rq) (w : World) : Calls Try.prog 6 #[.agg #[.int .i64 kind, .int .i64 k, .int .i64 r.id, .int .i64 r.space, .int .i64 r.thread, .int .i64 r.kind, .int .i64 r.size]] w fun e w' => e = .returned (.bool true) ∧ Below w.heap.size w w' := by
  obtain ⟨r1, r2, r3, r4, r5⟩ := r
  simp only
  go_enter Try.func6, Try.ntmps6
  go_wp2
  obtain ⟨W0, hW0⟩ : ∃ W0, W0 = (w.alloc (.cells #[.int .i64 kind, .int .i64 k, .int .i64 r1, .int .i64 r2, .int .i64 r3, .int .i64 r4, .int .i64 r5] 41)).alloc (.cells #[.int .i64 0, .slice none 0 0, .int .i64 0, .int .i64 0] 54) := ⟨_, rfl⟩
  have hB0 : Below w.heap.size w W0 := by rw [hW0]; exact below_al (below_al (Below.refl _ _) _) _
  have c1 : W0.cell? ⟨w.heap.size, 1, none⟩ = some (.int .i64 k) := by rw [hW0]; go_simp
  have c2 : W0.cell? ⟨w.heap.size, 2, none⟩ = some (.int .i64 r1) := by rw [hW0]; go_simp
  have c3 : W0.cell? ⟨w.heap.size, 3, none⟩ = some (.int .i64 r2) := by rw [hW0]; go_simp
  have c4 : W0.cell? ⟨w.heap.size, 4, none⟩ = some (.int .i64 r3) := by rw [hW0]; go_simp
  have c5 : W0.cell? ⟨w.heap.size, 5, none⟩ = some (.int .i64 r4) := by rw [hW0]; go_simp
  have c6 : W0.cell? ⟨w.heap.size, 6, none⟩ = some (.int .i64 r5) := by rw [hW0]; go_simp
  have n0 := nodev_nil W0
  have n1 := nodev_zero W0 (w.heap.size + 1) (by rw [hW0]; go_simp)
  rw [← hW0]
  clear hW0
  go_loopw [12] (fun i wr => ∃ q : Nat, q ≤ 2 ∧ i = .int .i64 q ∧ Below W0.heap.size W0 wr) (fun i _ => 2 - (intOf i).toNat)
  case atStart => exact ⟨0, by omega, rfl, Below.refl _ _⟩
  case round =>
    obtain ⟨q, hq, rfl, hb⟩ := hrel
    by_cases h2 : q = 2
    · subst h2
      clear n0 n1
      go_wp2_with (go_at_call 7; refine (lives11 _).mono ?_; rintro e w1 ⟨rfl, hb1⟩)
      go_ret
      exact ⟨rfl, below_tr (below_tr hB0 hb) hb1⟩
    · obtain ⟨p, hp, hn⟩ : ∃ p, (∀ W, (Instr.index 55 (.agg #[.pointer none, .pointer (some ⟨w.heap.size + 1, 0, none⟩)]) (.int .i64 q)).run Try.prog W = .ok p W) ∧ NoDev p W0 := by
        have h3 : q = 0 ∨ q = 1 := by omega
        rcases h3 with rfl | rfl
        · exact ⟨_, fun w => by kernel_rfl, n0⟩
        · exact ⟨_, fun w => by kernel_rfl, n1⟩
      have k1 := cell_below hb c1
      have k2 := cell_below hb c2
      have k3 := cell_below hb c3
      have k4 := cell_below hb c4
      have k5 := cell_below hb c5
      have k6 := cell_below hb c6
      have HS := Lib.hid (nstart p ⟨r1, r2, r3, r4, r5⟩ wr (hn.below hb))
      simp only [rqV] at HS
      have hlt : q < 2 := by omega
      have HN := Lib.hid (fun W (h : Below W0.heap.size W0 W) => hn.below h)
      clear n0 n1 hn h2
      go_wp2_with (first
        | ((with_reducible refine HS.out.mono ?_); rintro e w2 ⟨rfl, hb2⟩; have B2 := below_tr hb hb2; have k1' := cell_below B2 c1; have HF := Lib.hid (nfin p k w2 (HN.out _ B2)))
        | ((with_reducible refine HF.out.mono ?_); rintro e w3 ⟨rfl, hb3⟩; have B4 := below_al (below_tr B2 hb3) (.cells #[.int .i64 0, .int .i64 0, .int .i64 0, .int .i64 0, .int .i64 0] 28); have k4' := cell_below B4 c1; have HC := Lib.hid (ncancel p k _ (HN.out _ B4)))
        | ((with_reducible refine HC.out.mono ?_); rintro e w5 ⟨rfl, hb5⟩; have B5 := below_tr B4 hb5; have HA := Lib.hid (nall p w5 (HN.out _ B5)); have HL := Lib.hid (nlen p w5 (HN.out _ B5)); have HD := Lib.hid (ndone p w5 (HN.out _ B5)); have HP := Lib.hid (ncopy p w5 (HN.out _ B5)))
        | ((with_reducible refine HA.out.mono ?_); rintro e w6 ⟨rfl, rfl⟩)
        | ((with_reducible refine HL.out.mono ?_); rintro e w6 ⟨rfl, rfl⟩)
        | ((with_reducible refine HD.out.mono ?_); rintro e w6 ⟨rfl, rfl⟩)
        | ((with_reducible refine HP.out.mono ?_); rintro e w6 ⟨rfl, rfl⟩))
      go_roundw
      case rel => exact ⟨q + 1, by omega, by go_num, B5⟩
      case measure => simp [intOf]; omega
end Go.Proofs.Ytdfncmhbbhmgfaa
