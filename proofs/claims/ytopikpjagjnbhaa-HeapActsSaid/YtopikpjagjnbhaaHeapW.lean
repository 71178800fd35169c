/- The heap's world: order and set. -/
import Derived.Test.YtopikpjagjnbhaaRows
import Derived.Test.YtopikpjagjnbhaaHeapOps
import Derived.Test.YtopikpjagjnbhaaRegionJ
import Derived.Test.YtopikpjagjnbhaaChg
namespace Go.Proofs.Ytopikpjagjnbhaa
open Go.RowKit
theorem info_hint : (Try.prog.info? 3).map (fun i => (i.zero, i.size, i.bytes)) = some (some (.int .i64 0), 1, 8) := by kernel_rfl
theorem ccmp (x y : Int) (w : World) : Calls Try.prog 50 #[.int .i64 x, .int .i64 y] w fun e w' => e = .returned (.int .i64 (cmpZ x y)) ∧ w = w' := by
  have HV : Hid (cmpZ x y = if x < y then -1 else if y < x then 1 else 0) := rfl
  generalize cmpZ x y = z at HV ⊢
  by_cases h1 : x < y
  · have hv := HV.out
    rw [if_pos h1] at hv
    subst hv
    clear HV
    go_enter Try.func50, Try.ntmps50
    go_wp2
    go_ret
    exact ⟨rfl, rfl⟩
  · by_cases h2 : y < x
    · have hv := HV.out
      rw [if_neg h1, if_pos h2] at hv
      subst hv
      clear HV
      go_enter Try.func50, Try.ntmps50
      go_wp2
      go_ret
      exact ⟨rfl, rfl⟩
    · have hv := HV.out
      rw [if_neg h1, if_neg h2] at hv
      subst hv
      clear HV
      go_enter Try.func50, Try.ntmps50
      go_wp2
      go_ret
      exact ⟨rfl, rfl⟩
set_option maxHeartbeats 1000000 in
theorem cor (g c : Nat) (x y z : Int) (w : World) (hr : Rds w 1 (some ⟨g, 0, none⟩) 2 c (nums .i64 [x, y])) (HV : Hid (z = if x ≠ 0 then x else y)) : Calls Try.prog 49 #[.slice (some ⟨g, 0, none⟩) 2 c] w fun e w' => e = .returned (.int .i64 z) ∧ w = w' := by
  have c0 : w.cell? ⟨g, 0, none⟩ = some (.int .i64 x) := hr.cell _ rfl 0 _ rfl
  have c1 : w.cell? ⟨g, 1, none⟩ = some (.int .i64 y) := hr.cell _ rfl 1 _ rfl
  clear hr
  go_enter Try.func49, Try.ntmps49
  go_wp2
  go_loopw [8] (fun i wr => ∃ k : Nat, k ≤ 2 ∧ i = .int .i64 k ∧ Hid (1 ≤ k → x = 0) ∧ Hid (2 ≤ k → y = 0) ∧ w = wr) (fun i _ => 2 - (intOf i).toNat)
  case atStart => exact ⟨0, Nat.zero_le _, rfl, (show _ from fun h => absurd h (by omega)), (show _ from fun h => absurd h (by omega)), rfl⟩
  case round =>
    obtain ⟨k, hk, rfl, H1, H2, rfl⟩ := hrel
    have hk2 : k = 0 ∨ k = 1 ∨ k = 2 := by omega
    rcases hk2 with rfl | rfl | rfl
    · by_cases hx : x = 0
      · go_wp2
        go_roundw
        case rel => exact ⟨1, by omega, by go_num, (show _ from fun _ => hx), (show _ from fun h => absurd h (by omega)), by first | trivial | rfl⟩
        case measure => simp only [intOf]; omega
      · go_wp2
        go_ret
        rw [HV.out, if_pos hx]
        exact ⟨rfl, rfl⟩
    · have hx := H1.out (by omega)
      by_cases hy : y = 0
      · go_wp2
        go_roundw
        case rel => exact ⟨2, by omega, by go_num, (show _ from fun _ => hx), (show _ from fun _ => hy), by first | trivial | rfl⟩
        case measure => simp only [intOf]; omega
      · go_wp2
        go_ret
        rw [HV.out, if_neg (by omega)]
        exact ⟨rfl, rfl⟩
    · have hx := H1.out (by omega)
      have hy := H2.out (by omega)
      go_wp2
      go_ret
      rw [HV.out, if_neg (by omega), hy]
      exact ⟨rfl, rfl⟩
/-- An own row's cell. -/
theorem rowGet {W : World} {base g n c : Nat} {xs : List Int} (h : W.ownsRow base 3 1 (.slice (some ⟨g, 0, none⟩) n c) n (nums .i64 xs)) {i : Nat} (hi : i < n) :
    W.cell? ⟨g, i, none⟩ = some (.int .i64 (xs.getD i 0)) ∧ W.frozen? ⟨g, i, none⟩ = false ∧ ∀ v : Int, (W.setCell ⟨g, i, none⟩ (.int .i64 v)).ownsRow base 3 1 (.slice (some ⟨g, 0, none⟩) n c) n (nums .i64 (xs.set i v)) := by
  have hl : xs.length = n := by have := h.1; rw [nums_length] at this; omega
  have h1 := h.cellAt i (by omega)
  rw [nums_get .i64 xs i (by omega), show xs[i] = xs.getD i 0 by simp [List.getD_eq_getElem?_getD, hl, hi]] at h1
  refine ⟨h1, h.frozenAt i, fun v => ?_⟩
  have h2 := (h.stored i (.int .i64 v)).1
  rwa [show (nums .i64 xs).set i (.int .i64 v) = nums .i64 (xs.set i v) by simp [nums, List.map_set]] at h2
set_option maxRecDepth 100000 in
set_option maxHeartbeats 4000000 in
/-- order. -/
theorem horder (b gk n cK base : Nat) (ks : List Int) (x y : Nat) (w : World) (hk : Box w b 1 (.slice (some ⟨gk, 0, none⟩) n cK)) (ho : w.ownsRow base 3 1 (.slice (some ⟨gk, 0, none⟩) n cK) n (nums .i64 ks)) (hx : x < n) (hy : y < n) :
    Calls Try.prog 34 #[.pointer (some ⟨b, 0, none⟩), .int .i64 x, .int .i64 y] w fun e w' => e = .returned (.int .i64 (ordV ks x y)) ∧ Below w.heap.size w w' := by
  have HV : Hid (ordV ks x y = if cmpZ (ks.getD x 0) (ks.getD y 0) ≠ 0 then cmpZ (ks.getD x 0) (ks.getD y 0) else cmpZ x y) := rfl
  have HX := Lib.hid (rowGet ho hx).1
  have HY := Lib.hid (rowGet ho hy).1
  generalize ordV ks x y = v at HV ⊢
  generalize ks.getD x 0 = kx at HV HX
  generalize ks.getD y 0 = ky at HV HY
  have HK := Lib.hid hk
  have HC := Lib.hid (fun W => ccmp kx ky W)
  have HD := Lib.hid (fun W => ccmp x y W)
  generalize cmpZ kx ky = r1 at HV HC
  generalize cmpZ x y = r2 at HV HD
  clear hk ho
  go_enter Try.func34, Try.ntmps34
  go_wp2
  obtain ⟨T, hT⟩ : ∃ T : Nat → Fact, ∀ t_, T t_ = ([Fact.eq (.pointer (some ⟨b, 0, none⟩)), Fact.eq (.pointer (some ⟨b, 0, none⟩)), Fact.eq (.pointer (some ⟨b, 1, none⟩)), Fact.eq (.slice (some ⟨gk, 0, none⟩) n cK), Fact.eq (.int .i64 x), Fact.eq (.pointer (some ⟨gk, x, none⟩)), Fact.eq (.int .i64 kx), Fact.eq (.pointer (some ⟨b, 0, none⟩)), Fact.eq (.pointer (some ⟨b, 0, none⟩)), Fact.eq (.pointer (some ⟨b, 1, none⟩)), Fact.eq (.slice (some ⟨gk, 0, none⟩) n cK), Fact.eq (.int .i64 y), Fact.eq (.pointer (some ⟨gk, y, none⟩)), Fact.eq (.int .i64 ky), Fact.eq (.int .i64 r1), Fact.eq (.int .i64 x), Fact.eq (.int .i64 y), Fact.eq (.int .i64 r2), (⟨fun u W => ∃ g, u = .slice (some ⟨g, 0, none⟩) 2 2 ∧ Rds W 1 (some ⟨g, 0, none⟩) 2 2 (nums .i64 [r1, r2]), fun u W W' ⟨g, h1, h2⟩ hb => ⟨g, h1, h2.below hb⟩⟩ : Fact), Fact.eq (.int .i64 v), Fact.eq (.int .i64 v)] : List (Fact)).getD t_ Fact.any := ⟨_, fun _ => rfl⟩
  refine region_tab [(0, 7), (1, 8), (2, 9), (3, 10), (4, 11), (5, 12), (6, 13), (7, 14), (8, 15), (9, 16), (10, 17), (11, 18), (12, 19), (13, 20), (14, 21), (15, 22), (16, 23), (17, 24), (18, 25), (19, 26), (20, 6)] T (by kernel_rfl) (by kernel_rfl) (by kernel_rfl) (by kernel_rfl) (by kernel_rfl) ?_ ?_
  · skip
    refine stepsAll_cons (k := 0) ?_ ?_
    · intro fa fx fW hF fB hE K fK
      have ev0 : fa.tmps[0]?.getD undef = .pointer (some ⟨b, 0, none⟩) := hF.eo 0 (by kernel_rfl)
      refine wpOp_val rfl (wanted_none rfl) ?_ (fK (.pointer (some ⟨b, 0, none⟩)) fW (Below.refl _ _) (by rw [hT]; exact rfl))
      clear fK hE hF
      go_simp
    refine stepsAll_cons (k := 1) ?_ ?_
    · intro fa fx fW hF fB hE K fK
      have q0 : fx 0 = .pointer (some ⟨b, 0, none⟩) := by have q := hE ⟨0, .data⟩ (by simp) rfl; rw [hT] at q; exact q
      have ev7 : fa.tmps[7]?.getD undef = .pointer (some ⟨b, 0, none⟩) := (hF.ev 0 7 (by kernel_rfl)).trans q0
      refine wpOp_val rfl (wanted_none rfl) ?_ (fK (.pointer (some ⟨b, 0, none⟩)) fW (Below.refl _ _) (by rw [hT]; exact rfl))
      clear fK hE hF
      go_simp
    refine stepsAll_cons (k := 2) ?_ ?_
    · intro fa fx fW hF fB hE K fK
      have q1 : fx 1 = .pointer (some ⟨b, 0, none⟩) := by have q := hE ⟨1, .data⟩ (by simp) rfl; rw [hT] at q; exact q
      have ev8 : fa.tmps[8]?.getD undef = .pointer (some ⟨b, 0, none⟩) := (hF.ev 1 8 (by kernel_rfl)).trans q1
      refine wpOp_val rfl (wanted_none rfl) ?_ (fK (.pointer (some ⟨b, 1, none⟩)) fW (Below.refl _ _) (by rw [hT]; exact rfl))
      clear fK hE hF
      go_simp
    refine stepsAll_cons (k := 3) ?_ ?_
    · intro fa fx fW hF fB hE K fK
      have q2 : fx 2 = .pointer (some ⟨b, 1, none⟩) := by have q := hE ⟨2, .data⟩ (by simp) rfl; rw [hT] at q; exact q
      have ev9 : fa.tmps[9]?.getD undef = .pointer (some ⟨b, 1, none⟩) := (hF.ev 2 9 (by kernel_rfl)).trans q2
      have k0 := (HK.out.below fB).cell
      refine wpOp_val rfl (wanted_none rfl) ?_ (fK (.slice (some ⟨gk, 0, none⟩) n cK) fW (Below.refl _ _) (by rw [hT]; exact rfl))
      clear fK hE hF
      go_simp
    refine stepsAll_cons (k := 4) ?_ ?_
    · intro fa fx fW hF fB hE K fK
      have ev1 : fa.tmps[1]?.getD undef = .int .i64 x := hF.eo 1 (by kernel_rfl)
      refine wpOp_val rfl (wanted_none rfl) ?_ (fK (.int .i64 x) fW (Below.refl _ _) (by rw [hT]; exact rfl))
      clear fK hE hF
      go_simp
    refine stepsAll_cons (k := 5) ?_ ?_
    · intro fa fx fW hF fB hE K fK
      have q3 : fx 3 = .slice (some ⟨gk, 0, none⟩) n cK := by have q := hE ⟨3, .data⟩ (by simp) rfl; rw [hT] at q; exact q
      have q4 : fx 4 = .int .i64 x := by have q := hE ⟨4, .data⟩ (by simp) rfl; rw [hT] at q; exact q
      have ev10 : fa.tmps[10]?.getD undef = .slice (some ⟨gk, 0, none⟩) n cK := (hF.ev 3 10 (by kernel_rfl)).trans q3
      have ev11 : fa.tmps[11]?.getD undef = .int .i64 x := (hF.ev 4 11 (by kernel_rfl)).trans q4
      refine wpOp_val rfl (wanted_none rfl) ?_ (fK (.pointer (some ⟨gk, x, none⟩)) fW (Below.refl _ _) (by rw [hT]; exact rfl))
      clear fK hE hF
      go_simp
    refine stepsAll_cons (k := 6) ?_ ?_
    · intro fa fx fW hF fB hE K fK
      have q5 : fx 5 = .pointer (some ⟨gk, x, none⟩) := by have q := hE ⟨5, .data⟩ (by simp) rfl; rw [hT] at q; exact q
      have ev12 : fa.tmps[12]?.getD undef = .pointer (some ⟨gk, x, none⟩) := (hF.ev 5 12 (by kernel_rfl)).trans q5
      have k0 := cell_below fB HX.out
      refine wpOp_val rfl (wanted_none rfl) ?_ (fK (.int .i64 kx) fW (Below.refl _ _) (by rw [hT]; exact rfl))
      clear fK hE hF
      go_simp
    refine stepsAll_cons (k := 7) ?_ ?_
    · intro fa fx fW hF fB hE K fK
      have ev0 : fa.tmps[0]?.getD undef = .pointer (some ⟨b, 0, none⟩) := hF.eo 0 (by kernel_rfl)
      refine wpOp_val rfl (wanted_none rfl) ?_ (fK (.pointer (some ⟨b, 0, none⟩)) fW (Below.refl _ _) (by rw [hT]; exact rfl))
      clear fK hE hF
      go_simp
    refine stepsAll_cons (k := 8) ?_ ?_
    · intro fa fx fW hF fB hE K fK
      have q7 : fx 7 = .pointer (some ⟨b, 0, none⟩) := by have q := hE ⟨7, .data⟩ (by simp) rfl; rw [hT] at q; exact q
      have ev14 : fa.tmps[14]?.getD undef = .pointer (some ⟨b, 0, none⟩) := (hF.ev 7 14 (by kernel_rfl)).trans q7
      refine wpOp_val rfl (wanted_none rfl) ?_ (fK (.pointer (some ⟨b, 0, none⟩)) fW (Below.refl _ _) (by rw [hT]; exact rfl))
      clear fK hE hF
      go_simp
    refine stepsAll_cons (k := 9) ?_ ?_
    · intro fa fx fW hF fB hE K fK
      have q8 : fx 8 = .pointer (some ⟨b, 0, none⟩) := by have q := hE ⟨8, .data⟩ (by simp) rfl; rw [hT] at q; exact q
      have ev15 : fa.tmps[15]?.getD undef = .pointer (some ⟨b, 0, none⟩) := (hF.ev 8 15 (by kernel_rfl)).trans q8
      refine wpOp_val rfl (wanted_none rfl) ?_ (fK (.pointer (some ⟨b, 1, none⟩)) fW (Below.refl _ _) (by rw [hT]; exact rfl))
      clear fK hE hF
      go_simp
    refine stepsAll_cons (k := 10) ?_ ?_
    · intro fa fx fW hF fB hE K fK
      have q9 : fx 9 = .pointer (some ⟨b, 1, none⟩) := by have q := hE ⟨9, .data⟩ (by simp) rfl; rw [hT] at q; exact q
      have ev16 : fa.tmps[16]?.getD undef = .pointer (some ⟨b, 1, none⟩) := (hF.ev 9 16 (by kernel_rfl)).trans q9
      have k0 := (HK.out.below fB).cell
      refine wpOp_val rfl (wanted_none rfl) ?_ (fK (.slice (some ⟨gk, 0, none⟩) n cK) fW (Below.refl _ _) (by rw [hT]; exact rfl))
      clear fK hE hF
      go_simp
    refine stepsAll_cons (k := 11) ?_ ?_
    · intro fa fx fW hF fB hE K fK
      have ev2 : fa.tmps[2]?.getD undef = .int .i64 y := hF.eo 2 (by kernel_rfl)
      refine wpOp_val rfl (wanted_none rfl) ?_ (fK (.int .i64 y) fW (Below.refl _ _) (by rw [hT]; exact rfl))
      clear fK hE hF
      go_simp
    refine stepsAll_cons (k := 12) ?_ ?_
    · intro fa fx fW hF fB hE K fK
      have q10 : fx 10 = .slice (some ⟨gk, 0, none⟩) n cK := by have q := hE ⟨10, .data⟩ (by simp) rfl; rw [hT] at q; exact q
      have q11 : fx 11 = .int .i64 y := by have q := hE ⟨11, .data⟩ (by simp) rfl; rw [hT] at q; exact q
      have ev17 : fa.tmps[17]?.getD undef = .slice (some ⟨gk, 0, none⟩) n cK := (hF.ev 10 17 (by kernel_rfl)).trans q10
      have ev18 : fa.tmps[18]?.getD undef = .int .i64 y := (hF.ev 11 18 (by kernel_rfl)).trans q11
      refine wpOp_val rfl (wanted_none rfl) ?_ (fK (.pointer (some ⟨gk, y, none⟩)) fW (Below.refl _ _) (by rw [hT]; exact rfl))
      clear fK hE hF
      go_simp
    refine stepsAll_cons (k := 13) ?_ ?_
    · intro fa fx fW hF fB hE K fK
      have q12 : fx 12 = .pointer (some ⟨gk, y, none⟩) := by have q := hE ⟨12, .data⟩ (by simp) rfl; rw [hT] at q; exact q
      have ev19 : fa.tmps[19]?.getD undef = .pointer (some ⟨gk, y, none⟩) := (hF.ev 12 19 (by kernel_rfl)).trans q12
      have k0 := cell_below fB HY.out
      refine wpOp_val rfl (wanted_none rfl) ?_ (fK (.int .i64 ky) fW (Below.refl _ _) (by rw [hT]; exact rfl))
      clear fK hE hF
      go_simp
    refine stepsAll_cons (k := 14) ?_ ?_
    · intro fa fx fW hF fB hE K fK
      have q6 : fx 6 = .int .i64 kx := by have q := hE ⟨6, .data⟩ (by simp) rfl; rw [hT] at q; exact q
      have q13 : fx 13 = .int .i64 ky := by have q := hE ⟨13, .data⟩ (by simp) rfl; rw [hT] at q; exact q
      have ev13 : fa.tmps[13]?.getD undef = .int .i64 kx := (hF.ev 6 13 (by kernel_rfl)).trans q6
      have ev20 : fa.tmps[20]?.getD undef = .int .i64 ky := (hF.ev 13 20 (by kernel_rfl)).trans q13
      refine wpOp_call rfl (wanted_none rfl) (by go_simp; exact ⟨rfl, rfl⟩) ?_
      refine (HC.out fW).mono ?_
      rintro e w1 ⟨rfl, rfl⟩
      exact ⟨_, rfl, fK (_) (fW) (Below.refl _ _) (by rw [hT]; exact rfl)⟩
    refine stepsAll_cons (k := 15) ?_ ?_
    · intro fa fx fW hF fB hE K fK
      have ev1 : fa.tmps[1]?.getD undef = .int .i64 x := hF.eo 1 (by kernel_rfl)
      refine wpOp_val rfl (wanted_none rfl) ?_ (fK (.int .i64 x) fW (Below.refl _ _) (by rw [hT]; exact rfl))
      clear fK hE hF
      go_simp
    refine stepsAll_cons (k := 16) ?_ ?_
    · intro fa fx fW hF fB hE K fK
      have ev2 : fa.tmps[2]?.getD undef = .int .i64 y := hF.eo 2 (by kernel_rfl)
      refine wpOp_val rfl (wanted_none rfl) ?_ (fK (.int .i64 y) fW (Below.refl _ _) (by rw [hT]; exact rfl))
      clear fK hE hF
      go_simp
    refine stepsAll_cons (k := 17) ?_ ?_
    · intro fa fx fW hF fB hE K fK
      have q15 : fx 15 = .int .i64 x := by have q := hE ⟨15, .data⟩ (by simp) rfl; rw [hT] at q; exact q
      have q16 : fx 16 = .int .i64 y := by have q := hE ⟨16, .data⟩ (by simp) rfl; rw [hT] at q; exact q
      have ev22 : fa.tmps[22]?.getD undef = .int .i64 x := (hF.ev 15 22 (by kernel_rfl)).trans q15
      have ev23 : fa.tmps[23]?.getD undef = .int .i64 y := (hF.ev 16 23 (by kernel_rfl)).trans q16
      refine wpOp_call rfl (wanted_none rfl) (by go_simp; exact ⟨rfl, rfl⟩) ?_
      refine (HD.out fW).mono ?_
      rintro e w1 ⟨rfl, rfl⟩
      exact ⟨_, rfl, fK (_) (fW) (Below.refl _ _) (by rw [hT]; exact rfl)⟩
    refine stepsAll_cons (k := 18) ?_ ?_
    · intro fa fx fW hF fB hE K fK
      have q14 : fx 14 = .int .i64 r1 := by have q := hE ⟨14, .data⟩ (by simp) rfl; rw [hT] at q; exact q
      have q17 : fx 17 = .int .i64 r2 := by have q := hE ⟨17, .data⟩ (by simp) rfl; rw [hT] at q; exact q
      have ev21 : fa.tmps[21]?.getD undef = .int .i64 r1 := (hF.ev 14 21 (by kernel_rfl)).trans q14
      have ev24 : fa.tmps[24]?.getD undef = .int .i64 r2 := (hF.ev 17 24 (by kernel_rfl)).trans q17
      refine wpOp_to rfl (wanted_none rfl) (v := .slice (some ⟨fW.heap.size, 0, none⟩) 2 2) (W' := fW.alloc (.cells #[.int .i64 r1, .int .i64 r2] 3)) (by clear fK hE hF; go_simp) (fK _ _ (below_al (Below.refl _ _) _) (by rw [hT]; exact ⟨_, rfl, rds_lit fW 3 1 2 _ rfl (by decide)⟩))
    refine stepsAll_cons (k := 19) ?_ ?_
    · intro fa fx fW hF fB hE K fK
      have q18 : ((⟨fun u W => ∃ g, u = .slice (some ⟨g, 0, none⟩) 2 2 ∧ Rds W 1 (some ⟨g, 0, none⟩) 2 2 (nums .i64 [r1, r2]), fun u W W' ⟨g, h1, h2⟩ hb => ⟨g, h1, h2.below hb⟩⟩ : Fact)).p (fx 18) fW := by have q := hE ⟨18, .data⟩ (by simp) rfl; rw [hT] at q; exact q
      have ev25 : fa.tmps[25]?.getD undef = fx 18 := hF.ev 18 25 (by kernel_rfl)
      refine wpOp_call rfl (wanted_none rfl) (by go_simp; exact ⟨rfl, rfl⟩) ?_
      obtain ⟨g, hg, hr⟩ := q18
      rw [hg]
      refine (cor _ _ r1 r2 v fW hr HV).mono ?_
      rintro e w1 ⟨rfl, rfl⟩
      exact ⟨_, rfl, fK (_) (fW) (Below.refl _ _) (by rw [hT]; exact rfl)⟩
    refine stepsAll_cons (k := 20) ?_ ?_
    · intro fa fx fW hF fB hE K fK
      have q19 : fx 19 = .int .i64 v := by have q := hE ⟨19, .data⟩ (by simp) rfl; rw [hT] at q; exact q
      have ev26 : fa.tmps[26]?.getD undef = .int .i64 v := (hF.ev 19 26 (by kernel_rfl)).trans q19
      refine wpOp_val rfl (wanted_none rfl) ?_ (fK (.int .i64 v) fW (Below.refl _ _) (by rw [hT]; exact rfl))
      clear fK hE hF
      go_simp
    exact stepsAll_nil
  intro fa fx fW hF fB hx
  have q20 : fx 20 = .int .i64 v := by have q := hx 20 (by decide); rw [hT] at q; exact q
  have ev6 : fa.tmps[6]?.getD undef = .int .i64 v := (hF.ev 20 6 (by kernel_rfl)).trans q20
  rw [hF.eq]
  clear hF hx
  simp only [putAll, Act.put, List.setIfInBounds_toArray, List.set_cons_zero, List.set_cons_succ, q20]
  go_wp2
  go_ret
  exact ⟨rfl, fB⟩
def zs (l : List Nat) : List Int := l.map fun (i : Nat) => (i : Int)
theorem zs_length (l : List Nat) : (zs l).length = l.length := by simp [zs]
theorem zs_getD (l : List Nat) (i : Nat) (h : i < l.length) : (zs l).getD i 0 = ((l.getD i 0 : Nat) : Int) := by
  simp [zs, List.getD_eq_getElem?_getD, h]
theorem zs_set (l : List Nat) (i x : Nat) : (zs l).set i (x : Int) = zs (l.set i x) := by simp [zs, List.map_set]
/-- What may be set: ids and places. -/
structure Sw (w : World) (b gi gp base n ci cp : Nat) (s : HSt) : Prop where
  ib : Box w b 0 (.slice (some ⟨gi, 0, none⟩) s.1.length ci)
  pb : Box w b 2 (.slice (some ⟨gp, 0, none⟩) n cp)
  io : w.ownsRow base 3 1 (.slice (some ⟨gi, 0, none⟩) s.1.length ci) s.1.length (nums .i64 (zs s.1))
  po : w.ownsRow base 3 1 (.slice (some ⟨gp, 0, none⟩) n cp) n (nums .i64 s.2)
  n1 : gi ≠ b
  n2 : gp ≠ b
  n3 : gi ≠ gp
theorem Sw.below {w w1 : World} {b gi gp base n ci cp : Nat} {s : HSt} (h : Sw w b gi gp base n ci cp s) (hb : Below w.heap.size w w1) : Sw w1 b gi gp base n ci cp s :=
  ⟨h.ib.below hb, h.pb.below hb, own_below h.io hb, own_below h.po hb, h.n1, h.n2, h.n3⟩
set_option maxRecDepth 100000 in
set_option maxHeartbeats 4000000 in
/-- set. -/
theorem hset (b gi gp base n ci cp : Nat) (s : HSt) (i x : Nat) (z : Int) (w : World) (hz : z = (i : Int)) (h : Sw w b gi gp base n ci cp s) (hi : i < s.1.length) (hx : x < n) :
    Calls Try.prog 44 #[.pointer (some ⟨b, 0, none⟩), .int .i64 z, .int .i64 x] w fun e w' => e = .returned (.tuple #[]) ∧ Sw w' b gi gp base n ci cp (hputV s i x) ∧ Chg (fun k => k = gi ∨ k = gp) w w' := by
  subst hz
  have n1 := h.n1
  have n2 := h.n2
  have n3 := h.n3
  obtain ⟨g1, g2, g3⟩ := rowGet h.io hi
  obtain ⟨q1, q2, _⟩ := rowGet h.po hx
  have k1 := h.ib.cell
  have k2 := h.pb.cell
  obtain ⟨W1, hW1⟩ : ∃ W1, W1 = w.setCell ⟨gi, i, none⟩ (.int .i64 x) := ⟨_, rfl⟩
  have c1 : Chg (fun k => k = gi) w W1 := by rw [hW1]; exact (Chg.refl _ _).setCell _ _ _ rfl
  have i1 := h.ib.keep c1 (fun e => n1 e.symm)
  have p1 := h.pb.keep c1 (fun e => n1 e.symm)
  have o1 := g3 (x : Int)
  rw [← hW1, zs_set] at o1
  have o2 := c1.own h.po (fun k hk e => by cases hk; exact n3 e.symm)
  obtain ⟨W2, hW2⟩ : ∃ W2, W2 = W1.setCell ⟨gp, x, none⟩ (.int .i64 i) := ⟨_, rfl⟩
  have c2 : Chg (fun k => k = gp) W1 W2 := by rw [hW2]; exact (Chg.refl _ _).setCell _ _ _ rfl
  have i2 := i1.keep c2 (fun e => n2 e.symm)
  have p2 := p1.keep c2 (fun e => n2 e.symm)
  have o3 := c2.own o1 (fun k hk e => by cases hk; exact n3 e)
  have o4 := (rowGet o2 hx).2.2 (i : Int)
  rw [← hW2] at o4
  have hl : (s.1.set i x).length = s.1.length := List.length_set
  have HS : Hid (Sw W2 b gi gp base n ci cp (hputV s i x)) := ⟨by show Box W2 b 0 (.slice _ (s.1.set i x).length ci); rw [hl]; exact i2, p2, by show W2.ownsRow base _ 1 (.slice _ (s.1.set i x).length ci) (s.1.set i x).length _; rw [hl]; exact o3, o4, n1, n2, n3⟩
  have HC : Hid (Chg (fun k => k = gi ∨ k = gp) w W2) := (c1.mono (fun _ _ e => .inl e)).trans (c2.mono (fun _ _ e => .inr e))
  subst hW2; subst hW1
  clear c1 i1 p1 o1 o2 c2 i2 p2 o3 o4 g3 h hl
  go_enter Try.func44, Try.ntmps44
  go_wp2
  exact bodyPost_end (v := .tuple #[]) (by simp [results, Try.results44, go_sem]) rfl ⟨rfl, HS.out, HC.out⟩
/-- order, of ids that are in it. -/
structure Kw (w : World) (b gk base n ck : Nat) (ks : List Int) : Prop where
  kb : Box w b 1 (.slice (some ⟨gk, 0, none⟩) n ck)
  ko : w.ownsRow base 3 1 (.slice (some ⟨gk, 0, none⟩) n ck) n (nums .i64 ks)
theorem Kw.keep {S : Nat → Prop} {w w1 : World} {b gk base n ck : Nat} {ks : List Int} (h : Kw w b gk base n ck ks) (hc : Chg S w w1) (hb : ¬ S b) (hk : ¬ S gk) : Kw w1 b gk base n ck ks :=
  ⟨h.kb.keep hc hb, hc.own h.ko (fun k e => by cases e; exact hk)⟩
theorem Kw.below {w w1 : World} {b gk base n ck : Nat} {ks : List Int} (h : Kw w b gk base n ck ks) (hb : Below w.heap.size w w1) : Kw w1 b gk base n ck ks :=
  ⟨h.kb.below hb, own_below h.ko hb⟩
/-- The ids are below n. -/
def InR (n : Nat) (s : HSt) : Prop := ∀ x ∈ s.1, x < n
theorem InR.get {n : Nat} {s : HSt} (h : InR n s) {i : Nat} (hi : i < s.1.length) : s.1.getD i 0 < n := by
  have h1 := getD_getH s.1 i hi
  exact h _ (List.mem_of_getElem? h1)
theorem InR.put {n : Nat} {s : HSt} (h : InR n s) (i x : Nat) (hx : x < n) : InR n (hputV s i x) := by
  intro y hy
  rcases List.mem_or_eq_of_mem_set hy with h1 | h1
  · exact h y h1
  · rw [h1]; exact hx
set_option maxRecDepth 100000 in
set_option maxHeartbeats 8000000 in
/-- up. -/
theorem hup (b gi gk gp base n ci ck cp : Nat) (ks : List Int) (s : HSt) (i : Nat) (w : World) (h : Sw w b gi gp base n ci cp s) (hk : Kw w b gk base n ck ks) (n4 : gi ≠ gk) (n5 : gp ≠ gk) (hi : i < s.1.length) (hr : InR n s) (hn : s.1.length ≤ 4096) :
    Calls Try.prog 28 #[.pointer (some ⟨b, 0, none⟩), .int .i64 i] w fun e w' => e = .returned (.tuple #[]) ∧ Sw w' b gi gp base n ci cp (upV ks (s.1.getD i 0) i i s) ∧ Chg (fun k => k = gi ∨ k = gp) w w' := by
  have n1 := h.n1
  have n2 := h.n2
  have n3 := h.n3
  obtain ⟨g1, _, _⟩ := rowGet h.io hi
  rw [zs_getD _ _ hi] at g1
  have k1 := h.ib.cell
  have hid := hr.get hi
  generalize s.1.getD i 0 = id at g1 hid ⊢
  obtain ⟨R, HR⟩ : ∃ R, Hid (upV ks id i i s = R) := ⟨_, rfl⟩
  rw [HR.out]
  have HS := Lib.hid h
  have HK := Lib.hid hk
  have HI := Lib.hid hr
  obtain ⟨len, hlen⟩ : ∃ len, s.1.length = len := ⟨_, rfl⟩
  have HL := Lib.hid hlen
  rw [hlen] at hi hn k1
  clear h hk hr hlen
  go_enter Try.func28, Try.ntmps28
  go_wp2
  go_loopw [1] (fun iv wr => ∃ (j f : Nat) (t : HSt), j < len ∧ iv = .int .i64 j ∧ Hid (t.1.length = len) ∧ Hid (InR n t) ∧ Hid (j ≤ f ∧ upV ks id f j t = R) ∧ Sw wr b gi gp base n ci cp t ∧ Kw wr b gk base n ck ks ∧ Chg (fun k => k = gi ∨ k = gp) w wr) (fun iv _ => (intOf iv).toNat)
  case atStart => exact ⟨i, i, s, hi, rfl, HL.out, HI.out, ⟨Nat.le_refl _, HR.out⟩, HS.out, HK.out, Chg.refl _ _⟩
  case round =>
    obtain ⟨j, f, t, hj, rfl, HT, HTI, HU, HSW, HKW, HCH⟩ := hrel
    obtain ⟨W1, rfl⟩ : ∃ x, x = wr := ⟨_, rfl⟩
    have hjt : j < t.1.length := by rw [HT.out]; exact hj
    by_cases h0 : j = 0
    · subst h0
      have HSET := Lib.hid (hset b gi gp base n ci cp t 0 id 0 W1 rfl HSW hjt hid)
      have HU2 : Hid (hputV t 0 id = R) := by
        have h1 := HU.out.2
        cases f
        · exact h1
        · unfold upV at h1
          rw [if_pos rfl] at h1
          exact h1
      clear HU
      go_wp2_with (go_at_call 44; (with_reducible refine HSET.out.mono ?_); rintro e w1 ⟨rfl, hs1, hc1⟩)
      exact bodyPost_end (v := .tuple #[]) (by simp [results, Try.results28, go_sem]) rfl ⟨rfl, by rw [← HU2.out]; exact hs1, HCH.trans hc1⟩
    · obtain ⟨m, rfl⟩ : ∃ m, j = m + 1 := ⟨j - 1, by omega⟩
      obtain ⟨f', rfl⟩ : ∃ f', f = f' + 1 := ⟨f - 1, by have := HU.out.1; omega⟩
      have hol : m / 2 < t.1.length := by omega
      obtain ⟨q1, _, _⟩ := rowGet HSW.io hol
      rw [zs_getD _ _ hol] at q1
      have hod := HTI.out.get hol
      obtain ⟨x, hx⟩ : ∃ x, t.1.getD (m / 2) 0 = x := ⟨_, rfl⟩
      have HX := Lib.hid hx
      rw [hx] at q1 hod
      have HORD := Lib.hid (horder b gk n ck base ks x id W1 HKW.kb HKW.ko hod hid)
      have k1 := HSW.ib.cell
      rw [HT.out] at k1
      have HIB : Hid (∀ W, Below W1.heap.size W1 W → W.cell? ⟨b, 0, none⟩ = some (.slice (some ⟨gi, 0, none⟩) len ci) ∧ W.cell? ⟨gi, m / 2, none⟩ = some (.int .i64 (x : Int))) := fun W hb => ⟨cell_below hb k1, cell_below hb q1⟩
      by_cases hle : ordV ks x id ≤ 0
      · have HSE := Lib.hid (fun W (hb : Below W1.heap.size W1 W) => hset b gi gp base n ci cp t (m + 1) id ((m : Int) + 1) W (by omega) (HSW.below hb) hjt hid)
        have HR2 : Hid (hputV t (m + 1) id = R) := by
          have := HU.out.2
          unfold upV at this
          rw [if_neg (by omega), if_pos (by show ordV ks (t.1.getD (m / 2) 0) id ≤ 0; rw [hx]; exact hle)] at this
          exact this
        clear hx HU
        go_wp2_with (first
          | (go_at_call 34; (with_reducible refine HORD.out.mono ?_); rintro e w1 ⟨rfl, hb1⟩)
          | (go_at_call 44; (with_reducible refine (HSE.out _ hb1).mono ?_); rintro e w2 ⟨rfl, hs1, hc1⟩))
        exact bodyPost_end (v := .tuple #[]) (by simp [results, Try.results28, go_sem]) rfl ⟨rfl, by rw [← HR2.out]; exact hs1, (HCH.trans (.of_below hb1)).trans hc1⟩
      · have HSE := Lib.hid (fun W (hb : Below W1.heap.size W1 W) => hset b gi gp base n ci cp t (m + 1) x ((m : Int) + 1) W (by omega) (HSW.below hb) hjt hod)
        have HR2 : Hid (m / 2 ≤ f' ∧ upV ks id f' (m / 2) (hputV t (m + 1) x) = R) := by
          have h1 := HU.out.1
          have := HU.out.2
          unfold upV at this
          rw [if_neg (by omega), if_neg (by show ¬ ordV ks (t.1.getD (m / 2) 0) id ≤ 0; rw [hx]; exact hle)] at this
          rw [← hx]
          exact ⟨by omega, this⟩
        clear hx HU
        go_wp2_with (first
          | (go_at_call 34; (with_reducible refine HORD.out.mono ?_); rintro e w1 ⟨rfl, hb1⟩; obtain ⟨k2, k3⟩ := HIB.out _ hb1)
          | (go_at_call 44; (with_reducible refine (HSE.out _ hb1).mono ?_); rintro e w2 ⟨rfl, hs1, hc1⟩))
        go_roundw
        case rel => exact ⟨m / 2, f', hputV t (m + 1) x, by omega, by go_num, (show Hid _ from (List.length_set ..).trans HT.out), (show Hid _ from HTI.out.put _ _ hod), HR2.out, hs1, (HKW.below hb1).keep hc1 (by have := HSW.n1; have := HSW.n2; omega) (by omega), (HCH.trans (.of_below hb1)).trans hc1⟩
        case measure => simp only [intOf]; omega
end Go.Proofs.Ytopikpjagjnbhaa
