/- The law EventBack. -/
import Derived.Test.YtdnddoiemaifjaaBackEv
import Derived.Test.YtdnddoiemaifjaaSameG
import Derived.Test.YtdnddoiemaifjaaRegion
namespace Go.Proofs.Ytdnddoiemaifjaa
open Go.RowKit
set_option maxRecDepth 100000 in
set_option maxHeartbeats 4000000 in
theorem back_lives (A : Option Addr) (n c : Nat) (A2 : Option Addr) (m d : Nat) (q : Int) (w : World) (h : 40 < n ∨ 1000 < m) : Calls Try.prog 6 #[.slice A n c, .slice A2 m d, .int .u64 q] w fun e w' => e = .returned (.bool true) ∧ Below w.heap.size w w' := by
  have HL := Lib.hid (fun W => lives14 W)
  by_cases h1 : 40 < n
  · clear h
    go_enter Try.func6, Try.ntmps6
    go_wp2_with ((with_reducible refine (HL.out _).mono ?_); rintro e w' ⟨rfl, hb⟩)
    go_ret
    exact ⟨rfl, hb⟩
  · have h2 : 1000 < m := by omega
    clear h
    go_enter Try.func6, Try.ntmps6
    go_wp2_with ((with_reducible refine (HL.out _).mono ?_); rintro e w' ⟨rfl, hb⟩)
    go_ret
    exact ⟨rfl, hb⟩
set_option maxRecDepth 100000 in
set_option maxHeartbeats 16000000 in
theorem back_some (A : Option Addr) (n c : Nat) (l : List Ev) (A2 : Option Addr) (m d : Nat) (bs : List Int) (q : Nat) (w : World) (hr : Rds w 15 A n c (evs l)) (hI : ∀ e ∈ l, ∀ x ∈ evRegs e, I64 x) (hr2 : Rds w 1 A2 m d (nums .u8 bs)) (hu : U8s bs) (hq : q < 18446744073709551616) (hn : ¬ 40 < n) (hm : ¬ 1000 < m) (l0 : List Ev) (hrm : readM bs = some l0) :
    Calls Try.prog 6 #[.slice A n c, .slice A2 m d, .int .u64 q] w fun e w' => e = .returned (.bool true) ∧ Below w.heap.size w w' := by
  have HN := Lib.hid (evs_len hr)
  have HI := Lib.hid hI
  have hR1 := eread A2 m d bs w hr2 (by omega) hu
  rw [hrm] at hR1
  have HR1 := Lib.hid hR1
  have HL := Lib.hid (fun W => lives14 W)
  have HQ := Lib.hid hq
  have hiv := readM_inv hu hrm
  have HIV : Hid (bs = allE l0 ∧ l0.length ≤ 1024 ∧ ∀ e ∈ l0, ∀ x ∈ evRegs e, I64 x) := ⟨(back_bytes hu hrm).symm, hiv.2.1, fun e he => (hiv.2.2 e he).2⟩
  clear hiv
  clear hR1 hI hrm hu hq
  go_enter Try.func6, Try.ntmps6
  go_wp2_with (go_at_call 16; (with_reducible refine HR1.out.mono ?_); rintro x w1 ⟨hb1, A1, m1, c1, rfl, hr1⟩; have hr2a := hr2.below hb1)
  obtain ⟨T, hT⟩ : ∃ T : Nat → Fact, ∀ t_, T t_ = ([Fact.eq (.int .i64 0), Fact.eq (.bool true), Fact.eq (.bool true), Fact.eq (.slice A1 m1 c1), Fact.row 1 (nums .u8 bs), Fact.eq (.string (strOfNums bs)), Fact.eq (.slice A2 m d), Fact.eq (.string (strOfNums bs)), Fact.eq (.bool false), Fact.eq (.bool false)] : List (Fact)).getD t_ Fact.any := ⟨_, fun _ => rfl⟩
  refine region_tab [(0, 32), (1, 33), (2, 34), (3, 35), (4, 36), (5, 37), (6, 38), (7, 39), (8, 40), (9, 41)] T (by kernel_rfl) (by kernel_rfl) (by kernel_rfl) (by kernel_rfl) (by kernel_rfl) ?_ ?_
  · skip
    refine stepsAll_cons (k := 0) ?_ ?_
    · intro fa fx fW hF fB hE K fK
      have ev8 : fa.tmps[8]?.getD undef = .int .i64 0 := hF.eo 8 (by kernel_rfl)
      refine wpOp_val rfl (wanted_none rfl) ?_ (fK (.int .i64 0) fW (Below.refl _ _) (by rw [hT]; exact rfl))
      clear fK hE hF
      go_simp
    refine stepsAll_cons (k := 1) ?_ ?_
    · intro fa fx fW hF fB hE K fK
      have q0 : fx 0 = .int .i64 0 := by have q := hE ⟨0, .data⟩ (by simp) rfl; rw [hT] at q; exact q
      have ev32 : fa.tmps[32]?.getD undef = .int .i64 0 := (hF.ev 0 32 (by kernel_rfl)).trans q0
      refine wpOp_val rfl (wanted_none rfl) ?_ (fK (.bool true) fW (Below.refl _ _) (by rw [hT]; exact rfl))
      clear fK hE hF
      go_simp
    refine stepsAll_cons (k := 2) ?_ ?_
    · intro fa fx fW hF fB hE K fK
      have q1 : fx 1 = .bool true := by have q := hE ⟨1, .data⟩ (by simp) rfl; rw [hT] at q; exact q
      have ev33 : fa.tmps[33]?.getD undef = .bool true := (hF.ev 1 33 (by kernel_rfl)).trans q1
      refine wpOp_val rfl (wanted_none rfl) ?_ (fK (.bool true) fW (Below.refl _ _) (by rw [hT]; exact rfl))
      clear fK hE hF
      go_simp
    refine stepsAll_cons (k := 3) ?_ ?_
    · intro fa fx fW hF fB hE K fK
      have q2 : fx 2 = .bool true := by have q := hE ⟨2, .guard⟩ (by simp) rfl; rw [hT] at q; exact q
      have ev7 : fa.tmps[7]?.getD undef = .slice A1 m1 c1 := hF.eo 7 (by kernel_rfl)
      refine wpOp_val rfl (wanted_yes rfl (hF.yes 2 34 (by kernel_rfl) true q2)) ?_ (fK (.slice A1 m1 c1) fW (Below.refl _ _) (by rw [hT]; exact rfl))
      clear fK hE hF
      go_simp
    refine stepsAll_cons (k := 4) ?_ ?_
    · intro fa fx fW hF fB hE K fK
      have q2 : fx 2 = .bool true := by have q := hE ⟨2, .chain⟩ (by simp) rfl; rw [hT] at q; exact q
      have q3 : fx 3 = .slice A1 m1 c1 := by have q := hE ⟨3, .data⟩ (by simp) rfl; rw [hT] at q; exact q
      have ev35 : fa.tmps[35]?.getD undef = .slice A1 m1 c1 := (hF.ev 3 35 (by kernel_rfl)).trans q3
      refine wpOp_call rfl (wanted_yes rfl (hF.yes 2 34 (by kernel_rfl) true q2)) (by go_simp; exact ⟨rfl, rfl⟩) ?_
      refine (ecall A1 m1 c1 l0 fW (hr1.below fB) (by have h1 := HIV.out.2.1; have h2 := evs_len hr1; omega) HIV.out.2.2).mono ?_
      rintro e w9 ⟨A9, n9, c9, rfl, hb9, hr9⟩
      rw [← HIV.out.1] at hr9
      exact ⟨_, rfl, fK (.slice A9 n9 c9) (w9) (hb9) (by rw [hT]; exact ⟨A9, n9, c9, rfl, hr9⟩)⟩
    refine stepsAll_cons (k := 5) ?_ ?_
    · intro fa fx fW hF fB hE K fK
      have q2 : fx 2 = .bool true := by have q := hE ⟨2, .guard⟩ (by simp) rfl; rw [hT] at q; exact q
      have q4 : (Fact.row 1 (nums .u8 bs)).p (fx 4) fW := by have q := hE ⟨4, .data⟩ (by simp) rfl; rw [hT] at q; exact q
      have ev36 : fa.tmps[36]?.getD undef = fx 4 := hF.ev 4 36 (by kernel_rfl)
      refine wpOp_val rfl (wanted_yes rfl (hF.yes 2 34 (by kernel_rfl) true q2)) ?_ (fK (.string (strOfNums bs)) fW (Below.refl _ _) (by rw [hT]; exact rfl))
      clear fK hE hF
      obtain ⟨A', n', c', e', hr'⟩ := q4
      have hc' := conv_str Try.underlying33 Try.underlying5 Try.underlying9 hr'
      clear hr'
      go_simp
    refine stepsAll_cons (k := 6) ?_ ?_
    · intro fa fx fW hF fB hE K fK
      have q2 : fx 2 = .bool true := by have q := hE ⟨2, .guard⟩ (by simp) rfl; rw [hT] at q; exact q
      have ev1 : fa.tmps[1]?.getD undef = .slice A2 m d := hF.eo 1 (by kernel_rfl)
      refine wpOp_val rfl (wanted_yes rfl (hF.yes 2 34 (by kernel_rfl) true q2)) ?_ (fK (.slice A2 m d) fW (Below.refl _ _) (by rw [hT]; exact rfl))
      clear fK hE hF
      go_simp
    refine stepsAll_cons (k := 7) ?_ ?_
    · intro fa fx fW hF fB hE K fK
      have q2 : fx 2 = .bool true := by have q := hE ⟨2, .guard⟩ (by simp) rfl; rw [hT] at q; exact q
      have q6 : fx 6 = .slice A2 m d := by have q := hE ⟨6, .data⟩ (by simp) rfl; rw [hT] at q; exact q
      have ev38 : fa.tmps[38]?.getD undef = .slice A2 m d := (hF.ev 6 38 (by kernel_rfl)).trans q6
      have hc' := conv_str Try.underlying33 Try.underlying5 Try.underlying9 (hr2a.below fB)
      refine wpOp_val rfl (wanted_yes rfl (hF.yes 2 34 (by kernel_rfl) true q2)) ?_ (fK (.string (strOfNums bs)) fW (Below.refl _ _) (by rw [hT]; exact rfl))
      clear fK hE hF
      go_simp
    refine stepsAll_cons (k := 8) ?_ ?_
    · intro fa fx fW hF fB hE K fK
      have q2 : fx 2 = .bool true := by have q := hE ⟨2, .guard⟩ (by simp) rfl; rw [hT] at q; exact q
      have q5 : fx 5 = .string (strOfNums bs) := by have q := hE ⟨5, .data⟩ (by simp) rfl; rw [hT] at q; exact q
      have q7 : fx 7 = .string (strOfNums bs) := by have q := hE ⟨7, .data⟩ (by simp) rfl; rw [hT] at q; exact q
      have ev37 : fa.tmps[37]?.getD undef = .string (strOfNums bs) := (hF.ev 5 37 (by kernel_rfl)).trans q5
      have ev39 : fa.tmps[39]?.getD undef = .string (strOfNums bs) := (hF.ev 7 39 (by kernel_rfl)).trans q7
      refine wpOp_val rfl (wanted_yes rfl (hF.yes 2 34 (by kernel_rfl) true q2)) ?_ (fK (.bool false) fW (Below.refl _ _) (by rw [hT]; exact rfl))
      clear fK hE hF
      go_simp
    refine stepsAll_cons (k := 9) ?_ ?_
    · intro fa fx fW hF fB hE K fK
      have q2 : fx 2 = .bool true := by have q := hE ⟨2, .data⟩ (by simp) rfl; rw [hT] at q; exact q
      have q8 : fx 8 = .bool false := by have q := hE ⟨8, .data⟩ (by simp) rfl; rw [hT] at q; exact q
      have ev34 : fa.tmps[34]?.getD undef = .bool true := (hF.ev 2 34 (by kernel_rfl)).trans q2
      have ev40 : fa.tmps[40]?.getD undef = .bool false := (hF.ev 8 40 (by kernel_rfl)).trans q8
      refine wpOp_val rfl (wanted_none rfl) ?_ (fK (.bool false) fW (Below.refl _ _) (by rw [hT]; exact rfl))
      clear fK hE hF
      go_simp
    exact stepsAll_nil
  intro fa fx fW hF fB hx
  have q9 : fx 9 = .bool false := by have q := hx 9 (by decide); rw [hT] at q; exact q
  have ev41 : fa.tmps[41]?.getD undef = .bool false := (hF.ev 9 41 (by kernel_rfl)).trans q9
  rw [hF.eq]
  clear hF hx
  simp only [putAll, Act.put, List.setIfInBounds_toArray, List.set_cons_zero, List.set_cons_succ, q9]
  have hB4 := below_tr hb1 fB
  clear fB
  go_wp2
  go_loopw [44] (fun i wr => ∃ k : Nat, k ≤ n ∧ i = .int .i64 k ∧ Below w.heap.size w wr ∧ Hid (∀ e ∈ l.take k, goodB e = true)) (fun i _ => n - (intOf i).toNat)
  case atStart => exact ⟨0, Nat.zero_le _, rfl, hB4, fun e he => by simp at he⟩
  case round =>
    obtain ⟨k, hk, rfl, hb, HG⟩ := hrel
    clear hB4
    by_cases hlt : k < n
    · have hkx : k < l.length := by rw [HN.out]; exact hlt
      obtain ⟨ad, rfl⟩ := hr.some_ (by omega)
      obtain ⟨h0, h1, h2, h3, h4, h5, h6, h7, h8, h9, h10, h11, h12, h13, h14⟩ := ev_read (hr.below hb) k l[k] (List.getElem?_eq_getElem hkx)
      have hgd := fun W => egood l[k] W
      have HT : Hid (goodB l[k] = true → ∀ e ∈ l.take (k + 1), goodB e = true) := fun hg e he => by
        rw [List.take_succ_eq_append_getElem hkx] at he
        rcases List.mem_append.1 he with he | he
        · exact HG.out e he
        · simp at he; rw [he]; exact hg
      have HA : Hid (goodB l[k] = false → allE l = []) := fun hg => by
        unfold allE badE
        rw [if_pos (List.any_eq_true.2 ⟨l[k], List.getElem_mem hkx, by rw [hg]; rfl⟩)]
      generalize l[k] = y at h0 h1 h2 h3 h4 h5 h6 h7 h8 h9 h10 h11 h12 h13 h14 hgd HT HA
      have hal : Below wr.heap.size wr (wr.alloc (.cells (evC y).toArray 30)) := below_al (Below.refl _ _) _
      obtain ⟨e0, e1, e2, e3, e4, e5, e6, e7, e8, e9, e10, e11, e12, e13, e14⟩ := y
      unfold evV at hgd
      unfold evC at hal
      simp only at h0 h1 h2 h3 h4 h5 h6 h7 h8 h9 h10 h11 h12 h13 h14 hgd
      have HAL := Lib.hid hal
      clear hal
      cases hg : goodB (⟨e0, e1, e2, e3, e4, e5, e6, e7, e8, e9, e10, e11, e12, e13, e14⟩ : Ev) with
      | true =>
        rw [hg] at hgd
        have HGD := Lib.hid hgd
        have HT2 := Lib.hid (HT.out hg)
        clear hgd hg
        go_wp2_with (go_at_call 18; (with_reducible refine (HGD.out _).mono ?_); rintro x w5 ⟨rfl, hb5⟩)
        go_roundw
        case rel => exact ⟨k + 1, by omega, by go_num, below_then hb hb.size (below_then HAL.out HAL.out.size hb5), HT2⟩
        case measure => simp only [intOf]; omega
      | false =>
        rw [hg] at hgd
        have HGD := Lib.hid hgd
        have hA0 := HA.out hg
        have hEC := fun W (hW : Below w.heap.size w W) => ecall (some ad) n c l W (hr.below hW) (by omega) HI.out
        rw [hA0] at hEC
        have HEC := Lib.hid hEC
        clear hgd hg hA0 hEC
        go_wp2_with (first
          | (go_at_call 18; (with_reducible refine (HGD.out _).mono ?_); rintro x w5 ⟨rfl, hb5⟩; have hb55 := below_then hb hb.size (below_then HAL.out HAL.out.size hb5); have HE5 := Lib.hid (HEC.out _ hb55))
          | (go_at_call 11; (with_reducible refine HE5.out.mono ?_); rintro x w6 ⟨A6, n6, c6, rfl, hb6, hr6⟩; have hn6 := rds_len hr6; have hn60 : n6 = 0 := (by simpa using hn6.symm); subst hn60)
          | ((with_reducible refine (HL.out _).mono ?_); rintro x w7 ⟨rfl, hb7⟩))
        go_ret
        exact ⟨rfl, below_tr (below_tr hb55 hb6) hb7⟩
    · obtain rfl : k = n := by omega
      have hgl : ∀ e ∈ l, goodB e = true := by have := HG.out; rwa [List.take_of_length_le (by rw [HN.out]; exact Nat.le_refl _)] at this
      have hall : ∀ e ∈ l, goodB e = true ∧ ∀ x ∈ evRegs e, I64 x := fun e he => ⟨hgl e he, HI.out e he⟩
      have hl40 : l.length ≤ 40 := by rw [HN.out]; omega
      obtain ⟨hp0, hp1⟩ := allE_len hgl
      have hua := u8_allE (by omega) hall
      have HBR := Lib.hid (back_row (by omega) hall)
      have HBM := Lib.hid (fun x => back_more (by omega) hall x)
      have HBC := Lib.hid (fun k (hk : k < (allE l).length) => back_cut (by omega) hall hua hk)
      have HEC := Lib.hid (ecall A k c l wr (hr.below hb) (by omega) HI.out)
      obtain ⟨N, hN⟩ : ∃ N, N = (allE l).length := ⟨_, rfl⟩
      rw [← hN] at hp0 hp1
      have HLN := Lib.hid hN
      have HUA := Lib.hid hua
      have hqm : (q : Int) % (N : Int) = ((q % N : Nat) : Int) := by omega
      have hqlt : q % N < N := Nat.mod_lt _ hp0
      have hN0 : ((N : Int) == 0) = false := by simp; omega
      have hN9 : N ≤ 10000 := by omega
      obtain ⟨z, hz⟩ : ∃ z, z = q % N := ⟨_, rfl⟩
      rw [← hz] at hqm hqlt
      clear hz hgl hall hl40 hua hN
      have hzt : (nums .u8 (allE l)).take (z * 1) = nums .u8 ((allE l).take z) := by rw [Nat.mul_one]; simp [nums, List.map_take]
      have HZT := Lib.hid hzt
      have hz0 : (0 : Int) ≤ z := by omega
      have hut : U8s ((allE l).take z) := fun x hx => HUA.out x (List.mem_of_mem_take hx)
      have HUT := Lib.hid hut
      clear hzt hut
      go_wp2_with (first
        | (go_at_call 11; (with_reducible refine HEC.out.mono ?_); rintro x w5 ⟨A5, n5, c5, rfl, hb5, hr5⟩; have hn5 : N = n5 := (by rw [HLN.out]; exact rds_len hr5); subst hn5; obtain ⟨ad5, rfl⟩ := hr5.some_ hp0; have hre := eread (some ad5) N c5 (allE l) w5 hr5 (by omega) HUA.out; rw [HBR.out] at hre; have HR2 := Lib.hid hre; clear hre; have hzc : (z : Int) ≤ c5 := (by have := hr5.le; omega); have hB5 := below_tr hb hb5)
        | (go_at_call 16; (with_reducible refine HR2.out.mono ?_); rintro x w6 ⟨hb6, A6, m6, c6, rfl, hr6⟩; have hr56 := hr5.below hb6; have ht6 := hr56.take_ z (by omega); rw [HZT.out] at ht6; have hre := eread (some ad5) z c5 ((allE l).take z) w6 ht6 (by omega) HUT.out; rw [HBC.out z (by rw [← HLN.out]; exact hqlt)] at hre; have HR3 := Lib.hid hre; clear hre ht6 HR2; have hB6 := below_tr hB5 hb6)
        | (go_at_call 16; (with_reducible refine HR3.out.mono ?_); rintro x w7 ⟨hb7, rfl⟩; clear HR3; have hr57 := hr56.below hb7; have hr67 := hr6.below hb7; have hB7 := below_tr hB6 hb7)
        | (at_builtin; refine apbs (w0 := w7) (by rfl) _ _ (by rfl) _ [] (some ad5) N c5 (allE l) (by rfl) (by rfl) (hr57.below (below_al (Below.refl _ _) _)) (lit_own (Below.refl _ _) _) (below_al (Below.refl _ _) _) (by simp only [List.length_nil]; omega) ?_; intro v8 w8 ho8 hb8)
        | (at_builtin; refine apb (w0 := w7) (by rfl) _ _ (by rfl) _ _ _ (by rfl) (by rfl) ho8 hb8 (by rw [List.nil_append, ← HLN.out]; omega) ?_; intro v9 w9 ho9 hb9; obtain ⟨A9, n9, c9, rfl, hn9, hr9⟩ := own_open ho9; rw [List.nil_append] at hr9; have hl9 := rds_len hr9; rw [List.length_append, ← HLN.out, List.length_singleton] at hl9; have hre := eread A9 n9 c9 _ w9 hr9 (by omega) (u8_app HUA.out (fun y hy => by simp at hy; subst hy; omega)); rw [HBM.out] at hre; have HR4 := Lib.hid hre; clear hre hl9; have hB9 := below_tr hB7 hb9)
        | (go_at_call 16; (with_reducible refine HR4.out.mono ?_); rintro x w10 ⟨hb10, rfl⟩; have hB10 := below_tr hB9 hb10; have hss := esame A6 m6 c6 l A k c l w10 ((hr67.below hb9).below hb10) (hr.below hB10); rw [decide_eq_true rfl] at hss; have HS := Lib.hid hss; clear hss)
        | ((with_reducible refine HS.out.mono ?_); rintro x w11 ⟨rfl, hb11⟩)
        | ((with_reducible refine (HL.out _).mono ?_); rintro x w12 ⟨rfl, hb12⟩))
      go_ret
      exact ⟨rfl, below_tr (below_tr hB10 hb11) hb12⟩
set_option maxRecDepth 100000 in
set_option maxHeartbeats 16000000 in
theorem back_none (A : Option Addr) (n c : Nat) (l : List Ev) (A2 : Option Addr) (m d : Nat) (bs : List Int) (q : Nat) (w : World) (hr : Rds w 15 A n c (evs l)) (hI : ∀ e ∈ l, ∀ x ∈ evRegs e, I64 x) (hr2 : Rds w 1 A2 m d (nums .u8 bs)) (hu : U8s bs) (hq : q < 18446744073709551616) (hn : ¬ 40 < n) (hm : ¬ 1000 < m) (hrm : readM bs = none) :
    Calls Try.prog 6 #[.slice A n c, .slice A2 m d, .int .u64 q] w fun e w' => e = .returned (.bool true) ∧ Below w.heap.size w w' := by
  have HN := Lib.hid (evs_len hr)
  have HI := Lib.hid hI
  have hR1 := eread A2 m d bs w hr2 (by omega) hu
  rw [hrm] at hR1
  have HR1 := Lib.hid hR1
  have HL := Lib.hid (fun W => lives14 W)
  have HQ := Lib.hid hq
  clear hR1 hI hrm hu hq
  go_enter Try.func6, Try.ntmps6
  go_wp2_with (go_at_call 16; (with_reducible refine HR1.out.mono ?_); rintro x w1 ⟨hb1, rfl⟩; have hr2a := hr2.below hb1)
  obtain ⟨T, hT⟩ : ∃ T : Nat → Fact, ∀ t_, T t_ = ([Fact.eq (.int .i64 10), Fact.eq (.bool false), Fact.eq (.bool false), Fact.eq (undef), Fact.eq (undef), Fact.eq (undef), Fact.eq (undef), Fact.eq (undef), Fact.eq (undef), Fact.eq (.bool false)] : List (Fact)).getD t_ Fact.any := ⟨_, fun _ => rfl⟩
  refine region_tab [(0, 32), (1, 33), (2, 34), (3, 35), (4, 36), (5, 37), (6, 38), (7, 39), (8, 40), (9, 41)] T (by kernel_rfl) (by kernel_rfl) (by kernel_rfl) (by kernel_rfl) (by kernel_rfl) ?_ ?_
  · skip
    refine stepsAll_cons (k := 0) ?_ ?_
    · intro fa fx fW hF fB hE K fK
      have ev8 : fa.tmps[8]?.getD undef = .int .i64 10 := hF.eo 8 (by kernel_rfl)
      refine wpOp_val rfl (wanted_none rfl) ?_ (fK (.int .i64 10) fW (Below.refl _ _) (by rw [hT]; exact rfl))
      clear fK hE hF
      go_simp
    refine stepsAll_cons (k := 1) ?_ ?_
    · intro fa fx fW hF fB hE K fK
      have q0 : fx 0 = .int .i64 10 := by have q := hE ⟨0, .data⟩ (by simp) rfl; rw [hT] at q; exact q
      have ev32 : fa.tmps[32]?.getD undef = .int .i64 10 := (hF.ev 0 32 (by kernel_rfl)).trans q0
      refine wpOp_val rfl (wanted_none rfl) ?_ (fK (.bool false) fW (Below.refl _ _) (by rw [hT]; exact rfl))
      clear fK hE hF
      go_simp
    refine stepsAll_cons (k := 2) ?_ ?_
    · intro fa fx fW hF fB hE K fK
      have q1 : fx 1 = .bool false := by have q := hE ⟨1, .data⟩ (by simp) rfl; rw [hT] at q; exact q
      have ev33 : fa.tmps[33]?.getD undef = .bool false := (hF.ev 1 33 (by kernel_rfl)).trans q1
      refine wpOp_val rfl (wanted_none rfl) ?_ (fK (.bool false) fW (Below.refl _ _) (by rw [hT]; exact rfl))
      clear fK hE hF
      go_simp
    refine stepsAll_cons (k := 3) ?_ ?_
    · intro fa fx fW hF fB hE K fK
      have q2 : fx 2 = .bool false := by have q := hE ⟨2, .guard⟩ (by simp) rfl; rw [hT] at q; exact q
      have ev7 : fa.tmps[7]?.getD undef = .slice none 0 0 := hF.eo 7 (by kernel_rfl)
      exact wpOp_skip rfl (by simp [Region.wanted, hF.yes 2 34 (by kernel_rfl) false q2]) (fK undef fW (Below.refl _ _) (by rw [hT]; exact rfl))
    refine stepsAll_cons (k := 4) ?_ ?_
    · intro fa fx fW hF fB hE K fK
      have q2 : fx 2 = .bool false := by have q := hE ⟨2, .chain⟩ (by simp) rfl; rw [hT] at q; exact q
      have q3 : fx 3 = undef := by have q := hE ⟨3, .data⟩ (by simp) rfl; rw [hT] at q; exact q
      have ev35 : fa.tmps[35]?.getD undef = undef := (hF.ev 3 35 (by kernel_rfl)).trans q3
      exact wpOp_skip rfl (by simp [Region.wanted, hF.yes 2 34 (by kernel_rfl) false q2]) (fK undef fW (Below.refl _ _) (by rw [hT]; exact rfl))
    refine stepsAll_cons (k := 5) ?_ ?_
    · intro fa fx fW hF fB hE K fK
      have q2 : fx 2 = .bool false := by have q := hE ⟨2, .guard⟩ (by simp) rfl; rw [hT] at q; exact q
      have q4 : fx 4 = undef := by have q := hE ⟨4, .data⟩ (by simp) rfl; rw [hT] at q; exact q
      have ev36 : fa.tmps[36]?.getD undef = undef := (hF.ev 4 36 (by kernel_rfl)).trans q4
      exact wpOp_skip rfl (by simp [Region.wanted, hF.yes 2 34 (by kernel_rfl) false q2]) (fK undef fW (Below.refl _ _) (by rw [hT]; exact rfl))
    refine stepsAll_cons (k := 6) ?_ ?_
    · intro fa fx fW hF fB hE K fK
      have q2 : fx 2 = .bool false := by have q := hE ⟨2, .guard⟩ (by simp) rfl; rw [hT] at q; exact q
      have ev1 : fa.tmps[1]?.getD undef = .slice A2 m d := hF.eo 1 (by kernel_rfl)
      exact wpOp_skip rfl (by simp [Region.wanted, hF.yes 2 34 (by kernel_rfl) false q2]) (fK undef fW (Below.refl _ _) (by rw [hT]; exact rfl))
    refine stepsAll_cons (k := 7) ?_ ?_
    · intro fa fx fW hF fB hE K fK
      have q2 : fx 2 = .bool false := by have q := hE ⟨2, .guard⟩ (by simp) rfl; rw [hT] at q; exact q
      have q6 : fx 6 = undef := by have q := hE ⟨6, .data⟩ (by simp) rfl; rw [hT] at q; exact q
      have ev38 : fa.tmps[38]?.getD undef = undef := (hF.ev 6 38 (by kernel_rfl)).trans q6
      exact wpOp_skip rfl (by simp [Region.wanted, hF.yes 2 34 (by kernel_rfl) false q2]) (fK undef fW (Below.refl _ _) (by rw [hT]; exact rfl))
    refine stepsAll_cons (k := 8) ?_ ?_
    · intro fa fx fW hF fB hE K fK
      have q2 : fx 2 = .bool false := by have q := hE ⟨2, .guard⟩ (by simp) rfl; rw [hT] at q; exact q
      have q5 : fx 5 = undef := by have q := hE ⟨5, .data⟩ (by simp) rfl; rw [hT] at q; exact q
      have q7 : fx 7 = undef := by have q := hE ⟨7, .data⟩ (by simp) rfl; rw [hT] at q; exact q
      have ev37 : fa.tmps[37]?.getD undef = undef := (hF.ev 5 37 (by kernel_rfl)).trans q5
      have ev39 : fa.tmps[39]?.getD undef = undef := (hF.ev 7 39 (by kernel_rfl)).trans q7
      exact wpOp_skip rfl (by simp [Region.wanted, hF.yes 2 34 (by kernel_rfl) false q2]) (fK undef fW (Below.refl _ _) (by rw [hT]; exact rfl))
    refine stepsAll_cons (k := 9) ?_ ?_
    · intro fa fx fW hF fB hE K fK
      have q2 : fx 2 = .bool false := by have q := hE ⟨2, .data⟩ (by simp) rfl; rw [hT] at q; exact q
      have q8 : fx 8 = undef := by have q := hE ⟨8, .data⟩ (by simp) rfl; rw [hT] at q; exact q
      have ev34 : fa.tmps[34]?.getD undef = .bool false := (hF.ev 2 34 (by kernel_rfl)).trans q2
      have ev40 : fa.tmps[40]?.getD undef = undef := (hF.ev 8 40 (by kernel_rfl)).trans q8
      refine wpOp_val rfl (wanted_none rfl) ?_ (fK (.bool false) fW (Below.refl _ _) (by rw [hT]; exact rfl))
      clear fK hE hF
      go_simp
    exact stepsAll_nil
  intro fa fx fW hF fB hx
  have q9 : fx 9 = .bool false := by have q := hx 9 (by decide); rw [hT] at q; exact q
  have ev41 : fa.tmps[41]?.getD undef = .bool false := (hF.ev 9 41 (by kernel_rfl)).trans q9
  rw [hF.eq]
  clear hF hx
  simp only [putAll, Act.put, List.setIfInBounds_toArray, List.set_cons_zero, List.set_cons_succ, q9]
  have hB4 := below_tr hb1 fB
  clear fB
  go_wp2
  go_loopw [44] (fun i wr => ∃ k : Nat, k ≤ n ∧ i = .int .i64 k ∧ Below w.heap.size w wr ∧ Hid (∀ e ∈ l.take k, goodB e = true)) (fun i _ => n - (intOf i).toNat)
  case atStart => exact ⟨0, Nat.zero_le _, rfl, hB4, fun e he => by simp at he⟩
  case round =>
    obtain ⟨k, hk, rfl, hb, HG⟩ := hrel
    clear hB4
    by_cases hlt : k < n
    · have hkx : k < l.length := by rw [HN.out]; exact hlt
      obtain ⟨ad, rfl⟩ := hr.some_ (by omega)
      obtain ⟨h0, h1, h2, h3, h4, h5, h6, h7, h8, h9, h10, h11, h12, h13, h14⟩ := ev_read (hr.below hb) k l[k] (List.getElem?_eq_getElem hkx)
      have hgd := fun W => egood l[k] W
      have HT : Hid (goodB l[k] = true → ∀ e ∈ l.take (k + 1), goodB e = true) := fun hg e he => by
        rw [List.take_succ_eq_append_getElem hkx] at he
        rcases List.mem_append.1 he with he | he
        · exact HG.out e he
        · simp at he; rw [he]; exact hg
      have HA : Hid (goodB l[k] = false → allE l = []) := fun hg => by
        unfold allE badE
        rw [if_pos (List.any_eq_true.2 ⟨l[k], List.getElem_mem hkx, by rw [hg]; rfl⟩)]
      generalize l[k] = y at h0 h1 h2 h3 h4 h5 h6 h7 h8 h9 h10 h11 h12 h13 h14 hgd HT HA
      have hal : Below wr.heap.size wr (wr.alloc (.cells (evC y).toArray 30)) := below_al (Below.refl _ _) _
      obtain ⟨e0, e1, e2, e3, e4, e5, e6, e7, e8, e9, e10, e11, e12, e13, e14⟩ := y
      unfold evV at hgd
      unfold evC at hal
      simp only at h0 h1 h2 h3 h4 h5 h6 h7 h8 h9 h10 h11 h12 h13 h14 hgd
      have HAL := Lib.hid hal
      clear hal
      cases hg : goodB (⟨e0, e1, e2, e3, e4, e5, e6, e7, e8, e9, e10, e11, e12, e13, e14⟩ : Ev) with
      | true =>
        rw [hg] at hgd
        have HGD := Lib.hid hgd
        have HT2 := Lib.hid (HT.out hg)
        clear hgd hg
        go_wp2_with (go_at_call 18; (with_reducible refine (HGD.out _).mono ?_); rintro x w5 ⟨rfl, hb5⟩)
        go_roundw
        case rel => exact ⟨k + 1, by omega, by go_num, below_then hb hb.size (below_then HAL.out HAL.out.size hb5), HT2⟩
        case measure => simp only [intOf]; omega
      | false =>
        rw [hg] at hgd
        have HGD := Lib.hid hgd
        have hA0 := HA.out hg
        have hEC := fun W (hW : Below w.heap.size w W) => ecall (some ad) n c l W (hr.below hW) (by omega) HI.out
        rw [hA0] at hEC
        have HEC := Lib.hid hEC
        clear hgd hg hA0 hEC
        go_wp2_with (first
          | (go_at_call 18; (with_reducible refine (HGD.out _).mono ?_); rintro x w5 ⟨rfl, hb5⟩; have hb55 := below_then hb hb.size (below_then HAL.out HAL.out.size hb5); have HE5 := Lib.hid (HEC.out _ hb55))
          | (go_at_call 11; (with_reducible refine HE5.out.mono ?_); rintro x w6 ⟨A6, n6, c6, rfl, hb6, hr6⟩; have hn6 := rds_len hr6; have hn60 : n6 = 0 := (by simpa using hn6.symm); subst hn60)
          | ((with_reducible refine (HL.out _).mono ?_); rintro x w7 ⟨rfl, hb7⟩))
        go_ret
        exact ⟨rfl, below_tr (below_tr hb55 hb6) hb7⟩
    · obtain rfl : k = n := by omega
      have hgl : ∀ e ∈ l, goodB e = true := by have := HG.out; rwa [List.take_of_length_le (by rw [HN.out]; exact Nat.le_refl _)] at this
      have hall : ∀ e ∈ l, goodB e = true ∧ ∀ x ∈ evRegs e, I64 x := fun e he => ⟨hgl e he, HI.out e he⟩
      have hl40 : l.length ≤ 40 := by rw [HN.out]; omega
      obtain ⟨hp0, hp1⟩ := allE_len hgl
      have hua := u8_allE (by omega) hall
      have HBR := Lib.hid (back_row (by omega) hall)
      have HBM := Lib.hid (fun x => back_more (by omega) hall x)
      have HBC := Lib.hid (fun k (hk : k < (allE l).length) => back_cut (by omega) hall hua hk)
      have HEC := Lib.hid (ecall A k c l wr (hr.below hb) (by omega) HI.out)
      obtain ⟨N, hN⟩ : ∃ N, N = (allE l).length := ⟨_, rfl⟩
      rw [← hN] at hp0 hp1
      have HLN := Lib.hid hN
      have HUA := Lib.hid hua
      have hqm : (q : Int) % (N : Int) = ((q % N : Nat) : Int) := by omega
      have hqlt : q % N < N := Nat.mod_lt _ hp0
      have hN0 : ((N : Int) == 0) = false := by simp; omega
      have hN9 : N ≤ 10000 := by omega
      obtain ⟨z, hz⟩ : ∃ z, z = q % N := ⟨_, rfl⟩
      rw [← hz] at hqm hqlt
      clear hz hgl hall hl40 hua hN
      have hzt : (nums .u8 (allE l)).take (z * 1) = nums .u8 ((allE l).take z) := by rw [Nat.mul_one]; simp [nums, List.map_take]
      have HZT := Lib.hid hzt
      have hz0 : (0 : Int) ≤ z := by omega
      have hut : U8s ((allE l).take z) := fun x hx => HUA.out x (List.mem_of_mem_take hx)
      have HUT := Lib.hid hut
      clear hzt hut
      go_wp2_with (first
        | (go_at_call 11; (with_reducible refine HEC.out.mono ?_); rintro x w5 ⟨A5, n5, c5, rfl, hb5, hr5⟩; have hn5 : N = n5 := (by rw [HLN.out]; exact rds_len hr5); subst hn5; obtain ⟨ad5, rfl⟩ := hr5.some_ hp0; have hre := eread (some ad5) N c5 (allE l) w5 hr5 (by omega) HUA.out; rw [HBR.out] at hre; have HR2 := Lib.hid hre; clear hre; have hzc : (z : Int) ≤ c5 := (by have := hr5.le; omega); have hB5 := below_tr hb hb5)
        | (go_at_call 16; (with_reducible refine HR2.out.mono ?_); rintro x w6 ⟨hb6, A6, m6, c6, rfl, hr6⟩; have hr56 := hr5.below hb6; have ht6 := hr56.take_ z (by omega); rw [HZT.out] at ht6; have hre := eread (some ad5) z c5 ((allE l).take z) w6 ht6 (by omega) HUT.out; rw [HBC.out z (by rw [← HLN.out]; exact hqlt)] at hre; have HR3 := Lib.hid hre; clear hre ht6 HR2; have hB6 := below_tr hB5 hb6)
        | (go_at_call 16; (with_reducible refine HR3.out.mono ?_); rintro x w7 ⟨hb7, rfl⟩; clear HR3; have hr57 := hr56.below hb7; have hr67 := hr6.below hb7; have hB7 := below_tr hB6 hb7)
        | (at_builtin; refine apbs (w0 := w7) (by rfl) _ _ (by rfl) _ [] (some ad5) N c5 (allE l) (by rfl) (by rfl) (hr57.below (below_al (Below.refl _ _) _)) (lit_own (Below.refl _ _) _) (below_al (Below.refl _ _) _) (by simp only [List.length_nil]; omega) ?_; intro v8 w8 ho8 hb8)
        | (at_builtin; refine apb (w0 := w7) (by rfl) _ _ (by rfl) _ _ _ (by rfl) (by rfl) ho8 hb8 (by rw [List.nil_append, ← HLN.out]; omega) ?_; intro v9 w9 ho9 hb9; obtain ⟨A9, n9, c9, rfl, hn9, hr9⟩ := own_open ho9; rw [List.nil_append] at hr9; have hl9 := rds_len hr9; rw [List.length_append, ← HLN.out, List.length_singleton] at hl9; have hre := eread A9 n9 c9 _ w9 hr9 (by omega) (u8_app HUA.out (fun y hy => by simp at hy; subst hy; omega)); rw [HBM.out] at hre; have HR4 := Lib.hid hre; clear hre hl9; have hB9 := below_tr hB7 hb9)
        | (go_at_call 16; (with_reducible refine HR4.out.mono ?_); rintro x w10 ⟨hb10, rfl⟩; have hB10 := below_tr hB9 hb10; have hss := esame A6 m6 c6 l A k c l w10 ((hr67.below hb9).below hb10) (hr.below hB10); rw [decide_eq_true rfl] at hss; have HS := Lib.hid hss; clear hss)
        | ((with_reducible refine HS.out.mono ?_); rintro x w11 ⟨rfl, hb11⟩)
        | ((with_reducible refine (HL.out _).mono ?_); rintro x w12 ⟨rfl, hb12⟩))
      go_ret
      exact ⟨rfl, below_tr (below_tr hB10 hb11) hb12⟩
end Go.Proofs.Ytdnddoiemaifjaa
