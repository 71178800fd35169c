/- Two rows of events compared: slices.Equal, event.Same, the reference's Same. -/
import Derived.Test.YtdnddoiemaifjaaEvEq
namespace Go.Proofs.Ytdnddoiemaifjaa
open Go.RowKit
set_option maxRecDepth 100000 in
set_option maxHeartbeats 16000000 in
theorem sequal (A : Option Addr) (n c : Nat) (l : List Ev) (B : Option Addr) (m c2 : Nat) (l2 : List Ev) (w : World) (hr : Rds w 15 A n c (evs l)) (hr2 : Rds w 15 B m c2 (evs l2)) :
    Calls Try.prog 27 #[.slice A n c, .slice B m c2] w fun e w' => e = .returned (.bool (decide (l = l2))) ∧ Below w.heap.size w w' := by
  have HN : Hid (l.length = n) := evs_len hr
  have HM : Hid (l2.length = m) := evs_len hr2
  have hmax : n ≤ 9223372036854775807 := by have := hr.le; have := hr.max; unfold maxLen at this; omega
  by_cases hnm : n = m
  · subst hnm
    have HD : Hid (∀ b : Bool, (b = true ↔ l = l2) → Ending.returned (.bool b) = .returned (.bool (decide (l = l2)))) := by
      intro b h
      by_cases hl : l = l2
      · rw [decide_eq_true hl, h.2 hl]
      · rw [decide_eq_false hl]
        cases b
        · rfl
        · exact absurd (h.1 rfl) hl
    go_enter Try.func27, Try.ntmps27
    go_wp2
    go_loopw [13] (fun i wr => ∃ k : Nat, k ≤ n ∧ i = .int .i64 k ∧ Below w.heap.size w wr ∧ Hid (l.take k = l2.take k)) (fun i _ => n - (intOf i).toNat)
    case atStart => exact ⟨0, Nat.zero_le _, rfl, Below.refl _ _, rfl⟩
    case round =>
      obtain ⟨k, hk, rfl, hb, HT⟩ := hrel
      obtain ⟨W1, rfl⟩ : ∃ x, x = wr := ⟨_, rfl⟩
      by_cases hlt : k < n
      · have hkx : k < l.length := by rw [HN.out]; exact hlt
        have hky : k < l2.length := by rw [HM.out]; exact hlt
        obtain ⟨ad, rfl⟩ := hr.some_ (by omega)
        obtain ⟨ae, rfl⟩ := hr2.some_ (by omega)
        have HA := Lib.hid (ev_read (hr.below hb) k l[k] (List.getElem?_eq_getElem hkx))
        have HB := Lib.hid (ev_read (hr2.below hb) k l2[k] (List.getElem?_eq_getElem hky))
        have HK1 : Hid (l.take (k + 1) = l.take k ++ [l[k]]) := List.take_succ_eq_append_getElem hkx
        have HK2 : Hid (l2.take (k + 1) = l2.take k ++ [l2[k]]) := List.take_succ_eq_append_getElem hky
        have HNE : Hid (l[k] ≠ l2[k] → ¬ l = l2) := by
          intro h e
          subst e
          exact h rfl
        generalize l[k] = x at HA HK1 HNE
        generalize l2[k] = y at HB HK2 HNE
        have HQ := Lib.hid (eqEv_iff x y)
        obtain ⟨a0, a1, a2, a3, a4, a5, a6, a7, a8, a9, a10, a11, a12, a13, a14⟩ := x
        obtain ⟨b0, b1, b2, b3, b4, b5, b6, b7, b8, b9, b10, b11, b12, b13, b14⟩ := y
        have hki : (k : Int) < n := by omega
        have HZ := Lib.hid (fun w => evNe a0 a1 a2 a3 a4 a5 a6 a7 a8 a9 a10 a11 a12 a13 a14 b0 b1 b2 b3 b4 b5 b6 b7 b8 b9 b10 b11 b12 b13 b14 w)
        unfold eqEv at HQ
        simp only at HQ
        generalize (a0 == b0 && (a1 == b1 && (a2 == b2 && (a3 == b3 && (a4 == b4 && (a5 == b5 && ((a6 == b6 && (a7 == b7 && (a8 == b8 && (a9 == b9 && (a10 == b10 && (a11 == b11 && (a12 == b12 && a13 == b13))))))) && a14 == b14))))))) = q at HQ HZ
        clear hkx hky
        go_wp2
        obtain ⟨T, hT⟩ : ∃ T : Nat → Fact, ∀ t_, T t_ = ([Fact.eq (.slice (some ad) n c), Fact.eq (.int .i64 k), Fact.eq (.pointer (some (ad.add (k * 15)))), Fact.eq (.agg #[.int .i64 a0, .int .i64 a1, .int .i64 a2, .int .i64 a3, .int .i64 a4, .int .i64 a5, .int .i64 a6, .int .i64 a7, .int .i64 a8, .int .i64 a9, .int .i64 a10, .int .i64 a11, .int .i64 a12, .int .i64 a13, .int .i64 a14]), Fact.eq (.slice (some ae) n c2), Fact.eq (.int .i64 k), Fact.eq (.pointer (some (ae.add (k * 15)))), Fact.eq (.agg #[.int .i64 b0, .int .i64 b1, .int .i64 b2, .int .i64 b3, .int .i64 b4, .int .i64 b5, .int .i64 b6, .int .i64 b7, .int .i64 b8, .int .i64 b9, .int .i64 b10, .int .i64 b11, .int .i64 b12, .int .i64 b13, .int .i64 b14]), Fact.eq (.bool (!q))] : List (Fact)).getD t_ Fact.any := ⟨_, fun _ => rfl⟩
        refine region_tab [(0, 16), (1, 17), (2, 18), (3, 19), (4, 20), (5, 21), (6, 22), (7, 23), (8, 24)] T (by kernel_rfl) (by kernel_rfl) (by kernel_rfl) (by kernel_rfl) (by kernel_rfl) ?_ ?_
        · skip
          refine stepsAll_cons (k := 0) ?_ ?_
          · intro fa fx fW hF fB hE K fK
            have ev0 : fa.tmps[0]?.getD undef = .slice (some ad) n c := hF.eo 0 (by kernel_rfl)
            refine wpOp_val rfl (wanted_none rfl) ?_ (fK (.slice (some ad) n c) fW (Below.refl _ _) (by rw [hT]; exact rfl))
            clear fK hE hF
            go_simp
          refine stepsAll_cons (k := 1) ?_ ?_
          · intro fa fx fW hF fB hE K fK
            have ev5 : fa.tmps[5]?.getD undef = .int .i64 k := hF.eo 5 (by kernel_rfl)
            refine wpOp_val rfl (wanted_none rfl) ?_ (fK (.int .i64 k) fW (Below.refl _ _) (by rw [hT]; exact rfl))
            clear fK hE hF
            go_simp
          refine stepsAll_cons (k := 2) ?_ ?_
          · intro fa fx fW hF fB hE K fK
            have q0 : fx 0 = .slice (some ad) n c := by have q := hE ⟨0, .data⟩ (by simp) rfl; rw [hT] at q; exact q
            have q1 : fx 1 = .int .i64 k := by have q := hE ⟨1, .data⟩ (by simp) rfl; rw [hT] at q; exact q
            have ev16 : fa.tmps[16]?.getD undef = .slice (some ad) n c := (hF.ev 0 16 (by kernel_rfl)).trans q0
            have ev17 : fa.tmps[17]?.getD undef = .int .i64 k := (hF.ev 1 17 (by kernel_rfl)).trans q1
            refine wpOp_val rfl (wanted_none rfl) ?_ (fK (.pointer (some (ad.add (k * 15)))) fW (Below.refl _ _) (by rw [hT]; exact rfl))
            clear fK hE hF
            go_simp
          refine stepsAll_cons (k := 3) ?_ ?_
          · intro fa fx fW hF fB hE K fK
            have q2 : fx 2 = .pointer (some (ad.add (k * 15))) := by have q := hE ⟨2, .data⟩ (by simp) rfl; rw [hT] at q; exact q
            have ev18 : fa.tmps[18]?.getD undef = .pointer (some (ad.add (k * 15))) := (hF.ev 2 18 (by kernel_rfl)).trans q2
            obtain ⟨z0, z1, z2, z3, z4, z5, z6, z7, z8, z9, z10, z11, z12, z13, z14⟩ := HA.out.below fB
            simp only at z0 z1 z2 z3 z4 z5 z6 z7 z8 z9 z10 z11 z12 z13 z14
            refine wpOp_val rfl (wanted_none rfl) ?_ (fK (.agg #[.int .i64 a0, .int .i64 a1, .int .i64 a2, .int .i64 a3, .int .i64 a4, .int .i64 a5, .int .i64 a6, .int .i64 a7, .int .i64 a8, .int .i64 a9, .int .i64 a10, .int .i64 a11, .int .i64 a12, .int .i64 a13, .int .i64 a14]) fW (Below.refl _ _) (by rw [hT]; exact rfl))
            clear fK hE hF
            go_simp
          refine stepsAll_cons (k := 4) ?_ ?_
          · intro fa fx fW hF fB hE K fK
            have ev1 : fa.tmps[1]?.getD undef = .slice (some ae) n c2 := hF.eo 1 (by kernel_rfl)
            refine wpOp_val rfl (wanted_none rfl) ?_ (fK (.slice (some ae) n c2) fW (Below.refl _ _) (by rw [hT]; exact rfl))
            clear fK hE hF
            go_simp
          refine stepsAll_cons (k := 5) ?_ ?_
          · intro fa fx fW hF fB hE K fK
            have ev5 : fa.tmps[5]?.getD undef = .int .i64 k := hF.eo 5 (by kernel_rfl)
            refine wpOp_val rfl (wanted_none rfl) ?_ (fK (.int .i64 k) fW (Below.refl _ _) (by rw [hT]; exact rfl))
            clear fK hE hF
            go_simp
          refine stepsAll_cons (k := 6) ?_ ?_
          · intro fa fx fW hF fB hE K fK
            have q4 : fx 4 = .slice (some ae) n c2 := by have q := hE ⟨4, .data⟩ (by simp) rfl; rw [hT] at q; exact q
            have q5 : fx 5 = .int .i64 k := by have q := hE ⟨5, .data⟩ (by simp) rfl; rw [hT] at q; exact q
            have ev20 : fa.tmps[20]?.getD undef = .slice (some ae) n c2 := (hF.ev 4 20 (by kernel_rfl)).trans q4
            have ev21 : fa.tmps[21]?.getD undef = .int .i64 k := (hF.ev 5 21 (by kernel_rfl)).trans q5
            refine wpOp_val rfl (wanted_none rfl) ?_ (fK (.pointer (some (ae.add (k * 15)))) fW (Below.refl _ _) (by rw [hT]; exact rfl))
            clear fK hE hF
            go_simp
          refine stepsAll_cons (k := 7) ?_ ?_
          · intro fa fx fW hF fB hE K fK
            have q6 : fx 6 = .pointer (some (ae.add (k * 15))) := by have q := hE ⟨6, .data⟩ (by simp) rfl; rw [hT] at q; exact q
            have ev22 : fa.tmps[22]?.getD undef = .pointer (some (ae.add (k * 15))) := (hF.ev 6 22 (by kernel_rfl)).trans q6
            obtain ⟨z0, z1, z2, z3, z4, z5, z6, z7, z8, z9, z10, z11, z12, z13, z14⟩ := HB.out.below fB
            simp only at z0 z1 z2 z3 z4 z5 z6 z7 z8 z9 z10 z11 z12 z13 z14
            refine wpOp_val rfl (wanted_none rfl) ?_ (fK (.agg #[.int .i64 b0, .int .i64 b1, .int .i64 b2, .int .i64 b3, .int .i64 b4, .int .i64 b5, .int .i64 b6, .int .i64 b7, .int .i64 b8, .int .i64 b9, .int .i64 b10, .int .i64 b11, .int .i64 b12, .int .i64 b13, .int .i64 b14]) fW (Below.refl _ _) (by rw [hT]; exact rfl))
            clear fK hE hF
            go_simp
          refine stepsAll_cons (k := 8) ?_ ?_
          · intro fa fx fW hF fB hE K fK
            have q3 : fx 3 = .agg #[.int .i64 a0, .int .i64 a1, .int .i64 a2, .int .i64 a3, .int .i64 a4, .int .i64 a5, .int .i64 a6, .int .i64 a7, .int .i64 a8, .int .i64 a9, .int .i64 a10, .int .i64 a11, .int .i64 a12, .int .i64 a13, .int .i64 a14] := by have q := hE ⟨3, .data⟩ (by simp) rfl; rw [hT] at q; exact q
            have q7 : fx 7 = .agg #[.int .i64 b0, .int .i64 b1, .int .i64 b2, .int .i64 b3, .int .i64 b4, .int .i64 b5, .int .i64 b6, .int .i64 b7, .int .i64 b8, .int .i64 b9, .int .i64 b10, .int .i64 b11, .int .i64 b12, .int .i64 b13, .int .i64 b14] := by have q := hE ⟨7, .data⟩ (by simp) rfl; rw [hT] at q; exact q
            have ev19 : fa.tmps[19]?.getD undef = .agg #[.int .i64 a0, .int .i64 a1, .int .i64 a2, .int .i64 a3, .int .i64 a4, .int .i64 a5, .int .i64 a6, .int .i64 a7, .int .i64 a8, .int .i64 a9, .int .i64 a10, .int .i64 a11, .int .i64 a12, .int .i64 a13, .int .i64 a14] := (hF.ev 3 19 (by kernel_rfl)).trans q3
            have ev23 : fa.tmps[23]?.getD undef = .agg #[.int .i64 b0, .int .i64 b1, .int .i64 b2, .int .i64 b3, .int .i64 b4, .int .i64 b5, .int .i64 b6, .int .i64 b7, .int .i64 b8, .int .i64 b9, .int .i64 b10, .int .i64 b11, .int .i64 b12, .int .i64 b13, .int .i64 b14] := (hF.ev 7 23 (by kernel_rfl)).trans q7
            have z := HZ.out
            refine wpOp_val rfl (wanted_none rfl) ?_ (fK (.bool (!q)) fW (Below.refl _ _) (by rw [hT]; exact rfl))
            clear fK hE hF
            go_simp
          exact stepsAll_nil
        intro fa fx fW hF fB hx
        have q8 : fx 8 = .bool (!q) := by have q := hx 8 (by decide); rw [hT] at q; exact q
        have ev24 : fa.tmps[24]?.getD undef = .bool (!q) := (hF.ev 8 24 (by kernel_rfl)).trans q8
        rw [hF.eq]
        clear hF hx
        simp only [putAll, Act.put, List.setIfInBounds_toArray, List.set_cons_zero, List.set_cons_succ, q8]
        have hb9 := below_tr hb fB
        cases q
        · go_wp2
          go_ret
          refine ⟨HD.out false ⟨(fun h => by cases h), fun h => ?_⟩, hb9⟩
          have := of_decide_eq_false HQ.out.symm
          exact absurd h (HNE.out this)
        · go_wp2
          have he := of_decide_eq_true HQ.out.symm
          refine ⟨⟨k + 1, by omega, by go_num, hb9, ?_⟩, by simp only [intOf]; omega⟩
          show _ = _
          rw [HK1.out, HK2.out, HT.out, he]
      · obtain rfl : k = n := by omega
        have HE : Hid (l = l2) := by
          have h := HT.out
          rw [List.take_of_length_le (by rw [HN.out]; exact Nat.le_refl _), List.take_of_length_le (by rw [HM.out]; exact Nat.le_refl _)] at h
          exact h
        go_wp2
        go_ret
        exact ⟨HD.out true ⟨fun _ => HE.out, fun _ => rfl⟩, hb⟩
  · have h1 : ((n : Int) != m) = true := by simp; omega
    have h2 : decide (l = l2) = false := by
      rw [decide_eq_false_iff_not]
      intro e
      subst e
      exact hnm (HN.out.symm.trans HM.out)
    rw [h2]
    clear h2
    go_enter Try.func27, Try.ntmps27
    go_wp2
    go_ret
    exact ⟨rfl, Below.refl _ _⟩
set_option maxRecDepth 100000 in
set_option maxHeartbeats 16000000 in
theorem ssameG (A : Option Addr) (n c : Nat) (l : List Ev) (B : Option Addr) (m c2 : Nat) (l2 : List Ev) (w : World) (hr : Rds w 15 A n c (evs l)) (hr2 : Rds w 15 B m c2 (evs l2)) :
    Calls Try.prog 9 #[.slice A n c, .slice B m c2] w fun e w' => e = .returned (.bool (decide (l = l2))) ∧ Below w.heap.size w w' := by
  have HN : Hid (l.length = n) := evs_len hr
  have HM : Hid (l2.length = m) := evs_len hr2
  have hmax : n ≤ 9223372036854775807 := by have := hr.le; have := hr.max; unfold maxLen at this; omega
  by_cases hnm : n = m
  · subst hnm
    have HD : Hid (∀ b : Bool, (b = true ↔ l = l2) → Ending.returned (.bool b) = .returned (.bool (decide (l = l2)))) := by
      intro b h
      by_cases hl : l = l2
      · rw [decide_eq_true hl, h.2 hl]
      · rw [decide_eq_false hl]
        cases b
        · rfl
        · exact absurd (h.1 rfl) hl
    go_enter Try.func9, Try.ntmps9
    go_wp2
    go_loopw [13] (fun i wr => ∃ k : Nat, k ≤ n ∧ i = .int .i64 k ∧ Below w.heap.size w wr ∧ Hid (l.take k = l2.take k)) (fun i _ => n - (intOf i).toNat)
    case atStart => exact ⟨0, Nat.zero_le _, rfl, Below.refl _ _, rfl⟩
    case round =>
      obtain ⟨k, hk, rfl, hb, HT⟩ := hrel
      obtain ⟨W1, rfl⟩ : ∃ x, x = wr := ⟨_, rfl⟩
      by_cases hlt : k < n
      · have hkx : k < l.length := by rw [HN.out]; exact hlt
        have hky : k < l2.length := by rw [HM.out]; exact hlt
        obtain ⟨ad, rfl⟩ := hr.some_ (by omega)
        obtain ⟨ae, rfl⟩ := hr2.some_ (by omega)
        have HA := Lib.hid (ev_read (hr.below hb) k l[k] (List.getElem?_eq_getElem hkx))
        have HB := Lib.hid (ev_read (hr2.below hb) k l2[k] (List.getElem?_eq_getElem hky))
        have HK1 : Hid (l.take (k + 1) = l.take k ++ [l[k]]) := List.take_succ_eq_append_getElem hkx
        have HK2 : Hid (l2.take (k + 1) = l2.take k ++ [l2[k]]) := List.take_succ_eq_append_getElem hky
        have HNE : Hid (l[k] ≠ l2[k] → ¬ l = l2) := by
          intro h e
          subst e
          exact h rfl
        generalize l[k] = x at HA HK1 HNE
        generalize l2[k] = y at HB HK2 HNE
        have HQ := Lib.hid (eqEv_iff x y)
        obtain ⟨a0, a1, a2, a3, a4, a5, a6, a7, a8, a9, a10, a11, a12, a13, a14⟩ := x
        obtain ⟨b0, b1, b2, b3, b4, b5, b6, b7, b8, b9, b10, b11, b12, b13, b14⟩ := y
        have hki : (k : Int) < n := by omega
        have HZ := Lib.hid (fun w => evNe a0 a1 a2 a3 a4 a5 a6 a7 a8 a9 a10 a11 a12 a13 a14 b0 b1 b2 b3 b4 b5 b6 b7 b8 b9 b10 b11 b12 b13 b14 w)
        unfold eqEv at HQ
        simp only at HQ
        generalize (a0 == b0 && (a1 == b1 && (a2 == b2 && (a3 == b3 && (a4 == b4 && (a5 == b5 && ((a6 == b6 && (a7 == b7 && (a8 == b8 && (a9 == b9 && (a10 == b10 && (a11 == b11 && (a12 == b12 && a13 == b13))))))) && a14 == b14))))))) = q at HQ HZ
        clear hkx hky
        go_wp2
        obtain ⟨T, hT⟩ : ∃ T : Nat → Fact, ∀ t_, T t_ = ([Fact.eq (.slice (some ad) n c), Fact.eq (.int .i64 k), Fact.eq (.pointer (some (ad.add (k * 15)))), Fact.eq (.agg #[.int .i64 a0, .int .i64 a1, .int .i64 a2, .int .i64 a3, .int .i64 a4, .int .i64 a5, .int .i64 a6, .int .i64 a7, .int .i64 a8, .int .i64 a9, .int .i64 a10, .int .i64 a11, .int .i64 a12, .int .i64 a13, .int .i64 a14]), Fact.eq (.slice (some ae) n c2), Fact.eq (.int .i64 k), Fact.eq (.pointer (some (ae.add (k * 15)))), Fact.eq (.agg #[.int .i64 b0, .int .i64 b1, .int .i64 b2, .int .i64 b3, .int .i64 b4, .int .i64 b5, .int .i64 b6, .int .i64 b7, .int .i64 b8, .int .i64 b9, .int .i64 b10, .int .i64 b11, .int .i64 b12, .int .i64 b13, .int .i64 b14]), Fact.eq (.bool (!q))] : List (Fact)).getD t_ Fact.any := ⟨_, fun _ => rfl⟩
        refine region_tab [(0, 16), (1, 17), (2, 18), (3, 19), (4, 20), (5, 21), (6, 22), (7, 23), (8, 24)] T (by kernel_rfl) (by kernel_rfl) (by kernel_rfl) (by kernel_rfl) (by kernel_rfl) ?_ ?_
        · skip
          refine stepsAll_cons (k := 0) ?_ ?_
          · intro fa fx fW hF fB hE K fK
            have ev0 : fa.tmps[0]?.getD undef = .slice (some ad) n c := hF.eo 0 (by kernel_rfl)
            refine wpOp_val rfl (wanted_none rfl) ?_ (fK (.slice (some ad) n c) fW (Below.refl _ _) (by rw [hT]; exact rfl))
            clear fK hE hF
            go_simp
          refine stepsAll_cons (k := 1) ?_ ?_
          · intro fa fx fW hF fB hE K fK
            have ev5 : fa.tmps[5]?.getD undef = .int .i64 k := hF.eo 5 (by kernel_rfl)
            refine wpOp_val rfl (wanted_none rfl) ?_ (fK (.int .i64 k) fW (Below.refl _ _) (by rw [hT]; exact rfl))
            clear fK hE hF
            go_simp
          refine stepsAll_cons (k := 2) ?_ ?_
          · intro fa fx fW hF fB hE K fK
            have q0 : fx 0 = .slice (some ad) n c := by have q := hE ⟨0, .data⟩ (by simp) rfl; rw [hT] at q; exact q
            have q1 : fx 1 = .int .i64 k := by have q := hE ⟨1, .data⟩ (by simp) rfl; rw [hT] at q; exact q
            have ev16 : fa.tmps[16]?.getD undef = .slice (some ad) n c := (hF.ev 0 16 (by kernel_rfl)).trans q0
            have ev17 : fa.tmps[17]?.getD undef = .int .i64 k := (hF.ev 1 17 (by kernel_rfl)).trans q1
            refine wpOp_val rfl (wanted_none rfl) ?_ (fK (.pointer (some (ad.add (k * 15)))) fW (Below.refl _ _) (by rw [hT]; exact rfl))
            clear fK hE hF
            go_simp
          refine stepsAll_cons (k := 3) ?_ ?_
          · intro fa fx fW hF fB hE K fK
            have q2 : fx 2 = .pointer (some (ad.add (k * 15))) := by have q := hE ⟨2, .data⟩ (by simp) rfl; rw [hT] at q; exact q
            have ev18 : fa.tmps[18]?.getD undef = .pointer (some (ad.add (k * 15))) := (hF.ev 2 18 (by kernel_rfl)).trans q2
            obtain ⟨z0, z1, z2, z3, z4, z5, z6, z7, z8, z9, z10, z11, z12, z13, z14⟩ := HA.out.below fB
            simp only at z0 z1 z2 z3 z4 z5 z6 z7 z8 z9 z10 z11 z12 z13 z14
            refine wpOp_val rfl (wanted_none rfl) ?_ (fK (.agg #[.int .i64 a0, .int .i64 a1, .int .i64 a2, .int .i64 a3, .int .i64 a4, .int .i64 a5, .int .i64 a6, .int .i64 a7, .int .i64 a8, .int .i64 a9, .int .i64 a10, .int .i64 a11, .int .i64 a12, .int .i64 a13, .int .i64 a14]) fW (Below.refl _ _) (by rw [hT]; exact rfl))
            clear fK hE hF
            go_simp
          refine stepsAll_cons (k := 4) ?_ ?_
          · intro fa fx fW hF fB hE K fK
            have ev1 : fa.tmps[1]?.getD undef = .slice (some ae) n c2 := hF.eo 1 (by kernel_rfl)
            refine wpOp_val rfl (wanted_none rfl) ?_ (fK (.slice (some ae) n c2) fW (Below.refl _ _) (by rw [hT]; exact rfl))
            clear fK hE hF
            go_simp
          refine stepsAll_cons (k := 5) ?_ ?_
          · intro fa fx fW hF fB hE K fK
            have ev5 : fa.tmps[5]?.getD undef = .int .i64 k := hF.eo 5 (by kernel_rfl)
            refine wpOp_val rfl (wanted_none rfl) ?_ (fK (.int .i64 k) fW (Below.refl _ _) (by rw [hT]; exact rfl))
            clear fK hE hF
            go_simp
          refine stepsAll_cons (k := 6) ?_ ?_
          · intro fa fx fW hF fB hE K fK
            have q4 : fx 4 = .slice (some ae) n c2 := by have q := hE ⟨4, .data⟩ (by simp) rfl; rw [hT] at q; exact q
            have q5 : fx 5 = .int .i64 k := by have q := hE ⟨5, .data⟩ (by simp) rfl; rw [hT] at q; exact q
            have ev20 : fa.tmps[20]?.getD undef = .slice (some ae) n c2 := (hF.ev 4 20 (by kernel_rfl)).trans q4
            have ev21 : fa.tmps[21]?.getD undef = .int .i64 k := (hF.ev 5 21 (by kernel_rfl)).trans q5
            refine wpOp_val rfl (wanted_none rfl) ?_ (fK (.pointer (some (ae.add (k * 15)))) fW (Below.refl _ _) (by rw [hT]; exact rfl))
            clear fK hE hF
            go_simp
          refine stepsAll_cons (k := 7) ?_ ?_
          · intro fa fx fW hF fB hE K fK
            have q6 : fx 6 = .pointer (some (ae.add (k * 15))) := by have q := hE ⟨6, .data⟩ (by simp) rfl; rw [hT] at q; exact q
            have ev22 : fa.tmps[22]?.getD undef = .pointer (some (ae.add (k * 15))) := (hF.ev 6 22 (by kernel_rfl)).trans q6
            obtain ⟨z0, z1, z2, z3, z4, z5, z6, z7, z8, z9, z10, z11, z12, z13, z14⟩ := HB.out.below fB
            simp only at z0 z1 z2 z3 z4 z5 z6 z7 z8 z9 z10 z11 z12 z13 z14
            refine wpOp_val rfl (wanted_none rfl) ?_ (fK (.agg #[.int .i64 b0, .int .i64 b1, .int .i64 b2, .int .i64 b3, .int .i64 b4, .int .i64 b5, .int .i64 b6, .int .i64 b7, .int .i64 b8, .int .i64 b9, .int .i64 b10, .int .i64 b11, .int .i64 b12, .int .i64 b13, .int .i64 b14]) fW (Below.refl _ _) (by rw [hT]; exact rfl))
            clear fK hE hF
            go_simp
          refine stepsAll_cons (k := 8) ?_ ?_
          · intro fa fx fW hF fB hE K fK
            have q3 : fx 3 = .agg #[.int .i64 a0, .int .i64 a1, .int .i64 a2, .int .i64 a3, .int .i64 a4, .int .i64 a5, .int .i64 a6, .int .i64 a7, .int .i64 a8, .int .i64 a9, .int .i64 a10, .int .i64 a11, .int .i64 a12, .int .i64 a13, .int .i64 a14] := by have q := hE ⟨3, .data⟩ (by simp) rfl; rw [hT] at q; exact q
            have q7 : fx 7 = .agg #[.int .i64 b0, .int .i64 b1, .int .i64 b2, .int .i64 b3, .int .i64 b4, .int .i64 b5, .int .i64 b6, .int .i64 b7, .int .i64 b8, .int .i64 b9, .int .i64 b10, .int .i64 b11, .int .i64 b12, .int .i64 b13, .int .i64 b14] := by have q := hE ⟨7, .data⟩ (by simp) rfl; rw [hT] at q; exact q
            have ev19 : fa.tmps[19]?.getD undef = .agg #[.int .i64 a0, .int .i64 a1, .int .i64 a2, .int .i64 a3, .int .i64 a4, .int .i64 a5, .int .i64 a6, .int .i64 a7, .int .i64 a8, .int .i64 a9, .int .i64 a10, .int .i64 a11, .int .i64 a12, .int .i64 a13, .int .i64 a14] := (hF.ev 3 19 (by kernel_rfl)).trans q3
            have ev23 : fa.tmps[23]?.getD undef = .agg #[.int .i64 b0, .int .i64 b1, .int .i64 b2, .int .i64 b3, .int .i64 b4, .int .i64 b5, .int .i64 b6, .int .i64 b7, .int .i64 b8, .int .i64 b9, .int .i64 b10, .int .i64 b11, .int .i64 b12, .int .i64 b13, .int .i64 b14] := (hF.ev 7 23 (by kernel_rfl)).trans q7
            have z := HZ.out
            refine wpOp_val rfl (wanted_none rfl) ?_ (fK (.bool (!q)) fW (Below.refl _ _) (by rw [hT]; exact rfl))
            clear fK hE hF
            go_simp
          exact stepsAll_nil
        intro fa fx fW hF fB hx
        have q8 : fx 8 = .bool (!q) := by have q := hx 8 (by decide); rw [hT] at q; exact q
        have ev24 : fa.tmps[24]?.getD undef = .bool (!q) := (hF.ev 8 24 (by kernel_rfl)).trans q8
        rw [hF.eq]
        clear hF hx
        simp only [putAll, Act.put, List.setIfInBounds_toArray, List.set_cons_zero, List.set_cons_succ, q8]
        have hb9 := below_tr hb fB
        cases q
        · go_wp2
          go_ret
          refine ⟨HD.out false ⟨(fun h => by cases h), fun h => ?_⟩, hb9⟩
          have := of_decide_eq_false HQ.out.symm
          exact absurd h (HNE.out this)
        · go_wp2
          have he := of_decide_eq_true HQ.out.symm
          refine ⟨⟨k + 1, by omega, by go_num, hb9, ?_⟩, by simp only [intOf]; omega⟩
          show _ = _
          rw [HK1.out, HK2.out, HT.out, he]
      · obtain rfl : k = n := by omega
        have HE : Hid (l = l2) := by
          have h := HT.out
          rw [List.take_of_length_le (by rw [HN.out]; exact Nat.le_refl _), List.take_of_length_le (by rw [HM.out]; exact Nat.le_refl _)] at h
          exact h
        go_wp2
        go_ret
        exact ⟨HD.out true ⟨fun _ => HE.out, fun _ => rfl⟩, hb⟩
  · have h1 : ((n : Int) != m) = true := by simp; omega
    have h2 : decide (l = l2) = false := by
      rw [decide_eq_false_iff_not]
      intro e
      subst e
      exact hnm (HN.out.symm.trans HM.out)
    rw [h2]
    clear h2
    go_enter Try.func9, Try.ntmps9
    go_wp2
    go_ret
    exact ⟨rfl, Below.refl _ _⟩
theorem esame (A : Option Addr) (n c : Nat) (l : List Ev) (B : Option Addr) (m c2 : Nat) (l2 : List Ev) (w : World) (hr : Rds w 15 A n c (evs l)) (hr2 : Rds w 15 B m c2 (evs l2)) :
    Calls Try.prog 13 #[.slice A n c, .slice B m c2] w fun e w' => e = .returned (.bool (decide (l = l2))) ∧ Below w.heap.size w w' := by
  have HE := Lib.hid (sequal A n c l B m c2 l2 w hr hr2)
  generalize decide (l = l2) = q at HE ⊢
  clear hr hr2
  go_enter Try.func13, Try.ntmps13
  go_wp2_with ((with_reducible refine HE.out.mono ?_); rintro e w1 ⟨rfl, hb1⟩)
  go_ret
  exact ⟨rfl, hb1⟩
end Go.Proofs.Ytdnddoiemaifjaa
