/- The reference's Batch, walked. -/
import Derived.Test.YtdnddoiemaifjaaRefBatch
import Derived.Test.YtdnddoiemaifjaaRegion
namespace Go.Proofs.Ytdnddoiemaifjaa
open Go.RowKit
set_option maxRecDepth 100000 in
set_option maxHeartbeats 16000000 in
theorem rbatch (A : Option Addr) (m c : Nat) (l : List Ev) (q : Int) (w : World) (hr : Rds w 15 A m c (evs l)) :
    Calls Try.prog 10 #[.slice A m c, .int .i64 q] w fun e w' => ∃ A1 c1 A2 c2, batchN l (max q 1).toNat ≤ m ∧ e = .returned (.tuple #[.slice A1 (batchN l (max q 1).toNat) c1, .slice A2 (m - batchN l (max q 1).toNat) c2]) ∧
      Rds w' 15 A1 (batchN l (max q 1).toNat) c1 (evs (l.take (batchN l (max q 1).toNat))) ∧ Rds w' 15 A2 (m - batchN l (max q 1).toNat) c2 (evs (l.drop (batchN l (max q 1).toNat))) ∧ Below w.heap.size w w' := by
  have HN := Lib.hid (evs_len hr)
  have hmax : m ≤ 9223372036854775807 := by have := hr.le; have := hr.max; unfold maxLen at this; omega
  have hmx : (m : Int) ≤ 9223372036854775807 := by omega
  by_cases hq : q < 1
  · have hM : (max q 1).toNat = 1 := by omega
    rw [hM]
    have HQ0 : Hid (((0 : Nat) : Int) < 1) := by show _ < _; omega
    clear hM hmax
    go_enter Try.func10, Try.ntmps10
    go_wp2
    go_loopw [12] (fun iv wr => ∃ k : Nat, k ≤ m ∧ iv = .int .i64 k ∧ Below w.heap.size w wr ∧ Hid ((k : Int) < 1) ∧ Hid (∀ j (h : j < l.length), j < k → pre l[j] = false)) (fun iv _ => m - (intOf iv).toNat)
    case atStart => exact ⟨0, Nat.zero_le _, rfl, Below.refl _ _, HQ0.out, fun j h hj => absurd hj (Nat.not_lt_zero _)⟩
    case round =>
      obtain ⟨k, hk, rfl, hb, HK, HP⟩ := hrel
      by_cases hlt : k < m
      · have hkx : k < l.length := by rw [HN.out]; exact hlt
        obtain ⟨ad, rfl⟩ := hr.some_ (by omega)
        have ha := ev_read (hr.below hb) k l[k] (List.getElem?_eq_getElem hkx)
        have HBA := Lib.hid (fun h : k + 1 = 1 ∨ pre l[k] = true => batchN_at hkx (by have := HK.out; omega) HP.out h)
        have HNX : Hid (pre l[k] = false → ∀ j (h : j < l.length), j < k + 1 → pre l[j] = false) := by
          intro h0 j h hj
          by_cases hjk : j = k
          · subst hjk; exact h0
          · exact HP.out j h (by omega)
        have HPD : Hid (pre l[k] = decide (l[k].kind = 2)) := rfl
        generalize l[k] = y at ha HBA HNX HPD
        have hb1 : Below w.heap.size w (wr.alloc (.cells (evC y).toArray 30)) := below_al hb _
        obtain ⟨e0, e1, e2, e3, e4, e5, e6, e7, e8, e9, e10, e11, e12, e13, e14⟩ := y
        obtain ⟨c0, c1, c2, c3, c4, c5, c6, c7, c8, c9, c10, c11, c12, c13, c14⟩ := ha
        simp only at c0 c1 c2 c3 c4 c5 c6 c7 c8 c9 c10 c11 c12 c13 c14 HPD
        unfold evC at hb1
        simp only at hb1
        have hki : (k : Int) < m := by omega
        have hkc : k + 1 ≤ c := by have := hr.le; omega
        obtain ⟨A5, hA5⟩ : ∃ A5 : Addr, (if c = k + 1 then ad else ad.add ((k + 1) * 15)) = A5 := ⟨_, rfl⟩
        have HA := Lib.hid hA5
        clear hkx hA5
        by_cases hq1 : (k : Int) + 1 = 1
        · have p1 : ((k : Int) + 1 == 1) = true := by simpa using hq1
          have HB : Hid (batchN l 1 = k + 1) := HBA.out (.inl (by omega))
          clear hq1 HBA
          go_wp2
          obtain ⟨T, hT⟩ : ∃ T : Nat → Fact, ∀ t_, T t_ = ([Fact.eq (.slice (some ad) m c), Fact.eq (.int .i64 k), Fact.eq (.int .i64 ((k : Int) + 1)), Fact.eq (.slice (some ad) (k + 1) c), Fact.eq (.slice (some ad) m c), Fact.eq (.int .i64 k), Fact.eq (.int .i64 ((k : Int) + 1)), Fact.eq (.slice (some A5) (m - (k + 1)) (c - (k + 1))), Fact.eq (.slice (some ad) (k + 1) c), Fact.eq (.slice (some A5) (m - (k + 1)) (c - (k + 1)))] : List (Fact)).getD t_ Fact.any := ⟨_, fun _ => rfl⟩
          refine region_tab [(0, 26), (1, 27), (2, 28), (3, 29), (4, 30), (5, 31), (6, 32), (7, 33), (8, 4), (9, 5)] T (by kernel_rfl) (by kernel_rfl) (by kernel_rfl) (by kernel_rfl) (by kernel_rfl) ?_ ?_
          · skip
            refine stepsAll_cons (k := 0) ?_ ?_
            · intro fa fx fW hF fB hE K fK
              have ev0 : fa.tmps[0]?.getD undef = .slice (some ad) m c := hF.eo 0 (by kernel_rfl)
              refine wpOp_val rfl (wanted_none rfl) ?_ (fK (.slice (some ad) m c) fW (Below.refl _ _) (by rw [hT]; exact rfl))
              clear fK hE hF
              go_simp
            refine stepsAll_cons (k := 1) ?_ ?_
            · intro fa fx fW hF fB hE K fK
              have ev6 : fa.tmps[6]?.getD undef = .int .i64 k := hF.eo 6 (by kernel_rfl)
              refine wpOp_val rfl (wanted_none rfl) ?_ (fK (.int .i64 k) fW (Below.refl _ _) (by rw [hT]; exact rfl))
              clear fK hE hF
              go_simp
            refine stepsAll_cons (k := 2) ?_ ?_
            · intro fa fx fW hF fB hE K fK
              have q1 : fx 1 = .int .i64 k := by have q := hE ⟨1, .data⟩ (by simp) rfl; rw [hT] at q; exact q
              have ev27 : fa.tmps[27]?.getD undef = .int .i64 k := (hF.ev 1 27 (by kernel_rfl)).trans q1
              refine wpOp_val rfl (wanted_none rfl) ?_ (fK (.int .i64 ((k : Int) + 1)) fW (Below.refl _ _) (by rw [hT]; exact rfl))
              clear fK hE hF
              go_simp
              rw [IntKind.wrap_i64]; omega
            refine stepsAll_cons (k := 3) ?_ ?_
            · intro fa fx fW hF fB hE K fK
              have q0 : fx 0 = .slice (some ad) m c := by have q := hE ⟨0, .data⟩ (by simp) rfl; rw [hT] at q; exact q
              have q2 : fx 2 = .int .i64 ((k : Int) + 1) := by have q := hE ⟨2, .data⟩ (by simp) rfl; rw [hT] at q; exact q
              have ev26 : fa.tmps[26]?.getD undef = .slice (some ad) m c := (hF.ev 0 26 (by kernel_rfl)).trans q0
              have ev28 : fa.tmps[28]?.getD undef = .int .i64 ((k : Int) + 1) := (hF.ev 2 28 (by kernel_rfl)).trans q2
              have z1 : (0 : Int) ≤ (k : Int) + 1 := by omega
              have z2 : (k : Int) + 1 ≤ c := by omega
              refine wpOp_val rfl (wanted_none rfl) ?_ (fK (.slice (some ad) (k + 1) c) fW (Below.refl _ _) (by rw [hT]; exact rfl))
              clear fK hE hF
              go_simp
            refine stepsAll_cons (k := 4) ?_ ?_
            · intro fa fx fW hF fB hE K fK
              have ev0 : fa.tmps[0]?.getD undef = .slice (some ad) m c := hF.eo 0 (by kernel_rfl)
              refine wpOp_val rfl (wanted_none rfl) ?_ (fK (.slice (some ad) m c) fW (Below.refl _ _) (by rw [hT]; exact rfl))
              clear fK hE hF
              go_simp
            refine stepsAll_cons (k := 5) ?_ ?_
            · intro fa fx fW hF fB hE K fK
              have ev6 : fa.tmps[6]?.getD undef = .int .i64 k := hF.eo 6 (by kernel_rfl)
              refine wpOp_val rfl (wanted_none rfl) ?_ (fK (.int .i64 k) fW (Below.refl _ _) (by rw [hT]; exact rfl))
              clear fK hE hF
              go_simp
            refine stepsAll_cons (k := 6) ?_ ?_
            · intro fa fx fW hF fB hE K fK
              have q5 : fx 5 = .int .i64 k := by have q := hE ⟨5, .data⟩ (by simp) rfl; rw [hT] at q; exact q
              have ev31 : fa.tmps[31]?.getD undef = .int .i64 k := (hF.ev 5 31 (by kernel_rfl)).trans q5
              refine wpOp_val rfl (wanted_none rfl) ?_ (fK (.int .i64 ((k : Int) + 1)) fW (Below.refl _ _) (by rw [hT]; exact rfl))
              clear fK hE hF
              go_simp
              rw [IntKind.wrap_i64]; omega
            refine stepsAll_cons (k := 7) ?_ ?_
            · intro fa fx fW hF fB hE K fK
              have q4 : fx 4 = .slice (some ad) m c := by have q := hE ⟨4, .data⟩ (by simp) rfl; rw [hT] at q; exact q
              have q6 : fx 6 = .int .i64 ((k : Int) + 1) := by have q := hE ⟨6, .data⟩ (by simp) rfl; rw [hT] at q; exact q
              have ev30 : fa.tmps[30]?.getD undef = .slice (some ad) m c := (hF.ev 4 30 (by kernel_rfl)).trans q4
              have ev32 : fa.tmps[32]?.getD undef = .int .i64 ((k : Int) + 1) := (hF.ev 6 32 (by kernel_rfl)).trans q6
              refine wpOp_val rfl (wanted_none rfl) ?_ (fK (.slice (some A5) (m - (k + 1)) (c - (k + 1))) fW (Below.refl _ _) (by rw [hT]; exact rfl))
              clear fK hE hF
              have z1 : (0 : Int) ≤ (k : Int) + 1 := by omega
              have z3 : (k : Int) + 1 ≤ m := by omega
              have hA := HA.out
              by_cases hci : c = (k + 1)
              · rw [if_pos hci] at hA
                subst hA
                go_simp
              · rw [if_neg hci] at hA
                subst hA
                go_simp
            refine stepsAll_cons (k := 8) ?_ ?_
            · intro fa fx fW hF fB hE K fK
              have q3 : fx 3 = .slice (some ad) (k + 1) c := by have q := hE ⟨3, .data⟩ (by simp) rfl; rw [hT] at q; exact q
              have ev29 : fa.tmps[29]?.getD undef = .slice (some ad) (k + 1) c := (hF.ev 3 29 (by kernel_rfl)).trans q3
              refine wpOp_val rfl (wanted_none rfl) ?_ (fK (.slice (some ad) (k + 1) c) fW (Below.refl _ _) (by rw [hT]; exact rfl))
              clear fK hE hF
              go_simp
            refine stepsAll_cons (k := 9) ?_ ?_
            · intro fa fx fW hF fB hE K fK
              have q7 : fx 7 = .slice (some A5) (m - (k + 1)) (c - (k + 1)) := by have q := hE ⟨7, .data⟩ (by simp) rfl; rw [hT] at q; exact q
              have ev33 : fa.tmps[33]?.getD undef = .slice (some A5) (m - (k + 1)) (c - (k + 1)) := (hF.ev 7 33 (by kernel_rfl)).trans q7
              refine wpOp_val rfl (wanted_none rfl) ?_ (fK (.slice (some A5) (m - (k + 1)) (c - (k + 1))) fW (Below.refl _ _) (by rw [hT]; exact rfl))
              clear fK hE hF
              go_simp
            exact stepsAll_nil
          intro fa fx fW hF fB hx
          have q8 : fx 8 = .slice (some ad) (k + 1) c := by have q := hx 8 (by decide); rw [hT] at q; exact q
          have ev4 : fa.tmps[4]?.getD undef = .slice (some ad) (k + 1) c := (hF.ev 8 4 (by kernel_rfl)).trans q8
          have q9 : fx 9 = .slice (some A5) (m - (k + 1)) (c - (k + 1)) := by have q := hx 9 (by decide); rw [hT] at q; exact q
          have ev5 : fa.tmps[5]?.getD undef = .slice (some A5) (m - (k + 1)) (c - (k + 1)) := (hF.ev 9 5 (by kernel_rfl)).trans q9
          rw [hF.eq]
          clear hF hx
          simp only [putAll, Act.put, List.setIfInBounds_toArray, List.set_cons_zero, List.set_cons_succ, q8, q9]
          have hb9 := below_then hb1 hb1.size fB
          go_wp2
          refine bodyPost_ret (v := .tuple #[.slice (some ad) (k + 1) c, .slice (some A5) (m - (k + 1)) (c - (k + 1))]) (by simp [results, Try.results10, go_sem]) rfl ?_
          rw [HB.out]
          refine ⟨some ad, c, some A5, c - (k + 1), by omega, rfl, ?_, ?_, hb9⟩
          · have h := rds_one (hr.below hb9) (N := k + 1) (by omega)
            exact ⟨h.len, by omega, hr.max, hr.nil, h.cell⟩
          · rw [← HA.out]
            exact rds_rest (hr.below hb9) (by omega)
        · have p1 : ((k : Int) + 1 == 1) = false := by simpa using hq1
          have HKN : Hid (((k + 1 : Nat) : Int) < 1) := by have := HK.out; show _ < _; omega
          clear hq1
          by_cases hq2 : e0 = 2
          · have p2 : (e0 == 2) = true := by simpa using hq2
            have HB : Hid (batchN l 1 = k + 1) := HBA.out (.inr (by rw [HPD.out]; exact decide_eq_true hq2))
            clear hq2 HBA
            go_wp2
            obtain ⟨T, hT⟩ : ∃ T : Nat → Fact, ∀ t_, T t_ = ([Fact.eq (.slice (some ad) m c), Fact.eq (.int .i64 k), Fact.eq (.int .i64 ((k : Int) + 1)), Fact.eq (.slice (some ad) (k + 1) c), Fact.eq (.slice (some ad) m c), Fact.eq (.int .i64 k), Fact.eq (.int .i64 ((k : Int) + 1)), Fact.eq (.slice (some A5) (m - (k + 1)) (c - (k + 1))), Fact.eq (.slice (some ad) (k + 1) c), Fact.eq (.slice (some A5) (m - (k + 1)) (c - (k + 1)))] : List (Fact)).getD t_ Fact.any := ⟨_, fun _ => rfl⟩
            refine region_tab [(0, 26), (1, 27), (2, 28), (3, 29), (4, 30), (5, 31), (6, 32), (7, 33), (8, 4), (9, 5)] T (by kernel_rfl) (by kernel_rfl) (by kernel_rfl) (by kernel_rfl) (by kernel_rfl) ?_ ?_
            · skip
              refine stepsAll_cons (k := 0) ?_ ?_
              · intro fa fx fW hF fB hE K fK
                have ev0 : fa.tmps[0]?.getD undef = .slice (some ad) m c := hF.eo 0 (by kernel_rfl)
                refine wpOp_val rfl (wanted_none rfl) ?_ (fK (.slice (some ad) m c) fW (Below.refl _ _) (by rw [hT]; exact rfl))
                clear fK hE hF
                go_simp
              refine stepsAll_cons (k := 1) ?_ ?_
              · intro fa fx fW hF fB hE K fK
                have ev6 : fa.tmps[6]?.getD undef = .int .i64 k := hF.eo 6 (by kernel_rfl)
                refine wpOp_val rfl (wanted_none rfl) ?_ (fK (.int .i64 k) fW (Below.refl _ _) (by rw [hT]; exact rfl))
                clear fK hE hF
                go_simp
              refine stepsAll_cons (k := 2) ?_ ?_
              · intro fa fx fW hF fB hE K fK
                have q1 : fx 1 = .int .i64 k := by have q := hE ⟨1, .data⟩ (by simp) rfl; rw [hT] at q; exact q
                have ev27 : fa.tmps[27]?.getD undef = .int .i64 k := (hF.ev 1 27 (by kernel_rfl)).trans q1
                refine wpOp_val rfl (wanted_none rfl) ?_ (fK (.int .i64 ((k : Int) + 1)) fW (Below.refl _ _) (by rw [hT]; exact rfl))
                clear fK hE hF
                go_simp
                rw [IntKind.wrap_i64]; omega
              refine stepsAll_cons (k := 3) ?_ ?_
              · intro fa fx fW hF fB hE K fK
                have q0 : fx 0 = .slice (some ad) m c := by have q := hE ⟨0, .data⟩ (by simp) rfl; rw [hT] at q; exact q
                have q2 : fx 2 = .int .i64 ((k : Int) + 1) := by have q := hE ⟨2, .data⟩ (by simp) rfl; rw [hT] at q; exact q
                have ev26 : fa.tmps[26]?.getD undef = .slice (some ad) m c := (hF.ev 0 26 (by kernel_rfl)).trans q0
                have ev28 : fa.tmps[28]?.getD undef = .int .i64 ((k : Int) + 1) := (hF.ev 2 28 (by kernel_rfl)).trans q2
                have z1 : (0 : Int) ≤ (k : Int) + 1 := by omega
                have z2 : (k : Int) + 1 ≤ c := by omega
                refine wpOp_val rfl (wanted_none rfl) ?_ (fK (.slice (some ad) (k + 1) c) fW (Below.refl _ _) (by rw [hT]; exact rfl))
                clear fK hE hF
                go_simp
              refine stepsAll_cons (k := 4) ?_ ?_
              · intro fa fx fW hF fB hE K fK
                have ev0 : fa.tmps[0]?.getD undef = .slice (some ad) m c := hF.eo 0 (by kernel_rfl)
                refine wpOp_val rfl (wanted_none rfl) ?_ (fK (.slice (some ad) m c) fW (Below.refl _ _) (by rw [hT]; exact rfl))
                clear fK hE hF
                go_simp
              refine stepsAll_cons (k := 5) ?_ ?_
              · intro fa fx fW hF fB hE K fK
                have ev6 : fa.tmps[6]?.getD undef = .int .i64 k := hF.eo 6 (by kernel_rfl)
                refine wpOp_val rfl (wanted_none rfl) ?_ (fK (.int .i64 k) fW (Below.refl _ _) (by rw [hT]; exact rfl))
                clear fK hE hF
                go_simp
              refine stepsAll_cons (k := 6) ?_ ?_
              · intro fa fx fW hF fB hE K fK
                have q5 : fx 5 = .int .i64 k := by have q := hE ⟨5, .data⟩ (by simp) rfl; rw [hT] at q; exact q
                have ev31 : fa.tmps[31]?.getD undef = .int .i64 k := (hF.ev 5 31 (by kernel_rfl)).trans q5
                refine wpOp_val rfl (wanted_none rfl) ?_ (fK (.int .i64 ((k : Int) + 1)) fW (Below.refl _ _) (by rw [hT]; exact rfl))
                clear fK hE hF
                go_simp
                rw [IntKind.wrap_i64]; omega
              refine stepsAll_cons (k := 7) ?_ ?_
              · intro fa fx fW hF fB hE K fK
                have q4 : fx 4 = .slice (some ad) m c := by have q := hE ⟨4, .data⟩ (by simp) rfl; rw [hT] at q; exact q
                have q6 : fx 6 = .int .i64 ((k : Int) + 1) := by have q := hE ⟨6, .data⟩ (by simp) rfl; rw [hT] at q; exact q
                have ev30 : fa.tmps[30]?.getD undef = .slice (some ad) m c := (hF.ev 4 30 (by kernel_rfl)).trans q4
                have ev32 : fa.tmps[32]?.getD undef = .int .i64 ((k : Int) + 1) := (hF.ev 6 32 (by kernel_rfl)).trans q6
                refine wpOp_val rfl (wanted_none rfl) ?_ (fK (.slice (some A5) (m - (k + 1)) (c - (k + 1))) fW (Below.refl _ _) (by rw [hT]; exact rfl))
                clear fK hE hF
                have z1 : (0 : Int) ≤ (k : Int) + 1 := by omega
                have z3 : (k : Int) + 1 ≤ m := by omega
                have hA := HA.out
                by_cases hci : c = (k + 1)
                · rw [if_pos hci] at hA
                  subst hA
                  go_simp
                · rw [if_neg hci] at hA
                  subst hA
                  go_simp
              refine stepsAll_cons (k := 8) ?_ ?_
              · intro fa fx fW hF fB hE K fK
                have q3 : fx 3 = .slice (some ad) (k + 1) c := by have q := hE ⟨3, .data⟩ (by simp) rfl; rw [hT] at q; exact q
                have ev29 : fa.tmps[29]?.getD undef = .slice (some ad) (k + 1) c := (hF.ev 3 29 (by kernel_rfl)).trans q3
                refine wpOp_val rfl (wanted_none rfl) ?_ (fK (.slice (some ad) (k + 1) c) fW (Below.refl _ _) (by rw [hT]; exact rfl))
                clear fK hE hF
                go_simp
              refine stepsAll_cons (k := 9) ?_ ?_
              · intro fa fx fW hF fB hE K fK
                have q7 : fx 7 = .slice (some A5) (m - (k + 1)) (c - (k + 1)) := by have q := hE ⟨7, .data⟩ (by simp) rfl; rw [hT] at q; exact q
                have ev33 : fa.tmps[33]?.getD undef = .slice (some A5) (m - (k + 1)) (c - (k + 1)) := (hF.ev 7 33 (by kernel_rfl)).trans q7
                refine wpOp_val rfl (wanted_none rfl) ?_ (fK (.slice (some A5) (m - (k + 1)) (c - (k + 1))) fW (Below.refl _ _) (by rw [hT]; exact rfl))
                clear fK hE hF
                go_simp
              exact stepsAll_nil
            intro fa fx fW hF fB hx
            have q8 : fx 8 = .slice (some ad) (k + 1) c := by have q := hx 8 (by decide); rw [hT] at q; exact q
            have ev4 : fa.tmps[4]?.getD undef = .slice (some ad) (k + 1) c := (hF.ev 8 4 (by kernel_rfl)).trans q8
            have q9 : fx 9 = .slice (some A5) (m - (k + 1)) (c - (k + 1)) := by have q := hx 9 (by decide); rw [hT] at q; exact q
            have ev5 : fa.tmps[5]?.getD undef = .slice (some A5) (m - (k + 1)) (c - (k + 1)) := (hF.ev 9 5 (by kernel_rfl)).trans q9
            rw [hF.eq]
            clear hF hx
            simp only [putAll, Act.put, List.setIfInBounds_toArray, List.set_cons_zero, List.set_cons_succ, q8, q9]
            have hb9 := below_then hb1 hb1.size fB
            go_wp2
            refine bodyPost_ret (v := .tuple #[.slice (some ad) (k + 1) c, .slice (some A5) (m - (k + 1)) (c - (k + 1))]) (by simp [results, Try.results10, go_sem]) rfl ?_
            rw [HB.out]
            refine ⟨some ad, c, some A5, c - (k + 1), by omega, rfl, ?_, ?_, hb9⟩
            · have h := rds_one (hr.below hb9) (N := k + 1) (by omega)
              exact ⟨h.len, by omega, hr.max, hr.nil, h.cell⟩
            · rw [← HA.out]
              exact rds_rest (hr.below hb9) (by omega)
          · have p2 : (e0 == 2) = false := by simpa using hq2
            have HNX2 := Lib.hid (HNX.out (by rw [HPD.out]; exact decide_eq_false hq2))
            clear hq2 HBA
            go_wp2
            exact ⟨⟨k + 1, by omega, by go_num, hb1, HKN.out, HNX2.out⟩, by simp only [intOf]; omega⟩
      · obtain rfl : k = m := by omega
        have HB : Hid (batchN l 1 = k) := by
          show _ = _
          rw [batchN_all (by have := HK.out; rw [HN.out]; omega) (fun j h => HP.out j h (by rw [← HN.out]; exact h)), HN.out]
        go_wp2
        refine bodyPost_ret (v := .tuple #[.slice A k c, .slice none 0 0]) (by simp [results, Try.results10, go_sem]) rfl ?_
        rw [HB.out, Nat.sub_self]
        refine ⟨A, c, none, 0, Nat.le_refl _, rfl, ?_, ?_, hb⟩
        · rw [List.take_of_length_le (by rw [HN.out]; exact Nat.le_refl _)]; exact hr.below hb
        · rw [List.drop_of_length_le (by rw [HN.out]; exact Nat.le_refl _)]; exact Rds.none_ _ _
  · obtain ⟨n, rfl⟩ := Int.eq_ofNat_of_zero_le (show 0 ≤ q by omega)
    have hM : (max (n : Int) 1).toNat = n := by omega
    rw [hM]
    have HQ0 : Hid (((0 : Nat) : Int) < (n : Int)) := by show _ < _; omega
    clear hM hmax
    go_enter Try.func10, Try.ntmps10
    go_wp2
    go_loopw [12] (fun iv wr => ∃ k : Nat, k ≤ m ∧ iv = .int .i64 k ∧ Below w.heap.size w wr ∧ Hid ((k : Int) < (n : Int)) ∧ Hid (∀ j (h : j < l.length), j < k → pre l[j] = false)) (fun iv _ => m - (intOf iv).toNat)
    case atStart => exact ⟨0, Nat.zero_le _, rfl, Below.refl _ _, HQ0.out, fun j h hj => absurd hj (Nat.not_lt_zero _)⟩
    case round =>
      obtain ⟨k, hk, rfl, hb, HK, HP⟩ := hrel
      by_cases hlt : k < m
      · have hkx : k < l.length := by rw [HN.out]; exact hlt
        obtain ⟨ad, rfl⟩ := hr.some_ (by omega)
        have ha := ev_read (hr.below hb) k l[k] (List.getElem?_eq_getElem hkx)
        have HBA := Lib.hid (fun h : k + 1 = n ∨ pre l[k] = true => batchN_at hkx (by have := HK.out; omega) HP.out h)
        have HNX : Hid (pre l[k] = false → ∀ j (h : j < l.length), j < k + 1 → pre l[j] = false) := by
          intro h0 j h hj
          by_cases hjk : j = k
          · subst hjk; exact h0
          · exact HP.out j h (by omega)
        have HPD : Hid (pre l[k] = decide (l[k].kind = 2)) := rfl
        generalize l[k] = y at ha HBA HNX HPD
        have hb1 : Below w.heap.size w (wr.alloc (.cells (evC y).toArray 30)) := below_al hb _
        obtain ⟨e0, e1, e2, e3, e4, e5, e6, e7, e8, e9, e10, e11, e12, e13, e14⟩ := y
        obtain ⟨c0, c1, c2, c3, c4, c5, c6, c7, c8, c9, c10, c11, c12, c13, c14⟩ := ha
        simp only at c0 c1 c2 c3 c4 c5 c6 c7 c8 c9 c10 c11 c12 c13 c14 HPD
        unfold evC at hb1
        simp only at hb1
        have hki : (k : Int) < m := by omega
        have hkc : k + 1 ≤ c := by have := hr.le; omega
        obtain ⟨A5, hA5⟩ : ∃ A5 : Addr, (if c = k + 1 then ad else ad.add ((k + 1) * 15)) = A5 := ⟨_, rfl⟩
        have HA := Lib.hid hA5
        clear hkx hA5
        by_cases hq1 : (k : Int) + 1 = (n : Int)
        · have p1 : ((k : Int) + 1 == (n : Int)) = true := by simpa using hq1
          have HB : Hid (batchN l n = k + 1) := HBA.out (.inl (by omega))
          clear hq1 HBA
          go_wp2
          obtain ⟨T, hT⟩ : ∃ T : Nat → Fact, ∀ t_, T t_ = ([Fact.eq (.slice (some ad) m c), Fact.eq (.int .i64 k), Fact.eq (.int .i64 ((k : Int) + 1)), Fact.eq (.slice (some ad) (k + 1) c), Fact.eq (.slice (some ad) m c), Fact.eq (.int .i64 k), Fact.eq (.int .i64 ((k : Int) + 1)), Fact.eq (.slice (some A5) (m - (k + 1)) (c - (k + 1))), Fact.eq (.slice (some ad) (k + 1) c), Fact.eq (.slice (some A5) (m - (k + 1)) (c - (k + 1)))] : List (Fact)).getD t_ Fact.any := ⟨_, fun _ => rfl⟩
          refine region_tab [(0, 26), (1, 27), (2, 28), (3, 29), (4, 30), (5, 31), (6, 32), (7, 33), (8, 4), (9, 5)] T (by kernel_rfl) (by kernel_rfl) (by kernel_rfl) (by kernel_rfl) (by kernel_rfl) ?_ ?_
          · skip
            refine stepsAll_cons (k := 0) ?_ ?_
            · intro fa fx fW hF fB hE K fK
              have ev0 : fa.tmps[0]?.getD undef = .slice (some ad) m c := hF.eo 0 (by kernel_rfl)
              refine wpOp_val rfl (wanted_none rfl) ?_ (fK (.slice (some ad) m c) fW (Below.refl _ _) (by rw [hT]; exact rfl))
              clear fK hE hF
              go_simp
            refine stepsAll_cons (k := 1) ?_ ?_
            · intro fa fx fW hF fB hE K fK
              have ev6 : fa.tmps[6]?.getD undef = .int .i64 k := hF.eo 6 (by kernel_rfl)
              refine wpOp_val rfl (wanted_none rfl) ?_ (fK (.int .i64 k) fW (Below.refl _ _) (by rw [hT]; exact rfl))
              clear fK hE hF
              go_simp
            refine stepsAll_cons (k := 2) ?_ ?_
            · intro fa fx fW hF fB hE K fK
              have q1 : fx 1 = .int .i64 k := by have q := hE ⟨1, .data⟩ (by simp) rfl; rw [hT] at q; exact q
              have ev27 : fa.tmps[27]?.getD undef = .int .i64 k := (hF.ev 1 27 (by kernel_rfl)).trans q1
              refine wpOp_val rfl (wanted_none rfl) ?_ (fK (.int .i64 ((k : Int) + 1)) fW (Below.refl _ _) (by rw [hT]; exact rfl))
              clear fK hE hF
              go_simp
              rw [IntKind.wrap_i64]; omega
            refine stepsAll_cons (k := 3) ?_ ?_
            · intro fa fx fW hF fB hE K fK
              have q0 : fx 0 = .slice (some ad) m c := by have q := hE ⟨0, .data⟩ (by simp) rfl; rw [hT] at q; exact q
              have q2 : fx 2 = .int .i64 ((k : Int) + 1) := by have q := hE ⟨2, .data⟩ (by simp) rfl; rw [hT] at q; exact q
              have ev26 : fa.tmps[26]?.getD undef = .slice (some ad) m c := (hF.ev 0 26 (by kernel_rfl)).trans q0
              have ev28 : fa.tmps[28]?.getD undef = .int .i64 ((k : Int) + 1) := (hF.ev 2 28 (by kernel_rfl)).trans q2
              have z1 : (0 : Int) ≤ (k : Int) + 1 := by omega
              have z2 : (k : Int) + 1 ≤ c := by omega
              refine wpOp_val rfl (wanted_none rfl) ?_ (fK (.slice (some ad) (k + 1) c) fW (Below.refl _ _) (by rw [hT]; exact rfl))
              clear fK hE hF
              go_simp
            refine stepsAll_cons (k := 4) ?_ ?_
            · intro fa fx fW hF fB hE K fK
              have ev0 : fa.tmps[0]?.getD undef = .slice (some ad) m c := hF.eo 0 (by kernel_rfl)
              refine wpOp_val rfl (wanted_none rfl) ?_ (fK (.slice (some ad) m c) fW (Below.refl _ _) (by rw [hT]; exact rfl))
              clear fK hE hF
              go_simp
            refine stepsAll_cons (k := 5) ?_ ?_
            · intro fa fx fW hF fB hE K fK
              have ev6 : fa.tmps[6]?.getD undef = .int .i64 k := hF.eo 6 (by kernel_rfl)
              refine wpOp_val rfl (wanted_none rfl) ?_ (fK (.int .i64 k) fW (Below.refl _ _) (by rw [hT]; exact rfl))
              clear fK hE hF
              go_simp
            refine stepsAll_cons (k := 6) ?_ ?_
            · intro fa fx fW hF fB hE K fK
              have q5 : fx 5 = .int .i64 k := by have q := hE ⟨5, .data⟩ (by simp) rfl; rw [hT] at q; exact q
              have ev31 : fa.tmps[31]?.getD undef = .int .i64 k := (hF.ev 5 31 (by kernel_rfl)).trans q5
              refine wpOp_val rfl (wanted_none rfl) ?_ (fK (.int .i64 ((k : Int) + 1)) fW (Below.refl _ _) (by rw [hT]; exact rfl))
              clear fK hE hF
              go_simp
              rw [IntKind.wrap_i64]; omega
            refine stepsAll_cons (k := 7) ?_ ?_
            · intro fa fx fW hF fB hE K fK
              have q4 : fx 4 = .slice (some ad) m c := by have q := hE ⟨4, .data⟩ (by simp) rfl; rw [hT] at q; exact q
              have q6 : fx 6 = .int .i64 ((k : Int) + 1) := by have q := hE ⟨6, .data⟩ (by simp) rfl; rw [hT] at q; exact q
              have ev30 : fa.tmps[30]?.getD undef = .slice (some ad) m c := (hF.ev 4 30 (by kernel_rfl)).trans q4
              have ev32 : fa.tmps[32]?.getD undef = .int .i64 ((k : Int) + 1) := (hF.ev 6 32 (by kernel_rfl)).trans q6
              refine wpOp_val rfl (wanted_none rfl) ?_ (fK (.slice (some A5) (m - (k + 1)) (c - (k + 1))) fW (Below.refl _ _) (by rw [hT]; exact rfl))
              clear fK hE hF
              have z1 : (0 : Int) ≤ (k : Int) + 1 := by omega
              have z3 : (k : Int) + 1 ≤ m := by omega
              have hA := HA.out
              by_cases hci : c = (k + 1)
              · rw [if_pos hci] at hA
                subst hA
                go_simp
              · rw [if_neg hci] at hA
                subst hA
                go_simp
            refine stepsAll_cons (k := 8) ?_ ?_
            · intro fa fx fW hF fB hE K fK
              have q3 : fx 3 = .slice (some ad) (k + 1) c := by have q := hE ⟨3, .data⟩ (by simp) rfl; rw [hT] at q; exact q
              have ev29 : fa.tmps[29]?.getD undef = .slice (some ad) (k + 1) c := (hF.ev 3 29 (by kernel_rfl)).trans q3
              refine wpOp_val rfl (wanted_none rfl) ?_ (fK (.slice (some ad) (k + 1) c) fW (Below.refl _ _) (by rw [hT]; exact rfl))
              clear fK hE hF
              go_simp
            refine stepsAll_cons (k := 9) ?_ ?_
            · intro fa fx fW hF fB hE K fK
              have q7 : fx 7 = .slice (some A5) (m - (k + 1)) (c - (k + 1)) := by have q := hE ⟨7, .data⟩ (by simp) rfl; rw [hT] at q; exact q
              have ev33 : fa.tmps[33]?.getD undef = .slice (some A5) (m - (k + 1)) (c - (k + 1)) := (hF.ev 7 33 (by kernel_rfl)).trans q7
              refine wpOp_val rfl (wanted_none rfl) ?_ (fK (.slice (some A5) (m - (k + 1)) (c - (k + 1))) fW (Below.refl _ _) (by rw [hT]; exact rfl))
              clear fK hE hF
              go_simp
            exact stepsAll_nil
          intro fa fx fW hF fB hx
          have q8 : fx 8 = .slice (some ad) (k + 1) c := by have q := hx 8 (by decide); rw [hT] at q; exact q
          have ev4 : fa.tmps[4]?.getD undef = .slice (some ad) (k + 1) c := (hF.ev 8 4 (by kernel_rfl)).trans q8
          have q9 : fx 9 = .slice (some A5) (m - (k + 1)) (c - (k + 1)) := by have q := hx 9 (by decide); rw [hT] at q; exact q
          have ev5 : fa.tmps[5]?.getD undef = .slice (some A5) (m - (k + 1)) (c - (k + 1)) := (hF.ev 9 5 (by kernel_rfl)).trans q9
          rw [hF.eq]
          clear hF hx
          simp only [putAll, Act.put, List.setIfInBounds_toArray, List.set_cons_zero, List.set_cons_succ, q8, q9]
          have hb9 := below_then hb1 hb1.size fB
          go_wp2
          refine bodyPost_ret (v := .tuple #[.slice (some ad) (k + 1) c, .slice (some A5) (m - (k + 1)) (c - (k + 1))]) (by simp [results, Try.results10, go_sem]) rfl ?_
          rw [HB.out]
          refine ⟨some ad, c, some A5, c - (k + 1), by omega, rfl, ?_, ?_, hb9⟩
          · have h := rds_one (hr.below hb9) (N := k + 1) (by omega)
            exact ⟨h.len, by omega, hr.max, hr.nil, h.cell⟩
          · rw [← HA.out]
            exact rds_rest (hr.below hb9) (by omega)
        · have p1 : ((k : Int) + 1 == (n : Int)) = false := by simpa using hq1
          have HKN : Hid (((k + 1 : Nat) : Int) < (n : Int)) := by have := HK.out; show _ < _; omega
          clear hq1
          by_cases hq2 : e0 = 2
          · have p2 : (e0 == 2) = true := by simpa using hq2
            have HB : Hid (batchN l n = k + 1) := HBA.out (.inr (by rw [HPD.out]; exact decide_eq_true hq2))
            clear hq2 HBA
            go_wp2
            obtain ⟨T, hT⟩ : ∃ T : Nat → Fact, ∀ t_, T t_ = ([Fact.eq (.slice (some ad) m c), Fact.eq (.int .i64 k), Fact.eq (.int .i64 ((k : Int) + 1)), Fact.eq (.slice (some ad) (k + 1) c), Fact.eq (.slice (some ad) m c), Fact.eq (.int .i64 k), Fact.eq (.int .i64 ((k : Int) + 1)), Fact.eq (.slice (some A5) (m - (k + 1)) (c - (k + 1))), Fact.eq (.slice (some ad) (k + 1) c), Fact.eq (.slice (some A5) (m - (k + 1)) (c - (k + 1)))] : List (Fact)).getD t_ Fact.any := ⟨_, fun _ => rfl⟩
            refine region_tab [(0, 26), (1, 27), (2, 28), (3, 29), (4, 30), (5, 31), (6, 32), (7, 33), (8, 4), (9, 5)] T (by kernel_rfl) (by kernel_rfl) (by kernel_rfl) (by kernel_rfl) (by kernel_rfl) ?_ ?_
            · skip
              refine stepsAll_cons (k := 0) ?_ ?_
              · intro fa fx fW hF fB hE K fK
                have ev0 : fa.tmps[0]?.getD undef = .slice (some ad) m c := hF.eo 0 (by kernel_rfl)
                refine wpOp_val rfl (wanted_none rfl) ?_ (fK (.slice (some ad) m c) fW (Below.refl _ _) (by rw [hT]; exact rfl))
                clear fK hE hF
                go_simp
              refine stepsAll_cons (k := 1) ?_ ?_
              · intro fa fx fW hF fB hE K fK
                have ev6 : fa.tmps[6]?.getD undef = .int .i64 k := hF.eo 6 (by kernel_rfl)
                refine wpOp_val rfl (wanted_none rfl) ?_ (fK (.int .i64 k) fW (Below.refl _ _) (by rw [hT]; exact rfl))
                clear fK hE hF
                go_simp
              refine stepsAll_cons (k := 2) ?_ ?_
              · intro fa fx fW hF fB hE K fK
                have q1 : fx 1 = .int .i64 k := by have q := hE ⟨1, .data⟩ (by simp) rfl; rw [hT] at q; exact q
                have ev27 : fa.tmps[27]?.getD undef = .int .i64 k := (hF.ev 1 27 (by kernel_rfl)).trans q1
                refine wpOp_val rfl (wanted_none rfl) ?_ (fK (.int .i64 ((k : Int) + 1)) fW (Below.refl _ _) (by rw [hT]; exact rfl))
                clear fK hE hF
                go_simp
                rw [IntKind.wrap_i64]; omega
              refine stepsAll_cons (k := 3) ?_ ?_
              · intro fa fx fW hF fB hE K fK
                have q0 : fx 0 = .slice (some ad) m c := by have q := hE ⟨0, .data⟩ (by simp) rfl; rw [hT] at q; exact q
                have q2 : fx 2 = .int .i64 ((k : Int) + 1) := by have q := hE ⟨2, .data⟩ (by simp) rfl; rw [hT] at q; exact q
                have ev26 : fa.tmps[26]?.getD undef = .slice (some ad) m c := (hF.ev 0 26 (by kernel_rfl)).trans q0
                have ev28 : fa.tmps[28]?.getD undef = .int .i64 ((k : Int) + 1) := (hF.ev 2 28 (by kernel_rfl)).trans q2
                have z1 : (0 : Int) ≤ (k : Int) + 1 := by omega
                have z2 : (k : Int) + 1 ≤ c := by omega
                refine wpOp_val rfl (wanted_none rfl) ?_ (fK (.slice (some ad) (k + 1) c) fW (Below.refl _ _) (by rw [hT]; exact rfl))
                clear fK hE hF
                go_simp
              refine stepsAll_cons (k := 4) ?_ ?_
              · intro fa fx fW hF fB hE K fK
                have ev0 : fa.tmps[0]?.getD undef = .slice (some ad) m c := hF.eo 0 (by kernel_rfl)
                refine wpOp_val rfl (wanted_none rfl) ?_ (fK (.slice (some ad) m c) fW (Below.refl _ _) (by rw [hT]; exact rfl))
                clear fK hE hF
                go_simp
              refine stepsAll_cons (k := 5) ?_ ?_
              · intro fa fx fW hF fB hE K fK
                have ev6 : fa.tmps[6]?.getD undef = .int .i64 k := hF.eo 6 (by kernel_rfl)
                refine wpOp_val rfl (wanted_none rfl) ?_ (fK (.int .i64 k) fW (Below.refl _ _) (by rw [hT]; exact rfl))
                clear fK hE hF
                go_simp
              refine stepsAll_cons (k := 6) ?_ ?_
              · intro fa fx fW hF fB hE K fK
                have q5 : fx 5 = .int .i64 k := by have q := hE ⟨5, .data⟩ (by simp) rfl; rw [hT] at q; exact q
                have ev31 : fa.tmps[31]?.getD undef = .int .i64 k := (hF.ev 5 31 (by kernel_rfl)).trans q5
                refine wpOp_val rfl (wanted_none rfl) ?_ (fK (.int .i64 ((k : Int) + 1)) fW (Below.refl _ _) (by rw [hT]; exact rfl))
                clear fK hE hF
                go_simp
                rw [IntKind.wrap_i64]; omega
              refine stepsAll_cons (k := 7) ?_ ?_
              · intro fa fx fW hF fB hE K fK
                have q4 : fx 4 = .slice (some ad) m c := by have q := hE ⟨4, .data⟩ (by simp) rfl; rw [hT] at q; exact q
                have q6 : fx 6 = .int .i64 ((k : Int) + 1) := by have q := hE ⟨6, .data⟩ (by simp) rfl; rw [hT] at q; exact q
                have ev30 : fa.tmps[30]?.getD undef = .slice (some ad) m c := (hF.ev 4 30 (by kernel_rfl)).trans q4
                have ev32 : fa.tmps[32]?.getD undef = .int .i64 ((k : Int) + 1) := (hF.ev 6 32 (by kernel_rfl)).trans q6
                refine wpOp_val rfl (wanted_none rfl) ?_ (fK (.slice (some A5) (m - (k + 1)) (c - (k + 1))) fW (Below.refl _ _) (by rw [hT]; exact rfl))
                clear fK hE hF
                have z1 : (0 : Int) ≤ (k : Int) + 1 := by omega
                have z3 : (k : Int) + 1 ≤ m := by omega
                have hA := HA.out
                by_cases hci : c = (k + 1)
                · rw [if_pos hci] at hA
                  subst hA
                  go_simp
                · rw [if_neg hci] at hA
                  subst hA
                  go_simp
              refine stepsAll_cons (k := 8) ?_ ?_
              · intro fa fx fW hF fB hE K fK
                have q3 : fx 3 = .slice (some ad) (k + 1) c := by have q := hE ⟨3, .data⟩ (by simp) rfl; rw [hT] at q; exact q
                have ev29 : fa.tmps[29]?.getD undef = .slice (some ad) (k + 1) c := (hF.ev 3 29 (by kernel_rfl)).trans q3
                refine wpOp_val rfl (wanted_none rfl) ?_ (fK (.slice (some ad) (k + 1) c) fW (Below.refl _ _) (by rw [hT]; exact rfl))
                clear fK hE hF
                go_simp
              refine stepsAll_cons (k := 9) ?_ ?_
              · intro fa fx fW hF fB hE K fK
                have q7 : fx 7 = .slice (some A5) (m - (k + 1)) (c - (k + 1)) := by have q := hE ⟨7, .data⟩ (by simp) rfl; rw [hT] at q; exact q
                have ev33 : fa.tmps[33]?.getD undef = .slice (some A5) (m - (k + 1)) (c - (k + 1)) := (hF.ev 7 33 (by kernel_rfl)).trans q7
                refine wpOp_val rfl (wanted_none rfl) ?_ (fK (.slice (some A5) (m - (k + 1)) (c - (k + 1))) fW (Below.refl _ _) (by rw [hT]; exact rfl))
                clear fK hE hF
                go_simp
              exact stepsAll_nil
            intro fa fx fW hF fB hx
            have q8 : fx 8 = .slice (some ad) (k + 1) c := by have q := hx 8 (by decide); rw [hT] at q; exact q
            have ev4 : fa.tmps[4]?.getD undef = .slice (some ad) (k + 1) c := (hF.ev 8 4 (by kernel_rfl)).trans q8
            have q9 : fx 9 = .slice (some A5) (m - (k + 1)) (c - (k + 1)) := by have q := hx 9 (by decide); rw [hT] at q; exact q
            have ev5 : fa.tmps[5]?.getD undef = .slice (some A5) (m - (k + 1)) (c - (k + 1)) := (hF.ev 9 5 (by kernel_rfl)).trans q9
            rw [hF.eq]
            clear hF hx
            simp only [putAll, Act.put, List.setIfInBounds_toArray, List.set_cons_zero, List.set_cons_succ, q8, q9]
            have hb9 := below_then hb1 hb1.size fB
            go_wp2
            refine bodyPost_ret (v := .tuple #[.slice (some ad) (k + 1) c, .slice (some A5) (m - (k + 1)) (c - (k + 1))]) (by simp [results, Try.results10, go_sem]) rfl ?_
            rw [HB.out]
            refine ⟨some ad, c, some A5, c - (k + 1), by omega, rfl, ?_, ?_, hb9⟩
            · have h := rds_one (hr.below hb9) (N := k + 1) (by omega)
              exact ⟨h.len, by omega, hr.max, hr.nil, h.cell⟩
            · rw [← HA.out]
              exact rds_rest (hr.below hb9) (by omega)
          · have p2 : (e0 == 2) = false := by simpa using hq2
            have HNX2 := Lib.hid (HNX.out (by rw [HPD.out]; exact decide_eq_false hq2))
            clear hq2 HBA
            go_wp2
            exact ⟨⟨k + 1, by omega, by go_num, hb1, HKN.out, HNX2.out⟩, by simp only [intOf]; omega⟩
      · obtain rfl : k = m := by omega
        have HB : Hid (batchN l n = k) := by
          show _ = _
          rw [batchN_all (by have := HK.out; rw [HN.out]; omega) (fun j h => HP.out j h (by rw [← HN.out]; exact h)), HN.out]
        go_wp2
        refine bodyPost_ret (v := .tuple #[.slice A k c, .slice none 0 0]) (by simp [results, Try.results10, go_sem]) rfl ?_
        rw [HB.out, Nat.sub_self]
        refine ⟨A, c, none, 0, Nat.le_refl _, rfl, ?_, ?_, hb⟩
        · rw [List.take_of_length_le (by rw [HN.out]; exact Nat.le_refl _)]; exact hr.below hb
        · rw [List.drop_of_length_le (by rw [HN.out]; exact Nat.le_refl _)]; exact Rds.none_ _ _
end Go.Proofs.Ytdnddoiemaifjaa
