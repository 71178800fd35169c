/- Package event: Batch of any row, at any number. -/
import Derived.Test.YtdnddoiemaifjaaBatchAll
namespace Go.Proofs.Ytdnddoiemaifjaa
open Go.RowKit
set_option maxRecDepth 100000 in
set_option maxHeartbeats 4000000 in
theorem sbatchW (ad : Addr) (m c : Nat) (l : List Ev) (n : Nat) (w : World) (hr : Rds w 15 (some ad) m c (evs l)) (hn : 1 ≤ n) :
    Calls Try.prog 8 #[.slice (some ad) m c, .int .i64 n] w fun e w' => e = .returned (.tuple #[.slice (some ad) (batchN l n) (batchN l n), .slice (some (if c = batchN l n then ad else ad.add (batchN l n * 15))) (m - batchN l n) (c - batchN l n)]) ∧ Below w.heap.size w w' := by
  have HN : Hid (l.length = m) := evs_len hr
  have hmc := hr.le
  have hmx := hr.max
  unfold maxLen at hmx
  obtain ⟨k, hk⟩ : ∃ k, k = min m n := ⟨_, rfl⟩
  have hkm : k ≤ m := by omega
  have hif : (if n < m then (n : Int) else (m : Int)) = k := by split <;> omega
  have HK : Hid (k = min l.length n) := by show _ = _; rw [HN.out]; exact hk
  have hT : Rds w 15 (some ad) k c (evs (l.take k)) := by
    have h := rds_one hr hkm
    exact ⟨h.len, by omega, hr.max, hr.nil, h.cell⟩
  have HI := Lib.hid (indexEv 21 #[] (fun _ _ => rfl) pre (some ad) k c (l.take k) w hT (fun x _ W' _ => sbatch1 x W'))
  have hx := idxP_lt pre (l.take k)
  have HL : Hid (batchN l n ≤ m) := by have := batchN_le l n; rw [HN.out] at this; show _ ≤ _; omega
  rw [List.length_take, HN.out] at hx
  clear hT hk
  rcases (show (∃ x : Nat, idxP pre (l.take k) = x) ∨ idxP pre (l.take k) = -1 by
    by_cases h : 0 ≤ idxP pre (l.take k)
    · exact .inl ⟨(idxP pre (l.take k)).toNat, by omega⟩
    · exact .inr (by omega)) with ⟨x, he⟩ | he
  · have HB := Lib.hid (batchN_some HK.out he)
    rw [he] at HI
    obtain ⟨N, hNe⟩ : ∃ N, N = batchN l n := ⟨_, rfl⟩
    rw [← hNe] at HB HL ⊢
    have hNx : N = x + 1 := HB.out
    subst hNx
    have hNm := HL.out
    have hNc : (x + 1) ≤ c := by omega
    obtain ⟨A5, hA5⟩ : ∃ A5 : Addr, (if c = (x + 1) then ad else ad.add ((x + 1) * 15)) = A5 := ⟨_, rfl⟩
    have HA := Lib.hid hA5
    rw [hA5]
    clear hA5 hNe HK hx
    go_enter Try.func8, Try.ntmps8
    go_wp2_with (go_at_call 20; (with_reducible refine HI.out.mono ?_); rintro e w1 ⟨rfl, hb1⟩)
    obtain ⟨T, hT⟩ : ∃ T : Nat → Fact, ∀ t_, T t_ = ([Fact.eq (.slice (some ad) m c), Fact.eq (.int .i64 (x + 1)), Fact.eq (.int .i64 (x + 1)), Fact.eq (.slice (some ad) (x + 1) (x + 1)), Fact.eq (.slice (some ad) m c), Fact.eq (.int .i64 (x + 1)), Fact.eq (.slice (some A5) (m - (x + 1)) (c - (x + 1))), Fact.eq (.slice (some ad) (x + 1) (x + 1)), Fact.eq (.slice (some A5) (m - (x + 1)) (c - (x + 1)))] : List (Fact)).getD t_ Fact.any := ⟨_, fun _ => rfl⟩
    refine region_tab [(0, 21), (1, 22), (2, 23), (3, 24), (4, 25), (5, 26), (6, 27), (7, 4), (8, 5)] T (by kernel_rfl) (by kernel_rfl) (by kernel_rfl) (by kernel_rfl) (by kernel_rfl) ?_ ?_
    · skip
      refine stepsAll_cons (k := 0) ?_ ?_
      · intro fa fx fW hF fB hE K fK
        have ev0 : fa.tmps[0]?.getD undef = .slice (some ad) m c := hF.eo 0 (by kernel_rfl)
        refine wpOp_val rfl (wanted_none rfl) ?_ (fK (.slice (some ad) m c) fW (Below.refl _ _) (by rw [hT]; exact rfl))
        clear fK hE hF
        go_simp
      refine stepsAll_cons (k := 1) ?_ ?_
      · intro fa fx fW hF fB hE K fK
        have ev6 : fa.tmps[6]?.getD undef = .int .i64 (x + 1) := hF.eo 6 (by kernel_rfl)
        refine wpOp_val rfl (wanted_none rfl) ?_ (fK (.int .i64 (x + 1)) fW (Below.refl _ _) (by rw [hT]; exact rfl))
        clear fK hE hF
        go_simp
      refine stepsAll_cons (k := 2) ?_ ?_
      · intro fa fx fW hF fB hE K fK
        have ev6 : fa.tmps[6]?.getD undef = .int .i64 (x + 1) := hF.eo 6 (by kernel_rfl)
        refine wpOp_val rfl (wanted_none rfl) ?_ (fK (.int .i64 (x + 1)) fW (Below.refl _ _) (by rw [hT]; exact rfl))
        clear fK hE hF
        go_simp
      refine stepsAll_cons (k := 3) ?_ ?_
      · intro fa fx fW hF fB hE K fK
        have q0 : fx 0 = .slice (some ad) m c := by have q := hE ⟨0, .data⟩ (by simp) rfl; rw [hT] at q; exact q
        have q1 : fx 1 = .int .i64 (x + 1) := by have q := hE ⟨1, .data⟩ (by simp) rfl; rw [hT] at q; exact q
        have q2 : fx 2 = .int .i64 (x + 1) := by have q := hE ⟨2, .data⟩ (by simp) rfl; rw [hT] at q; exact q
        have ev21 : fa.tmps[21]?.getD undef = .slice (some ad) m c := (hF.ev 0 21 (by kernel_rfl)).trans q0
        have ev22 : fa.tmps[22]?.getD undef = .int .i64 (x + 1) := (hF.ev 1 22 (by kernel_rfl)).trans q1
        have ev23 : fa.tmps[23]?.getD undef = .int .i64 (x + 1) := (hF.ev 2 23 (by kernel_rfl)).trans q2
        have z1 : (0 : Int) ≤ (x : Int) + 1 := by omega
        have z2 : (x : Int) + 1 ≤ c := by omega
        refine wpOp_val rfl (wanted_none rfl) ?_ (fK (.slice (some ad) (x + 1) (x + 1)) fW (Below.refl _ _) (by rw [hT]; exact rfl))
        clear fK hE hF
        go_simp
      refine stepsAll_cons (k := 4) ?_ ?_
      · intro fa fx fW hF fB hE K fK
        have ev0 : fa.tmps[0]?.getD undef = .slice (some ad) m c := hF.eo 0 (by kernel_rfl)
        refine wpOp_val rfl (wanted_none rfl) ?_ (fK (.slice (some ad) m c) fW (Below.refl _ _) (by rw [hT]; exact rfl))
        clear fK hE hF
        go_simp
      refine stepsAll_cons (k := 5) ?_ ?_
      · intro fa fx fW hF fB hE K fK
        have ev6 : fa.tmps[6]?.getD undef = .int .i64 (x + 1) := hF.eo 6 (by kernel_rfl)
        refine wpOp_val rfl (wanted_none rfl) ?_ (fK (.int .i64 (x + 1)) fW (Below.refl _ _) (by rw [hT]; exact rfl))
        clear fK hE hF
        go_simp
      refine stepsAll_cons (k := 6) ?_ ?_
      · intro fa fx fW hF fB hE K fK
        have q4 : fx 4 = .slice (some ad) m c := by have q := hE ⟨4, .data⟩ (by simp) rfl; rw [hT] at q; exact q
        have q5 : fx 5 = .int .i64 (x + 1) := by have q := hE ⟨5, .data⟩ (by simp) rfl; rw [hT] at q; exact q
        have ev25 : fa.tmps[25]?.getD undef = .slice (some ad) m c := (hF.ev 4 25 (by kernel_rfl)).trans q4
        have ev26 : fa.tmps[26]?.getD undef = .int .i64 (x + 1) := (hF.ev 5 26 (by kernel_rfl)).trans q5
        refine wpOp_val rfl (wanted_none rfl) ?_ (fK (.slice (some A5) (m - (x + 1)) (c - (x + 1))) fW (Below.refl _ _) (by rw [hT]; exact rfl))
        clear fK hE hF
        have z1 : (0 : Int) ≤ (x : Int) + 1 := by omega
        have z3 : (x : Int) + 1 ≤ m := by omega
        have hA := HA.out
        by_cases hci : c = (x + 1)
        · rw [if_pos hci] at hA
          subst hA
          go_simp
        · rw [if_neg hci] at hA
          subst hA
          go_simp
      refine stepsAll_cons (k := 7) ?_ ?_
      · intro fa fx fW hF fB hE K fK
        have q3 : fx 3 = .slice (some ad) (x + 1) (x + 1) := by have q := hE ⟨3, .data⟩ (by simp) rfl; rw [hT] at q; exact q
        have ev24 : fa.tmps[24]?.getD undef = .slice (some ad) (x + 1) (x + 1) := (hF.ev 3 24 (by kernel_rfl)).trans q3
        refine wpOp_val rfl (wanted_none rfl) ?_ (fK (.slice (some ad) (x + 1) (x + 1)) fW (Below.refl _ _) (by rw [hT]; exact rfl))
        clear fK hE hF
        go_simp
      refine stepsAll_cons (k := 8) ?_ ?_
      · intro fa fx fW hF fB hE K fK
        have q6 : fx 6 = .slice (some A5) (m - (x + 1)) (c - (x + 1)) := by have q := hE ⟨6, .data⟩ (by simp) rfl; rw [hT] at q; exact q
        have ev27 : fa.tmps[27]?.getD undef = .slice (some A5) (m - (x + 1)) (c - (x + 1)) := (hF.ev 6 27 (by kernel_rfl)).trans q6
        refine wpOp_val rfl (wanted_none rfl) ?_ (fK (.slice (some A5) (m - (x + 1)) (c - (x + 1))) fW (Below.refl _ _) (by rw [hT]; exact rfl))
        clear fK hE hF
        go_simp
      exact stepsAll_nil
    intro fa fx fW hF fB hx
    have q7 : fx 7 = .slice (some ad) (x + 1) (x + 1) := by have q := hx 7 (by decide); rw [hT] at q; exact q
    have ev4 : fa.tmps[4]?.getD undef = .slice (some ad) (x + 1) (x + 1) := (hF.ev 7 4 (by kernel_rfl)).trans q7
    have q8 : fx 8 = .slice (some A5) (m - (x + 1)) (c - (x + 1)) := by have q := hx 8 (by decide); rw [hT] at q; exact q
    have ev5 : fa.tmps[5]?.getD undef = .slice (some A5) (m - (x + 1)) (c - (x + 1)) := (hF.ev 8 5 (by kernel_rfl)).trans q8
    rw [hF.eq]
    clear hF hx
    simp only [putAll, Act.put, List.setIfInBounds_toArray, List.set_cons_zero, List.set_cons_succ, q7, q8]
    go_wp2
    exact bodyPost_ret (v := .tuple #[.slice (some ad) (x + 1) (x + 1), .slice (some A5) (m - (x + 1)) (c - (x + 1))]) (by simp [results, Try.results8, go_sem]) rfl ⟨rfl, below_tr hb1 fB⟩
  · have HB := Lib.hid (batchN_none HK.out he)
    rw [he] at HI
    obtain ⟨N, hNe⟩ : ∃ N, N = batchN l n := ⟨_, rfl⟩
    rw [← hNe] at HB HL ⊢
    have hNx : N = k := HB.out
    subst hNx
    have hNm := HL.out
    have hNc : N ≤ c := by omega
    obtain ⟨A5, hA5⟩ : ∃ A5 : Addr, (if c = N then ad else ad.add (N * 15)) = A5 := ⟨_, rfl⟩
    have HA := Lib.hid hA5
    rw [hA5]
    clear hA5 hNe HK hx
    go_enter Try.func8, Try.ntmps8
    go_wp2_with (go_at_call 20; (with_reducible refine HI.out.mono ?_); rintro e w1 ⟨rfl, hb1⟩)
    obtain ⟨T, hT⟩ : ∃ T : Nat → Fact, ∀ t_, T t_ = ([Fact.eq (.slice (some ad) m c), Fact.eq (.int .i64 N), Fact.eq (.int .i64 N), Fact.eq (.slice (some ad) N N), Fact.eq (.slice (some ad) m c), Fact.eq (.int .i64 N), Fact.eq (.slice (some A5) (m - N) (c - N)), Fact.eq (.slice (some ad) N N), Fact.eq (.slice (some A5) (m - N) (c - N))] : List (Fact)).getD t_ Fact.any := ⟨_, fun _ => rfl⟩
    refine region_tab [(0, 21), (1, 22), (2, 23), (3, 24), (4, 25), (5, 26), (6, 27), (7, 4), (8, 5)] T (by kernel_rfl) (by kernel_rfl) (by kernel_rfl) (by kernel_rfl) (by kernel_rfl) ?_ ?_
    · skip
      refine stepsAll_cons (k := 0) ?_ ?_
      · intro fa fx fW hF fB hE K fK
        have ev0 : fa.tmps[0]?.getD undef = .slice (some ad) m c := hF.eo 0 (by kernel_rfl)
        refine wpOp_val rfl (wanted_none rfl) ?_ (fK (.slice (some ad) m c) fW (Below.refl _ _) (by rw [hT]; exact rfl))
        clear fK hE hF
        go_simp
      refine stepsAll_cons (k := 1) ?_ ?_
      · intro fa fx fW hF fB hE K fK
        have ev6 : fa.tmps[6]?.getD undef = .int .i64 N := hF.eo 6 (by kernel_rfl)
        refine wpOp_val rfl (wanted_none rfl) ?_ (fK (.int .i64 N) fW (Below.refl _ _) (by rw [hT]; exact rfl))
        clear fK hE hF
        go_simp
      refine stepsAll_cons (k := 2) ?_ ?_
      · intro fa fx fW hF fB hE K fK
        have ev6 : fa.tmps[6]?.getD undef = .int .i64 N := hF.eo 6 (by kernel_rfl)
        refine wpOp_val rfl (wanted_none rfl) ?_ (fK (.int .i64 N) fW (Below.refl _ _) (by rw [hT]; exact rfl))
        clear fK hE hF
        go_simp
      refine stepsAll_cons (k := 3) ?_ ?_
      · intro fa fx fW hF fB hE K fK
        have q0 : fx 0 = .slice (some ad) m c := by have q := hE ⟨0, .data⟩ (by simp) rfl; rw [hT] at q; exact q
        have q1 : fx 1 = .int .i64 N := by have q := hE ⟨1, .data⟩ (by simp) rfl; rw [hT] at q; exact q
        have q2 : fx 2 = .int .i64 N := by have q := hE ⟨2, .data⟩ (by simp) rfl; rw [hT] at q; exact q
        have ev21 : fa.tmps[21]?.getD undef = .slice (some ad) m c := (hF.ev 0 21 (by kernel_rfl)).trans q0
        have ev22 : fa.tmps[22]?.getD undef = .int .i64 N := (hF.ev 1 22 (by kernel_rfl)).trans q1
        have ev23 : fa.tmps[23]?.getD undef = .int .i64 N := (hF.ev 2 23 (by kernel_rfl)).trans q2
        have z1 : (0 : Int) ≤ (N : Int) := by omega
        have z2 : (N : Int) ≤ c := by omega
        refine wpOp_val rfl (wanted_none rfl) ?_ (fK (.slice (some ad) N N) fW (Below.refl _ _) (by rw [hT]; exact rfl))
        clear fK hE hF
        go_simp
      refine stepsAll_cons (k := 4) ?_ ?_
      · intro fa fx fW hF fB hE K fK
        have ev0 : fa.tmps[0]?.getD undef = .slice (some ad) m c := hF.eo 0 (by kernel_rfl)
        refine wpOp_val rfl (wanted_none rfl) ?_ (fK (.slice (some ad) m c) fW (Below.refl _ _) (by rw [hT]; exact rfl))
        clear fK hE hF
        go_simp
      refine stepsAll_cons (k := 5) ?_ ?_
      · intro fa fx fW hF fB hE K fK
        have ev6 : fa.tmps[6]?.getD undef = .int .i64 N := hF.eo 6 (by kernel_rfl)
        refine wpOp_val rfl (wanted_none rfl) ?_ (fK (.int .i64 N) fW (Below.refl _ _) (by rw [hT]; exact rfl))
        clear fK hE hF
        go_simp
      refine stepsAll_cons (k := 6) ?_ ?_
      · intro fa fx fW hF fB hE K fK
        have q4 : fx 4 = .slice (some ad) m c := by have q := hE ⟨4, .data⟩ (by simp) rfl; rw [hT] at q; exact q
        have q5 : fx 5 = .int .i64 N := by have q := hE ⟨5, .data⟩ (by simp) rfl; rw [hT] at q; exact q
        have ev25 : fa.tmps[25]?.getD undef = .slice (some ad) m c := (hF.ev 4 25 (by kernel_rfl)).trans q4
        have ev26 : fa.tmps[26]?.getD undef = .int .i64 N := (hF.ev 5 26 (by kernel_rfl)).trans q5
        refine wpOp_val rfl (wanted_none rfl) ?_ (fK (.slice (some A5) (m - N) (c - N)) fW (Below.refl _ _) (by rw [hT]; exact rfl))
        clear fK hE hF
        have z1 : (0 : Int) ≤ (N : Int) := by omega
        have z3 : (N : Int) ≤ m := by omega
        have hA := HA.out
        by_cases hci : c = N
        · rw [if_pos hci] at hA
          subst hA
          go_simp
        · rw [if_neg hci] at hA
          subst hA
          go_simp
      refine stepsAll_cons (k := 7) ?_ ?_
      · intro fa fx fW hF fB hE K fK
        have q3 : fx 3 = .slice (some ad) N N := by have q := hE ⟨3, .data⟩ (by simp) rfl; rw [hT] at q; exact q
        have ev24 : fa.tmps[24]?.getD undef = .slice (some ad) N N := (hF.ev 3 24 (by kernel_rfl)).trans q3
        refine wpOp_val rfl (wanted_none rfl) ?_ (fK (.slice (some ad) N N) fW (Below.refl _ _) (by rw [hT]; exact rfl))
        clear fK hE hF
        go_simp
      refine stepsAll_cons (k := 8) ?_ ?_
      · intro fa fx fW hF fB hE K fK
        have q6 : fx 6 = .slice (some A5) (m - N) (c - N) := by have q := hE ⟨6, .data⟩ (by simp) rfl; rw [hT] at q; exact q
        have ev27 : fa.tmps[27]?.getD undef = .slice (some A5) (m - N) (c - N) := (hF.ev 6 27 (by kernel_rfl)).trans q6
        refine wpOp_val rfl (wanted_none rfl) ?_ (fK (.slice (some A5) (m - N) (c - N)) fW (Below.refl _ _) (by rw [hT]; exact rfl))
        clear fK hE hF
        go_simp
      exact stepsAll_nil
    intro fa fx fW hF fB hx
    have q7 : fx 7 = .slice (some ad) N N := by have q := hx 7 (by decide); rw [hT] at q; exact q
    have ev4 : fa.tmps[4]?.getD undef = .slice (some ad) N N := (hF.ev 7 4 (by kernel_rfl)).trans q7
    have q8 : fx 8 = .slice (some A5) (m - N) (c - N) := by have q := hx 8 (by decide); rw [hT] at q; exact q
    have ev5 : fa.tmps[5]?.getD undef = .slice (some A5) (m - N) (c - N) := (hF.ev 8 5 (by kernel_rfl)).trans q8
    rw [hF.eq]
    clear hF hx
    simp only [putAll, Act.put, List.setIfInBounds_toArray, List.set_cons_zero, List.set_cons_succ, q7, q8]
    go_wp2
    exact bodyPost_ret (v := .tuple #[.slice (some ad) N N, .slice (some A5) (m - N) (c - N)]) (by simp [results, Try.results8, go_sem]) rfl ⟨rfl, below_tr hb1 fB⟩

set_option maxRecDepth 100000 in
set_option maxHeartbeats 4000000 in
theorem sbatchN (q : Int) (hq : q < 1) (ad : Addr) (m c : Nat) (l : List Ev) (w : World) (hr : Rds w 15 (some ad) m c (evs l)) (hm : 0 < m) :
    Calls Try.prog 8 #[.slice (some ad) m c, .int .i64 q] w fun e w' => e = .returned (.tuple #[.slice (some ad) (batchN l 1) (batchN l 1), .slice (some (if c = batchN l 1 then ad else ad.add (batchN l 1 * 15))) (m - batchN l 1) (c - batchN l 1)]) ∧ Below w.heap.size w w' := by
  have hq1 : ¬ 1 ≤ q := by omega
  have hq2 : q ≤ 1 := by omega
  have HN : Hid (l.length = m) := evs_len hr
  have hmc := hr.le
  have hmx := hr.max
  unfold maxLen at hmx
  have hkm : 1 ≤ m := hm
  have hif : (if (1 : Int) < (m : Int) then (1 : Int) else (m : Int)) = 1 := by split <;> omega
  have HK : Hid (1 = min l.length 1) := by show _ = _; rw [HN.out]; omega
  have hT : Rds w 15 (some ad) 1 c (evs (l.take 1)) := by
    have h := rds_one hr hkm
    exact ⟨h.len, by omega, hr.max, hr.nil, h.cell⟩
  have HI := Lib.hid (indexEv 21 #[] (fun _ _ => rfl) pre (some ad) 1 c (l.take 1) w hT (fun x _ W' _ => sbatch1 x W'))
  have hx := idxP_lt pre (l.take 1)
  have HL : Hid (batchN l 1 ≤ m) := by have := batchN_le l 1; rw [HN.out] at this; show _ ≤ _; omega
  rw [List.length_take, HN.out] at hx
  clear hT
  rcases (show (∃ x : Nat, idxP pre (l.take 1) = x) ∨ idxP pre (l.take 1) = -1 by
    by_cases h : 0 ≤ idxP pre (l.take 1)
    · exact .inl ⟨(idxP pre (l.take 1)).toNat, by omega⟩
    · exact .inr (by omega)) with ⟨x, he⟩ | he
  · have HB := Lib.hid (batchN_some HK.out he)
    rw [he] at HI
    obtain ⟨N, hNe⟩ : ∃ N, N = batchN l 1 := ⟨_, rfl⟩
    rw [← hNe] at HB HL ⊢
    have hNx : N = x + 1 := HB.out
    subst hNx
    have hNm := HL.out
    have hNc : (x + 1) ≤ c := by omega
    obtain ⟨A5, hA5⟩ : ∃ A5 : Addr, (if c = (x + 1) then ad else ad.add ((x + 1) * 15)) = A5 := ⟨_, rfl⟩
    have HA := Lib.hid hA5
    rw [hA5]
    clear hA5 hNe HK hx
    go_enter Try.func8, Try.ntmps8
    go_wp2_with (go_at_call 20; (with_reducible refine HI.out.mono ?_); rintro e w1 ⟨rfl, hb1⟩)
    obtain ⟨T, hT⟩ : ∃ T : Nat → Fact, ∀ t_, T t_ = ([Fact.eq (.slice (some ad) m c), Fact.eq (.int .i64 (x + 1)), Fact.eq (.int .i64 (x + 1)), Fact.eq (.slice (some ad) (x + 1) (x + 1)), Fact.eq (.slice (some ad) m c), Fact.eq (.int .i64 (x + 1)), Fact.eq (.slice (some A5) (m - (x + 1)) (c - (x + 1))), Fact.eq (.slice (some ad) (x + 1) (x + 1)), Fact.eq (.slice (some A5) (m - (x + 1)) (c - (x + 1)))] : List (Fact)).getD t_ Fact.any := ⟨_, fun _ => rfl⟩
    refine region_tab [(0, 21), (1, 22), (2, 23), (3, 24), (4, 25), (5, 26), (6, 27), (7, 4), (8, 5)] T (by kernel_rfl) (by kernel_rfl) (by kernel_rfl) (by kernel_rfl) (by kernel_rfl) ?_ ?_
    · skip
      refine stepsAll_cons (k := 0) ?_ ?_
      · intro fa fx fW hF fB hE K fK
        have ev0 : fa.tmps[0]?.getD undef = .slice (some ad) m c := hF.eo 0 (by kernel_rfl)
        refine wpOp_val rfl (wanted_none rfl) ?_ (fK (.slice (some ad) m c) fW (Below.refl _ _) (by rw [hT]; exact rfl))
        clear fK hE hF
        go_simp
      refine stepsAll_cons (k := 1) ?_ ?_
      · intro fa fx fW hF fB hE K fK
        have ev6 : fa.tmps[6]?.getD undef = .int .i64 (x + 1) := hF.eo 6 (by kernel_rfl)
        refine wpOp_val rfl (wanted_none rfl) ?_ (fK (.int .i64 (x + 1)) fW (Below.refl _ _) (by rw [hT]; exact rfl))
        clear fK hE hF
        go_simp
      refine stepsAll_cons (k := 2) ?_ ?_
      · intro fa fx fW hF fB hE K fK
        have ev6 : fa.tmps[6]?.getD undef = .int .i64 (x + 1) := hF.eo 6 (by kernel_rfl)
        refine wpOp_val rfl (wanted_none rfl) ?_ (fK (.int .i64 (x + 1)) fW (Below.refl _ _) (by rw [hT]; exact rfl))
        clear fK hE hF
        go_simp
      refine stepsAll_cons (k := 3) ?_ ?_
      · intro fa fx fW hF fB hE K fK
        have q0 : fx 0 = .slice (some ad) m c := by have q := hE ⟨0, .data⟩ (by simp) rfl; rw [hT] at q; exact q
        have q1 : fx 1 = .int .i64 (x + 1) := by have q := hE ⟨1, .data⟩ (by simp) rfl; rw [hT] at q; exact q
        have q2 : fx 2 = .int .i64 (x + 1) := by have q := hE ⟨2, .data⟩ (by simp) rfl; rw [hT] at q; exact q
        have ev21 : fa.tmps[21]?.getD undef = .slice (some ad) m c := (hF.ev 0 21 (by kernel_rfl)).trans q0
        have ev22 : fa.tmps[22]?.getD undef = .int .i64 (x + 1) := (hF.ev 1 22 (by kernel_rfl)).trans q1
        have ev23 : fa.tmps[23]?.getD undef = .int .i64 (x + 1) := (hF.ev 2 23 (by kernel_rfl)).trans q2
        have z1 : (0 : Int) ≤ (x : Int) + 1 := by omega
        have z2 : (x : Int) + 1 ≤ c := by omega
        refine wpOp_val rfl (wanted_none rfl) ?_ (fK (.slice (some ad) (x + 1) (x + 1)) fW (Below.refl _ _) (by rw [hT]; exact rfl))
        clear fK hE hF
        go_simp
      refine stepsAll_cons (k := 4) ?_ ?_
      · intro fa fx fW hF fB hE K fK
        have ev0 : fa.tmps[0]?.getD undef = .slice (some ad) m c := hF.eo 0 (by kernel_rfl)
        refine wpOp_val rfl (wanted_none rfl) ?_ (fK (.slice (some ad) m c) fW (Below.refl _ _) (by rw [hT]; exact rfl))
        clear fK hE hF
        go_simp
      refine stepsAll_cons (k := 5) ?_ ?_
      · intro fa fx fW hF fB hE K fK
        have ev6 : fa.tmps[6]?.getD undef = .int .i64 (x + 1) := hF.eo 6 (by kernel_rfl)
        refine wpOp_val rfl (wanted_none rfl) ?_ (fK (.int .i64 (x + 1)) fW (Below.refl _ _) (by rw [hT]; exact rfl))
        clear fK hE hF
        go_simp
      refine stepsAll_cons (k := 6) ?_ ?_
      · intro fa fx fW hF fB hE K fK
        have q4 : fx 4 = .slice (some ad) m c := by have q := hE ⟨4, .data⟩ (by simp) rfl; rw [hT] at q; exact q
        have q5 : fx 5 = .int .i64 (x + 1) := by have q := hE ⟨5, .data⟩ (by simp) rfl; rw [hT] at q; exact q
        have ev25 : fa.tmps[25]?.getD undef = .slice (some ad) m c := (hF.ev 4 25 (by kernel_rfl)).trans q4
        have ev26 : fa.tmps[26]?.getD undef = .int .i64 (x + 1) := (hF.ev 5 26 (by kernel_rfl)).trans q5
        refine wpOp_val rfl (wanted_none rfl) ?_ (fK (.slice (some A5) (m - (x + 1)) (c - (x + 1))) fW (Below.refl _ _) (by rw [hT]; exact rfl))
        clear fK hE hF
        have z1 : (0 : Int) ≤ (x : Int) + 1 := by omega
        have z3 : (x : Int) + 1 ≤ m := by omega
        have hA := HA.out
        by_cases hci : c = (x + 1)
        · rw [if_pos hci] at hA
          subst hA
          go_simp
        · rw [if_neg hci] at hA
          subst hA
          go_simp
      refine stepsAll_cons (k := 7) ?_ ?_
      · intro fa fx fW hF fB hE K fK
        have q3 : fx 3 = .slice (some ad) (x + 1) (x + 1) := by have q := hE ⟨3, .data⟩ (by simp) rfl; rw [hT] at q; exact q
        have ev24 : fa.tmps[24]?.getD undef = .slice (some ad) (x + 1) (x + 1) := (hF.ev 3 24 (by kernel_rfl)).trans q3
        refine wpOp_val rfl (wanted_none rfl) ?_ (fK (.slice (some ad) (x + 1) (x + 1)) fW (Below.refl _ _) (by rw [hT]; exact rfl))
        clear fK hE hF
        go_simp
      refine stepsAll_cons (k := 8) ?_ ?_
      · intro fa fx fW hF fB hE K fK
        have q6 : fx 6 = .slice (some A5) (m - (x + 1)) (c - (x + 1)) := by have q := hE ⟨6, .data⟩ (by simp) rfl; rw [hT] at q; exact q
        have ev27 : fa.tmps[27]?.getD undef = .slice (some A5) (m - (x + 1)) (c - (x + 1)) := (hF.ev 6 27 (by kernel_rfl)).trans q6
        refine wpOp_val rfl (wanted_none rfl) ?_ (fK (.slice (some A5) (m - (x + 1)) (c - (x + 1))) fW (Below.refl _ _) (by rw [hT]; exact rfl))
        clear fK hE hF
        go_simp
      exact stepsAll_nil
    intro fa fx fW hF fB hx
    have q7 : fx 7 = .slice (some ad) (x + 1) (x + 1) := by have q := hx 7 (by decide); rw [hT] at q; exact q
    have ev4 : fa.tmps[4]?.getD undef = .slice (some ad) (x + 1) (x + 1) := (hF.ev 7 4 (by kernel_rfl)).trans q7
    have q8 : fx 8 = .slice (some A5) (m - (x + 1)) (c - (x + 1)) := by have q := hx 8 (by decide); rw [hT] at q; exact q
    have ev5 : fa.tmps[5]?.getD undef = .slice (some A5) (m - (x + 1)) (c - (x + 1)) := (hF.ev 8 5 (by kernel_rfl)).trans q8
    rw [hF.eq]
    clear hF hx
    simp only [putAll, Act.put, List.setIfInBounds_toArray, List.set_cons_zero, List.set_cons_succ, q7, q8]
    go_wp2
    exact bodyPost_ret (v := .tuple #[.slice (some ad) (x + 1) (x + 1), .slice (some A5) (m - (x + 1)) (c - (x + 1))]) (by simp [results, Try.results8, go_sem]) rfl ⟨rfl, below_tr hb1 fB⟩
  · have HB := Lib.hid (batchN_none HK.out he)
    rw [he] at HI
    obtain ⟨N, hNe⟩ : ∃ N, N = batchN l 1 := ⟨_, rfl⟩
    rw [← hNe] at HB HL ⊢
    have hNx : N = 1 := HB.out
    subst hNx
    have hNm := HL.out
    have hNc : 1 ≤ c := by omega
    obtain ⟨A5, hA5⟩ : ∃ A5 : Addr, (if c = 1 then ad else ad.add (1 * 15)) = A5 := ⟨_, rfl⟩
    have HA := Lib.hid hA5
    rw [hA5]
    clear hA5 hNe HK hx
    go_enter Try.func8, Try.ntmps8
    go_wp2_with (go_at_call 20; (with_reducible refine HI.out.mono ?_); rintro e w1 ⟨rfl, hb1⟩)
    obtain ⟨T, hT⟩ : ∃ T : Nat → Fact, ∀ t_, T t_ = ([Fact.eq (.slice (some ad) m c), Fact.eq (.int .i64 1), Fact.eq (.int .i64 1), Fact.eq (.slice (some ad) 1 1), Fact.eq (.slice (some ad) m c), Fact.eq (.int .i64 1), Fact.eq (.slice (some A5) (m - 1) (c - 1)), Fact.eq (.slice (some ad) 1 1), Fact.eq (.slice (some A5) (m - 1) (c - 1))] : List (Fact)).getD t_ Fact.any := ⟨_, fun _ => rfl⟩
    refine region_tab [(0, 21), (1, 22), (2, 23), (3, 24), (4, 25), (5, 26), (6, 27), (7, 4), (8, 5)] T (by kernel_rfl) (by kernel_rfl) (by kernel_rfl) (by kernel_rfl) (by kernel_rfl) ?_ ?_
    · skip
      refine stepsAll_cons (k := 0) ?_ ?_
      · intro fa fx fW hF fB hE K fK
        have ev0 : fa.tmps[0]?.getD undef = .slice (some ad) m c := hF.eo 0 (by kernel_rfl)
        refine wpOp_val rfl (wanted_none rfl) ?_ (fK (.slice (some ad) m c) fW (Below.refl _ _) (by rw [hT]; exact rfl))
        clear fK hE hF
        go_simp
      refine stepsAll_cons (k := 1) ?_ ?_
      · intro fa fx fW hF fB hE K fK
        have ev6 : fa.tmps[6]?.getD undef = .int .i64 1 := hF.eo 6 (by kernel_rfl)
        refine wpOp_val rfl (wanted_none rfl) ?_ (fK (.int .i64 1) fW (Below.refl _ _) (by rw [hT]; exact rfl))
        clear fK hE hF
        go_simp
      refine stepsAll_cons (k := 2) ?_ ?_
      · intro fa fx fW hF fB hE K fK
        have ev6 : fa.tmps[6]?.getD undef = .int .i64 1 := hF.eo 6 (by kernel_rfl)
        refine wpOp_val rfl (wanted_none rfl) ?_ (fK (.int .i64 1) fW (Below.refl _ _) (by rw [hT]; exact rfl))
        clear fK hE hF
        go_simp
      refine stepsAll_cons (k := 3) ?_ ?_
      · intro fa fx fW hF fB hE K fK
        have q0 : fx 0 = .slice (some ad) m c := by have q := hE ⟨0, .data⟩ (by simp) rfl; rw [hT] at q; exact q
        have q1 : fx 1 = .int .i64 1 := by have q := hE ⟨1, .data⟩ (by simp) rfl; rw [hT] at q; exact q
        have q2 : fx 2 = .int .i64 1 := by have q := hE ⟨2, .data⟩ (by simp) rfl; rw [hT] at q; exact q
        have ev21 : fa.tmps[21]?.getD undef = .slice (some ad) m c := (hF.ev 0 21 (by kernel_rfl)).trans q0
        have ev22 : fa.tmps[22]?.getD undef = .int .i64 1 := (hF.ev 1 22 (by kernel_rfl)).trans q1
        have ev23 : fa.tmps[23]?.getD undef = .int .i64 1 := (hF.ev 2 23 (by kernel_rfl)).trans q2
        have z1 : (0 : Int) ≤ (1 : Int) := by omega
        have z2 : (1 : Int) ≤ c := by omega
        refine wpOp_val rfl (wanted_none rfl) ?_ (fK (.slice (some ad) 1 1) fW (Below.refl _ _) (by rw [hT]; exact rfl))
        clear fK hE hF
        go_simp
      refine stepsAll_cons (k := 4) ?_ ?_
      · intro fa fx fW hF fB hE K fK
        have ev0 : fa.tmps[0]?.getD undef = .slice (some ad) m c := hF.eo 0 (by kernel_rfl)
        refine wpOp_val rfl (wanted_none rfl) ?_ (fK (.slice (some ad) m c) fW (Below.refl _ _) (by rw [hT]; exact rfl))
        clear fK hE hF
        go_simp
      refine stepsAll_cons (k := 5) ?_ ?_
      · intro fa fx fW hF fB hE K fK
        have ev6 : fa.tmps[6]?.getD undef = .int .i64 1 := hF.eo 6 (by kernel_rfl)
        refine wpOp_val rfl (wanted_none rfl) ?_ (fK (.int .i64 1) fW (Below.refl _ _) (by rw [hT]; exact rfl))
        clear fK hE hF
        go_simp
      refine stepsAll_cons (k := 6) ?_ ?_
      · intro fa fx fW hF fB hE K fK
        have q4 : fx 4 = .slice (some ad) m c := by have q := hE ⟨4, .data⟩ (by simp) rfl; rw [hT] at q; exact q
        have q5 : fx 5 = .int .i64 1 := by have q := hE ⟨5, .data⟩ (by simp) rfl; rw [hT] at q; exact q
        have ev25 : fa.tmps[25]?.getD undef = .slice (some ad) m c := (hF.ev 4 25 (by kernel_rfl)).trans q4
        have ev26 : fa.tmps[26]?.getD undef = .int .i64 1 := (hF.ev 5 26 (by kernel_rfl)).trans q5
        refine wpOp_val rfl (wanted_none rfl) ?_ (fK (.slice (some A5) (m - 1) (c - 1)) fW (Below.refl _ _) (by rw [hT]; exact rfl))
        clear fK hE hF
        have z1 : (0 : Int) ≤ (1 : Int) := by omega
        have z3 : (1 : Int) ≤ m := by omega
        have hA := HA.out
        by_cases hci : c = 1
        · rw [if_pos hci] at hA
          subst hA
          go_simp
        · rw [if_neg hci] at hA
          subst hA
          go_simp
      refine stepsAll_cons (k := 7) ?_ ?_
      · intro fa fx fW hF fB hE K fK
        have q3 : fx 3 = .slice (some ad) 1 1 := by have q := hE ⟨3, .data⟩ (by simp) rfl; rw [hT] at q; exact q
        have ev24 : fa.tmps[24]?.getD undef = .slice (some ad) 1 1 := (hF.ev 3 24 (by kernel_rfl)).trans q3
        refine wpOp_val rfl (wanted_none rfl) ?_ (fK (.slice (some ad) 1 1) fW (Below.refl _ _) (by rw [hT]; exact rfl))
        clear fK hE hF
        go_simp
      refine stepsAll_cons (k := 8) ?_ ?_
      · intro fa fx fW hF fB hE K fK
        have q6 : fx 6 = .slice (some A5) (m - 1) (c - 1) := by have q := hE ⟨6, .data⟩ (by simp) rfl; rw [hT] at q; exact q
        have ev27 : fa.tmps[27]?.getD undef = .slice (some A5) (m - 1) (c - 1) := (hF.ev 6 27 (by kernel_rfl)).trans q6
        refine wpOp_val rfl (wanted_none rfl) ?_ (fK (.slice (some A5) (m - 1) (c - 1)) fW (Below.refl _ _) (by rw [hT]; exact rfl))
        clear fK hE hF
        go_simp
      exact stepsAll_nil
    intro fa fx fW hF fB hx
    have q7 : fx 7 = .slice (some ad) 1 1 := by have q := hx 7 (by decide); rw [hT] at q; exact q
    have ev4 : fa.tmps[4]?.getD undef = .slice (some ad) 1 1 := (hF.ev 7 4 (by kernel_rfl)).trans q7
    have q8 : fx 8 = .slice (some A5) (m - 1) (c - 1) := by have q := hx 8 (by decide); rw [hT] at q; exact q
    have ev5 : fa.tmps[5]?.getD undef = .slice (some A5) (m - 1) (c - 1) := (hF.ev 8 5 (by kernel_rfl)).trans q8
    rw [hF.eq]
    clear hF hx
    simp only [putAll, Act.put, List.setIfInBounds_toArray, List.set_cons_zero, List.set_cons_succ, q7, q8]
    go_wp2
    exact bodyPost_ret (v := .tuple #[.slice (some ad) 1 1, .slice (some A5) (m - 1) (c - 1)]) (by simp [results, Try.results8, go_sem]) rfl ⟨rfl, below_tr hb1 fB⟩

set_option maxRecDepth 100000 in
set_option maxHeartbeats 4000000 in
theorem sbatch_emptyN (q : Int) (hq : q < 1) (ad : Addr) (c : Nat) (w : World) (h : c ≤ maxLen) : Calls Try.prog 8 #[.slice (some ad) 0 c, .int .i64 q] w fun e w' => ∃ A2 c2, e = .returned (.tuple #[.slice (some ad) 0 0, .slice A2 0 c2]) ∧ Rds w' 15 A2 0 c2 (evs []) ∧ Below w.heap.size w w' := by
  have hq2 : q ≤ 1 := by omega
  have HI := Lib.hid (indexEv 21 #[] (fun _ _ => rfl) pre (some ad) 0 c [] w ⟨rfl, Nat.zero_le _, h, (fun e => by cases e), fun a e j u hj => by cases hj⟩ (fun x _ W' _ => sbatch1 x W'))
  have e1 : idxP pre [] = -1 := rfl
  rw [e1] at HI
  have hadd0 : ad.add 0 = ad := by unfold Addr.add; cases ad; rename_i bl o i; cases i <;> simp
  have HA := Lib.hid hadd0
  have hc0 : (0 : Int) ≤ c := by omega
  have HH : Hid (c ≤ maxLen) := h
  clear h hadd0
  go_enter Try.func8, Try.ntmps8
  go_wp2_with (go_at_call 20; (with_reducible refine HI.out.mono ?_); rintro e w1 ⟨rfl, hb1⟩)
  obtain ⟨T, hT⟩ : ∃ T : Nat → Fact, ∀ t_, T t_ = ([Fact.eq (.slice (some ad) 0 c), Fact.eq (.int .i64 0), Fact.eq (.int .i64 0), Fact.eq (.slice (some ad) 0 0), Fact.eq (.slice (some ad) 0 c), Fact.eq (.int .i64 0), Fact.eq (.slice (some ad) 0 c), Fact.eq (.slice (some ad) 0 0), Fact.eq (.slice (some ad) 0 c)] : List (Fact)).getD t_ Fact.any := ⟨_, fun _ => rfl⟩
  refine region_tab [(0, 21), (1, 22), (2, 23), (3, 24), (4, 25), (5, 26), (6, 27), (7, 4), (8, 5)] T (by kernel_rfl) (by kernel_rfl) (by kernel_rfl) (by kernel_rfl) (by kernel_rfl) ?_ ?_
  · skip
    refine stepsAll_cons (k := 0) ?_ ?_
    · intro fa fx fW hF fB hE K fK
      have ev0 : fa.tmps[0]?.getD undef = .slice (some ad) 0 c := hF.eo 0 (by kernel_rfl)
      refine wpOp_val rfl (wanted_none rfl) ?_ (fK (.slice (some ad) 0 c) fW (Below.refl _ _) (by rw [hT]; exact rfl))
      clear fK hE hF
      go_simp
    refine stepsAll_cons (k := 1) ?_ ?_
    · intro fa fx fW hF fB hE K fK
      have ev6 : fa.tmps[6]?.getD undef = .int .i64 0 := hF.eo 6 (by kernel_rfl)
      refine wpOp_val rfl (wanted_none rfl) ?_ (fK (.int .i64 0) fW (Below.refl _ _) (by rw [hT]; exact rfl))
      clear fK hE hF
      go_simp
    refine stepsAll_cons (k := 2) ?_ ?_
    · intro fa fx fW hF fB hE K fK
      have ev6 : fa.tmps[6]?.getD undef = .int .i64 0 := hF.eo 6 (by kernel_rfl)
      refine wpOp_val rfl (wanted_none rfl) ?_ (fK (.int .i64 0) fW (Below.refl _ _) (by rw [hT]; exact rfl))
      clear fK hE hF
      go_simp
    refine stepsAll_cons (k := 3) ?_ ?_
    · intro fa fx fW hF fB hE K fK
      have q0 : fx 0 = .slice (some ad) 0 c := by have q := hE ⟨0, .data⟩ (by simp) rfl; rw [hT] at q; exact q
      have q1 : fx 1 = .int .i64 0 := by have q := hE ⟨1, .data⟩ (by simp) rfl; rw [hT] at q; exact q
      have q2 : fx 2 = .int .i64 0 := by have q := hE ⟨2, .data⟩ (by simp) rfl; rw [hT] at q; exact q
      have ev21 : fa.tmps[21]?.getD undef = .slice (some ad) 0 c := (hF.ev 0 21 (by kernel_rfl)).trans q0
      have ev22 : fa.tmps[22]?.getD undef = .int .i64 0 := (hF.ev 1 22 (by kernel_rfl)).trans q1
      have ev23 : fa.tmps[23]?.getD undef = .int .i64 0 := (hF.ev 2 23 (by kernel_rfl)).trans q2
      refine wpOp_val rfl (wanted_none rfl) ?_ (fK (.slice (some ad) 0 0) fW (Below.refl _ _) (by rw [hT]; exact rfl))
      clear fK hE hF
      go_simp
    refine stepsAll_cons (k := 4) ?_ ?_
    · intro fa fx fW hF fB hE K fK
      have ev0 : fa.tmps[0]?.getD undef = .slice (some ad) 0 c := hF.eo 0 (by kernel_rfl)
      refine wpOp_val rfl (wanted_none rfl) ?_ (fK (.slice (some ad) 0 c) fW (Below.refl _ _) (by rw [hT]; exact rfl))
      clear fK hE hF
      go_simp
    refine stepsAll_cons (k := 5) ?_ ?_
    · intro fa fx fW hF fB hE K fK
      have ev6 : fa.tmps[6]?.getD undef = .int .i64 0 := hF.eo 6 (by kernel_rfl)
      refine wpOp_val rfl (wanted_none rfl) ?_ (fK (.int .i64 0) fW (Below.refl _ _) (by rw [hT]; exact rfl))
      clear fK hE hF
      go_simp
    refine stepsAll_cons (k := 6) ?_ ?_
    · intro fa fx fW hF fB hE K fK
      have q4 : fx 4 = .slice (some ad) 0 c := by have q := hE ⟨4, .data⟩ (by simp) rfl; rw [hT] at q; exact q
      have q5 : fx 5 = .int .i64 0 := by have q := hE ⟨5, .data⟩ (by simp) rfl; rw [hT] at q; exact q
      have ev25 : fa.tmps[25]?.getD undef = .slice (some ad) 0 c := (hF.ev 4 25 (by kernel_rfl)).trans q4
      have ev26 : fa.tmps[26]?.getD undef = .int .i64 0 := (hF.ev 5 26 (by kernel_rfl)).trans q5
      refine wpOp_val rfl (wanted_none rfl) ?_ (fK (.slice (some ad) 0 c) fW (Below.refl _ _) (by rw [hT]; exact rfl))
      clear fK hE hF
      have hA := HA.out
      go_simp
    refine stepsAll_cons (k := 7) ?_ ?_
    · intro fa fx fW hF fB hE K fK
      have q3 : fx 3 = .slice (some ad) 0 0 := by have q := hE ⟨3, .data⟩ (by simp) rfl; rw [hT] at q; exact q
      have ev24 : fa.tmps[24]?.getD undef = .slice (some ad) 0 0 := (hF.ev 3 24 (by kernel_rfl)).trans q3
      refine wpOp_val rfl (wanted_none rfl) ?_ (fK (.slice (some ad) 0 0) fW (Below.refl _ _) (by rw [hT]; exact rfl))
      clear fK hE hF
      go_simp
    refine stepsAll_cons (k := 8) ?_ ?_
    · intro fa fx fW hF fB hE K fK
      have q6 : fx 6 = .slice (some ad) 0 c := by have q := hE ⟨6, .data⟩ (by simp) rfl; rw [hT] at q; exact q
      have ev27 : fa.tmps[27]?.getD undef = .slice (some ad) 0 c := (hF.ev 6 27 (by kernel_rfl)).trans q6
      refine wpOp_val rfl (wanted_none rfl) ?_ (fK (.slice (some ad) 0 c) fW (Below.refl _ _) (by rw [hT]; exact rfl))
      clear fK hE hF
      go_simp
    exact stepsAll_nil
  intro fa fx fW hF fB hx
  have q7 : fx 7 = .slice (some ad) 0 0 := by have q := hx 7 (by decide); rw [hT] at q; exact q
  have ev4 : fa.tmps[4]?.getD undef = .slice (some ad) 0 0 := (hF.ev 7 4 (by kernel_rfl)).trans q7
  have q8 : fx 8 = .slice (some ad) 0 c := by have q := hx 8 (by decide); rw [hT] at q; exact q
  have ev5 : fa.tmps[5]?.getD undef = .slice (some ad) 0 c := (hF.ev 8 5 (by kernel_rfl)).trans q8
  rw [hF.eq]
  clear hF hx
  simp only [putAll, Act.put, List.setIfInBounds_toArray, List.set_cons_zero, List.set_cons_succ, q7, q8]
  go_wp2
  exact bodyPost_ret (v := .tuple #[.slice (some ad) 0 0, .slice (some ad) 0 c]) (by simp [results, Try.results8, go_sem]) rfl ⟨some ad, c, rfl, ⟨rfl, Nat.zero_le _, HH.out, (fun e => by cases e), fun a e j u hj => by simp [evs] at hj⟩, below_tr hb1 fB⟩
theorem ebatchZ (A : Option Addr) (m c : Nat) (l : List Ev) (q : Int) (w : World) (hr : Rds w 15 A m c (evs l)) :
    Calls Try.prog 8 #[.slice A m c, .int .i64 q] w fun e w' => ∃ c1 A2 c2, batchN l (max q 1).toNat ≤ m ∧ e = .returned (.tuple #[.slice A (batchN l (max q 1).toNat) c1, .slice A2 (m - batchN l (max q 1).toNat) c2]) ∧
      Rds w' 15 A (batchN l (max q 1).toNat) c1 (evs (l.take (batchN l (max q 1).toNat))) ∧ Rds w' 15 A2 (m - batchN l (max q 1).toNat) c2 (evs (l.drop (batchN l (max q 1).toNat))) ∧ Below w.heap.size w w' := by
  have hl := evs_len hr
  have hle := batchN_le l (max q 1).toNat
  cases A with
  | none =>
    obtain ⟨rfl, rfl, _⟩ := hr.nil_n
    have hl0 : l = [] := List.eq_nil_of_length_eq_zero hl
    subst hl0
    refine (sbatch_nil q w).mono ?_
    rintro e w1 ⟨rfl, hb⟩
    have h0 : batchN [] (max q 1).toNat = 0 := by simpa using hle
    rw [h0]
    exact ⟨0, none, 0, Nat.le_refl _, rfl, by simpa [evs] using Rds.none_ w1 15, by simpa [evs] using Rds.none_ w1 15, hb⟩
  | some ad =>
    by_cases h0 : q < 1
    · have hmx : (max q 1).toNat = 1 := by omega
      rw [hmx] at hle ⊢
      by_cases hm0 : m = 0
      · subst hm0
        have hl0 : l = [] := List.eq_nil_of_length_eq_zero hl
        subst hl0
        refine (sbatch_emptyN q h0 ad c w hr.max).mono ?_
        rintro e w1 ⟨A2, c2, rfl, hr2, hb⟩
        have h0 : batchN [] 1 = 0 := by simpa using hle
        rw [h0]
        exact ⟨0, A2, c2, Nat.le_refl _, rfl, ⟨rfl, Nat.le_refl _, Nat.zero_le _, (fun e => by cases e), fun a e j u hj => by simp [evs] at hj⟩, hr2, hb⟩
      refine (sbatchN q h0 ad m c l w hr (by omega)).mono ?_
      rintro e w1 ⟨rfl, hb⟩
      have hle : batchN l 1 ≤ m := by omega
      exact ⟨_, _, _, hle, rfl, rds_one (hr.below hb) hle, rds_rest (hr.below hb) hle, hb⟩
    · obtain ⟨n, hn⟩ := Int.eq_ofNat_of_zero_le (show 0 ≤ q by omega)
      subst hn
      have hmx : (max (n : Int) 1).toNat = n := by omega
      rw [hmx] at hle ⊢
      refine (sbatchW ad m c l n w hr (by omega)).mono ?_
      rintro e w1 ⟨rfl, hb⟩
      exact ⟨_, _, _, by omega, rfl, rds_one (hr.below hb) (by omega), rds_rest (hr.below hb) (by omega), hb⟩
end Go.Proofs.Ytdnddoiemaifjaa
