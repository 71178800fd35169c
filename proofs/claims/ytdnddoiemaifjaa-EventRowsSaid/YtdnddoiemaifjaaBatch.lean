/- Package event: Batch; the reference's Same at one row. -/
import Derived.Test.YtdnddoiemaifjaaEv
import Derived.Test.YtdnddoiemaifjaaRegion
namespace Go.Proofs.Ytdnddoiemaifjaa
open Go.RowKit
/-- How many go into one upcall. -/
def batchN (l : List Ev) (n : Nat) : Nat := let m := min l.length n; if 0 ≤ idxP pre (l.take m) then (idxP pre (l.take m)).toNat + 1 else m
theorem idxP_lt {α : Type} (p : α → Bool) (l : List α) : idxP p l < l.length ∧ -1 ≤ idxP p l := by
  unfold idxP
  cases h : l.findIdx? p with
  | none => simp only; omega
  | some i =>
    rw [List.findIdx?_eq_some_iff_getElem] at h
    obtain ⟨hi, _⟩ := h
    simp only; omega
theorem batchN_le (l : List Ev) (n : Nat) : batchN l n ≤ min l.length n := by
  unfold batchN
  simp only
  have h := (idxP_lt pre (l.take (min l.length n))).1
  rw [List.length_take] at h
  split <;> omega
theorem rds_one {w : World} {ad : Addr} {m c N : Nat} {l : List Ev} (h : Rds w 15 (some ad) m c (evs l)) (hN : N ≤ m) : Rds w 15 (some ad) N N (evs (l.take N)) := by
  have hl := evs_len h
  refine ⟨by rw [evs_length, List.length_take]; omega, Nat.le_refl _, by have := h.le; have := h.max; omega, (fun e => by cases e), fun a e j u hj => h.cell a e j u ?_⟩
  have e2 : evs l = evs (l.take N) ++ evs (l.drop N) := by rw [← evs_append, List.take_append_drop]
  rw [e2, List.getElem?_append_left (List.getElem?_eq_some_iff.1 hj).1]
  exact hj
theorem rds_rest {w : World} {ad : Addr} {m c N : Nat} {l : List Ev} (h : Rds w 15 (some ad) m c (evs l)) (hN : N ≤ m) : Rds w 15 (some (if c = N then ad else ad.add (N * 15))) (m - N) (c - N) (evs (l.drop N)) := by
  have hl := evs_len h
  have hle := h.le
  refine ⟨by rw [evs_length, List.length_drop]; omega, by omega, by have := h.max; omega, (fun e => by cases e), fun a e j u hj => ?_⟩
  cases e
  by_cases hc : c = N
  · rw [List.drop_of_length_le (by omega)] at hj
    simp [evs] at hj
  · rw [if_neg hc, Go.Deep.add_add]
    refine h.cell ad rfl _ _ ?_
    have e2 : evs l = evs (l.take N) ++ evs (l.drop N) := by rw [← evs_append, List.take_append_drop]
    have e3 : (evs (l.take N)).length = N * 15 := by rw [evs_length, List.length_take, Nat.min_eq_left (by omega)]
    rw [e2, List.getElem?_append_right (by omega), e3, Nat.add_sub_cancel_left]
    exact hj
theorem batchN_some {l : List Ev} {n k x : Nat} (hk : k = min l.length n) (hx : idxP pre (l.take k) = x) : batchN l n = x + 1 := by
  unfold batchN; simp only; rw [← hk, hx, if_pos (by omega)]; omega
theorem batchN_none {l : List Ev} {n k : Nat} (hk : k = min l.length n) (hx : idxP pre (l.take k) = -1) : batchN l n = k := by
  unfold batchN; simp only; rw [← hk, hx, if_neg (by omega)]
set_option maxRecDepth 100000 in
set_option maxHeartbeats 4000000 in
theorem sbatch (ad : Addr) (m c : Nat) (l : List Ev) (n : Nat) (w : World) (hr : Rds w 15 (some ad) m c (evs l)) (hn : 1 ≤ n) (hn1 : n ≤ 1000) :
    Calls Try.prog 8 #[.slice (some ad) m c, .int .i64 n] w fun e w' => e = .returned (.tuple #[.slice (some ad) (batchN l n) (batchN l n), .slice (some (if c = batchN l n then ad else ad.add (batchN l n * 15))) (m - batchN l n) (c - batchN l n)]) ∧ Below w.heap.size w w' := by
  have HN : Hid (l.length = m) := evs_len hr
  have hmc := hr.le
  have hmx := hr.max
  unfold maxLen at hmx
  obtain ⟨k, hk⟩ : ∃ k, k = min m n := ⟨_, rfl⟩
  have hkm : k ≤ m := by omega
  have hif : (if n < m then (n : Int) else (m : Int)) = k := by split <;> omega
  have HK : Hid (k = min l.length n) := by show _ = _; rw [HN.out]; exact hk
  have hT : Rds w 15 (some ad) k c (evs (l.take k)) := by
    have h := rds_one hr hkm
    exact ⟨h.len, by omega, hr.max, hr.nil, h.cell⟩
  have HI := Lib.hid (indexEv 21 #[] (fun _ _ => rfl) pre (some ad) k c (l.take k) w hT (fun x _ W' _ => sbatch1 x W'))
  have hx := idxP_lt pre (l.take k)
  have HL : Hid (batchN l n ≤ m) := by have := batchN_le l n; rw [HN.out] at this; show _ ≤ _; omega
  rw [List.length_take, HN.out] at hx
  clear hT hk
  rcases (show (∃ x : Nat, idxP pre (l.take k) = x) ∨ idxP pre (l.take k) = -1 by
    by_cases h : 0 ≤ idxP pre (l.take k)
    · exact .inl ⟨(idxP pre (l.take k)).toNat, by omega⟩
    · exact .inr (by omega)) with ⟨x, he⟩ | he
  · have HB := Lib.hid (batchN_some HK.out he)
    rw [he] at HI
    obtain ⟨N, hNe⟩ : ∃ N, N = batchN l n := ⟨_, rfl⟩
    rw [← hNe] at HB HL ⊢
    have hNx : N = x + 1 := HB.out
    subst hNx
    have hNm := HL.out
    have hNc : (x + 1) ≤ c := by omega
    obtain ⟨A5, hA5⟩ : ∃ A5 : Addr, (if c = (x + 1) then ad else ad.add ((x + 1) * 15)) = A5 := ⟨_, rfl⟩
    have HA := Lib.hid hA5
    rw [hA5]
    clear hA5 hNe HK hx
    go_enter Try.func8, Try.ntmps8
    go_wp2_with (go_at_call 20; (with_reducible refine HI.out.mono ?_); rintro e w1 ⟨rfl, hb1⟩)
    obtain ⟨T, hT⟩ : ∃ T : Nat → Fact, ∀ t_, T t_ = ([Fact.eq (.slice (some ad) m c), Fact.eq (.int .i64 (x + 1)), Fact.eq (.int .i64 (x + 1)), Fact.eq (.slice (some ad) (x + 1) (x + 1)), Fact.eq (.slice (some ad) m c), Fact.eq (.int .i64 (x + 1)), Fact.eq (.slice (some A5) (m - (x + 1)) (c - (x + 1))), Fact.eq (.slice (some ad) (x + 1) (x + 1)), Fact.eq (.slice (some A5) (m - (x + 1)) (c - (x + 1)))] : List (Fact)).getD t_ Fact.any := ⟨_, fun _ => rfl⟩
    refine region_tab [(0, 21), (1, 22), (2, 23), (3, 24), (4, 25), (5, 26), (6, 27), (7, 4), (8, 5)] T (by kernel_rfl) (by kernel_rfl) (by kernel_rfl) (by kernel_rfl) (by kernel_rfl) ?_ ?_
    · skip
      refine stepsAll_cons (k := 0) ?_ ?_
      · intro fa fx fW hF fB hE K fK
        have ev0 : fa.tmps[0]?.getD undef = .slice (some ad) m c := hF.eo 0 (by kernel_rfl)
        refine wpOp_val rfl (wanted_none rfl) ?_ (fK (.slice (some ad) m c) fW (Below.refl _ _) (by rw [hT]; exact rfl))
        clear fK hE hF
        go_simp
      refine stepsAll_cons (k := 1) ?_ ?_
      · intro fa fx fW hF fB hE K fK
        have ev6 : fa.tmps[6]?.getD undef = .int .i64 (x + 1) := hF.eo 6 (by kernel_rfl)
        refine wpOp_val rfl (wanted_none rfl) ?_ (fK (.int .i64 (x + 1)) fW (Below.refl _ _) (by rw [hT]; exact rfl))
        clear fK hE hF
        go_simp
      refine stepsAll_cons (k := 2) ?_ ?_
      · intro fa fx fW hF fB hE K fK
        have ev6 : fa.tmps[6]?.getD undef = .int .i64 (x + 1) := hF.eo 6 (by kernel_rfl)
        refine wpOp_val rfl (wanted_none rfl) ?_ (fK (.int .i64 (x + 1)) fW (Below.refl _ _) (by rw [hT]; exact rfl))
        clear fK hE hF
        go_simp
      refine stepsAll_cons (k := 3) ?_ ?_
      · intro fa fx fW hF fB hE K fK
        have q0 : fx 0 = .slice (some ad) m c := by have q := hE ⟨0, .data⟩ (by simp) rfl; rw [hT] at q; exact q
        have q1 : fx 1 = .int .i64 (x + 1) := by have q := hE ⟨1, .data⟩ (by simp) rfl; rw [hT] at q; exact q
        have q2 : fx 2 = .int .i64 (x + 1) := by have q := hE ⟨2, .data⟩ (by simp) rfl; rw [hT] at q; exact q
        have ev21 : fa.tmps[21]?.getD undef = .slice (some ad) m c := (hF.ev 0 21 (by kernel_rfl)).trans q0
        have ev22 : fa.tmps[22]?.getD undef = .int .i64 (x + 1) := (hF.ev 1 22 (by kernel_rfl)).trans q1
        have ev23 : fa.tmps[23]?.getD undef = .int .i64 (x + 1) := (hF.ev 2 23 (by kernel_rfl)).trans q2
        have z1 : (0 : Int) ≤ (x : Int) + 1 := by omega
        have z2 : (x : Int) + 1 ≤ c := by omega
        refine wpOp_val rfl (wanted_none rfl) ?_ (fK (.slice (some ad) (x + 1) (x + 1)) fW (Below.refl _ _) (by rw [hT]; exact rfl))
        clear fK hE hF
        go_simp
      refine stepsAll_cons (k := 4) ?_ ?_
      · intro fa fx fW hF fB hE K fK
        have ev0 : fa.tmps[0]?.getD undef = .slice (some ad) m c := hF.eo 0 (by kernel_rfl)
        refine wpOp_val rfl (wanted_none rfl) ?_ (fK (.slice (some ad) m c) fW (Below.refl _ _) (by rw [hT]; exact rfl))
        clear fK hE hF
        go_simp
      refine stepsAll_cons (k := 5) ?_ ?_
      · intro fa fx fW hF fB hE K fK
        have ev6 : fa.tmps[6]?.getD undef = .int .i64 (x + 1) := hF.eo 6 (by kernel_rfl)
        refine wpOp_val rfl (wanted_none rfl) ?_ (fK (.int .i64 (x + 1)) fW (Below.refl _ _) (by rw [hT]; exact rfl))
        clear fK hE hF
        go_simp
      refine stepsAll_cons (k := 6) ?_ ?_
      · intro fa fx fW hF fB hE K fK
        have q4 : fx 4 = .slice (some ad) m c := by have q := hE ⟨4, .data⟩ (by simp) rfl; rw [hT] at q; exact q
        have q5 : fx 5 = .int .i64 (x + 1) := by have q := hE ⟨5, .data⟩ (by simp) rfl; rw [hT] at q; exact q
        have ev25 : fa.tmps[25]?.getD undef = .slice (some ad) m c := (hF.ev 4 25 (by kernel_rfl)).trans q4
        have ev26 : fa.tmps[26]?.getD undef = .int .i64 (x + 1) := (hF.ev 5 26 (by kernel_rfl)).trans q5
        refine wpOp_val rfl (wanted_none rfl) ?_ (fK (.slice (some A5) (m - (x + 1)) (c - (x + 1))) fW (Below.refl _ _) (by rw [hT]; exact rfl))
        clear fK hE hF
        have z1 : (0 : Int) ≤ (x : Int) + 1 := by omega
        have z3 : (x : Int) + 1 ≤ m := by omega
        have hA := HA.out
        by_cases hci : c = (x + 1)
        · rw [if_pos hci] at hA
          subst hA
          go_simp
        · rw [if_neg hci] at hA
          subst hA
          go_simp
      refine stepsAll_cons (k := 7) ?_ ?_
      · intro fa fx fW hF fB hE K fK
        have q3 : fx 3 = .slice (some ad) (x + 1) (x + 1) := by have q := hE ⟨3, .data⟩ (by simp) rfl; rw [hT] at q; exact q
        have ev24 : fa.tmps[24]?.getD undef = .slice (some ad) (x + 1) (x + 1) := (hF.ev 3 24 (by kernel_rfl)).trans q3
        refine wpOp_val rfl (wanted_none rfl) ?_ (fK (.slice (some ad) (x + 1) (x + 1)) fW (Below.refl _ _) (by rw [hT]; exact rfl))
        clear fK hE hF
        go_simp
      refine stepsAll_cons (k := 8) ?_ ?_
      · intro fa fx fW hF fB hE K fK
        have q6 : fx 6 = .slice (some A5) (m - (x + 1)) (c - (x + 1)) := by have q := hE ⟨6, .data⟩ (by simp) rfl; rw [hT] at q; exact q
        have ev27 : fa.tmps[27]?.getD undef = .slice (some A5) (m - (x + 1)) (c - (x + 1)) := (hF.ev 6 27 (by kernel_rfl)).trans q6
        refine wpOp_val rfl (wanted_none rfl) ?_ (fK (.slice (some A5) (m - (x + 1)) (c - (x + 1))) fW (Below.refl _ _) (by rw [hT]; exact rfl))
        clear fK hE hF
        go_simp
      exact stepsAll_nil
    intro fa fx fW hF fB hx
    have q7 : fx 7 = .slice (some ad) (x + 1) (x + 1) := by have q := hx 7 (by decide); rw [hT] at q; exact q
    have ev4 : fa.tmps[4]?.getD undef = .slice (some ad) (x + 1) (x + 1) := (hF.ev 7 4 (by kernel_rfl)).trans q7
    have q8 : fx 8 = .slice (some A5) (m - (x + 1)) (c - (x + 1)) := by have q := hx 8 (by decide); rw [hT] at q; exact q
    have ev5 : fa.tmps[5]?.getD undef = .slice (some A5) (m - (x + 1)) (c - (x + 1)) := (hF.ev 8 5 (by kernel_rfl)).trans q8
    rw [hF.eq]
    clear hF hx
    simp only [putAll, Act.put, List.setIfInBounds_toArray, List.set_cons_zero, List.set_cons_succ, q7, q8]
    go_wp2
    exact bodyPost_ret (v := .tuple #[.slice (some ad) (x + 1) (x + 1), .slice (some A5) (m - (x + 1)) (c - (x + 1))]) (by simp [results, Try.results8, go_sem]) rfl ⟨rfl, below_tr hb1 fB⟩
  · have HB := Lib.hid (batchN_none HK.out he)
    rw [he] at HI
    obtain ⟨N, hNe⟩ : ∃ N, N = batchN l n := ⟨_, rfl⟩
    rw [← hNe] at HB HL ⊢
    have hNx : N = k := HB.out
    subst hNx
    have hNm := HL.out
    have hNc : N ≤ c := by omega
    obtain ⟨A5, hA5⟩ : ∃ A5 : Addr, (if c = N then ad else ad.add (N * 15)) = A5 := ⟨_, rfl⟩
    have HA := Lib.hid hA5
    rw [hA5]
    clear hA5 hNe HK hx
    go_enter Try.func8, Try.ntmps8
    go_wp2_with (go_at_call 20; (with_reducible refine HI.out.mono ?_); rintro e w1 ⟨rfl, hb1⟩)
    obtain ⟨T, hT⟩ : ∃ T : Nat → Fact, ∀ t_, T t_ = ([Fact.eq (.slice (some ad) m c), Fact.eq (.int .i64 N), Fact.eq (.int .i64 N), Fact.eq (.slice (some ad) N N), Fact.eq (.slice (some ad) m c), Fact.eq (.int .i64 N), Fact.eq (.slice (some A5) (m - N) (c - N)), Fact.eq (.slice (some ad) N N), Fact.eq (.slice (some A5) (m - N) (c - N))] : List (Fact)).getD t_ Fact.any := ⟨_, fun _ => rfl⟩
    refine region_tab [(0, 21), (1, 22), (2, 23), (3, 24), (4, 25), (5, 26), (6, 27), (7, 4), (8, 5)] T (by kernel_rfl) (by kernel_rfl) (by kernel_rfl) (by kernel_rfl) (by kernel_rfl) ?_ ?_
    · skip
      refine stepsAll_cons (k := 0) ?_ ?_
      · intro fa fx fW hF fB hE K fK
        have ev0 : fa.tmps[0]?.getD undef = .slice (some ad) m c := hF.eo 0 (by kernel_rfl)
        refine wpOp_val rfl (wanted_none rfl) ?_ (fK (.slice (some ad) m c) fW (Below.refl _ _) (by rw [hT]; exact rfl))
        clear fK hE hF
        go_simp
      refine stepsAll_cons (k := 1) ?_ ?_
      · intro fa fx fW hF fB hE K fK
        have ev6 : fa.tmps[6]?.getD undef = .int .i64 N := hF.eo 6 (by kernel_rfl)
        refine wpOp_val rfl (wanted_none rfl) ?_ (fK (.int .i64 N) fW (Below.refl _ _) (by rw [hT]; exact rfl))
        clear fK hE hF
        go_simp
      refine stepsAll_cons (k := 2) ?_ ?_
      · intro fa fx fW hF fB hE K fK
        have ev6 : fa.tmps[6]?.getD undef = .int .i64 N := hF.eo 6 (by kernel_rfl)
        refine wpOp_val rfl (wanted_none rfl) ?_ (fK (.int .i64 N) fW (Below.refl _ _) (by rw [hT]; exact rfl))
        clear fK hE hF
        go_simp
      refine stepsAll_cons (k := 3) ?_ ?_
      · intro fa fx fW hF fB hE K fK
        have q0 : fx 0 = .slice (some ad) m c := by have q := hE ⟨0, .data⟩ (by simp) rfl; rw [hT] at q; exact q
        have q1 : fx 1 = .int .i64 N := by have q := hE ⟨1, .data⟩ (by simp) rfl; rw [hT] at q; exact q
        have q2 : fx 2 = .int .i64 N := by have q := hE ⟨2, .data⟩ (by simp) rfl; rw [hT] at q; exact q
        have ev21 : fa.tmps[21]?.getD undef = .slice (some ad) m c := (hF.ev 0 21 (by kernel_rfl)).trans q0
        have ev22 : fa.tmps[22]?.getD undef = .int .i64 N := (hF.ev 1 22 (by kernel_rfl)).trans q1
        have ev23 : fa.tmps[23]?.getD undef = .int .i64 N := (hF.ev 2 23 (by kernel_rfl)).trans q2
        have z1 : (0 : Int) ≤ (N : Int) := by omega
        have z2 : (N : Int) ≤ c := by omega
        refine wpOp_val rfl (wanted_none rfl) ?_ (fK (.slice (some ad) N N) fW (Below.refl _ _) (by rw [hT]; exact rfl))
        clear fK hE hF
        go_simp
      refine stepsAll_cons (k := 4) ?_ ?_
      · intro fa fx fW hF fB hE K fK
        have ev0 : fa.tmps[0]?.getD undef = .slice (some ad) m c := hF.eo 0 (by kernel_rfl)
        refine wpOp_val rfl (wanted_none rfl) ?_ (fK (.slice (some ad) m c) fW (Below.refl _ _) (by rw [hT]; exact rfl))
        clear fK hE hF
        go_simp
      refine stepsAll_cons (k := 5) ?_ ?_
      · intro fa fx fW hF fB hE K fK
        have ev6 : fa.tmps[6]?.getD undef = .int .i64 N := hF.eo 6 (by kernel_rfl)
        refine wpOp_val rfl (wanted_none rfl) ?_ (fK (.int .i64 N) fW (Below.refl _ _) (by rw [hT]; exact rfl))
        clear fK hE hF
        go_simp
      refine stepsAll_cons (k := 6) ?_ ?_
      · intro fa fx fW hF fB hE K fK
        have q4 : fx 4 = .slice (some ad) m c := by have q := hE ⟨4, .data⟩ (by simp) rfl; rw [hT] at q; exact q
        have q5 : fx 5 = .int .i64 N := by have q := hE ⟨5, .data⟩ (by simp) rfl; rw [hT] at q; exact q
        have ev25 : fa.tmps[25]?.getD undef = .slice (some ad) m c := (hF.ev 4 25 (by kernel_rfl)).trans q4
        have ev26 : fa.tmps[26]?.getD undef = .int .i64 N := (hF.ev 5 26 (by kernel_rfl)).trans q5
        refine wpOp_val rfl (wanted_none rfl) ?_ (fK (.slice (some A5) (m - N) (c - N)) fW (Below.refl _ _) (by rw [hT]; exact rfl))
        clear fK hE hF
        have z1 : (0 : Int) ≤ (N : Int) := by omega
        have z3 : (N : Int) ≤ m := by omega
        have hA := HA.out
        by_cases hci : c = N
        · rw [if_pos hci] at hA
          subst hA
          go_simp
        · rw [if_neg hci] at hA
          subst hA
          go_simp
      refine stepsAll_cons (k := 7) ?_ ?_
      · intro fa fx fW hF fB hE K fK
        have q3 : fx 3 = .slice (some ad) N N := by have q := hE ⟨3, .data⟩ (by simp) rfl; rw [hT] at q; exact q
        have ev24 : fa.tmps[24]?.getD undef = .slice (some ad) N N := (hF.ev 3 24 (by kernel_rfl)).trans q3
        refine wpOp_val rfl (wanted_none rfl) ?_ (fK (.slice (some ad) N N) fW (Below.refl _ _) (by rw [hT]; exact rfl))
        clear fK hE hF
        go_simp
      refine stepsAll_cons (k := 8) ?_ ?_
      · intro fa fx fW hF fB hE K fK
        have q6 : fx 6 = .slice (some A5) (m - N) (c - N) := by have q := hE ⟨6, .data⟩ (by simp) rfl; rw [hT] at q; exact q
        have ev27 : fa.tmps[27]?.getD undef = .slice (some A5) (m - N) (c - N) := (hF.ev 6 27 (by kernel_rfl)).trans q6
        refine wpOp_val rfl (wanted_none rfl) ?_ (fK (.slice (some A5) (m - N) (c - N)) fW (Below.refl _ _) (by rw [hT]; exact rfl))
        clear fK hE hF
        go_simp
      exact stepsAll_nil
    intro fa fx fW hF fB hx
    have q7 : fx 7 = .slice (some ad) N N := by have q := hx 7 (by decide); rw [hT] at q; exact q
    have ev4 : fa.tmps[4]?.getD undef = .slice (some ad) N N := (hF.ev 7 4 (by kernel_rfl)).trans q7
    have q8 : fx 8 = .slice (some A5) (m - N) (c - N) := by have q := hx 8 (by decide); rw [hT] at q; exact q
    have ev5 : fa.tmps[5]?.getD undef = .slice (some A5) (m - N) (c - N) := (hF.ev 8 5 (by kernel_rfl)).trans q8
    rw [hF.eq]
    clear hF hx
    simp only [putAll, Act.put, List.setIfInBounds_toArray, List.set_cons_zero, List.set_cons_succ, q7, q8]
    go_wp2
    exact bodyPost_ret (v := .tuple #[.slice (some ad) N N, .slice (some A5) (m - N) (c - N)]) (by simp [results, Try.results8, go_sem]) rfl ⟨rfl, below_tr hb1 fB⟩
end Go.Proofs.Ytdnddoiemaifjaa
