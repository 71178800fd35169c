/- The law CodeOne, walked. -/
import Derived.Test.YtdhckbpfkdekmaaSrcRead
import Derived.Test.YtdhckbpfkdekmaaOneStr
import Derived.Test.YtdhckbpfkdekmaaRegion
namespace Go.Proofs.Ytdhckbpfkdekmaa
open Go.RowKit
theorem numM_ok {bs : List Int} {most v : Nat} {rest : List Int} (h : numM bs most = .ok (v, rest)) : numS bs = .ok (v, rest) := by
  unfold numM at h
  cases hn : numS bs with
  | error e => rw [hn] at h; cases h
  | ok q =>
    obtain ⟨v', rest'⟩ := q
    rw [hn] at h
    simp only at h
    split at h
    · exact h
    · cases h
theorem one_lives (a b : Int) (A : Option Addr) (m c : Nat) (w : World) (h : 20 < m) :
    Calls Try.prog 4 #[.int .u64 a, .int .u64 b, .slice A m c] w fun e w' => e = .returned (.bool true) ∧ Below w.heap.size w w' := by
  have HL := Lib.hid (fun W => lives07 W)
  have d1 : (20 : Int) < m := by omega
  go_enter Try.func4, Try.ntmps4
  go_wp2_with (go_at_call 9; (with_reducible refine (HL.out _).mono ?_); rintro e w1 ⟨rfl, hb1⟩)
  go_ret
  exact ⟨rfl, hb1⟩
set_option maxRecDepth 100000 in
set_option maxHeartbeats 16000000 in
theorem one_walk (a b : Nat) (A : Option Addr) (m c : Nat) (xs : List Int) (w : World) (ha : a < 18446744073709551616) (hb : b < 18446744073709551616) (hr : Rds w 1 A m c (nums .u8 xs)) (hx : ∀ x ∈ xs, 0 ≤ x ∧ x < 256) (hm : m ≤ 20) :
    Calls Try.prog 4 #[.int .u64 a, .int .u64 b, .slice A m c] w fun e w' => e = .returned (.bool true) ∧ Below w.heap.size w w' := by
  have HL := Lib.hid (fun W => lives07 W)
  have HA := Lib.hid (fun W => cnum none 0 0 [] a ha W (rds_nil W .u8) (by decide))
  have HB := Lib.hid (fun W => cnum none 0 0 [] b hb W (rds_nil W .u8) (by decide))
  have HRB := Lib.hid hx
  have d1 : decide ((20 : Int) < m) = false := by simp; omega
  have HAB : Hid (a < 18446744073709551616 ∧ b < 18446744073709551616) := ⟨ha, hb⟩
  clear ha hb hx
  go_enter Try.func4, Try.ntmps4
  go_wp2
  obtain ⟨T, hT⟩ : ∃ T : Nat → Fact, ∀ t_, T t_ = ([Fact.eq (.int .u64 a), Fact.row 1 (nums .u8 ([] ++ enc a)), Fact.eq (.string (strOfNums ([] ++ enc a))), Fact.eq (.int .u64 b), Fact.row 1 (nums .u8 ([] ++ enc b)), Fact.eq (.string (strOfNums ([] ++ enc b))), Fact.eq (.string (strOfNums ([] ++ enc a))), Fact.eq (.string (strOfNums ([] ++ enc b)))] : List (Fact)).getD t_ Fact.any := ⟨_, fun _ => rfl⟩
  refine region_tab [(0, 16), (1, 17), (2, 18), (3, 19), (4, 20), (5, 21), (6, 7), (7, 8)] T (by kernel_rfl) (by kernel_rfl) (by kernel_rfl) (by kernel_rfl) (by kernel_rfl) ?_ ?_
  · skip
    refine stepsAll_cons (k := 0) ?_ ?_
    · intro fa fx fW hF fB hE K fK
      have ev0 : fa.tmps[0]?.getD undef = .int .u64 a := hF.eo 0 (by kernel_rfl)
      refine wpOp_val rfl (wanted_none rfl) ?_ (fK (.int .u64 a) fW (Below.refl _ _) (by rw [hT]; exact rfl))
      clear fK hE hF
      go_simp
    refine stepsAll_cons (k := 1) ?_ ?_
    · intro fa fx fW hF fB hE K fK
      have q0 : fx 0 = .int .u64 a := by have q := hE ⟨0, .data⟩ (by simp) rfl; rw [hT] at q; exact q
      have ev16 : fa.tmps[16]?.getD undef = .int .u64 a := (hF.ev 0 16 (by kernel_rfl)).trans q0
      refine wpOp_call rfl (wanted_none rfl) (by go_simp; exact ⟨rfl, rfl⟩) ?_
      refine (HA.out fW).mono ?_
      intro e' w' h1
      obtain ⟨A1, n1, c1, rfl, _, hr1, hb1, _⟩ := h1.open_
      exact ⟨_, rfl, fK (.slice A1 n1 c1) (w') (hb1) (by rw [hT]; exact ⟨A1, n1, c1, rfl, hr1⟩)⟩
    refine stepsAll_cons (k := 2) ?_ ?_
    · intro fa fx fW hF fB hE K fK
      have q1 : (Fact.row 1 (nums .u8 ([] ++ enc a))).p (fx 1) fW := by have q := hE ⟨1, .data⟩ (by simp) rfl; rw [hT] at q; exact q
      have ev17 : fa.tmps[17]?.getD undef = fx 1 := hF.ev 1 17 (by kernel_rfl)
      refine wpOp_val rfl (wanted_none rfl) ?_ (fK (.string (strOfNums ([] ++ enc a))) fW (Below.refl _ _) (by rw [hT]; exact rfl))
      clear fK hE hF
      obtain ⟨A', n', c', e', hr'⟩ := q1
      have hc' := conv_str Try.underlying22 Try.underlying5 Try.underlying9 hr'
      clear hr'
      go_simp
    refine stepsAll_cons (k := 3) ?_ ?_
    · intro fa fx fW hF fB hE K fK
      have ev1 : fa.tmps[1]?.getD undef = .int .u64 b := hF.eo 1 (by kernel_rfl)
      refine wpOp_val rfl (wanted_none rfl) ?_ (fK (.int .u64 b) fW (Below.refl _ _) (by rw [hT]; exact rfl))
      clear fK hE hF
      go_simp
    refine stepsAll_cons (k := 4) ?_ ?_
    · intro fa fx fW hF fB hE K fK
      have q3 : fx 3 = .int .u64 b := by have q := hE ⟨3, .data⟩ (by simp) rfl; rw [hT] at q; exact q
      have ev19 : fa.tmps[19]?.getD undef = .int .u64 b := (hF.ev 3 19 (by kernel_rfl)).trans q3
      refine wpOp_call rfl (wanted_none rfl) (by go_simp; exact ⟨rfl, rfl⟩) ?_
      refine (HB.out fW).mono ?_
      intro e' w' h1
      obtain ⟨A1, n1, c1, rfl, _, hr1, hb1, _⟩ := h1.open_
      exact ⟨_, rfl, fK (.slice A1 n1 c1) (w') (hb1) (by rw [hT]; exact ⟨A1, n1, c1, rfl, hr1⟩)⟩
    refine stepsAll_cons (k := 5) ?_ ?_
    · intro fa fx fW hF fB hE K fK
      have q4 : (Fact.row 1 (nums .u8 ([] ++ enc b))).p (fx 4) fW := by have q := hE ⟨4, .data⟩ (by simp) rfl; rw [hT] at q; exact q
      have ev20 : fa.tmps[20]?.getD undef = fx 4 := hF.ev 4 20 (by kernel_rfl)
      refine wpOp_val rfl (wanted_none rfl) ?_ (fK (.string (strOfNums ([] ++ enc b))) fW (Below.refl _ _) (by rw [hT]; exact rfl))
      clear fK hE hF
      obtain ⟨A', n', c', e', hr'⟩ := q4
      have hc' := conv_str Try.underlying22 Try.underlying5 Try.underlying9 hr'
      clear hr'
      go_simp
    refine stepsAll_cons (k := 6) ?_ ?_
    · intro fa fx fW hF fB hE K fK
      have q2 : fx 2 = .string (strOfNums ([] ++ enc a)) := by have q := hE ⟨2, .data⟩ (by simp) rfl; rw [hT] at q; exact q
      have ev18 : fa.tmps[18]?.getD undef = .string (strOfNums ([] ++ enc a)) := (hF.ev 2 18 (by kernel_rfl)).trans q2
      refine wpOp_val rfl (wanted_none rfl) ?_ (fK (.string (strOfNums ([] ++ enc a))) fW (Below.refl _ _) (by rw [hT]; exact rfl))
      clear fK hE hF
      go_simp
    refine stepsAll_cons (k := 7) ?_ ?_
    · intro fa fx fW hF fB hE K fK
      have q5 : fx 5 = .string (strOfNums ([] ++ enc b)) := by have q := hE ⟨5, .data⟩ (by simp) rfl; rw [hT] at q; exact q
      have ev21 : fa.tmps[21]?.getD undef = .string (strOfNums ([] ++ enc b)) := (hF.ev 5 21 (by kernel_rfl)).trans q5
      refine wpOp_val rfl (wanted_none rfl) ?_ (fK (.string (strOfNums ([] ++ enc b))) fW (Below.refl _ _) (by rw [hT]; exact rfl))
      clear fK hE hF
      go_simp
    exact stepsAll_nil
  intro fa fx fW hF fB hx
  have q6 : fx 6 = .string (strOfNums ([] ++ enc a)) := by have q := hx 6 (by decide); rw [hT] at q; exact q
  have ev7 : fa.tmps[7]?.getD undef = .string (strOfNums ([] ++ enc a)) := (hF.ev 6 7 (by kernel_rfl)).trans q6
  have q7 : fx 7 = .string (strOfNums ([] ++ enc b)) := by have q := hx 7 (by decide); rw [hT] at q; exact q
  have ev8 : fa.tmps[8]?.getD undef = .string (strOfNums ([] ++ enc b)) := (hF.ev 7 8 (by kernel_rfl)).trans q7
  rw [hF.eq]
  clear hF hx
  simp only [putAll, Act.put, List.setIfInBounds_toArray, List.set_cons_zero, List.set_cons_succ, q6, q7]
  have hB0 : Below w.heap.size w fW := fB
  obtain ⟨W1, rfl⟩ : ∃ x, x = fW := ⟨_, rfl⟩
  rw [List.nil_append, List.nil_append]
  have HRD := Lib.hid (srcRead A m c xs W1 (hr.below hB0) (by omega))
  have f1 := fun h : a ≠ b => str_ne HAB.out.1 HAB.out.2 h
  have f2 := fun h : a ≠ b => str_pre HAB.out.1 HAB.out.2 h
  have f3 := fun h : a ≠ b => str_pre HAB.out.2 HAB.out.1 (Ne.symm h)
  generalize strOfNums (enc a) = P at f1 f2 f3 ⊢
  generalize strOfNums (enc b) = Q at f1 f2 f3 ⊢
  clear HA HB fB hT
  by_cases hab : a = b
  · have hne : ((a : Int) != b) = false := by simp; omega
    clear f1 f2 f3 hab
    go_wp2_with (first
      | (go_at_call 20; (with_reducible refine HRD.out.mono ?_); rintro e w2 ⟨bk, rfl, hbk, hb2, hs2⟩; have hNm := srcNum (B := w2.heap.size) bk 18446744073709551615 xs w2 hs2 (Nat.le_refl _) HRB.out; rw [show ((18446744073709551615 : Nat) : Int) = 18446744073709551615 from rfl] at hNm; have HNm := Lib.hid hNm; clear hNm))
    have hB2 := below_then hB0 hB0.size hb2
    have hwk : w.heap.size ≤ bk := Nat.le_trans hB0.size hbk
    cases hq : numM xs 18446744073709551615 with
    | error x =>
      have hx0 : (x != 0) = true := by simpa using numM_err HRB.out hq
      rw [hq] at HNm
      go_wp2_with (first
        | (go_at_call 21; refine HNm.out.mono ?_; rintro e w3 ⟨rfl, hc3, hs3⟩; have HLf := Lib.hid (srcLeft bk x [] w3 hs3); have HEr := Lib.hid (fun W (h : Src w2.heap.size W bk [] x) => srcErr bk x [] W h))
        | (go_at_call 22; (with_reducible refine HLf.out.mono ?_); rintro e w4 ⟨rfl, rfl⟩))
      have hB3 := hc3.toBelow hB2 hB2.size (fun k hk => by omega)
      obtain ⟨T, hT⟩ : ∃ T : Nat → Fact, ∀ t_, T t_ = ([Fact.eq (.pointer (some ⟨bk, 0, none⟩)), Fact.eq (.int .i64 x), Fact.eq (.bool true), Fact.eq (.bool true), Fact.eq (undef), Fact.eq (undef), Fact.eq (undef), Fact.eq (undef), Fact.eq (undef), Fact.eq (undef), Fact.eq (undef), Fact.eq (undef), Fact.eq (.bool true), Fact.eq (.bool true), Fact.eq (.bool true), Fact.eq (.bool true), Fact.eq (.bool true)] : List (Fact)).getD t_ Fact.any := ⟨_, fun _ => rfl⟩
      refine region_tab [(0, 69), (1, 70), (2, 71), (3, 72), (4, 73), (5, 74), (6, 75), (7, 76), (8, 77), (9, 78), (10, 79), (11, 80), (12, 81), (13, 82), (14, 83), (15, 84), (16, 6)] T (by kernel_rfl) (by kernel_rfl) (by kernel_rfl) (by kernel_rfl) (by kernel_rfl) ?_ ?_
      · skip
        refine stepsAll_cons (k := 0) ?_ ?_
        · intro fa fx fW hF fB hE K fK
          have ev9 : fa.tmps[9]?.getD undef = .pointer (some ⟨bk, 0, none⟩) := hF.eo 9 (by kernel_rfl)
          refine wpOp_val rfl (wanted_none rfl) ?_ (fK (.pointer (some ⟨bk, 0, none⟩)) fW (Below.refl _ _) (by rw [hT]; exact rfl))
          clear fK hE hF
          go_simp
        refine stepsAll_cons (k := 1) ?_ ?_
        · intro fa fx fW hF fB hE K fK
          have q0 : fx 0 = .pointer (some ⟨bk, 0, none⟩) := by have q := hE ⟨0, .data⟩ (by simp) rfl; rw [hT] at q; exact q
          have ev69 : fa.tmps[69]?.getD undef = .pointer (some ⟨bk, 0, none⟩) := (hF.ev 0 69 (by kernel_rfl)).trans q0
          refine wpOp_call rfl (wanted_none rfl) (by go_simp; exact ⟨rfl, rfl⟩) ?_
          refine (HEr.out fW (hs3.below fB)).mono ?_
          rintro e' w' ⟨rfl, rfl⟩
          exact ⟨_, rfl, fK (.int .i64 x) (fW) (Below.refl _ _) (by rw [hT]; exact rfl)⟩
        refine stepsAll_cons (k := 2) ?_ ?_
        · intro fa fx fW hF fB hE K fK
          have q1 : fx 1 = .int .i64 x := by have q := hE ⟨1, .data⟩ (by simp) rfl; rw [hT] at q; exact q
          have ev70 : fa.tmps[70]?.getD undef = .int .i64 x := (hF.ev 1 70 (by kernel_rfl)).trans q1
          refine wpOp_val rfl (wanted_none rfl) ?_ (fK (.bool true) fW (Below.refl _ _) (by rw [hT]; exact rfl))
          clear fK hE hF
          go_simp
        refine stepsAll_cons (k := 3) ?_ ?_
        · intro fa fx fW hF fB hE K fK
          have q2 : fx 2 = .bool true := by have q := hE ⟨2, .data⟩ (by simp) rfl; rw [hT] at q; exact q
          have ev71 : fa.tmps[71]?.getD undef = .bool true := (hF.ev 2 71 (by kernel_rfl)).trans q2
          refine wpOp_val rfl (wanted_none rfl) ?_ (fK (.bool true) fW (Below.refl _ _) (by rw [hT]; exact rfl))
          clear fK hE hF
          go_simp
        refine stepsAll_cons (k := 4) ?_ ?_
        · intro fa fx fW hF fB hE K fK
          have q3 : fx 3 = .bool true := by have q := hE ⟨3, .guard⟩ (by simp) rfl; rw [hT] at q; exact q
          have ev10 : fa.tmps[10]?.getD undef = .int .u64 0 := hF.eo 10 (by kernel_rfl)
          exact wpOp_skip rfl (by simp [Region.wanted, hF.yes 3 72 (by kernel_rfl) true q3]) (fK undef fW (Below.refl _ _) (by rw [hT]; exact rfl))
        refine stepsAll_cons (k := 5) ?_ ?_
        · intro fa fx fW hF fB hE K fK
          have q3 : fx 3 = .bool true := by have q := hE ⟨3, .chain⟩ (by simp) rfl; rw [hT] at q; exact q
          have q4 : fx 4 = undef := by have q := hE ⟨4, .data⟩ (by simp) rfl; rw [hT] at q; exact q
          have ev73 : fa.tmps[73]?.getD undef = undef := (hF.ev 4 73 (by kernel_rfl)).trans q4
          exact wpOp_skip rfl (by simp [Region.wanted, hF.yes 3 72 (by kernel_rfl) true q3]) (fK undef fW (Below.refl _ _) (by rw [hT]; exact rfl))
        refine stepsAll_cons (k := 6) ?_ ?_
        · intro fa fx fW hF fB hE K fK
          have q3 : fx 3 = .bool true := by have q := hE ⟨3, .guard⟩ (by simp) rfl; rw [hT] at q; exact q
          have q5 : fx 5 = undef := by have q := hE ⟨5, .data⟩ (by simp) rfl; rw [hT] at q; exact q
          have ev74 : fa.tmps[74]?.getD undef = undef := (hF.ev 5 74 (by kernel_rfl)).trans q5
          exact wpOp_skip rfl (by simp [Region.wanted, hF.yes 3 72 (by kernel_rfl) true q3]) (fK undef fW (Below.refl _ _) (by rw [hT]; exact rfl))
        refine stepsAll_cons (k := 7) ?_ ?_
        · intro fa fx fW hF fB hE K fK
          have q3 : fx 3 = .bool true := by have q := hE ⟨3, .guard⟩ (by simp) rfl; rw [hT] at q; exact q
          have ev2 : fa.tmps[2]?.getD undef = .slice A m c := hF.eo 2 (by kernel_rfl)
          exact wpOp_skip rfl (by simp [Region.wanted, hF.yes 3 72 (by kernel_rfl) true q3]) (fK undef fW (Below.refl _ _) (by rw [hT]; exact rfl))
        refine stepsAll_cons (k := 8) ?_ ?_
        · intro fa fx fW hF fB hE K fK
          have q3 : fx 3 = .bool true := by have q := hE ⟨3, .guard⟩ (by simp) rfl; rw [hT] at q; exact q
          have ev11 : fa.tmps[11]?.getD undef = .int .i64 m := hF.eo 11 (by kernel_rfl)
          exact wpOp_skip rfl (by simp [Region.wanted, hF.yes 3 72 (by kernel_rfl) true q3]) (fK undef fW (Below.refl _ _) (by rw [hT]; exact rfl))
        refine stepsAll_cons (k := 9) ?_ ?_
        · intro fa fx fW hF fB hE K fK
          have q3 : fx 3 = .bool true := by have q := hE ⟨3, .guard⟩ (by simp) rfl; rw [hT] at q; exact q
          have q7 : fx 7 = undef := by have q := hE ⟨7, .data⟩ (by simp) rfl; rw [hT] at q; exact q
          have q8 : fx 8 = undef := by have q := hE ⟨8, .data⟩ (by simp) rfl; rw [hT] at q; exact q
          have ev76 : fa.tmps[76]?.getD undef = undef := (hF.ev 7 76 (by kernel_rfl)).trans q7
          have ev77 : fa.tmps[77]?.getD undef = undef := (hF.ev 8 77 (by kernel_rfl)).trans q8
          exact wpOp_skip rfl (by simp [Region.wanted, hF.yes 3 72 (by kernel_rfl) true q3]) (fK undef fW (Below.refl _ _) (by rw [hT]; exact rfl))
        refine stepsAll_cons (k := 10) ?_ ?_
        · intro fa fx fW hF fB hE K fK
          have q3 : fx 3 = .bool true := by have q := hE ⟨3, .guard⟩ (by simp) rfl; rw [hT] at q; exact q
          have q9 : fx 9 = undef := by have q := hE ⟨9, .data⟩ (by simp) rfl; rw [hT] at q; exact q
          have ev78 : fa.tmps[78]?.getD undef = undef := (hF.ev 9 78 (by kernel_rfl)).trans q9
          exact wpOp_skip rfl (by simp [Region.wanted, hF.yes 3 72 (by kernel_rfl) true q3]) (fK undef fW (Below.refl _ _) (by rw [hT]; exact rfl))
        refine stepsAll_cons (k := 11) ?_ ?_
        · intro fa fx fW hF fB hE K fK
          have q3 : fx 3 = .bool true := by have q := hE ⟨3, .guard⟩ (by simp) rfl; rw [hT] at q; exact q
          have q6 : fx 6 = undef := by have q := hE ⟨6, .data⟩ (by simp) rfl; rw [hT] at q; exact q
          have q10 : fx 10 = undef := by have q := hE ⟨10, .data⟩ (by simp) rfl; rw [hT] at q; exact q
          have ev75 : fa.tmps[75]?.getD undef = undef := (hF.ev 6 75 (by kernel_rfl)).trans q6
          have ev79 : fa.tmps[79]?.getD undef = undef := (hF.ev 10 79 (by kernel_rfl)).trans q10
          exact wpOp_skip rfl (by simp [Region.wanted, hF.yes 3 72 (by kernel_rfl) true q3]) (fK undef fW (Below.refl _ _) (by rw [hT]; exact rfl))
        refine stepsAll_cons (k := 12) ?_ ?_
        · intro fa fx fW hF fB hE K fK
          have q3 : fx 3 = .bool true := by have q := hE ⟨3, .data⟩ (by simp) rfl; rw [hT] at q; exact q
          have q11 : fx 11 = undef := by have q := hE ⟨11, .data⟩ (by simp) rfl; rw [hT] at q; exact q
          have ev72 : fa.tmps[72]?.getD undef = .bool true := (hF.ev 3 72 (by kernel_rfl)).trans q3
          have ev80 : fa.tmps[80]?.getD undef = undef := (hF.ev 11 80 (by kernel_rfl)).trans q11
          refine wpOp_val rfl (wanted_none rfl) ?_ (fK (.bool true) fW (Below.refl _ _) (by rw [hT]; exact rfl))
          clear fK hE hF
          go_simp
        refine stepsAll_cons (k := 13) ?_ ?_
        · intro fa fx fW hF fB hE K fK
          have q12 : fx 12 = .bool true := by have q := hE ⟨12, .data⟩ (by simp) rfl; rw [hT] at q; exact q
          have ev81 : fa.tmps[81]?.getD undef = .bool true := (hF.ev 12 81 (by kernel_rfl)).trans q12
          refine wpOp_val rfl (wanted_none rfl) ?_ (fK (.bool true) fW (Below.refl _ _) (by rw [hT]; exact rfl))
          clear fK hE hF
          go_simp
        refine stepsAll_cons (k := 14) ?_ ?_
        · intro fa fx fW hF fB hE K fK
          have q13 : fx 13 = .bool true := by have q := hE ⟨13, .chain⟩ (by simp) rfl; rw [hT] at q; exact q
          refine wpOp_call rfl (wanted_yes rfl (hF.yes 13 82 (by kernel_rfl) true q13)) (by go_simp; exact ⟨rfl, rfl⟩) ?_
          refine (HL.out fW).mono ?_
          rintro e' w' ⟨rfl, hbb⟩
          exact ⟨_, rfl, fK (.bool true) (w') (hbb) (by rw [hT]; exact rfl)⟩
        refine stepsAll_cons (k := 15) ?_ ?_
        · intro fa fx fW hF fB hE K fK
          have q13 : fx 13 = .bool true := by have q := hE ⟨13, .data⟩ (by simp) rfl; rw [hT] at q; exact q
          have q14 : fx 14 = .bool true := by have q := hE ⟨14, .data⟩ (by simp) rfl; rw [hT] at q; exact q
          have ev82 : fa.tmps[82]?.getD undef = .bool true := (hF.ev 13 82 (by kernel_rfl)).trans q13
          have ev83 : fa.tmps[83]?.getD undef = .bool true := (hF.ev 14 83 (by kernel_rfl)).trans q14
          refine wpOp_val rfl (wanted_none rfl) ?_ (fK (.bool true) fW (Below.refl _ _) (by rw [hT]; exact rfl))
          clear fK hE hF
          go_simp
        refine stepsAll_cons (k := 16) ?_ ?_
        · intro fa fx fW hF fB hE K fK
          have q15 : fx 15 = .bool true := by have q := hE ⟨15, .data⟩ (by simp) rfl; rw [hT] at q; exact q
          have ev84 : fa.tmps[84]?.getD undef = .bool true := (hF.ev 15 84 (by kernel_rfl)).trans q15
          refine wpOp_val rfl (wanted_none rfl) ?_ (fK (.bool true) fW (Below.refl _ _) (by rw [hT]; exact rfl))
          clear fK hE hF
          go_simp
        exact stepsAll_nil
      intro fa fx fW hF fB hx
      have q16 : fx 16 = .bool true := by have q := hx 16 (by decide); rw [hT] at q; exact q
      have ev6 : fa.tmps[6]?.getD undef = .bool true := (hF.ev 16 6 (by kernel_rfl)).trans q16
      go_wp2
      exact hF.ret rfl rfl ev6 ⟨rfl, below_then hB3 hB3.size fB⟩
    | ok z =>
      obtain ⟨v, rest⟩ := z
      obtain ⟨hv, hxs⟩ := numS_ok HRB.out (numM_ok hq)
      have hml : xs.length = m := rds_len hr
      obtain ⟨kk, hkk⟩ : ∃ kk, kk = (enc v).length := ⟨_, rfl⟩
      have hkl : kk + rest.length = m := by rw [← hml, hxs, List.length_append]; omega
      have hkp : 0 < kk := by rw [hkk]; exact enc_pos v
      have hk2 : (m : Int) - rest.length = kk := by omega
      obtain ⟨ad, rfl⟩ := hr.some_ (by omega)
      have hle := hr.le
      have HRK : Hid (Rds w 1 (some ad) kk c (nums .u8 ([] ++ enc v))) := by
        have h := hr.take_ kk (by omega)
        have e : (nums .u8 xs).take (kk * 1) = nums .u8 ([] ++ enc v) := by
          rw [hxs, Nat.mul_one, List.nil_append, hkk]
          simp [nums]
        rwa [e] at h
      have HV := Lib.hid (fun W => cnum none 0 0 [] v hv W (rds_nil W .u8) (by decide))
      rw [hq] at HNm
      clear hv hxs hml hkk hq
      go_wp2_with (first
        | (go_at_call 21; refine HNm.out.mono ?_; rintro e w3 ⟨rfl, hc3, hs3⟩; have HLf := Lib.hid (srcLeft bk 0 rest w3 hs3); have HEr := Lib.hid (fun W (h : Src w2.heap.size W bk rest 0) => srcErr bk 0 rest W h))
        | (go_at_call 22; (with_reducible refine HLf.out.mono ?_); rintro e w4 ⟨rfl, rfl⟩))
      have hB3 := hc3.toBelow hB2 hB2.size (fun k hk => by omega)
      have hkc : (kk : Int) ≤ c := by omega
      have hrk := HRK.out.below hB3
      obtain ⟨T, hT⟩ : ∃ T : Nat → Fact, ∀ t_, T t_ = ([Fact.eq (.pointer (some ⟨bk, 0, none⟩)), Fact.eq (.int .i64 0), Fact.eq (.bool false), Fact.eq (.bool false), Fact.eq (.int .u64 v), Fact.row 1 (nums .u8 ([] ++ enc v)), Fact.eq (.string (strOfNums ([] ++ enc v))), Fact.eq (.slice (some ad) m c), Fact.eq (.int .i64 kk), Fact.eq (.slice (some ad) kk c), Fact.eq (.string (strOfNums ([] ++ enc v))), Fact.eq (.bool true), Fact.eq (.bool true), Fact.eq (.bool true), Fact.eq (.bool true), Fact.eq (.bool true), Fact.eq (.bool true)] : List (Fact)).getD t_ Fact.any := ⟨_, fun _ => rfl⟩
      refine region_tab [(0, 69), (1, 70), (2, 71), (3, 72), (4, 73), (5, 74), (6, 75), (7, 76), (8, 77), (9, 78), (10, 79), (11, 80), (12, 81), (13, 82), (14, 83), (15, 84), (16, 6)] T (by kernel_rfl) (by kernel_rfl) (by kernel_rfl) (by kernel_rfl) (by kernel_rfl) ?_ ?_
      · skip
        refine stepsAll_cons (k := 0) ?_ ?_
        · intro fa fx fW hF fB hE K fK
          have ev9 : fa.tmps[9]?.getD undef = .pointer (some ⟨bk, 0, none⟩) := hF.eo 9 (by kernel_rfl)
          refine wpOp_val rfl (wanted_none rfl) ?_ (fK (.pointer (some ⟨bk, 0, none⟩)) fW (Below.refl _ _) (by rw [hT]; exact rfl))
          clear fK hE hF
          go_simp
        refine stepsAll_cons (k := 1) ?_ ?_
        · intro fa fx fW hF fB hE K fK
          have q0 : fx 0 = .pointer (some ⟨bk, 0, none⟩) := by have q := hE ⟨0, .data⟩ (by simp) rfl; rw [hT] at q; exact q
          have ev69 : fa.tmps[69]?.getD undef = .pointer (some ⟨bk, 0, none⟩) := (hF.ev 0 69 (by kernel_rfl)).trans q0
          refine wpOp_call rfl (wanted_none rfl) (by go_simp; exact ⟨rfl, rfl⟩) ?_
          refine (HEr.out fW (hs3.below fB)).mono ?_
          rintro e' w' ⟨rfl, rfl⟩
          exact ⟨_, rfl, fK (.int .i64 0) (fW) (Below.refl _ _) (by rw [hT]; exact rfl)⟩
        refine stepsAll_cons (k := 2) ?_ ?_
        · intro fa fx fW hF fB hE K fK
          have q1 : fx 1 = .int .i64 0 := by have q := hE ⟨1, .data⟩ (by simp) rfl; rw [hT] at q; exact q
          have ev70 : fa.tmps[70]?.getD undef = .int .i64 0 := (hF.ev 1 70 (by kernel_rfl)).trans q1
          refine wpOp_val rfl (wanted_none rfl) ?_ (fK (.bool false) fW (Below.refl _ _) (by rw [hT]; exact rfl))
          clear fK hE hF
          go_simp
        refine stepsAll_cons (k := 3) ?_ ?_
        · intro fa fx fW hF fB hE K fK
          have q2 : fx 2 = .bool false := by have q := hE ⟨2, .data⟩ (by simp) rfl; rw [hT] at q; exact q
          have ev71 : fa.tmps[71]?.getD undef = .bool false := (hF.ev 2 71 (by kernel_rfl)).trans q2
          refine wpOp_val rfl (wanted_none rfl) ?_ (fK (.bool false) fW (Below.refl _ _) (by rw [hT]; exact rfl))
          clear fK hE hF
          go_simp
        refine stepsAll_cons (k := 4) ?_ ?_
        · intro fa fx fW hF fB hE K fK
          have q3 : fx 3 = .bool false := by have q := hE ⟨3, .guard⟩ (by simp) rfl; rw [hT] at q; exact q
          have ev10 : fa.tmps[10]?.getD undef = .int .u64 v := hF.eo 10 (by kernel_rfl)
          refine wpOp_val rfl (wanted_not rfl (hF.yes 3 72 (by kernel_rfl) false q3)) ?_ (fK (.int .u64 v) fW (Below.refl _ _) (by rw [hT]; exact rfl))
          clear fK hE hF
          go_simp
        refine stepsAll_cons (k := 5) ?_ ?_
        · intro fa fx fW hF fB hE K fK
          have q3 : fx 3 = .bool false := by have q := hE ⟨3, .chain⟩ (by simp) rfl; rw [hT] at q; exact q
          have q4 : fx 4 = .int .u64 v := by have q := hE ⟨4, .data⟩ (by simp) rfl; rw [hT] at q; exact q
          have ev73 : fa.tmps[73]?.getD undef = .int .u64 v := (hF.ev 4 73 (by kernel_rfl)).trans q4
          refine wpOp_call rfl (wanted_not rfl (hF.yes 3 72 (by kernel_rfl) false q3)) (by go_simp; exact ⟨rfl, rfl⟩) ?_
          refine (HV.out fW).mono ?_
          intro e' w' h1
          obtain ⟨A1, n1, c1, rfl, _, hr1, hb1, _⟩ := h1.open_
          exact ⟨_, rfl, fK (.slice A1 n1 c1) (w') (hb1) (by rw [hT]; exact ⟨A1, n1, c1, rfl, hr1⟩)⟩
        refine stepsAll_cons (k := 6) ?_ ?_
        · intro fa fx fW hF fB hE K fK
          have q3 : fx 3 = .bool false := by have q := hE ⟨3, .guard⟩ (by simp) rfl; rw [hT] at q; exact q
          have q5 : (Fact.row 1 (nums .u8 ([] ++ enc v))).p (fx 5) fW := by have q := hE ⟨5, .data⟩ (by simp) rfl; rw [hT] at q; exact q
          have ev74 : fa.tmps[74]?.getD undef = fx 5 := hF.ev 5 74 (by kernel_rfl)
          refine wpOp_val rfl (wanted_not rfl (hF.yes 3 72 (by kernel_rfl) false q3)) ?_ (fK (.string (strOfNums ([] ++ enc v))) fW (Below.refl _ _) (by rw [hT]; exact rfl))
          clear fK hE hF
          obtain ⟨A', n', c', e', hr'⟩ := q5
          have hc' := conv_str Try.underlying22 Try.underlying5 Try.underlying9 hr'
          clear hr'
          go_simp
        refine stepsAll_cons (k := 7) ?_ ?_
        · intro fa fx fW hF fB hE K fK
          have q3 : fx 3 = .bool false := by have q := hE ⟨3, .guard⟩ (by simp) rfl; rw [hT] at q; exact q
          have ev2 : fa.tmps[2]?.getD undef = .slice (some ad) m c := hF.eo 2 (by kernel_rfl)
          refine wpOp_val rfl (wanted_not rfl (hF.yes 3 72 (by kernel_rfl) false q3)) ?_ (fK (.slice (some ad) m c) fW (Below.refl _ _) (by rw [hT]; exact rfl))
          clear fK hE hF
          go_simp
        refine stepsAll_cons (k := 8) ?_ ?_
        · intro fa fx fW hF fB hE K fK
          have q3 : fx 3 = .bool false := by have q := hE ⟨3, .guard⟩ (by simp) rfl; rw [hT] at q; exact q
          have ev11 : fa.tmps[11]?.getD undef = .int .i64 kk := hF.eo 11 (by kernel_rfl)
          refine wpOp_val rfl (wanted_not rfl (hF.yes 3 72 (by kernel_rfl) false q3)) ?_ (fK (.int .i64 kk) fW (Below.refl _ _) (by rw [hT]; exact rfl))
          clear fK hE hF
          go_simp
        refine stepsAll_cons (k := 9) ?_ ?_
        · intro fa fx fW hF fB hE K fK
          have q3 : fx 3 = .bool false := by have q := hE ⟨3, .guard⟩ (by simp) rfl; rw [hT] at q; exact q
          have q7 : fx 7 = .slice (some ad) m c := by have q := hE ⟨7, .data⟩ (by simp) rfl; rw [hT] at q; exact q
          have q8 : fx 8 = .int .i64 kk := by have q := hE ⟨8, .data⟩ (by simp) rfl; rw [hT] at q; exact q
          have ev76 : fa.tmps[76]?.getD undef = .slice (some ad) m c := (hF.ev 7 76 (by kernel_rfl)).trans q7
          have ev77 : fa.tmps[77]?.getD undef = .int .i64 kk := (hF.ev 8 77 (by kernel_rfl)).trans q8
          refine wpOp_val rfl (wanted_not rfl (hF.yes 3 72 (by kernel_rfl) false q3)) ?_ (fK (.slice (some ad) kk c) fW (Below.refl _ _) (by rw [hT]; exact rfl))
          clear fK hE hF
          go_simp
        refine stepsAll_cons (k := 10) ?_ ?_
        · intro fa fx fW hF fB hE K fK
          have q3 : fx 3 = .bool false := by have q := hE ⟨3, .guard⟩ (by simp) rfl; rw [hT] at q; exact q
          have q9 : fx 9 = .slice (some ad) kk c := by have q := hE ⟨9, .data⟩ (by simp) rfl; rw [hT] at q; exact q
          have ev78 : fa.tmps[78]?.getD undef = .slice (some ad) kk c := (hF.ev 9 78 (by kernel_rfl)).trans q9
          have hc' := conv_str Try.underlying22 Try.underlying5 Try.underlying9 (hrk.below fB)
          refine wpOp_val rfl (wanted_not rfl (hF.yes 3 72 (by kernel_rfl) false q3)) ?_ (fK (.string (strOfNums ([] ++ enc v))) fW (Below.refl _ _) (by rw [hT]; exact rfl))
          clear fK hE hF
          go_simp
        refine stepsAll_cons (k := 11) ?_ ?_
        · intro fa fx fW hF fB hE K fK
          have q3 : fx 3 = .bool false := by have q := hE ⟨3, .guard⟩ (by simp) rfl; rw [hT] at q; exact q
          have q6 : fx 6 = .string (strOfNums ([] ++ enc v)) := by have q := hE ⟨6, .data⟩ (by simp) rfl; rw [hT] at q; exact q
          have q10 : fx 10 = .string (strOfNums ([] ++ enc v)) := by have q := hE ⟨10, .data⟩ (by simp) rfl; rw [hT] at q; exact q
          have ev75 : fa.tmps[75]?.getD undef = .string (strOfNums ([] ++ enc v)) := (hF.ev 6 75 (by kernel_rfl)).trans q6
          have ev79 : fa.tmps[79]?.getD undef = .string (strOfNums ([] ++ enc v)) := (hF.ev 10 79 (by kernel_rfl)).trans q10
          refine wpOp_val rfl (wanted_not rfl (hF.yes 3 72 (by kernel_rfl) false q3)) ?_ (fK (.bool true) fW (Below.refl _ _) (by rw [hT]; exact rfl))
          clear fK hE hF
          go_simp
        refine stepsAll_cons (k := 12) ?_ ?_
        · intro fa fx fW hF fB hE K fK
          have q3 : fx 3 = .bool false := by have q := hE ⟨3, .data⟩ (by simp) rfl; rw [hT] at q; exact q
          have q11 : fx 11 = .bool true := by have q := hE ⟨11, .data⟩ (by simp) rfl; rw [hT] at q; exact q
          have ev72 : fa.tmps[72]?.getD undef = .bool false := (hF.ev 3 72 (by kernel_rfl)).trans q3
          have ev80 : fa.tmps[80]?.getD undef = .bool true := (hF.ev 11 80 (by kernel_rfl)).trans q11
          refine wpOp_val rfl (wanted_none rfl) ?_ (fK (.bool true) fW (Below.refl _ _) (by rw [hT]; exact rfl))
          clear fK hE hF
          go_simp
        refine stepsAll_cons (k := 13) ?_ ?_
        · intro fa fx fW hF fB hE K fK
          have q12 : fx 12 = .bool true := by have q := hE ⟨12, .data⟩ (by simp) rfl; rw [hT] at q; exact q
          have ev81 : fa.tmps[81]?.getD undef = .bool true := (hF.ev 12 81 (by kernel_rfl)).trans q12
          refine wpOp_val rfl (wanted_none rfl) ?_ (fK (.bool true) fW (Below.refl _ _) (by rw [hT]; exact rfl))
          clear fK hE hF
          go_simp
        refine stepsAll_cons (k := 14) ?_ ?_
        · intro fa fx fW hF fB hE K fK
          have q13 : fx 13 = .bool true := by have q := hE ⟨13, .chain⟩ (by simp) rfl; rw [hT] at q; exact q
          refine wpOp_call rfl (wanted_yes rfl (hF.yes 13 82 (by kernel_rfl) true q13)) (by go_simp; exact ⟨rfl, rfl⟩) ?_
          refine (HL.out fW).mono ?_
          rintro e' w' ⟨rfl, hbb⟩
          exact ⟨_, rfl, fK (.bool true) (w') (hbb) (by rw [hT]; exact rfl)⟩
        refine stepsAll_cons (k := 15) ?_ ?_
        · intro fa fx fW hF fB hE K fK
          have q13 : fx 13 = .bool true := by have q := hE ⟨13, .data⟩ (by simp) rfl; rw [hT] at q; exact q
          have q14 : fx 14 = .bool true := by have q := hE ⟨14, .data⟩ (by simp) rfl; rw [hT] at q; exact q
          have ev82 : fa.tmps[82]?.getD undef = .bool true := (hF.ev 13 82 (by kernel_rfl)).trans q13
          have ev83 : fa.tmps[83]?.getD undef = .bool true := (hF.ev 14 83 (by kernel_rfl)).trans q14
          refine wpOp_val rfl (wanted_none rfl) ?_ (fK (.bool true) fW (Below.refl _ _) (by rw [hT]; exact rfl))
          clear fK hE hF
          go_simp
        refine stepsAll_cons (k := 16) ?_ ?_
        · intro fa fx fW hF fB hE K fK
          have q15 : fx 15 = .bool true := by have q := hE ⟨15, .data⟩ (by simp) rfl; rw [hT] at q; exact q
          have ev84 : fa.tmps[84]?.getD undef = .bool true := (hF.ev 15 84 (by kernel_rfl)).trans q15
          refine wpOp_val rfl (wanted_none rfl) ?_ (fK (.bool true) fW (Below.refl _ _) (by rw [hT]; exact rfl))
          clear fK hE hF
          go_simp
        exact stepsAll_nil
      intro fa fx fW hF fB hx
      have q16 : fx 16 = .bool true := by have q := hx 16 (by decide); rw [hT] at q; exact q
      have ev6 : fa.tmps[6]?.getD undef = .bool true := (hF.ev 16 6 (by kernel_rfl)).trans q16
      go_wp2
      exact hF.ret rfl rfl ev6 ⟨rfl, below_then hB3 hB3.size fB⟩
  · have hne : ((a : Int) != b) = true := by simp; omega
    have g1 := f1 hab
    have g2 := f2 hab
    have g3 := f3 hab
    clear f1 f2 f3 hab
    by_cases hsz : (P.size : Int) ≤ Q.size
    · have hsz2 : decide ((Q.size : Int) < P.size) = false := by simp; omega
      go_wp2_with (first
        | (go_at_call 20; (with_reducible refine HRD.out.mono ?_); rintro e w2 ⟨bk, rfl, hbk, hb2, hs2⟩; have hNm := srcNum (B := w2.heap.size) bk 18446744073709551615 xs w2 hs2 (Nat.le_refl _) HRB.out; rw [show ((18446744073709551615 : Nat) : Int) = 18446744073709551615 from rfl] at hNm; have HNm := Lib.hid hNm; clear hNm))
      have hB2 := below_then hB0 hB0.size hb2
      have hwk : w.heap.size ≤ bk := Nat.le_trans hB0.size hbk
      cases hq : numM xs 18446744073709551615 with
      | error x =>
        have hx0 : (x != 0) = true := by simpa using numM_err HRB.out hq
        rw [hq] at HNm
        go_wp2_with (first
          | (go_at_call 21; refine HNm.out.mono ?_; rintro e w3 ⟨rfl, hc3, hs3⟩; have HLf := Lib.hid (srcLeft bk x [] w3 hs3); have HEr := Lib.hid (fun W (h : Src w2.heap.size W bk [] x) => srcErr bk x [] W h))
          | (go_at_call 22; (with_reducible refine HLf.out.mono ?_); rintro e w4 ⟨rfl, rfl⟩))
        have hB3 := hc3.toBelow hB2 hB2.size (fun k hk => by omega)
        obtain ⟨T, hT⟩ : ∃ T : Nat → Fact, ∀ t_, T t_ = ([Fact.eq (.pointer (some ⟨bk, 0, none⟩)), Fact.eq (.int .i64 x), Fact.eq (.bool true), Fact.eq (.bool true), Fact.eq (undef), Fact.eq (undef), Fact.eq (undef), Fact.eq (undef), Fact.eq (undef), Fact.eq (undef), Fact.eq (undef), Fact.eq (undef), Fact.eq (.bool true), Fact.eq (.bool true), Fact.eq (.bool true), Fact.eq (.bool true), Fact.eq (.bool true)] : List (Fact)).getD t_ Fact.any := ⟨_, fun _ => rfl⟩
        refine region_tab [(0, 69), (1, 70), (2, 71), (3, 72), (4, 73), (5, 74), (6, 75), (7, 76), (8, 77), (9, 78), (10, 79), (11, 80), (12, 81), (13, 82), (14, 83), (15, 84), (16, 6)] T (by kernel_rfl) (by kernel_rfl) (by kernel_rfl) (by kernel_rfl) (by kernel_rfl) ?_ ?_
        · skip
          refine stepsAll_cons (k := 0) ?_ ?_
          · intro fa fx fW hF fB hE K fK
            have ev9 : fa.tmps[9]?.getD undef = .pointer (some ⟨bk, 0, none⟩) := hF.eo 9 (by kernel_rfl)
            refine wpOp_val rfl (wanted_none rfl) ?_ (fK (.pointer (some ⟨bk, 0, none⟩)) fW (Below.refl _ _) (by rw [hT]; exact rfl))
            clear fK hE hF
            go_simp
          refine stepsAll_cons (k := 1) ?_ ?_
          · intro fa fx fW hF fB hE K fK
            have q0 : fx 0 = .pointer (some ⟨bk, 0, none⟩) := by have q := hE ⟨0, .data⟩ (by simp) rfl; rw [hT] at q; exact q
            have ev69 : fa.tmps[69]?.getD undef = .pointer (some ⟨bk, 0, none⟩) := (hF.ev 0 69 (by kernel_rfl)).trans q0
            refine wpOp_call rfl (wanted_none rfl) (by go_simp; exact ⟨rfl, rfl⟩) ?_
            refine (HEr.out fW (hs3.below fB)).mono ?_
            rintro e' w' ⟨rfl, rfl⟩
            exact ⟨_, rfl, fK (.int .i64 x) (fW) (Below.refl _ _) (by rw [hT]; exact rfl)⟩
          refine stepsAll_cons (k := 2) ?_ ?_
          · intro fa fx fW hF fB hE K fK
            have q1 : fx 1 = .int .i64 x := by have q := hE ⟨1, .data⟩ (by simp) rfl; rw [hT] at q; exact q
            have ev70 : fa.tmps[70]?.getD undef = .int .i64 x := (hF.ev 1 70 (by kernel_rfl)).trans q1
            refine wpOp_val rfl (wanted_none rfl) ?_ (fK (.bool true) fW (Below.refl _ _) (by rw [hT]; exact rfl))
            clear fK hE hF
            go_simp
          refine stepsAll_cons (k := 3) ?_ ?_
          · intro fa fx fW hF fB hE K fK
            have q2 : fx 2 = .bool true := by have q := hE ⟨2, .data⟩ (by simp) rfl; rw [hT] at q; exact q
            have ev71 : fa.tmps[71]?.getD undef = .bool true := (hF.ev 2 71 (by kernel_rfl)).trans q2
            refine wpOp_val rfl (wanted_none rfl) ?_ (fK (.bool true) fW (Below.refl _ _) (by rw [hT]; exact rfl))
            clear fK hE hF
            go_simp
          refine stepsAll_cons (k := 4) ?_ ?_
          · intro fa fx fW hF fB hE K fK
            have q3 : fx 3 = .bool true := by have q := hE ⟨3, .guard⟩ (by simp) rfl; rw [hT] at q; exact q
            have ev10 : fa.tmps[10]?.getD undef = .int .u64 0 := hF.eo 10 (by kernel_rfl)
            exact wpOp_skip rfl (by simp [Region.wanted, hF.yes 3 72 (by kernel_rfl) true q3]) (fK undef fW (Below.refl _ _) (by rw [hT]; exact rfl))
          refine stepsAll_cons (k := 5) ?_ ?_
          · intro fa fx fW hF fB hE K fK
            have q3 : fx 3 = .bool true := by have q := hE ⟨3, .chain⟩ (by simp) rfl; rw [hT] at q; exact q
            have q4 : fx 4 = undef := by have q := hE ⟨4, .data⟩ (by simp) rfl; rw [hT] at q; exact q
            have ev73 : fa.tmps[73]?.getD undef = undef := (hF.ev 4 73 (by kernel_rfl)).trans q4
            exact wpOp_skip rfl (by simp [Region.wanted, hF.yes 3 72 (by kernel_rfl) true q3]) (fK undef fW (Below.refl _ _) (by rw [hT]; exact rfl))
          refine stepsAll_cons (k := 6) ?_ ?_
          · intro fa fx fW hF fB hE K fK
            have q3 : fx 3 = .bool true := by have q := hE ⟨3, .guard⟩ (by simp) rfl; rw [hT] at q; exact q
            have q5 : fx 5 = undef := by have q := hE ⟨5, .data⟩ (by simp) rfl; rw [hT] at q; exact q
            have ev74 : fa.tmps[74]?.getD undef = undef := (hF.ev 5 74 (by kernel_rfl)).trans q5
            exact wpOp_skip rfl (by simp [Region.wanted, hF.yes 3 72 (by kernel_rfl) true q3]) (fK undef fW (Below.refl _ _) (by rw [hT]; exact rfl))
          refine stepsAll_cons (k := 7) ?_ ?_
          · intro fa fx fW hF fB hE K fK
            have q3 : fx 3 = .bool true := by have q := hE ⟨3, .guard⟩ (by simp) rfl; rw [hT] at q; exact q
            have ev2 : fa.tmps[2]?.getD undef = .slice A m c := hF.eo 2 (by kernel_rfl)
            exact wpOp_skip rfl (by simp [Region.wanted, hF.yes 3 72 (by kernel_rfl) true q3]) (fK undef fW (Below.refl _ _) (by rw [hT]; exact rfl))
          refine stepsAll_cons (k := 8) ?_ ?_
          · intro fa fx fW hF fB hE K fK
            have q3 : fx 3 = .bool true := by have q := hE ⟨3, .guard⟩ (by simp) rfl; rw [hT] at q; exact q
            have ev11 : fa.tmps[11]?.getD undef = .int .i64 m := hF.eo 11 (by kernel_rfl)
            exact wpOp_skip rfl (by simp [Region.wanted, hF.yes 3 72 (by kernel_rfl) true q3]) (fK undef fW (Below.refl _ _) (by rw [hT]; exact rfl))
          refine stepsAll_cons (k := 9) ?_ ?_
          · intro fa fx fW hF fB hE K fK
            have q3 : fx 3 = .bool true := by have q := hE ⟨3, .guard⟩ (by simp) rfl; rw [hT] at q; exact q
            have q7 : fx 7 = undef := by have q := hE ⟨7, .data⟩ (by simp) rfl; rw [hT] at q; exact q
            have q8 : fx 8 = undef := by have q := hE ⟨8, .data⟩ (by simp) rfl; rw [hT] at q; exact q
            have ev76 : fa.tmps[76]?.getD undef = undef := (hF.ev 7 76 (by kernel_rfl)).trans q7
            have ev77 : fa.tmps[77]?.getD undef = undef := (hF.ev 8 77 (by kernel_rfl)).trans q8
            exact wpOp_skip rfl (by simp [Region.wanted, hF.yes 3 72 (by kernel_rfl) true q3]) (fK undef fW (Below.refl _ _) (by rw [hT]; exact rfl))
          refine stepsAll_cons (k := 10) ?_ ?_
          · intro fa fx fW hF fB hE K fK
            have q3 : fx 3 = .bool true := by have q := hE ⟨3, .guard⟩ (by simp) rfl; rw [hT] at q; exact q
            have q9 : fx 9 = undef := by have q := hE ⟨9, .data⟩ (by simp) rfl; rw [hT] at q; exact q
            have ev78 : fa.tmps[78]?.getD undef = undef := (hF.ev 9 78 (by kernel_rfl)).trans q9
            exact wpOp_skip rfl (by simp [Region.wanted, hF.yes 3 72 (by kernel_rfl) true q3]) (fK undef fW (Below.refl _ _) (by rw [hT]; exact rfl))
          refine stepsAll_cons (k := 11) ?_ ?_
          · intro fa fx fW hF fB hE K fK
            have q3 : fx 3 = .bool true := by have q := hE ⟨3, .guard⟩ (by simp) rfl; rw [hT] at q; exact q
            have q6 : fx 6 = undef := by have q := hE ⟨6, .data⟩ (by simp) rfl; rw [hT] at q; exact q
            have q10 : fx 10 = undef := by have q := hE ⟨10, .data⟩ (by simp) rfl; rw [hT] at q; exact q
            have ev75 : fa.tmps[75]?.getD undef = undef := (hF.ev 6 75 (by kernel_rfl)).trans q6
            have ev79 : fa.tmps[79]?.getD undef = undef := (hF.ev 10 79 (by kernel_rfl)).trans q10
            exact wpOp_skip rfl (by simp [Region.wanted, hF.yes 3 72 (by kernel_rfl) true q3]) (fK undef fW (Below.refl _ _) (by rw [hT]; exact rfl))
          refine stepsAll_cons (k := 12) ?_ ?_
          · intro fa fx fW hF fB hE K fK
            have q3 : fx 3 = .bool true := by have q := hE ⟨3, .data⟩ (by simp) rfl; rw [hT] at q; exact q
            have q11 : fx 11 = undef := by have q := hE ⟨11, .data⟩ (by simp) rfl; rw [hT] at q; exact q
            have ev72 : fa.tmps[72]?.getD undef = .bool true := (hF.ev 3 72 (by kernel_rfl)).trans q3
            have ev80 : fa.tmps[80]?.getD undef = undef := (hF.ev 11 80 (by kernel_rfl)).trans q11
            refine wpOp_val rfl (wanted_none rfl) ?_ (fK (.bool true) fW (Below.refl _ _) (by rw [hT]; exact rfl))
            clear fK hE hF
            go_simp
          refine stepsAll_cons (k := 13) ?_ ?_
          · intro fa fx fW hF fB hE K fK
            have q12 : fx 12 = .bool true := by have q := hE ⟨12, .data⟩ (by simp) rfl; rw [hT] at q; exact q
            have ev81 : fa.tmps[81]?.getD undef = .bool true := (hF.ev 12 81 (by kernel_rfl)).trans q12
            refine wpOp_val rfl (wanted_none rfl) ?_ (fK (.bool true) fW (Below.refl _ _) (by rw [hT]; exact rfl))
            clear fK hE hF
            go_simp
          refine stepsAll_cons (k := 14) ?_ ?_
          · intro fa fx fW hF fB hE K fK
            have q13 : fx 13 = .bool true := by have q := hE ⟨13, .chain⟩ (by simp) rfl; rw [hT] at q; exact q
            refine wpOp_call rfl (wanted_yes rfl (hF.yes 13 82 (by kernel_rfl) true q13)) (by go_simp; exact ⟨rfl, rfl⟩) ?_
            refine (HL.out fW).mono ?_
            rintro e' w' ⟨rfl, hbb⟩
            exact ⟨_, rfl, fK (.bool true) (w') (hbb) (by rw [hT]; exact rfl)⟩
          refine stepsAll_cons (k := 15) ?_ ?_
          · intro fa fx fW hF fB hE K fK
            have q13 : fx 13 = .bool true := by have q := hE ⟨13, .data⟩ (by simp) rfl; rw [hT] at q; exact q
            have q14 : fx 14 = .bool true := by have q := hE ⟨14, .data⟩ (by simp) rfl; rw [hT] at q; exact q
            have ev82 : fa.tmps[82]?.getD undef = .bool true := (hF.ev 13 82 (by kernel_rfl)).trans q13
            have ev83 : fa.tmps[83]?.getD undef = .bool true := (hF.ev 14 83 (by kernel_rfl)).trans q14
            refine wpOp_val rfl (wanted_none rfl) ?_ (fK (.bool true) fW (Below.refl _ _) (by rw [hT]; exact rfl))
            clear fK hE hF
            go_simp
          refine stepsAll_cons (k := 16) ?_ ?_
          · intro fa fx fW hF fB hE K fK
            have q15 : fx 15 = .bool true := by have q := hE ⟨15, .data⟩ (by simp) rfl; rw [hT] at q; exact q
            have ev84 : fa.tmps[84]?.getD undef = .bool true := (hF.ev 15 84 (by kernel_rfl)).trans q15
            refine wpOp_val rfl (wanted_none rfl) ?_ (fK (.bool true) fW (Below.refl _ _) (by rw [hT]; exact rfl))
            clear fK hE hF
            go_simp
          exact stepsAll_nil
        intro fa fx fW hF fB hx
        have q16 : fx 16 = .bool true := by have q := hx 16 (by decide); rw [hT] at q; exact q
        have ev6 : fa.tmps[6]?.getD undef = .bool true := (hF.ev 16 6 (by kernel_rfl)).trans q16
        go_wp2
        exact hF.ret rfl rfl ev6 ⟨rfl, below_then hB3 hB3.size fB⟩
      | ok z =>
        obtain ⟨v, rest⟩ := z
        obtain ⟨hv, hxs⟩ := numS_ok HRB.out (numM_ok hq)
        have hml : xs.length = m := rds_len hr
        obtain ⟨kk, hkk⟩ : ∃ kk, kk = (enc v).length := ⟨_, rfl⟩
        have hkl : kk + rest.length = m := by rw [← hml, hxs, List.length_append]; omega
        have hkp : 0 < kk := by rw [hkk]; exact enc_pos v
        have hk2 : (m : Int) - rest.length = kk := by omega
        obtain ⟨ad, rfl⟩ := hr.some_ (by omega)
        have hle := hr.le
        have HRK : Hid (Rds w 1 (some ad) kk c (nums .u8 ([] ++ enc v))) := by
          have h := hr.take_ kk (by omega)
          have e : (nums .u8 xs).take (kk * 1) = nums .u8 ([] ++ enc v) := by
            rw [hxs, Nat.mul_one, List.nil_append, hkk]
            simp [nums]
          rwa [e] at h
        have HV := Lib.hid (fun W => cnum none 0 0 [] v hv W (rds_nil W .u8) (by decide))
        rw [hq] at HNm
        clear hv hxs hml hkk hq
        go_wp2_with (first
          | (go_at_call 21; refine HNm.out.mono ?_; rintro e w3 ⟨rfl, hc3, hs3⟩; have HLf := Lib.hid (srcLeft bk 0 rest w3 hs3); have HEr := Lib.hid (fun W (h : Src w2.heap.size W bk rest 0) => srcErr bk 0 rest W h))
          | (go_at_call 22; (with_reducible refine HLf.out.mono ?_); rintro e w4 ⟨rfl, rfl⟩))
        have hB3 := hc3.toBelow hB2 hB2.size (fun k hk => by omega)
        have hkc : (kk : Int) ≤ c := by omega
        have hrk := HRK.out.below hB3
        obtain ⟨T, hT⟩ : ∃ T : Nat → Fact, ∀ t_, T t_ = ([Fact.eq (.pointer (some ⟨bk, 0, none⟩)), Fact.eq (.int .i64 0), Fact.eq (.bool false), Fact.eq (.bool false), Fact.eq (.int .u64 v), Fact.row 1 (nums .u8 ([] ++ enc v)), Fact.eq (.string (strOfNums ([] ++ enc v))), Fact.eq (.slice (some ad) m c), Fact.eq (.int .i64 kk), Fact.eq (.slice (some ad) kk c), Fact.eq (.string (strOfNums ([] ++ enc v))), Fact.eq (.bool true), Fact.eq (.bool true), Fact.eq (.bool true), Fact.eq (.bool true), Fact.eq (.bool true), Fact.eq (.bool true)] : List (Fact)).getD t_ Fact.any := ⟨_, fun _ => rfl⟩
        refine region_tab [(0, 69), (1, 70), (2, 71), (3, 72), (4, 73), (5, 74), (6, 75), (7, 76), (8, 77), (9, 78), (10, 79), (11, 80), (12, 81), (13, 82), (14, 83), (15, 84), (16, 6)] T (by kernel_rfl) (by kernel_rfl) (by kernel_rfl) (by kernel_rfl) (by kernel_rfl) ?_ ?_
        · skip
          refine stepsAll_cons (k := 0) ?_ ?_
          · intro fa fx fW hF fB hE K fK
            have ev9 : fa.tmps[9]?.getD undef = .pointer (some ⟨bk, 0, none⟩) := hF.eo 9 (by kernel_rfl)
            refine wpOp_val rfl (wanted_none rfl) ?_ (fK (.pointer (some ⟨bk, 0, none⟩)) fW (Below.refl _ _) (by rw [hT]; exact rfl))
            clear fK hE hF
            go_simp
          refine stepsAll_cons (k := 1) ?_ ?_
          · intro fa fx fW hF fB hE K fK
            have q0 : fx 0 = .pointer (some ⟨bk, 0, none⟩) := by have q := hE ⟨0, .data⟩ (by simp) rfl; rw [hT] at q; exact q
            have ev69 : fa.tmps[69]?.getD undef = .pointer (some ⟨bk, 0, none⟩) := (hF.ev 0 69 (by kernel_rfl)).trans q0
            refine wpOp_call rfl (wanted_none rfl) (by go_simp; exact ⟨rfl, rfl⟩) ?_
            refine (HEr.out fW (hs3.below fB)).mono ?_
            rintro e' w' ⟨rfl, rfl⟩
            exact ⟨_, rfl, fK (.int .i64 0) (fW) (Below.refl _ _) (by rw [hT]; exact rfl)⟩
          refine stepsAll_cons (k := 2) ?_ ?_
          · intro fa fx fW hF fB hE K fK
            have q1 : fx 1 = .int .i64 0 := by have q := hE ⟨1, .data⟩ (by simp) rfl; rw [hT] at q; exact q
            have ev70 : fa.tmps[70]?.getD undef = .int .i64 0 := (hF.ev 1 70 (by kernel_rfl)).trans q1
            refine wpOp_val rfl (wanted_none rfl) ?_ (fK (.bool false) fW (Below.refl _ _) (by rw [hT]; exact rfl))
            clear fK hE hF
            go_simp
          refine stepsAll_cons (k := 3) ?_ ?_
          · intro fa fx fW hF fB hE K fK
            have q2 : fx 2 = .bool false := by have q := hE ⟨2, .data⟩ (by simp) rfl; rw [hT] at q; exact q
            have ev71 : fa.tmps[71]?.getD undef = .bool false := (hF.ev 2 71 (by kernel_rfl)).trans q2
            refine wpOp_val rfl (wanted_none rfl) ?_ (fK (.bool false) fW (Below.refl _ _) (by rw [hT]; exact rfl))
            clear fK hE hF
            go_simp
          refine stepsAll_cons (k := 4) ?_ ?_
          · intro fa fx fW hF fB hE K fK
            have q3 : fx 3 = .bool false := by have q := hE ⟨3, .guard⟩ (by simp) rfl; rw [hT] at q; exact q
            have ev10 : fa.tmps[10]?.getD undef = .int .u64 v := hF.eo 10 (by kernel_rfl)
            refine wpOp_val rfl (wanted_not rfl (hF.yes 3 72 (by kernel_rfl) false q3)) ?_ (fK (.int .u64 v) fW (Below.refl _ _) (by rw [hT]; exact rfl))
            clear fK hE hF
            go_simp
          refine stepsAll_cons (k := 5) ?_ ?_
          · intro fa fx fW hF fB hE K fK
            have q3 : fx 3 = .bool false := by have q := hE ⟨3, .chain⟩ (by simp) rfl; rw [hT] at q; exact q
            have q4 : fx 4 = .int .u64 v := by have q := hE ⟨4, .data⟩ (by simp) rfl; rw [hT] at q; exact q
            have ev73 : fa.tmps[73]?.getD undef = .int .u64 v := (hF.ev 4 73 (by kernel_rfl)).trans q4
            refine wpOp_call rfl (wanted_not rfl (hF.yes 3 72 (by kernel_rfl) false q3)) (by go_simp; exact ⟨rfl, rfl⟩) ?_
            refine (HV.out fW).mono ?_
            intro e' w' h1
            obtain ⟨A1, n1, c1, rfl, _, hr1, hb1, _⟩ := h1.open_
            exact ⟨_, rfl, fK (.slice A1 n1 c1) (w') (hb1) (by rw [hT]; exact ⟨A1, n1, c1, rfl, hr1⟩)⟩
          refine stepsAll_cons (k := 6) ?_ ?_
          · intro fa fx fW hF fB hE K fK
            have q3 : fx 3 = .bool false := by have q := hE ⟨3, .guard⟩ (by simp) rfl; rw [hT] at q; exact q
            have q5 : (Fact.row 1 (nums .u8 ([] ++ enc v))).p (fx 5) fW := by have q := hE ⟨5, .data⟩ (by simp) rfl; rw [hT] at q; exact q
            have ev74 : fa.tmps[74]?.getD undef = fx 5 := hF.ev 5 74 (by kernel_rfl)
            refine wpOp_val rfl (wanted_not rfl (hF.yes 3 72 (by kernel_rfl) false q3)) ?_ (fK (.string (strOfNums ([] ++ enc v))) fW (Below.refl _ _) (by rw [hT]; exact rfl))
            clear fK hE hF
            obtain ⟨A', n', c', e', hr'⟩ := q5
            have hc' := conv_str Try.underlying22 Try.underlying5 Try.underlying9 hr'
            clear hr'
            go_simp
          refine stepsAll_cons (k := 7) ?_ ?_
          · intro fa fx fW hF fB hE K fK
            have q3 : fx 3 = .bool false := by have q := hE ⟨3, .guard⟩ (by simp) rfl; rw [hT] at q; exact q
            have ev2 : fa.tmps[2]?.getD undef = .slice (some ad) m c := hF.eo 2 (by kernel_rfl)
            refine wpOp_val rfl (wanted_not rfl (hF.yes 3 72 (by kernel_rfl) false q3)) ?_ (fK (.slice (some ad) m c) fW (Below.refl _ _) (by rw [hT]; exact rfl))
            clear fK hE hF
            go_simp
          refine stepsAll_cons (k := 8) ?_ ?_
          · intro fa fx fW hF fB hE K fK
            have q3 : fx 3 = .bool false := by have q := hE ⟨3, .guard⟩ (by simp) rfl; rw [hT] at q; exact q
            have ev11 : fa.tmps[11]?.getD undef = .int .i64 kk := hF.eo 11 (by kernel_rfl)
            refine wpOp_val rfl (wanted_not rfl (hF.yes 3 72 (by kernel_rfl) false q3)) ?_ (fK (.int .i64 kk) fW (Below.refl _ _) (by rw [hT]; exact rfl))
            clear fK hE hF
            go_simp
          refine stepsAll_cons (k := 9) ?_ ?_
          · intro fa fx fW hF fB hE K fK
            have q3 : fx 3 = .bool false := by have q := hE ⟨3, .guard⟩ (by simp) rfl; rw [hT] at q; exact q
            have q7 : fx 7 = .slice (some ad) m c := by have q := hE ⟨7, .data⟩ (by simp) rfl; rw [hT] at q; exact q
            have q8 : fx 8 = .int .i64 kk := by have q := hE ⟨8, .data⟩ (by simp) rfl; rw [hT] at q; exact q
            have ev76 : fa.tmps[76]?.getD undef = .slice (some ad) m c := (hF.ev 7 76 (by kernel_rfl)).trans q7
            have ev77 : fa.tmps[77]?.getD undef = .int .i64 kk := (hF.ev 8 77 (by kernel_rfl)).trans q8
            refine wpOp_val rfl (wanted_not rfl (hF.yes 3 72 (by kernel_rfl) false q3)) ?_ (fK (.slice (some ad) kk c) fW (Below.refl _ _) (by rw [hT]; exact rfl))
            clear fK hE hF
            go_simp
          refine stepsAll_cons (k := 10) ?_ ?_
          · intro fa fx fW hF fB hE K fK
            have q3 : fx 3 = .bool false := by have q := hE ⟨3, .guard⟩ (by simp) rfl; rw [hT] at q; exact q
            have q9 : fx 9 = .slice (some ad) kk c := by have q := hE ⟨9, .data⟩ (by simp) rfl; rw [hT] at q; exact q
            have ev78 : fa.tmps[78]?.getD undef = .slice (some ad) kk c := (hF.ev 9 78 (by kernel_rfl)).trans q9
            have hc' := conv_str Try.underlying22 Try.underlying5 Try.underlying9 (hrk.below fB)
            refine wpOp_val rfl (wanted_not rfl (hF.yes 3 72 (by kernel_rfl) false q3)) ?_ (fK (.string (strOfNums ([] ++ enc v))) fW (Below.refl _ _) (by rw [hT]; exact rfl))
            clear fK hE hF
            go_simp
          refine stepsAll_cons (k := 11) ?_ ?_
          · intro fa fx fW hF fB hE K fK
            have q3 : fx 3 = .bool false := by have q := hE ⟨3, .guard⟩ (by simp) rfl; rw [hT] at q; exact q
            have q6 : fx 6 = .string (strOfNums ([] ++ enc v)) := by have q := hE ⟨6, .data⟩ (by simp) rfl; rw [hT] at q; exact q
            have q10 : fx 10 = .string (strOfNums ([] ++ enc v)) := by have q := hE ⟨10, .data⟩ (by simp) rfl; rw [hT] at q; exact q
            have ev75 : fa.tmps[75]?.getD undef = .string (strOfNums ([] ++ enc v)) := (hF.ev 6 75 (by kernel_rfl)).trans q6
            have ev79 : fa.tmps[79]?.getD undef = .string (strOfNums ([] ++ enc v)) := (hF.ev 10 79 (by kernel_rfl)).trans q10
            refine wpOp_val rfl (wanted_not rfl (hF.yes 3 72 (by kernel_rfl) false q3)) ?_ (fK (.bool true) fW (Below.refl _ _) (by rw [hT]; exact rfl))
            clear fK hE hF
            go_simp
          refine stepsAll_cons (k := 12) ?_ ?_
          · intro fa fx fW hF fB hE K fK
            have q3 : fx 3 = .bool false := by have q := hE ⟨3, .data⟩ (by simp) rfl; rw [hT] at q; exact q
            have q11 : fx 11 = .bool true := by have q := hE ⟨11, .data⟩ (by simp) rfl; rw [hT] at q; exact q
            have ev72 : fa.tmps[72]?.getD undef = .bool false := (hF.ev 3 72 (by kernel_rfl)).trans q3
            have ev80 : fa.tmps[80]?.getD undef = .bool true := (hF.ev 11 80 (by kernel_rfl)).trans q11
            refine wpOp_val rfl (wanted_none rfl) ?_ (fK (.bool true) fW (Below.refl _ _) (by rw [hT]; exact rfl))
            clear fK hE hF
            go_simp
          refine stepsAll_cons (k := 13) ?_ ?_
          · intro fa fx fW hF fB hE K fK
            have q12 : fx 12 = .bool true := by have q := hE ⟨12, .data⟩ (by simp) rfl; rw [hT] at q; exact q
            have ev81 : fa.tmps[81]?.getD undef = .bool true := (hF.ev 12 81 (by kernel_rfl)).trans q12
            refine wpOp_val rfl (wanted_none rfl) ?_ (fK (.bool true) fW (Below.refl _ _) (by rw [hT]; exact rfl))
            clear fK hE hF
            go_simp
          refine stepsAll_cons (k := 14) ?_ ?_
          · intro fa fx fW hF fB hE K fK
            have q13 : fx 13 = .bool true := by have q := hE ⟨13, .chain⟩ (by simp) rfl; rw [hT] at q; exact q
            refine wpOp_call rfl (wanted_yes rfl (hF.yes 13 82 (by kernel_rfl) true q13)) (by go_simp; exact ⟨rfl, rfl⟩) ?_
            refine (HL.out fW).mono ?_
            rintro e' w' ⟨rfl, hbb⟩
            exact ⟨_, rfl, fK (.bool true) (w') (hbb) (by rw [hT]; exact rfl)⟩
          refine stepsAll_cons (k := 15) ?_ ?_
          · intro fa fx fW hF fB hE K fK
            have q13 : fx 13 = .bool true := by have q := hE ⟨13, .data⟩ (by simp) rfl; rw [hT] at q; exact q
            have q14 : fx 14 = .bool true := by have q := hE ⟨14, .data⟩ (by simp) rfl; rw [hT] at q; exact q
            have ev82 : fa.tmps[82]?.getD undef = .bool true := (hF.ev 13 82 (by kernel_rfl)).trans q13
            have ev83 : fa.tmps[83]?.getD undef = .bool true := (hF.ev 14 83 (by kernel_rfl)).trans q14
            refine wpOp_val rfl (wanted_none rfl) ?_ (fK (.bool true) fW (Below.refl _ _) (by rw [hT]; exact rfl))
            clear fK hE hF
            go_simp
          refine stepsAll_cons (k := 16) ?_ ?_
          · intro fa fx fW hF fB hE K fK
            have q15 : fx 15 = .bool true := by have q := hE ⟨15, .data⟩ (by simp) rfl; rw [hT] at q; exact q
            have ev84 : fa.tmps[84]?.getD undef = .bool true := (hF.ev 15 84 (by kernel_rfl)).trans q15
            refine wpOp_val rfl (wanted_none rfl) ?_ (fK (.bool true) fW (Below.refl _ _) (by rw [hT]; exact rfl))
            clear fK hE hF
            go_simp
          exact stepsAll_nil
        intro fa fx fW hF fB hx
        have q16 : fx 16 = .bool true := by have q := hx 16 (by decide); rw [hT] at q; exact q
        have ev6 : fa.tmps[6]?.getD undef = .bool true := (hF.ev 16 6 (by kernel_rfl)).trans q16
        go_wp2
        exact hF.ret rfl rfl ev6 ⟨rfl, below_then hB3 hB3.size fB⟩
    · have hsz2 : (Q.size : Int) < P.size := by omega
      have hsz3 : decide ((P.size : Int) ≤ Q.size) = false := by simp; omega
      go_wp2_with (first
        | (go_at_call 20; (with_reducible refine HRD.out.mono ?_); rintro e w2 ⟨bk, rfl, hbk, hb2, hs2⟩; have hNm := srcNum (B := w2.heap.size) bk 18446744073709551615 xs w2 hs2 (Nat.le_refl _) HRB.out; rw [show ((18446744073709551615 : Nat) : Int) = 18446744073709551615 from rfl] at hNm; have HNm := Lib.hid hNm; clear hNm))
      have hB2 := below_then hB0 hB0.size hb2
      have hwk : w.heap.size ≤ bk := Nat.le_trans hB0.size hbk
      cases hq : numM xs 18446744073709551615 with
      | error x =>
        have hx0 : (x != 0) = true := by simpa using numM_err HRB.out hq
        rw [hq] at HNm
        go_wp2_with (first
          | (go_at_call 21; refine HNm.out.mono ?_; rintro e w3 ⟨rfl, hc3, hs3⟩; have HLf := Lib.hid (srcLeft bk x [] w3 hs3); have HEr := Lib.hid (fun W (h : Src w2.heap.size W bk [] x) => srcErr bk x [] W h))
          | (go_at_call 22; (with_reducible refine HLf.out.mono ?_); rintro e w4 ⟨rfl, rfl⟩))
        have hB3 := hc3.toBelow hB2 hB2.size (fun k hk => by omega)
        obtain ⟨T, hT⟩ : ∃ T : Nat → Fact, ∀ t_, T t_ = ([Fact.eq (.pointer (some ⟨bk, 0, none⟩)), Fact.eq (.int .i64 x), Fact.eq (.bool true), Fact.eq (.bool true), Fact.eq (undef), Fact.eq (undef), Fact.eq (undef), Fact.eq (undef), Fact.eq (undef), Fact.eq (undef), Fact.eq (undef), Fact.eq (undef), Fact.eq (.bool true), Fact.eq (.bool true), Fact.eq (.bool true), Fact.eq (.bool true), Fact.eq (.bool true)] : List (Fact)).getD t_ Fact.any := ⟨_, fun _ => rfl⟩
        refine region_tab [(0, 69), (1, 70), (2, 71), (3, 72), (4, 73), (5, 74), (6, 75), (7, 76), (8, 77), (9, 78), (10, 79), (11, 80), (12, 81), (13, 82), (14, 83), (15, 84), (16, 6)] T (by kernel_rfl) (by kernel_rfl) (by kernel_rfl) (by kernel_rfl) (by kernel_rfl) ?_ ?_
        · skip
          refine stepsAll_cons (k := 0) ?_ ?_
          · intro fa fx fW hF fB hE K fK
            have ev9 : fa.tmps[9]?.getD undef = .pointer (some ⟨bk, 0, none⟩) := hF.eo 9 (by kernel_rfl)
            refine wpOp_val rfl (wanted_none rfl) ?_ (fK (.pointer (some ⟨bk, 0, none⟩)) fW (Below.refl _ _) (by rw [hT]; exact rfl))
            clear fK hE hF
            go_simp
          refine stepsAll_cons (k := 1) ?_ ?_
          · intro fa fx fW hF fB hE K fK
            have q0 : fx 0 = .pointer (some ⟨bk, 0, none⟩) := by have q := hE ⟨0, .data⟩ (by simp) rfl; rw [hT] at q; exact q
            have ev69 : fa.tmps[69]?.getD undef = .pointer (some ⟨bk, 0, none⟩) := (hF.ev 0 69 (by kernel_rfl)).trans q0
            refine wpOp_call rfl (wanted_none rfl) (by go_simp; exact ⟨rfl, rfl⟩) ?_
            refine (HEr.out fW (hs3.below fB)).mono ?_
            rintro e' w' ⟨rfl, rfl⟩
            exact ⟨_, rfl, fK (.int .i64 x) (fW) (Below.refl _ _) (by rw [hT]; exact rfl)⟩
          refine stepsAll_cons (k := 2) ?_ ?_
          · intro fa fx fW hF fB hE K fK
            have q1 : fx 1 = .int .i64 x := by have q := hE ⟨1, .data⟩ (by simp) rfl; rw [hT] at q; exact q
            have ev70 : fa.tmps[70]?.getD undef = .int .i64 x := (hF.ev 1 70 (by kernel_rfl)).trans q1
            refine wpOp_val rfl (wanted_none rfl) ?_ (fK (.bool true) fW (Below.refl _ _) (by rw [hT]; exact rfl))
            clear fK hE hF
            go_simp
          refine stepsAll_cons (k := 3) ?_ ?_
          · intro fa fx fW hF fB hE K fK
            have q2 : fx 2 = .bool true := by have q := hE ⟨2, .data⟩ (by simp) rfl; rw [hT] at q; exact q
            have ev71 : fa.tmps[71]?.getD undef = .bool true := (hF.ev 2 71 (by kernel_rfl)).trans q2
            refine wpOp_val rfl (wanted_none rfl) ?_ (fK (.bool true) fW (Below.refl _ _) (by rw [hT]; exact rfl))
            clear fK hE hF
            go_simp
          refine stepsAll_cons (k := 4) ?_ ?_
          · intro fa fx fW hF fB hE K fK
            have q3 : fx 3 = .bool true := by have q := hE ⟨3, .guard⟩ (by simp) rfl; rw [hT] at q; exact q
            have ev10 : fa.tmps[10]?.getD undef = .int .u64 0 := hF.eo 10 (by kernel_rfl)
            exact wpOp_skip rfl (by simp [Region.wanted, hF.yes 3 72 (by kernel_rfl) true q3]) (fK undef fW (Below.refl _ _) (by rw [hT]; exact rfl))
          refine stepsAll_cons (k := 5) ?_ ?_
          · intro fa fx fW hF fB hE K fK
            have q3 : fx 3 = .bool true := by have q := hE ⟨3, .chain⟩ (by simp) rfl; rw [hT] at q; exact q
            have q4 : fx 4 = undef := by have q := hE ⟨4, .data⟩ (by simp) rfl; rw [hT] at q; exact q
            have ev73 : fa.tmps[73]?.getD undef = undef := (hF.ev 4 73 (by kernel_rfl)).trans q4
            exact wpOp_skip rfl (by simp [Region.wanted, hF.yes 3 72 (by kernel_rfl) true q3]) (fK undef fW (Below.refl _ _) (by rw [hT]; exact rfl))
          refine stepsAll_cons (k := 6) ?_ ?_
          · intro fa fx fW hF fB hE K fK
            have q3 : fx 3 = .bool true := by have q := hE ⟨3, .guard⟩ (by simp) rfl; rw [hT] at q; exact q
            have q5 : fx 5 = undef := by have q := hE ⟨5, .data⟩ (by simp) rfl; rw [hT] at q; exact q
            have ev74 : fa.tmps[74]?.getD undef = undef := (hF.ev 5 74 (by kernel_rfl)).trans q5
            exact wpOp_skip rfl (by simp [Region.wanted, hF.yes 3 72 (by kernel_rfl) true q3]) (fK undef fW (Below.refl _ _) (by rw [hT]; exact rfl))
          refine stepsAll_cons (k := 7) ?_ ?_
          · intro fa fx fW hF fB hE K fK
            have q3 : fx 3 = .bool true := by have q := hE ⟨3, .guard⟩ (by simp) rfl; rw [hT] at q; exact q
            have ev2 : fa.tmps[2]?.getD undef = .slice A m c := hF.eo 2 (by kernel_rfl)
            exact wpOp_skip rfl (by simp [Region.wanted, hF.yes 3 72 (by kernel_rfl) true q3]) (fK undef fW (Below.refl _ _) (by rw [hT]; exact rfl))
          refine stepsAll_cons (k := 8) ?_ ?_
          · intro fa fx fW hF fB hE K fK
            have q3 : fx 3 = .bool true := by have q := hE ⟨3, .guard⟩ (by simp) rfl; rw [hT] at q; exact q
            have ev11 : fa.tmps[11]?.getD undef = .int .i64 m := hF.eo 11 (by kernel_rfl)
            exact wpOp_skip rfl (by simp [Region.wanted, hF.yes 3 72 (by kernel_rfl) true q3]) (fK undef fW (Below.refl _ _) (by rw [hT]; exact rfl))
          refine stepsAll_cons (k := 9) ?_ ?_
          · intro fa fx fW hF fB hE K fK
            have q3 : fx 3 = .bool true := by have q := hE ⟨3, .guard⟩ (by simp) rfl; rw [hT] at q; exact q
            have q7 : fx 7 = undef := by have q := hE ⟨7, .data⟩ (by simp) rfl; rw [hT] at q; exact q
            have q8 : fx 8 = undef := by have q := hE ⟨8, .data⟩ (by simp) rfl; rw [hT] at q; exact q
            have ev76 : fa.tmps[76]?.getD undef = undef := (hF.ev 7 76 (by kernel_rfl)).trans q7
            have ev77 : fa.tmps[77]?.getD undef = undef := (hF.ev 8 77 (by kernel_rfl)).trans q8
            exact wpOp_skip rfl (by simp [Region.wanted, hF.yes 3 72 (by kernel_rfl) true q3]) (fK undef fW (Below.refl _ _) (by rw [hT]; exact rfl))
          refine stepsAll_cons (k := 10) ?_ ?_
          · intro fa fx fW hF fB hE K fK
            have q3 : fx 3 = .bool true := by have q := hE ⟨3, .guard⟩ (by simp) rfl; rw [hT] at q; exact q
            have q9 : fx 9 = undef := by have q := hE ⟨9, .data⟩ (by simp) rfl; rw [hT] at q; exact q
            have ev78 : fa.tmps[78]?.getD undef = undef := (hF.ev 9 78 (by kernel_rfl)).trans q9
            exact wpOp_skip rfl (by simp [Region.wanted, hF.yes 3 72 (by kernel_rfl) true q3]) (fK undef fW (Below.refl _ _) (by rw [hT]; exact rfl))
          refine stepsAll_cons (k := 11) ?_ ?_
          · intro fa fx fW hF fB hE K fK
            have q3 : fx 3 = .bool true := by have q := hE ⟨3, .guard⟩ (by simp) rfl; rw [hT] at q; exact q
            have q6 : fx 6 = undef := by have q := hE ⟨6, .data⟩ (by simp) rfl; rw [hT] at q; exact q
            have q10 : fx 10 = undef := by have q := hE ⟨10, .data⟩ (by simp) rfl; rw [hT] at q; exact q
            have ev75 : fa.tmps[75]?.getD undef = undef := (hF.ev 6 75 (by kernel_rfl)).trans q6
            have ev79 : fa.tmps[79]?.getD undef = undef := (hF.ev 10 79 (by kernel_rfl)).trans q10
            exact wpOp_skip rfl (by simp [Region.wanted, hF.yes 3 72 (by kernel_rfl) true q3]) (fK undef fW (Below.refl _ _) (by rw [hT]; exact rfl))
          refine stepsAll_cons (k := 12) ?_ ?_
          · intro fa fx fW hF fB hE K fK
            have q3 : fx 3 = .bool true := by have q := hE ⟨3, .data⟩ (by simp) rfl; rw [hT] at q; exact q
            have q11 : fx 11 = undef := by have q := hE ⟨11, .data⟩ (by simp) rfl; rw [hT] at q; exact q
            have ev72 : fa.tmps[72]?.getD undef = .bool true := (hF.ev 3 72 (by kernel_rfl)).trans q3
            have ev80 : fa.tmps[80]?.getD undef = undef := (hF.ev 11 80 (by kernel_rfl)).trans q11
            refine wpOp_val rfl (wanted_none rfl) ?_ (fK (.bool true) fW (Below.refl _ _) (by rw [hT]; exact rfl))
            clear fK hE hF
            go_simp
          refine stepsAll_cons (k := 13) ?_ ?_
          · intro fa fx fW hF fB hE K fK
            have q12 : fx 12 = .bool true := by have q := hE ⟨12, .data⟩ (by simp) rfl; rw [hT] at q; exact q
            have ev81 : fa.tmps[81]?.getD undef = .bool true := (hF.ev 12 81 (by kernel_rfl)).trans q12
            refine wpOp_val rfl (wanted_none rfl) ?_ (fK (.bool true) fW (Below.refl _ _) (by rw [hT]; exact rfl))
            clear fK hE hF
            go_simp
          refine stepsAll_cons (k := 14) ?_ ?_
          · intro fa fx fW hF fB hE K fK
            have q13 : fx 13 = .bool true := by have q := hE ⟨13, .chain⟩ (by simp) rfl; rw [hT] at q; exact q
            refine wpOp_call rfl (wanted_yes rfl (hF.yes 13 82 (by kernel_rfl) true q13)) (by go_simp; exact ⟨rfl, rfl⟩) ?_
            refine (HL.out fW).mono ?_
            rintro e' w' ⟨rfl, hbb⟩
            exact ⟨_, rfl, fK (.bool true) (w') (hbb) (by rw [hT]; exact rfl)⟩
          refine stepsAll_cons (k := 15) ?_ ?_
          · intro fa fx fW hF fB hE K fK
            have q13 : fx 13 = .bool true := by have q := hE ⟨13, .data⟩ (by simp) rfl; rw [hT] at q; exact q
            have q14 : fx 14 = .bool true := by have q := hE ⟨14, .data⟩ (by simp) rfl; rw [hT] at q; exact q
            have ev82 : fa.tmps[82]?.getD undef = .bool true := (hF.ev 13 82 (by kernel_rfl)).trans q13
            have ev83 : fa.tmps[83]?.getD undef = .bool true := (hF.ev 14 83 (by kernel_rfl)).trans q14
            refine wpOp_val rfl (wanted_none rfl) ?_ (fK (.bool true) fW (Below.refl _ _) (by rw [hT]; exact rfl))
            clear fK hE hF
            go_simp
          refine stepsAll_cons (k := 16) ?_ ?_
          · intro fa fx fW hF fB hE K fK
            have q15 : fx 15 = .bool true := by have q := hE ⟨15, .data⟩ (by simp) rfl; rw [hT] at q; exact q
            have ev84 : fa.tmps[84]?.getD undef = .bool true := (hF.ev 15 84 (by kernel_rfl)).trans q15
            refine wpOp_val rfl (wanted_none rfl) ?_ (fK (.bool true) fW (Below.refl _ _) (by rw [hT]; exact rfl))
            clear fK hE hF
            go_simp
          exact stepsAll_nil
        intro fa fx fW hF fB hx
        have q16 : fx 16 = .bool true := by have q := hx 16 (by decide); rw [hT] at q; exact q
        have ev6 : fa.tmps[6]?.getD undef = .bool true := (hF.ev 16 6 (by kernel_rfl)).trans q16
        go_wp2
        exact hF.ret rfl rfl ev6 ⟨rfl, below_then hB3 hB3.size fB⟩
      | ok z =>
        obtain ⟨v, rest⟩ := z
        obtain ⟨hv, hxs⟩ := numS_ok HRB.out (numM_ok hq)
        have hml : xs.length = m := rds_len hr
        obtain ⟨kk, hkk⟩ : ∃ kk, kk = (enc v).length := ⟨_, rfl⟩
        have hkl : kk + rest.length = m := by rw [← hml, hxs, List.length_append]; omega
        have hkp : 0 < kk := by rw [hkk]; exact enc_pos v
        have hk2 : (m : Int) - rest.length = kk := by omega
        obtain ⟨ad, rfl⟩ := hr.some_ (by omega)
        have hle := hr.le
        have HRK : Hid (Rds w 1 (some ad) kk c (nums .u8 ([] ++ enc v))) := by
          have h := hr.take_ kk (by omega)
          have e : (nums .u8 xs).take (kk * 1) = nums .u8 ([] ++ enc v) := by
            rw [hxs, Nat.mul_one, List.nil_append, hkk]
            simp [nums]
          rwa [e] at h
        have HV := Lib.hid (fun W => cnum none 0 0 [] v hv W (rds_nil W .u8) (by decide))
        rw [hq] at HNm
        clear hv hxs hml hkk hq
        go_wp2_with (first
          | (go_at_call 21; refine HNm.out.mono ?_; rintro e w3 ⟨rfl, hc3, hs3⟩; have HLf := Lib.hid (srcLeft bk 0 rest w3 hs3); have HEr := Lib.hid (fun W (h : Src w2.heap.size W bk rest 0) => srcErr bk 0 rest W h))
          | (go_at_call 22; (with_reducible refine HLf.out.mono ?_); rintro e w4 ⟨rfl, rfl⟩))
        have hB3 := hc3.toBelow hB2 hB2.size (fun k hk => by omega)
        have hkc : (kk : Int) ≤ c := by omega
        have hrk := HRK.out.below hB3
        obtain ⟨T, hT⟩ : ∃ T : Nat → Fact, ∀ t_, T t_ = ([Fact.eq (.pointer (some ⟨bk, 0, none⟩)), Fact.eq (.int .i64 0), Fact.eq (.bool false), Fact.eq (.bool false), Fact.eq (.int .u64 v), Fact.row 1 (nums .u8 ([] ++ enc v)), Fact.eq (.string (strOfNums ([] ++ enc v))), Fact.eq (.slice (some ad) m c), Fact.eq (.int .i64 kk), Fact.eq (.slice (some ad) kk c), Fact.eq (.string (strOfNums ([] ++ enc v))), Fact.eq (.bool true), Fact.eq (.bool true), Fact.eq (.bool true), Fact.eq (.bool true), Fact.eq (.bool true), Fact.eq (.bool true)] : List (Fact)).getD t_ Fact.any := ⟨_, fun _ => rfl⟩
        refine region_tab [(0, 69), (1, 70), (2, 71), (3, 72), (4, 73), (5, 74), (6, 75), (7, 76), (8, 77), (9, 78), (10, 79), (11, 80), (12, 81), (13, 82), (14, 83), (15, 84), (16, 6)] T (by kernel_rfl) (by kernel_rfl) (by kernel_rfl) (by kernel_rfl) (by kernel_rfl) ?_ ?_
        · skip
          refine stepsAll_cons (k := 0) ?_ ?_
          · intro fa fx fW hF fB hE K fK
            have ev9 : fa.tmps[9]?.getD undef = .pointer (some ⟨bk, 0, none⟩) := hF.eo 9 (by kernel_rfl)
            refine wpOp_val rfl (wanted_none rfl) ?_ (fK (.pointer (some ⟨bk, 0, none⟩)) fW (Below.refl _ _) (by rw [hT]; exact rfl))
            clear fK hE hF
            go_simp
          refine stepsAll_cons (k := 1) ?_ ?_
          · intro fa fx fW hF fB hE K fK
            have q0 : fx 0 = .pointer (some ⟨bk, 0, none⟩) := by have q := hE ⟨0, .data⟩ (by simp) rfl; rw [hT] at q; exact q
            have ev69 : fa.tmps[69]?.getD undef = .pointer (some ⟨bk, 0, none⟩) := (hF.ev 0 69 (by kernel_rfl)).trans q0
            refine wpOp_call rfl (wanted_none rfl) (by go_simp; exact ⟨rfl, rfl⟩) ?_
            refine (HEr.out fW (hs3.below fB)).mono ?_
            rintro e' w' ⟨rfl, rfl⟩
            exact ⟨_, rfl, fK (.int .i64 0) (fW) (Below.refl _ _) (by rw [hT]; exact rfl)⟩
          refine stepsAll_cons (k := 2) ?_ ?_
          · intro fa fx fW hF fB hE K fK
            have q1 : fx 1 = .int .i64 0 := by have q := hE ⟨1, .data⟩ (by simp) rfl; rw [hT] at q; exact q
            have ev70 : fa.tmps[70]?.getD undef = .int .i64 0 := (hF.ev 1 70 (by kernel_rfl)).trans q1
            refine wpOp_val rfl (wanted_none rfl) ?_ (fK (.bool false) fW (Below.refl _ _) (by rw [hT]; exact rfl))
            clear fK hE hF
            go_simp
          refine stepsAll_cons (k := 3) ?_ ?_
          · intro fa fx fW hF fB hE K fK
            have q2 : fx 2 = .bool false := by have q := hE ⟨2, .data⟩ (by simp) rfl; rw [hT] at q; exact q
            have ev71 : fa.tmps[71]?.getD undef = .bool false := (hF.ev 2 71 (by kernel_rfl)).trans q2
            refine wpOp_val rfl (wanted_none rfl) ?_ (fK (.bool false) fW (Below.refl _ _) (by rw [hT]; exact rfl))
            clear fK hE hF
            go_simp
          refine stepsAll_cons (k := 4) ?_ ?_
          · intro fa fx fW hF fB hE K fK
            have q3 : fx 3 = .bool false := by have q := hE ⟨3, .guard⟩ (by simp) rfl; rw [hT] at q; exact q
            have ev10 : fa.tmps[10]?.getD undef = .int .u64 v := hF.eo 10 (by kernel_rfl)
            refine wpOp_val rfl (wanted_not rfl (hF.yes 3 72 (by kernel_rfl) false q3)) ?_ (fK (.int .u64 v) fW (Below.refl _ _) (by rw [hT]; exact rfl))
            clear fK hE hF
            go_simp
          refine stepsAll_cons (k := 5) ?_ ?_
          · intro fa fx fW hF fB hE K fK
            have q3 : fx 3 = .bool false := by have q := hE ⟨3, .chain⟩ (by simp) rfl; rw [hT] at q; exact q
            have q4 : fx 4 = .int .u64 v := by have q := hE ⟨4, .data⟩ (by simp) rfl; rw [hT] at q; exact q
            have ev73 : fa.tmps[73]?.getD undef = .int .u64 v := (hF.ev 4 73 (by kernel_rfl)).trans q4
            refine wpOp_call rfl (wanted_not rfl (hF.yes 3 72 (by kernel_rfl) false q3)) (by go_simp; exact ⟨rfl, rfl⟩) ?_
            refine (HV.out fW).mono ?_
            intro e' w' h1
            obtain ⟨A1, n1, c1, rfl, _, hr1, hb1, _⟩ := h1.open_
            exact ⟨_, rfl, fK (.slice A1 n1 c1) (w') (hb1) (by rw [hT]; exact ⟨A1, n1, c1, rfl, hr1⟩)⟩
          refine stepsAll_cons (k := 6) ?_ ?_
          · intro fa fx fW hF fB hE K fK
            have q3 : fx 3 = .bool false := by have q := hE ⟨3, .guard⟩ (by simp) rfl; rw [hT] at q; exact q
            have q5 : (Fact.row 1 (nums .u8 ([] ++ enc v))).p (fx 5) fW := by have q := hE ⟨5, .data⟩ (by simp) rfl; rw [hT] at q; exact q
            have ev74 : fa.tmps[74]?.getD undef = fx 5 := hF.ev 5 74 (by kernel_rfl)
            refine wpOp_val rfl (wanted_not rfl (hF.yes 3 72 (by kernel_rfl) false q3)) ?_ (fK (.string (strOfNums ([] ++ enc v))) fW (Below.refl _ _) (by rw [hT]; exact rfl))
            clear fK hE hF
            obtain ⟨A', n', c', e', hr'⟩ := q5
            have hc' := conv_str Try.underlying22 Try.underlying5 Try.underlying9 hr'
            clear hr'
            go_simp
          refine stepsAll_cons (k := 7) ?_ ?_
          · intro fa fx fW hF fB hE K fK
            have q3 : fx 3 = .bool false := by have q := hE ⟨3, .guard⟩ (by simp) rfl; rw [hT] at q; exact q
            have ev2 : fa.tmps[2]?.getD undef = .slice (some ad) m c := hF.eo 2 (by kernel_rfl)
            refine wpOp_val rfl (wanted_not rfl (hF.yes 3 72 (by kernel_rfl) false q3)) ?_ (fK (.slice (some ad) m c) fW (Below.refl _ _) (by rw [hT]; exact rfl))
            clear fK hE hF
            go_simp
          refine stepsAll_cons (k := 8) ?_ ?_
          · intro fa fx fW hF fB hE K fK
            have q3 : fx 3 = .bool false := by have q := hE ⟨3, .guard⟩ (by simp) rfl; rw [hT] at q; exact q
            have ev11 : fa.tmps[11]?.getD undef = .int .i64 kk := hF.eo 11 (by kernel_rfl)
            refine wpOp_val rfl (wanted_not rfl (hF.yes 3 72 (by kernel_rfl) false q3)) ?_ (fK (.int .i64 kk) fW (Below.refl _ _) (by rw [hT]; exact rfl))
            clear fK hE hF
            go_simp
          refine stepsAll_cons (k := 9) ?_ ?_
          · intro fa fx fW hF fB hE K fK
            have q3 : fx 3 = .bool false := by have q := hE ⟨3, .guard⟩ (by simp) rfl; rw [hT] at q; exact q
            have q7 : fx 7 = .slice (some ad) m c := by have q := hE ⟨7, .data⟩ (by simp) rfl; rw [hT] at q; exact q
            have q8 : fx 8 = .int .i64 kk := by have q := hE ⟨8, .data⟩ (by simp) rfl; rw [hT] at q; exact q
            have ev76 : fa.tmps[76]?.getD undef = .slice (some ad) m c := (hF.ev 7 76 (by kernel_rfl)).trans q7
            have ev77 : fa.tmps[77]?.getD undef = .int .i64 kk := (hF.ev 8 77 (by kernel_rfl)).trans q8
            refine wpOp_val rfl (wanted_not rfl (hF.yes 3 72 (by kernel_rfl) false q3)) ?_ (fK (.slice (some ad) kk c) fW (Below.refl _ _) (by rw [hT]; exact rfl))
            clear fK hE hF
            go_simp
          refine stepsAll_cons (k := 10) ?_ ?_
          · intro fa fx fW hF fB hE K fK
            have q3 : fx 3 = .bool false := by have q := hE ⟨3, .guard⟩ (by simp) rfl; rw [hT] at q; exact q
            have q9 : fx 9 = .slice (some ad) kk c := by have q := hE ⟨9, .data⟩ (by simp) rfl; rw [hT] at q; exact q
            have ev78 : fa.tmps[78]?.getD undef = .slice (some ad) kk c := (hF.ev 9 78 (by kernel_rfl)).trans q9
            have hc' := conv_str Try.underlying22 Try.underlying5 Try.underlying9 (hrk.below fB)
            refine wpOp_val rfl (wanted_not rfl (hF.yes 3 72 (by kernel_rfl) false q3)) ?_ (fK (.string (strOfNums ([] ++ enc v))) fW (Below.refl _ _) (by rw [hT]; exact rfl))
            clear fK hE hF
            go_simp
          refine stepsAll_cons (k := 11) ?_ ?_
          · intro fa fx fW hF fB hE K fK
            have q3 : fx 3 = .bool false := by have q := hE ⟨3, .guard⟩ (by simp) rfl; rw [hT] at q; exact q
            have q6 : fx 6 = .string (strOfNums ([] ++ enc v)) := by have q := hE ⟨6, .data⟩ (by simp) rfl; rw [hT] at q; exact q
            have q10 : fx 10 = .string (strOfNums ([] ++ enc v)) := by have q := hE ⟨10, .data⟩ (by simp) rfl; rw [hT] at q; exact q
            have ev75 : fa.tmps[75]?.getD undef = .string (strOfNums ([] ++ enc v)) := (hF.ev 6 75 (by kernel_rfl)).trans q6
            have ev79 : fa.tmps[79]?.getD undef = .string (strOfNums ([] ++ enc v)) := (hF.ev 10 79 (by kernel_rfl)).trans q10
            refine wpOp_val rfl (wanted_not rfl (hF.yes 3 72 (by kernel_rfl) false q3)) ?_ (fK (.bool true) fW (Below.refl _ _) (by rw [hT]; exact rfl))
            clear fK hE hF
            go_simp
          refine stepsAll_cons (k := 12) ?_ ?_
          · intro fa fx fW hF fB hE K fK
            have q3 : fx 3 = .bool false := by have q := hE ⟨3, .data⟩ (by simp) rfl; rw [hT] at q; exact q
            have q11 : fx 11 = .bool true := by have q := hE ⟨11, .data⟩ (by simp) rfl; rw [hT] at q; exact q
            have ev72 : fa.tmps[72]?.getD undef = .bool false := (hF.ev 3 72 (by kernel_rfl)).trans q3
            have ev80 : fa.tmps[80]?.getD undef = .bool true := (hF.ev 11 80 (by kernel_rfl)).trans q11
            refine wpOp_val rfl (wanted_none rfl) ?_ (fK (.bool true) fW (Below.refl _ _) (by rw [hT]; exact rfl))
            clear fK hE hF
            go_simp
          refine stepsAll_cons (k := 13) ?_ ?_
          · intro fa fx fW hF fB hE K fK
            have q12 : fx 12 = .bool true := by have q := hE ⟨12, .data⟩ (by simp) rfl; rw [hT] at q; exact q
            have ev81 : fa.tmps[81]?.getD undef = .bool true := (hF.ev 12 81 (by kernel_rfl)).trans q12
            refine wpOp_val rfl (wanted_none rfl) ?_ (fK (.bool true) fW (Below.refl _ _) (by rw [hT]; exact rfl))
            clear fK hE hF
            go_simp
          refine stepsAll_cons (k := 14) ?_ ?_
          · intro fa fx fW hF fB hE K fK
            have q13 : fx 13 = .bool true := by have q := hE ⟨13, .chain⟩ (by simp) rfl; rw [hT] at q; exact q
            refine wpOp_call rfl (wanted_yes rfl (hF.yes 13 82 (by kernel_rfl) true q13)) (by go_simp; exact ⟨rfl, rfl⟩) ?_
            refine (HL.out fW).mono ?_
            rintro e' w' ⟨rfl, hbb⟩
            exact ⟨_, rfl, fK (.bool true) (w') (hbb) (by rw [hT]; exact rfl)⟩
          refine stepsAll_cons (k := 15) ?_ ?_
          · intro fa fx fW hF fB hE K fK
            have q13 : fx 13 = .bool true := by have q := hE ⟨13, .data⟩ (by simp) rfl; rw [hT] at q; exact q
            have q14 : fx 14 = .bool true := by have q := hE ⟨14, .data⟩ (by simp) rfl; rw [hT] at q; exact q
            have ev82 : fa.tmps[82]?.getD undef = .bool true := (hF.ev 13 82 (by kernel_rfl)).trans q13
            have ev83 : fa.tmps[83]?.getD undef = .bool true := (hF.ev 14 83 (by kernel_rfl)).trans q14
            refine wpOp_val rfl (wanted_none rfl) ?_ (fK (.bool true) fW (Below.refl _ _) (by rw [hT]; exact rfl))
            clear fK hE hF
            go_simp
          refine stepsAll_cons (k := 16) ?_ ?_
          · intro fa fx fW hF fB hE K fK
            have q15 : fx 15 = .bool true := by have q := hE ⟨15, .data⟩ (by simp) rfl; rw [hT] at q; exact q
            have ev84 : fa.tmps[84]?.getD undef = .bool true := (hF.ev 15 84 (by kernel_rfl)).trans q15
            refine wpOp_val rfl (wanted_none rfl) ?_ (fK (.bool true) fW (Below.refl _ _) (by rw [hT]; exact rfl))
            clear fK hE hF
            go_simp
          exact stepsAll_nil
        intro fa fx fW hF fB hx
        have q16 : fx 16 = .bool true := by have q := hx 16 (by decide); rw [hT] at q; exact q
        have ev6 : fa.tmps[6]?.getD undef = .bool true := (hF.ev 16 6 (by kernel_rfl)).trans q16
        go_wp2
        exact hF.ret rfl rfl ev6 ⟨rfl, below_then hB3 hB3.size fB⟩
end Go.Proofs.Ytdhckbpfkdekmaa
