/- Package num: how products stand. -/
import Derived.Test.YtkebkmjffbnihaaNumC
namespace Go.Proofs.Ytkebkmjffbnihaa
open Go.RowKit
set_option maxHeartbeats 400000 in
theorem nturn (c : Int) (b : Bool) (hc : -1 ≤ c ∧ c ≤ 1) (w : World) : Calls Try.prog 50 #[.int .i64 c, .bool b] w fun e w' => e = .returned (.int .i64 (if b then -c else c)) ∧ w = w' := by
  obtain ⟨h1, h2⟩ := hc
  cases b
  all_goals
    go_enter Try.func50, Try.ntmps50
    go_wp2
    go_ret
    exact ⟨rfl, rfl⟩
theorem sizeCmp_in (p q : Int) : -1 ≤ sizeCmp p q ∧ sizeCmp p q ≤ 1 := by unfold sizeCmp; split <;> (try split) <;> omega
set_option maxRecDepth 100000 in
set_option maxHeartbeats 1000000 in
theorem ncmp (p q : Int) (w : World) : Calls Try.prog 39 #[wideV p, wideV q] w fun e w' => e = .returned (.int .i64 (cmpV p q)) ∧ Below w.heap.size w w' := by
  have HV := Lib.hid (cmpV_parts p q)
  have HB := Lib.hid (nbigger (decide (p < 0)) (hiN p) (loN p) (decide (q < 0)) (hiN q) (loN q))
  rw [bigV_size] at HB
  obtain ⟨z1, z2⟩ := sizeCmp_in p q
  unfold wideV
  have hp : decide (p < 0) = true ↔ p < 0 := by simp
  generalize cmpV p q = r at HV ⊢
  have HP : Hid ((if p < 0 then -1 else 1 : Int) = if decide (p < 0) then -1 else 1) := by show _ = _; simp
  have HP2 : Hid ((if p < 0 then - sizeCmp p q else sizeCmp p q : Int) = if decide (p < 0) then - sizeCmp p q else sizeCmp p q) := by show _ = _; simp
  have HV2 : Hid (r = if decide (p < 0) = decide (q < 0) then (if decide (p < 0) then - sizeCmp p q else sizeCmp p q) else (if decide (p < 0) then -1 else 1)) := by show _ = _; rw [HV.out, HP.out, HP2.out]
  clear HV HP HP2 hp
  generalize sizeCmp p q = z at *
  generalize decide (p < 0) = b1 at *
  generalize decide (q < 0) = b2 at *
  generalize hiN p = h at *
  generalize loN p = l at *
  generalize hiN q = h' at *
  generalize loN q = l' at *
  obtain ⟨W0, hW0⟩ : ∃ W0, W0 = (w.alloc (.cells #[.bool b1, .int .u64 h, .int .u64 l] 52)).alloc (.cells #[.bool b2, .int .u64 h', .int .u64 l'] 52) := ⟨_, rfl⟩
  have hB0 : Below w.heap.size w W0 := by rw [hW0]; exact below_al (below_al (Below.refl _ _) _) _
  have c0 : W0.cell? ⟨w.heap.size, 0, none⟩ = some (.bool b1) := by rw [hW0]; go_simp
  have c1 : W0.cell? ⟨w.heap.size, 1, none⟩ = some (.int .u64 h) := by rw [hW0]; go_simp
  have c2 : W0.cell? ⟨w.heap.size, 2, none⟩ = some (.int .u64 l) := by rw [hW0]; go_simp
  have d0 : W0.cell? ⟨w.heap.size + 1, 0, none⟩ = some (.bool b2) := by rw [hW0]; go_simp
  have d1 : W0.cell? ⟨w.heap.size + 1, 1, none⟩ = some (.int .u64 h') := by rw [hW0]; go_simp
  have d2 : W0.cell? ⟨w.heap.size + 1, 2, none⟩ = some (.int .u64 l') := by rw [hW0]; go_simp
  by_cases hb : b1 = b2
  · subst hb
    have hr : r = if b1 then -z else z := by have := HV2.out; rw [if_pos rfl] at this; exact this
    have HR := Lib.hid hr
    clear hr HV2
    have HT := Lib.hid (fun W => nturn z b1 ⟨z1, z2⟩ W)
    rw [← HR.out] at HT
    clear HR
    go_enter Try.func39, Try.ntmps39
    go_wp2
    rw [← hW0]
    clear hW0
    obtain ⟨bz, hbz⟩ : ∃ bz, bz = w.heap.size := ⟨_, rfl⟩
    rw [← hbz] at c0 c1 c2 d0 d1 d2
    rw [show Value.pointer (some ⟨w.heap.size, 0, none⟩) = Value.pointer (some ⟨bz, 0, none⟩) by rw [hbz], show Value.pointer (some ⟨w.heap.size + 1, 0, none⟩) = Value.pointer (some ⟨bz + 1, 0, none⟩) by rw [hbz]]
    clear hbz
    obtain ⟨T, hT⟩ : ∃ T : Nat → Fact, ∀ t_, T t_ = ([Fact.eq (.func (.func 50) #[] #[]), Fact.eq (.agg #[.bool b1, .int .u64 h, .int .u64 l]), Fact.eq (.agg #[.bool b1, .int .u64 h', .int .u64 l']), Fact.eq (.int .i64 z), Fact.eq (.pointer (some ⟨bz, 0, none⟩)), Fact.eq (.bool b1), Fact.eq (.int .i64 r), Fact.eq (.int .i64 r)] : List (Fact)).getD t_ Fact.any := ⟨_, fun _ => rfl⟩
    refine region_tab [(0, 15), (1, 16), (2, 17), (3, 18), (4, 19), (5, 20), (6, 21), (7, 4)] T (by kernel_rfl) (by kernel_rfl) (by kernel_rfl) (by kernel_rfl) (by kernel_rfl) ?_ ?_
    · skip
      refine stepsAll_cons (k := 0) ?_ ?_
      · intro fa fx fW hF fB hE K fK
        have ev5 : fa.tmps[5]?.getD undef = .func (.func 50) #[] #[] := hF.eo 5 (by kernel_rfl)
        refine wpOp_val rfl (wanted_none rfl) ?_ (fK (.func (.func 50) #[] #[]) fW (Below.refl _ _) (by rw [hT]; exact rfl))
        clear fK hE hF
        go_simp
      refine stepsAll_cons (k := 1) ?_ ?_
      · intro fa fx fW hF fB hE K fK
        have ev2 : fa.tmps[2]?.getD undef = .pointer (some ⟨bz, 0, none⟩) := hF.eo 2 (by kernel_rfl)
        have c0 := cell_below fB c0
        have c1 := cell_below fB c1
        have c2 := cell_below fB c2
        refine wpOp_val rfl (wanted_none rfl) ?_ (fK (.agg #[.bool b1, .int .u64 h, .int .u64 l]) fW (Below.refl _ _) (by rw [hT]; exact rfl))
        clear fK hE hF
        go_simp
      refine stepsAll_cons (k := 2) ?_ ?_
      · intro fa fx fW hF fB hE K fK
        have ev3 : fa.tmps[3]?.getD undef = .pointer (some ⟨bz + 1, 0, none⟩) := hF.eo 3 (by kernel_rfl)
        have d0 := cell_below fB d0
        have d1 := cell_below fB d1
        have d2 := cell_below fB d2
        refine wpOp_val rfl (wanted_none rfl) ?_ (fK (.agg #[.bool b1, .int .u64 h', .int .u64 l']) fW (Below.refl _ _) (by rw [hT]; exact rfl))
        clear fK hE hF
        go_simp
      refine stepsAll_cons (k := 3) ?_ ?_
      · intro fa fx fW hF fB hE K fK
        have q1 : fx 1 = .agg #[.bool b1, .int .u64 h, .int .u64 l] := by have q := hE ⟨1, .data⟩ (by simp) rfl; rw [hT] at q; exact q
        have q2 : fx 2 = .agg #[.bool b1, .int .u64 h', .int .u64 l'] := by have q := hE ⟨2, .data⟩ (by simp) rfl; rw [hT] at q; exact q
        have ev16 : fa.tmps[16]?.getD undef = .agg #[.bool b1, .int .u64 h, .int .u64 l] := (hF.ev 1 16 (by kernel_rfl)).trans q1
        have ev17 : fa.tmps[17]?.getD undef = .agg #[.bool b1, .int .u64 h', .int .u64 l'] := (hF.ev 2 17 (by kernel_rfl)).trans q2
        refine wpOp_call rfl (wanted_none rfl) (by go_simp; exact ⟨rfl, rfl⟩) ?_
        refine (HB.out fW).mono ?_
        rintro e w' ⟨rfl, hbb⟩
        exact ⟨_, rfl, fK (.int .i64 z) (w') (hbb) (by rw [hT]; exact rfl)⟩
      refine stepsAll_cons (k := 4) ?_ ?_
      · intro fa fx fW hF fB hE K fK
        have ev2 : fa.tmps[2]?.getD undef = .pointer (some ⟨bz, 0, none⟩) := hF.eo 2 (by kernel_rfl)
        refine wpOp_val rfl (wanted_none rfl) ?_ (fK (.pointer (some ⟨bz, 0, none⟩)) fW (Below.refl _ _) (by rw [hT]; exact rfl))
        clear fK hE hF
        go_simp
      refine stepsAll_cons (k := 5) ?_ ?_
      · intro fa fx fW hF fB hE K fK
        have q4 : fx 4 = .pointer (some ⟨bz, 0, none⟩) := by have q := hE ⟨4, .data⟩ (by simp) rfl; rw [hT] at q; exact q
        have ev19 : fa.tmps[19]?.getD undef = .pointer (some ⟨bz, 0, none⟩) := (hF.ev 4 19 (by kernel_rfl)).trans q4
        have c0 := cell_below fB c0
        refine wpOp_val rfl (wanted_none rfl) ?_ (fK (.bool b1) fW (Below.refl _ _) (by rw [hT]; exact rfl))
        clear fK hE hF
        go_simp
      refine stepsAll_cons (k := 6) ?_ ?_
      · intro fa fx fW hF fB hE K fK
        have q0 : fx 0 = .func (.func 50) #[] #[] := by have q := hE ⟨0, .data⟩ (by simp) rfl; rw [hT] at q; exact q
        have q3 : fx 3 = .int .i64 z := by have q := hE ⟨3, .data⟩ (by simp) rfl; rw [hT] at q; exact q
        have q5 : fx 5 = .bool b1 := by have q := hE ⟨5, .data⟩ (by simp) rfl; rw [hT] at q; exact q
        have ev15 : fa.tmps[15]?.getD undef = .func (.func 50) #[] #[] := (hF.ev 0 15 (by kernel_rfl)).trans q0
        have ev18 : fa.tmps[18]?.getD undef = .int .i64 z := (hF.ev 3 18 (by kernel_rfl)).trans q3
        have ev20 : fa.tmps[20]?.getD undef = .bool b1 := (hF.ev 5 20 (by kernel_rfl)).trans q5
        refine wpOp_call rfl (wanted_none rfl) (by go_simp; exact ⟨rfl, rfl⟩) ?_
        refine (HT.out fW).mono ?_
        rintro e w' ⟨rfl, rfl⟩
        exact ⟨_, rfl, fK (.int .i64 r) (fW) (Below.refl _ _) (by rw [hT]; exact rfl)⟩
      refine stepsAll_cons (k := 7) ?_ ?_
      · intro fa fx fW hF fB hE K fK
        have q6 : fx 6 = .int .i64 r := by have q := hE ⟨6, .data⟩ (by simp) rfl; rw [hT] at q; exact q
        have ev21 : fa.tmps[21]?.getD undef = .int .i64 r := (hF.ev 6 21 (by kernel_rfl)).trans q6
        refine wpOp_val rfl (wanted_none rfl) ?_ (fK (.int .i64 r) fW (Below.refl _ _) (by rw [hT]; exact rfl))
        clear fK hE hF
        go_simp
      exact stepsAll_nil
    intro fa fx fW hF fB hx
    have q7 : fx 7 = .int .i64 r := by have q := hx 7 (by decide); rw [hT] at q; exact q
    have ev4 : fa.tmps[4]?.getD undef = .int .i64 r := (hF.ev 7 4 (by kernel_rfl)).trans q7
    rw [hF.eq]
    clear hF hx
    simp only [putAll, Act.put, List.setIfInBounds_toArray, List.set_cons_zero, List.set_cons_succ, q7]
    go_wp2
    go_ret
    exact ⟨rfl, below_tr hB0 fB⟩
  · have hr : r = if b1 then -1 else 1 := by have := HV2.out; rw [if_neg hb] at this; exact this
    subst hr
    clear HV2
    cases b1 <;> cases b2
    all_goals first
      | (exact absurd rfl hb)
      | skip
    all_goals
      go_enter Try.func39, Try.ntmps39
      go_wp2_with (go_at_call 50; refine (nturn _ _ (by decide) _).mono ?_; rintro e w1 ⟨rfl, rfl⟩)
      rw [← hW0]
      go_ret
      exact ⟨rfl, hB0⟩
set_option maxHeartbeats 400000 in
theorem ncross (a b c d : Int) (ha : I64 a) (hb : I64 b) (hc : I64 c) (hd : I64 d) (w : World) : Calls Try.prog 21 #[.int .i64 a, .int .i64 b, .int .i64 c, .int .i64 d] w fun e w' => e = .returned (.int .i64 (cmpV (a * d) (c * b))) ∧ Below w.heap.size w w' := by
  have H1 := Lib.hid (fun W => nproduct a d ha hd W)
  have H2 := Lib.hid (fun W => nproduct c b hc hb W)
  have H3 := Lib.hid (fun W => ncmp (a * d) (c * b) W)
  generalize cmpV (a * d) (c * b) = r at H3 ⊢
  generalize wideV (a * d) = x at *
  generalize wideV (c * b) = y at *
  clear ha hb hc hd
  go_enter Try.func21, Try.ntmps21
  go_wp2_with (first | (with_reducible refine (H1.out _).mono ?_; rintro e w1 ⟨rfl, hb1⟩) | (with_reducible refine (H2.out _).mono ?_; rintro e w2 ⟨rfl, hb2⟩) | (with_reducible refine (H3.out _).mono ?_; rintro e w3 ⟨rfl, hb3⟩))
  go_ret
  exact ⟨rfl, below_tr (below_tr hb1 hb2) hb3⟩
end Go.Proofs.Ytkebkmjffbnihaa
