/- The reference's Same: two rows alike. -/
import Derived.Test.YtdnddoiemaifjaaEv
import Derived.Test.YtdnddoiemaifjaaRegion
import Derived.Laws.StructEq
namespace Go.Proofs.Ytdnddoiemaifjaa
open Go.RowKit
theorem EvAt.below {w w1 : World} {a : Addr} {m : Ev} (h : EvAt w a m) (hb : Below w.heap.size w w1) : EvAt w1 a m :=
  ⟨cell_below hb h.c0, cell_below hb h.c1, cell_below hb h.c2, cell_below hb h.c3, cell_below hb h.c4, cell_below hb h.c5, cell_below hb h.c6, cell_below hb h.c7, cell_below hb h.c8, cell_below hb h.c9, cell_below hb h.c10, cell_below hb h.c11, cell_below hb h.c12, cell_below hb h.c13, cell_below hb h.c14⟩
set_option maxRecDepth 100000 in
set_option maxHeartbeats 4000000 in
theorem eqRegsD (d : Nat) (a0 a1 a2 a3 a4 a5 a6 a7 : Int) (w : World) : (Op.equalIn (d + 1 + 1) 26 (.agg #[.int .i64 a0, .int .i64 a1, .int .i64 a2, .int .i64 a3, .int .i64 a4, .int .i64 a5, .int .i64 a6, .int .i64 a7]) (.agg #[.int .i64 a0, .int .i64 a1, .int .i64 a2, .int .i64 a3, .int .i64 a4, .int .i64 a5, .int .i64 a6, .int .i64 a7])).run Try.prog w = .ok true w := by
  rw [Op.equalIn]
  simp only [Sem.run_bind, run_underlying Try.underlying26, Result.andThen_ok]
  simp only [Std.Legacy.Range.forIn_eq_forIn_range', Std.Legacy.Range.size, Nat.sub_zero, Nat.add_sub_cancel, Nat.div_one, List.range'_succ, List.range'_zero, List.forIn_cons, List.forIn_nil]
  go_simp
theorem eqRegs (m d : Nat) (h : m = d + 1 + 1) (a0 a1 a2 a3 a4 a5 a6 a7 : Int) (w : World) : (Op.equalIn m 26 (.agg #[.int .i64 a0, .int .i64 a1, .int .i64 a2, .int .i64 a3, .int .i64 a4, .int .i64 a5, .int .i64 a6, .int .i64 a7]) (.agg #[.int .i64 a0, .int .i64 a1, .int .i64 a2, .int .i64 a3, .int .i64 a4, .int .i64 a5, .int .i64 a6, .int .i64 a7])).run Try.prog w = .ok true w := by
  subst h
  exact eqRegsD d a0 a1 a2 a3 a4 a5 a6 a7 w
set_option maxRecDepth 100000 in
set_option maxHeartbeats 8000000 in
theorem ssame_eq (A B : Option Addr) (n c c2 : Nat) (l : List Ev) (w : World) (hr : Rds w 15 A n c (evs l)) (hr2 : Rds w 15 B n c2 (evs l)) :
    Calls Try.prog 9 #[.slice A n c, .slice B n c2] w fun e w' => e = .returned (.bool true) ∧ Below w.heap.size w w' := by
  have HN : Hid (l.length = n) := evs_len hr
  have hmax : n ≤ 9223372036854775807 := by have := hr.le; have := hr.max; unfold maxLen at this; omega
  go_enter Try.func9, Try.ntmps9
  go_wp2
  go_loopw [13] (fun i wr => ∃ k : Nat, k ≤ n ∧ i = .int .i64 k ∧ Below w.heap.size w wr) (fun i _ => n - (intOf i).toNat)
  case atStart => exact ⟨0, Nat.zero_le _, rfl, Below.refl _ _⟩
  case round =>
    obtain ⟨k, hk, rfl, hb⟩ := hrel
    obtain ⟨W1, rfl⟩ : ∃ x, x = wr := ⟨_, rfl⟩
    by_cases hlt : k < n
    · have hkx : k < l.length := by rw [HN.out]; exact hlt
      obtain ⟨ad, rfl⟩ := hr.some_ (by omega)
      obtain ⟨ae, rfl⟩ := hr2.some_ (by omega)
      have ha := ev_read (hr.below hb) k l[k] (List.getElem?_eq_getElem hkx)
      have hd := ev_read (hr2.below hb) k l[k] (List.getElem?_eq_getElem hkx)
      generalize l[k] = y at ha hd
      obtain ⟨e0, e1, e2, e3, e4, e5, e6, e7, e8, e9, e10, e11, e12, e13, e14⟩ := y
      have HA := Lib.hid ha
      have HD := Lib.hid hd
      have hki : (k : Int) < n := by omega
      clear ha hd
      go_wp2
      obtain ⟨T, hT⟩ : ∃ T : Nat → Fact, ∀ t_, T t_ = ([Fact.eq (.slice (some ad) n c), Fact.eq (.int .i64 k), Fact.eq (.pointer (some (ad.add (k * 15)))), Fact.eq (.agg #[.int .i64 e0, .int .i64 e1, .int .i64 e2, .int .i64 e3, .int .i64 e4, .int .i64 e5, .int .i64 e6, .int .i64 e7, .int .i64 e8, .int .i64 e9, .int .i64 e10, .int .i64 e11, .int .i64 e12, .int .i64 e13, .int .i64 e14]), Fact.eq (.slice (some ae) n c2), Fact.eq (.int .i64 k), Fact.eq (.pointer (some (ae.add (k * 15)))), Fact.eq (.agg #[.int .i64 e0, .int .i64 e1, .int .i64 e2, .int .i64 e3, .int .i64 e4, .int .i64 e5, .int .i64 e6, .int .i64 e7, .int .i64 e8, .int .i64 e9, .int .i64 e10, .int .i64 e11, .int .i64 e12, .int .i64 e13, .int .i64 e14]), Fact.eq (.bool false)] : List (Fact)).getD t_ Fact.any := ⟨_, fun _ => rfl⟩
      refine region_tab [(0, 16), (1, 17), (2, 18), (3, 19), (4, 20), (5, 21), (6, 22), (7, 23), (8, 24)] T (by kernel_rfl) (by kernel_rfl) (by kernel_rfl) (by kernel_rfl) (by kernel_rfl) ?_ ?_
      · skip
        refine stepsAll_cons (k := 0) ?_ ?_
        · intro fa fx fW hF fB hE K fK
          have ev0 : fa.tmps[0]?.getD undef = .slice (some ad) n c := hF.eo 0 (by kernel_rfl)
          refine wpOp_val rfl (wanted_none rfl) ?_ (fK (.slice (some ad) n c) fW (Below.refl _ _) (by rw [hT]; exact rfl))
          clear fK hE hF
          go_simp
        refine stepsAll_cons (k := 1) ?_ ?_
        · intro fa fx fW hF fB hE K fK
          have ev5 : fa.tmps[5]?.getD undef = .int .i64 k := hF.eo 5 (by kernel_rfl)
          refine wpOp_val rfl (wanted_none rfl) ?_ (fK (.int .i64 k) fW (Below.refl _ _) (by rw [hT]; exact rfl))
          clear fK hE hF
          go_simp
        refine stepsAll_cons (k := 2) ?_ ?_
        · intro fa fx fW hF fB hE K fK
          have q0 : fx 0 = .slice (some ad) n c := by have q := hE ⟨0, .data⟩ (by simp) rfl; rw [hT] at q; exact q
          have q1 : fx 1 = .int .i64 k := by have q := hE ⟨1, .data⟩ (by simp) rfl; rw [hT] at q; exact q
          have ev16 : fa.tmps[16]?.getD undef = .slice (some ad) n c := (hF.ev 0 16 (by kernel_rfl)).trans q0
          have ev17 : fa.tmps[17]?.getD undef = .int .i64 k := (hF.ev 1 17 (by kernel_rfl)).trans q1
          refine wpOp_val rfl (wanted_none rfl) ?_ (fK (.pointer (some (ad.add (k * 15)))) fW (Below.refl _ _) (by rw [hT]; exact rfl))
          clear fK hE hF
          go_simp
        refine stepsAll_cons (k := 3) ?_ ?_
        · intro fa fx fW hF fB hE K fK
          have q2 : fx 2 = .pointer (some (ad.add (k * 15))) := by have q := hE ⟨2, .data⟩ (by simp) rfl; rw [hT] at q; exact q
          have ev18 : fa.tmps[18]?.getD undef = .pointer (some (ad.add (k * 15))) := (hF.ev 2 18 (by kernel_rfl)).trans q2
          obtain ⟨z0, z1, z2, z3, z4, z5, z6, z7, z8, z9, z10, z11, z12, z13, z14⟩ := HA.out.below fB
          simp only at z0 z1 z2 z3 z4 z5 z6 z7 z8 z9 z10 z11 z12 z13 z14
          refine wpOp_val rfl (wanted_none rfl) ?_ (fK (.agg #[.int .i64 e0, .int .i64 e1, .int .i64 e2, .int .i64 e3, .int .i64 e4, .int .i64 e5, .int .i64 e6, .int .i64 e7, .int .i64 e8, .int .i64 e9, .int .i64 e10, .int .i64 e11, .int .i64 e12, .int .i64 e13, .int .i64 e14]) fW (Below.refl _ _) (by rw [hT]; exact rfl))
          clear fK hE hF
          go_simp
        refine stepsAll_cons (k := 4) ?_ ?_
        · intro fa fx fW hF fB hE K fK
          have ev1 : fa.tmps[1]?.getD undef = .slice (some ae) n c2 := hF.eo 1 (by kernel_rfl)
          refine wpOp_val rfl (wanted_none rfl) ?_ (fK (.slice (some ae) n c2) fW (Below.refl _ _) (by rw [hT]; exact rfl))
          clear fK hE hF
          go_simp
        refine stepsAll_cons (k := 5) ?_ ?_
        · intro fa fx fW hF fB hE K fK
          have ev5 : fa.tmps[5]?.getD undef = .int .i64 k := hF.eo 5 (by kernel_rfl)
          refine wpOp_val rfl (wanted_none rfl) ?_ (fK (.int .i64 k) fW (Below.refl _ _) (by rw [hT]; exact rfl))
          clear fK hE hF
          go_simp
        refine stepsAll_cons (k := 6) ?_ ?_
        · intro fa fx fW hF fB hE K fK
          have q4 : fx 4 = .slice (some ae) n c2 := by have q := hE ⟨4, .data⟩ (by simp) rfl; rw [hT] at q; exact q
          have q5 : fx 5 = .int .i64 k := by have q := hE ⟨5, .data⟩ (by simp) rfl; rw [hT] at q; exact q
          have ev20 : fa.tmps[20]?.getD undef = .slice (some ae) n c2 := (hF.ev 4 20 (by kernel_rfl)).trans q4
          have ev21 : fa.tmps[21]?.getD undef = .int .i64 k := (hF.ev 5 21 (by kernel_rfl)).trans q5
          refine wpOp_val rfl (wanted_none rfl) ?_ (fK (.pointer (some (ae.add (k * 15)))) fW (Below.refl _ _) (by rw [hT]; exact rfl))
          clear fK hE hF
          go_simp
        refine stepsAll_cons (k := 7) ?_ ?_
        · intro fa fx fW hF fB hE K fK
          have q6 : fx 6 = .pointer (some (ae.add (k * 15))) := by have q := hE ⟨6, .data⟩ (by simp) rfl; rw [hT] at q; exact q
          have ev22 : fa.tmps[22]?.getD undef = .pointer (some (ae.add (k * 15))) := (hF.ev 6 22 (by kernel_rfl)).trans q6
          obtain ⟨z0, z1, z2, z3, z4, z5, z6, z7, z8, z9, z10, z11, z12, z13, z14⟩ := HD.out.below fB
          simp only at z0 z1 z2 z3 z4 z5 z6 z7 z8 z9 z10 z11 z12 z13 z14
          refine wpOp_val rfl (wanted_none rfl) ?_ (fK (.agg #[.int .i64 e0, .int .i64 e1, .int .i64 e2, .int .i64 e3, .int .i64 e4, .int .i64 e5, .int .i64 e6, .int .i64 e7, .int .i64 e8, .int .i64 e9, .int .i64 e10, .int .i64 e11, .int .i64 e12, .int .i64 e13, .int .i64 e14]) fW (Below.refl _ _) (by rw [hT]; exact rfl))
          clear fK hE hF
          go_simp
        refine stepsAll_cons (k := 8) ?_ ?_
        · intro fa fx fW hF fB hE K fK
          have q3 : fx 3 = .agg #[.int .i64 e0, .int .i64 e1, .int .i64 e2, .int .i64 e3, .int .i64 e4, .int .i64 e5, .int .i64 e6, .int .i64 e7, .int .i64 e8, .int .i64 e9, .int .i64 e10, .int .i64 e11, .int .i64 e12, .int .i64 e13, .int .i64 e14] := by have q := hE ⟨3, .data⟩ (by simp) rfl; rw [hT] at q; exact q
          have q7 : fx 7 = .agg #[.int .i64 e0, .int .i64 e1, .int .i64 e2, .int .i64 e3, .int .i64 e4, .int .i64 e5, .int .i64 e6, .int .i64 e7, .int .i64 e8, .int .i64 e9, .int .i64 e10, .int .i64 e11, .int .i64 e12, .int .i64 e13, .int .i64 e14] := by have q := hE ⟨7, .data⟩ (by simp) rfl; rw [hT] at q; exact q
          have ev19 : fa.tmps[19]?.getD undef = .agg #[.int .i64 e0, .int .i64 e1, .int .i64 e2, .int .i64 e3, .int .i64 e4, .int .i64 e5, .int .i64 e6, .int .i64 e7, .int .i64 e8, .int .i64 e9, .int .i64 e10, .int .i64 e11, .int .i64 e12, .int .i64 e13, .int .i64 e14] := (hF.ev 3 19 (by kernel_rfl)).trans q3
          have ev23 : fa.tmps[23]?.getD undef = .agg #[.int .i64 e0, .int .i64 e1, .int .i64 e2, .int .i64 e3, .int .i64 e4, .int .i64 e5, .int .i64 e6, .int .i64 e7, .int .i64 e8, .int .i64 e9, .int .i64 e10, .int .i64 e11, .int .i64 e12, .int .i64 e13, .int .i64 e14] := (hF.ev 7 23 (by kernel_rfl)).trans q7
          have z := eqRegs 9998 9996 rfl e6 e7 e8 e9 e10 e11 e12 e13
          refine wpOp_val rfl (wanted_none rfl) ?_ (fK (.bool false) fW (Below.refl _ _) (by rw [hT]; exact rfl))
          clear fK hE hF
          go_simp
        exact stepsAll_nil
      intro fa fx fW hF fB hx
      have q8 : fx 8 = .bool false := by have q := hx 8 (by decide); rw [hT] at q; exact q
      have ev24 : fa.tmps[24]?.getD undef = .bool false := (hF.ev 8 24 (by kernel_rfl)).trans q8
      rw [hF.eq]
      clear hF hx
      simp only [putAll, Act.put, List.setIfInBounds_toArray, List.set_cons_zero, List.set_cons_succ, q8]
      go_wp2
      go_roundw
      case rel => exact ⟨k + 1, by omega, by go_num, below_tr hb fB⟩
      case measure => simp only [intOf]; omega
    · obtain rfl : k = n := by omega
      go_wp2
      go_ret
      exact ⟨rfl, hb⟩
end Go.Proofs.Ytdnddoiemaifjaa
