/- A queue that was made is sound. -/
import Derived.Test.YtabdipfpfbdghaaGreatZReaTurnK
import Derived.Test.YtabdipfpfbdghaaGreatZHeapSound
namespace Go.Proofs.YtabdipfpfbdghaaGreat
open Go.RowKit
theorem cntQ {n k : Nat} {q : QV} (I : QI n q k) (j : Nat) (hj : j < n) : cntV q.h.pl (j + 1) = cntV q.h.pl j + if (q.rows.getD j row0).st = 1 then 1 else 0 := by
  rw [cntV_succ]
  congr 1
  have h1 := I.has j hj
  by_cases h : (q.rows.getD j row0).st = 1
  · rw [if_pos h]
    obtain ⟨i, _, _, hp, _⟩ := place_of I.sd (h1.2 h)
    rw [hp, if_neg (by omega)]
  · rw [if_neg h, if_pos (pl_no I.sd j hj (fun e => h (h1.1 e)))]
theorem Qx.sound {TK : Nat → Prop} {w0 : FrQ} {w : World} {b g c hb n : Nat} {q : QV} (Q : Qx TK w0 w b g c hb n q) (hn : n ≤ 4096) (h0 : 0 < n) :
    Calls Tryz.prog 47 #[.pointer (some ⟨hb, 0, none⟩)] w fun e w' => e = .returned (.bool true) ∧ Below w.heap.size w w' := by
  obtain ⟨⟨gk, gp, ck, cp, iv, Q1, QT⟩, Q2⟩ := Q
  exact hsound Q1.hp Q1.sd hn h0
theorem Qx.len {TK : Nat → Prop} {w0 : FrQ} {w : World} {b g c hb n : Nat} {q : QV} (Q : Qx TK w0 w b g c hb n q) (h0 : 0 < n) :
    Calls Tryz.prog 50 #[.pointer (some ⟨hb, 0, none⟩)] w fun e w' => e = .returned (.int .i64 q.h.ids.length) ∧ w = w' := by
  obtain ⟨⟨gk, gp, ck, cp, iv, Q1, QT⟩, Q2⟩ := Q
  exact hlen Q1.hp h0
theorem Qx.keyOk {TK : Nat → Prop} {w0 : FrQ} {w : World} {b g c hb n : Nat} {q : QV} (Q : Qx TK w0 w b g c hb n q) (x : Nat) (hh : hasV q.h x) :
    Calls Tryz.prog 48 #[.pointer (some ⟨hb, 0, none⟩), .int .i64 x] w fun e w' => e = .returned (.tuple #[.int .i64 (q.h.ks.getD x 0), .bool true]) ∧ w = w' := by
  obtain ⟨⟨gk, gp, ck, cp, iv, Q1, QT⟩, Q2⟩ := Q
  exact hkeyOk Q1.hp Q1.sd x hh
theorem Qx.keyNo {TK : Nat → Prop} {w0 : FrQ} {w : World} {b g c hb n : Nat} {q : QV} (Q : Qx TK w0 w b g c hb n q) (x : Nat) (hx : x < n) (hh : ¬ hasV q.h x) :
    Calls Tryz.prog 48 #[.pointer (some ⟨hb, 0, none⟩), .int .i64 x] w fun e w' => e = .returned (.tuple #[.int .i64 0, .bool false]) ∧ w = w' := by
  obtain ⟨⟨gk, gp, ck, cp, iv, Q1, QT⟩, Q2⟩ := Q
  exact hkeyNo Q1.hp (by omega) x (by rw [find_no Q1.sd x hx hh]; decide)
set_option maxRecDepth 100000 in
set_option maxHeartbeats 8000000 in
theorem qsound {TK : Nat → Prop} {w0 : FrQ} {w : World} {b g c hb n k0 : Nat} {q : QV} (Q : Qx TK w0 w b g c hb n q) (I : QI n q k0) (hk0 : k0 ≤ 1000) (hn : n ≤ 4096) (h0 : 0 < n) :
    Calls Tryz.prog 16 #[.pointer (some ⟨b, 0, none⟩)] w fun e w' => e = .returned (.bool true) ∧ Below w.heap.size w w' := by
  obtain ⟨b0, b1, b2⟩ := Q.box
  have HM := Lib.hid (qmade b hb w b2.cell)
  have HS := Lib.hid (Q.sound hn h0)
  have HBX := Lib.hid Q.box
  have HQ := Lib.hid Q
  have HALL : Hid (cntV q.h.pl n = q.h.ids.length) := cntV_all I.sd
  have k2 := b2.cell
  have HN : Hid (0 ≤ q.now ∧ q.now ≤ 1000 * 1099511627776) := by
    have := I.now
    have hk3 : (k0 : Int) * 1099511627776 ≤ 1000 * 1099511627776 := Int.mul_le_mul_of_nonneg_right (by omega) (by omega)
    show _ ∧ _
    omega
  clear Q b0 b1 b2
  go_enter Tryz.func16, Tryz.ntmps16
  go_wp2_with (first
    | (go_at_call 41; (with_reducible refine HM.out.mono ?_); rintro e w1 ⟨rfl, rfl⟩)
    | (go_at_call 47; (with_reducible refine HS.out.mono ?_); rintro e w1 ⟨rfl, hb1⟩; have kk1 := cell_below hb1 HBX.out.2.1.cell))
  go_loopw [3, 24] (fun cc i wr => ∃ j : Nat, j ≤ n ∧ i = .int .i64 j ∧ cc = .int .i64 (cntV q.h.pl j) ∧ Below w.heap.size w wr) (fun _ i _ => n - (intOf i).toNat)
  case atStart => exact ⟨0, Nat.zero_le _, rfl, rfl, hb1⟩
  case round =>
    obtain ⟨j, hj, rfl, rfl, hbw⟩ := hrel
    by_cases hjn : j < n
    · have hjn' : (j : Int) < (n : Int) := by omega
      have Q1 := HQ.out.below hbw
      obtain ⟨r0, r1, r2, r3⟩ := Q1.row hjn
      have c0 := r0.cell
      have c1 := r1.cell
      have c2 := r2.cell
      have c3 := r3.cell
      have kk2 := Q1.box.2.2.cell
      have HC := Lib.hid (cntQ I j hjn)
      have hle := cntV_le q.h.pl j
      have hky := I.key j hjn
      have htk := I.tk j hjn
      have hhas := I.has j hjn
      generalize q.rows.getD j row0 = r at c0 c1 c2 c3 HC hky htk hhas r0 r1 r2 r3
      obtain ⟨W5, hW5⟩ : ∃ W5, W5 = wr.alloc (.cells #[.int .i64 r.st, .int .i64 r.tk, .int .i64 r.ps, .int .i64 r.pk] (61 : Nat)) := ⟨_, rfl⟩
      have hal : Below wr.heap.size wr W5 := by rw [hW5]; exact below_al (Below.refl _ _) _
      have y0 : W5.cell? ⟨wr.heap.size, 0, none⟩ = some (.int .i64 r.st) := by rw [hW5]; go_simp
      have y1 : W5.cell? ⟨wr.heap.size, 1, none⟩ = some (.int .i64 r.tk) := by rw [hW5]; go_simp
      have y2 : W5.cell? ⟨wr.heap.size, 2, none⟩ = some (.int .i64 r.ps) := by rw [hW5]; go_simp
      have y3 : W5.cell? ⟨wr.heap.size, 3, none⟩ = some (.int .i64 r.pk) := by rw [hW5]; go_simp
      have Q5 := Q1.below hal
      have kk5 := Q5.box.2.2.cell
      have kk6 := Q5.box.1.cell
      have hb5 := below_then hbw hbw.size hal
      have HB5 := Lib.hid hb5
      by_cases h1 : r.st = 1
      · obtain ⟨a1, a2, a3⟩ := hky h1
        have hsr := strideQ_in (htk (by omega))
        have HK := Q5.keyOk j (hhas.2 h1)
        rw [a1] at HK
        have HK := Lib.hid HK
        rw [if_pos h1] at HC
        have HST := Lib.hid (fun W => qstride 1 r.tk r.ps r.pk W)
        rw [h1] at y0 hW5 c0
        generalize r.tk = tk at *
        generalize r.ps = ps at *
        generalize r.pk = pk at *
        generalize strideV tk = s at *
        generalize cntV q.h.pl j = m0 at HC hle
        rw [hW5] at HK y0 y1 y2 y3 kk5 kk6 HB5
        have hw : IntKind.i64.wrap (ps - q.now) = ps - q.now := by have := HN.out; rw [IntKind.wrap_i64] <;> omega
        clear hW5 Q5 hal hb5
        have hno1 : ¬ (ps < q.now) := by omega
        have hno2 : ¬ (s < ps - q.now) := by omega
        clear a1 hky htk hhas r0 r1 r2 r3 k2 kk1
        go_wp2_with (go_at_call 48; (with_reducible refine HK.out.mono ?_); rintro e w2 ⟨rfl, rfl⟩)
        have HY2 := Lib.hid y2
        have HY := Lib.hid (And.intro y0 (And.intro y1 y3))
        have HKK := Lib.hid kk6
        have HBB := Lib.hid HB5.out
        obtain ⟨T, hT⟩ : ∃ T : Nat → Fact, ∀ t_, T t_ = ([Fact.eq (.int .i64 ps), Fact.eq (.pointer (some ⟨wr.heap.size, 2, none⟩)), Fact.eq (.int .i64 ps), Fact.eq (.bool false), Fact.eq (.bool false), Fact.eq (.pointer (some ⟨wr.heap.size, 2, none⟩)), Fact.eq (.int .i64 ps), Fact.eq (.pointer (some ⟨b, 0, none⟩)), Fact.eq (.pointer (some ⟨b, 0, none⟩)), Fact.eq (.pointer (some ⟨b, 0, none⟩)), Fact.eq (.int .i64 q.now), Fact.eq (.bool false), Fact.eq (.bool false), Fact.eq (.bool false), Fact.eq (.pointer (some ⟨wr.heap.size, 2, none⟩)), Fact.eq (.int .i64 ps), Fact.eq (.pointer (some ⟨b, 0, none⟩)), Fact.eq (.pointer (some ⟨b, 0, none⟩)), Fact.eq (.pointer (some ⟨b, 0, none⟩)), Fact.eq (.int .i64 q.now), Fact.eq (.int .i64 (ps - q.now)), Fact.eq (.agg #[.int .i64 1, .int .i64 tk, .int .i64 ps, .int .i64 pk]), Fact.eq (.int .i64 s), Fact.eq (.bool false), Fact.eq (.bool false)] : List (Fact)).getD t_ Fact.any := ⟨_, fun _ => rfl⟩
        refine region_tab [(0, 46), (1, 47), (2, 48), (3, 49), (4, 50), (5, 51), (6, 52), (7, 53), (8, 54), (9, 55), (10, 56), (11, 57), (12, 58), (13, 59), (14, 60), (15, 61), (16, 62), (17, 63), (18, 64), (19, 65), (20, 66), (21, 67), (22, 68), (23, 69), (24, 70)] T (by kernel_rfl) (by kernel_rfl) (by kernel_rfl) (by kernel_rfl) (by kernel_rfl) ?_ ?_
        · skip
          refine stepsAll_cons (k := 0) ?_ ?_
          · intro fa fx fW hF fB hE K fK
            have ev6 : fa.tmps[6]?.getD undef = .int .i64 ps := hF.eo 6 (by kernel_rfl)
            refine wpOp_val rfl (wanted_none rfl) ?_ (fK (.int .i64 ps) fW (Below.refl _ _) (by rw [hT]; exact rfl))
            clear fK hE hF
            go_simp
          refine stepsAll_cons (k := 1) ?_ ?_
          · intro fa fx fW hF fB hE K fK
            have ev5 : fa.tmps[5]?.getD undef = .pointer (some ⟨wr.heap.size, 0, none⟩) := hF.eo 5 (by kernel_rfl)
            refine wpOp_val rfl (wanted_none rfl) ?_ (fK (.pointer (some ⟨wr.heap.size, 2, none⟩)) fW (Below.refl _ _) (by rw [hT]; exact rfl))
            clear fK hE hF
            go_simp
          refine stepsAll_cons (k := 2) ?_ ?_
          · intro fa fx fW hF fB hE K fK
            have q1 : fx 1 = .pointer (some ⟨wr.heap.size, 2, none⟩) := by have q := hE ⟨1, .data⟩ (by simp) rfl; rw [hT] at q; exact q
            have ev47 : fa.tmps[47]?.getD undef = .pointer (some ⟨wr.heap.size, 2, none⟩) := (hF.ev 1 47 (by kernel_rfl)).trans q1
            have z0 := cell_below fB HY2.out
            refine wpOp_val rfl (wanted_none rfl) ?_ (fK (.int .i64 ps) fW (Below.refl _ _) (by rw [hT]; exact rfl))
            clear fK hE hF
            go_simp
          refine stepsAll_cons (k := 3) ?_ ?_
          · intro fa fx fW hF fB hE K fK
            have q0 : fx 0 = .int .i64 ps := by have q := hE ⟨0, .data⟩ (by simp) rfl; rw [hT] at q; exact q
            have q2 : fx 2 = .int .i64 ps := by have q := hE ⟨2, .data⟩ (by simp) rfl; rw [hT] at q; exact q
            have ev46 : fa.tmps[46]?.getD undef = .int .i64 ps := (hF.ev 0 46 (by kernel_rfl)).trans q0
            have ev48 : fa.tmps[48]?.getD undef = .int .i64 ps := (hF.ev 2 48 (by kernel_rfl)).trans q2
            refine wpOp_val rfl (wanted_none rfl) ?_ (fK (.bool false) fW (Below.refl _ _) (by rw [hT]; exact rfl))
            clear fK hE hF
            go_simp
          refine stepsAll_cons (k := 4) ?_ ?_
          · intro fa fx fW hF fB hE K fK
            have q3 : fx 3 = .bool false := by have q := hE ⟨3, .data⟩ (by simp) rfl; rw [hT] at q; exact q
            have ev49 : fa.tmps[49]?.getD undef = .bool false := (hF.ev 3 49 (by kernel_rfl)).trans q3
            refine wpOp_val rfl (wanted_none rfl) ?_ (fK (.bool false) fW (Below.refl _ _) (by rw [hT]; exact rfl))
            clear fK hE hF
            go_simp
          refine stepsAll_cons (k := 5) ?_ ?_
          · intro fa fx fW hF fB hE K fK
            have q4 : fx 4 = .bool false := by have q := hE ⟨4, .guard⟩ (by simp) rfl; rw [hT] at q; exact q
            have ev5 : fa.tmps[5]?.getD undef = .pointer (some ⟨wr.heap.size, 0, none⟩) := hF.eo 5 (by kernel_rfl)
            refine wpOp_val rfl (wanted_not rfl (hF.yes 4 50 (by kernel_rfl) false q4)) ?_ (fK (.pointer (some ⟨wr.heap.size, 2, none⟩)) fW (Below.refl _ _) (by rw [hT]; exact rfl))
            clear fK hE hF
            go_simp
          refine stepsAll_cons (k := 6) ?_ ?_
          · intro fa fx fW hF fB hE K fK
            have q4 : fx 4 = .bool false := by have q := hE ⟨4, .guard⟩ (by simp) rfl; rw [hT] at q; exact q
            have q5 : fx 5 = .pointer (some ⟨wr.heap.size, 2, none⟩) := by have q := hE ⟨5, .data⟩ (by simp) rfl; rw [hT] at q; exact q
            have ev51 : fa.tmps[51]?.getD undef = .pointer (some ⟨wr.heap.size, 2, none⟩) := (hF.ev 5 51 (by kernel_rfl)).trans q5
            have z0 := cell_below fB HY2.out
            refine wpOp_val rfl (wanted_not rfl (hF.yes 4 50 (by kernel_rfl) false q4)) ?_ (fK (.int .i64 ps) fW (Below.refl _ _) (by rw [hT]; exact rfl))
            clear fK hE hF
            go_simp
          refine stepsAll_cons (k := 7) ?_ ?_
          · intro fa fx fW hF fB hE K fK
            have q4 : fx 4 = .bool false := by have q := hE ⟨4, .guard⟩ (by simp) rfl; rw [hT] at q; exact q
            have ev0 : fa.tmps[0]?.getD undef = .pointer (some ⟨b, 0, none⟩) := hF.eo 0 (by kernel_rfl)
            refine wpOp_val rfl (wanted_not rfl (hF.yes 4 50 (by kernel_rfl) false q4)) ?_ (fK (.pointer (some ⟨b, 0, none⟩)) fW (Below.refl _ _) (by rw [hT]; exact rfl))
            clear fK hE hF
            go_simp
          refine stepsAll_cons (k := 8) ?_ ?_
          · intro fa fx fW hF fB hE K fK
            have q4 : fx 4 = .bool false := by have q := hE ⟨4, .guard⟩ (by simp) rfl; rw [hT] at q; exact q
            have q7 : fx 7 = .pointer (some ⟨b, 0, none⟩) := by have q := hE ⟨7, .data⟩ (by simp) rfl; rw [hT] at q; exact q
            have ev53 : fa.tmps[53]?.getD undef = .pointer (some ⟨b, 0, none⟩) := (hF.ev 7 53 (by kernel_rfl)).trans q7
            refine wpOp_val rfl (wanted_not rfl (hF.yes 4 50 (by kernel_rfl) false q4)) ?_ (fK (.pointer (some ⟨b, 0, none⟩)) fW (Below.refl _ _) (by rw [hT]; exact rfl))
            clear fK hE hF
            go_simp
          refine stepsAll_cons (k := 9) ?_ ?_
          · intro fa fx fW hF fB hE K fK
            have q4 : fx 4 = .bool false := by have q := hE ⟨4, .guard⟩ (by simp) rfl; rw [hT] at q; exact q
            have q8 : fx 8 = .pointer (some ⟨b, 0, none⟩) := by have q := hE ⟨8, .data⟩ (by simp) rfl; rw [hT] at q; exact q
            have ev54 : fa.tmps[54]?.getD undef = .pointer (some ⟨b, 0, none⟩) := (hF.ev 8 54 (by kernel_rfl)).trans q8
            refine wpOp_val rfl (wanted_not rfl (hF.yes 4 50 (by kernel_rfl) false q4)) ?_ (fK (.pointer (some ⟨b, 0, none⟩)) fW (Below.refl _ _) (by rw [hT]; exact rfl))
            clear fK hE hF
            go_simp
          refine stepsAll_cons (k := 10) ?_ ?_
          · intro fa fx fW hF fB hE K fK
            have q4 : fx 4 = .bool false := by have q := hE ⟨4, .guard⟩ (by simp) rfl; rw [hT] at q; exact q
            have q9 : fx 9 = .pointer (some ⟨b, 0, none⟩) := by have q := hE ⟨9, .data⟩ (by simp) rfl; rw [hT] at q; exact q
            have ev55 : fa.tmps[55]?.getD undef = .pointer (some ⟨b, 0, none⟩) := (hF.ev 9 55 (by kernel_rfl)).trans q9
            have z0 := cell_below fB HKK.out
            refine wpOp_val rfl (wanted_not rfl (hF.yes 4 50 (by kernel_rfl) false q4)) ?_ (fK (.int .i64 q.now) fW (Below.refl _ _) (by rw [hT]; exact rfl))
            clear fK hE hF
            go_simp
          refine stepsAll_cons (k := 11) ?_ ?_
          · intro fa fx fW hF fB hE K fK
            have q4 : fx 4 = .bool false := by have q := hE ⟨4, .guard⟩ (by simp) rfl; rw [hT] at q; exact q
            have q6 : fx 6 = .int .i64 ps := by have q := hE ⟨6, .data⟩ (by simp) rfl; rw [hT] at q; exact q
            have q10 : fx 10 = .int .i64 q.now := by have q := hE ⟨10, .data⟩ (by simp) rfl; rw [hT] at q; exact q
            have ev52 : fa.tmps[52]?.getD undef = .int .i64 ps := (hF.ev 6 52 (by kernel_rfl)).trans q6
            have ev56 : fa.tmps[56]?.getD undef = .int .i64 q.now := (hF.ev 10 56 (by kernel_rfl)).trans q10
            refine wpOp_val rfl (wanted_not rfl (hF.yes 4 50 (by kernel_rfl) false q4)) ?_ (fK (.bool false) fW (Below.refl _ _) (by rw [hT]; exact rfl))
            clear fK hE hF
            go_simp
          refine stepsAll_cons (k := 12) ?_ ?_
          · intro fa fx fW hF fB hE K fK
            have q4 : fx 4 = .bool false := by have q := hE ⟨4, .data⟩ (by simp) rfl; rw [hT] at q; exact q
            have q11 : fx 11 = .bool false := by have q := hE ⟨11, .data⟩ (by simp) rfl; rw [hT] at q; exact q
            have ev50 : fa.tmps[50]?.getD undef = .bool false := (hF.ev 4 50 (by kernel_rfl)).trans q4
            have ev57 : fa.tmps[57]?.getD undef = .bool false := (hF.ev 11 57 (by kernel_rfl)).trans q11
            refine wpOp_val rfl (wanted_none rfl) ?_ (fK (.bool false) fW (Below.refl _ _) (by rw [hT]; exact rfl))
            clear fK hE hF
            go_simp
          refine stepsAll_cons (k := 13) ?_ ?_
          · intro fa fx fW hF fB hE K fK
            have q12 : fx 12 = .bool false := by have q := hE ⟨12, .data⟩ (by simp) rfl; rw [hT] at q; exact q
            have ev58 : fa.tmps[58]?.getD undef = .bool false := (hF.ev 12 58 (by kernel_rfl)).trans q12
            refine wpOp_val rfl (wanted_none rfl) ?_ (fK (.bool false) fW (Below.refl _ _) (by rw [hT]; exact rfl))
            clear fK hE hF
            go_simp
          refine stepsAll_cons (k := 14) ?_ ?_
          · intro fa fx fW hF fB hE K fK
            have q13 : fx 13 = .bool false := by have q := hE ⟨13, .guard⟩ (by simp) rfl; rw [hT] at q; exact q
            have ev5 : fa.tmps[5]?.getD undef = .pointer (some ⟨wr.heap.size, 0, none⟩) := hF.eo 5 (by kernel_rfl)
            refine wpOp_val rfl (wanted_not rfl (hF.yes 13 59 (by kernel_rfl) false q13)) ?_ (fK (.pointer (some ⟨wr.heap.size, 2, none⟩)) fW (Below.refl _ _) (by rw [hT]; exact rfl))
            clear fK hE hF
            go_simp
          refine stepsAll_cons (k := 15) ?_ ?_
          · intro fa fx fW hF fB hE K fK
            have q13 : fx 13 = .bool false := by have q := hE ⟨13, .guard⟩ (by simp) rfl; rw [hT] at q; exact q
            have q14 : fx 14 = .pointer (some ⟨wr.heap.size, 2, none⟩) := by have q := hE ⟨14, .data⟩ (by simp) rfl; rw [hT] at q; exact q
            have ev60 : fa.tmps[60]?.getD undef = .pointer (some ⟨wr.heap.size, 2, none⟩) := (hF.ev 14 60 (by kernel_rfl)).trans q14
            have z0 := cell_below fB HY2.out
            refine wpOp_val rfl (wanted_not rfl (hF.yes 13 59 (by kernel_rfl) false q13)) ?_ (fK (.int .i64 ps) fW (Below.refl _ _) (by rw [hT]; exact rfl))
            clear fK hE hF
            go_simp
          refine stepsAll_cons (k := 16) ?_ ?_
          · intro fa fx fW hF fB hE K fK
            have q13 : fx 13 = .bool false := by have q := hE ⟨13, .guard⟩ (by simp) rfl; rw [hT] at q; exact q
            have ev0 : fa.tmps[0]?.getD undef = .pointer (some ⟨b, 0, none⟩) := hF.eo 0 (by kernel_rfl)
            refine wpOp_val rfl (wanted_not rfl (hF.yes 13 59 (by kernel_rfl) false q13)) ?_ (fK (.pointer (some ⟨b, 0, none⟩)) fW (Below.refl _ _) (by rw [hT]; exact rfl))
            clear fK hE hF
            go_simp
          refine stepsAll_cons (k := 17) ?_ ?_
          · intro fa fx fW hF fB hE K fK
            have q13 : fx 13 = .bool false := by have q := hE ⟨13, .guard⟩ (by simp) rfl; rw [hT] at q; exact q
            have q16 : fx 16 = .pointer (some ⟨b, 0, none⟩) := by have q := hE ⟨16, .data⟩ (by simp) rfl; rw [hT] at q; exact q
            have ev62 : fa.tmps[62]?.getD undef = .pointer (some ⟨b, 0, none⟩) := (hF.ev 16 62 (by kernel_rfl)).trans q16
            refine wpOp_val rfl (wanted_not rfl (hF.yes 13 59 (by kernel_rfl) false q13)) ?_ (fK (.pointer (some ⟨b, 0, none⟩)) fW (Below.refl _ _) (by rw [hT]; exact rfl))
            clear fK hE hF
            go_simp
          refine stepsAll_cons (k := 18) ?_ ?_
          · intro fa fx fW hF fB hE K fK
            have q13 : fx 13 = .bool false := by have q := hE ⟨13, .guard⟩ (by simp) rfl; rw [hT] at q; exact q
            have q17 : fx 17 = .pointer (some ⟨b, 0, none⟩) := by have q := hE ⟨17, .data⟩ (by simp) rfl; rw [hT] at q; exact q
            have ev63 : fa.tmps[63]?.getD undef = .pointer (some ⟨b, 0, none⟩) := (hF.ev 17 63 (by kernel_rfl)).trans q17
            refine wpOp_val rfl (wanted_not rfl (hF.yes 13 59 (by kernel_rfl) false q13)) ?_ (fK (.pointer (some ⟨b, 0, none⟩)) fW (Below.refl _ _) (by rw [hT]; exact rfl))
            clear fK hE hF
            go_simp
          refine stepsAll_cons (k := 19) ?_ ?_
          · intro fa fx fW hF fB hE K fK
            have q13 : fx 13 = .bool false := by have q := hE ⟨13, .guard⟩ (by simp) rfl; rw [hT] at q; exact q
            have q18 : fx 18 = .pointer (some ⟨b, 0, none⟩) := by have q := hE ⟨18, .data⟩ (by simp) rfl; rw [hT] at q; exact q
            have ev64 : fa.tmps[64]?.getD undef = .pointer (some ⟨b, 0, none⟩) := (hF.ev 18 64 (by kernel_rfl)).trans q18
            have z0 := cell_below fB HKK.out
            refine wpOp_val rfl (wanted_not rfl (hF.yes 13 59 (by kernel_rfl) false q13)) ?_ (fK (.int .i64 q.now) fW (Below.refl _ _) (by rw [hT]; exact rfl))
            clear fK hE hF
            go_simp
          refine stepsAll_cons (k := 20) ?_ ?_
          · intro fa fx fW hF fB hE K fK
            have q13 : fx 13 = .bool false := by have q := hE ⟨13, .guard⟩ (by simp) rfl; rw [hT] at q; exact q
            have q15 : fx 15 = .int .i64 ps := by have q := hE ⟨15, .data⟩ (by simp) rfl; rw [hT] at q; exact q
            have q19 : fx 19 = .int .i64 q.now := by have q := hE ⟨19, .data⟩ (by simp) rfl; rw [hT] at q; exact q
            have ev61 : fa.tmps[61]?.getD undef = .int .i64 ps := (hF.ev 15 61 (by kernel_rfl)).trans q15
            have ev65 : fa.tmps[65]?.getD undef = .int .i64 q.now := (hF.ev 19 65 (by kernel_rfl)).trans q19
            refine wpOp_val rfl (wanted_not rfl (hF.yes 13 59 (by kernel_rfl) false q13)) ?_ (fK (.int .i64 (ps - q.now)) fW (Below.refl _ _) (by rw [hT]; exact rfl))
            clear fK hE hF
            go_simp
          refine stepsAll_cons (k := 21) ?_ ?_
          · intro fa fx fW hF fB hE K fK
            have q13 : fx 13 = .bool false := by have q := hE ⟨13, .guard⟩ (by simp) rfl; rw [hT] at q; exact q
            have ev5 : fa.tmps[5]?.getD undef = .pointer (some ⟨wr.heap.size, 0, none⟩) := hF.eo 5 (by kernel_rfl)
            have z0 := cell_below fB HY.out.1
            have z1 := cell_below fB HY.out.2.1
            have z2 := cell_below fB HY2.out
            have z3 := cell_below fB HY.out.2.2
            refine wpOp_val rfl (wanted_not rfl (hF.yes 13 59 (by kernel_rfl) false q13)) ?_ (fK (.agg #[.int .i64 1, .int .i64 tk, .int .i64 ps, .int .i64 pk]) fW (Below.refl _ _) (by rw [hT]; exact rfl))
            clear fK hE hF
            go_simp
          refine stepsAll_cons (k := 22) ?_ ?_
          · intro fa fx fW hF fB hE K fK
            have q13 : fx 13 = .bool false := by have q := hE ⟨13, .chain⟩ (by simp) rfl; rw [hT] at q; exact q
            have q21 : fx 21 = .agg #[.int .i64 1, .int .i64 tk, .int .i64 ps, .int .i64 pk] := by have q := hE ⟨21, .data⟩ (by simp) rfl; rw [hT] at q; exact q
            have ev67 : fa.tmps[67]?.getD undef = .agg #[.int .i64 1, .int .i64 tk, .int .i64 ps, .int .i64 pk] := (hF.ev 21 67 (by kernel_rfl)).trans q21
            refine wpOp_call rfl (wanted_not rfl (hF.yes 13 59 (by kernel_rfl) false q13)) (by go_simp; exact ⟨rfl, rfl⟩) ?_
            refine (HST.out fW).mono ?_
            rintro e' w' ⟨rfl, hbb⟩
            exact ⟨_, rfl, fK (_) (w') (hbb) (by rw [hT]; exact rfl)⟩
          refine stepsAll_cons (k := 23) ?_ ?_
          · intro fa fx fW hF fB hE K fK
            have q13 : fx 13 = .bool false := by have q := hE ⟨13, .guard⟩ (by simp) rfl; rw [hT] at q; exact q
            have q20 : fx 20 = .int .i64 (ps - q.now) := by have q := hE ⟨20, .data⟩ (by simp) rfl; rw [hT] at q; exact q
            have q22 : fx 22 = .int .i64 s := by have q := hE ⟨22, .data⟩ (by simp) rfl; rw [hT] at q; exact q
            have ev66 : fa.tmps[66]?.getD undef = .int .i64 (ps - q.now) := (hF.ev 20 66 (by kernel_rfl)).trans q20
            have ev68 : fa.tmps[68]?.getD undef = .int .i64 s := (hF.ev 22 68 (by kernel_rfl)).trans q22
            refine wpOp_val rfl (wanted_not rfl (hF.yes 13 59 (by kernel_rfl) false q13)) ?_ (fK (.bool false) fW (Below.refl _ _) (by rw [hT]; exact rfl))
            clear fK hE hF
            go_simp
          refine stepsAll_cons (k := 24) ?_ ?_
          · intro fa fx fW hF fB hE K fK
            have q13 : fx 13 = .bool false := by have q := hE ⟨13, .data⟩ (by simp) rfl; rw [hT] at q; exact q
            have q23 : fx 23 = .bool false := by have q := hE ⟨23, .data⟩ (by simp) rfl; rw [hT] at q; exact q
            have ev59 : fa.tmps[59]?.getD undef = .bool false := (hF.ev 13 59 (by kernel_rfl)).trans q13
            have ev69 : fa.tmps[69]?.getD undef = .bool false := (hF.ev 23 69 (by kernel_rfl)).trans q23
            refine wpOp_val rfl (wanted_none rfl) ?_ (fK (.bool false) fW (Below.refl _ _) (by rw [hT]; exact rfl))
            clear fK hE hF
            go_simp
          exact stepsAll_nil
        intro fa fx fW hF fB hx
        have q24 : fx 24 = .bool false := by have q := hx 24 (by decide); rw [hT] at q; exact q
        have ev70 : fa.tmps[70]?.getD undef = .bool false := (hF.ev 24 70 (by kernel_rfl)).trans q24
        rw [hF.eq]
        clear hF hx
        simp only [putAll, Act.put, List.setIfInBounds_toArray, List.set_cons_zero, List.set_cons_succ, q24]
        have hb9 := below_then HBB.out HBB.out.size fB
        clear HK HST HY HY2 HKK
        go_wp2
        go_roundw
        case rel => exact ⟨j + 1, by omega, by go_num, by rw [HC.out]; go_num, hb9⟩
        case measure => simp only [intOf]; omega
      · have HK := Lib.hid (Q5.keyNo j hjn (fun e => h1 (hhas.1 e)))
        rw [if_neg h1] at HC
        generalize cntV q.h.pl j = m0 at HC hle
        rw [hW5] at HK y0 y1 y2 y3 kk5 kk6
        clear hky htk hhas r0 r1 r2 r3 k2 kk1 Q5 hal hb5
        generalize r.tk = tk at *
        generalize r.ps = ps at *
        generalize r.pk = pk at *
        generalize r.st = st at *
        go_wp2_with (go_at_call 48; (with_reducible refine HK.out.mono ?_); rintro e w2 ⟨rfl, rfl⟩)
        go_roundw
        case rel => exact ⟨j + 1, by omega, by go_num, by rw [HC.out]; rfl, by rw [← hW5]; exact HB5.out⟩
        case measure => simp only [intOf]; omega
    · obtain rfl : j = n := by omega
      rw [HALL.out]
      have kk2 := (HQ.out.below hbw).box.2.2.cell
      have HL := Lib.hid ((HQ.out.below hbw).len h0)
      clear k2 kk1
      go_wp2_with (go_at_call 50; (with_reducible refine HL.out.mono ?_); rintro e w2 ⟨rfl, rfl⟩)
      go_ret
      exact ⟨rfl, hbw⟩
end Go.Proofs.YtabdipfpfbdghaaGreat
