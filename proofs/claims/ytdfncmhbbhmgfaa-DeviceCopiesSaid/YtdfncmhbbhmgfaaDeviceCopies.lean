/- The law DeviceCopies. -/
import Derived.Test.YtdfncmhbbhmgfaaDeviceActs
import Derived.Test.YtdfncmhbbhmgfaaRegion
namespace Go.Proofs.Ytdfncmhbbhmgfaa
open Go.RowKit
set_option maxRecDepth 100000 in
set_option maxHeartbeats 4000000 in
theorem copies_lives (A : Option Addr) (n c : Nat) (A2 : Option Addr) (m c2 : Nat) (w : World) (h : 100 < n ∨ 100 < m) : Calls Try.prog 4 #[.slice A n c, .slice A2 m c2] w fun e w' => e = .returned (.bool true) ∧ Below w.heap.size w w' := by
  have HL := Lib.hid (fun W => lives11 W)
  have HD := Lib.hid (dnew_yes 6 w (by omega) (by omega))
  have HR := Lib.hid (fun W => rnew_yes 6 W (by omega) (by omega))
  by_cases h1 : 100 < n
  · clear h
    go_enter Try.func4, Try.ntmps4
    go_wp2_with (first
      | ((with_reducible refine (HL.out _).mono ?_); rintro e w' ⟨rfl, hb⟩)
      | (go_at_call 8; (with_reducible refine HD.out.mono ?_); rintro e w1 ⟨rfl, hb1, hs1, hd1⟩)
      | (go_at_call 13; (with_reducible refine (HR.out _).mono ?_); rintro e w2 ⟨rfl, hb2, hs2, hr2⟩))
    go_ret
    exact ⟨rfl, below_tr (below_tr hb1 hb2) hb⟩
  · have h2 : 100 < m := by omega
    clear h
    go_enter Try.func4, Try.ntmps4
    go_wp2_with (first
      | ((with_reducible refine (HL.out _).mono ?_); rintro e w' ⟨rfl, hb⟩)
      | (go_at_call 8; (with_reducible refine HD.out.mono ?_); rintro e w1 ⟨rfl, hb1, hs1, hd1⟩)
      | (go_at_call 13; (with_reducible refine (HR.out _).mono ?_); rintro e w2 ⟨rfl, hb2, hs2, hr2⟩))
    go_ret
    exact ⟨rfl, below_tr (below_tr hb1 hb2) hb⟩
/-- The copies are two devices of their own. -/
theorem two_copies {w w1 w2 : World} {g1 g2 : Nat} {room : Int} {s : DS} {v1 v2 : Value} (hb1 : Below w.heap.size w w1) (hg1 : w.heap.size ≤ g1) (hd : Dev w1 g1 w.heap.size room s.l s.last s.done v1) (hb2 : Below w1.heap.size w1 w2) (hg2 : w1.heap.size ≤ g2) (hr : RDev w2 g2 w1.heap.size room s.l s.last s.done v2) :
    Two w2 w.heap.size g1 g2 w2.heap.size w2.heap.size room s s := by
  have hd2 := hd.below hb2
  have h1 := hd.room_.lt
  have h2 := hb1.size
  have h3 := hb2.size
  refine ⟨v1, v2, hd2, ⟨hr.room_, hr.row, hr.last_, hr.done_, own_mono hr.own h2, hr.apart⟩, ⟨hd2.room_.lt, fun k e => (hd2.own.lt k e).2, hr.room_.lt, fun k e => (hr.own.lt k e).2⟩, by omega, ?_, ?_, ?_, hg1, by omega, by omega⟩
  · intro e; have := (hd.own.lt _ e).2; omega
  · intro e; have := (hr.own.lt _ e).1; omega
  · intro k e e2; have := (hd.own.lt _ e).2; have := (hr.own.lt _ e2).1; omega
set_option maxRecDepth 100000 in
set_option maxHeartbeats 8000000 in
theorem copies_walk (A : Option Addr) (n c : Nat) (l : List Ac) (A2 : Option Addr) (m c2 : Nat) (l2 : List Ac) (w : World) (hr : Rds w 7 A n c (acs l)) (hr2 : Rds w 7 A2 m c2 (acs l2)) (hn : ¬ 100 < n) (hm : ¬ 100 < m) : Calls Try.prog 4 #[.slice A n c, .slice A2 m c2] w fun e w' => e = .returned (.bool true) ∧ Below w.heap.size w w' := by
  have HN : Hid (l.length = n) := by show _ = _; have := hr.len; rw [acs_length] at this; omega
  have HM : Hid (l2.length = m) := by show _ = _; have := hr2.len; rw [acs_length] at this; omega
  have HD := Lib.hid (dnew_yes 6 w (by omega) (by omega))
  have HR := Lib.hid (fun W => rnew_yes 6 W (by omega) (by omega))
  have hn2 : n ≤ 100 := by omega
  have hm2 : m ≤ 100 := by omega
  go_enter Try.func4, Try.ntmps4
  go_wp2_with (first
    | (go_at_call 8; (with_reducible refine HD.out.mono ?_); rintro e w1 ⟨rfl, hb1, hs1, hd1⟩)
    | (go_at_call 13; (with_reducible refine (HR.out _).mono ?_); rintro e w2 ⟨rfl, hb2, hs2, hr3⟩))
  obtain ⟨hB, hT⟩ := two_new hb1 hd1 hs1 hb2 hs2 hr3
  obtain ⟨b1, hb1'⟩ : ∃ x, x = w.heap.size := ⟨_, rfl⟩
  obtain ⟨base, hbase⟩ : ∃ x, x = w.heap.size := ⟨_, rfl⟩
  generalize w1.heap.size = b2 at *
  rw [show Value.pointer (some ⟨w.heap.size, 0, none⟩) = Value.pointer (some ⟨b1, 0, none⟩) by rw [hb1']]
  have hT' : Two w2 base b1 b2 w2.heap.size w2.heap.size 6 ⟨[], 0, 0⟩ ⟨[], 0, 0⟩ := by rw [hbase, hb1']; exact hT
  have hB' : Below base w w2 := by rw [hbase]; exact hB
  clear hT hB hb1 hd1 hs1 hb2 hs2 hr3 hb1' HD HR
  have hK0 : OkS 6 0 ⟨[], 0, 0⟩ := ⟨by omega, by omega, by simp, by simp, by simp, by simp, by simp, by omega⟩
  go_loopw [34] (fun i wr => ∃ (k : Nat) (s : DS), k ≤ n ∧ i = .int .i64 k ∧ Two wr base b1 b2 wr.heap.size wr.heap.size 6 s s ∧ OkS 6 k s ∧ Below base w wr) (fun i _ => n - (intOf i).toNat)
  case atStart => exact ⟨0, ⟨[], 0, 0⟩, Nat.zero_le _, rfl, hT', hK0, hB'⟩
  case round =>
    obtain ⟨W3, rfl⟩ : ∃ x, x = wr := ⟨_, rfl⟩
    obtain ⟨k, s, hk, rfl, hT, hK, hb⟩ := hrel
    clear hT' hK0 hB'
    have hsz := hT.size
    by_cases hlt : k < n
    · have hkx : k < l.length := by rw [HN.out]; exact hlt
      obtain ⟨ad, rfl⟩ := hr.some_ (by omega)
      obtain ⟨h0, h1, h2, h3, h4, h5, h6⟩ := ac_read (hr.below (by rw [← hbase]; exact hb)) k l[k] (List.getElem?_eq_getElem hkx)
      have hK1 := hK.act l[k] (by omega)
      have hA := fun W (ht : Two W base b1 b2 W.heap.size W.heap.size 6 s s) => actW ht hK l[k]
      have HA := Lib.hid hA
      clear hA
      generalize l[k] = y at h0 h1 h2 h3 h4 h5 h6 hK1 HA
      generalize actS 6 s y = s1 at hK1 HA
      obtain ⟨kd, q, r⟩ := y
      obtain ⟨r1, r2, r3, r4, r5⟩ := r
      unfold acV at HA
      simp only at h0 h1 h2 h3 h4 h5 h6 HA
      have hal : Below W3.heap.size W3 (W3.alloc (.cells #[.int .i64 kd, .int .i64 q, .int .i64 r1, .int .i64 r2, .int .i64 r3, .int .i64 r4, .int .i64 r5] 41)) := below_al (Below.refl _ _) _
      have HA1 := Lib.hid (HA.out _ (hT.below hal).tight)
      have hb5 := below_then hb hsz hal
      have HB5 := Lib.hid hb5
      clear hal hb5 HA
      go_wp2_with (go_at_call 14; (with_reducible refine HA1.out.mono ?_); rintro e w5 ⟨rfl, hb9, ht9⟩)
      go_roundw
      case rel => exact ⟨k + 1, s1, by omega, by go_num, ht9, by simpa using hK1, HB5.out.trans hb9⟩
      case measure => simp only [intOf]; omega
    · obtain rfl : k = n := by omega
      have HT0 := Lib.hid hT
      obtain ⟨v1, v2, d1, d2, _⟩ := hT
      have hroom : (0 : Int) < 6 := by omega
      have hlen : s.l.length ≤ 4096 := by have := hK.len; omega
      have HC1 := Lib.hid (dcopy b1 base 6 s.l s.last s.done v1 W3 d1 hroom hlen)
      have HC2 := Lib.hid (fun W (hW : Below W3.heap.size W3 W) => rcopy b2 base 6 s.l s.last s.done v2 W (d2.below hW) hlen)
      clear d1 d2
      go_wp2_with (first
        | (go_at_call 15; (with_reducible refine HC1.out.mono ?_); rintro e w5 ⟨hb5, g1, u1, rfl, hg1, hd5⟩)
        | (go_at_call 16; (with_reducible refine (HC2.out _ hb5).mono ?_); rintro e w6 ⟨hb6, g2, u2, rfl, hg2, hd6⟩))
      have hT2 := two_copies hb5 hg1 hd5 hb6 hg2 hd6
      have hB6 := below_tr hb5 hb6
      have hT1 := (HT0.out.below hB6).tight
      obtain ⟨base2, hbase2⟩ : ∃ x, x = W3.heap.size := ⟨_, rfl⟩
      rw [← hbase2] at hT2 hB6
      clear hb5 hb6 hd5 hd6 hg1 hg2 HC1 HC2
      have hbs : base ≤ base2 := by rw [hbase2]; exact hsz
      go_loopw [49] (fun i wr => ∃ (j : Nat) (t : DS), j ≤ m ∧ i = .int .i64 j ∧ Two wr base2 g1 g2 wr.heap.size wr.heap.size 6 t t ∧ OkS 6 (100 + j) t ∧ Below base2 W3 wr) (fun i _ => m - (intOf i).toNat)
      case atStart => exact ⟨0, s, Nat.zero_le _, rfl, hT2, by obtain ⟨h0, h1, h2, h3, h4, h5, h6, h7⟩ := hK; exact ⟨h0, h1, h2, h3, by omega, h5, by omega, by omega⟩, hB6⟩
      case round =>
        obtain ⟨j, t, hj, rfl, hTt, hKt, hbt⟩ := hrel
        obtain ⟨W4, rfl⟩ : ∃ x, x = wr := ⟨_, rfl⟩
        clear hT2 hB6
        have hszt := hTt.size
        have hbw : Below base w W4 := hb.trans ⟨hbt.os, hbt.tape, hbt.output, hbt.size, fun i hi => hbt.block i (by omega)⟩
        by_cases hlt2 : j < m
        · have hkx : j < l2.length := by rw [HM.out]; exact hlt2
          obtain ⟨ad, rfl⟩ := hr2.some_ (by omega)
          obtain ⟨h0, h1, h2, h3, h4, h5, h6⟩ := ac_read (hr2.below (by rw [← hbase]; exact hbw)) j l2[j] (List.getElem?_eq_getElem hkx)
          have hK1 := hKt.act l2[j] (by omega)
          have hA := fun W (ht : Two W base2 g1 g2 W.heap.size W.heap.size 6 t t) => actW ht hKt l2[j]
          have HA := Lib.hid hA
          clear hA
          generalize l2[j] = y at h0 h1 h2 h3 h4 h5 h6 hK1 HA
          generalize actS 6 t y = s1 at hK1 HA
          obtain ⟨kd, q, r⟩ := y
          obtain ⟨r1, r2, r3, r4, r5⟩ := r
          unfold acV at HA
          simp only at h0 h1 h2 h3 h4 h5 h6 HA
          have hal : Below W4.heap.size W4 (W4.alloc (.cells #[.int .i64 kd, .int .i64 q, .int .i64 r1, .int .i64 r2, .int .i64 r3, .int .i64 r4, .int .i64 r5] 41)) := below_al (Below.refl _ _) _
          have HA1 := Lib.hid (HA.out _ (hTt.below hal).tight)
          have HB5 := Lib.hid (below_then hbt hszt hal)
          clear hal HA
          go_wp2_with (go_at_call 14; (with_reducible refine HA1.out.mono ?_); rintro e w5 ⟨rfl, hb9, ht9⟩)
          go_roundw
          case rel => exact ⟨j + 1, s1, by omega, by go_num, ht9, by simpa [Int.add_assoc] using hK1, HB5.out.trans hb9⟩
          case measure => simp only [intOf]; omega
        · obtain rfl : j = m := by omega
          have hTd := (HT0.out.below (by rw [← hbase2]; exact hbt)).tight
          have hlen2 : t.l.length ≤ 4096 := by have := hKt.len; omega
          go_wp2
          obtain ⟨x1, x2, e1, e2, _⟩ := hTd
          obtain ⟨y1, y2, f1, f2, _⟩ := hTt
          obtain ⟨P1, p1, q1, hx2, _, hrx2⟩ := own_open e2.own
          obtain ⟨P2, p2, q2, hy2, _, hry2⟩ := own_open f2.own
          obtain ⟨T, hT⟩ : ∃ T : Nat → Fact, ∀ t_, T t_ = ([Fact.eq (.pointer (some ⟨b1, 0, none⟩)), Fact.row 5 (rqs s.l), Fact.row 5 (rqs s.l), Fact.eq (.pointer (some ⟨b2, 0, none⟩)), Fact.eq (.pointer (some ⟨b2, 0, none⟩)), Fact.eq (.pointer (some ⟨b2, 1, none⟩)), Fact.eq (.slice P1 p1 q1), Fact.eq (.bool true), Fact.eq (.bool true), Fact.eq (.pointer (some ⟨g1, 0, none⟩)), Fact.row 5 (rqs t.l), Fact.row 5 (rqs t.l), Fact.eq (.pointer (some ⟨g2, 0, none⟩)), Fact.eq (.pointer (some ⟨g2, 0, none⟩)), Fact.eq (.pointer (some ⟨g2, 1, none⟩)), Fact.eq (.slice P2 p2 q2), Fact.eq (.bool true), Fact.eq (.bool true), Fact.eq (.bool true), Fact.eq (.bool true), Fact.eq (.bool true), Fact.eq (.bool true)] : List (Fact)).getD t_ Fact.any := ⟨_, fun _ => rfl⟩
          refine region_tab [(0, 59), (1, 60), (2, 61), (3, 62), (4, 63), (5, 64), (6, 65), (7, 66), (8, 67), (9, 68), (10, 69), (11, 70), (12, 71), (13, 72), (14, 73), (15, 74), (16, 75), (17, 76), (18, 77), (19, 78), (20, 79), (21, 4)] T (by kernel_rfl) (by kernel_rfl) (by kernel_rfl) (by kernel_rfl) (by kernel_rfl) ?_ ?_
          · skip
            refine stepsAll_cons (k := 0) ?_ ?_
            · intro fa fx fW hF fB hE K fK
              have ev5 : fa.tmps[5]?.getD undef = .pointer (some ⟨b1, 0, none⟩) := hF.eo 5 (by kernel_rfl)
              refine wpOp_val rfl (wanted_none rfl) ?_ (fK (.pointer (some ⟨b1, 0, none⟩)) fW (Below.refl _ _) (by rw [hT]; exact rfl))
              clear fK hE hF
              go_simp
            refine stepsAll_cons (k := 1) ?_ ?_
            · intro fa fx fW hF fB hE K fK
              have q0 : fx 0 = .pointer (some ⟨b1, 0, none⟩) := by have q := hE ⟨0, .data⟩ (by simp) rfl; rw [hT] at q; exact q
              have ev59 : fa.tmps[59]?.getD undef = .pointer (some ⟨b1, 0, none⟩) := (hF.ev 0 59 (by kernel_rfl)).trans q0
              refine wpOp_call rfl (wanted_none rfl) (by go_simp; exact ⟨rfl, rfl⟩) ?_
              refine (dall b1 base 6 s.l s.last s.done x1 fW (e1.below fB) hroom hlen).mono ?_
              rintro e w9 ⟨A9, n9, c9, rfl, hb9, hr9⟩
              exact ⟨_, rfl, fK (.slice A9 n9 c9) (w9) (hb9) (by rw [hT]; exact ⟨A9, n9, c9, rfl, hr9⟩)⟩
            refine stepsAll_cons (k := 2) ?_ ?_
            · intro fa fx fW hF fB hE K fK
              have q1 : (Fact.row 5 (rqs s.l)).p (fx 1) fW := by have q := hE ⟨1, .data⟩ (by simp) rfl; rw [hT] at q; exact q
              have ev60 : fa.tmps[60]?.getD undef = fx 1 := hF.ev 1 60 (by kernel_rfl)
              refine wpOp_call rfl (wanted_none rfl) (by go_simp; exact ⟨rfl, rfl⟩) ?_
              obtain ⟨A1, n1, c1, ez, hrz⟩ := q1
              rw [ez]
              refine (plainRq A1 n1 c1 s.l fW hrz (by have := hrz.len; rw [rqs_length] at this; omega)).mono ?_
              rintro e w9 ⟨A9, n9, c9, rfl, hb9, hr9⟩
              exact ⟨_, rfl, fK (.slice A9 n9 c9) (w9) (hb9) (by rw [hT]; exact ⟨A9, n9, c9, rfl, hr9⟩)⟩
            refine stepsAll_cons (k := 3) ?_ ?_
            · intro fa fx fW hF fB hE K fK
              have ev6 : fa.tmps[6]?.getD undef = .pointer (some ⟨b2, 0, none⟩) := hF.eo 6 (by kernel_rfl)
              refine wpOp_val rfl (wanted_none rfl) ?_ (fK (.pointer (some ⟨b2, 0, none⟩)) fW (Below.refl _ _) (by rw [hT]; exact rfl))
              clear fK hE hF
              go_simp
            refine stepsAll_cons (k := 4) ?_ ?_
            · intro fa fx fW hF fB hE K fK
              have q3 : fx 3 = .pointer (some ⟨b2, 0, none⟩) := by have q := hE ⟨3, .data⟩ (by simp) rfl; rw [hT] at q; exact q
              have ev62 : fa.tmps[62]?.getD undef = .pointer (some ⟨b2, 0, none⟩) := (hF.ev 3 62 (by kernel_rfl)).trans q3
              refine wpOp_val rfl (wanted_none rfl) ?_ (fK (.pointer (some ⟨b2, 0, none⟩)) fW (Below.refl _ _) (by rw [hT]; exact rfl))
              clear fK hE hF
              go_simp
            refine stepsAll_cons (k := 5) ?_ ?_
            · intro fa fx fW hF fB hE K fK
              have q4 : fx 4 = .pointer (some ⟨b2, 0, none⟩) := by have q := hE ⟨4, .data⟩ (by simp) rfl; rw [hT] at q; exact q
              have ev63 : fa.tmps[63]?.getD undef = .pointer (some ⟨b2, 0, none⟩) := (hF.ev 4 63 (by kernel_rfl)).trans q4
              refine wpOp_val rfl (wanted_none rfl) ?_ (fK (.pointer (some ⟨b2, 1, none⟩)) fW (Below.refl _ _) (by rw [hT]; exact rfl))
              clear fK hE hF
              go_simp
            refine stepsAll_cons (k := 6) ?_ ?_
            · intro fa fx fW hF fB hE K fK
              have q5 : fx 5 = .pointer (some ⟨b2, 1, none⟩) := by have q := hE ⟨5, .data⟩ (by simp) rfl; rw [hT] at q; exact q
              have ev64 : fa.tmps[64]?.getD undef = .pointer (some ⟨b2, 1, none⟩) := (hF.ev 5 64 (by kernel_rfl)).trans q5
              have z := (e2.row.below fB).cell
              rw [hx2] at z
              refine wpOp_val rfl (wanted_none rfl) ?_ (fK (.slice P1 p1 q1) fW (Below.refl _ _) (by rw [hT]; exact rfl))
              clear fK hE hF
              go_simp
            refine stepsAll_cons (k := 7) ?_ ?_
            · intro fa fx fW hF fB hE K fK
              have q2 : (Fact.row 5 (rqs s.l)).p (fx 2) fW := by have q := hE ⟨2, .data⟩ (by simp) rfl; rw [hT] at q; exact q
              have q6 : fx 6 = .slice P1 p1 q1 := by have q := hE ⟨6, .data⟩ (by simp) rfl; rw [hT] at q; exact q
              have ev61 : fa.tmps[61]?.getD undef = fx 2 := hF.ev 2 61 (by kernel_rfl)
              have ev65 : fa.tmps[65]?.getD undef = .slice P1 p1 q1 := (hF.ev 6 65 (by kernel_rfl)).trans q6
              refine wpOp_call rfl (wanted_none rfl) (by go_simp; exact ⟨rfl, rfl⟩) ?_
              obtain ⟨A1, n1, c1, ez, hrz⟩ := q2
              rw [ez]
              refine (rsame A1 n1 c1 s.l P1 p1 _ fW hrz (hrx2.below fB)).mono ?_
              rintro e w9 ⟨rfl, hb9⟩
              exact ⟨_, rfl, fK (.bool true) (w9) (hb9) (by rw [hT]; exact rfl)⟩
            refine stepsAll_cons (k := 8) ?_ ?_
            · intro fa fx fW hF fB hE K fK
              have q7 : fx 7 = .bool true := by have q := hE ⟨7, .data⟩ (by simp) rfl; rw [hT] at q; exact q
              have ev66 : fa.tmps[66]?.getD undef = .bool true := (hF.ev 7 66 (by kernel_rfl)).trans q7
              refine wpOp_val rfl (wanted_none rfl) ?_ (fK (.bool true) fW (Below.refl _ _) (by rw [hT]; exact rfl))
              clear fK hE hF
              go_simp
            refine stepsAll_cons (k := 9) ?_ ?_
            · intro fa fx fW hF fB hE K fK
              have q8 : fx 8 = .bool true := by have q := hE ⟨8, .guard⟩ (by simp) rfl; rw [hT] at q; exact q
              have ev9 : fa.tmps[9]?.getD undef = .pointer (some ⟨g1, 0, none⟩) := hF.eo 9 (by kernel_rfl)
              refine wpOp_val rfl (wanted_yes rfl (hF.yes 8 67 (by kernel_rfl) true q8)) ?_ (fK (.pointer (some ⟨g1, 0, none⟩)) fW (Below.refl _ _) (by rw [hT]; exact rfl))
              clear fK hE hF
              go_simp
            refine stepsAll_cons (k := 10) ?_ ?_
            · intro fa fx fW hF fB hE K fK
              have q8 : fx 8 = .bool true := by have q := hE ⟨8, .chain⟩ (by simp) rfl; rw [hT] at q; exact q
              have q9 : fx 9 = .pointer (some ⟨g1, 0, none⟩) := by have q := hE ⟨9, .data⟩ (by simp) rfl; rw [hT] at q; exact q
              have ev68 : fa.tmps[68]?.getD undef = .pointer (some ⟨g1, 0, none⟩) := (hF.ev 9 68 (by kernel_rfl)).trans q9
              refine wpOp_call rfl (wanted_yes rfl (hF.yes 8 67 (by kernel_rfl) true q8)) (by go_simp; exact ⟨rfl, rfl⟩) ?_
              refine (dall g1 base2 6 t.l t.last t.done y1 fW (f1.below fB) hroom hlen2).mono ?_
              rintro e w9 ⟨A9, n9, c9, rfl, hb9, hr9⟩
              exact ⟨_, rfl, fK (.slice A9 n9 c9) (w9) (hb9) (by rw [hT]; exact ⟨A9, n9, c9, rfl, hr9⟩)⟩
            refine stepsAll_cons (k := 11) ?_ ?_
            · intro fa fx fW hF fB hE K fK
              have q8 : fx 8 = .bool true := by have q := hE ⟨8, .guard⟩ (by simp) rfl; rw [hT] at q; exact q
              have q10 : (Fact.row 5 (rqs t.l)).p (fx 10) fW := by have q := hE ⟨10, .data⟩ (by simp) rfl; rw [hT] at q; exact q
              have ev69 : fa.tmps[69]?.getD undef = fx 10 := hF.ev 10 69 (by kernel_rfl)
              refine wpOp_call rfl (wanted_yes rfl (hF.yes 8 67 (by kernel_rfl) true q8)) (by go_simp; exact ⟨rfl, rfl⟩) ?_
              obtain ⟨A1, n1, c1, ez, hrz⟩ := q10
              rw [ez]
              refine (plainRq A1 n1 c1 t.l fW hrz (by have := hrz.len; rw [rqs_length] at this; omega)).mono ?_
              rintro e w9 ⟨A9, n9, c9, rfl, hb9, hr9⟩
              exact ⟨_, rfl, fK (.slice A9 n9 c9) (w9) (hb9) (by rw [hT]; exact ⟨A9, n9, c9, rfl, hr9⟩)⟩
            refine stepsAll_cons (k := 12) ?_ ?_
            · intro fa fx fW hF fB hE K fK
              have q8 : fx 8 = .bool true := by have q := hE ⟨8, .guard⟩ (by simp) rfl; rw [hT] at q; exact q
              have ev10 : fa.tmps[10]?.getD undef = .pointer (some ⟨g2, 0, none⟩) := hF.eo 10 (by kernel_rfl)
              refine wpOp_val rfl (wanted_yes rfl (hF.yes 8 67 (by kernel_rfl) true q8)) ?_ (fK (.pointer (some ⟨g2, 0, none⟩)) fW (Below.refl _ _) (by rw [hT]; exact rfl))
              clear fK hE hF
              go_simp
            refine stepsAll_cons (k := 13) ?_ ?_
            · intro fa fx fW hF fB hE K fK
              have q8 : fx 8 = .bool true := by have q := hE ⟨8, .guard⟩ (by simp) rfl; rw [hT] at q; exact q
              have q12 : fx 12 = .pointer (some ⟨g2, 0, none⟩) := by have q := hE ⟨12, .data⟩ (by simp) rfl; rw [hT] at q; exact q
              have ev71 : fa.tmps[71]?.getD undef = .pointer (some ⟨g2, 0, none⟩) := (hF.ev 12 71 (by kernel_rfl)).trans q12
              refine wpOp_val rfl (wanted_yes rfl (hF.yes 8 67 (by kernel_rfl) true q8)) ?_ (fK (.pointer (some ⟨g2, 0, none⟩)) fW (Below.refl _ _) (by rw [hT]; exact rfl))
              clear fK hE hF
              go_simp
            refine stepsAll_cons (k := 14) ?_ ?_
            · intro fa fx fW hF fB hE K fK
              have q8 : fx 8 = .bool true := by have q := hE ⟨8, .guard⟩ (by simp) rfl; rw [hT] at q; exact q
              have q13 : fx 13 = .pointer (some ⟨g2, 0, none⟩) := by have q := hE ⟨13, .data⟩ (by simp) rfl; rw [hT] at q; exact q
              have ev72 : fa.tmps[72]?.getD undef = .pointer (some ⟨g2, 0, none⟩) := (hF.ev 13 72 (by kernel_rfl)).trans q13
              refine wpOp_val rfl (wanted_yes rfl (hF.yes 8 67 (by kernel_rfl) true q8)) ?_ (fK (.pointer (some ⟨g2, 1, none⟩)) fW (Below.refl _ _) (by rw [hT]; exact rfl))
              clear fK hE hF
              go_simp
            refine stepsAll_cons (k := 15) ?_ ?_
            · intro fa fx fW hF fB hE K fK
              have q8 : fx 8 = .bool true := by have q := hE ⟨8, .guard⟩ (by simp) rfl; rw [hT] at q; exact q
              have q14 : fx 14 = .pointer (some ⟨g2, 1, none⟩) := by have q := hE ⟨14, .data⟩ (by simp) rfl; rw [hT] at q; exact q
              have ev73 : fa.tmps[73]?.getD undef = .pointer (some ⟨g2, 1, none⟩) := (hF.ev 14 73 (by kernel_rfl)).trans q14
              have z := (f2.row.below fB).cell
              rw [hy2] at z
              refine wpOp_val rfl (wanted_yes rfl (hF.yes 8 67 (by kernel_rfl) true q8)) ?_ (fK (.slice P2 p2 q2) fW (Below.refl _ _) (by rw [hT]; exact rfl))
              clear fK hE hF
              go_simp
            refine stepsAll_cons (k := 16) ?_ ?_
            · intro fa fx fW hF fB hE K fK
              have q8 : fx 8 = .bool true := by have q := hE ⟨8, .guard⟩ (by simp) rfl; rw [hT] at q; exact q
              have q11 : (Fact.row 5 (rqs t.l)).p (fx 11) fW := by have q := hE ⟨11, .data⟩ (by simp) rfl; rw [hT] at q; exact q
              have q15 : fx 15 = .slice P2 p2 q2 := by have q := hE ⟨15, .data⟩ (by simp) rfl; rw [hT] at q; exact q
              have ev70 : fa.tmps[70]?.getD undef = fx 11 := hF.ev 11 70 (by kernel_rfl)
              have ev74 : fa.tmps[74]?.getD undef = .slice P2 p2 q2 := (hF.ev 15 74 (by kernel_rfl)).trans q15
              refine wpOp_call rfl (wanted_yes rfl (hF.yes 8 67 (by kernel_rfl) true q8)) (by go_simp; exact ⟨rfl, rfl⟩) ?_
              obtain ⟨A1, n1, c1, ez, hrz⟩ := q11
              rw [ez]
              refine (rsame A1 n1 c1 t.l P2 p2 _ fW hrz (hry2.below fB)).mono ?_
              rintro e w9 ⟨rfl, hb9⟩
              exact ⟨_, rfl, fK (.bool true) (w9) (hb9) (by rw [hT]; exact rfl)⟩
            refine stepsAll_cons (k := 17) ?_ ?_
            · intro fa fx fW hF fB hE K fK
              have q8 : fx 8 = .bool true := by have q := hE ⟨8, .data⟩ (by simp) rfl; rw [hT] at q; exact q
              have q16 : fx 16 = .bool true := by have q := hE ⟨16, .data⟩ (by simp) rfl; rw [hT] at q; exact q
              have ev67 : fa.tmps[67]?.getD undef = .bool true := (hF.ev 8 67 (by kernel_rfl)).trans q8
              have ev75 : fa.tmps[75]?.getD undef = .bool true := (hF.ev 16 75 (by kernel_rfl)).trans q16
              refine wpOp_val rfl (wanted_none rfl) ?_ (fK (.bool true) fW (Below.refl _ _) (by rw [hT]; exact rfl))
              clear fK hE hF
              go_simp
            refine stepsAll_cons (k := 18) ?_ ?_
            · intro fa fx fW hF fB hE K fK
              have q17 : fx 17 = .bool true := by have q := hE ⟨17, .data⟩ (by simp) rfl; rw [hT] at q; exact q
              have ev76 : fa.tmps[76]?.getD undef = .bool true := (hF.ev 17 76 (by kernel_rfl)).trans q17
              refine wpOp_val rfl (wanted_none rfl) ?_ (fK (.bool true) fW (Below.refl _ _) (by rw [hT]; exact rfl))
              clear fK hE hF
              go_simp
            refine stepsAll_cons (k := 19) ?_ ?_
            · intro fa fx fW hF fB hE K fK
              have q18 : fx 18 = .bool true := by have q := hE ⟨18, .chain⟩ (by simp) rfl; rw [hT] at q; exact q
              refine wpOp_call rfl (wanted_yes rfl (hF.yes 18 77 (by kernel_rfl) true q18)) (by go_simp; exact ⟨rfl, rfl⟩) ?_
              refine (lives11 _).mono ?_
              rintro e w9 ⟨rfl, hb9⟩
              exact ⟨_, rfl, fK (.bool true) (w9) (hb9) (by rw [hT]; exact rfl)⟩
            refine stepsAll_cons (k := 20) ?_ ?_
            · intro fa fx fW hF fB hE K fK
              have q18 : fx 18 = .bool true := by have q := hE ⟨18, .data⟩ (by simp) rfl; rw [hT] at q; exact q
              have q19 : fx 19 = .bool true := by have q := hE ⟨19, .data⟩ (by simp) rfl; rw [hT] at q; exact q
              have ev77 : fa.tmps[77]?.getD undef = .bool true := (hF.ev 18 77 (by kernel_rfl)).trans q18
              have ev78 : fa.tmps[78]?.getD undef = .bool true := (hF.ev 19 78 (by kernel_rfl)).trans q19
              refine wpOp_val rfl (wanted_none rfl) ?_ (fK (.bool true) fW (Below.refl _ _) (by rw [hT]; exact rfl))
              clear fK hE hF
              go_simp
            refine stepsAll_cons (k := 21) ?_ ?_
            · intro fa fx fW hF fB hE K fK
              have q20 : fx 20 = .bool true := by have q := hE ⟨20, .data⟩ (by simp) rfl; rw [hT] at q; exact q
              have ev79 : fa.tmps[79]?.getD undef = .bool true := (hF.ev 20 79 (by kernel_rfl)).trans q20
              refine wpOp_val rfl (wanted_none rfl) ?_ (fK (.bool true) fW (Below.refl _ _) (by rw [hT]; exact rfl))
              clear fK hE hF
              go_simp
            exact stepsAll_nil
          intro fa fx fW hF fB hx
          have q21 : fx 21 = .bool true := by have q := hx 21 (by decide); rw [hT] at q; exact q
          have ev4 : fa.tmps[4]?.getD undef = .bool true := (hF.ev 21 4 (by kernel_rfl)).trans q21
          go_wp2
          exact hF.ret rfl rfl ev4 ⟨rfl, by rw [← hbase]; exact below_then hbw (Nat.le_trans hbs hszt) fB⟩
end Go.Proofs.Ytdfncmhbbhmgfaa
