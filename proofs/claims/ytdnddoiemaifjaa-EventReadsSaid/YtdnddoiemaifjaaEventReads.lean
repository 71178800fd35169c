/- The law EventReads. -/
import Derived.Test.YtdnddoiemaifjaaRefEvRead
import Derived.Test.YtdnddoiemaifjaaParse
import Derived.Test.YtdnddoiemaifjaaRefParse
import Derived.Test.YtdnddoiemaifjaaSameG
import Derived.Test.YtdnddoiemaifjaaEvEq
import Derived.Test.YtdnddoiemaifjaaBytes14
namespace Go.Proofs.Ytdnddoiemaifjaa
open Go.RowKit
theorem eparse (A : Option Addr) (n c : Nat) (bs : List Int) (w : World) (hr : Rds w 1 A n c (nums .u8 bs)) (hn : n ≤ 100000) (hu : U8s bs) :
    Calls Try.prog 14 #[.slice A n c] w fun e w' => e = .returned (.tuple #[evV (parseM bs).1, .int .i64 (parseM bs).2.1, .int .i64 (parseM bs).2.2]) ∧ Below w.heap.size w w' := by
  obtain ⟨⟨⟨e0, e1, e2, e3, e4, e5, e6, e7, e8, e9, e10, e11, e12, e13, e14⟩, rest, er⟩, hm⟩ : ∃ q, nextM bs = q := ⟨_, rfl⟩
  have hor := nextOK_or bs
  obtain ⟨⟨ok, er'⟩, hq⟩ : ∃ q, nextOK bs = q := ⟨_, rfl⟩
  rw [hm, hq] at hor
  simp only at hor
  have hp : parseM bs = if er = 9 then (ev00, 0, 9) else if er ≠ 0 ∨ goodB (⟨e0, e1, e2, e3, e4, e5, e6, e7, e8, e9, e10, e11, e12, e13, e14⟩ : Ev) = false then (ev00, 0, 10) else ((⟨e0, e1, e2, e3, e4, e5, e6, e7, e8, e9, e10, e11, e12, e13, e14⟩ : Ev), (bs.length : Int) - (rest.length : Int), 0) := by unfold parseM; rw [hm]
  rcases hor with ⟨rfl, rfl⟩ | ⟨rfl, rfl, rfl⟩
  · by_cases h9 : er' = 9
    · rw [hp, if_pos h9]
      exact parse_short A n c bs w hr hn hu _ _ _ _ _ _ _ _ _ _ _ _ _ _ _ rest er' hm h9 hq
    · rw [hp, if_neg h9]
      by_cases h0 : er' = 0
      · subst h0
        cases hg : goodB (⟨e0, e1, e2, e3, e4, e5, e6, e7, e8, e9, e10, e11, e12, e13, e14⟩ : Ev) with
        | true =>
          rw [if_neg (by simp)]
          exact parse_good A n c bs w hr hn hu _ _ _ _ _ _ _ _ _ _ _ _ _ _ _ rest 0 hm hg hq
        | false =>
          rw [if_pos (.inr rfl)]
          exact parse_bad3 A n c bs w hr hn hu _ _ _ _ _ _ _ _ _ _ _ _ _ _ _ rest 0 hm hg hq
      · rw [if_pos (.inl h0)]
        exact parse_bad1 A n c bs w hr hn hu _ _ _ _ _ _ _ _ _ _ _ _ _ _ _ rest er' hm h9 h0 hq
  · rw [hp, if_neg (by decide), if_pos (.inl (by decide))]
    exact parse_bad2 A n c bs w hr hn hu _ _ _ _ _ _ _ _ _ _ _ _ _ _ _ rest 10 hm hq
theorem rparse (A : Option Addr) (n c : Nat) (bs : List Int) (w : World) (hr : Rds w 1 A n c (nums .u8 bs)) (hn : n ≤ 100000) (hu : U8s bs) :
    Calls Try.prog 15 #[.slice A n c] w fun e w' => e = .returned (.tuple #[evV (parseM bs).1, .int .i64 (parseM bs).2.1, .int .i64 (parseM bs).2.2]) ∧ Below w.heap.size w w' := by
  have hbl := rds_len hr
  obtain ⟨⟨⟨e0, e1, e2, e3, e4, e5, e6, e7, e8, e9, e10, e11, e12, e13, e14⟩, rest, er⟩, hm⟩ : ∃ q, nextM bs = q := ⟨_, rfl⟩
  have hp : parseM bs = if er = 9 then (ev00, 0, 9) else if er ≠ 0 ∨ goodB (⟨e0, e1, e2, e3, e4, e5, e6, e7, e8, e9, e10, e11, e12, e13, e14⟩ : Ev) = false then (ev00, 0, 10) else ((⟨e0, e1, e2, e3, e4, e5, e6, e7, e8, e9, e10, e11, e12, e13, e14⟩ : Ev), (bs.length : Int) - (rest.length : Int), 0) := by unfold parseM; rw [hm]
  by_cases h9 : er = 9
  · rw [hp, if_pos h9]
    exact rparse_short A n c bs w hr hn hu _ _ _ _ _ _ _ _ _ _ _ _ _ _ _ rest er hm h9
  · rw [hp, if_neg h9]
    by_cases h0 : er = 0
    · cases hg : goodB (⟨e0, e1, e2, e3, e4, e5, e6, e7, e8, e9, e10, e11, e12, e13, e14⟩ : Ev) with
      | true =>
        rw [if_neg (by simp [h0])]
        exact rparse_good A n c bs w hr hn hu _ _ _ _ _ _ _ _ _ _ _ _ _ _ _ rest er hm h0 hg
      | false =>
        rw [if_pos (.inr rfl)]
        exact rparse_bad3 A n c bs w hr hn hu _ _ _ _ _ _ _ _ _ _ _ _ _ _ _ rest er hm h0 hg
    · rw [if_pos (.inl h0)]
      exact rparse_bad1 A n c bs w hr hn hu _ _ _ _ _ _ _ _ _ _ _ _ _ _ _ rest er hm h9 h0
set_option maxHeartbeats 4000000 in
theorem evSelf (a0 a1 a2 a3 a4 a5 a6 a7 a8 a9 a10 a11 a12 a13 a14 : Int) (w : World) : (binOp .eql 30 (.agg #[.int .i64 a0, .int .i64 a1, .int .i64 a2, .int .i64 a3, .int .i64 a4, .int .i64 a5, .int .i64 a6, .int .i64 a7, .int .i64 a8, .int .i64 a9, .int .i64 a10, .int .i64 a11, .int .i64 a12, .int .i64 a13, .int .i64 a14]) (.agg #[.int .i64 a0, .int .i64 a1, .int .i64 a2, .int .i64 a3, .int .i64 a4, .int .i64 a5, .int .i64 a6, .int .i64 a7, .int .i64 a8, .int .i64 a9, .int .i64 a10, .int .i64 a11, .int .i64 a12, .int .i64 a13, .int .i64 a14])).run Try.prog w = .ok (.bool true) w := by
  have z := fun w => eqRegs 9998 9996 rfl a6 a7 a8 a9 a10 a11 a12 a13 w
  go_simp
-- LAW
set_option maxHeartbeats 4000000 in
theorem reads_lives (A : Option Addr) (n c : Nat) (w : World) (h : 1000 < n) : Calls Try.prog 5 #[.slice A n c] w fun e w' => e = .returned (.bool true) ∧ Below w.heap.size w w' := by
  have HL := Lib.hid (fun W => lives14 W)
  go_enter Try.func5, Try.ntmps5
  go_wp2_with ((with_reducible refine (HL.out _).mono ?_); rintro e w' ⟨rfl, hb⟩)
  go_ret
  exact ⟨rfl, hb⟩
set_option maxRecDepth 100000 in
set_option maxHeartbeats 8000000 in
theorem reads_some (A : Option Addr) (n c : Nat) (bs : List Int) (w : World) (hr : Rds w 1 A n c (nums .u8 bs)) (hu : U8s bs) (hn : ¬ 1000 < n) (l : List Ev) (hm : readM bs = some l) : Calls Try.prog 5 #[.slice A n c] w fun e w' => e = .returned (.bool true) ∧ Below w.heap.size w w' := by
  obtain ⟨⟨⟨e0, e1, e2, e3, e4, e5, e6, e7, e8, e9, e10, e11, e12, e13, e14⟩, pn, pe⟩, hp⟩ : ∃ q, parseM bs = q := ⟨_, rfl⟩
  have hP1 := eparse A n c bs w hr (by omega) hu
  have hP2 := fun W hW => rparse A n c bs W hW (by omega) hu
  have hR1 := fun W hW => eread A n c bs W hW (by omega) hu
  have hR2 := fun W hW => rread A n c bs W hW (by omega) hu
  rw [hp] at hP1 hP2
  rw [hm] at hR1 hR2
  unfold evV at hP1 hP2
  simp only at hP1 hP2
  have HP1 := Lib.hid hP1
  have HP2 := Lib.hid hP2
  have HR1 := Lib.hid hR1
  have HR2 := Lib.hid hR2
  have HL := Lib.hid (fun W => lives14 W)
  have qs := fun W => evSelf e0 e1 e2 e3 e4 e5 e6 e7 e8 e9 e10 e11 e12 e13 e14 W
  clear hP1 hP2 hR1 hR2 hp hm hu
  go_enter Try.func5, Try.ntmps5
  go_wp2_with (first
    | ((with_reducible refine HP1.out.mono ?_); rintro x w1 ⟨rfl, hb1⟩; have hb1a := below_tr hb1 (below_al (Below.refl _ _) (.cells #[.int .i64 e0, .int .i64 e1, .int .i64 e2, .int .i64 e3, .int .i64 e4, .int .i64 e5, .int .i64 e6, .int .i64 e7, .int .i64 e8, .int .i64 e9, .int .i64 e10, .int .i64 e11, .int .i64 e12, .int .i64 e13, .int .i64 e14] 30)); have X1 := EvBox.new w1 (⟨e0, e1, e2, e3, e4, e5, e6, e7, e8, e9, e10, e11, e12, e13, e14⟩ : Ev) 30; have HQ2 := Lib.hid (HP2.out _ (hr.below hb1a)))
    | ((with_reducible refine HQ2.out.mono ?_); rintro x w2 ⟨rfl, hb2⟩; have hal2 := below_al (Below.refl w2.heap.size w2) (.cells #[.int .i64 e0, .int .i64 e1, .int .i64 e2, .int .i64 e3, .int .i64 e4, .int .i64 e5, .int .i64 e6, .int .i64 e7, .int .i64 e8, .int .i64 e9, .int .i64 e10, .int .i64 e11, .int .i64 e12, .int .i64 e13, .int .i64 e14] 30); have hb2a := below_tr hb2 hal2; have hB2 := below_tr hb1a hb2a; have X2 := X1.below hb2a; have Y2 := EvBox.new w2 (⟨e0, e1, e2, e3, e4, e5, e6, e7, e8, e9, e10, e11, e12, e13, e14⟩ : Ev) 30; have HQ3 := Lib.hid (HR1.out _ (hr.below hB2)))
    | ((with_reducible refine HQ3.out.mono ?_); rintro x w3 ⟨hb3, A3, m3, c3, rfl, hr3⟩; have hB3 := below_tr hB2 hb3; have HQ4 := Lib.hid (HR2.out _ (hr.below hB3)))
    | ((with_reducible refine HQ4.out.mono ?_); rintro x w4 ⟨hb4, A4, m4, c4, rfl, hr4⟩; have hB4 := below_tr hB3 hb4; have X4 := (X2.below hb3).below hb4; have Y4 := (Y2.below hb3).below hb4; have k0 := X4.c0.cell; have k1 := X4.c1.cell; have k2 := X4.c2.cell; have k3 := X4.c3.cell; have k4 := X4.c4.cell; have k5 := X4.c5.cell; have k6 := X4.c6.cell; have k7 := X4.c7.cell; have k8 := X4.c8.cell; have k9 := X4.c9.cell; have k10 := X4.c10.cell; have k11 := X4.c11.cell; have k12 := X4.c12.cell; have k13 := X4.c13.cell; have k14 := X4.c14.cell; have y0 := Y4.c0.cell; have y1 := Y4.c1.cell; have y2 := Y4.c2.cell; have y3 := Y4.c3.cell; have y4 := Y4.c4.cell; have y5 := Y4.c5.cell; have y6 := Y4.c6.cell; have y7 := Y4.c7.cell; have y8 := Y4.c8.cell; have y9 := Y4.c9.cell; have y10 := Y4.c10.cell; have y11 := Y4.c11.cell; have y12 := Y4.c12.cell; have y13 := Y4.c13.cell; have y14 := Y4.c14.cell; simp only at k0 y0 k1 y1 k2 y2 k3 y3 k4 y4 k5 y5 k6 y6 k7 y7 k8 y8 k9 y9 k10 y10 k11 y11 k12 y12 k13 y13 k14 y14; have hss := ssameG _ _ _ l _ _ _ l w4 (hr3.below hb4) hr4; rw [decide_eq_true rfl] at hss; have HS := Lib.hid hss; clear hss; clear X1 X2 X4 Y2 Y4)
    | ((with_reducible refine HS.out.mono ?_); rintro x w5 ⟨rfl, hb5⟩)
    | ((with_reducible refine (HL.out _).mono ?_); rintro x w6 ⟨rfl, hb6⟩))
  go_ret
  exact ⟨rfl, below_tr (below_tr hB4 hb5) hb6⟩
set_option maxRecDepth 100000 in
set_option maxHeartbeats 8000000 in
theorem reads_none (A : Option Addr) (n c : Nat) (bs : List Int) (w : World) (hr : Rds w 1 A n c (nums .u8 bs)) (hu : U8s bs) (hn : ¬ 1000 < n) (hm : readM bs = none) : Calls Try.prog 5 #[.slice A n c] w fun e w' => e = .returned (.bool true) ∧ Below w.heap.size w w' := by
  obtain ⟨⟨⟨e0, e1, e2, e3, e4, e5, e6, e7, e8, e9, e10, e11, e12, e13, e14⟩, pn, pe⟩, hp⟩ : ∃ q, parseM bs = q := ⟨_, rfl⟩
  have hP1 := eparse A n c bs w hr (by omega) hu
  have hP2 := fun W hW => rparse A n c bs W hW (by omega) hu
  have hR1 := fun W hW => eread A n c bs W hW (by omega) hu
  have hR2 := fun W hW => rread A n c bs W hW (by omega) hu
  rw [hp] at hP1 hP2
  rw [hm] at hR1 hR2
  unfold evV at hP1 hP2
  simp only at hP1 hP2
  have HP1 := Lib.hid hP1
  have HP2 := Lib.hid hP2
  have HR1 := Lib.hid hR1
  have HR2 := Lib.hid hR2
  have HL := Lib.hid (fun W => lives14 W)
  have qs := fun W => evSelf e0 e1 e2 e3 e4 e5 e6 e7 e8 e9 e10 e11 e12 e13 e14 W
  clear hP1 hP2 hR1 hR2 hp hm hu
  go_enter Try.func5, Try.ntmps5
  go_wp2_with (first
    | ((with_reducible refine HP1.out.mono ?_); rintro x w1 ⟨rfl, hb1⟩; have hb1a := below_tr hb1 (below_al (Below.refl _ _) (.cells #[.int .i64 e0, .int .i64 e1, .int .i64 e2, .int .i64 e3, .int .i64 e4, .int .i64 e5, .int .i64 e6, .int .i64 e7, .int .i64 e8, .int .i64 e9, .int .i64 e10, .int .i64 e11, .int .i64 e12, .int .i64 e13, .int .i64 e14] 30)); have X1 := EvBox.new w1 (⟨e0, e1, e2, e3, e4, e5, e6, e7, e8, e9, e10, e11, e12, e13, e14⟩ : Ev) 30; have HQ2 := Lib.hid (HP2.out _ (hr.below hb1a)))
    | ((with_reducible refine HQ2.out.mono ?_); rintro x w2 ⟨rfl, hb2⟩; have hal2 := below_al (Below.refl w2.heap.size w2) (.cells #[.int .i64 e0, .int .i64 e1, .int .i64 e2, .int .i64 e3, .int .i64 e4, .int .i64 e5, .int .i64 e6, .int .i64 e7, .int .i64 e8, .int .i64 e9, .int .i64 e10, .int .i64 e11, .int .i64 e12, .int .i64 e13, .int .i64 e14] 30); have hb2a := below_tr hb2 hal2; have hB2 := below_tr hb1a hb2a; have X2 := X1.below hb2a; have Y2 := EvBox.new w2 (⟨e0, e1, e2, e3, e4, e5, e6, e7, e8, e9, e10, e11, e12, e13, e14⟩ : Ev) 30; have HQ3 := Lib.hid (HR1.out _ (hr.below hB2)))
    | ((with_reducible refine HQ3.out.mono ?_); rintro x w3 ⟨hb3, rfl⟩; have hB3 := below_tr hB2 hb3; have HQ4 := Lib.hid (HR2.out _ (hr.below hB3)))
    | ((with_reducible refine HQ4.out.mono ?_); rintro x w4 ⟨hb4, rfl⟩; have hB4 := below_tr hB3 hb4; have X4 := (X2.below hb3).below hb4; have Y4 := (Y2.below hb3).below hb4; have k0 := X4.c0.cell; have k1 := X4.c1.cell; have k2 := X4.c2.cell; have k3 := X4.c3.cell; have k4 := X4.c4.cell; have k5 := X4.c5.cell; have k6 := X4.c6.cell; have k7 := X4.c7.cell; have k8 := X4.c8.cell; have k9 := X4.c9.cell; have k10 := X4.c10.cell; have k11 := X4.c11.cell; have k12 := X4.c12.cell; have k13 := X4.c13.cell; have k14 := X4.c14.cell; have y0 := Y4.c0.cell; have y1 := Y4.c1.cell; have y2 := Y4.c2.cell; have y3 := Y4.c3.cell; have y4 := Y4.c4.cell; have y5 := Y4.c5.cell; have y6 := Y4.c6.cell; have y7 := Y4.c7.cell; have y8 := Y4.c8.cell; have y9 := Y4.c9.cell; have y10 := Y4.c10.cell; have y11 := Y4.c11.cell; have y12 := Y4.c12.cell; have y13 := Y4.c13.cell; have y14 := Y4.c14.cell; simp only at k0 y0 k1 y1 k2 y2 k3 y3 k4 y4 k5 y5 k6 y6 k7 y7 k8 y8 k9 y9 k10 y10 k11 y11 k12 y12 k13 y13 k14 y14; have hss := ssameG none 0 0 [] none 0 0 [] w4 (by simpa [evs] using Rds.none_ w4 15) (by simpa [evs] using Rds.none_ w4 15); rw [decide_eq_true rfl] at hss; have HS := Lib.hid hss; clear hss; clear X1 X2 X4 Y2 Y4)
    | ((with_reducible refine HS.out.mono ?_); rintro x w5 ⟨rfl, hb5⟩)
    | ((with_reducible refine (HL.out _).mono ?_); rintro x w6 ⟨rfl, hb6⟩))
  go_ret
  exact ⟨rfl, below_tr (below_tr hB4 hb5) hb6⟩
end Go.Proofs.Ytdnddoiemaifjaa
