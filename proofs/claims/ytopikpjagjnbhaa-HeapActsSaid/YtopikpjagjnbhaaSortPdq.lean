/- The sort: the whole. -/
import Derived.Test.YtopikpjagjnbhaaSortIns
import Derived.Test.YtopikpjagjnbhaaSortBreak
import Derived.Deep.Cut
namespace Go.Proofs.Ytopikpjagjnbhaa
open Go.RowKit
variable {w0 W : World} {hb gk kb n ck g c m : Nat} {ks : List Int} {d : Array Nat}
theorem ltF_true (ks : List Int) (x y : Nat) : ltF ks x y = true ↔ ltK ks x y := by
  unfold ltF
  rw [decide_eq_true_eq, ord_lt]
theorem ltF_false (ks : List Int) (x y : Nat) : ltF ks x y = false ↔ leK ks y x := by
  unfold ltF
  rw [decide_eq_false_iff_not, ord_lt]
  exact ⟨not_ltK, fun h k => by unfold ltK at k; unfold leK at h; omega⟩
theorem swoF (ks : List Int) : Sort.SWO (ltF ks) where
  irrefl x := (ltF_false ks x x).2 (leK_refl ks x)
  trans x y z h k := by
    rw [ltF_true] at *
    unfold ltK at *
    omega
  ntrans x y z h k := by
    rw [ltF_false] at *
    exact leK_trans k h
theorem antiF (ks : List Int) (x y : Nat) (h : ltF ks x y = false) (k : ltF ks y x = false) : x = y := by
  rw [ltF_false] at *
  unfold leK at *
  omega
theorem pd_trans {a b : Nat} {d d' d'' : Array Nat} (h : Sort.PermIn a b d d') (k : Sort.PermIn a b d' d'') : Sort.PermIn a b d d'' := Sort.permIn_trans _ _ _ a b h k
set_option maxRecDepth 100000 in
set_option maxHeartbeats 16000000 in
/-- The sort of a part. -/
theorem spdq (hm : m ≤ 4096) : ∀ (N : Nat) (W : World) (d : Array Nat) (a b lim : Nat), b - a < N → Sa w0 W hb gk kb n ck ks g c m d → a ≤ b → b ≤ m → lim ≤ 64 → Sort.Below (ltF ks) a b d →
    Calls Try.prog 57 #[.slice (some ⟨g, 0, none⟩) m c, .int .i64 a, .int .i64 b, .int .i64 lim, ordF hb] W fun e W' => ∃ D : Array Nat, e = .returned (.tuple #[]) ∧ Hid (Sort.PermIn a b d D ∧ Sort.SortedIn (ltF ks) a b D) ∧ Hid (Sa w0 W' hb gk kb n ck ks g c m D) := by
  intro N
  induction N with
  | zero => intro _ _ _ _ _ h; exact absurd h (Nat.not_lt_zero _)
  | succ N ih =>
    intro W d a b lim hN S hab hbm hlim hBel
    have HIH := Lib.hid ih
    have HS := Lib.hid S
    have HB := Lib.hid hBel
    have HSZ := Lib.hid S.size
    clear ih S hBel
    go_enter Try.func57, Try.ntmps57
    go_wp2
    go_loopw [1, 2, 3, 10, 11] (fun s1 s2 s3 s10 s11 wr => ∃ (x y l : Nat) (wb wp : Bool) (dk : Array Nat), s1 = .int .i64 x ∧ s2 = .int .i64 y ∧ s3 = .int .i64 l ∧ s10 = .bool wb ∧ s11 = .bool wp ∧
      a ≤ x ∧ x ≤ y ∧ y ≤ b ∧ l ≤ 64 ∧ Hid (Sort.Below (ltF ks) x y dk) ∧ Hid (Sa w0 wr hb gk kb n ck ks g c m dk) ∧ Hid (∀ D, Sort.PermIn x y dk D → Sort.SortedIn (ltF ks) x y D → Sort.PermIn a b d D ∧ Sort.SortedIn (ltF ks) a b D)) (fun s1 s2 _ _ _ _ => (intOf s2).toNat - (intOf s1).toNat)
    case atStart => exact ⟨a, b, lim, true, true, d, rfl, rfl, rfl, rfl, rfl, Nat.le_refl _, hab, Nat.le_refl _, hlim, HB, HS, Lib.hid (fun D h1 h2 => ⟨h1, h2⟩)⟩
    case round =>
      obtain ⟨x, y, l, wb, wp, dk, rfl, rfl, rfl, rfl, rfl, hax, hxy, hyb, hl, HBk, HSk, HRk⟩ := hrel
      clear HS HB
      have zl : IntKind.i64.wrap ((y : Int) - (x : Int)) = (y : Int) - (x : Int) := by rw [IntKind.wrap_i64] <;> omega
      have HZk := Lib.hid HSk.out.size
      by_cases h12 : y - x ≤ 12
      · have h12z : (y : Int) - (x : Int) ≤ 12 := by omega
        go_wp2_with (go_at_call 64; fail)
        refine (sinsert HSk.out x y hxy (by omega) hm).mono ?_
        rintro e w1 ⟨rfl, S1⟩
        have HS1 := Lib.hid S1
        clear S1
        go_wp2
        refine bodyPost_ret (results_none rfl _ _ _) rfl ?_
        have h1 := Sort.insertionSort_holds (swoF ks) dk x y hxy (by rw [HZk.out]; omega)
        exact ⟨_, rfl, Lib.hid (HRk.out _ h1.1 h1.2), HS1⟩
      · have h12z : ¬ ((y : Int) - (x : Int) ≤ 12) := by omega
        by_cases hl0 : l = 0
        · subst hl0
          go_wp2_with (go_at_call 65; fail)
          refine (sheap HSk.out x y (by omega) (by omega) hm).mono ?_
          rintro e w1 ⟨rfl, S1⟩
          have HS1 := Lib.hid S1
          clear S1
          go_wp2
          refine bodyPost_ret (results_none rfl _ _ _) rfl ?_
          have h1 := Sort.heapSort_holds (swoF ks) dk x y hxy (by rw [HZk.out]; omega)
          exact ⟨_, rfl, Lib.hid (HRk.out _ h1.1 h1.2), HS1⟩
        · have hl0z : ¬ ((l : Int) = 0) := by omega
          have wl : IntKind.i64.wrap ((l : Int) - 1) = (l : Int) - 1 := by rw [IntKind.wrap_i64] <;> omega
          go_upto_if 39 with fail
          go_cut [3] from 21 (fun s3 wc => ∃ (l1 : Nat) (d1 : Array Nat), s3 = .int .i64 l1 ∧ l1 ≤ 64 ∧ Hid (Sort.PermIn x y dk d1) ∧ Hid (Sa w0 wc hb gk kb n ck ks g c m d1))
          case first =>
            cases wb
            · go_wp2_with (go_at_call 66; fail)
              refine (sbreak HSk.out x y (by omega) (by omega) hm).mono ?_
              rintro e w1 ⟨D, rfl, H1, S1⟩
              go_wp2_with fail
              go_meet
              case rel => exact ⟨l - 1, D, by congr 1; omega, by omega, H1, S1⟩
            · go_wp2_with fail
              go_meet
              case rel => exact ⟨l, dk, rfl, hl, Lib.hid (Sort.permIn_refl _ _ _), HSk⟩
          case rest =>
            obtain ⟨l1, d1, rfl, hl1, HP1, HS1⟩ := hcut
            clear HSk
            go_upto_if 56 with (go_at_call 67; (refine (spivot HS1.out x y (by omega) (by omega) hm).mono ?_); rintro e w2 ⟨p0, h0, rfl, hp1, hp2, hh, S2⟩; have HS2 := Lib.hid S2; clear S2)
            go_cut [13, 14] from 21 (fun s13 s14 wc => ∃ (p h : Nat) (d2 : Array Nat), s13 = .int .i64 p ∧ s14 = .int .i64 h ∧ x ≤ p ∧ p < y ∧ h ≤ 2 ∧ Hid (Sort.PermIn x y d1 d2) ∧ Hid (Sa w0 wc hb gk kb n ck ks g c m d2))
            case first =>
              by_cases h2 : h0 = 2
              · subst h2
                obtain ⟨p1, hp3⟩ : ∃ q, q = y - 1 - (p0 - x) := ⟨_, rfl⟩
                have e1 : (y : Int) - 1 - ((p0 : Int) - (x : Int)) = (p1 : Int) := by omega
                have e2 : IntKind.i64.wrap ((y : Int) - 1) = (y : Int) - 1 := by rw [IntKind.wrap_i64] <;> omega
                have e3 : IntKind.i64.wrap ((p0 : Int) - (x : Int)) = (p0 : Int) - (x : Int) := by rw [IntKind.wrap_i64] <;> omega
                have e4 : IntKind.i64.wrap (p1 : Int) = (p1 : Int) := by rw [IntKind.wrap_i64] <;> omega
                have hp4 : x ≤ p1 ∧ p1 < y := by omega
                clear hp3
                go_wp2_with (go_at_call 68; fail)
                refine (sreverse HS2.out x y (by omega) (by omega) hm).mono ?_
                rintro e w3 ⟨rfl, S3⟩
                have HS3 := Lib.hid S3
                clear S3
                go_wp2_with fail
                go_meet
                case rel => exact ⟨p1, 1, _, rfl, rfl, hp4.1, hp4.2, by omega, Lib.hid (Sort.reverseRange_holds d1 x y hxy (by rw [HS1.out.size]; omega)), HS3⟩
              · have h2' : ¬ (h0 : Int) = 2 := by omega
                go_wp2_with fail
                go_meet
                case rel => exact ⟨p0, h0, d1, rfl, rfl, hp1, hp2, hh, Lib.hid (Sort.permIn_refl _ _ _), HS2⟩
            case rest =>
              obtain ⟨p, h, d2, rfl, rfl, hp3, hp4, hh2, HP2, HS3⟩ := hcut
              obtain ⟨WC, rfl⟩ : ∃ q, q = wc := ⟨_, rfl⟩
              clear hp1 hp2 hh
              have HSZ2 := Lib.hid HS3.out.size
              have HPd2 := Lib.hid (pd_trans HP1.out HP2.out)
              have HB2 := Lib.hid (Sort.Below.perm HBk.out (by rw [HZk.out]; omega) HPd2.out)
              clear HP1 HP2 HS1 HS2
              go_upto_region 15 with fail
              go_cut [75] from 21 (fun s75 wx => (∃ v, s75 = .bool v) ∧ wx = WC)
              case first =>
                have h2 : h = 0 ∨ h = 1 ∨ h = 2 := by omega
                rcases h2 with rfl | rfl | rfl <;> cases wb <;> cases wp <;>
                  (go_wp2_with fail
                   go_meet
                   exact ⟨⟨_, rfl⟩, rfl⟩)
              case rest =>
                obtain ⟨⟨v, rfl⟩, rfl⟩ := hcut
                go_upto_if 75 with fail
                go_cut [] from 21 (fun wx => ∃ d3 : Array Nat, Hid (Sort.PermIn x y d2 d3) ∧ Hid (Sa w0 wx hb gk kb n ck ks g c m d3))
                case first =>
                  cases v
                  · go_wp2_with fail
                    go_meet
                    case rel => exact ⟨d2, Lib.hid (Sort.permIn_refl _ _ _), HS3⟩
                  · obtain ⟨d3, r, hpr⟩ : ∃ d3 r, Sort.partialInsertionSort (ltF ks) d2 x y = (d3, r) := ⟨_, _, rfl⟩
                    have hc := sfew HS3.out x y (by omega) (by omega) hm
                    have h3 := Sort.partialInsertionSort_holds (swoF ks) d2 x y (by omega) (by rw [HSZ2.out]; omega) HB2.out
                    rw [hpr] at hc h3
                    have HC := Lib.hid hc
                    have H3 := Lib.hid h3
                    clear hc h3 hpr
                    go_wp2_with (go_at_call 69; fail)
                    refine HC.out.mono ?_
                    rintro e w4 ⟨rfl, S4⟩
                    have HS4 := Lib.hid S4
                    clear S4
                    cases r
                    · go_wp2_with fail
                      go_meet
                      case rel => exact ⟨d3, Lib.hid H3.out.1, HS4⟩
                    · go_wp2
                      refine bodyPost_ret (results_none rfl _ _ _) rfl ?_
                      exact ⟨d3, rfl, Lib.hid (HRk.out _ (pd_trans HPd2.out H3.out.1) (by first | exact H3.out.2 rfl | exact H3.out.2 trivial)), HS4⟩
                case rest =>
                  obtain ⟨d3, HP3, HS4⟩ := hcut
                  obtain ⟨WD, rfl⟩ : ∃ q, q = wc := ⟨_, rfl⟩
                  have HPd3 := Lib.hid (pd_trans HPd2.out HP3.out)
                  have HB3 := Lib.hid (Sort.Below.perm HBk.out (by rw [HZk.out]; omega) HPd3.out)
                  have HSZ3 := Lib.hid HS4.out.size
                  clear HPd2 HP3 HB2 HS3
                  go_upto_region 17 with fail
                  go_cut [97] from 21 (fun s97 wx => ∃ v, s97 = .bool v ∧ Hid (v = true → 0 < x ∧ ltF ks d3[x - 1]! d3[p]! = false) ∧ Hid (Sa w0 wx hb gk kb n ck ks g c m d3))
                  case first =>
                    by_cases hx0 : x = 0
                    · have hx0' : decide ((x : Int) > 0) = false := decide_eq_false (by omega)
                      go_wp2_with fail
                      go_big_region
                      have SW2 := Lib.hid (HS4.out.below (below_dr (Below.refl WD.heap.size WD) 1))
                      change Hid (Sa _ WD.drew _ _ _ _ _ _ _ _ _ _) at SW2
                      generalize WD.drew = W2 at SW2 ⊢
                      go_wp2_with fail
                      go_meet
                      case rel => exact ⟨false, rfl, Lib.hid (fun h => absurd h (by decide)), SW2⟩
                    · have hx0' : decide ((x : Int) > 0) = true := decide_eq_true (by omega)
                      have hx0n : 0 < x := by omega
                      have hx0d : decide (0 < x) = true := decide_eq_true hx0n
                      obtain ⟨xq, hxq⟩ : ∃ q, q = x - 1 := ⟨_, rfl⟩
                      have zx : (x : Int) - 1 = (xq : Int) := by omega
                      have hx2 : xq < m ∧ p < m := by omega
                      have wxq : IntKind.i64.wrap (xq : Int) = (xq : Int) := by rw [IntKind.wrap_i64] <;> omega
                      cases hv : ltF ks d3[xq]! d3[p]! with
                      | true =>
                        clear hxq
                        obtain ⟨iN1, hiN1⟩ : ∃ qq, qq = xq := ⟨_, rfl⟩
                        obtain ⟨jN1, hjN1⟩ : ∃ qq, qq = p := ⟨_, rfl⟩
                        have ea1 : ((xq : Int)).toNat = iN1 := by omega
                        have pa1 : (0 : Int) ≤ (xq : Int) := by omega
                        have sa1 : (xq : Int) < (m : Int) := by omega
                        have ra1 : IntKind.i64.wrap ((xq : Int)) = (xq : Int) := by rw [IntKind.wrap_i64] <;> omega
                        have eb1 : ((p : Int)).toNat = jN1 := by omega
                        have pb1 : (0 : Int) ≤ (p : Int) := by omega
                        have sb1 : (p : Int) < (m : Int) := by omega
                        have rb1 : IntKind.i64.wrap ((p : Int)) = (p : Int) := by rw [IntKind.wrap_i64] <;> omega
                        obtain ⟨x1, hx1⟩ : ∃ qq, qq = d3[xq]! := ⟨_, rfl⟩
                        obtain ⟨y1, hy1⟩ : ∃ qq, qq = d3[p]! := ⟨_, rfl⟩
                        have q1 := HS4.out.cell (show xq < m by omega)
                        rw [← hx1, ← hiN1] at q1
                        have q2 := HS4.out.cell (show p < m by omega)
                        rw [← hy1, ← hjN1] at q2
                        have q3 := fun qz => HS4.out.cmp (HS4.out.at' (show xq < m by omega)).2.2 (HS4.out.at' (show p < m by omega)).2.2 qz
                        rw [← hx1, ← hy1] at q3
                        have hv1 : ordV ks x1 y1 < 0 := by rw [hx1, hy1]; exact of_decide_eq_true hv
                        generalize ordV ks x1 y1 = ov1 at hv1 q3
                        have hd1 : decide (ov1 < 0) = true := decide_eq_true hv1
                        clear hx1 hy1 hiN1 hjN1
                        go_wp2_with fail
                        refine wp_behind (by kernel_rfl) (by kernel_rfl) ?_
                        repeat (quiet_step (exact q3 _))
                        refine wpQuiet_nil ?_
                        rintro W2 ⟨⟨_, hbW2⟩, rfl⟩
                        clear q1 q2 q3 hv1 hd1 pa1 sa1 ra1 pb1 sb1 rb1 ea1 eb1
                        have SW2 := Lib.hid (HS4.out.below hbW2)
                        go_wp2_with fail
                        go_meet
                        case rel => exact ⟨false, rfl, Lib.hid (fun h => absurd h (by decide)), SW2⟩
                      | false =>
                        have HX := Lib.hid (show 0 < x ∧ ltF ks d3[x - 1]! d3[p]! = false from ⟨by omega, by rw [← hxq]; exact hv⟩)
                        clear hxq
                        obtain ⟨iN2, hiN2⟩ : ∃ qq, qq = xq := ⟨_, rfl⟩
                        obtain ⟨jN2, hjN2⟩ : ∃ qq, qq = p := ⟨_, rfl⟩
                        have ea2 : ((xq : Int)).toNat = iN2 := by omega
                        have pa2 : (0 : Int) ≤ (xq : Int) := by omega
                        have sa2 : (xq : Int) < (m : Int) := by omega
                        have ra2 : IntKind.i64.wrap ((xq : Int)) = (xq : Int) := by rw [IntKind.wrap_i64] <;> omega
                        have eb2 : ((p : Int)).toNat = jN2 := by omega
                        have pb2 : (0 : Int) ≤ (p : Int) := by omega
                        have sb2 : (p : Int) < (m : Int) := by omega
                        have rb2 : IntKind.i64.wrap ((p : Int)) = (p : Int) := by rw [IntKind.wrap_i64] <;> omega
                        obtain ⟨x2, hx2⟩ : ∃ qq, qq = d3[xq]! := ⟨_, rfl⟩
                        obtain ⟨y2, hy2⟩ : ∃ qq, qq = d3[p]! := ⟨_, rfl⟩
                        have q1 := HS4.out.cell (show xq < m by omega)
                        rw [← hx2, ← hiN2] at q1
                        have q2 := HS4.out.cell (show p < m by omega)
                        rw [← hy2, ← hjN2] at q2
                        have q3 := fun qz => HS4.out.cmp (HS4.out.at' (show xq < m by omega)).2.2 (HS4.out.at' (show p < m by omega)).2.2 qz
                        rw [← hx2, ← hy2] at q3
                        have hv1 : ¬ ordV ks x2 y2 < 0 := by rw [hx2, hy2]; exact of_decide_eq_false hv
                        generalize ordV ks x2 y2 = ov2 at hv1 q3
                        have hd1 : decide (ov2 < 0) = false := decide_eq_false hv1
                        clear hx2 hy2 hiN2 hjN2
                        go_wp2_with fail
                        refine wp_behind (by kernel_rfl) (by kernel_rfl) ?_
                        repeat (quiet_step (exact q3 _))
                        refine wpQuiet_nil ?_
                        rintro W2 ⟨⟨_, hbW2⟩, rfl⟩
                        clear q1 q2 q3 hv1 hd1 pa2 sa2 ra2 pb2 sb2 rb2 ea2 eb2
                        have SW2 := Lib.hid (HS4.out.below hbW2)
                        go_wp2_with fail
                        go_meet
                        case rel => exact ⟨true, rfl, Lib.hid (fun _ => HX.out), SW2⟩
                  case rest =>
                    obtain ⟨v, rfl, HV, HS5⟩ := hcut
                    obtain ⟨WE, rfl⟩ : ∃ q, q = wc := ⟨_, rfl⟩
                    clear HS4
                    cases v
                    · obtain ⟨mid, ap, d4, hx⟩ : ∃ mid ap d4, Sort.partition (ltF ks) d3 x y p = (mid, ap, d4) := ⟨_, _, _, rfl⟩
                      obtain ⟨r1, r2, r3, r4, r5, r6, r7⟩ := Sort.round_part (swoF ks) (Sort.partition_holds _) hp3 hp4 (by rw [HSZ3.out]; omega) HB3.out hx
                      have hc := spart HS5.out x y p hp3 hp4 (by omega) hm
                      rw [hx] at hc
                      have HC := Lib.hid hc
                      have H4 := Lib.hid r4
                      have H5 := Lib.hid r5
                      have H6 := Lib.hid r6
                      have H7 := Lib.hid r7
                      clear hc hx r3 r4 r5 r6 r7 HB3 HV HS5
                      have z1 : IntKind.i64.wrap ((mid : Int) - (x : Int)) = (mid : Int) - (x : Int) := by rw [IntKind.wrap_i64] <;> omega
                      have z2 : IntKind.i64.wrap ((y : Int) - (mid : Int)) = (y : Int) - (mid : Int) := by rw [IntKind.wrap_i64] <;> omega
                      obtain ⟨q8, hq8⟩ : ∃ q : Nat, Int.tdiv ((y : Int) - (x : Int)) 8 = (q : Int) ∧ q ≤ 4096 := ⟨(y - x) / 8, by rw [show (y : Int) - (x : Int) = ((y - x : Nat) : Int) by omega]; rfl, by omega⟩
                      have z3 := hq8.1
                      have z4 : IntKind.i64.wrap (q8 : Int) = (q8 : Int) := by rw [IntKind.wrap_i64] <;> omega
                      have z5 : IntKind.i64.wrap ((mid : Int) + 1) = (mid : Int) + 1 := by rw [IntKind.wrap_i64] <;> omega
                      clear hq8
                      go_upto_if 125 with (go_at_call 71; (refine HC.out.mono ?_); rintro e w7 ⟨rfl, S7⟩; have HS7 := Lib.hid S7; clear S7)
                      by_cases h4 : mid - x < y - mid
                      · have h4z : (mid : Int) - (x : Int) < (y : Int) - (mid : Int) := by omega
                        go_wp2_with (go_at_call 57; fail)
                        refine (HIH.out w7 d4 x mid l1 (by omega) HS7.out r1 (by omega) hl1 H4.out).mono ?_
                        rintro e w8 ⟨L, rfl, HL, S8⟩
                        go_wp2
                        go_roundw
                        case measure => simp only [intOf]; omega
                        case rel => exact ⟨mid + 1, y, l1, _, ap, L, by go_num, rfl, rfl, rfl, rfl, by omega, by omega, hyb, hl1, Lib.hid (H6.out L HL.out.1 HL.out.2).1, S8, Lib.hid (fun D h1 h2 => have h3 := (H6.out L HL.out.1 HL.out.2).2 D h1 h2; HRk.out D (pd_trans HPd3.out h3.1) h3.2)⟩
                      · have h4z : ¬ (mid : Int) - (x : Int) < (y : Int) - (mid : Int) := by omega
                        have hih := HIH.out w7 d4 (mid + 1) y l1 (by omega) HS7.out (by omega) (by omega) hl1 H5.out
                        rw [show ((mid + 1 : Nat) : Int) = (mid : Int) + 1 by omega] at hih
                        have HI := Lib.hid hih
                        clear hih
                        go_wp2_with (go_at_call 57; fail)
                        refine HI.out.mono ?_
                        rintro e w8 ⟨L, rfl, HL, S8⟩
                        go_wp2
                        go_roundw
                        case measure => simp only [intOf]; omega
                        case rel => exact ⟨x, mid, l1, _, ap, L, rfl, rfl, rfl, rfl, rfl, hax, r1, by omega, hl1, Lib.hid (H7.out L HL.out.1 HL.out.2).1, S8, Lib.hid (fun D h1 h2 => have h3 := (H7.out L HL.out.1 HL.out.2).2 D h1 h2; HRk.out D (pd_trans HPd3.out h3.1) h3.2)⟩
                    · have HVV : 0 < x ∧ ltF ks d3[x - 1]! d3[p]! = false := by first | exact HV.out rfl | exact HV.out trivial
                      obtain ⟨mid, d4, hx⟩ : ∃ mid d4, Sort.partitionEqual (ltF ks) d3 x y p = (mid, d4) := ⟨_, _, rfl⟩
                      obtain ⟨r1, r2, r3, r4, r5⟩ := Sort.round_eq (swoF ks) (Sort.partitionEqual_holds _) (HVV).1 hp3 hp4 (by rw [HSZ3.out]; omega) HB3.out (HVV).2 hx
                      have hc := sequal HS5.out x y p hp3 hp4 (by omega) hm
                      rw [hx] at hc
                      have HC := Lib.hid hc
                      have H4 := Lib.hid r4
                      have H5 := Lib.hid r5
                      clear hc hx r3 r4 r5 HB3 HV HVV HS5
                      go_wp2_with (go_at_call 70; fail)
                      refine HC.out.mono ?_
                      rintro e w7 ⟨rfl, S7⟩
                      have HS7 := Lib.hid S7
                      clear S7
                      go_wp2
                      go_roundw
                      case measure => simp only [intOf]; omega
                      case rel => exact ⟨mid, y, l1, wb, wp, d4, rfl, rfl, rfl, rfl, rfl, by omega, r2, hyb, hl1, H4, HS7, Lib.hid (fun D h1 h2 => have h3 := H5.out D h1 h2; HRk.out D (pd_trans HPd3.out h3.1) h3.2)⟩
end Go.Proofs.Ytopikpjagjnbhaa
