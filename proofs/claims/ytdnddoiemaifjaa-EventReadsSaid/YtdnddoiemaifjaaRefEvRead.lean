/- The reference's Read of any bytes. -/
import Derived.Test.YtdnddoiemaifjaaEvRead
import Derived.Test.YtdnddoiemaifjaaOneAny
import Derived.Test.YtdnddoiemaifjaaRefGood2
namespace Go.Proofs.Ytdnddoiemaifjaa
open Go.RowKit
variable {L B : Nat}
theorem RSrc.belowB {w w' : World} {b : Nat} {bs : List Int} {er : Int} (h : RSrc L B w b bs er) (hb : Below B w w') (hbB : b < B) : RSrc L B w' b bs er :=
  h.keep (S := fun k => B ≤ k) ⟨hb.os, hb.tape, hb.output, hb.size, fun i _ hn => hb.block i (by omega)⟩ (by omega) (fun k _ hk e => by omega)
set_option maxRecDepth 100000 in
set_option maxHeartbeats 16000000 in
theorem rread (A : Option Addr) (n c : Nat) (bs : List Int) (w : World) (hr : Rds w 1 A n c (nums .u8 bs)) (hn : n ≤ 100000) (hu : U8s bs) : Calls Try.prog 17 #[.slice A n c] w (ReadQ w (readM bs)) := by
  have hbn := rds_len hr
  have HRD := Lib.hid (refRead A n c bs w hr (by omega))
  have hgu := gotE_u8 (z := 0) (f := fun bs => numM bs 1024) (well_numM hu 1024) hu 0
  obtain ⟨⟨m, bs1, er1⟩, hg⟩ : ∃ q, gotE 0 (fun bs => numM bs 1024) bs 0 = q := ⟨_, rfl⟩
  rw [hg] at hgu
  have hm : m ≤ 1024 := by rcases hgu.2.2 with h | h; simp only at h; omega; exact h
  have HU1 := Lib.hid hgu.1
  have HL1 : Hid (bs1.length ≤ 1000000) := by show _ ≤ _; have := hgu.2.1; simp only at this; omega
  have HN : Hid (∀ L B b W, RSrc L B W b bs 0 → Calls Try.prog 37 #[.pointer (some ⟨b, 0, none⟩), .int .u64 1024] W fun e w' => e = .returned (.int .u64 m) ∧ Chg (fun k => k = b) W w' ∧ RSrc L B w' b bs1 er1) := fun L B b W hs => by
    have h := refNum (L := L) (B := B) b 1024 0 bs W hs hu (by omega)
    rw [hg] at h
    exact h
  have HM : Hid ((er1 = 0 → readM bs = readF m bs1 []) ∧ (er1 ≠ 0 → readM bs = none)) := by
    refine ⟨fun h => ?_, fun h => ?_⟩
    · unfold readM; rw [hg]; simp only; rw [if_pos h]
    · unfold readM; rw [hg]; simp only; rw [if_neg h]
  clear hg hgu hr hu
  go_enter Try.func17, Try.ntmps17
  go_wp2_with (first
    | (go_at_call 32; (with_reducible refine HRD.out.mono ?_); rintro x w2 ⟨b, rfl, hb, hb2, hs2⟩; have HN2 := Lib.hid (HN.out _ _ b w2 hs2); have hbl := hs2.err.lt)
    | (go_at_call 37; (with_reducible refine HN2.out.mono ?_); rintro x w3 ⟨rfl, hc3, hs3⟩))
  obtain ⟨B, hBB⟩ : ∃ B, B = w2.heap.size := ⟨_, rfl⟩
  rw [← hBB] at hs3 hbl
  have hBw : w.heap.size ≤ B := by rw [hBB]; exact hb2.size
  have hB3 : Below w.heap.size w w3 := hc3.toBelow hb2 hb2.size (fun k e => by omega)
  have hBs : B ≤ w3.heap.size := by rw [hBB]; exact hc3.size
  clear hc3 hb2 hs2 hBB HN2 HN
  go_loopw [5, 6] (fun i v wr => ∃ (j : Nat) (bs' : List Int) (er : Int) (acc : List Ev), i = .int .u64 j ∧ acc.length + j ≤ 1024 ∧ wr.ownsRow B 30 15 v acc.length (evs acc) ∧ RSrc w.heap.size B wr b bs' er ∧ Hid (U8s bs' ∧ bs'.length ≤ 1000000) ∧ Below w.heap.size w wr ∧ B ≤ wr.heap.size ∧ Hid ((er = 0 → readM bs = readF j bs' acc) ∧ (er ≠ 0 → readM bs = none))) (fun i _ _ => (intOf i).toNat)
  case atStart => exact ⟨m, bs1, er1, [], rfl, by simpa using hm, World.ownsRow_nil _ _ _ _, hs3, ⟨HU1.out, HL1.out⟩, hB3, hBs, HM⟩
  case round =>
    obtain ⟨j, bs', er, acc, rfl, hj, ho, hs, HU, hbw, hBr, HR⟩ := hrel
    clear hs3 hB3 hBs HM HU1 HL1
    have hE := refEnd b er bs' wr hs
    have zE := hs.err.cell
    have FIN : ∀ (W : World), Below w.heap.size w W → Hid (readM bs = none) → ReadQ w (readM bs) (.returned (.tuple #[.slice none 0 0, .int .i64 10])) W := fun W h1 h2 => by rw [h2.out]; exact ⟨h1, rfl⟩
    by_cases h0 : er = 0
    · subst h0
      have HR1 := Lib.hid (HR.out.1 rfl)
      rw [endE_0] at hE
      clear HR
      cases j with
      | zero =>
        by_cases he : bs'.length = 0
        · rw [if_pos he] at hE
          have HE := Lib.hid hE
          have HF : Hid (readM bs = some acc) := by show _ = _; rw [HR1.out]; unfold readF; rw [if_pos he]
          obtain ⟨A1, n1, c1, rfl, _, hr1⟩ := own_open ho
          clear hE he
          go_wp2_with (go_at_call 38; (with_reducible refine HE.out.mono ?_); rintro x w4 ⟨rfl, rfl⟩)
          go_ret2
          rw [HF.out]
          exact ⟨hbw, A1, n1, c1, rfl, hr1⟩
        · rw [if_neg he] at hE
          have HE := Lib.hid hE
          have HF : Hid (readM bs = none) := by show _ = _; rw [HR1.out]; unfold readF; rw [if_neg he]
          clear hE he
          go_wp2_with (go_at_call 38; (with_reducible refine HE.out.mono ?_); rintro x w4 ⟨rfl, rfl⟩)
          go_ret2
          rw [HF.out]
          exact ⟨hbw, rfl⟩
      | succ j =>
        obtain ⟨⟨ev, rest, er'⟩, hq⟩ : ∃ q, nextM bs' = q := ⟨_, rfl⟩
        have hO := one_any b bs' wr hs hBr HU.out.1 HU.out.2
        rw [hq] at hO
        have HF0 : readM bs = if er' = 0 ∧ goodB ev = true then readF j rest (acc ++ [ev]) else none := by rw [HR1.out, readF_succ, hq]
        have hju : (0 : Int) < (j : Int) + 1 := by omega
        have hO' : Calls Try.prog 33 #[.pointer (some ⟨b, 0, none⟩)] wr fun e w' => ∃ e0 e1 e2 e3 e4 e5 e6 e7 e8 e9 e10 e11 e12 e13 e14 : Int, e = .returned (.agg #[.int .i64 e0, .int .i64 e1, .int .i64 e2, .int .i64 e3, .int .i64 e4, .int .i64 e5, .int .i64 e6, .int .i64 e7, .int .i64 e8, .int .i64 e9, .int .i64 e10, .int .i64 e11, .int .i64 e12, .int .i64 e13, .int .i64 e14]) ∧ Chg (fun k => k = b) wr w' ∧ RSrc w.heap.size B w' b rest er' ∧ Hid (U8s rest ∧ rest.length ≤ 1000000) ∧ Hid (er' = 0 → (⟨e0, e1, e2, e3, e4, e5, e6, e7, e8, e9, e10, e11, e12, e13, e14⟩ : Ev) = ev) := by
          refine hO.mono ?_
          rintro e w' ⟨⟨e0, e1, e2, e3, e4, e5, e6, e7, e8, e9, e10, e11, e12, e13, e14⟩, rfl, a1, a2, a3, a4, a5⟩
          exact ⟨e0, e1, e2, e3, e4, e5, e6, e7, e8, e9, e10, e11, e12, e13, e14, rfl, a1, a2, ⟨a3, a4⟩, a5⟩
        have HO := Lib.hid hO'
        have HL : Hid ((acc.length + 1) * 120 ≤ 140737488355328) := by show _ ≤ _; omega
        have HF := Lib.hid HF0
        clear hO hO' hE hq HF0
        go_wp2_with (go_at_call 33; (with_reducible refine HO.out.mono ?_); rintro x w4 ⟨e0, e1, e2, e3, e4, e5, e6, e7, e8, e9, e10, e11, e12, e13, e14, rfl, hc4, hs4, HU4, HEV⟩)
        have hgd := fun W => rgood (⟨e0, e1, e2, e3, e4, e5, e6, e7, e8, e9, e10, e11, e12, e13, e14⟩ : Ev) W
        have hs5 := hs4.below (below_al (Below.refl _ _) (.cells #[.int .i64 e0, .int .i64 e1, .int .i64 e2, .int .i64 e3, .int .i64 e4, .int .i64 e5, .int .i64 e6, .int .i64 e7, .int .i64 e8, .int .i64 e9, .int .i64 e10, .int .i64 e11, .int .i64 e12, .int .i64 e13, .int .i64 e14] 30))
        have hb4 : Below w.heap.size w w4 := hc4.toBelow hbw hbw.size (fun k e => by omega)
        have ho4 := hc4.own ho (fun k hk e => by have := own_base ho k hk; omega)
        have PB := EvBox.new w4 (⟨e0, e1, e2, e3, e4, e5, e6, e7, e8, e9, e10, e11, e12, e13, e14⟩ : Ev) 30
        have hz4 := hc4.size
        clear zE
        cases hg : goodB (⟨e0, e1, e2, e3, e4, e5, e6, e7, e8, e9, e10, e11, e12, e13, e14⟩ : Ev) with
        | true =>
          rw [hg] at hgd
          unfold evV at hgd
          simp only at hgd
          have HGD := Lib.hid hgd
          clear hgd
          have HG := Lib.hid hg
          clear hg
          go_wp2_with (first
            | (go_at_call 34; (with_reducible refine (HGD.out _).mono ?_); rintro x w6 ⟨rfl, hb6⟩; have PB6 := PB.below hb6; have k0 := PB6.c0.cell; have k1 := PB6.c1.cell; have k2 := PB6.c2.cell; have k3 := PB6.c3.cell; have k4 := PB6.c4.cell; have k5 := PB6.c5.cell; have k6 := PB6.c6.cell; have k7 := PB6.c7.cell; have k8 := PB6.c8.cell; have k9 := PB6.c9.cell; have k10 := PB6.c10.cell; have k11 := PB6.c11.cell; have k12 := PB6.c12.cell; have k13 := PB6.c13.cell; have k14 := PB6.c14.cell; simp only at k0 k1 k2 k3 k4 k5 k6 k7 k8 k9 k10 k11 k12 k13 k14; have ho6 := own_below (own_below ho4 (below_al (Below.refl _ _) (.cells #[.int .i64 e0, .int .i64 e1, .int .i64 e2, .int .i64 e3, .int .i64 e4, .int .i64 e5, .int .i64 e6, .int .i64 e7, .int .i64 e8, .int .i64 e9, .int .i64 e10, .int .i64 e11, .int .i64 e12, .int .i64 e13, .int .i64 e14] 30))) hb6; have hs6 := hs5.below hb6; have hb66 := below_tr (below_al (Below.refl _ _) (.cells #[.int .i64 e0, .int .i64 e1, .int .i64 e2, .int .i64 e3, .int .i64 e4, .int .i64 e5, .int .i64 e6, .int .i64 e7, .int .i64 e8, .int .i64 e9, .int .i64 e10, .int .i64 e11, .int .i64 e12, .int .i64 e13, .int .i64 e14] 30)) hb6; have hz6 := hb66.size; have hr6 := rds_lit w6 30 15 1 (evC (⟨e0, e1, e2, e3, e4, e5, e6, e7, e8, e9, e10, e11, e12, e13, e14⟩ : Ev)) rfl (by decide); have hal6 : Below w6.heap.size w6 (w6.alloc (.cells #[.int .i64 e0, .int .i64 e1, .int .i64 e2, .int .i64 e3, .int .i64 e4, .int .i64 e5, .int .i64 e6, .int .i64 e7, .int .i64 e8, .int .i64 e9, .int .i64 e10, .int .i64 e11, .int .i64 e12, .int .i64 e13, .int .i64 e14] 30)) := below_al (Below.refl _ _) _; have HA6 := Lib.hid hal6; clear hal6 PB PB6)
            | (at_builtin; refine apn (w0 := w6) B rfl _ _ 22 30 _ 15 120 (by rfl) Try.underlying22 info_ev rfl (by decide) (by decide) _ _ _ _ 1 1 (evC (⟨e0, e1, e2, e3, e4, e5, e6, e7, e8, e9, e10, e11, e12, e13, e14⟩ : Ev)) (by rfl) (by rfl) hr6 (by intro u hu; simp [evC] at hu; rcases hu with rfl | rfl | rfl | rfl | rfl | rfl | rfl | rfl | rfl | rfl | rfl | rfl | rfl | rfl | rfl <;> rfl) (own_below ho6 HA6.out) (below_up HA6.out (by omega)) (by have := HA6.out.size; omega) HL.out ?_; intro v7 w7 p1 p2 _ _))
          go_roundw
          case rel =>
            have hb7 : Below w.heap.size w w7 := (below_then hb4 hb4.size hb66).trans (below_up p2 hBw)
            refine ⟨j, rest, er', acc ++ [(⟨e0, e1, e2, e3, e4, e5, e6, e7, e8, e9, e10, e11, e12, e13, e14⟩ : Ev)], by go_num, by rw [List.length_append]; simp; omega, own_evs_snoc p1, hs6.belowB p2 hbl, HU4, hb7, by have := p2.size; omega, ⟨fun h => ?_, fun h => ?_⟩⟩
            · have he := HEV.out h
              rw [HF.out, ← he, if_pos ⟨h, HG.out⟩]
            · rw [HF.out, if_neg (fun h' => h h'.1)]
          case measure => simp only [intOf]; omega
        | false =>
          have HFF : Hid (readM bs = none) := by
            show _ = _
            rw [HF.out]
            by_cases h : er' = 0
            · have he := HEV.out h
              rw [← he, if_neg (by rw [hg]; simp)]
            · rw [if_neg (fun h' => h h'.1)]
          rw [hg] at hgd
          unfold evV at hgd
          simp only at hgd
          have HGD := Lib.hid hgd
          clear hgd hg
          go_wp2_with (go_at_call 34; (with_reducible refine (HGD.out _).mono ?_); rintro x w6 ⟨rfl, hb6⟩)
          go_ret2
          exact FIN _ (below_then hb4 hb4.size (below_tr (below_al (Below.refl _ _) _) hb6)) HFF
    · have heb : (er == 0) = false := by simpa using h0
      have hebn : (er != 0) = true := by simpa using h0
      rw [endE_ne _ h0] at hE
      have HE := Lib.hid hE
      have HF := Lib.hid (HR.out.2 h0)
      clear hE h0 HR
      by_cases hj0 : 0 < j
      · have hju : (0 : Int) < (j : Int) := by omega
        go_wp2_with (go_at_call 38; (with_reducible refine HE.out.mono ?_); rintro x w4 ⟨rfl, rfl⟩)
        go_ret2
        exact FIN _ hbw HF
      · obtain rfl : j = 0 := by omega
        go_wp2_with (go_at_call 38; (with_reducible refine HE.out.mono ?_); rintro x w4 ⟨rfl, rfl⟩)
        go_ret2
        exact FIN _ hbw HF
end Go.Proofs.Ytdnddoiemaifjaa
