/- Package event: Read of any bytes. -/
import Derived.Test.YtdnddoiemaifjaaParse0
import Derived.Test.YtdnddoiemaifjaaEvGood2
namespace Go.Proofs.Ytdnddoiemaifjaa
open Go.RowKit
variable {B : Nat}
def readF : Nat → List Int → List Ev → Option (List Ev)
  | 0, bs, acc => if bs.length = 0 then some acc else none
  | n + 1, bs, acc => if (nextM bs).2.2 = 0 ∧ goodB (nextM bs).1 = true then readF n (nextM bs).2.1 (acc ++ [(nextM bs).1]) else none
/-- The row of any bytes. -/
def readM (bs : List Int) : Option (List Ev) := if (gotE 0 (fun bs => numM bs 1024) bs 0).2.2 = 0 then readF (gotE 0 (fun bs => numM bs 1024) bs 0).1 (gotE 0 (fun bs => numM bs 1024) bs 0).2.1 [] else none
/-- What Read leaves. -/
def ReadQ (w : World) (r : Option (List Ev)) (e : Ending) (w' : World) : Prop := Below w.heap.size w w' ∧ match r with
  | some l => ∃ A m c, e = .returned (.tuple #[.slice A m c, .int .i64 0]) ∧ Rds w' 15 A m c (evs l)
  | none => e = .returned (.tuple #[.slice none 0 0, .int .i64 10])
theorem Src.belowB {w w' : World} {b : Nat} {bs : List Int} {er : Int} (h : Src B w b bs er) (hb : Below B w w') (hbB : b < B) : Src B w' b bs er :=
  h.keep (S := fun k => B ≤ k) ⟨hb.os, hb.tape, hb.output, hb.size, fun i _ hn => hb.block i (by omega)⟩ (by omega) (fun k hk e => by omega)
theorem readF_succ (n : Nat) (bs : List Int) (acc : List Ev) : readF (n + 1) bs acc = if (nextM bs).2.2 = 0 ∧ goodB (nextM bs).1 = true then readF n (nextM bs).2.1 (acc ++ [(nextM bs).1]) else none := rfl
theorem endE_0 (bs : List Int) : endE bs 0 = if bs.length = 0 then 0 else 10 := by
  unfold endE
  rw [if_neg (by decide)]
  by_cases h : bs.length = 0
  · rw [if_neg (by omega), if_pos h]
  · rw [if_pos (by omega), if_neg h]
theorem endE_ne (bs : List Int) {er : Int} (h : er ≠ 0) : endE bs er = er := by unfold endE; rw [if_pos h]
theorem below_up {w w' : World} {b c : Nat} (h : Below c w w') (hb : b ≤ c) : Below b w w' := ⟨h.os, h.tape, h.output, h.size, fun i hi => h.block i (by omega)⟩
theorem own_evs_snoc {w : World} {base : Nat} {T : TypeId} {v : Value} {l : List Ev} {e : Ev} (h : w.ownsRow base T 15 v (l.length + 1) (evs l ++ evC e)) : w.ownsRow base T 15 v (l ++ [e]).length (evs (l ++ [e])) := by
  rw [evs_append, List.length_append]
  simpa [evs] using h
set_option maxRecDepth 100000 in
set_option maxHeartbeats 16000000 in
theorem eread (A : Option Addr) (n c : Nat) (bs : List Int) (w : World) (hr : Rds w 1 A n c (nums .u8 bs)) (hn : n ≤ 100000) (hu : U8s bs) : Calls Try.prog 16 #[.slice A n c] w (ReadQ w (readM bs)) := by
  have HRD := Lib.hid (srcRead A n c bs w hr (by omega))
  have hgu := gotE_u8 (z := 0) (f := fun bs => numM bs 1024) (well_numM hu 1024) hu 0
  obtain ⟨⟨m, bs1, er1⟩, hg⟩ : ∃ q, gotE 0 (fun bs => numM bs 1024) bs 0 = q := ⟨_, rfl⟩
  rw [hg] at hgu
  have hm : m ≤ 1024 := by rcases hgu.2.2 with h | h; simp only at h; omega; exact h
  have HU1 := Lib.hid hgu.1
  have HN : Hid (∀ B b W, Src B W b bs 0 → B ≤ W.heap.size → Calls Try.prog 35 #[.pointer (some ⟨b, 0, none⟩), .int .u64 1024] W fun e w' => e = .returned (.int .u64 m) ∧ Chg (fun k => k = b) W w' ∧ Src B w' b bs1 er1) := fun B b W hs hB => by
    have h := srcNum' (B := B) b 1024 0 bs W hs hB hu
    rw [hg] at h
    exact h
  by_cases h0 : er1 = 0
  · subst h0
    have HM : Hid (readM bs = readF m bs1 []) := by show _ = _; unfold readM; rw [hg]; rfl
    clear hg hgu hr hu
    go_enter Try.func16, Try.ntmps16
    go_wp2_with (first
      | (go_at_call 28; (with_reducible refine HRD.out.mono ?_); rintro x w2 ⟨b, rfl, hb, hb2, hs2⟩; have HN2 := Lib.hid (HN.out _ b w2 hs2 (Nat.le_refl _)); have hbl := hs2.made.lt)
      | (go_at_call 35; (with_reducible refine HN2.out.mono ?_); rintro x w3 ⟨rfl, hc3, hs3⟩))
    obtain ⟨B, hBB⟩ : ∃ B, B = w2.heap.size := ⟨_, rfl⟩
    rw [← hBB] at hs3 hbl
    have hBw : w.heap.size ≤ B := by rw [hBB]; exact hb2.size
    have hB3 : Below w.heap.size w w3 := hc3.toBelow hb2 hb2.size (fun k e => by omega)
    have hBs : B ≤ w3.heap.size := by rw [hBB]; exact hc3.size
    clear hc3 hb2 hs2 hBB HN2 HN
    go_loopw [5, 6] (fun v i wr => ∃ (j : Nat) (bs' : List Int) (acc : List Ev), i = .int .u64 j ∧ acc.length + j ≤ 1024 ∧ wr.ownsRow B 30 15 v acc.length (evs acc) ∧ Src B wr b bs' 0 ∧ Hid (U8s bs') ∧ Below w.heap.size w wr ∧ B ≤ wr.heap.size ∧ Hid (readM bs = readF j bs' acc)) (fun _ i _ => (intOf i).toNat)
    case atStart => exact ⟨m, bs1, [], rfl, by simpa using hm, World.ownsRow_nil _ _ _ _, hs3, HU1, hB3, hBs, HM⟩
    case round =>
      obtain ⟨j, bs', acc, rfl, hj, ho, hs, HU, hbw, hBr, HR⟩ := hrel
      clear hs3 hB3 hBs HM
      cases j with
      | zero =>
        have HE0 := srcEnd b 0 bs' wr hs
        rw [endE_0] at HE0
        by_cases he : bs'.length = 0
        · rw [if_pos he] at HE0
          have HE := Lib.hid HE0
          have HF : Hid (readM bs = some acc) := by show _ = _; rw [HR.out]; unfold readF; rw [if_pos he]
          obtain ⟨A1, n1, c1, rfl, _, hr1⟩ := own_open ho
          clear HE0 he
          go_wp2_with (go_at_call 36; (with_reducible refine HE.out.mono ?_); rintro x w4 ⟨rfl, rfl⟩)
          go_ret2
          rw [HF.out]
          exact ⟨hbw, A1, n1, c1, rfl, hr1⟩
        · rw [if_neg he] at HE0
          have HE := Lib.hid HE0
          have HF : Hid (readM bs = none) := by show _ = _; rw [HR.out]; unfold readF; rw [if_neg he]
          clear HE0 he
          go_wp2_with (go_at_call 36; (with_reducible refine HE.out.mono ?_); rintro x w4 ⟨rfl, rfl⟩)
          go_ret2
          rw [HF.out]
          exact ⟨hbw, rfl⟩
      | succ j =>
        obtain ⟨⟨⟨e0, e1, e2, e3, e4, e5, e6, e7, e8, e9, e10, e11, e12, e13, e14⟩, rest, er⟩, hq⟩ : ∃ q, nextM bs' = q := ⟨_, rfl⟩
        have hor := nextOK_or bs'
        have hN := next_det b bs' wr hs hBr HU.out
        obtain ⟨⟨ok, er'⟩, hk⟩ : ∃ q, nextOK bs' = q := ⟨_, rfl⟩
        rw [hq, hk] at hN hor
        simp only at hor
        unfold evV at hN
        simp only at hN
        have HN := Lib.hid hN
        have HF0 : readM bs = if er = 0 ∧ goodB (⟨e0, e1, e2, e3, e4, e5, e6, e7, e8, e9, e10, e11, e12, e13, e14⟩ : Ev) = true then readF j rest (acc ++ [(⟨e0, e1, e2, e3, e4, e5, e6, e7, e8, e9, e10, e11, e12, e13, e14⟩ : Ev)]) else none := by rw [HR.out, readF_succ, hq]
        have hj0 : ((j : Int) + 1 == 0) = false := by simp; omega
        have hju : (0 : Int) < (j : Int) + 1 := by omega
        have hbne : w.heap.size ≤ b := hb
        clear hN hk hq
        have FIN : ∀ (W : World), Below w.heap.size w W → Hid (readM bs = none) → ReadQ w (readM bs) (.returned (.tuple #[.slice none 0 0, .int .i64 10])) W := fun W h1 h2 => by rw [h2.out]; exact ⟨h1, rfl⟩
        rcases hor with ⟨rfl, rfl⟩ | ⟨rfl, rfl, rfl⟩
        · by_cases h0 : er' = 0
          · subst h0
            cases hg : goodB (⟨e0, e1, e2, e3, e4, e5, e6, e7, e8, e9, e10, e11, e12, e13, e14⟩ : Ev) with
            | true =>
              rw [if_pos ⟨rfl, hg⟩] at HF0
              have HF := Lib.hid HF0
              have hgd := fun W => egood (⟨e0, e1, e2, e3, e4, e5, e6, e7, e8, e9, e10, e11, e12, e13, e14⟩ : Ev) W
              rw [hg] at hgd
              unfold evV at hgd
              simp only at hgd
              have HGD := Lib.hid hgd
              have HL : Hid ((acc.length + 1) * 120 ≤ 140737488355328) := by show _ ≤ _; omega
              clear HF0 hg hgd
              go_wp2_with (first
                | (go_at_call 29; (with_reducible refine HN.out.mono ?_); rintro x w4 ⟨rfl, hc4, hs4, hu4⟩; have hs5 := hs4.below (below_al (Below.refl _ _) (.cells #[.int .i64 e0, .int .i64 e1, .int .i64 e2, .int .i64 e3, .int .i64 e4, .int .i64 e5, .int .i64 e6, .int .i64 e7, .int .i64 e8, .int .i64 e9, .int .i64 e10, .int .i64 e11, .int .i64 e12, .int .i64 e13, .int .i64 e14] 30)); have HE := Lib.hid (srcErr b 0 rest _ hs5); have hb4 : Below w.heap.size w w4 := hc4.toBelow hbw hbw.size (fun k e => by omega); have ho4 := hc4.own ho (fun k hk e => by have := own_base ho k hk; omega); have PB := EvBox.new w4 (⟨e0, e1, e2, e3, e4, e5, e6, e7, e8, e9, e10, e11, e12, e13, e14⟩ : Ev) 30; have hz4 := hc4.size)
                | (go_at_call 30; (with_reducible refine HE.out.mono ?_); rintro x w5 ⟨rfl, rfl⟩)
                | (go_at_call 18; (with_reducible refine (HGD.out _).mono ?_); rintro x w6 ⟨rfl, hb6⟩; have PB6 := PB.below hb6; have k0 := PB6.c0.cell; have k1 := PB6.c1.cell; have k2 := PB6.c2.cell; have k3 := PB6.c3.cell; have k4 := PB6.c4.cell; have k5 := PB6.c5.cell; have k6 := PB6.c6.cell; have k7 := PB6.c7.cell; have k8 := PB6.c8.cell; have k9 := PB6.c9.cell; have k10 := PB6.c10.cell; have k11 := PB6.c11.cell; have k12 := PB6.c12.cell; have k13 := PB6.c13.cell; have k14 := PB6.c14.cell; simp only at k0 k1 k2 k3 k4 k5 k6 k7 k8 k9 k10 k11 k12 k13 k14; have ho6 := own_below (own_below ho4 (below_al (Below.refl _ _) (.cells #[.int .i64 e0, .int .i64 e1, .int .i64 e2, .int .i64 e3, .int .i64 e4, .int .i64 e5, .int .i64 e6, .int .i64 e7, .int .i64 e8, .int .i64 e9, .int .i64 e10, .int .i64 e11, .int .i64 e12, .int .i64 e13, .int .i64 e14] 30))) hb6; have hs6 := hs5.below hb6; have hb66 := below_tr (below_al (Below.refl _ _) (.cells #[.int .i64 e0, .int .i64 e1, .int .i64 e2, .int .i64 e3, .int .i64 e4, .int .i64 e5, .int .i64 e6, .int .i64 e7, .int .i64 e8, .int .i64 e9, .int .i64 e10, .int .i64 e11, .int .i64 e12, .int .i64 e13, .int .i64 e14] 30)) hb6; have hz6 := hb66.size; have hr6 := rds_lit w6 30 15 1 (evC (⟨e0, e1, e2, e3, e4, e5, e6, e7, e8, e9, e10, e11, e12, e13, e14⟩ : Ev)) rfl (by decide); have hal6 : Below w6.heap.size w6 (w6.alloc (.cells #[.int .i64 e0, .int .i64 e1, .int .i64 e2, .int .i64 e3, .int .i64 e4, .int .i64 e5, .int .i64 e6, .int .i64 e7, .int .i64 e8, .int .i64 e9, .int .i64 e10, .int .i64 e11, .int .i64 e12, .int .i64 e13, .int .i64 e14] 30)) := below_al (Below.refl _ _) _; have HA6 := Lib.hid hal6; clear hal6 PB PB6)
                | (at_builtin; refine apn (w0 := w6) B rfl _ _ 22 30 _ 15 120 (by rfl) Try.underlying22 info_ev rfl (by decide) (by decide) _ _ _ _ 1 1 (evC (⟨e0, e1, e2, e3, e4, e5, e6, e7, e8, e9, e10, e11, e12, e13, e14⟩ : Ev)) (by rfl) (by rfl) hr6 (by intro u hu; simp [evC] at hu; rcases hu with rfl | rfl | rfl | rfl | rfl | rfl | rfl | rfl | rfl | rfl | rfl | rfl | rfl | rfl | rfl <;> rfl) (own_below ho6 HA6.out) (below_up HA6.out (by omega)) (by have := HA6.out.size; omega) HL.out ?_; intro v7 w7 p1 p2 _ _))
              go_roundw
              case rel =>
                have hb7 : Below w.heap.size w w7 := (below_then hb4 hb4.size hb66).trans (below_up p2 hBw)
                exact ⟨j, rest, acc ++ [(⟨e0, e1, e2, e3, e4, e5, e6, e7, e8, e9, e10, e11, e12, e13, e14⟩ : Ev)], by go_num, by rw [List.length_append]; simp; omega, own_evs_snoc p1, hs6.belowB p2 hbl, hu4, hb7, by have := p2.size; omega, HF⟩
              case measure => simp only [intOf]; omega
            | false =>
              rw [if_neg (by rw [hg]; simp)] at HF0
              have HF := Lib.hid HF0
              have hgd := fun W => egood (⟨e0, e1, e2, e3, e4, e5, e6, e7, e8, e9, e10, e11, e12, e13, e14⟩ : Ev) W
              rw [hg] at hgd
              unfold evV at hgd
              simp only at hgd
              have HGD := Lib.hid hgd
              clear HF0 hg hgd
              go_wp2_with (first
                | (go_at_call 29; (with_reducible refine HN.out.mono ?_); rintro x w4 ⟨rfl, hc4, hs4, hu4⟩; have HE := Lib.hid (srcErr b 0 rest _ (hs4.below (below_al (Below.refl _ _) (.cells #[.int .i64 e0, .int .i64 e1, .int .i64 e2, .int .i64 e3, .int .i64 e4, .int .i64 e5, .int .i64 e6, .int .i64 e7, .int .i64 e8, .int .i64 e9, .int .i64 e10, .int .i64 e11, .int .i64 e12, .int .i64 e13, .int .i64 e14] 30)))); have hb4 : Below w.heap.size w w4 := hc4.toBelow hbw hbw.size (fun k e => by omega))
                | (go_at_call 30; (with_reducible refine HE.out.mono ?_); rintro x w5 ⟨rfl, rfl⟩)
                | (go_at_call 18; (with_reducible refine (HGD.out _).mono ?_); rintro x w6 ⟨rfl, hb6⟩))
              go_ret2
              exact FIN _ (below_then hb4 hb4.size (below_tr (below_al (Below.refl _ _) _) hb6)) HF
          · rw [if_neg (fun h => h0 h.1)] at HF0
            have HF := Lib.hid HF0
            have heb : (er' == 0) = false := by simpa using h0
            have hebn : (er' != 0) = true := by simpa using h0
            clear HF0 h0
            go_wp2_with (first
              | (go_at_call 29; (with_reducible refine HN.out.mono ?_); rintro x w4 ⟨rfl, hc4, hs4, hu4⟩; have HE := Lib.hid (srcErr b er' rest _ (hs4.below (below_al (Below.refl _ _) (.cells #[.int .i64 e0, .int .i64 e1, .int .i64 e2, .int .i64 e3, .int .i64 e4, .int .i64 e5, .int .i64 e6, .int .i64 e7, .int .i64 e8, .int .i64 e9, .int .i64 e10, .int .i64 e11, .int .i64 e12, .int .i64 e13, .int .i64 e14] 30)))); have hb4 : Below w.heap.size w w4 := hc4.toBelow hbw hbw.size (fun k e => by omega))
              | (go_at_call 30; (with_reducible refine HE.out.mono ?_); rintro x w5 ⟨rfl, rfl⟩))
            go_ret2
            exact FIN _ (below_then hb4 hb4.size (below_al (Below.refl _ _) _)) HF
        · rw [if_neg (by simp)] at HF0
          have HF := Lib.hid HF0
          clear HF0
          go_wp2_with (go_at_call 29; (with_reducible refine HN.out.mono ?_); rintro x w4 ⟨rfl, hc4, hs4, hu4⟩; have hb4 : Below w.heap.size w w4 := hc4.toBelow hbw hbw.size (fun k e => by omega))
          go_ret2
          exact FIN _ (below_then hb4 hb4.size (below_al (Below.refl _ _) _)) HF
  · have HM : Hid (readM bs = none) := by show _ = _; unfold readM; rw [hg]; simp only; rw [if_neg h0]
    have hm0 : m = 0 := by
      have : (gotE 0 (fun bs => numM bs 1024) bs 0).2.2 ≠ 0 := by rw [hg]; exact h0
      unfold gotE at this hg
      rw [if_neg (by decide)] at this hg
      cases ho : numM bs 1024 with
      | error x => simp only [ho] at hg; cases hg; rfl
      | ok q => simp only [ho] at this; exact absurd rfl this
    subst hm0
    have heb : (er1 == 0) = false := by simpa using h0
    have hebn : (er1 != 0) = true := by simpa using h0
    have H0 := Lib.hid h0
    clear hg hgu hr hu h0
    go_enter Try.func16, Try.ntmps16
    go_wp2_with (first
      | (go_at_call 28; (with_reducible refine HRD.out.mono ?_); rintro x w2 ⟨b, rfl, hb, hb2, hs2⟩; have HN2 := Lib.hid (HN.out _ b w2 hs2 (Nat.le_refl _)))
      | (go_at_call 35; (with_reducible refine HN2.out.mono ?_); rintro x w3 ⟨rfl, hc3, hs3⟩; have hE := srcEnd b er1 bs1 w3 hs3; rw [endE_ne _ H0.out] at hE; have HE := Lib.hid hE; clear hE))
    go_loopw [5, 6] (fun v i wr => i = .int .u64 0 ∧ w3 = wr) (fun _ i _ => (intOf i).toNat)
    case atStart => exact ⟨rfl, rfl⟩
    case round =>
      obtain ⟨rfl, rfl⟩ := hrel
      go_wp2_with (go_at_call 36; (with_reducible refine HE.out.mono ?_); rintro x w4 ⟨rfl, rfl⟩)
      go_ret2
      rw [HM.out]
      exact ⟨hc3.toBelow hb2 hb2.size (fun k e => by omega), rfl⟩
end Go.Proofs.Ytdnddoiemaifjaa
