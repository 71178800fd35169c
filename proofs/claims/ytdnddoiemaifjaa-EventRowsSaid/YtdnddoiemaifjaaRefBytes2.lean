/- The reference's Bytes of a Preempted event that may be. -/
import Derived.Test.YtdnddoiemaifjaaRefBytes
import Derived.Test.YtdnddoiemaifjaaArr
import Derived.Test.YtdnddoiemaifjaaLives14
namespace Go.Proofs.Ytdnddoiemaifjaa
open Go.RowKit
/-- What stands in the loops. -/
structure StR (w wr : World) (e : Ev) (u : Value) (bs : List Int) : Prop where
  ev : EvAt wr ⟨w.heap.size, 0, none⟩ e
  be : Below w.heap.size w wr
  row : ∃ A n c, u = .slice A n c ∧ Rds wr 1 A n c (nums .u8 bs)
theorem StR.puts {w wr w2 : World} {e : Ev} {u x : Value} {bs bs' bs2 : List Int} (h : StR w wr e u bs) (hp : Puts wr bs' (.returned x) w2) (hb : bs' = bs2) : StR w w2 e x bs2 := by
  subst hb
  obtain ⟨A, n, c, he, _, hr, hb, _⟩ := hp.open_
  cases he
  exact ⟨h.ev.below hb, below_tr h.be hb, A, n, c, rfl, hr⟩
set_option maxRecDepth 100000 in
set_option maxHeartbeats 16000000 in
theorem rbytes2 (a b p q d : Nat) (v r0 r1 r2 r3 r4 r5 r6 r7 : Int) (hg : goodB (⟨2, (a : Int), (b : Int), v, (p : Int), (q : Int), r0, r1, r2, r3, r4, r5, r6, r7, (d : Int)⟩ : Ev) = true) (hI : ∀ x ∈ evRegs (⟨2, (a : Int), (b : Int), v, (p : Int), (q : Int), r0, r1, r2, r3, r4, r5, r6, r7, (d : Int)⟩ : Ev), I64 x) (ha : a ≤ 1099511627776) (hb : b ≤ 1099511627776) (hp : p ≤ 7) (hq : q ≤ 64) (hd : d ≤ 8) (w : World) : Calls Try.prog 26 #[.agg #[.int .i64 2, .int .i64 (a : Int), .int .i64 (b : Int), .int .i64 v, .int .i64 (p : Int), .int .i64 (q : Int), .int .i64 r0, .int .i64 r1, .int .i64 r2, .int .i64 r3, .int .i64 r4, .int .i64 r5, .int .i64 r6, .int .i64 r7, .int .i64 (d : Int)]] w (Byt w (bytesEv (⟨2, (a : Int), (b : Int), v, (p : Int), (q : Int), r0, r1, r2, r3, r4, r5, r6, r7, (d : Int)⟩ : Ev))) := by
  have HB : Hid (bytesEv (⟨2, (a : Int), (b : Int), v, (p : Int), (q : Int), r0, r1, r2, r3, r4, r5, r6, r7, (d : Int)⟩ : Ev) = [2] ++ enc a ++ enc b ++ encN [(p : Int), (q : Int), (d : Int)] ++ encs (evRegs (⟨2, (a : Int), (b : Int), v, (p : Int), (q : Int), r0, r1, r2, r3, r4, r5, r6, r7, (d : Int)⟩ : Ev))) := by show _ = _; simp [bytesEv, tT, tV, tC, encN]
  have HI := Lib.hid hI
  have hG := fun W => rgood (⟨2, (a : Int), (b : Int), v, (p : Int), (q : Int), r0, r1, r2, r3, r4, r5, r6, r7, (d : Int)⟩ : Ev) W
  rw [hg] at hG
  unfold evV at hG
  have HG := Lib.hid hG
  have HE := Lib.hid (ev_new (⟨2, (a : Int), (b : Int), v, (p : Int), (q : Int), r0, r1, r2, r3, r4, r5, r6, r7, (d : Int)⟩ : Ev) w 30)
  have HAL : Hid (Below w.heap.size w (w.alloc (.cells #[.int .i64 2, .int .i64 (a : Int), .int .i64 (b : Int), .int .i64 v, .int .i64 (p : Int), .int .i64 (q : Int), .int .i64 r0, .int .i64 r1, .int .i64 r2, .int .i64 r3, .int .i64 r4, .int .i64 r5, .int .i64 r6, .int .i64 r7, .int .i64 (d : Int)] 30))) := below_al (Below.refl _ _) _
  unfold evC at HE
  simp only at HE HG
  have hT : ∀ W, Calls Try.prog 45 #[.int .i64 2] W fun e w' => e = .returned (.bool true) ∧ W = w' := fun W => rthreads 2 W
  have HT := Lib.hid hT
  have hV : ∀ W, Calls Try.prog 46 #[.int .i64 2] W fun e w' => e = .returned (.bool false) ∧ W = w' := fun W => rvalues 2 W
  have HV := Lib.hid hV
  have hwa := wrap_nat a ha
  have hwb := wrap_nat b hb
  have hwp := wrap_nat p (by omega)
  have hwq := wrap_nat q (by omega)
  have hwd := wrap_nat d (by omega)
  have hk : IntKind.u8.wrap 2 = 2 := by decide
  have HLA : Hid (a < 18446744073709551616 ∧ b < 18446744073709551616 ∧ p < 18446744073709551616 ∧ q < 18446744073709551616 ∧ d < 18446744073709551616) := ⟨by omega, by omega, by omega, by omega, by omega⟩
  have hla := enc_length a
  have hlb := enc_length b
  clear hT hV hG hg ha hb hp hq hd hI
  go_enter Try.func26, Try.ntmps26
  go_wp2_with (first
    | (go_at_call 34; (with_reducible refine (HG.out _).mono ?_); rintro x w1 ⟨rfl, hb1⟩; have hal1 : Below w1.heap.size w1 (w1.alloc (.cells #[.int .u8 2] 5)) := below_al (Below.refl _ _) _; have hE2 := HE.out.below (below_tr hb1 hal1); obtain ⟨z0, z1, z2, z3, z4, z5, z6, z7, z8, z9, z10, z11, z12, z13, z14⟩ := (HE.out.below hb1); simp only at z0 z1 z2 z3 z4 z5 z6 z7 z8 z9 z10 z11 z12 z13 z14; obtain ⟨y0, y1, y2, y3, y4, y5, y6, y7, y8, y9, y10, y11, y12, y13, y14⟩ := hE2; simp only at y0 y1 y2 y3 y4 y5 y6 y7 y8 y9 y10 y11 y12 y13 y14; have hr1 : Rds (w1.alloc (.cells #[.int .u8 2] 5)) 1 (some ⟨w1.heap.size, 0, none⟩) 1 1 (nums .u8 [2]) := rds_lit w1 _ 1 1 (nums .u8 [2]) rfl (by decide); have HN1 := Lib.hid (rnum _ 1 1 [2] a HLA.out.1 _ hr1 (by decide)); have hB1 := below_tr (below_then HAL.out HAL.out.size hb1) hal1; clear hr1)
    | (go_at_call 25; (with_reducible refine HN1.out.mono ?_); rintro x w2 h2; obtain ⟨A2, n2, c2, rfl, hl2, hr2, hb2, _⟩ := h2.open_; have hB2 := below_tr hB1 hb2; obtain ⟨xp0, xp1, xp2, xp3, xp4, xp5, xp6, xp7, xp8, xp9, xp10, xp11, xp12, xp13, xp14⟩ := (HE.out.below (below_tr (below_tr hb1 hal1) hb2)); simp only at xp0 xp1 xp2 xp3 xp4 xp5 xp6 xp7 xp8 xp9 xp10 xp11 xp12 xp13 xp14; have hn2 : n2 ≤ 11 := (by have := rds_len hr2; rw [List.length_append, List.length_singleton] at this; omega); have HN2 := Lib.hid (rnum A2 n2 c2 _ b HLA.out.2.1 w2 hr2 (by omega)))
    | (go_at_call 25; (with_reducible refine HN2.out.mono ?_); rintro x w3 h3; obtain ⟨A3, n3, c3, rfl, hl3, hr3, hb3, _⟩ := h3.open_; have hB3 := below_tr hB2 hb3; have hE3 := Lib.hid (HE.out.below (below_tr (below_tr (below_tr hb1 hal1) hb2) hb3)); obtain ⟨xq0, xq1, xq2, xq3, xq4, xq5, xq6, xq7, xq8, xq9, xq10, xq11, xq12, xq13, xq14⟩ := hE3.out; simp only at xq0 xq1 xq2 xq3 xq4 xq5 xq6 xq7 xq8 xq9 xq10 xq11 xq12 xq13 xq14; have hn3 : n3 ≤ 30 := (by have := rds_len hr3; rw [List.length_append, List.length_append, List.length_singleton] at this; omega))
    | (go_at_call 45; (with_reducible refine (HT.out _).mono ?_); rintro x w9 ⟨rfl, rfl⟩)
    | (go_at_call 46; (with_reducible refine (HV.out _).mono ?_); rintro x w9 ⟨rfl, rfl⟩))
  clear xq0 xq1 xq2 xq3 xq4 xq5 xq6 xq7 xq8 xq9 xq10 xq11 xq12 xq13 xq14 y0 y1 y2 y3 y4 y5 y6 y7 y8 y9 y10 y11 y12 y13 y14 xp0 xp1 xp2 xp3 xp4 xp5 xp6 xp7 xp8 xp9 xp10 xp11 xp12 xp13 xp14 z0 z1 z2 z3 z4 z5 z6 z7 z8 z9 z10 z11 z12 z13 z14
  clear hr2 hl2 hn2 hb2 hl3 hk hwa hwb hB1 hB2 hb1 hal1 HN1 HN2 HT HV HG
  obtain ⟨bs3, hbs3⟩ : ∃ x, x = [2] ++ enc a ++ enc b := ⟨_, rfl⟩
  have hlb3 : bs3.length ≤ 30 := by rw [hbs3]; simp; omega
  rw [← hbs3] at hr3 HB
  clear hbs3
  have hS0 : StR w w3 (⟨2, (a : Int), (b : Int), v, (p : Int), (q : Int), r0, r1, r2, r3, r4, r5, r6, r7, (d : Int)⟩ : Ev) (.slice A3 n3 c3) bs3 := ⟨hE3.out, hB3, A3, n3, c3, rfl, hr3⟩
  clear hE3 hr3 hB3 HE HAL
  go_loopw [3, 48] (fun u i wr => ∃ k : Nat, k ≤ 3 ∧ i = .int .i64 k ∧ StR w wr (⟨2, (a : Int), (b : Int), v, (p : Int), (q : Int), r0, r1, r2, r3, r4, r5, r6, r7, (d : Int)⟩ : Ev) u (bs3 ++ encN ([(p : Int), (q : Int), (d : Int)].take k))) (fun _ i _ => 3 - (intOf i).toNat)
  case atStart => exact ⟨0, by omega, rfl, by simpa [encN] using hS0⟩
  case round =>
    obtain ⟨W3, rfl⟩ : ∃ x, x = wr := ⟨_, rfl⟩
    obtain ⟨k, hk, rfl, hS⟩ := hrel
    clear hS0
    obtain ⟨A, n, c, rfl, k2⟩ := hS.row
    have hn := rds_len k2
    have hlr := encN_length ([(p : Int), (q : Int), (d : Int)].take k)
    have hlk : ([(p : Int), (q : Int), (d : Int)].take k).length ≤ 3 := by rw [List.length_take]; simp; omega
    rw [List.length_append] at hn
    have hn9 : n ≤ 60 := by omega
    have HN9 : Hid (n ≤ 140737488000000) := by show _ ≤ _; omega
    clear hn hlr hlk
    have hcase : k = 0 ∨ k = 1 ∨ k = 2 ∨ k = 3 := by omega
    rcases hcase with rfl | rfl | rfl | rfl
    · have qi := fun w => idxA (P := Try.prog) 77 3 3 #[.int .i64 (p : Int), .int .i64 (q : Int), .int .i64 (d : Int)] 0 .i64 .i64 (.int .i64 (p : Int)) Try.underlying77 Try.underlying3 rfl (by decide) rfl (0 : Int) rfl w
      have HCI := Lib.hid (rnum A n c _ p HLA.out.2.2.1 W3 k2 HN9.out)
      have HNX : Hid (bs3 ++ encN ([(p : Int), (q : Int), (d : Int)].take 0) ++ enc p = bs3 ++ encN ([(p : Int), (q : Int), (d : Int)].take (0 + 1))) := by show _ = _; simp [encN]
      go_wp2_with (go_at_call 25; (with_reducible refine HCI.out.mono ?_); rintro r w7 ⟨u7, rfl, hx7⟩; have hp7 := hS.puts ⟨u7, rfl, hx7⟩ HNX.out; clear hx7)
      go_roundw
      case rel => exact ⟨0 + 1, by omega, by first | rfl | go_num, hp7⟩
      case measure => simp [intOf]
    · have qi := fun w => idxA (P := Try.prog) 77 3 3 #[.int .i64 (p : Int), .int .i64 (q : Int), .int .i64 (d : Int)] 1 .i64 .i64 (.int .i64 (q : Int)) Try.underlying77 Try.underlying3 rfl (by decide) rfl (1 : Int) rfl w
      have HCI := Lib.hid (rnum A n c _ q HLA.out.2.2.2.1 W3 k2 HN9.out)
      have HNX : Hid (bs3 ++ encN ([(p : Int), (q : Int), (d : Int)].take 1) ++ enc q = bs3 ++ encN ([(p : Int), (q : Int), (d : Int)].take (1 + 1))) := by show _ = _; simp [encN]
      go_wp2_with (go_at_call 25; (with_reducible refine HCI.out.mono ?_); rintro r w7 ⟨u7, rfl, hx7⟩; have hp7 := hS.puts ⟨u7, rfl, hx7⟩ HNX.out; clear hx7)
      go_roundw
      case rel => exact ⟨1 + 1, by omega, by first | rfl | go_num, hp7⟩
      case measure => simp [intOf]
    · have qi := fun w => idxA (P := Try.prog) 77 3 3 #[.int .i64 (p : Int), .int .i64 (q : Int), .int .i64 (d : Int)] 2 .i64 .i64 (.int .i64 (d : Int)) Try.underlying77 Try.underlying3 rfl (by decide) rfl (2 : Int) rfl w
      have HCI := Lib.hid (rnum A n c _ d HLA.out.2.2.2.2 W3 k2 HN9.out)
      have HNX : Hid (bs3 ++ encN ([(p : Int), (q : Int), (d : Int)].take 2) ++ enc d = bs3 ++ encN ([(p : Int), (q : Int), (d : Int)].take (2 + 1))) := by show _ = _; simp [encN]
      go_wp2_with (go_at_call 25; (with_reducible refine HCI.out.mono ?_); rintro r w7 ⟨u7, rfl, hx7⟩; have hp7 := hS.puts ⟨u7, rfl, hx7⟩ HNX.out; clear hx7)
      go_roundw
      case rel => exact ⟨2 + 1, by omega, by first | rfl | go_num, hp7⟩
      case measure => simp [intOf]
    · rw [show ([(p : Int), (q : Int), (d : Int)].take 3) = [(p : Int), (q : Int), (d : Int)] from rfl] at k2 hS
      have hlr := encN_length [(p : Int), (q : Int), (d : Int)]
      obtain ⟨bs4, hbs4⟩ : ∃ x, x = bs3 ++ encN [(p : Int), (q : Int), (d : Int)] := ⟨_, rfl⟩
      have hlb4 : bs4.length ≤ 60 := by rw [hbs4, List.length_append]; simp at hlr ⊢; omega
      rw [← hbs4] at k2 HB hS
      clear hbs4 hlr HN9 hn9
      obtain ⟨_, _, _, _, _, _, q6, q7, q8, q9, q10, q11, q12, q13, _⟩ := hS.ev
      simp only at q6 q7 q8 q9 q10 q11 q12 q13
      go_wp2
      clear q6 q7 q8 q9 q10 q11 q12 q13
      go_loopw [3, 59] (fun u i wr => ∃ k : Nat, k ≤ 8 ∧ i = .int .i64 k ∧ StR w wr (⟨2, (a : Int), (b : Int), v, (p : Int), (q : Int), r0, r1, r2, r3, r4, r5, r6, r7, (d : Int)⟩ : Ev) u (bs4 ++ encs ((evRegs (⟨2, (a : Int), (b : Int), v, (p : Int), (q : Int), r0, r1, r2, r3, r4, r5, r6, r7, (d : Int)⟩ : Ev)).take k))) (fun _ i _ => 8 - (intOf i).toNat)
      case atStart => exact ⟨0, by omega, rfl, by simpa [encs] using hS⟩
      case round =>
        obtain ⟨W4, rfl⟩ : ∃ x, x = wr := ⟨_, rfl⟩
        clear hS k2
        obtain ⟨k, hk8, rfl, hS⟩ := hrel
        obtain ⟨A, n, c, rfl, k2⟩ := hS.row
        have hn := rds_len k2
        have hlr := encs_length ((evRegs (⟨2, (a : Int), (b : Int), v, (p : Int), (q : Int), r0, r1, r2, r3, r4, r5, r6, r7, (d : Int)⟩ : Ev)).take k)
        have hlk : ((evRegs (⟨2, (a : Int), (b : Int), v, (p : Int), (q : Int), r0, r1, r2, r3, r4, r5, r6, r7, (d : Int)⟩ : Ev)).take k).length ≤ 8 := by rw [List.length_take]; omega
        rw [List.length_append] at hn
        have HN9 : Hid (n ≤ 140737488000000) := by show _ ≤ _; omega
        clear hn hlr hlk
        have hcase : k = 0 ∨ k = 1 ∨ k = 2 ∨ k = 3 ∨ k = 4 ∨ k = 5 ∨ k = 6 ∨ k = 7 ∨ k = 8 := by omega
        rcases hcase with rfl | rfl | rfl | rfl | rfl | rfl | rfl | rfl | rfl
        · have qi := fun w => idxA (P := Try.prog) 26 3 8 #[.int .i64 r0, .int .i64 r1, .int .i64 r2, .int .i64 r3, .int .i64 r4, .int .i64 r5, .int .i64 r6, .int .i64 r7] 0 .i64 .i64 (.int .i64 r0) Try.underlying26 Try.underlying3 rfl (by decide) rfl (0 : Int) rfl w
          have HCI := Lib.hid (rint A n c _ r0 (HI.out r0 (by simp [evRegs])) W4 k2 HN9.out)
          have HNX : Hid (bs4 ++ encs ((evRegs (⟨2, (a : Int), (b : Int), v, (p : Int), (q : Int), r0, r1, r2, r3, r4, r5, r6, r7, (d : Int)⟩ : Ev)).take 0) ++ enc (zigN r0) = bs4 ++ encs ((evRegs (⟨2, (a : Int), (b : Int), v, (p : Int), (q : Int), r0, r1, r2, r3, r4, r5, r6, r7, (d : Int)⟩ : Ev)).take (0 + 1))) := by show _ = _; simp [evRegs, encs]
          go_wp2_with (go_at_call 47; (with_reducible refine HCI.out.mono ?_); rintro r w7 ⟨u7, rfl, hx7⟩; have hp7 := hS.puts ⟨u7, rfl, hx7⟩ HNX.out; clear hx7)
          go_roundw
          case rel => exact ⟨0 + 1, by omega, by first | rfl | go_num, hp7⟩
          case measure => simp [intOf]
        · have qi := fun w => idxA (P := Try.prog) 26 3 8 #[.int .i64 r0, .int .i64 r1, .int .i64 r2, .int .i64 r3, .int .i64 r4, .int .i64 r5, .int .i64 r6, .int .i64 r7] 1 .i64 .i64 (.int .i64 r1) Try.underlying26 Try.underlying3 rfl (by decide) rfl (1 : Int) rfl w
          have HCI := Lib.hid (rint A n c _ r1 (HI.out r1 (by simp [evRegs])) W4 k2 HN9.out)
          have HNX : Hid (bs4 ++ encs ((evRegs (⟨2, (a : Int), (b : Int), v, (p : Int), (q : Int), r0, r1, r2, r3, r4, r5, r6, r7, (d : Int)⟩ : Ev)).take 1) ++ enc (zigN r1) = bs4 ++ encs ((evRegs (⟨2, (a : Int), (b : Int), v, (p : Int), (q : Int), r0, r1, r2, r3, r4, r5, r6, r7, (d : Int)⟩ : Ev)).take (1 + 1))) := by show _ = _; simp [evRegs, encs]
          go_wp2_with (go_at_call 47; (with_reducible refine HCI.out.mono ?_); rintro r w7 ⟨u7, rfl, hx7⟩; have hp7 := hS.puts ⟨u7, rfl, hx7⟩ HNX.out; clear hx7)
          go_roundw
          case rel => exact ⟨1 + 1, by omega, by first | rfl | go_num, hp7⟩
          case measure => simp [intOf]
        · have qi := fun w => idxA (P := Try.prog) 26 3 8 #[.int .i64 r0, .int .i64 r1, .int .i64 r2, .int .i64 r3, .int .i64 r4, .int .i64 r5, .int .i64 r6, .int .i64 r7] 2 .i64 .i64 (.int .i64 r2) Try.underlying26 Try.underlying3 rfl (by decide) rfl (2 : Int) rfl w
          have HCI := Lib.hid (rint A n c _ r2 (HI.out r2 (by simp [evRegs])) W4 k2 HN9.out)
          have HNX : Hid (bs4 ++ encs ((evRegs (⟨2, (a : Int), (b : Int), v, (p : Int), (q : Int), r0, r1, r2, r3, r4, r5, r6, r7, (d : Int)⟩ : Ev)).take 2) ++ enc (zigN r2) = bs4 ++ encs ((evRegs (⟨2, (a : Int), (b : Int), v, (p : Int), (q : Int), r0, r1, r2, r3, r4, r5, r6, r7, (d : Int)⟩ : Ev)).take (2 + 1))) := by show _ = _; simp [evRegs, encs]
          go_wp2_with (go_at_call 47; (with_reducible refine HCI.out.mono ?_); rintro r w7 ⟨u7, rfl, hx7⟩; have hp7 := hS.puts ⟨u7, rfl, hx7⟩ HNX.out; clear hx7)
          go_roundw
          case rel => exact ⟨2 + 1, by omega, by first | rfl | go_num, hp7⟩
          case measure => simp [intOf]
        · have qi := fun w => idxA (P := Try.prog) 26 3 8 #[.int .i64 r0, .int .i64 r1, .int .i64 r2, .int .i64 r3, .int .i64 r4, .int .i64 r5, .int .i64 r6, .int .i64 r7] 3 .i64 .i64 (.int .i64 r3) Try.underlying26 Try.underlying3 rfl (by decide) rfl (3 : Int) rfl w
          have HCI := Lib.hid (rint A n c _ r3 (HI.out r3 (by simp [evRegs])) W4 k2 HN9.out)
          have HNX : Hid (bs4 ++ encs ((evRegs (⟨2, (a : Int), (b : Int), v, (p : Int), (q : Int), r0, r1, r2, r3, r4, r5, r6, r7, (d : Int)⟩ : Ev)).take 3) ++ enc (zigN r3) = bs4 ++ encs ((evRegs (⟨2, (a : Int), (b : Int), v, (p : Int), (q : Int), r0, r1, r2, r3, r4, r5, r6, r7, (d : Int)⟩ : Ev)).take (3 + 1))) := by show _ = _; simp [evRegs, encs]
          go_wp2_with (go_at_call 47; (with_reducible refine HCI.out.mono ?_); rintro r w7 ⟨u7, rfl, hx7⟩; have hp7 := hS.puts ⟨u7, rfl, hx7⟩ HNX.out; clear hx7)
          go_roundw
          case rel => exact ⟨3 + 1, by omega, by first | rfl | go_num, hp7⟩
          case measure => simp [intOf]
        · have qi := fun w => idxA (P := Try.prog) 26 3 8 #[.int .i64 r0, .int .i64 r1, .int .i64 r2, .int .i64 r3, .int .i64 r4, .int .i64 r5, .int .i64 r6, .int .i64 r7] 4 .i64 .i64 (.int .i64 r4) Try.underlying26 Try.underlying3 rfl (by decide) rfl (4 : Int) rfl w
          have HCI := Lib.hid (rint A n c _ r4 (HI.out r4 (by simp [evRegs])) W4 k2 HN9.out)
          have HNX : Hid (bs4 ++ encs ((evRegs (⟨2, (a : Int), (b : Int), v, (p : Int), (q : Int), r0, r1, r2, r3, r4, r5, r6, r7, (d : Int)⟩ : Ev)).take 4) ++ enc (zigN r4) = bs4 ++ encs ((evRegs (⟨2, (a : Int), (b : Int), v, (p : Int), (q : Int), r0, r1, r2, r3, r4, r5, r6, r7, (d : Int)⟩ : Ev)).take (4 + 1))) := by show _ = _; simp [evRegs, encs]
          go_wp2_with (go_at_call 47; (with_reducible refine HCI.out.mono ?_); rintro r w7 ⟨u7, rfl, hx7⟩; have hp7 := hS.puts ⟨u7, rfl, hx7⟩ HNX.out; clear hx7)
          go_roundw
          case rel => exact ⟨4 + 1, by omega, by first | rfl | go_num, hp7⟩
          case measure => simp [intOf]
        · have qi := fun w => idxA (P := Try.prog) 26 3 8 #[.int .i64 r0, .int .i64 r1, .int .i64 r2, .int .i64 r3, .int .i64 r4, .int .i64 r5, .int .i64 r6, .int .i64 r7] 5 .i64 .i64 (.int .i64 r5) Try.underlying26 Try.underlying3 rfl (by decide) rfl (5 : Int) rfl w
          have HCI := Lib.hid (rint A n c _ r5 (HI.out r5 (by simp [evRegs])) W4 k2 HN9.out)
          have HNX : Hid (bs4 ++ encs ((evRegs (⟨2, (a : Int), (b : Int), v, (p : Int), (q : Int), r0, r1, r2, r3, r4, r5, r6, r7, (d : Int)⟩ : Ev)).take 5) ++ enc (zigN r5) = bs4 ++ encs ((evRegs (⟨2, (a : Int), (b : Int), v, (p : Int), (q : Int), r0, r1, r2, r3, r4, r5, r6, r7, (d : Int)⟩ : Ev)).take (5 + 1))) := by show _ = _; simp [evRegs, encs]
          go_wp2_with (go_at_call 47; (with_reducible refine HCI.out.mono ?_); rintro r w7 ⟨u7, rfl, hx7⟩; have hp7 := hS.puts ⟨u7, rfl, hx7⟩ HNX.out; clear hx7)
          go_roundw
          case rel => exact ⟨5 + 1, by omega, by first | rfl | go_num, hp7⟩
          case measure => simp [intOf]
        · have qi := fun w => idxA (P := Try.prog) 26 3 8 #[.int .i64 r0, .int .i64 r1, .int .i64 r2, .int .i64 r3, .int .i64 r4, .int .i64 r5, .int .i64 r6, .int .i64 r7] 6 .i64 .i64 (.int .i64 r6) Try.underlying26 Try.underlying3 rfl (by decide) rfl (6 : Int) rfl w
          have HCI := Lib.hid (rint A n c _ r6 (HI.out r6 (by simp [evRegs])) W4 k2 HN9.out)
          have HNX : Hid (bs4 ++ encs ((evRegs (⟨2, (a : Int), (b : Int), v, (p : Int), (q : Int), r0, r1, r2, r3, r4, r5, r6, r7, (d : Int)⟩ : Ev)).take 6) ++ enc (zigN r6) = bs4 ++ encs ((evRegs (⟨2, (a : Int), (b : Int), v, (p : Int), (q : Int), r0, r1, r2, r3, r4, r5, r6, r7, (d : Int)⟩ : Ev)).take (6 + 1))) := by show _ = _; simp [evRegs, encs]
          go_wp2_with (go_at_call 47; (with_reducible refine HCI.out.mono ?_); rintro r w7 ⟨u7, rfl, hx7⟩; have hp7 := hS.puts ⟨u7, rfl, hx7⟩ HNX.out; clear hx7)
          go_roundw
          case rel => exact ⟨6 + 1, by omega, by first | rfl | go_num, hp7⟩
          case measure => simp [intOf]
        · have qi := fun w => idxA (P := Try.prog) 26 3 8 #[.int .i64 r0, .int .i64 r1, .int .i64 r2, .int .i64 r3, .int .i64 r4, .int .i64 r5, .int .i64 r6, .int .i64 r7] 7 .i64 .i64 (.int .i64 r7) Try.underlying26 Try.underlying3 rfl (by decide) rfl (7 : Int) rfl w
          have HCI := Lib.hid (rint A n c _ r7 (HI.out r7 (by simp [evRegs])) W4 k2 HN9.out)
          have HNX : Hid (bs4 ++ encs ((evRegs (⟨2, (a : Int), (b : Int), v, (p : Int), (q : Int), r0, r1, r2, r3, r4, r5, r6, r7, (d : Int)⟩ : Ev)).take 7) ++ enc (zigN r7) = bs4 ++ encs ((evRegs (⟨2, (a : Int), (b : Int), v, (p : Int), (q : Int), r0, r1, r2, r3, r4, r5, r6, r7, (d : Int)⟩ : Ev)).take (7 + 1))) := by show _ = _; simp [evRegs, encs]
          go_wp2_with (go_at_call 47; (with_reducible refine HCI.out.mono ?_); rintro r w7 ⟨u7, rfl, hx7⟩; have hp7 := hS.puts ⟨u7, rfl, hx7⟩ HNX.out; clear hx7)
          go_roundw
          case rel => exact ⟨7 + 1, by omega, by first | rfl | go_num, hp7⟩
          case measure => simp [intOf]
        · go_wp2
          go_ret
          rw [HB.out]
          exact ⟨A, n, c, rfl, hS.be, k2⟩
end Go.Proofs.Ytdnddoiemaifjaa
