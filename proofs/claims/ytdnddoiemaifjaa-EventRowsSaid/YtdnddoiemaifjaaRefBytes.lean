/- The reference's Bytes of an event that may be, of any kind but Preempted. -/
import Derived.Test.YtdnddoiemaifjaaRefGood2
import Derived.Test.YtdnddoiemaifjaaRefInt
import Derived.Test.YtdnddoiemaifjaaEvBytes
namespace Go.Proofs.Ytdnddoiemaifjaa
open Go.RowKit
theorem wrap_nat (a : Nat) (h : a ≤ 1099511627776) : IntKind.u64.wrap (a : Int) = a := by rw [IntKind.wrap_u64]; omega
set_option maxRecDepth 100000 in
set_option maxHeartbeats 16000000 in
theorem rbytes1 (a b v : Nat) (e4 e5 e6 e7 e8 e9 e10 e11 e12 e13 e14 : Int) (hg : goodB (⟨1, (a : Int), (b : Int), (v : Int), e4, e5, e6, e7, e8, e9, e10, e11, e12, e13, e14⟩ : Ev) = true) (ha : a ≤ 1099511627776) (hb : b ≤ 1099511627776) (hv : v ≤ 1000) (w : World) : Calls Try.prog 26 #[.agg #[.int .i64 1, .int .i64 (a : Int), .int .i64 (b : Int), .int .i64 (v : Int), .int .i64 e4, .int .i64 e5, .int .i64 e6, .int .i64 e7, .int .i64 e8, .int .i64 e9, .int .i64 e10, .int .i64 e11, .int .i64 e12, .int .i64 e13, .int .i64 e14]] w (Byt w (bytesEv (⟨1, (a : Int), (b : Int), (v : Int), e4, e5, e6, e7, e8, e9, e10, e11, e12, e13, e14⟩ : Ev))) := by
  have HB : Hid (bytesEv (⟨1, (a : Int), (b : Int), (v : Int), e4, e5, e6, e7, e8, e9, e10, e11, e12, e13, e14⟩ : Ev) = [1] ++ enc a) := by show _ = _; simp [bytesEv, tT, tV, tC]
  have hG := fun W => rgood (⟨1, (a : Int), (b : Int), (v : Int), e4, e5, e6, e7, e8, e9, e10, e11, e12, e13, e14⟩ : Ev) W
  rw [hg] at hG
  unfold evV at hG
  have HG := Lib.hid hG
  have HE := Lib.hid (ev_new (⟨1, (a : Int), (b : Int), (v : Int), e4, e5, e6, e7, e8, e9, e10, e11, e12, e13, e14⟩ : Ev) w 30)
  have HAL : Hid (Below w.heap.size w (w.alloc (.cells #[.int .i64 1, .int .i64 (a : Int), .int .i64 (b : Int), .int .i64 (v : Int), .int .i64 e4, .int .i64 e5, .int .i64 e6, .int .i64 e7, .int .i64 e8, .int .i64 e9, .int .i64 e10, .int .i64 e11, .int .i64 e12, .int .i64 e13, .int .i64 e14] 30))) := below_al (Below.refl _ _) _
  unfold evC at HE
  simp only at HE HG
  have HT := Lib.hid (fun W => (rthreads 1 W : Calls Try.prog 45 #[.int .i64 1] W fun e w' => e = .returned (.bool false) ∧ W = w'))
  have HV := Lib.hid (fun W => (rvalues 1 W : Calls Try.prog 46 #[.int .i64 1] W fun e w' => e = .returned (.bool false) ∧ W = w'))
  have hwa := wrap_nat a ha
  have hwb := wrap_nat b hb
  have hwv := wrap_nat v (by omega)
  have hk : IntKind.u8.wrap 1 = 1 := by decide
  have HLA : Hid (a < 18446744073709551616 ∧ b < 18446744073709551616 ∧ v < 18446744073709551616) := ⟨by omega, by omega, by omega⟩
  have hla := enc_length a
  have hlb := enc_length b
  rw [HB.out]
  clear hG hg ha hb hv
  go_enter Try.func26, Try.ntmps26
  go_wp2_with (first
    | (go_at_call 34; (with_reducible refine (HG.out _).mono ?_); rintro x w1 ⟨rfl, hb1⟩; have hal1 : Below w1.heap.size w1 (w1.alloc (.cells #[.int .u8 1] 5)) := below_al (Below.refl _ _) _; have hE2 := HE.out.below (below_tr hb1 hal1); obtain ⟨z0, z1, z2, z3, z4, z5, z6, z7, z8, z9, z10, z11, z12, z13, z14⟩ := (HE.out.below hb1); simp only at z0 z1 z2 z3 z4 z5 z6 z7 z8 z9 z10 z11 z12 z13 z14; obtain ⟨y0, y1, y2, y3, y4, y5, y6, y7, y8, y9, y10, y11, y12, y13, y14⟩ := hE2; simp only at y0 y1 y2 y3 y4 y5 y6 y7 y8 y9 y10 y11 y12 y13 y14; have hr1 : Rds (w1.alloc (.cells #[.int .u8 1] 5)) 1 (some ⟨w1.heap.size, 0, none⟩) 1 1 (nums .u8 [1]) := rds_lit w1 _ 1 1 (nums .u8 [1]) rfl (by decide); have HN1 := Lib.hid (rnum _ 1 1 [1] a HLA.out.1 _ hr1 (by decide)); have hB1 := below_tr (below_then HAL.out HAL.out.size hb1) hal1; clear hr1)
    | (go_at_call 25; (with_reducible refine HN1.out.mono ?_); rintro x w2 h2; obtain ⟨A2, n2, c2, rfl, hl2, hr2, hb2, _⟩ := h2.open_; have hB2 := below_tr hB1 hb2; obtain ⟨p0, p1, p2, p3, p4, p5, p6, p7, p8, p9, p10, p11, p12, p13, p14⟩ := (HE.out.below (below_tr (below_tr hb1 hal1) hb2)); simp only at p0 p1 p2 p3 p4 p5 p6 p7 p8 p9 p10 p11 p12 p13 p14; have hn2 : n2 ≤ 11 := (by have := rds_len hr2; rw [List.length_append, List.length_singleton] at this; omega); skip)
    | (go_at_call 45; (with_reducible refine (HT.out _).mono ?_); rintro x w9 ⟨rfl, rfl⟩)
    | (go_at_call 46; (with_reducible refine (HV.out _).mono ?_); rintro x w9 ⟨rfl, rfl⟩))
  go_ret
  exact ⟨_, _, _, rfl, hB2, hr2⟩
set_option maxRecDepth 100000 in
set_option maxHeartbeats 16000000 in
theorem rbytes3 (a b v : Nat) (e4 e5 e6 e7 e8 e9 e10 e11 e12 e13 e14 : Int) (hg : goodB (⟨3, (a : Int), (b : Int), (v : Int), e4, e5, e6, e7, e8, e9, e10, e11, e12, e13, e14⟩ : Ev) = true) (ha : a ≤ 1099511627776) (hb : b ≤ 1099511627776) (hv : v ≤ 1000) (w : World) : Calls Try.prog 26 #[.agg #[.int .i64 3, .int .i64 (a : Int), .int .i64 (b : Int), .int .i64 (v : Int), .int .i64 e4, .int .i64 e5, .int .i64 e6, .int .i64 e7, .int .i64 e8, .int .i64 e9, .int .i64 e10, .int .i64 e11, .int .i64 e12, .int .i64 e13, .int .i64 e14]] w (Byt w (bytesEv (⟨3, (a : Int), (b : Int), (v : Int), e4, e5, e6, e7, e8, e9, e10, e11, e12, e13, e14⟩ : Ev))) := by
  have HB : Hid (bytesEv (⟨3, (a : Int), (b : Int), (v : Int), e4, e5, e6, e7, e8, e9, e10, e11, e12, e13, e14⟩ : Ev) = [3] ++ enc a ++ enc b) := by show _ = _; simp [bytesEv, tT, tV, tC]
  have hG := fun W => rgood (⟨3, (a : Int), (b : Int), (v : Int), e4, e5, e6, e7, e8, e9, e10, e11, e12, e13, e14⟩ : Ev) W
  rw [hg] at hG
  unfold evV at hG
  have HG := Lib.hid hG
  have HE := Lib.hid (ev_new (⟨3, (a : Int), (b : Int), (v : Int), e4, e5, e6, e7, e8, e9, e10, e11, e12, e13, e14⟩ : Ev) w 30)
  have HAL : Hid (Below w.heap.size w (w.alloc (.cells #[.int .i64 3, .int .i64 (a : Int), .int .i64 (b : Int), .int .i64 (v : Int), .int .i64 e4, .int .i64 e5, .int .i64 e6, .int .i64 e7, .int .i64 e8, .int .i64 e9, .int .i64 e10, .int .i64 e11, .int .i64 e12, .int .i64 e13, .int .i64 e14] 30))) := below_al (Below.refl _ _) _
  unfold evC at HE
  simp only at HE HG
  have HT := Lib.hid (fun W => (rthreads 3 W : Calls Try.prog 45 #[.int .i64 3] W fun e w' => e = .returned (.bool true) ∧ W = w'))
  have HV := Lib.hid (fun W => (rvalues 3 W : Calls Try.prog 46 #[.int .i64 3] W fun e w' => e = .returned (.bool false) ∧ W = w'))
  have hwa := wrap_nat a ha
  have hwb := wrap_nat b hb
  have hwv := wrap_nat v (by omega)
  have hk : IntKind.u8.wrap 3 = 3 := by decide
  have HLA : Hid (a < 18446744073709551616 ∧ b < 18446744073709551616 ∧ v < 18446744073709551616) := ⟨by omega, by omega, by omega⟩
  have hla := enc_length a
  have hlb := enc_length b
  rw [HB.out]
  clear hG hg ha hb hv
  go_enter Try.func26, Try.ntmps26
  go_wp2_with (first
    | (go_at_call 34; (with_reducible refine (HG.out _).mono ?_); rintro x w1 ⟨rfl, hb1⟩; have hal1 : Below w1.heap.size w1 (w1.alloc (.cells #[.int .u8 3] 5)) := below_al (Below.refl _ _) _; have hE2 := HE.out.below (below_tr hb1 hal1); obtain ⟨z0, z1, z2, z3, z4, z5, z6, z7, z8, z9, z10, z11, z12, z13, z14⟩ := (HE.out.below hb1); simp only at z0 z1 z2 z3 z4 z5 z6 z7 z8 z9 z10 z11 z12 z13 z14; obtain ⟨y0, y1, y2, y3, y4, y5, y6, y7, y8, y9, y10, y11, y12, y13, y14⟩ := hE2; simp only at y0 y1 y2 y3 y4 y5 y6 y7 y8 y9 y10 y11 y12 y13 y14; have hr1 : Rds (w1.alloc (.cells #[.int .u8 3] 5)) 1 (some ⟨w1.heap.size, 0, none⟩) 1 1 (nums .u8 [3]) := rds_lit w1 _ 1 1 (nums .u8 [3]) rfl (by decide); have HN1 := Lib.hid (rnum _ 1 1 [3] a HLA.out.1 _ hr1 (by decide)); have hB1 := below_tr (below_then HAL.out HAL.out.size hb1) hal1; clear hr1)
    | (go_at_call 25; (with_reducible refine HN1.out.mono ?_); rintro x w2 h2; obtain ⟨A2, n2, c2, rfl, hl2, hr2, hb2, _⟩ := h2.open_; have hB2 := below_tr hB1 hb2; obtain ⟨p0, p1, p2, p3, p4, p5, p6, p7, p8, p9, p10, p11, p12, p13, p14⟩ := (HE.out.below (below_tr (below_tr hb1 hal1) hb2)); simp only at p0 p1 p2 p3 p4 p5 p6 p7 p8 p9 p10 p11 p12 p13 p14; have hn2 : n2 ≤ 11 := (by have := rds_len hr2; rw [List.length_append, List.length_singleton] at this; omega); have HN2 := Lib.hid (rnum A2 n2 c2 _ b HLA.out.2.1 w2 hr2 (by omega)))
    | (go_at_call 25; (with_reducible refine HN2.out.mono ?_); rintro x w3 h3; obtain ⟨A3, n3, c3, rfl, hl3, hr3, hb3, _⟩ := h3.open_; have hB3 := below_tr hB2 hb3; obtain ⟨q0, q1, q2, q3, q4, q5, q6, q7, q8, q9, q10, q11, q12, q13, q14⟩ := (HE.out.below (below_tr (below_tr (below_tr hb1 hal1) hb2) hb3)); simp only at q0 q1 q2 q3 q4 q5 q6 q7 q8 q9 q10 q11 q12 q13 q14; have hn3 : n3 ≤ 30 := (by have := rds_len hr3; rw [List.length_append, List.length_append, List.length_singleton] at this; omega); skip)
    | (go_at_call 45; (with_reducible refine (HT.out _).mono ?_); rintro x w9 ⟨rfl, rfl⟩)
    | (go_at_call 46; (with_reducible refine (HV.out _).mono ?_); rintro x w9 ⟨rfl, rfl⟩))
  go_ret
  exact ⟨_, _, _, rfl, hB3, hr3⟩
set_option maxRecDepth 100000 in
set_option maxHeartbeats 16000000 in
theorem rbytes4 (a b v : Nat) (e4 e5 e6 e7 e8 e9 e10 e11 e12 e13 e14 : Int) (hg : goodB (⟨4, (a : Int), (b : Int), (v : Int), e4, e5, e6, e7, e8, e9, e10, e11, e12, e13, e14⟩ : Ev) = true) (ha : a ≤ 1099511627776) (hb : b ≤ 1099511627776) (hv : v ≤ 1000) (w : World) : Calls Try.prog 26 #[.agg #[.int .i64 4, .int .i64 (a : Int), .int .i64 (b : Int), .int .i64 (v : Int), .int .i64 e4, .int .i64 e5, .int .i64 e6, .int .i64 e7, .int .i64 e8, .int .i64 e9, .int .i64 e10, .int .i64 e11, .int .i64 e12, .int .i64 e13, .int .i64 e14]] w (Byt w (bytesEv (⟨4, (a : Int), (b : Int), (v : Int), e4, e5, e6, e7, e8, e9, e10, e11, e12, e13, e14⟩ : Ev))) := by
  have HB : Hid (bytesEv (⟨4, (a : Int), (b : Int), (v : Int), e4, e5, e6, e7, e8, e9, e10, e11, e12, e13, e14⟩ : Ev) = [4] ++ enc a ++ enc b ++ enc v) := by show _ = _; simp [bytesEv, tT, tV, tC]
  have hG := fun W => rgood (⟨4, (a : Int), (b : Int), (v : Int), e4, e5, e6, e7, e8, e9, e10, e11, e12, e13, e14⟩ : Ev) W
  rw [hg] at hG
  unfold evV at hG
  have HG := Lib.hid hG
  have HE := Lib.hid (ev_new (⟨4, (a : Int), (b : Int), (v : Int), e4, e5, e6, e7, e8, e9, e10, e11, e12, e13, e14⟩ : Ev) w 30)
  have HAL : Hid (Below w.heap.size w (w.alloc (.cells #[.int .i64 4, .int .i64 (a : Int), .int .i64 (b : Int), .int .i64 (v : Int), .int .i64 e4, .int .i64 e5, .int .i64 e6, .int .i64 e7, .int .i64 e8, .int .i64 e9, .int .i64 e10, .int .i64 e11, .int .i64 e12, .int .i64 e13, .int .i64 e14] 30))) := below_al (Below.refl _ _) _
  unfold evC at HE
  simp only at HE HG
  have HT := Lib.hid (fun W => (rthreads 4 W : Calls Try.prog 45 #[.int .i64 4] W fun e w' => e = .returned (.bool true) ∧ W = w'))
  have HV := Lib.hid (fun W => (rvalues 4 W : Calls Try.prog 46 #[.int .i64 4] W fun e w' => e = .returned (.bool true) ∧ W = w'))
  have hwa := wrap_nat a ha
  have hwb := wrap_nat b hb
  have hwv := wrap_nat v (by omega)
  have hk : IntKind.u8.wrap 4 = 4 := by decide
  have HLA : Hid (a < 18446744073709551616 ∧ b < 18446744073709551616 ∧ v < 18446744073709551616) := ⟨by omega, by omega, by omega⟩
  have hla := enc_length a
  have hlb := enc_length b
  rw [HB.out]
  clear hG hg ha hb hv
  go_enter Try.func26, Try.ntmps26
  go_wp2_with (first
    | (go_at_call 34; (with_reducible refine (HG.out _).mono ?_); rintro x w1 ⟨rfl, hb1⟩; have hal1 : Below w1.heap.size w1 (w1.alloc (.cells #[.int .u8 4] 5)) := below_al (Below.refl _ _) _; have hE2 := HE.out.below (below_tr hb1 hal1); obtain ⟨z0, z1, z2, z3, z4, z5, z6, z7, z8, z9, z10, z11, z12, z13, z14⟩ := (HE.out.below hb1); simp only at z0 z1 z2 z3 z4 z5 z6 z7 z8 z9 z10 z11 z12 z13 z14; obtain ⟨y0, y1, y2, y3, y4, y5, y6, y7, y8, y9, y10, y11, y12, y13, y14⟩ := hE2; simp only at y0 y1 y2 y3 y4 y5 y6 y7 y8 y9 y10 y11 y12 y13 y14; have hr1 : Rds (w1.alloc (.cells #[.int .u8 4] 5)) 1 (some ⟨w1.heap.size, 0, none⟩) 1 1 (nums .u8 [4]) := rds_lit w1 _ 1 1 (nums .u8 [4]) rfl (by decide); have HN1 := Lib.hid (rnum _ 1 1 [4] a HLA.out.1 _ hr1 (by decide)); have hB1 := below_tr (below_then HAL.out HAL.out.size hb1) hal1; clear hr1)
    | (go_at_call 25; (with_reducible refine HN1.out.mono ?_); rintro x w2 h2; obtain ⟨A2, n2, c2, rfl, hl2, hr2, hb2, _⟩ := h2.open_; have hB2 := below_tr hB1 hb2; obtain ⟨p0, p1, p2, p3, p4, p5, p6, p7, p8, p9, p10, p11, p12, p13, p14⟩ := (HE.out.below (below_tr (below_tr hb1 hal1) hb2)); simp only at p0 p1 p2 p3 p4 p5 p6 p7 p8 p9 p10 p11 p12 p13 p14; have hn2 : n2 ≤ 11 := (by have := rds_len hr2; rw [List.length_append, List.length_singleton] at this; omega); have HN2 := Lib.hid (rnum A2 n2 c2 _ b HLA.out.2.1 w2 hr2 (by omega)))
    | (go_at_call 25; (with_reducible refine HN2.out.mono ?_); rintro x w3 h3; obtain ⟨A3, n3, c3, rfl, hl3, hr3, hb3, _⟩ := h3.open_; have hB3 := below_tr hB2 hb3; obtain ⟨q0, q1, q2, q3, q4, q5, q6, q7, q8, q9, q10, q11, q12, q13, q14⟩ := (HE.out.below (below_tr (below_tr (below_tr hb1 hal1) hb2) hb3)); simp only at q0 q1 q2 q3 q4 q5 q6 q7 q8 q9 q10 q11 q12 q13 q14; have hn3 : n3 ≤ 30 := (by have := rds_len hr3; rw [List.length_append, List.length_append, List.length_singleton] at this; omega); have HN3 := Lib.hid (rnum A3 n3 c3 _ v HLA.out.2.2 w3 hr3 (by omega)))
    | (go_at_call 25; (with_reducible refine HN3.out.mono ?_); rintro x w4 h4; obtain ⟨A4, n4, c4, rfl, hl4, hr4, hb4, _⟩ := h4.open_; have hB4 := below_tr hB3 hb4; obtain ⟨r0, r1, r2, r3, r4, r5, r6, r7, r8, r9, r10, r11, r12, r13, r14⟩ := (HE.out.below (below_tr (below_tr (below_tr (below_tr hb1 hal1) hb2) hb3) hb4)); simp only at r0 r1 r2 r3 r4 r5 r6 r7 r8 r9 r10 r11 r12 r13 r14)
    | (go_at_call 45; (with_reducible refine (HT.out _).mono ?_); rintro x w9 ⟨rfl, rfl⟩)
    | (go_at_call 46; (with_reducible refine (HV.out _).mono ?_); rintro x w9 ⟨rfl, rfl⟩))
  go_ret
  exact ⟨_, _, _, rfl, hB4, hr4⟩
set_option maxRecDepth 100000 in
set_option maxHeartbeats 16000000 in
theorem rbytes5 (a b v : Nat) (e4 e5 e6 e7 e8 e9 e10 e11 e12 e13 e14 : Int) (hg : goodB (⟨5, (a : Int), (b : Int), (v : Int), e4, e5, e6, e7, e8, e9, e10, e11, e12, e13, e14⟩ : Ev) = true) (ha : a ≤ 1099511627776) (hb : b ≤ 1099511627776) (hv : v ≤ 1000) (w : World) : Calls Try.prog 26 #[.agg #[.int .i64 5, .int .i64 (a : Int), .int .i64 (b : Int), .int .i64 (v : Int), .int .i64 e4, .int .i64 e5, .int .i64 e6, .int .i64 e7, .int .i64 e8, .int .i64 e9, .int .i64 e10, .int .i64 e11, .int .i64 e12, .int .i64 e13, .int .i64 e14]] w (Byt w (bytesEv (⟨5, (a : Int), (b : Int), (v : Int), e4, e5, e6, e7, e8, e9, e10, e11, e12, e13, e14⟩ : Ev))) := by
  have HB : Hid (bytesEv (⟨5, (a : Int), (b : Int), (v : Int), e4, e5, e6, e7, e8, e9, e10, e11, e12, e13, e14⟩ : Ev) = [5] ++ enc a ++ enc v) := by show _ = _; simp [bytesEv, tT, tV, tC]
  have hG := fun W => rgood (⟨5, (a : Int), (b : Int), (v : Int), e4, e5, e6, e7, e8, e9, e10, e11, e12, e13, e14⟩ : Ev) W
  rw [hg] at hG
  unfold evV at hG
  have HG := Lib.hid hG
  have HE := Lib.hid (ev_new (⟨5, (a : Int), (b : Int), (v : Int), e4, e5, e6, e7, e8, e9, e10, e11, e12, e13, e14⟩ : Ev) w 30)
  have HAL : Hid (Below w.heap.size w (w.alloc (.cells #[.int .i64 5, .int .i64 (a : Int), .int .i64 (b : Int), .int .i64 (v : Int), .int .i64 e4, .int .i64 e5, .int .i64 e6, .int .i64 e7, .int .i64 e8, .int .i64 e9, .int .i64 e10, .int .i64 e11, .int .i64 e12, .int .i64 e13, .int .i64 e14] 30))) := below_al (Below.refl _ _) _
  unfold evC at HE
  simp only at HE HG
  have HT := Lib.hid (fun W => (rthreads 5 W : Calls Try.prog 45 #[.int .i64 5] W fun e w' => e = .returned (.bool false) ∧ W = w'))
  have HV := Lib.hid (fun W => (rvalues 5 W : Calls Try.prog 46 #[.int .i64 5] W fun e w' => e = .returned (.bool true) ∧ W = w'))
  have hwa := wrap_nat a ha
  have hwb := wrap_nat b hb
  have hwv := wrap_nat v (by omega)
  have hk : IntKind.u8.wrap 5 = 5 := by decide
  have HLA : Hid (a < 18446744073709551616 ∧ b < 18446744073709551616 ∧ v < 18446744073709551616) := ⟨by omega, by omega, by omega⟩
  have hla := enc_length a
  have hlb := enc_length b
  rw [HB.out]
  clear hG hg ha hb hv
  go_enter Try.func26, Try.ntmps26
  go_wp2_with (first
    | (go_at_call 34; (with_reducible refine (HG.out _).mono ?_); rintro x w1 ⟨rfl, hb1⟩; have hal1 : Below w1.heap.size w1 (w1.alloc (.cells #[.int .u8 5] 5)) := below_al (Below.refl _ _) _; have hE2 := HE.out.below (below_tr hb1 hal1); obtain ⟨z0, z1, z2, z3, z4, z5, z6, z7, z8, z9, z10, z11, z12, z13, z14⟩ := (HE.out.below hb1); simp only at z0 z1 z2 z3 z4 z5 z6 z7 z8 z9 z10 z11 z12 z13 z14; obtain ⟨y0, y1, y2, y3, y4, y5, y6, y7, y8, y9, y10, y11, y12, y13, y14⟩ := hE2; simp only at y0 y1 y2 y3 y4 y5 y6 y7 y8 y9 y10 y11 y12 y13 y14; have hr1 : Rds (w1.alloc (.cells #[.int .u8 5] 5)) 1 (some ⟨w1.heap.size, 0, none⟩) 1 1 (nums .u8 [5]) := rds_lit w1 _ 1 1 (nums .u8 [5]) rfl (by decide); have HN1 := Lib.hid (rnum _ 1 1 [5] a HLA.out.1 _ hr1 (by decide)); have hB1 := below_tr (below_then HAL.out HAL.out.size hb1) hal1; clear hr1)
    | (go_at_call 25; (with_reducible refine HN1.out.mono ?_); rintro x w2 h2; obtain ⟨A2, n2, c2, rfl, hl2, hr2, hb2, _⟩ := h2.open_; have hB2 := below_tr hB1 hb2; obtain ⟨p0, p1, p2, p3, p4, p5, p6, p7, p8, p9, p10, p11, p12, p13, p14⟩ := (HE.out.below (below_tr (below_tr hb1 hal1) hb2)); simp only at p0 p1 p2 p3 p4 p5 p6 p7 p8 p9 p10 p11 p12 p13 p14; have hn2 : n2 ≤ 11 := (by have := rds_len hr2; rw [List.length_append, List.length_singleton] at this; omega); have HN2 := Lib.hid (rnum A2 n2 c2 _ v HLA.out.2.2 w2 hr2 (by omega)))
    | (go_at_call 25; (with_reducible refine HN2.out.mono ?_); rintro x w3 h3; obtain ⟨A3, n3, c3, rfl, hl3, hr3, hb3, _⟩ := h3.open_; have hB3 := below_tr hB2 hb3; obtain ⟨q0, q1, q2, q3, q4, q5, q6, q7, q8, q9, q10, q11, q12, q13, q14⟩ := (HE.out.below (below_tr (below_tr (below_tr hb1 hal1) hb2) hb3)); simp only at q0 q1 q2 q3 q4 q5 q6 q7 q8 q9 q10 q11 q12 q13 q14)
    | (go_at_call 45; (with_reducible refine (HT.out _).mono ?_); rintro x w9 ⟨rfl, rfl⟩)
    | (go_at_call 46; (with_reducible refine (HV.out _).mono ?_); rintro x w9 ⟨rfl, rfl⟩))
  go_ret
  exact ⟨_, _, _, rfl, hB3, hr3⟩
set_option maxRecDepth 100000 in
set_option maxHeartbeats 16000000 in
theorem rbytes6 (a b v : Nat) (e4 e5 e6 e7 e8 e9 e10 e11 e12 e13 e14 : Int) (hg : goodB (⟨6, (a : Int), (b : Int), (v : Int), e4, e5, e6, e7, e8, e9, e10, e11, e12, e13, e14⟩ : Ev) = true) (ha : a ≤ 1099511627776) (hb : b ≤ 1099511627776) (hv : v ≤ 1000) (w : World) : Calls Try.prog 26 #[.agg #[.int .i64 6, .int .i64 (a : Int), .int .i64 (b : Int), .int .i64 (v : Int), .int .i64 e4, .int .i64 e5, .int .i64 e6, .int .i64 e7, .int .i64 e8, .int .i64 e9, .int .i64 e10, .int .i64 e11, .int .i64 e12, .int .i64 e13, .int .i64 e14]] w (Byt w (bytesEv (⟨6, (a : Int), (b : Int), (v : Int), e4, e5, e6, e7, e8, e9, e10, e11, e12, e13, e14⟩ : Ev))) := by
  have HB : Hid (bytesEv (⟨6, (a : Int), (b : Int), (v : Int), e4, e5, e6, e7, e8, e9, e10, e11, e12, e13, e14⟩ : Ev) = [6] ++ enc a) := by show _ = _; simp [bytesEv, tT, tV, tC]
  have hG := fun W => rgood (⟨6, (a : Int), (b : Int), (v : Int), e4, e5, e6, e7, e8, e9, e10, e11, e12, e13, e14⟩ : Ev) W
  rw [hg] at hG
  unfold evV at hG
  have HG := Lib.hid hG
  have HE := Lib.hid (ev_new (⟨6, (a : Int), (b : Int), (v : Int), e4, e5, e6, e7, e8, e9, e10, e11, e12, e13, e14⟩ : Ev) w 30)
  have HAL : Hid (Below w.heap.size w (w.alloc (.cells #[.int .i64 6, .int .i64 (a : Int), .int .i64 (b : Int), .int .i64 (v : Int), .int .i64 e4, .int .i64 e5, .int .i64 e6, .int .i64 e7, .int .i64 e8, .int .i64 e9, .int .i64 e10, .int .i64 e11, .int .i64 e12, .int .i64 e13, .int .i64 e14] 30))) := below_al (Below.refl _ _) _
  unfold evC at HE
  simp only at HE HG
  have HT := Lib.hid (fun W => (rthreads 6 W : Calls Try.prog 45 #[.int .i64 6] W fun e w' => e = .returned (.bool false) ∧ W = w'))
  have HV := Lib.hid (fun W => (rvalues 6 W : Calls Try.prog 46 #[.int .i64 6] W fun e w' => e = .returned (.bool false) ∧ W = w'))
  have hwa := wrap_nat a ha
  have hwb := wrap_nat b hb
  have hwv := wrap_nat v (by omega)
  have hk : IntKind.u8.wrap 6 = 6 := by decide
  have HLA : Hid (a < 18446744073709551616 ∧ b < 18446744073709551616 ∧ v < 18446744073709551616) := ⟨by omega, by omega, by omega⟩
  have hla := enc_length a
  have hlb := enc_length b
  rw [HB.out]
  clear hG hg ha hb hv
  go_enter Try.func26, Try.ntmps26
  go_wp2_with (first
    | (go_at_call 34; (with_reducible refine (HG.out _).mono ?_); rintro x w1 ⟨rfl, hb1⟩; have hal1 : Below w1.heap.size w1 (w1.alloc (.cells #[.int .u8 6] 5)) := below_al (Below.refl _ _) _; have hE2 := HE.out.below (below_tr hb1 hal1); obtain ⟨z0, z1, z2, z3, z4, z5, z6, z7, z8, z9, z10, z11, z12, z13, z14⟩ := (HE.out.below hb1); simp only at z0 z1 z2 z3 z4 z5 z6 z7 z8 z9 z10 z11 z12 z13 z14; obtain ⟨y0, y1, y2, y3, y4, y5, y6, y7, y8, y9, y10, y11, y12, y13, y14⟩ := hE2; simp only at y0 y1 y2 y3 y4 y5 y6 y7 y8 y9 y10 y11 y12 y13 y14; have hr1 : Rds (w1.alloc (.cells #[.int .u8 6] 5)) 1 (some ⟨w1.heap.size, 0, none⟩) 1 1 (nums .u8 [6]) := rds_lit w1 _ 1 1 (nums .u8 [6]) rfl (by decide); have HN1 := Lib.hid (rnum _ 1 1 [6] a HLA.out.1 _ hr1 (by decide)); have hB1 := below_tr (below_then HAL.out HAL.out.size hb1) hal1; clear hr1)
    | (go_at_call 25; (with_reducible refine HN1.out.mono ?_); rintro x w2 h2; obtain ⟨A2, n2, c2, rfl, hl2, hr2, hb2, _⟩ := h2.open_; have hB2 := below_tr hB1 hb2; obtain ⟨p0, p1, p2, p3, p4, p5, p6, p7, p8, p9, p10, p11, p12, p13, p14⟩ := (HE.out.below (below_tr (below_tr hb1 hal1) hb2)); simp only at p0 p1 p2 p3 p4 p5 p6 p7 p8 p9 p10 p11 p12 p13 p14; have hn2 : n2 ≤ 11 := (by have := rds_len hr2; rw [List.length_append, List.length_singleton] at this; omega); skip)
    | (go_at_call 45; (with_reducible refine (HT.out _).mono ?_); rintro x w9 ⟨rfl, rfl⟩)
    | (go_at_call 46; (with_reducible refine (HV.out _).mono ?_); rintro x w9 ⟨rfl, rfl⟩))
  go_ret
  exact ⟨_, _, _, rfl, hB2, hr2⟩
set_option maxRecDepth 100000 in
set_option maxHeartbeats 16000000 in
theorem rbytes7 (a b v : Nat) (e4 e5 e6 e7 e8 e9 e10 e11 e12 e13 e14 : Int) (hg : goodB (⟨7, (a : Int), (b : Int), (v : Int), e4, e5, e6, e7, e8, e9, e10, e11, e12, e13, e14⟩ : Ev) = true) (ha : a ≤ 1099511627776) (hb : b ≤ 1099511627776) (hv : v ≤ 1000) (w : World) : Calls Try.prog 26 #[.agg #[.int .i64 7, .int .i64 (a : Int), .int .i64 (b : Int), .int .i64 (v : Int), .int .i64 e4, .int .i64 e5, .int .i64 e6, .int .i64 e7, .int .i64 e8, .int .i64 e9, .int .i64 e10, .int .i64 e11, .int .i64 e12, .int .i64 e13, .int .i64 e14]] w (Byt w (bytesEv (⟨7, (a : Int), (b : Int), (v : Int), e4, e5, e6, e7, e8, e9, e10, e11, e12, e13, e14⟩ : Ev))) := by
  have HB : Hid (bytesEv (⟨7, (a : Int), (b : Int), (v : Int), e4, e5, e6, e7, e8, e9, e10, e11, e12, e13, e14⟩ : Ev) = [7] ++ enc a) := by show _ = _; simp [bytesEv, tT, tV, tC]
  have hG := fun W => rgood (⟨7, (a : Int), (b : Int), (v : Int), e4, e5, e6, e7, e8, e9, e10, e11, e12, e13, e14⟩ : Ev) W
  rw [hg] at hG
  unfold evV at hG
  have HG := Lib.hid hG
  have HE := Lib.hid (ev_new (⟨7, (a : Int), (b : Int), (v : Int), e4, e5, e6, e7, e8, e9, e10, e11, e12, e13, e14⟩ : Ev) w 30)
  have HAL : Hid (Below w.heap.size w (w.alloc (.cells #[.int .i64 7, .int .i64 (a : Int), .int .i64 (b : Int), .int .i64 (v : Int), .int .i64 e4, .int .i64 e5, .int .i64 e6, .int .i64 e7, .int .i64 e8, .int .i64 e9, .int .i64 e10, .int .i64 e11, .int .i64 e12, .int .i64 e13, .int .i64 e14] 30))) := below_al (Below.refl _ _) _
  unfold evC at HE
  simp only at HE HG
  have HT := Lib.hid (fun W => (rthreads 7 W : Calls Try.prog 45 #[.int .i64 7] W fun e w' => e = .returned (.bool false) ∧ W = w'))
  have HV := Lib.hid (fun W => (rvalues 7 W : Calls Try.prog 46 #[.int .i64 7] W fun e w' => e = .returned (.bool false) ∧ W = w'))
  have hwa := wrap_nat a ha
  have hwb := wrap_nat b hb
  have hwv := wrap_nat v (by omega)
  have hk : IntKind.u8.wrap 7 = 7 := by decide
  have HLA : Hid (a < 18446744073709551616 ∧ b < 18446744073709551616 ∧ v < 18446744073709551616) := ⟨by omega, by omega, by omega⟩
  have hla := enc_length a
  have hlb := enc_length b
  rw [HB.out]
  clear hG hg ha hb hv
  go_enter Try.func26, Try.ntmps26
  go_wp2_with (first
    | (go_at_call 34; (with_reducible refine (HG.out _).mono ?_); rintro x w1 ⟨rfl, hb1⟩; have hal1 : Below w1.heap.size w1 (w1.alloc (.cells #[.int .u8 7] 5)) := below_al (Below.refl _ _) _; have hE2 := HE.out.below (below_tr hb1 hal1); obtain ⟨z0, z1, z2, z3, z4, z5, z6, z7, z8, z9, z10, z11, z12, z13, z14⟩ := (HE.out.below hb1); simp only at z0 z1 z2 z3 z4 z5 z6 z7 z8 z9 z10 z11 z12 z13 z14; obtain ⟨y0, y1, y2, y3, y4, y5, y6, y7, y8, y9, y10, y11, y12, y13, y14⟩ := hE2; simp only at y0 y1 y2 y3 y4 y5 y6 y7 y8 y9 y10 y11 y12 y13 y14; have hr1 : Rds (w1.alloc (.cells #[.int .u8 7] 5)) 1 (some ⟨w1.heap.size, 0, none⟩) 1 1 (nums .u8 [7]) := rds_lit w1 _ 1 1 (nums .u8 [7]) rfl (by decide); have HN1 := Lib.hid (rnum _ 1 1 [7] a HLA.out.1 _ hr1 (by decide)); have hB1 := below_tr (below_then HAL.out HAL.out.size hb1) hal1; clear hr1)
    | (go_at_call 25; (with_reducible refine HN1.out.mono ?_); rintro x w2 h2; obtain ⟨A2, n2, c2, rfl, hl2, hr2, hb2, _⟩ := h2.open_; have hB2 := below_tr hB1 hb2; obtain ⟨p0, p1, p2, p3, p4, p5, p6, p7, p8, p9, p10, p11, p12, p13, p14⟩ := (HE.out.below (below_tr (below_tr hb1 hal1) hb2)); simp only at p0 p1 p2 p3 p4 p5 p6 p7 p8 p9 p10 p11 p12 p13 p14; have hn2 : n2 ≤ 11 := (by have := rds_len hr2; rw [List.length_append, List.length_singleton] at this; omega); skip)
    | (go_at_call 45; (with_reducible refine (HT.out _).mono ?_); rintro x w9 ⟨rfl, rfl⟩)
    | (go_at_call 46; (with_reducible refine (HV.out _).mono ?_); rintro x w9 ⟨rfl, rfl⟩))
  go_ret
  exact ⟨_, _, _, rfl, hB2, hr2⟩
end Go.Proofs.Ytdnddoiemaifjaa
