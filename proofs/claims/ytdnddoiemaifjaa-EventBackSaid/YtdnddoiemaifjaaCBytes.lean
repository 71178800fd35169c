/- The code's Bytes of any event. -/
import Derived.Test.YtdnddoiemaifjaaBytes14
import Derived.Test.YtdnddoiemaifjaaEvGood2
import Derived.Test.YtdnddoiemaifjaaEvBytes
import Derived.Test.YtdnddoiemaifjaaCodeInt
import Derived.Test.YtdnddoiemaifjaaArr
namespace Go.Proofs.Ytdnddoiemaifjaa
open Go.RowKit
/-- What stands while the bytes grow. -/
structure StE (w0 W : World) (e : Ev) (ea hb pb : Nat) (bs : List Int) : Prop where
  ev : EvAt W ⟨ea, 0, none⟩ e
  has : HasK W hb e.kind
  box : ∃ A n c, Box W pb 0 (.slice A n c) ∧ Rds W 1 A n c (nums .u8 bs)
  be : Below w0.heap.size w0 W
  n1 : ea ≠ pb
  n2 : hb ≠ pb
  n3 : w0.heap.size ≤ pb
theorem StE.below_ {w0 W W' : World} {e : Ev} {ea hb pb : Nat} {bs : List Int} (h : StE w0 W e ea hb pb bs) (hb' : Below W.heap.size W W') : StE w0 W' e ea hb pb bs := by
  obtain ⟨A, n, c, h1, h2⟩ := h.box
  exact ⟨h.ev.below hb', h.has.below hb', ⟨A, n, c, h1.below hb', h2.below hb'⟩, below_then h.be h.be.size hb', h.n1, h.n2, h.n3⟩
theorem StE.call {w0 W : World} {e : Ev} {ea hb pb : Nat} {bs : List Int} (h : StE w0 W e ea hb pb bs) (so : Bool) (xs : List Int) (hx : so = true → ∀ x ∈ xs, 0 ≤ x ∧ x < 9223372036854775808) (hn0 : 0 < xs.length) (hn1 : xs.length ≤ 1000) (hl : bs.length ≤ 1000000) (g : Nat) (hg : g = W.heap.size) :
    Calls Try.prog 42 #[.bool so, .slice (some ⟨g, 0, none⟩) xs.length xs.length, .pointer (some ⟨pb, 0, none⟩)] (W.alloc (.cells (nums .i64 xs).toArray 3)) fun r w' => r = .returned (.tuple #[]) ∧ StE w0 w' e ea hb pb (bs ++ if so then encN xs else []) := by
  subst hg
  have h' := h.below_ (below_al (Below.refl _ _) (.cells (nums .i64 xs).toArray 3))
  cases so with
  | false =>
    refine (swhen_no _ _ _).mono ?_
    rintro r w' ⟨rfl, rfl⟩
    refine ⟨rfl, ?_⟩
    simpa using h'
  | true =>
    obtain ⟨A, n, c, h1, h2⟩ := h'.box
    have hn := rds_len h2
    refine (swhen pb A n c bs _ _ _ xs _ h1 h2 (rds_lit W 3 1 xs.length (nums .i64 xs) (by rw [nums_length]; omega) (by unfold maxLen; omega)) (hx rfl) hn0 hn1 (by omega)).mono ?_
    rintro r w' ⟨he, hc, A1, n1, c1, k1, k2, _⟩
    exact ⟨he, h'.ev.keep hc h.n1, h'.has.keep hc h.n2, ⟨A1, n1, c1, k1, by simpa using k2⟩, hc.toBelow h'.be h'.be.size (fun k hk => by have := h.n3; omega), h.n1, h.n2, h.n3⟩
/-- One more int. -/
theorem StE.int {w0 W w2 : World} {e : Ev} {ea hb pb : Nat} {bs bs' : List Int} {A : Option Addr} {n c : Nat} (h : StE w0 W e ea hb pb bs) (hb2 : Below W.heap.size W w2) (ho : w2.ownsRow W.heap.size 5 1 (.slice A n c) bs'.length (nums .u8 bs')) : StE w0 (w2.setCell ⟨pb, 0, none⟩ (.slice A n c)) e ea hb pb bs' := by
  have h2 := h.below_ hb2
  obtain ⟨A0, n0, c0, hx0, _⟩ := h.box
  have hx2 := hx0.below hb2
  have hch : Chg (fun k => k = pb) w2 (w2.setCell ⟨pb, 0, none⟩ (.slice A n c)) := (Chg.refl _ _).setCell pb 0 _ rfl
  have hbn : ∀ k, (Value.slice A n c).ownBlock = some k → ¬ k = pb := fun k hk e => by
    have h1 := own_base ho k hk
    have h2 := hx0.lt
    omega
  have ho3 := hch.own ho hbn
  obtain ⟨hn, hr3⟩ := own_rds' ho3
  rw [← hn] at hr3
  exact ⟨h2.ev.keep hch h.n1, h2.has.keep hch h.n2, ⟨A, n, c, hx2.set _, hr3⟩, hch.toBelow h2.be h2.be.size (fun k hk => by have := h.n3; omega), h.n1, h.n2, h.n3⟩
theorem ev_at (e : Ev) (w : World) (t : TypeId) : EvAt (w.alloc (.cells (evC e).toArray t)) ⟨w.heap.size, 0, none⟩ e := ev_new e w t
-- WALKS
theorem StE.call1 {w0 W : World} {e : Ev} {ea hb pb : Nat} {bs : List Int} (h : StE w0 W e ea hb pb bs) (so : Bool) (x : Int) (hx : so = true → 0 ≤ x ∧ x < 9223372036854775808) (hl : bs.length ≤ 1000000) (g : Nat) (hg : g = W.heap.size) :
    Calls Try.prog 42 #[.bool so, .slice (some ⟨g, 0, none⟩) 1 1, .pointer (some ⟨pb, 0, none⟩)] (W.alloc (.cells #[.int .i64 x] 3)) fun r w' => r = .returned (.tuple #[]) ∧ StE w0 w' e ea hb pb (bs ++ if so then enc x.toNat else []) := by
  have := h.call so [x] (fun h y hy => by simp at hy; subst hy; exact hx h) (by simp) (by simp) hl g hg
  simpa [encN, nums] using this
theorem StE.call3 {w0 W : World} {e : Ev} {ea hb pb : Nat} {bs : List Int} (h : StE w0 W e ea hb pb bs) (so : Bool) (x y z : Int) (hx : so = true → (0 ≤ x ∧ x < 9223372036854775808) ∧ (0 ≤ y ∧ y < 9223372036854775808) ∧ (0 ≤ z ∧ z < 9223372036854775808)) (hl : bs.length ≤ 1000000) (g : Nat) (hg : g = W.heap.size) :
    Calls Try.prog 42 #[.bool so, .slice (some ⟨g, 0, none⟩) 3 3, .pointer (some ⟨pb, 0, none⟩)] (W.alloc (.cells #[.int .i64 x, .int .i64 y, .int .i64 z] 3)) fun r w' => r = .returned (.tuple #[]) ∧ StE w0 w' e ea hb pb (bs ++ if so then enc x.toNat ++ enc y.toNat ++ enc z.toNat else []) := by
  have := h.call so [x, y, z] (fun h u hu => by simp at hu; obtain ⟨a, b, c⟩ := hx h; rcases hu with rfl | rfl | rfl <;> assumption) (by simp) (by simp) hl g hg
  simpa [encN, nums, List.append_assoc] using this
theorem len_app (bs : List Int) (so : Bool) (n : Nat) : (bs ++ if so then enc n else []).length ≤ bs.length + 10 := by
  have := enc_length n
  cases so <;> simp <;> omega
theorem len_app3 (bs : List Int) (so : Bool) (n m k : Nat) : (bs ++ if so then enc n ++ enc m ++ enc k else []).length ≤ bs.length + 30 := by
  have h1 := enc_length n
  have h2 := enc_length m
  have h3 := enc_length k
  cases so <;> simp <;> omega
set_option maxRecDepth 100000 in
set_option maxHeartbeats 16000000 in
theorem cbytes_plain (e0 e1 e2 e3 e4 e5 e6 e7 e8 e9 e10 e11 e12 e13 e14 : Int) (hg : goodB (⟨e0, e1, e2, e3, e4, e5, e6, e7, e8, e9, e10, e11, e12, e13, e14⟩ : Ev) = true) (hI : ∀ x ∈ evRegs (⟨e0, e1, e2, e3, e4, e5, e6, e7, e8, e9, e10, e11, e12, e13, e14⟩ : Ev), I64 x) (hc : tC e0 = false) (w : World) : Calls Try.prog 19 #[.agg #[.int .i64 e0, .int .i64 e1, .int .i64 e2, .int .i64 e3, .int .i64 e4, .int .i64 e5, .int .i64 e6, .int .i64 e7, .int .i64 e8, .int .i64 e9, .int .i64 e10, .int .i64 e11, .int .i64 e12, .int .i64 e13, .int .i64 e14]] w (Byt w (bytesEv (⟨e0, e1, e2, e3, e4, e5, e6, e7, e8, e9, e10, e11, e12, e13, e14⟩ : Ev))) := by
  obtain ⟨hk1, hk2, ha1, ha2, ht1, ht2, hv1, hv2, hcx⟩ := good_parts hg
  simp only at hk1 hk2 ha1 ha2 ht1 ht2 hv1 hv2 hcx
  have HA : Hid (0 ≤ e1 ∧ e1 < 9223372036854775808) := by show _ ∧ _; omega
  have HTh : Hid (tT e0 = true → 0 ≤ e2 ∧ e2 < 9223372036854775808) := fun _ => by omega
  have HV : Hid (tV e0 = true → 0 ≤ e3 ∧ e3 < 9223372036854775808) := fun _ => by omega
  have HX : Hid (tC e0 = true → (0 ≤ e4 ∧ e4 < 9223372036854775808) ∧ (0 ≤ e5 ∧ e5 < 9223372036854775808) ∧ (0 ≤ e14 ∧ e14 < 9223372036854775808)) := fun h => by have := hcx h; omega
  have HI := Lib.hid hI
  have HC := Lib.hid hc
  have hw8 : IntKind.u8.wrap e0 = e0 := by rw [IntKind.wrap_u8]; omega
  have HBY : Hid (bytesEv (⟨e0, e1, e2, e3, e4, e5, e6, e7, e8, e9, e10, e11, e12, e13, e14⟩ : Ev) = [e0] ++ enc e1.toNat ++ (if tT e0 then enc e2.toNat else []) ++ (if tV e0 then enc e3.toNat else []) ++ (if tC e0 then enc e4.toNat ++ enc e5.toNat ++ enc e14.toNat ++ encs (evRegs (⟨e0, e1, e2, e3, e4, e5, e6, e7, e8, e9, e10, e11, e12, e13, e14⟩ : Ev)) else [])) := rfl
  obtain ⟨bs1, hbs1⟩ : ∃ x, x = [e0] ++ enc e1.toNat := ⟨_, rfl⟩
  obtain ⟨bs2, hbs2⟩ : ∃ x, x = bs1 ++ if tT e0 then enc e2.toNat else [] := ⟨_, rfl⟩
  obtain ⟨bs3, hbs3⟩ : ∃ x, x = bs2 ++ if tV e0 then enc e3.toNat else [] := ⟨_, rfl⟩
  obtain ⟨bs4, hbs4⟩ : ∃ x, x = bs3 ++ if tC e0 then enc e4.toNat ++ enc e5.toNat ++ enc e14.toNat else [] := ⟨_, rfl⟩
  have l1 : bs1.length ≤ 11 := by have := enc_length e1.toNat; rw [hbs1]; simp; omega
  have l2 : bs2.length ≤ 21 := by have := len_app bs1 (tT e0) e2.toNat; rw [hbs2]; omega
  have l3 : bs3.length ≤ 31 := by have := len_app bs2 (tV e0) e3.toNat; rw [hbs3]; omega
  have l4 : bs4.length ≤ 61 := by have := len_app3 bs3 (tC e0) e4.toNat e5.toNat e14.toNat; rw [hbs4]; omega
  have HL : Hid (bs1.length ≤ 1000000 ∧ bs2.length ≤ 1000000 ∧ bs3.length ≤ 1000000 ∧ bs4.length ≤ 1000000) := ⟨by omega, by omega, by omega, by omega⟩
  have HB1 := Lib.hid hbs1
  have HB2 := Lib.hid hbs2
  have HB3 := Lib.hid hbs3
  have HB4 := Lib.hid hbs4
  clear hbs1 hbs2 hbs3 hbs4 l1 l2 l3 hk1 hk2 ha1 ha2 ht1 ht2 hv1 hv2 hcx hI hc
  have hG := fun W => egood (⟨e0, e1, e2, e3, e4, e5, e6, e7, e8, e9, e10, e11, e12, e13, e14⟩ : Ev) W
  rw [hg] at hG
  unfold evV at hG
  have HG := Lib.hid hG
  have HT := Lib.hid (fun W => etells e0 W)
  have HE := Lib.hid (ev_new (⟨e0, e1, e2, e3, e4, e5, e6, e7, e8, e9, e10, e11, e12, e13, e14⟩ : Ev) w 30)
  have hal : Below w.heap.size w (w.alloc (.cells #[.int .i64 e0, .int .i64 e1, .int .i64 e2, .int .i64 e3, .int .i64 e4, .int .i64 e5, .int .i64 e6, .int .i64 e7, .int .i64 e8, .int .i64 e9, .int .i64 e10, .int .i64 e11, .int .i64 e12, .int .i64 e13, .int .i64 e14] 30)) := below_al (Below.refl _ _) _
  have HAL := Lib.hid hal
  clear hal hg hG
  unfold evC at HE
  simp only at HE HG
  obtain ⟨z0, z1, z2, z3, z4, z5, z6, z7, z8, z9, z10, z11, z12, z13, z14⟩ := HE.out
  simp only at z0 z1 z2 z3 z4 z5 z6 z7 z8 z9 z10 z11 z12 z13 z14
  go_enter Try.func19, Try.ntmps19
  go_wp2_with (first
    | (go_at_call 18; (with_reducible refine (HG.out _).mono ?_); rintro e w1 ⟨rfl, hb1⟩; clear z0 z1 z2 z3 z4 z5 z6 z7 z8 z9 z10 z11 z12 z13 z14; have z0 := (HE.out.below hb1).c0; simp only at z0)
    | (go_at_call 39; (with_reducible refine (HT.out _).mono ?_); rintro e w2 ⟨rfl, hb2⟩; clear z0; have E3 := ((HE.out.below hb1).below hb2).below (below_al (Below.refl _ _) (.cells #[.bool (tA e0), .bool (tT e0), .bool (tV e0), .bool (tC e0)] 68)); have H3 := HasK.new w2 e0 68; have z0 := E3.c0; simp only at z0; have E5 := (E3.below (below_al (Below.refl _ _) (.cells #[.int .u8 e0] 5))).below (below_al (Below.refl _ _) (.cells #[.slice (some ⟨w2.heap.size + 1, 0, none⟩) 1 1] 33)); have z1 := E5.c1; simp only at z1))
  have hsz5 : ((w2.alloc (.cells #[.bool (tA e0), .bool (tT e0), .bool (tV e0), .bool (tC e0)] 68)).alloc (.cells #[.int .u8 e0] 5)).heap.size = w2.heap.size + 1 + 1 := by simp
  have HS : Hid (StE w (((w2.alloc (.cells #[.bool (tA e0), .bool (tT e0), .bool (tV e0), .bool (tC e0)] 68)).alloc (.cells #[.int .u8 e0] 5)).alloc (.cells #[.slice (some ⟨w2.heap.size + 1, 0, none⟩) 1 1] 33)) (⟨e0, e1, e2, e3, e4, e5, e6, e7, e8, e9, e10, e11, e12, e13, e14⟩ : Ev) w.heap.size w2.heap.size (w2.heap.size + 1 + 1) [e0]) := by
    have hB3 := below_then (below_then (below_then HAL.out HAL.out.size hb1) (below_then HAL.out HAL.out.size hb1).size hb2) (below_then (below_then HAL.out HAL.out.size hb1) (below_then HAL.out HAL.out.size hb1).size hb2).size (below_al (Below.refl _ _) (.cells #[.bool (tA e0), .bool (tT e0), .bool (tV e0), .bool (tC e0)] 68))
    have hww : w.heap.size < w2.heap.size := by have h1 := hb1.size; have h2 := hb2.size; simp at h1; omega
    refine ⟨E5, (H3.below (below_al (Below.refl _ _) _)).below (below_al (Below.refl _ _) _), ?_, below_al (below_al hB3 _) _, by omega, by omega, by omega⟩
    refine ⟨_, 1, 1, by have := Box.new ((w2.alloc (.cells #[.bool (tA e0), .bool (tT e0), .bool (tV e0), .bool (tC e0)] 68)).alloc (.cells #[.int .u8 e0] 5)) (.slice (some ⟨w2.heap.size + 1, 0, none⟩) 1 1) 33; rwa [hsz5] at this, ?_⟩
    have hr := rds_lit (w2.alloc (.cells #[.bool (tA e0), .bool (tT e0), .bool (tV e0), .bool (tC e0)] 68)) 5 1 1 (nums .u8 [e0]) rfl (by decide)
    rw [show (w2.alloc (.cells #[.bool (tA e0), .bool (tT e0), .bool (tV e0), .bool (tC e0)] 68)).heap.size = w2.heap.size + 1 by simp] at hr
    exact hr.below (below_al (Below.refl _ _) _)
  clear z0 z1 E3 H3 E5 HG HE
  refine (HS.out.call1 true e1 (fun _ => HA.out) (by simp) (w2.heap.size + 1 + 1 + 1) (by simp)).mono ?_
  rintro e w3 ⟨rfl, h3⟩
  rw [if_pos rfl, ← HB1.out] at h3
  have z2 := h3.ev.c2
  have z3 := h3.has.c1
  simp only at z2 z3
  clear HS
  go_wp2_with (first
    | (go_at_call 42; refine (h3.call1 (tT e0) e2 HTh.out HL.out.1 _ rfl).mono ?_; rintro e w4 ⟨rfl, h4⟩; rw [← HB2.out] at h4; clear z2 z3 h3; have z4 := h4.ev.c3; have z5 := h4.has.c2; simp only at z4 z5)
    | (go_at_call 42; refine (h4.call1 (tV e0) e3 HV.out HL.out.2.1 _ rfl).mono ?_; rintro e w5 ⟨rfl, h5⟩; rw [← HB3.out] at h5; clear z4 z5 h4; have z6 := h5.ev.c4; have z7 := h5.ev.c5; have z8 := h5.ev.c14; have z9 := h5.has.c3; simp only at z6 z7 z8 z9)
    | (go_at_call 42; refine (h5.call3 (tC e0) e4 e5 e14 HX.out HL.out.2.2.1 _ rfl).mono ?_; rintro e w6 ⟨rfl, h6⟩; rw [← HB4.out] at h6; clear z6 z7 z8 z9 h5; have z10 := h6.has.c3; simp only at z10; rw [HC.out] at z10; obtain ⟨A, n, c, k1, k2⟩ := h6.box; have z11 := k1.cell))
  go_ret
  refine ⟨A, n, c, rfl, h6.be, ?_⟩
  rw [HBY.out, HC.out, ← HB1.out, ← HB2.out, ← HB3.out]
  rw [HB4.out, HC.out] at k2
  exact k2
set_option maxRecDepth 100000 in
set_option maxHeartbeats 16000000 in
theorem cbytes_ctx (e0 e1 e2 e3 e4 e5 e6 e7 e8 e9 e10 e11 e12 e13 e14 : Int) (hg : goodB (⟨e0, e1, e2, e3, e4, e5, e6, e7, e8, e9, e10, e11, e12, e13, e14⟩ : Ev) = true) (hI : ∀ x ∈ evRegs (⟨e0, e1, e2, e3, e4, e5, e6, e7, e8, e9, e10, e11, e12, e13, e14⟩ : Ev), I64 x) (hc : tC e0 = true) (w : World) : Calls Try.prog 19 #[.agg #[.int .i64 e0, .int .i64 e1, .int .i64 e2, .int .i64 e3, .int .i64 e4, .int .i64 e5, .int .i64 e6, .int .i64 e7, .int .i64 e8, .int .i64 e9, .int .i64 e10, .int .i64 e11, .int .i64 e12, .int .i64 e13, .int .i64 e14]] w (Byt w (bytesEv (⟨e0, e1, e2, e3, e4, e5, e6, e7, e8, e9, e10, e11, e12, e13, e14⟩ : Ev))) := by
  obtain ⟨hk1, hk2, ha1, ha2, ht1, ht2, hv1, hv2, hcx⟩ := good_parts hg
  simp only at hk1 hk2 ha1 ha2 ht1 ht2 hv1 hv2 hcx
  have HA : Hid (0 ≤ e1 ∧ e1 < 9223372036854775808) := by show _ ∧ _; omega
  have HTh : Hid (tT e0 = true → 0 ≤ e2 ∧ e2 < 9223372036854775808) := fun _ => by omega
  have HV : Hid (tV e0 = true → 0 ≤ e3 ∧ e3 < 9223372036854775808) := fun _ => by omega
  have HX : Hid (tC e0 = true → (0 ≤ e4 ∧ e4 < 9223372036854775808) ∧ (0 ≤ e5 ∧ e5 < 9223372036854775808) ∧ (0 ≤ e14 ∧ e14 < 9223372036854775808)) := fun h => by have := hcx h; omega
  have HI := Lib.hid hI
  have HC := Lib.hid hc
  have hw8 : IntKind.u8.wrap e0 = e0 := by rw [IntKind.wrap_u8]; omega
  have HBY : Hid (bytesEv (⟨e0, e1, e2, e3, e4, e5, e6, e7, e8, e9, e10, e11, e12, e13, e14⟩ : Ev) = [e0] ++ enc e1.toNat ++ (if tT e0 then enc e2.toNat else []) ++ (if tV e0 then enc e3.toNat else []) ++ (if tC e0 then enc e4.toNat ++ enc e5.toNat ++ enc e14.toNat ++ encs (evRegs (⟨e0, e1, e2, e3, e4, e5, e6, e7, e8, e9, e10, e11, e12, e13, e14⟩ : Ev)) else [])) := rfl
  obtain ⟨bs1, hbs1⟩ : ∃ x, x = [e0] ++ enc e1.toNat := ⟨_, rfl⟩
  obtain ⟨bs2, hbs2⟩ : ∃ x, x = bs1 ++ if tT e0 then enc e2.toNat else [] := ⟨_, rfl⟩
  obtain ⟨bs3, hbs3⟩ : ∃ x, x = bs2 ++ if tV e0 then enc e3.toNat else [] := ⟨_, rfl⟩
  obtain ⟨bs4, hbs4⟩ : ∃ x, x = bs3 ++ if tC e0 then enc e4.toNat ++ enc e5.toNat ++ enc e14.toNat else [] := ⟨_, rfl⟩
  have l1 : bs1.length ≤ 11 := by have := enc_length e1.toNat; rw [hbs1]; simp; omega
  have l2 : bs2.length ≤ 21 := by have := len_app bs1 (tT e0) e2.toNat; rw [hbs2]; omega
  have l3 : bs3.length ≤ 31 := by have := len_app bs2 (tV e0) e3.toNat; rw [hbs3]; omega
  have l4 : bs4.length ≤ 61 := by have := len_app3 bs3 (tC e0) e4.toNat e5.toNat e14.toNat; rw [hbs4]; omega
  have HL : Hid (bs1.length ≤ 1000000 ∧ bs2.length ≤ 1000000 ∧ bs3.length ≤ 1000000 ∧ bs4.length ≤ 1000000) := ⟨by omega, by omega, by omega, by omega⟩
  have HB1 := Lib.hid hbs1
  have HB2 := Lib.hid hbs2
  have HB3 := Lib.hid hbs3
  have HB4 := Lib.hid hbs4
  clear hbs1 hbs2 hbs3 hbs4 l1 l2 l3 hk1 hk2 ha1 ha2 ht1 ht2 hv1 hv2 hcx hI hc
  have hG := fun W => egood (⟨e0, e1, e2, e3, e4, e5, e6, e7, e8, e9, e10, e11, e12, e13, e14⟩ : Ev) W
  rw [hg] at hG
  unfold evV at hG
  have HG := Lib.hid hG
  have HT := Lib.hid (fun W => etells e0 W)
  have HE := Lib.hid (ev_new (⟨e0, e1, e2, e3, e4, e5, e6, e7, e8, e9, e10, e11, e12, e13, e14⟩ : Ev) w 30)
  have hal : Below w.heap.size w (w.alloc (.cells #[.int .i64 e0, .int .i64 e1, .int .i64 e2, .int .i64 e3, .int .i64 e4, .int .i64 e5, .int .i64 e6, .int .i64 e7, .int .i64 e8, .int .i64 e9, .int .i64 e10, .int .i64 e11, .int .i64 e12, .int .i64 e13, .int .i64 e14] 30)) := below_al (Below.refl _ _) _
  have HAL := Lib.hid hal
  clear hal hg hG
  unfold evC at HE
  simp only at HE HG
  obtain ⟨z0, z1, z2, z3, z4, z5, z6, z7, z8, z9, z10, z11, z12, z13, z14⟩ := HE.out
  simp only at z0 z1 z2 z3 z4 z5 z6 z7 z8 z9 z10 z11 z12 z13 z14
  go_enter Try.func19, Try.ntmps19
  go_wp2_with (first
    | (go_at_call 18; (with_reducible refine (HG.out _).mono ?_); rintro e w1 ⟨rfl, hb1⟩; clear z0 z1 z2 z3 z4 z5 z6 z7 z8 z9 z10 z11 z12 z13 z14; have z0 := (HE.out.below hb1).c0; simp only at z0)
    | (go_at_call 39; (with_reducible refine (HT.out _).mono ?_); rintro e w2 ⟨rfl, hb2⟩; clear z0; have E3 := ((HE.out.below hb1).below hb2).below (below_al (Below.refl _ _) (.cells #[.bool (tA e0), .bool (tT e0), .bool (tV e0), .bool (tC e0)] 68)); have H3 := HasK.new w2 e0 68; have z0 := E3.c0; simp only at z0; have E5 := (E3.below (below_al (Below.refl _ _) (.cells #[.int .u8 e0] 5))).below (below_al (Below.refl _ _) (.cells #[.slice (some ⟨w2.heap.size + 1, 0, none⟩) 1 1] 33)); have z1 := E5.c1; simp only at z1))
  have hsz5 : ((w2.alloc (.cells #[.bool (tA e0), .bool (tT e0), .bool (tV e0), .bool (tC e0)] 68)).alloc (.cells #[.int .u8 e0] 5)).heap.size = w2.heap.size + 1 + 1 := by simp
  have HS : Hid (StE w (((w2.alloc (.cells #[.bool (tA e0), .bool (tT e0), .bool (tV e0), .bool (tC e0)] 68)).alloc (.cells #[.int .u8 e0] 5)).alloc (.cells #[.slice (some ⟨w2.heap.size + 1, 0, none⟩) 1 1] 33)) (⟨e0, e1, e2, e3, e4, e5, e6, e7, e8, e9, e10, e11, e12, e13, e14⟩ : Ev) w.heap.size w2.heap.size (w2.heap.size + 1 + 1) [e0]) := by
    have hB3 := below_then (below_then (below_then HAL.out HAL.out.size hb1) (below_then HAL.out HAL.out.size hb1).size hb2) (below_then (below_then HAL.out HAL.out.size hb1) (below_then HAL.out HAL.out.size hb1).size hb2).size (below_al (Below.refl _ _) (.cells #[.bool (tA e0), .bool (tT e0), .bool (tV e0), .bool (tC e0)] 68))
    have hww : w.heap.size < w2.heap.size := by have h1 := hb1.size; have h2 := hb2.size; simp at h1; omega
    refine ⟨E5, (H3.below (below_al (Below.refl _ _) _)).below (below_al (Below.refl _ _) _), ?_, below_al (below_al hB3 _) _, by omega, by omega, by omega⟩
    refine ⟨_, 1, 1, by have := Box.new ((w2.alloc (.cells #[.bool (tA e0), .bool (tT e0), .bool (tV e0), .bool (tC e0)] 68)).alloc (.cells #[.int .u8 e0] 5)) (.slice (some ⟨w2.heap.size + 1, 0, none⟩) 1 1) 33; rwa [hsz5] at this, ?_⟩
    have hr := rds_lit (w2.alloc (.cells #[.bool (tA e0), .bool (tT e0), .bool (tV e0), .bool (tC e0)] 68)) 5 1 1 (nums .u8 [e0]) rfl (by decide)
    rw [show (w2.alloc (.cells #[.bool (tA e0), .bool (tT e0), .bool (tV e0), .bool (tC e0)] 68)).heap.size = w2.heap.size + 1 by simp] at hr
    exact hr.below (below_al (Below.refl _ _) _)
  clear z0 z1 E3 H3 E5 HG HE
  refine (HS.out.call1 true e1 (fun _ => HA.out) (by simp) (w2.heap.size + 1 + 1 + 1) (by simp)).mono ?_
  rintro e w3 ⟨rfl, h3⟩
  rw [if_pos rfl, ← HB1.out] at h3
  have z2 := h3.ev.c2
  have z3 := h3.has.c1
  simp only at z2 z3
  clear HS
  go_wp2_with (first
    | (go_at_call 42; refine (h3.call1 (tT e0) e2 HTh.out HL.out.1 _ rfl).mono ?_; rintro e w4 ⟨rfl, h4⟩; rw [← HB2.out] at h4; clear z2 z3 h3; have z4 := h4.ev.c3; have z5 := h4.has.c2; simp only at z4 z5)
    | (go_at_call 42; refine (h4.call1 (tV e0) e3 HV.out HL.out.2.1 _ rfl).mono ?_; rintro e w5 ⟨rfl, h5⟩; rw [← HB3.out] at h5; clear z4 z5 h4; have z6 := h5.ev.c4; have z7 := h5.ev.c5; have z8 := h5.ev.c14; have z9 := h5.has.c3; simp only at z6 z7 z8 z9)
    | (go_at_call 42; refine (h5.call3 (tC e0) e4 e5 e14 HX.out HL.out.2.2.1 _ rfl).mono ?_; rintro e w6 ⟨rfl, h6⟩; rw [← HB4.out] at h6; clear z6 z7 z8 z9 h5; have z10 := h6.has.c3; simp only at z10; rw [HC.out] at z10; obtain ⟨_, _, _, _, _, _, z20, z21, z22, z23, z24, z25, z26, z27, _⟩ := h6.ev; simp only at z20 z21 z22 z23 z24 z25 z26 z27))
  clear z10 z20 z21 z22 z23 z24 z25 z26 z27
  go_loopw [61] (fun i wr => ∃ k : Nat, k ≤ 8 ∧ i = .int .i64 k ∧ StE w wr (⟨e0, e1, e2, e3, e4, e5, e6, e7, e8, e9, e10, e11, e12, e13, e14⟩ : Ev) w.heap.size w2.heap.size (w2.heap.size + 1 + 1) (bs4 ++ encs ((evRegs (⟨e0, e1, e2, e3, e4, e5, e6, e7, e8, e9, e10, e11, e12, e13, e14⟩ : Ev)).take k))) (fun i _ => 8 - (intOf i).toNat)
  case atStart => exact ⟨0, by omega, rfl, by simpa [encs] using h6⟩
  case round =>
    obtain ⟨k, hk, rfl, hS⟩ := hrel
    clear h6
    have hcase : k = 0 ∨ k = 1 ∨ k = 2 ∨ k = 3 ∨ k = 4 ∨ k = 5 ∨ k = 6 ∨ k = 7 ∨ k = 8 := by omega
    obtain ⟨A, n, c, k1, k2⟩ := hS.box
    have hn := rds_len k2
    have hlr := encs_length ((evRegs (⟨e0, e1, e2, e3, e4, e5, e6, e7, e8, e9, e10, e11, e12, e13, e14⟩ : Ev)).take k)
    have hlk : ((evRegs (⟨e0, e1, e2, e3, e4, e5, e6, e7, e8, e9, e10, e11, e12, e13, e14⟩ : Ev)).take k).length ≤ 8 := by rw [List.length_take]; omega
    rw [List.length_append] at hn
    have hn9 : n ≤ 140737488000000 := by omega
    have HN9 := Lib.hid hn9
    clear hn hlr hlk hn9
    rcases hcase with rfl | rfl | rfl | rfl | rfl | rfl | rfl | rfl | rfl
    · have z := k1.cell
      have qi := fun w => idxA (P := Try.prog) 26 3 8 #[.int .i64 e6, .int .i64 e7, .int .i64 e8, .int .i64 e9, .int .i64 e10, .int .i64 e11, .int .i64 e12, .int .i64 e13] 0 .i64 .i64 (.int .i64 e6) Try.underlying26 Try.underlying3 rfl (by decide) rfl (0 : Int) rfl w
      have HCI := Lib.hid (cint A n c _ e6 (HI.out e6 (by simp [evRegs])) wr k2 HN9.out)
      have HNX : Hid (bs4 ++ encs ((evRegs (⟨e0, e1, e2, e3, e4, e5, e6, e7, e8, e9, e10, e11, e12, e13, e14⟩ : Ev)).take 0) ++ enc (zigN e6) = bs4 ++ encs ((evRegs (⟨e0, e1, e2, e3, e4, e5, e6, e7, e8, e9, e10, e11, e12, e13, e14⟩ : Ev)).take (0 + 1))) := by show _ = _; simp [evRegs, encs]
      go_wp2_with (go_at_call 43; (with_reducible refine HCI.out.mono ?_); rintro r w7 ⟨v, rfl, ho7, hb7⟩; obtain ⟨A7, n7, c7, rfl, _, _⟩ := own_open ho7; have hx7 := k1.below hb7; have hf7 := hx7.free; have hc7 := hx7.cell)
      go_roundw
      case rel =>
        refine ⟨0 + 1, by omega, by first | rfl | go_num, ?_⟩
        have h9 := hS.int hb7 ho7
        rw [HNX.out] at h9
        exact h9
      case measure => simp [intOf]
    · have z := k1.cell
      have qi := fun w => idxA (P := Try.prog) 26 3 8 #[.int .i64 e6, .int .i64 e7, .int .i64 e8, .int .i64 e9, .int .i64 e10, .int .i64 e11, .int .i64 e12, .int .i64 e13] 1 .i64 .i64 (.int .i64 e7) Try.underlying26 Try.underlying3 rfl (by decide) rfl (1 : Int) rfl w
      have HCI := Lib.hid (cint A n c _ e7 (HI.out e7 (by simp [evRegs])) wr k2 HN9.out)
      have HNX : Hid (bs4 ++ encs ((evRegs (⟨e0, e1, e2, e3, e4, e5, e6, e7, e8, e9, e10, e11, e12, e13, e14⟩ : Ev)).take 1) ++ enc (zigN e7) = bs4 ++ encs ((evRegs (⟨e0, e1, e2, e3, e4, e5, e6, e7, e8, e9, e10, e11, e12, e13, e14⟩ : Ev)).take (1 + 1))) := by show _ = _; simp [evRegs, encs]
      go_wp2_with (go_at_call 43; (with_reducible refine HCI.out.mono ?_); rintro r w7 ⟨v, rfl, ho7, hb7⟩; obtain ⟨A7, n7, c7, rfl, _, _⟩ := own_open ho7; have hx7 := k1.below hb7; have hf7 := hx7.free; have hc7 := hx7.cell)
      go_roundw
      case rel =>
        refine ⟨1 + 1, by omega, by first | rfl | go_num, ?_⟩
        have h9 := hS.int hb7 ho7
        rw [HNX.out] at h9
        exact h9
      case measure => simp [intOf]
    · have z := k1.cell
      have qi := fun w => idxA (P := Try.prog) 26 3 8 #[.int .i64 e6, .int .i64 e7, .int .i64 e8, .int .i64 e9, .int .i64 e10, .int .i64 e11, .int .i64 e12, .int .i64 e13] 2 .i64 .i64 (.int .i64 e8) Try.underlying26 Try.underlying3 rfl (by decide) rfl (2 : Int) rfl w
      have HCI := Lib.hid (cint A n c _ e8 (HI.out e8 (by simp [evRegs])) wr k2 HN9.out)
      have HNX : Hid (bs4 ++ encs ((evRegs (⟨e0, e1, e2, e3, e4, e5, e6, e7, e8, e9, e10, e11, e12, e13, e14⟩ : Ev)).take 2) ++ enc (zigN e8) = bs4 ++ encs ((evRegs (⟨e0, e1, e2, e3, e4, e5, e6, e7, e8, e9, e10, e11, e12, e13, e14⟩ : Ev)).take (2 + 1))) := by show _ = _; simp [evRegs, encs]
      go_wp2_with (go_at_call 43; (with_reducible refine HCI.out.mono ?_); rintro r w7 ⟨v, rfl, ho7, hb7⟩; obtain ⟨A7, n7, c7, rfl, _, _⟩ := own_open ho7; have hx7 := k1.below hb7; have hf7 := hx7.free; have hc7 := hx7.cell)
      go_roundw
      case rel =>
        refine ⟨2 + 1, by omega, by first | rfl | go_num, ?_⟩
        have h9 := hS.int hb7 ho7
        rw [HNX.out] at h9
        exact h9
      case measure => simp [intOf]
    · have z := k1.cell
      have qi := fun w => idxA (P := Try.prog) 26 3 8 #[.int .i64 e6, .int .i64 e7, .int .i64 e8, .int .i64 e9, .int .i64 e10, .int .i64 e11, .int .i64 e12, .int .i64 e13] 3 .i64 .i64 (.int .i64 e9) Try.underlying26 Try.underlying3 rfl (by decide) rfl (3 : Int) rfl w
      have HCI := Lib.hid (cint A n c _ e9 (HI.out e9 (by simp [evRegs])) wr k2 HN9.out)
      have HNX : Hid (bs4 ++ encs ((evRegs (⟨e0, e1, e2, e3, e4, e5, e6, e7, e8, e9, e10, e11, e12, e13, e14⟩ : Ev)).take 3) ++ enc (zigN e9) = bs4 ++ encs ((evRegs (⟨e0, e1, e2, e3, e4, e5, e6, e7, e8, e9, e10, e11, e12, e13, e14⟩ : Ev)).take (3 + 1))) := by show _ = _; simp [evRegs, encs]
      go_wp2_with (go_at_call 43; (with_reducible refine HCI.out.mono ?_); rintro r w7 ⟨v, rfl, ho7, hb7⟩; obtain ⟨A7, n7, c7, rfl, _, _⟩ := own_open ho7; have hx7 := k1.below hb7; have hf7 := hx7.free; have hc7 := hx7.cell)
      go_roundw
      case rel =>
        refine ⟨3 + 1, by omega, by first | rfl | go_num, ?_⟩
        have h9 := hS.int hb7 ho7
        rw [HNX.out] at h9
        exact h9
      case measure => simp [intOf]
    · have z := k1.cell
      have qi := fun w => idxA (P := Try.prog) 26 3 8 #[.int .i64 e6, .int .i64 e7, .int .i64 e8, .int .i64 e9, .int .i64 e10, .int .i64 e11, .int .i64 e12, .int .i64 e13] 4 .i64 .i64 (.int .i64 e10) Try.underlying26 Try.underlying3 rfl (by decide) rfl (4 : Int) rfl w
      have HCI := Lib.hid (cint A n c _ e10 (HI.out e10 (by simp [evRegs])) wr k2 HN9.out)
      have HNX : Hid (bs4 ++ encs ((evRegs (⟨e0, e1, e2, e3, e4, e5, e6, e7, e8, e9, e10, e11, e12, e13, e14⟩ : Ev)).take 4) ++ enc (zigN e10) = bs4 ++ encs ((evRegs (⟨e0, e1, e2, e3, e4, e5, e6, e7, e8, e9, e10, e11, e12, e13, e14⟩ : Ev)).take (4 + 1))) := by show _ = _; simp [evRegs, encs]
      go_wp2_with (go_at_call 43; (with_reducible refine HCI.out.mono ?_); rintro r w7 ⟨v, rfl, ho7, hb7⟩; obtain ⟨A7, n7, c7, rfl, _, _⟩ := own_open ho7; have hx7 := k1.below hb7; have hf7 := hx7.free; have hc7 := hx7.cell)
      go_roundw
      case rel =>
        refine ⟨4 + 1, by omega, by first | rfl | go_num, ?_⟩
        have h9 := hS.int hb7 ho7
        rw [HNX.out] at h9
        exact h9
      case measure => simp [intOf]
    · have z := k1.cell
      have qi := fun w => idxA (P := Try.prog) 26 3 8 #[.int .i64 e6, .int .i64 e7, .int .i64 e8, .int .i64 e9, .int .i64 e10, .int .i64 e11, .int .i64 e12, .int .i64 e13] 5 .i64 .i64 (.int .i64 e11) Try.underlying26 Try.underlying3 rfl (by decide) rfl (5 : Int) rfl w
      have HCI := Lib.hid (cint A n c _ e11 (HI.out e11 (by simp [evRegs])) wr k2 HN9.out)
      have HNX : Hid (bs4 ++ encs ((evRegs (⟨e0, e1, e2, e3, e4, e5, e6, e7, e8, e9, e10, e11, e12, e13, e14⟩ : Ev)).take 5) ++ enc (zigN e11) = bs4 ++ encs ((evRegs (⟨e0, e1, e2, e3, e4, e5, e6, e7, e8, e9, e10, e11, e12, e13, e14⟩ : Ev)).take (5 + 1))) := by show _ = _; simp [evRegs, encs]
      go_wp2_with (go_at_call 43; (with_reducible refine HCI.out.mono ?_); rintro r w7 ⟨v, rfl, ho7, hb7⟩; obtain ⟨A7, n7, c7, rfl, _, _⟩ := own_open ho7; have hx7 := k1.below hb7; have hf7 := hx7.free; have hc7 := hx7.cell)
      go_roundw
      case rel =>
        refine ⟨5 + 1, by omega, by first | rfl | go_num, ?_⟩
        have h9 := hS.int hb7 ho7
        rw [HNX.out] at h9
        exact h9
      case measure => simp [intOf]
    · have z := k1.cell
      have qi := fun w => idxA (P := Try.prog) 26 3 8 #[.int .i64 e6, .int .i64 e7, .int .i64 e8, .int .i64 e9, .int .i64 e10, .int .i64 e11, .int .i64 e12, .int .i64 e13] 6 .i64 .i64 (.int .i64 e12) Try.underlying26 Try.underlying3 rfl (by decide) rfl (6 : Int) rfl w
      have HCI := Lib.hid (cint A n c _ e12 (HI.out e12 (by simp [evRegs])) wr k2 HN9.out)
      have HNX : Hid (bs4 ++ encs ((evRegs (⟨e0, e1, e2, e3, e4, e5, e6, e7, e8, e9, e10, e11, e12, e13, e14⟩ : Ev)).take 6) ++ enc (zigN e12) = bs4 ++ encs ((evRegs (⟨e0, e1, e2, e3, e4, e5, e6, e7, e8, e9, e10, e11, e12, e13, e14⟩ : Ev)).take (6 + 1))) := by show _ = _; simp [evRegs, encs]
      go_wp2_with (go_at_call 43; (with_reducible refine HCI.out.mono ?_); rintro r w7 ⟨v, rfl, ho7, hb7⟩; obtain ⟨A7, n7, c7, rfl, _, _⟩ := own_open ho7; have hx7 := k1.below hb7; have hf7 := hx7.free; have hc7 := hx7.cell)
      go_roundw
      case rel =>
        refine ⟨6 + 1, by omega, by first | rfl | go_num, ?_⟩
        have h9 := hS.int hb7 ho7
        rw [HNX.out] at h9
        exact h9
      case measure => simp [intOf]
    · have z := k1.cell
      have qi := fun w => idxA (P := Try.prog) 26 3 8 #[.int .i64 e6, .int .i64 e7, .int .i64 e8, .int .i64 e9, .int .i64 e10, .int .i64 e11, .int .i64 e12, .int .i64 e13] 7 .i64 .i64 (.int .i64 e13) Try.underlying26 Try.underlying3 rfl (by decide) rfl (7 : Int) rfl w
      have HCI := Lib.hid (cint A n c _ e13 (HI.out e13 (by simp [evRegs])) wr k2 HN9.out)
      have HNX : Hid (bs4 ++ encs ((evRegs (⟨e0, e1, e2, e3, e4, e5, e6, e7, e8, e9, e10, e11, e12, e13, e14⟩ : Ev)).take 7) ++ enc (zigN e13) = bs4 ++ encs ((evRegs (⟨e0, e1, e2, e3, e4, e5, e6, e7, e8, e9, e10, e11, e12, e13, e14⟩ : Ev)).take (7 + 1))) := by show _ = _; simp [evRegs, encs]
      go_wp2_with (go_at_call 43; (with_reducible refine HCI.out.mono ?_); rintro r w7 ⟨v, rfl, ho7, hb7⟩; obtain ⟨A7, n7, c7, rfl, _, _⟩ := own_open ho7; have hx7 := k1.below hb7; have hf7 := hx7.free; have hc7 := hx7.cell)
      go_roundw
      case rel =>
        refine ⟨7 + 1, by omega, by first | rfl | go_num, ?_⟩
        have h9 := hS.int hb7 ho7
        rw [HNX.out] at h9
        exact h9
      case measure => simp [intOf]
    · have z := k1.cell
      go_wp2
      go_ret
      refine ⟨A, n, c, rfl, hS.be, ?_⟩
      have ht : (evRegs (⟨e0, e1, e2, e3, e4, e5, e6, e7, e8, e9, e10, e11, e12, e13, e14⟩ : Ev)).take 8 = evRegs (⟨e0, e1, e2, e3, e4, e5, e6, e7, e8, e9, e10, e11, e12, e13, e14⟩ : Ev) := rfl
      rw [ht, HB4.out, HC.out, if_pos rfl, HB3.out, HB2.out, HB1.out] at k2
      rw [HBY.out, HC.out, if_pos rfl]
      simpa only [List.append_assoc] using k2
end Go.Proofs.Ytdnddoiemaifjaa
