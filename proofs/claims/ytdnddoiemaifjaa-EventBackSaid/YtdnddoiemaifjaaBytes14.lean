/- The document's example of package event: Good and Bytes at it. -/
import Derived.Test.YtdnddoiemaifjaaLives14
namespace Go.Proofs.Ytdnddoiemaifjaa
open Go.RowKit
def ev0 : Ev := ⟨4, 3, 7, 5, 0, 0, 0, 0, 0, 0, 0, 0, 0, 0, 0⟩
theorem ev0_new (w : World) (e : TypeId) : EvAt (w.alloc (.cells #[.int .i64 4, .int .i64 3, .int .i64 7, .int .i64 5, .int .i64 0, .int .i64 0, .int .i64 0, .int .i64 0, .int .i64 0, .int .i64 0, .int .i64 0, .int .i64 0, .int .i64 0, .int .i64 0, .int .i64 0] e)) ⟨w.heap.size, 0, none⟩ ev0 := by
  unfold ev0
  constructor <;> simp only <;> go_simp
/-- What a kind tells, in a block. -/
structure HasAt (w : World) (b : Nat) : Prop where
  c0 : w.cell? ⟨b, 0, none⟩ = some (.bool true)
  c1 : w.cell? ⟨b, 1, none⟩ = some (.bool true)
  c2 : w.cell? ⟨b, 2, none⟩ = some (.bool true)
  c3 : w.cell? ⟨b, 3, none⟩ = some (.bool false)
theorem HasAt.keep {S : Nat → Prop} {w w1 : World} {b : Nat} (h : HasAt w b) (hc : Chg S w w1) (hs : ¬ S b) : HasAt w1 b := ⟨hc.cell h.c0 hs, hc.cell h.c1 hs, hc.cell h.c2 hs, hc.cell h.c3 hs⟩
theorem HasAt.new (w : World) (e : TypeId) : HasAt (w.alloc (.cells #[.bool true, .bool true, .bool true, .bool false] e)) w.heap.size := by
  constructor <;> go_simp
theorem EvAt.keep {S : Nat → Prop} {w w1 : World} {a : Addr} {m : Ev} (h : EvAt w a m) (hc : Chg S w w1) (hs : ¬ S a.block) : EvAt w1 a m :=
  ⟨hc.cell h.c0 hs, hc.cell h.c1 hs, hc.cell h.c2 hs, hc.cell h.c3 hs, hc.cell h.c4 hs, hc.cell h.c5 hs, hc.cell h.c6 hs, hc.cell h.c7 hs, hc.cell h.c8 hs, hc.cell h.c9 hs, hc.cell h.c10 hs, hc.cell h.c11 hs, hc.cell h.c12 hs, hc.cell h.c13 hs, hc.cell h.c14 hs⟩
theorem ctx_self (a0 a1 a2 a3 a4 a5 a6 a7 a8 a9 a10 : Int) (w : World) : (binOp .eql 28 (.agg #[.int .i64 a0, .int .i64 a1, .int .i64 a2, .int .i64 a3, .int .i64 a4, .int .i64 a5, .int .i64 a6, .int .i64 a7, .int .i64 a8, .int .i64 a9, .int .i64 a10]) (.agg #[.int .i64 a0, .int .i64 a1, .int .i64 a2, .int .i64 a3, .int .i64 a4, .int .i64 a5, .int .i64 a6, .int .i64 a7, .int .i64 a8, .int .i64 a9, .int .i64 a10])).run Try.prog w = .ok (.bool true) w := by
  have z := fun w => eqRegs 9999 9997 rfl a2 a3 a4 a5 a6 a7 a8 a9 w
  go_simp
set_option maxRecDepth 100000 in
set_option maxHeartbeats 8000000 in
theorem sgood0 (w : World) : Calls Try.prog 18 #[evV ev0] w fun e w' => e = .returned (.bool true) ∧ Below w.heap.size w w' := by
  have HE := Lib.hid (ev0_new w 30)
  have HC := Lib.hid (fun w => ctx_self 0 0 0 0 0 0 0 0 0 0 0 w)
  have hal : Below w.heap.size w (w.alloc (.cells #[.int .i64 4, .int .i64 3, .int .i64 7, .int .i64 5, .int .i64 0, .int .i64 0, .int .i64 0, .int .i64 0, .int .i64 0, .int .i64 0, .int .i64 0, .int .i64 0, .int .i64 0, .int .i64 0, .int .i64 0] 30)) := below_al (Below.refl _ _) _
  have HAL := Lib.hid hal
  clear hal
  unfold evV ev0
  simp only
  go_enter Try.func18, Try.ntmps18
  go_wp2_with (first
    | (go_at_call 39; (with_reducible refine (tells4 _).mono ?_); rintro e w1 ⟨rfl, hb1⟩; obtain ⟨z0, z1, z2, z3, z4, z5, z6, z7, z8, z9, z10, z11, z12, z13, z14⟩ := (HE.out.below hb1).below (below_al (Below.refl _ _) (.cells #[.bool true, .bool true, .bool true, .bool false] 68)); unfold ev0 at z0 z1 z2 z3 z4 z5 z6 z7 z8 z9 z10 z11 z12 z13 z14; simp only at z0 z1 z2 z3 z4 z5 z6 z7 z8 z9 z10 z11 z12 z13 z14; have hcx := HC.out)
    | (go_at_call 40; refine (inT _ _ _ (by omega) _).mono ?_; rintro e w' ⟨rfl, rfl⟩))
  go_ret
  exact ⟨rfl, below_al (below_then HAL.out HAL.out.size hb1) _⟩
/-- What stands while the bytes grow. -/
structure StB (w0 W : World) (ea hb pb : Nat) (bs : List Int) : Prop where
  ev : EvAt W ⟨ea, 0, none⟩ ev0
  has : HasAt W hb
  box : ∃ A n c, Box W pb 0 (.slice A n c) ∧ Rds W 1 A n c (nums .u8 bs)
  be : Below w0.heap.size w0 W
  n1 : ea ≠ pb
  n2 : hb ≠ pb
  n3 : w0.heap.size ≤ pb
theorem StB.below_ {w0 W W' : World} {ea hb pb : Nat} {bs : List Int} (h : StB w0 W ea hb pb bs) (hb' : Below W.heap.size W W') : StB w0 W' ea hb pb bs := by
  obtain ⟨A, n, c, h1, h2⟩ := h.box
  exact ⟨h.ev.below hb', h.has.keep (S := fun _ => False) (.of_below hb') (fun h => h), ⟨A, n, c, h1.below hb', h2.below hb'⟩, below_then h.be h.be.size hb', h.n1, h.n2, h.n3⟩
theorem StB.call {w0 W : World} {ea hb pb : Nat} {bs : List Int} (h : StB w0 W ea hb pb bs) (x : Int) (hx : 0 ≤ x ∧ x < 9223372036854775808) (hl : bs.length ≤ 1000000) (g : Nat) (hg : g = W.heap.size) :
    Calls Try.prog 42 #[.bool true, .slice (some ⟨g, 0, none⟩) 1 1, .pointer (some ⟨pb, 0, none⟩)] (W.alloc (.cells #[.int .i64 x] 3)) fun e w' => e = .returned (.tuple #[]) ∧ StB w0 w' ea hb pb (bs ++ enc x.toNat) := by
  subst hg
  have h' := h.below_ (below_al (Below.refl _ _) (.cells #[.int .i64 x] 3))
  obtain ⟨A, n, c, h1, h2⟩ := h'.box
  have hn := rds_len h2
  refine (swhen pb A n c bs _ 1 1 [x] _ h1 h2 (rds_lit W 3 1 1 (nums .i64 [x]) rfl (by decide)) (fun y hy => by simp at hy; subst hy; exact hx) (by decide) (by decide) (by omega)).mono ?_
  rintro e w' ⟨he, hc, A1, n1, c1, k1, k2, _⟩
  refine ⟨he, h'.ev.keep hc h.n1, h'.has.keep hc h.n2, ⟨A1, n1, c1, k1, by simpa [encN] using k2⟩, hc.toBelow h'.be h'.be.size (fun k hk => by have := h.n3; omega), h.n1, h.n2, h.n3⟩
set_option maxRecDepth 100000 in
set_option maxHeartbeats 8000000 in
theorem sbytes0 (w : World) : Calls Try.prog 19 #[evV ev0] w fun e w' => ∃ A n c, e = .returned (.slice A n c) ∧ Below w.heap.size w w' ∧ Rds w' 1 A n c (nums .u8 [4, 3, 7, 5]) := by
  have HE := Lib.hid (ev0_new w 30)
  have hal : Below w.heap.size w (w.alloc (.cells #[.int .i64 4, .int .i64 3, .int .i64 7, .int .i64 5, .int .i64 0, .int .i64 0, .int .i64 0, .int .i64 0, .int .i64 0, .int .i64 0, .int .i64 0, .int .i64 0, .int .i64 0, .int .i64 0, .int .i64 0] 30)) := below_al (Below.refl _ _) _
  have HAL := Lib.hid hal
  clear hal
  obtain ⟨z0, z1, z2, z3, z4, z5, z6, z7, z8, z9, z10, z11, z12, z13, z14⟩ := HE.out
  unfold ev0 at z0 z1 z2 z3 z4 z5 z6 z7 z8 z9 z10 z11 z12 z13 z14
  simp only at z0 z1 z2 z3 z4 z5 z6 z7 z8 z9 z10 z11 z12 z13 z14
  have HG := Lib.hid (fun W => sgood0 W)
  unfold evV ev0
  unfold evV ev0 at HG
  simp only at HG ⊢
  go_enter Try.func19, Try.ntmps19
  go_wp2_with (first
    | (go_at_call 18; (with_reducible refine (HG.out _).mono ?_); rintro e w1 ⟨rfl, hb1⟩; clear z0 z1 z2 z3 z4 z5 z6 z7 z8 z9 z10 z11 z12 z13 z14; have z0 := (HE.out.below hb1).c0; unfold ev0 at z0)
    | (go_at_call 39; (with_reducible refine (tells4 _).mono ?_); rintro e w2 ⟨rfl, hb2⟩; clear z0; have E3 := ((HE.out.below hb1).below hb2).below (below_al (Below.refl _ _) (.cells #[.bool true, .bool true, .bool true, .bool false] 68)); have H3 := HasAt.new w2 68; have z0 := E3.c0; unfold ev0 at z0; simp only at z0; have E5 := (E3.below (below_al (Below.refl _ _) (.cells #[.int .u8 4] 5))).below (below_al (Below.refl _ _) (.cells #[.slice (some ⟨w2.heap.size + 1, 0, none⟩) 1 1] 33)); have z1 := E5.c1; unfold ev0 at z1; simp only at z1))
  have hsz5 : ((w2.alloc (.cells #[.bool true, .bool true, .bool true, .bool false] 68)).alloc (.cells #[.int .u8 4] 5)).heap.size = w2.heap.size + 1 + 1 := by simp
  have HS : Hid (StB w (((w2.alloc (.cells #[.bool true, .bool true, .bool true, .bool false] 68)).alloc (.cells #[.int .u8 4] 5)).alloc (.cells #[.slice (some ⟨w2.heap.size + 1, 0, none⟩) 1 1] 33)) w.heap.size w2.heap.size (w2.heap.size + 1 + 1) [4]) := by
    have hB3 := below_then (below_then (below_then HAL.out HAL.out.size hb1) (below_then HAL.out HAL.out.size hb1).size hb2) (below_then (below_then HAL.out HAL.out.size hb1) (below_then HAL.out HAL.out.size hb1).size hb2).size (below_al (Below.refl _ _) (.cells #[.bool true, .bool true, .bool true, .bool false] 68))
    have hww : w.heap.size < w2.heap.size := by have h1 := hb1.size; have h2 := hb2.size; simp at h1; omega
    refine ⟨E5, (H3.keep (S := fun _ => False) (.of_below (below_al (Below.refl _ _) _)) (fun h => h)).keep (S := fun _ => False) (.of_below (below_al (Below.refl _ _) _)) (fun h => h), ?_, below_al (below_al hB3 _) _, by omega, by omega, by omega⟩
    refine ⟨_, 1, 1, by have := Box.new ((w2.alloc (.cells #[.bool true, .bool true, .bool true, .bool false] 68)).alloc (.cells #[.int .u8 4] 5)) (.slice (some ⟨w2.heap.size + 1, 0, none⟩) 1 1) 33; rwa [hsz5] at this, ?_⟩
    have hr := rds_lit (w2.alloc (.cells #[.bool true, .bool true, .bool true, .bool false] 68)) 5 1 1 (nums .u8 [4]) rfl (by decide)
    rw [show (w2.alloc (.cells #[.bool true, .bool true, .bool true, .bool false] 68)).heap.size = w2.heap.size + 1 by simp] at hr
    exact hr.below (below_al (Below.refl _ _) _)
  clear z0 z1 E3 H3 E5 HG HE
  have HC1 := Lib.hid (HS.out.call 3 (by omega) (by decide) (w2.heap.size + 1 + 1 + 1) (by simp))
  refine HC1.out.mono ?_
  rintro e w3 ⟨rfl, h3⟩
  have z2 := h3.ev.c2
  have z3 := h3.has.c1
  unfold ev0 at z2
  simp only at z2
  go_wp2_with (first
    | (go_at_call 42; refine (h3.call 7 (by omega) (by decide +kernel) _ rfl).mono ?_; rintro e w4 ⟨rfl, h4⟩; clear z2 z3; have z4 := h4.ev.c3; have z5 := h4.has.c2; unfold ev0 at z4; simp only at z4)
    | (go_at_call 42; refine (h4.call 5 (by omega) (by decide +kernel) _ rfl).mono ?_; rintro e w5 ⟨rfl, h5⟩; clear z4 z5; have z6 := h5.ev.c4; have z7 := h5.ev.c5; have z8 := h5.ev.c14; have z9 := h5.has.c3; unfold ev0 at z6 z7 z8; simp only at z6 z7 z8)
    | (go_at_call 42; refine (swhen_no _ _ _).mono ?_; rintro e w6 ⟨rfl, rfl⟩; clear z6 z7 z8 z9; have h6 := h5.below_ (below_al (Below.refl _ _) (.cells #[.int .i64 0, .int .i64 0, .int .i64 0] 3)); have z10 := h6.has.c3; obtain ⟨A, n, c, k1, k2⟩ := h6.box; have z11 := k1.cell))
  go_ret
  refine ⟨A, n, c, rfl, h6.be, ?_⟩
  have e : [4] ++ enc (3 : Int).toNat ++ enc (7 : Int).toNat ++ enc (5 : Int).toNat = [4, 3, 7, 5] := by decide +kernel
  rw [e] at k2
  exact k2
theorem str14 : strOfNums [4, 3, 7, 5] = ⟨#[4, 3, 7, 5]⟩ := by decide +kernel
set_option maxRecDepth 100000 in
set_option maxHeartbeats 2000000 in
theorem lives14 (w : World) : Calls Try.prog 7 #[] w fun e w' => e = .returned (.bool true) ∧ Below w.heap.size w w' := by
  have HB := Lib.hid (fun W => sbytes0 W)
  unfold evV ev0 at HB
  simp only at HB
  go_enter Try.func7, Try.ntmps7
  go_wp2_with (go_at_call 19; (with_reducible refine (HB.out _).mono ?_); rintro e w1 ⟨A, n, c, rfl, hb1, hr1⟩; have hs1 := conv_str Try.underlying33 Try.underlying5 Try.underlying9 hr1; rw [str14] at hs1)
  go_ret
  exact ⟨rfl, hb1⟩
end Go.Proofs.Ytdnddoiemaifjaa
