/- Package code: Num, Int, Text, Flag of a source that was made. -/
import Derived.Test.YtdnddoiemaifjaaSrcInts
import Derived.Test.YtdnddoiemaifjaaSrcStop
import Derived.Test.YtdnddoiemaifjaaGetInt
namespace Go.Proofs.Ytdnddoiemaifjaa
open Go.RowKit
variable {B : Nat}
/-- What a getter leaves. -/
def Tells {T : Type} (val : T → Value) (B : Nat) (w : World) (b : Nat) (r : T × List Int × Int) (e : Ending) (w' : World) : Prop := e = .returned (val r.1) ∧ Chg (fun k => k = b) w w' ∧ Src B w' b r.2.1 r.2.2
theorem well_numM {bs : List Int} (hb : U8s bs) (m : Nat) : Well bs (numM bs m) fun v => v ≤ m := by
  have h := well_num hb
  unfold numM
  unfold Well at *
  cases hn : numS bs with
  | error e => rw [hn] at h; exact h
  | ok q =>
    obtain ⟨v, rest⟩ := q
    rw [hn] at h
    simp only
    by_cases hv : v ≤ m
    · rw [if_pos hv]; exact ⟨hv, h.2⟩
    · rw [if_neg hv]; show (8 : Int) ≠ 0; decide
set_option maxRecDepth 100000 in
set_option maxHeartbeats 4000000 in
theorem srcNum' (b : Nat) (m : Nat) (er : Int) (bs : List Int) (w : World) (h : Src B w b bs er) (hB : B ≤ w.heap.size) (hb : U8s bs) :
    Calls Try.prog 35 #[.pointer (some ⟨b, 0, none⟩), .int .u64 m] w (Tells (fun v : Nat => .int .u64 v) B w b (gotE 0 (fun bs => numM bs m) bs er)) := by
  by_cases her : er = 0
  · subst her
    have hlt := h.made.lt
    have hal : Below w.heap.size w (((w).alloc (.cells #[.pointer (some ⟨b, 0, none⟩)] 55)).alloc (.cells #[.int .u64 m] 54)) := below_al (below_al (Below.refl _ _) _) _
    have h2 := h.below hal
    have B0 := (Box.new (w) (.pointer (some ⟨b, 0, none⟩)) 55).below (below_al (Below.refl _ _) (.cells #[.int .u64 m] 54))
    have B1 := Box.new ((w).alloc (.cells #[.pointer (some ⟨b, 0, none⟩)] 55)) (.int .u64 m) 54
    have hz1 : ((w).alloc (.cells #[.pointer (some ⟨b, 0, none⟩)] 55)).heap.size = w.heap.size + 1 := by simp
    rw [hz1] at B1
    have hst : ∀ W, Below (((w).alloc (.cells #[.pointer (some ⟨b, 0, none⟩)] 55)).alloc (.cells #[.int .u64 m] 54)).heap.size (((w).alloc (.cells #[.pointer (some ⟨b, 0, none⟩)] 55)).alloc (.cells #[.int .u64 m] 54)) W → Src B W b bs 0 → Calls Try.prog 57 #[.pointer (some ⟨w.heap.size, 0, none⟩), .pointer (some ⟨w.heap.size + 1, 0, none⟩)] W (GotN B W b 0 (numM bs m)) := fun W hW hs =>
      num1 (w.heap.size) (w.heap.size + 1) b m 0 bs W hs hb (B0.below hW) (B1.below hW) (by omega)
    have hB2 : B ≤ (((w).alloc (.cells #[.pointer (some ⟨b, 0, none⟩)] 55)).alloc (.cells #[.int .u64 m] 54)).heap.size := by simp; omega
    have hwl : Well bs ((fun bs => numM bs m) bs) _ := (well_numM hb m)
    cases hr : (fun bs => numM bs m) bs with
    | error x =>
      rw [hr] at hwl
      have hx : x ≠ 0 := hwl
      rw [gotE_error hr]
      rw [show numM bs m = _ from hr] at hst
      have HG := Lib.hid (get64_err (B := B) b _ _ (fun _ _ => rfl) bs x hx _ h2 hB2 _ rfl hst)
      have HAL := Lib.hid hal
      clear hst hal hB2 h2 hr hx hwl B0 B1 hz1
      go_enter Try.func35, Try.ntmps35
      go_wp2_with ((with_reducible refine HG.out.mono ?_); rintro e w2 ⟨rfl, hc2, hs2⟩)
      go_ret
      exact ⟨rfl, (Chg.of_below HAL.out).trans hc2, hs2⟩
    | ok q =>
      obtain ⟨v, rest⟩ := q
      rw [gotE_ok hr]
      rw [show numM bs m = _ from hr] at hst
      have HG := Lib.hid (get64_ok (B := B) b _ _ (fun _ _ => rfl) bs rest v _ h2 hB2 _ rfl hst)
      have HAL := Lib.hid hal
      clear hst hal hB2 h2 hr hwl B0 B1 hz1
      go_enter Try.func35, Try.ntmps35
      go_wp2_with ((with_reducible refine HG.out.mono ?_); rintro e w2 ⟨rfl, hc2, hs2⟩)
      go_ret
      exact ⟨rfl, (Chg.of_below HAL.out).trans hc2, hs2⟩
  · rw [gotE_err her]
    refine (qNum b er bs her (m : Int) w h).mono ?_
    rintro e w1 ⟨rfl, hb1⟩
    exact ⟨rfl, .of_below hb1, h.below hb1⟩
set_option maxRecDepth 100000 in
set_option maxHeartbeats 4000000 in
theorem srcInt' (b : Nat) (a : Int) (d : Int) (er : Int) (bs : List Int) (w : World) (h : Src B w b bs er) (hB : B ≤ w.heap.size) (hb : U8s bs) :
    Calls Try.prog 51 #[.pointer (some ⟨b, 0, none⟩), .int .i64 a, .int .i64 d] w (Tells (fun v => .int .i64 v) B w b (gotE 0 (fun bs => withinM bs a d) bs er)) := by
  by_cases her : er = 0
  · subst her
    have hlt := h.made.lt
    have hal : Below w.heap.size w ((((w).alloc (.cells #[.pointer (some ⟨b, 0, none⟩)] 55)).alloc (.cells #[.int .i64 a] 3)).alloc (.cells #[.int .i64 d] 3)) := below_al (below_al (below_al (Below.refl _ _) _) _) _
    have h2 := h.below hal
    have B0 := ((Box.new (w) (.pointer (some ⟨b, 0, none⟩)) 55).below (below_al (Below.refl _ _) (.cells #[.int .i64 a] 3))).below (below_al (Below.refl _ _) (.cells #[.int .i64 d] 3))
    have B1 := (Box.new ((w).alloc (.cells #[.pointer (some ⟨b, 0, none⟩)] 55)) (.int .i64 a) 3).below (below_al (Below.refl _ _) (.cells #[.int .i64 d] 3))
    have B2 := Box.new (((w).alloc (.cells #[.pointer (some ⟨b, 0, none⟩)] 55)).alloc (.cells #[.int .i64 a] 3)) (.int .i64 d) 3
    have hz1 : ((w).alloc (.cells #[.pointer (some ⟨b, 0, none⟩)] 55)).heap.size = w.heap.size + 1 := by simp
    rw [hz1] at B1
    have hz2 : (((w).alloc (.cells #[.pointer (some ⟨b, 0, none⟩)] 55)).alloc (.cells #[.int .i64 a] 3)).heap.size = w.heap.size + 1 + 1 := by simp
    rw [hz2] at B2
    have hst : ∀ W, Below ((((w).alloc (.cells #[.pointer (some ⟨b, 0, none⟩)] 55)).alloc (.cells #[.int .i64 a] 3)).alloc (.cells #[.int .i64 d] 3)).heap.size ((((w).alloc (.cells #[.pointer (some ⟨b, 0, none⟩)] 55)).alloc (.cells #[.int .i64 a] 3)).alloc (.cells #[.int .i64 d] 3)) W → Src B W b bs 0 → Calls Try.prog 67 #[.pointer (some ⟨w.heap.size, 0, none⟩), .pointer (some ⟨w.heap.size + 1, 0, none⟩), .pointer (some ⟨w.heap.size + 1 + 1, 0, none⟩)] W (GotV (fun v => .int .i64 v) B W b 0 ((fun bs => withinM bs a d) bs)) := fun W hW hs =>
      int1 (w.heap.size) (w.heap.size + 1) (w.heap.size + 1 + 1) b 0 bs a d W hs hb (B0.below hW) (B1.below hW) (B2.below hW)
    have hB2 : B ≤ ((((w).alloc (.cells #[.pointer (some ⟨b, 0, none⟩)] 55)).alloc (.cells #[.int .i64 a] 3)).alloc (.cells #[.int .i64 d] 3)).heap.size := by simp; omega
    have hwl : Well bs ((fun bs => withinM bs a d) bs) _ := (well_within hb a d)
    cases hr : (fun bs => withinM bs a d) bs with
    | error x =>
      rw [hr] at hwl
      have hx : x ≠ 0 := hwl
      rw [gotE_error hr]
      rw [show (fun bs => withinM bs a d) bs = _ from hr] at hst
      have HG := Lib.hid (getInt_err (B := B) b _ _ (fun _ _ => rfl) bs x hx _ h2 hB2 hst)
      have HAL := Lib.hid hal
      clear hst hal hB2 h2 hr hx hwl B0 B1 B2 hz1 hz2
      go_enter Try.func51, Try.ntmps51
      go_wp2_with ((with_reducible refine HG.out.mono ?_); rintro e w2 ⟨rfl, hc2, hs2⟩)
      go_ret
      exact ⟨rfl, (Chg.of_below HAL.out).trans hc2, hs2⟩
    | ok q =>
      obtain ⟨v, rest⟩ := q
      rw [gotE_ok hr]
      rw [show (fun bs => withinM bs a d) bs = _ from hr] at hst
      have HG := Lib.hid (getInt_ok (B := B) b _ _ (fun _ _ => rfl) bs rest v _ h2 hB2 hst)
      have HAL := Lib.hid hal
      clear hst hal hB2 h2 hr hwl B0 B1 B2 hz1 hz2
      go_enter Try.func51, Try.ntmps51
      go_wp2_with ((with_reducible refine HG.out.mono ?_); rintro e w2 ⟨rfl, hc2, hs2⟩)
      go_ret
      exact ⟨rfl, (Chg.of_below HAL.out).trans hc2, hs2⟩
  · rw [gotE_err her]
    refine (qInt b er bs her a d w h).mono ?_
    rintro e w1 ⟨rfl, hb1⟩
    exact ⟨rfl, .of_below hb1, h.below hb1⟩
end Go.Proofs.Ytdnddoiemaifjaa
