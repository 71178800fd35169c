/- Package code: Byte, Ints and End of a source that was made. -/
import Derived.Test.YtdhckbpfkdekmaaSrcGets
import Derived.Test.YtdhckbpfkdekmaaSrcRead
import Derived.Test.YtdhckbpfkdekmaaGetInts
import Derived.Test.YtdhckbpfkdekmaaGetByte
namespace Go.Proofs.Ytdhckbpfkdekmaa
open Go.RowKit
variable {B : Nat}
set_option maxRecDepth 100000 in
set_option maxHeartbeats 4000000 in
theorem srcByte' (b : Nat) (er : Int) (bs : List Int) (w : World) (h : Src B w b bs er) (hB : B ≤ w.heap.size) (hb : U8s bs) :
    Calls Try.prog 28 #[.pointer (some ⟨b, 0, none⟩)] w (Tells (fun v => .int .u8 v) B w b (gotE 0 octM bs er)) := by
  by_cases her : er = 0
  · subst her
    have hmf : ∀ (fn : Fn) (first cap : Array Value) (w : World), (Instr.makeFunc fn first cap).run Try.prog w = .ok (.func fn first cap) w := fun _ _ _ _ => rfl
    have HM := Lib.hid (sis b true _ h.made.cell)
    have hst : ∀ W, Below w.heap.size w W → Src B W b bs 0 → Calls Try.prog 51 #[.pointer (some ⟨b, 0, none⟩)] W (GotV (fun v => .int .u8 v) B W b 0 (octM bs)) := fun W hW hs => octet_walk b 0 bs W hs
    have hwl : Well bs (octM bs) _ := well_oct hb
    cases hr : octM bs with
    | error x =>
      rw [hr] at hwl
      have hx : x ≠ 0 := hwl
      rw [gotE_error hr]
      rw [hr] at hst
      have HG := Lib.hid (getByte_err (B := B) b _ _ (fun _ _ => rfl) bs x hx _ h hB hst)
      clear hst hB h hr hx hwl
      go_enter Try.func28, Try.ntmps28
      go_wp2_with (first | (go_at_call 42; (with_reducible refine HM.out.mono ?_); rintro e w1 ⟨rfl, rfl⟩) | ((with_reducible refine HG.out.mono ?_); rintro e w2 ⟨rfl, hc2, hs2⟩))
      go_ret
      exact ⟨rfl, hc2, hs2⟩
    | ok q =>
      obtain ⟨v, rest⟩ := q
      rw [gotE_ok hr]
      rw [hr] at hst
      have HG := Lib.hid (getByte_ok (B := B) b _ _ (fun _ _ => rfl) bs rest v _ h hB hst)
      clear hst hB h hr hwl
      go_enter Try.func28, Try.ntmps28
      go_wp2_with (first | (go_at_call 42; (with_reducible refine HM.out.mono ?_); rintro e w1 ⟨rfl, rfl⟩) | ((with_reducible refine HG.out.mono ?_); rintro e w2 ⟨rfl, hc2, hs2⟩))
      go_ret
      exact ⟨rfl, hc2, hs2⟩
  · rw [gotE_err her]
    refine (qByte b er bs her w h).mono ?_
    rintro e w1 ⟨rfl, hb1⟩
    exact ⟨rfl, .of_below hb1, h.below hb1⟩
/-- What Ints leaves. -/
def TellsL (B : Nat) (w : World) (b : Nat) (r : List Int × List Int × Int) (e : Ending) (w' : World) : Prop :=
  ∃ A n c, e = .returned (.slice A n c) ∧ Rds w' 1 A n c (nums .i64 r.1) ∧ (∀ ad, A = some ad → w.heap.size ≤ ad.block) ∧ Chg (fun k => k = b) w w' ∧ Src B w' b r.2.1 r.2.2
set_option maxRecDepth 100000 in
set_option maxHeartbeats 4000000 in
theorem srcInts' (b : Nat) (n a d : Int) (er : Int) (bs : List Int) (w : World) (h : Src B w b bs er) (hB : B ≤ w.heap.size) (hb : U8s bs) (hlen : bs.length ≤ 1000000) (hI : I64 n) :
    Calls Try.prog 27 #[.pointer (some ⟨b, 0, none⟩), .int .i64 n, .int .i64 a, .int .i64 d] w (TellsL B w b (gotE [] (fun bs => intsM bs n a d) bs er)) := by
  by_cases her : er = 0
  · subst her
    have hlt := h.made.lt
    have hal : Below w.heap.size w ((((w.alloc (.cells #[.pointer (some ⟨b, 0, none⟩)] 34)).alloc (.cells #[.int .i64 n] 3)).alloc (.cells #[.int .i64 a] 3)).alloc (.cells #[.int .i64 d] 3)) := below_al (below_al (below_al (below_al (Below.refl _ _) _) _) _) _
    have h2 := h.below hal
    have B0 := (((Box.new w (.pointer (some ⟨b, 0, none⟩)) 34).below (below_al (Below.refl _ _) (.cells #[.int .i64 n] 3))).below (below_al (Below.refl _ _) (.cells #[.int .i64 a] 3))).below (below_al (Below.refl _ _) (.cells #[.int .i64 d] 3))
    have B1 := ((Box.new (w.alloc (.cells #[.pointer (some ⟨b, 0, none⟩)] 34)) (.int .i64 n) 3).below (below_al (Below.refl _ _) (.cells #[.int .i64 a] 3))).below (below_al (Below.refl _ _) (.cells #[.int .i64 d] 3))
    have B2 := (Box.new ((w.alloc (.cells #[.pointer (some ⟨b, 0, none⟩)] 34)).alloc (.cells #[.int .i64 n] 3)) (.int .i64 a) 3).below (below_al (Below.refl _ _) (.cells #[.int .i64 d] 3))
    have B3 := Box.new (((w.alloc (.cells #[.pointer (some ⟨b, 0, none⟩)] 34)).alloc (.cells #[.int .i64 n] 3)).alloc (.cells #[.int .i64 a] 3)) (.int .i64 d) 3
    have hz1 : (w.alloc (.cells #[.pointer (some ⟨b, 0, none⟩)] 34)).heap.size = w.heap.size + 1 := by simp
    rw [hz1] at B1
    have hz2 : ((w.alloc (.cells #[.pointer (some ⟨b, 0, none⟩)] 34)).alloc (.cells #[.int .i64 n] 3)).heap.size = w.heap.size + 1 + 1 := by simp
    rw [hz2] at B2
    have hz3 : (((w.alloc (.cells #[.pointer (some ⟨b, 0, none⟩)] 34)).alloc (.cells #[.int .i64 n] 3)).alloc (.cells #[.int .i64 a] 3)).heap.size = w.heap.size + 1 + 1 + 1 := by simp
    rw [hz3] at B3
    obtain ⟨W0, hW0⟩ : ∃ W0, W0 = ((((w.alloc (.cells #[.pointer (some ⟨b, 0, none⟩)] 34)).alloc (.cells #[.int .i64 n] 3)).alloc (.cells #[.int .i64 a] 3)).alloc (.cells #[.int .i64 d] 3)) := ⟨_, rfl⟩
    rw [← hW0] at B0 B1 B2 B3 h2 hal
    have hB2 : B ≤ W0.heap.size := by have := hal.size; omega
    have hst : ∀ W, Below W0.heap.size W0 W → Src B W b bs 0 → Calls Try.prog 53 #[.pointer (some ⟨w.heap.size, 0, none⟩), .pointer (some ⟨w.heap.size + 1, 0, none⟩), .pointer (some ⟨w.heap.size + 1 + 1, 0, none⟩), .pointer (some ⟨w.heap.size + 1 + 1 + 1, 0, none⟩)] W (GotL B W b 0 (intsM bs n a d)) := fun W hW hs =>
      ints1 _ _ _ _ b 0 bs n a d W hs (Nat.le_trans hB2 hW.size) hb hlen (B0.below hW) (B1.below hW) (B2.below hW) (B3.below hW) hI (by omega) (by omega) (by omega)
    have hwl := well_ints hb n a d
    cases hr : intsM bs n a d with
    | error x =>
      rw [hr] at hwl
      have hx : x ≠ 0 := hwl
      rw [gotE_error (f := fun bs => intsM bs n a d) hr]
      rw [hr] at hst
      have HG := Lib.hid (getInts_err (B := B) b _ _ (fun _ _ => rfl) bs x hx _ h2 hB2 hst)
      have HAL := Lib.hid hal
      subst hW0
      clear hst hal hB2 h2 hr hx hwl B0 B1 B2 B3 hz1 hz2 hz3
      go_enter Try.func27, Try.ntmps27
      go_wp2_with ((with_reducible refine HG.out.mono ?_); rintro e w2 ⟨rfl, hc2, hs2⟩)
      go_ret
      exact ⟨none, 0, 0, rfl, Rds.none_ _ _, (fun ad e => by cases e), (Chg.of_below HAL.out).trans hc2, hs2⟩
    | ok q =>
      obtain ⟨l, rest⟩ := q
      rw [gotE_ok (f := fun bs => intsM bs n a d) hr]
      rw [hr] at hst
      have HG := Lib.hid (getInts_ok (B := B) b _ _ (fun _ _ => rfl) bs rest l _ h2 hB2 hst)
      have HAL := Lib.hid hal
      subst hW0
      clear hst hal hB2 h2 hr hwl B0 B1 B2 B3 hz1 hz2 hz3
      go_enter Try.func27, Try.ntmps27
      go_wp2_with ((with_reducible refine HG.out.mono ?_); rintro e w2 ⟨A, m, c, rfl, hrd, hba, hc2, hs2⟩)
      go_ret
      exact ⟨A, m, c, rfl, hrd, (fun ad e => Nat.le_trans HAL.out.size (hba ad e)), (Chg.of_below HAL.out).trans hc2, hs2⟩
  · rw [gotE_err her]
    refine (qInts b er bs her n a d w h).mono ?_
    rintro e w1 ⟨rfl, hb1⟩
    exact ⟨none, 0, 0, rfl, Rds.none_ _ _, (fun ad e => by cases e), .of_below hb1, h.below hb1⟩
set_option maxRecDepth 100000 in
set_option maxHeartbeats 2000000 in
theorem srcEnd (b : Nat) (er : Int) (bs : List Int) (w : World) (h : Src B w b bs er) : Calls Try.prog 29 #[.pointer (some ⟨b, 0, none⟩)] w fun e w' => e = .returned (.int .i64 (endE bs er)) ∧ w = w' := by
  have HE := Lib.hid (srcErr b er bs w h)
  have HL := Lib.hid (srcLeft b er bs w h)
  by_cases h0 : er = 0
  · subst h0
    by_cases hl : 0 < bs.length
    · have e1 : endE bs 0 = 10 := by unfold endE; rw [if_neg (by decide), if_pos hl]
      rw [e1]
      have hl' : (0 : Int) < bs.length := by omega
      clear h e1
      go_enter Try.func29, Try.ntmps29
      go_wp2_with (first | (go_at_call 23; (with_reducible refine HE.out.mono ?_); rintro e w1 ⟨rfl, rfl⟩) | (go_at_call 22; (with_reducible refine HL.out.mono ?_); rintro e w1 ⟨rfl, rfl⟩))
      go_ret
      exact ⟨rfl, rfl⟩
    · have e1 : endE bs 0 = 0 := by unfold endE; rw [if_neg (by decide), if_neg hl]
      rw [e1]
      have hl' : (bs.length : Int) = 0 := by omega
      rw [hl'] at HL
      clear h e1
      go_enter Try.func29, Try.ntmps29
      go_wp2_with (first | (go_at_call 23; (with_reducible refine HE.out.mono ?_); rintro e w1 ⟨rfl, rfl⟩) | (go_at_call 22; (with_reducible refine HL.out.mono ?_); rintro e w1 ⟨rfl, rfl⟩))
      go_ret
      exact ⟨rfl, rfl⟩
  · have e1 : endE bs er = er := by unfold endE; rw [if_pos h0]
    rw [e1]
    have hn : (er != 0) = true := by simpa using h0
    clear h e1 h0
    go_enter Try.func29, Try.ntmps29
    go_wp2_with (go_at_call 23; (with_reducible refine HE.out.mono ?_); rintro e w1 ⟨rfl, rfl⟩)
    go_ret
    exact ⟨rfl, rfl⟩
end Go.Proofs.Ytdhckbpfkdekmaa
