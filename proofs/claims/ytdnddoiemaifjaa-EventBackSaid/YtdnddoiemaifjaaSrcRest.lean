/- Package code: Byte, Ints and End of a source that was made. -/
import Derived.Test.YtdnddoiemaifjaaSrcGets
import Derived.Test.YtdnddoiemaifjaaSrcRead
import Derived.Test.YtdnddoiemaifjaaGetByte
namespace Go.Proofs.Ytdnddoiemaifjaa
open Go.RowKit
variable {B : Nat}
set_option maxRecDepth 100000 in
set_option maxHeartbeats 4000000 in
theorem srcByte' (b : Nat) (er : Int) (bs : List Int) (w : World) (h : Src B w b bs er) (hB : B ≤ w.heap.size) (hb : U8s bs) :
    Calls Try.prog 49 #[.pointer (some ⟨b, 0, none⟩)] w (Tells (fun v => .int .u8 v) B w b (gotE 0 octM bs er)) := by
  by_cases her : er = 0
  · subst her
    have hmf : ∀ (fn : Fn) (first cap : Array Value) (w : World), (Instr.makeFunc fn first cap).run Try.prog w = .ok (.func fn first cap) w := fun _ _ _ _ => rfl
    have HM := Lib.hid (sis b true _ h.made.cell)
    have hst : ∀ W, Below w.heap.size w W → Src B W b bs 0 → Calls Try.prog 65 #[.pointer (some ⟨b, 0, none⟩)] W (GotV (fun v => .int .u8 v) B W b 0 (octM bs)) := fun W hW hs => octet_walk b 0 bs W hs
    have hwl : Well bs (octM bs) _ := well_oct hb
    cases hr : octM bs with
    | error x =>
      rw [hr] at hwl
      have hx : x ≠ 0 := hwl
      rw [gotE_error hr]
      rw [hr] at hst
      have HG := Lib.hid (getByte_err (B := B) b _ _ (fun _ _ => rfl) bs x hx _ h hB hst)
      clear hst hB h hr hx hwl
      go_enter Try.func49, Try.ntmps49
      go_wp2_with (first | (go_at_call 52; (with_reducible refine HM.out.mono ?_); rintro e w1 ⟨rfl, rfl⟩) | ((with_reducible refine HG.out.mono ?_); rintro e w2 ⟨rfl, hc2, hs2⟩))
      go_ret
      exact ⟨rfl, hc2, hs2⟩
    | ok q =>
      obtain ⟨v, rest⟩ := q
      rw [gotE_ok hr]
      rw [hr] at hst
      have HG := Lib.hid (getByte_ok (B := B) b _ _ (fun _ _ => rfl) bs rest v _ h hB hst)
      clear hst hB h hr hwl
      go_enter Try.func49, Try.ntmps49
      go_wp2_with (first | (go_at_call 52; (with_reducible refine HM.out.mono ?_); rintro e w1 ⟨rfl, rfl⟩) | ((with_reducible refine HG.out.mono ?_); rintro e w2 ⟨rfl, hc2, hs2⟩))
      go_ret
      exact ⟨rfl, hc2, hs2⟩
  · rw [gotE_err her]
    refine (qByte b er bs her w h).mono ?_
    rintro e w1 ⟨rfl, hb1⟩
    exact ⟨rfl, .of_below hb1, h.below hb1⟩
/-- What Ints leaves. -/
def TellsL (B : Nat) (w : World) (b : Nat) (r : List Int × List Int × Int) (e : Ending) (w' : World) : Prop :=
  ∃ A n c, e = .returned (.slice A n c) ∧ Rds w' 1 A n c (nums .i64 r.1) ∧ (∀ ad, A = some ad → w.heap.size ≤ ad.block) ∧ Chg (fun k => k = b) w w' ∧ Src B w' b r.2.1 r.2.2
set_option maxRecDepth 100000 in
set_option maxHeartbeats 2000000 in
theorem srcEnd (b : Nat) (er : Int) (bs : List Int) (w : World) (h : Src B w b bs er) : Calls Try.prog 36 #[.pointer (some ⟨b, 0, none⟩)] w fun e w' => e = .returned (.int .i64 (endE bs er)) ∧ w = w' := by
  have HE := Lib.hid (srcErr b er bs w h)
  have HL := Lib.hid (srcLeft b er bs w h)
  by_cases h0 : er = 0
  · subst h0
    by_cases hl : 0 < bs.length
    · have e1 : endE bs 0 = 10 := by unfold endE; rw [if_neg (by decide), if_pos hl]
      rw [e1]
      have hl' : (0 : Int) < bs.length := by omega
      clear h e1
      go_enter Try.func36, Try.ntmps36
      go_wp2_with (first | (go_at_call 30; (with_reducible refine HE.out.mono ?_); rintro e w1 ⟨rfl, rfl⟩) | (go_at_call 31; (with_reducible refine HL.out.mono ?_); rintro e w1 ⟨rfl, rfl⟩))
      go_ret
      exact ⟨rfl, rfl⟩
    · have e1 : endE bs 0 = 0 := by unfold endE; rw [if_neg (by decide), if_neg hl]
      rw [e1]
      have hl' : (bs.length : Int) = 0 := by omega
      rw [hl'] at HL
      clear h e1
      go_enter Try.func36, Try.ntmps36
      go_wp2_with (first | (go_at_call 30; (with_reducible refine HE.out.mono ?_); rintro e w1 ⟨rfl, rfl⟩) | (go_at_call 31; (with_reducible refine HL.out.mono ?_); rintro e w1 ⟨rfl, rfl⟩))
      go_ret
      exact ⟨rfl, rfl⟩
  · have e1 : endE bs er = er := by unfold endE; rw [if_pos h0]
    rw [e1]
    have hn : (er != 0) = true := by simpa using h0
    clear h e1 h0
    go_enter Try.func36, Try.ntmps36
    go_wp2_with (go_at_call 30; (with_reducible refine HE.out.mono ?_); rintro e w1 ⟨rfl, rfl⟩)
    go_ret
    exact ⟨rfl, rfl⟩
end Go.Proofs.Ytdnddoiemaifjaa
