/- The reference's source: Num, Int, Byte, Flag. -/
import Derived.Test.YtdnddoiemaifjaaRefSrc
namespace Go.Proofs.Ytdnddoiemaifjaa
open Go.RowKit
variable {L B : Nat}
theorem rnumW (b : Nat) (er : Int) (bs : List Int) (w : World) (h : RSrc L B w b bs er) (hb : U8s bs) (hlen : bs.length ≤ 1000000) : Calls Try.prog 60 #[.pointer (some ⟨b, 0, none⟩)] w (TellsR (fun v : Nat => .int .u64 v) L B w b (gotE 0 numS bs er)) := by
  by_cases h0 : er = 0
  · subst h0; exact rnum0 b bs w h hb hlen
  · rw [gotE_err h0]
    refine (rnum_err b er bs w h h0).mono ?_
    rintro e w1 ⟨rfl, rfl⟩
    exact ⟨rfl, Chg.refl _ _, h⟩
set_option maxRecDepth 100000 in
set_option maxHeartbeats 4000000 in
theorem refNum (b m : Nat) (er : Int) (bs : List Int) (w : World) (h : RSrc L B w b bs er) (hb : U8s bs) (hlen : bs.length ≤ 1000000) :
    Calls Try.prog 37 #[.pointer (some ⟨b, 0, none⟩), .int .u64 m] w (TellsR (fun v : Nat => .int .u64 v) L B w b (gotE 0 (fun bs => numM bs m) bs er)) := by
  have HW := Lib.hid (rnumW b er bs w h hb hlen)
  have hm0 : decide ((m : Int) < 0) = false := by simp
  have hm1 : ¬ (m : Int) < 0 := by omega
  by_cases h0 : er = 0
  · subst h0
    cases hn : numS bs with
    | error x =>
      have hq : numM bs m = .error x := by unfold numM; rw [hn]
      rw [gotE_error (f := fun bs => numM bs m) hq]
      rw [gotE_error hn] at HW
      clear hn hq
      go_enter Try.func37, Try.ntmps37
      go_wp2_with (go_at_call 60; refine HW.out.mono ?_; rintro e w2 ⟨rfl, hc2, hs2⟩)
      go_ret
      exact ⟨rfl, hc2, hs2⟩
    | ok q =>
      obtain ⟨v, rest⟩ := q
      rw [gotE_ok hn] at HW
      by_cases hv : v ≤ m
      · have hq : numM bs m = .ok (v, rest) := by unfold numM; rw [hn]; simp only; rw [if_pos hv]
        rw [gotE_ok (f := fun bs => numM bs m) hq]
        have hv' : decide ((m : Int) < v) = false := by simp; omega
        have hv2 : ¬ (m : Int) < v := by omega
        clear hn hq hv
        go_enter Try.func37, Try.ntmps37
        go_wp2_with (go_at_call 60; refine HW.out.mono ?_; rintro e w2 ⟨rfl, hc2, hs2⟩)
        go_ret
        exact ⟨rfl, hc2, hs2⟩
      · have hq : numM bs m = .error 8 := by unfold numM; rw [hn]; simp only; rw [if_neg hv]
        rw [gotE_error (f := fun bs => numM bs m) hq]
        have hv' : decide ((m : Int) < v) = true := by simp; omega
        have hv2 : (m : Int) < v := by omega
        clear hn hq hv
        go_enter Try.func37, Try.ntmps37
        go_wp2_with (first
          | (go_at_call 60; refine HW.out.mono ?_; rintro e w2 ⟨rfl, hc2, hs2⟩; have HF := Lib.hid (rfail b 8 _ w2 hs2))
          | (go_at_call 61; refine HF.out.mono ?_; rintro e w3 ⟨rfl, hc3, hs3⟩))
        go_ret
        exact ⟨rfl, hc2.trans hc3, hs3⟩
  · rw [gotE_err h0]
    rw [gotE_err h0] at HW
    clear h0
    go_enter Try.func37, Try.ntmps37
    go_wp2_with (go_at_call 60; refine HW.out.mono ?_; rintro e w2 ⟨rfl, hc2, hs2⟩)
    go_ret
    exact ⟨rfl, hc2, hs2⟩
theorem zag_ref (v : Nat) : ((v : Int) % 2 == 1) = decide (v % 2 = 1) := by
  rcases Nat.mod_two_eq_zero_or_one v with h | h
  · have : (v : Int) % 2 = 0 := by omega
    simp [h, this]
  · have : (v : Int) % 2 = 1 := by omega
    simp [h, this]
set_option maxRecDepth 100000 in
set_option maxHeartbeats 8000000 in
theorem refInt (b : Nat) (a d er : Int) (bs : List Int) (w : World) (h : RSrc L B w b bs er) (hb : U8s bs) (hlen : bs.length ≤ 1000000) :
    Calls Try.prog 54 #[.pointer (some ⟨b, 0, none⟩), .int .i64 a, .int .i64 d] w (TellsR (fun v => .int .i64 v) L B w b (gotE 0 (fun bs => withinM bs a d) bs er)) := by
  have HW := Lib.hid (rnumW b er bs w h hb hlen)
  by_cases h0 : er = 0
  · subst h0
    cases hn : numS bs with
    | error x =>
      have hq : withinM bs a d = .error x := by unfold withinM; rw [hn]; rfl
      rw [gotE_error (f := fun bs => withinM bs a d) hq]
      rw [gotE_error hn] at HW
      have hx0 : (x != 0) = true := by simpa using numS_err hb hn
      clear hn hq
      go_enter Try.func54, Try.ntmps54
      go_wp2_with (go_at_call 60; refine HW.out.mono ?_; rintro e w2 ⟨rfl, hc2, hs2⟩; have he := hs2.err.cell)
      go_ret
      exact ⟨rfl, hc2, hs2⟩
    | ok q =>
      obtain ⟨v, rest⟩ := q
      rw [gotE_ok hn] at HW
      have hv64 := (numS_rest hb hn).1
      have hq : withinM bs a d = if a ≤ zagV v ∧ zagV v ≤ d then .ok (zagV v, rest) else .error 8 := by unfold withinM; rw [hn]; rfl
      have hw : IntKind.u64.wrap ((v : Int) / 2) = (v : Int) / 2 := by rw [IntKind.wrap_u64]; omega
      have hz1 : v % 2 = 1 → zagV v = wrap64 (wrap64 (-wrap64 (IntKind.u64.wrap ((v : Int) / 2))) - 1) := by intro h; rw [hw]; unfold zagV wrap64; rw [if_neg (by omega)]; omega
      have hz0 : v % 2 ≠ 1 → zagV v = wrap64 (IntKind.u64.wrap ((v : Int) / 2)) := by intro h; rw [hw]; unfold zagV wrap64; rw [if_pos (by omega)]; omega
      clear hv64 hn hw
      by_cases h2 : v % 2 = 1
      · have g1 : ((v : Int) % 2 == 1) = true := by rw [zag_ref]; exact decide_eq_true h2
        have g2 : (v : Int) % 2 = 1 := by omega
        have hz := hz1 h2
        clear hz1 hz0
        have HQ : Hid (withinM bs a d = if a ≤ wrap64 (wrap64 (-wrap64 (IntKind.u64.wrap ((v : Int) / 2))) - 1) ∧ wrap64 (wrap64 (-wrap64 (IntKind.u64.wrap ((v : Int) / 2))) - 1) ≤ d then .ok (wrap64 (wrap64 (-wrap64 (IntKind.u64.wrap ((v : Int) / 2))) - 1), rest) else .error 8) := by show _ = _; rw [← hz]; exact hq
        clear hq h2 hz
        go_enter Try.func54, Try.ntmps54
        go_wp2_with (first
          | (go_at_call 60; refine HW.out.mono ?_; rintro e w2 ⟨rfl, hc2, hs2⟩; have he := hs2.err.cell; have HF := Lib.hid (rfail b 8 _ w2 hs2))
          | (go_at_call 61; refine HF.out.mono ?_; rintro e w3 ⟨rfl, hc3, hs3⟩))
        all_goals first
          | (rw [gotE_error (f := fun bs => withinM bs a d) (by show withinM bs a d = .error 8; rw [HQ.out, if_neg (by omega)])]
             go_ret
             exact ⟨rfl, hc2.trans hc3, hs3⟩)
          | (rw [gotE_ok (f := fun bs => withinM bs a d) (by show withinM bs a d = .ok (_, rest); rw [HQ.out, if_pos (by omega)])]
             go_ret
             exact ⟨rfl, hc2, hs2⟩)
      · have g1 : ((v : Int) % 2 == 1) = false := by rw [zag_ref]; exact decide_eq_false h2
        have g2 : ¬ (v : Int) % 2 = 1 := by omega
        have hz := hz0 h2
        clear hz1 hz0
        have HQ : Hid (withinM bs a d = if a ≤ wrap64 (IntKind.u64.wrap ((v : Int) / 2)) ∧ wrap64 (IntKind.u64.wrap ((v : Int) / 2)) ≤ d then .ok (wrap64 (IntKind.u64.wrap ((v : Int) / 2)), rest) else .error 8) := by show _ = _; rw [← hz]; exact hq
        clear hq h2 hz
        go_enter Try.func54, Try.ntmps54
        go_wp2_with (first
          | (go_at_call 60; refine HW.out.mono ?_; rintro e w2 ⟨rfl, hc2, hs2⟩; have he := hs2.err.cell; have HF := Lib.hid (rfail b 8 _ w2 hs2))
          | (go_at_call 61; refine HF.out.mono ?_; rintro e w3 ⟨rfl, hc3, hs3⟩))
        all_goals first
          | (rw [gotE_error (f := fun bs => withinM bs a d) (by show withinM bs a d = .error 8; rw [HQ.out, if_neg (by omega)])]
             go_ret
             exact ⟨rfl, hc2.trans hc3, hs3⟩)
          | (rw [gotE_ok (f := fun bs => withinM bs a d) (by show withinM bs a d = .ok (_, rest); rw [HQ.out, if_pos (by omega)])]
             go_ret
             exact ⟨rfl, hc2, hs2⟩)
  · rw [gotE_err h0]
    rw [gotE_err h0] at HW
    have hx0 : (er != 0) = true := by simpa using h0
    clear h0
    go_enter Try.func54, Try.ntmps54
    go_wp2_with (go_at_call 60; refine HW.out.mono ?_; rintro e w2 ⟨rfl, hc2, hs2⟩; have he := hs2.err.cell)
    go_ret
    exact ⟨rfl, hc2, hs2⟩
end Go.Proofs.Ytdnddoiemaifjaa
