/- The reference's source: Byte, Flag, Text, End. -/
import Derived.Test.YtdnddoiemaifjaaRefGets
import Derived.Test.YtdnddoiemaifjaaRegionS
namespace Go.Proofs.Ytdnddoiemaifjaa
open Go.RowKit
variable {L B : Nat}
set_option maxRecDepth 100000 in
set_option maxHeartbeats 4000000 in
theorem refByte (b : Nat) (er : Int) (bs : List Int) (w : World) (h : RSrc L B w b bs er) :
    Calls Try.prog 53 #[.pointer (some ⟨b, 0, none⟩)] w (TellsR (fun v => .int .u8 v) L B w b (gotE 0 octM bs er)) := by
  have he := h.err.cell
  by_cases h0 : er = 0
  · subst h0
    cases bs with
    | nil =>
      rw [gotE_error (show octM [] = .error 9 from rfl)]
      obtain ⟨A, n, c, h1, h2, h3⟩ := h.row
      obtain rfl : n = 0 := by simpa using (rds_len h2).symm
      have hc := h1.cell
      have HF := Lib.hid (rfail b 9 _ w h)
      go_enter Try.func53, Try.ntmps53
      go_wp2_with (go_at_call 61; refine HF.out.mono ?_; rintro e w3 ⟨rfl, hc3, hs3⟩)
      go_ret
      exact ⟨rfl, hc3, hs3⟩
    | cons x bs =>
      rw [gotE_ok (show octM (x :: bs) = .ok (x, bs) from rfl)]
      obtain ⟨A, n, c, h1, h2, h3⟩ := h.row
      have hn := rds_len h2
      rw [List.length_cons] at hn
      obtain ⟨ad, rfl⟩ := h2.some_ (by omega)
      have hle := h2.le
      have hx := h2.cell ad rfl 0 (.int .u8 x) (by simp [nums])
      have hadd0 : ad.add 0 = ad := by unfold Addr.add; cases ad; rename_i bl o i; cases i <;> simp
      rw [hadd0] at hx
      have hc := h1.cell
      have hf := h1.free
      have hn1 : (1 : Int) ≤ n := by omega
      have hn0 : ((n : Int) == 0) = false := by simp; omega
      have HCU := Lib.hid (h.cut (v := 1) h1 h2 h3 (by omega))
      clear h h1 h2 h3
      go_enter Try.func53, Try.ntmps53
      go_wp2
      all_goals
        have hcu := HCU.out
        go_ret
        refine ⟨rfl, Chg.setCell (S := fun k => k = b) (Chg.refl _ _) b 0 _ rfl, ?_⟩
        first | (have hc : c = 1 := (by assumption); simp [hc] at hcu; exact hcu) | (have hc : ¬ c = 1 := (by assumption); simp [hc] at hcu; exact hcu)
  · rw [gotE_err h0]
    have hx0 : (er != 0) = true := by simpa using h0
    clear h0
    go_enter Try.func53, Try.ntmps53
    go_wp2
    go_ret
    exact ⟨rfl, Chg.refl _ _, h⟩
set_option maxRecDepth 100000 in
set_option maxHeartbeats 2000000 in
theorem refEnd (b : Nat) (er : Int) (bs : List Int) (w : World) (h : RSrc L B w b bs er) : Calls Try.prog 38 #[.pointer (some ⟨b, 0, none⟩)] w fun e w' => e = .returned (.int .i64 (endE bs er)) ∧ w = w' := by
  obtain ⟨A, n, c, h1, h2, h3⟩ := h.row
  have hn := rds_len h2
  have c1 := h1.cell
  have c2 := h.err.cell
  by_cases h0 : er = 0
  · subst h0
    by_cases hl : 0 < bs.length
    · have e1 : endE bs 0 = 10 := by unfold endE; rw [if_neg (by decide), if_pos hl]
      rw [e1]
      have hl' : (0 : Int) < n := by omega
      have hl2 : 0 < n := by omega
      clear h e1 h1 h2 h3
      go_enter Try.func38, Try.ntmps38
      go_wp2
      go_ret
      exact ⟨rfl, rfl⟩
    · have e1 : endE bs 0 = 0 := by unfold endE; rw [if_neg (by decide), if_neg hl]
      rw [e1]
      obtain rfl : n = 0 := by omega
      clear h e1 h1 h2 h3
      go_enter Try.func38, Try.ntmps38
      go_wp2
      go_ret
      exact ⟨rfl, rfl⟩
  · have e1 : endE bs er = er := by unfold endE; rw [if_pos h0]
    rw [e1]
    have hn : (er == 0) = false := by simpa using h0
    clear h e1 h0
    go_enter Try.func38, Try.ntmps38
    go_wp2
    go_ret
    exact ⟨rfl, rfl⟩
end Go.Proofs.Ytdnddoiemaifjaa
