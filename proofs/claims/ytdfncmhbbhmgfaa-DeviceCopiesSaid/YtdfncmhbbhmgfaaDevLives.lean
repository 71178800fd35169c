/- wherrylaw11.lives. -/
import Derived.Test.YtdfncmhbbhmgfaaDevStartOk
import Derived.Test.YtdfncmhbbhmgfaaDevFin
namespace Go.Proofs.Ytdfncmhbbhmgfaa
open Go.RowKit
set_option maxRecDepth 100000 in
set_option maxHeartbeats 4000000 in
theorem lives11 (w : World) : Calls Try.prog 7 #[] w fun e w' => e = .returned (.bool true) ∧ Below w.heap.size w w' := by
  obtain ⟨b, hb⟩ : ∃ b, b = w.heap.size := ⟨_, rfl⟩
  go_enter Try.func7, Try.ntmps7
  go_wp2_with (go_at_call 8; refine (dnew_yes 3 _ (by decide) (by decide)).mono ?_; rintro e w1 ⟨rfl, hb1, hs1, hd1⟩)
  rw [← hb] at hb1 hs1 hd1 ⊢
  have HB := Lib.hid hb
  clear hb
  have HS := Lib.hid (dstart_ok b (b + 1) 3 [] 0 0 (.slice none 0 0) ⟨0, 0, 0, 1, 0⟩ _ hd1 hs1 (by decide) (by decide) (by decide) (by decide) (by decide) (by decide))
  simp only [rqV] at HS
  go_wp2_with ((with_reducible refine (HS.out).mono ?_); rintro e w2 ⟨rfl, hc2, v2, hd2, hv2⟩)
  have hd3 : Dev w2 b (b + 1) 3 [⟨1, 0, 0, 1, 0⟩] 1 0 v2 := hd2
  have HS2 := Lib.hid (dstart_ok b (b + 1) 3 [⟨1, 0, 0, 1, 0⟩] 1 0 v2 ⟨0, 0, 0, 2, 9⟩ _ hd3 (Nat.le_trans hs1 hc2.size) (by decide) (by decide) (by decide) (by decide) (by decide) (by decide))
  simp only [rqV] at HS2
  clear hd2 HS hd1
  go_wp2_with ((with_reducible refine (HS2.out).mono ?_); rintro e w3 ⟨rfl, hc3, v3, hd4, hv3⟩)
  have hd5 : Dev w3 b (b + 1) 3 [⟨1, 0, 0, 1, 0⟩, ⟨2, 0, 0, 2, 9⟩] 2 0 v3 := hd4
  have hs3 := Nat.le_trans (Nat.le_trans hs1 hc2.size) hc3.size
  have HS3 := Lib.hid (dfin_ok b (b + 1) 3 [⟨1, 0, 0, 1, 0⟩, ⟨2, 0, 0, 2, 9⟩] 2 0 v3 1 1 ⟨2, 0, 0, 2, 9⟩ _ hd5 hs3 (by decide) (by decide) (by decide) (by decide) (by rfl) (by decide) (by decide))
  simp only [rqV, show resV ⟨2, 0, 0, 2, 9⟩ = 9 by decide] at HS3
  have hcc : Chg (fun k => b ≤ k) w1 w3 := by
    refine (hc2.mono ?_).trans (hc3.mono ?_)
    · rintro k _ (e | e)
      · omega
      · cases e
    · rintro k _ (e | e)
      · omega
      · have := own_base hd3.own k e
        omega
  clear hd3 HS2 hd4 hv2 hv3 hc2 hc3
  go_wp2_with ((with_reducible refine (HS3.out).mono ?_); rintro e w4 ⟨rfl, hc4, _⟩)
  have hb4 : Below w.heap.size w w4 := (hcc.trans (hc4.mono (fun k _ e => by omega))).toBelow (HB.out ▸ hb1) (HB.out ▸ hb1.size) (fun k h => by have := HB.out; omega)
  go_ret
  exact ⟨rfl, below_al hb4 _⟩
end Go.Proofs.Ytdfncmhbbhmgfaa
