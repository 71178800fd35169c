/- The document's examples of package code. -/
import Derived.Test.YtdhckbpfkdekmaaCodePutB
namespace Go.Proofs.Ytdhckbpfkdekmaa
open Go.RowKit
theorem str_300 : strOfNums ([] ++ enc 300) = ⟨#[172, 2]⟩ := by decide +kernel
theorem str_m1 : strOfNums ([] ++ enc (zigN (-1))) = ⟨#[1]⟩ := by decide +kernel
theorem str_l : strOfNums ([] ++ enc 2 ++ encs [1, -1]) = ⟨#[2, 2, 1]⟩ := by decide +kernel
set_option maxHeartbeats 1000000 in
theorem lives07 (w : World) : Calls Try.prog 9 #[] w fun e w' => e = .returned (.bool true) ∧ Below w.heap.size w w' := by
  go_enter Try.func9, Try.ntmps9
  go_wp2_with (first
    | (go_at_call 10; refine (cnum none 0 0 [] 300 (by decide) _ (rds_nil _ _) (by decide)).mono ?_; intro e w1 h1; obtain ⟨A1, n1, c1, rfl, hs1, _, hb1, _⟩ := h1.open_; rw [str_300] at hs1; clear h1)
    | (go_at_call 12; refine (cint none 0 0 [] (-1) (by unfold I64; omega) _ (rds_nil _ _) (by decide)).mono ?_; intro e w2 h2; obtain ⟨A2, n2, c2, rfl, hs2, _, hb2, _⟩ := h2.open_; rw [str_m1] at hs2; clear h2)
    | (go_at_call 18; refine (cints none 0 0 [] _ 2 2 [1, -1] (by intro x hx; unfold I64; simp at hx; omega) _ (rds_nil _ _) (rds_lit _ _ 1 2 (nums .i64 [1, -1]) rfl (by decide)) (by decide) (by decide)).mono ?_; intro e w3 h3; obtain ⟨A3, n3, c3, rfl, hs3, _, hb3, _⟩ := h3.open_; rw [str_l] at hs3; clear h3))
  go_ret
  exact ⟨rfl, below_tr (below_al (below_tr hb1 hb2) _) hb3⟩
end Go.Proofs.Ytdhckbpfkdekmaa
