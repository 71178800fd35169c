/- wherryref01: Add. -/
import Derived.Test.YtnacfpkagomfaaaDigInt
namespace Go.Proofs.Ytnacfpkagomfaaa
open Go.RowKit
set_option maxRecDepth 100000 in
set_option maxHeartbeats 2000000 in
theorem dAdd (a b : Int) (w : World) (ha : I64 a) (hb : I64 b) :
    Calls Try.prog 16 #[.int .i64 a, .int .i64 b] w fun e w' => e = .returned (.tuple #[.int .i64 (fitV (a + b)), .bool (fitB (a + b))]) ∧ Below w.heap.size w w' := by
  have HT := Lib.hid (fun v N W h => dtold v (a + b) N W h)
  generalize fitV (a + b) = fv at *
  generalize fitB (a + b) = fb at *
  go_enter Try.func16, Try.ntmps16
  go_wp2_with (go_at_call 34; (with_reducible refine (dOf a _ ha).mono ?_); rintro e w1 ⟨⟨v1, rfl, hv1⟩, hb1⟩)
  go_wp2_with (go_at_call 34; (with_reducible refine (dOf b _ hb).mono ?_); rintro e w2 ⟨⟨v2, rfl, hv2⟩, hb2⟩; have hv1' := hv1.below hb2)
  go_wp2_with (go_at_call 38; (with_reducible refine (dPlus v1 v2 a b 4 4 _ hv1' hv2 (by omega) (by omega)).mono ?_); rintro e w3 ⟨⟨v3, rfl, hv3⟩, hb3⟩)
  go_wp2_with (go_at_call 37; (with_reducible refine (HT.out v3 _ _ hv3).mono ?_); rintro e w4 ⟨rfl, hb4⟩)
  go_ret2
  exact ⟨rfl, below_tr (below_tr (below_tr hb1 hb2) hb3) hb4⟩
end Go.Proofs.Ytnacfpkagomfaaa
