/- wherryref01: Cross. -/
import Derived.Test.YtkebkmjffbnihaaDigTimes
namespace Go.Proofs.Ytkebkmjffbnihaa
open Go.RowKit
set_option maxRecDepth 100000 in
set_option maxHeartbeats 2000000 in
theorem dCross (a b c d : Int) (w : World) (ha : I64 a) (hb : I64 b) (hc : I64 c) (hd : I64 d) :
    Calls Try.prog 23 #[.int .i64 a, .int .i64 b, .int .i64 c, .int .i64 d] w fun e w' => e = .returned (.int .i64 (cmpV (a * d) (c * b))) ∧ Below w.heap.size w w' := by
  go_enter Try.func23, Try.ntmps23
  go_wp2_with (go_at_call 29; (with_reducible refine (dOf a _ ha).mono ?_); rintro e w1 ⟨⟨v1, rfl, hv1⟩, hb1⟩)
  go_wp2_with (go_at_call 29; (with_reducible refine (dOf d _ hd).mono ?_); rintro e w2 ⟨⟨v2, rfl, hv2⟩, hb2⟩; have hv1' := hv1.below hb2)
  go_wp2_with (go_at_call 34; (with_reducible refine (dTimes v1 v2 a d 4 4 _ hv1' hv2 (by omega) (by omega)).mono ?_); rintro e w3 ⟨⟨v3, rfl, hv3⟩, hb3⟩)
  go_wp2_with (go_at_call 29; (with_reducible refine (dOf c _ hc).mono ?_); rintro e w4 ⟨⟨v4, rfl, hv4⟩, hb4⟩)
  go_wp2_with (go_at_call 29; (with_reducible refine (dOf b _ hb).mono ?_); rintro e w5 ⟨⟨v5, rfl, hv5⟩, hb5⟩; have hv4' := hv4.below hb5)
  go_wp2_with (go_at_call 34; (with_reducible refine (dTimes v4 v5 c b 4 4 _ hv4' hv5 (by omega) (by omega)).mono ?_); rintro e w6 ⟨⟨v6, rfl, hv6⟩, hb6⟩; have hv3' := ((hv3.below hb4).below hb5).below hb6)
  go_wp2_with (go_at_call 42; (with_reducible refine (dCmp v3 v6 (a * d) (c * b) _ _ _ hv3' hv6).mono ?_); rintro e w7 ⟨rfl, hb7⟩)
  go_ret
  exact ⟨rfl, below_tr (below_tr (below_tr (below_tr (below_tr (below_tr hb1 hb2) hb3) hb4) hb5) hb6) hb7⟩
end Go.Proofs.Ytkebkmjffbnihaa
