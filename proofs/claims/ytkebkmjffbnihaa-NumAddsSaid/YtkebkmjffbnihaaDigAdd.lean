/- wherryref01: Add, Sub, Mul. -/
import Derived.Test.YtkebkmjffbnihaaDigInt
namespace Go.Proofs.Ytkebkmjffbnihaa
open Go.RowKit
set_option maxRecDepth 100000 in
set_option maxHeartbeats 2000000 in
theorem dAdd (a b : Int) (w : World) (ha : I64 a) (hb : I64 b) :
    Calls Try.prog 17 #[.int .i64 a, .int .i64 b] w fun e w' => e = .returned (.tuple #[.int .i64 (fitV (a + b)), .bool (fitB (a + b))]) ∧ Below w.heap.size w w' := by
  have HT := Lib.hid (fun v N W h => dtold v (a + b) N W h)
  generalize fitV (a + b) = fv at *
  generalize fitB (a + b) = fb at *
  go_enter Try.func17, Try.ntmps17
  go_wp2_with (go_at_call 29; (with_reducible refine (dOf a _ ha).mono ?_); rintro e w1 ⟨⟨v1, rfl, hv1⟩, hb1⟩)
  go_wp2_with (go_at_call 29; (with_reducible refine (dOf b _ hb).mono ?_); rintro e w2 ⟨⟨v2, rfl, hv2⟩, hb2⟩; have hv1' := hv1.below hb2)
  go_wp2_with (go_at_call 37; (with_reducible refine (dPlus v1 v2 a b 4 4 _ hv1' hv2 (by omega) (by omega)).mono ?_); rintro e w3 ⟨⟨v3, rfl, hv3⟩, hb3⟩)
  go_wp2_with (go_at_call 35; (with_reducible refine (HT.out v3 _ _ hv3).mono ?_); rintro e w4 ⟨rfl, hb4⟩)
  go_ret2
  exact ⟨rfl, below_tr (below_tr (below_tr hb1 hb2) hb3) hb4⟩
set_option maxRecDepth 100000 in
set_option maxHeartbeats 2000000 in
theorem dSub (a b : Int) (w : World) (ha : I64 a) (hb : I64 b) :
    Calls Try.prog 18 #[.int .i64 a, .int .i64 b] w fun e w' => e = .returned (.tuple #[.int .i64 (fitV (a - b)), .bool (fitB (a - b))]) ∧ Below w.heap.size w w' := by
  have HT := Lib.hid (fun v N W h => dtold v (a - b) N W h)
  rw [Int.sub_eq_add_neg] at HT ⊢
  generalize fitV (a + -b) = fv at *
  generalize fitB (a + -b) = fb at *
  go_enter Try.func18, Try.ntmps18
  go_wp2_with (go_at_call 29; (with_reducible refine (dOf a _ ha).mono ?_); rintro e w1 ⟨⟨v1, rfl, hv1⟩, hb1⟩)
  go_wp2_with (go_at_call 29; (with_reducible refine (dOf b _ hb).mono ?_); rintro e w2 ⟨⟨v2, rfl, hv2⟩, hb2⟩)
  go_wp2_with (go_at_call 38; (with_reducible refine (dMinus v2 b 4 _ hv2).mono ?_); rintro e w5 ⟨⟨v5, rfl, hv5⟩, hb5⟩; have hv1' := (hv1.below hb2).below hb5)
  go_wp2_with (go_at_call 37; (with_reducible refine (dPlus v1 v5 a (-b) 4 4 _ hv1' hv5 (by omega) (by omega)).mono ?_); rintro e w3 ⟨⟨v3, rfl, hv3⟩, hb3⟩)
  go_wp2_with (go_at_call 35; (with_reducible refine (HT.out v3 _ _ hv3).mono ?_); rintro e w4 ⟨rfl, hb4⟩)
  go_ret2
  exact ⟨rfl, below_tr (below_tr (below_tr (below_tr hb1 hb2) hb5) hb3) hb4⟩
set_option maxRecDepth 100000 in
set_option maxHeartbeats 2000000 in
theorem dMul (a b : Int) (w : World) (ha : I64 a) (hb : I64 b) :
    Calls Try.prog 20 #[.int .i64 a, .int .i64 b] w fun e w' => e = .returned (.tuple #[.int .i64 (fitV (a * b)), .bool (fitB (a * b))]) ∧ Below w.heap.size w w' := by
  have HT := Lib.hid (fun v N W h => dtold v (a * b) N W h)
  generalize fitV (a * b) = fv at *
  generalize fitB (a * b) = fb at *
  go_enter Try.func20, Try.ntmps20
  go_wp2_with (go_at_call 29; (with_reducible refine (dOf a _ ha).mono ?_); rintro e w1 ⟨⟨v1, rfl, hv1⟩, hb1⟩)
  go_wp2_with (go_at_call 29; (with_reducible refine (dOf b _ hb).mono ?_); rintro e w2 ⟨⟨v2, rfl, hv2⟩, hb2⟩; have hv1' := hv1.below hb2)
  go_wp2_with (go_at_call 34; (with_reducible refine (dTimes v1 v2 a b 4 4 _ hv1' hv2 (by omega) (by omega)).mono ?_); rintro e w3 ⟨⟨v3, rfl, hv3⟩, hb3⟩)
  go_wp2_with (go_at_call 35; (with_reducible refine (HT.out v3 _ _ hv3).mono ?_); rintro e w4 ⟨rfl, hb4⟩)
  go_ret2
  exact ⟨rfl, below_tr (below_tr (below_tr hb1 hb2) hb3) hb4⟩
end Go.Proofs.Ytkebkmjffbnihaa
