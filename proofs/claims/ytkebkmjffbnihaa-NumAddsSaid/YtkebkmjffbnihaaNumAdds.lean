/- The law NumAdds, walked. -/
import Derived.Test.YtkebkmjffbnihaaDigAdd
import Derived.Test.YtkebkmjffbnihaaNum
import Derived.Test.YtkebkmjffbnihaaNumSub
import Derived.Test.YtkebkmjffbnihaaNumG
namespace Go.Proofs.Ytkebkmjffbnihaa
open Go.RowKit
set_option maxRecDepth 100000 in
set_option maxHeartbeats 4000000 in
theorem adds_law (a b : Int) (ha : I64 a) (hb : I64 b) (w : World) : Calls Try.prog 6 #[.int .i64 a, .int .i64 b] w fun e w' => e = .returned (.bool true) ∧ Below w.heap.size w w' := by
  have HL := Lib.hid (fun W => lives01 W)
  have H1 := Lib.hid (fun W => nadd a b ha hb W)
  have H2 := Lib.hid (fun W => dAdd a b W ha hb)
  have H3 := Lib.hid (fun W => nsub a b ha hb W)
  have H4 := Lib.hid (fun W => dSub a b W ha hb)
  have H5 := Lib.hid (fun W => nmul a b ha hb W)
  have H6 := Lib.hid (fun W => dMul a b W ha hb)
  generalize fitV (a + b) = p1 at *
  generalize fitB (a + b) = q1 at *
  generalize fitV (a - b) = p2 at *
  generalize fitB (a - b) = q2 at *
  generalize fitV (a * b) = p3 at *
  generalize fitB (a * b) = q3 at *
  have e1 : (p1 == p1) = true := by simp
  have e2 : (q1 == q1) = true := by simp
  have e3 : (p2 == p2) = true := by simp
  have e4 : (q2 == q2) = true := by simp
  have e5 : (p3 == p3) = true := by simp
  have e6 : (q3 == q3) = true := by simp
  go_enter Try.func6, Try.ntmps6
  go_wp2_with (go_at_call 15; (with_reducible refine (H1.out _).mono ?_); rintro e w1 ⟨rfl, rfl⟩)
  go_wp2_with (go_at_call 17; (with_reducible refine (H2.out _).mono ?_); rintro e w2 ⟨rfl, hb2⟩)
  go_wp2_with (go_at_call 16; (with_reducible refine (H3.out _).mono ?_); rintro e w3 ⟨rfl, rfl⟩)
  go_wp2_with (go_at_call 18; (with_reducible refine (H4.out _).mono ?_); rintro e w4 ⟨rfl, hb4⟩)
  go_wp2_with (go_at_call 19; (with_reducible refine (H5.out _).mono ?_); rintro e w5 ⟨rfl, hb5⟩)
  go_wp2_with (go_at_call 20; (with_reducible refine (H6.out _).mono ?_); rintro e w6 ⟨rfl, hb6⟩)
  go_wp2_with (go_at_call 13; (with_reducible refine (HL.out _).mono ?_); rintro e w7 ⟨rfl, hb7⟩)
  go_ret
  exact ⟨rfl, below_tr (below_tr (below_tr (below_tr hb2 hb4) hb5) hb6) hb7⟩
end Go.Proofs.Ytkebkmjffbnihaa
