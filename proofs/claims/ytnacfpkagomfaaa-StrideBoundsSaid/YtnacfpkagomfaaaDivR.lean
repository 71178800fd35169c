/- A whole part and a rest: plain. -/
import Derived.Test.YtnacfpkagomfaaaNumPlain
namespace Go.Proofs.Ytnacfpkagomfaaa
def divB (a b : Int) : Bool := decide (b ≠ 0) && !(decide (a = -9223372036854775808) && decide (b = -1))
/-- The whole number not above a / b, and the rest. -/
structure DivR (a b q r : Int) : Prop where
  eq : a = q * b + r
  pos : 0 < b → 0 ≤ r ∧ r < b
  neg : b < 0 → b < r ∧ r ≤ 0
end Go.Proofs.Ytnacfpkagomfaaa
