/-
  No cell of these rows narrows 'for every input' (looked for: loops, veiled, ifaces, maps, wideKeys, modest, calm, conditions, laid).
  DERIVED. THE GIVEN ROWS OF THIS SEAT. 5 by the template 'for every input the law returns true; each argument reads behind the call as it read before'; 0 by the template 'total and deterministic' (their statements: YtjpclnmohemjlaaTotals.lean).
  GIVEN WITH THE SEED: the statements are not yours to turn. If you find one false, say at which input.
  Laid BY PROGRAM, IN A SANDBOX (cutbox-rows.mjs): the forced cells as the released guide's own fill.sh prints them over the translation d58d809639ebdefc… (all of the seat's roots in one cut). By AI agents, Wed Nov 11 2026. No macro, syntax, notation, axiom, sorry.
-/
import Derived.Test.YtjpclnmohemjlaaChecked
import GoSem.Claim
import GoSem.ClaimJoined
import GoSem.ClaimMapViews
import Derived.JoinedTies
import Derived.KernelRfl
namespace Go.Proofs.Ytjpclnmohemjlaa
/- THE CELL 'sum', in the pinned program and in every row, IS THE sha256 OF THE DUMP (.gsa) THAT YtjpclnmohemjlaaProg.lean LOADS. Nothing in Lean hashes anything: it is a label: what it is worth is what the hold of that sum in a sandbox is worth. -/
noncomputable def Try.pinned : Pinned := { name := "ytjpclnmohemjlaa", sum := "d58d809639ebdefce030449b4d39cb28793c21a5ee179f49d0e4301989e03c96", checked := Try.checked }
namespace Rows
def none {H : Type} : Left H := { results := [], args := [] }

/-- 'wherrylaw09.MovesCounts': WHATEVER THE INPUT: true; the input reads as it did. -/
def movesCountsSpec : ChangeSpec := { name := "movesCounts", fn := fun _ => fun
  | [d1, d2, d3] => { results := [.lit (.bool true)], args := [d1, d2, d3] }
  | _ => none }
def movesCountsRow : OpenClaim := { program := "ytjpclnmohemjlaa", sum := "d58d809639ebdefce030449b4d39cb28793c21a5ee179f49d0e4301989e03c96", func := "wherry/wherrylaw09.MovesCounts", spec := "movesCounts", unfollowed := true, recurses := true, apart := false }
def MovesCountsSaid : Prop := movesCountsRow.holds Try.pinned (OpenSpec.ofChange movesCountsSpec)

/-- ITS FALSE NEIGHBOUR: 'it returns false'. Refute it at one input. -/
def movesCountsWrong : ChangeSpec := { name := "movesCounts", fn := fun _ => fun
  | [d1, d2, d3] => { results := [.lit (.bool false)], args := [d1, d2, d3] }
  | _ => none }
def MovesCountsWrongFalsely : Prop := movesCountsRow.holds Try.pinned (OpenSpec.ofChange movesCountsWrong)

/-- 'wherrylaw09.MovesPlans': WHATEVER THE INPUT: true; the input reads as it did. -/
def movesPlansSpec : ChangeSpec := { name := "movesPlans", fn := fun _ => fun
  | [d1, d2, d3] => { results := [.lit (.bool true)], args := [d1, d2, d3] }
  | _ => none }
def movesPlansRow : OpenClaim := { program := "ytjpclnmohemjlaa", sum := "d58d809639ebdefce030449b4d39cb28793c21a5ee179f49d0e4301989e03c96", func := "wherry/wherrylaw09.MovesPlans", spec := "movesPlans", unfollowed := true, recurses := true, apart := false }
def MovesPlansSaid : Prop := movesPlansRow.holds Try.pinned (OpenSpec.ofChange movesPlansSpec)

/-- ITS FALSE NEIGHBOUR: 'it returns false'. Refute it at one input. -/
def movesPlansWrong : ChangeSpec := { name := "movesPlans", fn := fun _ => fun
  | [d1, d2, d3] => { results := [.lit (.bool false)], args := [d1, d2, d3] }
  | _ => none }
def MovesPlansWrongFalsely : Prop := movesPlansRow.holds Try.pinned (OpenSpec.ofChange movesPlansWrong)

/-- 'wherrylaw09.MovesReach': WHATEVER THE INPUT: true; the input reads as it did. -/
def movesReachSpec : ChangeSpec := { name := "movesReach", fn := fun _ => fun
  | [d1, d2] => { results := [.lit (.bool true)], args := [d1, d2] }
  | _ => none }
def movesReachRow : OpenClaim := { program := "ytjpclnmohemjlaa", sum := "d58d809639ebdefce030449b4d39cb28793c21a5ee179f49d0e4301989e03c96", func := "wherry/wherrylaw09.MovesReach", spec := "movesReach", unfollowed := true, recurses := true, apart := false }
def MovesReachSaid : Prop := movesReachRow.holds Try.pinned (OpenSpec.ofChange movesReachSpec)

/-- ITS FALSE NEIGHBOUR: 'it returns false'. Refute it at one input. -/
def movesReachWrong : ChangeSpec := { name := "movesReach", fn := fun _ => fun
  | [d1, d2] => { results := [.lit (.bool false)], args := [d1, d2] }
  | _ => none }
def MovesReachWrongFalsely : Prop := movesReachRow.holds Try.pinned (OpenSpec.ofChange movesReachWrong)

/-- 'wherrylaw09.MovesLeast': WHATEVER THE INPUT: true; the input reads as it did. -/
def movesLeastSpec : ChangeSpec := { name := "movesLeast", fn := fun _ => fun
  | [d1, d2] => { results := [.lit (.bool true)], args := [d1, d2] }
  | _ => none }
def movesLeastRow : OpenClaim := { program := "ytjpclnmohemjlaa", sum := "d58d809639ebdefce030449b4d39cb28793c21a5ee179f49d0e4301989e03c96", func := "wherry/wherrylaw09.MovesLeast", spec := "movesLeast", unfollowed := true, recurses := true, apart := false }
def MovesLeastSaid : Prop := movesLeastRow.holds Try.pinned (OpenSpec.ofChange movesLeastSpec)

/-- ITS FALSE NEIGHBOUR: 'it returns false'. Refute it at one input. -/
def movesLeastWrong : ChangeSpec := { name := "movesLeast", fn := fun _ => fun
  | [d1, d2] => { results := [.lit (.bool false)], args := [d1, d2] }
  | _ => none }
def MovesLeastWrongFalsely : Prop := movesLeastRow.holds Try.pinned (OpenSpec.ofChange movesLeastWrong)

/-- 'wherrylaw09.MovesSteps': WHATEVER THE INPUT: true; the input reads as it did. -/
def movesStepsSpec : ChangeSpec := { name := "movesSteps", fn := fun _ => fun
  | [d1, d2, d3] => { results := [.lit (.bool true)], args := [d1, d2, d3] }
  | _ => none }
def movesStepsRow : OpenClaim := { program := "ytjpclnmohemjlaa", sum := "d58d809639ebdefce030449b4d39cb28793c21a5ee179f49d0e4301989e03c96", func := "wherry/wherrylaw09.MovesSteps", spec := "movesSteps", unfollowed := true, recurses := true, apart := false }
def MovesStepsSaid : Prop := movesStepsRow.holds Try.pinned (OpenSpec.ofChange movesStepsSpec)

/-- ITS FALSE NEIGHBOUR: 'it returns false'. Refute it at one input. -/
def movesStepsWrong : ChangeSpec := { name := "movesSteps", fn := fun _ => fun
  | [d1, d2, d3] => { results := [.lit (.bool false)], args := [d1, d2, d3] }
  | _ => none }
def MovesStepsWrongFalsely : Prop := movesStepsRow.holds Try.pinned (OpenSpec.ofChange movesStepsWrong)

/- THE SECOND FORM. 'bulk': how many values and letters a reading holds, each counted each time it is reached (what is shared counts as often as it is met; a slice's spare places count too). A statement '..UptoSaid' is the law's where the arguments, and the package variables that the reading takes, are together of bulk at most 1048576: NARROWER than '..Said'. Prove '..Said' where nothing that the law and all that it calls make is longer than what came in: it says more and counts as full. Else prove '..UptoSaid'. A law counts once. -/
mutual
def uptoBulk {H : Type} : DataW H → Nat
  | .lit (.string bytes) => bytes.length + 1
  | .lit _ => 1
  | .nil => 1
  | .ptr d => uptoBulk d + 1
  | .slice elems spare => uptoBulkAll elems + uptoBulkAll spare + 1
  | .agg parts => uptoBulkAll parts + 1
  | .iface _ d => uptoBulk d + 1
  | .map entries => uptoBulkEntries entries + 1
  | .held _ => 1
def uptoBulkAll {H : Type} : List (DataW H) → Nat
  | [] => 0
  | d :: r => uptoBulk d + uptoBulkAll r
def uptoBulkEntries {H : Type} : List (Lit × DataW H) → Nat
  | [] => 0
  | x :: r => uptoBulkEntry x + uptoBulkEntries r
def uptoBulkEntry {H : Type} : Lit × DataW H → Nat
  | (.string bytes, d) => bytes.length + uptoBulk d + 1
  | (_, d) => uptoBulk d + 1
 end
def uptoSmall : (H : Type) → List (DataW H) → Bool := fun _ ds => decide (uptoBulkAll ds ≤ 1048576)
def OpenSpec.upto (s : _root_.Go.ChangeSpec) : _root_.Go.OpenSpec := { _root_.Go.OpenSpec.ofChange s with cond := some uptoSmall }

/-- 'wherrylaw09.MovesCounts', WHERE WHAT IT READS IS OF BULK AT MOST 1048576: true; the input reads as it did. -/
def movesCountsUptoRow : OpenClaim := { program := "ytjpclnmohemjlaa", sum := "d58d809639ebdefce030449b4d39cb28793c21a5ee179f49d0e4301989e03c96", func := "wherry/wherrylaw09.MovesCounts", spec := "movesCounts", unfollowed := true, recurses := true, apart := false, narrowed := true }
def MovesCountsUptoSaid : Prop := movesCountsUptoRow.holds Try.pinned (OpenSpec.upto movesCountsSpec)

/-- 'wherrylaw09.MovesPlans', WHERE WHAT IT READS IS OF BULK AT MOST 1048576: true; the input reads as it did. -/
def movesPlansUptoRow : OpenClaim := { program := "ytjpclnmohemjlaa", sum := "d58d809639ebdefce030449b4d39cb28793c21a5ee179f49d0e4301989e03c96", func := "wherry/wherrylaw09.MovesPlans", spec := "movesPlans", unfollowed := true, recurses := true, apart := false, narrowed := true }
def MovesPlansUptoSaid : Prop := movesPlansUptoRow.holds Try.pinned (OpenSpec.upto movesPlansSpec)

/-- 'wherrylaw09.MovesReach', WHERE WHAT IT READS IS OF BULK AT MOST 1048576: true; the input reads as it did. -/
def movesReachUptoRow : OpenClaim := { program := "ytjpclnmohemjlaa", sum := "d58d809639ebdefce030449b4d39cb28793c21a5ee179f49d0e4301989e03c96", func := "wherry/wherrylaw09.MovesReach", spec := "movesReach", unfollowed := true, recurses := true, apart := false, narrowed := true }
def MovesReachUptoSaid : Prop := movesReachUptoRow.holds Try.pinned (OpenSpec.upto movesReachSpec)

/-- 'wherrylaw09.MovesLeast', WHERE WHAT IT READS IS OF BULK AT MOST 1048576: true; the input reads as it did. -/
def movesLeastUptoRow : OpenClaim := { program := "ytjpclnmohemjlaa", sum := "d58d809639ebdefce030449b4d39cb28793c21a5ee179f49d0e4301989e03c96", func := "wherry/wherrylaw09.MovesLeast", spec := "movesLeast", unfollowed := true, recurses := true, apart := false, narrowed := true }
def MovesLeastUptoSaid : Prop := movesLeastUptoRow.holds Try.pinned (OpenSpec.upto movesLeastSpec)

/-- 'wherrylaw09.MovesSteps', WHERE WHAT IT READS IS OF BULK AT MOST 1048576: true; the input reads as it did. -/
def movesStepsUptoRow : OpenClaim := { program := "ytjpclnmohemjlaa", sum := "d58d809639ebdefce030449b4d39cb28793c21a5ee179f49d0e4301989e03c96", func := "wherry/wherrylaw09.MovesSteps", spec := "movesSteps", unfollowed := true, recurses := true, apart := false, narrowed := true }
def MovesStepsUptoSaid : Prop := movesStepsUptoRow.holds Try.pinned (OpenSpec.upto movesStepsSpec)

end Rows
end Go.Proofs.Ytjpclnmohemjlaa
