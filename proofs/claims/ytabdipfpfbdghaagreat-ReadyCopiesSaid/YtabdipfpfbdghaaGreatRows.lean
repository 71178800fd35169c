/-
  No cell of these rows narrows 'for every input' (looked for: loops, veiled, ifaces, maps, wideKeys, modest, calm, conditions, laid).
  DERIVED. THE GIVEN ROWS OF THIS SEAT. 3 by the template 'for every input the law returns true; each argument reads behind the call as it read before'; 0 by the template 'total and deterministic' (their statements: YtabdipfpfbdghaaGreatTotals.lean).
  GIVEN WITH THE SEED: the statements are not yours to turn. If you find one false, say at which input.
  Laid BY PROGRAM, IN A SANDBOX (cutbox-rows.mjs): the forced cells as the released guide's own fill.sh prints them over the translation 743c4c7127709597… (all of the seat's roots in one cut). By AI agents, Wed Nov 11 2026. No macro, syntax, notation, axiom, sorry.
-/
import Derived.Test.YtabdipfpfbdghaaGreatChecked
import GoSem.Claim
import GoSem.ClaimJoined
import GoSem.ClaimMapViews
import Derived.JoinedTies
import Derived.KernelRfl
namespace Go.Proofs.YtabdipfpfbdghaaGreat
/- THE CELL 'sum', in the pinned program and in every row, IS THE sha256 OF THE DUMP (.gsa) THAT YtabdipfpfbdghaaGreatProg.lean LOADS. Nothing in Lean hashes anything: it is a label: what it is worth is what the hold of that sum in a sandbox is worth. -/
noncomputable def Tryz.pinned : Pinned := { name := "ytabdipfpfbdghaagreat", sum := "743c4c71277095974a55686090d9279fc2f4f271591a50bbb3f010e073571a5c", checked := Tryz.checked }
namespace Rows
def none {H : Type} : Left H := { results := [], args := [] }

/-- 'wherrylaw18.ReadyActs': WHATEVER THE INPUT: true; the input reads as it did. -/
def readyActsSpec : ChangeSpec := { name := "readyActs", fn := fun _ => fun
  | [d1, d2] => { results := [.lit (.bool true)], args := [d1, d2] }
  | _ => none }
def readyActsRow : OpenClaim := { program := "ytabdipfpfbdghaagreat", sum := "743c4c71277095974a55686090d9279fc2f4f271591a50bbb3f010e073571a5c", func := "wherry/wherrylaw18.ReadyActs", spec := "readyActs", unfollowed := true, recurses := true, apart := false }
def ReadyActsSaid : Prop := readyActsRow.holds Tryz.pinned (OpenSpec.ofChange readyActsSpec)

/-- ITS FALSE NEIGHBOUR: 'it returns false'. Refute it at one input. -/
def readyActsWrong : ChangeSpec := { name := "readyActs", fn := fun _ => fun
  | [d1, d2] => { results := [.lit (.bool false)], args := [d1, d2] }
  | _ => none }
def ReadyActsWrongFalsely : Prop := readyActsRow.holds Tryz.pinned (OpenSpec.ofChange readyActsWrong)

/-- 'wherrylaw18.ReadyLowers': WHATEVER THE INPUT: true; the input reads as it did. -/
def readyLowersSpec : ChangeSpec := { name := "readyLowers", fn := fun _ => fun
  | [d] => { results := [.lit (.bool true)], args := [d] }
  | _ => none }
def readyLowersRow : OpenClaim := { program := "ytabdipfpfbdghaagreat", sum := "743c4c71277095974a55686090d9279fc2f4f271591a50bbb3f010e073571a5c", func := "wherry/wherrylaw18.ReadyLowers", spec := "readyLowers", unfollowed := true, recurses := true, apart := false }
def ReadyLowersSaid : Prop := readyLowersRow.holds Tryz.pinned (OpenSpec.ofChange readyLowersSpec)

/-- ITS FALSE NEIGHBOUR: 'it returns false'. Refute it at one input. -/
def readyLowersWrong : ChangeSpec := { name := "readyLowers", fn := fun _ => fun
  | [d] => { results := [.lit (.bool false)], args := [d] }
  | _ => none }
def ReadyLowersWrongFalsely : Prop := readyLowersRow.holds Tryz.pinned (OpenSpec.ofChange readyLowersWrong)

/-- 'wherrylaw18.ReadyCopies': WHATEVER THE INPUT: true; the input reads as it did. -/
def readyCopiesSpec : ChangeSpec := { name := "readyCopies", fn := fun _ => fun
  | [d1, d2] => { results := [.lit (.bool true)], args := [d1, d2] }
  | _ => none }
def readyCopiesRow : OpenClaim := { program := "ytabdipfpfbdghaagreat", sum := "743c4c71277095974a55686090d9279fc2f4f271591a50bbb3f010e073571a5c", func := "wherry/wherrylaw18.ReadyCopies", spec := "readyCopies", unfollowed := true, recurses := true, apart := false }
def ReadyCopiesSaid : Prop := readyCopiesRow.holds Tryz.pinned (OpenSpec.ofChange readyCopiesSpec)

/-- ITS FALSE NEIGHBOUR: 'it returns false'. Refute it at one input. -/
def readyCopiesWrong : ChangeSpec := { name := "readyCopies", fn := fun _ => fun
  | [d1, d2] => { results := [.lit (.bool false)], args := [d1, d2] }
  | _ => none }
def ReadyCopiesWrongFalsely : Prop := readyCopiesRow.holds Tryz.pinned (OpenSpec.ofChange readyCopiesWrong)

/- THE SECOND FORM. 'bulk': how many values and letters a reading holds, each counted each time it is reached (what is shared counts as often as it is met; a slice's spare places count too). A statement '..UptoSaid' is the law's where the arguments, and the package variables that the reading takes, are together of bulk at most 1048576: NARROWER than '..Said'. Prove '..Said' where nothing that the law and all that it calls make is longer than what came in: it says more and counts as full. Else prove '..UptoSaid'. A law counts once. -/
mutual
def uptoBulk {H : Type} : DataW H → Nat
  | .lit (.string bytes) => bytes.length + 1
  | .lit _ => 1
  | .nil => 1
  | .ptr d => uptoBulk d + 1
  | .slice elems spare => uptoBulkAll elems + uptoBulkAll spare + 1
  | .agg parts => uptoBulkAll parts + 1
  | .iface _ d => uptoBulk d + 1
  | .map entries => uptoBulkEntries entries + 1
  | .held _ => 1
def uptoBulkAll {H : Type} : List (DataW H) → Nat
  | [] => 0
  | d :: r => uptoBulk d + uptoBulkAll r
def uptoBulkEntries {H : Type} : List (Lit × DataW H) → Nat
  | [] => 0
  | x :: r => uptoBulkEntry x + uptoBulkEntries r
def uptoBulkEntry {H : Type} : Lit × DataW H → Nat
  | (.string bytes, d) => bytes.length + uptoBulk d + 1
  | (_, d) => uptoBulk d + 1
 end
def uptoSmall : (H : Type) → List (DataW H) → Bool := fun _ ds => decide (uptoBulkAll ds ≤ 1048576)
def OpenSpec.upto (s : _root_.Go.ChangeSpec) : _root_.Go.OpenSpec := { _root_.Go.OpenSpec.ofChange s with cond := some uptoSmall }

/-- 'wherrylaw18.ReadyActs', WHERE WHAT IT READS IS OF BULK AT MOST 1048576: true; the input reads as it did. -/
def readyActsUptoRow : OpenClaim := { program := "ytabdipfpfbdghaagreat", sum := "743c4c71277095974a55686090d9279fc2f4f271591a50bbb3f010e073571a5c", func := "wherry/wherrylaw18.ReadyActs", spec := "readyActs", unfollowed := true, recurses := true, apart := false, narrowed := true }
def ReadyActsUptoSaid : Prop := readyActsUptoRow.holds Tryz.pinned (OpenSpec.upto readyActsSpec)

/-- 'wherrylaw18.ReadyLowers', WHERE WHAT IT READS IS OF BULK AT MOST 1048576: true; the input reads as it did. -/
def readyLowersUptoRow : OpenClaim := { program := "ytabdipfpfbdghaagreat", sum := "743c4c71277095974a55686090d9279fc2f4f271591a50bbb3f010e073571a5c", func := "wherry/wherrylaw18.ReadyLowers", spec := "readyLowers", unfollowed := true, recurses := true, apart := false, narrowed := true }
def ReadyLowersUptoSaid : Prop := readyLowersUptoRow.holds Tryz.pinned (OpenSpec.upto readyLowersSpec)

/-- 'wherrylaw18.ReadyCopies', WHERE WHAT IT READS IS OF BULK AT MOST 1048576: true; the input reads as it did. -/
def readyCopiesUptoRow : OpenClaim := { program := "ytabdipfpfbdghaagreat", sum := "743c4c71277095974a55686090d9279fc2f4f271591a50bbb3f010e073571a5c", func := "wherry/wherrylaw18.ReadyCopies", spec := "readyCopies", unfollowed := true, recurses := true, apart := false, narrowed := true }
def ReadyCopiesUptoSaid : Prop := readyCopiesUptoRow.holds Tryz.pinned (OpenSpec.upto readyCopiesSpec)

end Rows
end Go.Proofs.YtabdipfpfbdghaaGreat
