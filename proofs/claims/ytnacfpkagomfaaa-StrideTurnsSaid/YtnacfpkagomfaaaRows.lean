/-
  No cell of these rows narrows 'for every input' (looked for: loops, veiled, ifaces, maps, wideKeys, modest, calm, conditions, laid).
  DERIVED. THE GIVEN ROWS OF THIS SEAT. 5 by the template 'for every input the law returns true; each argument reads behind the call as it read before'; 0 by the template 'total and deterministic' (their statements: YtnacfpkagomfaaaTotals.lean).
  GIVEN WITH THE SEED: the statements are not yours to turn. If you find one false, say at which input.
  Laid BY PROGRAM, IN A SANDBOX (cutbox-rows.mjs): the forced cells as the released guide's own fill.sh prints them over the translation c1f71aa7af065835… (all of the seat's roots in one cut). By AI agents, Wed Nov 11 2026. No macro, syntax, notation, axiom, sorry.
-/
import Derived.Test.YtnacfpkagomfaaaChecked
import GoSem.Claim
import GoSem.ClaimJoined
import GoSem.ClaimMapViews
import Derived.JoinedTies
import Derived.KernelRfl
namespace Go.Proofs.Ytnacfpkagomfaaa
/- THE CELL 'sum', in the pinned program and in every row, IS THE sha256 OF THE DUMP (.gsa) THAT YtnacfpkagomfaaaProg.lean LOADS. Nothing in Lean hashes anything: it is a label: what it is worth is what the hold of that sum in a sandbox is worth. -/
noncomputable def Try.pinned : Pinned := { name := "ytnacfpkagomfaaa", sum := "c1f71aa7af065835a4bb954987898b7c27e6280959a70bf74bb0a691e74f625f", checked := Try.checked }
namespace Rows
def none {H : Type} : Left H := { results := [], args := [] }

/-- 'wherrylaw17.StrideEnters': WHATEVER THE INPUT: true; the input reads as it did. -/
def strideEntersSpec : ChangeSpec := { name := "strideEnters", fn := fun _ => fun
  | [d1, d2, d3] => { results := [.lit (.bool true)], args := [d1, d2, d3] }
  | _ => none }
def strideEntersRow : OpenClaim := { program := "ytnacfpkagomfaaa", sum := "c1f71aa7af065835a4bb954987898b7c27e6280959a70bf74bb0a691e74f625f", func := "wherry/wherrylaw17.StrideEnters", spec := "strideEnters", unfollowed := true, recurses := true, apart := false }
def StrideEntersSaid : Prop := strideEntersRow.holds Try.pinned (OpenSpec.ofChange strideEntersSpec)

/-- ITS FALSE NEIGHBOUR: 'it returns false'. Refute it at one input. -/
def strideEntersWrong : ChangeSpec := { name := "strideEnters", fn := fun _ => fun
  | [d1, d2, d3] => { results := [.lit (.bool false)], args := [d1, d2, d3] }
  | _ => none }
def StrideEntersWrongFalsely : Prop := strideEntersRow.holds Try.pinned (OpenSpec.ofChange strideEntersWrong)

/-- 'wherrylaw17.StrideShares': WHATEVER THE INPUT: true; the input reads as it did. -/
def strideSharesSpec : ChangeSpec := { name := "strideShares", fn := fun _ => fun
  | [d1, d2] => { results := [.lit (.bool true)], args := [d1, d2] }
  | _ => none }
def strideSharesRow : OpenClaim := { program := "ytnacfpkagomfaaa", sum := "c1f71aa7af065835a4bb954987898b7c27e6280959a70bf74bb0a691e74f625f", func := "wherry/wherrylaw17.StrideShares", spec := "strideShares", unfollowed := true, recurses := true, named := ["math/bits.divideError", "math/bits.overflowError"], apart := false }
def StrideSharesSaid : Prop := strideSharesRow.holds Try.pinned (OpenSpec.ofChange strideSharesSpec)

/-- ITS FALSE NEIGHBOUR: 'it returns false'. Refute it at one input. -/
def strideSharesWrong : ChangeSpec := { name := "strideShares", fn := fun _ => fun
  | [d1, d2] => { results := [.lit (.bool false)], args := [d1, d2] }
  | _ => none }
def StrideSharesWrongFalsely : Prop := strideSharesRow.holds Try.pinned (OpenSpec.ofChange strideSharesWrong)

/-- 'wherrylaw17.StrideBounds': WHATEVER THE INPUT: true; the input reads as it did. -/
def strideBoundsSpec : ChangeSpec := { name := "strideBounds", fn := fun _ => fun
  | [d1, d2, d3] => { results := [.lit (.bool true)], args := [d1, d2, d3] }
  | _ => none }
def strideBoundsRow : OpenClaim := { program := "ytnacfpkagomfaaa", sum := "c1f71aa7af065835a4bb954987898b7c27e6280959a70bf74bb0a691e74f625f", func := "wherry/wherrylaw17.StrideBounds", spec := "strideBounds", unfollowed := true, recurses := true, named := ["math/bits.divideError", "math/bits.overflowError"], apart := false }
def StrideBoundsSaid : Prop := strideBoundsRow.holds Try.pinned (OpenSpec.ofChange strideBoundsSpec)

/-- ITS FALSE NEIGHBOUR: 'it returns false'. Refute it at one input. -/
def strideBoundsWrong : ChangeSpec := { name := "strideBounds", fn := fun _ => fun
  | [d1, d2, d3] => { results := [.lit (.bool false)], args := [d1, d2, d3] }
  | _ => none }
def StrideBoundsWrongFalsely : Prop := strideBoundsRow.holds Try.pinned (OpenSpec.ofChange strideBoundsWrong)

/-- 'wherrylaw17.StrideSays': WHATEVER THE INPUT: true; the input reads as it did. -/
def strideSaysSpec : ChangeSpec := { name := "strideSays", fn := fun _ => fun
  | [d] => { results := [.lit (.bool true)], args := [d] }
  | _ => none }
def strideSaysRow : OpenClaim := { program := "ytnacfpkagomfaaa", sum := "c1f71aa7af065835a4bb954987898b7c27e6280959a70bf74bb0a691e74f625f", func := "wherry/wherrylaw17.StrideSays", spec := "strideSays", inPlace := ["math/bits.Add64", "math/bits.Sub64"], unfollowed := true, recurses := true, apart := false }
def StrideSaysSaid : Prop := strideSaysRow.holds Try.pinned (OpenSpec.ofChange strideSaysSpec)

/-- ITS FALSE NEIGHBOUR: 'it returns false'. Refute it at one input. -/
def strideSaysWrong : ChangeSpec := { name := "strideSays", fn := fun _ => fun
  | [d] => { results := [.lit (.bool false)], args := [d] }
  | _ => none }
def StrideSaysWrongFalsely : Prop := strideSaysRow.holds Try.pinned (OpenSpec.ofChange strideSaysWrong)

/-- 'wherrylaw17.StrideTurns': WHATEVER THE INPUT: true; the input reads as it did. -/
def strideTurnsSpec : ChangeSpec := { name := "strideTurns", fn := fun _ => fun
  | [d1, d2] => { results := [.lit (.bool true)], args := [d1, d2] }
  | _ => none }
def strideTurnsRow : OpenClaim := { program := "ytnacfpkagomfaaa", sum := "c1f71aa7af065835a4bb954987898b7c27e6280959a70bf74bb0a691e74f625f", func := "wherry/wherrylaw17.StrideTurns", spec := "strideTurns", inPlace := ["math/bits.Add64", "math/bits.Sub64"], unfollowed := true, recurses := true, apart := false }
def StrideTurnsSaid : Prop := strideTurnsRow.holds Try.pinned (OpenSpec.ofChange strideTurnsSpec)

/-- ITS FALSE NEIGHBOUR: 'it returns false'. Refute it at one input. -/
def strideTurnsWrong : ChangeSpec := { name := "strideTurns", fn := fun _ => fun
  | [d1, d2] => { results := [.lit (.bool false)], args := [d1, d2] }
  | _ => none }
def StrideTurnsWrongFalsely : Prop := strideTurnsRow.holds Try.pinned (OpenSpec.ofChange strideTurnsWrong)

/- THE SECOND FORM. 'bulk': how many values and letters a reading holds, each counted each time it is reached (what is shared counts as often as it is met; a slice's spare places count too). A statement '..UptoSaid' is the law's where the arguments, and the package variables that the reading takes, are together of bulk at most 1048576: NARROWER than '..Said'. Prove '..Said' where nothing that the law and all that it calls make is longer than what came in: it says more and counts as full. Else prove '..UptoSaid'. A law counts once. -/
mutual
def uptoBulk {H : Type} : DataW H → Nat
  | .lit (.string bytes) => bytes.length + 1
  | .lit _ => 1
  | .nil => 1
  | .ptr d => uptoBulk d + 1
  | .slice elems spare => uptoBulkAll elems + uptoBulkAll spare + 1
  | .agg parts => uptoBulkAll parts + 1
  | .iface _ d => uptoBulk d + 1
  | .map entries => uptoBulkEntries entries + 1
  | .held _ => 1
def uptoBulkAll {H : Type} : List (DataW H) → Nat
  | [] => 0
  | d :: r => uptoBulk d + uptoBulkAll r
def uptoBulkEntries {H : Type} : List (Lit × DataW H) → Nat
  | [] => 0
  | x :: r => uptoBulkEntry x + uptoBulkEntries r
def uptoBulkEntry {H : Type} : Lit × DataW H → Nat
  | (.string bytes, d) => bytes.length + uptoBulk d + 1
  | (_, d) => uptoBulk d + 1
 end
def uptoSmall : (H : Type) → List (DataW H) → Bool := fun _ ds => decide (uptoBulkAll ds ≤ 1048576)
def OpenSpec.upto (s : _root_.Go.ChangeSpec) : _root_.Go.OpenSpec := { _root_.Go.OpenSpec.ofChange s with cond := some uptoSmall }

/-- 'wherrylaw17.StrideEnters', WHERE WHAT IT READS IS OF BULK AT MOST 1048576: true; the input reads as it did. -/
def strideEntersUptoRow : OpenClaim := { program := "ytnacfpkagomfaaa", sum := "c1f71aa7af065835a4bb954987898b7c27e6280959a70bf74bb0a691e74f625f", func := "wherry/wherrylaw17.StrideEnters", spec := "strideEnters", unfollowed := true, recurses := true, apart := false, narrowed := true }
def StrideEntersUptoSaid : Prop := strideEntersUptoRow.holds Try.pinned (OpenSpec.upto strideEntersSpec)

/-- 'wherrylaw17.StrideShares', WHERE WHAT IT READS IS OF BULK AT MOST 1048576: true; the input reads as it did. -/
def strideSharesUptoRow : OpenClaim := { program := "ytnacfpkagomfaaa", sum := "c1f71aa7af065835a4bb954987898b7c27e6280959a70bf74bb0a691e74f625f", func := "wherry/wherrylaw17.StrideShares", spec := "strideShares", unfollowed := true, recurses := true, named := ["math/bits.divideError", "math/bits.overflowError"], apart := false, narrowed := true }
def StrideSharesUptoSaid : Prop := strideSharesUptoRow.holds Try.pinned (OpenSpec.upto strideSharesSpec)

/-- 'wherrylaw17.StrideBounds', WHERE WHAT IT READS IS OF BULK AT MOST 1048576: true; the input reads as it did. -/
def strideBoundsUptoRow : OpenClaim := { program := "ytnacfpkagomfaaa", sum := "c1f71aa7af065835a4bb954987898b7c27e6280959a70bf74bb0a691e74f625f", func := "wherry/wherrylaw17.StrideBounds", spec := "strideBounds", unfollowed := true, recurses := true, named := ["math/bits.divideError", "math/bits.overflowError"], apart := false, narrowed := true }
def StrideBoundsUptoSaid : Prop := strideBoundsUptoRow.holds Try.pinned (OpenSpec.upto strideBoundsSpec)

/-- 'wherrylaw17.StrideSays', WHERE WHAT IT READS IS OF BULK AT MOST 1048576: true; the input reads as it did. -/
def strideSaysUptoRow : OpenClaim := { program := "ytnacfpkagomfaaa", sum := "c1f71aa7af065835a4bb954987898b7c27e6280959a70bf74bb0a691e74f625f", func := "wherry/wherrylaw17.StrideSays", spec := "strideSays", inPlace := ["math/bits.Add64", "math/bits.Sub64"], unfollowed := true, recurses := true, apart := false, narrowed := true }
def StrideSaysUptoSaid : Prop := strideSaysUptoRow.holds Try.pinned (OpenSpec.upto strideSaysSpec)

/-- 'wherrylaw17.StrideTurns', WHERE WHAT IT READS IS OF BULK AT MOST 1048576: true; the input reads as it did. -/
def strideTurnsUptoRow : OpenClaim := { program := "ytnacfpkagomfaaa", sum := "c1f71aa7af065835a4bb954987898b7c27e6280959a70bf74bb0a691e74f625f", func := "wherry/wherrylaw17.StrideTurns", spec := "strideTurns", inPlace := ["math/bits.Add64", "math/bits.Sub64"], unfollowed := true, recurses := true, apart := false, narrowed := true }
def StrideTurnsUptoSaid : Prop := strideTurnsUptoRow.holds Try.pinned (OpenSpec.upto strideTurnsSpec)

end Rows
end Go.Proofs.Ytnacfpkagomfaaa
