/-
  No cell of these rows narrows 'for every input' (looked for: loops, veiled, ifaces, maps, wideKeys, modest, calm, conditions, laid).
  DERIVED. THE GIVEN ROWS OF THIS SEAT. 5 by the template 'for every input the law returns true; each argument reads behind the call as it read before'; 0 by the template 'total and deterministic' (their statements: YtmacpgjmhaoneaaTotals.lean).
  GIVEN WITH THE SEED: the statements are not yours to turn. If you find one false, say at which input.
  Laid BY PROGRAM, IN A SANDBOX (cutbox-rows.mjs): the forced cells as the released guide's own fill.sh prints them over the translation 413e6009a274537c… (all of the seat's roots in one cut). By AI agents, Wed Nov 11 2026. No macro, syntax, notation, axiom, sorry.
-/
import Derived.Test.YtmacpgjmhaoneaaChecked
import GoSem.Claim
import GoSem.ClaimJoined
import GoSem.ClaimMapViews
import Derived.JoinedTies
import Derived.KernelRfl
namespace Go.Proofs.Ytmacpgjmhaoneaa
/- THE CELL 'sum', in the pinned program and in every row, IS THE sha256 OF THE DUMP (.gsa) THAT YtmacpgjmhaoneaaProg.lean LOADS. Nothing in Lean hashes anything: it is a label: what it is worth is what the hold of that sum in a sandbox is worth. -/
noncomputable def Try.pinned : Pinned := { name := "ytmacpgjmhaoneaa", sum := "413e6009a274537cf9fe683e850a92715ded2595e48f9c191c1e88f25205341b", checked := Try.checked }
namespace Rows
def none {H : Type} : Left H := { results := [], args := [] }

/-- 'wherrylaw08.ShareDivides': WHATEVER THE INPUT: true; the input reads as it did. -/
def shareDividesSpec : ChangeSpec := { name := "shareDivides", fn := fun _ => fun
  | [d1, d2, d3] => { results := [.lit (.bool true)], args := [d1, d2, d3] }
  | _ => none }
def shareDividesRow : OpenClaim := { program := "ytmacpgjmhaoneaa", sum := "413e6009a274537cf9fe683e850a92715ded2595e48f9c191c1e88f25205341b", func := "wherry/wherrylaw08.ShareDivides", spec := "shareDivides", unfollowed := true, recurses := true, apart := false }
def ShareDividesSaid : Prop := shareDividesRow.holds Try.pinned (OpenSpec.ofChange shareDividesSpec)

/-- ITS FALSE NEIGHBOUR: 'it returns false'. Refute it at one input. -/
def shareDividesWrong : ChangeSpec := { name := "shareDivides", fn := fun _ => fun
  | [d1, d2, d3] => { results := [.lit (.bool false)], args := [d1, d2, d3] }
  | _ => none }
def ShareDividesWrongFalsely : Prop := shareDividesRow.holds Try.pinned (OpenSpec.ofChange shareDividesWrong)

/-- 'wherrylaw08.ShareAll': WHATEVER THE INPUT: true; the input reads as it did. -/
def shareAllSpec : ChangeSpec := { name := "shareAll", fn := fun _ => fun
  | [d1, d2, d3] => { results := [.lit (.bool true)], args := [d1, d2, d3] }
  | _ => none }
def shareAllRow : OpenClaim := { program := "ytmacpgjmhaoneaa", sum := "413e6009a274537cf9fe683e850a92715ded2595e48f9c191c1e88f25205341b", func := "wherry/wherrylaw08.ShareAll", spec := "shareAll", unfollowed := true, recurses := true, apart := false }
def ShareAllSaid : Prop := shareAllRow.holds Try.pinned (OpenSpec.ofChange shareAllSpec)

/-- ITS FALSE NEIGHBOUR: 'it returns false'. Refute it at one input. -/
def shareAllWrong : ChangeSpec := { name := "shareAll", fn := fun _ => fun
  | [d1, d2, d3] => { results := [.lit (.bool false)], args := [d1, d2, d3] }
  | _ => none }
def ShareAllWrongFalsely : Prop := shareAllRow.holds Try.pinned (OpenSpec.ofChange shareAllWrong)

/-- 'wherrylaw08.ShareLevels': WHATEVER THE INPUT: true; the input reads as it did. -/
def shareLevelsSpec : ChangeSpec := { name := "shareLevels", fn := fun _ => fun
  | [d1, d2, d3] => { results := [.lit (.bool true)], args := [d1, d2, d3] }
  | _ => none }
def shareLevelsRow : OpenClaim := { program := "ytmacpgjmhaoneaa", sum := "413e6009a274537cf9fe683e850a92715ded2595e48f9c191c1e88f25205341b", func := "wherry/wherrylaw08.ShareLevels", spec := "shareLevels", unfollowed := true, recurses := true, apart := false }
def ShareLevelsSaid : Prop := shareLevelsRow.holds Try.pinned (OpenSpec.ofChange shareLevelsSpec)

/-- ITS FALSE NEIGHBOUR: 'it returns false'. Refute it at one input. -/
def shareLevelsWrong : ChangeSpec := { name := "shareLevels", fn := fun _ => fun
  | [d1, d2, d3] => { results := [.lit (.bool false)], args := [d1, d2, d3] }
  | _ => none }
def ShareLevelsWrongFalsely : Prop := shareLevelsRow.holds Try.pinned (OpenSpec.ofChange shareLevelsWrong)

/-- 'wherrylaw08.ShareSame': WHATEVER THE INPUT: true; the input reads as it did. -/
def shareSameSpec : ChangeSpec := { name := "shareSame", fn := fun _ => fun
  | [d1, d2, d3] => { results := [.lit (.bool true)], args := [d1, d2, d3] }
  | _ => none }
def shareSameRow : OpenClaim := { program := "ytmacpgjmhaoneaa", sum := "413e6009a274537cf9fe683e850a92715ded2595e48f9c191c1e88f25205341b", func := "wherry/wherrylaw08.ShareSame", spec := "shareSame", unfollowed := true, recurses := true, apart := false }
def ShareSameSaid : Prop := shareSameRow.holds Try.pinned (OpenSpec.ofChange shareSameSpec)

/-- ITS FALSE NEIGHBOUR: 'it returns false'. Refute it at one input. -/
def shareSameWrong : ChangeSpec := { name := "shareSame", fn := fun _ => fun
  | [d1, d2, d3] => { results := [.lit (.bool false)], args := [d1, d2, d3] }
  | _ => none }
def ShareSameWrongFalsely : Prop := shareSameRow.holds Try.pinned (OpenSpec.ofChange shareSameWrong)

/-- 'wherrylaw08.ShareOne': WHATEVER THE INPUT: true; the input reads as it did. -/
def shareOneSpec : ChangeSpec := { name := "shareOne", fn := fun _ => fun
  | [d1, d2, d3] => { results := [.lit (.bool true)], args := [d1, d2, d3] }
  | _ => none }
def shareOneRow : OpenClaim := { program := "ytmacpgjmhaoneaa", sum := "413e6009a274537cf9fe683e850a92715ded2595e48f9c191c1e88f25205341b", func := "wherry/wherrylaw08.ShareOne", spec := "shareOne", unfollowed := true, recurses := true, apart := false }
def ShareOneSaid : Prop := shareOneRow.holds Try.pinned (OpenSpec.ofChange shareOneSpec)

/-- ITS FALSE NEIGHBOUR: 'it returns false'. Refute it at one input. -/
def shareOneWrong : ChangeSpec := { name := "shareOne", fn := fun _ => fun
  | [d1, d2, d3] => { results := [.lit (.bool false)], args := [d1, d2, d3] }
  | _ => none }
def ShareOneWrongFalsely : Prop := shareOneRow.holds Try.pinned (OpenSpec.ofChange shareOneWrong)

/- THE SECOND FORM. 'bulk': how many values and letters a reading holds, each counted each time it is reached (what is shared counts as often as it is met; a slice's spare places count too). A statement '..UptoSaid' is the law's where the arguments, and the package variables that the reading takes, are together of bulk at most 1048576: NARROWER than '..Said'. Prove '..Said' where nothing that the law and all that it calls make is longer than what came in: it says more and counts as full. Else prove '..UptoSaid'. A law counts once. -/
mutual
def uptoBulk {H : Type} : DataW H → Nat
  | .lit (.string bytes) => bytes.length + 1
  | .lit _ => 1
  | .nil => 1
  | .ptr d => uptoBulk d + 1
  | .slice elems spare => uptoBulkAll elems + uptoBulkAll spare + 1
  | .agg parts => uptoBulkAll parts + 1
  | .iface _ d => uptoBulk d + 1
  | .map entries => uptoBulkEntries entries + 1
  | .held _ => 1
def uptoBulkAll {H : Type} : List (DataW H) → Nat
  | [] => 0
  | d :: r => uptoBulk d + uptoBulkAll r
def uptoBulkEntries {H : Type} : List (Lit × DataW H) → Nat
  | [] => 0
  | x :: r => uptoBulkEntry x + uptoBulkEntries r
def uptoBulkEntry {H : Type} : Lit × DataW H → Nat
  | (.string bytes, d) => bytes.length + uptoBulk d + 1
  | (_, d) => uptoBulk d + 1
 end
def uptoSmall : (H : Type) → List (DataW H) → Bool := fun _ ds => decide (uptoBulkAll ds ≤ 1048576)
def OpenSpec.upto (s : _root_.Go.ChangeSpec) : _root_.Go.OpenSpec := { _root_.Go.OpenSpec.ofChange s with cond := some uptoSmall }

/-- 'wherrylaw08.ShareDivides', WHERE WHAT IT READS IS OF BULK AT MOST 1048576: true; the input reads as it did. -/
def shareDividesUptoRow : OpenClaim := { program := "ytmacpgjmhaoneaa", sum := "413e6009a274537cf9fe683e850a92715ded2595e48f9c191c1e88f25205341b", func := "wherry/wherrylaw08.ShareDivides", spec := "shareDivides", unfollowed := true, recurses := true, apart := false, narrowed := true }
def ShareDividesUptoSaid : Prop := shareDividesUptoRow.holds Try.pinned (OpenSpec.upto shareDividesSpec)

/-- 'wherrylaw08.ShareAll', WHERE WHAT IT READS IS OF BULK AT MOST 1048576: true; the input reads as it did. -/
def shareAllUptoRow : OpenClaim := { program := "ytmacpgjmhaoneaa", sum := "413e6009a274537cf9fe683e850a92715ded2595e48f9c191c1e88f25205341b", func := "wherry/wherrylaw08.ShareAll", spec := "shareAll", unfollowed := true, recurses := true, apart := false, narrowed := true }
def ShareAllUptoSaid : Prop := shareAllUptoRow.holds Try.pinned (OpenSpec.upto shareAllSpec)

/-- 'wherrylaw08.ShareLevels', WHERE WHAT IT READS IS OF BULK AT MOST 1048576: true; the input reads as it did. -/
def shareLevelsUptoRow : OpenClaim := { program := "ytmacpgjmhaoneaa", sum := "413e6009a274537cf9fe683e850a92715ded2595e48f9c191c1e88f25205341b", func := "wherry/wherrylaw08.ShareLevels", spec := "shareLevels", unfollowed := true, recurses := true, apart := false, narrowed := true }
def ShareLevelsUptoSaid : Prop := shareLevelsUptoRow.holds Try.pinned (OpenSpec.upto shareLevelsSpec)

/-- 'wherrylaw08.ShareSame', WHERE WHAT IT READS IS OF BULK AT MOST 1048576: true; the input reads as it did. -/
def shareSameUptoRow : OpenClaim := { program := "ytmacpgjmhaoneaa", sum := "413e6009a274537cf9fe683e850a92715ded2595e48f9c191c1e88f25205341b", func := "wherry/wherrylaw08.ShareSame", spec := "shareSame", unfollowed := true, recurses := true, apart := false, narrowed := true }
def ShareSameUptoSaid : Prop := shareSameUptoRow.holds Try.pinned (OpenSpec.upto shareSameSpec)

/-- 'wherrylaw08.ShareOne', WHERE WHAT IT READS IS OF BULK AT MOST 1048576: true; the input reads as it did. -/
def shareOneUptoRow : OpenClaim := { program := "ytmacpgjmhaoneaa", sum := "413e6009a274537cf9fe683e850a92715ded2595e48f9c191c1e88f25205341b", func := "wherry/wherrylaw08.ShareOne", spec := "shareOne", unfollowed := true, recurses := true, apart := false, narrowed := true }
def ShareOneUptoSaid : Prop := shareOneUptoRow.holds Try.pinned (OpenSpec.upto shareOneSpec)

end Rows
end Go.Proofs.Ytmacpgjmhaoneaa
