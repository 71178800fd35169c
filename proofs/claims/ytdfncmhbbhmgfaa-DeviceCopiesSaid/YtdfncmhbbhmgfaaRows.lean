/-
  No cell of these rows narrows 'for every input' (looked for: loops, veiled, ifaces, maps, wideKeys, modest, calm, conditions, laid).
  DERIVED. THE GIVEN ROWS OF THIS SEAT. 4 by the template 'for every input the law returns true; each argument reads behind the call as it read before'; 0 by the template 'total and deterministic' (their statements: YtdfncmhbbhmgfaaTotals.lean).
  GIVEN WITH THE SEED: the statements are not yours to turn. If you find one false, say at which input.
  Laid BY PROGRAM, IN A SANDBOX (cutbox-rows.mjs): the forced cells as the released guide's own fill.sh prints them over the translation 59f2c456e57513a7… (all of the seat's roots in one cut). By AI agents, Wed Nov 11 2026. No macro, syntax, notation, axiom, sorry.
-/
import Derived.Test.YtdfncmhbbhmgfaaChecked
import GoSem.Claim
import GoSem.ClaimJoined
import GoSem.ClaimMapViews
import Derived.JoinedTies
import Derived.KernelRfl
namespace Go.Proofs.Ytdfncmhbbhmgfaa
/- THE CELL 'sum', in the pinned program and in every row, IS THE sha256 OF THE DUMP (.gsa) THAT YtdfncmhbbhmgfaaProg.lean LOADS. Nothing in Lean hashes anything: it is a label: what it is worth is what the hold of that sum in a sandbox is worth. -/
noncomputable def Try.pinned : Pinned := { name := "ytdfncmhbbhmgfaa", sum := "59f2c456e57513a7eb561f24cf8e242df66f869792d6726daa79440f666f9aac", checked := Try.checked }
namespace Rows
def none {H : Type} : Left H := { results := [], args := [] }

/-- 'wherrylaw11.DeviceOnce': WHATEVER THE INPUT: true; the input reads as it did. -/
def deviceOnceSpec : ChangeSpec := { name := "deviceOnce", fn := fun _ => fun
  | [d1, d2] => { results := [.lit (.bool true)], args := [d1, d2] }
  | _ => none }
def deviceOnceRow : OpenClaim := { program := "ytdfncmhbbhmgfaa", sum := "59f2c456e57513a7eb561f24cf8e242df66f869792d6726daa79440f666f9aac", func := "wherry/wherrylaw11.DeviceOnce", spec := "deviceOnce", unfollowed := true, recurses := true, apart := false }
def DeviceOnceSaid : Prop := deviceOnceRow.holds Try.pinned (OpenSpec.ofChange deviceOnceSpec)

/-- ITS FALSE NEIGHBOUR: 'it returns false'. Refute it at one input. -/
def deviceOnceWrong : ChangeSpec := { name := "deviceOnce", fn := fun _ => fun
  | [d1, d2] => { results := [.lit (.bool false)], args := [d1, d2] }
  | _ => none }
def DeviceOnceWrongFalsely : Prop := deviceOnceRow.holds Try.pinned (OpenSpec.ofChange deviceOnceWrong)

/-- 'wherrylaw11.DeviceCopies': WHATEVER THE INPUT: true; the input reads as it did. -/
def deviceCopiesSpec : ChangeSpec := { name := "deviceCopies", fn := fun _ => fun
  | [d1, d2] => { results := [.lit (.bool true)], args := [d1, d2] }
  | _ => none }
def deviceCopiesRow : OpenClaim := { program := "ytdfncmhbbhmgfaa", sum := "59f2c456e57513a7eb561f24cf8e242df66f869792d6726daa79440f666f9aac", func := "wherry/wherrylaw11.DeviceCopies", spec := "deviceCopies", unfollowed := true, recurses := true, apart := false }
def DeviceCopiesSaid : Prop := deviceCopiesRow.holds Try.pinned (OpenSpec.ofChange deviceCopiesSpec)

/-- ITS FALSE NEIGHBOUR: 'it returns false'. Refute it at one input. -/
def deviceCopiesWrong : ChangeSpec := { name := "deviceCopies", fn := fun _ => fun
  | [d1, d2] => { results := [.lit (.bool false)], args := [d1, d2] }
  | _ => none }
def DeviceCopiesWrongFalsely : Prop := deviceCopiesRow.holds Try.pinned (OpenSpec.ofChange deviceCopiesWrong)

/-- 'wherrylaw11.DeviceActs': WHATEVER THE INPUT: true; the input reads as it did. -/
def deviceActsSpec : ChangeSpec := { name := "deviceActs", fn := fun _ => fun
  | [d1, d2] => { results := [.lit (.bool true)], args := [d1, d2] }
  | _ => none }
def deviceActsRow : OpenClaim := { program := "ytdfncmhbbhmgfaa", sum := "59f2c456e57513a7eb561f24cf8e242df66f869792d6726daa79440f666f9aac", func := "wherry/wherrylaw11.DeviceActs", spec := "deviceActs", unfollowed := true, recurses := true, apart := false }
def DeviceActsSaid : Prop := deviceActsRow.holds Try.pinned (OpenSpec.ofChange deviceActsSpec)

/-- ITS FALSE NEIGHBOUR: 'it returns false'. Refute it at one input. -/
def deviceActsWrong : ChangeSpec := { name := "deviceActs", fn := fun _ => fun
  | [d1, d2] => { results := [.lit (.bool false)], args := [d1, d2] }
  | _ => none }
def DeviceActsWrongFalsely : Prop := deviceActsRow.holds Try.pinned (OpenSpec.ofChange deviceActsWrong)

/-- 'wherrylaw11.DeviceNone': WHATEVER THE INPUT: true; the input reads as it did. -/
def deviceNoneSpec : ChangeSpec := { name := "deviceNone", fn := fun _ => fun
  | [d] => { results := [.lit (.bool true)], args := [d] }
  | _ => none }
def deviceNoneRow : OpenClaim := { program := "ytdfncmhbbhmgfaa", sum := "59f2c456e57513a7eb561f24cf8e242df66f869792d6726daa79440f666f9aac", func := "wherry/wherrylaw11.DeviceNone", spec := "deviceNone", unfollowed := true, recurses := true, apart := false }
def DeviceNoneSaid : Prop := deviceNoneRow.holds Try.pinned (OpenSpec.ofChange deviceNoneSpec)

/-- ITS FALSE NEIGHBOUR: 'it returns false'. Refute it at one input. -/
def deviceNoneWrong : ChangeSpec := { name := "deviceNone", fn := fun _ => fun
  | [d] => { results := [.lit (.bool false)], args := [d] }
  | _ => none }
def DeviceNoneWrongFalsely : Prop := deviceNoneRow.holds Try.pinned (OpenSpec.ofChange deviceNoneWrong)

/- THE SECOND FORM. 'bulk': how many values and letters a reading holds, each counted each time it is reached (what is shared counts as often as it is met; a slice's spare places count too). A statement '..UptoSaid' is the law's where the arguments, and the package variables that the reading takes, are together of bulk at most 1048576: NARROWER than '..Said'. Prove '..Said' where nothing that the law and all that it calls make is longer than what came in: it says more and counts as full. Else prove '..UptoSaid'. A law counts once. -/
mutual
def uptoBulk {H : Type} : DataW H → Nat
  | .lit (.string bytes) => bytes.length + 1
  | .lit _ => 1
  | .nil => 1
  | .ptr d => uptoBulk d + 1
  | .slice elems spare => uptoBulkAll elems + uptoBulkAll spare + 1
  | .agg parts => uptoBulkAll parts + 1
  | .iface _ d => uptoBulk d + 1
  | .map entries => uptoBulkEntries entries + 1
  | .held _ => 1
def uptoBulkAll {H : Type} : List (DataW H) → Nat
  | [] => 0
  | d :: r => uptoBulk d + uptoBulkAll r
def uptoBulkEntries {H : Type} : List (Lit × DataW H) → Nat
  | [] => 0
  | x :: r => uptoBulkEntry x + uptoBulkEntries r
def uptoBulkEntry {H : Type} : Lit × DataW H → Nat
  | (.string bytes, d) => bytes.length + uptoBulk d + 1
  | (_, d) => uptoBulk d + 1
 end
def uptoSmall : (H : Type) → List (DataW H) → Bool := fun _ ds => decide (uptoBulkAll ds ≤ 1048576)
def OpenSpec.upto (s : _root_.Go.ChangeSpec) : _root_.Go.OpenSpec := { _root_.Go.OpenSpec.ofChange s with cond := some uptoSmall }

/-- 'wherrylaw11.DeviceOnce', WHERE WHAT IT READS IS OF BULK AT MOST 1048576: true; the input reads as it did. -/
def deviceOnceUptoRow : OpenClaim := { program := "ytdfncmhbbhmgfaa", sum := "59f2c456e57513a7eb561f24cf8e242df66f869792d6726daa79440f666f9aac", func := "wherry/wherrylaw11.DeviceOnce", spec := "deviceOnce", unfollowed := true, recurses := true, apart := false, narrowed := true }
def DeviceOnceUptoSaid : Prop := deviceOnceUptoRow.holds Try.pinned (OpenSpec.upto deviceOnceSpec)

/-- 'wherrylaw11.DeviceCopies', WHERE WHAT IT READS IS OF BULK AT MOST 1048576: true; the input reads as it did. -/
def deviceCopiesUptoRow : OpenClaim := { program := "ytdfncmhbbhmgfaa", sum := "59f2c456e57513a7eb561f24cf8e242df66f869792d6726daa79440f666f9aac", func := "wherry/wherrylaw11.DeviceCopies", spec := "deviceCopies", unfollowed := true, recurses := true, apart := false, narrowed := true }
def DeviceCopiesUptoSaid : Prop := deviceCopiesUptoRow.holds Try.pinned (OpenSpec.upto deviceCopiesSpec)

/-- 'wherrylaw11.DeviceActs', WHERE WHAT IT READS IS OF BULK AT MOST 1048576: true; the input reads as it did. -/
def deviceActsUptoRow : OpenClaim := { program := "ytdfncmhbbhmgfaa", sum := "59f2c456e57513a7eb561f24cf8e242df66f869792d6726daa79440f666f9aac", func := "wherry/wherrylaw11.DeviceActs", spec := "deviceActs", unfollowed := true, recurses := true, apart := false, narrowed := true }
def DeviceActsUptoSaid : Prop := deviceActsUptoRow.holds Try.pinned (OpenSpec.upto deviceActsSpec)

/-- 'wherrylaw11.DeviceNone', WHERE WHAT IT READS IS OF BULK AT MOST 1048576: true; the input reads as it did. -/
def deviceNoneUptoRow : OpenClaim := { program := "ytdfncmhbbhmgfaa", sum := "59f2c456e57513a7eb561f24cf8e242df66f869792d6726daa79440f666f9aac", func := "wherry/wherrylaw11.DeviceNone", spec := "deviceNone", unfollowed := true, recurses := true, apart := false, narrowed := true }
def DeviceNoneUptoSaid : Prop := deviceNoneUptoRow.holds Try.pinned (OpenSpec.upto deviceNoneSpec)

end Rows
end Go.Proofs.Ytdfncmhbbhmgfaa
