/-
  No cell of these rows narrows 'for every input' (looked for: loops, veiled, ifaces, maps, wideKeys, modest, calm, conditions, laid).
  DERIVED. THE GIVEN ROWS OF THIS SEAT. 7 by the template 'for every input the law returns true; each argument reads behind the call as it read before'; 0 by the template 'total and deterministic' (their statements: YtnakpjnigfpkpaaTotals.lean).
  GIVEN WITH THE SEED: the statements are not yours to turn. If you find one false, say at which input.
  Laid BY PROGRAM, IN A SANDBOX (cutbox-rows.mjs): the forced cells as the released guide's own fill.sh prints them over the translation 473aa9085fbc4449… (all of the seat's roots in one cut). By AI agents, Wed Nov 11 2026. No macro, syntax, notation, axiom, sorry.
-/
import Derived.Test.YtnakpjnigfpkpaaChecked
import GoSem.Claim
import GoSem.ClaimJoined
import GoSem.ClaimMapViews
import Derived.JoinedTies
import Derived.KernelRfl
namespace Go.Proofs.Ytnakpjnigfpkpaa
/- THE CELL 'sum', in the pinned program and in every row, IS THE sha256 OF THE DUMP (.gsa) THAT YtnakpjnigfpkpaaProg.lean LOADS. Nothing in Lean hashes anything: it is a label: what it is worth is what the hold of that sum in a sandbox is worth. -/
noncomputable def Try.pinned : Pinned := { name := "ytnakpjnigfpkpaa", sum := "473aa9085fbc444929c92b3ad4e4f049f428015d88989486ee2184a236548a8a", checked := Try.checked }
namespace Rows
def none {H : Type} : Left H := { results := [], args := [] }

/-- 'jobshoplaw05.EditCalls': WHATEVER THE INPUT: true; the input reads as it did. -/
def editCallsSpec : ChangeSpec := { name := "editCalls", fn := fun _ => fun
  | [d1, d2] => { results := [.lit (.bool true)], args := [d1, d2] }
  | _ => none }
def editCallsRow : OpenClaim := { program := "ytnakpjnigfpkpaa", sum := "473aa9085fbc444929c92b3ad4e4f049f428015d88989486ee2184a236548a8a", func := "jobshop/jobshoplaw05.EditCalls", spec := "editCalls", unfollowed := true, recurses := true, apart := false }
def EditCallsSaid : Prop := editCallsRow.holds Try.pinned (OpenSpec.ofChange editCallsSpec)

/-- ITS FALSE NEIGHBOUR: 'it returns false'. Refute it at one input. -/
def editCallsWrong : ChangeSpec := { name := "editCalls", fn := fun _ => fun
  | [d1, d2] => { results := [.lit (.bool false)], args := [d1, d2] }
  | _ => none }
def EditCallsWrongFalsely : Prop := editCallsRow.holds Try.pinned (OpenSpec.ofChange editCallsWrong)

/-- 'jobshoplaw05.EditBytes': WHATEVER THE INPUT: true; the input reads as it did. -/
def editBytesSpec : ChangeSpec := { name := "editBytes", fn := fun _ => fun
  | [d1, d2] => { results := [.lit (.bool true)], args := [d1, d2] }
  | _ => none }
def editBytesRow : OpenClaim := { program := "ytnakpjnigfpkpaa", sum := "473aa9085fbc444929c92b3ad4e4f049f428015d88989486ee2184a236548a8a", func := "jobshop/jobshoplaw05.EditBytes", spec := "editBytes", unfollowed := true, recurses := true, apart := false }
def EditBytesSaid : Prop := editBytesRow.holds Try.pinned (OpenSpec.ofChange editBytesSpec)

/-- ITS FALSE NEIGHBOUR: 'it returns false'. Refute it at one input. -/
def editBytesWrong : ChangeSpec := { name := "editBytes", fn := fun _ => fun
  | [d1, d2] => { results := [.lit (.bool false)], args := [d1, d2] }
  | _ => none }
def EditBytesWrongFalsely : Prop := editBytesRow.holds Try.pinned (OpenSpec.ofChange editBytesWrong)

/-- 'jobshoplaw05.EditPrefixes': WHATEVER THE INPUT: true; the input reads as it did. -/
def editPrefixesSpec : ChangeSpec := { name := "editPrefixes", fn := fun _ => fun
  | [d1, d2, d3] => { results := [.lit (.bool true)], args := [d1, d2, d3] }
  | _ => none }
def editPrefixesRow : OpenClaim := { program := "ytnakpjnigfpkpaa", sum := "473aa9085fbc444929c92b3ad4e4f049f428015d88989486ee2184a236548a8a", func := "jobshop/jobshoplaw05.EditPrefixes", spec := "editPrefixes", unfollowed := true, recurses := true, apart := false }
def EditPrefixesSaid : Prop := editPrefixesRow.holds Try.pinned (OpenSpec.ofChange editPrefixesSpec)

/-- ITS FALSE NEIGHBOUR: 'it returns false'. Refute it at one input. -/
def editPrefixesWrong : ChangeSpec := { name := "editPrefixes", fn := fun _ => fun
  | [d1, d2, d3] => { results := [.lit (.bool false)], args := [d1, d2, d3] }
  | _ => none }
def EditPrefixesWrongFalsely : Prop := editPrefixesRow.holds Try.pinned (OpenSpec.ofChange editPrefixesWrong)

/-- 'jobshoplaw05.EditOne': WHATEVER THE INPUT: true; the input reads as it did. -/
def editOneSpec : ChangeSpec := { name := "editOne", fn := fun _ => fun
  | [d1, d2] => { results := [.lit (.bool true)], args := [d1, d2] }
  | _ => none }
def editOneRow : OpenClaim := { program := "ytnakpjnigfpkpaa", sum := "473aa9085fbc444929c92b3ad4e4f049f428015d88989486ee2184a236548a8a", func := "jobshop/jobshoplaw05.EditOne", spec := "editOne", unfollowed := true, recurses := true, apart := false }
def EditOneSaid : Prop := editOneRow.holds Try.pinned (OpenSpec.ofChange editOneSpec)

/-- ITS FALSE NEIGHBOUR: 'it returns false'. Refute it at one input. -/
def editOneWrong : ChangeSpec := { name := "editOne", fn := fun _ => fun
  | [d1, d2] => { results := [.lit (.bool false)], args := [d1, d2] }
  | _ => none }
def EditOneWrongFalsely : Prop := editOneRow.holds Try.pinned (OpenSpec.ofChange editOneWrong)

/-- 'jobshoplaw05.EditStart': WHATEVER THE INPUT: true; the input reads as it did. -/
def editStartSpec : ChangeSpec := { name := "editStart", fn := fun _ => fun
  | [d1, d2, d3] => { results := [.lit (.bool true)], args := [d1, d2, d3] }
  | _ => none }
def editStartRow : OpenClaim := { program := "ytnakpjnigfpkpaa", sum := "473aa9085fbc444929c92b3ad4e4f049f428015d88989486ee2184a236548a8a", func := "jobshop/jobshoplaw05.EditStart", spec := "editStart", unfollowed := true, recurses := true, apart := false }
def EditStartSaid : Prop := editStartRow.holds Try.pinned (OpenSpec.ofChange editStartSpec)

/-- ITS FALSE NEIGHBOUR: 'it returns false'. Refute it at one input. -/
def editStartWrong : ChangeSpec := { name := "editStart", fn := fun _ => fun
  | [d1, d2, d3] => { results := [.lit (.bool false)], args := [d1, d2, d3] }
  | _ => none }
def EditStartWrongFalsely : Prop := editStartRow.holds Try.pinned (OpenSpec.ofChange editStartWrong)

/-- 'jobshoplaw05.EditTwo': WHATEVER THE INPUT: true; the input reads as it did. -/
def editTwoSpec : ChangeSpec := { name := "editTwo", fn := fun _ => fun
  | [d1, d2, d3] => { results := [.lit (.bool true)], args := [d1, d2, d3] }
  | _ => none }
def editTwoRow : OpenClaim := { program := "ytnakpjnigfpkpaa", sum := "473aa9085fbc444929c92b3ad4e4f049f428015d88989486ee2184a236548a8a", func := "jobshop/jobshoplaw05.EditTwo", spec := "editTwo", unfollowed := true, recurses := true, apart := false }
def EditTwoSaid : Prop := editTwoRow.holds Try.pinned (OpenSpec.ofChange editTwoSpec)

/-- ITS FALSE NEIGHBOUR: 'it returns false'. Refute it at one input. -/
def editTwoWrong : ChangeSpec := { name := "editTwo", fn := fun _ => fun
  | [d1, d2, d3] => { results := [.lit (.bool false)], args := [d1, d2, d3] }
  | _ => none }
def EditTwoWrongFalsely : Prop := editTwoRow.holds Try.pinned (OpenSpec.ofChange editTwoWrong)

/-- 'jobshoplaw05.EditKnown': WHATEVER THE INPUT: true; the input reads as it did. -/
def editKnownSpec : ChangeSpec := { name := "editKnown", fn := fun _ => fun
  | [] => { results := [.lit (.bool true)], args := [] }
  | _ => none }
def editKnownRow : OpenClaim := { program := "ytnakpjnigfpkpaa", sum := "473aa9085fbc444929c92b3ad4e4f049f428015d88989486ee2184a236548a8a", func := "jobshop/jobshoplaw05.EditKnown", spec := "editKnown", unfollowed := true, recurses := true, apart := false }
def EditKnownSaid : Prop := editKnownRow.holds Try.pinned (OpenSpec.ofChange editKnownSpec)

/-- ITS FALSE NEIGHBOUR: 'it returns false'. Refute it at one input. -/
def editKnownWrong : ChangeSpec := { name := "editKnown", fn := fun _ => fun
  | [] => { results := [.lit (.bool false)], args := [] }
  | _ => none }
def EditKnownWrongFalsely : Prop := editKnownRow.holds Try.pinned (OpenSpec.ofChange editKnownWrong)

/- THE SECOND FORM. 'bulk': how many values and letters a reading holds, each counted each time it is reached (what is shared counts as often as it is met; a slice's spare places count too). A statement '..UptoSaid' is the law's where the arguments, and the package variables that the reading takes, are together of bulk at most 1048576: NARROWER than '..Said'. Prove '..Said' where nothing that the law and all that it calls make is longer than what came in: it says more and counts as full. Else prove '..UptoSaid'. A law counts once. -/
mutual
def uptoBulk {H : Type} : DataW H → Nat
  | .lit (.string bytes) => bytes.length + 1
  | .lit _ => 1
  | .nil => 1
  | .ptr d => uptoBulk d + 1
  | .slice elems spare => uptoBulkAll elems + uptoBulkAll spare + 1
  | .agg parts => uptoBulkAll parts + 1
  | .iface _ d => uptoBulk d + 1
  | .map entries => uptoBulkEntries entries + 1
  | .held _ => 1
def uptoBulkAll {H : Type} : List (DataW H) → Nat
  | [] => 0
  | d :: r => uptoBulk d + uptoBulkAll r
def uptoBulkEntries {H : Type} : List (Lit × DataW H) → Nat
  | [] => 0
  | x :: r => uptoBulkEntry x + uptoBulkEntries r
def uptoBulkEntry {H : Type} : Lit × DataW H → Nat
  | (.string bytes, d) => bytes.length + uptoBulk d + 1
  | (_, d) => uptoBulk d + 1
 end
def uptoSmall : (H : Type) → List (DataW H) → Bool := fun _ ds => decide (uptoBulkAll ds ≤ 1048576)
def OpenSpec.upto (s : _root_.Go.ChangeSpec) : _root_.Go.OpenSpec := { _root_.Go.OpenSpec.ofChange s with cond := some uptoSmall }

/-- 'jobshoplaw05.EditCalls', WHERE WHAT IT READS IS OF BULK AT MOST 1048576: true; the input reads as it did. -/
def editCallsUptoRow : OpenClaim := { program := "ytnakpjnigfpkpaa", sum := "473aa9085fbc444929c92b3ad4e4f049f428015d88989486ee2184a236548a8a", func := "jobshop/jobshoplaw05.EditCalls", spec := "editCalls", unfollowed := true, recurses := true, apart := false, narrowed := true }
def EditCallsUptoSaid : Prop := editCallsUptoRow.holds Try.pinned (OpenSpec.upto editCallsSpec)

/-- 'jobshoplaw05.EditBytes', WHERE WHAT IT READS IS OF BULK AT MOST 1048576: true; the input reads as it did. -/
def editBytesUptoRow : OpenClaim := { program := "ytnakpjnigfpkpaa", sum := "473aa9085fbc444929c92b3ad4e4f049f428015d88989486ee2184a236548a8a", func := "jobshop/jobshoplaw05.EditBytes", spec := "editBytes", unfollowed := true, recurses := true, apart := false, narrowed := true }
def EditBytesUptoSaid : Prop := editBytesUptoRow.holds Try.pinned (OpenSpec.upto editBytesSpec)

/-- 'jobshoplaw05.EditPrefixes', WHERE WHAT IT READS IS OF BULK AT MOST 1048576: true; the input reads as it did. -/
def editPrefixesUptoRow : OpenClaim := { program := "ytnakpjnigfpkpaa", sum := "473aa9085fbc444929c92b3ad4e4f049f428015d88989486ee2184a236548a8a", func := "jobshop/jobshoplaw05.EditPrefixes", spec := "editPrefixes", unfollowed := true, recurses := true, apart := false, narrowed := true }
def EditPrefixesUptoSaid : Prop := editPrefixesUptoRow.holds Try.pinned (OpenSpec.upto editPrefixesSpec)

/-- 'jobshoplaw05.EditOne', WHERE WHAT IT READS IS OF BULK AT MOST 1048576: true; the input reads as it did. -/
def editOneUptoRow : OpenClaim := { program := "ytnakpjnigfpkpaa", sum := "473aa9085fbc444929c92b3ad4e4f049f428015d88989486ee2184a236548a8a", func := "jobshop/jobshoplaw05.EditOne", spec := "editOne", unfollowed := true, recurses := true, apart := false, narrowed := true }
def EditOneUptoSaid : Prop := editOneUptoRow.holds Try.pinned (OpenSpec.upto editOneSpec)

/-- 'jobshoplaw05.EditStart', WHERE WHAT IT READS IS OF BULK AT MOST 1048576: true; the input reads as it did. -/
def editStartUptoRow : OpenClaim := { program := "ytnakpjnigfpkpaa", sum := "473aa9085fbc444929c92b3ad4e4f049f428015d88989486ee2184a236548a8a", func := "jobshop/jobshoplaw05.EditStart", spec := "editStart", unfollowed := true, recurses := true, apart := false, narrowed := true }
def EditStartUptoSaid : Prop := editStartUptoRow.holds Try.pinned (OpenSpec.upto editStartSpec)

/-- 'jobshoplaw05.EditTwo', WHERE WHAT IT READS IS OF BULK AT MOST 1048576: true; the input reads as it did. -/
def editTwoUptoRow : OpenClaim := { program := "ytnakpjnigfpkpaa", sum := "473aa9085fbc444929c92b3ad4e4f049f428015d88989486ee2184a236548a8a", func := "jobshop/jobshoplaw05.EditTwo", spec := "editTwo", unfollowed := true, recurses := true, apart := false, narrowed := true }
def EditTwoUptoSaid : Prop := editTwoUptoRow.holds Try.pinned (OpenSpec.upto editTwoSpec)

/-- 'jobshoplaw05.EditKnown', WHERE WHAT IT READS IS OF BULK AT MOST 1048576: true; the input reads as it did. -/
def editKnownUptoRow : OpenClaim := { program := "ytnakpjnigfpkpaa", sum := "473aa9085fbc444929c92b3ad4e4f049f428015d88989486ee2184a236548a8a", func := "jobshop/jobshoplaw05.EditKnown", spec := "editKnown", unfollowed := true, recurses := true, apart := false, narrowed := true }
def EditKnownUptoSaid : Prop := editKnownUptoRow.holds Try.pinned (OpenSpec.upto editKnownSpec)

end Rows
end Go.Proofs.Ytnakpjnigfpkpaa
