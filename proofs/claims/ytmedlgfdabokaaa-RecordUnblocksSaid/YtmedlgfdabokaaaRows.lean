/-
  No cell of these rows narrows 'for every input' (looked for: loops, veiled, ifaces, maps, wideKeys, modest, calm, conditions, laid).
  DERIVED. THE GIVEN ROWS OF THIS SEAT. 7 by the template 'for every input the law returns true; each argument reads behind the call as it read before'; 0 by the template 'total and deterministic' (their statements: YtmedlgfdabokaaaTotals.lean).
  GIVEN WITH THE SEED: the statements are not yours to turn. If you find one false, say at which input.
  Laid BY PROGRAM, IN A SANDBOX (cutbox-rows.mjs): the forced cells as the released guide's own fill.sh prints them over the translation c6eee20aa6a24375… (all of the seat's roots in one cut). By AI agents, Wed Nov 11 2026. No macro, syntax, notation, axiom, sorry.
-/
import Derived.Test.YtmedlgfdabokaaaChecked
import GoSem.Claim
import GoSem.ClaimJoined
import GoSem.ClaimMapViews
import Derived.JoinedTies
import Derived.KernelRfl
namespace Go.Proofs.Ytmedlgfdabokaaa
/- THE CELL 'sum', in the pinned program and in every row, IS THE sha256 OF THE DUMP (.gsa) THAT YtmedlgfdabokaaaProg.lean LOADS. Nothing in Lean hashes anything: it is a label: what it is worth is what the hold of that sum in a sandbox is worth. -/
noncomputable def Try.pinned : Pinned := { name := "ytmedlgfdabokaaa", sum := "c6eee20aa6a243758eb392474e20ac554b8689fbb3d8eec48b597f191dad3eee", checked := Try.checked }
namespace Rows
def none {H : Type} : Left H := { results := [], args := [] }

/-- 'jobshoplaw22.RecordBlocks': WHATEVER THE INPUT: true; the input reads as it did. -/
def recordBlocksSpec : ChangeSpec := { name := "recordBlocks", fn := fun _ => fun
  | [d1, d2] => { results := [.lit (.bool true)], args := [d1, d2] }
  | _ => none }
def recordBlocksRow : OpenClaim := { program := "ytmedlgfdabokaaa", sum := "c6eee20aa6a243758eb392474e20ac554b8689fbb3d8eec48b597f191dad3eee", func := "jobshop/jobshoplaw22.RecordBlocks", spec := "recordBlocks", unfollowed := true, recurses := true, apart := false }
def RecordBlocksSaid : Prop := recordBlocksRow.holds Try.pinned (OpenSpec.ofChange recordBlocksSpec)

/-- ITS FALSE NEIGHBOUR: 'it returns false'. Refute it at one input. -/
def recordBlocksWrong : ChangeSpec := { name := "recordBlocks", fn := fun _ => fun
  | [d1, d2] => { results := [.lit (.bool false)], args := [d1, d2] }
  | _ => none }
def RecordBlocksWrongFalsely : Prop := recordBlocksRow.holds Try.pinned (OpenSpec.ofChange recordBlocksWrong)

/-- 'jobshoplaw22.RecordUnblocks': WHATEVER THE INPUT: true; the input reads as it did. -/
def recordUnblocksSpec : ChangeSpec := { name := "recordUnblocks", fn := fun _ => fun
  | [d1, d2] => { results := [.lit (.bool true)], args := [d1, d2] }
  | _ => none }
def recordUnblocksRow : OpenClaim := { program := "ytmedlgfdabokaaa", sum := "c6eee20aa6a243758eb392474e20ac554b8689fbb3d8eec48b597f191dad3eee", func := "jobshop/jobshoplaw22.RecordUnblocks", spec := "recordUnblocks", unfollowed := true, recurses := true, apart := false }
def RecordUnblocksSaid : Prop := recordUnblocksRow.holds Try.pinned (OpenSpec.ofChange recordUnblocksSpec)

/-- ITS FALSE NEIGHBOUR: 'it returns false'. Refute it at one input. -/
def recordUnblocksWrong : ChangeSpec := { name := "recordUnblocks", fn := fun _ => fun
  | [d1, d2] => { results := [.lit (.bool false)], args := [d1, d2] }
  | _ => none }
def RecordUnblocksWrongFalsely : Prop := recordUnblocksRow.holds Try.pinned (OpenSpec.ofChange recordUnblocksWrong)

/-- 'jobshoplaw22.RecordMany': WHATEVER THE INPUT: true; the input reads as it did. -/
def recordManySpec : ChangeSpec := { name := "recordMany", fn := fun _ => fun
  | [d1, d2, d3] => { results := [.lit (.bool true)], args := [d1, d2, d3] }
  | _ => none }
def recordManyRow : OpenClaim := { program := "ytmedlgfdabokaaa", sum := "c6eee20aa6a243758eb392474e20ac554b8689fbb3d8eec48b597f191dad3eee", func := "jobshop/jobshoplaw22.RecordMany", spec := "recordMany", unfollowed := true, recurses := true, apart := false }
def RecordManySaid : Prop := recordManyRow.holds Try.pinned (OpenSpec.ofChange recordManySpec)

/-- ITS FALSE NEIGHBOUR: 'it returns false'. Refute it at one input. -/
def recordManyWrong : ChangeSpec := { name := "recordMany", fn := fun _ => fun
  | [d1, d2, d3] => { results := [.lit (.bool false)], args := [d1, d2, d3] }
  | _ => none }
def RecordManyWrongFalsely : Prop := recordManyRow.holds Try.pinned (OpenSpec.ofChange recordManyWrong)

/-- 'jobshoplaw22.RecordReturns': WHATEVER THE INPUT: true; the input reads as it did. -/
def recordReturnsSpec : ChangeSpec := { name := "recordReturns", fn := fun _ => fun
  | [d1, d2] => { results := [.lit (.bool true)], args := [d1, d2] }
  | _ => none }
def recordReturnsRow : OpenClaim := { program := "ytmedlgfdabokaaa", sum := "c6eee20aa6a243758eb392474e20ac554b8689fbb3d8eec48b597f191dad3eee", func := "jobshop/jobshoplaw22.RecordReturns", spec := "recordReturns", unfollowed := true, recurses := true, apart := false }
def RecordReturnsSaid : Prop := recordReturnsRow.holds Try.pinned (OpenSpec.ofChange recordReturnsSpec)

/-- ITS FALSE NEIGHBOUR: 'it returns false'. Refute it at one input. -/
def recordReturnsWrong : ChangeSpec := { name := "recordReturns", fn := fun _ => fun
  | [d1, d2] => { results := [.lit (.bool false)], args := [d1, d2] }
  | _ => none }
def RecordReturnsWrongFalsely : Prop := recordReturnsRow.holds Try.pinned (OpenSpec.ofChange recordReturnsWrong)

/-- 'jobshoplaw22.RecordFull': WHATEVER THE INPUT: true; the input reads as it did. -/
def recordFullSpec : ChangeSpec := { name := "recordFull", fn := fun _ => fun
  | [d1, d2] => { results := [.lit (.bool true)], args := [d1, d2] }
  | _ => none }
def recordFullRow : OpenClaim := { program := "ytmedlgfdabokaaa", sum := "c6eee20aa6a243758eb392474e20ac554b8689fbb3d8eec48b597f191dad3eee", func := "jobshop/jobshoplaw22.RecordFull", spec := "recordFull", unfollowed := true, recurses := true, apart := false }
def RecordFullSaid : Prop := recordFullRow.holds Try.pinned (OpenSpec.ofChange recordFullSpec)

/-- ITS FALSE NEIGHBOUR: 'it returns false'. Refute it at one input. -/
def recordFullWrong : ChangeSpec := { name := "recordFull", fn := fun _ => fun
  | [d1, d2] => { results := [.lit (.bool false)], args := [d1, d2] }
  | _ => none }
def RecordFullWrongFalsely : Prop := recordFullRow.holds Try.pinned (OpenSpec.ofChange recordFullWrong)

/-- 'jobshoplaw22.RecordJoins': WHATEVER THE INPUT: true; the input reads as it did. -/
def recordJoinsSpec : ChangeSpec := { name := "recordJoins", fn := fun _ => fun
  | [d1, d2, d3] => { results := [.lit (.bool true)], args := [d1, d2, d3] }
  | _ => none }
def recordJoinsRow : OpenClaim := { program := "ytmedlgfdabokaaa", sum := "c6eee20aa6a243758eb392474e20ac554b8689fbb3d8eec48b597f191dad3eee", func := "jobshop/jobshoplaw22.RecordJoins", spec := "recordJoins", unfollowed := true, recurses := true, apart := false }
def RecordJoinsSaid : Prop := recordJoinsRow.holds Try.pinned (OpenSpec.ofChange recordJoinsSpec)

/-- ITS FALSE NEIGHBOUR: 'it returns false'. Refute it at one input. -/
def recordJoinsWrong : ChangeSpec := { name := "recordJoins", fn := fun _ => fun
  | [d1, d2, d3] => { results := [.lit (.bool false)], args := [d1, d2, d3] }
  | _ => none }
def RecordJoinsWrongFalsely : Prop := recordJoinsRow.holds Try.pinned (OpenSpec.ofChange recordJoinsWrong)

/-- 'jobshoplaw22.RecordChecks': WHATEVER THE INPUT: true; the input reads as it did. -/
def recordChecksSpec : ChangeSpec := { name := "recordChecks", fn := fun _ => fun
  | [d1, d2] => { results := [.lit (.bool true)], args := [d1, d2] }
  | _ => none }
def recordChecksRow : OpenClaim := { program := "ytmedlgfdabokaaa", sum := "c6eee20aa6a243758eb392474e20ac554b8689fbb3d8eec48b597f191dad3eee", func := "jobshop/jobshoplaw22.RecordChecks", spec := "recordChecks", unfollowed := true, recurses := true, apart := false }
def RecordChecksSaid : Prop := recordChecksRow.holds Try.pinned (OpenSpec.ofChange recordChecksSpec)

/-- ITS FALSE NEIGHBOUR: 'it returns false'. Refute it at one input. -/
def recordChecksWrong : ChangeSpec := { name := "recordChecks", fn := fun _ => fun
  | [d1, d2] => { results := [.lit (.bool false)], args := [d1, d2] }
  | _ => none }
def RecordChecksWrongFalsely : Prop := recordChecksRow.holds Try.pinned (OpenSpec.ofChange recordChecksWrong)

/- THE SECOND FORM. 'bulk': how many values and letters a reading holds, each counted each time it is reached (what is shared counts as often as it is met; a slice's spare places count too). A statement '..UptoSaid' is the law's where the arguments, and the package variables that the reading takes, are together of bulk at most 1048576: NARROWER than '..Said'. Prove '..Said' where nothing that the law and all that it calls make is longer than what came in: it says more and counts as full. Else prove '..UptoSaid'. A law counts once. -/
mutual
def uptoBulk {H : Type} : DataW H → Nat
  | .lit (.string bytes) => bytes.length + 1
  | .lit _ => 1
  | .nil => 1
  | .ptr d => uptoBulk d + 1
  | .slice elems spare => uptoBulkAll elems + uptoBulkAll spare + 1
  | .agg parts => uptoBulkAll parts + 1
  | .iface _ d => uptoBulk d + 1
  | .map entries => uptoBulkEntries entries + 1
  | .held _ => 1
def uptoBulkAll {H : Type} : List (DataW H) → Nat
  | [] => 0
  | d :: r => uptoBulk d + uptoBulkAll r
def uptoBulkEntries {H : Type} : List (Lit × DataW H) → Nat
  | [] => 0
  | x :: r => uptoBulkEntry x + uptoBulkEntries r
def uptoBulkEntry {H : Type} : Lit × DataW H → Nat
  | (.string bytes, d) => bytes.length + uptoBulk d + 1
  | (_, d) => uptoBulk d + 1
 end
def uptoSmall : (H : Type) → List (DataW H) → Bool := fun _ ds => decide (uptoBulkAll ds ≤ 1048576)
def OpenSpec.upto (s : _root_.Go.ChangeSpec) : _root_.Go.OpenSpec := { _root_.Go.OpenSpec.ofChange s with cond := some uptoSmall }

/-- 'jobshoplaw22.RecordBlocks', WHERE WHAT IT READS IS OF BULK AT MOST 1048576: true; the input reads as it did. -/
def recordBlocksUptoRow : OpenClaim := { program := "ytmedlgfdabokaaa", sum := "c6eee20aa6a243758eb392474e20ac554b8689fbb3d8eec48b597f191dad3eee", func := "jobshop/jobshoplaw22.RecordBlocks", spec := "recordBlocks", unfollowed := true, recurses := true, apart := false, narrowed := true }
def RecordBlocksUptoSaid : Prop := recordBlocksUptoRow.holds Try.pinned (OpenSpec.upto recordBlocksSpec)

/-- 'jobshoplaw22.RecordUnblocks', WHERE WHAT IT READS IS OF BULK AT MOST 1048576: true; the input reads as it did. -/
def recordUnblocksUptoRow : OpenClaim := { program := "ytmedlgfdabokaaa", sum := "c6eee20aa6a243758eb392474e20ac554b8689fbb3d8eec48b597f191dad3eee", func := "jobshop/jobshoplaw22.RecordUnblocks", spec := "recordUnblocks", unfollowed := true, recurses := true, apart := false, narrowed := true }
def RecordUnblocksUptoSaid : Prop := recordUnblocksUptoRow.holds Try.pinned (OpenSpec.upto recordUnblocksSpec)

/-- 'jobshoplaw22.RecordMany', WHERE WHAT IT READS IS OF BULK AT MOST 1048576: true; the input reads as it did. -/
def recordManyUptoRow : OpenClaim := { program := "ytmedlgfdabokaaa", sum := "c6eee20aa6a243758eb392474e20ac554b8689fbb3d8eec48b597f191dad3eee", func := "jobshop/jobshoplaw22.RecordMany", spec := "recordMany", unfollowed := true, recurses := true, apart := false, narrowed := true }
def RecordManyUptoSaid : Prop := recordManyUptoRow.holds Try.pinned (OpenSpec.upto recordManySpec)

/-- 'jobshoplaw22.RecordReturns', WHERE WHAT IT READS IS OF BULK AT MOST 1048576: true; the input reads as it did. -/
def recordReturnsUptoRow : OpenClaim := { program := "ytmedlgfdabokaaa", sum := "c6eee20aa6a243758eb392474e20ac554b8689fbb3d8eec48b597f191dad3eee", func := "jobshop/jobshoplaw22.RecordReturns", spec := "recordReturns", unfollowed := true, recurses := true, apart := false, narrowed := true }
def RecordReturnsUptoSaid : Prop := recordReturnsUptoRow.holds Try.pinned (OpenSpec.upto recordReturnsSpec)

/-- 'jobshoplaw22.RecordFull', WHERE WHAT IT READS IS OF BULK AT MOST 1048576: true; the input reads as it did. -/
def recordFullUptoRow : OpenClaim := { program := "ytmedlgfdabokaaa", sum := "c6eee20aa6a243758eb392474e20ac554b8689fbb3d8eec48b597f191dad3eee", func := "jobshop/jobshoplaw22.RecordFull", spec := "recordFull", unfollowed := true, recurses := true, apart := false, narrowed := true }
def RecordFullUptoSaid : Prop := recordFullUptoRow.holds Try.pinned (OpenSpec.upto recordFullSpec)

/-- 'jobshoplaw22.RecordJoins', WHERE WHAT IT READS IS OF BULK AT MOST 1048576: true; the input reads as it did. -/
def recordJoinsUptoRow : OpenClaim := { program := "ytmedlgfdabokaaa", sum := "c6eee20aa6a243758eb392474e20ac554b8689fbb3d8eec48b597f191dad3eee", func := "jobshop/jobshoplaw22.RecordJoins", spec := "recordJoins", unfollowed := true, recurses := true, apart := false, narrowed := true }
def RecordJoinsUptoSaid : Prop := recordJoinsUptoRow.holds Try.pinned (OpenSpec.upto recordJoinsSpec)

/-- 'jobshoplaw22.RecordChecks', WHERE WHAT IT READS IS OF BULK AT MOST 1048576: true; the input reads as it did. -/
def recordChecksUptoRow : OpenClaim := { program := "ytmedlgfdabokaaa", sum := "c6eee20aa6a243758eb392474e20ac554b8689fbb3d8eec48b597f191dad3eee", func := "jobshop/jobshoplaw22.RecordChecks", spec := "recordChecks", unfollowed := true, recurses := true, apart := false, narrowed := true }
def RecordChecksUptoSaid : Prop := recordChecksUptoRow.holds Try.pinned (OpenSpec.upto recordChecksSpec)

end Rows
end Go.Proofs.Ytmedlgfdabokaaa
