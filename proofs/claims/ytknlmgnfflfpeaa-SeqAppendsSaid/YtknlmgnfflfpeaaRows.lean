/-
  No cell of these rows narrows 'for every input' (looked for: loops, veiled, ifaces, maps, wideKeys, modest, calm, conditions, laid).
  DERIVED. THE GIVEN ROWS OF THIS SEAT. 8 by the template 'for every input the law returns true; each argument reads behind the call as it read before'; 0 by the template 'total and deterministic' (their statements: YtknlmgnfflfpeaaTotals.lean).
  GIVEN WITH THE SEED: the statements are not yours to turn. If you find one false, say at which input.
  Laid BY PROGRAM, IN A SANDBOX (cutbox-rows.mjs): the forced cells as the released guide's own fill.sh prints them over the translation 0008d4e689b1abb2… (all of the seat's roots in one cut). By AI agents, Wed Nov 11 2026. No macro, syntax, notation, axiom, sorry.
-/
import Derived.Test.YtknlmgnfflfpeaaChecked
import GoSem.Claim
import GoSem.ClaimJoined
import GoSem.ClaimMapViews
import Derived.JoinedTies
import Derived.KernelRfl
namespace Go.Proofs.Ytknlmgnfflfpeaa
/- THE CELL 'sum', in the pinned program and in every row, IS THE sha256 OF THE DUMP (.gsa) THAT YtknlmgnfflfpeaaProg.lean LOADS. Nothing in Lean hashes anything: it is a label: what it is worth is what the hold of that sum in a sandbox is worth. -/
noncomputable def Try.pinned : Pinned := { name := "ytknlmgnfflfpeaa", sum := "0008d4e689b1abb22c8834b1c851f5a683dc75ecef0325fb0a897ff533637f0f", checked := Try.checked }
namespace Rows
def none {H : Type} : Left H := { results := [], args := [] }

/-- 'jobshoplaw23.SeqLays': WHATEVER THE INPUT: true; the input reads as it did. -/
def seqLaysSpec : ChangeSpec := { name := "seqLays", fn := fun _ => fun
  | [d1, d2] => { results := [.lit (.bool true)], args := [d1, d2] }
  | _ => none }
def seqLaysRow : OpenClaim := { program := "ytknlmgnfflfpeaa", sum := "0008d4e689b1abb22c8834b1c851f5a683dc75ecef0325fb0a897ff533637f0f", func := "jobshop/jobshoplaw23.SeqLays", spec := "seqLays", unfollowed := true, recurses := true, apart := false }
def SeqLaysSaid : Prop := seqLaysRow.holds Try.pinned (OpenSpec.ofChange seqLaysSpec)

/-- ITS FALSE NEIGHBOUR: 'it returns false'. Refute it at one input. -/
def seqLaysWrong : ChangeSpec := { name := "seqLays", fn := fun _ => fun
  | [d1, d2] => { results := [.lit (.bool false)], args := [d1, d2] }
  | _ => none }
def SeqLaysWrongFalsely : Prop := seqLaysRow.holds Try.pinned (OpenSpec.ofChange seqLaysWrong)

/-- 'jobshoplaw23.SeqReads': WHATEVER THE INPUT: true; the input reads as it did. -/
def seqReadsSpec : ChangeSpec := { name := "seqReads", fn := fun _ => fun
  | [d1, d2, d3, d4, d5] => { results := [.lit (.bool true)], args := [d1, d2, d3, d4, d5] }
  | _ => none }
def seqReadsRow : OpenClaim := { program := "ytknlmgnfflfpeaa", sum := "0008d4e689b1abb22c8834b1c851f5a683dc75ecef0325fb0a897ff533637f0f", func := "jobshop/jobshoplaw23.SeqReads", spec := "seqReads", unfollowed := true, recurses := true, apart := false }
def SeqReadsSaid : Prop := seqReadsRow.holds Try.pinned (OpenSpec.ofChange seqReadsSpec)

/-- ITS FALSE NEIGHBOUR: 'it returns false'. Refute it at one input. -/
def seqReadsWrong : ChangeSpec := { name := "seqReads", fn := fun _ => fun
  | [d1, d2, d3, d4, d5] => { results := [.lit (.bool false)], args := [d1, d2, d3, d4, d5] }
  | _ => none }
def SeqReadsWrongFalsely : Prop := seqReadsRow.holds Try.pinned (OpenSpec.ofChange seqReadsWrong)

/-- 'jobshoplaw23.SeqAppends': WHATEVER THE INPUT: true; the input reads as it did. -/
def seqAppendsSpec : ChangeSpec := { name := "seqAppends", fn := fun _ => fun
  | [d1, d2, d3, d4, d5, d6] => { results := [.lit (.bool true)], args := [d1, d2, d3, d4, d5, d6] }
  | _ => none }
def seqAppendsRow : OpenClaim := { program := "ytknlmgnfflfpeaa", sum := "0008d4e689b1abb22c8834b1c851f5a683dc75ecef0325fb0a897ff533637f0f", func := "jobshop/jobshoplaw23.SeqAppends", spec := "seqAppends", unfollowed := true, recurses := true, apart := false }
def SeqAppendsSaid : Prop := seqAppendsRow.holds Try.pinned (OpenSpec.ofChange seqAppendsSpec)

/-- ITS FALSE NEIGHBOUR: 'it returns false'. Refute it at one input. -/
def seqAppendsWrong : ChangeSpec := { name := "seqAppends", fn := fun _ => fun
  | [d1, d2, d3, d4, d5, d6] => { results := [.lit (.bool false)], args := [d1, d2, d3, d4, d5, d6] }
  | _ => none }
def SeqAppendsWrongFalsely : Prop := seqAppendsRow.holds Try.pinned (OpenSpec.ofChange seqAppendsWrong)

/-- 'jobshoplaw23.SeqBack': WHATEVER THE INPUT: true; the input reads as it did. -/
def seqBackSpec : ChangeSpec := { name := "seqBack", fn := fun _ => fun
  | [d1, d2] => { results := [.lit (.bool true)], args := [d1, d2] }
  | _ => none }
def seqBackRow : OpenClaim := { program := "ytknlmgnfflfpeaa", sum := "0008d4e689b1abb22c8834b1c851f5a683dc75ecef0325fb0a897ff533637f0f", func := "jobshop/jobshoplaw23.SeqBack", spec := "seqBack", unfollowed := true, recurses := true, apart := false }
def SeqBackSaid : Prop := seqBackRow.holds Try.pinned (OpenSpec.ofChange seqBackSpec)

/-- ITS FALSE NEIGHBOUR: 'it returns false'. Refute it at one input. -/
def seqBackWrong : ChangeSpec := { name := "seqBack", fn := fun _ => fun
  | [d1, d2] => { results := [.lit (.bool false)], args := [d1, d2] }
  | _ => none }
def SeqBackWrongFalsely : Prop := seqBackRow.holds Try.pinned (OpenSpec.ofChange seqBackWrong)

/-- 'jobshoplaw23.SeqJoins': WHATEVER THE INPUT: true; the input reads as it did. -/
def seqJoinsSpec : ChangeSpec := { name := "seqJoins", fn := fun _ => fun
  | [d1, d2, d3] => { results := [.lit (.bool true)], args := [d1, d2, d3] }
  | _ => none }
def seqJoinsRow : OpenClaim := { program := "ytknlmgnfflfpeaa", sum := "0008d4e689b1abb22c8834b1c851f5a683dc75ecef0325fb0a897ff533637f0f", func := "jobshop/jobshoplaw23.SeqJoins", spec := "seqJoins", unfollowed := true, recurses := true, apart := false }
def SeqJoinsSaid : Prop := seqJoinsRow.holds Try.pinned (OpenSpec.ofChange seqJoinsSpec)

/-- ITS FALSE NEIGHBOUR: 'it returns false'. Refute it at one input. -/
def seqJoinsWrong : ChangeSpec := { name := "seqJoins", fn := fun _ => fun
  | [d1, d2, d3] => { results := [.lit (.bool false)], args := [d1, d2, d3] }
  | _ => none }
def SeqJoinsWrongFalsely : Prop := seqJoinsRow.holds Try.pinned (OpenSpec.ofChange seqJoinsWrong)

/-- 'jobshoplaw23.SeqAfter': WHATEVER THE INPUT: true; the input reads as it did. -/
def seqAfterSpec : ChangeSpec := { name := "seqAfter", fn := fun _ => fun
  | [d1, d2, d3, d4] => { results := [.lit (.bool true)], args := [d1, d2, d3, d4] }
  | _ => none }
def seqAfterRow : OpenClaim := { program := "ytknlmgnfflfpeaa", sum := "0008d4e689b1abb22c8834b1c851f5a683dc75ecef0325fb0a897ff533637f0f", func := "jobshop/jobshoplaw23.SeqAfter", spec := "seqAfter", unfollowed := true, recurses := true, apart := false }
def SeqAfterSaid : Prop := seqAfterRow.holds Try.pinned (OpenSpec.ofChange seqAfterSpec)

/-- ITS FALSE NEIGHBOUR: 'it returns false'. Refute it at one input. -/
def seqAfterWrong : ChangeSpec := { name := "seqAfter", fn := fun _ => fun
  | [d1, d2, d3, d4] => { results := [.lit (.bool false)], args := [d1, d2, d3, d4] }
  | _ => none }
def SeqAfterWrongFalsely : Prop := seqAfterRow.holds Try.pinned (OpenSpec.ofChange seqAfterWrong)

/-- 'jobshoplaw23.SeqOwn': WHATEVER THE INPUT: true; the input reads as it did. -/
def seqOwnSpec : ChangeSpec := { name := "seqOwn", fn := fun _ => fun
  | [d1, d2] => { results := [.lit (.bool true)], args := [d1, d2] }
  | _ => none }
def seqOwnRow : OpenClaim := { program := "ytknlmgnfflfpeaa", sum := "0008d4e689b1abb22c8834b1c851f5a683dc75ecef0325fb0a897ff533637f0f", func := "jobshop/jobshoplaw23.SeqOwn", spec := "seqOwn", unfollowed := true, recurses := true, apart := false }
def SeqOwnSaid : Prop := seqOwnRow.holds Try.pinned (OpenSpec.ofChange seqOwnSpec)

/-- ITS FALSE NEIGHBOUR: 'it returns false'. Refute it at one input. -/
def seqOwnWrong : ChangeSpec := { name := "seqOwn", fn := fun _ => fun
  | [d1, d2] => { results := [.lit (.bool false)], args := [d1, d2] }
  | _ => none }
def SeqOwnWrongFalsely : Prop := seqOwnRow.holds Try.pinned (OpenSpec.ofChange seqOwnWrong)

/-- 'jobshoplaw23.SeqKnown': WHATEVER THE INPUT: true; the input reads as it did. -/
def seqKnownSpec : ChangeSpec := { name := "seqKnown", fn := fun _ => fun
  | [] => { results := [.lit (.bool true)], args := [] }
  | _ => none }
def seqKnownRow : OpenClaim := { program := "ytknlmgnfflfpeaa", sum := "0008d4e689b1abb22c8834b1c851f5a683dc75ecef0325fb0a897ff533637f0f", func := "jobshop/jobshoplaw23.SeqKnown", spec := "seqKnown", unfollowed := true, recurses := true, apart := false }
def SeqKnownSaid : Prop := seqKnownRow.holds Try.pinned (OpenSpec.ofChange seqKnownSpec)

/-- ITS FALSE NEIGHBOUR: 'it returns false'. Refute it at one input. -/
def seqKnownWrong : ChangeSpec := { name := "seqKnown", fn := fun _ => fun
  | [] => { results := [.lit (.bool false)], args := [] }
  | _ => none }
def SeqKnownWrongFalsely : Prop := seqKnownRow.holds Try.pinned (OpenSpec.ofChange seqKnownWrong)

/- THE SECOND FORM. 'bulk': how many values and letters a reading holds, each counted each time it is reached (what is shared counts as often as it is met; a slice's spare places count too). A statement '..UptoSaid' is the law's where the arguments, and the package variables that the reading takes, are together of bulk at most 1048576: NARROWER than '..Said'. Prove '..Said' where nothing that the law and all that it calls make is longer than what came in: it says more and counts as full. Else prove '..UptoSaid'. A law counts once. -/
mutual
def uptoBulk {H : Type} : DataW H → Nat
  | .lit (.string bytes) => bytes.length + 1
  | .lit _ => 1
  | .nil => 1
  | .ptr d => uptoBulk d + 1
  | .slice elems spare => uptoBulkAll elems + uptoBulkAll spare + 1
  | .agg parts => uptoBulkAll parts + 1
  | .iface _ d => uptoBulk d + 1
  | .map entries => uptoBulkEntries entries + 1
  | .held _ => 1
def uptoBulkAll {H : Type} : List (DataW H) → Nat
  | [] => 0
  | d :: r => uptoBulk d + uptoBulkAll r
def uptoBulkEntries {H : Type} : List (Lit × DataW H) → Nat
  | [] => 0
  | x :: r => uptoBulkEntry x + uptoBulkEntries r
def uptoBulkEntry {H : Type} : Lit × DataW H → Nat
  | (.string bytes, d) => bytes.length + uptoBulk d + 1
  | (_, d) => uptoBulk d + 1
 end
def uptoSmall : (H : Type) → List (DataW H) → Bool := fun _ ds => decide (uptoBulkAll ds ≤ 1048576)
def OpenSpec.upto (s : _root_.Go.ChangeSpec) : _root_.Go.OpenSpec := { _root_.Go.OpenSpec.ofChange s with cond := some uptoSmall }

/-- 'jobshoplaw23.SeqLays', WHERE WHAT IT READS IS OF BULK AT MOST 1048576: true; the input reads as it did. -/
def seqLaysUptoRow : OpenClaim := { program := "ytknlmgnfflfpeaa", sum := "0008d4e689b1abb22c8834b1c851f5a683dc75ecef0325fb0a897ff533637f0f", func := "jobshop/jobshoplaw23.SeqLays", spec := "seqLays", unfollowed := true, recurses := true, apart := false, narrowed := true }
def SeqLaysUptoSaid : Prop := seqLaysUptoRow.holds Try.pinned (OpenSpec.upto seqLaysSpec)

/-- 'jobshoplaw23.SeqReads', WHERE WHAT IT READS IS OF BULK AT MOST 1048576: true; the input reads as it did. -/
def seqReadsUptoRow : OpenClaim := { program := "ytknlmgnfflfpeaa", sum := "0008d4e689b1abb22c8834b1c851f5a683dc75ecef0325fb0a897ff533637f0f", func := "jobshop/jobshoplaw23.SeqReads", spec := "seqReads", unfollowed := true, recurses := true, apart := false, narrowed := true }
def SeqReadsUptoSaid : Prop := seqReadsUptoRow.holds Try.pinned (OpenSpec.upto seqReadsSpec)

/-- 'jobshoplaw23.SeqAppends', WHERE WHAT IT READS IS OF BULK AT MOST 1048576: true; the input reads as it did. -/
def seqAppendsUptoRow : OpenClaim := { program := "ytknlmgnfflfpeaa", sum := "0008d4e689b1abb22c8834b1c851f5a683dc75ecef0325fb0a897ff533637f0f", func := "jobshop/jobshoplaw23.SeqAppends", spec := "seqAppends", unfollowed := true, recurses := true, apart := false, narrowed := true }
def SeqAppendsUptoSaid : Prop := seqAppendsUptoRow.holds Try.pinned (OpenSpec.upto seqAppendsSpec)

/-- 'jobshoplaw23.SeqBack', WHERE WHAT IT READS IS OF BULK AT MOST 1048576: true; the input reads as it did. -/
def seqBackUptoRow : OpenClaim := { program := "ytknlmgnfflfpeaa", sum := "0008d4e689b1abb22c8834b1c851f5a683dc75ecef0325fb0a897ff533637f0f", func := "jobshop/jobshoplaw23.SeqBack", spec := "seqBack", unfollowed := true, recurses := true, apart := false, narrowed := true }
def SeqBackUptoSaid : Prop := seqBackUptoRow.holds Try.pinned (OpenSpec.upto seqBackSpec)

/-- 'jobshoplaw23.SeqJoins', WHERE WHAT IT READS IS OF BULK AT MOST 1048576: true; the input reads as it did. -/
def seqJoinsUptoRow : OpenClaim := { program := "ytknlmgnfflfpeaa", sum := "0008d4e689b1abb22c8834b1c851f5a683dc75ecef0325fb0a897ff533637f0f", func := "jobshop/jobshoplaw23.SeqJoins", spec := "seqJoins", unfollowed := true, recurses := true, apart := false, narrowed := true }
def SeqJoinsUptoSaid : Prop := seqJoinsUptoRow.holds Try.pinned (OpenSpec.upto seqJoinsSpec)

/-- 'jobshoplaw23.SeqAfter', WHERE WHAT IT READS IS OF BULK AT MOST 1048576: true; the input reads as it did. -/
def seqAfterUptoRow : OpenClaim := { program := "ytknlmgnfflfpeaa", sum := "0008d4e689b1abb22c8834b1c851f5a683dc75ecef0325fb0a897ff533637f0f", func := "jobshop/jobshoplaw23.SeqAfter", spec := "seqAfter", unfollowed := true, recurses := true, apart := false, narrowed := true }
def SeqAfterUptoSaid : Prop := seqAfterUptoRow.holds Try.pinned (OpenSpec.upto seqAfterSpec)

/-- 'jobshoplaw23.SeqOwn', WHERE WHAT IT READS IS OF BULK AT MOST 1048576: true; the input reads as it did. -/
def seqOwnUptoRow : OpenClaim := { program := "ytknlmgnfflfpeaa", sum := "0008d4e689b1abb22c8834b1c851f5a683dc75ecef0325fb0a897ff533637f0f", func := "jobshop/jobshoplaw23.SeqOwn", spec := "seqOwn", unfollowed := true, recurses := true, apart := false, narrowed := true }
def SeqOwnUptoSaid : Prop := seqOwnUptoRow.holds Try.pinned (OpenSpec.upto seqOwnSpec)

/-- 'jobshoplaw23.SeqKnown', WHERE WHAT IT READS IS OF BULK AT MOST 1048576: true; the input reads as it did. -/
def seqKnownUptoRow : OpenClaim := { program := "ytknlmgnfflfpeaa", sum := "0008d4e689b1abb22c8834b1c851f5a683dc75ecef0325fb0a897ff533637f0f", func := "jobshop/jobshoplaw23.SeqKnown", spec := "seqKnown", unfollowed := true, recurses := true, apart := false, narrowed := true }
def SeqKnownUptoSaid : Prop := seqKnownUptoRow.holds Try.pinned (OpenSpec.upto seqKnownSpec)

end Rows
end Go.Proofs.Ytknlmgnfflfpeaa
