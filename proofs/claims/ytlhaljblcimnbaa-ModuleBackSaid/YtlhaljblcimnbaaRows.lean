/-
  No cell of these rows narrows 'for every input' (looked for: loops, veiled, ifaces, maps, wideKeys, modest, calm, conditions, laid).
  DERIVED. THE GIVEN ROWS OF THIS SEAT. 7 by the template 'for every input the law returns true; each argument reads behind the call as it read before'; 0 by the template 'total and deterministic' (their statements: YtlhaljblcimnbaaTotals.lean).
  GIVEN WITH THE SEED: the statements are not yours to turn. If you find one false, say at which input.
  Laid BY PROGRAM, IN A SANDBOX (cutbox-rows.mjs): the forced cells as the released guide's own fill.sh prints them over the translation b56c703dfa7cae8f… (all of the seat's roots in one cut). By AI agents, Wed Nov 11 2026. No macro, syntax, notation, axiom, sorry.
-/
import Derived.Test.YtlhaljblcimnbaaChecked
import GoSem.Claim
import GoSem.ClaimJoined
import GoSem.ClaimMapViews
import Derived.JoinedTies
import Derived.KernelRfl
namespace Go.Proofs.Ytlhaljblcimnbaa
/- THE CELL 'sum', in the pinned program and in every row, IS THE sha256 OF THE DUMP (.gsa) THAT YtlhaljblcimnbaaProg.lean LOADS. Nothing in Lean hashes anything: it is a label: what it is worth is what the hold of that sum in a sandbox is worth. -/
noncomputable def Try.pinned : Pinned := { name := "ytlhaljblcimnbaa", sum := "b56c703dfa7cae8fe9d4a6f863b1efa41907148f1e1402ed43c5d98f136b92fd", checked := Try.checked }
namespace Rows
def none {H : Type} : Left H := { results := [], args := [] }

/-- 'jobshoplaw31.ModuleObjects': WHATEVER THE INPUT: true; the input reads as it did. -/
def moduleObjectsSpec : ChangeSpec := { name := "moduleObjects", fn := fun _ => fun
  | [d1, d2, d3, d4] => { results := [.lit (.bool true)], args := [d1, d2, d3, d4] }
  | _ => none }
def moduleObjectsRow : OpenClaim := { program := "ytlhaljblcimnbaa", sum := "b56c703dfa7cae8fe9d4a6f863b1efa41907148f1e1402ed43c5d98f136b92fd", func := "jobshop/jobshoplaw31.ModuleObjects", spec := "moduleObjects", inPlace := ["internal/bytealg.MakeNoZero", "internal/bytealg.IndexByteString", "internal/abi.NoEscape"], unfollowed := true, recurses := true, apart := false }
def ModuleObjectsSaid : Prop := moduleObjectsRow.holds Try.pinned (OpenSpec.ofChange moduleObjectsSpec)

/-- ITS FALSE NEIGHBOUR: 'it returns false'. Refute it at one input. -/
def moduleObjectsWrong : ChangeSpec := { name := "moduleObjects", fn := fun _ => fun
  | [d1, d2, d3, d4] => { results := [.lit (.bool false)], args := [d1, d2, d3, d4] }
  | _ => none }
def ModuleObjectsWrongFalsely : Prop := moduleObjectsRow.holds Try.pinned (OpenSpec.ofChange moduleObjectsWrong)

/-- 'jobshoplaw31.ModuleLoads': WHATEVER THE INPUT: true; the input reads as it did. -/
def moduleLoadsSpec : ChangeSpec := { name := "moduleLoads", fn := fun _ => fun
  | [d1, d2, d3, d4] => { results := [.lit (.bool true)], args := [d1, d2, d3, d4] }
  | _ => none }
def moduleLoadsRow : OpenClaim := { program := "ytlhaljblcimnbaa", sum := "b56c703dfa7cae8fe9d4a6f863b1efa41907148f1e1402ed43c5d98f136b92fd", func := "jobshop/jobshoplaw31.ModuleLoads", spec := "moduleLoads", inPlace := ["internal/bytealg.MakeNoZero", "internal/bytealg.IndexByteString", "internal/abi.NoEscape"], unfollowed := true, recurses := true, apart := false }
def ModuleLoadsSaid : Prop := moduleLoadsRow.holds Try.pinned (OpenSpec.ofChange moduleLoadsSpec)

/-- ITS FALSE NEIGHBOUR: 'it returns false'. Refute it at one input. -/
def moduleLoadsWrong : ChangeSpec := { name := "moduleLoads", fn := fun _ => fun
  | [d1, d2, d3, d4] => { results := [.lit (.bool false)], args := [d1, d2, d3, d4] }
  | _ => none }
def ModuleLoadsWrongFalsely : Prop := moduleLoadsRow.holds Try.pinned (OpenSpec.ofChange moduleLoadsWrong)

/-- 'jobshoplaw31.ModuleSeveral': WHATEVER THE INPUT: true; the input reads as it did. -/
def moduleSeveralSpec : ChangeSpec := { name := "moduleSeveral", fn := fun _ => fun
  | [d] => { results := [.lit (.bool true)], args := [d] }
  | _ => none }
def moduleSeveralRow : OpenClaim := { program := "ytlhaljblcimnbaa", sum := "b56c703dfa7cae8fe9d4a6f863b1efa41907148f1e1402ed43c5d98f136b92fd", func := "jobshop/jobshoplaw31.ModuleSeveral", spec := "moduleSeveral", inPlace := ["internal/bytealg.MakeNoZero", "internal/bytealg.IndexByteString", "internal/abi.NoEscape"], unfollowed := true, recurses := true, apart := false }
def ModuleSeveralSaid : Prop := moduleSeveralRow.holds Try.pinned (OpenSpec.ofChange moduleSeveralSpec)

/-- ITS FALSE NEIGHBOUR: 'it returns false'. Refute it at one input. -/
def moduleSeveralWrong : ChangeSpec := { name := "moduleSeveral", fn := fun _ => fun
  | [d] => { results := [.lit (.bool false)], args := [d] }
  | _ => none }
def ModuleSeveralWrongFalsely : Prop := moduleSeveralRow.holds Try.pinned (OpenSpec.ofChange moduleSeveralWrong)

/-- 'jobshoplaw31.ModuleRecords': WHATEVER THE INPUT: true; the input reads as it did. -/
def moduleRecordsSpec : ChangeSpec := { name := "moduleRecords", fn := fun _ => fun
  | [d1, d2, d3, d4, d5] => { results := [.lit (.bool true)], args := [d1, d2, d3, d4, d5] }
  | _ => none }
def moduleRecordsRow : OpenClaim := { program := "ytlhaljblcimnbaa", sum := "b56c703dfa7cae8fe9d4a6f863b1efa41907148f1e1402ed43c5d98f136b92fd", func := "jobshop/jobshoplaw31.ModuleRecords", spec := "moduleRecords", inPlace := ["internal/bytealg.MakeNoZero", "internal/bytealg.IndexByteString", "internal/abi.NoEscape"], unfollowed := true, recurses := true, apart := false }
def ModuleRecordsSaid : Prop := moduleRecordsRow.holds Try.pinned (OpenSpec.ofChange moduleRecordsSpec)

/-- ITS FALSE NEIGHBOUR: 'it returns false'. Refute it at one input. -/
def moduleRecordsWrong : ChangeSpec := { name := "moduleRecords", fn := fun _ => fun
  | [d1, d2, d3, d4, d5] => { results := [.lit (.bool false)], args := [d1, d2, d3, d4, d5] }
  | _ => none }
def ModuleRecordsWrongFalsely : Prop := moduleRecordsRow.holds Try.pinned (OpenSpec.ofChange moduleRecordsWrong)

/-- 'jobshoplaw31.ModuleBack': WHATEVER THE INPUT: true; the input reads as it did. -/
def moduleBackSpec : ChangeSpec := { name := "moduleBack", fn := fun _ => fun
  | [d1, d2, d3, d4, d5] => { results := [.lit (.bool true)], args := [d1, d2, d3, d4, d5] }
  | _ => none }
def moduleBackRow : OpenClaim := { program := "ytlhaljblcimnbaa", sum := "b56c703dfa7cae8fe9d4a6f863b1efa41907148f1e1402ed43c5d98f136b92fd", func := "jobshop/jobshoplaw31.ModuleBack", spec := "moduleBack", inPlace := ["internal/bytealg.MakeNoZero", "internal/bytealg.IndexByteString", "internal/abi.NoEscape"], unfollowed := true, recurses := true, apart := false }
def ModuleBackSaid : Prop := moduleBackRow.holds Try.pinned (OpenSpec.ofChange moduleBackSpec)

/-- ITS FALSE NEIGHBOUR: 'it returns false'. Refute it at one input. -/
def moduleBackWrong : ChangeSpec := { name := "moduleBack", fn := fun _ => fun
  | [d1, d2, d3, d4, d5] => { results := [.lit (.bool false)], args := [d1, d2, d3, d4, d5] }
  | _ => none }
def ModuleBackWrongFalsely : Prop := moduleBackRow.holds Try.pinned (OpenSpec.ofChange moduleBackWrong)

/-- 'jobshoplaw31.ModuleOwn': WHATEVER THE INPUT: true; the input reads as it did. -/
def moduleOwnSpec : ChangeSpec := { name := "moduleOwn", fn := fun _ => fun
  | [d] => { results := [.lit (.bool true)], args := [d] }
  | _ => none }
def moduleOwnRow : OpenClaim := { program := "ytlhaljblcimnbaa", sum := "b56c703dfa7cae8fe9d4a6f863b1efa41907148f1e1402ed43c5d98f136b92fd", func := "jobshop/jobshoplaw31.ModuleOwn", spec := "moduleOwn", inPlace := ["internal/bytealg.MakeNoZero", "internal/bytealg.IndexByteString", "internal/abi.NoEscape"], unfollowed := true, recurses := true, apart := false }
def ModuleOwnSaid : Prop := moduleOwnRow.holds Try.pinned (OpenSpec.ofChange moduleOwnSpec)

/-- ITS FALSE NEIGHBOUR: 'it returns false'. Refute it at one input. -/
def moduleOwnWrong : ChangeSpec := { name := "moduleOwn", fn := fun _ => fun
  | [d] => { results := [.lit (.bool false)], args := [d] }
  | _ => none }
def ModuleOwnWrongFalsely : Prop := moduleOwnRow.holds Try.pinned (OpenSpec.ofChange moduleOwnWrong)

/-- 'jobshoplaw31.ModuleKnown': WHATEVER THE INPUT: true; the input reads as it did. -/
def moduleKnownSpec : ChangeSpec := { name := "moduleKnown", fn := fun _ => fun
  | [] => { results := [.lit (.bool true)], args := [] }
  | _ => none }
def moduleKnownRow : OpenClaim := { program := "ytlhaljblcimnbaa", sum := "b56c703dfa7cae8fe9d4a6f863b1efa41907148f1e1402ed43c5d98f136b92fd", func := "jobshop/jobshoplaw31.ModuleKnown", spec := "moduleKnown", inPlace := ["internal/bytealg.MakeNoZero", "internal/bytealg.IndexByteString", "internal/abi.NoEscape"], unfollowed := true, recurses := true, apart := false }
def ModuleKnownSaid : Prop := moduleKnownRow.holds Try.pinned (OpenSpec.ofChange moduleKnownSpec)

/-- ITS FALSE NEIGHBOUR: 'it returns false'. Refute it at one input. -/
def moduleKnownWrong : ChangeSpec := { name := "moduleKnown", fn := fun _ => fun
  | [] => { results := [.lit (.bool false)], args := [] }
  | _ => none }
def ModuleKnownWrongFalsely : Prop := moduleKnownRow.holds Try.pinned (OpenSpec.ofChange moduleKnownWrong)

/- THE SECOND FORM. 'bulk': how many values and letters a reading holds, each counted each time it is reached (what is shared counts as often as it is met; a slice's spare places count too). A statement '..UptoSaid' is the law's where the arguments, and the package variables that the reading takes, are together of bulk at most 1048576: NARROWER than '..Said'. Prove '..Said' where nothing that the law and all that it calls make is longer than what came in: it says more and counts as full. Else prove '..UptoSaid'. A law counts once. -/
mutual
def uptoBulk {H : Type} : DataW H → Nat
  | .lit (.string bytes) => bytes.length + 1
  | .lit _ => 1
  | .nil => 1
  | .ptr d => uptoBulk d + 1
  | .slice elems spare => uptoBulkAll elems + uptoBulkAll spare + 1
  | .agg parts => uptoBulkAll parts + 1
  | .iface _ d => uptoBulk d + 1
  | .map entries => uptoBulkEntries entries + 1
  | .held _ => 1
def uptoBulkAll {H : Type} : List (DataW H) → Nat
  | [] => 0
  | d :: r => uptoBulk d + uptoBulkAll r
def uptoBulkEntries {H : Type} : List (Lit × DataW H) → Nat
  | [] => 0
  | x :: r => uptoBulkEntry x + uptoBulkEntries r
def uptoBulkEntry {H : Type} : Lit × DataW H → Nat
  | (.string bytes, d) => bytes.length + uptoBulk d + 1
  | (_, d) => uptoBulk d + 1
 end
def uptoSmall : (H : Type) → List (DataW H) → Bool := fun _ ds => decide (uptoBulkAll ds ≤ 1048576)
def OpenSpec.upto (s : _root_.Go.ChangeSpec) : _root_.Go.OpenSpec := { _root_.Go.OpenSpec.ofChange s with cond := some uptoSmall }

/-- 'jobshoplaw31.ModuleObjects', WHERE WHAT IT READS IS OF BULK AT MOST 1048576: true; the input reads as it did. -/
def moduleObjectsUptoRow : OpenClaim := { program := "ytlhaljblcimnbaa", sum := "b56c703dfa7cae8fe9d4a6f863b1efa41907148f1e1402ed43c5d98f136b92fd", func := "jobshop/jobshoplaw31.ModuleObjects", spec := "moduleObjects", inPlace := ["internal/bytealg.MakeNoZero", "internal/bytealg.IndexByteString", "internal/abi.NoEscape"], unfollowed := true, recurses := true, apart := false, narrowed := true }
def ModuleObjectsUptoSaid : Prop := moduleObjectsUptoRow.holds Try.pinned (OpenSpec.upto moduleObjectsSpec)

/-- 'jobshoplaw31.ModuleLoads', WHERE WHAT IT READS IS OF BULK AT MOST 1048576: true; the input reads as it did. -/
def moduleLoadsUptoRow : OpenClaim := { program := "ytlhaljblcimnbaa", sum := "b56c703dfa7cae8fe9d4a6f863b1efa41907148f1e1402ed43c5d98f136b92fd", func := "jobshop/jobshoplaw31.ModuleLoads", spec := "moduleLoads", inPlace := ["internal/bytealg.MakeNoZero", "internal/bytealg.IndexByteString", "internal/abi.NoEscape"], unfollowed := true, recurses := true, apart := false, narrowed := true }
def ModuleLoadsUptoSaid : Prop := moduleLoadsUptoRow.holds Try.pinned (OpenSpec.upto moduleLoadsSpec)

/-- 'jobshoplaw31.ModuleSeveral', WHERE WHAT IT READS IS OF BULK AT MOST 1048576: true; the input reads as it did. -/
def moduleSeveralUptoRow : OpenClaim := { program := "ytlhaljblcimnbaa", sum := "b56c703dfa7cae8fe9d4a6f863b1efa41907148f1e1402ed43c5d98f136b92fd", func := "jobshop/jobshoplaw31.ModuleSeveral", spec := "moduleSeveral", inPlace := ["internal/bytealg.MakeNoZero", "internal/bytealg.IndexByteString", "internal/abi.NoEscape"], unfollowed := true, recurses := true, apart := false, narrowed := true }
def ModuleSeveralUptoSaid : Prop := moduleSeveralUptoRow.holds Try.pinned (OpenSpec.upto moduleSeveralSpec)

/-- 'jobshoplaw31.ModuleRecords', WHERE WHAT IT READS IS OF BULK AT MOST 1048576: true; the input reads as it did. -/
def moduleRecordsUptoRow : OpenClaim := { program := "ytlhaljblcimnbaa", sum := "b56c703dfa7cae8fe9d4a6f863b1efa41907148f1e1402ed43c5d98f136b92fd", func := "jobshop/jobshoplaw31.ModuleRecords", spec := "moduleRecords", inPlace := ["internal/bytealg.MakeNoZero", "internal/bytealg.IndexByteString", "internal/abi.NoEscape"], unfollowed := true, recurses := true, apart := false, narrowed := true }
def ModuleRecordsUptoSaid : Prop := moduleRecordsUptoRow.holds Try.pinned (OpenSpec.upto moduleRecordsSpec)

/-- 'jobshoplaw31.ModuleBack', WHERE WHAT IT READS IS OF BULK AT MOST 1048576: true; the input reads as it did. -/
def moduleBackUptoRow : OpenClaim := { program := "ytlhaljblcimnbaa", sum := "b56c703dfa7cae8fe9d4a6f863b1efa41907148f1e1402ed43c5d98f136b92fd", func := "jobshop/jobshoplaw31.ModuleBack", spec := "moduleBack", inPlace := ["internal/bytealg.MakeNoZero", "internal/bytealg.IndexByteString", "internal/abi.NoEscape"], unfollowed := true, recurses := true, apart := false, narrowed := true }
def ModuleBackUptoSaid : Prop := moduleBackUptoRow.holds Try.pinned (OpenSpec.upto moduleBackSpec)

/-- 'jobshoplaw31.ModuleOwn', WHERE WHAT IT READS IS OF BULK AT MOST 1048576: true; the input reads as it did. -/
def moduleOwnUptoRow : OpenClaim := { program := "ytlhaljblcimnbaa", sum := "b56c703dfa7cae8fe9d4a6f863b1efa41907148f1e1402ed43c5d98f136b92fd", func := "jobshop/jobshoplaw31.ModuleOwn", spec := "moduleOwn", inPlace := ["internal/bytealg.MakeNoZero", "internal/bytealg.IndexByteString", "internal/abi.NoEscape"], unfollowed := true, recurses := true, apart := false, narrowed := true }
def ModuleOwnUptoSaid : Prop := moduleOwnUptoRow.holds Try.pinned (OpenSpec.upto moduleOwnSpec)

/-- 'jobshoplaw31.ModuleKnown', WHERE WHAT IT READS IS OF BULK AT MOST 1048576: true; the input reads as it did. -/
def moduleKnownUptoRow : OpenClaim := { program := "ytlhaljblcimnbaa", sum := "b56c703dfa7cae8fe9d4a6f863b1efa41907148f1e1402ed43c5d98f136b92fd", func := "jobshop/jobshoplaw31.ModuleKnown", spec := "moduleKnown", inPlace := ["internal/bytealg.MakeNoZero", "internal/bytealg.IndexByteString", "internal/abi.NoEscape"], unfollowed := true, recurses := true, apart := false, narrowed := true }
def ModuleKnownUptoSaid : Prop := moduleKnownUptoRow.holds Try.pinned (OpenSpec.upto moduleKnownSpec)

end Rows
end Go.Proofs.Ytlhaljblcimnbaa
