/-
  No cell of these rows narrows 'for every input' (looked for: loops, veiled, ifaces, maps, wideKeys, modest, calm, conditions, laid).
  DERIVED. THE GIVEN ROWS OF THIS SEAT. 5 by the template 'for every input the law returns true; each argument reads behind the call as it read before'; 0 by the template 'total and deterministic' (their statements: YthjcnajpcphcpaaGreatTotals.lean).
  GIVEN WITH THE SEED: the statements are not yours to turn. If you find one false, say at which input.
  Laid BY PROGRAM, IN A SANDBOX (cutbox-rows.mjs): the forced cells as the released guide's own fill.sh prints them over the translation 579f6fc9f8ad6cc1… (all of the seat's roots in one cut). By AI agents, Wed Nov 11 2026. No macro, syntax, notation, axiom, sorry.
-/
import Derived.Test.YthjcnajpcphcpaaGreatChecked
import GoSem.Claim
import GoSem.ClaimJoined
import GoSem.ClaimMapViews
import Derived.JoinedTies
import Derived.KernelRfl
namespace Go.Proofs.YthjcnajpcphcpaaGreat
/- THE CELL 'sum', in the pinned program and in every row, IS THE sha256 OF THE DUMP (.gsa) THAT YthjcnajpcphcpaaGreatProg.lean LOADS. Nothing in Lean hashes anything: it is a label: what it is worth is what the hold of that sum in a sandbox is worth. -/
noncomputable def Tryz.pinned : Pinned := { name := "ythjcnajpcphcpaagreat", sum := "579f6fc9f8ad6cc117cce08d91da98b5308f45e2d634ee9271ee236a19d5ac3e", checked := Tryz.checked }
namespace Rows
def none {H : Type} : Left H := { results := [], args := [] }

/-- 'jobshoplaw24.PdsStowed': WHATEVER THE INPUT: true; the input reads as it did. -/
def pdsStowedSpec : ChangeSpec := { name := "pdsStowed", fn := fun _ => fun
  | [d1, d2] => { results := [.lit (.bool true)], args := [d1, d2] }
  | _ => none }
def pdsStowedRow : OpenClaim := { program := "ythjcnajpcphcpaagreat", sum := "579f6fc9f8ad6cc117cce08d91da98b5308f45e2d634ee9271ee236a19d5ac3e", func := "jobshop/jobshoplaw24.PdsStowed", spec := "pdsStowed", inPlace := ["internal/bytealg.IndexByteString", "internal/abi.NoEscape", "internal/bytealg.Compare", "internal/bytealg.MakeNoZero", "slices.overlaps[jobshop/pds.entry]"], unfollowed := true, recurses := true, apart := false }
def PdsStowedSaid : Prop := pdsStowedRow.holds Tryz.pinned (OpenSpec.ofChange pdsStowedSpec)

/-- ITS FALSE NEIGHBOUR: 'it returns false'. Refute it at one input. -/
def pdsStowedWrong : ChangeSpec := { name := "pdsStowed", fn := fun _ => fun
  | [d1, d2] => { results := [.lit (.bool false)], args := [d1, d2] }
  | _ => none }
def PdsStowedWrongFalsely : Prop := pdsStowedRow.holds Tryz.pinned (OpenSpec.ofChange pdsStowedWrong)

/-- 'jobshoplaw24.PdsTracks': WHATEVER THE INPUT: true; the input reads as it did. -/
def pdsTracksSpec : ChangeSpec := { name := "pdsTracks", fn := fun _ => fun
  | [d1, d2] => { results := [.lit (.bool true)], args := [d1, d2] }
  | _ => none }
def pdsTracksRow : OpenClaim := { program := "ythjcnajpcphcpaagreat", sum := "579f6fc9f8ad6cc117cce08d91da98b5308f45e2d634ee9271ee236a19d5ac3e", func := "jobshop/jobshoplaw24.PdsTracks", spec := "pdsTracks", inPlace := ["internal/bytealg.IndexByteString", "internal/bytealg.Compare", "slices.overlaps[jobshop/pds.entry]", "internal/bytealg.MakeNoZero", "internal/abi.NoEscape"], unfollowed := true, recurses := true, apart := false }
def PdsTracksSaid : Prop := pdsTracksRow.holds Tryz.pinned (OpenSpec.ofChange pdsTracksSpec)

/-- ITS FALSE NEIGHBOUR: 'it returns false'. Refute it at one input. -/
def pdsTracksWrong : ChangeSpec := { name := "pdsTracks", fn := fun _ => fun
  | [d1, d2] => { results := [.lit (.bool false)], args := [d1, d2] }
  | _ => none }
def PdsTracksWrongFalsely : Prop := pdsTracksRow.holds Tryz.pinned (OpenSpec.ofChange pdsTracksWrong)

/-- 'jobshoplaw24.PdsFinds': WHATEVER THE INPUT: true; the input reads as it did. -/
def pdsFindsSpec : ChangeSpec := { name := "pdsFinds", fn := fun _ => fun
  | [d1, d2] => { results := [.lit (.bool true)], args := [d1, d2] }
  | _ => none }
def pdsFindsRow : OpenClaim := { program := "ythjcnajpcphcpaagreat", sum := "579f6fc9f8ad6cc117cce08d91da98b5308f45e2d634ee9271ee236a19d5ac3e", func := "jobshop/jobshoplaw24.PdsFinds", spec := "pdsFinds", inPlace := ["internal/bytealg.IndexByteString", "internal/abi.NoEscape", "internal/bytealg.Compare", "internal/bytealg.MakeNoZero", "slices.overlaps[jobshop/pds.entry]"], unfollowed := true, recurses := true, apart := false }
def PdsFindsSaid : Prop := pdsFindsRow.holds Tryz.pinned (OpenSpec.ofChange pdsFindsSpec)

/-- ITS FALSE NEIGHBOUR: 'it returns false'. Refute it at one input. -/
def pdsFindsWrong : ChangeSpec := { name := "pdsFinds", fn := fun _ => fun
  | [d1, d2] => { results := [.lit (.bool false)], args := [d1, d2] }
  | _ => none }
def PdsFindsWrongFalsely : Prop := pdsFindsRow.holds Tryz.pinned (OpenSpec.ofChange pdsFindsWrong)

/-- 'jobshoplaw24.PdsReads': WHATEVER THE INPUT: true; the input reads as it did. -/
def pdsReadsSpec : ChangeSpec := { name := "pdsReads", fn := fun _ => fun
  | [d1, d2, d3] => { results := [.lit (.bool true)], args := [d1, d2, d3] }
  | _ => none }
def pdsReadsRow : OpenClaim := { program := "ythjcnajpcphcpaagreat", sum := "579f6fc9f8ad6cc117cce08d91da98b5308f45e2d634ee9271ee236a19d5ac3e", func := "jobshop/jobshoplaw24.PdsReads", spec := "pdsReads", inPlace := ["internal/bytealg.IndexByteString", "internal/abi.NoEscape", "internal/bytealg.Compare", "internal/bytealg.MakeNoZero", "slices.overlaps[jobshop/pds.entry]"], unfollowed := true, recurses := true, apart := false }
def PdsReadsSaid : Prop := pdsReadsRow.holds Tryz.pinned (OpenSpec.ofChange pdsReadsSpec)

/-- ITS FALSE NEIGHBOUR: 'it returns false'. Refute it at one input. -/
def pdsReadsWrong : ChangeSpec := { name := "pdsReads", fn := fun _ => fun
  | [d1, d2, d3] => { results := [.lit (.bool false)], args := [d1, d2, d3] }
  | _ => none }
def PdsReadsWrongFalsely : Prop := pdsReadsRow.holds Tryz.pinned (OpenSpec.ofChange pdsReadsWrong)

/-- 'jobshoplaw24.PdsStows': WHATEVER THE INPUT: true; the input reads as it did. -/
def pdsStowsSpec : ChangeSpec := { name := "pdsStows", fn := fun _ => fun
  | [d] => { results := [.lit (.bool true)], args := [d] }
  | _ => none }
def pdsStowsRow : OpenClaim := { program := "ythjcnajpcphcpaagreat", sum := "579f6fc9f8ad6cc117cce08d91da98b5308f45e2d634ee9271ee236a19d5ac3e", func := "jobshop/jobshoplaw24.PdsStows", spec := "pdsStows", inPlace := ["internal/bytealg.IndexByteString", "internal/abi.NoEscape", "internal/bytealg.Compare", "internal/bytealg.MakeNoZero", "slices.overlaps[jobshop/pds.entry]"], unfollowed := true, recurses := true, apart := false }
def PdsStowsSaid : Prop := pdsStowsRow.holds Tryz.pinned (OpenSpec.ofChange pdsStowsSpec)

/-- ITS FALSE NEIGHBOUR: 'it returns false'. Refute it at one input. -/
def pdsStowsWrong : ChangeSpec := { name := "pdsStows", fn := fun _ => fun
  | [d] => { results := [.lit (.bool false)], args := [d] }
  | _ => none }
def PdsStowsWrongFalsely : Prop := pdsStowsRow.holds Tryz.pinned (OpenSpec.ofChange pdsStowsWrong)

/- THE SECOND FORM. 'bulk': how many values and letters a reading holds, each counted each time it is reached (what is shared counts as often as it is met; a slice's spare places count too). A statement '..UptoSaid' is the law's where the arguments, and the package variables that the reading takes, are together of bulk at most 1048576: NARROWER than '..Said'. Prove '..Said' where nothing that the law and all that it calls make is longer than what came in: it says more and counts as full. Else prove '..UptoSaid'. A law counts once. -/
mutual
def uptoBulk {H : Type} : DataW H → Nat
  | .lit (.string bytes) => bytes.length + 1
  | .lit _ => 1
  | .nil => 1
  | .ptr d => uptoBulk d + 1
  | .slice elems spare => uptoBulkAll elems + uptoBulkAll spare + 1
  | .agg parts => uptoBulkAll parts + 1
  | .iface _ d => uptoBulk d + 1
  | .map entries => uptoBulkEntries entries + 1
  | .held _ => 1
def uptoBulkAll {H : Type} : List (DataW H) → Nat
  | [] => 0
  | d :: r => uptoBulk d + uptoBulkAll r
def uptoBulkEntries {H : Type} : List (Lit × DataW H) → Nat
  | [] => 0
  | x :: r => uptoBulkEntry x + uptoBulkEntries r
def uptoBulkEntry {H : Type} : Lit × DataW H → Nat
  | (.string bytes, d) => bytes.length + uptoBulk d + 1
  | (_, d) => uptoBulk d + 1
 end
def uptoSmall : (H : Type) → List (DataW H) → Bool := fun _ ds => decide (uptoBulkAll ds ≤ 1048576)
def OpenSpec.upto (s : _root_.Go.ChangeSpec) : _root_.Go.OpenSpec := { _root_.Go.OpenSpec.ofChange s with cond := some uptoSmall }

/-- 'jobshoplaw24.PdsStowed', WHERE WHAT IT READS IS OF BULK AT MOST 1048576: true; the input reads as it did. -/
def pdsStowedUptoRow : OpenClaim := { program := "ythjcnajpcphcpaagreat", sum := "579f6fc9f8ad6cc117cce08d91da98b5308f45e2d634ee9271ee236a19d5ac3e", func := "jobshop/jobshoplaw24.PdsStowed", spec := "pdsStowed", inPlace := ["internal/bytealg.IndexByteString", "internal/abi.NoEscape", "internal/bytealg.Compare", "internal/bytealg.MakeNoZero", "slices.overlaps[jobshop/pds.entry]"], unfollowed := true, recurses := true, apart := false, narrowed := true }
def PdsStowedUptoSaid : Prop := pdsStowedUptoRow.holds Tryz.pinned (OpenSpec.upto pdsStowedSpec)

/-- 'jobshoplaw24.PdsTracks', WHERE WHAT IT READS IS OF BULK AT MOST 1048576: true; the input reads as it did. -/
def pdsTracksUptoRow : OpenClaim := { program := "ythjcnajpcphcpaagreat", sum := "579f6fc9f8ad6cc117cce08d91da98b5308f45e2d634ee9271ee236a19d5ac3e", func := "jobshop/jobshoplaw24.PdsTracks", spec := "pdsTracks", inPlace := ["internal/bytealg.IndexByteString", "internal/bytealg.Compare", "slices.overlaps[jobshop/pds.entry]", "internal/bytealg.MakeNoZero", "internal/abi.NoEscape"], unfollowed := true, recurses := true, apart := false, narrowed := true }
def PdsTracksUptoSaid : Prop := pdsTracksUptoRow.holds Tryz.pinned (OpenSpec.upto pdsTracksSpec)

/-- 'jobshoplaw24.PdsFinds', WHERE WHAT IT READS IS OF BULK AT MOST 1048576: true; the input reads as it did. -/
def pdsFindsUptoRow : OpenClaim := { program := "ythjcnajpcphcpaagreat", sum := "579f6fc9f8ad6cc117cce08d91da98b5308f45e2d634ee9271ee236a19d5ac3e", func := "jobshop/jobshoplaw24.PdsFinds", spec := "pdsFinds", inPlace := ["internal/bytealg.IndexByteString", "internal/abi.NoEscape", "internal/bytealg.Compare", "internal/bytealg.MakeNoZero", "slices.overlaps[jobshop/pds.entry]"], unfollowed := true, recurses := true, apart := false, narrowed := true }
def PdsFindsUptoSaid : Prop := pdsFindsUptoRow.holds Tryz.pinned (OpenSpec.upto pdsFindsSpec)

/-- 'jobshoplaw24.PdsReads', WHERE WHAT IT READS IS OF BULK AT MOST 1048576: true; the input reads as it did. -/
def pdsReadsUptoRow : OpenClaim := { program := "ythjcnajpcphcpaagreat", sum := "579f6fc9f8ad6cc117cce08d91da98b5308f45e2d634ee9271ee236a19d5ac3e", func := "jobshop/jobshoplaw24.PdsReads", spec := "pdsReads", inPlace := ["internal/bytealg.IndexByteString", "internal/abi.NoEscape", "internal/bytealg.Compare", "internal/bytealg.MakeNoZero", "slices.overlaps[jobshop/pds.entry]"], unfollowed := true, recurses := true, apart := false, narrowed := true }
def PdsReadsUptoSaid : Prop := pdsReadsUptoRow.holds Tryz.pinned (OpenSpec.upto pdsReadsSpec)

/-- 'jobshoplaw24.PdsStows', WHERE WHAT IT READS IS OF BULK AT MOST 1048576: true; the input reads as it did. -/
def pdsStowsUptoRow : OpenClaim := { program := "ythjcnajpcphcpaagreat", sum := "579f6fc9f8ad6cc117cce08d91da98b5308f45e2d634ee9271ee236a19d5ac3e", func := "jobshop/jobshoplaw24.PdsStows", spec := "pdsStows", inPlace := ["internal/bytealg.IndexByteString", "internal/abi.NoEscape", "internal/bytealg.Compare", "internal/bytealg.MakeNoZero", "slices.overlaps[jobshop/pds.entry]"], unfollowed := true, recurses := true, apart := false, narrowed := true }
def PdsStowsUptoSaid : Prop := pdsStowsUptoRow.holds Tryz.pinned (OpenSpec.upto pdsStowsSpec)

end Rows
end Go.Proofs.YthjcnajpcphcpaaGreat
