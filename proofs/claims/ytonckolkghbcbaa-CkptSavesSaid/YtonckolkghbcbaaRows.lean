/-
  No cell of these rows narrows 'for every input' (looked for: loops, veiled, ifaces, maps, wideKeys, modest, calm, conditions, laid).
  DERIVED. THE GIVEN ROWS OF THIS SEAT. 6 by the template 'for every input the law returns true; each argument reads behind the call as it read before'; 0 by the template 'total and deterministic' (their statements: YtonckolkghbcbaaTotals.lean).
  GIVEN WITH THE SEED: the statements are not yours to turn. If you find one false, say at which input.
  Laid BY PROGRAM, IN A SANDBOX (cutbox-rows.mjs): the forced cells as the released guide's own fill.sh prints them over the translation ff7d7e9ffd1dcd12… (all of the seat's roots in one cut). By AI agents, Wed Nov 11 2026. No macro, syntax, notation, axiom, sorry.
-/
import Derived.Test.YtonckolkghbcbaaChecked
import GoSem.Claim
import GoSem.ClaimJoined
import GoSem.ClaimMapViews
import Derived.JoinedTies
import Derived.KernelRfl
namespace Go.Proofs.Ytonckolkghbcbaa
/- THE CELL 'sum', in the pinned program and in every row, IS THE sha256 OF THE DUMP (.gsa) THAT YtonckolkghbcbaaProg.lean LOADS. Nothing in Lean hashes anything: it is a label: what it is worth is what the hold of that sum in a sandbox is worth. -/
noncomputable def Try.pinned : Pinned := { name := "ytonckolkghbcbaa", sum := "ff7d7e9ffd1dcd12cdc16edf14bae747a172382ba68c3b7224f47e2bde2ef7eb", checked := Try.checked }
namespace Rows
def none {H : Type} : Left H := { results := [], args := [] }

/-- 'jobshoplaw38.CkptAreas': WHATEVER THE INPUT: true; the input reads as it did. -/
def ckptAreasSpec : ChangeSpec := { name := "ckptAreas", fn := fun _ => fun
  | [d] => { results := [.lit (.bool true)], args := [d] }
  | _ => none }
def ckptAreasRow : OpenClaim := { program := "ytonckolkghbcbaa", sum := "ff7d7e9ffd1dcd12cdc16edf14bae747a172382ba68c3b7224f47e2bde2ef7eb", func := "jobshop/jobshoplaw38.CkptAreas", spec := "ckptAreas", apart := false }
def CkptAreasSaid : Prop := ckptAreasRow.holds Try.pinned (OpenSpec.ofChange ckptAreasSpec)

/-- ITS FALSE NEIGHBOUR: 'it returns false'. Refute it at one input. -/
def ckptAreasWrong : ChangeSpec := { name := "ckptAreas", fn := fun _ => fun
  | [d] => { results := [.lit (.bool false)], args := [d] }
  | _ => none }
def CkptAreasWrongFalsely : Prop := ckptAreasRow.holds Try.pinned (OpenSpec.ofChange ckptAreasWrong)

/-- 'jobshoplaw38.CkptNewest': WHATEVER THE INPUT: true; the input reads as it did. -/
def ckptNewestSpec : ChangeSpec := { name := "ckptNewest", fn := fun _ => fun
  | [d] => { results := [.lit (.bool true)], args := [d] }
  | _ => none }
def ckptNewestRow : OpenClaim := { program := "ytonckolkghbcbaa", sum := "ff7d7e9ffd1dcd12cdc16edf14bae747a172382ba68c3b7224f47e2bde2ef7eb", func := "jobshop/jobshoplaw38.CkptNewest", spec := "ckptNewest", apart := false }
def CkptNewestSaid : Prop := ckptNewestRow.holds Try.pinned (OpenSpec.ofChange ckptNewestSpec)

/-- ITS FALSE NEIGHBOUR: 'it returns false'. Refute it at one input. -/
def ckptNewestWrong : ChangeSpec := { name := "ckptNewest", fn := fun _ => fun
  | [d] => { results := [.lit (.bool false)], args := [d] }
  | _ => none }
def CkptNewestWrongFalsely : Prop := ckptNewestRow.holds Try.pinned (OpenSpec.ofChange ckptNewestWrong)

/-- 'jobshoplaw38.CkptSaves': WHATEVER THE INPUT: true; the input reads as it did. -/
def ckptSavesSpec : ChangeSpec := { name := "ckptSaves", fn := fun _ => fun
  | [d1, d2] => { results := [.lit (.bool true)], args := [d1, d2] }
  | _ => none }
def ckptSavesRow : OpenClaim := { program := "ytonckolkghbcbaa", sum := "ff7d7e9ffd1dcd12cdc16edf14bae747a172382ba68c3b7224f47e2bde2ef7eb", func := "jobshop/jobshoplaw38.CkptSaves", spec := "ckptSaves", apart := false }
def CkptSavesSaid : Prop := ckptSavesRow.holds Try.pinned (OpenSpec.ofChange ckptSavesSpec)

/-- ITS FALSE NEIGHBOUR: 'it returns false'. Refute it at one input. -/
def ckptSavesWrong : ChangeSpec := { name := "ckptSaves", fn := fun _ => fun
  | [d1, d2] => { results := [.lit (.bool false)], args := [d1, d2] }
  | _ => none }
def CkptSavesWrongFalsely : Prop := ckptSavesRow.holds Try.pinned (OpenSpec.ofChange ckptSavesWrong)

/-- 'jobshoplaw38.CkptKeeps': WHATEVER THE INPUT: true; the input reads as it did. -/
def ckptKeepsSpec : ChangeSpec := { name := "ckptKeeps", fn := fun _ => fun
  | [d1, d2, d3] => { results := [.lit (.bool true)], args := [d1, d2, d3] }
  | _ => none }
def ckptKeepsRow : OpenClaim := { program := "ytonckolkghbcbaa", sum := "ff7d7e9ffd1dcd12cdc16edf14bae747a172382ba68c3b7224f47e2bde2ef7eb", func := "jobshop/jobshoplaw38.CkptKeeps", spec := "ckptKeeps", apart := false }
def CkptKeepsSaid : Prop := ckptKeepsRow.holds Try.pinned (OpenSpec.ofChange ckptKeepsSpec)

/-- ITS FALSE NEIGHBOUR: 'it returns false'. Refute it at one input. -/
def ckptKeepsWrong : ChangeSpec := { name := "ckptKeeps", fn := fun _ => fun
  | [d1, d2, d3] => { results := [.lit (.bool false)], args := [d1, d2, d3] }
  | _ => none }
def CkptKeepsWrongFalsely : Prop := ckptKeepsRow.holds Try.pinned (OpenSpec.ofChange ckptKeepsWrong)

/-- 'jobshoplaw38.CkptGoesOn': WHATEVER THE INPUT: true; the input reads as it did. -/
def ckptGoesOnSpec : ChangeSpec := { name := "ckptGoesOn", fn := fun _ => fun
  | [d1, d2] => { results := [.lit (.bool true)], args := [d1, d2] }
  | _ => none }
def ckptGoesOnRow : OpenClaim := { program := "ytonckolkghbcbaa", sum := "ff7d7e9ffd1dcd12cdc16edf14bae747a172382ba68c3b7224f47e2bde2ef7eb", func := "jobshop/jobshoplaw38.CkptGoesOn", spec := "ckptGoesOn", apart := false }
def CkptGoesOnSaid : Prop := ckptGoesOnRow.holds Try.pinned (OpenSpec.ofChange ckptGoesOnSpec)

/-- ITS FALSE NEIGHBOUR: 'it returns false'. Refute it at one input. -/
def ckptGoesOnWrong : ChangeSpec := { name := "ckptGoesOn", fn := fun _ => fun
  | [d1, d2] => { results := [.lit (.bool false)], args := [d1, d2] }
  | _ => none }
def CkptGoesOnWrongFalsely : Prop := ckptGoesOnRow.holds Try.pinned (OpenSpec.ofChange ckptGoesOnWrong)

/-- 'jobshoplaw38.CkptFits': WHATEVER THE INPUT: true; the input reads as it did. -/
def ckptFitsSpec : ChangeSpec := { name := "ckptFits", fn := fun _ => fun
  | [d1, d2] => { results := [.lit (.bool true)], args := [d1, d2] }
  | _ => none }
def ckptFitsRow : OpenClaim := { program := "ytonckolkghbcbaa", sum := "ff7d7e9ffd1dcd12cdc16edf14bae747a172382ba68c3b7224f47e2bde2ef7eb", func := "jobshop/jobshoplaw38.CkptFits", spec := "ckptFits", apart := false }
def CkptFitsSaid : Prop := ckptFitsRow.holds Try.pinned (OpenSpec.ofChange ckptFitsSpec)

/-- ITS FALSE NEIGHBOUR: 'it returns false'. Refute it at one input. -/
def ckptFitsWrong : ChangeSpec := { name := "ckptFits", fn := fun _ => fun
  | [d1, d2] => { results := [.lit (.bool false)], args := [d1, d2] }
  | _ => none }
def CkptFitsWrongFalsely : Prop := ckptFitsRow.holds Try.pinned (OpenSpec.ofChange ckptFitsWrong)

/- THE SECOND FORM. 'bulk': how many values and letters a reading holds, each counted each time it is reached (what is shared counts as often as it is met; a slice's spare places count too). A statement '..UptoSaid' is the law's where the arguments, and the package variables that the reading takes, are together of bulk at most 1048576: NARROWER than '..Said'. Prove '..Said' where nothing that the law and all that it calls make is longer than what came in: it says more and counts as full. Else prove '..UptoSaid'. A law counts once. -/
mutual
def uptoBulk {H : Type} : DataW H → Nat
  | .lit (.string bytes) => bytes.length + 1
  | .lit _ => 1
  | .nil => 1
  | .ptr d => uptoBulk d + 1
  | .slice elems spare => uptoBulkAll elems + uptoBulkAll spare + 1
  | .agg parts => uptoBulkAll parts + 1
  | .iface _ d => uptoBulk d + 1
  | .map entries => uptoBulkEntries entries + 1
  | .held _ => 1
def uptoBulkAll {H : Type} : List (DataW H) → Nat
  | [] => 0
  | d :: r => uptoBulk d + uptoBulkAll r
def uptoBulkEntries {H : Type} : List (Lit × DataW H) → Nat
  | [] => 0
  | x :: r => uptoBulkEntry x + uptoBulkEntries r
def uptoBulkEntry {H : Type} : Lit × DataW H → Nat
  | (.string bytes, d) => bytes.length + uptoBulk d + 1
  | (_, d) => uptoBulk d + 1
 end
def uptoSmall : (H : Type) → List (DataW H) → Bool := fun _ ds => decide (uptoBulkAll ds ≤ 1048576)
def OpenSpec.upto (s : _root_.Go.ChangeSpec) : _root_.Go.OpenSpec := { _root_.Go.OpenSpec.ofChange s with cond := some uptoSmall }

/-- 'jobshoplaw38.CkptAreas', WHERE WHAT IT READS IS OF BULK AT MOST 1048576: true; the input reads as it did. -/
def ckptAreasUptoRow : OpenClaim := { program := "ytonckolkghbcbaa", sum := "ff7d7e9ffd1dcd12cdc16edf14bae747a172382ba68c3b7224f47e2bde2ef7eb", func := "jobshop/jobshoplaw38.CkptAreas", spec := "ckptAreas", apart := false, narrowed := true }
def CkptAreasUptoSaid : Prop := ckptAreasUptoRow.holds Try.pinned (OpenSpec.upto ckptAreasSpec)

/-- 'jobshoplaw38.CkptNewest', WHERE WHAT IT READS IS OF BULK AT MOST 1048576: true; the input reads as it did. -/
def ckptNewestUptoRow : OpenClaim := { program := "ytonckolkghbcbaa", sum := "ff7d7e9ffd1dcd12cdc16edf14bae747a172382ba68c3b7224f47e2bde2ef7eb", func := "jobshop/jobshoplaw38.CkptNewest", spec := "ckptNewest", apart := false, narrowed := true }
def CkptNewestUptoSaid : Prop := ckptNewestUptoRow.holds Try.pinned (OpenSpec.upto ckptNewestSpec)

/-- 'jobshoplaw38.CkptSaves', WHERE WHAT IT READS IS OF BULK AT MOST 1048576: true; the input reads as it did. -/
def ckptSavesUptoRow : OpenClaim := { program := "ytonckolkghbcbaa", sum := "ff7d7e9ffd1dcd12cdc16edf14bae747a172382ba68c3b7224f47e2bde2ef7eb", func := "jobshop/jobshoplaw38.CkptSaves", spec := "ckptSaves", apart := false, narrowed := true }
def CkptSavesUptoSaid : Prop := ckptSavesUptoRow.holds Try.pinned (OpenSpec.upto ckptSavesSpec)

/-- 'jobshoplaw38.CkptKeeps', WHERE WHAT IT READS IS OF BULK AT MOST 1048576: true; the input reads as it did. -/
def ckptKeepsUptoRow : OpenClaim := { program := "ytonckolkghbcbaa", sum := "ff7d7e9ffd1dcd12cdc16edf14bae747a172382ba68c3b7224f47e2bde2ef7eb", func := "jobshop/jobshoplaw38.CkptKeeps", spec := "ckptKeeps", apart := false, narrowed := true }
def CkptKeepsUptoSaid : Prop := ckptKeepsUptoRow.holds Try.pinned (OpenSpec.upto ckptKeepsSpec)

/-- 'jobshoplaw38.CkptGoesOn', WHERE WHAT IT READS IS OF BULK AT MOST 1048576: true; the input reads as it did. -/
def ckptGoesOnUptoRow : OpenClaim := { program := "ytonckolkghbcbaa", sum := "ff7d7e9ffd1dcd12cdc16edf14bae747a172382ba68c3b7224f47e2bde2ef7eb", func := "jobshop/jobshoplaw38.CkptGoesOn", spec := "ckptGoesOn", apart := false, narrowed := true }
def CkptGoesOnUptoSaid : Prop := ckptGoesOnUptoRow.holds Try.pinned (OpenSpec.upto ckptGoesOnSpec)

/-- 'jobshoplaw38.CkptFits', WHERE WHAT IT READS IS OF BULK AT MOST 1048576: true; the input reads as it did. -/
def ckptFitsUptoRow : OpenClaim := { program := "ytonckolkghbcbaa", sum := "ff7d7e9ffd1dcd12cdc16edf14bae747a172382ba68c3b7224f47e2bde2ef7eb", func := "jobshop/jobshoplaw38.CkptFits", spec := "ckptFits", apart := false, narrowed := true }
def CkptFitsUptoSaid : Prop := ckptFitsUptoRow.holds Try.pinned (OpenSpec.upto ckptFitsSpec)

end Rows
end Go.Proofs.Ytonckolkghbcbaa
