/- Parts of the walk: C31LB C31RB C31DD. -/
import Derived.Test.YtlhaljblcimnbaaG8
namespace Go.AM
open Go.RowKit Go.Proofs
set_option linter.unusedSimpArgs false
set_option linter.unusedVariables false
set_option maxHeartbeats 8000000
def u16L (l : List Nat) : List AV := l.map fun n => .v (.int .u16 (n : Nat))
structure SeedM where
 esds : List UInt8
 txts : List Nat
 rlds : List Nat
 entry : UInt8
 data : List UInt8
@[simp] def seedA (x : SeedM) : AV := .agg [.lst .any 1 (byL x.esds), .lst .any 1 (u16L x.txts), .lst .any 1 (u16L x.rlds), .v (.int .u8 x.entry.toNat), .lst .any 1 (byL x.data)]
def segC (s : Seg) : List AV := [.v (.int .i64 s.par), .v (.int .i64 s.org), .v (.int .i64 s.frm), .v (.int .i64 s.len)]
end Go.AM
namespace Go.AM
open Go.RowKit Go.Proofs
set_option linter.unusedSimpArgs false
set_option linter.unusedVariables false
set_option maxHeartbeats 4000000
structure LB (m : LMod) (n : Nat) : Prop where
 s : m.seg.length * 14 ≤ n
 t : m.text.length ≤ n
 r : m.rel.length ≤ n
end Go.AM
namespace Go.AM
open Go.RowKit Go.Proofs
set_option linter.unusedSimpArgs false
set_option linter.unusedVariables false
set_option maxHeartbeats 8000000
structure OBd (s : OMod × Int) (n : Nat) : Prop where
 e : s.1.esd.length ≤ 3 * n
 t : s.1.txt.length ≤ n
 r : s.1.rld.length ≤ 7 * n
 n0 : 0 ≤ s.2
 n1 : s.2 ≤ 1 + 3 * n
 ok : OIn s.1
end Go.AM
