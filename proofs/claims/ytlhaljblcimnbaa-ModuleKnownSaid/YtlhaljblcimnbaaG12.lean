/- Parts of the walk: C31OH C31LC C31OI. -/
import Derived.Test.YtlhaljblcimnbaaG11
namespace Go.AM
open Go.RowKit Go.Proofs
set_option linter.unusedSimpArgs false
set_option linter.unusedVariables false
set_option maxHeartbeats 4000000
end Go.AM
namespace Go.AM
open Go.RowKit Go.Proofs
set_option linter.unusedSimpArgs false
set_option linter.unusedVariables false
set_option maxHeartbeats 4000000
structure LSm (m : LMod) : Prop where
 s : m.seg.length ≤ 100000
 t : m.text.length ≤ 10000000
 r : m.rel.length ≤ 10000000
end Go.AM
namespace Go.AM
open Go.RowKit Go.Proofs
set_option linter.unusedSimpArgs false
set_option linter.unusedVariables false
set_option maxHeartbeats 4000000
structure OSm (o : OMod) : Prop where
 i : OIn o
 e : o.esd.length ≤ 1000000
 t : o.txt.length ≤ 1000000
 r : o.rld.length ≤ 1000000
end Go.AM
