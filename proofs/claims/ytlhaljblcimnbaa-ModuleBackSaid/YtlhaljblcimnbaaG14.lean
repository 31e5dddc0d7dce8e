/- Parts of the walk: C31OG C31OH C31OI. -/
import Derived.Test.YtlhaljblcimnbaaG13
namespace Go.AM
open Go.RowKit Go.Proofs
set_option linter.unusedSimpArgs false
set_option linter.unusedVariables false
set_option maxHeartbeats 4000000
end Go.AM
namespace Go.AM
open Go.RowKit Go.Proofs
set_option linter.unusedSimpArgs false
set_option linter.unusedVariables false
set_option maxHeartbeats 4000000
end Go.AM
namespace Go.AM
open Go.RowKit Go.Proofs
set_option linter.unusedSimpArgs false
set_option linter.unusedVariables false
set_option maxHeartbeats 4000000
structure OSm (o : OMod) : Prop where
 i : OIn o
 e : o.esd.length ≤ 1000000
 t : o.txt.length ≤ 1000000
 r : o.rld.length ≤ 1000000
end Go.AM
