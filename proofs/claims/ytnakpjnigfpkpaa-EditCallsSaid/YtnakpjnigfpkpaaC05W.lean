/- The chapter's small example, by computation. -/
import Derived.Test.YtnakpjnigfpkpaaC05F
import Derived.Test.YtnakpjnigfpkpaaAmC
namespace Go.AM
open Go.RowKit Go.Proofs
theorem works_sound : Sound Try.prog 10 [] (.v (.bool true)) := sound_exec mx 200 (by kernel_rfl)
end Go.AM
