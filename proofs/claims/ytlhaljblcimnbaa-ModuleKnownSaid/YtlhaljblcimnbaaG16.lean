/- Parts of the walk: C31RD C31RE C31RF C31RG. -/
import Derived.Test.YtlhaljblcimnbaaG15
namespace Go.AM
open Go.RowKit Go.Proofs
set_option linter.unusedSimpArgs false
set_option linter.unusedVariables false
set_option maxHeartbeats 8000000
end Go.AM
namespace Go.AM
open Go.RowKit Go.Proofs
set_option linter.unusedSimpArgs false
set_option linter.unusedVariables false
set_option maxHeartbeats 8000000
end Go.AM
namespace Go.AM
open Go.RowKit Go.Proofs
set_option linter.unusedSimpArgs false
set_option linter.unusedVariables false
set_option maxHeartbeats 4000000
theorem tlL_app31 (xs ys : List AV) : AV.tlL (xs ++ ys) = (AV.tlL xs && AV.tlL ys) := by
 rw [Bool.eq_iff_iff, Bool.and_eq_true, vt8, vt8, vt8]
 simp only [List.mem_append]
 exact ⟨fun h => ⟨fun x hx => h x (.inl hx), fun x hx => h x (.inr hx)⟩, fun h x hx => hx.elim (h.1 x) (h.2 x)⟩
theorem tlL_sub {xs ys : List AV} (h : AV.tlL xs = true) (hs : ∀ y ∈ ys, y ∈ xs) : AV.tlL ys = true := vt8.2 fun y hy => vt8.1 h y (hs y hy)
end Go.AM
namespace Go.AM
open Go.RowKit Go.Proofs
set_option linter.unusedSimpArgs false
set_option linter.unusedVariables false
set_option maxHeartbeats 8000000
end Go.AM
