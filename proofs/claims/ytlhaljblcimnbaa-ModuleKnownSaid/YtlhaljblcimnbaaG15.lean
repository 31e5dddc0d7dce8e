/- Parts of the walk: C31SB C31DG C31LE C31LG C31RC. -/
import Derived.Test.YtlhaljblcimnbaaG14
namespace Go.AM
open Go.RowKit Go.Proofs
set_option linter.unusedSimpArgs false
set_option linter.unusedVariables false
set_option maxHeartbeats 8000000
structure SeedOk (x : SeedM) : Prop where
 t : ∀ n ∈ x.txts, n < 65536
 r : ∀ n ∈ x.rlds, n < 65536
 l1 : x.esds.length ≤ 9223372036854775000
 l4 : x.txts.length ≤ 9223372036854775000
 l2 : x.rlds.length ≤ 9223372036854775000
 l3 : x.data.length ≤ 9223372036854775000
end Go.AM
namespace Go.AM
open Go.RowKit Go.Proofs
set_option linter.unusedSimpArgs false
set_option linter.unusedVariables false
set_option maxHeartbeats 2000000
structure LDk (m : LMod) : Prop where
 e : 0 ≤ m.entry ∧ m.entry ≤ 65536
 sg : ∀ s ∈ m.seg, -1 ≤ s.par ∧ s.par ≤ 64 ∧ 0 ≤ s.org ∧ s.org ≤ 65536 ∧ 0 ≤ s.frm ∧ s.frm ≤ 1000000000 ∧ 0 ≤ s.len ∧ s.len ≤ 65536
 rl : ∀ r ∈ m.rel, 0 ≤ r.at_ ∧ r.at_ ≤ 1000000000 ∧ 1 ≤ r.len ∧ r.len ≤ 4
end Go.AM
namespace Go.AM
open Go.RowKit Go.Proofs
set_option linter.unusedSimpArgs false
set_option linter.unusedVariables false
set_option maxHeartbeats 8000000
structure LSn (m : LMod) : Prop where
 s : m.seg.length ≤ 1000
 t : m.text.length ≤ 1000000
 r : m.rel.length ≤ 1000000
 s0 : m.seg ≠ []
theorem LSn.sm {m : LMod} (h : LSn m) : LSm m := ⟨by have := h.s; omega, by have := h.t; omega, by have := h.r; omega⟩
end Go.AM
namespace Go.AM
open Go.RowKit Go.Proofs
set_option linter.unusedSimpArgs false
set_option linter.unusedVariables false
set_option maxHeartbeats 8000000
theorem sp_thawS {m : LMod} (hm : LSn m) {h : List AObj} {Q : AV → List AObj → Prop}
  (hQ : ∀ cap, m.seg.length ≤ cap → cap ≤ maxLen → Q (.agg [.lst .any 1 (byL m.text), .lst .any 3 (rlL m.rel), .arr h.length 0 m.seg.length cap, .v (.int .i64 m.entry)]) (h ++ [.cells 83 (flC segC m.seg ++ List.replicate ((cap - m.seg.length) * 4) .any)])) :
  xl9 Try.prog 33 [lmA m] h Q := by
 refine callW_thawS (e := 83) (T := 1) (sz := 4) (xs := sgL m.seg) (fl := flC segC m.seg) (fs := [.lst (.tip 5 1) 1 (byL m.text), .lst (.tip 85 1) 3 (rlL m.rel), .lst (.tip 83 1) 4 (sgL m.seg), .v (.int .i64 m.entry)]) 2 (by simpa using copyLoad_sound m hm.sm) rfl ?_ (catK_sgL _) (by simp) (by have := hm.s0; simpa [sgL] using this) ?_
 ·intro j y hj hy
  match j, hj, hy with
  | 0, _, hy => cases hy; cases h : m.text <;> simp [okS, byL, cfB]
  | 1, _, hy => cases hy; cases h : m.rel <;> simp [okS, rlL, cfB]
  | 2, hj, _ => exact absurd rfl hj
  | 3, _, hy => cases hy; rfl
  | j + 4, _, hy => simp at hy
 ·intro cap h1 h2
  have := hQ cap (by simpa using h1) h2
  simpa [weakS] using this
end Go.AM
namespace Go.AM
open Go.RowKit Go.Proofs
set_option linter.unusedSimpArgs false
set_option linter.unusedVariables false
set_option maxHeartbeats 8000000
@[simp] theorem byL_nil31 : byL [] = [] := rfl
end Go.AM
