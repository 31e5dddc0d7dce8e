/- ModuleObjects: the law. -/
import Derived.Test.YtlhaljblcimnbaaG12
import Derived.SizedLaws
import Derived.Test.YtlhaljblcimnbaaRows
namespace Go.Proofs.Ytlhaljblcimnbaa
open Go.AM Go.RowKit Go.ChangeShapes Go.WideShapes Go.ChangeAt
theorem own : ownKnob Try.prog.godebug = none := by kernel_rfl
theorem laidOut : laidOutB Try.prog = true := by kernel_rfl
theorem u4 : Try.prog.underlying 4 = some .bool := by kernel_rfl
theorem moduleObjects_all (xs : List AV) (hx : TyAll Try.prog 8 Try.f3.params.toList xs) : Sound Try.prog 3 xs (.v (.bool true)) := by
 rw [show Try.f3.params.toList = [26, 30, 5, 3] from rfl] at hx
 exact objects_law (n := 3) hx
set_option maxRecDepth 100000 in
theorem moduleObjects_lifted (os : Os) (started : os.Started) (H : Type) (enc : TypeId × Value → H) :
  ReturnsInHanded {} Try.checked os 3 .any (Rows.moduleObjectsSpec.pre6 enc Try.prog Try.f3 Rows.moduleObjectsRow.domain false) (Rows.moduleObjectsSpec.post enc Try.prog Try.f3 false true false false) := by
 refine returnsInHanded_of_change_sized (C := Try.checked) own started (by kernel_rfl) Try.func3
  (ChangeSpec.witness6 (enc := enc) (C := Try.checked) false ⟨#[], #[.agg #[.slice none 0 0, .slice none 0 0, .slice none 0 0, .string ⟨#[]⟩], .agg #[.slice none 0 0, .slice none 0 0, .slice none 0 0, .int .u8 0, .slice none 0 0], .int .u8 0, .int .i64 0], []⟩ 8 (by kernel_rfl) (by kernel_rfl) (by kernel_rfl) (by kernel_rfl)) ?_
 intro W base args ds gs before hval hW _ hsz _
 refine law_contract (n := 8) (t := 4) laidOut (by decide +kernel) rfl rfl u4 ?_ ?_ base args ds gs before hval hW hsz
 ·intro H ds hd
  match ds, hd with
  | [d0, d1, d2, d3], _ => rfl
 ·exact moduleObjects_all
theorem moduleObjects_holds : Rows.ModuleObjectsSaid :=
 OpenClaim.holds_of_wide 3 Try.f3 rfl rfl rfl rfl rfl rfl rfl ⟨rfl, rfl, rfl, rfl, rfl⟩ rfl rfl rfl rfl rfl (by kernel_rfl) Try.func3 (by kernel_rfl)
  (of_decide_eq_true (by kernel_rfl)) (by unfold Func.isWrapper; first | (rw [if_pos (by decide +kernel)]; kernel_rfl) | (rw [if_neg (by decide +kernel)]; exact ⟨rfl, rfl⟩))
  (fun os started H enc _ => moduleObjects_lifted os started H enc)
end Go.Proofs.Ytlhaljblcimnbaa
