/- ModuleBack: the law. -/
import Derived.Test.YtlhaljblcimnbaaG17
import Derived.SizedLaws
import Derived.Test.YtlhaljblcimnbaaRows
namespace Go.Proofs.Ytlhaljblcimnbaa
open Go.AM Go.RowKit Go.ChangeShapes Go.WideShapes Go.ChangeAt
theorem own : ownKnob Try.prog.godebug = none := by kernel_rfl
theorem laidOut : laidOutB Try.prog = true := by kernel_rfl
theorem u4 : Try.prog.underlying 4 = some .bool := by kernel_rfl
theorem moduleBack_all (xs : List AV) (hx : TyAll Try.prog 8 Try.f7.params.toList xs) : Sound Try.prog 7 xs (.v (.bool true)) := by
 rw [show Try.f7.params.toList = [30, 47, 56, 56, 5] from rfl] at hx
 exact back_law (n := 3) hx
set_option maxRecDepth 100000 in
theorem moduleBack_lifted (os : Os) (started : os.Started) (H : Type) (enc : TypeId × Value → H) :
  ReturnsInHanded {} Try.checked os 7 .any (Rows.moduleBackSpec.pre6 enc Try.prog Try.f7 Rows.moduleBackRow.domain false) (Rows.moduleBackSpec.post enc Try.prog Try.f7 false true false false) := by
 refine returnsInHanded_of_change_sized (C := Try.checked) own started (by kernel_rfl) Try.func7
  (ChangeSpec.witness6 (enc := enc) (C := Try.checked) false ⟨#[], #[.agg #[.slice none 0 0, .slice none 0 0, .slice none 0 0, .int .u8 0, .slice none 0 0], .slice none 0 0, .int .u16 0, .int .u16 0, .int .u8 0], []⟩ 8 (by kernel_rfl) (by kernel_rfl) (by kernel_rfl) (by kernel_rfl)) ?_
 intro W base args ds gs before hval hW _ hsz _
 refine law_contract (n := 8) (t := 4) laidOut (by decide +kernel) rfl rfl u4 ?_ ?_ base args ds gs before hval hW hsz
 ·intro H ds hd
  match ds, hd with
  | [d0, d1, d2, d3, d4], _ => rfl
 ·exact moduleBack_all
theorem moduleBack_holds : Rows.ModuleBackSaid :=
 OpenClaim.holds_of_wide 7 Try.f7 rfl rfl rfl rfl rfl rfl rfl ⟨rfl, rfl, rfl, rfl, rfl⟩ rfl rfl rfl rfl rfl (by kernel_rfl) Try.func7 (by kernel_rfl)
  (of_decide_eq_true (by kernel_rfl)) (by unfold Func.isWrapper; first | (rw [if_pos (by decide +kernel)]; kernel_rfl) | (rw [if_neg (by decide +kernel)]; exact ⟨rfl, rfl⟩))
  (fun os started H enc _ => moduleBack_lifted os started H enc)
end Go.Proofs.Ytlhaljblcimnbaa
