/- ModuleSeveral: the law. -/
import Derived.Test.YtlhaljblcimnbaaG15
import Derived.SizedLaws
import Derived.Test.YtlhaljblcimnbaaRows
namespace Go.Proofs.Ytlhaljblcimnbaa
open Go.AM Go.RowKit Go.ChangeShapes Go.WideShapes Go.ChangeAt
theorem own : ownKnob Try.prog.godebug = none := by kernel_rfl
theorem laidOut : laidOutB Try.prog = true := by kernel_rfl
theorem u4 : Try.prog.underlying 4 = some .bool := by kernel_rfl
theorem moduleSeveral_all (xs : List AV) (hx : TyAll Try.prog 9 Try.f5.params.toList xs) : Sound Try.prog 5 xs (.v (.bool true)) := by
 rw [show Try.f5.params.toList = [46] from rfl] at hx
 exact several_law (n := 3) hx
set_option maxRecDepth 100000 in
theorem moduleSeveral_lifted (os : Os) (started : os.Started) (H : Type) (enc : TypeId × Value → H) :
  ReturnsInHanded {} Try.checked os 5 .any (Rows.moduleSeveralSpec.pre6 enc Try.prog Try.f5 Rows.moduleSeveralRow.domain false) (Rows.moduleSeveralSpec.post enc Try.prog Try.f5 false true false false) := by
 refine returnsInHanded_of_change_sized (C := Try.checked) own started (by kernel_rfl) Try.func5
  (ChangeSpec.witness6 (enc := enc) (C := Try.checked) false ⟨#[], #[.slice none 0 0], []⟩ 8 (by kernel_rfl) (by kernel_rfl) (by kernel_rfl) (by kernel_rfl)) ?_
 intro W base args ds gs before hval hW _ hsz _
 refine law_contract (n := 9) (t := 4) laidOut (by decide +kernel) rfl rfl u4 ?_ ?_ base args ds gs before hval hW hsz
 ·intro H ds hd
  match ds, hd with
  | [d0], _ => rfl
 ·exact moduleSeveral_all
theorem moduleSeveral_holds : Rows.ModuleSeveralSaid :=
 OpenClaim.holds_of_wide 5 Try.f5 rfl rfl rfl rfl rfl rfl rfl ⟨rfl, rfl, rfl, rfl, rfl⟩ rfl rfl rfl rfl rfl (by kernel_rfl) Try.func5 (by kernel_rfl)
  (of_decide_eq_true (by kernel_rfl)) (by unfold Func.isWrapper; first | (rw [if_pos (by decide +kernel)]; kernel_rfl) | (rw [if_neg (by decide +kernel)]; exact ⟨rfl, rfl⟩))
  (fun os started H enc _ => moduleSeveral_lifted os started H enc)
end Go.Proofs.Ytlhaljblcimnbaa
