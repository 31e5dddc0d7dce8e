/- ModuleKnown: the law. -/
import Derived.Test.YtlhaljblcimnbaaG17
import Derived.SizedLaws
import Derived.Test.YtlhaljblcimnbaaRows
namespace Go.Proofs.Ytlhaljblcimnbaa
open Go.AM Go.RowKit Go.ChangeShapes Go.WideShapes Go.ChangeAt
theorem own : ownKnob Try.prog.godebug = none := by kernel_rfl
theorem laidOut : laidOutB Try.prog = true := by kernel_rfl
theorem u4 : Try.prog.underlying 4 = some .bool := by kernel_rfl
theorem moduleKnown_all (xs : List AV) (hx : TyAll Try.prog 4 Try.f9.params.toList xs) : Sound Try.prog 9 xs (.v (.bool true)) := by
 match xs, hx with
 | [], _ => exact known_sound
set_option maxRecDepth 100000 in
theorem moduleKnown_lifted (os : Os) (started : os.Started) (H : Type) (enc : TypeId × Value → H) :
  ReturnsInHanded {} Try.checked os 9 .any (Rows.moduleKnownSpec.pre6 enc Try.prog Try.f9 Rows.moduleKnownRow.domain false) (Rows.moduleKnownSpec.post enc Try.prog Try.f9 false true false false) := by
 refine returnsInHanded_of_change_sized (C := Try.checked) own started (by kernel_rfl) Try.func9
  (ChangeSpec.witness6 (enc := enc) (C := Try.checked) false ⟨#[], #[], []⟩ 8 (by kernel_rfl) (by kernel_rfl) (by kernel_rfl) (by kernel_rfl)) ?_
 intro W base args ds gs before hval hW _ hsz _
 refine law_contract (n := 4) (t := 4) laidOut (by decide +kernel) rfl rfl u4 ?_ ?_ base args ds gs before hval hW hsz
 ·intro H ds hd
  match ds, hd with
  | [], _ => rfl
 ·exact moduleKnown_all
theorem moduleKnown_holds : Rows.ModuleKnownSaid :=
 OpenClaim.holds_of_wide 9 Try.f9 rfl rfl rfl rfl rfl rfl rfl ⟨rfl, rfl, rfl, rfl, rfl⟩ rfl rfl rfl rfl rfl (by kernel_rfl) Try.func9 (by kernel_rfl)
  (of_decide_eq_true (by kernel_rfl)) (by unfold Func.isWrapper; first | (rw [if_pos (by decide +kernel)]; kernel_rfl) | (rw [if_neg (by decide +kernel)]; exact ⟨rfl, rfl⟩))
  (fun os started H enc _ => moduleKnown_lifted os started H enc)
end Go.Proofs.Ytlhaljblcimnbaa
