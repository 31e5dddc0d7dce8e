/- ModuleRecords: the law. -/
import Derived.Test.YtlhaljblcimnbaaG12
import Derived.SizedLaws
import Derived.Test.YtlhaljblcimnbaaRows
namespace Go.Proofs.Ytlhaljblcimnbaa
open Go.AM Go.RowKit Go.ChangeShapes Go.WideShapes Go.ChangeAt
theorem own : ownKnob Try.prog.godebug = none := by kernel_rfl
theorem laidOut : laidOutB Try.prog = true := by kernel_rfl
theorem u4 : Try.prog.underlying 4 = some .bool := by kernel_rfl
theorem moduleRecords_all (xs : List AV) (hx : TyAll Try.prog 8 Try.f6.params.toList xs) : Sound Try.prog 6 xs (.v (.bool true)) := by
 rw [show Try.f6.params.toList = [47, 30, 56, 56, 5] from rfl] at hx
 exact records_law (n := 3) hx
set_option maxRecDepth 100000 in
theorem moduleRecords_lifted (os : Os) (started : os.Started) (H : Type) (enc : TypeId × Value → H) :
  ReturnsInHanded {} Try.checked os 6 .any (Rows.moduleRecordsSpec.pre6 enc Try.prog Try.f6 Rows.moduleRecordsRow.domain false) (Rows.moduleRecordsSpec.post enc Try.prog Try.f6 false true false false) := by
 refine returnsInHanded_of_change_sized (C := Try.checked) own started (by kernel_rfl) Try.func6
  (ChangeSpec.witness6 (enc := enc) (C := Try.checked) false ⟨#[], #[.slice none 0 0, .agg #[.slice none 0 0, .slice none 0 0, .slice none 0 0, .int .u8 0, .slice none 0 0], .int .u16 0, .int .u16 0, .int .u8 0], []⟩ 8 (by kernel_rfl) (by kernel_rfl) (by kernel_rfl) (by kernel_rfl)) ?_
 intro W base args ds gs before hval hW _ hsz _
 refine law_contract (n := 8) (t := 4) laidOut (by decide +kernel) rfl rfl u4 ?_ ?_ base args ds gs before hval hW hsz
 ·intro H ds hd
  match ds, hd with
  | [d0, d1, d2, d3, d4], _ => rfl
 ·exact moduleRecords_all
theorem moduleRecords_holds : Rows.ModuleRecordsSaid :=
 OpenClaim.holds_of_wide 6 Try.f6 rfl rfl rfl rfl rfl rfl rfl ⟨rfl, rfl, rfl, rfl, rfl⟩ rfl rfl rfl rfl rfl (by kernel_rfl) Try.func6 (by kernel_rfl)
  (of_decide_eq_true (by kernel_rfl)) (by unfold Func.isWrapper; first | (rw [if_pos (by decide +kernel)]; kernel_rfl) | (rw [if_neg (by decide +kernel)]; exact ⟨rfl, rfl⟩))
  (fun os started H enc _ => moduleRecords_lifted os started H enc)
end Go.Proofs.Ytlhaljblcimnbaa
