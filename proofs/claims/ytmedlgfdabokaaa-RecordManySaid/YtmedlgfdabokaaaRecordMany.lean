/- RecordMany: the law. -/
import Derived.Test.YtmedlgfdabokaaaC22X
import Derived.Test.YtmedlgfdabokaaaC22T
import Derived.Test.YtmedlgfdabokaaaAmC
import Derived.SizedLaws
import Derived.Test.YtmedlgfdabokaaaRows
namespace Go.Proofs.Ytmedlgfdabokaaa
open Go.AM Go.RowKit Go.ChangeShapes Go.WideShapes Go.ChangeAt

theorem own : ownKnob Try.prog.godebug = none := by kernel_rfl
theorem laidOut : laidOutB Try.prog = true := by kernel_rfl
theorem u4 : Try.prog.underlying 4 = some .bool := by kernel_rfl

theorem recordMany_all (xs : List AV) (hx : TyAll Try.prog 8 Try.f5.params.toList xs) : Sound Try.prog 5 xs (.v (.bool true)) := by
  rw [show Try.f5.params.toList = [3, 5, 4] from rfl] at hx
  match xs with
  | [] => exact hx.elim
  | [_] => exact hx.2.elim
  | [_, _] => exact hx.2.2.elim
  | _ :: _ :: _ :: _ :: _ => exact hx.2.2.2.elim
  | [x, y, z] =>
    obtain ⟨m, rfl, _⟩ := ty_int (n := 7) un_3 hx.1
    obtain ⟨b, rfl⟩ := ty_u8 (n := 7) un_5 hx.2.1
    obtain ⟨q, rfl⟩ := ty_bool (n := 7) un_4 hx.2.2.1
    exact many_sound m b q

set_option maxRecDepth 100000 in
theorem recordMany_lifted (os : Os) (started : os.Started) (H : Type) (enc : TypeId × Value → H) :
    ReturnsInHanded {} Try.checked os 5 .any (Rows.recordManySpec.pre6 enc Try.prog Try.f5 Rows.recordManyRow.domain false) (Rows.recordManySpec.post enc Try.prog Try.f5 false true false false) := by
  refine returnsInHanded_of_change_sized (C := Try.checked) own started (by kernel_rfl) Try.func5
    (ChangeSpec.witness6 (enc := enc) (C := Try.checked) false ⟨#[], #[.int .i64 0, .int .u8 0, .bool false], []⟩ 8 (by kernel_rfl) (by kernel_rfl) (by kernel_rfl) (by kernel_rfl)) ?_
  intro W base args ds gs before hval hW _ hsz _
  refine law_contract (n := 8) (t := 4) laidOut (by decide +kernel) rfl rfl u4 ?_ ?_ base args ds gs before hval hW hsz
  · intro H ds hd
    match ds, hd with
    | [d0, d1, d2], _ => rfl
  · exact recordMany_all

theorem recordMany_holds : Rows.RecordManySaid :=
  OpenClaim.holds_of_wide 5 Try.f5 rfl rfl rfl rfl rfl rfl rfl ⟨rfl, rfl, rfl, rfl, rfl⟩ rfl rfl rfl rfl rfl (by kernel_rfl) Try.func5 (by kernel_rfl)
    (of_decide_eq_true (by kernel_rfl)) (by unfold Func.isWrapper; first | (rw [if_pos (by decide +kernel)]; kernel_rfl) | (rw [if_neg (by decide +kernel)]; exact ⟨rfl, rfl⟩))
    (fun os started H enc _ => recordMany_lifted os started H enc)
end Go.Proofs.Ytmedlgfdabokaaa
