/- SeqKnown: the law. -/
import Derived.Test.YtknlmgnfflfpeaaC23X
import Derived.Test.YtknlmgnfflfpeaaAmC
import Derived.Test.YtknlmgnfflfpeaaRows
namespace Go.Proofs.Ytknlmgnfflfpeaa
open Go.AM Go.RowKit Go.ChangeShapes Go.WideShapes Go.ChangeAt

theorem own : ownKnob Try.prog.godebug = none := by kernel_rfl
theorem laidOut : laidOutB Try.prog = true := by kernel_rfl
theorem u4 : Try.prog.underlying 4 = some .bool := by kernel_rfl

theorem seqKnown_all (xs : List AV) (hx : TyAll Try.prog 8 Try.f10.params.toList xs) : Sound Try.prog 10 xs (.v (.bool true)) := by
  match xs, hx with
  | [], _ => exact known_sound

set_option maxRecDepth 100000 in
theorem seqKnown_lifted (os : Os) (started : os.Started) (H : Type) (enc : TypeId × Value → H) :
    ReturnsInHanded {} Try.checked os 10 .any (Rows.seqKnownSpec.pre6 enc Try.prog Try.f10 Rows.seqKnownRow.domain false) (Rows.seqKnownSpec.post enc Try.prog Try.f10 false true false false) := by
  refine returnsInHanded_of_change (C := Try.checked) own started (by kernel_rfl) Try.func10
    (ChangeSpec.witness6 (enc := enc) (C := Try.checked) false ⟨#[], #[], []⟩ 8 (by kernel_rfl) (by kernel_rfl) (by kernel_rfl) (by kernel_rfl)) ?_
  intro W base args ds gs before hval hW _ _
  refine law_contract (n := 8) (t := 4) laidOut (by decide +kernel) rfl rfl u4 ?_ ?_ base args ds gs before hval hW
  · intro H ds hd
    match ds, hd with
    | [], _ => rfl
  · exact seqKnown_all

theorem seqKnown_holds : Rows.SeqKnownSaid :=
  OpenClaim.holds_of_wide 10 Try.f10 rfl rfl rfl rfl rfl rfl rfl ⟨rfl, rfl, rfl, rfl, rfl⟩ rfl rfl rfl rfl rfl (by kernel_rfl) Try.func10 (by kernel_rfl)
    (of_decide_eq_true (by kernel_rfl)) (by unfold Func.isWrapper; first | (rw [if_pos (by decide +kernel)]; kernel_rfl) | (rw [if_neg (by decide +kernel)]; exact ⟨rfl, rfl⟩))
    (fun os started H enc _ => seqKnown_lifted os started H enc)
end Go.Proofs.Ytknlmgnfflfpeaa
