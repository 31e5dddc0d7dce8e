/- EditKnown returns true: the examples of the chapter. No condition. -/
import Derived.Test.YtnakpjnigfpkpaaAmC
import Derived.Test.YtnakpjnigfpkpaaRows
namespace Go.Proofs.Ytnakpjnigfpkpaa
open Go.AM Go.RowKit Go.ChangeShapes Go.WideShapes Go.ChangeAt

theorem mx : Try.prog.follows .mixedOrders = true := by kernel_rfl
theorem own : ownKnob Try.prog.godebug = none := by kernel_rfl
theorem laidOut : laidOutB Try.prog = true := by kernel_rfl
theorem u4 : Try.prog.underlying 4 = some .bool := by kernel_rfl

theorem editKnown_sound : Sound Try.prog 9 [] (.v (.bool true)) := sound_exec mx 300 (by kernel_rfl)

set_option maxRecDepth 100000 in
theorem editKnown_lifted (os : Os) (started : os.Started) (H : Type) (enc : TypeId × Value → H) :
    ReturnsInHanded {} Try.checked os 9 .any (Rows.editKnownSpec.pre6 enc Try.prog Try.f9 Rows.editKnownRow.domain false) (Rows.editKnownSpec.post enc Try.prog Try.f9 false true false false) := by
  refine returnsInHanded_of_change (C := Try.checked) own started (by kernel_rfl) Try.func9
    (ChangeSpec.witness6 (enc := enc) (C := Try.checked) false ⟨#[], #[], []⟩ 8 (by kernel_rfl) (by kernel_rfl) (by kernel_rfl) (by kernel_rfl)) ?_
  intro W base args ds gs before hval hW _ _
  refine law_contract (n := 9) (t := 4) laidOut (by decide +kernel) rfl rfl u4 ?_ ?_ base args ds gs before hval hW
  · intro H ds hd
    match ds, hd with
    | [], _ => rfl
  · intro xs hx
    match xs, hx with
    | [], _ => exact editKnown_sound

theorem editKnown_holds : Rows.EditKnownSaid :=
  OpenClaim.holds_of_wide 9 Try.f9 rfl rfl rfl rfl rfl rfl rfl ⟨rfl, rfl, rfl, rfl, rfl⟩ rfl rfl rfl rfl rfl (by kernel_rfl) Try.func9 (by kernel_rfl)
    (of_decide_eq_true (by kernel_rfl)) (by unfold Func.isWrapper; first | (rw [if_pos (by decide +kernel)]; kernel_rfl) | (rw [if_neg (by decide +kernel)]; exact ⟨rfl, rfl⟩))
    (fun os started H enc _ => editKnown_lifted os started H enc)
end Go.Proofs.Ytnakpjnigfpkpaa
