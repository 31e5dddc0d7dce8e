/- EditPrefixes: the law. -/
import Derived.Test.YtnakpjnigfpkpaaC05L5
import Derived.Test.YtnakpjnigfpkpaaAmC
import Derived.Test.YtnakpjnigfpkpaaRows
namespace Go.Proofs.Ytnakpjnigfpkpaa
open Go.AM Go.RowKit Go.ChangeShapes Go.WideShapes Go.ChangeAt

theorem own : ownKnob Try.prog.godebug = none := by kernel_rfl
theorem laidOut : laidOutB Try.prog = true := by kernel_rfl
theorem u4 : Try.prog.underlying 4 = some .bool := by kernel_rfl
theorem u22 : Try.prog.underlying 22 = some (.slice 5) := by kernel_rfl
theorem u5 : Try.prog.underlying 5 = some (.int .u8) := by kernel_rfl
theorem c5 : Try.prog.cellsOf 5 = 1 := by kernel_rfl
theorem c34 : Try.prog.cellsOf 34 = 2 := by kernel_rfl
theorem f34 : flds Try.prog 34 = some [(22, 0, 1), (5, 1, 1)] := by kernel_rfl
theorem editPrefixes_all (xs : List AV) (hx : TyAll Try.prog 5 Try.f5.params.toList xs) : Sound Try.prog 5 xs (.v (.bool true)) := by
  match xs, hx with
  | [x, y, z], ⟨hx, hy, hz, _⟩ =>
    obtain ⟨o, l, rfl, _⟩ := ty_bytes u22 u5 c5 hx
    obtain ⟨o', l', rfl, _⟩ := ty_bytes u22 u5 c5 hy
    obtain ⟨ys, rfl, hl, hf⟩ := ty_struct f34 c34 hz
    match ys, hl, hf with
    | [a, b], _, hf =>
      obtain ⟨o'', l'', rfl, _⟩ := ty_bytes u22 u5 c5 (ty_fld (by kernel_rfl) (hf (22, 0, 1) (by simp)))
      obtain ⟨b, rfl⟩ := ty_u8 u5 (ty_fld (by kernel_rfl) (hf (5, 1, 1) (by simp)))
      exact Sound.weak (by simpa [byL, AV.weakL, AV.weak] using editPrefixes_sound l l' l'' b)

set_option maxRecDepth 100000 in
theorem editPrefixes_lifted (os : Os) (started : os.Started) (H : Type) (enc : TypeId × Value → H) :
    ReturnsInHanded {} Try.checked os 5 .any (Rows.editPrefixesSpec.pre6 enc Try.prog Try.f5 Rows.editPrefixesRow.domain false) (Rows.editPrefixesSpec.post enc Try.prog Try.f5 false true false false) := by
  refine returnsInHanded_of_change (C := Try.checked) own started (by kernel_rfl) Try.func5
    (ChangeSpec.witness6 (enc := enc) (C := Try.checked) false ⟨#[], #[.slice none 0 0, .slice none 0 0, .agg #[.slice none 0 0, .int .u8 0]], []⟩ 8 (by kernel_rfl) (by kernel_rfl) (by kernel_rfl) (by kernel_rfl)) ?_
  intro W base args ds gs before hval hW _ _
  refine law_contract (n := 5) (t := 4) laidOut (by decide +kernel) rfl rfl u4 ?_ ?_ base args ds gs before hval hW
  · intro H ds hd
    match ds, hd with
    | [d0, d1, d2], _ => rfl
  · exact editPrefixes_all

theorem editPrefixes_holds : Rows.EditPrefixesSaid :=
  OpenClaim.holds_of_wide 5 Try.f5 rfl rfl rfl rfl rfl rfl rfl ⟨rfl, rfl, rfl, rfl, rfl⟩ rfl rfl rfl rfl rfl (by kernel_rfl) Try.func5 (by kernel_rfl)
    (of_decide_eq_true (by kernel_rfl)) (by unfold Func.isWrapper; first | (rw [if_pos (by decide +kernel)]; kernel_rfl) | (rw [if_neg (by decide +kernel)]; exact ⟨rfl, rfl⟩))
    (fun os started H enc _ => editPrefixes_lifted os started H enc)
end Go.Proofs.Ytnakpjnigfpkpaa
