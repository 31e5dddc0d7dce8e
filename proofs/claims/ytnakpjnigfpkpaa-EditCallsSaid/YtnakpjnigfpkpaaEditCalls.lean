/- EditCalls: the law. -/
import Derived.Test.YtnakpjnigfpkpaaC05R4
import Derived.Test.YtnakpjnigfpkpaaAmC
import Derived.SizedLaws
import Derived.Test.YtnakpjnigfpkpaaRows
namespace Go.Proofs.Ytnakpjnigfpkpaa
open Go.AM Go.RowKit Go.ChangeShapes Go.WideShapes Go.ChangeAt

theorem own : ownKnob Try.prog.godebug = none := by kernel_rfl
theorem laidOut : laidOutB Try.prog = true := by kernel_rfl
theorem u4 : Try.prog.underlying 4 = some .bool := by kernel_rfl
theorem u22 : Try.prog.underlying 22 = some (.slice 5) := by kernel_rfl
theorem u5 : Try.prog.underlying 5 = some (.int .u8) := by kernel_rfl
theorem c5 : Try.prog.cellsOf 5 = 1 := by kernel_rfl
theorem editCalls_all (xs : List AV) (hx : TyAll Try.prog 3 Try.f3.params.toList xs) : Sound Try.prog 3 xs (.v (.bool true)) := by
  match xs, hx with
  | [x, y], ⟨hx, hy, _⟩ =>
    obtain ⟨o, l, rfl, _⟩ := ty_bytes u22 u5 c5 hx
    obtain ⟨o', l', rfl, _⟩ := ty_bytes u22 u5 c5 hy
    have e : AV.dpL (l.map fun b : UInt8 => AV.v (.int .u8 b.toNat)) = byL l := dpL_byL l
    have e' : AV.dpL (l'.map fun b : UInt8 => AV.v (.int .u8 b.toNat)) = byL l' := dpL_byL l'
    refine Sound.dp ?_
    simp only [AV.dpL, AV.dp, e, e']
    exact editCalls_sound l l'

set_option maxRecDepth 100000 in
theorem editCalls_lifted (os : Os) (started : os.Started) (H : Type) (enc : TypeId × Value → H) :
    ReturnsInHanded {} Try.checked os 3 .any (Rows.editCallsSpec.pre6 enc Try.prog Try.f3 Rows.editCallsRow.domain false) (Rows.editCallsSpec.post enc Try.prog Try.f3 false true false false) := by
  refine returnsInHanded_of_change_sized (C := Try.checked) own started (by kernel_rfl) Try.func3
    (ChangeSpec.witness6 (enc := enc) (C := Try.checked) false ⟨#[], #[.slice none 0 0, .slice none 0 0], []⟩ 8 (by kernel_rfl) (by kernel_rfl) (by kernel_rfl) (by kernel_rfl)) ?_
  intro W base args ds gs before hval hW _ hsz _
  refine law_contract (n := 3) (t := 4) laidOut (by decide +kernel) rfl rfl u4 ?_ ?_ base args ds gs before hval hW hsz
  · intro H ds hd
    match ds, hd with
    | [d0, d1], _ => rfl
  · exact editCalls_all

theorem editCalls_holds : Rows.EditCallsSaid :=
  OpenClaim.holds_of_wide 3 Try.f3 rfl rfl rfl rfl rfl rfl rfl ⟨rfl, rfl, rfl, rfl, rfl⟩ rfl rfl rfl rfl rfl (by kernel_rfl) Try.func3 (by kernel_rfl)
    (of_decide_eq_true (by kernel_rfl)) (by unfold Func.isWrapper; first | (rw [if_pos (by decide +kernel)]; kernel_rfl) | (rw [if_neg (by decide +kernel)]; exact ⟨rfl, rfl⟩))
    (fun os started H enc _ => editCalls_lifted os started H enc)
end Go.Proofs.Ytnakpjnigfpkpaa
