/- CkptNewest: the law. -/
import Derived.Test.YtonckolkghbcbaaC38N
import Derived.Test.YtonckolkghbcbaaAmC
import Derived.Test.YtonckolkghbcbaaRows
namespace Go.Proofs.Ytonckolkghbcbaa
open Go.AM Go.RowKit Go.ChangeShapes Go.WideShapes Go.ChangeAt

theorem own : ownKnob Try.prog.godebug = none := by kernel_rfl
theorem laidOut : laidOutB Try.prog = true := by kernel_rfl
theorem u4 : Try.prog.underlying 4 = some .bool := by kernel_rfl

theorem ckptNewest_all (xs : List AV) (hx : TyAll Try.prog 8 Try.f4.params.toList xs) : Sound Try.prog 4 xs (.v (.bool true)) := by
  match xs, hx with
  | [x], ⟨hx, _⟩ =>
    obtain ⟨a, ha, h1, h2⟩ := ty_area hx
    refine Sound.dp ?_
    simp only [AV.dpL, ha]
    exact ckptNewest_sound a fun t ht => Nat.le_trans (h2 t ht).1 (by decide)

set_option maxRecDepth 100000 in
theorem ckptNewest_lifted (os : Os) (started : os.Started) (H : Type) (enc : TypeId × Value → H) :
    ReturnsInHanded {} Try.checked os 4 .any (Rows.ckptNewestSpec.pre6 enc Try.prog Try.f4 Rows.ckptNewestRow.domain false) (Rows.ckptNewestSpec.post enc Try.prog Try.f4 false true false false) := by
  refine returnsInHanded_of_change (C := Try.checked) own started (by kernel_rfl) Try.func4
    (ChangeSpec.witness6 (enc := enc) (C := Try.checked) false ⟨#[], #[.slice none 0 0], []⟩ 8 (by kernel_rfl) (by kernel_rfl) (by kernel_rfl) (by kernel_rfl)) ?_
  intro W base args ds gs before hval hW _ _
  refine law_contract (n := 8) (t := 4) laidOut (by decide +kernel) rfl rfl u4 ?_ ?_ base args ds gs before hval hW
  · intro H ds hd
    match ds, hd with
    | [d0], _ => rfl
  · exact ckptNewest_all

theorem ckptNewest_holds : Rows.CkptNewestSaid :=
  OpenClaim.holds_of_wide 4 Try.f4 rfl rfl rfl rfl rfl rfl rfl ⟨rfl, rfl, rfl, rfl, rfl⟩ rfl rfl rfl rfl rfl (by kernel_rfl) Try.func4 (by kernel_rfl)
    (of_decide_eq_true (by kernel_rfl)) (by unfold Func.isWrapper; first | (rw [if_pos (by decide +kernel)]; kernel_rfl) | (rw [if_neg (by decide +kernel)]; exact ⟨rfl, rfl⟩))
    (fun os started H enc _ => ckptNewest_lifted os started H enc)
end Go.Proofs.Ytonckolkghbcbaa
