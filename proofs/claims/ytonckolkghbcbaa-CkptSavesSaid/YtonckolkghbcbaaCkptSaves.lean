/- CkptSaves: the law. -/
import Derived.Test.YtonckolkghbcbaaC38ZF
import Derived.Test.YtonckolkghbcbaaAmC
import Derived.SizedLaws
import Derived.Test.YtonckolkghbcbaaRows
namespace Go.Proofs.Ytonckolkghbcbaa
open Go.AM Go.RowKit Go.ChangeShapes Go.WideShapes Go.ChangeAt

theorem own : ownKnob Try.prog.godebug = none := by kernel_rfl
theorem laidOut : laidOutB Try.prog = true := by kernel_rfl
theorem u4 : Try.prog.underlying 4 = some .bool := by kernel_rfl

theorem ckptSaves_all (xs : List AV) (hx : TyAll Try.prog 8 Try.f5.params.toList xs) : Sound Try.prog 5 xs (.v (.bool true)) := by
  match xs, hx with
  | [x, y], ⟨hx, hy, _⟩ =>
    obtain ⟨a, ha, h1, h2⟩ := ty_area hx
    obtain ⟨o, l, rfl, h3, _⟩ := ty_bytes un_32 un_5 ce5 hy
    have e : AV.dpL (l.map fun b : UInt8 => AV.v (.int .u8 b.toNat)) = byL l := dpL_byL l
    refine Sound.dp ?_
    simp only [AV.dpL, ha, AV.dp, e]
    exact ckptSaves_sound a l (fun t ht => Nat.le_trans (h2 t ht).1 (by decide)) (Nat.le_trans h3 (by decide))

set_option maxRecDepth 100000 in
theorem ckptSaves_lifted (os : Os) (started : os.Started) (H : Type) (enc : TypeId × Value → H) :
    ReturnsInHanded {} Try.checked os 5 .any (Rows.ckptSavesSpec.pre6 enc Try.prog Try.f5 Rows.ckptSavesRow.domain false) (Rows.ckptSavesSpec.post enc Try.prog Try.f5 false true false false) := by
  refine returnsInHanded_of_change_sized (C := Try.checked) own started (by kernel_rfl) Try.func5
    (ChangeSpec.witness6 (enc := enc) (C := Try.checked) false ⟨#[], #[.slice none 0 0, .slice none 0 0], []⟩ 8 (by kernel_rfl) (by kernel_rfl) (by kernel_rfl) (by kernel_rfl)) ?_
  intro W base args ds gs before hval hW _ hsz _
  refine law_contract (n := 8) (t := 4) laidOut (by decide +kernel) rfl rfl u4 ?_ ?_ base args ds gs before hval hW hsz
  · intro H ds hd
    match ds, hd with
    | [d0, d1], _ => rfl
  · exact ckptSaves_all

theorem ckptSaves_holds : Rows.CkptSavesSaid :=
  OpenClaim.holds_of_wide 5 Try.f5 rfl rfl rfl rfl rfl rfl rfl ⟨rfl, rfl, rfl, rfl, rfl⟩ rfl rfl rfl rfl rfl (by kernel_rfl) Try.func5 (by kernel_rfl)
    (of_decide_eq_true (by kernel_rfl)) (by unfold Func.isWrapper; first | (rw [if_pos (by decide +kernel)]; kernel_rfl) | (rw [if_neg (by decide +kernel)]; exact ⟨rfl, rfl⟩))
    (fun os started H enc _ => ckptSaves_lifted os started H enc)
end Go.Proofs.Ytonckolkghbcbaa
