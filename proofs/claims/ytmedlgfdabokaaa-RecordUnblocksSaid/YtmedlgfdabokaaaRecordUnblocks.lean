/- RecordUnblocks: the law. -/
import Derived.Test.YtmedlgfdabokaaaC22ZL
import Derived.Test.YtmedlgfdabokaaaC22T
import Derived.Test.YtmedlgfdabokaaaAmC
import Derived.SizedLaws
import Derived.Test.YtmedlgfdabokaaaRows
namespace Go.Proofs.Ytmedlgfdabokaaa
open Go.AM Go.RowKit Go.ChangeShapes Go.WideShapes Go.ChangeAt

theorem own : ownKnob Try.prog.godebug = none := by kernel_rfl
theorem laidOut : laidOutB Try.prog = true := by kernel_rfl
theorem u4 : Try.prog.underlying 4 = some .bool := by kernel_rfl

theorem recordUnblocks_all (xs : List AV) (hx : TyAll Try.prog 8 Try.f4.params.toList xs) : Sound Try.prog 4 xs (.v (.bool true)) := by
  match xs, hx with
  | [x, y], ⟨hx, hy, _⟩ =>
    obtain ⟨d, hd, _⟩ := ty_dcb hx
    obtain ⟨l, hl, _⟩ := ty_recs hy
    refine Sound.dp ?_
    simp only [AV.dpL, hd, hl]
    exact recordUnblocks_sound d l

set_option maxRecDepth 100000 in
theorem recordUnblocks_lifted (os : Os) (started : os.Started) (H : Type) (enc : TypeId × Value → H) :
    ReturnsInHanded {} Try.checked os 4 .any (Rows.recordUnblocksSpec.pre6 enc Try.prog Try.f4 Rows.recordUnblocksRow.domain false) (Rows.recordUnblocksSpec.post enc Try.prog Try.f4 false true false false) := by
  refine returnsInHanded_of_change_sized (C := Try.checked) own started (by kernel_rfl) Try.func4
    (ChangeSpec.witness6 (enc := enc) (C := Try.checked) false ⟨#[], #[.agg #[.int .i64 0, .int .i64 0, .bool false, .bool false, .int .i64 0, .int .i64 0, .int .i64 0, .int .i64 0], .slice none 0 0], []⟩ 8 (by kernel_rfl) (by kernel_rfl) (by kernel_rfl) (by kernel_rfl)) ?_
  intro W base args ds gs before hval hW _ hsz _
  refine law_contract (n := 8) (t := 4) laidOut (by decide +kernel) rfl rfl u4 ?_ ?_ base args ds gs before hval hW hsz
  · intro H ds hd
    match ds, hd with
    | [d0, d1], _ => rfl
  · exact recordUnblocks_all

theorem recordUnblocks_holds : Rows.RecordUnblocksSaid :=
  OpenClaim.holds_of_wide 4 Try.f4 rfl rfl rfl rfl rfl rfl rfl ⟨rfl, rfl, rfl, rfl, rfl⟩ rfl rfl rfl rfl rfl (by kernel_rfl) Try.func4 (by kernel_rfl)
    (of_decide_eq_true (by kernel_rfl)) (by unfold Func.isWrapper; first | (rw [if_pos (by decide +kernel)]; kernel_rfl) | (rw [if_neg (by decide +kernel)]; exact ⟨rfl, rfl⟩))
    (fun os started H enc _ => recordUnblocks_lifted os started H enc)
end Go.Proofs.Ytmedlgfdabokaaa
