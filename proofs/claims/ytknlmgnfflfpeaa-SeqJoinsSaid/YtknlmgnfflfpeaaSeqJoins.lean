/- SeqJoins: the law. -/
import Derived.Test.YtknlmgnfflfpeaaC23W
import Derived.Test.YtknlmgnfflfpeaaP22T
import Derived.Test.YtknlmgnfflfpeaaAmC
import Derived.Test.YtknlmgnfflfpeaaRows
namespace Go.Proofs.Ytknlmgnfflfpeaa
open Go.AM Go.RowKit Go.ChangeShapes Go.WideShapes Go.ChangeAt

theorem own : ownKnob Try.prog.godebug = none := by kernel_rfl
theorem laidOut : laidOutB Try.prog = true := by kernel_rfl
theorem u4 : Try.prog.underlying 4 = some .bool := by kernel_rfl

theorem seqJoins_all (xs : List AV) (hx : TyAll Try.prog 8 Try.f7.params.toList xs) : Sound Try.prog 7 xs (.v (.bool true)) := by
  match xs, hx with
  | [x, y, z], ⟨hx, hy, hz, _⟩ =>
    obtain ⟨d, hd, _⟩ := ty_dcb hx
    obtain ⟨l, hl, hlen, _⟩ := ty_recs hy
    obtain ⟨m, hm, hmen, _⟩ := ty_recs hz
    refine Sound.dp ?_
    simp only [AV.dpL, hd, hl, hm]
    exact joins_sound d l m (by simp only [maxLen] at hlen; omega) (by simp only [maxLen] at hmen; omega)

set_option maxRecDepth 100000 in
theorem seqJoins_lifted (os : Os) (started : os.Started) (H : Type) (enc : TypeId × Value → H) :
    ReturnsInHanded {} Try.checked os 7 .any (Rows.seqJoinsSpec.pre6 enc Try.prog Try.f7 Rows.seqJoinsRow.domain false) (Rows.seqJoinsSpec.post enc Try.prog Try.f7 false true false false) := by
  refine returnsInHanded_of_change (C := Try.checked) own started (by kernel_rfl) Try.func7
    (ChangeSpec.witness6 (enc := enc) (C := Try.checked) false ⟨#[], #[.agg #[.int .i64 0, .int .i64 0, .bool false, .bool false, .int .i64 0, .int .i64 0, .int .i64 0, .int .i64 0], .slice none 0 0, .slice none 0 0], []⟩ 8 (by kernel_rfl) (by kernel_rfl) (by kernel_rfl) (by kernel_rfl)) ?_
  intro W base args ds gs before hval hW _ _
  refine law_contract (n := 8) (t := 4) laidOut (by decide +kernel) rfl rfl u4 ?_ ?_ base args ds gs before hval hW
  · intro H ds hd
    match ds, hd with
    | [d0, d1, d2], _ => rfl
  · exact seqJoins_all

theorem seqJoins_holds : Rows.SeqJoinsSaid :=
  OpenClaim.holds_of_wide 7 Try.f7 rfl rfl rfl rfl rfl rfl rfl ⟨rfl, rfl, rfl, rfl, rfl⟩ rfl rfl rfl rfl rfl (by kernel_rfl) Try.func7 (by kernel_rfl)
    (of_decide_eq_true (by kernel_rfl)) (by unfold Func.isWrapper; first | (rw [if_pos (by decide +kernel)]; kernel_rfl) | (rw [if_neg (by decide +kernel)]; exact ⟨rfl, rfl⟩))
    (fun os started H enc _ => seqJoins_lifted os started H enc)
end Go.Proofs.Ytknlmgnfflfpeaa
