/- SeqAppends: the law. -/
import Derived.Test.YtknlmgnfflfpeaaC23ZI
import Derived.Test.YtknlmgnfflfpeaaP22T
import Derived.Test.YtknlmgnfflfpeaaC23T
import Derived.Test.YtknlmgnfflfpeaaAmC
import Derived.SizedLaws
import Derived.Test.YtknlmgnfflfpeaaRows
namespace Go.Proofs.Ytknlmgnfflfpeaa
open Go.AM Go.RowKit Go.ChangeShapes Go.WideShapes Go.ChangeAt

theorem own : ownKnob Try.prog.godebug = none := by kernel_rfl
theorem laidOut : laidOutB Try.prog = true := by kernel_rfl
theorem u4 : Try.prog.underlying 4 = some .bool := by kernel_rfl

theorem seqAppends_all (xs : List AV) (hx : TyAll Try.prog 8 Try.f5.params.toList xs) : Sound Try.prog 5 xs (.v (.bool true)) := by
  match xs, hx with
  | [x, y, u, z, w, v], ⟨hx, hy, hu, hz, hw, hv, _⟩ =>
    obtain ⟨d, hd, _⟩ := ty_dcb hx
    obtain ⟨l, hl, hlen, _⟩ := ty_recs hy
    obtain ⟨m, hm, hmen, _⟩ := ty_recs hu
    obtain ⟨a, ha, halen, hat⟩ := ty_area hz
    obtain ⟨b, rfl⟩ := ty_u8 un_5 hw
    obtain ⟨c, rfl⟩ := ty_u8 un_5 hv
    refine Sound.dp ?_
    simp only [AV.dpL, AV.dp, hd, hl, hm, ha]
    exact appends_sound d l m a b c (by simp only [maxLen] at hlen; omega) (by simp only [maxLen] at hmen; omega) (by simp only [maxLen] at halen; omega) (fun t ht => ⟨by have := (hat t ht).1; simp only [maxLen] at this; omega, fun q hq => by have := (hat t ht).2 q hq; exact ⟨by have := this.2.2.1; omega, by have := this.2.2.2; omega⟩⟩)

set_option maxRecDepth 100000 in
theorem seqAppends_lifted (os : Os) (started : os.Started) (H : Type) (enc : TypeId × Value → H) :
    ReturnsInHanded {} Try.checked os 5 .any (Rows.seqAppendsSpec.pre6 enc Try.prog Try.f5 Rows.seqAppendsRow.domain false) (Rows.seqAppendsSpec.post enc Try.prog Try.f5 false true false false) := by
  refine returnsInHanded_of_change_sized (C := Try.checked) own started (by kernel_rfl) Try.func5
    (ChangeSpec.witness6 (enc := enc) (C := Try.checked) false ⟨#[], #[.agg #[.int .i64 0, .int .i64 0, .bool false, .bool false, .int .i64 0, .int .i64 0, .int .i64 0, .int .i64 0], .slice none 0 0, .slice none 0 0, .slice none 0 0, .int .u8 0, .int .u8 0], []⟩ 8 (by kernel_rfl) (by kernel_rfl) (by kernel_rfl) (by kernel_rfl)) ?_
  intro W base args ds gs before hval hW _ hsz _
  refine law_contract (n := 8) (t := 4) laidOut (by decide +kernel) rfl rfl u4 ?_ ?_ base args ds gs before hval hW hsz
  · intro H ds hd
    match ds, hd with
    | [d0, d1, d2, d3, d4, d5], _ => rfl
  · exact seqAppends_all

theorem seqAppends_holds : Rows.SeqAppendsSaid :=
  OpenClaim.holds_of_wide 5 Try.f5 rfl rfl rfl rfl rfl rfl rfl ⟨rfl, rfl, rfl, rfl, rfl⟩ rfl rfl rfl rfl rfl (by kernel_rfl) Try.func5 (by kernel_rfl)
    (of_decide_eq_true (by kernel_rfl)) (by unfold Func.isWrapper; first | (rw [if_pos (by decide +kernel)]; kernel_rfl) | (rw [if_neg (by decide +kernel)]; exact ⟨rfl, rfl⟩))
    (fun os started H enc _ => seqAppends_lifted os started H enc)
end Go.Proofs.Ytknlmgnfflfpeaa
