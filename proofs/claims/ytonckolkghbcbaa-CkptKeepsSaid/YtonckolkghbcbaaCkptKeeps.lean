/- CkptKeeps: the law. -/
import Derived.Test.YtonckolkghbcbaaC38Q
import Derived.Test.YtonckolkghbcbaaAmC
import Derived.Test.YtonckolkghbcbaaRows
namespace Go.Proofs.Ytonckolkghbcbaa
open Go.AM Go.RowKit Go.ChangeShapes Go.WideShapes Go.ChangeAt

theorem own : ownKnob Try.prog.godebug = none := by kernel_rfl
theorem laidOut : laidOutB Try.prog = true := by kernel_rfl
theorem u4 : Try.prog.underlying 4 = some .bool := by kernel_rfl
theorem fl41 : flds Try.prog 41 = some [(3, 0, 1), (4, 1, 1)] := by kernel_rfl
theorem ce41 : Try.prog.cellsOf 41 = 2 := by kernel_rfl
theorem ckptKeeps_all (xs : List AV) (hx : TyAll Try.prog 8 Try.f6.params.toList xs) : Sound Try.prog 6 xs (.v (.bool true)) := by
  match xs, hx with
  | [x, y, z], ⟨hx, hy, hz, _⟩ =>
    obtain ⟨a, ha, h1, h2⟩ := ty_area hx
    obtain ⟨o, l, rfl, h3⟩ := ty_bytes un_32 un_5 ce5 hy
    have e : AV.dpL (l.map fun b : UInt8 => AV.v (.int .u8 b.toNat)) = byL l := dpL_byL l
    obtain ⟨ys, rfl, hl, hf⟩ := ty_struct fl41 ce41 hz
    match ys, hl, hf with
    | [u, v], _, hf =>
      obtain ⟨m, rfl, _, _⟩ := ty_int un_3 (ty_fld (by kernel_rfl) (hf (3, 0, 1) (by simp)))
      obtain ⟨q, rfl⟩ := ty_bool un_4 (ty_fld (by kernel_rfl) (hf (4, 1, 1) (by simp)))
      refine Sound.dp ?_
      simp only [AV.dpL, ha, AV.dp, e]
      exact keeps_sound a l m q fun t ht => Nat.le_trans (h2 t ht).1 (by decide)

set_option maxRecDepth 100000 in
theorem ckptKeeps_lifted (os : Os) (started : os.Started) (H : Type) (enc : TypeId × Value → H) :
    ReturnsInHanded {} Try.checked os 6 .any (Rows.ckptKeepsSpec.pre6 enc Try.prog Try.f6 Rows.ckptKeepsRow.domain false) (Rows.ckptKeepsSpec.post enc Try.prog Try.f6 false true false false) := by
  refine returnsInHanded_of_change (C := Try.checked) own started (by kernel_rfl) Try.func6
    (ChangeSpec.witness6 (enc := enc) (C := Try.checked) false ⟨#[], #[.slice none 0 0, .slice none 0 0, .agg #[.int .i64 0, .bool false]], []⟩ 8 (by kernel_rfl) (by kernel_rfl) (by kernel_rfl) (by kernel_rfl)) ?_
  intro W base args ds gs before hval hW _ _
  refine law_contract (n := 8) (t := 4) laidOut (by decide +kernel) rfl rfl u4 ?_ ?_ base args ds gs before hval hW
  · intro H ds hd
    match ds, hd with
    | [d0, d1, d2], _ => rfl
  · exact ckptKeeps_all

theorem ckptKeeps_holds : Rows.CkptKeepsSaid :=
  OpenClaim.holds_of_wide 6 Try.f6 rfl rfl rfl rfl rfl rfl rfl ⟨rfl, rfl, rfl, rfl, rfl⟩ rfl rfl rfl rfl rfl (by kernel_rfl) Try.func6 (by kernel_rfl)
    (of_decide_eq_true (by kernel_rfl)) (by unfold Func.isWrapper; first | (rw [if_pos (by decide +kernel)]; kernel_rfl) | (rw [if_neg (by decide +kernel)]; exact ⟨rfl, rfl⟩))
    (fun os started H enc _ => ckptKeeps_lifted os started H enc)
end Go.Proofs.Ytonckolkghbcbaa
