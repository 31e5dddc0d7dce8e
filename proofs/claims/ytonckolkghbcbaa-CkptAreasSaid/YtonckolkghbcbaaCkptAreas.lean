/- CkptAreas: the law. -/
import Derived.Test.YtonckolkghbcbaaC38M
import Derived.Test.YtonckolkghbcbaaAmC
import Derived.Test.YtonckolkghbcbaaRows
namespace Go.Proofs.Ytonckolkghbcbaa
open Go.AM Go.RowKit Go.ChangeShapes Go.WideShapes Go.ChangeAt

theorem own : ownKnob Try.prog.godebug = none := by kernel_rfl
theorem laidOut : laidOutB Try.prog = true := by kernel_rfl
theorem u4 : Try.prog.underlying 4 = some .bool := by kernel_rfl
theorem u3 : Try.prog.underlying 3 = some (.int .i64) := by kernel_rfl
theorem min64 : IntKind.i64.min = -9223372036854775808 := by decide +kernel
theorem max64 : IntKind.i64.max = 9223372036854775807 := by decide +kernel
theorem ckptAreas_all (xs : List AV) (hx : TyAll Try.prog 3 Try.f3.params.toList xs) : Sound Try.prog 3 xs (.v (.bool true)) := by
  cases xs with
  | nil => exact absurd hx (by simp [TyAll, Try.f3])
  | cons x l =>
    cases l with
    | cons y l => exact absurd hx (by simp [TyAll, Try.f3])
    | nil =>
      have hx1 : TyV Try.prog 3 3 x := hx.1
      obtain ⟨n, rfl, h1, h2⟩ := ty_int u3 hx1
      rw [min64] at h1
      rw [max64] at h2
      exact areas_sound n h1 h2

set_option maxRecDepth 100000 in
theorem ckptAreas_lifted (os : Os) (started : os.Started) (H : Type) (enc : TypeId × Value → H) :
    ReturnsInHanded {} Try.checked os 3 .any (Rows.ckptAreasSpec.pre6 enc Try.prog Try.f3 Rows.ckptAreasRow.domain false) (Rows.ckptAreasSpec.post enc Try.prog Try.f3 false true false false) := by
  refine returnsInHanded_of_change (C := Try.checked) own started (by kernel_rfl) Try.func3
    (ChangeSpec.witness6 (enc := enc) (C := Try.checked) false ⟨#[], #[.int .i64 0], []⟩ 8 (by kernel_rfl) (by kernel_rfl) (by kernel_rfl) (by kernel_rfl)) ?_
  intro W base args ds gs before hval hW _ _
  refine law_contract (n := 3) (t := 4) laidOut (by decide +kernel) rfl rfl u4 ?_ ?_ base args ds gs before hval hW
  · intro H ds hd
    match ds, hd with
    | [d0], _ => rfl
  · exact ckptAreas_all

theorem ckptAreas_holds : Rows.CkptAreasSaid :=
  OpenClaim.holds_of_wide 3 Try.f3 rfl rfl rfl rfl rfl rfl rfl ⟨rfl, rfl, rfl, rfl, rfl⟩ rfl rfl rfl rfl rfl (by kernel_rfl) Try.func3 (by kernel_rfl)
    (of_decide_eq_true (by kernel_rfl)) (by unfold Func.isWrapper; first | (rw [if_pos (by decide +kernel)]; kernel_rfl) | (rw [if_neg (by decide +kernel)]; exact ⟨rfl, rfl⟩))
    (fun os started H enc _ => ckptAreas_lifted os started H enc)
end Go.Proofs.Ytonckolkghbcbaa
