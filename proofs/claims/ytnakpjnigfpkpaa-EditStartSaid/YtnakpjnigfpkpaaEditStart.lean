/- EditStart: the law. -/
import Derived.Test.YtnakpjnigfpkpaaC05L7
import Derived.Test.YtnakpjnigfpkpaaAmC
import Derived.Test.YtnakpjnigfpkpaaRows
namespace Go.Proofs.Ytnakpjnigfpkpaa
open Go.AM Go.RowKit Go.ChangeShapes Go.WideShapes Go.ChangeAt

theorem own : ownKnob Try.prog.godebug = none := by kernel_rfl
theorem laidOut : laidOutB Try.prog = true := by kernel_rfl
theorem u4 : Try.prog.underlying 4 = some .bool := by kernel_rfl
theorem u22 : Try.prog.underlying 22 = some (.slice 5) := by kernel_rfl
theorem u5 : Try.prog.underlying 5 = some (.int .u8) := by kernel_rfl
theorem u4' : Try.prog.underlying 4 = some .bool := by kernel_rfl
theorem c5 : Try.prog.cellsOf 5 = 1 := by kernel_rfl
theorem c37 : Try.prog.cellsOf 37 = 3 := by kernel_rfl
theorem f37 : flds Try.prog 37 = some [(22, 0, 1), (4, 1, 1), (22, 2, 1)] := by kernel_rfl
theorem num_of {n : Nat} {x : AV} (h : TyV Try.prog (n + 3) 37 x) : ∃ ds neg tl, x.weak = numA ds neg tl := by
  obtain ⟨ys, rfl, hl, hf⟩ := ty_struct f37 c37 h
  match ys, hl, hf with
  | [a, b, d], _, hf =>
    obtain ⟨o, l, rfl, _⟩ := ty_bytes u22 u5 c5 (ty_fld (by kernel_rfl) (hf (22, 0, 1) (by simp)))
    obtain ⟨b, rfl⟩ := ty_bool u4' (ty_fld (by kernel_rfl) (hf (4, 1, 1) (by simp)))
    obtain ⟨o', l', rfl, _⟩ := ty_bytes u22 u5 c5 (ty_fld (by kernel_rfl) (hf (22, 2, 1) (by simp)))
    exact ⟨l, b, l', by simp [AV.weak, AV.weakL, byL]⟩
theorem editStart_all (xs : List AV) (hx : TyAll Try.prog 7 Try.f7.params.toList xs) : Sound Try.prog 7 xs (.v (.bool true)) := by
  match xs, hx with
  | [x, y, z], ⟨hx, hy, hz, _⟩ =>
    obtain ⟨ds, neg, tl, hn⟩ := num_of hx
    obtain ⟨b, rfl⟩ := ty_u8 u5 hy
    obtain ⟨d, rfl⟩ := ty_u8 u5 hz
    refine Sound.weak ?_
    rw [show AV.weakL [x, .v (.int .u8 b.toNat), .v (.int .u8 d.toNat)] = [x.weak, .v (.int .u8 b.toNat), .v (.int .u8 d.toNat)] from rfl, hn]
    exact editStart_sound ds neg tl b d

set_option maxRecDepth 100000 in
theorem editStart_lifted (os : Os) (started : os.Started) (H : Type) (enc : TypeId × Value → H) :
    ReturnsInHanded {} Try.checked os 7 .any (Rows.editStartSpec.pre6 enc Try.prog Try.f7 Rows.editStartRow.domain false) (Rows.editStartSpec.post enc Try.prog Try.f7 false true false false) := by
  refine returnsInHanded_of_change (C := Try.checked) own started (by kernel_rfl) Try.func7
    (ChangeSpec.witness6 (enc := enc) (C := Try.checked) false ⟨#[], #[.agg #[.slice none 0 0, .bool false, .slice none 0 0], .int .u8 0, .int .u8 0], []⟩ 8 (by kernel_rfl) (by kernel_rfl) (by kernel_rfl) (by kernel_rfl)) ?_
  intro W base args ds gs before hval hW _ _
  refine law_contract (n := 7) (t := 4) laidOut (by decide +kernel) rfl rfl u4 ?_ ?_ base args ds gs before hval hW
  · intro H ds hd
    match ds, hd with
    | [d0, d1, d2], _ => rfl
  · exact editStart_all

theorem editStart_holds : Rows.EditStartSaid :=
  OpenClaim.holds_of_wide 7 Try.f7 rfl rfl rfl rfl rfl rfl rfl ⟨rfl, rfl, rfl, rfl, rfl⟩ rfl rfl rfl rfl rfl (by kernel_rfl) Try.func7 (by kernel_rfl)
    (of_decide_eq_true (by kernel_rfl)) (by unfold Func.isWrapper; first | (rw [if_pos (by decide +kernel)]; kernel_rfl) | (rw [if_neg (by decide +kernel)]; exact ⟨rfl, rfl⟩))
    (fun os started H enc _ => editStart_lifted os started H enc)
end Go.Proofs.Ytnakpjnigfpkpaa
