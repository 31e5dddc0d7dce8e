/- CkptGoesOn: the law. -/
import Derived.Test.YtonckolkghbcbaaC38J
import Derived.Test.YtonckolkghbcbaaAmC
import Derived.Test.YtonckolkghbcbaaRows
namespace Go.Proofs.Ytonckolkghbcbaa
open Go.AM Go.RowKit Go.ChangeShapes Go.WideShapes Go.ChangeAt

theorem own : ownKnob Try.prog.godebug = none := by kernel_rfl
theorem laidOut : laidOutB Try.prog = true := by kernel_rfl
theorem u4 : Try.prog.underlying 4 = some .bool := by kernel_rfl
theorem fl49 : flds Try.prog 49 = some [(3, 0, 1), (5, 1, 1), (3, 2, 1), (4, 3, 1)] := by kernel_rfl
theorem ce49 : Try.prog.cellsOf 49 = 4 := by kernel_rfl
theorem un_46 : Try.prog.underlying 46 = some (.slice 49) := by kernel_rfl
theorem ty_try {n : Nat} {x : AV} (h : TyV Try.prog (n + 3) 49 x) : ∃ t : Trl, x.dp = trlA t ∧ True := by
  obtain ⟨ys, rfl, hl, hf⟩ := ty_struct fl49 ce49 h
  match ys, hl, hf with
  | [a, b, c, d], _, hf =>
    obtain ⟨m, rfl, h1, h2⟩ := ty_int un_3 (ty_fld (by kernel_rfl) (hf (3, 0, 1) (by simp)))
    obtain ⟨k, rfl, h3, h4⟩ := ty_int un_5 (ty_fld (by kernel_rfl) (hf (5, 1, 1) (by simp)))
    obtain ⟨o, rfl, h5, h6⟩ := ty_int un_3 (ty_fld (by kernel_rfl) (hf (3, 2, 1) (by simp)))
    obtain ⟨q, rfl⟩ := ty_bool un_4 (ty_fld (by kernel_rfl) (hf (4, 3, 1) (by simp)))
    have e : ((UInt8.ofNat k.toNat).toNat : Int) = k := by
      have m8 : IntKind.u8.min = 0 ∧ IntKind.u8.max = 255 := by decide +kernel
      rw [m8.1] at h3
      rw [m8.2] at h4
      rw [UInt8.toNat_ofNat']; omega
    exact ⟨⟨m, UInt8.ofNat k.toNat, o, q⟩, by simp only [AV.dp, AV.dpL, trlA, e], trivial⟩
theorem ty_tries {n : Nat} {x : AV} (h : TyV Try.prog (n + 4) 46 x) : ∃ l : List Trl, x.dp = .lst .any 4 (tyL l) ∧ l.length ≤ maxLen := by
  obtain ⟨o, l, rfl, hl, hy⟩ := ty_slice un_46 h
  obtain ⟨bs, h1, h2, h3⟩ := dpL_choose (F := trlA) (Q := fun _ => True) fun y hm => ty_try (hy y hm)
  exact ⟨bs, by simp only [AV.dp, h1, ce49]; rfl, by rw [h2]; exact hl⟩
theorem ckptGoesOn_all (xs : List AV) (hx : TyAll Try.prog 8 Try.f7.params.toList xs) : Sound Try.prog 7 xs (.v (.bool true)) := by
  rw [show Try.f7.params.toList = [3, 46] from rfl] at hx
  match xs with
  | [] => exact hx.elim
  | [_] => exact hx.2.elim
  | _ :: _ :: _ :: _ => exact hx.2.2.elim
  | [x, y] =>
    obtain ⟨m, rfl, _, _⟩ := ty_int (n := 7) un_3 hx.1
    have hy := hx.2.1
    obtain ⟨l, hl, h2⟩ := ty_tries hy
    refine Sound.dp ?_
    simp only [AV.dpL, hl, AV.dp]
    exact goesOn_sound m l (Nat.le_trans h2 (by decide))

set_option maxRecDepth 100000 in
theorem ckptGoesOn_lifted (os : Os) (started : os.Started) (H : Type) (enc : TypeId × Value → H) :
    ReturnsInHanded {} Try.checked os 7 .any (Rows.ckptGoesOnSpec.pre6 enc Try.prog Try.f7 Rows.ckptGoesOnRow.domain false) (Rows.ckptGoesOnSpec.post enc Try.prog Try.f7 false true false false) := by
  refine returnsInHanded_of_change (C := Try.checked) own started (by kernel_rfl) Try.func7
    (ChangeSpec.witness6 (enc := enc) (C := Try.checked) false ⟨#[], #[.int .i64 0, .slice none 0 0], []⟩ 8 (by kernel_rfl) (by kernel_rfl) (by kernel_rfl) (by kernel_rfl)) ?_
  intro W base args ds gs before hval hW _ _
  refine law_contract (n := 8) (t := 4) laidOut (by decide +kernel) rfl rfl u4 ?_ ?_ base args ds gs before hval hW
  · intro H ds hd
    match ds, hd with
    | [d0, d1], _ => rfl
  · exact ckptGoesOn_all

theorem ckptGoesOn_holds : Rows.CkptGoesOnSaid :=
  OpenClaim.holds_of_wide 7 Try.f7 rfl rfl rfl rfl rfl rfl rfl ⟨rfl, rfl, rfl, rfl, rfl⟩ rfl rfl rfl rfl rfl (by kernel_rfl) Try.func7 (by kernel_rfl)
    (of_decide_eq_true (by kernel_rfl)) (by unfold Func.isWrapper; first | (rw [if_pos (by decide +kernel)]; kernel_rfl) | (rw [if_neg (by decide +kernel)]; exact ⟨rfl, rfl⟩))
    (fun os started H enc _ => ckptGoesOn_lifted os started H enc)
end Go.Proofs.Ytonckolkghbcbaa
