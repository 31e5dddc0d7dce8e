/- ModuleCards: the law. -/
import Derived.Test.YtlhaljblcimnbaaGreatG14
import Derived.SizedLaws
import Derived.Test.YtlhaljblcimnbaaGreatRows
namespace Go.Proofs.YtlhaljblcimnbaaGreat
open Go.AM Go.RowKit Go.ChangeShapes Go.WideShapes Go.ChangeAt
theorem own:ownKnob Tryz.prog.godebug=none:=by kernel_rfl
theorem laidOut:laidOutB Tryz.prog=true:=by kernel_rfl
theorem u4:Tryz.prog.underlying 4=some .bool:=by kernel_rfl
theorem jw7 (xs:List AV) (hx:xf4 Tryz.prog 8 Tryz.f3.params.toList xs):Sound Tryz.prog 3 xs (.v (.bool true)):=by
 rw [show Tryz.f3.params.toList=[22,26,26,27,27,5] from rfl] at hx
 exact kf4 (n:=3) hx
set_option maxRecDepth 100000 in
theorem zg7 (os : Os) (started : os.Started) (H : Type) (enc : TypeId × Value → H) :
  ReturnsInHanded {} Tryz.checked os 3 .any (Rows.moduleCardsSpec.pre6 enc Tryz.prog Tryz.f3 Rows.moduleCardsRow.domain false) (Rows.moduleCardsSpec.post enc Tryz.prog Tryz.f3 false true false false):=by
 refine returnsInHanded_of_change_sized (C := Tryz.checked) own started (by kernel_rfl) Tryz.func3
  (ChangeSpec.witness6 (enc:=enc) (C:=Tryz.checked) false ⟨#[],#[.slice none 0 0,.agg #[.slice none 0 0,.slice none 0 0,.slice none 0 0,.int .u8 0,.slice none 0 0],.agg #[.slice none 0 0,.slice none 0 0,.slice none 0 0,.int .u8 0,.slice none 0 0],.int .u16 0,.int .u16 0,.int .u8 0],[]⟩ 8 (by kernel_rfl) (by kernel_rfl) (by kernel_rfl) (by kernel_rfl)) ?_
 intro W base args ds gs before hval hW _ hsz _
 refine yk5 (n:=8) (t:=4) laidOut (by decide +kernel) rfl rfl u4 ?_ ?_ base args ds gs before hval hW hsz
 ·intro H ds hd
  match ds,hd with
  | [d0,d1,d2,d3,d4,d5],_=>rfl
 ·exact jw7
theorem moduleCards_holds:Rows.ModuleCardsSaid :=
 OpenClaim.holds_of_wide 3 Tryz.f3 rfl rfl rfl rfl rfl rfl rfl ⟨rfl, rfl, rfl, rfl, rfl⟩ rfl rfl rfl rfl rfl (by kernel_rfl) Tryz.func3 (by kernel_rfl)
  (of_decide_eq_true (by kernel_rfl)) (by unfold Func.isWrapper;first | (rw [if_pos (by decide +kernel)];kernel_rfl) | (rw [if_neg (by decide +kernel)];exact ⟨rfl,rfl⟩))
  (fun os started H enc _=>zg7 os started H enc)
end Go.Proofs.YtlhaljblcimnbaaGreat
