/- PdsTracks: the law, where what comes in is of bounded bulk. -/
import Derived.Test.YthjcnajpcphcpaaGreatG14
import Derived.Test.YthjcnajpcphcpaaGreatRows
namespace Go.Proofs.YthjcnajpcphcpaaGreat
open Go.AM Go.RowKit Go.ChangeShapes Go.WideShapes Go.ChangeAt Go.Deep
theorem own:ownKnob Tryz.prog.godebug=none:=by kernel_rfl
theorem laidOut:laidOutB Tryz.prog=true:=by kernel_rfl
theorem u4:Tryz.prog.underlying 4=some .bool:=by kernel_rfl
theorem bulkOk {H:Type}:BulkOk (H:=H) Rows.uptoBulk Rows.uptoBulkAll where
 one d:=by
  cases d with
  | lit l=>cases l <;> simp [Rows.uptoBulk]
  | _=>simp [Rows.uptoBulk]
 str l:=by simp [Rows.uptoBulk]
 sl a b:=by simp [Rows.uptoBulk]
 ag a:=by simp [Rows.uptoBulk]
 cons d l:=by simp [Rows.uptoBulkAll]
 nil:=by simp [Rows.uptoBulkAll]
set_option maxRecDepth 100000 in
theorem ur6 (xs:List AV) (hx:TyAll Tryz.prog 8 Tryz.f4.params.toList xs) (hb:AV.blkL xs≤1048576):Sound Tryz.prog 4 xs (.v (.bool true)):=by
 rw [show Tryz.f4.params.toList=[42,3] from by kernel_rfl] at hx
 match xs with
 | []=>exact hx.elim
 | [_]=>exact hx.2.elim
 | _ :: _ :: _ :: _=>exact hx.2.2.elim
 | [x,y] =>
  have hy:=hx.2.1
  have hx:=hx.1
  obtain ⟨d,rs,ms,hd,_⟩:=ty_content hx
  obtain ⟨k,rfl,_,_⟩:=vn7 un_3 hy
  have h1:=blk_of_dp hd
  simp only [AV.blkL,AV.blk,zh9] at hb h1
  obtain ⟨b1,b2⟩:=blk_meL ms
  refine Sound.dp ?_
  simp only [AV.dpL,AV.dp,hd]
  exact qq7 d rs ms k (by omega) fun m hm=>by
   obtain ⟨b3,b4⟩:=b2 m hm
   obtain ⟨b5,b6⟩:=blk_bbL m.recs
   exact ⟨by omega,by omega,fun r hr=>by have:=b6 r hr;omega⟩
set_option maxRecDepth 100000 in
theorem wt7 (os : Os) (started : os.Started) (H : Type) (enc : TypeId × Value → H) (F : Stop.Interp) :
  ReturnsInHanded {} Tryz.checked os 4 .any ((Rows.OpenSpec.upto Rows.pdsTracksSpec).pre6 enc Tryz.prog Tryz.f4 Rows.pdsTracksUptoRow.domain false) (((Rows.OpenSpec.upto Rows.pdsTracksSpec).at F).post enc Tryz.prog Tryz.f4 false true false false):=by
 refine returnsInHanded_of_cond_sized (C := Tryz.checked) (s := Rows.OpenSpec.upto Rows.pdsTracksSpec) (k := Rows.uptoSmall) rfl own started (by kernel_rfl) Tryz.func4
  (OpenSpec.witness (enc := enc) (C := Tryz.checked) (s := Rows.OpenSpec.upto Rows.pdsTracksSpec) (k := Rows.uptoSmall) rfl false ⟨#[], #[.agg #[.int .i64 0, .int .i64 0, .bool false, .bool false, .int .i64 0, .int .i64 0, .int .i64 0, .int .i64 0, .slice none 0 0, .slice none 0 0], .int .i64 0], []⟩ 8 (by kernel_rfl) (by kernel_rfl) (by kernel_rfl)
   (x:=([.agg [.agg [.lit (.int .i64 0),.lit (.int .i64 0),.lit (.bool false),.lit (.bool false),.lit (.int .i64 0),.lit (.int .i64 0),.lit (.int .i64 0),.lit (.int .i64 0)],.nil,.nil],.lit (.int .i64 0)],[],[])) (by kernel_rfl) rfl (by kernel_rfl)) ?_
 intro W base args ds gs before hval hW _ hk hsz _
 refine ug6 (BA:=Rows.uptoBulkAll) bulkOk (N:=1048576) (s:=Rows.pdsTracksSpec) (n:=8) (t:=4) laidOut (by decide +kernel) rfl rfl u4 ?_ ?_ base args ds gs before hval hW (of_decide_eq_true hk) hsz
 ·intro H ds hd
  match ds,hd with
  | [d0,d1],_=>rfl
 ·exact ur6
theorem pdsTracks_holds:Rows.PdsTracksUptoSaid :=
 OpenClaim.holds_of_cond 4 Tryz.f4 rfl rfl rfl rfl rfl rfl rfl ⟨rfl, rfl, rfl, rfl, rfl⟩ rfl rfl rfl rfl rfl (by kernel_rfl) Tryz.func4 (by kernel_rfl)
  (of_decide_eq_true (by kernel_rfl)) (by unfold Func.isWrapper;first | (rw [if_pos (by decide +kernel)];kernel_rfl) | (rw [if_neg (by decide +kernel)];exact ⟨rfl,rfl⟩))
  (fun os started H enc _ F=>wt7 os started H enc F)
end Go.Proofs.YthjcnajpcphcpaaGreat
