/- PdsReads: the law, where what comes in is of bounded bulk. -/
import Derived.Test.YthjcnajpcphcpaaGreatG13
import Derived.Test.YthjcnajpcphcpaaGreatRows
namespace Go.Proofs.YthjcnajpcphcpaaGreat
open Go.AM Go.RowKit Go.ChangeShapes Go.WideShapes Go.ChangeAt Go.Deep
theorem own:ownKnob Tryz.prog.godebug=none:=by kernel_rfl
theorem laidOut:laidOutB Tryz.prog=true:=by kernel_rfl
theorem u4:Tryz.prog.underlying 4=some .bool:=by kernel_rfl
theorem bulkOk {H:Type}:BulkOk (H:=H) Rows.uptoBulk Rows.uptoBulkAll where
 one d:=by
  cases d with
  | lit l=>cases l <;> simp [Rows.uptoBulk]
  | _=>simp [Rows.uptoBulk]
 str l:=by simp [Rows.uptoBulk]
 sl a b:=by simp [Rows.uptoBulk]
 ag a:=by simp [Rows.uptoBulk]
 cons d l:=by simp [Rows.uptoBulkAll]
 nil:=by simp [Rows.uptoBulkAll]
set_option maxRecDepth 100000 in
theorem pdsReads_all (xs:List AV) (hx:TyAll Tryz.prog 8 Tryz.f6.params.toList xs) (hb:AV.blkL xs≤1048576):Sound Tryz.prog 6 xs (.v (.bool true)):=by
 match xs,hx with
 | [z,x,y],⟨hz,hx,hy,_⟩ =>
  obtain ⟨d,hd,_⟩:=ty_dcb hz
  obtain ⟨a,ha,_⟩:=ty_area hx
  obtain ⟨s,rfl⟩:=ty_string24 un_9 hy
  have h1:=blk_of_dp ha
  have h2:AV.blk (strB s)=s.length+1:=by simp [strB,AV.blk,ByteArray.size]
  simp only [AV.blkL,AV.blk] at hb h1
  obtain ⟨b1,b2,b3,b4,b5⟩:=blk_area (t:=a) (N:=1048576) (by omega) (by omega)
  refine Sound.dp ?_
  simp only [AV.dpL,ha,hd]
  exact yl6 d a b1 b3 (by omega) s (by omega)
set_option maxRecDepth 100000 in
theorem qk7 (os : Os) (started : os.Started) (H : Type) (enc : TypeId × Value → H) (F : Stop.Interp) :
  ReturnsInHanded {} Tryz.checked os 6 .any ((Rows.OpenSpec.upto Rows.pdsReadsSpec).pre6 enc Tryz.prog Tryz.f6 Rows.pdsReadsUptoRow.domain false) (((Rows.OpenSpec.upto Rows.pdsReadsSpec).at F).post enc Tryz.prog Tryz.f6 false true false false):=by
 refine returnsInHanded_of_cond_sized (C := Tryz.checked) (s := Rows.OpenSpec.upto Rows.pdsReadsSpec) (k := Rows.uptoSmall) rfl own started (by kernel_rfl) Tryz.func6
  (OpenSpec.witness (enc := enc) (C := Tryz.checked) (s := Rows.OpenSpec.upto Rows.pdsReadsSpec) (k := Rows.uptoSmall) rfl false ⟨#[], #[.agg #[.int .i64 0, .int .i64 0, .bool false, .bool false, .int .i64 0, .int .i64 0, .int .i64 0, .int .i64 0], .slice none 0 0, .string ⟨#[]⟩], []⟩ 8 (by kernel_rfl) (by kernel_rfl) (by kernel_rfl)
   (x:=([.agg [.lit (.int .i64 0),.lit (.int .i64 0),.lit (.bool false),.lit (.bool false),.lit (.int .i64 0),.lit (.int .i64 0),.lit (.int .i64 0),.lit (.int .i64 0)],.nil,.lit (.string [])],[],[])) (by kernel_rfl) rfl (by kernel_rfl)) ?_
 intro W base args ds gs before hval hW _ hk hsz _
 refine ul6 (BA:=Rows.uptoBulkAll) bulkOk (N:=1048576) (s:=Rows.pdsReadsSpec) (n:=8) (t:=4) laidOut (by decide +kernel) rfl rfl u4 ?_ ?_ base args ds gs before hval hW (of_decide_eq_true hk) hsz
 ·intro H ds hd
  match ds,hd with
  | [d0,d1,d2],_=>rfl
 ·exact pdsReads_all
theorem pdsReads_holds:Rows.PdsReadsUptoSaid :=
 OpenClaim.holds_of_cond 6 Tryz.f6 rfl rfl rfl rfl rfl rfl rfl ⟨rfl, rfl, rfl, rfl, rfl⟩ rfl rfl rfl rfl rfl (by kernel_rfl) Tryz.func6 (by kernel_rfl)
  (of_decide_eq_true (by kernel_rfl)) (by unfold Func.isWrapper;first | (rw [if_pos (by decide +kernel)];kernel_rfl) | (rw [if_neg (by decide +kernel)];exact ⟨rfl,rfl⟩))
  (fun os started H enc _ F=>qk7 os started H enc F)
end Go.Proofs.YthjcnajpcphcpaaGreat
