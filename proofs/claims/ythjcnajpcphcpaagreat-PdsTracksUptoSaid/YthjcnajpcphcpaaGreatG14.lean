/- Parts of the walk: R23T C24Y. -/
import Derived.Test.YthjcnajpcphcpaaGreatG13
namespace Go.AM
open Go.RowKit Go.Proofs
set_option linter.unusedSimpArgs false
set_option linter.unusedVariables false
set_option maxHeartbeats 8000000
set_option maxRecDepth 20000
set_option maxRecDepth 20000
theorem un_9:Tryz.prog.underlying 9=some .string:=by kernel_rfl
theorem un_40:Tryz.prog.underlying 40=some (.slice 27):=by kernel_rfl
theorem ce27:Tryz.prog.cellsOf 27=2:=by kernel_rfl
theorem ce42:Tryz.prog.cellsOf 42=10:=by kernel_rfl
theorem fl27:flds Tryz.prog 27=some [(9,0,1),(25,1,1)]:=by kernel_rfl
theorem fl42:flds Tryz.prog 42=some [(23,0,8),(25,8,1),(40,9,1)]:=by kernel_rfl
theorem ty_string24 {n:Nat} {t:TypeId} {x:AV} (hu:Tryz.prog.underlying t=some .string) (h:TyV Tryz.prog (n+1) t x):∃ l:List UInt8,x=strB l:=by
 rcases h with ⟨h1,_⟩ | ⟨_,h⟩
 ·simp [isSt,hu] at h1
 ·simp only [TyC,hu] at h
  obtain ⟨s,hs,hl⟩:=h
  simp only [List.cons.injEq,and_true] at hs
  exact ⟨s.data.toList,by rw [hs];simp [strB]⟩
theorem ty_member {n:Nat} {x:AV} (h:TyV Tryz.prog (n+4) 27 x):∃ m:ME,x.dp=meA m:=by
 obtain ⟨ys,rfl,hl,hf⟩:=vb7 fl27 ce27 h
 match ys,hl,hf with
 | [a,b],_,hf =>
  obtain ⟨s,rfl⟩:=ty_string24 un_9 (wg8 (by kernel_rfl) (hf (9,0,1) (by simp)))
  obtain ⟨l,h1,_⟩:=ty_recs (wg8 (by kernel_rfl) (hf (25,1,1) (by simp)))
  exact ⟨⟨s,l⟩,by simp [AV.dp,AV.dpL,h1,meA,strB]⟩
theorem ty_members {n:Nat} {x:AV} (h:TyV Tryz.prog (n+5) 40 x):∃ l:List ME,x.dp=.lst .any 2 (meL l):=by
 obtain ⟨o,l,rfl,hl,_,hy⟩:=ty_slice un_40 h
 obtain ⟨bs,h1,h2,h3⟩:=xr7 (F:=meA) (Q:=fun _=>True) fun y hm=>by
  obtain ⟨m,hm⟩:=ty_member (hy y hm)
  exact ⟨m,hm,trivial⟩
 exact ⟨bs,by simp only [AV.dp,h1,ce27];rfl⟩
theorem st23:isSt Tryz.prog 23=true:=by kernel_rfl
theorem ty_dcbC {n:Nat} {ys:List AV} (h:TyC Tryz.prog (n+3) 23 ys):∃ d:Dcb,AV.dpL ys=dcbC d∧dcbOk d:=by
 obtain ⟨d,h1,h2⟩:=ty_dcb (n:=n) (x:=.agg ys) (.inl ⟨st23,ys,rfl,h⟩)
 simp only [AV.dp,dcbA,AV.agg.injEq] at h1
 exact ⟨d,h1,h2⟩
theorem dpL_app : ∀ (xs ys : List AV), AV.dpL (xs ++ ys) = AV.dpL xs ++ AV.dpL ys
 | [],ys=>rfl
 | x :: xs,ys=>by rw [List.cons_append,AV.dpL,AV.dpL,dpL_app xs ys,List.cons_append]
theorem ty_content {n:Nat} {x:AV} (h:TyV Tryz.prog (n+6) 42 x):∃ d rs ms,x.dp=.agg (zh9 d rs ms)∧dcbOk d:=by
 obtain ⟨ys,rfl,hl,hf⟩:=vb7 fl42 ce42 h
 match ys,hl,hf with
 | [a0,a1,a2,a3,a4,a5,a6,a7,b,c],_,hf =>
  obtain ⟨d,hd,hok⟩:=ty_dcbC (n:=n+2) (hf (23,0,8) (by simp))
  obtain ⟨rs,hr,_⟩:=ty_recs (wg8 (by kernel_rfl) (hf (25,8,1) (by simp)))
  obtain ⟨ms,hm⟩:=ty_members (wg8 (by kernel_rfl) (hf (40,9,1) (by simp)))
  refine ⟨d,rs,ms,?_,hok⟩
  have e:AV.dpL [a0,a1,a2,a3,a4,a5,a6,a7,b,c]=AV.dpL [a0,a1,a2,a3,a4,a5,a6,a7]++AV.dpL [b,c]:=by rw [← dpL_app];rfl
  have hd':AV.dpL [a0,a1,a2,a3,a4,a5,a6,a7]=dcbC d:=hd
  show AV.agg (AV.dpL _)=_
  rw [e,hd']
  simp only [AV.dpL,hr,hm,zh9,dcbC]
  rfl
theorem blk_byL (l:List UInt8):AV.blkL (byL l)=l.length:=by induction l <;> simp_all [xd9,AV.blkL,AV.blk];omega
theorem blk_bbL : ∀ l : List (List UInt8), l.length ≤ AV.blkL (bbL l) ∧ ∀ b ∈ l, b.length ≤ AV.blkL (bbL l)
 | []=>by simp
 | x :: l=>by
  have ih:=blk_bbL l
  rw [wh9,AV.blkL,AV.blk,blk_byL]
  refine ⟨by simp;omega,fun b hb=>?_⟩
  rcases List.mem_cons.1 hb with rfl | hb
  ·omega
  ·have:=ih.2 b hb;omega
theorem blk_meL : ∀ l : List ME, l.length ≤ AV.blkL (meL l) ∧ ∀ m ∈ l, m.name.length ≤ AV.blkL (meL l) ∧ AV.blkL (bbL m.recs) ≤ AV.blkL (meL l)
 | []=>by simp
 | x :: l=>by
  have ih:=blk_meL l
  have e:AV.blkL (meL (x :: l))=x.name.length+1+(AV.blkL (bbL x.recs)+1)+AV.blkL (meL l):=by
   simp [meL,AV.blkL,AV.blk,meA,strB,ByteArray.size]
  rw [e]
  refine ⟨by simp;omega,fun m hm=>?_⟩
  rcases List.mem_cons.1 hm with rfl | hm
  ·omega
  ·have:=ih.2 m hm;omega
theorem blk_of_dp {x y:AV} (h:x.dp=y):AV.blk x=AV.blk y:=by rw [← h,blk_dp]
end Go.AM
