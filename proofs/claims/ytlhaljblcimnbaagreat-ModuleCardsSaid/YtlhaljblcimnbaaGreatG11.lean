/- Parts of the walk: Z31LC Z31OI Z31MC Z31DE Z31DF Z31RC Z31RD Z31RE Z31RF. -/
import Derived.Test.YtlhaljblcimnbaaGreatG10
namespace Go.AM
open Go.RowKit Go.Proofs
set_option linter.unusedSimpArgs false
set_option linter.unusedVariables false
set_option maxHeartbeats 8000000
structure LSm (m:LMod):Prop where
 s:m.seg.length≤100000
 t:m.text.length≤10000000
 r:m.rel.length≤10000000
theorem ks4 {o:OMod} (h:chkM o=true):∃ S N nx,uf9 o.esd [] [] 1=some (S,N,nx)∧EInv o.esd S N nx:=by
 simp only [chkM,Bool.and_eq_true] at h
 obtain ⟨h1,h2,h3⟩:=h
 cases hG:uf9 o.esd [] [] 1 with
 | none=>rw [hG] at h2;simp [esdB] at h2
 | some p =>
  obtain ⟨S,N,nx⟩:=p
  exact ⟨S,N,nx,rfl,by simpa using jg9 o.esd [] [] S [] N 1 nx EInv.nil hG⟩
theorem qc6 {o:OMod} (h:chkM o=true):∀ x∈o.esd,x.kind≠2→1≤x.id:=by
 obtain ⟨S,N,nx,_,hE⟩:=ks4 h
 intro x hx hk
 have h1:=hE.t1 x.id
 have h2:o.esd.any (isTg x.id)=true:=List.any_eq_true.2 ⟨x,hx,by simp [isTg,hk]⟩
 rw [h2] at h1
 have h3:=h1.symm
 simp only [Bool.and_eq_true,decide_eq_true_eq] at h3
 exact h3.1
structure OSm (o:OMod):Prop where
 i:OIn o
 e:o.esd.length≤1000000
 t:o.txt.length≤1000000
 r:o.rld.length≤1000000
def FlS (fe ft fr:Fl) (o:OMod):Prop:=(fe=.nil∧o.esd=[]∨fe=.tip 50 145)∧(ft=.nil∧o.txt=[]∨ft=.tip 42 111)∧(fr=.nil∧o.rld=[]∨fr=.tip 46 199)
theorem zg8 (L : List (List UInt8)) (hL : L.length ≤ 100000) :
  Sound Tryz.prog 17 [.lst .any 1 (bbL L)] (.tup [obA (dcD false L).1,.v (.bool (dcD false L).2)]):=by
 refine uh9 Tryz.func17 rfl (by decide +kernel) (by simp [Tryz.f17]) rfl rfl (rs:=[.cell 2 33,.tmp 3]) rfl ?_
 rw [show Tryz.f17.ntmps=118 from rfl]
 refine yt9 [0,2] (by simp;rfl) ?_
 refine yt9 [0,2,4] (by simp;rfl) ?_
 refine yt9 [0,2,4,5] (by simp;rfl) ?_
 refine xh9 (fun σ=>∃ (o:OMod) (nx:Int) (fe ft fr:Fl),goD false L (om0,1)=some (o,nx)∧OBd (o,nx) L.length∧FlS fe ft fr o∧σ=⟨118,[(0,.lst .any 1 (bbL L)),(2,.loc 0 0),(4,.loc 1 0),(5,.v (.int .i64 nx))],[.cells 33 zObD,.cells 33 (oF fe ft fr o)]⟩) ?_ ?_
 ·refine yt9 [0, 2, 4, 5, 6] (by simp; rfl) ?_
  refine ys9 ?_
  refine zl9 (fun k s => ∃ (i : Nat) (o : OMod) (nx : Int) (fe ft fr : Fl), k = L.length - i ∧ i ≤ L.length ∧ goD false (L.drop i) (o, nx) = goD false L (om0, 1) ∧ OBd (o, nx) i ∧ FlS fe ft fr o ∧
   s=⟨118,[(0,.lst .any 1 (bbL L)),(2,.loc 0 0),(4,.loc 1 0),(5,.v (.int .i64 nx)),(6,.v (.int .i64 (i:Nat)))],[.cells 33 zObD,.cells 33 (oF fe ft fr o)]⟩) (k:=L.length) ⟨0,om0,1,.nil,.nil,.nil,rfl,by omega,rfl,⟨by simp [om0],by simp [om0],by simp [om0],by omega,by simp,⟨by simp [om0],by simp [om0],by simp [om0]⟩⟩,⟨.inl ⟨rfl,rfl⟩,.inl ⟨rfl,rfl⟩,.inl ⟨rfl,rfl⟩⟩,by simp [oF,om0,esL,txL,rdL,strB,zObD,yf9]⟩ ?_
  rintro k s ⟨i,o,nx,fe,ft,fr,rfl,hi,hgo,hB,hfl,rfl⟩
  refine yl9 ?_
  by_cases c:i < L.length
  rotate_left
  ·refine W_cF [0,2,4,5,15] (by simp [c];rfl) rfl ?_
   refine zs9 [0,2,4,5] ?_
   refine zj9 ?_
   have hiL:i=L.length:=by omega
   refine ⟨o,nx,fe,ft,fr,?_,?_,hfl,by simp⟩
   ·rw [← hgo,hiL,List.drop_length,goD]
   ·rw [hiL] at hB;exact hB
  have ci:(i:Int) < L.length:=by omega
  obtain ⟨b,hb⟩:∃ b,L[i]?=some b:=⟨_,List.getElem?_eq_getElem c⟩
  have hb2:L[i]'c=b:=by rw [List.getElem?_eq_getElem c] at hb;exact Option.some.inj hb
  have hdr:L.drop i=b :: L.drop (i+1):=by rw [List.drop_eq_getElem_cons c,hb2]
  have wi:=w64 (n:=(i:Int)+1) (by omega) (by omega)
  rw [hdr,goD] at hgo
  refine W_cT [0,2,4,5,6,15] (by simp [c,ci];rfl) rfl ?_
  refine yk9 ?_
  refine yl9 ?_
  refine ys9 ?_
  refine yt9 [0,2,4,5,6,7] (by simp [c,ci,hb2];rfl) ?_
  refine yl9 ?_
  by_cases c80:b.length=80
  rotate_left
  ·have c80i:¬ (b.length:Int)=80:=by omega
   have c80b:((b.length:Int) != 80)=true:=by simpa using c80i
   have c80c:((b.length:Int) == 80)=false:=by simpa using c80i
   rw [if_neg c80] at hgo
   refine W_cT [0,2,4,5,6,7,24] (by simp [c80,c80i,c80b,c80c];rfl) rfl ?_
   refine yt9 [2,3] (by simp [yf9];rfl) ?_
   refine yn9 ?_
   repeat (first | refine yg9 ?_ | refine yh9 ?_)
   have hd:dcD false L=(om0,false):=by rw [dcD,← hgo]
   rw [hd]
   exact ul9 (r0:=.tup _) ⟨.inr rfl,_,_,by simp [zObD,yf9];rfl,by simp;exact ⟨rfl,rfl⟩,by simp [AV.rf,AV.rfL]⟩ (by simp [AV.plain,AV.plainL,om0,esL,txL,rdL,strB])
  have c80i:(b.length:Int)=80:=by omega
  rw [if_pos c80] at hgo
  have h80:∀ n:Nat,n≤80→n≤b.length:=fun n h=>by omega
  obtain ⟨A,hA⟩:∃ A,sbM b 1 3=A:=⟨_,rfl⟩
  have eA:(List.take 4 (byL b)).tail=byL A:=by rw [← hA,sbM,← List.drop_one,← xf9,← wd9,List.drop_take]
  have hdc:=yl8 A (by rw [← hA,yg8 _ _ _ (by omega)];omega)
  obtain ⟨nm,hnm⟩:∃ s,decM A=s:=⟨_,rfl⟩
  rw [hnm] at hdc
  have hv2:=qf9 b 10 2 (by omega) (by omega) (by omega)
  have hVl:=xm8 2 (sbM b 10 2) (by rw [yg8 _ _ _ (by omega)])
  have hp2:(256:Nat) ^ 2=65536:=by decide
  obtain ⟨V,hV⟩:∃ V,valM (sbM b 10 2)=V:=⟨_,rfl⟩
  rw [show valM ((b.drop 10).take 2)=V from hV] at hv2
  rw [hV] at hVl
  have hitem : wk7 false (o, nx) b = if nm = vd9 then some (⟨(rdEs b o.esd nx (cntE false V)).1, o.txt, o.rld, o.entry⟩, (rdEs b o.esd nx (cntE false V)).2)
    else if nm=qh9 then (if 56 < V then none else some (⟨o.esd,o.txt++[⟨valM (sbM b 14 2),valM (sbM b 5 3),sbM b 16 (min V 56)⟩],o.rld,o.entry⟩,nx))
    else if nm=qr9 then some (⟨o.esd,o.txt,o.rld++rdRs b (cntR false V),o.entry⟩,nx)
    else if nm=vw9 then some (⟨o.esd,o.txt,o.rld,nmM (sbM b 16 8)⟩,nx) else some (o,nx):=by
   unfold wk7
   rw [hA,hnm,hV]
   simp
  have hBn:∀ s',wk7 false (o,nx) b=some s'→OBd s' (i+1):=fun s' h=>hB.item c80 h
  obtain ⟨hB1,hB2,hB3,hB4,hB5,hB6⟩:=hB
  simp only at hB1 hB2 hB3 hB4 hB5
  refine W_cF [0,2,4,5,6,7,24] (by simp [c80,c80i];rfl) rfl ?_
  refine yk9 ?_
  refine W_rK [0,2,4,5,6,7,28] ?_
  refine yq9 2 (by simp [c80,c80i,h80];rfl) rfl ?_
  refine yd9 (by simp) (by simp [eA];rfl) hdc (by simp;rfl) ?_
  refine yw9 (by simp [strB];rfl) ?_
  refine ys9 ?_
  by_cases t1:nm=vd9
  ·have hit:=hitem
   rw [if_pos t1] at hit
   have hBs:=hBn _ hit
   rw [hit] at hgo
   simp only at hgo
   have t1b:(nm == [69,83,68])=true:=by rw [vc8];simpa [vd9] using t1
   refine W_cT [0,2,4,5,6,7,28,29] (by simp [t1b];rfl) rfl ?_
   have hcall:=yr4 b c80 nx hB4 (by omega) o.esd (by omega) fe hfl.1 zObD (.lst ft 3 (txL o.txt)) (.lst fr 5 (rdL o.rld)) (strB o.entry) (zj7 hfl.2.1 (by decide)) (zj7 hfl.2.2 (by decide)) rfl rfl (by simp [AV.under]) (by simp [AV.under]) rfl rfl
   rw [hV] at hcall
   refine W_rE [0,2,4,5,6] ?_
   refine yq9 2 (by simp;rfl) rfl ?_
   refine zr9 (f:=38) (args:=[.loc 1 0,.lst .any 1 (byL b),.v (.int .i64 nx)]) (by simp) (by first | (simp;done) | (simp;rfl)) (hcall.mono ?_)
   rintro r h' ⟨fe',rfl,hfe',rfl⟩
   refine ⟨_,by simp;rfl,?_⟩
   refine yw9 (by simp;rfl) ?_
   refine zq9 [0,2,4,5,6] (by simp [wi];rfl) ?_
   exact ⟨_,by omega,i+1,_,_,fe',ft,fr,rfl,by omega,hgo,hBs,⟨hfe',hfl.2.1,hfl.2.2⟩,by simp [oF]⟩
  have t1b:(nm == [69,83,68])=false:=by rw [vc8];simpa [vd9] using t1
  rw [if_neg t1] at hitem
  refine W_cF [0,2,4,5,6,7,28,29] (by simp [t1b];rfl) rfl ?_
  by_cases t2:nm=qh9
  ·have hit := hitem
   rw [if_pos t2] at hit
   have t2b:(nm == [84,88,84])=true:=by rw [vc8];simpa [qh9] using t2
   refine W_cT [0,2,4,5,6,7,34] (by simp [t2b];rfl) rfl ?_
   refine W_rK [0,2,4,5,6,7,8] ?_
   refine yq9 1 (by simp;rfl) rfl ?_
   refine yd9 (by simp) (by first | (simp;done) | (simp;rfl)) hv2 (by simp;rfl) ?_
   refine yw9 (by simp;rfl) ?_
   refine yl9 ?_
   by_cases h56:56 < V
   ·have h56i:(56:Int) < V:=by omega
    rw [if_pos h56] at hit
    rw [hit] at hgo
    simp only at hgo
    refine W_cT [0,2,4,5,6,7,8,39] (by simp [h56,h56i];rfl) rfl ?_
    refine yt9 [2,3] (by simp [yf9];rfl) ?_
    refine yn9 ?_
    repeat (first | refine yg9 ?_ | refine yh9 ?_)
    have hd:dcD false L=(om0,false):=by rw [dcD,← hgo]
    rw [hd]
    exact ul9 (r0:=.tup _) ⟨.inr rfl,_,_,by simp [zObD,yf9];rfl,by simp;exact ⟨rfl,rfl⟩,by simp [AV.rf,AV.rfL]⟩ (by simp [AV.plain,AV.plainL,om0,esL,txL,rdL,strB])
   have h56i:¬ (56:Int) < V:=by omega
   rw [if_neg h56] at hit
   have hBs:=hBn _ hit
   rw [hit] at hgo
   simp only at hgo
   rw [show min V 56=V by omega] at hgo hBs
   have hm56:V≤56:=by omega
   refine W_cF [0,2,4,5,6,7,8,39] (by simp [h56,h56i];rfl) rfl ?_
   refine yk9 ?_
   have hvB1:=qf9 b 14 2 (by omega) (by omega) (by omega)
   obtain ⟨V1,hV1⟩:∃ W,valM (sbM b 14 2)=W:=⟨_,rfl⟩
   have hvB2:=qf9 b 5 3 (by omega) (by omega) (by omega)
   obtain ⟨V2,hV2⟩:∃ W,valM (sbM b 5 3)=W:=⟨_,rfl⟩
   rw [show valM ((b.drop 14).take 2)=V1 from hV1] at hvB1
   rw [show valM ((b.drop 5).take 3)=V2 from hV2] at hvB2
   obtain ⟨D,hD⟩:∃ D,sbM b 16 V=D:=⟨_,rfl⟩
   have eD:List.drop 16 (List.take (16+V) (byL b))=byL D:=by rw [← hD,sbM,← xf9,← wd9,List.drop_take,Nat.add_sub_cancel_left]
   have hDl:D.length≤56:=by rw [← hD,yg8 _ _ _ (by omega)];omega
   have hDb:D.length≤140737488355328:=by omega
   have wm:=w64 (n:=16+(V:Int)) (by omega) (by omega)
   have hq:16+V≤b.length:=by omega
   have hqi:16+(V:Int)≤b.length:=by omega
   have hq0:(0:Int)≤16+(V:Int):=by omega
   have hq1:(16:Int)≤16+(V:Int):=by omega
   have hq2:16+(V:Int)≤80:=by omega
   have hq3:16+V≤80:=by omega
   have hq4:16≤16+V:=by omega
   have hqt:(16+(V:Int)).toNat=16+V:=by omega
   have hl0:∀ q:Int,q≤80→q≤b.length:=fun q h=>by omega
   rw [hV1,hV2,hD] at hgo hBs
   have hby:(o.txt.length+1) * 40≤140737488355328:=by omega
   have hk1:∀ s x,AV.kill 111 (.lst fe s x)=.lst fe s x:=fun s x=>zj7 hfl.1 (by decide)
   have hk2:∀ s x,AV.kill 111 (.lst fr s x)=.lst fr s x:=fun s x=>zj7 hfl.2.2 (by decide)
   have hk3:AV.kill 111 (strB o.entry)=strB o.entry:=rfl
   have hj1:∀ s x,AV.kill 190 (.lst fe s x)=.lst fe s x:=fun s x=>zj7 hfl.1 (by decide)
   have hj2:∀ s x,AV.kill 190 (.lst fr s x)=.lst fr s x:=fun s x=>zj7 hfl.2.2 (by decide)
   have hj3:AV.kill 190 (strB o.entry)=strB o.entry:=rfl
   have hsn:txL (o.txt++[⟨V1,V2,D⟩])=txL o.txt++[txA ⟨V1,V2,D⟩]:=by rw [wr4,xm4]
   obtain ⟨es,txt,rld,en⟩:=o
   simp only at hfl hsn hby hk3 hj3 hgo hBs hB1 hB2 hB3 ⊢
   rcases hfl.2.1 with ⟨rfl,ht0⟩ | rfl
   ·subst ht0
    refine qt9 [0,2,4,5,6] mx (by decide +kernel) ?_
    refine yr9 3 (by simp [c80,c80i,h80,oF,ww4];rfl) rfl ?_
    refine zw9 (by simp) (by first | (simp;done) | (simp;rfl)) hvB1 (by simp;rfl) ?_
    refine yr9 1 (by simp [c80,c80i,h80];rfl) rfl ?_
    refine zw9 (by simp) (by first | (simp;done) | (simp;rfl)) hvB2 (by simp;rfl) ?_
    refine yr9 5 (by simp [c80,c80i,h80,hl0,wm,hq,hqi,hq0,hq1,hq2,hq3,hq4,hqt,eD,-AV.kill,uh8,uv9,ub9,uc9,us9,un9,hj1,hj2,hj3];rfl) rfl ?_
    refine ym9 (by simp [hby,hDb,yf9,-AV.kill,uh8,uv9,ub9,uc9,us9,un9,hk1,hk2,hk3,hj1,hj2,hj3];rfl) ?_
    refine zq9 [0,2,4,5,6] (by simp [wi];rfl) ?_
    exact ⟨_,by omega,i+1,_,_,fe,.tip 42 111,fr,rfl,by omega,hgo,hBs,⟨hfl.1,.inr rfl,hfl.2.2⟩,by simp [oF,txL,yf9,strB,zObD,-AV.kill,uh8,uv9,ub9,uc9,us9,un9,hk1,hk2,hk3,hj1,hj2,hj3]⟩
   ·refine qt9 [0,2,4,5,6] mx (by decide +kernel) ?_
    refine yr9 3 (by simp [c80,c80i,h80,oF];rfl) rfl ?_
    refine zw9 (by simp) (by first | (simp;done) | (simp;rfl)) hvB1 (by simp;rfl) ?_
    refine yr9 1 (by simp [c80,c80i,h80];rfl) rfl ?_
    refine zw9 (by simp) (by first | (simp;done) | (simp;rfl)) hvB2 (by simp;rfl) ?_
    refine yr9 5 (by simp [c80,c80i,h80,hl0,wm,hq,hqi,hq0,hq1,hq2,hq3,hq4,hqt,eD,-AV.kill,uh8,uv9,ub9,uc9,us9,un9,hj1,hj2,hj3];rfl) rfl ?_
    refine ym9 (by simp [hby,hDb,yf9,-AV.kill,uh8,uv9,ub9,uc9,us9,un9,hk1,hk2,hk3,hj1,hj2,hj3];rfl) ?_
    refine zq9 [0,2,4,5,6] (by simp [wi];rfl) ?_
    exact ⟨_,by omega,i+1,_,_,fe,.tip 42 111,fr,rfl,by omega,hgo,hBs,⟨hfl.1,.inr rfl,hfl.2.2⟩,by simp [oF,hsn,yf9,strB,zObD,-AV.kill,uh8,uv9,ub9,uc9,us9,un9,hk1,hk2,hk3,hj1,hj2,hj3]⟩
  have t2b:(nm == [84,88,84])=false:=by rw [vc8];simpa [qh9] using t2
  rw [if_neg t2] at hitem
  refine W_cF [0,2,4,5,6,7,28,34] (by simp [t2b];rfl) rfl ?_
  by_cases t3:nm=qr9
  ·have hit := hitem
   rw [if_pos t3] at hit
   have hBs:=hBn _ hit
   rw [hit] at hgo
   simp only at hgo
   have t3b:(nm == [82,76,68])=true:=by rw [vc8];simpa [qr9] using t3
   refine W_cT [0,2,4,5,6,7,57] (by simp [t3b];rfl) rfl ?_
   obtain ⟨n,hn⟩:∃ n,cntR false V=n:=⟨_,rfl⟩
   have hnc:n=min 7 ((V+7) / 8):=by rw [← hn];rfl
   have hn7:n≤7:=by omega
   rw [hn] at hgo hBs
   have hk1:∀ s x,AV.kill 199 (.lst fe s x)=.lst fe s x:=fun s x=>zj7 hfl.1 (by decide)
   have hk2:∀ s x,AV.kill 199 (.lst ft s x)=.lst ft s x:=fun s x=>zj7 hfl.2.1 (by decide)
   have hk3:AV.kill 199 (strB o.entry)=strB o.entry:=rfl
   refine yt9 [0,2,4,5,6,7,9] (by simp;rfl) ?_
   refine ys9 ?_
   refine zl9 (fun k s => ∃ (j : Nat) (gs : Fl), k = n - j ∧ j ≤ n ∧ (gs = .nil ∧ o.rld ++ rdRs b j = [] ∨ gs = .tip 46 199) ∧
    s=⟨118,[(0,.lst .any 1 (bbL L)),(2,.loc 0 0),(4,.loc 1 0),(5,.v (.int .i64 nx)),(6,.v (.int .i64 (i:Nat))),(7,.lst .any 1 (byL b)),(9,.v (.int .i64 ((16+8 * j:Nat):Int)))],[.cells 33 zObD,.cells 33 [.lst fe 5 (esL o.esd),.lst ft 3 (txL o.txt),.lst gs 5 (rdL (o.rld++rdRs b j)),strB o.entry]]⟩) (k:=n) ⟨0,fr,rfl,by omega,by simpa [rdRs] using hfl.2.2,by simp [oF,rdRs]⟩ ?_
   rintro k s ⟨j,gs,rfl,hj,hgs,rfl⟩
   obtain ⟨q,hq⟩:∃ q,16+8 * j=q:=⟨_,rfl⟩
   rw [hq]
   have w1:IntKind.i64.wrap ((q:Int)+8)=(q:Int)+8:=w64 (by omega) (by omega)
   have w2:IntKind.i64.wrap ((q:Int) - 16)=(q:Int) - 16:=w64 (by omega) (by omega)
   refine yl9 ?_
   by_cases c':j < n
   rotate_left
   ·have hjn : j = n := by omega
    subst hjn
    have fin : ∃ k', k' < L.length - i ∧ ∃ (i' : Nat) (o' : OMod) (nx' : Int) (fe' ft' fr' : Fl), k' = L.length - i' ∧ i' ≤ L.length ∧ goD false (L.drop i') (o', nx') = goD false L (om0, 1) ∧ OBd (o', nx') i' ∧ FlS fe' ft' fr' o' ∧
      (⟨118, [(0, .lst .any 1 (bbL L)), (2, .loc 0 0), (4, .loc 1 0), (5, .v (.int .i64 nx)), (6, .v (.int .i64 ((i : Int) + 1)))], [.cells 33 zObD, .cells 33 [.lst fe 5 (esL o.esd), .lst ft 3 (txL o.txt), .lst gs 5 (rdL (o.rld ++ rdRs b j)), strB o.entry]]⟩ : St) =
       ⟨118,[(0,.lst .any 1 (bbL L)),(2,.loc 0 0),(4,.loc 1 0),(5,.v (.int .i64 nx')),(6,.v (.int .i64 (i':Nat)))],[.cells 33 zObD,.cells 33 (oF fe' ft' fr' o')]⟩ :=
     ⟨_,by omega,i+1,_,_,fe,ft,gs,rfl,by omega,hgo,hBs,⟨hfl.1,hfl.2.1,hgs⟩,by simp [oF]⟩
    by_cases c7:j < 7
    ·have d1:(q:Int)+8≤72:=by omega
     have d2:¬ ((q:Int) - 16 < (V:Nat)):=by omega
     refine W_rK [0,2,4,5,6,68] ?_
     refine yq9 7 (by simp [w1,w2,d1];rfl) rfl ?_
     refine yd9 (by simp) (by first | (simp;done) | (simp;rfl)) hv2 (by simp;rfl) ?_
     refine yw9 (by simp [w1,w2,d1,d2];rfl) ?_
     refine yp9 rfl (fun h=>by simp at h) (fun h=>?_)
     refine zj9 ?_
     refine zq9 [0,2,4,5,6] (by simp [wi];rfl) ?_
     exact fin
    ·have d1:¬ (q:Int)+8≤72:=by omega
     refine W_rK [0,2,4,5,6,68] ?_
     refine yq9 4 (by simp [w1,w2,d1];rfl) rfl ?_
     refine yq9 5 (by simp [w1,w2,d1];rfl) rfl ?_
     refine yw9 (by simp [w1,w2,d1];rfl) ?_
     refine yp9 rfl (fun h=>by simp at h) (fun h=>?_)
     refine zj9 ?_
     refine zq9 [0,2,4,5,6] (by simp [wi];rfl) ?_
     exact fin
   have d1:(q:Int)+8≤72:=by omega
   have d2:(q:Int) - 16 < (V:Nat):=by omega
   have hq72:q+8≤72:=by omega
   obtain ⟨R,hR⟩:∃ R,o.rld++rdRs b j=R:=⟨_,rfl⟩
   have hRl:R.length≤100000000:=by rw [← hR];simp [rdRs];omega
   obtain ⟨X,hX⟩:∃ X,b.drop q=X:=⟨_,rfl⟩
   have hnext:o.rld++rdRs b (j+1)=R++[rdR8 X]:=by rw [jn6,← List.append_assoc,hR,hq,hX]
   have wq2:IntKind.i64.wrap ((q:Int)+2)=((q+2:Nat):Int):=by rw [w64 (by omega) (by omega)];omega
   have wq4:IntKind.i64.wrap ((q:Int)+4)=((q+4:Nat):Int):=by rw [w64 (by omega) (by omega)];omega
   have wq5:IntKind.i64.wrap ((q:Int)+5)=((q+5:Nat):Int):=by rw [w64 (by omega) (by omega)];omega
   have wq8:IntKind.i64.wrap ((q:Int)+8)=((16+8 * (j+1):Nat):Int):=by rw [w64 (by omega) (by omega)];omega
   have hvB1:=qf9 b q 2 (by omega) (by omega) (by omega)
   have hvB2:=qf9 b (q+2) 2 (by omega) (by omega) (by omega)
   have hvB3:=qf9 b (q+5) 3 (by omega) (by omega) (by omega)
   obtain ⟨V1,hV1⟩:∃ W,valM (X.take 2)=W:=⟨_,rfl⟩
   obtain ⟨V2,hV2⟩:∃ W,valM (sbM X 2 2)=W:=⟨_,rfl⟩
   obtain ⟨V3,hV3⟩:∃ W,valM (sbM X 5 3)=W:=⟨_,rfl⟩
   rw [show valM ((b.drop q).take 2)=V1 by rw [hX,hV1]] at hvB1
   rw [show valM ((b.drop (q+2)).take 2)=V2 by rw [← hV2,← hX,wr8,sbM]] at hvB2
   rw [show valM ((b.drop (q+5)).take 3)=V3 by rw [← hV3,← hX,wr8,sbM]] at hvB3
   have hx4':q+4 < b.length:=by omega
   obtain ⟨x,hx⟩:∃ x,b[q+4]?=some x:=⟨_,List.getElem?_eq_getElem hx4'⟩
   have hx2':b[q+4]'hx4'=x:=by rw [List.getElem?_eq_getElem hx4'] at hx;exact Option.some.inj hx
   have hxd:X.getD 4 0=x:=by rw [← hX,zb7,List.getD_eq_getElem?_getD,hx];rfl
   obtain ⟨q2,hq2⟩:∃ x,q+2=x:=⟨_,rfl⟩
   obtain ⟨q4,hq4⟩:∃ x,q+4=x:=⟨_,rfl⟩
   obtain ⟨q5,hq5⟩:∃ x,q+5=x:=⟨_,rfl⟩
   rw [hq2] at wq2 hvB2
   rw [hq5] at wq5 hvB3
   rw [hq4] at wq4
   have hx4:q4 < b.length:=by omega
   have hx4i:(q4:Int) < b.length:=by omega
   have hx3':b[q4]'hx4=x:=by subst hq4;exact hx2'
   have hxl:=x.toNat_lt
   obtain ⟨K,hK⟩:∃ K,x.toNat=K:=⟨_,rfl⟩
   rw [hK] at hxl
   have wK:=w64 (n:=(K:Int)) (by omega) (by omega)
   obtain ⟨Y,hY⟩:∃ Y,K / 4=Y:=⟨_,rfl⟩
   obtain ⟨Z,hZ⟩:∃ Z,K / 2=Z:=⟨_,rfl⟩
   have e4:(K:Int).tdiv 4=(Y:Nat):=by rw [← hY];rfl
   have e2:(K:Int).tdiv 2=(Z:Nat):=by rw [← hZ];rfl
   have wY:=w64 (n:=(Y:Int)) (by omega) (by omega)
   have wZ:=w64 (n:=(Z:Int)) (by omega) (by omega)
   have wY1:=w64 (n:=(Y:Int)+1) (by omega) (by omega)
   obtain ⟨U,hU⟩:∃ U,Z % 2=U:=⟨_,rfl⟩
   have e1:(Z:Int).tmod 2=(U:Nat):=by rw [← hU];rfl
   have wU:=w64 (n:=(U:Int)) (by omega) (by omega)
   obtain ⟨ng,hng⟩:∃ g,decide (U=1)=g:=⟨_,rfl⟩
   have hz1:((U:Int) == 1)=ng:=by
    rw [← hng,Bool.eq_iff_iff]
    simp only [beq_iff_eq,decide_eq_true_eq]
    omega
   have hz2:decide ((U:Int)=1)=ng:=hz1
   have hz3:decide (U=1)=ng:=hng
   have hrs:rdR8 X=⟨V2,V1,V3,(Y:Int)+1,ng⟩:=by rw [rdR8,hV1,hV2,hV3,hxd,hK,hY,hZ,hU,hng];rfl
   have hby:(R.length+1) * 40≤140737488355328:=by omega
   have hsn:rdL (R++[rdR8 X])=rdL R++[rdA (rdR8 X)]:=by rw [vj4,vg4]
   rw [hrs] at hsn hnext
   rw [hR] at hgs ⊢
   refine W_rK [0,2,4,5,6,7,9,68] ?_
   refine yq9 7 (by simp [w1,w2,d1];rfl) rfl ?_
   refine yd9 (by simp) (by first | (simp;done) | (simp;rfl)) hv2 (by simp;rfl) ?_
   refine yw9 (by simp [w1,w2,d1,d2];rfl) ?_
   refine yp9 rfl (fun h=>?_) (fun h=>by simp at h)
   refine yk9 ?_
   refine yl9 ?_
   refine ys9 ?_
   refine yt9 [0,2,4,5,6,7,9,10] (by simp [wq4,hx4,hx4i,hx3',hK,wK];rfl) ?_
   rcases hgs with ⟨rfl,hr0⟩ | rfl
   ·subst hr0
    refine qt9 [0,2,4,5,6,7,9] mx (by decide +kernel) ?_
    refine yr9 4 (by simp [vh4];rfl) rfl ?_
    refine zw9 (by simp) (by first | (simp;done) | (simp;rfl)) hvB1 (by simp;rfl) ?_
    refine yr9 3 (by simp [wq2];rfl) rfl ?_
    refine zw9 (by simp) (by first | (simp;done) | (simp;rfl)) hvB2 (by simp;rfl) ?_
    refine yr9 7 (by simp [e4,e2,e1,wY,wY1,wZ,wU,hz1,hz2,hz3,-Int.natCast_ediv];rfl) rfl ?_
    refine yr9 3 (by simp [wq5];rfl) rfl ?_
    refine zw9 (by simp) (by first | (simp;done) | (simp;rfl)) hvB3 (by simp;rfl) ?_
    refine ym9 (by simp [hby,yf9,-AV.kill,uh8,uv9,ub9,uc9,us9,un9,hk1,hk2,hk3];rfl) ?_
    refine zq9 [0,2,4,5,6,7,9] (by simp [wq8];rfl) ?_
    exact ⟨_,by omega,j+1,.tip 46 199,rfl,by omega,.inr rfl,by rw [hnext];simp [rdL,hsn,yf9,strB,zObD,-AV.kill,uh8,uv9,ub9,uc9,us9,un9,hk1,hk2,hk3]⟩
   ·refine qt9 [0,2,4,5,6,7,9] mx (by decide +kernel) ?_
    refine yr9 4 (by simp;rfl) rfl ?_
    refine zw9 (by simp) (by first | (simp;done) | (simp;rfl)) hvB1 (by simp;rfl) ?_
    refine yr9 3 (by simp [wq2];rfl) rfl ?_
    refine zw9 (by simp) (by first | (simp;done) | (simp;rfl)) hvB2 (by simp;rfl) ?_
    refine yr9 7 (by simp [e4,e2,e1,wY,wY1,wZ,wU,hz1,hz2,hz3,-Int.natCast_ediv];rfl) rfl ?_
    refine yr9 3 (by simp [wq5];rfl) rfl ?_
    refine zw9 (by simp) (by first | (simp;done) | (simp;rfl)) hvB3 (by simp;rfl) ?_
    refine ym9 (by simp [hby,yf9,-AV.kill,uh8,uv9,ub9,uc9,us9,un9,hk1,hk2,hk3];rfl) ?_
    refine zq9 [0,2,4,5,6,7,9] (by simp [wq8];rfl) ?_
    exact ⟨_,by omega,j+1,.tip 46 199,rfl,by omega,.inr rfl,by rw [hnext];simp [hsn,yf9,strB,zObD,-AV.kill,uh8,uv9,ub9,uc9,us9,un9,hk1,hk2,hk3]⟩
  have t3b:(nm == [82,76,68])=false:=by rw [vc8];simpa [qr9] using t3
  rw [if_neg t3] at hitem
  refine W_cF [0,2,4,5,6,7,28,57] (by simp [t3b];rfl) rfl ?_
  by_cases t4:nm=vw9
  ·have hit:=hitem
   rw [if_pos t4] at hit
   have hBs:=hBn _ hit
   rw [hit] at hgo
   simp only at hgo
   have t4b:(nm == [69,78,68])=true:=by rw [vc8];simpa [vw9] using t4
   have htr:=vj7 b 16 (by omega) (by omega)
   obtain ⟨D,hD⟩:∃ D,nmM (sbM b 16 8)=D:=⟨_,rfl⟩
   rw [hD] at hgo hBs htr
   refine W_cT [0,2,4,5,6,7,101] (by simp [t4b];rfl) rfl ?_
   refine W_rE [0,2,4,5,6] ?_
   refine yq9 1 (by simp;rfl) rfl ?_
   refine yd9 (by simp) (by first | (simp;done) | (simp;rfl)) htr (by simp;rfl) ?_
   refine yw9 (by simp [oF,yf9];rfl) ?_
   refine zq9 [0,2,4,5,6] (by simp [wi];rfl) ?_
   exact ⟨_,by omega,i+1,_,_,fe,ft,fr,rfl,by omega,hgo,hBs,⟨hfl.1,hfl.2.1,hfl.2.2⟩,by simp [oF,strB]⟩
  have t4b:(nm == [69,78,68])=false:=by rw [vc8];simpa [vw9] using t4
  rw [if_neg t4] at hitem
  have hBs:=hBn _ hitem
  rw [hitem] at hgo
  simp only at hgo
  refine W_cF [0,2,4,5,6,7,101] (by simp [t4b];rfl) rfl ?_
  refine yk9 ?_
  refine zq9 [0,2,4,5,6] (by simp [wi];rfl) ?_
  exact ⟨_,by omega,i+1,o,nx,fe,ft,fr,rfl,by omega,hgo,hBs,hfl,by simp⟩
 ·rintro σ ⟨o, nx, fe, ft, fr, hgo, hB, hfl, rfl⟩
  obtain ⟨hB1,hB2,hB3,hB4,hB5,hB6⟩:=hB
  simp only at hB1 hB2 hB3 hB4 hB5 hB6
  have hck:=zt7 o hB6 ⟨by omega,by omega,by omega⟩
  refine yl9 ?_
  by_cases hc:chkM o=true
  ·rw [hc] at hck
   have hen:=kw9 o (wt8 hc) (qc6 hc)
   have hO:=wt8 hc
   have hel:(encO o).length≤100000000:=by
    have h1:=xs7 o.esd o.esd.length 0
    have h2:=xp7 o.rld o.rld.length 0
    have h3:=hO.l1
    have h4:=hO.l2
    have h5:=hO.l3
    unfold encO
    simp only [List.length_append,List.length_map,List.length_singleton]
    omega
   have hsm:=qm7 (encO o) L hel
   refine W_rK [2,4,115] ?_
   refine yq9 1 (by simp [oF];rfl) rfl ?_
   refine yd9 (by simp) (by simp [strB];rfl) hck (by simp;rfl) ?_
   refine yq9 3 (by simp;rfl) rfl ?_
   refine yd9 (by simp) (by simp [strB];rfl) hen (by simp;rfl) ?_
   refine yq9 1 (by simp;rfl) rfl ?_
   refine yd9 (by simp) (by first | (simp;done) | (simp;rfl)) hsm (by simp;rfl) ?_
   by_cases he:encO o=L
   ·refine yw9 (by simp [he];rfl) ?_
    refine yp9 rfl (fun h=>by simp at h) (fun h=>?_)
    refine yk9 ?_
    refine yt9 [2,3] (by simp [yf9];rfl) ?_
    refine yn9 ?_
    repeat (first | refine yg9 ?_ | refine yh9 ?_)
    have hd:dcD false L=(o,true):=by rw [dcD,hgo];simp only;rw [if_pos ⟨hc,he⟩]
    rw [hd]
    exact ul9 (r0:=.tup _) ⟨.inr rfl,_,_,by simp [yf9];rfl,by simp;exact ⟨rfl,rfl⟩,by simp [AV.rf,AV.rfL,strB]⟩ (by simp [AV.plain,AV.plainL,strB])
   ·refine yw9 (by simp [he];rfl) ?_
    refine yp9 rfl (fun h=>?_) (fun h=>by simp at h)
    refine yt9 [2,3] (by simp [zObD,yf9];rfl) ?_
    refine yn9 ?_
    repeat (first | refine yg9 ?_ | refine yh9 ?_)
    have hd:dcD false L=(om0,false):=by rw [dcD,hgo];simp only;rw [if_neg fun h=>he h.2]
    rw [hd]
    exact ul9 (r0:=.tup _) ⟨.inr rfl,_,_,by simp [yf9];rfl,by simp;exact ⟨rfl,rfl⟩,by simp [AV.rf,AV.rfL]⟩ (by simp [AV.plain,AV.plainL,om0,esL,txL,rdL,strB])
  ·have hcf:chkM o=false:=by simpa using hc
   rw [hcf] at hck
   refine W_rK [2,4,115] ?_
   refine yq9 1 (by simp [oF];rfl) rfl ?_
   refine yd9 (by simp) (by simp [strB];rfl) hck (by simp;rfl) ?_
   refine yq9 2 (by simp;rfl) rfl ?_
   refine yw9 (by simp;rfl) ?_
   refine yp9 rfl (fun h=>?_) (fun h=>by simp at h)
   refine yt9 [2,3] (by simp [zObD,yf9];rfl) ?_
   refine yn9 ?_
   repeat (first | refine yg9 ?_ | refine yh9 ?_)
   have hd:dcD false L=(om0,false):=by rw [dcD,hgo];simp only;rw [if_neg fun h=>hc h.1]
   rw [hd]
   exact ul9 (r0:=.tup _) ⟨.inr rfl,_,_,by simp [yf9];rfl,by simp;exact ⟨rfl,rfl⟩,by simp [AV.rf,AV.rfL]⟩ (by simp [AV.plain,AV.plainL,om0,esL,txL,rdL,strB])
def obL (l:List OMod):List AV:=l.map obA
@[simp] theorem obL_length (l:List OMod):(obL l).length=l.length:=by simp [obL]
@[simp] theorem obL_getElem (l:List OMod) (i:Nat) (h:i < (obL l).length):(obL l)[i]=obA (l[i]'(by simpa using h)):=by simp [obL]
theorem uq4 (s t:List OMod):obL (s++t)=obL s++obL t:=by simp [obL]
theorem vm4:obL []=[]:=rfl
theorem vn4 (x:OMod):obL [x]=[obA x]:=rfl
def endL:List UInt8:=zm9 vw9
theorem ql4:endL=[197,213,196]:=by decide +kernel
def isE (b:List UInt8):Bool:=decide (4 < b.length)&&decide (sbM b 1 3=endL)
def ixL (p : List UInt8 → Bool) : Nat → List (List UInt8) → Int
 | _,[]=>-1
 | i,s :: l=>if p s=true then i else ixL p (i+1) l
theorem yc5 (p : List UInt8 → Bool) : ∀ (L : List (List UInt8)) (i : Nat), -1 ≤ ixL p i L ∧ ixL p i L < i + L.length
 | [],i=>by simp only [ixL,List.length_nil];omega
 | b :: L,i=>by
  have:=yc5 p L (i+1)
  rw [ixL]
  simp only [List.length_cons]
  split <;> omega
def dcsG : Nat → List (List UInt8) → List OMod → Option (List OMod)
 | 0,L,acc=>if L=[] then some acc else none
 | f+1,L,acc=>if L=[] then some acc else
  (if (dcD true (L.take (ixL isE 0 L+1).toNat)).2=true then dcsG f (L.drop (ixL isE 0 L+1).toNat) (acc++[(dcD true (L.take (ixL isE 0 L+1).toNat)).1]) else none)
def dcsP (L:List (List UInt8)):List OMod × Bool:=match dcsG L.length L [] with
 | none=>([],false)
 | some l=>(l,true)
theorem ub5 (p:Bool):(dcD p []).2=false:=by
 have h:chkM om0=false:=by decide +kernel
 unfold dcD goD
 simp only
 rw [if_neg (by rw [h];simp)]
abbrev HE:List AObj:=[.cells 23 [.lst .any 1 (byL endL)]]
theorem xr5 (b:List UInt8) (hb:b.length≤140737488355328):wf9 Tryz.prog 45 [.lst .any 1 (byL b),.loc 0 0] HE (fun v h=>v=.v (.bool (isE b))∧h=HE):=by
 refine zv9 Tryz.func45 rfl (by decide +kernel) (by simp [Tryz.f45]) (rs:=[.tmp 3]) rfl ?_
 rw [show Tryz.f45.ntmps=19 from rfl]
 have he3:endL.length=3:=by rw [ql4];rfl
 have w1:IntKind.i64.wrap 4=4:=by decide
 obtain ⟨E,hE⟩:∃ E,endL=E:=⟨_,rfl⟩
 rw [hE] at he3
 simp only [HE,isE,hE]
 refine yt9 [0,1] (by simp;rfl) ?_
 by_cases c:4 < b.length
 ·have ci:(4:Int) < b.length:=by omega
  have c4:4≤b.length:=by omega
  have c4i:(4:Int)≤b.length:=by omega
  obtain ⟨A,hA⟩:∃ A,sbM b 1 3=A:=⟨_,rfl⟩
  have eA:(List.take 4 (byL b)).tail=byL A:=by rw [← hA,sbM,← List.drop_one,← xf9,← wd9,List.drop_take]
  have hcl:=yd6 A E
  rw [hA]
  refine jh9 [3] mx (by decide +kernel) ?_
  refine yr9 6 (by simp [he3,w1,c,ci];rfl) rfl ?_
  refine yr9 7 (by simp [he3,w1,c,ci,c4,c4i,eA];rfl) rfl ?_
  refine zw9 (by simp) (by first | (simp;done) | (simp;rfl)) hcl (by simp;rfl) ?_
  refine ym9 (by simp [c,ci];rfl) ?_
  refine yn9 ?_
  repeat (first | refine yg9 ?_ | refine yh9 ?_)
  exact xd9 1 (by simp [resA];rfl) (by simp) (by simp) (by simp [AV.under,AV.underL,yc9,AObj.under]) (by simp [c])
 ·have ci:¬ (4:Int) < b.length:=by omega
  refine jh9 [3] mx (by decide +kernel) ?_
  refine yr9 6 (by simp [he3,w1,c,ci];rfl) rfl ?_
  refine yr9 8 (by simp [he3,w1,c,ci];rfl) rfl ?_
  refine ym9 (by simp [c,ci];rfl) ?_
  refine yn9 ?_
  repeat (first | refine yg9 ?_ | refine yh9 ?_)
  exact xd9 1 (by simp [resA];rfl) (by simp) (by simp) (by simp [AV.under,AV.underL,yc9,AObj.under]) (by simp [c])
theorem yb4 (L:List (List UInt8)) (hl:L.length≤100000) (hb:∀ b∈L,b.length≤140737488355328):wf9 Tryz.prog 44 [.lst .any 1 (bbL L),.fn (.func 45) [] [.loc 0 0]] HE (fun v h=>v=.v (.int .i64 (ixL isE 0 L))∧h=HE):=by
 refine zv9 Tryz.func44 rfl (by decide +kernel) (by simp [Tryz.f44]) (rs:=[.tmp 4]) rfl ?_
 rw [show Tryz.f44.ntmps=19 from rfl]
 refine yt9 [0,1] (by simp;rfl) ?_
 refine yl9 ?_
 refine yt9 [0,1,7,8] (by simp;rfl) ?_
 refine ys9 ?_
 refine zl9 (fun k σ=>∃ i:Nat,k=L.length - i∧i≤L.length∧ixL isE i (L.drop i)=ixL isE 0 L∧σ=⟨19,[(0,.lst .any 1 (bbL L)),(1,.fn (.func 45) [] [.loc 0 0]),(7,.v (.int .i64 (L.length:Nat))),(8,.v (.int .i64 (i:Nat)))],HE⟩) (k:=L.length) ⟨0,rfl,by omega,rfl,by simp⟩ ?_
 rintro k σ ⟨i,rfl,hi,hix,rfl⟩
 by_cases c:i < L.length
 ·have ci : (i : Int) < L.length := by omega
  obtain ⟨s,hsi⟩:∃ s,L[i]?=some s:=⟨_,List.getElem?_eq_getElem c⟩
  have hs2:L[i]'c=s:=by rw [List.getElem?_eq_getElem c] at hsi;exact Option.some.inj hsi
  have hdr:L.drop i=s :: L.drop (i+1):=by rw [List.drop_eq_getElem_cons c,hs2]
  have wi:=w64 (n:=(i:Int)+1) (by omega) (by omega)
  rw [hdr,ixL] at hix
  refine yt9 [0,1,7,8,9] (by simp [c];rfl) ?_
  refine yl9 ?_
  refine yp9 rfl (fun h=>?_) (fun h=>by simp at h)
  refine yk9 ?_
  refine yl9 ?_
  refine ys9 ?_
  refine yt9 [0,1,7,8,5] (by simp;rfl) ?_
  refine W_rK [0,1,7,8,5,16] ?_
  refine yq9 5 (by simp [c,ci,hs2];rfl) rfl ?_
  refine zr9 (by simp) (by first | (simp [yb9,zt9];done) | (simp [yb9,zt9];rfl)) ((xr5 s (hb s (List.mem_of_getElem? hsi))).mono ?_)
  rintro _ _ ⟨rfl,rfl⟩
  refine ⟨_,rfl,?_⟩
  refine yw9 (by simp;rfl) ?_
  by_cases hc:isE s=true
  ·rw [if_pos hc] at hix
   refine yp9 (t:=true) (by simp [hc]) (fun h=>?_) (fun h=>by simp at h)
   refine yt9 [4] (by simp;rfl) ?_
   refine yn9 ?_
   repeat (first | refine yg9 ?_ | refine yh9 ?_)
   refine jg8 (by simp [resA];rfl) (by simp) (by simp [AV.under,AV.underL,yc9,AObj.under]) ⟨by simp [← hix],rfl⟩
  rw [if_neg hc] at hix
  refine yp9 (t:=false) (by simp [hc]) (fun h=>by simp at h) (fun h=>?_)
  refine yk9 ?_
  refine zq9 [0,1,7,8] (by simp [wi];rfl) ?_
  exact ⟨_,by omega,i+1,rfl,by omega,hix,by simp⟩
 have hie:i=L.length:=by omega
 rw [hie,List.drop_length,ixL] at hix
 refine yt9 [0,1,7,8,9] (by simp [c];rfl) ?_
 refine yl9 ?_
 refine yp9 rfl (fun h=>by simp at h) (fun h=>?_)
 refine zj9 ?_
 refine yt9 [4] (by simp;rfl) ?_
 refine yn9 ?_
 repeat (first | refine yg9 ?_ | refine yh9 ?_)
 refine jg8 (by simp [resA];rfl) (by simp) (by simp [AV.under,AV.underL,yc9,AObj.under]) ⟨by simp [← hix],rfl⟩
theorem jb8 (L : List (List UInt8)) (hL : L.length ≤ 100000) (hb : ∀ b ∈ L, b.length ≤ 140737488355328) :
  Sound Tryz.prog 18 [.lst .any 1 (bbL L)] (.tup [.lst .any 4 (obL (dcsP L).1),.v (.int .i64 (if (dcsP L).2=true then 0 else 310))]):=by
 refine uh9 Tryz.func18 rfl (by decide +kernel) (by simp [Tryz.f18]) rfl rfl (rs:=[.tmp 2,.tmp 3]) rfl ?_
 rw [show Tryz.f18.ntmps=35 from rfl]
 refine yt9 [0] (by simp;rfl) ?_
 refine yt9 [0,4] (by simp;rfl) ?_
 have hcode:=ut8 vw9 (by decide)
 rw [show (encM vw9).1=endL from rfl] at hcode
 refine W_rK [0,4,5] ?_
 refine yd9 (args:=[strB vw9]) (by simp) (by simp [strB,vw9];rfl) hcode (by simp;rfl) ?_
 refine yw9 (by simp [yf9];rfl) ?_
 refine yl9 ?_
 refine ys9 ?_
 refine zl9 (fun k s => ∃ (R : List (List UInt8)) (f : Nat) (acc : List OMod) (x : AV), k = R.length ∧ R.length ≤ f ∧ R.length + acc.length ≤ L.length ∧ (∀ b ∈ R, b ∈ L) ∧ dcsG f R acc = dcsG L.length L [] ∧ (x = .lst .nil 4 [] ∧ acc = [] ∨ x = .lst (.tip 33 59) 4 (obL acc)) ∧
  s=⟨35,[(0,.lst .any 1 (bbL R)),(4,x),(5,.loc 0 0)],HE⟩) (k:=L.length) ⟨L,L.length,[],_,rfl,by omega,by simp,fun b hb=>hb,rfl,.inl ⟨rfl,rfl⟩,by simp⟩ ?_
 rintro k s ⟨R,f,acc,x,rfl,hRf,hRa,hRL,hgo,hx,rfl⟩
 refine yl9 ?_
 by_cases c:R.length=0
 ·have hR : R = [] := List.length_eq_zero_iff.1 c
  subst hR
  refine W_cF [4,12] (by simp;rfl) rfl ?_
  refine zj9 ?_
  have hg:dcsG f [] acc=some acc:=by cases f <;> simp [dcsG]
  rw [hg] at hgo
  have hd:dcsP L=(acc,true):=by rw [dcsP,← hgo]
  rw [hd]
  rcases hx with ⟨rfl,rfl⟩ | rfl
  ·refine yt9 [2,3] (by simp;rfl) ?_
   refine yn9 ?_
   repeat (first | refine yg9 ?_ | refine yh9 ?_)
   exact ul9 (r0:=.tup _) (by simp [retQ];exact ⟨rfl,by simp⟩) (by simp [AV.plain,AV.plainL,obL])
  ·refine yt9 [2,3] (by simp;rfl) ?_
   refine yn9 ?_
   repeat (first | refine yg9 ?_ | refine yh9 ?_)
   exact ul9 (r0:=.tup _) (by simp [retQ];exact ⟨rfl,by simp⟩) (by simp [AV.plain,AV.plainL])
 have c0:¬ R.length≤0:=by omega
 have c1:0 < R.length:=by omega
 have c1i:(0:Int) < R.length:=by omega
 have hRne:R≠[]:=fun e=>c (by rw [e];rfl)
 obtain ⟨f',rfl⟩:∃ f',f=f'+1:=⟨f - 1,by omega⟩
 rw [dcsG,if_neg hRne] at hgo
 have hib:=yc5 isE R 0
 obtain ⟨ix,hix⟩:∃ ix,ixL isE 0 R=ix:=⟨_,rfl⟩
 have hcall:=yb4 R (by omega) (fun b h=>hb b (hRL b h))
 rw [hix] at hgo hib hcall
 obtain ⟨m,hm⟩:∃ m:Nat,ix+1=m:=⟨(ix+1).toNat,by omega⟩
 have hmt:(ix+1).toNat=m:=by omega
 have hix2:ix=(m:Int) - 1:=by omega
 rw [hmt] at hgo
 have hmR:m≤R.length:=by omega
 have hmRi:(m:Int)≤R.length:=by omega
 have wm:IntKind.i64.wrap (ix+1)=(m:Int):=by rw [w64 (by omega) (by omega)];omega
 refine W_cT [0,4,5,12] (by simp [c,c1,c1i];rfl) rfl ?_
 refine yk9 ?_
 refine ys9 ?_
 refine W_rK [0,4,5,6] ?_
 refine yq9 2 (by simp;rfl) rfl ?_
 refine zr9 (f:=44) (args:=[.lst .any 1 (bbL R),.fn (.func 45) [] [.loc 0 0]]) (by simp) (by first | (simp [yb9,zt9];done) | (simp [yb9,zt9];rfl)) (hcall.mono ?_)
 rintro _ _ ⟨rfl,rfl⟩
 refine ⟨_,rfl,?_⟩
 refine yw9 (by simp;rfl) ?_
 have hdo:=xc8 (R.take m) (by rw [List.length_take];omega)
 obtain ⟨o,ho⟩:∃ o,(dcD true (R.take m)).1=o:=⟨_,rfl⟩
 rw [ho] at hdo hgo
 have etk:List.take m (bbL R)=bbL (R.take m):=by rw [jp5]
 have edr:List.drop m (bbL R)=bbL (R.drop m):=by rw [js5]
 refine W_rK [0,4,5,6,7,8] ?_
 refine yq9 4 (by simp [wm,hmR,hmRi,etk];rfl) rfl ?_
 refine yd9 (by simp) (by simp;rfl) hdo (by simp;rfl) ?_
 refine yw9 (by simp [yf9];rfl) ?_
 refine yl9 ?_
 cases hok:(dcD true (R.take m)).2 with
 | false =>
  rw [hok] at hgo
  simp only [Bool.false_eq_true,if_neg,not_false_eq_true] at hgo
  have hd:dcsP L=([],false):=by rw [dcsP,← hgo]
  rw [hd]
  refine W_cT [0,4,5,6,7,25] (by simp;rfl) rfl ?_
  refine yt9 [2,3] (by simp;rfl) ?_
  refine yn9 ?_
  repeat (first | refine yg9 ?_ | refine yh9 ?_)
  exact ul9 (r0:=.tup _) (by simp [retQ];exact ⟨rfl,by simp⟩) (by simp [AV.plain,AV.plainL,obL])
 | true =>
  rw [hok] at hgo
  simp only [if_pos] at hgo
  have hm0:0 < m:=by
   rcases Nat.eq_zero_or_pos m with e | e
   ·rw [e,List.take_zero,ub5] at hok;cases hok
   ·exact e
  have hby:(acc.length+1) * 88≤140737488355328:=by omega
  have hsn:obL (acc++[o])=obL acc++[obA o]:=by rw [uq4,vn4]
  have hdl:(R.drop m).length=R.length - m:=List.length_drop
  refine W_cF [0,4,5,6,7,25] (by simp;rfl) rfl ?_
  refine yk9 ?_
  rcases hx with ⟨rfl,rfl⟩ | rfl
  ·refine yt9 [0,4,5,6] (by simp [hby,vm4,catK,AV.cellsK,AV.kone,AV.koneL,AV.weak,AV.weakL,strB];rfl) ?_
   refine xp9 1 (Nat.zero_le _) (by simp) (by simp [yv9,AV.under,AV.underL,strB]) (by simp [yc9,AObj.under,AV.under,AV.underL]) ?_
   refine zq9 [0,4,5] (by simp [wm,hmR,hmRi,edr];rfl) ?_
   exact ⟨_,by rw [hdl];omega,R.drop m,f',[]++[o],_,rfl,by omega,by rw [hdl];simp;omega,fun b hb=>hRL b (List.mem_of_mem_drop hb),hgo,.inr rfl,by simp [obL,strB]⟩
  ·refine yt9 [0,4,5,6] (by simp [hby,catK,AV.cellsK,AV.kone,AV.koneL,AV.weak,AV.weakL,strB];rfl) ?_
   refine xp9 1 (Nat.zero_le _) (by simp) (by simp [yv9,AV.under,AV.underL,strB]) (by simp [yc9,AObj.under,AV.under,AV.underL]) ?_
   refine zq9 [0,4,5] (by simp [wm,hmR,hmRi,edr];rfl) ?_
   exact ⟨_,by rw [hdl];omega,R.drop m,f',acc++[o],_,rfl,by omega,by rw [hdl];simp;omega,fun b hb=>hRL b (List.mem_of_mem_drop hb),hgo,.inr rfl,by simp [hsn,strB]⟩
def encB (o:OMod):List (List UInt8):=egoE o.esd o.esd.length 0++(o.txt.map vf9++egoR o.rld o.rld.length 0)
theorem encO_B (o:OMod):encO o=encB o++[yt8 o.entry]:=by simp [encO,encB]
theorem ug4 (p : List UInt8 → Bool) (x : List UInt8) (R : List (List UInt8)) (hx : p x = true) : ∀ (A : List (List UInt8)) (i : Nat), (∀ b ∈ A, p b = false) → ixL p i (A ++ x :: R) = ((i + A.length : Nat) : Int)
 | [],i,h=>by rw [List.nil_append,ixL,if_pos hx];simp
 | a :: A,i,h=>by
  rw [List.cons_append,ixL,if_neg (by rw [h a (by simp)];simp),ug4 p x R hx A (i+1) fun b hb=>h b (by simp [hb])]
  simp only [List.length_cons]
  congr 1
  omega
theorem kg5 (p : List UInt8 → Bool) : ∀ (A : List (List UInt8)) (i : Nat), (∀ b ∈ A, p b = false) → ixL p i A = -1
 | [],i,h=>rfl
 | a :: A,i,h=>by rw [ixL,if_neg (by rw [h a (by simp)];simp),kg5 p A (i+1) fun b hb=>h b (by simp [hb])]
@[simp] theorem byL_nil31:byL []=[]:=rfl
def sumL (L:List (List UInt8)):Nat:=(L.map List.length).sum
@[simp] theorem eq4b (a b:Bool):eqA Tryz.prog 4 (.v (.bool a)) (.v (.bool b))=some (a == b):=by
 unfold eqA
 simp only [k4]
theorem kf6 (s t:List (List UInt8)):bbL (s++t)=bbL s++bbL t:=by simp [bbL]
def OutL (th:Bool) (i0:Nat) (one:List UInt8) (t:List (List UInt8)) (x:AV) (H:List AObj):Prop :=
 ∃ id cap cs, x = .arr id 0 t.length cap ∧ H[id]? = some (.cells 23 cs) ∧ cs.length = cap ∧ t.length ≤ cap ∧ AV.tlL cs = true ∧
  (th=true∧i0 < t.length→∃ (q cq:Nat) (z:List UInt8),H[q]?=some (.cells 5 (byL (one++z)))∧one.length≤cq∧z.length=cq - one.length∧cs.take t.length=(bbL t).set i0 (.arr q 0 one.length cq)) ∧
  (¬ (th=true∧i0 < t.length)→cs.take t.length=bbL t)
theorem yc7 (xs ys:List AV):AV.tlL (xs++ys)=(AV.tlL xs&&AV.tlL ys):=by
 rw [Bool.eq_iff_iff,Bool.and_eq_true,vd8,vd8,vd8]
 simp only [List.mem_append]
 exact ⟨fun h=>⟨fun x hx=>h x (.inl hx),fun x hx=>h x (.inr hx)⟩,fun h x hx=>hx.elim (h.1 x) (h.2 x)⟩
theorem ws5 {xs ys:List AV} (h:AV.tlL xs=true) (hs:∀ y∈ys,y∈xs):AV.tlL ys=true:=vd8.2 fun y hy=>vd8.1 h y (hs y hy)
theorem vp6 {z:AV} (hz:z.tl=true):∀ n,AV.tlL (repC n [z])=true:=by
 intro n
 refine vd8.2 fun y hy=>?_
 obtain ⟨j,hj,hy⟩:=List.mem_iff_getElem.1 hy
 have hg:=uv7 [z] (by simp) n j y (by rw [List.getElem?_eq_getElem hj,hy])
 simp at hg
 have:=List.mem_of_getElem? hg
 simp at this
 rw [this];exact hz
theorem zt6 {s s1 : St} {x1 y : AV} {id j cap : Nat} {cs : List AV} (hid : s.h[id]? = some (.cells 23 cs)) (hcl : cs.length = cap) (hj : j ≤ cap) (htl : AV.tlL cs = true) (hyt : y.weak.tl = true) (hq : appQ0 s 23 1 id j cap 1 [y.weak] cs [.lst .nil 1 []] s1 x1) :
  ∃ id' cap' cs' h', x1 = .arr id' 0 (j + 1) cap' ∧ s1 = ⟨s.n, s.fr, h'⟩ ∧ h'[id']? = some (.cells 23 cs') ∧ cs'.length = cap' ∧ j + 1 ≤ cap' ∧ cs'.take (j + 1) = cs.take j ++ [y.weak] ∧
   (∀ (q:Nat) (c:List AV),s.h[q]?=some (AObj.cells 5 c)→h'[q]?=some (AObj.cells 5 c))∧AV.tlL cs'=true:=by
 have hidl:id < s.h.length:=(List.getElem?_eq_some_iff.1 hid).1
 rcases hq with ⟨h1,rfl,rfl⟩ | ⟨h1,cap',h2,h3,rfl,rfl⟩
 ·refine ⟨id, cap, _, _, rfl, rfl, List.getElem?_set_self hidl, ?_, h1, ?_, fun q c hqc => ?_, ?_⟩
  ·rw [xs9];exact hcl;simp;omega
  ·rw [Nat.mul_one]
   have hl:(List.take j cs++[y.weak]).length=j+1:=by simp;omega
   unfold yf9
   rw [List.take_append_of_le_length (by omega),List.take_of_length_le (by omega)]
  ·have:id≠q:=by
    intro e
    subst e
    rw [hid] at hqc
    simp at hqc
   rw [List.getElem?_set_ne this];exact hqc
  ·unfold yf9
   rw [yc7,yc7]
   simp only [Bool.and_eq_true]
   exact ⟨⟨ws5 htl fun y hy=>List.mem_of_mem_take hy,by simp [AV.tlL,hyt]⟩,ws5 htl fun y hy=>List.mem_of_mem_drop hy⟩
 ·refine ⟨s.h.length, cap', cs.take (j * 1) ++ [y.weak] ++ repC (cap' - (j + 1)) [.lst .nil 1 []], _, rfl, rfl, by simp, ?_, h2, ?_, fun q c hqc => ?_, ?_⟩
  ·rw [Nat.mul_one]
   simp [js9]
   omega
  ·rw [Nat.mul_one]
   have hl:(List.take j cs++[y.weak]).length=j+1:=by simp;omega
   rw [List.take_append_of_le_length (by omega),List.take_of_length_le (by omega)]
  ·rw [List.getElem?_append_left (List.getElem?_eq_some_iff.1 hqc).1];exact hqc
  ·rw [yc7,yc7]
   simp only [Bool.and_eq_true]
   exact ⟨⟨ws5 htl fun y hy=>List.mem_of_mem_take hy,by simp [AV.tlL,hyt]⟩,vp6 rfl _⟩
theorem OutL.push {th : Bool} {i0 : Nat} {one l : List UInt8} {T : List (List UInt8)} {i id' cap' : Nat} {cs cs' : List AV} {H h' : List AObj} {y : AV}
  (hTl:T.length=i) (hb1:th=true∧i0 < i→∃ (q cq:Nat) (z:List UInt8),H[q]?=some (AObj.cells 5 (byL (one++z)))∧one.length≤cq∧z.length=cq - one.length∧cs.take i=(bbL T).set i0 (.arr q 0 one.length cq))
  (hb2:¬ (th=true∧i0 < i)→cs.take i=bbL T)
  (hid':h'[id']?=some (.cells 23 cs')) (hcl':cs'.length=cap') (hj':i+1≤cap') (htk:cs'.take (i+1)=cs.take i++[y]) (htl':AV.tlL cs'=true) (hk:∀ (q:Nat) (B:List UInt8),H[q]?=some (AObj.cells 5 (byL B))→h'[q]?=some (AObj.cells 5 (byL B)))
  (hy:(y=.lst .any 1 (byL l)∧¬ (th=true∧i0=i))∨(th=true∧i0=i∧∃ (q cq:Nat) (z:List UInt8),y=.arr q 0 one.length cq∧h'[q]?=some (AObj.cells 5 (byL (one++z)))∧one.length≤cq∧z.length=cq - one.length)) :
  OutL th i0 one (T++[l]) (.arr id' 0 (i+1) cap') h':=by
 subst hTl
 have hL:(T++[l]).length=T.length+1:=by simp
 refine ⟨id',cap',cs',by rw [hL],hid',hcl',by rw [hL];exact hj',htl',fun hc=>?_,fun hc=>?_⟩
 ·rw [hL] at hc ⊢
  by_cases hlt:i0 < T.length
  ·obtain ⟨q, cq, rs, k1, k2, k3, k4⟩ := hb1 ⟨hc.1, hlt⟩
   rcases hy with ⟨rfl,_⟩ | ⟨_,he,_⟩
   ·refine ⟨q,cq,rs,hk _ _ k1,k2,k3,?_⟩
    rw [htk,k4,kf6,List.set_append_left _ _ (by simpa using hlt)]
    rfl
   ·omega
  ·have he : i0 = T.length := by omega
   have h2:=hb2 fun h=>hlt h.2
   rcases hy with ⟨_,hn⟩ | ⟨_,_,q,cq,rs,rfl,k1,k2,k3⟩
   ·exact absurd ⟨hc.1,he⟩ hn
   ·refine ⟨q,cq,rs,k1,k2,k3,?_⟩
    rw [htk,h2,kf6,he,List.set_append_right _ _ (by simp)]
    simp [bbL]
 ·rw [hL] at hc ⊢
  have h2:=hb2 fun h=>hc ⟨h.1,by omega⟩
  rcases hy with ⟨rfl,_⟩ | ⟨h1,he,_⟩
  ·rw [htk,h2,kf6];rfl
  ·exact absurd ⟨h1,by omega⟩ hc
theorem kd6 (t:List (List UInt8)) (i:Nat) (l:List UInt8):(bbL t).set i (.lst .any 1 (byL l))=bbL (t.set i l):=by
 simp [bbL,List.map_set]
theorem xp5 : ∀ (t : List (List UInt8)), chunk false 1 t.length (bbL t) = bbL t
 | []=>rfl
 | x :: t=>by
  have ih:=xp5 t
  show (AV.lst .any 1 (byL x)) :: chunk false 1 t.length (bbL t)=_
  rw [ih];rfl
theorem jr8 {top : Bool} {kf : Nat} {code : Code} {Q : Exit → St → Prop} {n id cap : Nat} {fr : List (Nat × AV)} {H : List AObj} {cs : List AV} {U : List (List UInt8)} {sl : Nat} (hg : getF fr sl = some (.arr id 0 U.length cap)) (hobj : H[id]? = some (.cells 23 cs)) (hcl : cs.length = cap)
  (htk:cs.take U.length=bbL U) (h:∀ H',Wt top kf Tryz.prog code Q ⟨n,putF fr sl (.lst (.tip 23 1) 1 (bbL U)),H'⟩):Wt top kf Tryz.prog code Q ⟨n,fr,H⟩:=by
 refine W_tip sl (tk:=1) (ty:=23) (sz:=1) (ag:=false) hg (by decide) hobj (by kernel_rfl) (by omega) (.inr rfl) (by omega) (by rw [Nat.mul_one,htk];simp) (by rw [Nat.mul_one,htk];simp) ?_
 rw [Nat.mul_one,htk,xj4,xp5]
 exact h _
theorem frz_by {H:List AObj} {q n cq:Nat} {B:List UInt8} (hq:H[q]?=some (.cells 5 (byL B))) (hn:n≤B.length):∃ o h',vc9 Tryz.prog H 1 q 0 n cq=some (.lst o 1 (byL (B.take n)),h')∧h'.length=H.length∧(o=.any∨o=.tip 5 1):=by
 unfold vc9
 rw [hq]
 simp only [t5]
 rw [if_pos ⟨by omega,.inr trivial,by simpa using hn,by simp,by simp⟩]
 refine ⟨_,_,by rw [jv9,List.drop_zero,kl9 _ _ hn],by simp,?_⟩
 split
 ·exact .inr rfl
 ·exact .inl rfl
theorem jf5 {top : Bool} {kf : Nat} {code : Code} {Q : Exit → St → Prop} {n id cap q cq i0 : Nat} {fr : List (Nat × AV)} {H : List AObj} {cs : List AV} {t : List (List UInt8)} {k : Nat} {B : List UInt8} {sl : Nat} (hg : getF fr sl = some (.arr id 0 t.length cap)) (hid : H[id]? = some (.cells 23 cs))
  (hq:H[q]?=some (.cells 5 (byL B))) (hcl:cs.length=cap) (hi:i0 < t.length) (hcg:cs[i0]?=some (.arr q 0 k cq)) (htk:cs.take t.length=(bbL t).set i0 (.arr q 0 k cq)) (hk:k≤B.length)
  (h:∀ H',Wt top kf Tryz.prog code Q ⟨n,putF fr sl (.lst (.tip 23 1) 1 (bbL (t.set i0 (B.take k)))),H'⟩):Wt top kf Tryz.prog code Q ⟨n,fr,H⟩:=by
 have hne:id≠q:=by
  intro e
  subst e
  rw [hid] at hq
  simp at hq
 have hidl:id < H.length:=(List.getElem?_eq_some_iff.1 hid).1
 obtain ⟨o,h2,hf,hl,ho⟩:=frz_by (cq:=cq) hq hk
 refine W_frzP id i0 (tk:=1) hid hcg hne rfl hf ?_
 have hx:(AV.lst o 1 (byL (B.take k))).plain=.lst .any 1 (byL (B.take k)):=by rcases ho with rfl | rfl <;> rfl
 rw [hx]
 refine jr8 (U:=t.set i0 (B.take k)) (cs:=cs.set i0 (.lst .any 1 (byL (B.take k)))) (sl:=sl) (by simpa using hg) (List.getElem?_set_self (by omega)) (by simpa using hcl) ?_ h
 rw [List.length_set,List.take_set,htk,List.set_set,kd6]
end Go.AM
