/- Parts of the walk: Z31MB Z31OC Z31OD Z31OE. -/
import Derived.Test.YtlhaljblcimnbaaGreatG8
namespace Go.AM
open Go.RowKit Go.Proofs
set_option linter.unusedSimpArgs false
set_option linter.unusedVariables false
set_option maxHeartbeats 8000000
theorem yr4 (b : List UInt8) (hb : b.length = 80) (nx : Int) (hn0 : 0 ≤ nx) (hn1 : nx ≤ 100000000) (base : List Esd) (hbl : base.length ≤ 100000000) (fe : Fl) (hfe : fe = .nil ∧ base = [] ∨ fe = .tip 50 145) (z : List AV) (x1 x2 x3 : AV)
  (k1:AV.kill 145 x1=x1) (k2:AV.kill 145 x2=x2) (k3:AV.kill 145 x3=x3) (kz:AV.killL 145 z=z) (u1:AV.under 2 x1=true) (u2:AV.under 2 x2=true) (u3:AV.under 2 x3=true) (uz:AV.underL 2 z=true) :
  wf9 Tryz.prog 38 [.loc 1 0, .lst .any 1 (byL b), .v (.int .i64 nx)] [.cells 33 z, .cells 33 [.lst fe 5 (esL base), x1, x2, x3]] fun r h' => ∃ fe',
   r=.v (.int .i64 (rdEs b base nx (cntE false (valM (sbM b 10 2)))).2)∧(fe'=.nil∧(rdEs b base nx (cntE false (valM (sbM b 10 2)))).1=[]∨fe'=.tip 50 145) ∧
   h'=[.cells 33 z,.cells 33 [.lst fe' 5 (esL (rdEs b base nx (cntE false (valM (sbM b 10 2)))).1),x1,x2,x3]]:=by
 refine zv9 Tryz.func38 rfl (by decide +kernel) (by simp [Tryz.f38]) (rs:=[.tmp 6]) rfl ?_
 rw [show Tryz.f38.ntmps=76 from rfl]
 have hv:=qf9 b 10 2 (by omega) (by omega) (by omega)
 obtain ⟨V,hV⟩:∃ V,valM (sbM b 10 2)=V:=⟨_,rfl⟩
 rw [show valM ((b.drop 10).take 2)=V from hV] at hv
 have hVl:V < 256 ^ 2:=by rw [← hV];exact xm8 2 (sbM b 10 2) (by rw [sbM,List.length_take,List.length_drop];omega)
 have hp2:(256:Nat) ^ 2=65536:=by decide
 rw [hV]
 obtain ⟨n,hn⟩:∃ n,cntE false V=n:=⟨_,rfl⟩
 have hnc:n=min 3 ((V+15) / 16):=by rw [← hn];rfl
 have hn3:n≤3:=by omega
 rw [hn]
 refine yt9 [0,1,2] (by simp;rfl) ?_
 refine yl9 ?_
 refine yt9 [0,1,2,7] (by simp;rfl) ?_
 refine ys9 ?_
 refine zl9 (fun k s => ∃ (i : Nat) (gs : Fl), k = n - i ∧ i ≤ n ∧ (gs = .nil ∧ (rdEs b base nx i).1 = [] ∨ gs = .tip 50 145) ∧
  s=⟨76,[(0,.loc 1 0),(1,.lst .any 1 (byL b)),(2,.v (.int .i64 (rdEs b base nx i).2)),(7,.v (.int .i64 ((16+16 * i:Nat):Int)))],[.cells 33 z,.cells 33 [.lst gs 5 (esL (rdEs b base nx i).1),x1,x2,x3]]⟩) (k:=n) ⟨0,fe,rfl,by omega,hfe,by simp [rdEs]⟩ ?_
 rintro k s ⟨i,gs,rfl,hi,hgs,rfl⟩
 obtain ⟨q,hq⟩:∃ q,16+16 * i=q:=⟨_,rfl⟩
 obtain ⟨acc,hacc⟩:∃ a,(rdEs b base nx i).1=a:=⟨_,rfl⟩
 obtain ⟨ny,hny⟩:∃ a,(rdEs b base nx i).2=a:=⟨_,rfl⟩
 have hal:=ub7 b base nx i
 have hnb:=ur6 b base nx i
 rw [hacc] at hal hgs
 rw [hny] at hnb
 rw [hq,hacc,hny]
 have w1:IntKind.i64.wrap ((q:Int)+16)=(q:Int)+16:=w64 (by omega) (by omega)
 have w2:IntKind.i64.wrap ((q:Int) - 16)=(q:Int) - 16:=w64 (by omega) (by omega)
 refine yl9 ?_
 by_cases c:i < n
 rotate_left
 ·have hin : i = n := by omega
  by_cases c3:i < 3
  ·have d1:(q:Int)+16≤64:=by omega
   have d2:¬ ((q:Int) - 16 < (V:Nat)):=by omega
   refine W_rK [0,1,2,7,18] ?_
   refine yq9 7 (by simp [w1,w2,d1];rfl) rfl ?_
   refine yd9 (by simp) (by first | (simp;done) | (simp;rfl)) hv (by simp;rfl) ?_
   refine yw9 (by simp [w1,w2,d1,d2];rfl) ?_
   refine yp9 rfl (fun h=>by simp at h) (fun h=>?_)
   refine zj9 ?_
   refine yt9 [6] (by simp;rfl) ?_
   refine yn9 ?_
   repeat (first | refine yg9 ?_ | refine yh9 ?_)
   rw [← hin,hacc,hny]
   exact xd9 2 (by simp [resA]) (by simp) (by simp) (by simp [AV.under,AV.underL,yc9,AObj.under,u1,u2,u3,uz]) ⟨gs,rfl,hgs,rfl⟩
  ·have d1:¬ (q:Int)+16≤64:=by omega
   refine W_rK [0,1,2,7,18] ?_
   refine yq9 4 (by simp [w1,w2,d1];rfl) rfl ?_
   refine yq9 5 (by simp [w1,w2,d1];rfl) rfl ?_
   refine yw9 (by simp [w1,w2,d1];rfl) ?_
   refine yp9 rfl (fun h=>by simp at h) (fun h=>?_)
   refine zj9 ?_
   refine yt9 [6] (by simp;rfl) ?_
   refine yn9 ?_
   repeat (first | refine yg9 ?_ | refine yh9 ?_)
   rw [← hin,hacc,hny]
   exact xd9 2 (by simp [resA]) (by simp) (by simp) (by simp [AV.under,AV.underL,yc9,AObj.under,u1,u2,u3,uz]) ⟨gs,rfl,hgs,rfl⟩
 have d1:(q:Int)+16≤64:=by omega
 have d2:(q:Int) - 16 < (V:Nat):=by omega
 have hq64:q+16≤64:=by omega
 obtain ⟨X,hX⟩:∃ X,b.drop q=X:=⟨_,rfl⟩
 have hXl:16≤X.length:=by rw [← hX,List.length_drop];omega
 have hstep:rdEs b base nx (i+1)=(acc++[rdE X ny],nx1 ny (rdE X ny)):=by rw [rdEs,hacc,hny,hq,hX]
 have hnmS:=vj7 b q (by omega) (by omega)
 obtain ⟨nm,hnm⟩:∃ s,nmM (sbM b q 8)=s:=⟨_,rfl⟩
 have hnm2:nmM (X.take 8)=nm:=by rw [← hnm,sbM,hX]
 rw [hnm] at hnmS
 have h8':q+8 < b.length:=by omega
 have wq8:IntKind.i64.wrap ((q:Int)+8)=((q+8:Nat):Int):=by rw [w64 (by omega) (by omega)];omega
 have wq9:IntKind.i64.wrap ((q:Int)+9)=((q+9:Nat):Int):=by rw [w64 (by omega) (by omega)];omega
 have wq13:IntKind.i64.wrap ((q:Int)+13)=((q+13:Nat):Int):=by rw [w64 (by omega) (by omega)];omega
 have wq16:IntKind.i64.wrap ((q:Int)+16)=((16+16 * (i+1):Nat):Int):=by rw [w64 (by omega) (by omega)];omega
 have hvB:=qf9 b (q+9) 3 (by omega) (by omega) (by omega)
 have hvC:=qf9 b (q+13) 3 (by omega) (by omega) (by omega)
 obtain ⟨VB,hVB⟩:∃ V,valM (sbM X 9 3)=V:=⟨_,rfl⟩
 obtain ⟨VC,hVC⟩:∃ V,valM (sbM X 13 3)=V:=⟨_,rfl⟩
 rw [show valM ((b.drop (q+9)).take 3)=VB by rw [← hVB,← hX,wr8,sbM]] at hvB
 rw [show valM ((b.drop (q+13)).take 3)=VC by rw [← hVC,← hX,wr8,sbM]] at hvC
 obtain ⟨q8,hq8⟩:∃ x,q+8=x:=⟨_,rfl⟩
 obtain ⟨q9,hq9⟩:∃ x,q+9=x:=⟨_,rfl⟩
 obtain ⟨q13,hq13⟩:∃ x,q+13=x:=⟨_,rfl⟩
 rw [hq8] at wq8 h8'
 rw [hq9] at wq9 hvB
 rw [hq13] at wq13 hvC
 have h8'i:(q8:Int) < b.length:=by omega
 obtain ⟨t,ht⟩:∃ t,b[q8]?=some t:=⟨_,List.getElem?_eq_getElem h8'⟩
 have ht2:b[q8]'h8'=t:=by rw [List.getElem?_eq_getElem h8'] at ht;exact Option.some.inj ht
 have htd:X.getD 8 0=t:=by rw [← hX,zb7,hq8,List.getD_eq_getElem?_getD,ht];rfl
 obtain ⟨K,hK⟩:∃ K,t.toNat=K:=⟨_,rfl⟩
 have heq:∀ x:UInt8,(t=x)=(K=x.toNat):=fun x=>by rw [← hK];exact propext UInt8.toNat_inj.symm
 have hrd:rdE X ny=if K=0 then ⟨nm,1,ny,VB,VC⟩ else if K=1 then ⟨nm,2,VC,VB,0⟩ else ⟨nm,3,ny,0,0⟩:=by
  have e0:(t=0)=(K=0):=heq 0
  have e1:(t=1)=(K=1):=heq 1
  unfold rdE
  rw [htd,hnm2,hVB,hVC]
  by_cases q0:K=0
  ·rw [if_pos (by rw [e0];exact q0),if_pos q0]
  ·rw [if_neg (by rw [e0];exact q0),if_neg q0]
   by_cases q1:K=1
   ·rw [if_pos (by rw [e1];exact q1),if_pos q1]
   ·rw [if_neg (by rw [e1];exact q1),if_neg q1]
 have wn1:=w64 (n:=ny+1) (by omega) (by omega)
 have hby:(acc.length+1) * 48≤140737488355328:=by omega
 obtain ⟨E,hE⟩:∃ E,rdE X ny=E:=⟨_,rfl⟩
 refine W_rK [0,1,2,7,18] ?_
 refine yq9 7 (by simp [w1,w2,d1];rfl) rfl ?_
 refine yd9 (by simp) (by first | (simp;done) | (simp;rfl)) hv (by simp;rfl) ?_
 refine yw9 (by simp [w1,w2,d1,d2];rfl) ?_
 refine yp9 rfl (fun h=>?_) (fun h=>by simp at h)
 refine yk9 ?_
 refine yl9 ?_
 refine ys9 ?_
 refine W_rK [0,1,2,7,8] ?_
 refine yq9 2 (by simp;rfl) rfl ?_
 refine yd9 (by simp) (by first | (simp;done) | (simp;rfl)) hnmS (by simp [strB];rfl) ?_
 refine yw9 (by simp [strB,yf9];rfl) ?_
 refine xh9 (fun σ=>σ=⟨76,[(0,.loc 1 0),(1,.lst .any 1 (byL b)),(2,.v (.int .i64 (nx1 ny E))),(7,.v (.int .i64 (q:Nat))),(8,.loc 2 0)],[.cells 33 z,.cells 33 [.lst gs 5 (esL acc),x1,x2,x3],.cells 50 (esC E)]⟩) ?_ ?_
 ·refine yt9 [0, 1, 2, 7, 8, 29] (by simp [wq8, h8', h8'i, ht2, hK]; rfl) ?_
  refine ys9 ?_
  by_cases q0:K=0
  ·rw [if_pos q0] at hrd
   have hnx:nx1 ny E=ny+1:=by rw [← hE,hrd];rfl
   refine W_cT [0,1,2,7,8,29,35] (by simp [q0];rfl) rfl ?_
   refine W_rK [0,1,2,7,8] ?_
   refine yq9 4 (by simp [wq9];rfl) rfl ?_
   refine yd9 (by simp) (by first | (simp;done) | (simp;rfl)) hvB (by simp;rfl) ?_
   refine yq9 3 (by simp [wq13];rfl) rfl ?_
   refine yd9 (by simp) (by first | (simp;done) | (simp;rfl)) hvC (by simp;rfl) ?_
   refine yw9 (by simp [yf9];rfl) ?_
   refine zq9 [0,1,2,7,8] (by simp [wn1];rfl) ?_
   simp [hnx]
   simp [← hE,hrd,esC,strB]
  have q0b:((K:Int) == 0)=false:=by simpa using q0
  rw [if_neg q0] at hrd
  refine W_cF [0,1,2,7,8,29,35] (by simp [q0,q0b];rfl) rfl ?_
  by_cases q1:K=1
  ·rw [if_pos q1] at hrd
   have hnx:nx1 ny E=ny:=by rw [← hE,hrd];rfl
   refine W_cT [0,1,2,7,8,29,52] (by simp [q1];rfl) rfl ?_
   refine W_rE [0,1,2,7,8] ?_
   refine yq9 3 (by simp [wq13];rfl) rfl ?_
   refine yd9 (by simp) (by first | (simp;done) | (simp;rfl)) hvC (by simp;rfl) ?_
   refine yq9 3 (by simp [wq9];rfl) rfl ?_
   refine yd9 (by simp) (by first | (simp;done) | (simp;rfl)) hvB (by simp;rfl) ?_
   refine yw9 (by simp [yf9];rfl) ?_
   simp [hnx]
   simp [← hE,hrd,esC,strB]
  have q1b:((K:Int) == 1)=false:=by simp;omega
  rw [if_neg q1] at hrd
  have hnx:nx1 ny E=ny+1:=by rw [← hE,hrd];rfl
  refine W_cF [0,1,2,7,8,52] (by simp [q1,q1b];rfl) rfl ?_
  refine yt9 [0,1,2,7,8] (by simp [yf9];rfl) ?_
  refine zq9 [0,1,2,7,8] (by simp [wn1];rfl) ?_
  simp [hnx]
  simp [← hE,hrd,esC,strB]
 rintro _ rfl
 have hsn:esL (acc++[E])=esL acc++[esA E]:=by rw [qj4,qg4]
 rw [hE] at hstep
 rcases hgs with ⟨rfl,rfl⟩ | rfl
 ·refine W_dvE [0,1,2,7] mx (by decide +kernel) (by simp [hby,yf9,esC,strB,qh4,catK,AV.cellsK,AV.kone,AV.koneL,AV.weak,AV.weakL,k1,k2,k3,kz];rfl) ?_
  refine xp9 2 (by simp) (by simp) (by simp [yv9,AV.under,AV.underL]) (by simp [yc9,AObj.under,AV.under,AV.underL,u1,u2,u3,uz,strB]) ?_
  refine zq9 [0,1,2,7] (by simp [wq16];rfl) ?_
  exact ⟨_,by omega,i+1,.tip 50 145,rfl,by omega,.inr rfl,by simp [hstep,esL,strB]⟩
 ·refine W_dvE [0,1,2,7] mx (by decide +kernel) (by simp [hby,yf9,esC,strB,catK,AV.cellsK,AV.kone,AV.koneL,AV.weak,AV.weakL,k1,k2,k3,kz];rfl) ?_
  refine xp9 2 (by simp) (by simp) (by simp [yv9,AV.under,AV.underL]) (by simp [yc9,AObj.under,AV.under,AV.underL,u1,u2,u3,uz,strB]) ?_
  refine zq9 [0,1,2,7] (by simp [wq16];rfl) ?_
  exact ⟨_,by omega,i+1,.tip 50 145,rfl,by omega,.inr rfl,by simp [hstep,hsn,strB]⟩
theorem W_thenK {c:Code} {Q:Exit→St→Prop} {s:St} {top:Bool} {kf:Nat} {P:Program} (K:St→Prop) (h1:Wt top kf P c (yj9 K Q) s) (h2:∀ s,K s→Q .normal s):Wt top kf P c Q s:=by
 refine h1.mono fun e s h=>?_
 cases e with
 | normal=>exact h2 s h
 | _=>exact h
theorem vj8 (o:OMod) (hl:o.esd.length≤2048) (hx:∀ x∈o.esd,x.name.length≤9223372036854775807∧i64r x.addr):Sound Tryz.prog 69 [obA o] (.v (.bool (esdB o.esd (uf9 o.esd [] [] 1)))):=by
 refine zh9 Tryz.func69 rfl (by decide +kernel) (by simp [Tryz.f69,strB]) (by simp [AV.rfL,AV.rf,strB]) (by simp [AV.tlL,AV.tl,strB]) (rs:=[.tmp 2]) rfl ?_
 rw [show Tryz.f69.ntmps=157 from rfl]
 obtain ⟨R,hR⟩:∃ R,uf9 o.esd [] [] 1=R:=⟨_,rfl⟩
 rw [hR]
 have hret:R=none→∀ (h:List AObj),retQ Tryz.prog [.tmp 2] (.v (.bool (esdB o.esd R))) .ret ⟨157,[(2,.v (.bool false))],h⟩:=by
  intro hR0 h
  simp [retQ,hR0,esdB]
 refine yt9 [1] (by simp;rfl) ?_
 refine yt9 [1,3] (by simp;rfl) ?_
 refine xh9 (fun σ=>∃ S N nx,R=some (S,N,nx)∧EInv o.esd S N nx∧σ=⟨157,[(1,.loc 0 0),(3,.v (.int .i64 nx))],[.cells 33 (obC o)]⟩) ?_ ?_
 ·refine yt9 [1, 3, 4] (by simp; rfl) ?_
  refine ys9 ?_
  refine zl9 (fun k σ => ∃ (i : Nat) (S : List (Int × Esd)) (N : List (List UInt8 × Int)) (nx : Int), k = o.esd.length - i ∧ i ≤ o.esd.length ∧ EInv (o.esd.take i) S N nx ∧ nx ≤ 1 + i ∧ uf9 (o.esd.drop i) S N nx = R ∧
   σ=⟨157,[(1,.loc 0 0),(3,.v (.int .i64 nx)),(4,.v (.int .i64 (i:Nat)))],[.cells 33 (obC o)]⟩) (k:=o.esd.length) ⟨0,[],[],1,rfl,by omega,EInv.nil,by omega,hR,by simp [obC]⟩ ?_
  rintro k σ ⟨i,S,N,nx,rfl,hi,hE,hnx,hgo,rfl⟩
  refine yl9 ?_
  have hn0:=hE.n0
  by_cases c:i < o.esd.length
  ·have ci : (i : Int) < o.esd.length := by omega
   obtain ⟨x,hs⟩:∃ x,o.esd[i]?=some x:=⟨_,List.getElem?_eq_getElem c⟩
   have hs2:o.esd[i]'c=x:=by rw [List.getElem?_eq_getElem c] at hs;exact Option.some.inj hs
   have hdr:o.esd.drop i=x :: o.esd.drop (i+1):=vt9 c hs2
   have htk:o.esd.take (i+1)=o.esd.take i++[x]:=by rw [List.take_add_one,hs];rfl
   obtain ⟨hxn,hxa⟩:=hx x (List.mem_of_getElem? hs)
   obtain ⟨hxa1,hxa2⟩:=hxa
   have hsy:=vv6 x.name (by omega)
   have wi:=w64 (n:=(i:Int)+1) (by omega) (by omega)
   have wnx:=w64 (n:=nx+1) (by omega) (by omega)
   rw [hdr,uf9] at hgo
   have hbad:vs9 nx x=false→R=none:=fun h=>by rw [h] at hgo;simpa using hgo.symm
   refine yt9 [1,3,4,14] (by simp [obC,ci];rfl) ?_
   refine yp9 rfl (fun h=>?_) (fun h=>by simp [c] at h)
   refine yk9 ?_
   refine yl9 ?_
   refine ys9 ?_
   refine yt9 [1,3,4,5] (by simp [obC,c,ci,hs2,yf9,AV.weakL,AV.weak,AV.koneL,AV.kone,strB];rfl) ?_
   refine xh9 (fun σ=>vs9 nx x=true∧σ=⟨157,[(1,.loc 0 0),(3,.v (.int .i64 (nx1 nx x))),(4,.v (.int .i64 (i:Nat))),(5,.loc 1 0)],[.cells 33 (obC o),.cells 50 (esC x)]⟩) ?_ ?_
   ·refine yt9 [1, 3, 4, 5, 23] (by simp; rfl) ?_
    refine ys9 ?_
    by_cases hk1:x.kind=1
    ·refine W_cT [1, 3, 4, 5, 23, 24] (by simp [hk1, esC]; rfl) rfl ?_
     refine yl9 ?_
     by_cases a1:x.addr < 0
     ·have a1t:x.addr < 0:=a1
      have a1u:¬ 0≤x.addr:=by omega
      refine W_rK [1,3,4,5,63] ?_
      iterate 6 refine yq9 6 (by simp [hk1,esC,strB,bne,a1t,a1u];rfl) rfl ?_
      refine yw9 (by simp [hk1,esC,strB,bne,a1t,a1u];rfl) ?_
      refine yp9 rfl (fun h=>?_) (fun h=>by simp at h)
      refine yt9 [2] (by simp;rfl) ?_
      refine yn9 ?_
      repeat (first | refine yg9 ?_ | refine yh9 ?_)
      exact hret (hbad (by simp [vs9,rule1,rule2,rule3,hk1,esC,strB,bne,a1t,a1u])) _
     have a1f:¬ x.addr < 0:=a1
     have a1g:0≤x.addr:=by omega
     by_cases a2:x.len < 0
     ·have a2t:x.len < 0:=a2
      have a2u:¬ 0≤x.len:=by omega
      refine W_rK [1,3,4,5,63] ?_
      iterate 6 refine yq9 6 (by simp [hk1,esC,strB,bne,a1f,a1g,a2t,a2u];rfl) rfl ?_
      refine yw9 (by simp [hk1,esC,strB,bne,a1f,a1g,a2t,a2u];rfl) ?_
      refine yp9 rfl (fun h=>?_) (fun h=>by simp at h)
      refine yt9 [2] (by simp;rfl) ?_
      refine yn9 ?_
      repeat (first | refine yg9 ?_ | refine yh9 ?_)
      exact hret (hbad (by simp [vs9,rule1,rule2,rule3,hk1,esC,strB,bne,a1f,a1g,a2t,a2u])) _
     have a2f:¬ x.len < 0:=a2
     have a2g:0≤x.len:=by omega
     by_cases a3:65536 < x.addr
     ·have a3t:65536 < x.addr:=a3
      have a3u:¬ x.addr≤65536:=by omega
      refine W_rK [1,3,4,5,63] ?_
      iterate 6 refine yq9 6 (by simp [hk1,esC,strB,bne,a1f,a1g,a2f,a2g,a3t,a3u];rfl) rfl ?_
      refine yw9 (by simp [hk1,esC,strB,bne,a1f,a1g,a2f,a2g,a3t,a3u];rfl) ?_
      refine yp9 rfl (fun h=>?_) (fun h=>by simp at h)
      refine yt9 [2] (by simp;rfl) ?_
      refine yn9 ?_
      repeat (first | refine yg9 ?_ | refine yh9 ?_)
      exact hret (hbad (by simp [vs9,rule1,rule2,rule3,hk1,esC,strB,bne,a1f,a1g,a2f,a2g,a3t,a3u])) _
     have a3f:¬ 65536 < x.addr:=a3
     have a3g:x.addr≤65536:=by omega
     have w5:IntKind.i64.wrap (65536 - x.addr)=65536 - x.addr:=w64 (by omega) (by omega)
     by_cases a4:65536 - x.addr < x.len
     ·have a4t:65536 - x.addr < x.len:=a4
      have a4u:¬ x.len≤65536 - x.addr:=by omega
      refine W_rK [1,3,4,5,63] ?_
      iterate 6 refine yq9 6 (by simp [hk1,esC,strB,bne,a1f,a1g,a2f,a2g,a3f,a3g,w5,a4t,a4u];rfl) rfl ?_
      refine yw9 (by simp [hk1,esC,strB,bne,a1f,a1g,a2f,a2g,a3f,a3g,w5,a4t,a4u];rfl) ?_
      refine yp9 rfl (fun h=>?_) (fun h=>by simp at h)
      refine yt9 [2] (by simp;rfl) ?_
      refine yn9 ?_
      repeat (first | refine yg9 ?_ | refine yh9 ?_)
      exact hret (hbad (by simp [vs9,rule1,rule2,rule3,hk1,esC,strB,bne,a1f,a1g,a2f,a2g,a3f,a3g,w5,a4t,a4u])) _
     have a4f:¬ 65536 - x.addr < x.len:=a4
     have a4g:x.len≤65536 - x.addr:=by omega
     by_cases a5:x.id=nx
     ·by_cases a6 : x.name = []
      ·have a6t:x.name=[]:=a6
       have a6e:x.name.isEmpty=true:=by rw [a6];rfl
       refine W_rK [1,3,4,5,63] ?_
       iterate 6 refine yq9 6 (by simp [hk1,esC,strB,bne,a1f,a1g,a2f,a2g,a3f,a3g,w5,a4f,a4g,a5,a6t,a6e];rfl) rfl ?_
       refine yw9 (by simp [hk1,esC,strB,bne,a1f,a1g,a2f,a2g,a3f,a3g,w5,a4f,a4g,a5,a6t,a6e];rfl) ?_
       refine yp9 rfl (fun h=>by simp at h) (fun h=>?_)
       refine zs9 [1,3,4,5] ?_
       refine yk9 ?_
       refine zq9 [1,3,4,5] (by simp [wnx];rfl) ?_
       exact ⟨by simp [vs9,rule1,rule2,rule3,hk1,esC,strB,bne,a1f,a1g,a2f,a2g,a3f,a3g,w5,a4f,a4g,a5,a6t,a6e],by simp [nx1,hk1,esC,strB,bne,a1f,a1g,a2f,a2g,a3f,a3g,w5,a4f,a4g,a5,a6t,a6e,esC,strB,obC]⟩
      have a6t:¬ x.name=[]:=a6
      have a6e:x.name.isEmpty=false:=by simpa using a6
      by_cases sy:symM x.name=true
      ·refine W_rK [1,3,4,5,63] ?_
       iterate 5 refine yq9 6 (by simp [hk1,esC,strB,bne,a1f,a1g,a2f,a2g,a3f,a3g,w5,a4f,a4g,a5,a6t,a6e,sy];rfl) rfl ?_
       refine yq9 4 (by simp [hk1,esC,strB,bne,a1f,a1g,a2f,a2g,a3f,a3g,w5,a4f,a4g,a5,a6t,a6e,sy];rfl) rfl ?_
       refine yd9 (by simp) (by first | (simp;done) | (simp;rfl) | (simp [hk1,esC,strB,bne,a1f,a1g,a2f,a2g,a3f,a3g,w5,a4f,a4g,a5,a6t,a6e,sy];done) | (simp [hk1,esC,strB,bne,a1f,a1g,a2f,a2g,a3f,a3g,w5,a4f,a4g,a5,a6t,a6e,sy];rfl)) hsy (by simp;rfl) ?_
       refine yw9 (by simp [hk1,esC,strB,bne,a1f,a1g,a2f,a2g,a3f,a3g,w5,a4f,a4g,a5,a6t,a6e,sy];rfl) ?_
       refine yp9 rfl (fun h=>by simp at h) (fun h=>?_)
       refine zs9 [1,3,4,5] ?_
       refine yk9 ?_
       refine zq9 [1,3,4,5] (by simp [wnx];rfl) ?_
       exact ⟨by simp [vs9,rule1,rule2,rule3,hk1,esC,strB,bne,a1f,a1g,a2f,a2g,a3f,a3g,w5,a4f,a4g,a5,a6t,a6e,sy],by simp [nx1,hk1,esC,strB,bne,a1f,a1g,a2f,a2g,a3f,a3g,w5,a4f,a4g,a5,a6t,a6e,sy,esC,strB,obC]⟩
      have syf:symM x.name=false:=by simpa using sy
      refine W_rK [1,3,4,5,63] ?_
      iterate 5 refine yq9 6 (by simp [hk1,esC,strB,bne,a1f,a1g,a2f,a2g,a3f,a3g,w5,a4f,a4g,a5,a6t,a6e,syf];rfl) rfl ?_
      refine yq9 4 (by simp [hk1,esC,strB,bne,a1f,a1g,a2f,a2g,a3f,a3g,w5,a4f,a4g,a5,a6t,a6e,syf];rfl) rfl ?_
      refine yd9 (by simp) (by first | (simp;done) | (simp;rfl) | (simp [hk1,esC,strB,bne,a1f,a1g,a2f,a2g,a3f,a3g,w5,a4f,a4g,a5,a6t,a6e,syf];done) | (simp [hk1,esC,strB,bne,a1f,a1g,a2f,a2g,a3f,a3g,w5,a4f,a4g,a5,a6t,a6e,syf];rfl)) hsy (by simp;rfl) ?_
      refine yw9 (by simp [hk1,esC,strB,bne,a1f,a1g,a2f,a2g,a3f,a3g,w5,a4f,a4g,a5,a6t,a6e,syf];rfl) ?_
      refine yp9 rfl (fun h=>?_) (fun h=>by simp at h)
      refine yt9 [2] (by simp;rfl) ?_
      refine yn9 ?_
      repeat (first | refine yg9 ?_ | refine yh9 ?_)
      exact hret (hbad (by simp [vs9,rule1,rule2,rule3,hk1,esC,strB,bne,a1f,a1g,a2f,a2g,a3f,a3g,w5,a4f,a4g,a5,a6t,a6e,syf])) _
     have a5t:¬ x.id=nx:=a5
     have a5b:(x.id == nx)=false:=by simpa using a5
     refine W_rK [1,3,4,5,63] ?_
     iterate 6 refine yq9 6 (by simp [hk1,esC,strB,bne,a1f,a1g,a2f,a2g,a3f,a3g,w5,a4f,a4g,a5t,a5b];rfl) rfl ?_
     refine yw9 (by simp [hk1,esC,strB,bne,a1f,a1g,a2f,a2g,a3f,a3g,w5,a4f,a4g,a5t,a5b];rfl) ?_
     refine yp9 rfl (fun h=>?_) (fun h=>by simp at h)
     refine yt9 [2] (by simp;rfl) ?_
     refine yn9 ?_
     repeat (first | refine yg9 ?_ | refine yh9 ?_)
     exact hret (hbad (by simp [vs9,rule1,rule2,rule3,hk1,esC,strB,bne,a1f,a1g,a2f,a2g,a3f,a3g,w5,a4f,a4g,a5t,a5b])) _
    have hk1b:(x.kind == 1)=false:=by simpa using hk1
    by_cases hk3:x.kind=3
    ·refine W_cF [1, 3, 4, 5, 23, 24] (by simp [hk3, esC]; rfl) rfl ?_
     refine W_cT [1,3,4,5,23,66] (by simp [hk3,esC];rfl) rfl ?_
     refine yl9 ?_
     by_cases b1:x.addr=0
     ·by_cases b2 : x.len = 0
      ·by_cases a5 : x.id = nx
       ·by_cases sy : symM x.name = true
        ·refine W_rK [1,3,4,5,87] ?_
         iterate 2 refine yq9 6 (by simp [hk3,esC,strB,bne,b1,b2,a5,sy];rfl) rfl ?_
         refine yq9 5 (by simp [hk3,esC,strB,bne,b1,b2,a5,sy];rfl) rfl ?_
         refine yd9 (by simp) (by first | (simp;done) | (simp;rfl) | (simp [hk3,esC,strB,bne,b1,b2,a5,sy];done) | (simp [hk3,esC,strB,bne,b1,b2,a5,sy];rfl)) hsy (by simp;rfl) ?_
         refine yw9 (by simp [hk3,esC,strB,bne,b1,b2,a5,sy];rfl) ?_
         refine yp9 rfl (fun h=>by simp at h) (fun h=>?_)
         refine zs9 [1,3,4,5] ?_
         refine yk9 ?_
         refine zq9 [1,3,4,5] (by simp [wnx];rfl) ?_
         exact ⟨by simp [vs9,rule1,rule2,rule3,hk3,esC,strB,bne,b1,b2,a5,sy],by simp [nx1,hk3,esC,strB,bne,b1,b2,a5,sy,esC,strB,obC]⟩
        have syf:symM x.name=false:=by simpa using sy
        refine W_rK [1,3,4,5,87] ?_
        iterate 2 refine yq9 6 (by simp [hk3,esC,strB,bne,b1,b2,a5,syf];rfl) rfl ?_
        refine yq9 5 (by simp [hk3,esC,strB,bne,b1,b2,a5,syf];rfl) rfl ?_
        refine yd9 (by simp) (by first | (simp;done) | (simp;rfl) | (simp [hk3,esC,strB,bne,b1,b2,a5,syf];done) | (simp [hk3,esC,strB,bne,b1,b2,a5,syf];rfl)) hsy (by simp;rfl) ?_
        refine yw9 (by simp [hk3,esC,strB,bne,b1,b2,a5,syf];rfl) ?_
        refine yp9 rfl (fun h=>?_) (fun h=>by simp at h)
        refine yt9 [2] (by simp;rfl) ?_
        refine yn9 ?_
        repeat (first | refine yg9 ?_ | refine yh9 ?_)
        exact hret (hbad (by simp [vs9,rule1,rule2,rule3,hk3,esC,strB,bne,b1,b2,a5,syf])) _
       have a5t:¬ x.id=nx:=a5
       have a5b:(x.id == nx)=false:=by simpa using a5
       refine W_rK [1,3,4,5,87] ?_
       iterate 3 refine yq9 6 (by simp [hk3,esC,strB,bne,b1,b2,a5t,a5b];rfl) rfl ?_
       refine yw9 (by simp [hk3,esC,strB,bne,b1,b2,a5t,a5b];rfl) ?_
       refine yp9 rfl (fun h=>?_) (fun h=>by simp at h)
       refine yt9 [2] (by simp;rfl) ?_
       refine yn9 ?_
       repeat (first | refine yg9 ?_ | refine yh9 ?_)
       exact hret (hbad (by simp [vs9,rule1,rule2,rule3,hk3,esC,strB,bne,b1,b2,a5t,a5b])) _
      have b2t:¬ x.len=0:=b2
      have b2b:(x.len == 0)=false:=by simpa using b2
      refine W_rK [1,3,4,5,87] ?_
      iterate 3 refine yq9 6 (by simp [hk3,esC,strB,bne,b1,b2t,b2b];rfl) rfl ?_
      refine yw9 (by simp [hk3,esC,strB,bne,b1,b2t,b2b];rfl) ?_
      refine yp9 rfl (fun h=>?_) (fun h=>by simp at h)
      refine yt9 [2] (by simp;rfl) ?_
      refine yn9 ?_
      repeat (first | refine yg9 ?_ | refine yh9 ?_)
      exact hret (hbad (by simp [vs9,rule1,rule2,rule3,hk3,esC,strB,bne,b1,b2t,b2b])) _
     have b1t:¬ x.addr=0:=b1
     have b1b:(x.addr == 0)=false:=by simpa using b1
     refine W_rK [1,3,4,5,87] ?_
     iterate 3 refine yq9 6 (by simp [hk3,esC,strB,bne,b1t,b1b];rfl) rfl ?_
     refine yw9 (by simp [hk3,esC,strB,bne,b1t,b1b];rfl) ?_
     refine yp9 rfl (fun h=>?_) (fun h=>by simp at h)
     refine yt9 [2] (by simp;rfl) ?_
     refine yn9 ?_
     repeat (first | refine yg9 ?_ | refine yh9 ?_)
     exact hret (hbad (by simp [vs9,rule1,rule2,rule3,hk3,esC,strB,bne,b1t,b1b])) _
    have hk3b:(x.kind == 3)=false:=by simpa using hk3
    by_cases hk2:x.kind=2
    ·refine W_cF [1, 3, 4, 5, 23, 24] (by simp [hk2, esC]; rfl) rfl ?_
     refine W_cF [1,3,4,5,23,66] (by simp [hk2,esC];rfl) rfl ?_
     refine W_cT [1,3,4,5,90] (by simp [hk2,esC];rfl) rfl ?_
     by_cases b2:x.len=0
     ·by_cases sy : symM x.name = true
      ·refine W_rK [1,3,4,5,100] ?_
       refine yq9 6 (by simp [hk2,esC,strB,bne,b2,sy];rfl) rfl ?_
       refine yd9 (by simp) (by first | (simp;done) | (simp;rfl) | (simp [hk2,esC,strB,bne,b2,sy];done) | (simp [hk2,esC,strB,bne,b2,sy];rfl)) hsy (by simp;rfl) ?_
       refine yw9 (by simp [hk2,esC,strB,bne,b2,sy];rfl) ?_
       refine yp9 rfl (fun h=>by simp at h) (fun h=>?_)
       refine zs9 [1,3,4,5] ?_
       refine yk9 ?_
       exact ⟨by simp [vs9,rule1,rule2,rule3,hk2,esC,strB,bne,b2,sy],by simp [nx1,hk2,esC,strB,bne,b2,sy,esC,strB,obC]⟩
      have syf:symM x.name=false:=by simpa using sy
      refine W_rK [1,3,4,5,100] ?_
      refine yq9 6 (by simp [hk2,esC,strB,bne,b2,syf];rfl) rfl ?_
      refine yd9 (by simp) (by first | (simp;done) | (simp;rfl) | (simp [hk2,esC,strB,bne,b2,syf];done) | (simp [hk2,esC,strB,bne,b2,syf];rfl)) hsy (by simp;rfl) ?_
      refine yw9 (by simp [hk2,esC,strB,bne,b2,syf];rfl) ?_
      refine yp9 rfl (fun h=>?_) (fun h=>by simp at h)
      refine yt9 [2] (by simp;rfl) ?_
      refine yn9 ?_
      repeat (first | refine yg9 ?_ | refine yh9 ?_)
      exact hret (hbad (by simp [vs9,rule1,rule2,rule3,hk2,esC,strB,bne,b2,syf])) _
     have b2t:¬ x.len=0:=b2
     have b2b:(x.len == 0)=false:=by simpa using b2
     refine W_rK [1,3,4,5,100] ?_
     refine yq9 6 (by simp [hk2,esC,strB,bne,b2t,b2b];rfl) rfl ?_
     refine yw9 (by simp [hk2,esC,strB,bne,b2t,b2b];rfl) ?_
     refine yp9 rfl (fun h=>?_) (fun h=>by simp at h)
     refine yt9 [2] (by simp;rfl) ?_
     refine yn9 ?_
     repeat (first | refine yg9 ?_ | refine yh9 ?_)
     exact hret (hbad (by simp [vs9,rule1,rule2,rule3,hk2,esC,strB,bne,b2t,b2b])) _
    have hk2b:(x.kind == 2)=false:=by simpa using hk2
    refine W_cF [1,3,4,5,23,24] (by simp [hk1,hk1b,hk3,hk3b,hk2,hk2b,esC];rfl) rfl ?_
    refine W_cF [1,3,4,5,23,66] (by simp [hk1,hk1b,hk3,hk3b,hk2,hk2b,esC];rfl) rfl ?_
    refine W_cF [1,3,4,5,90] (by simp [hk1,hk1b,hk3,hk3b,hk2,hk2b,esC];rfl) rfl ?_
    refine yt9 [2] (by simp;rfl) ?_
    refine yn9 ?_
    repeat (first | refine yg9 ?_ | refine yh9 ?_)
    exact hret (hbad (by simp [vs9,hk1,hk2,hk3])) _
   rintro _ ⟨hrule,rfl⟩
   rw [if_pos hrule] at hgo
   have hdup:=hE.dup x
   have hbad2:dupM N x=true→R=none:=fun h=>by rw [h] at hgo;simpa using hgo.symm
   refine W_thenK (fun σ=>dupM N x=false∧σ=⟨157,[(1,.loc 0 0),(3,.v (.int .i64 (nx1 nx x))),(4,.v (.int .i64 (i:Nat))),(5,.loc 1 0)],[.cells 33 (obC o),.cells 50 (esC x)]⟩) ?_ ?_
   ·refine yt9 [1, 3, 4, 5, 6] (by simp; rfl) ?_
    refine ys9 ?_
    refine zl9 (fun k σ => ∃ (j : Nat), k = i - j ∧ j ≤ i ∧ (x.name = [] ∨ (o.esd.take j).any (fun y => y.name == x.name) = false) ∧
     σ=⟨157,[(1,.loc 0 0),(3,.v (.int .i64 (nx1 nx x))),(4,.v (.int .i64 (i:Nat))),(5,.loc 1 0),(6,.v (.int .i64 (j:Nat)))],[.cells 33 (obC o),.cells 50 (esC x)]⟩) (k:=i) ⟨0,rfl,by omega,.inr rfl,by simp⟩ ?_
    rintro k σ ⟨j,rfl,hj,hno,rfl⟩
    refine yl9 ?_
    by_cases cj:j < i
    ·have cji : (j : Int) < i := by omega
     have cjl:j < o.esd.length:=by omega
     have cjz:(j:Int) < o.esd.length:=by omega
     have wj:=w64 (n:=(j:Int)+1) (by omega) (by omega)
     obtain ⟨y,hy⟩:∃ y,o.esd[j]?=some y:=⟨_,List.getElem?_eq_getElem cjl⟩
     have hy2:o.esd[j]'cjl=y:=by rw [List.getElem?_eq_getElem cjl] at hy;exact Option.some.inj hy
     have htj:o.esd.take (j+1)=o.esd.take j++[y]:=by rw [List.take_add_one,hy];rfl
     refine yt9 [1,3,4,5,6,103] (by simp [cj,cji];rfl) ?_
     refine yp9 rfl (fun h=>?_) (fun h=>by simp [cj] at h)
     refine yk9 ?_
     refine yl9 ?_
     refine ys9 ?_
     by_cases a6:x.name=[]
     ·have a6t:x.name=[]:=a6
      have a6e:x.name.isEmpty=true:=by rw [a6];rfl
      refine jh9 [1,3,4,5,6,119] mx (by decide +kernel) ?_
      iterate 2 refine yr9 6 (by simp [obC,esC,strB,cjl,cjz,hy2,vv9,bne,a6t,a6e];rfl) rfl ?_
      refine ym9 (by simp [obC,esC,strB,cjl,cjz,hy2,vv9,bne,a6t,a6e];rfl) ?_
      refine yp9 rfl (fun h=>by simp at h) (fun h=>?_)
      refine yk9 ?_
      refine zq9 [1,3,4,5,6] (by simp [wj];rfl) ?_
      exact ⟨_,by omega,j+1,rfl,by omega,.inl a6,by simp [obC,esC,strB,a6]⟩
     have a6t:¬ x.name=[]:=a6
     have a6e:x.name.isEmpty=false:=by simpa using a6
     by_cases d2:y.name=x.name
     ·refine jh9 [1,3,4,5,6,119] mx (by decide +kernel) ?_
      iterate 2 refine yr9 6 (by simp [obC,esC,strB,cjl,cjz,hy2,vv9,bne,a6t,a6e,d2];rfl) rfl ?_
      refine ym9 (by simp [obC,esC,strB,cjl,cjz,hy2,vv9,bne,a6t,a6e,d2];rfl) ?_
      refine yp9 rfl (fun h=>?_) (fun h=>by simp at h)
      refine yt9 [2] (by simp;rfl) ?_
      refine yn9 ?_
      repeat (first | refine yg9 ?_ | refine yh9 ?_)
      refine hret (hbad2 ?_) _
      rw [hdup,decide_eq_false a6]
      simp only [Bool.not_false,Bool.true_and]
      rw [List.any_eq_true]
      refine ⟨y,?_,by simp [d2]⟩
      rw [List.mem_take_iff_getElem]
      exact ⟨j,by omega,hy2⟩
     have d2t:¬ y.name=x.name:=d2
     have d2b:(y.name == x.name)=false:=by simpa using d2
     refine jh9 [1,3,4,5,6,119] mx (by decide +kernel) ?_
     iterate 2 refine yr9 6 (by simp [obC,esC,strB,cjl,cjz,hy2,vv9,bne,a6t,a6e,d2t,d2b];rfl) rfl ?_
     refine ym9 (by simp [obC,esC,strB,cjl,cjz,hy2,vv9,bne,a6t,a6e,d2t,d2b];rfl) ?_
     refine yp9 rfl (fun h=>by simp at h) (fun h=>?_)
     refine yk9 ?_
     refine zq9 [1,3,4,5,6] (by simp [wj];rfl) ?_
     refine ⟨_,by omega,j+1,rfl,by omega,?_,by simp [obC,esC,strB]⟩
     rw [htj,List.any_append]
     rcases hno with h | h
     ·exact .inl h
     ·exact .inr (by rw [h];simp [d2t])
    have hjl:j=i:=by omega
    have cjn:¬ ((j:Int) < i):=by omega
    refine yt9 [1,3,4,5,6,103] (by simp [cjn];rfl) ?_
    refine yp9 rfl (fun h=>by simp [hjl] at h) (fun h=>?_)
    refine zs9 [1,3,4,5] ?_
    refine zj9 ?_
    refine ⟨?_,by simp⟩
    rw [hdup]
    rcases hno with h | h
    ·simp [h]
    ·rw [← hjl,h];simp
   rintro _ ⟨hnd,rfl⟩
   rw [hnd,if_neg (by simp)] at hgo
   refine zs9 [1,3,4] ?_
   refine xp9 1 (Nat.zero_le _) (by simp) (by simp [yv9,AV.under,AV.underL]) (by simp [yc9,AObj.under,zp9]) ?_
   refine zq9 [1,3,4] (by simp [wi];rfl) ?_
   refine ⟨_,by omega,i+1,_,_,_,rfl,by omega,by rw [htk];exact hE.step hrule hnd,?_,hgo,by simp⟩
   unfold nx1
   split <;> omega
  ·have hie:i=o.esd.length:=by omega
   have cn:¬ ((i:Int) < o.esd.length):=by omega
   rw [hie,List.drop_length,uf9] at hgo
   rw [hie,List.take_length] at hE
   refine yt9 [1,3,4,14] (by simp [obC,cn];rfl) ?_
   refine yp9 rfl (fun h=>by simp [hie] at h) (fun h=>?_)
   refine zs9 [1,3] ?_
   refine zj9 ?_
   exact ⟨S,N,nx,hgo.symm,hE,by simp [obC]⟩
 rintro _ ⟨S,N,nx,hRs,hE,rfl⟩
 rw [hRs]
 have hfst:=uc6 o (by omega)
 refine xh9 (fun σ=>o.esd.all (ent1 S)=true∧σ=⟨157,[(1,.loc 0 0)],[.cells 33 (obC o)]⟩) ?_ ?_
 ·refine yt9 [1, 7] (by simp; rfl) ?_
  refine ys9 ?_
  refine zl9 (fun k σ=>∃ (i:Nat),k=o.esd.length - i∧i≤o.esd.length∧o.esd.all (ent1 S)=(o.esd.drop i).all (ent1 S)∧σ=⟨157,[(1,.loc 0 0),(7,.v (.int .i64 (i:Nat)))],[.cells 33 (obC o)]⟩) (k:=o.esd.length) ⟨0,rfl,by omega,by simp,by simp⟩ ?_
  rintro k σ ⟨i,rfl,hi,hall,rfl⟩
  refine yl9 ?_
  by_cases c:i < o.esd.length
  ·have ci : (i : Int) < o.esd.length := by omega
   obtain ⟨x,hs⟩:∃ x,o.esd[i]?=some x:=⟨_,List.getElem?_eq_getElem c⟩
   have hs2:o.esd[i]'c=x:=by rw [List.getElem?_eq_getElem c] at hs;exact Option.some.inj hs
   have hdr:o.esd.drop i=x :: o.esd.drop (i+1):=vt9 c hs2
   obtain ⟨hxn,hxa⟩:=hx x (List.mem_of_getElem? hs)
   have wi:=w64 (n:=(i:Int)+1) (by omega) (by omega)
   rw [hdr,List.all_cons] at hall
   have hli:=vg8 o x.id x.addr 0 (by omega) (hE.sm x.id) hxa
   rw [hE.lies] at hli
   refine yt9 [1,7,124] (by simp [obC,ci];rfl) ?_
   refine yp9 rfl (fun h=>?_) (fun h=>by simp [c] at h)
   refine yk9 ?_
   refine yl9 ?_
   refine ys9 ?_
   by_cases hk:x.kind=2
   ·have hkt : x.kind = 2 := hk
    by_cases lv:yq8 S x.id x.addr 0=true
    ·refine jh9 [1,7,150] mx (by decide +kernel) ?_
     iterate 3 refine yr9 6 (by simp [obC,c,ci,hs2,strB,hkt,lv];rfl) rfl ?_
     refine yr9 3 (by simp [obC,c,ci,hs2,strB,hkt,lv];rfl) rfl ?_
     refine zw9 (by simp) (by first | (simp;done) | (simp;rfl) | (simp [obC,c,ci,hs2,strB,hkt,lv];done) | (simp [obC,c,ci,hs2,strB,hkt,lv];rfl)) hli (by simp;rfl) ?_
     refine ym9 (by simp [obC,c,ci,hs2,strB,hkt,lv];rfl) ?_
     refine yp9 rfl (fun h=>by simp at h) (fun h=>?_)
     refine yk9 ?_
     refine zq9 [1,7] (by simp [wi];rfl) ?_
     exact ⟨_,by omega,i+1,rfl,by omega,by rw [hall];simp [ent1,hkt,lv],by simp [obC,strB]⟩
    have lvf:yq8 S x.id x.addr 0=false:=by simpa using lv
    refine jh9 [1,7,150] mx (by decide +kernel) ?_
    iterate 3 refine yr9 6 (by simp [obC,c,ci,hs2,strB,hkt,lvf];rfl) rfl ?_
    refine yr9 3 (by simp [obC,c,ci,hs2,strB,hkt,lvf];rfl) rfl ?_
    refine zw9 (by simp) (by first | (simp;done) | (simp;rfl) | (simp [obC,c,ci,hs2,strB,hkt,lvf];done) | (simp [obC,c,ci,hs2,strB,hkt,lvf];rfl)) hli (by simp;rfl) ?_
    refine ym9 (by simp [obC,c,ci,hs2,strB,hkt,lvf];rfl) ?_
    refine yp9 rfl (fun h=>?_) (fun h=>by simp at h)
    refine yt9 [2] (by simp;rfl) ?_
    refine yn9 ?_
    repeat (first | refine yg9 ?_ | refine yh9 ?_)
    simp [retQ,esdB,hall,ent1,hkt,lvf]
   have hkt:¬ x.kind=2:=hk
   have hkb:(x.kind == 2)=false:=by simpa using hk
   refine jh9 [1,7,150] mx (by decide +kernel) ?_
   iterate 3 refine yr9 6 (by simp [obC,c,ci,hs2,strB,hkt,hkb];rfl) rfl ?_
   refine ym9 (by simp [obC,c,ci,hs2,strB,hkt,hkb];rfl) ?_
   refine yp9 rfl (fun h=>by simp at h) (fun h=>?_)
   refine yk9 ?_
   refine zq9 [1,7] (by simp [wi];rfl) ?_
   exact ⟨_,by omega,i+1,rfl,by omega,by rw [hall];simp [ent1,hkt,hkb],by simp [obC,strB]⟩
  have hie:i=o.esd.length:=by omega
  have cn:¬ ((i:Int) < o.esd.length):=by omega
  rw [hie,List.drop_length,List.all_nil] at hall
  refine yt9 [1,7,124] (by simp [obC,cn];rfl) ?_
  refine yp9 rfl (fun h=>by simp [hie] at h) (fun h=>?_)
  refine zs9 [1] ?_
  refine zj9 ?_
  exact ⟨hall,by simp [obC]⟩
 rintro _ ⟨hall,rfl⟩
 have hfi:=hE.first
 cases hf:o.esd.find? isS1 with
 | none =>
  rw [hf] at hfst hfi
  refine W_rK [9] ?_
  refine yq9 1 (by simp;rfl) rfl ?_
  refine yd9 (by simp) (by first | (simp;done) | (simp;rfl) | (simp [obC,strB];done) | (simp [obC,strB];rfl)) hfst (by simp [fndR];rfl) ?_
  refine yw9 (by simp [es0,strB,yf9];rfl) ?_
  refine yt9 [2] (by simp;rfl) ?_
  refine yn9 ?_
  repeat (first | refine yg9 ?_ | refine yh9 ?_)
  simp [retQ,esdB,hall,← hfi]
 | some y =>
  rw [hf] at hfst hfi
  refine W_rK [9] ?_
  refine yq9 1 (by simp;rfl) rfl ?_
  refine yd9 (by simp) (by first | (simp;done) | (simp;rfl) | (simp [obC,strB];done) | (simp [obC,strB];rfl)) hfst (by simp [fndR];rfl) ?_
  refine yw9 (by simp [strB,yf9];rfl) ?_
  refine yt9 [2] (by simp;rfl) ?_
  refine yn9 ?_
  repeat (first | refine yg9 ?_ | refine yh9 ?_)
  simp [retQ,esdB,hall,← hfi]
theorem zt7 (o:OMod) (ho:OIn o) (hbl:o.esd.length≤1000000∧o.txt.length≤1000000∧o.rld.length≤1000000):Sound Tryz.prog 41 [obA o] (.v (.bool (chkM o))):=by
 refine zh9 Tryz.func41 rfl (by decide +kernel) (by simp [Tryz.f41,strB]) (by simp [AV.rfL,AV.rf,strB]) (by simp [AV.tlL,AV.tl,strB]) (rs:=[.tmp 2]) rfl ?_
 rw [show Tryz.f41.ntmps=112 from rfl]
 obtain ⟨he,ht,hr⟩:=ho
 obtain ⟨bl1,bl2,bl3⟩:=hbl
 obtain ⟨G,hG⟩:∃ G,uf9 o.esd [] [] 1=G:=⟨_,rfl⟩
 have hEI:∀ S N nx,G=some (S,N,nx)→EInv o.esd S N nx:=fun S N nx h=>by
  rw [h] at hG
  simpa using jg9 o.esd [] [] S [] N 1 nx EInv.nil hG
 have hdf:=yl6 o o.entry (by omega)
 refine yt9 [1] (by simp;rfl) ?_
 refine xh9 (fun σ=>∃ S N nx,bigB o=false∧G=some (S,N,nx)∧esdB o.esd G=true∧EInv o.esd S N nx∧entB N o.entry=false∧σ=⟨112,[(1,.loc 0 0)],[.cells 33 (obC o)]⟩) ?_ ?_
 ·by_cases c1 : 2048 < o.esd.length
  ·have c1a:2048 < o.esd.length:=c1
   have c1b:(2048:Int) < (o.esd.length:Nat):=by omega
   refine W_rK [1,39] ?_
   iterate 5 refine yq9 6 (by simp [obC,strB,bne,c1a,c1b];rfl) rfl ?_
   refine yw9 (by simp [obC,strB,bne,c1a,c1b];rfl) ?_
   refine yp9 rfl (fun h=>?_) (fun h=>by simp at h)
   refine yt9 [2] (by simp;rfl) ?_
   refine yn9 ?_
   repeat (first | refine yg9 ?_ | refine yh9 ?_)
   simp [retQ,chkM,bigB,hG,c1a,c1b]
  have c1a:¬ 2048 < o.esd.length:=c1
  have c1b:¬ (2048:Int) < (o.esd.length:Nat):=by omega
  by_cases c2:2048 < o.txt.length
  ·have c2a:2048 < o.txt.length:=c2
   have c2b:(2048:Int) < (o.txt.length:Nat):=by omega
   refine W_rK [1,39] ?_
   iterate 5 refine yq9 6 (by simp [obC,strB,bne,c1a,c1b,c2a,c2b];rfl) rfl ?_
   refine yw9 (by simp [obC,strB,bne,c1a,c1b,c2a,c2b];rfl) ?_
   refine yp9 rfl (fun h=>?_) (fun h=>by simp at h)
   refine yt9 [2] (by simp;rfl) ?_
   refine yn9 ?_
   repeat (first | refine yg9 ?_ | refine yh9 ?_)
   simp [retQ,chkM,bigB,hG,c1a,c1b,c2a,c2b]
  have c2a:¬ 2048 < o.txt.length:=c2
  have c2b:¬ (2048:Int) < (o.txt.length:Nat):=by omega
  by_cases c3:2048 < o.rld.length
  ·have c3a:2048 < o.rld.length:=c3
   have c3b:(2048:Int) < (o.rld.length:Nat):=by omega
   refine W_rK [1,39] ?_
   iterate 5 refine yq9 6 (by simp [obC,strB,bne,c1a,c1b,c2a,c2b,c3a,c3b];rfl) rfl ?_
   refine yw9 (by simp [obC,strB,bne,c1a,c1b,c2a,c2b,c3a,c3b];rfl) ?_
   refine yp9 rfl (fun h=>?_) (fun h=>by simp at h)
   refine yt9 [2] (by simp;rfl) ?_
   refine yn9 ?_
   repeat (first | refine yg9 ?_ | refine yh9 ?_)
   simp [retQ,chkM,bigB,hG,c1a,c1b,c2a,c2b,c3a,c3b]
  have c3a:¬ 2048 < o.rld.length:=c3
  have c3b:¬ (2048:Int) < (o.rld.length:Nat):=by omega
  by_cases es:esdB o.esd G=true
  ·have est : esdB o.esd G = true := es
   obtain ⟨⟨S,N,nx⟩,hGs⟩:∃ p,G=some p:=(by cases G with | none=>simp [esdB] at es | some p=>exact ⟨p,rfl⟩)
   have hE:=hEI S N nx hGs
   have hen:=hE.entry o.entry
   by_cases a6:o.entry=[]
   ·have a6t:o.entry=[]:=a6
    have a6e:o.entry.isEmpty=true:=by rw [a6];rfl
    refine W_rK [1,39] ?_
    have hesd:=vj8 o (by omega) he
    rw [hG] at hesd
    iterate 3 refine yq9 6 (by simp [obC,strB,bne,c1a,c1b,c2a,c2b,c3a,c3b,est,a6t,a6e];rfl) rfl ?_
    refine yd9 (by simp) (by first | (simp;done) | (simp;rfl) | (simp [obC,strB,bne,c1a,c1b,c2a,c2b,c3a,c3b,est,a6t,a6e];done) | (simp [obC,strB,bne,c1a,c1b,c2a,c2b,c3a,c3b,est,a6t,a6e];rfl)) hesd (by simp;rfl) ?_
    iterate 2 refine yq9 6 (by simp [obC,strB,bne,c1a,c1b,c2a,c2b,c3a,c3b,est,a6t,a6e];rfl) rfl ?_
    refine yw9 (by simp [obC,strB,bne,c1a,c1b,c2a,c2b,c3a,c3b,est,a6t,a6e];rfl) ?_
    refine yp9 rfl (fun h=>by simp at h) (fun h=>?_)
    refine zs9 [1] ?_
    refine yk9 ?_
    exact ⟨S,N,nx,by simp [bigB,c1a,c1b,c2a,c2b,c3a,c3b,est,a6t,a6e],hGs,est,hE,by rw [hen];simp [c1a,c1b,c2a,c2b,c3a,c3b,est,a6t,a6e],by simp [obC,strB,a6t]⟩
   have a6t:¬ o.entry=[]:=a6
   have a6e:o.entry.isEmpty=false:=by simpa using a6
   by_cases df:o.esd.any (isDf o.entry)=true
   ·have dft:o.esd.any (isDf o.entry)=true:=df
    refine W_rK [1,39] ?_
    have hesd:=vj8 o (by omega) he
    rw [hG] at hesd
    iterate 3 refine yq9 6 (by simp [obC,strB,bne,c1a,c1b,c2a,c2b,c3a,c3b,est,a6t,a6e,dft];rfl) rfl ?_
    refine yd9 (by simp) (by first | (simp;done) | (simp;rfl) | (simp [obC,strB,bne,c1a,c1b,c2a,c2b,c3a,c3b,est,a6t,a6e,dft];done) | (simp [obC,strB,bne,c1a,c1b,c2a,c2b,c3a,c3b,est,a6t,a6e,dft];rfl)) hesd (by simp;rfl) ?_
    refine yq9 6 (by simp [obC,strB,bne,c1a,c1b,c2a,c2b,c3a,c3b,est,a6t,a6e,dft];rfl) rfl ?_
    refine yq9 4 (by simp [obC,strB,bne,c1a,c1b,c2a,c2b,c3a,c3b,est,a6t,a6e,dft];rfl) rfl ?_
    refine yd9 (by simp) (by first | (simp;done) | (simp;rfl) | (simp [obC,strB,bne,c1a,c1b,c2a,c2b,c3a,c3b,est,a6t,a6e,dft];done) | (simp [obC,strB,bne,c1a,c1b,c2a,c2b,c3a,c3b,est,a6t,a6e,dft];rfl)) hdf (by simp;rfl) ?_
    refine yw9 (by simp [obC,strB,bne,c1a,c1b,c2a,c2b,c3a,c3b,est,a6t,a6e,dft];rfl) ?_
    refine yp9 rfl (fun h=>by simp at h) (fun h=>?_)
    refine zs9 [1] ?_
    refine yk9 ?_
    exact ⟨S,N,nx,by simp [bigB,c1a,c1b,c2a,c2b,c3a,c3b,est,a6t,a6e,dft],hGs,est,hE,by rw [hen];simp [c1a,c1b,c2a,c2b,c3a,c3b,est,a6t,a6e,dft],by simp [obC,strB,a6t]⟩
   have dff:o.esd.any (isDf o.entry)=false:=by simpa using df
   refine W_rK [1,39] ?_
   have hesd:=vj8 o (by omega) he
   rw [hG] at hesd
   iterate 3 refine yq9 6 (by simp [obC,strB,bne,c1a,c1b,c2a,c2b,c3a,c3b,est,a6t,a6e,dff];rfl) rfl ?_
   refine yd9 (by simp) (by first | (simp;done) | (simp;rfl) | (simp [obC,strB,bne,c1a,c1b,c2a,c2b,c3a,c3b,est,a6t,a6e,dff];done) | (simp [obC,strB,bne,c1a,c1b,c2a,c2b,c3a,c3b,est,a6t,a6e,dff];rfl)) hesd (by simp;rfl) ?_
   refine yq9 6 (by simp [obC,strB,bne,c1a,c1b,c2a,c2b,c3a,c3b,est,a6t,a6e,dff];rfl) rfl ?_
   refine yq9 4 (by simp [obC,strB,bne,c1a,c1b,c2a,c2b,c3a,c3b,est,a6t,a6e,dff];rfl) rfl ?_
   refine yd9 (by simp) (by first | (simp;done) | (simp;rfl) | (simp [obC,strB,bne,c1a,c1b,c2a,c2b,c3a,c3b,est,a6t,a6e,dff];done) | (simp [obC,strB,bne,c1a,c1b,c2a,c2b,c3a,c3b,est,a6t,a6e,dff];rfl)) hdf (by simp;rfl) ?_
   refine yw9 (by simp [obC,strB,bne,c1a,c1b,c2a,c2b,c3a,c3b,est,a6t,a6e,dff];rfl) ?_
   refine yp9 rfl (fun h=>?_) (fun h=>by simp at h)
   refine yt9 [2] (by simp;rfl) ?_
   refine yn9 ?_
   repeat (first | refine yg9 ?_ | refine yh9 ?_)
   have hch:chkM o=false:=by
    rw [chkM,hG,hGs]
    simp [kp7,hen,c1a,c1b,c2a,c2b,c3a,c3b,a6t,a6e,dff]
   simp [retQ,hch]
  have esf:esdB o.esd G=false:=by simpa using es
  refine W_rK [1,39] ?_
  have hesd:=vj8 o (by omega) he
  rw [hG] at hesd
  iterate 3 refine yq9 6 (by simp [obC,strB,bne,c1a,c1b,c2a,c2b,c3a,c3b,esf];rfl) rfl ?_
  refine yd9 (by simp) (by first | (simp;done) | (simp;rfl) | (simp [obC,strB,bne,c1a,c1b,c2a,c2b,c3a,c3b,esf];done) | (simp [obC,strB,bne,c1a,c1b,c2a,c2b,c3a,c3b,esf];rfl)) hesd (by simp;rfl) ?_
  iterate 2 refine yq9 6 (by simp [obC,strB,bne,c1a,c1b,c2a,c2b,c3a,c3b,esf];rfl) rfl ?_
  refine yw9 (by simp [obC,strB,bne,c1a,c1b,c2a,c2b,c3a,c3b,esf];rfl) ?_
  refine yp9 rfl (fun h=>?_) (fun h=>by simp at h)
  refine yt9 [2] (by simp;rfl) ?_
  refine yn9 ?_
  repeat (first | refine yg9 ?_ | refine yh9 ?_)
  simp [retQ,chkM,bigB,hG,c1a,c1b,c2a,c2b,c3a,c3b,esf]
 rintro _ ⟨S,N,nx,hbig,hGe,hB,hE,hen,rfl⟩
 have hmod:chkM o=(o.txt.all (fun t=>!txB S t)&&o.rld.all (fun r=>!rdB S nx r)):=by rw [chkM,hG,hbig,hB,hGe];simp [kp7,hen]
 have hbig2:=hbig
 simp only [bigB,Bool.or_eq_false_iff,decide_eq_false_iff_not] at hbig2
 obtain ⟨l1,l2,l3⟩:=hbig2
 refine xh9 (fun σ=>o.txt.all (fun t=>!txB S t)=true∧σ=⟨112,[(1,.loc 0 0)],[.cells 33 (obC o)]⟩) ?_ ?_
 ·refine yt9 [1, 3] (by simp; rfl) ?_
  refine ys9 ?_
  refine zl9 (fun k σ=>∃ (i:Nat),k=o.txt.length - i∧i≤o.txt.length∧o.txt.all (fun t=>!txB S t)=(o.txt.drop i).all (fun t=>!txB S t)∧σ=⟨112,[(1,.loc 0 0),(3,.v (.int .i64 (i:Nat)))],[.cells 33 (obC o)]⟩) (k:=o.txt.length) ⟨0,rfl,by omega,by simp,by simp⟩ ?_
  rintro k σ ⟨i,rfl,hi,hall,rfl⟩
  refine yl9 ?_
  by_cases c:i < o.txt.length
  ·have ci : (i : Int) < o.txt.length := by omega
   obtain ⟨x,hs⟩:∃ x,o.txt[i]?=some x:=⟨_,List.getElem?_eq_getElem c⟩
   have hs2:o.txt[i]'c=x:=by rw [List.getElem?_eq_getElem c] at hs;exact Option.some.inj hs
   have hdr:o.txt.drop i=x :: o.txt.drop (i+1):=vt9 c hs2
   obtain ⟨hxa,hxd⟩:=ht x (List.mem_of_getElem? hs)
   have wi:=w64 (n:=(i:Int)+1) (by omega) (by omega)
   have hlies:=vg8 o x.id x.addr x.data.length bl1 (hE.sm x.id) hxa
   rw [hE.lies] at hlies
   rw [hdr,List.all_cons] at hall
   refine yt9 [1,3,44] (by simp [obC,ci];rfl) ?_
   refine yp9 rfl (fun h=>?_) (fun h=>by simp [c] at h)
   refine yk9 ?_
   refine yl9 ?_
   refine ys9 ?_
   refine yt9 [1,3,4] (by simp [obC,c,ci,hs2,yf9,AV.weakL,AV.weak,AV.koneL,AV.kone];rfl) ?_
   by_cases d1:x.data.length < 1
   ·have d1a : x.data.length < 1 := d1
    have d1b:((x.data.length:Nat):Int) < 1:=by omega
    refine W_rK [1,3,73] ?_
    iterate 3 refine yq9 6 (by simp [obC,txC,strB,d1a,d1b];rfl) rfl ?_
    refine yw9 (by simp [obC,txC,strB,d1a,d1b];rfl) ?_
    refine yp9 rfl (fun h=>?_) (fun h=>by simp at h)
    refine yt9 [2] (by simp;rfl) ?_
    refine yn9 ?_
    repeat (first | refine yg9 ?_ | refine yh9 ?_)
    have hch:chkM o=false:=by
     rw [hmod,hall]
     simp [txB,d1a,d1b]
    simp [retQ,hch]
   have d1a:¬ x.data.length < 1:=d1
   have d1b:¬ ((x.data.length:Nat):Int) < 1:=by omega
   by_cases d2:56 < x.data.length
   ·have d2a : 56 < x.data.length := d2
    have d2b:(56:Int) < (x.data.length:Nat):=by omega
    refine W_rK [1,3,73] ?_
    iterate 3 refine yq9 6 (by simp [obC,txC,strB,d1a,d1b,d2a,d2b];rfl) rfl ?_
    refine yw9 (by simp [obC,txC,strB,d1a,d1b,d2a,d2b];rfl) ?_
    refine yp9 rfl (fun h=>?_) (fun h=>by simp at h)
    refine yt9 [2] (by simp;rfl) ?_
    refine yn9 ?_
    repeat (first | refine yg9 ?_ | refine yh9 ?_)
    have hch:chkM o=false:=by
     rw [hmod,hall]
     simp [txB,d1a,d1b,d2a,d2b]
    simp [retQ,hch]
   have d2a:¬ 56 < x.data.length:=d2
   have d2b:¬ (56:Int) < (x.data.length:Nat):=by omega
   by_cases lv:yq8 S x.id x.addr x.data.length=true
   ·have lvt:yq8 S x.id x.addr x.data.length=true:=lv
    refine W_rK [1,3,73] ?_
    iterate 2 refine yq9 6 (by simp [obC,txC,strB,d1a,d1b,d2a,d2b,lvt];rfl) rfl ?_
    refine yq9 7 (by simp [obC,txC,strB,d1a,d1b,d2a,d2b,lvt];rfl) rfl ?_
    refine yd9 (by simp) (by first | (simp;done) | (simp;rfl) | (simp [obC,txC,strB,d1a,d1b,d2a,d2b,lvt];done) | (simp [obC,txC,strB,d1a,d1b,d2a,d2b,lvt];rfl)) hlies (by simp;rfl) ?_
    refine yw9 (by simp [obC,txC,strB,d1a,d1b,d2a,d2b,lvt];rfl) ?_
    refine yp9 rfl (fun h=>by simp at h) (fun h=>?_)
    refine yk9 ?_
    refine zs9 [1,3] ?_
    refine xp9 1 (Nat.zero_le _) (by simp) (by simp [yv9,AV.under,AV.underL]) (by simp [yc9,AObj.under,zp9,obC,AV.underL,AV.under,strB]) ?_
    refine zq9 [1,3] (by simp [wi];rfl) ?_
    exact ⟨_,by omega,i+1,rfl,by omega,by rw [hall];simp [txB,d1a,d1b,d2a,d2b,lvt],by simp [obC,strB]⟩
   have lvf:yq8 S x.id x.addr x.data.length=false:=by simpa using lv
   refine W_rK [1,3,73] ?_
   iterate 2 refine yq9 6 (by simp [obC,txC,strB,d1a,d1b,d2a,d2b,lvf];rfl) rfl ?_
   refine yq9 7 (by simp [obC,txC,strB,d1a,d1b,d2a,d2b,lvf];rfl) rfl ?_
   refine yd9 (by simp) (by first | (simp;done) | (simp;rfl) | (simp [obC,txC,strB,d1a,d1b,d2a,d2b,lvf];done) | (simp [obC,txC,strB,d1a,d1b,d2a,d2b,lvf];rfl)) hlies (by simp;rfl) ?_
   refine yw9 (by simp [obC,txC,strB,d1a,d1b,d2a,d2b,lvf];rfl) ?_
   refine yp9 rfl (fun h=>?_) (fun h=>by simp at h)
   refine yt9 [2] (by simp;rfl) ?_
   refine yn9 ?_
   repeat (first | refine yg9 ?_ | refine yh9 ?_)
   have hch:chkM o=false:=by
    rw [hmod,hall]
    simp [txB,d1a,d1b,d2a,d2b,lvf]
   simp [retQ,hch]
  have hie:i=o.txt.length:=by omega
  have cn:¬ ((i:Int) < o.txt.length):=by omega
  rw [hie,List.drop_length,List.all_nil] at hall
  refine yt9 [1,3,44] (by simp [obC,cn];rfl) ?_
  refine yp9 rfl (fun h=>by simp [hie] at h) (fun h=>?_)
  refine zs9 [1] ?_
  refine zj9 ?_
  exact ⟨hall,by simp [obC,strB]⟩
 rintro _ ⟨htall,rfl⟩
 rw [htall,Bool.true_and] at hmod
 refine xh9 (fun σ=>o.rld.all (fun r=>!rdB S nx r)=true∧σ=⟨112,[(1,.loc 0 0)],[.cells 33 (obC o)]⟩) ?_ ?_
 ·refine yt9 [1, 5] (by simp; rfl) ?_
  refine ys9 ?_
  refine zl9 (fun k σ=>∃ (i:Nat),k=o.rld.length - i∧i≤o.rld.length∧o.rld.all (fun r=>!rdB S nx r)=(o.rld.drop i).all (fun r=>!rdB S nx r)∧σ=⟨112,[(1,.loc 0 0),(5,.v (.int .i64 (i:Nat)))],[.cells 33 (obC o)]⟩) (k:=o.rld.length) ⟨0,rfl,by omega,by simp,by simp⟩ ?_
  rintro k σ ⟨i,rfl,hi,hall,rfl⟩
  refine yl9 ?_
  by_cases c:i < o.rld.length
  ·have ci : (i : Int) < o.rld.length := by omega
   obtain ⟨x,hs⟩:∃ x,o.rld[i]?=some x:=⟨_,List.getElem?_eq_getElem c⟩
   have hs2:o.rld[i]'c=x:=by rw [List.getElem?_eq_getElem c] at hs;exact Option.some.inj hs
   have hdr:o.rld.drop i=x :: o.rld.drop (i+1):=vt9 c hs2
   have hxa:=hr x (List.mem_of_getElem? hs)
   have wi:=w64 (n:=(i:Int)+1) (by omega) (by omega)
   have hlies:=vg8 o x.in_ x.addr x.len bl1 (hE.sm x.in_) hxa
   rw [hE.lies] at hlies
   have htg:=zf6 o x.to_ bl1
   rw [hE.t1] at htg
   obtain ⟨tg,htgv⟩:∃ tg,(decide (1≤x.to_)&&decide (x.to_ < nx))=tg:=⟨_,rfl⟩
   rw [htgv] at htg
   have hrd:rdB S nx x=(decide (x.len < 1) || (decide (4 < x.len) || (!yq8 S x.in_ x.addr x.len || !tg))):=by
    have e1:decide (x.to_ < 1)=!decide (1≤x.to_):=by rw [Bool.eq_iff_iff];simp
    have e2:decide (nx≤x.to_)=!decide (x.to_ < nx):=by rw [Bool.eq_iff_iff];simp
    rw [← htgv,rdB,e1,e2]
    cases decide (1≤x.to_) <;> cases decide (x.to_ < nx) <;> cases yq8 S x.in_ x.addr x.len <;> rfl
   rw [hdr,List.all_cons,hrd] at hall
   refine yt9 [1,5,78] (by simp [obC,ci];rfl) ?_
   refine yp9 rfl (fun h=>?_) (fun h=>by simp [c] at h)
   refine yk9 ?_
   refine yl9 ?_
   refine ys9 ?_
   refine yt9 [1,5,6] (by simp [obC,c,ci,hs2,yf9,AV.weakL,AV.weak,AV.koneL,AV.kone];rfl) ?_
   by_cases d1:x.len < 1
   ·refine W_rK [1, 5, 111] ?_
    iterate 4 refine yq9 6 (by simp [obC,rdC,strB,d1];rfl) rfl ?_
    refine yw9 (by simp [obC,rdC,strB,d1];rfl) ?_
    refine yp9 rfl (fun h=>?_) (fun h=>by simp at h)
    refine yt9 [2] (by simp;rfl) ?_
    refine yn9 ?_
    repeat (first | refine yg9 ?_ | refine yh9 ?_)
    have hch:chkM o=false:=by
     rw [hmod,hall]
     simp [Bool.not_true,d1]
    simp [retQ,hch]
   by_cases d2:4 < x.len
   ·refine W_rK [1, 5, 111] ?_
    iterate 4 refine yq9 6 (by simp [obC,rdC,strB,d1,d2];rfl) rfl ?_
    refine yw9 (by simp [obC,rdC,strB,d1,d2];rfl) ?_
    refine yp9 rfl (fun h=>?_) (fun h=>by simp at h)
    refine yt9 [2] (by simp;rfl) ?_
    refine yn9 ?_
    repeat (first | refine yg9 ?_ | refine yh9 ?_)
    have hch:chkM o=false:=by
     rw [hmod,hall]
     simp [Bool.not_true,d1,d2]
    simp [retQ,hch]
   by_cases lv:yq8 S x.in_ x.addr x.len=true
   ·have lvt : yq8 S x.in_ x.addr x.len = true := lv
    by_cases tg1:tg=true
    ·have tgt:tg=true:=tg1
     refine W_rK [1,5,111] ?_
     iterate 2 refine yq9 6 (by simp [obC,rdC,strB,d1,d2,lvt,tgt];rfl) rfl ?_
     refine yq9 4 (by simp [obC,rdC,strB,d1,d2,lvt,tgt];rfl) rfl ?_
     refine yd9 (by simp) (by first | (simp;done) | (simp;rfl) | (simp [obC,rdC,strB,d1,d2,lvt,tgt];done) | (simp [obC,rdC,strB,d1,d2,lvt,tgt];rfl)) hlies (by simp;rfl) ?_
     refine yq9 6 (by simp [obC,rdC,strB,d1,d2,lvt,tgt];rfl) rfl ?_
     refine yd9 (by simp) (by first | (simp;done) | (simp;rfl) | (simp [obC,rdC,strB,d1,d2,lvt,tgt];done) | (simp [obC,rdC,strB,d1,d2,lvt,tgt];rfl)) htg (by simp;rfl) ?_
     refine yw9 (by simp [obC,rdC,strB,d1,d2,lvt,tgt];rfl) ?_
     refine yp9 rfl (fun h=>by simp at h) (fun h=>?_)
     refine yk9 ?_
     refine zs9 [1,5] ?_
     refine xp9 1 (Nat.zero_le _) (by simp) (by simp [yv9,AV.under,AV.underL]) (by simp [yc9,AObj.under,zp9,obC,AV.underL,AV.under,strB]) ?_
     refine zq9 [1,5] (by simp [wi];rfl) ?_
     exact ⟨_,by omega,i+1,rfl,by omega,by rw [hall];simp [Bool.not_true,d1,d2,lvt,tgt],by simp [obC,strB]⟩
    have tgf:tg=false:=by simpa using tg1
    refine W_rK [1,5,111] ?_
    iterate 2 refine yq9 6 (by simp [obC,rdC,strB,d1,d2,lvt,tgf];rfl) rfl ?_
    refine yq9 4 (by simp [obC,rdC,strB,d1,d2,lvt,tgf];rfl) rfl ?_
    refine yd9 (by simp) (by first | (simp;done) | (simp;rfl) | (simp [obC,rdC,strB,d1,d2,lvt,tgf];done) | (simp [obC,rdC,strB,d1,d2,lvt,tgf];rfl)) hlies (by simp;rfl) ?_
    refine yq9 6 (by simp [obC,rdC,strB,d1,d2,lvt,tgf];rfl) rfl ?_
    refine yd9 (by simp) (by first | (simp;done) | (simp;rfl) | (simp [obC,rdC,strB,d1,d2,lvt,tgf];done) | (simp [obC,rdC,strB,d1,d2,lvt,tgf];rfl)) htg (by simp;rfl) ?_
    refine yw9 (by simp [obC,rdC,strB,d1,d2,lvt,tgf];rfl) ?_
    refine yp9 rfl (fun h=>?_) (fun h=>by simp at h)
    refine yt9 [2] (by simp;rfl) ?_
    refine yn9 ?_
    repeat (first | refine yg9 ?_ | refine yh9 ?_)
    have hch:chkM o=false:=by
     rw [hmod,hall]
     simp [Bool.not_true,d1,d2,lvt,tgf]
    simp [retQ,hch]
   have lvf:yq8 S x.in_ x.addr x.len=false:=by simpa using lv
   refine W_rK [1,5,111] ?_
   iterate 2 refine yq9 6 (by simp [obC,rdC,strB,d1,d2,lvf];rfl) rfl ?_
   refine yq9 4 (by simp [obC,rdC,strB,d1,d2,lvf];rfl) rfl ?_
   refine yd9 (by simp) (by first | (simp;done) | (simp;rfl) | (simp [obC,rdC,strB,d1,d2,lvf];done) | (simp [obC,rdC,strB,d1,d2,lvf];rfl)) hlies (by simp;rfl) ?_
   refine yq9 6 (by simp [obC,rdC,strB,d1,d2,lvf];rfl) rfl ?_
   refine yw9 (by simp [obC,rdC,strB,d1,d2,lvf];rfl) ?_
   refine yp9 rfl (fun h=>?_) (fun h=>by simp at h)
   refine yt9 [2] (by simp;rfl) ?_
   refine yn9 ?_
   repeat (first | refine yg9 ?_ | refine yh9 ?_)
   have hch:chkM o=false:=by
    rw [hmod,hall]
    simp [Bool.not_true,d1,d2,lvf]
   simp [retQ,hch]
  have hie:i=o.rld.length:=by omega
  have cn:¬ ((i:Int) < o.rld.length):=by omega
  rw [hie,List.drop_length,List.all_nil] at hall
  refine yt9 [1,5,78] (by simp [obC,cn];rfl) ?_
  refine yp9 rfl (fun h=>by simp [hie] at h) (fun h=>?_)
  refine zs9 [1] ?_
  refine zj9 ?_
  exact ⟨hall,by simp [obC,strB]⟩
 rintro _ ⟨hrall,rfl⟩
 refine yt9 [2] (by simp;rfl) ?_
 refine yn9 ?_
 repeat (first | refine yg9 ?_ | refine yh9 ?_)
 simp [retQ,hmod,hrall]
theorem zn3 (s:List UInt8) (h:(zm9 s).length≤79):xm9 s=2 :: (zm9 s++List.replicate (79 - (zm9 s).length) 64):=by
 have h1:(xr9 80).set 0 2=2 :: List.replicate 79 64:=rfl
 rw [xm9,putM,h1]
 obtain ⟨n,hn⟩:∃ n,(79:Nat)=n:=⟨_,rfl⟩
 rw [hn,show 1+(zm9 s).length=(zm9 s).length+1 by omega,List.drop_succ_cons,List.drop_replicate]
 rfl
theorem xf5 (s:List UInt8) (hs:s.length≤1000000) (h0:zm9 s≠[]) (h79:(zm9 s).length≤79):Sound Tryz.prog 11 [strB s] (.lst (.tip 5 1) 1 (byL (xm9 s))):=by
 have henc:=zr7 s hs
 rw [zn3 s h79]
 obtain ⟨C,hC⟩:∃ C,zm9 s=C:=⟨_,rfl⟩
 have hC2:(encM s).1=C:=hC
 rw [hC] at h0 h79 ⊢
 rw [hC2] at henc
 have hCl:0 < C.length:=List.length_pos_iff.2 h0
 refine uh9 Tryz.func11 rfl (by decide +kernel) (by simp [Tryz.f11]) (by simp [AV.rfL,AV.rf,strB]) (by simp [AV.tlL,AV.tl,strB]) (rs:=[.tmp 2]) rfl ?_
 rw [show Tryz.f11.ntmps=22 from rfl]
 refine yt9 [0] (by simp;rfl) ?_
 refine yt9 [0,3] (by simp;rfl) ?_
 refine W_rK [3,4] ?_
 refine yq9 1 (by simp;rfl) rfl ?_
 refine yd9 (by simp) (by first | (simp;done) | (simp;rfl) | (simp [strB];done) | (simp [strB];rfl)) henc (by simp;rfl) ?_
 refine yw9 (by simp;rfl) ?_
 have b1:1+C.length≤140737488355328:=by omega
 refine yt9 [3] (by simp [h0,hCl,b1];rfl) ?_
 refine yl9 ?_
 refine ys9 ?_
 refine zl9 (fun k σ=>∃ j:Nat,k=79 - C.length - j∧j≤79 - C.length∧σ=⟨22,[(3,.lst (.tip 5 29) 1 (byL (2 :: (C++List.replicate j 64))))],[]⟩) (k:=79 - C.length) ⟨0,rfl,by omega,by simp [vp9]⟩ ?_
 rintro k σ ⟨j,rfl,hj,rfl⟩
 refine yl9 ?_
 have hlen:(byL (2 :: (C++List.replicate j 64))).length=C.length+j+1:=by simp
 obtain ⟨D,hD⟩:∃ D,byL (2 :: (C++List.replicate j 64))=D:=⟨_,rfl⟩
 rw [hD] at hlen ⊢
 by_cases c:j < 79 - C.length
 ·have ci:((C.length+j+1:Nat):Int) < 80:=by omega
  have b2:D.length+1≤140737488355328:=by omega
  refine yt9 [3,17] (by simp [hlen,-Int.natCast_add];rfl) ?_
  refine yp9 (t:=true) (by simp;omega) (fun h=>?_) (fun h=>by simp at h)
  refine yk9 ?_
  refine ys9 ?_
  refine zq9 [3] (by simp [b2];rfl) ?_
  refine ⟨_,by omega,j+1,rfl,by omega,?_⟩
  rw [List.replicate_succ',← List.append_assoc,← List.cons_append,wc9,hD]
  simp [byL]
 ·refine yt9 [3,17] (by simp [hlen,-Int.natCast_add];rfl) ?_
  refine yp9 (t:=false) (by simp;omega) (fun h=>by simp at h) (fun h=>?_)
  refine zj9 ?_
  have hje:j=79 - C.length:=by omega
  refine yt9 [2] (by simp;rfl) ?_
  refine yn9 ?_
  repeat (first | refine yg9 ?_ | refine yh9 ?_)
  rw [← hje,hD]
  exact ⟨_,by simp [retQ];exact ⟨rfl,by simp⟩,.norm fun T=>by simp⟩
theorem wj5 (l:List UInt8):AV.shalL (byL l)=true:=by induction l <;> simp_all [byL,AV.shalL,AV.shal]
theorem vt8 (s : List UInt8) (hs : s.length ≤ 1000000) (h0 : zm9 s ≠ []) (h79 : (zm9 s).length ≤ 79) (H : List AObj) :
  wf9 Tryz.prog 11 [strB s] H fun r h'=>∃ k,r=.arr H.length 0 80 (80+k)∧h'=H++[.cells 5 (zd9 (xm9 s) k)]:=by
 have hl:=qk8 s h79
 refine zn4 (e:=5) (T:=1) (sz:=1) (xs:=byL (xm9 s)) (fl:=byL (xm9 s)) (xf5 s hs h0 h79) (xb8 _) (wd4 (wj5 _)) ?_ ?_
 ·intro h
  have:=congrArg List.length h
  simp [hl] at this
 ·intro cap h1 h2
  rw [vp8,hl] at h1
  refine ⟨cap - 80,?_,?_⟩
  ·rw [vp8,hl,show 80+(cap - 80)=cap by omega]
  ·rw [vp8,hl,Nat.mul_one,jv9];rfl
theorem wl5 (cs xs:List AV) (off:Nat) (y:AV) (h:off+xs.length+1≤cs.length):yf9 (yf9 cs off xs) (off+xs.length) [y]=yf9 cs off (xs++[y]):=by
 have h1:(yf9 cs off xs).length=cs.length:=xs9 _ _ _ (by omega)
 apply List.ext_getElem?
 intro j
 rw [uj9 _ _ _ (by rw [h1];simp;omega),uj9 _ _ _ (by omega),uj9 _ _ _ (by simp;omega)]
 simp only [List.length_cons,List.length_nil,List.length_append]
 by_cases c1:off+xs.length≤j∧j < off+xs.length+(0+1)
 ·rw [if_pos c1,if_pos (by omega),List.getElem?_append_right (by omega)]
  congr 1
  omega
 ·rw [if_neg c1]
  by_cases c2:off≤j∧j < off+xs.length
  ·rw [if_pos c2,if_pos (by omega),List.getElem?_append_left (by omega)]
  ·rw [if_neg c2,if_neg (by omega)]
theorem jl5 (h : List AObj) (id len cap at' : Nat) (s : List UInt8) (cs : List AV) (hid : h[id]? = some (.cells 5 cs)) (hs : s.length ≤ 1000000) (hlen : at' + (zm9 s).length ≤ len) (hcs : len ≤ cs.length) (hl2 : len ≤ 1000000000) :
  wf9 Tryz.prog 13 [.arr id 0 len cap,.v (.int .i64 (at':Nat)),strB s] h fun r h'=>r=.tup []∧h'=h.set id (.cells 5 (yf9 cs at' (byL (zm9 s)))):=by
 have henc:=zr7 s hs
 obtain ⟨C,hC⟩:∃ C,zm9 s=C:=⟨_,rfl⟩
 have hC2:(encM s).1=C:=hC
 rw [hC] at hlen ⊢
 rw [hC2] at henc
 refine wv6 Tryz.func13 rfl (by decide +kernel) (by simp [Tryz.f13]) (rs:=[]) rfl ?_
 rw [show Tryz.f13.ntmps=29 from rfl]
 have hidl:id < h.length:=(List.getElem?_eq_some_iff.1 hid).1
 refine W_rK [0,1,6] ?_
 refine yq9 1 (by simp;rfl) rfl ?_
 refine yd9 (by simp) (by first | (simp;done) | (simp;rfl) | (simp [strB];done) | (simp [strB];rfl)) henc (by simp;rfl) ?_
 refine yw9 (by simp;rfl) ?_
 refine yt9 [0,1,6,8] (by simp;rfl) ?_
 refine ys9 ?_
 refine zl9 (fun k σ=>∃ i:Nat,k=C.length - i∧i≤C.length∧σ=⟨29,[(0,.arr id 0 len cap),(1,.v (.int .i64 (at':Nat))),(6,.lst .any 1 (byL C)),(8,.v (.int .i64 (i:Nat)))],h.set id (.cells 5 (yf9 cs at' (byL (C.take i))))⟩) (k:=C.length) ⟨0,rfl,by omega,?_⟩ ?_
 ·have:h.set id (.cells 5 cs)=h:=by
   apply List.ext_getElem?
   intro k
   rw [List.getElem?_set]
   split
   ·rename_i e;subst e;first | rw [hid] | (rw [if_pos hidl,hid])
   ·rfl
  rw [List.take_zero,byL_nil,wn4 _ _ (by omega),this]
  simp
 rintro k σ ⟨i,rfl,hi,rfl⟩
 refine yl9 ?_
 by_cases c:i < C.length
 ·have ci:(i:Int) < C.length:=by omega
  obtain ⟨b,hb⟩:∃ b,C[i]?=some b:=⟨_,List.getElem?_eq_getElem c⟩
  have hb2:C[i]'c=b:=by rw [List.getElem?_eq_getElem c] at hb;exact Option.some.inj hb
  have htk:C.take (i+1)=C.take i++[b]:=by rw [List.take_add_one,hb];rfl
  have htl:(byL (C.take i)).length=i:=by simp;omega
  have wi:=w64 (n:=(i:Int)+1) (by omega) (by omega)
  have wa:IntKind.i64.wrap ((at':Int)+(i:Int))=((at'+i:Nat):Int):=by rw [w64 (by omega) (by omega)];omega
  have hsn:=wl5 cs (byL (C.take i)) at' (.v (.int .u8 b.toNat)) (by rw [htl];omega)
  rw [htl] at hsn
  have hsn2:yf9 (yf9 cs at' (byL (C.take i))) (at'+i) [.v (.int .u8 b.toNat)]=yf9 cs at' (byL (C.take (i+1))):=by rw [hsn,htk,wc9];rfl
  obtain ⟨D,hD⟩:∃ D,yf9 cs at' (byL (C.take i))=D:=⟨_,rfl⟩
  have hDl:D.length=cs.length:=by rw [← hD];exact xs9 _ _ _ (by rw [htl];omega)
  rw [hD] at hsn2 ⊢
  obtain ⟨H,hH⟩:∃ H,h.set id (.cells 5 D)=H:=⟨_,rfl⟩
  have hHid:H[id]?=some (.cells 5 D):=by rw [← hH];exact List.getElem?_set_self hidl
  obtain ⟨A,hA⟩:∃ A,at'+i=A:=⟨_,rfl⟩
  have ha1:A < len:=by omega
  have ha2:(A:Int) < len:=by omega
  rw [hA] at hsn2 wa
  have hset:H.set id (.cells 5 (yf9 D A [.v (.int .u8 b.toNat)]))=h.set id (.cells 5 (yf9 cs at' (byL (C.take (i+1))))):=by rw [← hH,List.set_set,hsn2]
  rw [hH]
  refine yt9 [0,1,6,8,17] (by simp [ci];rfl) ?_
  refine yp9 rfl (fun h=>?_) (fun h=>by simp [c] at h)
  refine yk9 ?_
  refine yl9 ?_
  refine ys9 ?_
  refine zq9 [0,1,6,8] (by simp [c,ci,hb2,wa,ha1,ha2,hHid,show A+1≤D.length by omega];rfl) ?_
  refine zq9 [0,1,6,8] (by simp [wi];rfl) ?_
  exact ⟨_,by omega,i+1,rfl,by omega,by simp [← hset]⟩
 ·have hie:i=C.length:=by omega
  have cn:¬ ((i:Int) < C.length):=by omega
  refine yt9 [0,1,6,8,17] (by simp [cn];rfl) ?_
  refine yp9 rfl (fun h=>by simp [hie] at h) (fun h=>?_)
  refine zj9 ?_
  refine ⟨.inl rfl,.tup [],rfl,rfl,?_⟩
  rw [hie,List.take_length]
end Go.AM
