/- Parts of the walk: Z31OK Z31VB Z31OR. -/
import Derived.Test.YtlhaljblcimnbaaGreatG12
namespace Go.AM
open Go.RowKit Go.Proofs
set_option linter.unusedSimpArgs false
set_option linter.unusedVariables false
set_option maxHeartbeats 8000000
def nO (x:SeedM) (i:Nat):Nat:=if i=0 then 0 else (x.esds.getD (i - 1) 0).toNat
def secO (i id addr n:Nat):Esd:=⟨if n % 5=4 then [] else symG i,1,(id:Nat),(addr:Nat),((n * 4:Nat):Int)⟩
def entO (i n:Nat) (s:Esd):Esd:=⟨symG i,2,s.id,s.addr+((n % (s.len.toNat+1):Nat):Int),0⟩
def extO (i id:Nat):Esd:=⟨symG i,3,(id:Nat),0,0⟩
def esdO (x : SeedM) : Nat → Nat → Nat → Nat → List Esd → List Esd → List Esd × List Esd × Nat
 | 0,_,id,_,secs,acc=>(acc,secs,id)
 | f+1,i,id,addr,secs,acc =>
  if i≤x.esds.length∧i < 40 then
   (if nO x i % 3 = 0 then esdO x f (i + 1) (id + 1) (addr + nO x i * 4) (secs ++ [secO i id addr (nO x i)]) (acc ++ [secO i id addr (nO x i)])
    else if nO x i % 3=1 then esdO x f (i+1) id addr secs (acc++[entO i (nO x i) (secs.getD (nO x i % secs.length) es0)])
    else esdO x f (i+1) (id+1) addr secs (acc++[extO i id]))
  else (acc,secs,id)
def SB (top:Nat) (s:Esd):Prop:=s.kind=1∧1≤s.id∧s.id≤41∧0≤s.addr∧0≤s.len∧s.len≤1020∧s.addr+s.len≤top
theorem SB.mono {a b:Nat} (h:a≤b) {s:Esd} (hs:SB a s):SB b s:=by
 obtain ⟨h1,h2,h3,h4,h5,h6,h7⟩:=hs
 exact ⟨h1,h2,h3,h4,h5,h6,by omega⟩
def txtO (x : SeedM) (secs : List Esd) : Nat → Nat → List Txt → List Txt
 | 0,_,acc=>acc
 | f+1,i,acc =>
  if i < x.txts.length∧i < 30 then
   (let t := x.txts.getD i 0
    let s:=secs.getD (t % secs.length) es0
    if 0 < s.len then txtO x secs f (i+1) (acc++[⟨s.id,s.addr+((t / 3 % s.len.toNat:Nat):Int),jn8 x.data i (1+t / 7 % (min 56 (s.len.toNat - t / 3 % s.len.toNat)))⟩])
    else txtO x secs f (i+1) acc)
  else acc
def rldO (x : SeedM) (secs : List Esd) (id : Nat) : Nat → Nat → List Rld → List Rld
 | 0,_,acc=>acc
 | f+1,i,acc =>
  if i < x.rlds.length∧i < 30 then
   (let t := x.rlds.getD i 0
    let s:=secs.getD (t % secs.length) es0
    if 4≤s.len then rldO x secs id f (i+1) (acc++[⟨s.id,((1+t / 5 % (id - 1):Nat):Int),s.addr+((t / 3 % (s.len.toNat - 3):Nat):Int),((1+t / 11 % 4:Nat):Int),decide (t % 2=1)⟩])
    else rldO x secs id f (i+1) acc)
  else acc
def qq6 (x:SeedM) (A:List Esd):List UInt8 :=
 let e:=A.getD (x.entry.toNat % A.length) es0
 if x.entry.toNat % 2=1∧e.kind≠3 then e.name else []
def objM (x:SeedM):OMod :=
 let p:=esdO x 41 0 1 0 [] []
 ⟨p.1,txtO x p.2.1 31 0 [],rldO x p.2.1 p.2.2 31 0 [],qq6 x p.1⟩
def zObC:List AV:=[.lst .nil 5 [],.lst .nil 3 [],.lst .nil 5 [],.v (.string ⟨#[]⟩)]
theorem zObT:AV.toksL zObC=[]:=by simp [zObC,AV.toksL,AV.toks]
theorem vf8 (x:SeedM):AV.toksL (zn9 x)=[]:=by simp [zn9,AV.toksL,AV.toks]
@[simp] theorem killL_zObC (t:Nat):AV.killL t zObC=zObC:=by simp [zObC,AV.killL,AV.kill]
theorem esT (x:Esd):AV.toksL (esC x)=[]:=by simp [esC,AV.toksL,AV.toks,strB]
theorem wu16k {n:Int} (h1:0≤n) (h2:n≤65535):IntKind.u16.wrap n=n:=by
 simp [IntKind.wrap,IntKind.signed,IntKind.bits];omega
theorem frz_es {h:List AObj} (id:Nat) (s:Esd) (hid:h[id]?=some (.cells 50 (esC s))):vc9 Tryz.prog h 1 id 0 1 1=some (.lst (.tip 50 1) 5 [esA s],h.set id (.froz 50 (esC s))):=by
 unfold vc9
 rw [hid]
 simp [esC,strB,AV.koneL,AV.kone,AV.rfL,AV.rf,chunk,AV.weakL,AV.weak]
def ord23:Ord:=.one 0 (.one 1 (.one 2 (.one 3 (.one 4 (.one 5 (.one 6 (.one 7 (.one 8 (.one 9 (.one 10 (.one 11 (.one 12 (.one 13 (.one 14 (.one 15 (.one 16 .done))))))))))))))))
def ro23 (i:Nat):Bool:=i == 1 || i == 3 || i == 7
theorem vb7 (x:SeedM) (ht:∀ n∈x.txts,n < 65536) (hr:∀ n∈x.rlds,n < 65536) (hl1:x.esds.length≤9223372036854775000) (hl4:x.txts.length≤9223372036854775000) (hl2:x.rlds.length≤9223372036854775000) (hl3:x.data.length≤9223372036854775000):Sound Tryz.prog 5 [wv5 x] (obA (objM x)):=by
 refine uh9 Tryz.func5 rfl (by decide +kernel) (by simp [Tryz.f5]) (by simp [AV.rfL,AV.rf]) (by simp [AV.tlL,AV.tl]) (rs:=[.cell 2 33]) rfl ?_
 rw [show Tryz.f5.ntmps=269 from rfl]
 have hent:=x.entry.toNat_lt
 refine yt9 [1,2] (by simp;rfl) ?_
 refine yt9 [1,2,3] (by simp [yf9];rfl) ?_
 refine yt9 [1,2,3,4] (by simp;rfl) ?_
 refine yt9 [1,2,3,4,5,6] (by simp;rfl) ?_
 obtain ⟨PP,hPP⟩:∃ p,esdO x 41 0 1 0 [] []=p:=⟨_,rfl⟩
 obtain ⟨A,S,ID⟩:=PP
 refine xh9 (fun σ => (∀ s ∈ S, SB 40800 s) ∧ 0 < S.length ∧ S.length ≤ 40 ∧ 0 < A.length ∧ A.length ≤ 40 ∧ 2 ≤ ID ∧ ID ≤ 41 ∧
  σ=⟨269,[(1,.loc 0 0),(2,.loc 1 0),(3,.loc 2 0),(4,.lst (.tip 50 145) 5 (esL S)),(5,.v (.int .i64 (ID:Nat)))],[.cells 26 (zn9 x),.cells 33 zObC,.cells 33 [.lst (.tip 50 203) 5 (esL A),.lst .nil 3 [],.lst .nil 5 [],.v (.string ⟨#[]⟩)]]⟩) ?_ ?_
 ·refine yt9 [1, 2, 3, 4, 5, 6, 7] (by simp; rfl) ?_
  refine ys9 ?_
  refine zl9 (fun m σ => ∃ (i id addr : Nat) (secs acc : List Esd) (f4 fe : Fl), m = 41 - i ∧ i ≤ 40 ∧ esdO x (41 - i) i id addr secs acc = (A, S, ID) ∧ secs.length ≤ i ∧ acc.length = i ∧ 1 ≤ id ∧ id ≤ i + 1 ∧ addr ≤ 1020 * i ∧ (∀ s ∈ secs, SB addr s) ∧
   ((i=0∧id=1∧addr=0∧f4=.nil∧fe=.nil∧secs=[]∧acc=[])∨(0 < i∧2≤id∧0 < secs.length∧f4=.tip 50 145∧fe=.tip 50 203)) ∧
   σ=⟨269,[(1,.loc 0 0),(2,.loc 1 0),(3,.loc 2 0),(4,.lst f4 5 (esL secs)),(5,.v (.int .i64 (id:Nat))),(6,.v (.int .i64 (addr:Nat))),(7,.v (.int .i64 (i:Nat)))],[.cells 26 (zn9 x),.cells 33 zObC,.cells 33 [.lst fe 5 (esL acc),.lst .nil 3 [],.lst .nil 5 [],.v (.string ⟨#[]⟩)]]⟩) (k:=41) ⟨0,1,0,[],[],.nil,.nil,rfl,by omega,hPP,by simp,rfl,by omega,by omega,by omega,by simp,.inl ⟨rfl,rfl,rfl,rfl,rfl,rfl,rfl⟩,by simp [zn9,zObC,esL]⟩ ?_
  rintro m σ ⟨i,id,addr,secs,acc,f4,fe,rfl,hi,hgo,hsl,hal,hid1,hid2,had,hsb,hfl,rfl⟩
  refine yl9 ?_
  have wi:=w64 (n:=(i:Int)+1) (by omega) (by omega)
  rw [show 41 - i=40 - i+1 by omega,esdO] at hgo
  have hexit:i≠0→(acc,secs,id)=(A,S,ID)→(∀ s∈S,SB 40800 s)∧0 < S.length∧S.length≤40∧0 < A.length∧A.length≤40∧2≤ID∧ID≤41∧f4=.tip 50 145∧fe=.tip 50 203∧secs=S∧acc=A∧id=ID:=by
   intro h0 he
   obtain ⟨rfl,he2⟩:=Prod.mk.inj he
   obtain ⟨rfl,rfl⟩:=Prod.mk.inj he2
   rcases hfl with ⟨h,_⟩ | ⟨_,h1,h2,h3,h4⟩
   ·exact absurd h h0
   ·exact ⟨fun s hs=>(hsb s hs).mono (by omega),by omega,by omega,by omega,by omega,by omega,by omega,h3,h4,rfl,rfl,rfl⟩
  by_cases c1:i≤x.esds.length
  ·have c1a : i ≤ x.esds.length := c1
   have c1b:(i:Int)≤(x.esds.length:Nat):=by omega
   by_cases c2:i < 40
   ·have c2a : i < 40 := c2
    have c2b:(i:Int) < 40:=by omega
    rw [if_pos ⟨c1,c2⟩] at hgo
    have hq1:acc.length≤5864062014804:=by omega
    have hq1':secs.length≤5864062014804:=by omega
    have hq2:(acc.length+1) * 48≤140737488355328:=by omega
    have hq2':(secs.length+1) * 48≤140737488355328:=by omega
    have wid:IntKind.i64.wrap ((id:Int)+1)=((id+1:Nat):Int):=by rw [w64 (by omega) (by omega)];omega
    by_cases i0:i=0
    ·subst i0
     obtain ⟨rfl,rfl,rfl,rfl,rfl,rfl⟩:id=1∧addr=0∧f4=.nil∧fe=.nil∧secs=[]∧acc=[]:=by
      rcases hfl with ⟨_,h⟩ | ⟨h,_⟩
      ·exact h
      ·omega
     have hn0:nO x 0=0:=rfl
     rw [hn0,if_pos rfl] at hgo
     refine W_cT [1,2,3,4,5,6,7,27] (by simp [zn9,c1a,c1b,c2a,c2b];rfl) rfl ?_
     refine yk9 ?_
     refine yl9 ?_
     refine ys9 ?_
     refine yt9 [1,2,3,4,5,6,7,8] (by simp;rfl) ?_
     refine xh9 (fun σ=>σ=⟨269,[(1,.loc 0 0),(2,.loc 1 0),(3,.loc 2 0),(4,.lst .nil 5 []),(5,.v (.int .i64 1)),(6,.v (.int .i64 0)),(7,.v (.int .i64 0))]++[(8,.v (.int .u8 0))],[.cells 26 (zn9 x),.cells 33 zObC,.cells 33 [.lst .nil 5 [],.lst .nil 3 [],.lst .nil 5 [],.v (.string ⟨#[]⟩)]]⟩) ?_ ?_
     ·refine W_cF [1,2,3,4,5,6,7,8,31] (by simp;rfl) rfl ?_
      refine zs9 [1,2,3,4,5,6,7,8] ?_
      refine yk9 ?_
      simp [zn9,zObC,esL]
     rintro _ rfl
     refine W_rK [1,2,3,4,5,6,7,8,9] ?_
     refine yq9 1 (by simp [zObT,vf8];rfl) rfl ?_
     refine yd9 (by simp) (by first | (simp;done) | (simp;rfl)) (kn8 0 (by omega)) (by simp;rfl) ?_
     refine yw9 (by simp [yf9,strB,zObT,vf8];rfl) ?_
     refine xh9 (fun σ=>σ=⟨269,[(1,.loc 0 0),(2,.loc 1 0),(3,.loc 2 0),(4,.lst (.tip 50 145) 5 (esL [secO 0 1 0 0])),(5,.v (.int .i64 2)),(6,.v (.int .i64 0)),(7,.v (.int .i64 0)),(9,.loc 3 0)],[.cells 26 (zn9 x),.cells 33 zObC,.cells 33 [.lst .nil 5 [],.lst .nil 3 [],.lst .nil 5 [],.v (.string ⟨#[]⟩)],.cells 50 (esC (secO 0 1 0 0))]⟩) ?_ ?_
     ·refine yt9 [1,2,3,4,5,6,7,8,9,42] (by simp [zObT,vf8];rfl) ?_
      refine ys9 ?_
      refine W_cT [1,2,3,4,5,6,7,8,9,42,48] (by simp;rfl) rfl ?_
      refine W_rK [1,2,3,4,5,6,7,8,9] ?_
      refine yq9 6 (by simp [show IntKind.i64.wrap 0=0 from rfl];rfl) rfl ?_
      refine yw9 (by simp [yf9];rfl) ?_
      refine yl9 ?_
      refine W_cF [1,2,3,4,5,6,7,9,61] (by simp;rfl) rfl ?_
      refine yk9 ?_
      refine yt9 [1,2,3,4,5,6,7,9] (by simp [show IntKind.i64.wrap 0=0 from rfl];rfl) ?_
      refine yt9 [1,2,3,4,5,6,7,9] (by simp [show IntKind.i64.wrap 2=2 from rfl,show IntKind.i64.wrap (1+1)=2 from rfl];rfl) ?_
      refine zq9 [1,2,3,4,5,6,7,9] (by simp [yf9,catK,AV.cellsK,AV.kone,AV.koneL,AV.weak,AV.weakL,strB,zObT,vf8];rfl) ?_
      simp [secO,esC,esL,strB,zn9,zObC]
     rintro _ rfl
     have hq3:(1:Nat) * 48≤140737488355328:=by omega
     refine zq9 [1,2,3,4,5,6,7] (by simp [yf9,catK,AV.cellsK,AV.kone,AV.koneL,AV.weak,AV.weakL,strB,esC,zObT,vf8,hq3];rfl) ?_
     refine xp9 3 (Nat.zero_le _) (by simp) (by simp [yv9,AV.under,AV.underL]) (by simp [yc9,xl9,AObj.under,yv9,AV.under,AV.underL,wm9,zObC,esC,strB]) ?_
     refine zq9 [1,2,3,4,5,6,7] (by simp [show IntKind.i64.wrap 1=1 from rfl];rfl) ?_
     refine ⟨_,by omega,1,2,0,[secO 0 1 0 0],[secO 0 1 0 0],.tip 50 145,.tip 50 203,rfl,by omega,hgo,by simp,rfl,by omega,by omega,by omega,?_,.inr ⟨by omega,by omega,by simp,rfl,rfl⟩,by simp [esL,secO,zn9,zObC,strB]⟩
     intro s hs
     simp only [List.mem_singleton] at hs
     subst hs
     exact ⟨rfl,by simp [secO],by simp [secO],by simp [secO],by simp [secO],by simp [secO],by simp [secO]⟩
    obtain ⟨h2id,hsp,rfl,rfl⟩:2≤id∧0 < secs.length∧f4=.tip 50 145∧fe=.tip 50 203:=by
     rcases hfl with ⟨h,_⟩ | ⟨_,h⟩
     ·omega
     ·exact h
    obtain ⟨j,hj⟩:∃ j,i=j+1:=⟨i - 1,by omega⟩
    have hjl:j < x.esds.length:=by omega
    have hji:(j:Int) < x.esds.length:=by omega
    obtain ⟨by_,hby0⟩:∃ b,x.esds[j]?=some b:=⟨_,List.getElem?_eq_getElem hjl⟩
    have hby1:x.esds[j]'hjl=by_:=by rw [List.getElem?_eq_getElem hjl] at hby0;exact Option.some.inj hby0
    have hnO:nO x i=by_.toNat:=by rw [nO,if_neg i0,show i - 1=j by omega,List.getD_eq_getElem?_getD,hby0];rfl
    have hNl:=by_.toNat_lt
    obtain ⟨N,hN⟩:∃ N,by_.toNat=N:=⟨_,rfl⟩
    rw [hN] at hnO hNl
    rw [hnO] at hgo
    have wsub:IntKind.i64.wrap ((i:Int) - 1)=(j:Nat):=by rw [w64 (by omega) (by omega)];omega
    have i0i:(0:Int) < i:=by omega
    have i0n:0 < i:=by omega
    have wN:IntKind.i64.wrap (N:Int)=N:=w64 (by omega) (by omega)
    have wm4:IntKind.i64.wrap ((N:Int) * 4)=(N:Int) * 4:=w64 (by omega) (by omega)
    have wadd:IntKind.i64.wrap ((addr:Int)+(N:Int) * 4)=(addr:Int)+(N:Int) * 4:=w64 (by omega) (by omega)
    have wid1:IntKind.i64.wrap ((id:Int)+1)=(id:Int)+1:=w64 (by omega) (by omega)
    have hm3:(N:Int).tmod 3=((N % 3:Nat):Int):=rfl
    have hm5:(N:Int).tmod 5=((N % 5:Nat):Int):=rfl
    have hf:∀ {R:List Esd × List Esd × Nat} {id' addr':Nat} {s' a':List Esd},esdO x (40 - i) (i+1) id' addr' s' a'=R→esdO x (41 - (i+1)) (i+1) id' addr' s' a'=R:=fun h=>by rw [show 41 - (i+1)=40 - i by omega];exact h
    refine W_cT [1,2,3,4,5,6,7,27] (by simp [zn9,c1a,c1b,c2a,c2b];rfl) rfl ?_
    refine yk9 ?_
    refine yl9 ?_
    refine ys9 ?_
    refine yt9 [1,2,3,4,5,6,7,8] (by simp;rfl) ?_
    refine xh9 (fun σ=>σ=⟨269,[(1,.loc 0 0),(2,.loc 1 0),(3,.loc 2 0),(4,.lst (.tip 50 145) 5 (esL secs)),(5,.v (.int .i64 (id:Nat))),(6,.v (.int .i64 (addr:Nat))),(7,.v (.int .i64 (i:Nat)))]++[(8,.v (.int .u8 (N:Nat)))],[.cells 26 (zn9 x),.cells 33 zObC,.cells 33 [.lst (.tip 50 203) 5 (esL acc),.lst .nil 3 [],.lst .nil 5 [],.v (.string ⟨#[]⟩)]]⟩) ?_ ?_
    ·refine W_cT [1,2,3,4,5,6,7,8,31] (by simp [i0i,i0n];rfl) rfl ?_
     refine zq9 [1,2,3,4,5,6,7,8] (by simp [zn9,wsub,hjl,hji,hby1,hN];rfl) ?_
     simp [zn9,zObC,hN]
    rintro _ rfl
    refine W_rK [1,2,3,4,5,6,7,8,9] ?_
    refine yq9 1 (by simp [zObT,vf8];rfl) rfl ?_
    refine yd9 (by simp) (by first | (simp;done) | (simp;rfl)) (kn8 i c2) (by simp;rfl) ?_
    refine yw9 (by simp [yf9,strB,zObT,vf8];rfl) ?_
    by_cases q3:N % 3=0
    ·rw [if_pos q3] at hgo
     refine xh9 (fun σ=>σ=⟨269,[(1,.loc 0 0),(2,.loc 1 0),(3,.loc 2 0),(4,.lst (.tip 50 145) 5 (esL (secs++[secO i id addr N]))),(5,.v (.int .i64 (id+1:Nat))),(6,.v (.int .i64 (addr+N * 4:Nat))),(7,.v (.int .i64 (i:Nat)))]++[(9,.loc 3 0)],[.cells 26 (zn9 x),.cells 33 zObC,.cells 33 [.lst (.tip 50 203) 5 (esL acc),.lst .nil 3 [],.lst .nil 5 [],.v (.string ⟨#[]⟩)]]++[.cells 50 (esC (secO i id addr N))]⟩) ?_ ?_
     ·refine yt9 [1, 2, 3, 4, 5, 6, 7, 8, 9, 42] (by simp [zObT, vf8, hm3, q3]; rfl) ?_
      refine ys9 ?_
      refine W_cT [1,2,3,4,5,6,7,8,9,42,48] (by simp;rfl) rfl ?_
      refine W_rK [1,2,3,4,5,6,7,8,9] ?_
      refine yq9 6 (by simp [wN,wm4];rfl) rfl ?_
      refine yw9 (by simp [yf9];rfl) ?_
      refine xh9 (fun σ=>σ=⟨269,[(1,.loc 0 0),(2,.loc 1 0),(3,.loc 2 0),(4,.lst (.tip 50 145) 5 (esL secs)),(5,.v (.int .i64 (id:Nat))),(6,.v (.int .i64 (addr:Nat))),(7,.v (.int .i64 (i:Nat)))]++[(9,.loc 3 0)],[.cells 26 (zn9 x),.cells 33 zObC,.cells 33 [.lst (.tip 50 203) 5 (esL acc),.lst .nil 3 [],.lst .nil 5 [],.v (.string ⟨#[]⟩)]]++[.cells 50 (esC (secO i id addr N))]⟩) ?_ ?_
      ·by_cases q5 : N % 5 = 4
       ·refine W_cT [1,2,3,4,5,6,7,9,61] (by simp [hm5,q5];rfl) rfl ?_
        refine zq9 [1,2,3,4,5,6,7,9] (by simp [yf9];rfl) ?_
        simp [secO,q5,esC,strB,zn9,zObC]
       ·have q5b:(((N % 5:Nat):Int) == 4)=false:=by simp;omega
        refine W_cF [1,2,3,4,5,6,7,9,61] (by simp [hm5,q5b,-Int.natCast_emod];rfl) rfl ?_
        refine zs9 [1,2,3,4,5,6,7,9] ?_
        refine yk9 ?_
        simp [secO,q5,esC,strB,zn9,zObC]
      rintro _ rfl
      obtain ⟨e0,he0⟩:∃ e,secO i id addr N=e:=⟨_,rfl⟩
      have hel:e0.len=(N:Int) * 4:=by rw [← he0];simp [secO]
      rw [he0]
      refine yt9 [1,2,3,4,5,6,7,9] (by simp [esC,esT,zObT,vf8,hel,wadd];rfl) ?_
      refine yt9 [1,2,3,4,5,6,7,9] (by simp [wid1];rfl) ?_
      refine zq9 [1,2,3,4,5,6,7,9] (by simp [yf9,catK,AV.cellsK,AV.kone,AV.koneL,AV.weak,AV.weakL,strB,zObT,vf8,esC,esT,hq1',hq2'];rfl) ?_
      simp [esL,esC,strB,zn9,zObC,hel]
     rintro _ rfl
     obtain ⟨e,he⟩:∃ e,secO i id addr N=e:=⟨_,rfl⟩
     rw [he] at hgo ⊢
     refine zq9 [1,2,3,4,5,6,7] (by simp [yf9,catK,AV.cellsK,AV.kone,AV.koneL,AV.weak,AV.weakL,strB,zObT,vf8,esC,esT,hq1,hq2];rfl) ?_
     refine xp9 3 (Nat.zero_le _) (by simp) (by simp [yv9,AV.under,AV.underL]) (by simp [yc9,xl9,AObj.under,yv9,AV.under,AV.underL,wm9,zObC,esC,strB]) ?_
     refine zq9 [1,2,3,4,5,6,7] (by simp [wi];rfl) ?_
     refine ⟨_,by omega,i+1,id+1,addr+N * 4,secs++[e],acc++[e],.tip 50 145,.tip 50 203,rfl,by omega,hf hgo,by simp;omega,by simp [hal],by omega,by omega,by omega,?_,.inr ⟨by omega,by omega,by simp,rfl,rfl⟩,by simp [esL,zn9,zObC,strB]⟩
     intro s hs
     simp only [List.mem_append,List.mem_singleton] at hs
     rcases hs with hs | hs
     ·exact (hsb s hs).mono (by omega)
     ·rw [hs,← he]
      refine ⟨rfl,?_,?_,?_,?_,?_,?_⟩ <;> simp only [secO] <;> omega
    have q3b:(((N % 3:Nat):Int) == 0)=false:=by simp;omega
    rw [if_neg q3] at hgo
    by_cases q31:N % 3=1
    ·rw [if_pos q31] at hgo
     obtain ⟨k,hk⟩:∃ k,N % secs.length=k:=⟨_,rfl⟩
     have hkl:k < secs.length:=by rw [← hk];exact Nat.mod_lt _ hsp
     have hki:(k:Int) < secs.length:=by omega
     have hmk:(N:Int).tmod (secs.length:Int)=(k:Nat):=by rw [← hk];rfl
     have hns:¬ secs.length=0:=by omega
     have hnsi:¬ ((secs.length:Int)=0):=by omega
     obtain ⟨s,hs⟩:∃ s,secs[k]?=some s:=⟨_,List.getElem?_eq_getElem hkl⟩
     have hk1:secs[k]'hkl=s:=by rw [List.getElem?_eq_getElem hkl] at hs;exact Option.some.inj hs
     rw [hk,show secs.getD k es0=s by rw [List.getD_eq_getElem?_getD,hs];rfl] at hgo
     obtain ⟨b1,b2,b3,b4,b5,b6,b7⟩:=hsb s (List.mem_of_getElem? hs)
     obtain ⟨L,hL⟩:∃ n:Nat,s.len=n:=⟨s.len.toNat,by omega⟩
     obtain ⟨ad2,had2⟩:∃ n:Nat,s.addr=n:=⟨s.addr.toNat,by omega⟩
     obtain ⟨M,hM⟩:∃ M,N % (L+1)=M:=⟨_,rfl⟩
     have hMl:M < L+1:=by rw [← hM];exact Nat.mod_lt _ (by omega)
     have hmM:(N:Int).tmod ((L:Int)+1)=(M:Nat):=by rw [← hM];rfl
     have hl0:¬ ((L:Int)+1=0):=by omega
     have wl1:IntKind.i64.wrap ((L:Int)+1)=(L:Int)+1:=w64 (by omega) (by omega)
     have wadM:IntKind.i64.wrap ((ad2:Int)+(M:Int))=(ad2:Int)+(M:Int):=w64 (by omega) (by omega)
     refine xh9 (fun σ=>σ=⟨269,[(1,.loc 0 0),(2,.loc 1 0),(3,.loc 2 0),(4,.lst (.tip 50 145) 5 (esL secs)),(5,.v (.int .i64 (id:Nat))),(6,.v (.int .i64 (addr:Nat))),(7,.v (.int .i64 (i:Nat)))]++[(9,.loc 3 0)],[.cells 26 (zn9 x),.cells 33 zObC,.cells 33 [.lst (.tip 50 203) 5 (esL acc),.lst .nil 3 [],.lst .nil 5 [],.v (.string ⟨#[]⟩)]]++[.cells 50 (esC (entO i N s)),.froz 50 (esC s)]⟩) ?_ ?_
     ·refine yt9 [1,2,3,4,5,6,7,8,9,42] (by simp [zObT,vf8,hm3,-Int.natCast_emod];rfl) ?_
      refine ys9 ?_
      refine W_cF [1,2,3,4,5,6,7,8,9,42,48] (by simp [q3b,-Int.natCast_emod];rfl) rfl ?_
      refine W_cT [1,2,3,4,5,6,7,8,9,42,73] (by simp [q31];rfl) rfl ?_
      refine yt9 [1,2,3,4,5,6,7,8,9,10] (by simp [wN,hmk,hkl,hki,hk1,hns,hnsi,yf9,AV.weakL,AV.weak,AV.koneL,AV.kone,strB];rfl) ?_
      refine W_roB 10 (tk:=1) (x:=esA s) rfl (by decide) (frz_es 4 s (by simp [esC,strB])) (by simp [AV.rf,AV.rfL,strB]) ?_
      refine wb9 [1,2,3,4,5,6,7,9] (W_ord ro23 ord23 mx (by decide +kernel) ?_)
      refine xw7 _ _ _ (by simp [evO,ord23,ro23,roAt,hL,had2,wl1,wN,hmM,hl0,wadM,yf9,putF,strB];rfl) ?_
      intro s' hs'
      simp only [List.mem_append,List.mem_singleton,List.mem_cons,List.not_mem_nil,or_false] at hs'
      subst hs'
      refine ⟨_,Seen.refl _ _,?_⟩
      simp [entO,esC,strB,zn9,zObC,hL,had2,hM]
     rintro _ rfl
     obtain ⟨e,he⟩:∃ e,entO i N s=e:=⟨_,rfl⟩
     rw [he] at hgo ⊢
     refine zq9 [1,2,3,4,5,6,7] (by simp [yf9,catK,AV.cellsK,AV.kone,AV.koneL,AV.weak,AV.weakL,strB,zObT,vf8,esC,esT,hq1,hq2];rfl) ?_
     refine xp9 3 (Nat.zero_le _) (by simp) (by simp [yv9,AV.under,AV.underL]) (by simp [yc9,xl9,AObj.under,yv9,AV.under,AV.underL,wm9,zObC,esC,strB]) ?_
     refine zq9 [1,2,3,4,5,6,7] (by simp [wi];rfl) ?_
     refine ⟨_,by omega,i+1,id,addr,secs,acc++[e],.tip 50 145,.tip 50 203,rfl,by omega,hf hgo,by omega,by simp [hal],by omega,by omega,by omega,?_,.inr ⟨by omega,by omega,hsp,rfl,rfl⟩,by simp [esL,zn9,zObC,strB]⟩
     exact hsb
    have q31b:(((N % 3:Nat):Int) == 1)=false:=by simp;omega
    rw [if_neg q31] at hgo
    refine xh9 (fun σ=>σ=⟨269,[(1,.loc 0 0),(2,.loc 1 0),(3,.loc 2 0),(4,.lst (.tip 50 145) 5 (esL secs)),(5,.v (.int .i64 (id+1:Nat))),(6,.v (.int .i64 (addr:Nat))),(7,.v (.int .i64 (i:Nat)))]++[(9,.loc 3 0)],[.cells 26 (zn9 x),.cells 33 zObC,.cells 33 [.lst (.tip 50 203) 5 (esL acc),.lst .nil 3 [],.lst .nil 5 [],.v (.string ⟨#[]⟩)]]++[.cells 50 (esC (extO i id))]⟩) ?_ ?_
    ·refine yt9 [1,2,3,4,5,6,7,8,9,42] (by simp [zObT,vf8,hm3,-Int.natCast_emod];rfl) ?_
     refine ys9 ?_
     refine W_cF [1,2,3,4,5,6,7,8,9,42,48] (by simp [q3b,-Int.natCast_emod];rfl) rfl ?_
     refine W_cF [1,2,3,4,5,6,7,8,9,73] (by simp [q31b,-Int.natCast_emod];rfl) rfl ?_
     refine yt9 [1,2,3,4,5,6,7,9] (by simp [yf9];rfl) ?_
     refine zq9 [1,2,3,4,5,6,7,9] (by simp [wid1];rfl) ?_
     simp [extO,esC,strB,zn9,zObC]
    rintro _ rfl
    obtain ⟨e,he⟩:∃ e,extO i id=e:=⟨_,rfl⟩
    rw [he] at hgo ⊢
    refine zq9 [1,2,3,4,5,6,7] (by simp [yf9,catK,AV.cellsK,AV.kone,AV.koneL,AV.weak,AV.weakL,strB,zObT,vf8,esC,esT,hq1,hq2];rfl) ?_
    refine xp9 3 (Nat.zero_le _) (by simp) (by simp [yv9,AV.under,AV.underL]) (by simp [yc9,xl9,AObj.under,yv9,AV.under,AV.underL,wm9,zObC,esC,strB]) ?_
    refine zq9 [1,2,3,4,5,6,7] (by simp [wi];rfl) ?_
    refine ⟨_,by omega,i+1,id+1,addr,secs,acc++[e],.tip 50 145,.tip 50 203,rfl,by omega,hf hgo,by omega,by simp [hal],by omega,by omega,by omega,?_,.inr ⟨by omega,by omega,hsp,rfl,rfl⟩,by simp [esL,zn9,zObC,strB]⟩
    exact hsb
   ·have c2b:¬ ((i:Int) < 40):=by omega
    rw [if_neg (fun h=>c2 h.2)] at hgo
    refine W_cF [1,2,3,4,5,6,7,27] (by simp [zn9,c1a,c1b,c2,c2b];rfl) rfl ?_
    refine zs9 [1,2,3,4,5] ?_
    refine zj9 ?_
    obtain ⟨q1,q2,q3,q4,q5,q6,q7,rfl,rfl,rfl,rfl,rfl⟩:=hexit (by omega) hgo
    exact ⟨q1,q2,q3,q4,q5,q6,q7,by simp [zn9,zObC]⟩
  ·have c1b:¬ (i:Int)≤(x.esds.length:Nat):=by omega
   rw [if_neg (fun h=>c1 h.1)] at hgo
   refine W_cF [1,2,3,4,5,6,7,27] (by simp [zn9,c1,c1b];rfl) rfl ?_
   refine zs9 [1,2,3,4,5] ?_
   refine zj9 ?_
   obtain ⟨q1,q2,q3,q4,q5,q6,q7,rfl,rfl,rfl,rfl,rfl⟩:=hexit (by omega) hgo
   exact ⟨q1,q2,q3,q4,q5,q6,q7,by simp [zn9,zObC]⟩
 rintro _ ⟨hSB,hS0,hS1,hA0,hA1,hI0,hI1,rfl⟩
 have hobj:objM x=⟨A,txtO x S 31 0 [],rldO x S ID 31 0 [],qq6 x A⟩:=by simp only [objM,hPP]
 rw [hobj]
 obtain ⟨TT,hTT⟩:∃ t,txtO x S 31 0 []=t:=⟨_,rfl⟩
 obtain ⟨RR,hRR⟩:∃ t,rldO x S ID 31 0 []=t:=⟨_,rfl⟩
 rw [hTT,hRR]
 have hns:¬ S.length=0:=by omega
 have hnsi:¬ ((S.length:Int)=0):=by omega
 refine xh9 (fun σ=>∃ ft,(ft=.nil∧TT=[]∨ft=.tip 42 337)∧σ=⟨269,[(1,.loc 0 0),(2,.loc 1 0),(3,.loc 2 0),(4,.lst (.tip 50 145) 5 (esL S)),(5,.v (.int .i64 (ID:Nat)))],[.cells 26 (zn9 x),.cells 33 zObC,.cells 33 [.lst (.tip 50 203) 5 (esL A),.lst ft 3 (txL TT),.lst .nil 5 (rdL []),.v (.string ⟨#[]⟩)]]⟩) ?_ ?_
 ·refine yt9 [1, 2, 3, 4, 5, 11] (by simp; rfl) ?_
  refine ys9 ?_
  refine zl9 (fun m σ=>∃ (i:Nat) (acc:List Txt) (ft:Fl),m=31 - i∧i≤30∧txtO x S (31 - i) i acc=TT∧acc.length≤i∧(ft=.nil∧acc=[]∨ft=.tip 42 337)∧σ=⟨269,[(1,.loc 0 0),(2,.loc 1 0),(3,.loc 2 0),(4,.lst (.tip 50 145) 5 (esL S)),(5,.v (.int .i64 (ID:Nat))),(11,.v (.int .i64 (i:Nat)))],[.cells 26 (zn9 x),.cells 33 zObC,.cells 33 [.lst (.tip 50 203) 5 (esL A),.lst ft 3 (txL acc),.lst .nil 5 (rdL []),.v (.string ⟨#[]⟩)]]⟩) (k:=31) ⟨0,[],.nil,rfl,by omega,hTT,by simp,.inl ⟨rfl,rfl⟩,by simp [txL,rdL,zn9,zObC]⟩ ?_
  rintro m σ ⟨i,acc,ft,rfl,hi,hgo,hal,hfl,rfl⟩
  refine yl9 ?_
  have wi:=w64 (n:=(i:Int)+1) (by omega) (by omega)
  rw [show 31 - i=30 - i+1 by omega,txtO] at hgo
  by_cases c1:i < x.txts.length
  ·have c1b : (i : Int) < (x.txts.length : Nat) := by omega
   by_cases c2:i < 30
   ·have c2b : (i : Int) < 30 := by omega
    rw [if_pos ⟨c1,c2⟩] at hgo
    simp only at hgo
    obtain ⟨t,ht0⟩:∃ b,x.txts[i]?=some b:=⟨_,List.getElem?_eq_getElem c1⟩
    have ht1:x.txts[i]'c1=t:=by rw [List.getElem?_eq_getElem c1] at ht0;exact Option.some.inj ht0
    have htl:=ht t (List.mem_of_getElem? ht0)
    rw [show x.txts.getD i 0=t by rw [List.getD_eq_getElem?_getD,ht0];rfl] at hgo
    obtain ⟨k,hk⟩:∃ k,t % S.length=k:=⟨_,rfl⟩
    have hkl:k < S.length:=by rw [← hk];exact Nat.mod_lt _ hS0
    have hki:(k:Int) < S.length:=by omega
    have hmk:(t:Int).tmod (S.length:Int)=(k:Nat):=by rw [← hk];rfl
    obtain ⟨s,hs⟩:∃ s,S[k]?=some s:=⟨_,List.getElem?_eq_getElem hkl⟩
    have hk1:S[k]'hkl=s:=by rw [List.getElem?_eq_getElem hkl] at hs;exact Option.some.inj hs
    rw [hk,show S.getD k es0=s by rw [List.getD_eq_getElem?_getD,hs];rfl] at hgo
    obtain ⟨b1,b2,b3,b4,b5,b6,b7⟩:=hSB s (List.mem_of_getElem? hs)
    obtain ⟨L,hL⟩:∃ n:Nat,s.len=n:=⟨s.len.toNat,by omega⟩
    obtain ⟨ad,had⟩:∃ n:Nat,s.addr=n:=⟨s.addr.toNat,by omega⟩
    have wt:IntKind.i64.wrap (t:Int)=t:=w64 (by omega) (by omega)
    rw [hL,had] at hgo
    simp only [Int.toNat_natCast] at hgo
    refine W_cT [1,2,3,4,5,11,111] (by simp [zn9,c1,c1b,c2,c2b];rfl) rfl ?_
    refine yk9 ?_
    refine yl9 ?_
    refine ys9 ?_
    refine W_rK [1,2,3,4,5,11,12] ?_
    refine yq9 6 (by simp [zn9,c1,c1b,ht1];rfl) rfl ?_
    refine yq9 4 (by simp [wt,hmk,hns,hnsi];rfl) rfl ?_
    refine yw9 (by simp [hkl,hki,hk1,yf9,AV.weakL,AV.weak,AV.koneL,AV.kone,strB];rfl) ?_
    by_cases L0:0 < L
    ·rw [if_pos (by omega)] at hgo
     have L0i:(0:Int) < L:=by omega
     obtain ⟨a3,ha3⟩:∃ n,t / 3=n:=⟨_,rfl⟩
     obtain ⟨a7,ha7⟩:∃ n,t / 7=n:=⟨_,rfl⟩
     obtain ⟨at_,hat⟩:∃ n,a3 % L=n:=⟨_,rfl⟩
     have hatl:at_ < L:=by rw [← hat];exact Nat.mod_lt _ L0
     obtain ⟨mn,hmn⟩:∃ n,min 56 (L - at_)=n:=⟨_,rfl⟩
     obtain ⟨r7,hr7⟩:∃ n,a7 % mn=n:=⟨_,rfl⟩
     have hr7l:r7 < mn:=by rw [← hr7];exact Nat.mod_lt _ (by omega)
     rw [ha3,ha7,hat,hmn,hr7] at hgo
     have q3:(t:Int).tdiv 3=(a3:Nat):=by rw [← ha3];rfl
     have q7:(t:Int).tdiv 7=(a7:Nat):=by rw [← ha7];rfl
     have wq3:IntKind.u16.wrap (a3:Int)=a3:=wu16k (by omega) (by omega)
     have wq7:IntKind.u16.wrap (a7:Int)=a7:=wu16k (by omega) (by omega)
     have w3:IntKind.i64.wrap (a3:Int)=a3:=w64 (by omega) (by omega)
     have w7:IntKind.i64.wrap (a7:Int)=a7:=w64 (by omega) (by omega)
     have L1:¬ ((L:Int)=0):=by omega
     have L1n:¬ L=0:=by omega
     have hm3:(a3:Int).tmod (L:Int)=(at_:Nat):=by rw [← hat];rfl
     have ws:IntKind.i64.wrap ((L:Int) - (at_:Int))=((L - at_:Nat):Int):=by rw [w64 (by omega) (by omega)];omega
     obtain ⟨df,hdf⟩:∃ n,L - at_=n:=⟨_,rfl⟩
     rw [hdf] at ws hmn
     have hmi:(if (df:Int) < 56 then (df:Int) else 56)=(mn:Nat):=by split <;> omega
     have mn0:¬ ((mn:Int)=0):=by omega
     have mn0n:¬ mn=0:=by omega
     have hm7:(a7:Int).tmod (mn:Int)=(r7:Nat):=by rw [← hr7];rfl
     have w1:IntKind.i64.wrap (1+(r7:Int))=1+(r7:Int):=w64 (by omega) (by omega)
     have wa:IntKind.i64.wrap ((ad:Int)+(at_:Int))=(ad:Int)+(at_:Int):=w64 (by omega) (by omega)
     have hda:=zh4 x.data i (1+r7) (by omega) (by omega) (by omega)
     have hda2:Sound Tryz.prog 15 [.lst .any 1 (byL x.data),.v (.int .i64 (i:Nat)),.v (.int .i64 (1+(r7:Int)))] (.lst .any 1 (byL (jn8 x.data i (1+r7)))):=by
      have e:((1+r7:Nat):Int)=1+(r7:Int):=by omega
      rwa [e] at hda
     have hq1:acc.length≤140737488355327:=by omega
     have hq2:(acc.length+1) * 40≤140737488355328:=by omega
     refine W_cT [1,2,3,4,5,11,12,128] (by simp [hL,L0,L0i];rfl) rfl ?_
     refine W_dvK [1,2,3,4,5,11,12,13] mx (by decide +kernel) (by simp [zn9,c1,c1b,ht1,q3,wq3,w3,hL,L1,L1n,hm3,-Int.natCast_ediv];rfl) ?_
     refine jh9 [1,2,3,4,5,11,12,13,14] mx (by decide +kernel) ?_
     refine yr9 6 (by simp [zn9,c1,c1b,ht1,q7,wq7,w7,hL,-Int.natCast_ediv];rfl) rfl ?_
     refine yr9 5 (by simp [w7,hL,ws,wq7];rfl) rfl ?_
     refine ym9 (by simp [hmi,mn0,mn0n,hm7,w1];rfl) ?_
     have hfl2:ft=.nil∧acc=[]∨ft=.tip 42 337:=hfl
     rcases hfl2 with ⟨rfl,rfl⟩ | rfl
     ·refine qt9 [1,2,3,4,5,11] mx (by decide +kernel) ?_
      refine yr9 6 (by simp [had,zn9];rfl) rfl ?_
      refine yr9 6 (by simp [had,wa,zn9];rfl) rfl ?_
      refine zw9 (by simp) (by first | (simp;done) | (simp;rfl)) hda2 (by simp;rfl) ?_
      refine ym9 (by simp [yf9,catK,AV.cellsK,AV.kone,AV.koneL,AV.weak,AV.weakL,strB,zObT,vf8,hq1,hq2];rfl) ?_
      refine xp9 3 (Nat.zero_le _) (by simp) (by simp [yv9,AV.under,AV.underL]) (by simp [yc9,xl9,AObj.under,yv9,AV.under,AV.underL,wm9,zObC,esC,strB,zn9]) ?_
      refine zq9 [1,2,3,4,5,11] (by simp [wi];rfl) ?_
      exact ⟨_,by omega,i+1,_,.tip 42 337,rfl,by omega,by rw [show 31 - (i+1)=30 - i by omega];exact hgo,by simp;try omega,.inr rfl,by simp [txL,rdL,zn9,zObC,strB]⟩
     ·refine qt9 [1,2,3,4,5,11] mx (by decide +kernel) ?_
      refine yr9 6 (by simp [had,zn9];rfl) rfl ?_
      refine yr9 6 (by simp [had,wa,zn9];rfl) rfl ?_
      refine zw9 (by simp) (by first | (simp;done) | (simp;rfl)) hda2 (by simp;rfl) ?_
      refine ym9 (by simp [yf9,catK,AV.cellsK,AV.kone,AV.koneL,AV.weak,AV.weakL,strB,zObT,vf8,hq1,hq2];rfl) ?_
      refine xp9 3 (Nat.zero_le _) (by simp) (by simp [yv9,AV.under,AV.underL]) (by simp [yc9,xl9,AObj.under,yv9,AV.under,AV.underL,wm9,zObC,esC,strB,zn9]) ?_
      refine zq9 [1,2,3,4,5,11] (by simp [wi];rfl) ?_
      exact ⟨_,by omega,i+1,_,.tip 42 337,rfl,by omega,by rw [show 31 - (i+1)=30 - i by omega];exact hgo,by simp;try omega,.inr rfl,by simp [txL,rdL,zn9,zObC,strB]⟩
    ·rw [if_neg (by omega)] at hgo
     have L0i:¬ (0:Int) < L:=by omega
     refine W_cF [1,2,3,4,5,11,12,128] (by simp [hL,L0,L0i];rfl) rfl ?_
     refine zs9 [1,2,3,4,5,11] ?_
     refine yk9 ?_
     refine xp9 3 (Nat.zero_le _) (by simp) (by simp [yv9,AV.under,AV.underL]) (by simp [yc9,xl9,AObj.under,yv9,AV.under,AV.underL,wm9,zObC,esC,strB,zn9]) ?_
     refine zq9 [1,2,3,4,5,11] (by simp [wi];rfl) ?_
     exact ⟨_,by omega,i+1,acc,ft,rfl,by omega,by rw [show 31 - (i+1)=30 - i by omega];exact hgo,by omega,hfl,by simp [txL,rdL,zn9,zObC,strB]⟩
   ·have c2b:¬ ((i:Int) < 30):=by omega
    rw [if_neg (fun h=>c2 h.2)] at hgo
    subst hgo
    refine W_cF [1,2,3,4,5,11,111] (by simp [zn9,c1,c1b,c2,c2b];rfl) rfl ?_
    refine zs9 [1,2,3,4,5] ?_
    refine zj9 ?_
    exact ⟨ft,hfl,by simp [zn9,zObC,txL,rdL]⟩
  ·have c1b:¬ ((i:Int) < (x.txts.length:Nat)):=by omega
   rw [if_neg (fun h=>c1 h.1)] at hgo
   subst hgo
   refine W_cF [1,2,3,4,5,11,111] (by simp [zn9,c1,c1b];rfl) rfl ?_
   refine zs9 [1,2,3,4,5] ?_
   refine zj9 ?_
   exact ⟨ft,hfl,by simp [zn9,zObC,txL,rdL]⟩
 rintro _ ⟨ft,hft,rfl⟩
 have hkt:∀ xs,(AV.lst ft 3 xs).kill 487=.lst ft 3 xs:=by
  intro xs
  rcases hft with ⟨rfl,_⟩ | rfl <;> rfl
 refine xh9 (fun σ=>∃ fr,(fr=.nil∧RR=[]∨fr=.tip 46 487)∧σ=⟨269,[(1,.loc 0 0),(2,.loc 1 0),(3,.loc 2 0),(4,.lst (.tip 50 145) 5 (esL S)),(5,.v (.int .i64 (ID:Nat)))],[.cells 26 (zn9 x),.cells 33 zObC,.cells 33 [.lst (.tip 50 203) 5 (esL A),.lst ft 3 (txL TT),.lst fr 5 (rdL RR),.v (.string ⟨#[]⟩)]]⟩) ?_ ?_
 ·refine yt9 [1, 2, 3, 4, 5, 15] (by simp; rfl) ?_
  refine ys9 ?_
  refine zl9 (fun m σ=>∃ (i:Nat) (acc:List Rld) (fr:Fl),m=31 - i∧i≤30∧rldO x S ID (31 - i) i acc=RR∧acc.length≤i∧(fr=.nil∧acc=[]∨fr=.tip 46 487)∧σ=⟨269,[(1,.loc 0 0),(2,.loc 1 0),(3,.loc 2 0),(4,.lst (.tip 50 145) 5 (esL S)),(5,.v (.int .i64 (ID:Nat))),(15,.v (.int .i64 (i:Nat)))],[.cells 26 (zn9 x),.cells 33 zObC,.cells 33 [.lst (.tip 50 203) 5 (esL A),.lst ft 3 (txL TT),.lst fr 5 (rdL acc),.v (.string ⟨#[]⟩)]]⟩) (k:=31) ⟨0,[],.nil,rfl,by omega,hRR,by simp,.inl ⟨rfl,rfl⟩,by simp [txL,rdL,zn9,zObC]⟩ ?_
  rintro m σ ⟨i,acc,fr,rfl,hi,hgo,hal,hfl,rfl⟩
  refine yl9 ?_
  have wi:=w64 (n:=(i:Int)+1) (by omega) (by omega)
  rw [show 31 - i=30 - i+1 by omega,rldO] at hgo
  by_cases c1:i < x.rlds.length
  ·have c1b : (i : Int) < (x.rlds.length : Nat) := by omega
   by_cases c2:i < 30
   ·have c2b : (i : Int) < 30 := by omega
    rw [if_pos ⟨c1,c2⟩] at hgo
    simp only at hgo
    obtain ⟨t,ht0⟩:∃ b,x.rlds[i]?=some b:=⟨_,List.getElem?_eq_getElem c1⟩
    have ht1:x.rlds[i]'c1=t:=by rw [List.getElem?_eq_getElem c1] at ht0;exact Option.some.inj ht0
    have htl:=hr t (List.mem_of_getElem? ht0)
    rw [show x.rlds.getD i 0=t by rw [List.getD_eq_getElem?_getD,ht0];rfl] at hgo
    obtain ⟨k,hk⟩:∃ k,t % S.length=k:=⟨_,rfl⟩
    have hkl:k < S.length:=by rw [← hk];exact Nat.mod_lt _ hS0
    have hki:(k:Int) < S.length:=by omega
    have hmk:(t:Int).tmod (S.length:Int)=(k:Nat):=by rw [← hk];rfl
    obtain ⟨s,hs⟩:∃ s,S[k]?=some s:=⟨_,List.getElem?_eq_getElem hkl⟩
    have hk1:S[k]'hkl=s:=by rw [List.getElem?_eq_getElem hkl] at hs;exact Option.some.inj hs
    rw [hk,show S.getD k es0=s by rw [List.getD_eq_getElem?_getD,hs];rfl] at hgo
    obtain ⟨b1,b2,b3,b4,b5,b6,b7⟩:=hSB s (List.mem_of_getElem? hs)
    obtain ⟨L,hL⟩:∃ n:Nat,s.len=n:=⟨s.len.toNat,by omega⟩
    obtain ⟨ad,had⟩:∃ n:Nat,s.addr=n:=⟨s.addr.toNat,by omega⟩
    have wt:IntKind.i64.wrap (t:Int)=t:=w64 (by omega) (by omega)
    rw [hL,had] at hgo
    simp only [Int.toNat_natCast] at hgo
    refine W_cT [1,2,3,4,5,15,178] (by simp [zn9,c1,c1b,c2,c2b];rfl) rfl ?_
    refine yk9 ?_
    refine yl9 ?_
    refine ys9 ?_
    refine W_rK [1,2,3,4,5,15,16] ?_
    refine yq9 6 (by simp [zn9,c1,c1b,ht1];rfl) rfl ?_
    refine yq9 4 (by simp [wt,hmk,hns,hnsi];rfl) rfl ?_
    refine yw9 (by simp [hkl,hki,hk1,yf9,AV.weakL,AV.weak,AV.koneL,AV.kone,strB];rfl) ?_
    by_cases L0:4≤L
    ·rw [if_pos (by omega)] at hgo
     have L0i:(4:Int)≤L:=by omega
     obtain ⟨a5,ha5⟩:∃ n,t / 5=n:=⟨_,rfl⟩
     obtain ⟨a3,ha3⟩:∃ n,t / 3=n:=⟨_,rfl⟩
     obtain ⟨a11,ha11⟩:∃ n,t / 11=n:=⟨_,rfl⟩
     obtain ⟨I1,hI1⟩:∃ n,ID - 1=n:=⟨_,rfl⟩
     obtain ⟨L3,hL3⟩:∃ n,L - 3=n:=⟨_,rfl⟩
     obtain ⟨r5,hr5⟩:∃ n,a5 % I1=n:=⟨_,rfl⟩
     obtain ⟨r3,hr3⟩:∃ n,a3 % L3=n:=⟨_,rfl⟩
     obtain ⟨r11,hr11⟩:∃ n,a11 % 4=n:=⟨_,rfl⟩
     obtain ⟨t2,ht2⟩:∃ n,t % 2=n:=⟨_,rfl⟩
     have g5:r5 < I1:=by rw [← hr5];exact Nat.mod_lt _ (by omega)
     have g3:r3 < L3:=by rw [← hr3];exact Nat.mod_lt _ (by omega)
     have g11:r11 < 4:=by rw [← hr11];exact Nat.mod_lt _ (by omega)
     have g2:t2 < 2:=by rw [← ht2];exact Nat.mod_lt _ (by omega)
     rw [ha5,ha3,ha11,hI1,hL3,hr5,hr3,hr11,ht2] at hgo
     have q5:(t:Int).tdiv 5=(a5:Nat):=by rw [← ha5];rfl
     have q3:(t:Int).tdiv 3=(a3:Nat):=by rw [← ha3];rfl
     have q11:(t:Int).tdiv 11=(a11:Nat):=by rw [← ha11];rfl
     have q2:(t:Int).tmod 2=(t2:Nat):=by rw [← ht2];rfl
     have u5:IntKind.u16.wrap (a5:Int)=a5:=wu16k (by omega) (by omega)
     have u3:IntKind.u16.wrap (a3:Int)=a3:=wu16k (by omega) (by omega)
     have u11:IntKind.u16.wrap (a11:Int)=a11:=wu16k (by omega) (by omega)
     have w5:IntKind.i64.wrap (a5:Int)=a5:=w64 (by omega) (by omega)
     have w3:IntKind.i64.wrap (a3:Int)=a3:=w64 (by omega) (by omega)
     have w11:IntKind.i64.wrap (a11:Int)=a11:=w64 (by omega) (by omega)
     have wI:IntKind.i64.wrap ((ID:Int) - 1)=(I1:Nat):=by rw [w64 (by omega) (by omega)];omega
     have wL:IntKind.i64.wrap ((L:Int) - 3)=(L3:Nat):=by rw [w64 (by omega) (by omega)];omega
     have I1i:¬ ((I1:Int)=0):=by omega
     have I1n:¬ I1=0:=by omega
     have L3i:¬ ((L3:Int)=0):=by omega
     have L3n:¬ L3=0:=by omega
     have m5:(a5:Int).tmod (I1:Int)=(r5:Nat):=by rw [← hr5];rfl
     have m3:(a3:Int).tmod (L3:Int)=(r3:Nat):=by rw [← hr3];rfl
     have m11:(a11:Int).tmod 4=(r11:Nat):=by rw [← hr11];rfl
     have w15:IntKind.i64.wrap (1+(r5:Int))=1+(r5:Int):=w64 (by omega) (by omega)
     have w111:IntKind.i64.wrap (1+(r11:Int))=1+(r11:Int):=w64 (by omega) (by omega)
     have wa:IntKind.i64.wrap ((ad:Int)+(r3:Int))=(ad:Int)+(r3:Int):=w64 (by omega) (by omega)
     have hneg:((t2:Int) == 1)=decide (t2=1):=by rw [Bool.eq_iff_iff];simp;omega
     have hq1:acc.length≤140737488355327:=by omega
     have hq2:(acc.length+1) * 40≤140737488355328:=by omega
     refine W_cT [1,2,3,4,5,15,16,195] (by simp [hL,L0,L0i];rfl) rfl ?_
     have hfl2:fr=.nil∧acc=[]∨fr=.tip 46 487:=hfl
     rcases hfl2 with ⟨rfl,rfl⟩ | rfl
     ·refine qt9 [1,2,3,4,5,15] mx (by decide +kernel) ?_
      iterate 7 refine yr9 6 (by simp [zn9,c1,c1b,ht1,q5,q3,q11,q2,u5,u3,u11,w5,w3,w11,wI,wL,I1i,I1n,L3i,L3n,m5,m3,m11,w15,w111,wa,hL,had,-Int.natCast_ediv];rfl) rfl ?_
      refine ym9 (by simp [↓hkt,yf9,catK,AV.cellsK,AV.kone,AV.koneL,AV.weak,AV.weakL,strB,zObT,vf8,hq1,hq2,hneg,zn9,c1,c1b,ht1,q5,q3,q11,q2,u5,u3,u11,w5,w3,w11,wI,wL,I1i,I1n,L3i,L3n,m5,m3,m11,w15,w111,wa,hL,had,-Int.natCast_ediv];rfl) ?_
      refine xp9 3 (Nat.zero_le _) (by simp) (by simp [yv9,AV.under,AV.underL]) (by simp [yc9,xl9,AObj.under,yv9,AV.under,AV.underL,wm9,zObC,esC,strB,zn9]) ?_
      refine zq9 [1,2,3,4,5,15] (by simp [wi];rfl) ?_
      exact ⟨_,by omega,i+1,_,.tip 46 487,rfl,by omega,by rw [show 31 - (i+1)=30 - i by omega];exact hgo,by simp;try omega,.inr rfl,by simp [txL,rdL,zn9,zObC,strB,hneg]⟩
     ·refine qt9 [1,2,3,4,5,15] mx (by decide +kernel) ?_
      iterate 7 refine yr9 6 (by simp [zn9,c1,c1b,ht1,q5,q3,q11,q2,u5,u3,u11,w5,w3,w11,wI,wL,I1i,I1n,L3i,L3n,m5,m3,m11,w15,w111,wa,hL,had,-Int.natCast_ediv];rfl) rfl ?_
      refine ym9 (by simp [↓hkt,yf9,catK,AV.cellsK,AV.kone,AV.koneL,AV.weak,AV.weakL,strB,zObT,vf8,hq1,hq2,hneg,zn9,c1,c1b,ht1,q5,q3,q11,q2,u5,u3,u11,w5,w3,w11,wI,wL,I1i,I1n,L3i,L3n,m5,m3,m11,w15,w111,wa,hL,had,-Int.natCast_ediv];rfl) ?_
      refine xp9 3 (Nat.zero_le _) (by simp) (by simp [yv9,AV.under,AV.underL]) (by simp [yc9,xl9,AObj.under,yv9,AV.under,AV.underL,wm9,zObC,esC,strB,zn9]) ?_
      refine zq9 [1,2,3,4,5,15] (by simp [wi];rfl) ?_
      exact ⟨_,by omega,i+1,_,.tip 46 487,rfl,by omega,by rw [show 31 - (i+1)=30 - i by omega];exact hgo,by simp;try omega,.inr rfl,by simp [txL,rdL,zn9,zObC,strB,hneg]⟩
    ·rw [if_neg (by omega)] at hgo
     have L0i:¬ (4:Int)≤L:=by omega
     refine W_cF [1,2,3,4,5,15,16,195] (by simp [hL,L0,L0i];rfl) rfl ?_
     refine zs9 [1,2,3,4,5,15] ?_
     refine yk9 ?_
     refine xp9 3 (Nat.zero_le _) (by simp) (by simp [yv9,AV.under,AV.underL]) (by simp [yc9,xl9,AObj.under,yv9,AV.under,AV.underL,wm9,zObC,esC,strB,zn9]) ?_
     refine zq9 [1,2,3,4,5,15] (by simp [wi];rfl) ?_
     exact ⟨_,by omega,i+1,acc,fr,rfl,by omega,by rw [show 31 - (i+1)=30 - i by omega];exact hgo,by omega,hfl,by simp [txL,rdL,zn9,zObC,strB]⟩
   ·have c2b:¬ ((i:Int) < 30):=by omega
    rw [if_neg (fun h=>c2 h.2)] at hgo
    subst hgo
    refine W_cF [1,2,3,4,5,15,178] (by simp [zn9,c1,c1b,c2,c2b];rfl) rfl ?_
    refine zs9 [1,2,3,4,5] ?_
    refine zj9 ?_
    exact ⟨fr,hfl,by simp [zn9,zObC,txL,rdL]⟩
  ·have c1b:¬ ((i:Int) < (x.rlds.length:Nat)):=by omega
   rw [if_neg (fun h=>c1 h.1)] at hgo
   subst hgo
   refine W_cF [1,2,3,4,5,15,178] (by simp [zn9,c1,c1b];rfl) rfl ?_
   refine zs9 [1,2,3,4,5] ?_
   refine zj9 ?_
   exact ⟨fr,hfl,by simp [zn9,zObC,txL,rdL]⟩
 rintro _ ⟨fr,hfr,rfl⟩
 obtain ⟨E,hE⟩:∃ n,x.entry.toNat=n:=⟨_,rfl⟩
 rw [hE] at hent
 obtain ⟨k,hk⟩:∃ k,E % A.length=k:=⟨_,rfl⟩
 have hkl:k < A.length:=by rw [← hk];exact Nat.mod_lt _ hA0
 have hki:(k:Int) < A.length:=by omega
 have hmk:(E:Int).tmod (A.length:Int)=(k:Nat):=by rw [← hk];rfl
 have hna:¬ A.length=0:=by omega
 have hnai:¬ ((A.length:Int)=0):=by omega
 obtain ⟨s,hs⟩:∃ s,A[k]?=some s:=⟨_,List.getElem?_eq_getElem hkl⟩
 have hk1:A[k]'hkl=s:=by rw [List.getElem?_eq_getElem hkl] at hs;exact Option.some.inj hs
 have hen:qq6 x A=if E % 2=1∧s.kind≠3 then s.name else []:=by
  unfold qq6
  simp only
  rw [hE,hk,show A.getD k es0=s by rw [List.getD_eq_getElem?_getD,hs];rfl]
 have wE:IntKind.i64.wrap (E:Int)=E:=w64 (by omega) (by omega)
 obtain ⟨E2,hE2⟩:∃ n,E % 2=n:=⟨_,rfl⟩
 have g2:E2 < 2:=by rw [← hE2];exact Nat.mod_lt _ (by omega)
 have q2:(E:Int).tmod 2=(E2:Nat):=by rw [← hE2];rfl
 rw [hE2] at hen
 refine xh9 (fun σ=>σ=⟨269,[(2,.loc 1 0),(3,.loc 2 0)],[.cells 26 (zn9 x),.cells 33 zObC,.cells 33 [.lst (.tip 50 203) 5 (esL A),.lst ft 3 (txL TT),.lst fr 5 (rdL RR),strB (qq6 x A)],.cells 50 (esC s)]⟩) ?_ ?_
 ·refine jh9 [1, 2, 3, 17] mx (by decide +kernel) ?_
  refine yr9 6 (by simp [zn9,hE,wE];rfl) rfl ?_
  refine yr9 3 (by simp [hmk,hna,hnai];rfl) rfl ?_
  refine ym9 (by simp [hkl,hki,hk1,yf9,AV.weakL,AV.weak,AV.koneL,AV.kone,strB];rfl) ?_
  have hcut:∀ (fr:List (Nat × AV)) (H:List AObj),True:=fun _ _=>trivial
  by_cases e2:E2=1
  ·subst e2
   by_cases k3:s.kind=3
   ·refine W_cF [2,3,17,264] (by simp [zn9,hE,q2,k3,bne];rfl) rfl ?_
    refine zs9 [2,3] ?_
    refine yk9 ?_
    rw [hen,if_neg (by simp [k3])]
    simp [zn9,zObC,strB,hE,esC,k3]
   ·have k3b:(s.kind == 3)=false:=by simpa using k3
    refine W_cT [2,3,17,264] (by simp [zn9,hE,q2,k3,k3b,bne];rfl) rfl ?_
    refine zq9 [2,3] (by simp [yf9,zn9,strB];rfl) ?_
    rw [hen,if_pos ⟨rfl,k3⟩]
    simp [zn9,zObC,strB,hE,esC]
  ·have e2b:((E2:Int) == 1)=false:=by simp;omega
   refine W_cF [2,3,17,264] (by simp [zn9,hE,q2,e2,e2b,bne];rfl) rfl ?_
   refine zs9 [2,3] ?_
   refine yk9 ?_
   rw [hen,if_neg (by simp [e2])]
   simp [zn9,zObC,strB,hE,esC]
 rintro _ rfl
 obtain ⟨EN,hEN⟩:∃ e,qq6 x A=e:=⟨_,rfl⟩
 rw [hEN]
 refine yt9 [2] (by simp [zObC,yf9,strB];rfl) ?_
 refine yn9 ?_
 repeat (first | refine yg9 ?_ | refine yh9 ?_)
 rcases hft with ⟨rfl,rfl⟩ | rfl <;> rcases hfr with ⟨rfl,rfl⟩ | rfl
 all_goals
  refine ⟨_,by simp [retQ];exact ⟨rfl,by simp [AV.rf,AV.rfL]⟩,?_⟩
  first
   | (have h:=AV.Le.dp (P:=Tryz.prog) (.agg [.lst (.tip 50 203) 5 (esL A),.lst .nil 3 (txL []),.lst .nil 5 (rdL []),strB EN]);simpa [AV.dp,AV.dpL,strB] using h)
   | (have h:=AV.Le.dp (P:=Tryz.prog) (.agg [.lst (.tip 50 203) 5 (esL A),.lst .nil 3 (txL []),.lst (.tip 46 487) 5 (rdL RR),strB EN]);simpa [AV.dp,AV.dpL,strB] using h)
   | (have h:=AV.Le.dp (P:=Tryz.prog) (.agg [.lst (.tip 50 203) 5 (esL A),.lst (.tip 42 337) 3 (txL TT),.lst .nil 5 (rdL []),strB EN]);simpa [AV.dp,AV.dpL,strB] using h)
   | (have h:=AV.Le.dp (P:=Tryz.prog) (.agg [.lst (.tip 50 203) 5 (esL A),.lst (.tip 42 337) 3 (txL TT),.lst (.tip 46 487) 5 (rdL RR),strB EN]);simpa [AV.dp,AV.dpL,strB] using h)
set_option maxRecDepth 10000
theorem wj6 : ∀ (l : List Esd) (x : Esd) (S : List (Int × Esd)) (N : List (List UInt8 × Int)) (nx : Int) (S' : List (Int × Esd)) (N' : List (List UInt8 × Int)) (nx' : Int), uf9 l S N nx = some (S', N', nx') → vs9 nx' x = true → dupM N' x = false →
  uf9 (l++[x]) S N nx=some (S1 S' x,N1 N' x,nx1 nx' x)
 | [],x,S,N,nx,S',N',nx',h,hr,hd=>by
  simp only [uf9,Option.some.injEq,Prod.mk.injEq] at h
  obtain ⟨rfl,rfl,rfl⟩:=h
  rw [List.nil_append,uf9,if_pos hr,if_neg (by rw [hd];simp),uf9]
 | y :: l,x,S,N,nx,S',N',nx',h,hr,hd=>by
  rw [List.cons_append,uf9]
  rw [uf9] at h
  split at h
  ·rename_i h1
   rw [if_pos h1]
   split at h
   ·cases h
   ·rename_i h2
    rw [if_neg h2]
    exact wj6 l x _ _ _ S' N' nx' h hr hd
  ·cases h
theorem vf6:∀ i,i < 40→symM (symG i)=true:=by decide +kernel
theorem jh4:∀ i,i < 40→∀ j,j < i→symG j≠symG i:=by decide +kernel
structure VO (i id addr:Nat) (secs acc:List Esd):Prop where
 go:∃ S N,uf9 acc [] [] 1=some (S,N,(id:Int))
 nm:∀ y∈acc,y.name=[]∨∃ j,j < i∧y.name=symG j
 sc:∀ s∈secs,acc.find? (jq9 s.id)=some s∧0≤s.addr∧0≤s.len
 en:∀ y∈acc,y.kind=2→∃ s∈secs,s.id=y.id∧s.addr≤y.addr∧y.addr≤s.addr+s.len
 ad:addr≤1020 * i
 il:acc.length≤i
 i4:i≤40
 ne:0 < i→secs≠[]∧2≤id
 i1:1≤id
theorem uv6 {l m:List Esd} {p:Esd→Bool} {s:Esd} (h:l.find? p=some s):(l++m).find? p=some s:=by rw [List.find?_append,h];rfl
theorem VO.step {i id addr : Nat} {secs acc : List Esd} (h : VO i id addr secs acc) (hi : i < 40) (x : Esd) (hr : vs9 (id : Int) x = true) (hn : x.name = [] ∨ x.name = symG i) (id' addr' : Nat) (secs' : List Esd) (hid : nx1 (id : Int) x = (id' : Int))
  (hs:∀ s∈secs',(acc++[x]).find? (jq9 s.id)=some s∧0≤s.addr∧0≤s.len) (hse:∀ s∈secs,s∈secs') (he:x.kind=2→∃ s∈secs',s.id=x.id∧s.addr≤x.addr∧x.addr≤s.addr+s.len) (ha:addr'≤1020 * (i+1)) (hne:secs'≠[]∧2≤id'):VO (i+1) id' addr' secs' (acc++[x]):=by
 obtain ⟨S,N,hg⟩:=h.go
 have hE:=jg9 acc [] [] S [] N 1 _ EInv.nil hg
 rw [List.nil_append] at hE
 have hd:dupM N x=false:=by
  rw [hE.dup]
  rcases hn with hn | hn
  ·simp [hn]
  ·rw [Bool.and_eq_false_iff]
   right
   rw [List.any_eq_false]
   intro y hy hb
   have hb2:y.name=x.name:=by simpa using hb
   rcases h.nm y hy with h1 | ⟨j,hj,h1⟩
   ·rw [h1,hn] at hb2
    have:=vf6 i hi
    rw [← hb2] at this
    simp [symM] at this
   ·rw [h1,hn] at hb2
    exact jh4 i hi j hj hb2
 have hg2:=wj6 acc x [] [] 1 S N _ hg hr hd
 refine ⟨⟨S1 S x,N1 N x,by rw [hg2,hid]⟩,fun y hy=>?_,hs,fun y hy hk=>?_,ha,by have:=h.il;simp;omega,by omega,fun _=>hne,by omega⟩
 ·rcases List.mem_append.1 hy with hy | hy
  ·rcases h.nm y hy with h1 | ⟨j,hj,h1⟩
   ·exact .inl h1
   ·exact .inr ⟨j,by omega,h1⟩
  ·rw [List.mem_singleton.1 hy]
   rcases hn with hn | hn
   ·exact .inl hn
   ·exact .inr ⟨i,by omega,hn⟩
 ·rcases List.mem_append.1 hy with hy | hy
  ·obtain ⟨s,h1,h2⟩:=h.en y hy hk
   exact ⟨s,hse s h1,h2⟩
  ·rw [List.mem_singleton.1 hy] at hk ⊢
   exact he hk
theorem nO_256 (x:SeedM) (i:Nat):nO x i < 256:=by
 unfold nO
 split
 ·omega
 ·exact UInt8.toNat_lt _
theorem um6 (x : SeedM) : ∀ (f i id addr : Nat) (secs acc : List Esd), VO i id addr secs acc → (i = 0 → 0 < f) → ∃ i' addr', VO i' (esdO x f i id addr secs acc).2.2 addr' (esdO x f i id addr secs acc).2.1 (esdO x f i id addr secs acc).1 ∧ 0 < i'
 | 0,i,id,addr,secs,acc,h,hf=>⟨i,addr,h,by omega⟩
 | f+1,i,id,addr,secs,acc,h,hf=>by
  have hn:=nO_256 x i
  have had:=h.ad
  rw [esdO]
  by_cases hc:i≤x.esds.length∧i < 40
  ·rw [if_pos hc]
   obtain ⟨hc1,hc2⟩:=hc
   by_cases h3:nO x i % 3=0
   ·rw [if_pos h3]
    refine um6 x f (i+1) (id+1) _ _ _ (h.step hc2 (secO i id addr (nO x i)) ?_ ?_ (id+1) _ _ ?_ ?_ (fun s hs=>by simp [hs]) ?_ ?_ ?_) (by omega)
    ·rw [vs9,if_pos (show (secO i id addr (nO x i)).kind=1 from rfl)]
     simp only [rule1,secO,Bool.and_eq_true,Bool.or_eq_true,decide_eq_true_eq]
     refine ⟨trivial,decide_eq_true (by omega),decide_eq_true (by omega),decide_eq_true (by omega),decide_eq_true (by omega),?_⟩
     split
     ·exact .inl (decide_eq_true rfl)
     ·exact .inr (vf6 i hc2)
    ·unfold secO
     simp only
     split
     ·exact .inl rfl
     ·exact .inr rfl
    ·simp [nx1,secO]
    ·intro s hs
     rcases List.mem_append.1 hs with hs | hs
     ·obtain ⟨h1,h2,h4⟩:=h.sc s hs
      exact ⟨uv6 h1,h2,h4⟩
     ·rw [List.mem_singleton.1 hs]
      refine ⟨?_,by simp only [secO];omega,by simp only [secO];omega⟩
      obtain ⟨S,N,hg⟩:=h.go
      have hE:=jg9 acc [] [] S [] N 1 _ EInv.nil hg
      rw [List.nil_append] at hE
      have h5:acc.find? (jq9 (secO i id addr (nO x i)).id)=none:=by
       rw [List.find?_eq_none]
       intro y hy hs
       have h4:=hE.t1 (id:Int)
       have h5:acc.any (isTg (id:Int))=true:=List.any_eq_true.2 ⟨y,hy,by
        have h6:y.kind=1∧y.id=(id:Int):=by
         simp only [jq9,secO,Bool.and_eq_true,decide_eq_true_eq] at hs
         exact ⟨hs.1,of_decide_eq_true hs.2⟩
        simp [isTg,h6.1,h6.2]⟩
       rw [h5] at h4
       have h6:=h4.symm
       simp only [Bool.and_eq_true,decide_eq_true_eq] at h6
       omega
      rw [List.find?_append,h5]
      simp [List.find?,jq9,secO]
    ·intro hk
     simp [secO] at hk
    ·omega
    ·have:=h.i1
     exact ⟨by simp,by omega⟩
   ·rw [if_neg h3]
    have hi0:0 < i:=by
     rcases Nat.eq_zero_or_pos i with e | e
     ·subst e;simp [nO] at h3
     ·exact e
    obtain ⟨hne,hid2⟩:=h.ne hi0
    by_cases h4:nO x i % 3=1
    ·rw [if_pos h4]
     have hlen:0 < secs.length:=List.length_pos_iff.2 hne
     obtain ⟨s,hs⟩:∃ s,secs[nO x i % secs.length]?=some s:=⟨_,List.getElem?_eq_getElem (Nat.mod_lt _ hlen)⟩
     have hsg:secs.getD (nO x i % secs.length) es0=s:=by rw [List.getD_eq_getElem?_getD,hs];rfl
     have hsm:=List.mem_of_getElem? hs
     obtain ⟨k1,k2,k3⟩:=h.sc s hsm
     rw [hsg]
     have hM:nO x i % (s.len.toNat+1) < s.len.toNat+1:=Nat.mod_lt _ (by omega)
     refine um6 x f (i+1) id _ _ _ (h.step hc2 (entO i (nO x i) s) ?_ (.inr rfl) id _ _ ?_ ?_ (fun s hs=>hs) ?_ ?_ ⟨hne,hid2⟩) (by omega)
     ·unfold vs9
      rw [if_neg (by simp [entO]),if_pos (by simp [entO])]
      simp only [rule2,entO,Bool.and_eq_true,decide_eq_true_eq]
      exact ⟨trivial,vf6 i hc2⟩
     ·simp [nx1,entO]
     ·intro t ht
      obtain ⟨h1,h2,h4⟩:=h.sc t ht
      exact ⟨uv6 h1,h2,h4⟩
     ·intro _
      generalize hMM:nO x i % (s.len.toNat+1)=M at hM
      refine ⟨s,hsm,by simp [entO],?_,?_⟩
      ·simp only [entO,hMM];omega
      ·simp only [entO,hMM];omega
     ·omega
    ·rw [if_neg h4]
     refine um6 x f (i+1) (id+1) _ _ _ (h.step hc2 (extO i id) ?_ (.inr rfl) (id+1) _ _ ?_ ?_ (fun s hs=>hs) ?_ ?_ ⟨hne,by omega⟩) (by omega)
     ·unfold vs9
      rw [if_neg (by simp [extO]),if_neg (by simp [extO]),if_pos (by simp [extO])]
      simp only [rule3,extO,Bool.and_eq_true,decide_eq_true_eq]
      exact ⟨trivial,trivial,trivial,vf6 i hc2⟩
     ·simp [nx1,extO]
     ·intro t ht
      obtain ⟨h1,h2,h4⟩:=h.sc t ht
      exact ⟨uv6 h1,h2,h4⟩
     ·intro hk
      simp [extO] at hk
     ·omega
  ·rw [if_neg hc]
   refine ⟨i,addr,h,?_⟩
   rcases Nat.eq_zero_or_pos i with e | e
   ·subst e;exact absurd ⟨Nat.zero_le _,by omega⟩ hc
   ·exact e
theorem vr6 (x : SeedM) {secs : List Esd} (P : Txt → Prop) (hne : secs ≠ []) (hs : ∀ s ∈ secs, ∀ (A B : Nat) (d : List UInt8), 0 < s.len → (A : Int) < s.len → 1 + B ≤ 56 → (A : Int) + 1 + B ≤ s.len → d.length = 1 + B → P ⟨s.id, s.addr + (A : Int), d⟩) :
  ∀ (f i:Nat) (acc:List Txt),(∀ t∈acc,P t)→(∀ t∈txtO x secs f i acc,P t)∧(txtO x secs f i acc).length≤acc.length+f
 | 0,i,acc,h=>⟨h,Nat.le_refl _⟩
 | f+1,i,acc,h=>by
  rw [txtO]
  split
  ·simp only
   have hlen:0 < secs.length:=List.length_pos_iff.2 hne
   obtain ⟨s,hg⟩:∃ s,secs[x.txts.getD i 0 % secs.length]?=some s:=⟨_,List.getElem?_eq_getElem (Nat.mod_lt _ hlen)⟩
   have hsg:secs.getD (x.txts.getD i 0 % secs.length) es0=s:=by rw [List.getD_eq_getElem?_getD,hg];rfl
   have hsm:=List.mem_of_getElem? hg
   rw [hsg]
   generalize x.txts.getD i 0=t
   split
   ·rename_i hl
    have h1:t / 3 % s.len.toNat < s.len.toNat:=Nat.mod_lt _ (by omega)
    have h2:t / 7 % (min 56 (s.len.toNat - t / 3 % s.len.toNat)) < min 56 (s.len.toNat - t / 3 % s.len.toNat):=Nat.mod_lt _ (by omega)
    generalize t / 7 % (min 56 (s.len.toNat - t / 3 % s.len.toNat))=B at h2 ⊢
    generalize t / 3 % s.len.toNat=A at h1 h2 ⊢
    obtain ⟨k1,k2⟩:=vr6 x P hne hs f (i+1) (acc++[⟨s.id,s.addr+(A:Int),jn8 x.data i (1+B)⟩]) (fun t ht=>by
     rcases List.mem_append.1 ht with ht | ht
     ·exact h t ht
     ·rw [List.mem_singleton.1 ht]
      exact hs s hsm A B _ hl (by omega) (by omega) (by omega) (by simp [jn8]))
    simp only [List.length_append,List.length_singleton] at k2
    exact ⟨k1,by omega⟩
   ·obtain ⟨k1,k2⟩:=vr6 x P hne hs f (i+1) acc h
    exact ⟨k1,by omega⟩
  ·exact ⟨h,by omega⟩
theorem vn6 (x : SeedM) {secs : List Esd} (id : Nat) (hid : 2 ≤ id) (P : Rld → Prop) (hne : secs ≠ []) (hs : ∀ s ∈ secs, ∀ (A B C : Nat) (g : Bool), 4 ≤ s.len → (A : Int) < s.len - 3 → 1 ≤ C → C < id → 1 ≤ B → B ≤ 4 → P ⟨s.id, (C : Nat), s.addr + (A : Int), (B : Nat), g⟩) :
  ∀ (f i:Nat) (acc:List Rld),(∀ t∈acc,P t)→(∀ t∈rldO x secs id f i acc,P t)∧(rldO x secs id f i acc).length≤acc.length+f
 | 0,i,acc,h=>⟨h,Nat.le_refl _⟩
 | f+1,i,acc,h=>by
  rw [rldO]
  split
  ·simp only
   have hlen:0 < secs.length:=List.length_pos_iff.2 hne
   obtain ⟨s,hg⟩:∃ s,secs[x.rlds.getD i 0 % secs.length]?=some s:=⟨_,List.getElem?_eq_getElem (Nat.mod_lt _ hlen)⟩
   have hsg:secs.getD (x.rlds.getD i 0 % secs.length) es0=s:=by rw [List.getD_eq_getElem?_getD,hg];rfl
   have hsm:=List.mem_of_getElem? hg
   rw [hsg]
   generalize x.rlds.getD i 0=t
   split
   ·rename_i hl
    have h1:t / 3 % (s.len.toNat - 3) < s.len.toNat - 3:=Nat.mod_lt _ (by omega)
    have h2:t / 5 % (id - 1) < id - 1:=Nat.mod_lt _ (by omega)
    have h3:t / 11 % 4 < 4:=Nat.mod_lt _ (by omega)
    generalize t / 3 % (s.len.toNat - 3)=A at h1 ⊢
    generalize t / 5 % (id - 1)=C at h2 ⊢
    generalize t / 11 % 4=B at h3 ⊢
    obtain ⟨k1,k2⟩:=vn6 x id hid P hne hs f (i+1) (acc++[⟨s.id,((1+C:Nat):Int),s.addr+(A:Int),((1+B:Nat):Int),decide (t % 2=1)⟩]) (fun t ht=>by
     rcases List.mem_append.1 ht with ht | ht
     ·exact h t ht
     ·rw [List.mem_singleton.1 ht]
      exact hs s hsm A (1+B) (1+C) _ hl (by omega) (by omega) (by omega) (by omega) (by omega))
    simp only [List.length_append,List.length_singleton] at k2
    exact ⟨k1,by omega⟩
   ·obtain ⟨k1,k2⟩:=vn6 x id hid P hne hs f (i+1) acc h
    exact ⟨k1,by omega⟩
  ·exact ⟨h,by omega⟩
theorem wq6 (x:SeedM):chkM (objM x)=true:=by
 obtain ⟨i',addr',hV,hi'⟩:=um6 x 41 0 1 0 [] [] ⟨⟨[],[],rfl⟩,by simp,by simp,by simp,by omega,by simp,by omega,by omega,by omega⟩ (by omega)
 have ho:objM x=⟨(esdO x 41 0 1 0 [] []).1,txtO x (esdO x 41 0 1 0 [] []).2.1 31 0 [],rldO x (esdO x 41 0 1 0 [] []).2.1 (esdO x 41 0 1 0 [] []).2.2 31 0 [],qq6 x (esdO x 41 0 1 0 [] []).1⟩:=rfl
 rw [ho]
 generalize (esdO x 41 0 1 0 [] []).1=acc at hV ⊢
 generalize (esdO x 41 0 1 0 [] []).2.1=secs at hV ⊢
 generalize (esdO x 41 0 1 0 [] []).2.2=id at hV ⊢
 obtain ⟨⟨S,N,hg⟩,hnm,hsc,hen,had,hil,hi4,hne,hi1⟩:=hV
 obtain ⟨hne,hid2⟩:=hne hi'
 have hE:=jg9 acc [] [] S [] N 1 _ EInv.nil hg
 rw [List.nil_append] at hE
 have hget:∀ s∈secs,getS s.id S=some s:=fun s hs=>by rw [hE.s1];exact (hsc s hs).1
 obtain ⟨t1,t2⟩:=vr6 x (fun t=>txB S t=false) hne (fun s hs A B d h1 h2 h3 h4 h5=>by
  have k:=hsc s hs
  simp only [txB,yq8,hget s hs,zv6,Bool.or_eq_false_iff,decide_eq_false_iff_not,Bool.not_eq_false',Bool.and_eq_true,decide_eq_true_eq]
  refine ⟨by omega,by omega,by omega,by omega,by omega⟩) 31 0 [] (by simp)
 obtain ⟨r1,r2⟩:=vn6 x id hid2 (fun r=>rdB S (id:Int) r=false) hne (fun s hs A B C g h1 h2 h3 h4 h5 h6=>by
  have k:=hsc s hs
  simp only [rdB,yq8,hget s hs,zv6,Bool.or_eq_false_iff,decide_eq_false_iff_not,Bool.not_eq_false',Bool.and_eq_true,decide_eq_true_eq]
  refine ⟨by omega,by omega,by omega,by omega,by omega,by omega,by omega⟩) 31 0 [] (by simp)
 simp only [List.length_nil] at t2 r2
 have hent:entB N (qq6 x acc)=false:=by
  rw [hE.entry]
  unfold qq6
  simp only
  split
  ·rename_i hc
   by_cases h0:(acc.getD (x.entry.toNat % acc.length) es0).name=[]
   ·rw [decide_eq_true h0];rfl
   ·have hm:acc.getD (x.entry.toNat % acc.length) es0∈acc:=by
     rw [List.getD_eq_getElem?_getD]
     cases hq:acc[x.entry.toNat % acc.length]? with
     | none =>
      exfalso
      apply h0
      rw [List.getD_eq_getElem?_getD,hq]
      rfl
     | some y=>exact List.mem_of_getElem? hq
    generalize acc.getD (x.entry.toNat % acc.length) es0=y at hm hc h0
    rw [decide_eq_false h0,Bool.not_false,Bool.true_and,Bool.not_eq_false',List.any_eq_true]
    exact ⟨y,hm,by simp [isDf,hc.2]⟩
  ·simp
 have hS:0 < S.length:=by
  have hf:=hE.first
  have:(acc.find? isS1).isSome=true:=by
   rw [List.find?_isSome]
   obtain ⟨s,hs⟩:=List.exists_mem_of_ne_nil _ hne
   have h1:=(hsc s hs).1
   have h2:=List.find?_some h1
   simp only [jq9,Bool.and_eq_true] at h2
   exact ⟨s,List.mem_of_find?_eq_some h1,by simpa [isS1] using h2.1⟩
  rw [this] at hf
  simpa using hf.symm
 unfold chkM
 simp only [Bool.and_eq_true,Bool.not_eq_true']
 rw [hg]
 refine ⟨?_,?_,?_⟩
 ·simp only [bigB,Bool.or_eq_false_iff,decide_eq_false_iff_not]
  omega
 ·simp only [esdB, Bool.and_eq_true, List.all_eq_true, decide_eq_true_eq]
  refine ⟨fun y hy=>?_,hS⟩
  by_cases hk:y.kind=2
  ·obtain ⟨s,hs,h1,h2,h3⟩:=hen y hy hk
   simp only [ent1,hk,decide_true,Bool.not_true,Bool.false_or,yq8,← h1,hget s hs,zv6,Bool.and_eq_true,decide_eq_true_eq]
   refine ⟨by omega,by omega,by omega⟩
  ·simp [ent1,hk]
 ·simp only [kp7,Bool.and_eq_true,List.all_eq_true,Bool.not_eq_true']
  exact ⟨t1,r1,hent⟩
end Go.AM
