/- Parts of the walk: C24XG C24XA C24XH R22T R23T C24Y. -/
import Derived.Test.YthjcnajpcphcpaaGreatG12
namespace Go.AM
open Go.RowKit Go.Proofs
set_option linter.unusedSimpArgs false
set_option linter.unusedVariables false
set_option maxHeartbeats 8000000
set_option maxRecDepth 20000
theorem findM_name {t:List (List Rec)} {L:List RE} {n:Nat} (he:uq9 t=some (L,n)) {e:RE} (hm:e∈L):ys7 t (nmM e.key)=some e:=by
 have hi:=zw8 he
 obtain ⟨h1,h2⟩:=ul8.1 hi.ord
 unfold ys7
 rw [he]
 simp only
 rw [if_pos (h1 e hm),us6 (hi.ok e hm).1 (h1 e hm)]
 exact (find_iff h2 e.key e).2 ⟨hm,rfl⟩
theorem rdM_name {d:Dcb} {t:List (List Rec)} {L:List RE} {n:Nat} (he:uq9 t=some (L,n)) (hp:vw8 d=true) {e:RE} (hm:e∈L):rdM d t (nmM e.key)=memM d t e.trk e.rn:=by
 unfold rdM
 rw [if_neg (by rw [he,hp];simp),findM_name he hm]
def outD (x:AV) (O:List ME):Prop:=(O=[]∧x=.lst .nil 2 [])∨x=.lst (.tip 27 117) 2 (meL O)
theorem nm_len (k:List UInt8):(nmM k).length≤k.length:=by
 obtain ⟨j,hj⟩:=uf8 k
 unfold nmM
 have:=congrArg List.length hj
 simp at this
 simp [decM]
 omega
theorem yk6 (d:Dcb) {t:List (List Rec)} (ht:TIn t) (hraw:(rawE (dirT t).flatten).length≤1000000) (hf:t.flatten.length≤1800000):Sound Tryz.prog 25 [dcbA d,.lst .any 1 (arL t)] (cntA (cntM d t)):=by
 refine vd9 Tryz.func25 rfl (by decide +kernel) (by simp [Tryz.f25]) (by simp [AV.rfL,AV.rf]) (by simp [AV.tlL,AV.tl]) (rs:=[.cell 4 42,.tmp 5]) rfl ?_
 rw [show Tryz.f25.ntmps=61 from rfl]
 have hof:=qq7 t ht hraw
 have hfine:=qr7 d
 simp only [dcbA] at hfine
 have hn0:((ofM t).2=0∧uq9 t=none)∨(0 < (ofM t).2∧∃ L n,uq9 t=some (L,n)∧(ofM t).1=L.map nmE):=by
  unfold ofM
  cases he:uq9 t with
  | none=>simp
  | some p =>
   obtain ⟨L,n⟩:=p
   have:=(zw8 he).n1
   right
   exact ⟨by show 0 < n;omega,L,n,rfl,rfl⟩
 obtain ⟨P,hP⟩:∃ P,ofM t=P:=⟨_,rfl⟩
 rw [hP] at hof hn0
 refine yr9 [1,2,4] (by simp;rfl) ?_
 refine W_rK [1,2,4,6,7] ?_
 refine yq9 1 (by simp;rfl) rfl ?_
 refine yf9 (by simp) (by first | (simp;done) | (simp;rfl)) hof (by simp;rfl) ?_
 refine yw9 (by simp;rfl) ?_
 refine yh9 ?_
 cases hp:vw8 d with
 | false =>
  rw [hp] at hfine
  have hm:cntM d t=(wm6,[],5):=by
   unfold cntM
   cases uq9 t with
   | none=>rfl
   | some p=>simp only [hp];rfl
  refine W_rK [1,2,4,6,23] ?_
  refine yq9 1 (by simp;rfl) rfl ?_
  refine yf9 (by simp) (by first | (simp;done) | (simp;rfl)) hfine (by simp;rfl) ?_
  refine yw9 (by simp;rfl) ?_
  refine yt9 (t:=true) rfl (fun h=>?_) (fun h=>by simp at h)
  refine yr9 [4,5] (by simp [yk9];rfl) ?_
  refine yj9 ?_
  repeat (first | refine yp9 ?_ | refine ys9 ?_)
  exact zh7 hm rfl
 | true =>
 rw [hp] at hfine
 rcases hn0 with ⟨hP0,he⟩ | ⟨hP0,L,n,he,hPL⟩
 ·have hm:cntM d t=(wm6,[],5):=by unfold cntM;rw [he]
  refine W_rK [1,2,4,6,23] ?_
  refine yq9 1 (by simp;rfl) rfl ?_
  refine yf9 (by simp) (by first | (simp;done) | (simp;rfl)) hfine (by simp;rfl) ?_
  refine yw9 (by simp [hP0];rfl) ?_
  refine yt9 (t:=true) rfl (fun h=>?_) (fun h=>by simp at h)
  refine yr9 [4,5] (by simp [yk9];rfl) ?_
  refine yj9 ?_
  repeat (first | refine yp9 ?_ | refine ys9 ?_)
  exact zh7 hm rfl
 ·have hP0i : ((P.2 : Int) == 0) = false := by simp; omega
  have hP0n:¬ P.2=0:=by omega
  obtain ⟨hLl,hn,h8,hpw⟩:=wt8 he
  have hm:cntM d t=yv7 d t L []:=by unfold cntM;rw [he];simp only [hp];rfl
  obtain ⟨R,hR⟩:∃ R,cntM d t=R:=⟨_,rfl⟩
  rw [hR] at hm ⊢
  rw [hPL] at *
  have hSl:(L.map nmE).length=L.length:=by simp
  obtain ⟨l,hl⟩:∃ l,L.map nmE=l:=⟨_,rfl⟩
  rw [hl] at hSl ⊢
  refine W_rK [1,2,4,6,23] ?_
  refine yq9 1 (by simp;rfl) rfl ?_
  refine yf9 (by simp) (by first | (simp;done) | (simp;rfl)) hfine (by simp;rfl) ?_
  refine yw9 (by simp [hP0i,hP0n];rfl) ?_
  refine yt9 (t:=false) (by simp [hP0i,hP0n]) (fun h=>by simp at h) (fun h=>?_)
  refine ym9 [1,2,4,6] ?_
  refine yg9 ?_
  repeat (first | refine on_norm ?_ | refine in_norm ?_)
  refine yr9 [1,2,4,6,8] (by simp [zg9,yk9];rfl) ?_
  refine yh9 ?_
  refine yr9 [1,2,4,6,8,9] (by simp;rfl) ?_
  refine yl9 ?_
  refine zf9 (fun q σ => ∃ (i : Nat) (o : List ME) (x : AV), q = L.length - i ∧ i ≤ L.length ∧ yv7 d t (L.drop i) o = R ∧ outD x o ∧ o.length ≤ i ∧
   σ = ⟨61, [(1, .lst .any 1 (arL t)), (2, .loc 0 0), (4, .loc 1 0), (6, .lst .any 3 (seL l)), (8, .loc 2 0), (9, .v (.int .i64 (i : Nat)))],
    [.cells 23 (dcbC d), .cells 42 [.v (.int .i64 0), .v (.int .i64 0), .v (.bool false), .v (.bool false), .v (.int .i64 0), .v (.int .i64 0), .v (.int .i64 0), .v (.int .i64 0), .lst .nil 1 [], .lst .nil 2 []],
     .cells 42 [.v (.int .i64 d.org),.v (.int .i64 d.fmt),.v (.bool d.blk),.v (.bool d.asa),.v (.int .i64 d.lrecl),.v (.int .i64 d.size),.v (.int .i64 d.klen),.v (.int .i64 d.kpos),.lst .nil 1 [],x]]⟩) (k:=L.length) ⟨0,[],_,rfl,by omega,hm.symm,.inl ⟨rfl,rfl⟩,by simp,by simp [dcbC]⟩ ?_
  rintro q σ ⟨i,o,x,rfl,hi,hgo,hx,hol,rfl⟩
  refine yh9 ?_
  by_cases c:i < L.length
  ·have ci : (i : Int) < L.length := by omega
   have cl:i < l.length:=by omega
   have cli:(i:Int) < l.length:=by omega
   obtain ⟨e,hei⟩:∃ e,L[i]?=some e:=⟨_,List.getElem?_eq_getElem c⟩
   have he2:L[i]'c=e:=(List.getElem?_eq_some_iff.1 hei).2
   have hem:=List.mem_of_getElem? hei
   have hle:l[i]'cl=nmE e:=by
    have:l[i]?=some (nmE e):=by rw [← hl,List.getElem?_map,hei];rfl
    exact (List.getElem?_eq_some_iff.1 this).2
   have he8:=h8 e hem
   have wi:=w64 (n:=(i:Int)+1) (by omega) (by omega)
   have hdr:L.drop i=e :: L.drop (i+1):=by rw [List.drop_eq_getElem_cons c,he2]
   rw [hdr,yv7] at hgo
   have hrd:=qd7 d ht hraw hf (nmM e.key) (by have:=nm_len e.key;omega)
   rw [rdM_name he hp hem] at hrd
   obtain ⟨M,hM⟩:∃ M,memM d t e.trk e.rn=M:=⟨_,rfl⟩
   rw [hM] at hgo hrd
   simp only [dcbA,resB,strB] at hrd
   refine yr9 [1,2,4,6,8,9,30] (by simp [cl,cli,c,ci];rfl) ?_
   refine yt9 (t:=true) (by simp [cl,cli,c,ci]) (fun h=>?_) (fun h=>by simp at h)
   refine ym9 [1,2,4,6,8,9] ?_
   refine yg9 ?_
   repeat (first | refine on_norm ?_ | refine in_norm ?_)
   refine yh9 ?_
   refine yl9 ?_
   refine wr9 [1,2,4,6,8,9,10,11] mx (by decide +kernel) ?_
   refine yd9 4 (by simp [zg9,dcbC];rfl) rfl ?_
   refine yd9 3 (by simp [cl,cli,hle,seA,nmE,strB];rfl) rfl ?_
   refine yv9 (by simp) (by first | (simp;done) | (simp;rfl)) hrd (by simp;rfl) ?_
   refine yb9 (by simp;rfl) ?_
   refine yh9 ?_
   by_cases c0:M.2=0
   ·rw [if_pos c0] at hgo
    have c0':(M.2 != 0)=false:=by simpa using c0
    refine yr9 [1,2,4,6,8,9,10,45] (by simp [c0,c0'];rfl) ?_
    refine yt9 (t:=false) (by simp [c0,c0']) (fun h=>by simp at h) (fun h=>?_)
    refine ym9 [1,2,4,6,8,9,10] ?_
    refine yg9 ?_
    repeat (first | refine on_norm ?_ | refine in_norm ?_)
    have b1:(o.length+1) * 40≤140737488355328:=by omega
    have b2:40 * (o.length+1)≤140737488355328:=by omega
    have hsn:meL o++[AV.agg [strB (nmM e.key),.lst .any 1 (bbL M.1)]]=meL (o++[⟨nmM e.key,M.1⟩]):=by rw [meL_app];rfl
    unfold strB at hsn
    rcases hx with ⟨h0,rfl⟩ | rfl
    ·subst h0
     rw [show meL []=[] from rfl,List.nil_append] at hsn
     refine yc8 [1,2,4,6,8,9] mx (by decide +kernel) ?_
     refine yd9 4 (by simp [zg9];rfl) rfl ?_
     refine yd9 4 (by simp [cl,cli,hle,seA,nmE,strB];rfl) rfl ?_
     refine yd9 3 (by simp [catK,AV.cellsK,AV.kone,AV.koneL,yk9];rfl) rfl ?_
     refine yb9 (by simp [catK,AV.cellsK,AV.kone,AV.koneL,yk9,hsn];rfl) ?_
     repeat (first | refine on_norm ?_ | refine in_norm ?_)
     refine zr9 [1,2,4,6,8,9] (by simp [zg9,wi];rfl) ?_
     refine ⟨_,by omega,i+1,[⟨nmM e.key,M.1⟩],_,rfl,by omega,hgo,.inr rfl,by simp,by simp [dcbC]⟩
    ·refine yc8 [1,2,4,6,8,9] mx (by decide +kernel) ?_
     refine yd9 4 (by simp [zg9];rfl) rfl ?_
     refine yd9 4 (by simp [cl,cli,hle,seA,nmE,strB];rfl) rfl ?_
     refine yd9 3 (by simp [catK,AV.cellsK,AV.kone,AV.koneL,yk9,b1,b2,hsn];rfl) rfl ?_
     refine yb9 (by simp [catK,AV.cellsK,AV.kone,AV.koneL,yk9,hsn,b1,b2];rfl) ?_
     repeat (first | refine on_norm ?_ | refine in_norm ?_)
     refine zr9 [1,2,4,6,8,9] (by simp [zg9,wi];rfl) ?_
     refine ⟨_,by omega,i+1,o++[⟨nmM e.key,M.1⟩],_,rfl,by omega,hgo,.inr rfl,by simp;omega,by simp [dcbC]⟩
   ·rw [if_neg c0] at hgo
    have c0':(M.2 != 0)=true:=by simpa using c0
    refine yr9 [1,2,4,6,8,9,11,45] (by simp [c0,c0'];rfl) ?_
    refine yt9 (t:=true) (by simp [c0,c0']) (fun h=>?_) (fun h=>by simp at h)
    refine yr9 [4,5] (by simp [yk9];rfl) ?_
    refine yj9 ?_
    repeat (first | refine yp9 ?_ | refine ys9 ?_)
    exact zh7 hgo.symm rfl
  ·have hie : i = L.length := by omega
   subst hie
   have cl:¬ L.length < l.length:=by omega
   have cli:¬ (L.length:Int) < l.length:=by omega
   rw [List.drop_length,yv7] at hgo
   subst hgo
   refine yr9 [1,2,4,8,30] (by simp [cl,cli];rfl) ?_
   refine yt9 (t:=false) (by simp [cl,cli]) (fun h=>by simp at h) (fun h=>?_)
   refine ym9 [1,2,4,8] ?_
   refine zs9 ?_
   rcases hx with ⟨h0,rfl⟩ | rfl
   ·subst h0
    refine yr9 [4,5] (by simp [zg9,yk9];rfl) ?_
    refine yj9 ?_
    repeat (first | refine yp9 ?_ | refine ys9 ?_)
    exact ⟨_,by simp [retQ];exact ⟨rfl,by simp [AV.rfL,AV.rf]⟩,.inr (by simp [cntA,wv9,meL])⟩
   ·refine yr9 [4,5] (by simp [zg9,yk9];rfl) ?_
    refine yj9 ?_
    repeat (first | refine yp9 ?_ | refine ys9 ?_)
    exact ⟨_,by simp [retQ];exact ⟨rfl,by simp [AV.rfL,AV.rf]⟩,.inr (by simp [cntA,wv9])⟩
end Go.AM
namespace Go.AM
open Go.RowKit Go.Proofs
set_option linter.unusedSimpArgs false
set_option linter.unusedVariables false
set_option maxHeartbeats 8000000
set_option maxRecDepth 100000
def recOf : AV → Option Rec
 | .agg [.v (.int .i64 R),.lst .any 1 k,.lst .any 1 d,.v (.bool b)]=>(bytesOf k).bind fun k'=>(bytesOf d).map fun d'=>⟨R,k',d',b⟩
 | _=>none
theorem recOf_eq {x:AV} {r:Rec} (h:recOf x=some r):x=recA r:=by
 unfold recOf at h
 split at h
 ·rename_i R k d b
  obtain ⟨k',h1,h⟩:=Option.bind_eq_some_iff.1 h
  obtain ⟨d',h2,rfl⟩:=Option.map_eq_some_iff.1 h
  rw [qr8 h1,qr8 h2]
  rfl
 ·cases h
def trOf : List AV → Option (List Rec)
 | []=>some []
 | x :: xs=>(recOf x).bind fun r=>(trOf xs).map fun l=>r :: l
theorem trOf_eq : ∀ {xs : List AV} {l : List Rec}, trOf xs = some l → xs = trL l
 | [],l,h=>by simp only [trOf,Option.some.injEq] at h;subst h;rfl
 | x :: xs,l,h=>by
  simp only [trOf] at h
  obtain ⟨b,hb,h⟩:=Option.bind_eq_some_iff.1 h
  obtain ⟨l',hl,rfl⟩:=Option.map_eq_some_iff.1 h
  rw [jq8,recOf_eq hb,trOf_eq hl]
def arOf : List AV → Option (List (List Rec))
 | []=>some []
 | .lst .any 4 x :: xs=>(trOf x).bind fun b=>(arOf xs).map fun l=>b :: l
 | _=>none
theorem arOf_eq : ∀ {xs : List AV} {l : List (List Rec)}, arOf xs = some l → xs = arL l
 | [],l,h=>by simp only [arOf,Option.some.injEq] at h;subst h;rfl
 | x :: xs,l,h=>by
  unfold arOf at h
  split at h
  ·rename_i h1;cases h1
  ·rename_i y ys h1
   cases h1
   obtain ⟨b,hb,h⟩:=Option.bind_eq_some_iff.1 h
   obtain ⟨l',hl,rfl⟩:=Option.map_eq_some_iff.1 h
   rw [arL_cons,trOf_eq hb,arOf_eq hl]
  ·cases h
def dcbOf : AV → Option Dcb
 | .agg [.v (.int .i64 a),.v (.int .i64 b),.v (.bool c),.v (.bool d),.v (.int .i64 e),.v (.int .i64 f),.v (.int .i64 g),.v (.int .i64 h)]=>some ⟨a,b,c,d,e,f,g,h⟩
 | _=>none
theorem dcbOf_eq {x:AV} {d:Dcb} (h:dcbOf x=some d):x=dcbA d:=by
 unfold dcbOf at h
 split at h
 ·cases h;rfl
 ·cases h
def strOf : AV → Option (List UInt8)
 | .v (.string s)=>some s.data.toList
 | _=>none
theorem vg6 {x:AV} {s:List UInt8} (h:strOf x=some s):x=strB s:=by
 unfold strOf at h
 split at h
 ·cases h;simp [strB]
 ·cases h
def zv6 : List AV → Option (List (List UInt8))
 | []=>some []
 | x :: xs=>(strOf x).bind fun r=>(zv6 xs).map fun l=>r :: l
theorem ug7 : ∀ {xs : List AV} {l : List (List UInt8)}, zv6 xs = some l → xs = strL l
 | [],l,h=>by simp only [zv6,Option.some.injEq] at h;subst h;rfl
 | x :: xs,l,h=>by
  simp only [zv6] at h
  obtain ⟨b,hb,h⟩:=Option.bind_eq_some_iff.1 h
  obtain ⟨l',hl,rfl⟩:=Option.map_eq_some_iff.1 h
  rw [vg6 hb,ug7 hl]
  rfl
def meOf : AV → Option ME
 | .agg [s,.lst .any 1 b]=>(strOf s).bind fun n=>(bbOf b).map fun l=>⟨n,l⟩
 | _=>none
theorem meOf_eq {x:AV} {m:ME} (h:meOf x=some m):x=meA m:=by
 unfold meOf at h
 split at h
 ·obtain ⟨n,hn,h⟩:=Option.bind_eq_some_iff.1 h
  obtain ⟨l,hl,rfl⟩:=Option.map_eq_some_iff.1 h
  rw [vg6 hn,bbOf_eq hl]
  rfl
 ·cases h
def mesOf : List AV → Option (List ME)
 | []=>some []
 | x :: xs=>(meOf x).bind fun r=>(mesOf xs).map fun l=>r :: l
theorem mesOf_eq : ∀ {xs : List AV} {l : List ME}, mesOf xs = some l → xs = meL l
 | [],l,h=>by simp only [mesOf,Option.some.injEq] at h;subst h;rfl
 | x :: xs,l,h=>by
  simp only [mesOf] at h
  obtain ⟨b,hb,h⟩:=Option.bind_eq_some_iff.1 h
  obtain ⟨l',hl,rfl⟩:=Option.map_eq_some_iff.1 h
  rw [meOf_eq hb,mesOf_eq hl]
  rfl
def bbSm (l:List (List UInt8)):Bool:=decide (l.length≤1000)&&l.all fun t=>decide (t.length≤1000)
theorem bbSm_spec {l:List (List UInt8)} (h:bbSm l=true):l.length≤1000∧∀ t∈l,t.length≤1000:=by
 simpa [bbSm] using h
def arSm (a:List (List Rec)):Bool:=decide (a.length≤1000)&&decide (a.flatten.length≤1000)&&a.all fun t=>t.all fun r=>decide (r.key.length≤1000)&&decide (r.data.length≤1000)
theorem dirT_sub (t:List (List Rec)):(dirT t).flatten.length≤t.flatten.length:=by
 conv=>rhs;rw [jt9 t]
 rw [List.flatten_append,List.length_append]
 omega
theorem mem_flat_len {t:List (List Rec)} {l:List Rec} (h:l∈t):l.length≤t.flatten.length:=by
 obtain ⟨a,b,rfl⟩:=List.append_of_mem h
 simp
 omega
theorem arSm_spec {a:List (List Rec)} (h:arSm a=true):TIn a∧a.flatten.length≤1000:=by
 simp only [arSm,Bool.and_eq_true,List.all_eq_true,decide_eq_true_eq] at h
 obtain ⟨⟨h1,h2⟩,h3⟩:=h
 refine ⟨⟨by omega,fun l hl=>?_,?_,fun l hl r hr=>?_⟩,h2⟩
 ·have:=mem_flat_len hl;omega
 ·have:=dirT_sub a;omega
 ·have:=h3 l hl r hr;omega
def mesSm (l:List ME):Bool:=decide (l.length≤1000)&&l.all fun m=>decide (m.name.length≤1000)&&bbSm m.recs
theorem mesSm_spec {l:List ME} (h:mesSm l=true):l.length≤1000∧∀ m∈l,m.name.length≤1000∧m.recs.length≤1000∧∀ r∈m.recs,r.length≤1000:=by
 simp only [mesSm,Bool.and_eq_true,List.all_eq_true,decide_eq_true_eq] at h
 exact ⟨h.1,fun m hm=>⟨(h.2 m hm).1,bbSm_spec (h.2 m hm).2⟩⟩
def cmOf : AV → Option (Dcb × List ME)
 | .agg [a,b,c,d,e,f,g,h,.lst .any 1 [],.lst .any 2 m]=>(dcbOf (.agg [a,b,c,d,e,f,g,h])).bind fun x=>(mesOf m).map fun y=>(x,y)
 | _=>none
theorem cmOf_eq {x:AV} {d:Dcb} {ms:List ME} (h:cmOf x=some (d,ms)):x=.agg (wv9 d [] ms):=by
 unfold cmOf at h
 split at h
 ·obtain ⟨d',hd,h⟩:=Option.bind_eq_some_iff.1 h
  obtain ⟨m',hm,h⟩:=Option.map_eq_some_iff.1 h
  cases h
  have h1:=dcbOf_eq hd
  simp only [dcbA,AV.agg.injEq,List.cons.injEq] at h1
  obtain ⟨rfl,rfl,rfl,rfl,rfl,rfl,rfl,rfl,_⟩:=h1
  rw [mesOf_eq hm]
  rfl
 ·cases h
def kn24:KnF:=fun f args =>
 if f=14 then match args with
  | [x,.v (.int .i64 n)]=>(cmOf x).bind fun c=>if mesSm c.2=true then some (resT (ptrM c.1 c.2 n)) else none
  | _=>none
 else if f=18 then match args with
  | [.lst .any 1 a]=>(arOf a).bind fun A=>if arSm A=true then some (.tup [.lst (.tip 9 1) 1 (strL (xj6 A).1),.v (.int .i64 (xj6 A).2)]) else none
  | _=>none
 else if f=8 then match args with
  | [x,.lst .any 1 a,y]=>(dcbOf x).bind fun d=>(arOf a).bind fun A=>(strOf y).bind fun s=>if arSm A=true∧s.length≤1000 then some (resB (rdM d A s)) else none
  | _=>none
 else if f=22 then match args with
  | [.lst .any 1 a,.lst .any 1 b]=>(zv6 a).bind fun A=>(zv6 b).bind fun B=>if A.length≤1000 then some (.v (.bool (decide (A=B)))) else none
  | _=>none
 else if f=10 then match args with
  | [.lst .any 1 a,.lst .any 1 b]=>(bbOf a).bind fun A=>(bbOf b).bind fun B=>if bbSm A=true then some (.v (.bool (decide (A=B)))) else none
  | _=>none
 else none
theorem kn24_ok:KnOk Tryz.prog kn24:=by
 intro f args r h
 unfold kn24 at h
 split at h
 ·rename_i hf
  subst hf
  split at h
  ·rename_i x n
   obtain ⟨⟨d,ms⟩,hd,h⟩:=Option.bind_eq_some_iff.1 h
   split at h
   ·rename_i hc
    cases h
    obtain ⟨h1,h2⟩:=mesSm_spec hc
    dsimp only at h1 h2 ⊢
    rw [cmOf_eq hd]
    exact ut6 d [] ms n (by omega) fun m hm=>⟨by have:=(h2 m hm).1;omega,by have:=(h2 m hm).2.1;omega,fun r hr=>by have:=(h2 m hm).2.2 r hr;omega⟩
   ·cases h
  ·cases h
 split at h
 ·rename_i hf
  subst hf
  split at h
  ·rename_i a
   obtain ⟨A,hA,h⟩:=Option.bind_eq_some_iff.1 h
   split at h
   ·rename_i hc
    cases h
    rw [arOf_eq hA]
    exact Names_sound (arSm_spec hc).1
   ·cases h
  ·cases h
 split at h
 ·rename_i hf
  subst hf
  split at h
  ·rename_i x a y
   obtain ⟨d,hd,h⟩:=Option.bind_eq_some_iff.1 h
   obtain ⟨A,hA,h⟩:=Option.bind_eq_some_iff.1 h
   obtain ⟨s,hs,h⟩:=Option.bind_eq_some_iff.1 h
   split at h
   ·rename_i hc
    cases h
    obtain ⟨h1,h2⟩:=arSm_spec hc.1
    rw [dcbOf_eq hd,arOf_eq hA,vg6 hs]
    exact wb6 d h1 (by omega) s (by omega)
   ·cases h
  ·cases h
 split at h
 ·rename_i hf
  subst hf
  split at h
  ·rename_i a b
   obtain ⟨A,hA,h⟩:=Option.bind_eq_some_iff.1 h
   obtain ⟨B,hB,h⟩:=Option.bind_eq_some_iff.1 h
   split at h
   ·cases h
    rw [ug7 hA,ug7 hB]
    exact ub7 A B (by omega)
   ·cases h
  ·cases h
 split at h
 ·rename_i hf
  subst hf
  split at h
  ·rename_i a b
   obtain ⟨A,hA,h⟩:=Option.bind_eq_some_iff.1 h
   obtain ⟨B,hB,h⟩:=Option.bind_eq_some_iff.1 h
   split at h
   ·rename_i hc
    cases h
    obtain ⟨h1,h2⟩:=bbSm_spec hc
    rw [bbOf_eq hA,bbOf_eq hB]
    exact qc8 A B (by omega) fun x hx=>by have:=h2 x hx;omega
   ·cases h
  ·cases h
 ·cases h
theorem vq6:Sound Tryz.prog 13 [] (.v (.bool true)):=wq8 kn24_ok mx 300 (by kernel_rfl)
end Go.AM
namespace Go.AM
open Go.RowKit Go.Proofs
set_option linter.unusedSimpArgs false
set_option linter.unusedVariables false
set_option maxHeartbeats 8000000
set_option maxRecDepth 20000
theorem zs7 {d : Dcb} (hc : zk9 d = 0) : ∀ (k : Nat) (b : List UInt8) (O : List (List UInt8)), (∀ r ∈ O, r.length ≤ 1024) → ∀ r ∈ (xj9 d k b O).1, r.length ≤ 1024
 | 0,b,O,h=>h
 | k+1,b,O,h=>by
  rw [xj9]
  split
  ·exact h
  ·split
   ·exact h
   ·rename_i hn
    refine zs7 hc k _ _ fun r hr=>?_
    rcases List.mem_append.1 hr with hr | hr
    ·exact h r hr
    ·rw [List.mem_singleton.1 hr, List.length_take]
     have hfit:kf9 d (cutN d b)=true:=by
      cases hf:kf9 d (cutN d b) with
      | true=>rfl
      | false=>exact absurd (.inr (.inr hf)) hn
     have:=jg9 hc hfit
     omega
theorem splitM_le {d:Dcb} (hc:zk9 d=0) (b:List UInt8) (O:List (List UInt8)) (h:∀ r∈O,r.length≤1024):∀ r∈(xw9 d b O).1,r.length≤1024:=by
 unfold xw9
 split
 ·exact h
 ·split
  ·split
   ·exact zs7 hc _ _ _ h
   ·exact h
  ·exact zs7 hc _ _ _ h
theorem unbGo_le {d : Dcb} (hc : zk9 d = 0) : ∀ (l O R : List (List UInt8)), (∀ r ∈ O, r.length ≤ 1024) → wg7 d l O = some R → ∀ r ∈ R, r.length ≤ 1024
 | [],O,R,h,hr=>by cases hr;exact h
 | b :: l,O,R,h,hr=>by
  rw [wg7] at hr
  split at hr
  ·cases hr
  ·exact unbGo_le hc l _ R (splitM_le hc b O h) hr
theorem unbM_bd (d:Dcb) (l:List (List UInt8)):(unbM d l).1.length≤4096∧∀ r∈(unbM d l).1,r.length≤1024:=by
 unfold unbM
 split
 ·rename_i hc
  cases hg:wg7 d l [] with
  | none=>simp [finU]
  | some R =>
   have hle:=unbGo_le hc l [] R (by simp) hg
   by_cases hn:4096 < R.length
   ·simp [finU,hn]
   ·simp only [finU,hn,if_false]
    exact ⟨by omega,hle⟩
 ·simp
theorem memM_bd (d:Dcb) (t:List (List Rec)) (p n:Nat):(memM d t p n).1.length≤4096∧∀ r∈(memM d t p n).1,r.length≤1024:=by
 unfold memM
 split
 ·exact unbM_bd d _
 ·simp
theorem rdM_bd (d:Dcb) (t:List (List Rec)) (s:List UInt8):(rdM d t s).1.length≤4096∧∀ r∈(rdM d t s).1,r.length≤1024:=by
 unfold rdM
 split
 ·simp
 ·split
  ·simp
  ·exact memM_bd d t _ _
theorem cntGo_bd (d : Dcb) (t : List (List Rec)) : ∀ (L : List RE) (o : List ME), (∀ m ∈ o, m.recs.length ≤ 4096 ∧ ∀ r ∈ m.recs, r.length ≤ 1024) → (yv7 d t L o).2.1.length ≤ o.length + L.length ∧ ∀ m ∈ (yv7 d t L o).2.1, m.recs.length ≤ 4096 ∧ ∀ r ∈ m.recs, r.length ≤ 1024
 | [],o,h=>⟨by simp [yv7],h⟩
 | e :: L,o,h=>by
  rw [yv7]
  split
  ·have:=cntGo_bd d t L (o++[⟨nmM e.key,(memM d t e.trk e.rn).1⟩]) fun m hm=>by
    rcases List.mem_append.1 hm with hm | hm
    ·exact h m hm
    ·rw [List.mem_singleton.1 hm];exact memM_bd d t _ _
   refine ⟨by have:=this.1;simp at this ⊢;omega,this.2⟩
  ·simp
theorem cntM_bd (d:Dcb) (t:List (List Rec)):(cntM d t).2.1.length≤1344∧∀ m∈(cntM d t).2.1,m.recs.length≤4096∧∀ r∈m.recs,r.length≤1024:=by
 unfold cntM
 cases he:uq9 t with
 | none=>simp
 | some p =>
  obtain ⟨L,n⟩:=p
  have:=wt8 he
  simp only
  split
  ·simp
  ·have h:=cntGo_bd d t L [] (by simp)
   exact ⟨by have:=h.1;simp at this;omega,h.2⟩
@[simp] theorem dpL_meL (L:List ME):AV.dpL (meL L)=meL L:=by induction L <;> simp_all [meL,meA,AV.dpL,AV.dp,strB]
def dcbV (d:Dcb):List Value:=[.int .i64 d.org,.int .i64 d.fmt,.bool d.blk,.bool d.asa,.int .i64 d.lrecl,.int .i64 d.size,.int .i64 d.klen,.int .i64 d.kpos]
noncomputable def fs23:List Field:=(Tryz.prog.fieldsOf 23).toList
theorem dcb_eq (d:Dcb):eqFv fs23 (dcbV d) (dcbV d)=true:=by
 have hf:fs23.map (fun f=>f.offset)=[0,1,2,3,4,5,6,7]:=by kernel_rfl
 have key:∀ us vs:List Value,eqFv fs23 us vs=(fs23.map fun f=>f.offset).all fun i=>pv (us.getD i undef) (vs.getD i undef):=by
  intro us vs;simp [eqFv,List.all_map,Function.comp_def]
 rw [key,hf]
 simp [dcbV,pv]
theorem dcb_ok (d:Dcb):okF Tryz.prog fs23 (dcbV d) (dcbV d)=true:=by kernel_rfl
theorem yl6 (d:Dcb) (t:List (List Rec)) (ht:TIn t) (hraw:(rawE (dirT t).flatten).length≤1000000) (hf:t.flatten.length≤1800000) (s:List UInt8) (hs:s.length≤1000000000):Sound Tryz.prog 6 [dcbA d,.lst .any 1 (arL t),strB s] (.v (.bool true)):=by
 have hrd:=wb6 d ht hf s hs
 have hrr:=qd7 d ht hraw hf s hs
 have hct:=Content_sound d ht hf
 have hrc:=yk6 d ht hraw hf
 obtain ⟨b1,b2⟩:=rdM_bd d t s
 obtain ⟨b3,b4⟩:=cntM_bd d t
 have hsr:=qc8 (rdM d t s).1 (rdM d t s).1 (by omega) (fun x hx=>by have:=b2 x hx;omega)
 have hsm:=smem_sound (cntM d t).2.1 (cntM d t).2.1 (by omega) (fun m hm=>⟨by have:=(b4 m hm).1;omega,fun x hx=>by have:=(b4 m hm).2 x hx;omega⟩)
 rw [decide_eq_true rfl] at hsr hsm
 obtain ⟨R,hR⟩:∃ R,rdM d t s=R:=⟨_,rfl⟩
 obtain ⟨C,hC⟩:∃ C,cntM d t=C:=⟨_,rfl⟩
 rw [hR] at hrd hrr hsr
 rw [hC] at hct hrc hsm
 obtain ⟨cd,cm,ce⟩:=C
 simp only [dcbA,resB,cntA,wv9] at hrd hrr hct hrc
 refine yc9 Tryz.func6 rfl (by decide +kernel) (by simp [Tryz.f6]) (by simp [AV.rfL,AV.rf,strB]) (by simp [AV.tlL,AV.tl,strB]) (rs:=[.tmp 6]) rfl ?_
 rw [show Tryz.f6.ntmps=77 from rfl]
 obtain ⟨S,hS⟩:∃ S,strB s=S:=⟨_,rfl⟩
 have hSv:∃ u,S=.v (.string u):=⟨_,hS.symm⟩
 rw [hS] at hrd hrr ⊢
 obtain ⟨u,rfl⟩:=hSv
 refine yr9 [1,2,3] (by simp;rfl) ?_
 refine W_rK [1,2,3,7,8] ?_
 refine yq9 3 (by simp;rfl) rfl ?_
 refine yf9 (by simp) (by first | (simp;done) | (simp;rfl)) hrd (by simp;rfl) ?_
 refine yw9 (by simp;rfl) ?_
 refine W_rK [1,3,7,8,9,10] ?_
 refine yq9 3 (by simp;rfl) rfl ?_
 refine yf9 (by simp) (by first | (simp;done) | (simp;rfl)) hrr (by simp;rfl) ?_
 refine yw9 (by simp;rfl) ?_
 refine W_rK [1,3,7,8,9,10,11,12] ?_
 refine yq9 2 (by simp;rfl) rfl ?_
 refine yf9 (by simp) (by first | (simp;done) | (simp;rfl)) hct (by simp;rfl) ?_
 refine yw9 (by simp [yk9];rfl) ?_
 refine W_rK [7,8,9,10,11,12,13,14] ?_
 refine yq9 2 (by simp;rfl) rfl ?_
 refine yf9 (by simp) (by first | (simp;done) | (simp;rfl)) hrc (by simp;rfl) ?_
 refine yw9 (by simp [yk9];rfl) ?_
 refine W_rHK [6] ?_
 refine runH_A 18 _ _ ?_
 refine yq9 6 (by simp;rfl) rfl ?_
 refine yf9 (by simp) (by first | (simp;done) | (simp;rfl)) hsr (by simp;rfl) ?_
 refine yq9 6 (by simp;rfl) rfl ?_
 refine yw9 (by simp;rfl) ?_
 refine runH_W (by simp) ?_
 refine stepW_eqAgg (t:=23) (k1:=56) (k2:=58) (us:=dcbV cd) (vs:=dcbV cd) (fs:=fs23) rfl (by simp [dcbV]) (by simp [dcbV]) (by kernel_rfl) (by kernel_rfl) (by kernel_rfl) rfl (dcb_ok cd) ?_
 rw [dcb_eq]
 refine ⟨_,by simp;rfl,?_⟩
 refine runH_A 18 _ _ ?_
 refine yq9 6 (by simp;rfl) rfl ?_
 refine yf9 (by simp) (by first | (simp;done) | (simp;rfl)) hsm (by simp;rfl) ?_
 refine yq9 6 (by simp;rfl) rfl ?_
 refine yq9 2 (by simp;rfl) rfl ?_
 refine yf9 (by simp) (by first | (simp;done) | (simp;rfl)) vq6 (by simp;rfl) ?_
 refine yw9 (by simp;rfl) ?_
 refine yj9 ?_
 repeat (first | refine yp9 ?_ | refine ys9 ?_)
 simp [retQ,zg9]
end Go.AM
namespace Go.AM
open Go.RowKit Go.Proofs
set_option linter.unusedSimpArgs false
set_option linter.unusedVariables false
set_option maxHeartbeats 1000000
set_option maxRecDepth 20000
section
variable {P : Program}
theorem ty_slice {n:Nat} {t e:TypeId} {x:AV} (hu:P.underlying t=some (.slice e)) (h:TyV P (n+1) t x):∃ o l,x=.lst o (P.cellsOf e) l∧l.length≤maxLen∧l.length * P.bytesOf e≤140737488351232∧∀ y∈l,TyV P n e y:=by
 rcases h with ⟨h1,_⟩ | ⟨_,h⟩
 ·simp [isSt,hu] at h1
 ·simp only [TyC,hu] at h
  obtain ⟨o,l,hl,hmax,_,_,hx⟩:=h
  simp only [List.cons.injEq,and_true] at hl
  exact ⟨o,l,hl,hmax.1,hmax.2,hx⟩
theorem xj7 {β : Type} {F : β → AV} {Q : β → Prop} : ∀ {l : List AV}, (∀ y ∈ l, ∃ b, y.dp = F b ∧ Q b) → ∃ bs : List β, AV.dpL l = bs.map F ∧ bs.length = l.length ∧ ∀ b ∈ bs, Q b
 | [],_=>⟨[],rfl,rfl,by simp⟩
 | y :: l,h=>by
  obtain ⟨b,h1,h2⟩:=h y (by simp)
  obtain ⟨bs,k1,k2,k3⟩:=xj7 (l:=l) fun y hy=>h y (by simp [hy])
  refine ⟨b :: bs,by simp [AV.dpL,h1,k1],by simp [k2],fun c hc=>?_⟩
  rcases List.mem_cons.1 hc with rfl | hc
  ·exact h2
  ·exact k3 c hc
end
theorem un_3:Tryz.prog.underlying 3=some (.int .i64):=by kernel_rfl
theorem un_4:Tryz.prog.underlying 4=some .bool:=by kernel_rfl
theorem un_5:Tryz.prog.underlying 5=some (.int .u8):=by kernel_rfl
theorem un_47:Tryz.prog.underlying 90=some (.slice 5):=by kernel_rfl
theorem ce5:Tryz.prog.cellsOf 5=1:=by kernel_rfl
theorem ce23:Tryz.prog.cellsOf 23=8:=by kernel_rfl
theorem fl23:flds Tryz.prog 23=some [(3,0,1),(3,1,1),(4,2,1),(4,3,1),(3,4,1),(3,5,1),(3,6,1),(3,7,1)]:=by kernel_rfl
theorem min64:IntKind.i64.min=-9223372036854775808:=by decide +kernel
theorem max64:IntKind.i64.max=9223372036854775807:=by decide +kernel
def dcbOk (d:Dcb):Prop:=∀ x∈[d.org,d.fmt,d.lrecl,d.size,d.klen,d.kpos],-9223372036854775808≤x∧x≤9223372036854775807
theorem ty_dcb {n:Nat} {x:AV} (h:TyV Tryz.prog (n+3) 23 x):∃ d:Dcb,x.dp=dcbA d∧dcbOk d:=by
 obtain ⟨ys,rfl,hl,hf⟩:=ty_struct fl23 ce23 h
 match ys,hl,hf with
 | [a,b,c,d,e,f,g,i],_,hf =>
  obtain ⟨m0,rfl,p0,q0⟩:=up7 un_3 (wn8 (by kernel_rfl) (hf (3,0,1) (by simp)))
  obtain ⟨m1,rfl,p1,q1⟩:=up7 un_3 (wn8 (by kernel_rfl) (hf (3,1,1) (by simp)))
  obtain ⟨b2,rfl⟩:=ty_bool un_4 (wn8 (by kernel_rfl) (hf (4,2,1) (by simp)))
  obtain ⟨b3,rfl⟩:=ty_bool un_4 (wn8 (by kernel_rfl) (hf (4,3,1) (by simp)))
  obtain ⟨m4,rfl,p4,q4⟩:=up7 un_3 (wn8 (by kernel_rfl) (hf (3,4,1) (by simp)))
  obtain ⟨m5,rfl,p5,q5⟩:=up7 un_3 (wn8 (by kernel_rfl) (hf (3,5,1) (by simp)))
  obtain ⟨m6,rfl,p6,q6⟩:=up7 un_3 (wn8 (by kernel_rfl) (hf (3,6,1) (by simp)))
  obtain ⟨m7,rfl,p7,q7⟩:=up7 un_3 (wn8 (by kernel_rfl) (hf (3,7,1) (by simp)))
  rw [min64] at p0 p1 p4 p5 p6 p7
  rw [max64] at q0 q1 q4 q5 q6 q7
  refine ⟨⟨m0,m1,b2,b3,m4,m5,m6,m7⟩,by simp [AV.dp,AV.dpL],?_⟩
  intro x hx
  simp at hx
  rcases hx with rfl | rfl | rfl | rfl | rfl | rfl
  ·exact ⟨p0,q0⟩
  ·exact ⟨p1,q1⟩
  ·exact ⟨p4,q4⟩
  ·exact ⟨p5,q5⟩
  ·exact ⟨p6,q6⟩
  ·exact ⟨p7,q7⟩
end Go.AM
namespace Go.AM
open Go.RowKit Go.Proofs
set_option linter.unusedSimpArgs false
set_option linter.unusedVariables false
set_option maxHeartbeats 1000000
set_option maxRecDepth 20000
def recOk (r:Rec):Prop:=-9223372036854775808≤r.R∧r.R≤9223372036854775807∧r.key.length≤140737488351232∧r.data.length≤140737488351232
theorem un_26:Tryz.prog.underlying 24=some (.slice 80):=by kernel_rfl
theorem un_46:Tryz.prog.underlying 80=some (.slice 100):=by kernel_rfl
theorem ce46:Tryz.prog.cellsOf 80=1:=by kernel_rfl
theorem ce49:Tryz.prog.cellsOf 100=4:=by kernel_rfl
theorem be5:Tryz.prog.bytesOf 5=1:=by kernel_rfl
theorem fl49:flds Tryz.prog 100=some [(3,0,1),(90,1,1),(90,2,1),(4,3,1)]:=by kernel_rfl
theorem ty_rec {n:Nat} {x:AV} (h:TyV Tryz.prog (n+3) 100 x):∃ r:Rec,x.dp=recA r∧recOk r:=by
 obtain ⟨ys,rfl,hl,hf⟩:=ty_struct fl49 ce49 h
 match ys,hl,hf with
 | [a,b,c,d],_,hf =>
  obtain ⟨m,rfl,h1,h2⟩:=up7 un_3 (wn8 (by kernel_rfl) (hf (3,0,1) (by simp)))
  obtain ⟨o,l,rfl,_,h3⟩:=ty_bytes un_47 un_5 ce5 (wn8 (by kernel_rfl) (hf (90,1,1) (by simp)))
  obtain ⟨o',l',rfl,_,h4⟩:=ty_bytes un_47 un_5 ce5 (wn8 (by kernel_rfl) (hf (90,2,1) (by simp)))
  obtain ⟨q,rfl⟩:=ty_bool un_4 (wn8 (by kernel_rfl) (hf (4,3,1) (by simp)))
  rw [min64] at h1
  rw [max64] at h2
  rw [be5,Nat.mul_one] at h3 h4
  refine ⟨⟨m,l,l',q⟩,?_,h1,h2,h3,h4⟩
  have e:∀ l:List UInt8,AV.dpL (l.map fun b:UInt8=>AV.v (.int .u8 b.toNat))=byL l:=fun l=>dpL_byL l
  simp [AV.dp,AV.dpL,e,recA]
theorem ty_track {n:Nat} {x:AV} (h:TyV Tryz.prog (n+4) 80 x):∃ t:List Rec,x.dp=.lst .any 4 (trL t)∧t.length≤maxLen∧∀ r∈t,recOk r:=by
 obtain ⟨o,l,rfl,hl,_,hy⟩:=ty_slice un_46 h
 obtain ⟨bs,h1,h2,h3⟩:=xj7 (F:=recA) (Q:=recOk) fun y hm=>ty_rec (hy y hm)
 exact ⟨bs,by simp only [AV.dp,h1,ce49];rfl,by rw [h2];exact hl,h3⟩
theorem ty_area {n:Nat} {x:AV} (h:TyV Tryz.prog (n+5) 24 x):∃ a:List (List Rec),x.dp=.lst .any 1 (arL a)∧a.length≤maxLen∧∀ t∈a,t.length≤maxLen∧∀ r∈t,recOk r:=by
 obtain ⟨o,l,rfl,hl,_,hy⟩:=ty_slice un_26 h
 obtain ⟨bs,h1,h2,h3⟩:=xj7 (F:=fun t=>AV.lst .any 4 (trL t)) (Q:=fun t=>t.length≤maxLen∧∀ r∈t,recOk r) fun y hm=>ty_track (hy y hm)
 exact ⟨bs,by simp only [AV.dp,h1,ce46];rfl,by rw [h2];exact hl,h3⟩
end Go.AM
namespace Go.AM
open Go.RowKit Go.Proofs
set_option linter.unusedSimpArgs false
set_option linter.unusedVariables false
set_option maxHeartbeats 2000000
set_option maxRecDepth 20000
theorem un_9:Tryz.prog.underlying 9=some .string:=by kernel_rfl
theorem ty_string24 {n:Nat} {t:TypeId} {x:AV} (hu:Tryz.prog.underlying t=some .string) (h:TyV Tryz.prog (n+1) t x):∃ l:List UInt8,x=strB l:=by
 rcases h with ⟨h1,_⟩ | ⟨_,h⟩
 ·simp [isSt,hu] at h1
 ·simp only [TyC,hu] at h
  obtain ⟨s,hs,hl⟩:=h
  simp only [List.cons.injEq,and_true] at hs
  exact ⟨s.data.toList,by rw [hs];simp [strB]⟩
theorem blk_byL (l:List UInt8):AV.blkL (byL l)=l.length:=by induction l <;> simp_all [zc9,AV.blkL,AV.blk];omega
def recN (r:Rec):Nat:=4+r.key.length+r.data.length
theorem blk_trL : ∀ t : List Rec, AV.blkL (trL t) = (t.map recN).sum
 | []=>rfl
 | r :: t=>by
  rw [jq8,AV.blkL,blk_trL t]
  simp only [recA,AV.blk,AV.blkL,blk_byL,List.map_cons,List.sum_cons,recN]
  omega
theorem blk_arL : ∀ t : List (List Rec), AV.blkL (arL t) = t.length + (t.flatten.map recN).sum
 | []=>rfl
 | l :: t=>by
  rw [arL_cons,AV.blkL,AV.blk,blk_trL,blk_arL t]
  simp only [List.length_cons,List.flatten_cons,List.map_append,List.sum_append]
  omega
theorem sum_mem {f : Rec → Nat} : ∀ {l : List Rec} {r : Rec}, r ∈ l → f r ≤ (l.map f).sum
 | q :: l,r,h=>by
  simp only [List.map_cons,List.sum_cons]
  rcases List.mem_cons.1 h with rfl | h
  ·omega
  ·have:=sum_mem (f:=f) h;omega
theorem sum_len : ∀ l : List Rec, 4 * l.length ≤ (l.map recN).sum
 | []=>by simp
 | r :: l=>by
  have:=sum_len l
  simp only [List.map_cons,List.sum_cons,List.length_cons,recN]
  omega
theorem raw_sum : ∀ l : List Rec, (rawE l).length ≤ (l.map recN).sum
 | []=>by simp [rawE]
 | r :: l=>by
  have:=raw_sum l
  have h1:(zk8 r.data).length≤r.data.length:=by
   unfold zk8 limE
   simp
   omega
  have e:rawE (r :: l)=zk8 r.data++rawE l:=by simp [rawE]
  rw [e]
  simp only [List.map_cons,List.sum_cons,List.length_append,recN]
  omega
theorem blk_area {t:List (List Rec)} {N:Nat} (h:AV.blkL (arL t)≤N) (hN:N≤1048576):TIn t∧t.flatten.length≤262144∧(rawE (dirT t).flatten).length≤1000000∧t.length≤1048576∧∀ l∈t,∀ r∈l,r.key.length≤1048576∧r.data.length≤1048576:=by
 rw [blk_arL] at h
 have h1:=sum_len t.flatten
 have h2:(dirT t).flatten.length≤t.flatten.length:=by
  conv=>rhs;rw [jt9 t]
  rw [List.flatten_append,List.length_append]
  omega
 have h3:((dirT t).flatten.map recN).sum≤(t.flatten.map recN).sum:=by
  conv=>rhs;rw [jt9 t]
  rw [List.flatten_append,List.map_append,List.sum_append]
  omega
 have h4:=raw_sum (dirT t).flatten
 have h5:∀ l∈t,∀ r∈l,r.key.length≤1048576∧r.data.length≤1048576:=by
  intro l hl r hr
  have:=sum_mem (f:=recN) (List.mem_flatten.2 ⟨l,hl,hr⟩)
  have hq:recN r=4+r.key.length+r.data.length:=rfl
  omega
 have h6:∀ l∈t,l.length≤262144:=by
  intro l hl
  have:l.length≤t.flatten.length:=by
   obtain ⟨a,b,rfl⟩:=List.append_of_mem hl
   simp
   omega
  omega
 have h7:∀ l:List Rec,12 * (rawE l).length≤(l.map recN).sum:=by
  intro l
  induction l with
  | nil=>simp [rawE]
  | cons r l ih =>
   have e:rawE (r :: l)=zk8 r.data++rawE l:=by simp [rawE]
   have h1:12 * (zk8 r.data).length≤r.data.length:=by
    unfold zk8 limE
    simp
    omega
   rw [e]
   simp only [List.map_cons,List.sum_cons,List.length_append,recN]
   omega
 have h8:=h7 (dirT t).flatten
 exact ⟨⟨by omega,fun l hl=>by have:=h6 l hl;omega,by omega,fun l hl r hr=>by have:=h5 l hl r hr;omega⟩,by omega,by omega,by omega,h5⟩
theorem blk_of_dp {x y:AV} (h:x.dp=y):AV.blk x=AV.blk y:=by rw [← h,blk_dp]
end Go.AM
