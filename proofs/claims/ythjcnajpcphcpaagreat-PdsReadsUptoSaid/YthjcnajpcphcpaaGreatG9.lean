/- Parts of the walk: C24S R31MA C24T C24XE C24WH C24WI C24WJ R23I. -/
import Derived.Test.YthjcnajpcphcpaaGreatG8
namespace Go.AM
open Go.RowKit Go.Proofs
set_option linter.unusedSimpArgs false
set_option linter.unusedVariables false
set_option maxHeartbeats 8000000
set_option maxRecDepth 20000
theorem zl7 {t:List (List Rec)} {L:List RE} {n:Nat} (h:uq9 t=some (L,n)):qk9 t=(L,n,true):=by
 unfold uq9 at h
 split at h
 ·rename_i hc
  obtain ⟨c1,c2,c3,c4,c5,c6⟩:=hc
  simp only [Option.some.injEq,Prod.mk.injEq] at h
  obtain ⟨rfl,rfl⟩:=h
  have hok:kt9 t=true:=by
   rw [kt9,decide_eq_true c1,decide_eq_true c2,decide_eq_true c3,decide_eq_true c4,c5]
   rfl
  rw [qk9,hok,if_pos rfl,decide_eq_true c6]
 ·cases h
theorem zc7 {t:List (List Rec)} (h:uq9 t=none):(qk9 t).2.2=false:=by
 unfold uq9 at h
 split at h
 ·cases h
 ·rename_i hc
  unfold qk9
  split
  ·rename_i hok
   simp only [kt9,Bool.and_eq_true,decide_eq_true_eq] at hok
   obtain ⟨c1,c2,c3,c4,c5⟩:=hok
   exact decide_eq_false fun c6=>hc ⟨c1,c2,c3,c4,c5,c6⟩
  ·rfl
structure TIn (t:List (List Rec)):Prop where
 n:t.length≤100000000
 rows:∀ l∈t,l.length≤100000000
 f:(dirT t).flatten.length≤40000000
 d:∀ l∈t,∀ r∈l,r.key.length≤1000000000∧r.data.length≤1000000000
theorem qm8 {t:List (List Rec)} (ht:TIn t):Sound Tryz.prog 29 [.lst .any 1 (arL t)] (.tup [.agg [.lst .any 10 (reL (qk9 t).1),.v (.int .i64 ((qk9 t).2.1:Nat))],.v (.bool (qk9 t).2.2)]):=by
 have:=(read_sound t ht.n ht.rows ht.f (fun l hl r hr=>(ht.d l hl r hr).2)).weakR
 simpa using this
def ys7 (t:List (List Rec)) (s:List UInt8):Option RE:=match uq9 t with | some (L,_)=>if symM s then ym6 L (padK s) else none | none=>none
theorem wt8 {t:List (List Rec)} {L:List RE} {n:Nat} (h:uq9 t=some (L,n)):L.length≤1344∧n≤64∧(∀ e∈L,e.key.length=8)∧L.Pairwise ltE:=by
 have ho:=zw8 h
 have h1:=ho.len
 have h2:=ho.n64
 exact ⟨by omega,h2,fun e he=>(ho.ok e he).1,(ul8.1 ho.ord).2⟩
def strL (L:List (List UInt8)):List AV:=L.map strB
@[simp] theorem strL_length (L:List (List UInt8)):(strL L).length=L.length:=by simp [strL]
theorem vm8 {P : Program} {tk : Nat} (h : List AObj) : ∀ {xs : List AV}, vals xs → frzL P tk h xs = some (xs, h)
 | [],_=>rfl
 | y :: xs,hv=>by
  rw [frzL]
  rcases hv y List.mem_cons_self with ⟨v,rfl⟩ | rfl <;> simp [frzV,vm8 h (fun z hz=>hv z (List.mem_cons_of_mem _ hz))]
def xj6 (t:List (List Rec)):List (List UInt8) × Int:=match uq9 t with | some (L,_)=>(L.map fun e=>nmM e.key,0) | none=>([],5)
theorem Names_sound {t:List (List Rec)} (ht:TIn t):Sound Tryz.prog 18 [.lst .any 1 (arL t)] (.tup [.lst (.tip 9 1) 1 (strL (xj6 t).1),.v (.int .i64 (xj6 t).2)]):=by
 refine zn9 Tryz.func18 rfl (by decide +kernel) (by simp [Tryz.f18]) (by simp [AV.rfL,AV.rf]) (by simp [AV.tlL,AV.tl]) (rs:=[.tmp 2,.tmp 3]) rfl ?_
 rw [show Tryz.f18.ntmps=30 from rfl]
 have hr:=qm8 ht
 refine yr9 [0,2,3] (by simp;rfl) ?_
 cases he:uq9 t with
 | none =>
  rw [zc7 he] at hr
  obtain ⟨p,hp⟩:∃ p,qk9 t=p:=⟨_,rfl⟩
  rw [hp] at hr
  refine W_rK [2,3,4,5] ?_
  refine yq9 1 (by simp;rfl) rfl ?_
  refine yf9 (by simp) (by first | (simp;done) | (simp;rfl)) hr (by simp;rfl) ?_
  refine yw9 (by simp [yk9];rfl) ?_
  refine yh9 ?_
  refine W_cT [15] (by simp;rfl) rfl ?_
  refine yr9 [2,3] (by simp;rfl) ?_
  refine yj9 ?_
  repeat (first | refine yp9 ?_ | refine ys9 ?_)
  exact ⟨.tup [.lst .nil 1 [],.v (.int .i64 5)],by simp [retQ],by rw [xj6,he];exact AV.Le.tup2 (AV.Le.nil (by decide +kernel)) (.refl _)⟩
 | some p =>
  obtain ⟨L,n⟩:=p
  rw [zl7 he] at hr
  obtain ⟨hLl,hn,h8,hpw⟩:=wt8 he
  refine W_rK [4,5] ?_
  refine yq9 1 (by simp;rfl) rfl ?_
  refine yf9 (by simp) (by first | (simp;done) | (simp;rfl)) hr (by simp;rfl) ?_
  refine yw9 (by simp [yk9];rfl) ?_
  refine yh9 ?_
  refine W_cF [4,15] (by simp;rfl) rfl ?_
  refine yg9 ?_
  repeat (first | refine on_norm ?_ | refine in_norm ?_)
  refine yr9 [4,6] (by simp;rfl) ?_
  refine yh9 ?_
  refine yr9 [6,17,18,19] (by simp;rfl) ?_
  refine yl9 ?_
  refine zf9 (fun q σ=>∃ (i:Nat) (fo:Fl),q=L.length - i∧i≤L.length∧((fo=.nil∧i=0)∨fo=.tip 9 55)∧σ=⟨30,[(6,.lst fo 1 (strL ((L.take i).map fun e=>nmM e.key))),(17,.lst .any 10 (reL L)),(18,.v (.int .i64 (L.length:Nat))),(19,.v (.int .i64 (i:Nat)))],[.cells 70 [.lst .any 10 (reL L),.v (.int .i64 (n:Nat))]]⟩) (k:=L.length) ⟨0,.nil,rfl,by omega,.inl ⟨rfl,rfl⟩,by simp [strL]⟩ ?_
  rintro q σ ⟨i,fo,rfl,hi,hfo,rfl⟩
  have hkf:∀ T:Nat,T≠55→∀ xs,(AV.lst fo 1 xs).kill T=.lst fo 1 xs:=by
   intro T hT xs
   rcases hfo with ⟨rfl,_⟩ | rfl
   ·simp [AV.kill]
   ·simp [AV.kill,hT.symm]
  by_cases c:i < L.length
  ·have ci : (i : Int) < L.length := by omega
   have wi:=w64 (n:=(i:Int)+1) (by omega) (by omega)
   obtain ⟨e,hei⟩:∃ e,L[i]?=some e:=⟨_,List.getElem?_eq_getElem c⟩
   have hge:L[i]'c=e:=by rw [List.getElem?_eq_getElem c] at hei;exact Option.some.inj hei
   have he8:=h8 e (List.mem_of_getElem? hei)
   have hnm:=xw7 e he8
   simp only [reA] at hnm
   have htk10:List.take 10 (reC e)=reC e:=List.take_of_length_le (by rw [zm9 he8];omega)
   have htk:(L.take (i+1)).map (fun e=>nmM e.key)=(L.take i).map (fun e=>nmM e.key)++[nmM e.key]:=by rw [List.take_add_one,hei];simp
   have hjl:((L.take i).map (fun e=>nmM e.key)).length=i:=by rw [List.length_map,List.length_take];omega
   obtain ⟨W,hW⟩:∃ W,(L.take i).map (fun e=>nmM e.key)=W:=⟨_,rfl⟩
   rw [hW] at htk hjl ⊢
   have htl:strL W++[strB (nmM e.key)]=strL (W++[nmM e.key]):=by simp [strL]
   rw [← htk] at htl
   obtain ⟨S,hS⟩:∃ S,strB (nmM e.key)=S:=⟨_,rfl⟩
   have hSv:∃ u,S=.v u:=⟨_,hS.symm⟩
   rw [hS] at hnm htl
   obtain ⟨u,rfl⟩:=hSv
   have hu1:u.oneCell'=true:=by have h':=hS;simp only [strB,AV.v.injEq] at h';rw [← h'];rfl
   have b3:(i+1) * 16≤140737488355328:=by omega
   have b4:16 * (i+1)≤140737488355328:=by omega
   refine yr9 [6,17,18,19,20] (by simp [↓hkf,c,ci];rfl) ?_
   refine yh9 ?_
   refine yt9 (t:=true) (by simp [c,ci]) (fun h=>?_) (fun h=>by simp at h)
   refine yg9 ?_
   refine yh9 ?_
   refine yl9 ?_
   refine yr9 [6,17,18,19,8] (by simp [↓hkf,c,ci,hge,reA,he8,yk9,htk10];rfl) ?_
   rcases hfo with ⟨rfl,h0⟩ | rfl
   ·subst h0
    have hW0:W=[]:=List.eq_nil_of_length_eq_zero hjl
    subst hW0
    refine W_rE [6,17,18,19] ?_
    refine yq9 2 (by simp [he8,htk10];rfl) rfl ?_
    refine yf9 (by simp) (by first | (simp [htk10,vm8 _ (vg9 e)];done) | (simp [htk10,vm8 _ (vg9 e)];rfl)) hnm (by simp [strL];rfl) ?_
    refine yw9 (by simp [catK,AV.cellsK,AV.kone,AV.koneL,hu1];rfl) ?_
    repeat (first | refine on_norm ?_ | refine in_norm ?_)
    refine vp9 1 (by simp) (by simp) (by simp [zj9,AV.under,AV.underL]) (by simp [yn9,AObj.under,AV.under,AV.underL]) ?_
    refine zr9 [6,17,18,19] (by simp [show IntKind.i64.wrap 1=1 from by decide];rfl) ?_
    exact ⟨_,by omega,0+1,.tip 9 55,rfl,by omega,.inr rfl,by rw [← htl];simp [strL]⟩
   ·refine W_rE [6,17,18,19] ?_
    refine yq9 2 (by simp [he8,htk10];rfl) rfl ?_
    refine yf9 (by simp) (by first | (simp [htk10,vm8 _ (vg9 e)];done) | (simp [htk10,vm8 _ (vg9 e)];rfl)) hnm (by simp;rfl) ?_
    refine yw9 (by simp [catK,AV.cellsK,AV.kone,AV.koneL,hu1,hjl,b3,b4,htl];rfl) ?_
    repeat (first | refine on_norm ?_ | refine in_norm ?_)
    refine vp9 1 (by simp) (by simp) (by simp [zj9,AV.under,AV.underL]) (by simp [yn9,AObj.under,AV.under,AV.underL]) ?_
    refine zr9 [6,17,18,19] (by simp [wi];rfl) ?_
    exact ⟨_,by omega,i+1,.tip 9 55,rfl,by omega,.inr rfl,by simp⟩
  ·have hie:i=L.length:=by omega
   subst hie
   refine yr9 [6,20] (by simp [↓hkf];rfl) ?_
   refine yh9 ?_
   refine yt9 rfl (fun h=>by simp at h) (fun h=>?_)
   refine zs9 ?_
   repeat (first | refine on_exit ?_ | refine in_exit ?_)
   refine yr9 [2,3] (by simp [↓hkf];rfl) ?_
   refine yj9 ?_
   repeat (first | refine yp9 ?_ | refine ys9 ?_)
   rw [xj6,he]
   refine ⟨.tup [.lst fo 1 (strL (L.map fun e=>nmM e.key)),.v (.int .i64 0)],by rcases hfo with ⟨rfl,_⟩ | rfl <;> simp [retQ,AV.rf,AV.rfL],AV.Le.tup2 ?_ (.refl _)⟩
   rcases hfo with ⟨rfl,h0⟩ | rfl
   ·rw [show L=[] from List.eq_nil_of_length_eq_zero h0];exact AV.Le.nil (by decide +kernel)
   ·exact AV.Le.norm fun T=>by simp [AV.norm]
set_option maxRecDepth 20000
theorem chI_at:∀ i:Nat,i < 95→chI (vk9.getD i 0)=i:=by decide +kernel
theorem chI_no (b:UInt8) (h:∀ j:Nat,j < 95→vk9.getD j 0≠b):chI b < 0:=by
 have hd:∀ n:Nat,n < 256→chI (UInt8.ofNat n) < 0∨((chI (UInt8.ofNat n)).toNat < 95∧vk9.getD (chI (UInt8.ofNat n)).toNat 0=UInt8.ofNat n):=by decide +kernel
 have h1:=hd b.toNat b.toNat_lt
 rw [UInt8.ofNat_toNat] at h1
 rcases h1 with h1 | ⟨h1,h2⟩
 ·exact h1
 ·exact absurd h2 (h _ h1)
theorem rchar_sound (b:UInt8):Sound Tryz.prog 139 [.v (.int .u8 b.toNat)] (.tup [.v (.int .u8 (chM b).1.toNat),.v (.bool (chM b).2)]):=by
 refine yc9 Tryz.func139 rfl (by decide +kernel) (by simp [Tryz.f139]) rfl rfl (rs:=[.tmp 2,.tmp 3]) rfl ?_
 rw [show Tryz.f139.ntmps=22 from rfl]
 have hc95:vk9.length=95:=by decide +kernel
 have hat:=chI_at
 have hno:=chI_no b
 have htb:=uf7
 obtain ⟨L,hL⟩:∃ L,vk9=L:=⟨_,rfl⟩
 rw [hL] at hc95 hat hno htb
 refine yr9 [0] (by simp;rfl) ?_
 refine W_rK [0,4] ?_
 refine yf9 (by simp) (by first | (simp;done) | (simp;rfl)) htb (by simp;rfl) ?_
 refine yw9 (by simp;rfl) ?_
 refine yh9 ?_
 refine yr9 [0,4,5] (by simp;rfl) ?_
 refine yl9 ?_
 refine zf9 (fun k s=>∃ i:Nat,k=95 - i∧i≤95∧(∀ j:Nat,j < i→L.getD j 0≠b)∧s=⟨22,[(0,.v (.int .u8 b.toNat)),(4,.lst (.tip 5 13) 1 (byL L)),(5,.v (.int .i64 (i:Nat)))],[]⟩) (k:=95) ⟨0,rfl,by omega,by intro j hj;omega,by simp⟩ ?_
 rintro k s ⟨i,rfl,hi,hne,rfl⟩
 refine yh9 ?_
 by_cases c:i < 95
 ·have cL : i < L.length := by omega
  have cLi:(i:Int) < L.length:=by omega
  obtain ⟨d,hd⟩:∃ d,L.getD i 0=d:=⟨_,rfl⟩
  have hd2:L[i]'cL=d:=by rw [← hd,List.getD_eq_getElem?_getD,List.getElem?_eq_getElem cL];rfl
  have wi:=w64 (n:=(i:Int)+1) (by omega) (by omega)
  refine W_cT [0,4,5,10] (by simp [cL,cLi];rfl) rfl ?_
  refine yg9 ?_
  refine yh9 ?_
  refine yl9 ?_
  by_cases e:d=b
  ·have hci : chI b = (i : Nat) := by rw [← e, ← hd]; exact hat i c
   have hM:chM b=(UInt8.ofNat (32+i),true):=by rw [chM,if_neg (by omega),hci];rfl
   have w1:IntKind.i64.wrap (32+(i:Int))=32+(i:Int):=w64 (by omega) (by omega)
   have w2:IntKind.u8.wrap (32+(i:Int))=((UInt8.ofNat (32+i)).toNat:Nat):=by
    rw [UInt8.toNat_ofNat']
    simp only [IntKind.wrap_u8]
    omega
   refine yr9 [0,4,5,18] (by simp [cL,cLi,hd2,e];rfl) ?_
   refine yt9 (t:=true) (by simp) (fun h=>?_) (fun h=>by simp at h)
   refine yr9 [2,3] (by simp [w1,w2];rfl) ?_
   refine yj9 ?_
   repeat (first | refine yp9 ?_ | refine ys9 ?_)
   simp [retQ,hM]
  ·have e2:¬ d.toNat=b.toNat:=fun h=>e (UInt8.toNat_inj.1 h)
   have e3:¬ (d.toNat:Int)=b.toNat:=by omega
   refine yr9 [0,4,5,18] (by simp [cL,cLi,hd2];rfl) ?_
   refine yt9 (t:=false) (by simp [e,e2,e3]) (fun h=>by simp at h) (fun h=>?_)
   refine yg9 ?_
   refine zr9 [0,4,5] (by simp [wi];rfl) ?_
   refine ⟨_,by omega,i+1,rfl,by omega,?_,by simp⟩
   intro j hj
   by_cases hji:j=i
   ·rw [hji,hd];exact e
   ·exact hne j (by omega)
 have hie:i=95:=by omega
 subst hie
 have hM:chM b=(0,false):=by rw [chM,if_pos (hno hne)]
 refine W_cF [0,4,5,10] (by simp [hc95];rfl) rfl ?_
 refine zs9 ?_
 refine yr9 [2,3] (by simp;rfl) ?_
 refine yj9 ?_
 repeat (first | refine yp9 ?_ | refine ys9 ?_)
 simp [retQ,hM]
theorem jf8 (l:List UInt8) (hl:l.length≤100000):Sound Tryz.prog 122 [.lst .any 1 (byL l)] (strB (decM l)):=by
 refine yc9 Tryz.func122 rfl (by decide +kernel) (by simp [Tryz.f122]) rfl rfl (rs:=[.tmp 2]) rfl ?_
 rw [show Tryz.f122.ntmps=29 from rfl]
 refine yr9 [0] (by simp;rfl) ?_
 refine yr9 [0,3] (by simp;rfl) ?_
 refine yh9 ?_
 refine yr9 [0,3,4] (by simp;rfl) ?_
 refine yl9 ?_
 refine zf9 (fun k s => ∃ (i : Nat) (x : AV), k = l.length - i ∧ i ≤ l.length ∧ accB x (decM (l.take i)) ∧
  s=⟨29,[(0,.lst .any 1 (byL l)),(3,x),(4,.v (.int .i64 (i:Nat)))],[]⟩) (k:=l.length) ⟨0,_,rfl,by omega,.inl ⟨rfl,rfl⟩,by simp⟩ ?_
 rintro k s ⟨i,x,rfl,hi,hx,rfl⟩
 refine yh9 ?_
 by_cases c:i < l.length
 ·have ci : (i : Int) < l.length := by omega
  obtain ⟨b,hb⟩:∃ b,l[i]?=some b:=⟨_,List.getElem?_eq_getElem c⟩
  have hb2:l[i]'c=b:=by rw [List.getElem?_eq_getElem c] at hb;exact Option.some.inj hb
  have wi:=w64 (n:=(i:Int)+1) (by omega) (by omega)
  have htk:decM (l.take (i+1))=decM (l.take i)++[dec1 b]:=by
   rw [List.take_add_one,hb];simp [decM]
  have hlen:(decM (l.take i)).length=i:=by simp [decM];omega
  refine W_cT [0,3,4,10] (by simp [c,ci];rfl) rfl ?_
  refine yg9 ?_
  refine yh9 ?_
  refine yl9 ?_
  refine W_rK [0,3,4,5,6] ?_
  refine yq9 4 (by simp [c,ci,hb2];rfl) rfl ?_
  refine yf9 (by simp) (by first | (simp;done) | (simp;rfl)) (rchar_sound b) (by simp;rfl) ?_
  refine yw9 (by simp;rfl) ?_
  refine vm9 (fun σ=>σ=⟨29,[(0,.lst .any 1 (byL l)),(3,x),(4,.v (.int .i64 (i:Nat))),(5,.v (.int .u8 (dec1 b).toNat))],[]⟩∨σ=⟨29,[(0,.lst .any 1 (byL l)),(3,x),(4,.v (.int .i64 (i:Nat))),(5,.v (.int .u8 (dec1 b).toNat)),(22,.v (.bool false))],[]⟩) ?_ ?_
  ·cases hok:(chM b).2 with
   | false =>
    have hd:dec1 b=46:=by simp [dec1,hok]
    refine W_cT [0,3,4,5,22] (by simp [hok];rfl) rfl ?_
    refine zr9 [0,3,4,5] (by simp;rfl) ?_
    simp [zw9,hd]
   | true =>
    have hd:dec1 b=(chM b).1:=by simp [dec1,hok]
    refine W_cF [0,3,4,5,22] (by simp [hok];rfl) rfl ?_
    refine yg9 ?_
    simp [zw9,hd]
  rintro σ (rfl | rfl)
  all_goals
   have fin : ∃ k', k' < l.length - i ∧ ∃ (i' : Nat) (x : AV), k' = l.length - i' ∧ i' ≤ l.length ∧ accB x (decM (l.take i')) ∧
     (⟨29,[(0,.lst .any 1 (byL l)),(3,.lst (.tip 5 53) 1 (byL (decM (l.take i)++[dec1 b]))),(4,.v (.int .i64 ((i:Int)+1)))],[]⟩:St)=⟨29,[(0,.lst .any 1 (byL l)),(3,x),(4,.v (.int .i64 (i':Nat)))],[]⟩ :=
    ⟨_,by omega,i+1,_,rfl,by omega,by rw [htk];exact .inr rfl,by simp⟩
   rcases hx with ⟨h0,rfl⟩ | rfl
   ·rw [h0] at fin
    refine zr9 [0,3,4] (by simp [catK,AV.cellsK,AV.kone,AV.koneL];rfl) ?_
    refine zr9 [0,3,4] (by simp [wi];rfl) ?_
    simpa [byL] using fin
   ·refine zr9 [0,3,4] (by simp [catK,AV.cellsK,AV.kone,AV.koneL,hlen,show i+1≤140737488355328 by omega];rfl) ?_
    refine zr9 [0,3,4] (by simp [wi];rfl) ?_
    simpa [byL] using fin
 have hie:i=l.length:=by omega
 subst hie
 rw [List.take_length] at hx
 refine W_cF [0,3,4,10] (by simp;rfl) rfl ?_
 refine zs9 ?_
 rcases hx with ⟨h0,rfl⟩ | rfl
 ·refine yr9 [2] (by simp;rfl) ?_
  refine yj9 ?_
  repeat (first | refine yp9 ?_ | refine ys9 ?_)
  simp [retQ,strB,h0]
 ·refine yr9 [2] (by simp;rfl) ?_
  refine yj9 ?_
  repeat (first | refine yp9 ?_ | refine ys9 ?_)
  simp [retQ,strB]
theorem rtrim_sound (l:List UInt8) (hl:l.length≤100000):Sound Tryz.prog 91 [.lst .any 1 (byL l)] (strB (decM (kh9 l))):=by
 refine yc9 Tryz.func91 rfl (by decide +kernel) (by simp [Tryz.f91]) rfl rfl (rs:=[.tmp 2]) rfl ?_
 rw [show Tryz.f91.ntmps=22 from rfl]
 refine yr9 [0] (by simp;rfl) ?_
 refine yr9 [0,3] (by simp;rfl) ?_
 refine yh9 ?_
 refine yl9 ?_
 refine zf9 (fun k s=>k≤l.length∧(∀ (j:Nat) (b:UInt8),k≤j→l[j]?=some b→b=64)∧s=⟨22,[(0,.lst .any 1 (byL l)),(3,.v (.int .i64 (k:Nat)))],[]⟩) (k:=l.length) ⟨Nat.le_refl _,fun j b hj hb=>by have:=(List.getElem?_eq_some_iff.1 hb).1;omega,by simp⟩ ?_
 rintro k s ⟨hk,hall,rfl⟩
 refine yh9 ?_
 have done:kh9 l=l.take k→∀ σ,σ=(⟨22,[(0,.lst .any 1 (byL l)),(3,.v (.int .i64 (k:Nat)))],[]⟩:St)→True:=fun _ _ _=>trivial
 by_cases k0:k=0
 ·subst k0
  have hT:kh9 l=[]:=by rw [km8 l 0 (by omega) hall (.inl rfl)];rfl
  refine W_cF [0,3,15] (by simp;rfl) rfl ?_
  refine zs9 ?_
  refine W_rK [2] ?_
  refine yq9 3 (by simp [← vr9];rfl) rfl ?_
  refine yf9 (by simp) (by first | (simp;done) | (simp;rfl)) (show Sound Tryz.prog 122 [.lst .any 1 []] (strB (decM [])) from jf8 [] (by simp)) (by simp [strB];rfl) ?_
  refine yw9 (by simp;rfl) ?_
  refine yj9 ?_
  repeat (first | refine yp9 ?_ | refine ys9 ?_)
  simp [retQ,strB,hT]
 have kp:0 < k:=by omega
 have kp':(0:Int) < k:=by omega
 have wk:IntKind.i64.wrap ((k:Int) - 1)=((k - 1:Nat):Int):=by rw [w64 (by omega) (by omega)];omega
 obtain ⟨b,hb⟩:∃ b,l[k - 1]?=some b:=⟨_,List.getElem?_eq_getElem (by omega)⟩
 have hbb:(byL l)[k - 1]?=some (.v (.int .u8 b.toNat)):=by simp [byL,hb]
 have hb2:l[k - 1]'(by omega)=b:=by rw [List.getElem?_eq_getElem (by omega)] at hb;exact Option.some.inj hb
 have hkl:k - 1 < l.length:=by omega
 by_cases h64:b=64
 ·subst h64
  refine W_cT [0,3,15] (by simp [kp,kp',wk,hb2,hkl];rfl) rfl ?_
  refine yg9 ?_
  refine yl9 ?_
  refine zr9 [0,3] (by simp [wk];rfl) ?_
  refine ⟨k - 1,by omega,by omega,fun j b2 hj hb3=>?_,rfl⟩
  by_cases hjk:j=k - 1
  ·subst hjk
   rw [hb] at hb3
   exact (Option.some.inj hb3).symm
  ·exact hall j b2 (by omega) hb3
 ·have hT : kh9 l = l.take k := km8 l k hk hall (.inr ⟨b, hb, h64⟩)
  have h64':((b.toNat:Int) == 64)=false:=by
   rw [beq_eq_false_iff_ne]
   intro h
   apply h64
   apply UInt8.toNat_inj.1
   show b.toNat=64
   omega
  refine W_cF [0,3,15] (by simp [kp,kp',wk,hb2,hkl,h64'];rfl) rfl ?_
  refine zs9 ?_
  refine W_rK [2] ?_
  refine yq9 3 (by simp [← vr9,hk];rfl) rfl ?_
  refine yf9 (by simp) (by first | (simp;done) | (simp;rfl)) (jf8 (l.take k) (by simp;omega)) (by simp [strB];rfl) ?_
  refine yw9 (by simp;rfl) ?_
  refine yj9 ?_
  repeat (first | refine yp9 ?_ | refine ys9 ?_)
  simp [retQ,strB,hT]
set_option maxRecDepth 20000
theorem rkeyed_sound (t:List Rec) (hl:t.length≤100000000):Sound Tryz.prog 52 [.lst .any 4 (trL t)] (.v (.bool (us9 t))):=by
 refine yc9 Tryz.func52 rfl (by decide +kernel) (by simp [Tryz.f52]) (by simp [AV.rfL,AV.rf]) (by simp [AV.tlL,AV.tl]) (rs:=[.tmp 2]) rfl ?_
 rw [show Tryz.f52.ntmps=17 from rfl]
 refine yr9 [0,2] (by simp;rfl) ?_
 refine yh9 ?_
 refine yr9 [0,3] (by simp;rfl) ?_
 refine yl9 ?_
 refine zf9 (fun q σ=>∃ i:Nat,q=t.length - i∧i≤t.length∧(∀ (j:Nat) (r:Rec),j < i→t[j]?=some r→¬ r.key.length=8)∧σ=⟨17,[(0,.lst .any 4 (trL t)),(3,.v (.int .i64 (i:Nat)))],[]⟩) (k:=t.length) ⟨0,rfl,by omega,by intro j r hj;omega,by simp⟩ ?_
 rintro q σ ⟨i,rfl,hi,hall,rfl⟩
 refine yh9 ?_
 by_cases c:i < t.length
 ·have ci : (i : Int) < t.length := by omega
  have wi:=w64 (n:=(i:Int)+1) (by omega) (by omega)
  obtain ⟨r,hr⟩:∃ r,t[i]?=some r:=⟨_,List.getElem?_eq_getElem c⟩
  have hgr:t[i]'c=r:=by rw [List.getElem?_eq_getElem c] at hr;exact Option.some.inj hr
  refine yr9 [0,3,7] (by simp [c,ci];rfl) ?_
  refine yt9 (t:=true) (by simp [c,ci]) (fun h=>?_) (fun h=>by simp at h)
  refine yg9 ?_
  repeat (first | refine on_norm ?_ | refine in_norm ?_)
  refine yh9 ?_
  refine yl9 ?_
  by_cases hk:r.key.length=8
  ·have hki:(r.key.length:Int)=8:=by omega
   have hres:us9 t=true:=List.any_eq_true.2 ⟨r,List.mem_of_getElem? hr,by simpa using hk⟩
   refine yr9 [16] (by simp [c,ci,hgr,hk,hki];rfl) ?_
   refine yt9 (t:=true) (by simp [hk,hki]) (fun h=>?_) (fun h=>by simp at h)
   refine yr9 [2] (by simp;rfl) ?_
   refine yj9 ?_
   repeat (first | refine yp9 ?_ | refine ys9 ?_)
   simp [retQ,hres]
  ·have hki : ¬ (r.key.length : Int) = 8 := by omega
   have hkb:((r.key.length:Int) == 8)=false:=by simp;omega
   refine yr9 [0,3,16] (by simp [c,ci,hgr,hk,hki,hkb];rfl) ?_
   refine yt9 (t:=false) (by simp [hk,hki,hkb]) (fun h=>by simp at h) (fun h=>?_)
   refine yg9 ?_
   repeat (first | refine on_norm ?_ | refine in_norm ?_)
   refine zr9 [0,3] (by simp [wi];rfl) ?_
   refine ⟨_,by omega,i+1,rfl,by omega,fun j x hj hx=>?_,by simp⟩
   by_cases hj2:j < i
   ·exact hall j x hj2 hx
   ·have:j=i:=by omega
    subst this
    rw [hr] at hx
    rw [← Option.some.inj hx]
    exact hk
 ·have hie : i = t.length := by omega
  have hres:us9 t=false:=by
   cases hk:us9 t with
   | false=>rfl
   | true =>
    obtain ⟨r,hr,h8⟩:=List.any_eq_true.1 hk
    obtain ⟨j,hj,rfl⟩:=List.mem_iff_getElem.1 hr
    exact absurd (by simpa using h8) (hall j _ (by omega) (List.getElem?_eq_getElem hj))
  refine yr9 [7] (by simp [hie];rfl) ?_
  refine yt9 (t:=false) (by simp [hie]) (fun h=>by simp at h) (fun h=>?_)
  refine zs9 ?_
  repeat (first | refine on_exit ?_ | refine in_exit ?_)
  refine yr9 [2] (by simp;rfl) ?_
  refine yj9 ?_
  repeat (first | refine yp9 ?_ | refine ys9 ?_)
  simp [retQ,hres]
structure SE where
 name:List UInt8
 trk:Nat
 rn:Nat
 deriving DecidableEq
def nmE (e:RE):SE:=⟨nmM e.key,e.trk,e.rn⟩
def seA (e:SE):AV:=.agg [strB e.name,.v (.int .i64 (e.trk:Nat)),.v (.int .i64 (e.rn:Nat))]
def seL (l:List SE):List AV:=l.map seA
@[simp] theorem seL_length (L:List SE):(seL L).length=L.length:=by simp [seL]
theorem seL_app (a b:List SE):seL (a++b)=seL a++seL b:=by simp [seL]
@[simp] theorem seL_getElem (L:List SE) (i:Nat) (h:i < (seL L).length):(seL L)[i]=seA (L[i]'(by simpa using h)):=by simp [seL]
@[simp] theorem dpL_seL (L:List SE):AV.dpL (seL L)=seL L:=by induction L <;> simp_all [seL,seA,AV.dpL,AV.dp,strB]
set_option maxRecDepth 20000
def sqnM (t:List (List Rec)) (p n:Nat):List (List UInt8) × Bool:=match seqE t p n with | some bs=>(bs,true) | none=>([],false)
def outS (x:AV) (O:List (List UInt8)):Prop:=(O=[]∧x=.lst .nil 1 [])∨x=.lst (.tip 90 129) 1 (bbL O)
theorem outS_under {x:AV} {O:List (List UInt8)} (h:outS x O) (m:Nat):x.under m=true:=by
 rcases h with ⟨_,rfl⟩ | rfl <;> simp [AV.under,AV.underL]
theorem vp7 {n:Nat} {H:List AObj} {p:List (List UInt8) × Bool} (hp:p=([],false)):retU Tryz.prog [.tmp 4,.tmp 5] (resO p) .ret ⟨n,[(4,.lst .nil 1 []),(5,.v (.bool false))],H⟩:=by
 subst hp
 exact ⟨.tup [.lst .nil 1 [],.v (.bool false)],by simp [retQ],.tup2 (.nil (by decide +kernel)) (.refl _)⟩
theorem seq_sound (t : List (List Rec)) (nm : List UInt8) (p n : Nat) (hl : t.length ≤ 100000000) (ht : ∀ l ∈ t, l.length ≤ 100000000) (hf : t.flatten.length ≤ 1800000) (hd : ∀ l ∈ t, ∀ r ∈ l, r.data.length ≤ 1000000000) (hp : p ≤ 1000000000) :
  Sound Tryz.prog 56 [.lst .any 1 (arL t),.agg [strB nm,.v (.int .i64 (p:Nat)),.v (.int .i64 (n:Nat))]] (resO (sqnM t p n)):=by
 refine zn9 Tryz.func56 rfl (by decide +kernel) (by simp [Tryz.f56]) (by simp [AV.rfL,AV.rf,strB]) (by simp [AV.tlL,AV.tl,strB]) (rs:=[.tmp 4,.tmp 5]) rfl ?_
 rw [show Tryz.f56.ntmps=67 from rfl]
 have hse:=uc7 t p n
 obtain ⟨V,hV⟩:∃ V,sqnM t p n=V:=⟨_,rfl⟩
 have hVm:V=if (mg (jq9 t p n) []).1=1 then ((mg (jq9 t p n) []).2,true) else ([],false):=by
  rw [← hV];unfold sqnM;rw [hse];split <;> simp_all
 rw [hV]
 have hRl:=vb6 t p n
 refine yr9 [0,3] (by simp [strB];rfl) ?_
 refine yr9 [0,3,6] (by simp;rfl) ?_
 refine yh9 ?_
 by_cases cp:p < t.length
 ·have cpi : ¬ (t.length : Int) ≤ p := by omega
  have cpn:¬ t.length≤p:=by omega
  have cpi2:(p:Int) < t.length:=by omega
  obtain ⟨l,hlp⟩:∃ l,t[p]?=some l:=⟨_,List.getElem?_eq_getElem cp⟩
  have hlp2:t[p]'cp=l:=(List.getElem?_eq_some_iff.1 hlp).2
  have hgd:t.getD p []=l:=by rw [List.getD_eq_getElem?_getD,hlp];rfl
  have hfind:=rfind_sound l (n:Int) (ht l (List.mem_of_getElem? hlp))
  have hR:jq9 t p n=match vv9 l n with | none=>[] | some k=>fromE t p k:=by unfold jq9;rw [if_pos cp,hgd];try (cases vv9 l (n:Int) <;> rfl)
  obtain ⟨R,hRe⟩:∃ R,jq9 t p n=R:=⟨_,rfl⟩
  rw [hRe] at hVm hR hRl
  refine yr9 [0,3,6,14] (by simp [cpi,cpn];rfl) ?_
  refine yt9 (t:=false) (by simp [cpi,cpn]) (fun h=>by simp at h) (fun h=>?_)
  refine ym9 [0,3,6] ?_
  refine yg9 ?_
  repeat (first | refine on_norm ?_ | refine in_norm ?_)
  refine wr9 [0,3,6,7] mx (by decide +kernel) ?_
  refine yd9 4 (by simp [zg9,cp,cpi2];rfl) rfl ?_
  refine yd9 3 (by simp [cp,cpi2,hlp2];rfl) rfl ?_
  refine yv9 (by simp) (by first | (simp;done) | (simp;rfl)) hfind (by simp;rfl) ?_
  refine yb9 (by simp;rfl) ?_
  refine yh9 ?_
  cases hfd:vv9 l n with
  | none =>
   rw [hfd] at hR
   refine yr9 [0,3,6,7,24] (by simp [hfd];rfl) ?_
   refine yt9 (t:=true) (by simp) (fun h=>?_) (fun h=>by simp at h)
   refine yr9 [4,5] (by simp;rfl) ?_
   refine yj9 ?_
   repeat (first | refine yp9 ?_ | refine ys9 ?_)
   exact vp7 (by rw [hVm,hR];rfl)
  | some k0 =>
  rw [hfd] at hR
  have hk0:=qw6 hfd
  have hk0n:¬ ((k0:Nat):Int) < 0:=by omega
  refine yr9 [0,3,6,7,24] (by simp [hfd,hk0n];rfl) ?_
  refine yt9 (t:=false) (by simp [hk0n]) (fun h=>by simp at h) (fun h=>?_)
  refine ym9 [0,3,6,7] ?_
  refine yg9 ?_
  repeat (first | refine on_norm ?_ | refine in_norm ?_)
  refine yh9 ?_
  refine yr9 [0,6,7,8] (by simp [zg9];rfl) ?_
  refine vp9 0 (by omega) (by simp) (by simp [zj9,AV.under,AV.underL]) (by simp [yn9]) ?_
  refine yl9 ?_
  refine zf9 (fun q s => ∃ (k i : Nat) (o : List (List UInt8)) (x : AV), q = t.length - k ∧ k ≤ t.length ∧ (k < t.length → i ≤ (t.getD k []).length) ∧ mg R [] = mg ((t.getD k []).drop i ++ (t.drop (k + 1)).flatten) o ∧ outS x o ∧
   o.length+((t.getD k []).drop i++(t.drop (k+1)).flatten).length≤1800000 ∧
   s=⟨67,[(0,.lst .any 1 (arL t)),(6,x),(7,.v (.int .i64 (i:Nat))),(8,.v (.int .i64 (k:Nat)))],[]⟩) (k:=t.length - p) ⟨p,k0,[],_,rfl,by omega,?_,?_,.inl ⟨rfl,rfl⟩,?_,by simp⟩ ?_
  ·intro _;rw [hgd];omega
  ·rw [hR];rfl
  ·have:R.length=((t.getD p []).drop k0++(t.drop (p+1)).flatten).length:=by rw [hR];rfl
   simp only [List.length_nil]
   omega
  rintro q s ⟨k,i,o,x,rfl,hk,hik,hmg,hx,hol,rfl⟩
  have wk:=w64 (n:=(k:Int)+1) (by omega) (by omega)
  refine yh9 ?_
  by_cases ck:k < t.length
  ·have cki : (k : Int) < t.length := by omega
   obtain ⟨m,hm⟩:∃ m,t[k]?=some m:=⟨_,List.getElem?_eq_getElem ck⟩
   have hm2:t[k]'ck=m:=(List.getElem?_eq_some_iff.1 hm).2
   have hgm:t.getD k []=m:=by rw [List.getD_eq_getElem?_getD,hm];rfl
   have hmm:=List.mem_of_getElem? hm
   have hml:=ht m hmm
   rw [hgm] at hmg hol
   have hik2:=hik ck
   rw [hgm] at hik2
   refine yr9 [0,6,7,8,30] (by simp [ck,cki];rfl) ?_
   refine yt9 (t:=true) (by simp [ck,cki]) (fun h=>?_) (fun h=>by simp at h)
   refine ym9 [0,6,7,8] ?_
   refine yg9 ?_
   repeat (first | refine on_norm ?_ | refine in_norm ?_)
   refine yh9 ?_
   refine yl9 ?_
   refine yh9 ?_
   refine yl9 ?_
   obtain ⟨rest,hrest⟩:∃ rest,(t.drop (k+1)).flatten=rest:=⟨_,rfl⟩
   rw [hrest] at hmg hol
   refine zf9 (fun q s => ∃ (j : Nat) (o : List (List UInt8)) (x : AV), q = m.length - j ∧ j ≤ m.length ∧ mg R [] = mg (m.drop j ++ rest) o ∧ outS x o ∧ o.length + (m.drop j ++ rest).length ≤ 1800000 ∧
    s=⟨67,[(0,.lst .any 1 (arL t)),(6,x),(7,.v (.int .i64 (j:Nat))),(8,.v (.int .i64 (k:Nat)))],[]⟩) (k:=m.length - i) ⟨i,o,x,rfl,by omega,hmg,hx,hol,by simp [zg9]⟩ ?_
   rintro q s ⟨j,o',x',rfl,hj,hmg',hx',hol',rfl⟩
   refine yh9 ?_
   by_cases cj:j < m.length
   ·have cji : (j : Int) < m.length := by omega
    obtain ⟨r,hr⟩:∃ r,m[j]?=some r:=⟨_,List.getElem?_eq_getElem cj⟩
    have hr2:m[j]'cj=r:=(List.getElem?_eq_some_iff.1 hr).2
    have wj:=w64 (n:=(j:Int)+1) (by omega) (by omega)
    have hdj:m.drop j=r :: m.drop (j+1):=by rw [List.drop_eq_getElem_cons cj,hr2]
    rw [hdj,List.cons_append,mg] at hmg'
    rw [hdj,List.cons_append,List.length_cons] at hol'
    have hxu:=fun m=>outS_under hx' m
    refine yr9 [0,6,7,8,39] (by simp [ck,cki,hm2,cj,cji];rfl) ?_
    refine yt9 (t:=true) (by simp [cj,cji]) (fun h=>?_) (fun h=>by simp at h)
    refine ym9 [0,6,7,8] ?_
    refine yg9 ?_
    repeat (first | refine on_norm ?_ | refine in_norm ?_)
    refine yl9 ?_
    refine yr9 [0,6,7,8,9] (by simp [zg9,ck,cki,hm2,cj,cji,hr2,yk9];rfl) ?_
    refine yh9 ?_
    obtain ⟨BD,hBD⟩:∃ BD,decide (r.bad=true∨r.key≠[])=BD:=⟨_,rfl⟩
    refine vm9 (fun s=>s=⟨67,[(0,.lst .any 1 (arL t)),(6,x'),(7,.v (.int .i64 (j:Nat))),(8,.v (.int .i64 (k:Nat))),(9,.loc 0 0),(54,.v (.bool BD))],[.cells 100 (recC r)]⟩) ?_ ?_
    ·by_cases e1 : r.bad = true
     ·have hk:BD=true:=by rw [← hBD];simp [e1]
      refine zr9 [0,6,7,8,9,54] (by simp [e1];rfl) ?_
      refine (show _=_ from ?_)
      rw [hk]
      simp [recC,e1]
     ·have e1' : r.bad = false := by simpa using e1
      by_cases e2:r.key=[]
      ·have hk:BD=false:=by rw [← hBD];simp [e1',e2]
       refine zr9 [0,6,7,8,9,54] (by simp [e1',e2];rfl) ?_
       refine (show _=_ from ?_)
       rw [hk]
       simp [recC,e1',e2]
      ·have e2':0 < r.key.length:=List.length_pos_iff.2 e2
       have hk:BD=true:=by rw [← hBD];simp [e2]
       refine zr9 [0,6,7,8,9,54] (by simp [e1',e2'];rfl) ?_
       refine (show _=_ from ?_)
       rw [hk]
       simp [recC,e1']
    rintro _ rfl
    by_cases e4:r.bad=true∨r.key≠[]
    ·rw [if_pos e4] at hmg'
     have hk:BD=true:=by rw [← hBD];exact decide_eq_true e4
     rw [hk]
     refine yt9 rfl (fun h=>?_) (fun h=>by simp at h)
     refine yr9 [4,5] (by simp;rfl) ?_
     refine yj9 ?_
     repeat (first | refine yp9 ?_ | refine ys9 ?_)
     exact vp7 (by rw [hVm,hmg'];rfl)
    ·rw [if_neg e4] at hmg'
     have hk:BD=false:=by rw [← hBD];exact decide_eq_false e4
     rw [hk]
     refine yt9 rfl (fun h=>by simp at h) (fun h=>?_)
     refine ym9 [0,6,7,8,9] ?_
     refine yg9 ?_
     repeat (first | refine on_norm ?_ | refine in_norm ?_)
     refine yh9 ?_
     by_cases e5:r.data=[]
     ·rw [if_pos e5] at hmg'
      have hVf:V=(o',true):=by rw [hVm,hmg'];rfl
      refine W_cT [0,6,58] (by simp [zg9,recC,e5];rfl) rfl ?_
      rw [hVf]
      rcases hx' with ⟨h0,rfl⟩ | rfl
      ·subst h0
       refine yr9 [4,5] (by simp;rfl) ?_
       refine yj9 ?_
       repeat (first | refine yp9 ?_ | refine ys9 ?_)
       exact ⟨.tup [.lst .nil 1 [],.v (.bool true)],by simp [retQ],.tup2 (.nil (by decide +kernel)) (.refl _)⟩
      ·refine yr9 [4,5] (by simp;rfl) ?_
       refine yj9 ?_
       repeat (first | refine yp9 ?_ | refine ys9 ?_)
       exact ⟨_,by simp [retQ];exact ⟨rfl,by simp⟩,.norm fun T=>by simp [resO]⟩
     ·rw [if_neg e5] at hmg'
      have e5i:((r.data.length:Int) == 0)=false:=by
       have:=List.length_pos_iff.2 e5
       simp;omega
      refine yr9 [0,6,7,8,9,58] (by simp [zg9,recC,e5i];rfl) ?_
      refine yt9 (t:=false) (by simp [e5i]) (fun h=>by simp at h) (fun h=>?_)
      refine ym9 [0,6,7,8,9] ?_
      refine yg9 ?_
      repeat (first | refine on_norm ?_ | refine in_norm ?_)
      have bo:(o'.length+1) * 24≤140737488355328:=by omega
      have bo':24 * (o'.length+1)≤140737488355328:=by omega
      have hsn:bbL o'++[AV.lst .any 1 (byL r.data)]=bbL (o'++[r.data]):=by rw [uv9];rfl
      rcases hx' with ⟨h0,rfl⟩ | rfl
      ·subst h0
       refine yr9 [0,6,7,8] (by simp [zg9,catK,AV.cellsK,AV.kone,AV.koneL];rfl) ?_
       refine vp9 0 (by omega) (by simp) (by simp [zj9,AV.under,AV.underL]) (by simp [yn9]) ?_
       refine zr9 [0,6,7,8] (by simp [wj];rfl) ?_
       refine ⟨_,by omega,j+1,[r.data],_,rfl,by omega,hmg',.inr rfl,by simp at hol' ⊢;omega,?_⟩
       simp [qp9]
      ·refine yr9 [0,6,7,8] (by simp [zg9,catK,AV.cellsK,AV.kone,AV.koneL,bo,bo',hsn];rfl) ?_
       refine vp9 0 (by omega) (by simp) (by simp [zj9,AV.under,AV.underL]) (by simp [yn9]) ?_
       refine zr9 [0,6,7,8] (by simp [wj];rfl) ?_
       refine ⟨_,by omega,j+1,o'++[r.data],_,rfl,by omega,hmg',.inr rfl,by simp at hol' ⊢;omega,?_⟩
       simp
   ·have hje : j = m.length := by omega
    subst hje
    rw [List.drop_length,List.nil_append] at hmg' hol'
    have hnx:rest=(t.getD (k+1) []).drop 0++(t.drop (k+1+1)).flatten:=by
     rw [← hrest,List.drop_zero]
     rcases Nat.lt_or_ge (k+1) t.length with h | h
     ·rw [List.drop_eq_getElem_cons h,List.flatten_cons,List.getD_eq_getElem?_getD,List.getElem?_eq_getElem h];rfl
     ·rw [List.drop_eq_nil_of_le h,List.drop_eq_nil_of_le (by omega),List.getD_eq_getElem?_getD,List.getElem?_eq_none h];rfl
    refine yr9 [0,6,7,8,39] (by simp [ck,cki,hm2];rfl) ?_
    refine yt9 (t:=false) (by simp) (fun h=>by simp at h) (fun h=>?_)
    refine ym9 [0,6,7,8] ?_
    refine zs9 ?_
    refine zr9 [0,6,7,8] (by simp [zg9];rfl) ?_
    repeat (first | refine on_norm ?_ | refine in_norm ?_)
    refine zr9 [0,6,7,8] (by simp [wk];rfl) ?_
    refine ⟨_,by omega,k+1,0,o',x',rfl,by omega,by simp,?_,hx',?_,by simp⟩
    ·rw [← hnx];exact hmg'
    ·rw [← hnx];exact hol'
  ·have cki:¬ (k:Int) < t.length:=by omega
   refine yr9 [0,6,7,8,30] (by simp [ck,cki];rfl) ?_
   refine yt9 (t:=false) (by simp [ck,cki]) (fun h=>by simp at h) (fun h=>?_)
   refine zs9 ?_
   have e1:t.getD k []=[]:=by rw [List.getD_eq_getElem?_getD,List.getElem?_eq_none (by omega)];rfl
   have e2:t.drop (k+1)=[]:=List.drop_eq_nil_of_le (by omega)
   refine yr9 [4,5] (by simp;rfl) ?_
   refine yj9 ?_
   repeat (first | refine yp9 ?_ | refine ys9 ?_)
   refine vp7 ?_
   rw [hVm,hmg,e1,e2]
   simp [mg]
 ·have cpi:(t.length:Int)≤p:=by omega
  have cpn:t.length≤p:=by omega
  refine yr9 [0,3,6,14] (by simp [cpi,cpn];rfl) ?_
  refine yt9 (t:=true) (by simp [cpi,cpn]) (fun h=>?_) (fun h=>by simp at h)
  refine yr9 [4,5] (by simp;rfl) ?_
  refine yj9 ?_
  repeat (first | refine yp9 ?_ | refine ys9 ?_)
  refine vp7 ?_
  rw [hVm]
  unfold jq9
  rw [if_neg cp]
  rfl
set_option maxRecDepth 20000
def mbQ (d:Dcb) (t:List (List Rec)) (p n:Nat) (h':List AObj):Prop :=
 ∃ o x st rA rE, outM x o ∧ mg (jq9 t p n) [] = (st, o) ∧ st < 3 ∧ (st = 1 → rA = .lst (.tip 90 57) 1 (bbL (unbM d o).1) ∧ rE = (unbM d o).2) ∧ (st ≠ 1 → rA = .lst .nil 1 [] ∧ rE = 0) ∧
  h'=mbH d t p n rA rE x [mbL (if st=0 then .ready else if st=1 then .done .ret else .done (.exit 0))]
theorem mb_in (d : Dcb) (t : List (List Rec)) (p n : Nat) (hl : t.length ≤ 100000000) (ht : ∀ l ∈ t, l.length ≤ 100000000) (hf : t.flatten.length ≤ 1800000) (hd : ∀ l ∈ t, ∀ r ∈ l, r.data.length ≤ 1000000000) (hp : p ≤ 1000000000) :
  wp9 Tryz.prog 107 [.yld 7,.loc 6 0,.loc 5 0] (mbH d t p n (.lst .nil 1 []) 0 (.lst .nil 1 []) [mbL .ready]) fun _ h'=>mbQ d t p n h':=by
 refine zh9 Tryz.func107 rfl (by decide +kernel) (by simp [Tryz.f107]) (rs:=[]) rfl ?_
 rw [show Tryz.f107.ntmps=52 from rfl]
 have done : ∀ (e : Exit) (fr : List (Nat × AV)) (X : List AObj) (o : List (List UInt8)) (x : AV) (st : Nat) (rA : AV) (rE : Int), (e = .normal ∨ e = .ret) → outM x o → mg (jq9 t p n) [] = (st, o) → st < 3 → (st = 1 → rA = .lst (.tip 90 57) 1 (bbL (unbM d o).1) ∧ rE = (unbM d o).2) → (st ≠ 1 → rA = .lst .nil 1 [] ∧ rE = 0) →
   retW Tryz.prog [] 8 (fun _ h'=>mbQ d t p n h') e ⟨52,fr,mbH d t p n rA rE x ([mbL (if st=0 then .ready else if st=1 then .done .ret else .done (.exit 0))]++X)⟩:=by
  intro e fr X o x st rA rE he hx hm h3 h1 h2
  have hrA:rA.under 8=true:=by
   by_cases hst:st=1
   ·rw [(h1 hst).1];simp [AV.under,AV.underL]
   ·rw [(h2 hst).1];simp [AV.under,AV.underL]
  refine ⟨he,.tup [],.tup [],_,8,rfl,.inl ⟨rfl,rfl⟩,by simp,by simp,rfl,?_,?_⟩
  ·simp [yn9,zj9,AObj.under,AV.under,AV.underL,xf6 hx,hrA,dcbC]
  ·exact ⟨o,x,st,rA,rE,hx,hm,h3,h1,h2,by simp⟩
 refine yh9 ?_
 by_cases cp:p < t.length
 ·have cpi : ¬ (t.length : Int) ≤ p := by omega
  have cpn:¬ t.length≤p:=by omega
  have cpi2:(p:Int) < t.length:=by omega
  obtain ⟨l,hlp⟩:∃ l,t[p]?=some l:=⟨_,List.getElem?_eq_getElem cp⟩
  have hlp2:t[p]'cp=l:=(List.getElem?_eq_some_iff.1 hlp).2
  have hgd:t.getD p []=l:=by rw [List.getD_eq_getElem?_getD,hlp];rfl
  have hfind:=tfind_sound l (n:Int) (ht l (List.mem_of_getElem? hlp))
  have hR:jq9 t p n=match vv9 l n with | none=>[] | some k=>fromE t p k:=by unfold jq9;rw [if_pos cp,hgd];try (cases vv9 l (n:Int) <;> rfl)
  refine yr9 [0,1,2,13] (by simp [mbH,cpi,cpn];rfl) ?_
  refine yt9 (t:=false) (by simp [cpi,cpn]) (fun h=>by simp at h) (fun h=>?_)
  refine ym9 [0,1,2] ?_
  refine yg9 ?_
  repeat (first | refine on_norm ?_ | refine in_norm ?_)
  refine wr9 [0,1,2,4,5] mx (by decide +kernel) ?_
  refine yd9 4 (by simp [mbH,zg9,cp,cpi2];rfl) rfl ?_
  refine yd9 3 (by simp [cp,cpi2,hlp2];rfl) rfl ?_
  refine yv9 (by simp) (by first | (simp;done) | (simp;rfl)) hfind (by simp;rfl) ?_
  refine yb9 (by simp;rfl) ?_
  refine yr9 [0,2,4,5,6] (by simp [mbH];rfl) ?_
  refine yl9 ?_
  obtain ⟨R,hRe⟩:∃ R,jq9 t p n=R:=⟨_,rfl⟩
  have hRl:=vb6 t p n
  rw [hRe] at done hR hRl
  refine zf9 (fun q s => ∃ (k i : Nat) (o : List (List UInt8)) (x : AV), q = t.length - k ∧ k ≤ t.length ∧ (k < t.length → i ≤ (t.getD k []).length) ∧ mg R [] = mg (if (vv9 l n).isSome then (t.getD k []).drop i ++ (t.drop (k + 1)).flatten else []) o ∧ outM x o ∧ (∀ b ∈ o, b.length ≤ 1000000000) ∧
   o.length+(if (vv9 l n).isSome then (t.getD k []).drop i++(t.drop (k+1)).flatten else []).length≤1800000 ∧
   s=⟨52,[(0,.yld 7),(2,.loc 5 0),(4,.v (.int .i64 (i:Nat))),(5,.v (.bool (vv9 l n).isSome)),(6,.v (.int .i64 (k:Nat)))],mbH d t p n (.lst .nil 1 []) 0 x [mbL .ready]⟩) (k:=t.length - p) ⟨p,(vv9 l n).getD 0,[],_,rfl,by omega,?_,?_,.inl ⟨rfl,rfl⟩,by simp,?_,by simp [mbH]⟩ ?_
  ·intro _
   cases hfd:vv9 l n with
   | none=>simp
   | some k=>rw [hgd];have:=qw6 hfd;simp;omega
  ·cases hfd:vv9 l n with
   | none=>rw [hfd] at hR;rw [hR];simp
   | some k=>rw [hfd] at hR;rw [hR];simp [fromE]
  ·cases hfd:vv9 l n with
   | none=>simp
   | some k =>
    rw [hfd] at hR
    have:R.length=((t.getD p []).drop k++(t.drop (p+1)).flatten).length:=by rw [hR];rfl
    simp only [Option.isSome_some,if_true,Option.getD_some,List.length_nil]
    omega
  rintro q s ⟨k,i,o,x,rfl,hk,hik,hmg,hx,hob,hol,rfl⟩
  have wk:=w64 (n:=(k:Int)+1) (by omega) (by omega)
  refine yh9 ?_
  cases hfd:(vv9 l n).isSome with
  | false =>
   rw [hfd] at hmg
   refine yr9 [0,2,4,5,6,33] (by simp [mbH];rfl) ?_
   refine yt9 (t:=false) (by simp) (fun h=>by simp at h) (fun h=>?_)
   refine zs9 ?_
   exact done _ _ [] o x 0 _ _ (.inl rfl) hx (by rw [hmg];rfl) (by omega) (by simp) (by simp)
  | true =>
  rw [hfd] at hmg hol
  simp only [if_true] at hmg hol
  by_cases ck:k < t.length
  ·have cki : (k : Int) < t.length := by omega
   obtain ⟨m,hm⟩:∃ m,t[k]?=some m:=⟨_,List.getElem?_eq_getElem ck⟩
   have hm2:t[k]'ck=m:=(List.getElem?_eq_some_iff.1 hm).2
   have hgm:t.getD k []=m:=by rw [List.getD_eq_getElem?_getD,hm];rfl
   have hmm:=List.mem_of_getElem? hm
   have hml:=ht m hmm
   rw [hgm] at hmg hol
   have hik2:=hik ck
   rw [hgm] at hik2
   have hik3:(i:Int)≤m.length:=by omega
   refine yr9 [0,2,4,5,6,33] (by simp [mbH,ck,cki];rfl) ?_
   refine yt9 (t:=true) (by simp [ck,cki]) (fun h=>?_) (fun h=>by simp at h)
   refine ym9 [0,2,4,5,6] ?_
   refine yg9 ?_
   repeat (first | refine on_norm ?_ | refine in_norm ?_)
   refine yh9 ?_
   refine yl9 ?_
   refine yh9 ?_
   have hdl:(trL m).drop i=trL (m.drop i):=(trL_drop m i).symm
   obtain ⟨L,hL⟩:∃ L,m.drop i=L:=⟨_,rfl⟩
   have hLl:L.length=m.length - i:=by rw [← hL,List.length_drop]
   have hLm:∀ r∈L,r∈m:=fun r hr=>by rw [← hL] at hr;exact List.mem_of_mem_drop hr
   rw [hL] at hdl hmg hol
   refine yr9 [0,2,5,6,41,42,43] (by simp [mbH,zg9,ck,cki,hm2,hik2,hik3,hdl];rfl) ?_
   refine yl9 ?_
   obtain ⟨rest,hrest⟩:∃ rest,(t.drop (k+1)).flatten=rest:=⟨_,rfl⟩
   rw [hrest] at hmg hol
   refine zf9 (fun q s => ∃ (j : Nat) (o : List (List UInt8)) (x : AV), q = L.length - j ∧ j ≤ L.length ∧ mg R [] = mg (L.drop j ++ rest) o ∧ outM x o ∧ (∀ b ∈ o, b.length ≤ 1000000000) ∧ o.length + (L.drop j ++ rest).length ≤ 1800000 ∧
    s=⟨52,[(0,.yld 7),(2,.loc 5 0),(5,.v (.bool true)),(6,.v (.int .i64 (k:Nat))),(41,.lst .any 4 (trL L)),(42,.v (.int .i64 (L.length:Nat))),(43,.v (.int .i64 (j:Nat)))],mbH d t p n (.lst .nil 1 []) 0 x [mbL .ready]⟩) (k:=L.length) ⟨0,o,x,rfl,by omega,by rw [List.drop_zero];exact hmg,hx,hob,by rw [List.drop_zero];exact hol,by simp [mbH]⟩ ?_
   rintro q s ⟨j,o',x',rfl,hj,hmg',hx',hob',hol',rfl⟩
   by_cases cj:j < L.length
   ·have cji : (j : Int) < L.length := by omega
    obtain ⟨r,hr⟩:∃ r,L[j]?=some r:=⟨_,List.getElem?_eq_getElem cj⟩
    have hr2:L[j]'cj=r:=(List.getElem?_eq_some_iff.1 hr).2
    have hrd:=hd m hmm r (hLm r (List.mem_of_getElem? hr))
    have wj:=w64 (n:=(j:Int)+1) (by omega) (by omega)
    have hdj:L.drop j=r :: L.drop (j+1):=by rw [List.drop_eq_getElem_cons cj,hr2]
    rw [hdj,List.cons_append,mg] at hmg'
    rw [hdj,List.cons_append,List.length_cons] at hol'
    refine yr9 [0,2,5,6,41,42,43,44] (by simp [cj,cji];rfl) ?_
    refine yh9 ?_
    refine yt9 (t:=true) (by simp [cj,cji]) (fun h=>?_) (fun h=>by simp at h)
    refine ym9 [0,2,5,6,41,42,43] ?_
    refine yg9 ?_
    repeat (first | refine on_norm ?_ | refine in_norm ?_)
    refine yh9 ?_
    refine yl9 ?_
    refine yr9 [0,2,5,6,41,42,43,8] (by simp [zg9,cj,cji,hr2,yk9];rfl) ?_
    refine W_rK [0,2,5,6,41,42,43,50] ?_
    refine yq9 2 (by simp;rfl) rfl ?_
    refine runA_y (by simp) ?_
    unfold wn7
    dsimp only
    refine ⟨7,36,_,_,_,_,[recA r],by simp,rfl,by simp,by simp,by simp,by simp,?_⟩
    refine (show Wt _ _ _ _ _ _ from ?_)
    refine zr9 [3,6,7,8,9] (by simp [setF,yk9];rfl) ?_
    refine ⟨rfl,_,_,_,_,_,rfl,?_⟩
    refine yl9 ?_
    refine yh9 ?_
    have hxu:=fun m=>xf6 hx' m
    obtain ⟨BD,hBD⟩:∃ BD,decide (r.bad=true∨r.key≠[])=BD:=⟨_,rfl⟩
    refine vm9 (fun s=>s=⟨36,[(3,.loc 0 0),(6,.loc 2 0),(7,.loc 3 0),(8,.loc 4 0),(9,.loc 9 0),(21,.v (.bool BD))],mbH d t p n (.lst .nil 1 []) 0 x' [mbL .busy,.cells 100 (recC r),.cells 100 (recC r)]⟩) ?_ ?_
    ·by_cases e1 : r.bad = true
     ·have hk:BD=true:=by rw [← hBD];simp [e1]
      refine zr9 [3,6,7,8,9,21] (by simp [e1];rfl) ?_
      refine (show _=_ from ?_)
      rw [hk]
      simp [mbH,recC,e1]
     ·have e1' : r.bad = false := by simpa using e1
      by_cases e2:r.key=[]
      ·have hk:BD=false:=by rw [← hBD];simp [e1',e2]
       refine zr9 [3,6,7,8,9,21] (by simp [e1',e2];rfl) ?_
       refine (show _=_ from ?_)
       rw [hk]
       simp [mbH,recC,e1',e2]
      ·have e2':0 < r.key.length:=List.length_pos_iff.2 e2
       have hk:BD=true:=by rw [← hBD];simp [e2]
       refine zr9 [3,6,7,8,9,21] (by simp [e1',e2'];rfl) ?_
       refine (show _=_ from ?_)
       rw [hk]
       simp [mbH,recC,e1']
    rintro _ rfl
    by_cases e4:r.bad=true∨r.key≠[]
    ·rw [if_pos e4] at hmg'
     have hk:BD=true:=by rw [← hBD];exact decide_eq_true e4
     rw [hk]
     refine yt9 rfl (fun h=>?_) (fun h=>by simp at h)
     refine zs9 ?_
     refine ⟨36,_,_,_,_,.done (.exit 0),false,9,rfl,rfl,by simp,by simp,?_,?_⟩
     ·simp [mbH,yn9,zj9,AObj.under,AV.under,AV.underL,hxu,recC,dcbC]
     refine ⟨_,by simp;rfl,?_⟩
     refine yw9 (by simp;rfl) ?_
     refine yt9 rfl (fun h=>?_) (fun h=>by simp at h)
     refine yj9 ?_
     repeat (first | refine yp9 ?_ | refine ys9 ?_)
     exact done _ _ [_] o' x' 2 _ _ (.inr rfl) hx' hmg' (by omega) (by simp) (by simp)
    ·rw [if_neg e4] at hmg'
     have hk:BD=false:=by rw [← hBD];exact decide_eq_false e4
     rw [hk]
     refine yt9 rfl (fun h=>by simp at h) (fun h=>?_)
     refine ym9 [3,6,7,8,9] ?_
     refine yg9 ?_
     repeat (first | refine on_norm ?_ | refine in_norm ?_)
     refine yh9 ?_
     by_cases e5:r.data=[]
     ·rw [if_pos e5] at hmg'
      have hub:=unb_sound d o' (by omega) hob'
      refine yh9 ?_
      refine zr9 [3,6,7,8,25] (by simp [mbH,zg9,recC,e5];rfl) ?_
      refine yt9 rfl (fun h=>?_) (fun h=>by simp at h)
      simp only [dcbA] at hub
      obtain ⟨U,hU⟩:∃ U,unbM d o'=U:=⟨_,rfl⟩
      rw [hU] at hub
      unfold resB at hub
      rcases hx' with ⟨h0,rfl⟩ | rfl
      all_goals
       refine W_rK [] ?_
       refine yq9 2 (by simp [dcbC];rfl) rfl ?_
       refine yf9 (by simp) (by first | (simp;done) | (simp [h0];rfl) | (simp;rfl)) hub (by simp;rfl) ?_
       refine yw9 (by simp [yk9];rfl) ?_
       refine yj9 ?_
       repeat (first | refine yp9 ?_ | refine ys9 ?_)
       refine ⟨36,_,_,_,_,.done .ret,false,9,rfl,rfl,by simp,by simp,?_,?_⟩
       ·simp [mbH,yn9,zj9,AObj.under,AV.under,AV.underL,recC,dcbC]
       refine ⟨_,by simp;rfl,?_⟩
       refine yw9 (by simp;rfl) ?_
       refine yt9 rfl (fun h=>?_) (fun h=>by simp at h)
       refine yj9 ?_
       repeat (first | refine yp9 ?_ | refine ys9 ?_)
       exact done _ _ [_] o' _ 1 (.lst (.tip 90 57) 1 (bbL U.1)) U.2 (.inr rfl) (by first | exact .inl ⟨h0,rfl⟩ | exact .inr rfl) hmg' (by omega) (fun _=>by rw [hU];exact ⟨rfl,rfl⟩) (by simp)
     ·rw [if_neg e5] at hmg'
      have e5':(r.data.length == 0)=false:=by simpa using e5
      have e5i:((r.data.length:Int) == 0)=false:=by
       have:=List.length_pos_iff.2 e5
       simp;omega
      refine yh9 ?_
      refine zr9 [3,6,7,8,9,25] (by simp [mbH,zg9,recC,e5i];rfl) ?_
      refine yt9 (t:=false) rfl (fun h=>by simp at h) (fun h=>?_)
      refine ym9 [3,6,7,8,9] ?_
      refine yg9 ?_
      repeat (first | refine on_norm ?_ | refine in_norm ?_)
      have bo:(o'.length+1) * 24≤140737488355328:=by omega
      have bo':24 * (o'.length+1)≤140737488355328:=by omega
      have hsn:bbL o'++[AV.lst .any 1 (byL r.data)]=bbL (o'++[r.data]):=by rw [uv9];rfl
      have hobn:∀ b∈o'++[r.data],b.length≤1000000000:=fun b hb=>by
       rcases List.mem_append.1 hb with hb | hb
       ·exact hob' b hb
       ·rw [List.mem_singleton.1 hb];exact hrd
      rcases hx' with ⟨h0,rfl⟩ | rfl
      ·subst h0
       refine zr9 [3] (by simp [mbH,zg9,recC,yk9,catK,AV.cellsK,AV.kone,AV.koneL];rfl) ?_
       refine ⟨36,_,_,_,_,.ready,true,9,rfl,rfl,by simp,by simp,?_,?_⟩
       ·simp [yn9,zj9,AObj.under,AV.under,AV.underL,dcbC]
       refine ⟨_,by simp;rfl,?_⟩
       refine yw9 (by simp;rfl) ?_
       refine yt9 rfl (fun h=>by simp at h) (fun h=>?_)
       refine ym9 [0,2,5,6,41,42,43] ?_
       refine vp9 8 (by simp) (by simp) (by simp [zg9,ud9,zj9,AV.under,AV.underL]) (by simp [zg9,yn9,zj9,AObj.under,AV.under,AV.underL,dcbC]) ?_
       refine yg9 ?_
       repeat (first | refine on_norm ?_ | refine in_norm ?_)
       refine zr9 [0,2,5,6,41,42,43] (by simp [zg9,wj];rfl) ?_
       refine ⟨_,by omega,j+1,[r.data],_,rfl,by omega,hmg',.inr rfl,hobn,by simp at hol' ⊢;omega,?_⟩
       simp [mbH,qp9]
      ·refine zr9 [3] (by simp [mbH,zg9,recC,yk9,catK,AV.cellsK,AV.kone,AV.koneL,bo,bo',hsn];rfl) ?_
       refine ⟨36,_,_,_,_,.ready,true,9,rfl,rfl,by simp,by simp,?_,?_⟩
       ·simp [yn9,zj9,AObj.under,AV.under,AV.underL,dcbC]
       refine ⟨_,by simp;rfl,?_⟩
       refine yw9 (by simp;rfl) ?_
       refine yt9 rfl (fun h=>by simp at h) (fun h=>?_)
       refine ym9 [0,2,5,6,41,42,43] ?_
       refine vp9 8 (by simp) (by simp) (by simp [zg9,ud9,zj9,AV.under,AV.underL]) (by simp [zg9,yn9,zj9,AObj.under,AV.under,AV.underL,dcbC]) ?_
       refine yg9 ?_
       repeat (first | refine on_norm ?_ | refine in_norm ?_)
       refine zr9 [0,2,5,6,41,42,43] (by simp [zg9,wj];rfl) ?_
       refine ⟨_,by omega,j+1,o'++[r.data],_,rfl,by omega,hmg',.inr rfl,hobn,by simp at hol' ⊢;omega,?_⟩
       simp [mbH,dcbC,AV.killL,AV.kill]
   ·have hje : j = L.length := by omega
    subst hje
    rw [List.drop_length,List.nil_append] at hmg' hol'
    have hnx:rest=(t.getD (k+1) []).drop 0++(t.drop (k+1+1)).flatten:=by
     rw [← hrest,List.drop_zero]
     rcases Nat.lt_or_ge (k+1) t.length with h | h
     ·rw [List.drop_eq_getElem_cons h,List.flatten_cons,List.getD_eq_getElem?_getD,List.getElem?_eq_getElem h];rfl
     ·rw [List.drop_eq_nil_of_le h,List.drop_eq_nil_of_le (by omega),List.getD_eq_getElem?_getD,List.getElem?_eq_none h];rfl
    refine yr9 [0,2,5,6,44] (by simp;rfl) ?_
    refine yh9 ?_
    refine yt9 (t:=false) (by simp) (fun h=>by simp at h) (fun h=>?_)
    refine ym9 [0,2,5,6] ?_
    refine zs9 ?_
    refine zr9 [0,2,5,6,4] (by simp [zg9];rfl) ?_
    repeat (first | refine on_norm ?_ | refine in_norm ?_)
    refine W_perm (fr':=[(0,.yld 7),(2,.loc 5 0),(4,.v (.int .i64 (0:Nat))),(5,.v (.bool true)),(6,.v (.int .i64 (k:Nat)))]) (fun i=>?_) ?_
    ·by_cases h0:i=0
     ·subst h0;rfl
     by_cases h2:i=2
     ·subst h2;rfl
     by_cases h4:i=4
     ·subst h4;rfl
     by_cases h5:i=5
     ·subst h5;rfl
     by_cases h6:i=6
     ·subst h6;rfl
     simp [getF,h0,h2,h4,h5,h6,eq_comm]
    refine zr9 [0,2,4,5,6] (by simp [wk];rfl) ?_
    refine ⟨_,by omega,k+1,0,o',x',rfl,by omega,by simp,?_,hx',hob',?_,?_⟩
    rotate_left 2
    ·simp [mbH]
    ·rw [if_pos rfl,← hnx];exact hmg'
    ·rw [if_pos rfl,← hnx];exact hol'
  ·have cki:¬ (k:Int) < t.length:=by omega
   have hke:k=t.length:=by omega
   refine yr9 [0,2,4,5,6,33] (by simp [mbH,ck,cki];rfl) ?_
   refine yt9 (t:=false) (by simp [ck,cki]) (fun h=>by simp at h) (fun h=>?_)
   refine zs9 ?_
   refine done _ _ [] o x 0 _ _ (.inl rfl) hx ?_ (by omega) (by simp) (by simp)
   have e1:t.getD k []=[]:=by rw [List.getD_eq_getElem?_getD,List.getElem?_eq_none (by omega)];rfl
   have e2:t.drop (k+1)=[]:=List.drop_eq_nil_of_le (by omega)
   rw [hmg,e1,e2]
   simp [mg]
 ·have cpi:(t.length:Int)≤p:=by omega
  have cpn:t.length≤p:=by omega
  refine yr9 [0,1,2,13] (by simp [mbH,cpi,cpn];rfl) ?_
  refine yt9 (t:=true) (by simp [cpi,cpn]) (fun h=>?_) (fun h=>by simp at h)
  refine yj9 ?_
  repeat (first | refine yp9 ?_ | refine ys9 ?_)
  refine done _ _ [] [] _ 0 _ _ (.inr rfl) (.inl ⟨rfl,rfl⟩) ?_ (by omega) (by simp) (by simp)
  unfold jq9
  rw [if_neg cp]
  rfl
set_option maxRecDepth 20000
theorem xn7 (d : Dcb) (t : List (List Rec)) (p n : Nat) (hl : t.length ≤ 100000000) (ht : ∀ l ∈ t, l.length ≤ 100000000) (hf : t.flatten.length ≤ 1800000) (hd : ∀ l ∈ t, ∀ r ∈ l, r.data.length ≤ 1000000000) (hp : p ≤ 1000000000) :
  Sound Tryz.prog 32 [dcbA d,.lst .any 1 (arL t),.agg [.v (.int .i64 (p:Nat)),.v (.int .i64 (n:Nat))]] (resB (memM d t p n)):=by
 refine zn9 Tryz.func32 rfl (by decide +kernel) (by simp [Tryz.f32]) (by simp [AV.rfL,AV.rf]) (by simp [AV.tlL,AV.tl]) (rs:=[.cell 6 25,.cell 7 30]) rfl ?_
 rw [show Tryz.f32.ntmps=36 from rfl]
 have hin:=mb_in d t p n hl ht hf hd hp
 refine yr9 [1,3,5,6,7] (by simp;rfl) ?_
 refine yr9 [1,3,5,6,7,8] (by simp;rfl) ?_
 refine yh9 ?_
 refine W_rK [3,6,7,8,12] ?_
 refine yq9 2 (by simp;rfl) rfl ?_
 refine xp9 (f:=70) (args:=[.lst .any 1 (arL t),.agg [.v (.int .i64 (p:Nat)),.v (.int .i64 (n:Nat))]]) (by simp) (by simp) ((recs24_callW t p n _ (by simp [yn9,zj9,AObj.under,AV.under,AV.underL])).mono ?_)
 rintro r h' ⟨rfl,rfl⟩
 refine ⟨_,by simp;rfl,?_⟩
 refine yw9 (by simp;rfl) ?_
 refine yl9 ?_
 refine wc8 (Qc:=fun _ h'=>mbQ d t p n h') rfl ?_ ?_
 ·exact hin
 rintro _ _ ⟨o,x,st,rA,rE,hx,hm,h3,h1,h2,rfl⟩
 have hseq:=uc7 t p n
 rw [hm] at hseq
 dsimp only at hseq
 refine ⟨36,_,_,_,_,_,rfl,?_⟩
 obtain rfl | rfl | rfl:st=0∨st=1∨st=2:=by omega
 ·obtain ⟨rfl,rfl⟩:=h2 (by omega)
  rw [if_neg (by omega)] at hseq
  have hme:memM d t p n=([],5):=by unfold memM;rw [hseq]
  rw [hme]
  refine (show Wt true 0 Tryz.prog _ _ _ from ?_)
  refine ym9 [3,6,7,8] ?_
  refine yr9 [6,7] (by simp [zg9,yk9];rfl) ?_
  refine yj9 ?_
  repeat (first | refine yp9 ?_ | refine ys9 ?_)
  exact ⟨.tup [.lst .nil 1 [],.v (.int .i64 5)],by simp [retQ],.tup2 (.nil (by decide +kernel)) (.refl _)⟩
 ·obtain ⟨rfl,rfl⟩:=h1 rfl
  rw [if_pos rfl] at hseq
  have hme:memM d t p n=unbM d o:=by unfold memM;rw [hseq]
  rw [hme]
  refine (show retU _ _ _ .ret _ from ?_)
  exact ⟨_,by simp [retQ];exact ⟨rfl,by simp⟩,.norm fun T=>by simp [resB]⟩
 ·obtain ⟨rfl,rfl⟩:=h2 (by omega)
  rw [if_neg (by omega)] at hseq
  have hme:memM d t p n=([],5):=by unfold memM;rw [hseq]
  rw [hme]
  refine (show Wt true 0 Tryz.prog _ _ _ from ?_)
  refine ym9 [3,6,7,8] ?_
  refine yr9 [6,7] (by simp [zg9,yk9];rfl) ?_
  refine yj9 ?_
  repeat (first | refine yp9 ?_ | refine ys9 ?_)
  exact ⟨.tup [.lst .nil 1 [],.v (.int .i64 5)],by simp [retQ],.tup2 (.nil (by decide +kernel)) (.refl _)⟩
set_option maxRecDepth 20000
def rdM (d:Dcb) (t:List (List Rec)) (s:List UInt8):List (List UInt8) × Int :=
 if (uq9 t).isNone=true∨vw8 d=false then ([],5) else match ys7 t s with | none=>([],3) | some e=>memM d t e.trk e.rn
theorem wr8 {n:Nat} {H:List AObj} {e:Int}:retU Tryz.prog [.tmp 6,.tmp 7] (resB ([],e)) .ret ⟨n,[(6,.lst .nil 1 []),(7,.v (.int .i64 e))],H⟩ :=
 ⟨.tup [.lst .nil 1 [],.v (.int .i64 e)],by simp [retQ],.tup2 (.nil (by decide +kernel)) (.refl _)⟩
theorem findR_findM {t:List (List Rec)} {L:List RE} {n:Nat} (he:uq9 t=some (L,n)) (s:List UInt8):(yp7 L s).2=(ys7 t s).isSome∧∀ e,ys7 t s=some e→L[(yp7 L s).1]?=some e:=by
 obtain ⟨hLl,hn,h8,hpw⟩:=wt8 he
 rw [ys7,he,yp7]
 simp only
 split
 ·rw [find_pos hpw]
  unfold fndE
  cases h0:L[posE L (padK s)]? with
  | none=>simp
  | some e =>
   by_cases hk:e.key == padK s
   ·simp only [hk,if_true]
    exact ⟨rfl,fun e' he'=>he'⟩
   ·simp [hk]
 ·simp
theorem wb6 (d:Dcb) {t:List (List Rec)} (ht:TIn t) (hf:t.flatten.length≤1800000) (s:List UInt8) (hs:s.length≤1000000000):Sound Tryz.prog 8 [dcbA d,.lst .any 1 (arL t),strB s] (resB (rdM d t s)):=by
 refine zn9 Tryz.func8 rfl (by decide +kernel) (by simp [Tryz.f8]) (by simp [AV.rfL,AV.rf,strB]) (by simp [AV.tlL,AV.tl,strB]) (rs:=[.tmp 6,.tmp 7]) rfl ?_
 rw [show Tryz.f8.ntmps=43 from rfl]
 have hr:=qm8 ht
 have hpart:=zb7 d
 simp only [dcbA] at hpart
 obtain ⟨S,hS⟩:∃ S,strB s=S:=⟨_,rfl⟩
 have hSv:∃ u,S=.v u:=⟨_,hS.symm⟩
 refine yr9 [1,2,3] (by simp [strB];rfl) ?_
 cases he:uq9 t with
 | none =>
  rw [zc7 he] at hr
  obtain ⟨p,hp⟩:∃ p,qk9 t=p:=⟨_,rfl⟩
  rw [hp] at hr
  have hm:rdM d t s=([],5):=by unfold rdM;rw [if_pos (.inl (by rw [he];rfl))]
  rw [hm]
  refine W_rK [1,2,3,8,9] ?_
  refine yq9 1 (by simp;rfl) rfl ?_
  refine yf9 (by simp) (by first | (simp;done) | (simp;rfl)) hr (by simp;rfl) ?_
  refine yw9 (by simp [yk9];rfl) ?_
  refine yh9 ?_
  refine W_rK [1,2,3,8,23] ?_
  refine yw9 (by simp;rfl) ?_
  refine yt9 (t:=true) rfl (fun h=>?_) (fun h=>by simp at h)
  refine yr9 [6,7] (by simp;rfl) ?_
  refine yj9 ?_
  repeat (first | refine yp9 ?_ | refine ys9 ?_)
  exact wr8
 | some p =>
  obtain ⟨L,n⟩:=p
  rw [zl7 he] at hr
  obtain ⟨hLl,hn,h8,hpw⟩:=wt8 he
  have hok:=(zw8 he).ok
  have hfd:=wt6 L n s hs hpw h8 (by omega)
  rw [hS] at hfd
  obtain ⟨u,rfl⟩:=hSv
  obtain ⟨r1,r2⟩:=findR_findM he s
  rw [r1] at hfd
  obtain ⟨i,hi⟩:∃ i,(yp7 L s).1=i:=⟨_,rfl⟩
  rw [hi] at hfd r2
  have hSu:AV.v (.string ⟨s.toArray⟩)=.v u:=hS
  rw [hSu]
  refine W_rK [1,2,3,8,9] ?_
  refine yq9 1 (by simp;rfl) rfl ?_
  refine yf9 (by simp) (by first | (simp;done) | (simp;rfl)) hr (by simp;rfl) ?_
  refine yw9 (by simp [yk9];rfl) ?_
  refine yh9 ?_
  refine W_rK [1,2,3,8,23] ?_
  refine yq9 4 (by simp;rfl) rfl ?_
  refine yf9 (by simp) (by first | (simp;done) | (simp;rfl)) hpart (by simp;rfl) ?_
  refine yw9 (by simp;rfl) ?_
  cases hp:vw8 d with
  | false =>
   have hm:rdM d t s=([],5):=by unfold rdM;rw [if_pos (.inr hp)]
   rw [hm]
   refine yt9 (t:=true) rfl (fun h=>?_) (fun h=>by simp at h)
   refine yr9 [6,7] (by simp;rfl) ?_
   refine yj9 ?_
   repeat (first | refine yp9 ?_ | refine ys9 ?_)
   exact wr8
  | true =>
   have hm0:rdM d t s=match ys7 t s with | none=>([],3) | some e=>memM d t e.trk e.rn:=by
    unfold rdM
    rw [if_neg (by rw [he,hp];simp)]
   refine yt9 (t:=false) rfl (fun h=>by simp at h) (fun h=>?_)
   refine ym9 [1,2,3,8] ?_
   refine yg9 ?_
   repeat (first | refine on_norm ?_ | refine in_norm ?_)
   refine W_rK [1,3,8,10,11] ?_
   refine yq9 2 (by simp [zg9];rfl) rfl ?_
   refine yf9 (by simp) (by first | (simp;done) | (simp;rfl)) hfd (by simp;rfl) ?_
   refine yw9 (by simp;rfl) ?_
   refine yh9 ?_
   cases hmf:ys7 t s with
   | none =>
    rw [hmf] at hm0
    rw [hm0]
    refine yr9 [1,3,8,10,31] (by simp [hmf];rfl) ?_
    refine yt9 (t:=true) rfl (fun h=>?_) (fun h=>by simp at h)
    refine yr9 [6,7] (by simp;rfl) ?_
    refine yj9 ?_
    repeat (first | refine yp9 ?_ | refine ys9 ?_)
    exact wr8
   | some e =>
    rw [hmf] at hm0
    rw [hm0]
    have hge:=r2 e hmf
    obtain ⟨hil,hge2⟩:=List.getElem?_eq_some_iff.1 hge
    have hili:(i:Int) < (L.length:Nat):=by omega
    have hem:=List.mem_of_getElem? hge
    have he8:=h8 e hem
    have hdr:List.drop 8 (reC e)=[.v (.int .i64 (e.trk:Nat)),.v (.int .i64 (e.rn:Nat))]:=by rw [reC,List.drop_left' (by simp [he8])]
    have hmem:=xn7 d t e.trk e.rn ht.n ht.rows hf (fun l hl r hr=>(ht.d l hl r hr).2) (by have:=(hok e hem).2.1;omega)
    simp only [dcbA,resB] at hmem
    refine yr9 [1,3,8,10,31] (by simp [hmf];rfl) ?_
    refine yt9 (t:=false) rfl (fun h=>by simp at h) (fun h=>?_)
    refine ym9 [1,3,8,10] ?_
    refine yg9 ?_
    repeat (first | refine on_norm ?_ | refine in_norm ?_)
    refine wr9 [6,7] mx (by decide +kernel) ?_
    refine yd9 4 (by simp [zg9];rfl) rfl ?_
    refine yd9 4 (by simp [hil,hili,hge2,reA,hdr,zm9 he8];rfl) rfl ?_
    refine yv9 (by simp) (by first | (simp;done) | (simp;rfl)) hmem (by simp;rfl) ?_
    refine yb9 (by simp;rfl) ?_
    refine yj9 ?_
    repeat (first | refine yp9 ?_ | refine ys9 ?_)
    exact ⟨_,by simp [retQ];exact ⟨rfl,by simp⟩,.norm fun T=>by simp [resB]⟩
set_option maxRecDepth 20000
def resT (p:List (List Rec) × Int):AV:=.tup [.lst (.tip 80 1) 1 (arL p.1),.v (.int .i64 p.2)]
end Go.AM
