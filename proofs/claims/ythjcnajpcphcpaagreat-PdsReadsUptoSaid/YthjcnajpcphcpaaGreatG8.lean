/- Parts of the walk: C24MA C24MB C24N C24O C24Q C24QA C24R. -/
import Derived.Test.YthjcnajpcphcpaaGreatG7
namespace Go.AM
open Go.RowKit Go.Proofs
set_option linter.unusedSimpArgs false
set_option linter.unusedVariables false
set_option maxHeartbeats 8000000
set_option maxRecDepth 20000
noncomputable def badC:Code:=match sq2 (sq1 readY) with | .cond _ a _=>a | c=>c
theorem vs7 {t : List (List Rec)} {L : List RE} {fl : Fl} (hfl : OE fl L) (hbad : kt9 t = false) {n q : Nat} {K : St → Prop} :
  Wt true 0 Tryz.prog badC (zw9 K (retU Tryz.prog [.cell 2 70,.tmp 3] (.tup [.agg [.lst (.tip 78 1) 10 (reL (qk9 t).1),.v (.int .i64 ((qk9 t).2.1:Nat))],.v (.bool (qk9 t).2.2)]))) ⟨121,[(0,.lst .any 1 (arL t)),(2,.loc 0 0),(3,.v (.bool false)),(4,.loc 1 0),(5,.v (.int .i64 (q:Nat))),(112,.v (.bool true))],[.cells 70 [.lst .nil 10 [],.v (.int .i64 0)],.cells 70 [.lst fl 10 (reL L),.v (.int .i64 (n:Nat))]]⟩:=by
 refine yr9 [2,3] (by simp [↓zq9 hfl,yk9];rfl) ?_
 refine yj9 ?_
 repeat (first | refine yp9 ?_ | refine ys9 ?_)
 exact ⟨.tup [.agg [.lst .nil 10 [],.v (.int .i64 0)],.v (.bool false)],by simp [retQ],by rw [qk9,hbad];exact Le_bad⟩
theorem read_good {t : List (List Rec)} {L : List RE} (hLok : ∀ e ∈ L, okE e) {n q : Nat} (hLn : L.length ≤ 1000000000) (hn : n ≤ 64) (hTl : q ≤ t.length) {fl : Fl} (hfl : OE fl L) (hgood : kt9 t = true)
  (hP:qk9 t=if kt9 t then (L,n,decide (layG L n=t.take q)) else ([],0,false)) :
  Wt true 0 Tryz.prog (sq2 readY) (retU Tryz.prog [.cell 2 70,.tmp 3] (.tup [.agg [.lst (.tip 78 1) 10 (reL (qk9 t).1),.v (.int .i64 ((qk9 t).2.1:Nat))],.v (.bool (qk9 t).2.2)])) ⟨121,[(0,.lst .any 1 (arL t)),(2,.loc 0 0),(3,.v (.bool false)),(4,.loc 1 0),(5,.v (.int .i64 (q:Nat)))],[.cells 70 [.lst .nil 10 [],.v (.int .i64 0)],.cells 70 [.lst fl 10 (reL L),.v (.int .i64 (n:Nat))]]⟩:=by
 have h8:∀ e∈L,e.key.length=8:=fun e he=>(hLok e he).1
 have hlay:=lay_sound L n h8 (fun e he=>by have:=hLok e he;exact ⟨by have:=this.2.1;omega,by have:=this.2.2;omega⟩) (by omega) (by omega)
 have heq:=eqTs_sound (layG L n) (t.take q) (by rw [qc9];omega) (fun x hx=>by
  obtain ⟨j,hj,rfl⟩:=List.mem_map.1 hx
  rw [List.length_map,List.length_take]
  omega)
 have hqi:(q:Int)≤t.length:=by omega
 rw [hP,hgood]
 obtain ⟨G,hG⟩:∃ G,layG L n=G:=⟨_,rfl⟩
 rw [hG] at hlay heq ⊢
 refine W_rsK 7 [2,3] mx (by decide +kernel) ?_
 refine yd9 2 (by simp [↓zq9 hfl];rfl) rfl ?_
 refine yv9 (by simp) (by first | (simp;done) | (simp;rfl)) hlay (by simp [↓zq9 hfl];rfl) ?_
 refine yd9 3 (by simp [↓zq9 hfl,hTl,hqi];rfl) rfl ?_
 refine yv9 (by simp) (by first | (simp [← qt8];done) | (simp [← qt8];rfl)) heq (by simp [↓zq9 hfl];rfl) ?_
 refine yb9 (by simp;rfl) ?_
 refine yw9 (by simp [↓zq9 hfl,yk9];rfl) ?_
 refine yj9 ?_
 repeat (first | refine yp9 ?_ | refine ys9 ?_)
 refine ⟨.tup [.agg [.lst fl 10 (reL L),.v (.int .i64 (n:Nat))],.v (.bool (decide (G=t.take q)))],by rcases hfl with ⟨rfl,_⟩ | rfl <;> simp [retQ,AV.rf,AV.rfL],AV.Le.tup2 (AV.Le.agg rfl fun j x y hx hy=>?_) (.refl _)⟩
 match j with
 | 0 =>
  simp at hx hy;subst hx hy
  rcases hfl with ⟨rfl,h0⟩ | rfl
  ·rw [h0];exact AV.Le.nil (by decide +kernel)
  ·exact AV.Le.norm fun T=>rfl
 | 1=>simp at hx hy;subst hx hy;exact .refl _
 | j+2=>simp at hx
theorem read_tail (t:List (List Rec)) (hl:t.length≤100000000) (hf:(dirT t).flatten.length≤40000000) (h256:∀ r∈(dirT t).flatten,r.data.length=256) {fl:Fl} (hfl:OE fl (rawE (dirT t).flatten)):Wt true 0 Tryz.prog readY (retU Tryz.prog [.cell 2 70,.tmp 3] (.tup [.agg [.lst (.tip 78 1) 10 (reL (qk9 t).1),.v (.int .i64 ((qk9 t).2.1:Nat))],.v (.bool (qk9 t).2.2)])) ⟨121,[(0,.lst .any 1 (arL t)),(2,.loc 0 0),(3,.v (.bool false)),(4,.loc 1 0),(5,.v (.int .i64 ((dirT t).length:Nat)))],[.cells 70 [.lst .nil 10 [],.v (.int .i64 0)],.cells 70 [.lst fl 10 (reL (rawE (dirT t).flatten)),.v (.int .i64 ((dirT t).flatten.length:Nat))]]⟩:=by
 have hT:dirT t=t.take (dirT t).length:=by
  have:=congrArg (List.take (dirT t).length) (jt9 t)
  rw [List.take_left'] at this
  ·exact this.symm
  ·rfl
 have hTl:(dirT t).length≤t.length:=by
  have:=congrArg List.length (jt9 t)
  rw [List.length_append] at this
  omega
 have hLl:=jg8 h256
 have hro:kt9 t=(decide (1≤(dirT t).flatten.length)&&(decide ((dirT t).flatten.length≤64)&&(decide (((dirT t).flatten.length+5) / 6=(dirT t).length)&&ordE (rawE (dirT t).flatten)))):=by rw [kt9,decide_eq_true h256,Bool.true_and]
 have hLok:∀ e∈rawE (dirT t).flatten,okE e:=zv7
 have hP:qk9 t=if kt9 t then (rawE (dirT t).flatten,(dirT t).flatten.length,decide (layG (rawE (dirT t).flatten) (dirT t).flatten.length=t.take (dirT t).length)) else ([],0,false):=by rw [qk9,← hT]
 clear h256
 obtain ⟨L,hL⟩:∃ L,rawE (dirT t).flatten=L:=⟨_,rfl⟩
 obtain ⟨n,hn⟩:∃ n,(dirT t).flatten.length=n:=⟨_,rfl⟩
 obtain ⟨T,hTT⟩:∃ T,(dirT t).length=T:=⟨_,rfl⟩
 rw [hL,hn,hTT] at hP hro
 rw [hL] at hfl hLl hLok
 rw [hL,hn,hTT]
 rw [hn] at hf hLl
 rw [hTT] at hTl
 clear hT
 have h8:∀ e∈L,e.key.length=8:=fun e he=>(hLok e he).1
 refine yh9 ?_
 by_cases c1:n=0
 ·subst c1
  have hbad:kt9 t=false:=by rw [hro];rfl
  refine W_rK [0,2,3,4,5,112] ?_
  refine yq9 4 (by simp [↓zq9 hfl];rfl) rfl ?_
  refine yq9 5 (by simp [↓zq9 hfl];rfl) rfl ?_
  refine yq9 6 (by simp [↓zq9 hfl];rfl) rfl ?_
  refine yw9 (by simp [↓zq9 hfl];rfl) ?_
  refine yt9 rfl (fun h=>?_) (fun h=>by simp at h)
  exact vs7 hfl hbad
 have d1:¬ (n:Int) < 1:=by omega
 have d1n:¬ n < 1:=by omega
 by_cases c2:64 < n
 ·have d2:(64:Int) < (n:Int):=by omega
  have hbad:kt9 t=false:=by rw [hro,decide_eq_false (p:=n≤64) (by omega),Bool.false_and,Bool.and_false]
  refine W_rK [0,2,3,4,5,112] ?_
  refine yq9 4 (by simp [↓zq9 hfl,c1,d1,d1n,c2,d2];rfl) rfl ?_
  refine yq9 5 (by simp [↓zq9 hfl,c1,d1,d1n,c2,d2];rfl) rfl ?_
  refine yq9 6 (by simp [↓zq9 hfl,c1,d1,d1n,c2,d2];rfl) rfl ?_
  refine yw9 (by simp [↓zq9 hfl,c1,d1,d1n,c2,d2];rfl) ?_
  refine yt9 rfl (fun h=>?_) (fun h=>by simp at h)
  exact vs7 hfl hbad
 have d2:¬ (64:Int) < (n:Int):=by omega
 have htr:=up9 L n (by omega)
 obtain ⟨q,hq⟩:∃ q,(n+5) / 6=q:=⟨_,rfl⟩
 rw [hq] at htr
 by_cases c3:q=T
 ·subst c3
  have hor:=ud6 L n h8 (by omega)
  cases ho:ordE L with
  | false =>
   rw [ho] at hor
   have hbad:kt9 t=false:=by rw [hro,ho,Bool.and_false,Bool.and_false,Bool.and_false]
   refine W_rK [0,2,3,4,5,112] ?_
   refine yq9 4 (by simp [↓zq9 hfl,c1,d1,d1n,c2,d2];rfl) rfl ?_
   refine yq9 5 (by simp [↓zq9 hfl,c1,d1,d1n,c2,d2];rfl) rfl ?_
   refine yq9 1 (by simp [↓zq9 hfl,c1,d1,d1n,c2,d2];rfl) rfl ?_
   refine yf9 (by simp) (by first | (simp;done) | (simp;rfl)) htr (by simp [↓zq9 hfl];rfl) ?_
   refine yq9 5 (by simp [↓zq9 hfl];rfl) rfl ?_
   refine yf9 (by simp) (by first | (simp;done) | (simp;rfl)) hor (by simp [↓zq9 hfl];rfl) ?_
   refine yw9 (by simp [↓zq9 hfl];rfl) ?_
   refine yt9 rfl (fun h=>?_) (fun h=>by simp at h)
   exact vs7 hfl hbad
  | true =>
   rw [ho] at hor
   have hgood:kt9 t=true:=by rw [hro,ho,hq,decide_eq_true (p:=1≤n) (by omega),decide_eq_true (p:=n≤64) (by omega),decide_eq_true rfl];rfl
   refine W_rK [0,2,3,4,5,112] ?_
   refine yq9 4 (by simp [↓zq9 hfl,c1,d1,d1n,c2,d2];rfl) rfl ?_
   refine yq9 5 (by simp [↓zq9 hfl,c1,d1,d1n,c2,d2];rfl) rfl ?_
   refine yq9 1 (by simp [↓zq9 hfl,c1,d1,d1n,c2,d2];rfl) rfl ?_
   refine yf9 (by simp) (by first | (simp;done) | (simp;rfl)) htr (by simp [↓zq9 hfl];rfl) ?_
   refine yq9 5 (by simp [↓zq9 hfl];rfl) rfl ?_
   refine yf9 (by simp) (by first | (simp;done) | (simp;rfl)) hor (by simp [↓zq9 hfl];rfl) ?_
   refine yw9 (by simp [↓zq9 hfl];rfl) ?_
   refine yt9 rfl (fun h=>by simp at h) (fun h=>?_)
   refine yg9 ?_
   repeat (first | refine on_norm ?_ | refine in_norm ?_)
   refine ym9 [0,2,3,4,5] ?_
   exact read_good hLok (by omega) (by omega) hTl hfl hgood hP
 ·have d3:¬ (q:Int)=(T:Int):=by omega
  have d4:((q:Int) != (T:Int))=true:=by simp;omega
  have hbad:kt9 t=false:=by rw [hro,hq,decide_eq_false c3,Bool.false_and,Bool.and_false,Bool.and_false]
  refine W_rK [0,2,3,4,5,112] ?_
  refine yq9 4 (by simp [↓zq9 hfl,c1,d1,d1n,c2,d2];rfl) rfl ?_
  refine yq9 5 (by simp [↓zq9 hfl,c1,d1,d1n,c2,d2];rfl) rfl ?_
  refine yq9 1 (by simp [↓zq9 hfl,c1,d1,d1n,c2,d2];rfl) rfl ?_
  refine yf9 (by simp) (by first | (simp;done) | (simp;rfl)) htr (by simp [↓zq9 hfl];rfl) ?_
  refine yq9 4 (by simp [↓zq9 hfl,c3,d3,d4];rfl) rfl ?_
  refine yw9 (by simp [↓zq9 hfl,c3,d3,d4];rfl) ?_
  refine yt9 rfl (fun h=>?_) (fun h=>by simp at h)
  exact vs7 hfl hbad
set_option maxRecDepth 20000
theorem read_sound (t:List (List Rec)) (hl:t.length≤100000000) (ht:∀ r∈t,r.length≤100000000) (hf:(dirT t).flatten.length≤40000000) (hd:∀ l∈t,∀ r∈l,r.data.length≤1000000000):Sound Tryz.prog 29 [.lst .any 1 (arL t)] (.tup [.agg [.lst (.tip 78 1) 10 (reL (qk9 t).1),.v (.int .i64 ((qk9 t).2.1:Nat))],.v (.bool (qk9 t).2.2)]):=by
 refine zn9 Tryz.func29 rfl (by decide +kernel) (by simp [Tryz.f29]) (by simp [AV.rfL,AV.rf]) (by simp [AV.tlL,AV.tl]) (rs:=[.cell 2 70,.tmp 3]) rfl ?_
 rw [show Tryz.f29.ntmps=121 from rfl]
 refine yr9 [0,2,3] (by simp;rfl) ?_
 refine yr9 [0,2,3,4] (by simp;rfl) ?_
 refine yr9 [0,2,3,4,5] (by simp;rfl) ?_
 refine wf7 (fun σ=>(∀ r∈(dirT t).flatten,r.data.length=256)∧∃ fl,OE fl (rawE (dirT t).flatten)∧σ=⟨121,[(0,.lst .any 1 (arL t)),(2,.loc 0 0),(3,.v (.bool false)),(4,.loc 1 0),(5,.v (.int .i64 ((dirT t).length:Nat)))],[.cells 70 [.lst .nil 10 [],.v (.int .i64 0)],.cells 70 [.lst fl 10 (reL (rawE (dirT t).flatten)),.v (.int .i64 ((dirT t).flatten.length:Nat))]]⟩) ?_ ?_
 ·refine yr9 [0, 2, 3, 4, 5, 14, 15, 16] (by simp; rfl) ?_
  refine yl9 ?_
  refine zf9 (fun q σ=>∃ i:Nat,q=t.length - i∧i≤t.length∧(∀ l∈t.take i,us9 l=true)∧(∀ r∈(t.take i).flatten,r.data.length=256)∧∃ fl L n,rawE (t.take i).flatten=L∧(t.take i).flatten.length=n∧OE fl L∧σ=⟨121,[(0,.lst .any 1 (arL t)),(2,.loc 0 0),(3,.v (.bool false)),(4,.loc 1 0),(5,.v (.int .i64 (i:Nat))),(14,.lst .any 1 (arL t)),(15,.v (.int .i64 (t.length:Nat))),(16,.v (.int .i64 (i:Nat)))],[.cells 70 [.lst .nil 10 [],.v (.int .i64 0)],.cells 70 [.lst fl 10 (reL (L)),.v (.int .i64 (n:Nat))]]⟩) (k:=t.length) ⟨0,rfl,by omega,by simp,by simp,.nil,[],0,rfl,rfl,.inl ⟨rfl,rfl⟩,by simp⟩ ?_
  rintro q σ ⟨i,rfl,hi,hk,h256,fl,L,n,hL,hn,hfl,rfl⟩
  by_cases c:i < t.length
  ·have ci : (i : Int) < t.length := by omega
   have wi:=w64 (n:=(i:Int)+1) (by omega) (by omega)
   obtain ⟨l,hli⟩:∃ l,t[i]?=some l:=⟨_,List.getElem?_eq_getElem c⟩
   have hgl:t[i]'c=l:=by rw [List.getElem?_eq_getElem c] at hli;exact Option.some.inj hli
   have hlm:=List.mem_of_getElem? hli
   have hll:=ht l hlm
   have hky:=keyed_sound l (by omega)
   refine yr9 [0,2,3,4,5,14,15,16,17] (by simp [↓zq9 hfl,c,ci];rfl) ?_
   refine yh9 ?_
   refine yt9 rfl (fun h=>?_) (fun h=>by simp at h)
   refine yg9 ?_
   refine yh9 ?_
   refine yl9 ?_
   refine yr9 [0,2,3,4,5,14,15,16,7] (by simp [↓zq9 hfl,c,ci,hgl,yk9];rfl) ?_
   refine yh9 ?_
   obtain ⟨KY,hKY⟩:∃ K,us9 l=K:=⟨_,rfl⟩
   rw [hKY] at hky
   cases KY with
   | false =>
    refine W_rK [0,2,3,4,5,14,15,16,7,22] ?_
    refine yq9 1 (by simp [↓zq9 hfl];rfl) rfl ?_
    refine yf9 (by simp) (by first | (simp;done) | (simp;rfl)) hky (by simp [↓zq9 hfl];rfl) ?_
    refine yw9 (by simp [↓zq9 hfl];rfl) ?_
    refine yt9 rfl (fun h=>?_) (fun h=>by simp at h)
    have hdt:=yk7 (by omega) hk (fun l' hl'=>by rw [hli] at hl';obtain rfl:=Option.some.inj hl';exact hKY)
    rw [hdt]
    refine ym9 [0,2,3,4,5] ?_
    refine zs9 ?_
    repeat (first | refine on_exit ?_ | refine in_exit ?_)
    exact ⟨h256,fl,hL.symm ▸ hfl,by rw [hL,hn];simp [Nat.min_eq_left hi]⟩
   | true =>
   refine W_rK [0,2,3,4,5,14,15,16,7,22] ?_
   refine yq9 1 (by simp [↓zq9 hfl];rfl) rfl ?_
   refine yf9 (by simp) (by first | (simp;done) | (simp;rfl)) hky (by simp [↓zq9 hfl];rfl) ?_
   refine yw9 (by simp [↓zq9 hfl];rfl) ?_
   refine yt9 rfl (fun h=>by simp at h) (fun h=>?_)
   refine yg9 ?_
   repeat (first | refine on_norm ?_ | refine in_norm ?_)
   have htk1:t.take (i+1)=t.take i++[l]:=by rw [List.take_add_one,hli];rfl
   have hk1:∀ x∈t.take (i+1),us9 x=true:=by
    intro x hx
    rw [htk1,List.mem_append,List.mem_singleton] at hx
    rcases hx with hx | rfl
    ·exact hk x hx
    ·exact hKY
   obtain ⟨rr,hrr⟩:=dirT_has hk1
   have hfl1:(t.take (i+1)).flatten=(t.take i).flatten++l:=by rw [htk1];simp
   have hnl:n+l.length≤40000000:=by
    have h1:=congrArg (fun x=>x.flatten.length) hrr
    simp only [List.flatten_append,List.length_append,hfl1] at h1
    omega
   have hmem:∀ r∈l,r∈(dirT t).flatten:=by
    intro r hr
    rw [hrr,List.flatten_append,hfl1]
    simp [hr]
   refine wf7 (fun σ=>(∀ r∈l,r.data.length=256)∧∃ fl,OE fl (L++rawE l)∧σ=⟨121,[(0,.lst .any 1 (arL t)),(2,.loc 0 0),(3,.v (.bool false)),(4,.loc 1 0),(5,.v (.int .i64 (i:Nat))),(14,.lst .any 1 (arL t)),(15,.v (.int .i64 (t.length:Nat))),(16,.v (.int .i64 (i:Nat)))],[.cells 70 [.lst .nil 10 [],.v (.int .i64 0)],.cells 70 [.lst fl 10 (reL (L++rawE l)),.v (.int .i64 (n+l.length:Nat))]]⟩) ?_ ?_
   ·refine yr9 [0, 2, 3, 4, 5, 14, 15, 16, 23, 24, 25] (by simp [↓zq9 hfl]; rfl) ?_
    refine yl9 ?_
    refine zf9 (fun q σ=>∃ j:Nat,q=l.length - j∧j≤l.length∧(∀ r∈l.take j,r.data.length=256)∧∃ fl M,L++rawE (l.take j)=M∧OE fl M∧σ=⟨121,[(0,.lst .any 1 (arL t)),(2,.loc 0 0),(3,.v (.bool false)),(4,.loc 1 0),(5,.v (.int .i64 (i:Nat))),(14,.lst .any 1 (arL t)),(15,.v (.int .i64 (t.length:Nat))),(16,.v (.int .i64 (i:Nat))),(23,.lst .any 4 (trL l)),(24,.v (.int .i64 (l.length:Nat))),(25,.v (.int .i64 (j:Nat)))],[.cells 70 [.lst .nil 10 [],.v (.int .i64 0)],.cells 70 [.lst fl 10 (reL (M)),.v (.int .i64 (n+j:Nat))]]⟩) (k:=l.length) ⟨0,rfl,by omega,by simp,fl,L,by simp [rawE],hfl,by simp⟩ ?_
    clear hfl
    rintro q σ ⟨j,rfl,hj,h256j,fl,M,hM,hfl,rfl⟩
    by_cases cj:j < l.length
    ·have cji : (j : Int) < l.length := by omega
     have wj:=w64 (n:=(j:Int)+1) (by omega) (by omega)
     have wn:=w64 (n:=(n:Int)+(j:Int)+1) (by omega) (by omega)
     obtain ⟨r,hr⟩:∃ r,l[j]?=some r:=⟨_,List.getElem?_eq_getElem cj⟩
     have hgr:l[j]'cj=r:=by rw [List.getElem?_eq_getElem cj] at hr;exact Option.some.inj hr
     have hrm:=List.mem_of_getElem? hr
     have hrd:=hd l hlm r hrm
     refine yr9 [0,2,3,4,5,14,15,16,23,24,25,26] (by simp [↓zq9 hfl,cj,cji];rfl) ?_
     refine yh9 ?_
     refine yt9 (t:=true) (by simp [cj,cji]) (fun h=>?_) (fun h=>by simp at h)
     refine yg9 ?_
     refine yh9 ?_
     refine yl9 ?_
     refine yr9 [0,2,3,4,5,14,15,16,23,24,25,9] (by simp [↓zq9 hfl,cj,cji,hgr,yk9];rfl) ?_
     refine yh9 ?_
     by_cases h256r:r.data.length=256
     ·have h256i : (r.data.length : Int) = 256 := by omega
      refine yr9 [0,2,3,4,5,14,15,16,23,24,25,9,32] (by simp [↓zq9 hfl,h256r,h256i];rfl) ?_
      refine yt9 (t:=false) (by simp [h256r,h256i]) (fun h=>by simp at h) (fun h=>?_)
      refine yg9 ?_
      repeat (first | refine on_norm ?_ | refine in_norm ?_)
      refine yr9 [0,2,3,4,5,14,15,16,23,24,25,9] (by simp [↓zq9 hfl,wn,yk9];rfl) ?_
      have hha:=half_sound r.data (by omega) (by omega)
      have hmin:=halfX_min (r.data.getD 0 0) (r.data.getD 1 0)
      obtain ⟨u,hu⟩:∃ u,halfX (r.data.getD 0 0).toNat (r.data.getD 1 0).toNat=u:=⟨_,rfl⟩
      rw [hu] at hha hmin
      obtain ⟨hm1,hu0,hu1⟩:=hmin
      refine W_rK [0,2,3,4,5,14,15,16,23,24,25,9,10] ?_
      refine yq9 2 (by simp [↓zq9 hfl];rfl) rfl ?_
      refine yf9 (by simp) (by first | (simp;done) | (simp;rfl)) hha (by simp [↓zq9 hfl];rfl) ?_
      refine yw9 (by simp [↓zq9 hfl];rfl) ?_
      obtain ⟨D,hD⟩:∃ D,r.data=D:=⟨_,rfl⟩
      have hDl:D.length=256:=by rw [← hD];exact h256r
      have hlim:min u 256=(limE D:Nat):=by rw [hm1,limE,hDl,hD]
      have hlim2:limE D≤256:=by rw [limE,hDl];exact Nat.min_le_right _ _
      have wu:IntKind.i64.wrap u=u:=w64 (by omega) (by omega)
      rw [hD]
      refine yr9 [0,2,3,4,5,14,15,16,23,24,25,9,10,12] (by simp [↓zq9 hfl];rfl) ?_
      have hNb:M.length≤21 * 40000000:=by
       rw [← hM,List.length_append,← hL]
       have z1:=jg8 h256
       have z2:=jg8 h256j
       rw [List.length_take] at z2
       omega
      rw [show (↑n+↑j+1:Int)=((n+j+1:Nat):Int) by omega] at *
      refine read_ents hDl hfl hNb hlim hu0 hu1 fun fl N hN hfl=>?_
      have hNf:L++rawE (l.take (j+1))=N:=by
       rw [List.take_add_one,hr,Option.toList_some,ql9,← List.append_assoc,hM,← hN]
       simp only [rawE,List.map_cons,List.map_nil,List.flatten_cons,List.flatten_nil,List.append_nil,hD,zk8]
      repeat (first | refine on_norm ?_ | refine in_norm ?_)
      refine vp9 2 (Nat.zero_le _) (by simp) (by simp [zj9,AV.under,AV.underL]) (by simp [yn9,AObj.under,AV.under,AV.underL,reL]) ?_
      refine zr9 [0,2,3,4,5,14,15,16,23,24,25] (by simp [↓zq9 hfl,wj];rfl) ?_
      refine ⟨_,by omega,j+1,rfl,by omega,?_,fl,N,hNf,hfl,by simp [Int.add_assoc]⟩
      intro x hx
      rw [List.take_add_one,hr,Option.toList_some,List.mem_append,List.mem_singleton] at hx
      rcases hx with hx | rfl
      ·exact h256j x hx
      ·exact h256r
     ·have h256i : ¬ (r.data.length : Int) = 256 := by omega
      have hbad:kt9 t=false:=by
       rw [kt9,decide_eq_false (fun h=>h256r (h r (hmem r hrm)))]
       rfl
      refine yr9 [0,2,3,4,5,14,15,16,23,24,25,9,32] (by simp [↓zq9 hfl,h256r,h256i];rfl) ?_
      refine yt9 (t:=true) (by simp [h256r,h256i]) (fun h=>?_) (fun h=>by simp at h)
      refine yr9 [2,3] (by simp [↓zq9 hfl,yk9];rfl) ?_
      refine yj9 ?_
      repeat (first | refine yp9 ?_ | refine ys9 ?_)
      exact ⟨.tup [.agg [.lst .nil 10 [],.v (.int .i64 0)],.v (.bool false)],by simp [retQ],by rw [qk9,hbad];exact Le_bad⟩
    ·have hje:j=l.length:=by omega
     subst hje
     have ncj:¬ (l.length:Int) < l.length:=by omega
     refine yr9 [0,2,3,4,5,14,15,16,26] (by simp [↓zq9 hfl];rfl) ?_
     refine yh9 ?_
     refine yt9 rfl (fun h=>by simp at h) (fun h=>?_)
     refine ym9 [0,2,3,4,5,14,15,16] ?_
     refine zs9 ?_
     repeat (first | refine on_exit ?_ | refine in_exit ?_)
     rw [List.take_length] at hM h256j
     exact ⟨h256j,fl,hM.symm ▸ hfl,by rw [hM];simp⟩
   ·clear hfl
    rintro σ ⟨h256l,fl,hfl,rfl⟩
    obtain ⟨M,hM⟩:∃ M,L++rawE l=M:=⟨_,rfl⟩
    rw [hM] at hfl ⊢
    refine zr9 [0,2,3,4,5,14,15,16] (by simp [↓zq9 hfl,wi];rfl) ?_
    repeat (first | refine on_norm ?_ | refine in_norm ?_)
    refine zr9 [0,2,3,4,5,14,15,16] (by simp [↓zq9 hfl,wi];rfl) ?_
    refine ⟨_,by omega,i+1,rfl,by omega,hk1,?_,fl,M,n+l.length,by rw [hfl1,ql9,hL,hM],by rw [hfl1,List.length_append,hn],hfl,by simp⟩
    intro r hr
    rw [hfl1,List.mem_append] at hr
    rcases hr with hr | hr
    ·exact h256 r hr
    ·exact h256l r hr
  ·have hie:i=t.length:=by omega
   have hdt:=yk7 (i:=i) (by omega) hk (fun l' hl'=>by rw [List.getElem?_eq_none (by omega)] at hl';cases hl')
   refine yr9 [0,2,3,4,5,17] (by simp [↓zq9 hfl,hie];rfl) ?_
   refine yh9 ?_
   refine yt9 (t:=false) (by simp [hie]) (fun h=>by simp at h) (fun h=>?_)
   rw [hdt]
   refine ym9 [0,2,3,4,5] ?_
   refine zs9 ?_
   repeat (first | refine on_exit ?_ | refine in_exit ?_)
   exact ⟨h256,fl,hL.symm ▸ hfl,by rw [hL,hn];simp [hie]⟩
 ·rintro σ ⟨h256,fl,hfl,rfl⟩
  exact read_tail t hl hf h256 hfl
set_option maxRecDepth 20000
def kg7 (cs:List AV) (n i:Nat) (x:List AV):List AV:=cs.take (i * 10)++(x++(cs.take (n * 10)).drop (i * 10))
def vals (cs:List AV):Prop:=∀ y∈cs,(∃ v,y=AV.v v)∨y=.any
theorem vals_nil:vals []:=by intro y h;simp at h
theorem xb8 {a b:List AV} (ha:vals a) (hb:vals b):vals (a++b):=by
 intro y h
 rcases List.mem_append.1 h with h | h
 ·exact ha y h
 ·exact hb y h
theorem vt8 {a:List AV} (ha:vals a) (n:Nat):vals (a.take n):=fun y h=>ha y (List.mem_of_mem_take h)
theorem ur7 {a:List AV} (ha:vals a) (n:Nat):vals (a.drop n):=fun y h=>ha y (List.mem_of_mem_drop h)
theorem vg9 (e:RE):vals (reC e):=by
 intro y h
 rw [reC_v] at h
 obtain ⟨v,_,rfl⟩:=List.mem_map.1 h
 exact .inl ⟨v,rfl⟩
theorem ud8 {a b:List AV} (ha:vals a) (hb:vals b) (o:Nat):vals (yk9 a o b):=by
 unfold yk9
 exact xb8 (xb8 (vt8 ha _) hb) (ur7 ha _)
theorem ws9 {m : Nat} : ∀ {a : List AV}, vals a → AV.underL m a = true
 | [],_=>rfl
 | y :: a,h=>by
  rcases h y List.mem_cons_self with ⟨v,rfl⟩ | rfl <;> simp [AV.underL,AV.under,ws9 (fun z hz=>h z (List.mem_cons_of_mem _ hz))]
theorem kb8 {zs : List AV} (h : vals zs) : ∀ n : Nat, vals (repC n zs)
 | 0=>by simp [repC,vals_nil]
 | n+1=>by rw [repC];exact xb8 h (kb8 h n)
def zc78:List AV:=byL (List.replicate 8 0)++[.v (.int .i64 0),.v (.int .i64 0)]
theorem uq7:vals zc78:=vg9 ⟨List.replicate 8 0,0,0⟩
theorem vs9 {m : Nat} : ∀ {H : List AObj} {i : Nat} {o : AObj}, yn9 m H = true → o.under m = true → yn9 m (H.set i o) = true
 | [],_,_,_,_=>rfl
 | x :: H,0,o,h,ho=>by
  simp only [yn9,Bool.and_eq_true,List.set_cons_zero] at h ⊢
  exact ⟨ho,h.2⟩
 | x :: H,i+1,o,h,ho=>by
  simp only [yn9,Bool.and_eq_true,List.set_cons_succ] at h ⊢
  exact ⟨h.1,vs9 h.2 ho⟩
theorem ins_drop (cs:List AV) (n i:Nat) (hin:i≤n):(cs.take (n * 10)).drop (i * 10)=(cs.drop (i * 10)).take ((n - i) * 10):=by
 rw [List.drop_take,Nat.sub_mul]
theorem seg_ins1 (cs : List AV) {n i : Nat} {X Y : List AV} (hin : i ≤ n) (hl : (n + 1) * 10 ≤ cs.length) (hX : X.length = 10) (hY : Y = (cs.drop (i * 10)).take ((n - i) * 10)) :
  (yk9 (yk9 cs ((i+1) * 10) Y) (i * 10) X).take ((n+1) * 10)=kg7 cs n i X:=by
 have hYl:Y.length=(n - i) * 10:=by rw [hY,List.length_take,List.length_drop];omega
 have h1:(yk9 cs ((i+1) * 10) Y).take (i * 10)=cs.take (i * 10):=by
  rw [yk9,List.append_assoc,List.take_append_of_le_length (by rw [List.length_take];omega),List.take_take,Nat.min_eq_left (by omega)]
 have h2:(yk9 cs ((i+1) * 10) Y).drop (i * 10+X.length)=Y++cs.drop ((i+1) * 10+Y.length):=by
  rw [yk9,List.append_assoc,hX,List.drop_left' (by rw [List.length_take];omega)]
 rw [show yk9 (yk9 cs ((i + 1) * 10) Y) (i * 10) X = (yk9 cs ((i + 1) * 10) Y).take (i * 10) ++ X ++ (yk9 cs ((i + 1) * 10) Y).drop (i * 10 + X.length) from rfl, h1, h2, ← List.append_assoc,
  List.take_left' (by rw [List.length_append,List.length_append,List.length_take,hX,hYl];omega),kg7,ins_drop cs n i hin,← hY,List.append_assoc]
theorem seg_ins2 (cs Z : List AV) {n i : Nat} {X Y : List AV} (hin : i ≤ n) (hl : n * 10 ≤ cs.length) (hX : X.length = 10) (hY : Y = (cs.drop (i * 10)).take ((n - i) * 10)) :
  (yk9 (yk9 (cs.take (i * 10)++Z) (i * 10) X) ((i+1) * 10) Y).take ((n+1) * 10)=kg7 cs n i X:=by
 have hYl:Y.length=(n - i) * 10:=by rw [hY,List.length_take,List.length_drop];omega
 have hA:(cs.take (i * 10)).length=i * 10:=by rw [List.length_take];omega
 have h1:(yk9 (cs.take (i * 10)++Z) (i * 10) X).take ((i+1) * 10)=cs.take (i * 10)++X:=by
  rw [yk9,List.take_left' (l₁:=cs.take (i * 10)) hA,List.take_left' (by rw [List.length_append,hA,hX];omega)]
 rw [show yk9 (yk9 (cs.take (i * 10) ++ Z) (i * 10) X) ((i + 1) * 10) Y = (yk9 (cs.take (i * 10) ++ Z) (i * 10) X).take ((i + 1) * 10) ++ Y ++ (yk9 (cs.take (i * 10) ++ Z) (i * 10) X).drop ((i + 1) * 10 + Y.length) from rfl, h1,
  List.take_left' (by rw [List.length_append,List.length_append,hA,hX,hYl];omega),kg7,ins_drop cs n i hin,← hY,List.append_assoc]
theorem sl78:slI Tryz.prog 68=some (78,true,10):=by kernel_rfl
theorem ap78:apI Tryz.prog 78=some (10,24):=by kernel_rfl
theorem zz78:zA Tryz.prog 78=some (.agg zc78):=by kernel_rfl
def InsQ (H:List AObj) (id n i:Nat) (x:RE) (cs:List AV) (r:AV) (h':List AObj):Prop :=
 ∃ cap' cs', n + 1 ≤ cap' ∧ cap' ≤ maxLen ∧ cs'.length = cap' * 10 ∧ vals cs' ∧ cs'.take ((n + 1) * 10) = kg7 cs n i (reC x) ∧
  ((r=.arr id 0 (n+1) cap'∧h'=H.set id (.cells 78 cs'))∨(r=.arr H.length 0 (n+1) cap'∧h'=H++[.cells 78 cs']))
theorem ins_set {H : List AObj} (hh : yn9 H.length H = true) {id n i cap : Nat} {x : RE} {cs cs' : List AV} {e : Exit} (he : e = .normal ∨ e = .ret) {fr : List (Nat × AV)} (h6 : getF fr 6 = some (.arr id 0 (n + 1) cap)) (hid : id < H.length)
  (h1:n+1≤cap) (h2:cap≤maxLen) (h3:cs'.length=cap * 10) (h4:vals cs') (h5:cs'.take ((n+1) * 10)=kg7 cs n i (reC x)) :
  retW Tryz.prog [.tmp 6] H.length (InsQ H id n i x cs) e ⟨95,fr,H.set id (.cells 78 cs')⟩:=by
 refine ⟨he,.arr id 0 (n+1) cap,.arr id 0 (n+1) cap,H.set id (.cells 78 cs'),H.length,by simp [resA,h6],.inl ⟨rfl,rfl⟩,Nat.le_refl _,by simp,by simp [AV.under,hid],?_,⟨cap,cs',h1,h2,h3,h4,h5,.inl ⟨rfl,?_⟩⟩⟩
 ·rw [List.take_of_length_le (by simp)]
  exact vs9 hh (ws9 h4)
 ·rw [List.take_of_length_le (by simp)]
theorem ins_new {H : List AObj} (hh : yn9 H.length H = true) {id n i cap : Nat} {x : RE} {cs cs' : List AV} {e : Exit} (he : e = .normal ∨ e = .ret) {fr : List (Nat × AV)} (h6 : getF fr 6 = some (.arr H.length 0 (n + 1) cap))
  (h1:n+1≤cap) (h2:cap≤maxLen) (h3:cs'.length=cap * 10) (h4:vals cs') (h5:cs'.take ((n+1) * 10)=kg7 cs n i (reC x)) :
  retW Tryz.prog [.tmp 6] H.length (InsQ H id n i x cs) e ⟨95,fr,H++[.cells 78 cs']⟩:=by
 refine ⟨he,.arr H.length 0 (n+1) cap,.arr H.length 0 (n+1) cap,H++[.cells 78 cs'],H.length+1,by simp [resA,h6],.inl ⟨rfl,rfl⟩,by omega,by simp,by simp [AV.under],?_,⟨cap,cs',h1,h2,h3,h4,h5,.inr ⟨rfl,?_⟩⟩⟩
 ·rw [List.take_of_length_le (by simp),xt9,wg9 (by omega) _ hh]
  simp only [yn9,Bool.and_true,Bool.true_and]
  exact ws9 h4
 ·rw [List.take_of_length_le (by simp)]
theorem insert_callW (x : RE) (hx : x.key.length = 8) (cs : List AV) (i n cap : Nat) (hi : i ≤ n) (hn : n ≤ cap) (hcap : cap ≤ maxLen) (hcs : cs.length = cap * 10) (hv : vals cs) (hb : n ≤ 1000000000)
  (H:List AObj) (hh:yn9 H.length H=true) (id vid:Nat) (h1:H[id]?=some (.cells 78 cs)) (h2:H[vid]?=some (.cells 78 (reC x))) (hne:id≠vid) :
  wp9 Tryz.prog 82 [.arr id 0 n cap,.v (.int .i64 (i:Nat)),.arr vid 0 1 1] H (InsQ H id n i x cs):=by
 have hid:id < H.length:=(List.getElem?_eq_some_iff.1 h1).1
 have hvid:vid < H.length:=(List.getElem?_eq_some_iff.1 h2).1
 have hxl:(reC x).length=10:=zm9 hx
 have htx:(reC x).take 10=reC x:=List.take_of_length_le (by omega)
 have w1:=w64 (n:=(n:Int)+1) (by omega) (by omega)
 have w2:=w64 (n:=(i:Int)+1) (by omega) (by omega)
 have hmL:maxLen=9223372036854775807:=rfl
 refine zh9 Tryz.func82 rfl (by decide +kernel) (by simp [Tryz.f82]) (rs:=[.tmp 6]) rfl ?_
 rw [show Tryz.f82.ntmps=95 from rfl]
 have hii:(i:Int)≤(n:Int):=by omega
 have hic:i≤cap:=by omega
 have hici:(i:Int)≤(cap:Int):=by omega
 refine yr9 [0,1,2,6] (by simp;rfl) ?_
 refine yr9 [0,1,2,6] (by simp [hi,hii,hic,hici];rfl) ?_
 refine yr9 [0,1,2,6,7] (by simp;rfl) ?_
 refine yh9 ?_
 refine W_cF [0,1,2,7,16] (by simp;rfl) rfl ?_
 refine yg9 ?_
 refine yr9 [0,1,2,7,8] (by simp;rfl) ?_
 refine yh9 ?_
 by_cases hin:i=n
 ·subst hin
  have hd0:(cs.take (i * 10)).drop (i * 10)=[]:=List.drop_eq_nil_of_le (by rw [List.length_take];omega)
  refine W_cT [0,1,2,7,8,22] (by simp;rfl) rfl ?_
  refine W_rK [6] ?_
  refine yq9 2 (by simp;rfl) rfl ?_
  refine jb9 (t:=68) (e:=78) (sz:=10) (by_:=24) (id:=id) (len:=i) (cap:=cap) (m:=1) (cs:=cs) (yc:=reC x) (by simp) rfl rfl rfl rfl (by simp) (by simp [srcA,h2,hxl,htx]) sl78 ap78 zz78 ⟨rfl,by omega,by omega⟩ (by simp [h1]) hcs (by omega) ?_
  rintro s1 x1 (⟨hr,rfl,rfl⟩ | ⟨hr,cap',hc1,hc2,rfl,rfl⟩)
  ·refine ⟨_,by simp;rfl,?_⟩
   refine yw9 (by simp;rfl) ?_
   refine yj9 ?_
   repeat (first | refine yp9 ?_ | refine ys9 ?_)
   have hfit:i * 10+(reC x).length≤cs.length:=by omega
   refine ins_set hh (.inr rfl) (by simp) hid hr hcap (by rw [zd9 _ _ _ hfit,hcs]) (ud8 hv (vg9 x) _) ?_
   rw [yk9,kg7,hd0,List.append_nil,List.append_assoc,← List.append_assoc (cs.take (i * 10)),List.take_left' (by rw [List.length_append,List.length_take,hxl];omega)]
  ·refine ⟨_, by simp; rfl, ?_⟩
   refine yw9 (by simp;rfl) ?_
   refine yj9 ?_
   repeat (first | refine yp9 ?_ | refine ys9 ?_)
   refine ins_new hh (.inr rfl) (by simp) hc1 hc2 ?_ (xb8 (vt8 hv _) (xb8 (vg9 x) (kb8 uq7 _))) ?_
   ·rw [List.length_append,List.length_append,List.length_take,hxl,qj9,show zc78.length=10 from rfl]
    omega
   ·rw [kg7,hd0,List.append_nil,← List.append_assoc,List.take_left' (by rw [List.length_append,List.length_take,hxl];omega)]
 ·have hinI : ¬ (i : Int) = (n : Int) := by omega
  have hinB:((i:Int) == (n:Int))=false:=by simp;omega
  refine yr9 [0,1,2,7,8,22] (by simp [hin,hinI,hinB];rfl) ?_
  refine yt9 (t:=false) (by simp [hin,hinI,hinB]) (fun h=>by simp at h) (fun h=>?_)
  refine yg9 ?_
  repeat (first | refine on_norm ?_ | refine in_norm ?_)
  refine yh9 ?_
  by_cases hroom:n+1≤cap
  ·have c1 : ¬ cap < n + 1 := by omega
   have c2:¬ (cap:Int) < (n:Int)+1:=by omega
   have c3:(n:Int)+1≤(cap:Int):=by omega
   refine yr9 [0,1,2,7,8,31] (by simp [w1,c1,c2,c3,hroom];rfl) ?_
   refine yt9 (t:=false) (by simp [c1,c2]) (fun h=>by simp at h) (fun h=>?_)
   refine yg9 ?_
   repeat (first | refine on_norm ?_ | refine in_norm ?_)
   refine yr9 [0,1,2,7,8] (by simp [w1,c1,c2,c3,hroom];rfl) ?_
   refine yh9 ?_
   refine W_rGK [0,1,2,7,8,68] ?_
   refine kc9 6 _ _ ?_
   have e1:i+1≤n+1:=by omega
   have p1:(0:Int)≤(i:Int)+1:=by omega
   have q1:¬ cap=i+1:=by omega
   have q2:¬ cap=i:=by omega
   have e3:i≤n+1:=by omega
   have e4:(i:Int)≤(n:Int)+1:=by omega
   have e2:(i:Int)+1≤(n:Int)+1:=by omega
   refine yw9 (by simp [w2,e1,e2,hi,hii];rfl) ?_
   refine qf8 rfl ?_
   refine yp6 (f:=114) (fn:=Tryz.f114) (k1:=61) (k2:=66) (tS:=68) (tR:=4) (id1:=vid) (id2:=id) rfl (by simp) rfl Tryz.func114 (by decide +kernel) (by kernel_rfl) (by kernel_rfl) (by kernel_rfl) sl78 rfl rfl (Ne.symm hne) h2 h1 (by intro h;rw [h] at hcs;simp at hcs;omega) ?_
   refine ⟨_,by simp;rfl,?_⟩
   refine kc9 1 _ _ ?_
   refine yw9 (by simp;rfl) ?_
   refine yt9 rfl (fun h=>?_) (fun h=>by simp at h)
   refine W_rsGK 8 [0,1,2,7] mx (by decide +kernel) ?_
   refine yb9 (by simp [w2,e1,e2,hi,hii,p1,q1,q2,e3,e4];rfl) ?_
   refine qf8 rfl ?_
   refine jl9 (t:=68) (t':=68) (e:=78) (e2:=78) (sz:=10) (id:=id) (off:=(i+1) * 10) (len:=n+1 - (i+1)) (cap:=cap - (i+1)) (m:=n+1 - i) (ag:=true) (cs:=cs) (yc:=(cs.drop (i * 10)).take ((n+1 - i) * 10)) rfl rfl rfl rfl (by simp) (by
    have:i * 10+(n+1 - i) * 10≤cs.length:=by omega
    simp [srcA,h1,this]) sl78 (by omega) (by simp [h1]) (by omega) ?_
   obtain ⟨Y,hY⟩:∃ Y,(cs.drop (i * 10)).take ((n - i) * 10)=Y:=⟨_,rfl⟩
   have hYl:Y.length=(n - i) * 10:=by rw [← hY,List.length_take,List.length_drop];omega
   have hY2:((cs.drop (i * 10)).take ((n+1 - i) * 10)).take (min (n+1 - i) (n+1 - (i+1)) * 10)=Y:=by
    rw [List.take_take,← hY]
    congr 1
    omega
   rw [hY2]
   have hvY:vals Y:=by rw [← hY];exact vt8 (ur7 hv _) _
   have hfit1:(i+1) * 10+Y.length≤cs.length:=by omega
   refine ⟨_,by simp;rfl,?_⟩
   refine W_rGK [0,1,2,7] ?_
   refine kc9 4 _ _ ?_
   refine yw9 (by simp [hi,hii,e3,e4,q2];rfl) ?_
   refine qf8 rfl ?_
   refine jl9 (t:=68) (t':=68) (e:=78) (e2:=78) (sz:=10) (id:=id) (off:=i * 10) (len:=n+1 - i) (cap:=cap - i) (m:=1) (ag:=true) (cs:=yk9 cs ((i+1) * 10) Y) (yc:=reC x) rfl rfl rfl rfl (by simp) (by
    simp [srcA,List.getElem?_set,hne,h2,hxl,htx]) sl78 (by omega) (by simp [List.getElem?_set,hid]) (by rw [zd9 _ _ _ hfit1];omega) ?_
   have hx2:(reC x).take (min 1 (n+1 - i) * 10)=reC x:=by rw [Nat.min_eq_left (by omega)];exact htx
   rw [hx2]
   refine ⟨_,by simp;rfl,?_⟩
   refine yr9 [6] (by simp;rfl) ?_
   refine yj9 ?_
   repeat (first | refine yp9 ?_ | refine ys9 ?_)
   have hfit2:i * 10+(reC x).length≤(yk9 cs ((i+1) * 10) Y).length:=by rw [zd9 _ _ _ hfit1];omega
   exact ins_set hh (.inr rfl) (by simp) hid hroom hcap (by rw [zd9 _ _ _ hfit2,zd9 _ _ _ hfit1,hcs]) (ud8 (ud8 hv hvY _) (vg9 x) _) (seg_ins1 cs hi (by omega) hxl hY.symm)
  ·have hnc : n = cap := by omega
   have c1:cap < n+1:=by omega
   have c2:(cap:Int) < (n:Int)+1:=by omega
   have w3:=w64 (n:=(n:Int)+1 - (i:Int)) (by omega) (by omega)
   refine yr9 [0,1,2,7,8,31] (by simp [w1,c1,c2];rfl) ?_
   refine yt9 (t:=true) (by simp [c1,c2]) (fun h=>?_) (fun h=>by simp at h)
   refine W_rGK [0,1,2,7,8,9] ?_
   refine kc9 8 _ _ ?_
   refine yw9 (by simp [w1,w3,hi,hii,hic,hici];rfl) ?_
   refine qf8 rfl ?_
   have hz:i+(n+1 - i)=n+1:=by omega
   refine stepW_appZ (kn:=.i64) (k1:=34) (k2:=39) (t:=68) (tn:=3) (e:=78) (sz:=10) (by_:=24) (id:=id) (len:=i) (cap:=cap) (n:=n+1 - i) (cs:=cs) rfl rfl rfl rfl (by simp) (by simp;omega) sl78 (by kernel_rfl) ap78 zz78 ⟨rfl,by omega,by omega⟩ (by simp [h1]) (by omega) (by omega) (by omega) (by omega) ?_
   intro cap' hc1 hc2
   rw [hz] at hc1 ⊢
   obtain ⟨Z,hZ⟩:∃ Z,repC (cap' - i) (AV.agg zc78).cells=Z:=⟨_,rfl⟩
   have hZl:Z.length=(cap' - i) * 10:=by rw [← hZ,qj9];rfl
   have hvZ:vals Z:=by rw [← hZ];exact kb8 uq7 _
   rw [hZ]
   refine ⟨_,by simp;rfl,?_⟩
   refine kc9 1 _ _ ?_
   refine yw9 (by simp;rfl) ?_
   have q1:¬ cap'=i+1:=by omega
   have q2:¬ cap'=i:=by omega
   have e3:i≤n+1:=by omega
   have e4:(i:Int)≤(n:Int)+1:=by omega
   refine W_rGK [0,1,2,7,8,9] ?_
   refine kc9 4 _ _ ?_
   refine yw9 (by simp [e3,e4,q2];rfl) ?_
   refine qf8 rfl ?_
   have hA:(cs.take (i * 10)).length=i * 10:=by rw [List.length_take];omega
   have hA0:(cs.take (i * 10)++Z).length=cap' * 10:=by rw [List.length_append,hA,hZl];omega
   refine jl9 (t:=68) (t':=68) (e:=78) (e2:=78) (sz:=10) (id:=H.length) (off:=i * 10) (len:=n+1 - i) (cap:=cap' - i) (m:=1) (ag:=true) (cs:=cs.take (i * 10)++Z) (yc:=reC x) rfl rfl rfl rfl (by simp) (by
    simp [srcA,List.getElem?_append_left hvid,h2,hxl,htx]) sl78 (by omega) (by simp) (by rw [hA0];omega) ?_
   have hx2:(reC x).take (min 1 (n+1 - i) * 10)=reC x:=by rw [Nat.min_eq_left (by omega)];exact htx
   rw [hx2]
   have hfit1:i * 10+(reC x).length≤(cs.take (i * 10)++Z).length:=by rw [hA0];omega
   have hset:∀ (o o':AObj),(H++[o]).set H.length o'=H++[o']:=by intro o o';simp
   refine ⟨_,by simp;rfl,?_⟩
   have p1:(0:Int)≤(i:Int)+1:=by omega
   have e5:i+1≤n+1:=by omega
   have e6:(i:Int)+1≤(n:Int)+1:=by omega
   refine W_rsGK 8 [6,9] mx (by decide +kernel) ?_
   have q3:¬ cap=i:=by omega
   refine yb9 (by simp [w2,e3,e4,e5,e6,p1,q1,q3,hi,hii];rfl) ?_
   refine qf8 rfl ?_
   obtain ⟨Y,hY⟩:∃ Y,(cs.drop (i * 10)).take ((n - i) * 10)=Y:=⟨_,rfl⟩
   have hYl:Y.length=(n - i) * 10:=by rw [← hY,List.length_take,List.length_drop];omega
   have hvY:vals Y:=by rw [← hY];exact vt8 (ur7 hv _) _
   have hl1:(yk9 (cs.take (i * 10)++Z) (i * 10) (reC x)).length=cap' * 10:=by rw [zd9 _ _ _ hfit1,hA0]
   refine jl9 (t:=68) (t':=68) (e:=78) (e2:=78) (sz:=10) (id:=H.length) (off:=(i+1) * 10) (len:=n+1 - (i+1)) (cap:=cap' - (i+1)) (m:=n - i) (ag:=true) (cs:=yk9 (cs.take (i * 10)++Z) (i * 10) (reC x)) (yc:=Y) rfl rfl rfl rfl (by simp) (by
    have:i * 10+(n - i) * 10≤cs.length:=by omega
    simp [srcA,List.getElem?_append_left hid,h1,this,hY]) sl78 (by omega) (by simp) (by rw [hl1];omega) ?_
   have hY2:Y.take (min (n - i) (n+1 - (i+1)) * 10)=Y:=List.take_of_length_le (by rw [hYl];omega)
   rw [hY2]
   have hfit2:(i+1) * 10+Y.length≤(yk9 (cs.take (i * 10)++Z) (i * 10) (reC x)).length:=by rw [hl1];omega
   refine ⟨_,by simp;rfl,?_⟩
   refine yr9 [6] (by simp;rfl) ?_
   refine yj9 ?_
   repeat (first | refine yp9 ?_ | refine ys9 ?_)
   refine ins_new hh (.inr rfl) (by simp) hc1 hc2 (by rw [zd9 _ _ _ hfit2,hl1]) (ud8 (ud8 (xb8 (vt8 hv _) hvZ) (vg9 x) _) hvY _) (seg_ins2 cs Z hi (by omega) hxl hY.symm)
set_option maxRecDepth 20000
def InsN (H:List AObj) (x:RE) (r:AV) (h':List AObj):Prop :=
 ∃ cap' cs',1≤cap'∧cap'≤maxLen∧cs'.length=cap' * 10∧vals cs'∧cs'.take 10=reC x∧r=.arr H.length 0 1 cap'∧h'=H++[.cells 78 cs']
theorem wk7 (x : RE) (hx : x.key.length = 8) (H : List AObj) (hh : yn9 H.length H = true) (vid : Nat) (h2 : H[vid]? = some (.cells 78 (reC x))) :
  wp9 Tryz.prog 82 [.lst .nil 10 [],.v (.int .i64 0),.arr vid 0 1 1] H (InsN H x):=by
 have hxl:(reC x).length=10:=zm9 hx
 have htx:(reC x).take 10=reC x:=List.take_of_length_le (by omega)
 refine zh9 Tryz.func82 rfl (by decide +kernel) (by simp [Tryz.f82]) (rs:=[.tmp 6]) rfl ?_
 rw [show Tryz.f82.ntmps=95 from rfl]
 iterate 2 refine yr9 [0,1,2,6] (by simp;rfl) ?_
 refine yr9 [0,1,2,6,7] (by simp;rfl) ?_
 refine yh9 ?_
 refine W_cF [0,1,2,7,16] (by simp;rfl) rfl ?_
 refine yg9 ?_
 refine yr9 [0,1,2,7,8] (by simp;rfl) ?_
 refine yh9 ?_
 refine W_cT [0,1,2,7,8,22] (by simp;rfl) rfl ?_
 refine W_rK [6] ?_
 refine yq9 2 (by simp;rfl) rfl ?_
 refine runA_nilA (t:=68) (e:=78) (sz:=10) (by_:=24) (s0:=10) (x0:=[]) (m:=1) (yc:=reC x) (by simp) rfl rfl rfl rfl (by simp) (by simp [srcA,h2,hxl,htx]) sl78 ap78 zz78 ⟨rfl,by omega,by omega⟩ (by omega) (by omega) ?_
 intro cap' hc1 hc2
 obtain ⟨Z,hZ⟩:∃ Z,repC (cap' - 1) (AV.agg zc78).cells=Z:=⟨_,rfl⟩
 have hZl:Z.length=(cap' - 1) * 10:=by rw [← hZ,qj9];rfl
 have hvZ:vals Z:=by rw [← hZ];exact kb8 uq7 _
 rw [hZ]
 refine ⟨_,by simp;rfl,?_⟩
 refine yw9 (by simp;rfl) ?_
 refine yj9 ?_
 repeat (first | refine yp9 ?_ | refine ys9 ?_)
 have hvv:vals (reC x++Z):=xb8 (vg9 x) hvZ
 refine ⟨.inr rfl,.arr H.length 0 1 cap',.arr H.length 0 1 cap',H++[.cells 78 (reC x++Z)],H.length+1,by simp,.inl ⟨rfl,by simp⟩,by omega,by simp,by simp [AV.under],?_,⟨cap',reC x++Z,hc1,hc2,by rw [List.length_append,hxl,hZl];omega,hvv,List.take_left' hxl,rfl,?_⟩⟩
 ·rw [List.take_of_length_le (by simp),xt9,wg9 (by omega) _ hh]
  simp only [yn9,Bool.and_true,Bool.true_and]
  exact ws9 hvv
 ·rw [List.take_of_length_le (by simp)]
set_option maxRecDepth 20000
theorem jd8 : ∀ {l : List RE}, (∀ e ∈ l, e.key.length = 8) → (reCs l).length = l.length * 10
 | [],_=>rfl
 | e :: l,h=>by
  have h1:(reC e).length=10:=zm9 (h e List.mem_cons_self)
  have h2:=jd8 (fun x hx=>h x (List.mem_cons_of_mem _ hx))
  simp only [reCs,List.map_cons,List.flatten_cons,List.length_append,h1,List.length_cons] at h2 ⊢
  omega
theorem vd7 (a b:List RE):reCs (a++b)=reCs a++reCs b:=by simp [reCs]
theorem vh8 (a:RE) (b:List RE):reCs (a :: b)=reC a++reCs b:=by simp [reCs]
theorem reCs_take {l:List RE} (h:∀ e∈l,e.key.length=8) (i:Nat):(reCs l).take (i * 10)=reCs (l.take i):=by
 rcases Nat.lt_or_ge i l.length with hi | hi
 ·conv=>lhs;rw [← List.take_append_drop i l]
  rw [vd7,List.take_left' (by rw [jd8 (fun e he=>h e (List.mem_of_mem_take he)),List.length_take,Nat.min_eq_left (by omega)])]
 ·rw [List.take_of_length_le (by rw [jd8 h];omega),List.take_of_length_le hi]
theorem qs7 {l:List RE} (h:∀ e∈l,e.key.length=8) (i:Nat):(reCs l).drop (i * 10)=reCs (l.drop i):=by
 rcases Nat.lt_or_ge i l.length with hi | hi
 ·conv=>lhs;rw [← List.take_append_drop i l]
  rw [vd7,List.drop_left' (by rw [jd8 (fun e he=>h e (List.mem_of_mem_take he)),List.length_take,Nat.min_eq_left (by omega)])]
 ·rw [List.drop_eq_nil_of_le (by rw [jd8 h];omega),List.drop_eq_nil_of_le hi]
  rfl
theorem vals_reCs (l:List RE):vals (reCs l):=by
 intro y h
 obtain ⟨x,hx,hy⟩:=List.mem_flatten.1 h
 obtain ⟨e,_,rfl⟩:=List.mem_map.1 hx
 exact vg9 e y hy
structure EntC (cs:List AV) (cap:Nat) (l:List RE):Prop where
 n:l.length≤cap
 mx:cap≤maxLen
 len:cs.length=cap * 10
 v:vals cs
 c:cs.take (l.length * 10)=reCs l
theorem EntC.cells {cs:List AV} {cap:Nat} {l:List RE} (h:EntC cs cap l) (h8:∀ e∈l,e.key.length=8):CellsRE cs l:=by
 intro i e he
 have hi:=(List.getElem?_eq_some_iff.1 he).1
 have h1:=h.n
 have h2:=h.len
 refine ⟨by omega,?_⟩
 have h3:((cs.take (l.length * 10)).drop (i * 10)).take 10=(cs.drop (i * 10)).take 10:=by
  rw [List.drop_take,List.take_take,Nat.min_eq_left (by omega)]
 rw [← h3,h.c,qs7 h8,List.drop_eq_getElem_cons hi,(List.getElem?_eq_some_iff.1 he).2,vh8,List.take_left' (zm9 (h8 e (List.mem_of_getElem? he)))]
theorem EntC.ins {cs cs' : List AV} {cap cap' i : Nat} {l : List RE} {x : RE} (h : EntC cs cap l) (h8 : ∀ e ∈ l, e.key.length = 8) (hi : i ≤ l.length) (h1 : l.length + 1 ≤ cap') (h2 : cap' ≤ maxLen) (h3 : cs'.length = cap' * 10) (h4 : vals cs')
  (h5:cs'.take ((l.length+1) * 10)=kg7 cs l.length i (reC x)):EntC cs' cap' (l.take i++x :: l.drop i):=by
 have hL:(l.take i++x :: l.drop i).length=l.length+1:=by simp;omega
 refine ⟨by rw [hL];exact h1,h2,h3,h4,?_⟩
 rw [hL,h5,kg7,h.c,qs7 h8,vd7,vh8]
 congr 1
 have:cs.take (i * 10)=(cs.take (l.length * 10)).take (i * 10):=by rw [List.take_take,Nat.min_eq_left (by omega)]
 rw [this,h.c,reCs_take h8]
theorem EntC.set {cs:List AV} {cap i:Nat} {l:List RE} {x:RE} (h:EntC cs cap l) (h8:∀ e∈l,e.key.length=8) (hi:i < l.length) (hx:x.key.length=8):EntC (yk9 cs (i * 10) (reC x)) cap (l.take i++x :: l.drop (i+1)):=by
 have hL:(l.take i++x :: l.drop (i+1)).length=l.length:=by simp;omega
 have hn:=h.n
 have hlen:=h.len
 have hxl:(reC x).length=10:=zm9 hx
 have hfit:i * 10+(reC x).length≤cs.length:=by omega
 refine ⟨by rw [hL];exact hn,h.mx,by rw [zd9 _ _ _ hfit];exact hlen,ud8 h.v (vg9 x) _,?_⟩
 have hA:(cs.take (i * 10)).length=i * 10:=by rw [List.length_take];omega
 have e1:cs.take (i * 10)=reCs (l.take i):=by
  have:cs.take (i * 10)=(cs.take (l.length * 10)).take (i * 10):=by rw [List.take_take,Nat.min_eq_left (by omega)]
  rw [this,h.c,reCs_take h8]
 have e2:(cs.drop (i * 10+10)).take ((l.length - (i+1)) * 10)=reCs (l.drop (i+1)):=by
  rw [← qs7 h8,← h.c,List.drop_take,show i * 10+10=(i+1) * 10 by omega]
  congr 1
  omega
 have key:∀ (A X R:List AV),A.length=i * 10→X.length=10→(A++(X++R)).take (l.length * 10)=A++(X++R.take ((l.length - (i+1)) * 10)):=by
  intro A X R h1 h2
  have z1:A.take (l.length * 10)=A:=List.take_of_length_le (by omega)
  have z2:X.take (l.length * 10 - i * 10)=X:=List.take_of_length_le (by omega)
  rw [List.take_append,z1,h1,List.take_append,z2,h2,show l.length * 10 - i * 10 - 10=(l.length - (i+1)) * 10 by omega]
 rw [hL,yk9,hxl,List.append_assoc,key _ _ _ hA hxl,e1,e2,vd7,vh8]
theorem EntC.new {cs:List AV} {cap:Nat} {x:RE} (h1:1≤cap) (h2:cap≤maxLen) (h3:cs.length=cap * 10) (h4:vals cs) (h5:cs.take 10=reC x):EntC cs cap [x]:=⟨h1,h2,h3,h4,by rw [show ([x]:List RE).length * 10=10 from rfl,h5];simp [reCs]⟩
def WithQ (H:List AObj) (id dir:Nat) (l:List RE) (r:AV) (h':List AObj):Prop :=
 ∃ cap' cs', EntC cs' cap' l ∧ ((r = .agg [.arr id 0 l.length cap', .v (.int .i64 (dir : Nat))] ∧ h' = H.set id (.cells 78 cs')) ∨
  (∃ g0 g1 g2 g3 g4,(∀ o∈[g0,g1,g2,g3,g4],o.under (H.length+6)=true)∧r=.agg [.arr (H.length+5) 0 l.length cap',.v (.int .i64 (dir:Nat))]∧h'=H++[g0,g1,g2,g3,g4,.cells 78 cs']))
theorem with_callW (l : List RE) (dir trk rn : Nat) (s : List UInt8) (hs : symM s = true) (hp : l.Pairwise ltE) (h8 : ∀ e ∈ l, e.key.length = 8) (hl : l.length ≤ 100000000)
  (H:List AObj) (hh:yn9 H.length H=true) (id cap:Nat) (cs:List AV) (hid:H[id]?=some (.cells 78 cs)) (hE:EntC cs cap l) :
  wp9 Tryz.prog 39 [.agg [.arr id 0 l.length cap,.v (.int .i64 (dir:Nat))],strB s,.agg [.v (.int .i64 (trk:Nat)),.v (.int .i64 (rn:Nat))]] H (WithQ H id dir (insE l ⟨padK s,trk,rn⟩)):=by
 obtain ⟨ha,h1,h8s⟩:=un9 hs
 have hkl:(padK s).length=8:=zt8 h8s
 have hidl:id < H.length:=(List.getElem?_eq_some_iff.1 hid).1
 obtain ⟨G,hG⟩:∃ G,G=[AObj.cells 70 [.arr id 0 l.length cap,.v (.int .i64 (dir:Nat))],.cells 55 [.v (.int .i64 (trk:Nat)),.v (.int .i64 (rn:Nat))],.cells 70 [.lst .nil 10 [],.v (.int .i64 0)]]:=⟨_,rfl⟩
 have hid2:(H++G)[id]?=some (.cells 78 cs):=by rw [List.getElem?_append_left hidl];exact hid
 have hf:=find_callW l dir s (by omega) hp h8 (by omega) (H++G) id cap cs hid2 (hE.cells h8) (by
  rw [hG,xt9]
  simp [yn9,AObj.under,AV.under,AV.underL]
  exact ⟨wg9 (by omega) _ hh,by omega⟩)
 have hk:=wg8 s hs
 obtain ⟨S,hS⟩:∃ S,strB s=S:=⟨_,rfl⟩
 have hSv:∃ u,S=.v u:=⟨_,hS.symm⟩
 rw [hS] at hf hk ⊢
 obtain ⟨u,rfl⟩:=hSv
 rw [yp7,if_pos hs] at hf
 obtain ⟨x,hx⟩:∃ x:RE,(⟨padK s,trk,rn⟩:RE)=x:=⟨_,rfl⟩
 have hxk:x.key=padK s:=by rw [← hx]
 have hx8:x.key.length=8:=by rw [hxk];exact hkl
 have hxc:byL (padK s)++[.v (.int .i64 (trk:Nat)),.v (.int .i64 (rn:Nat))]=reC x:=by rw [← hx];rfl
 have hpl:=posE_le l (padK s)
 rw [hx,insE,hxk]
 obtain ⟨i,hi⟩:∃ i,posE l (padK s)=i:=⟨_,rfl⟩
 have hfl:fndE l (padK s)=true→i < l.length:=by
  intro h
  rw [fndE,hi] at h
  cases h0:l[i]? with
  | none=>rw [h0] at h;cases h
  | some e=>exact (List.getElem?_eq_some_iff.1 h0).1
 obtain ⟨K,hK⟩:∃ K,padK s=K:=⟨_,rfl⟩
 rw [hK] at hfl hxc hk hkl hi
 rw [hK,hi] at hf hpl ⊢
 obtain ⟨B,hB⟩:∃ B,fndE l K=B:=⟨_,rfl⟩
 rw [hB] at hf hfl ⊢
 refine zh9 Tryz.func39 rfl (by decide +kernel) (by simp [Tryz.f39]) (rs:=[.cell 6 70]) rfl ?_
 rw [show Tryz.f39.ntmps=34 from rfl]
 refine yr9 [1,3,5,6] (by simp;rfl) ?_
 refine W_rK [1,3,5,6,7,8] ?_
 refine yq9 2 (by simp;rfl) rfl ?_
 rw [hG] at hf
 refine xp9 (f:=31) (args:=[.agg [.arr id 0 l.length cap,.v (.int .i64 (dir:Nat))],.v u]) (by simp) (by simp [wq9,xq9]) (hf.mono ?_)
 rintro r h' ⟨rfl,rfl⟩
 refine ⟨_,by simp;rfl,?_⟩
 refine yw9 (by simp;rfl) ?_
 have htx:(reC x).take 10=reC x:=List.take_of_length_le (by rw [zm9 hx8];omega)
 refine W_rsK 5 [1,3,5,6,7,8,9] mx (by decide +kernel) ?_
 refine yd9 1 (by simp;rfl) rfl ?_
 refine yv9 (by simp) (by first | (simp;done) | (simp;rfl)) hk (by simp;rfl) ?_
 have hdd:List.drop 10 (byL K++[AV.v (Value.int IntKind.i64 0),AV.v (Value.int IntKind.i64 0)])=[]:=List.drop_eq_nil_of_le (by simp [hkl])
 refine yd9 2 (by simp [yk9,hkl,hdd,hxc];rfl) rfl ?_
 refine yb9 (by simp;rfl) ?_
 have hxl:(reC x).length=10:=zm9 hx8
 refine yw9 (by simp [yk9,hxl];rfl) ?_
 refine yh9 ?_
 cases B with
 | true =>
  have hil:=hfl rfl
  have hili:(i:Int) < (l.length:Nat):=by omega
  have hlc:=hE.n
  have hcl:=hE.len
  refine W_cT [1,3,5,6,7,8,9,20] (by simp;rfl) rfl ?_
  have hfit:i * 10+(reC x).length≤cs.length:=by omega
  have hfit2:i * 10+10≤cs.length:=by omega
  refine zr9 [3,6] (by simp [hil,hili,List.getElem?_append_left hidl,hid,htx,hxl,List.set_append_left _ _ hidl,hfit2];rfl) ?_
  repeat (first | refine on_norm ?_ | refine in_norm ?_)
  have hL:(l.take i++x :: l.drop (i+1)).length=l.length:=by simp;omega
  have hset:=hE.set h8 hil hx8
  rw [if_pos rfl]
  obtain ⟨C,hC⟩:∃ C,yk9 cs (i * 10) (reC x)=C:=⟨_,rfl⟩
  rw [hC] at hset ⊢
  refine yr9 [6] (by simp [yk9];rfl) ?_
  refine yj9 ?_
  repeat (first | refine yp9 ?_ | refine ys9 ?_)
  refine ⟨.inr rfl,.agg [.arr id 0 l.length cap,.v (.int .i64 (dir:Nat))],_,_,H.length,by simp,.inl ⟨rfl,rfl⟩,Nat.le_refl _,by simp,by simp [AV.under,AV.underL,hidl],?_,⟨cap,_,hset,.inl ⟨by rw [hL],?_⟩⟩⟩
  ·simp only [List.take_left' (show (H.set id (AObj.cells 78 C)).length=H.length by simp)]
   exact vs9 hh (ws9 hset.v)
  ·simp only [List.take_left' (show (H.set id (AObj.cells 78 C)).length=H.length by simp)]
 | false =>
  rw [show (if false=true then 1 else 0:Nat)=0 from rfl,Nat.add_zero]
  refine W_cF [1,3,5,6,7,8,9,20] (by simp;rfl) rfl ?_
  refine W_rE [3,6] ?_
  refine yq9 4 (by simp [htx,hxl];rfl) rfl ?_
  refine xw8 (by simp) ⟨_,by simp [ys8,jd7,catK,AV.cellsK,AV.kone,AV.koneL,hxl];rfl,?_⟩
  obtain ⟨G4,hG4⟩:∃ G4,G4=[AObj.cells 70 [.arr id 0 l.length cap,.v (.int .i64 (dir:Nat))],.cells 55 [.v (.int .i64 (trk:Nat)),.v (.int .i64 (rn:Nat))],.cells 70 [.lst .nil 10 [],.v (.int .i64 0)],.cells 78 (reC x),.cells 78 (reC x)]:=⟨_,rfl⟩
  have hid4:(H++G4)[id]?=some (.cells 78 cs):=by rw [List.getElem?_append_left hidl];exact hid
  have hins:=insert_callW x hx8 cs i l.length cap hpl hE.n hE.mx hE.len hE.v (by omega) (H++G4) (by
   rw [hG4,xt9]
   simp [yn9,AObj.under,AV.under,AV.underL]
   exact ⟨wg9 (by omega) _ hh,by omega⟩) id (H.length+4) hid4 (by rw [hG4];simp) (by omega)
  rw [hG4] at hins
  refine xp9 (f:=82) (args:=[.arr id 0 l.length cap,.v (.int .i64 (i:Nat)),.arr (H.length+4) 0 1 1]) (by simp) (by simp [wq9,xq9]) (hins.mono ?_)
  rintro r h' ⟨cap',cs',g1,g2,g3,g4,g5,(⟨rfl,rfl⟩ | ⟨rfl,rfl⟩)⟩
  ·refine ⟨_, by simp; rfl, ?_⟩
   refine yw9 (by simp [List.set_append_left _ _ hidl,yk9];rfl) ?_
   repeat (first | refine on_norm ?_ | refine in_norm ?_)
   have hent:=hE.ins h8 hpl g1 g2 g3 g4 g5
   have hL:(l.take i++x :: l.drop i).length=l.length+1:=by simp;omega
   refine yr9 [6] (by simp [yk9];rfl) ?_
   refine yj9 ?_
   repeat (first | refine yp9 ?_ | refine ys9 ?_)
   refine ⟨.inr rfl,.agg [.arr id 0 (l.length+1) cap',.v (.int .i64 (dir:Nat))],_,_,H.length,by simp,.inl ⟨rfl,rfl⟩,Nat.le_refl _,by simp,by simp [AV.under,AV.underL,hidl],?_,⟨cap',_,hent,.inl ⟨by rw [hL],?_⟩⟩⟩
   ·simp only [List.take_left' (show (H.set id (AObj.cells 78 cs')).length=H.length by simp)]
    exact vs9 hh (ws9 g4)
   ·simp only [List.take_left' (show (H.set id (AObj.cells 78 cs')).length=H.length by simp)]
  ·refine ⟨_, by simp; rfl, ?_⟩
   refine yw9 (by simp [yk9];rfl) ?_
   repeat (first | refine on_norm ?_ | refine in_norm ?_)
   have hent:=hE.ins h8 hpl g1 g2 g3 g4 g5
   have hL:(l.take i++x :: l.drop i).length=l.length+1:=by simp;omega
   refine yr9 [6] (by simp [yk9];rfl) ?_
   refine yj9 ?_
   repeat (first | refine yp9 ?_ | refine ys9 ?_)
   refine ⟨.inr rfl,.agg [.arr (H.length+5) 0 (l.length+1) cap',.v (.int .i64 (dir:Nat))],_,_,H.length+6,by simp,.inl ⟨rfl,rfl⟩,by omega,by simp,by simp [AV.under,AV.underL],?_,⟨cap',cs',hent,.inr ⟨AObj.cells 70 [.arr (H.length+5) 0 (l.length+1) cap',.v (.int .i64 (dir:Nat))],.cells 55 [.v (.int .i64 (trk:Nat)),.v (.int .i64 (rn:Nat))],AObj.cells 70 [.arr (H.length+5) 0 (l.length+1) cap',.v (.int .i64 (dir:Nat))],.cells 78 (reC x),.cells 78 (reC x),?_,by rw [hL],?_⟩⟩⟩
   ·rw [List.take_of_length_le (by simp),xt9,wg9 (by omega) _ hh]
    simp [yn9,AObj.under,AV.under,AV.underL,ws9 g4]
    try omega
   ·intro o ho
    simp only [List.mem_cons,List.not_mem_nil,or_false] at ho
    rcases ho with rfl | rfl | rfl | rfl | rfl <;> simp [AObj.under,AV.under,AV.underL,ws9 (vg9 x)]
   ·rw [List.take_of_length_le (by simp)]
set_option maxRecDepth 20000
def WithN (H:List AObj) (dir:Nat) (x:RE) (r:AV) (h':List AObj):Prop :=
 ∃ cap' cs',EntC cs' cap' [x]∧∃ g0 g1 g2 g3 g4,(∀ o∈[g0,g1,g2,g3,g4],o.under (H.length+6)=true)∧r=.agg [.arr (H.length+5) 0 1 cap',.v (.int .i64 (dir:Nat))]∧h'=H++[g0,g1,g2,g3,g4,.cells 78 cs']
theorem yt6 (dir trk rn : Nat) (s : List UInt8) (hs : symM s = true) (H : List AObj) (hh : yn9 H.length H = true) :
  wp9 Tryz.prog 39 [.agg [.lst .nil 10 [],.v (.int .i64 (dir:Nat))],strB s,.agg [.v (.int .i64 (trk:Nat)),.v (.int .i64 (rn:Nat))]] H (WithN H dir ⟨padK s,trk,rn⟩):=by
 obtain ⟨ha,h1,h8s⟩:=un9 hs
 have hkl:(padK s).length=8:=zt8 h8s
 have hf:=wt6 [] dir s (by omega) .nil (by simp) (by simp)
 have hk:=wg8 s hs
 obtain ⟨S,hS⟩:∃ S,strB s=S:=⟨_,rfl⟩
 have hSv:∃ u,S=.v u:=⟨_,hS.symm⟩
 rw [hS] at hf hk ⊢
 obtain ⟨u,rfl⟩:=hSv
 rw [yp7,if_pos hs] at hf
 obtain ⟨x,hx⟩:∃ x:RE,(⟨padK s,trk,rn⟩:RE)=x:=⟨_,rfl⟩
 have hxk:x.key=padK s:=by rw [← hx]
 have hx8:x.key.length=8:=by rw [hxk];exact hkl
 have hxc:byL (padK s)++[.v (.int .i64 (trk:Nat)),.v (.int .i64 (rn:Nat))]=reC x:=by rw [← hx];rfl
 rw [hx]
 rw [show posE [] (padK s)=0 from rfl,show fndE [] (padK s)=false from rfl] at hf
 obtain ⟨K,hK⟩:∃ K,padK s=K:=⟨_,rfl⟩
 rw [hK] at hxc hk hkl
 refine zh9 Tryz.func39 rfl (by decide +kernel) (by simp [Tryz.f39]) (rs:=[.cell 6 70]) rfl ?_
 rw [show Tryz.f39.ntmps=34 from rfl]
 refine yr9 [1,3,5,6] (by simp;rfl) ?_
 refine W_rK [1,3,5,6,7,8] ?_
 refine yq9 2 (by simp;rfl) rfl ?_
 refine yf9 (by simp) (by first | (simp;done) | (simp;rfl)) hf (by simp;rfl) ?_
 refine yw9 (by simp;rfl) ?_
 have htx:(reC x).take 10=reC x:=List.take_of_length_le (by rw [zm9 hx8];omega)
 refine W_rsK 5 [1,3,5,6,7,8,9] mx (by decide +kernel) ?_
 refine yd9 1 (by simp;rfl) rfl ?_
 refine yv9 (by simp) (by first | (simp;done) | (simp;rfl)) hk (by simp;rfl) ?_
 have hdd:List.drop 10 (byL K++[AV.v (Value.int IntKind.i64 0),AV.v (Value.int IntKind.i64 0)])=[]:=List.drop_eq_nil_of_le (by simp [hkl])
 refine yd9 2 (by simp [yk9,hkl,hdd,hxc];rfl) rfl ?_
 refine yb9 (by simp;rfl) ?_
 have hxl:(reC x).length=10:=zm9 hx8
 refine yw9 (by simp [yk9,hxl];rfl) ?_
 refine yh9 ?_
 refine W_cF [1,3,5,6,7,8,9,20] (by simp;rfl) rfl ?_
 refine W_rE [3,6] ?_
 refine yq9 4 (by simp [htx,hxl];rfl) rfl ?_
 refine xw8 (by simp) ⟨_,by simp [ys8,jd7,catK,AV.cellsK,AV.kone,AV.koneL,hxl];rfl,?_⟩
 have hins:=wk7 x hx8 (H++[AObj.cells 70 [.lst .nil 10 [],.v (.int .i64 (dir:Nat))],.cells 55 [.v (.int .i64 (trk:Nat)),.v (.int .i64 (rn:Nat))],.cells 70 [.lst .nil 10 [],.v (.int .i64 0)],.cells 78 (reC x),.cells 78 (reC x)]) (by
  rw [xt9]
  simp [yn9,AObj.under,AV.under,AV.underL]
  exact wg9 (by omega) _ hh) (H.length+4) (by simp)
 refine xp9 (f:=82) (args:=[.lst .nil 10 [],.v (.int .i64 0),.arr (H.length+4) 0 1 1]) (by simp) (by simp [wq9,xq9]) (hins.mono ?_)
 rintro r h' ⟨cap',cs',g1,g2,g3,g4,g5,rfl,rfl⟩
 refine ⟨_,by simp;rfl,?_⟩
 refine yw9 (by simp [yk9];rfl) ?_
 repeat (first | refine on_norm ?_ | refine in_norm ?_)
 have hent:=EntC.new g1 g2 g3 g4 g5
 refine yr9 [6] (by simp [yk9];rfl) ?_
 refine yj9 ?_
 repeat (first | refine yp9 ?_ | refine ys9 ?_)
 refine ⟨.inr rfl,.agg [.arr (H.length+5) 0 1 cap',.v (.int .i64 (dir:Nat))],_,_,H.length+6,by simp,.inl ⟨rfl,rfl⟩,by omega,by simp,by simp [AV.under,AV.underL],?_,⟨cap',cs',hent,AObj.cells 70 [.arr (H.length+5) 0 1 cap',.v (.int .i64 (dir:Nat))],.cells 55 [.v (.int .i64 (trk:Nat)),.v (.int .i64 (rn:Nat))],AObj.cells 70 [.arr (H.length+5) 0 1 cap',.v (.int .i64 (dir:Nat))],.cells 78 (reC x),.cells 78 (reC x),?_,rfl,?_⟩⟩
 ·rw [List.take_of_length_le (by simp),xt9,wg9 (by omega) _ hh]
  simp [yn9,AObj.under,AV.under,AV.underL,ws9 g4]
 ·intro o ho
  simp only [List.mem_cons,List.not_mem_nil,or_false] at ho
  rcases ho with rfl | rfl | rfl | rfl | rfl <;> simp [AObj.under,AV.under,AV.underL,ws9 (vg9 x)]
 ·rw [List.take_of_length_le (by simp)]
set_option maxRecDepth 20000
theorem rclone_sound (l:List (List UInt8)) (hl:l.length≤1000000000):Sound Tryz.prog 79 [.lst .any 1 (bbL l)] (.lst (.tip 90 1) 1 (bbL l)):=by
 refine zn9 Tryz.func79 rfl (by decide +kernel) (by simp [Tryz.f79]) rfl rfl (rs:=[.tmp 2]) rfl ?_
 rw [show Tryz.f79.ntmps=8 from rfl]
 have hb:l.length * 24≤140737488355328:=by omega
 have hb2:24 * l.length≤140737488355328:=by omega
 refine yr9 [0] (by simp;rfl) ?_
 refine yh9 ?_
 cases l with
 | cons x l =>
  refine W_cF [0,4] (by simp [qp9];rfl) rfl ?_
  refine yg9 ?_
  rw [← qp9]
  refine yr9 [2] (by simp at hb hb2;simp [hb,hb2];rfl) ?_
  refine yj9 ?_
  repeat (first | refine yp9 ?_ | refine ys9 ?_)
  exact ⟨_,by simp [retQ];exact ⟨rfl,by simp⟩,.norm fun T=>by simp⟩
 | nil =>
  refine wv6 0 (sz:=1) rfl ?_ fun ad cap hc=>?_
  ·refine W_cT [0,4] (by simp [putF];rfl) rfl ?_
   refine yr9 [2] (by simp;rfl) ?_
   refine yj9 ?_
   repeat (first | refine yp9 ?_ | refine ys9 ?_)
   exact ⟨.lst .nil 1 [],by simp [retQ],.nil (by decide +kernel)⟩
  ·refine W_cF [0,4] (by simp [putF];rfl) rfl ?_
   refine yg9 ?_
   refine ym9 [0] ?_
   refine W_unnil 0 1 (by simp;rfl) hc ?_
   refine yr9 [2] (by simp [putF];rfl) ?_
   refine yj9 ?_
   repeat (first | refine yp9 ?_ | refine ys9 ?_)
   exact ⟨_,by simp [retQ];exact ⟨rfl,by simp⟩,.norm fun T=>by simp⟩
end Go.AM
