/- Parts of the walk: Z31Y Z31Z Z31OA Z31EA. -/
import Derived.Test.YtlhaljblcimnbaaGreatG4
namespace Go.AM
open Go.RowKit Go.Proofs
set_option linter.unusedSimpArgs false
set_option linter.unusedVariables false
set_option maxHeartbeats 8000000
def esL (l:List Esd):List AV:=l.map esA
@[simp] theorem esL_length (l:List Esd):(esL l).length=l.length:=by simp [esL]
@[simp] theorem esL_getElem (l:List Esd) (i:Nat) (h:i < (esL l).length):(esL l)[i]=esA (l[i]'(by simpa using h)):=by simp [esL]
@[simp] theorem dpL_esL (l:List Esd):AV.dpL (esL l)=esL l:=by induction l <;> simp_all [esL,AV.dpL,AV.dp,strB]
def vs9 (nx:Int) (x:Esd):Bool:=if x.kind=1 then rule1 nx x else if x.kind=2 then rule2 x else if x.kind=3 then rule3 nx x else false
def dupM (N:List (List UInt8 × Int)) (x:Esd):Bool:=(getN x.name N).isSome&&!(x.name == [])
def S1 (S:List (Int × Esd)) (x:Esd):List (Int × Esd):=if x.kind=1 then updS x.id x S else S
def N1 (N:List (List UInt8 × Int)) (x:Esd):List (List UInt8 × Int):=updN x.name x.kind N
def nx1 (nx:Int) (x:Esd):Int:=if x.kind=2 then nx else nx+1
def uf9 : List Esd → List (Int × Esd) → List (List UInt8 × Int) → Int → Option (List (Int × Esd) × List (List UInt8 × Int) × Int)
 | [],S,N,nx=>some (S,N,nx)
 | x :: l,S,N,nx=>if vs9 nx x=true then (if dupM N x=true then none else uf9 l (S1 S x) (N1 N x) (nx1 nx x)) else none
def ent1 (S:List (Int × Esd)) (x:Esd):Bool:=!decide (x.kind=2) || yq8 S x.id x.addr 0
theorem zv7 (i j : Int) (x : Esd) : ∀ S : List (Int × Esd), getS i (updS j x S) = if i = j then some x else getS i S
 | []=>by simp only [updS,getS]
 | (k,y) :: S=>by
  simp only [updS]
  by_cases h:j=k
  ·subst h
   rw [if_pos rfl]
   simp only [getS]
   by_cases h2:i=j
   ·simp [h2]
   ·simp [h2]
  ·rw [if_neg h]
   simp only [getS,zv7 i j x S]
   by_cases h2:i=k
   ·subst h2
    rw [if_pos rfl,if_neg (fun e=>h e.symm),if_pos rfl]
   ·rw [if_neg h2]
    by_cases h3:i=j
    ·simp [h3]
    ·simp [h3,h2]
theorem jt4 {S:List (Int × Esd)} {nx:Int} {x:Esd} (hS:SOk S) (hr:vs9 nx x=true):SOk (S1 S x):=by
 intro i y h
 unfold S1 at h
 split at h
 ·rename_i hk
  rw [zv7] at h
  split at h
  ·cases h
   rw [vs9,if_pos hk] at hr
   simp only [rule1,Bool.and_eq_true,decide_eq_true_eq] at hr
   exact ⟨hr.2.1,hr.2.2.2.1,hr.2.2.1,by omega⟩
  ·exact hS i y h
 ·exact hS i y h
def esdB (l : List Esd) : Option (List (Int × Esd) × List (List UInt8 × Int) × Int) → Bool
 | none=>false
 | some (S,_,_)=>l.all (ent1 S)&&decide (0 < S.length)
theorem zs4 (l : List Esd) (ob : List AV) (hob : AV.underL 4 ob = true) (hl : l.length ≤ 2048) (hx : ∀ x ∈ l, x.name.length ≤ 9223372036854775807 ∧ i64r x.addr) :
  wf9 Tryz.prog 55 [.loc 3 0,.lst .any 5 (esL l)] (HC [] [] 1 ob []) fun v h=>∃ S N nx,h=HC S N nx ob []∧v=.v (.bool (esdB l (uf9 l [] [] 1)))∧SOk S∧1≤nx∧nx≤3000∧(esdB l (uf9 l [] [] 1)=true→uf9 l [] [] 1=some (S,N,nx)):=by
 refine zv9 Tryz.func55 rfl (by decide +kernel) (by simp [Tryz.f55]) (rs:=[.tmp 4]) rfl ?_
 rw [show Tryz.f55.ntmps=107 from rfl]
 have hob7:AV.underL 7 ob=true:=AV.underL_le (by omega) _ hob
 have hob5:AV.underL 5 ob=true:=AV.underL_le (by omega) _ hob
 have hob6:AV.underL 6 ob=true:=AV.underL_le (by omega) _ hob
 refine yt9 [0,1] (by simp;rfl) ?_
 refine W_rK [0,1,5] ?_
 refine yq9 1 (by simp;rfl) rfl ?_
 refine zr9 (f:=79) (args:=[.loc 3 0]) (by simp) (by simp [yb9,zt9]) ((wb5 [] [] 1 ob hob5).mono ?_)
 rintro _ _ ⟨rfl,rfl⟩
 refine ⟨_,by simp;rfl,?_⟩
 refine yw9 (by simp [yf9];rfl) ?_
 obtain ⟨G,hG⟩:∃ G,uf9 l [] [] 1=G:=⟨_,rfl⟩
 rw [hG]
 refine xh9 (fun σ=>∃ S N nx,G=some (S,N,nx)∧SOk S∧1≤nx∧nx≤3000∧σ=⟨107,[(0,.loc 3 0),(1,.lst .any 5 (esL l))],HC S N nx ob [.cells 108 [.loc 3 0],.cells 143 arrC]⟩) ?_ ?_
 ·refine yt9 [0, 1, 5, 14, 15, 16] (by simp; rfl) ?_
  refine ys9 ?_
  refine zl9 (fun k σ=>∃ (i:Nat) (S:List (Int × Esd)) (N:List (List UInt8 × Int)) (nx:Int),k=l.length - i∧i≤l.length∧uf9 (l.drop i) S N nx=G∧SOk S∧1≤nx∧nx≤1+i∧σ=⟨107,[(0,.loc 3 0),(1,.lst .any 5 (esL l)),(5,.loc 5 0),(14,.lst .any 5 (esL l)),(15,.v (.int .i64 (l.length:Nat))),(16,.v (.int .i64 (i:Nat)))],HC S N nx ob [.cells 108 [.loc 3 0],.cells 143 arrC]⟩) (k:=l.length) ⟨0,[],[],1,rfl,by omega,hG,fun i x h=>by simp [getS] at h,by omega,by omega,by simp [secE,namE]⟩ ?_
  rintro k σ ⟨i,S,N,nx,rfl,hi,hgo,hS,hn1,hn2,rfl⟩
  by_cases c:i < l.length
  ·have ci : (i : Int) < l.length := by omega
   obtain ⟨x,hs⟩:∃ x,l[i]?=some x:=⟨_,List.getElem?_eq_getElem c⟩
   have hs2:l[i]'c=x:=by rw [List.getElem?_eq_getElem c] at hs;exact Option.some.inj hs
   have hdr:l.drop i=x :: l.drop (i+1):=by rw [List.drop_eq_getElem_cons c,hs2]
   obtain ⟨hxn,hxa⟩:=hx x (List.mem_of_getElem? hs)
   have wi:=w64 (n:=(i:Int)+1) (by omega) (by omega)
   have wn:=w64 (n:=nx+1) (by omega) (by omega)
   rw [hdr,uf9] at hgo
   refine yt9 [0,1,5,14,15,16,17] (by simp [ci];rfl) ?_
   refine yl9 ?_
   refine yp9 rfl (fun h=>?_) (fun h=>by simp [c] at h)
   refine yk9 ?_
   refine yl9 ?_
   refine ys9 ?_
   refine yt9 [0,1,5,14,15,16,7] (by simp [c,ci,hs2,yf9];rfl) ?_
   refine yl9 ?_
   refine ws9 (fun σ=>σ=⟨107,[(0,.loc 3 0),(1,.lst .any 5 (esL l)),(5,.loc 5 0),(14,.lst .any 5 (esL l)),(15,.v (.int .i64 (l.length:Nat))),(16,.v (.int .i64 (i:Nat))),(7,.loc 6 0),(36,.v (.bool (!vs9 nx x)))],HC S N nx ob [.cells 108 [.loc 3 0],.cells 143 arrC,.cells 50 (esC x)]⟩) ?_ ?_
   ·have h105 := ql6 S N nx ob x hob7 (by omega)
    have h107:=qk6 S N nx ob x hob7 (by omega)
    have h108:=qj6 S N nx ob x hob7 (by omega)
    obtain ⟨nm,kd,id,ad,ln⟩:=x
    by_cases k1:kd=1
    ·subst k1
     refine yt7 14 [0,1,5,14,15,16,7,36] mx (by decide +kernel) ?_
     refine yr9 6 (by simp;rfl) rfl ?_
     refine yr9 8 (by simp [strB];rfl) rfl ?_
     refine zr9 (f:=92) (args:=[esA ⟨nm,1,id,ad,ln⟩,.loc 4 0]) (by simp) (by simp [yb9,zt9,strB]) (h105.mono ?_)
     rintro _ _ ⟨rfl,rfl⟩
     refine ⟨_,by simp;rfl,?_⟩
     refine yw9 (by simp;rfl) ?_
     simp [yj9,vs9,esC,strB]
    by_cases k2:kd=2
    ·subst k2
     refine yt7 14 [0,1,5,14,15,16,7,36] mx (by decide +kernel) ?_
     refine yr9 6 (by simp;rfl) rfl ?_
     refine yr9 8 (by simp [strB];rfl) rfl ?_
     refine zr9 (f:=94) (args:=[esA ⟨nm,2,id,ad,ln⟩]) (by simp) (by simp [yb9,zt9,strB]) (h107.mono ?_)
     rintro _ _ ⟨rfl,rfl⟩
     refine ⟨_,by simp;rfl,?_⟩
     refine yw9 (by simp;rfl) ?_
     simp [yj9,vs9,esC,strB]
    by_cases k3:kd=3
    ·subst k3
     refine yt7 14 [0,1,5,14,15,16,7,36] mx (by decide +kernel) ?_
     refine yr9 6 (by simp;rfl) rfl ?_
     refine yr9 8 (by simp [strB];rfl) rfl ?_
     refine zr9 (f:=95) (args:=[esA ⟨nm,3,id,ad,ln⟩,.loc 4 0]) (by simp) (by simp [yb9,zt9,strB]) (h108.mono ?_)
     rintro _ _ ⟨rfl,rfl⟩
     refine ⟨_,by simp;rfl,?_⟩
     refine yw9 (by simp;rfl) ?_
     simp [yj9,vs9,esC,strB]
    by_cases k4:kd < 1
    ·refine yt7 14 [0,1,5,14,15,16,7,36] mx (by decide +kernel) ?_
     refine yr9 6 (by simp [k4];rfl) rfl ?_
     refine yr9 8 (by simp [strB,k4];rfl) rfl ?_
     refine yw9 (by simp;rfl) ?_
     simp [yj9,vs9,esC,strB,k1,k2,k3]
    have k5:3 < kd:=by omega
    refine yt7 14 [0,1,5,14,15,16,7,36] mx (by decide +kernel) ?_
    refine yr9 6 (by simp [k4,k5];rfl) rfl ?_
    refine yr9 8 (by simp [strB,k4,k5];rfl) rfl ?_
    refine yw9 (by simp;rfl) ?_
    simp [yj9,vs9,esC,strB,k1,k2,k3]
   rintro _ rfl
   by_cases hr:vs9 nx x=true
   rotate_left
   ·rw [if_neg hr] at hgo
    refine yp9 (t:=true) (by simp [hr]) (fun h=>?_) (fun h=>by simp at h)
    refine yt9 [4] (by simp;rfl) ?_
    refine yn9 ?_
    repeat (first | refine yg9 ?_ | refine yh9 ?_)
    refine xd9 4 (by simp [resA];rfl) (by simp) (by simp) (by simp [AV.under,AV.underL,yc9,AObj.under,hob,xq9,xw9]) ⟨S,N,nx,rfl,by rw [← hgo];rfl,hS,hn1,by omega,by rw [← hgo];intro h;cases h⟩
   rw [if_pos hr] at hgo
   refine yp9 (t:=false) (by simp [hr]) (fun h=>by simp at h) (fun h=>?_)
   refine yk9 ?_
   refine yl9 ?_
   refine ws9 (fun σ=>σ=⟨107,[(0,.loc 3 0),(1,.lst .any 5 (esL l)),(5,.loc 5 0),(14,.lst .any 5 (esL l)),(15,.v (.int .i64 (l.length:Nat))),(16,.v (.int .i64 (i:Nat))),(7,.loc 6 0),(9,.v (.bool (getN x.name N).isSome))],HC S N nx ob [.cells 108 [.loc 3 0],.cells 143 arrC,.cells 50 (esC x)]⟩) ?_ ?_
   ·have hf := wg7 x.name N
    cases hg:getN x.name N with
    | none =>
     rw [hg] at hf
     refine wb9 [0,1,5,14,15,16,7,9] (us8 6 mx (by decide +kernel) ?_)
     refine ym9 (by simp [esC,strB];rfl) ?_
     refine qw9 [6] (by decide +kernel) (by simp) ?_
     intro i hi
     simp only [List.mem_cons,List.not_mem_nil,or_false] at hi
     subst hi
     refine ⟨_,rfl,?_⟩
     refine (show runA Tryz.prog _ [_] _ _ from ?_)
     refine yw9 (by simp [jc9,uj7,wn8,hf];rfl) ?_
     refine wr9 7 rfl (by decide +kernel) (qj9 44 rfl rfl rfl) rfl ?_
     refine wr9 8 rfl (by decide +kernel) (vl9 37 rfl rfl rfl rfl) rfl ?_
     refine wr9 9 rfl (by decide +kernel) (vl9 37 rfl rfl rfl rfl) rfl ?_
     refine qw9 [10] (by decide +kernel) (by simp) ?_
     intro i hi
     simp only [List.mem_cons,List.not_mem_nil,or_false] at hi
     subst hi
     refine ⟨_,rfl,?_⟩
     refine (show runA Tryz.prog _ [_] _ _ from ?_)
     refine yw9 (by simp;rfl) ?_
     refine qw9 [11] (by decide +kernel) (by simp) ?_
     intro i hi
     simp only [List.mem_cons,List.not_mem_nil,or_false] at hi
     subst hi
     refine ⟨_,rfl,?_⟩
     refine (show runA Tryz.prog _ [_] _ _ from ?_)
     refine yw9 (by simp;rfl) ?_
     refine qm9 (by decide +kernel) ?_
     simp [yj9,esC,strB,km9]
    | some k =>
     rw [hg] at hf
     refine wb9 [0,1,5,14,15,16,7,9] (us8 6 mx (by decide +kernel) ?_)
     refine ym9 (by simp [esC,strB];rfl) ?_
     refine qw9 [6] (by decide +kernel) (by simp) ?_
     intro i hi
     simp only [List.mem_cons,List.not_mem_nil,or_false] at hi
     subst hi
     refine ⟨_,rfl,?_⟩
     refine (show runA Tryz.prog _ [_] _ _ from ?_)
     refine yw9 (by simp [jc9,uj7,wn8,hf];rfl) ?_
     refine wr9 7 rfl (by decide +kernel) (qj9 44 rfl rfl rfl) rfl ?_
     refine wr9 8 rfl (by decide +kernel) (vl9 37 rfl rfl rfl rfl) rfl ?_
     refine wr9 9 rfl (by decide +kernel) (vl9 37 rfl rfl rfl rfl) rfl ?_
     refine qw9 [10] (by decide +kernel) (by simp) ?_
     intro i hi
     simp only [List.mem_cons,List.not_mem_nil,or_false] at hi
     subst hi
     refine ⟨_,rfl,?_⟩
     refine (show runA Tryz.prog _ [_] _ _ from ?_)
     refine yw9 (by simp;rfl) ?_
     refine qw9 [11] (by decide +kernel) (by simp) ?_
     intro i hi
     simp only [List.mem_cons,List.not_mem_nil,or_false] at hi
     subst hi
     refine ⟨_,rfl,?_⟩
     refine (show runA Tryz.prog _ [_] _ _ from ?_)
     refine yw9 (by simp;rfl) ?_
     refine qm9 (by decide +kernel) ?_
     simp [yj9,esC,strB,km9]
   rintro _ rfl
   refine ws9 (fun σ=>σ=⟨107,[(0,.loc 3 0),(1,.lst .any 5 (esL l)),(5,.loc 5 0),(14,.lst .any 5 (esL l)),(15,.v (.int .i64 (l.length:Nat))),(16,.v (.int .i64 (i:Nat))),(7,.loc 6 0),(52,.v (.bool (dupM N x)))],HC S N nx ob [.cells 108 [.loc 3 0],.cells 143 arrC,.cells 50 (esC x)]⟩) ?_ ?_
   ·cases hg:(getN x.name N).isSome with
    | false =>
     refine zq9 [0,1,5,14,15,16,7,52] (by simp;rfl) ?_
     simp [yj9,dupM,hg]
    | true =>
     refine zq9 [0,1,5,14,15,16,7,52] (by simp [esC,strB];rfl) ?_
     simp [yj9,dupM,hg,esC,strB]
   rintro _ rfl
   by_cases hd:dupM N x=true
   ·rw [if_pos hd] at hgo
    refine yp9 (t:=true) (by simp [hd]) (fun h=>?_) (fun h=>by simp at h)
    refine yt9 [4] (by simp;rfl) ?_
    refine yn9 ?_
    repeat (first | refine yg9 ?_ | refine yh9 ?_)
    refine xd9 4 (by simp [resA];rfl) (by simp) (by simp) (by simp [AV.under,AV.underL,yc9,AObj.under,hob,xq9,xw9]) ⟨S,N,nx,rfl,by rw [← hgo];rfl,hS,hn1,by omega,by rw [← hgo];intro h;cases h⟩
   rw [if_neg hd] at hgo
   refine yp9 (t:=false) (by simp [hd]) (fun h=>by simp at h) (fun h=>?_)
   refine yk9 ?_
   have hset:=yg5 x.name x.kind N
   have hset2:=yf5 x.id x S
   refine ws9 (fun σ=>σ=⟨107,[(0,.loc 3 0),(1,.lst .any 5 (esL l)),(5,.loc 5 0),(14,.lst .any 5 (esL l)),(15,.v (.int .i64 (l.length:Nat))),(16,.v (.int .i64 (i:Nat))),(7,.loc 6 0)],HC S (N1 N x) nx ob [.cells 108 [.loc 3 0],.cells 143 arrC,.cells 50 (esC x)]⟩) ?_ ?_
   ·refine yt7 8 [0,1,5,14,15,16,7] mx (by decide +kernel) ?_
    refine ym9 (by simp [esC,strB];rfl) ?_
    refine yw9 (by simp [jf9,wn8,hset,AV.weak];rfl) ?_
    simp [yj9,esC,strB,N1]
   rintro _ rfl
   refine ws9 (fun σ=>σ=⟨107,[(0,.loc 3 0),(1,.lst .any 5 (esL l)),(5,.loc 5 0),(14,.lst .any 5 (esL l)),(15,.v (.int .i64 (l.length:Nat))),(16,.v (.int .i64 (i:Nat))),(7,.loc 6 0)],HC (S1 S x) (N1 N x) nx ob [.cells 108 [.loc 3 0],.cells 143 arrC,.cells 50 (esC x)]⟩) ?_ ?_
   ·by_cases hk : x.kind = 1
    ·simp only [esA,hk,strB] at hset2
     refine W_cT [0,1,5,14,15,16,7,63] (by simp [esC,strB,hk];rfl) rfl ?_
     refine yt7 7 [0,1,5,14,15,16,7] mx (by decide +kernel) ?_
     refine ym9 (by simp [esC,strB];rfl) ?_
     refine yw9 (by simp [jf9,wn8,hset2,AV.weak,AV.weakL];rfl) ?_
     simp [yj9,esC,strB,S1,hk]
    ·refine yt9 [0,1,5,14,15,16,7,63] (by simp [esC,strB,hk];rfl) ?_
     refine yp9 rfl (fun h=>absurd (by simpa using h) hk) (fun h=>?_)
     refine zs9 [0,1,5,14,15,16,7] ?_
     refine yk9 ?_
     simp [yj9,esC,strB,S1,hk]
   rintro _ rfl
   have hbd:1≤nx1 nx x∧nx1 nx x≤1+((i+1:Nat):Int):=by
    unfold nx1
    split <;> omega
   refine kh6 (fun σ=>σ=⟨107,[(0,.loc 3 0),(1,.lst .any 5 (esL l)),(5,.loc 5 0),(14,.lst .any 5 (esL l)),(15,.v (.int .i64 (l.length:Nat))),(16,.v (.int .i64 (i:Nat)))],HC (S1 S x) (N1 N x) (nx1 nx x) ob [.cells 108 [.loc 3 0],.cells 143 arrC,.cells 50 (esC x)]⟩) ?_ ?_
   ·by_cases hk : x.kind = 2
    ·refine W_cF [0,1,5,14,15,16,73] (by simp [esC,strB,hk];rfl) rfl ?_
     refine zs9 [0,1,5,14,15,16] ?_
     refine yk9 ?_
     simp [yj9,esC,strB,nx1,hk]
    ·refine yt9 [0,1,5,14,15,16,73] (by simp [esC,strB,hk];rfl) ?_
     refine yp9 rfl (fun h=>?_) (fun h=>absurd (by simpa using h) hk)
     refine zq9 [0,1,5,14,15,16] (by simp [wn,yf9];rfl) ?_
     simp [yj9,esC,strB,nx1,hk]
   rintro _ rfl
   refine xp9 6 (by simp) (by simp) (by simp [yv9,AV.under,AV.underL]) (by simp [yc9,AObj.under,AV.under,AV.underL,hob6,xq9,xw9]) ?_
   refine zq9 [0,1,5,14,15,16] (by simp [wi];rfl) ?_
   exact ⟨_,by omega,i+1,S1 S x,N1 N x,nx1 nx x,rfl,by omega,hgo,jt4 hS hr,hbd.1,hbd.2,by simp⟩
  have hie:i=l.length:=by omega
  rw [hie,List.drop_length,uf9] at hgo
  refine yt9 [0,1,5,14,15,16,17] (by simp [c];rfl) ?_
  refine yl9 ?_
  refine yp9 rfl (fun h=>by simp [hie] at h) (fun h=>?_)
  refine zs9 [0,1] ?_
  refine zj9 ?_
  simp only [yj9]
  exact ⟨S,N,nx,hgo.symm,hS,hn1,by omega,by simp⟩
 rintro _ ⟨S,N,nx,hGe,hS,hn1,hn2,rfl⟩
 refine xp9 4 (by simp) (by simp) (by simp [yv9,AV.under,AV.underL]) (by simp [yc9,AObj.under,AV.under,AV.underL,hob,xq9,xw9]) ?_
 subst hGe
 refine yl9 ?_
 refine yt9 [0,82,83,84] (by simp;rfl) ?_
 refine ys9 ?_
 refine zl9 (fun k σ=>∃ (i:Nat),k=l.length - i∧i≤l.length∧l.all (ent1 S)=(l.drop i).all (ent1 S)∧σ=⟨107,[(0,.loc 3 0),(82,.lst .any 5 (esL l)),(83,.v (.int .i64 (l.length:Nat))),(84,.v (.int .i64 (i:Nat)))],HC S N nx ob []⟩) (k:=l.length) ⟨0,rfl,by omega,by simp,by simp⟩ ?_
 rintro k σ ⟨i,rfl,hi,hall,rfl⟩
 by_cases c:i < l.length
 ·have ci : (i : Int) < l.length := by omega
  obtain ⟨x,hs⟩:∃ x,l[i]?=some x:=⟨_,List.getElem?_eq_getElem c⟩
  have hs2:l[i]'c=x:=by rw [List.getElem?_eq_getElem c] at hs;exact Option.some.inj hs
  have hdr:l.drop i=x :: l.drop (i+1):=by rw [List.drop_eq_getElem_cons c,hs2]
  obtain ⟨hxn,hxa⟩:=hx x (List.mem_of_getElem? hs)
  have wi:=w64 (n:=(i:Int)+1) (by omega) (by omega)
  rw [hdr,List.all_cons] at hall
  refine yt9 [0,82,83,84,85] (by simp [ci];rfl) ?_
  refine yl9 ?_
  refine yp9 rfl (fun h=>?_) (fun h=>by simp [c] at h)
  refine yk9 ?_
  refine yl9 ?_
  refine ys9 ?_
  refine yt9 [0,82,83,84,11] (by simp [c,ci,hs2,yf9];rfl) ?_
  refine ws9 (fun σ=>σ=⟨107,[(0,.loc 3 0),(82,.lst .any 5 (esL l)),(83,.v (.int .i64 (l.length:Nat))),(84,.v (.int .i64 (i:Nat))),(99,.v (.bool (!ent1 S x)))],HC S N nx ob [.cells 50 (esC x)]⟩) ?_ ?_
  ·have hlies := wj7 S N nx ob 50 (esC x) x.id x.addr 0 hS hxa hob5 (by simp [esC, strB, AV.underL, AV.under])
   by_cases hk:x.kind=2
   ·refine W_rE [0,82,83,84,99] ?_
    refine yq9 6 (by simp [hk];rfl) rfl ?_
    refine yq9 3 (by simp;rfl) rfl ?_
    simp only [esC,hk] at hlies
    refine zr9 (f:=56) (args:=[.loc 3 0,.v (.int .i64 x.id),.v (.int .i64 x.addr),.v (.int .i64 0)]) (by simp) (by simp [yb9,zt9]) (hlies.mono ?_)
    rintro _ _ ⟨rfl,rfl⟩
    refine ⟨_,by simp;rfl,?_⟩
    refine yw9 (by simp;rfl) ?_
    simp [yj9,esC,ent1,hk,strB,AV.weak]
   ·have hkb:(x.kind == 2)=false:=by simpa using hk
    refine W_rE [0,82,83,84,99] ?_
    refine yq9 6 (by simp [hkb];rfl) rfl ?_
    refine yw9 (by simp;rfl) ?_
    simp [yj9,esC,ent1,hk,strB,AV.weak]
  rintro _ rfl
  by_cases he:ent1 S x=true
  rotate_left
  ·have hef:ent1 S x=false:=by simpa using he
   refine yp9 (t:=true) (by simp [hef]) (fun h=>?_) (fun h=>by simp at h)
   refine yt9 [4] (by simp;rfl) ?_
   refine yn9 ?_
   repeat (first | refine yg9 ?_ | refine yh9 ?_)
   refine xd9 4 (by simp [resA];rfl) (by simp) (by simp) (by simp [AV.under,AV.underL,yc9,AObj.under,hob,xq9,xw9]) ⟨S,N,nx,rfl,by simp [esdB,hall,hef],hS,hn1,hn2,by simp [esdB,hall,hef]⟩
  refine yp9 (t:=false) (by simp [he]) (fun h=>by simp at h) (fun h=>?_)
  refine yk9 ?_
  refine xp9 4 (by simp) (by simp) (by simp [yv9,AV.under,AV.underL]) (by simp [yc9,AObj.under,AV.under,AV.underL,hob,xq9,xw9]) ?_
  refine zq9 [0,82,83,84] (by simp [wi];rfl) ?_
  exact ⟨_,by omega,i+1,rfl,by omega,by rw [hall,he,Bool.true_and],by simp⟩
 have hie:i=l.length:=by omega
 rw [hie,List.drop_length,List.all_nil] at hall
 refine yt9 [0,82,83,84,85] (by simp [c];rfl) ?_
 refine yl9 ?_
 refine yp9 rfl (fun h=>by simp [hie] at h) (fun h=>?_)
 refine zj9 ?_
 have hsl:(secE S).length=S.length:=by simp [secE]
 refine W_rGK [4] ?_
 refine ym7 4 _ _ ?_
 refine yw9 (by simp;rfl) ?_
 refine jh6 rfl ?_
 refine jr6 (k:=104) (t:=109) (m:=.mp 1) (d:=.int .i64) (e:=50) (es:=secE S) rfl rfl rfl rfl (by simp) (by simp) (by simp [uj7]) ?_
 refine ⟨_,by simp;rfl,?_⟩
 rw [hsl]
 refine ym7 2 _ _ ?_
 refine yw9 (by simp;rfl) ?_
 refine yn9 ?_
 repeat (first | refine yg9 ?_ | refine yh9 ?_)
 exact xd9 4 (by simp [resA];rfl) (by simp) (by simp) (by simp [AV.under,AV.underL,yc9,AObj.under,hob,xq9,xw9]) ⟨S,N,nx,rfl,by simp [esdB,hall],hS,hn1,hn2,fun _=>rfl⟩
structure Txt where
 id:Int
 addr:Int
 data:List UInt8
structure Rld where
 in_:Int
 to_:Int
 addr:Int
 len:Int
 neg:Bool
structure OMod where
 esd:List Esd
 txt:List Txt
 rld:List Rld
 entry:List UInt8
@[simp] def txA (t:Txt):AV:=.agg [.v (.int .i64 t.id),.v (.int .i64 t.addr),.lst .any 1 (byL t.data)]
def txC (t:Txt):List AV:=[.v (.int .i64 t.id),.v (.int .i64 t.addr),.lst .any 1 (byL t.data)]
@[simp] def rdA (r:Rld):AV:=.agg [.v (.int .i64 r.in_),.v (.int .i64 r.to_),.v (.int .i64 r.addr),.v (.int .i64 r.len),.v (.bool r.neg)]
def rdC (r:Rld):List AV:=[.v (.int .i64 r.in_),.v (.int .i64 r.to_),.v (.int .i64 r.addr),.v (.int .i64 r.len),.v (.bool r.neg)]
def txL (l:List Txt):List AV:=l.map txA
@[simp] theorem txL_length (l:List Txt):(txL l).length=l.length:=by simp [txL]
@[simp] theorem txL_getElem (l:List Txt) (i:Nat) (h:i < (txL l).length):(txL l)[i]=txA (l[i]'(by simpa using h)):=by simp [txL]
@[simp] theorem dpL_txL (l:List Txt):AV.dpL (txL l)=txL l:=by induction l <;> simp_all [txL,AV.dpL,AV.dp]
def rdL (l:List Rld):List AV:=l.map rdA
@[simp] theorem rdL_length (l:List Rld):(rdL l).length=l.length:=by simp [rdL]
@[simp] theorem rdL_getElem (l:List Rld) (i:Nat) (h:i < (rdL l).length):(rdL l)[i]=rdA (l[i]'(by simpa using h)):=by simp [rdL]
@[simp] theorem dpL_rdL (l:List Rld):AV.dpL (rdL l)=rdL l:=by induction l <;> simp_all [rdL,AV.dpL,AV.dp]
def obC (o:OMod):List AV:=[.lst .any 5 (esL o.esd),.lst .any 3 (txL o.txt),.lst .any 5 (rdL o.rld),strB o.entry]
@[simp] def obA (o:OMod):AV:=.agg [.lst .any 5 (esL o.esd),.lst .any 3 (txL o.txt),.lst .any 5 (rdL o.rld),strB o.entry]
theorem zp9 (m:Nat) (o:OMod):AV.underL m (obC o)=true:=by simp [obC,AV.underL,AV.under,strB]
def txB (S:List (Int × Esd)) (t:Txt):Bool:=decide (t.data.length < 1) || (decide (56 < t.data.length) || !yq8 S t.id t.addr t.data.length)
def rdB (S:List (Int × Esd)) (nx:Int) (r:Rld):Bool:=decide (r.len < 1) || (decide (4 < r.len) || (decide (r.to_ < 1) || (decide (nx≤r.to_) || !yq8 S r.in_ r.addr r.len)))
def bigB (o:OMod):Bool:=decide (2048 < o.esd.length) || (decide (2048 < o.txt.length) || decide (2048 < o.rld.length))
def entB (N:List (List UInt8 × Int)) (e:List UInt8):Bool:=!(e == [])&&(!(getN e N).isSome || (getN e N).getD 0 == 3)
def kp7 (o : OMod) : Option (List (Int × Esd) × List (List UInt8 × Int) × Int) → Bool
 | none=>false
 | some (S,N,nx)=>o.txt.all (fun t=>!txB S t)&&(o.rld.all (fun r=>!rdB S nx r)&&!entB N o.entry)
def chkM (o:OMod):Bool:=!bigB o&&(esdB o.esd (uf9 o.esd [] [] 1)&&kp7 o (uf9 o.esd [] [] 1))
structure OIn (o:OMod):Prop where
 e:∀ x∈o.esd,x.name.length≤9223372036854775807∧i64r x.addr
 t:∀ x∈o.txt,i64r x.addr∧x.data.length≤140737488355328
 r:∀ x∈o.rld,i64r x.addr
theorem vr8 (o:OMod) (ho:OIn o):Sound Tryz.prog 25 [obA o] (.v (.int .i64 (if chkM o=true then 0 else 310))):=by
 refine zh9 Tryz.func25 rfl (by decide +kernel) (by simp [Tryz.f25,strB]) (by simp [AV.rfL,AV.rf,strB]) (by simp [AV.tlL,AV.tl,strB]) (rs:=[.tmp 2]) rfl ?_
 rw [show Tryz.f25.ntmps=129 from rfl]
 obtain ⟨he,ht,hr⟩:=ho
 refine yt9 [1] (by simp;rfl) ?_
 refine yt9 [1,3] (by simp;rfl) ?_
 obtain ⟨G,hG⟩:∃ G,uf9 o.esd [] [] 1=G:=⟨_,rfl⟩
 refine xh9 (fun σ=>∃ S N nx,bigB o=false∧G=some (S,N,nx)∧esdB o.esd G=true∧SOk S∧1≤nx∧nx≤3000∧σ=⟨129,[(1,.loc 0 0),(3,.loc 3 0)],HC S N nx (obC o) []⟩) ?_ ?_
 ·by_cases c1 : 2048 < o.esd.length
  ·have c1a:2048 < o.esd.length:=c1
   have c1b:(2048:Int) < (o.esd.length:Nat):=by omega
   refine W_rK [1,3,36] ?_
   iterate 2 refine yq9 6 (by simp [obC,c1a,c1b];rfl) rfl ?_
   refine yq9 8 (by simp [obC,c1a,c1b];rfl) rfl ?_
   refine yw9 (by simp;rfl) ?_
   refine yp9 rfl (fun h=>?_) (fun h=>by simp at h)
   refine yt9 [2] (by simp;rfl) ?_
   refine yn9 ?_
   repeat (first | refine yg9 ?_ | refine yh9 ?_)
   simp [retQ,chkM,bigB,c1a,c1b]
  have c1a:¬ 2048 < o.esd.length:=c1
  have c1b:¬ (2048:Int) < (o.esd.length:Nat):=by omega
  have c1c:o.esd.length≤2048:=by omega
  by_cases c2:2048 < o.txt.length
  ·have c2a:2048 < o.txt.length:=c2
   have c2b:(2048:Int) < (o.txt.length:Nat):=by omega
   refine W_rK [1,3,36] ?_
   iterate 2 refine yq9 6 (by simp [obC,c1a,c1b,c1c,c2a,c2b];rfl) rfl ?_
   refine yq9 8 (by simp [obC,c1a,c1b,c1c,c2a,c2b];rfl) rfl ?_
   refine yw9 (by simp;rfl) ?_
   refine yp9 rfl (fun h=>?_) (fun h=>by simp at h)
   refine yt9 [2] (by simp;rfl) ?_
   refine yn9 ?_
   repeat (first | refine yg9 ?_ | refine yh9 ?_)
   simp [retQ,chkM,bigB,c1a,c1b,c1c,c2a,c2b]
  have c2a:¬ 2048 < o.txt.length:=c2
  have c2b:¬ (2048:Int) < (o.txt.length:Nat):=by omega
  have c2c:o.txt.length≤2048:=by omega
  by_cases c3:2048 < o.rld.length
  ·have c3a:2048 < o.rld.length:=c3
   have c3b:(2048:Int) < (o.rld.length:Nat):=by omega
   refine W_rK [1,3,36] ?_
   iterate 2 refine yq9 6 (by simp [obC,c1a,c1b,c1c,c2a,c2b,c2c,c3a,c3b];rfl) rfl ?_
   refine yq9 8 (by simp [obC,c1a,c1b,c1c,c2a,c2b,c2c,c3a,c3b];rfl) rfl ?_
   refine yw9 (by simp;rfl) ?_
   refine yp9 rfl (fun h=>?_) (fun h=>by simp at h)
   refine yt9 [2] (by simp;rfl) ?_
   refine yn9 ?_
   repeat (first | refine yg9 ?_ | refine yh9 ?_)
   simp [retQ,chkM,bigB,c1a,c1b,c1c,c2a,c2b,c2c,c3a,c3b]
  have c3a:¬ 2048 < o.rld.length:=c3
  have c3b:¬ (2048:Int) < (o.rld.length:Nat):=by omega
  have c3c:o.rld.length≤2048:=by omega
  refine W_rK [1,3,36] ?_
  iterate 2 refine yq9 6 (by simp [obC,c1a,c1b,c1c,c2a,c2b,c2c,c3a,c3b,c3c];rfl) rfl ?_
  refine yq9 8 (by simp [obC,c1a,c1b,c1c,c2a,c2b,c2c,c3a,c3b,c3c];rfl) rfl ?_
  have hesd:=zs4 o.esd (obC o) (zp9 _ _) (by omega) he
  have hbig:bigB o=false:=by simp [bigB,c1a,c1b,c1c,c2a,c2b,c2c,c3a,c3b,c3c]
  rw [hG] at hesd
  refine zr9 (f:=55) (args:=[.loc 3 0,.lst .any 5 (esL o.esd)]) (by simp) (by simp [yb9,zt9,obC]) ((show wf9 Tryz.prog 55 [.loc 3 0,.lst .any 5 (esL o.esd)] (HC [] [] 1 (obC o) []) _ from hesd).mono ?_)
  rintro _ _ ⟨S,N,nx,rfl,rfl,hS,hn1,hn2,hGe⟩
  refine ⟨_,by simp;rfl,?_⟩
  refine yw9 (by simp;rfl) ?_
  by_cases hB:esdB o.esd G=true
  ·refine yp9 (t:=false) (by simp [hB]) (fun h=>by simp at h) (fun h=>?_)
   refine zs9 [1,3] ?_
   refine yk9 ?_
   exact ⟨S,N,nx,hbig,hGe hB,hB,hS,hn1,hn2,by simp⟩
  ·have hBf:esdB o.esd G=false:=by simpa using hB
   refine yp9 (t:=true) (by simp [hBf]) (fun h=>?_) (fun h=>by simp at h)
   refine yt9 [2] (by simp;rfl) ?_
   refine yn9 ?_
   repeat (first | refine yg9 ?_ | refine yh9 ?_)
   simp [retQ,chkM,hG,hBf]
 rintro _ ⟨S,N,nx,hbig,hGe,hB,hS,hn1,hn2,rfl⟩
 have hmod:chkM o=kp7 o (some (S,N,nx)):=by rw [chkM,hG,hbig,hB,hGe];simp
 have hbig2:=hbig
 simp only [bigB,Bool.or_eq_false_iff,decide_eq_false_iff_not] at hbig2
 obtain ⟨l1,l2,l3⟩:=hbig2
 refine xh9 (fun σ=>o.txt.all (fun t=>!txB S t)=true∧σ=⟨129,[(1,.loc 0 0),(3,.loc 3 0)],HC S N nx (obC o) []⟩) ?_ ?_
 ·refine yt9 [1, 3, 38, 39, 40] (by simp [obC]; rfl) ?_
  refine ys9 ?_
  refine zl9 (fun k σ=>∃ (i:Nat),k=o.txt.length - i∧i≤o.txt.length∧o.txt.all (fun t=>!txB S t)=(o.txt.drop i).all (fun t=>!txB S t)∧σ=⟨129,[(1,.loc 0 0),(3,.loc 3 0),(38,.lst .any 3 (txL o.txt)),(39,.v (.int .i64 (o.txt.length:Nat))),(40,.v (.int .i64 (i:Nat)))],HC S N nx (obC o) []⟩) (k:=o.txt.length) ⟨0,rfl,by omega,by simp,by simp [obC]⟩ ?_
  rintro k σ ⟨i,rfl,hi,hall,rfl⟩
  by_cases c:i < o.txt.length
  ·have ci : (i : Int) < o.txt.length := by omega
   obtain ⟨x,hs⟩:∃ x,o.txt[i]?=some x:=⟨_,List.getElem?_eq_getElem c⟩
   have hs2:o.txt[i]'c=x:=by rw [List.getElem?_eq_getElem c] at hs;exact Option.some.inj hs
   have hdr:o.txt.drop i=x :: o.txt.drop (i+1):=by rw [List.drop_eq_getElem_cons c,hs2]
   obtain ⟨hxa,hxd⟩:=ht x (List.mem_of_getElem? hs)
   have wi:=w64 (n:=(i:Int)+1) (by omega) (by omega)
   rw [hdr,List.all_cons] at hall
   refine yt9 [1,3,38,39,40,41] (by simp [ci];rfl) ?_
   refine yl9 ?_
   refine yp9 rfl (fun h=>?_) (fun h=>by simp [c] at h)
   refine yk9 ?_
   refine yl9 ?_
   refine ys9 ?_
   refine yt9 [1,3,38,39,40,5] (by simp [c,ci,hs2,yf9];rfl) ?_
   have hlies:=wj7 S N nx (obC o) 42 (txC x) x.id x.addr x.data.length hS hxa (zp9 _ _) (by simp [txC,AV.underL,AV.under])
   simp only [txC] at hlies
   refine ws9 (fun σ=>σ=⟨129,[(1,.loc 0 0),(3,.loc 3 0),(38,.lst .any 3 (txL o.txt)),(39,.v (.int .i64 (o.txt.length:Nat))),(40,.v (.int .i64 (i:Nat))),(65,.v (.bool (txB S x)))],HC S N nx (obC o) [.cells 42 (txC x)]⟩) ?_ ?_
   ·by_cases c1 : x.data.length < 1
    ·have c1a:x.data.length < 1:=c1
     have c1b:((x.data.length:Nat):Int) < 1:=by omega
     refine W_rE [1,3,38,39,40,65] ?_
     iterate 2 refine yq9 6 (by simp [txC,c1a,c1b];rfl) rfl ?_
     refine yq9 7 (by simp [txC,c1a,c1b];rfl) rfl ?_
     refine yw9 (by simp;rfl) ?_
     simp [yj9,txB,txC,AV.weak,c1a,c1b]
    have c1a:¬ x.data.length < 1:=c1
    have c1b:¬ ((x.data.length:Nat):Int) < 1:=by omega
    by_cases c2:56 < x.data.length
    ·have c2a:56 < x.data.length:=c2
     have c2b:(56:Int) < (x.data.length:Nat):=by omega
     refine W_rE [1,3,38,39,40,65] ?_
     iterate 2 refine yq9 6 (by simp [txC,c1a,c1b,c2a,c2b];rfl) rfl ?_
     refine yq9 7 (by simp [txC,c1a,c1b,c2a,c2b];rfl) rfl ?_
     refine yw9 (by simp;rfl) ?_
     simp [yj9,txB,txC,AV.weak,c1a,c1b,c2a,c2b]
    have c2a:¬ 56 < x.data.length:=c2
    have c2b:¬ (56:Int) < (x.data.length:Nat):=by omega
    have c2c:x.data.length≤56:=by omega
    refine W_rE [1,3,38,39,40,65] ?_
    iterate 2 refine yq9 6 (by simp [txC,c1a,c1b,c2a,c2b,c2c];rfl) rfl ?_
    refine yq9 7 (by simp [txC,c1a,c1b,c2a,c2b,c2c];rfl) rfl ?_
    refine zr9 (f:=56) (args:=[.loc 3 0,.v (.int .i64 x.id),.v (.int .i64 x.addr),.v (.int .i64 (x.data.length:Nat))]) (by simp) (by simp [yb9,zt9]) (hlies.mono ?_)
    rintro _ _ ⟨rfl,rfl⟩
    refine ⟨_,by simp;rfl,?_⟩
    refine yw9 (by simp;rfl) ?_
    simp [yj9,txB,txC,AV.weak,c1a,c1b,c2a,c2b,c2c]
   rintro _ rfl
   by_cases hx:txB S x=true
   ·refine yp9 (t:=true) (by simp [hx]) (fun h=>?_) (fun h=>by simp at h)
    refine yt9 [2] (by simp;rfl) ?_
    refine yn9 ?_
    repeat (first | refine yg9 ?_ | refine yh9 ?_)
    have hall2:o.txt.all (fun t=>!txB S t)=false:=by rw [hall,hx];simp
    simp [retQ,hmod,kp7,hall2]
   have hxf:txB S x=false:=by simpa using hx
   refine yp9 (t:=false) (by simp [hxf]) (fun h=>by simp at h) (fun h=>?_)
   refine yk9 ?_
   refine xp9 4 (by simp) (by simp) (by simp [yv9,AV.under,AV.underL]) (by simp [yc9,AObj.under,AV.under,AV.underL,zp9,xq9,xw9]) ?_
   refine zq9 [1,3,38,39,40] (by simp [wi];rfl) ?_
   exact ⟨_,by omega,i+1,rfl,by omega,by rw [hall,hxf];simp,by simp⟩
  have hie:i=o.txt.length:=by omega
  rw [hie,List.drop_length,List.all_nil] at hall
  refine yt9 [1,3,38,39,40,41] (by simp [c];rfl) ?_
  refine yl9 ?_
  refine yp9 rfl (fun h=>by simp [hie] at h) (fun h=>?_)
  refine zs9 [1,3] ?_
  refine zj9 ?_
  exact ⟨hall,by simp⟩
 rintro _ ⟨hall1,rfl⟩
 refine xh9 (fun σ=>o.rld.all (fun r=>!rdB S nx r)=true∧σ=⟨129,[(1,.loc 0 0),(3,.loc 3 0)],HC S N nx (obC o) []⟩) ?_ ?_
 ·refine yt9 [1, 3, 68, 69, 70] (by simp [obC]; rfl) ?_
  refine ys9 ?_
  refine zl9 (fun k σ=>∃ (i:Nat),k=o.rld.length - i∧i≤o.rld.length∧o.rld.all (fun r=>!rdB S nx r)=(o.rld.drop i).all (fun r=>!rdB S nx r)∧σ=⟨129,[(1,.loc 0 0),(3,.loc 3 0),(68,.lst .any 5 (rdL o.rld)),(69,.v (.int .i64 (o.rld.length:Nat))),(70,.v (.int .i64 (i:Nat)))],HC S N nx (obC o) []⟩) (k:=o.rld.length) ⟨0,rfl,by omega,by simp,by simp [obC]⟩ ?_
  rintro k σ ⟨i,rfl,hi,hall,rfl⟩
  by_cases c:i < o.rld.length
  ·have ci : (i : Int) < o.rld.length := by omega
   obtain ⟨x,hs⟩:∃ x,o.rld[i]?=some x:=⟨_,List.getElem?_eq_getElem c⟩
   have hs2:o.rld[i]'c=x:=by rw [List.getElem?_eq_getElem c] at hs;exact Option.some.inj hs
   have hdr:o.rld.drop i=x :: o.rld.drop (i+1):=by rw [List.drop_eq_getElem_cons c,hs2]
   have hxa:=hr x (List.mem_of_getElem? hs)
   have wi:=w64 (n:=(i:Int)+1) (by omega) (by omega)
   rw [hdr,List.all_cons] at hall
   refine yt9 [1,3,68,69,70,71] (by simp [ci];rfl) ?_
   refine yl9 ?_
   refine yp9 rfl (fun h=>?_) (fun h=>by simp [c] at h)
   refine yk9 ?_
   refine yl9 ?_
   refine ys9 ?_
   refine yt9 [1,3,68,69,70,7] (by simp [c,ci,hs2,yf9];rfl) ?_
   have hlies:=wj7 S N nx (obC o) 46 (rdC x) x.in_ x.addr x.len hS hxa (zp9 _ _) (by simp [rdC,AV.underL,AV.under])
   simp only [rdC] at hlies
   refine ws9 (fun σ=>σ=⟨129,[(1,.loc 0 0),(3,.loc 3 0),(68,.lst .any 5 (rdL o.rld)),(69,.v (.int .i64 (o.rld.length:Nat))),(70,.v (.int .i64 (i:Nat))),(106,.v (.bool (rdB S nx x)))],HC S N nx (obC o) [.cells 46 (rdC x)]⟩) ?_ ?_
   ·by_cases c1 : x.len < 1
    ·refine yt7 30 [1,3,68,69,70,106] mx (by decide +kernel) ?_
     iterate 4 refine yr9 6 (by simp [rdC,c1];rfl) rfl ?_
     refine ym9 (by simp [rdC,c1];rfl) ?_
     refine yw9 (by simp;rfl) ?_
     simp [yj9,rdB,rdC,AV.weak,c1]
    by_cases c2:4 < x.len
    ·refine yt7 30 [1,3,68,69,70,106] mx (by decide +kernel) ?_
     iterate 4 refine yr9 6 (by simp [rdC,c1,c2];rfl) rfl ?_
     refine ym9 (by simp [rdC,c1,c2];rfl) ?_
     refine yw9 (by simp;rfl) ?_
     simp [yj9,rdB,rdC,AV.weak,c1,c2]
    by_cases c3:x.to_ < 1
    ·refine yt7 30 [1,3,68,69,70,106] mx (by decide +kernel) ?_
     iterate 4 refine yr9 6 (by simp [rdC,c1,c2,c3];rfl) rfl ?_
     refine ym9 (by simp [rdC,c1,c2,c3];rfl) ?_
     refine yw9 (by simp;rfl) ?_
     simp [yj9,rdB,rdC,AV.weak,c1,c2,c3]
    by_cases c4:nx≤x.to_
    ·refine yt7 30 [1,3,68,69,70,106] mx (by decide +kernel) ?_
     iterate 4 refine yr9 6 (by simp [rdC,c1,c2,c3,c4];rfl) rfl ?_
     refine ym9 (by simp [rdC,c1,c2,c3,c4];rfl) ?_
     refine yw9 (by simp;rfl) ?_
     simp [yj9,rdB,rdC,AV.weak,c1,c2,c3,c4]
    refine yt7 30 [1,3,68,69,70,106] mx (by decide +kernel) ?_
    iterate 4 refine yr9 6 (by simp [rdC,c1,c2,c3,c4];rfl) rfl ?_
    refine ym9 (by simp [rdC,c1,c2,c3,c4];rfl) ?_
    refine zr9 (f:=56) (args:=[.loc 3 0,.v (.int .i64 x.in_),.v (.int .i64 x.addr),.v (.int .i64 x.len)]) (by simp) (by simp [yb9,zt9]) (hlies.mono ?_)
    rintro _ _ ⟨rfl,rfl⟩
    refine ⟨_,by simp;rfl,?_⟩
    refine yw9 (by simp;rfl) ?_
    simp [yj9,rdB,rdC,AV.weak,c1,c2,c3,c4]
   rintro _ rfl
   by_cases hx:rdB S nx x=true
   ·refine yp9 (t:=true) (by simp [hx]) (fun h=>?_) (fun h=>by simp at h)
    refine yt9 [2] (by simp;rfl) ?_
    refine yn9 ?_
    repeat (first | refine yg9 ?_ | refine yh9 ?_)
    have hall2:o.rld.all (fun r=>!rdB S nx r)=false:=by rw [hall,hx];simp
    simp [retQ,hmod,kp7,hall1,hall2]
   have hxf:rdB S nx x=false:=by simpa using hx
   refine yp9 (t:=false) (by simp [hxf]) (fun h=>by simp at h) (fun h=>?_)
   refine yk9 ?_
   refine xp9 4 (by simp) (by simp) (by simp [yv9,AV.under,AV.underL]) (by simp [yc9,AObj.under,AV.under,AV.underL,zp9,xq9,xw9]) ?_
   refine zq9 [1,3,68,69,70] (by simp [wi];rfl) ?_
   exact ⟨_,by omega,i+1,rfl,by omega,by rw [hall,hxf];simp,by simp⟩
  have hie:i=o.rld.length:=by omega
  rw [hie,List.drop_length,List.all_nil] at hall
  refine yt9 [1,3,68,69,70,71] (by simp [c];rfl) ?_
  refine yl9 ?_
  refine yp9 rfl (fun h=>by simp [hie] at h) (fun h=>?_)
  refine zs9 [1,3] ?_
  refine zj9 ?_
  exact ⟨hall,by simp⟩
 rintro _ ⟨hall2,rfl⟩
 refine yl9 ?_
 refine ws9 (fun σ=>σ=⟨129,[(1,.loc 0 0),(8,.v (.int .i64 ((getN o.entry N).getD 0))),(9,.v (.bool (getN o.entry N).isSome))],HC S N nx (obC o) []⟩) ?_ ?_
 ·have hf := wg7 o.entry N
  cases hg:getN o.entry N with
  | none =>
   rw [hg] at hf
   refine wb9 [1,8,9] (us8 6 mx (by decide +kernel) ?_)
   refine ym9 (by simp [obC,strB];rfl) ?_
   refine qw9 [6] (by decide +kernel) (by simp) ?_
   intro i hi
   simp only [List.mem_cons,List.not_mem_nil,or_false] at hi
   subst hi
   refine ⟨_,rfl,?_⟩
   refine (show runA Tryz.prog _ [_] _ _ from ?_)
   refine yw9 (by simp [jc9,uj7,wn8,hf];rfl) ?_
   refine wr9 7 rfl (by decide +kernel) (qj9 115 rfl rfl rfl) rfl ?_
   refine wr9 8 rfl (by decide +kernel) (vl9 108 rfl rfl rfl rfl) rfl ?_
   refine wr9 9 rfl (by decide +kernel) (vl9 108 rfl rfl rfl rfl) rfl ?_
   refine qw9 [10] (by decide +kernel) (by simp) ?_
   intro i hi
   simp only [List.mem_cons,List.not_mem_nil,or_false] at hi
   subst hi
   refine ⟨_,rfl,?_⟩
   refine (show runA Tryz.prog _ [_] _ _ from ?_)
   refine yw9 (by simp;rfl) ?_
   refine qw9 [11] (by decide +kernel) (by simp) ?_
   intro i hi
   simp only [List.mem_cons,List.not_mem_nil,or_false] at hi
   subst hi
   refine ⟨_,rfl,?_⟩
   refine (show runA Tryz.prog _ [_] _ _ from ?_)
   refine yw9 (by simp;rfl) ?_
   refine qm9 (by decide +kernel) ?_
   simp [yj9,obC,strB,km9]
  | some k =>
   rw [hg] at hf
   refine wb9 [1,8,9] (us8 6 mx (by decide +kernel) ?_)
   refine ym9 (by simp [obC,strB];rfl) ?_
   refine qw9 [6] (by decide +kernel) (by simp) ?_
   intro i hi
   simp only [List.mem_cons,List.not_mem_nil,or_false] at hi
   subst hi
   refine ⟨_,rfl,?_⟩
   refine (show runA Tryz.prog _ [_] _ _ from ?_)
   refine yw9 (by simp [jc9,uj7,wn8,hf];rfl) ?_
   refine wr9 7 rfl (by decide +kernel) (qj9 115 rfl rfl rfl) rfl ?_
   refine wr9 8 rfl (by decide +kernel) (vl9 108 rfl rfl rfl rfl) rfl ?_
   refine wr9 9 rfl (by decide +kernel) (vl9 108 rfl rfl rfl rfl) rfl ?_
   refine qw9 [10] (by decide +kernel) (by simp) ?_
   intro i hi
   simp only [List.mem_cons,List.not_mem_nil,or_false] at hi
   subst hi
   refine ⟨_,rfl,?_⟩
   refine (show runA Tryz.prog _ [_] _ _ from ?_)
   refine yw9 (by simp;rfl) ?_
   refine qw9 [11] (by decide +kernel) (by simp) ?_
   intro i hi
   simp only [List.mem_cons,List.not_mem_nil,or_false] at hi
   subst hi
   refine ⟨_,rfl,?_⟩
   refine (show runA Tryz.prog _ [_] _ _ from ?_)
   refine yw9 (by simp;rfl) ?_
   refine qm9 (by decide +kernel) ?_
   simp [yj9,obC,strB,km9]
 rintro _ rfl
 refine ws9 (fun σ=>σ=⟨129,[(128,.v (.bool (entB N o.entry)))],HC S N nx (obC o) []⟩) ?_ ?_
 ·by_cases c1 : o.entry = []
  ·refine zq9 [128] (by simp [obC,strB,c1];rfl) ?_
   simp [yj9,entB,c1,obC,strB]
  have c1b:(o.entry == [])=false:=beq_eq_false_iff_ne.2 c1
  cases hg:(getN o.entry N).isSome with
  | false =>
   refine zq9 [128] (by simp [obC,strB,c1b];rfl) ?_
   simp [yj9,entB,c1b,obC,strB,hg]
  | true =>
   refine zq9 [128] (by simp [obC,strB,c1b];rfl) ?_
   simp [yj9,entB,c1b,obC,strB,hg]
 rintro _ rfl
 by_cases hE:entB N o.entry=true
 ·refine yp9 (t:=true) (by simp [hE]) (fun h=>?_) (fun h=>by simp at h)
  refine yt9 [2] (by simp;rfl) ?_
  refine yn9 ?_
  repeat (first | refine yg9 ?_ | refine yh9 ?_)
  simp [retQ,hmod,kp7,hall1,hall2,hE]
 have hEf:entB N o.entry=false:=by simpa using hE
 refine yp9 (t:=false) (by simp [hEf]) (fun h=>by simp at h) (fun h=>?_)
 refine yk9 ?_
 refine yt9 [2] (by simp;rfl) ?_
 refine yn9 ?_
 repeat (first | refine yg9 ?_ | refine yh9 ?_)
 simp [retQ,hmod,kp7,hall1,hall2,hEf]
def jq9 (id:Int) (x:Esd):Bool:=decide (x.kind=1)&&decide (x.id=id)
def isS1 (x:Esd):Bool:=decide (x.kind=1)
def isTg (id:Int) (x:Esd):Bool:=!decide (x.kind=2)&&decide (x.id=id)
def isDf (n:List UInt8) (x:Esd):Bool:=!decide (x.kind=3)&&(x.name == n)
def es0:Esd:=⟨[],0,0,0,0⟩
def fndR : Option Esd → AV
 | some x=>.tup [esA x,.v (.bool true)]
 | none=>.tup [esA es0,.v (.bool false)]
def es0C:List AV:=[.v (.string ⟨#[]⟩),.v (.int .i64 0),.v (.int .i64 0),.v (.int .i64 0),.v (.int .i64 0)]
theorem vt9 {α:Type} {l:List α} {i:Nat} {s:α} (c:i < l.length) (h:l[i]=s):l.drop i=s :: l.drop (i+1):=by rw [List.drop_eq_getElem_cons c,h]
theorem qn7 (o:OMod) (id:Int) (hl:o.esd.length≤1000000):Sound Tryz.prog 88 [obA o,.v (.int .i64 id)] (fndR (o.esd.find? (jq9 id))):=by
 refine zh9 Tryz.func88 rfl (by decide +kernel) (by simp [Tryz.f88,strB]) (by simp [AV.rfL,AV.rf,strB]) (by simp [AV.tlL,AV.tl,strB]) (rs:=[.cell 4 50,.tmp 5]) rfl ?_
 rw [show Tryz.f88.ntmps=37 from rfl]
 obtain ⟨l,hle⟩:∃ l,o.esd=l:=⟨_,rfl⟩
 rw [hle] at hl
 refine yt9 [1,2,4] (by simp;rfl) ?_
 refine yl9 ?_
 refine yt9 [1,2,4,6] (by simp;rfl) ?_
 refine ys9 ?_
 refine zl9 (fun k σ=>∃ i:Nat,k=l.length - i∧i≤l.length∧(l.drop i).find? (jq9 id)=o.esd.find? (jq9 id)∧σ=⟨37,[(1,.v (.int .i64 id)),(2,.loc 0 0),(4,.loc 1 0),(6,.v (.int .i64 (i:Nat)))],[.cells 33 (obC o),.cells 50 es0C]⟩) (k:=l.length) ⟨0,rfl,by omega,by simp [hle],by simp [obC,hle,es0C]⟩ ?_
 rintro k σ ⟨i,rfl,hi,hix,rfl⟩
 refine yl9 ?_
 by_cases c:i < l.length
 ·have ci : (i : Int) < l.length := by omega
  obtain ⟨s,hs⟩:∃ s,l[i]=s:=⟨_,rfl⟩
  have wi:=w64 (n:=(i:Int)+1) (by omega) (by omega)
  have hdr:=vt9 c hs
  refine yt9 [1,2,4,6,11] (by simp [obC,hle,ci];rfl) ?_
  refine yp9 rfl (fun h=>?_) (fun h=>by simp [c] at h)
  refine yk9 ?_
  refine yl9 ?_
  refine ys9 ?_
  by_cases c1:s.kind=1
  ·by_cases c2 : s.id = id
   ·rw [hdr,List.find?_cons_of_pos (by simp [jq9,c1,c2])] at hix
    refine W_rK [1,2,4,6,30] ?_
    iterate 2 refine yq9 6 (by simp [obC,hle,c,ci,hs,c1,c2];rfl) rfl ?_
    refine yw9 (by simp [obC,hle,c,ci,hs,c1,c2];rfl) ?_
    refine yp9 rfl (fun h=>?_) (fun h=>by simp at h)
    refine yt9 [4,5] (by simp [obC,hle,c,ci,hs];rfl) ?_
    refine yn9 ?_
    repeat (first | refine yg9 ?_ | refine yh9 ?_)
    rw [← hix]
    simp [retQ,fndR,yf9,es0C,strB,AV.weak]
   ·have c2b:(s.id == id)=false:=by simpa using c2
    rw [hdr,List.find?_cons_of_neg (by simp [jq9,c1,c2])] at hix
    refine W_rK [1,2,4,6,30] ?_
    iterate 2 refine yq9 6 (by simp [obC,hle,c,ci,hs,c1,c2,c2b];rfl) rfl ?_
    refine yw9 (by simp [obC,hle,c,ci,hs,c1,c2,c2b];rfl) ?_
    refine yp9 rfl (fun h=>by simp at h) (fun h=>?_)
    refine yk9 ?_
    refine zq9 [1,2,4,6] (by simp [wi];rfl) ?_
    exact ⟨_,by omega,i+1,rfl,by omega,hix,by simp [obC,hle,strB]⟩
  ·have c1b:(s.kind == 1)=false:=by simpa using c1
   rw [hdr,List.find?_cons_of_neg (by simp [jq9,c1])] at hix
   refine W_rK [1,2,4,6,30] ?_
   iterate 2 refine yq9 6 (by simp [obC,hle,c,ci,hs,c1,c1b];rfl) rfl ?_
   refine yw9 (by simp [obC,hle,c,ci,hs,c1,c1b];rfl) ?_
   refine yp9 rfl (fun h=>by simp at h) (fun h=>?_)
   refine yk9 ?_
   refine zq9 [1,2,4,6] (by simp [wi];rfl) ?_
   exact ⟨_,by omega,i+1,rfl,by omega,hix,by simp [obC,hle,strB]⟩
 ·have hie:i=l.length:=by omega
  have cn:¬ ((i:Int) < l.length):=by omega
  rw [hie,List.drop_length] at hix
  refine yt9 [1,2,4,6,11] (by simp [obC,hle,cn];rfl) ?_
  refine yp9 rfl (fun h=>by simp [hie] at h) (fun h=>?_)
  refine zj9 ?_
  refine yt9 [4,5] (by simp;rfl) ?_
  refine yn9 ?_
  repeat (first | refine yg9 ?_ | refine yh9 ?_)
  rw [← hix]
  simp [retQ,fndR,es0C,es0,strB,yf9,AV.weak]
theorem uc6 (o:OMod)  (hl:o.esd.length≤1000000):Sound Tryz.prog 87 [obA o] (fndR (o.esd.find? isS1)):=by
 refine zh9 Tryz.func87 rfl (by decide +kernel) (by simp [Tryz.f87,strB]) (by simp [AV.rfL,AV.rf,strB]) (by simp [AV.tlL,AV.tl,strB]) (rs:=[.cell 2 50,.tmp 3]) rfl ?_
 rw [show Tryz.f87.ntmps=25 from rfl]
 obtain ⟨l,hle⟩:∃ l,o.esd=l:=⟨_,rfl⟩
 rw [hle] at hl
 refine yt9 [1,2] (by simp;rfl) ?_
 refine yl9 ?_
 refine yt9 [1,2,4] (by simp;rfl) ?_
 refine ys9 ?_
 refine zl9 (fun k σ=>∃ i:Nat,k=l.length - i∧i≤l.length∧(l.drop i).find? isS1=o.esd.find? isS1∧σ=⟨25,[(1,.loc 0 0),(2,.loc 1 0),(4,.v (.int .i64 (i:Nat)))],[.cells 33 (obC o),.cells 50 es0C]⟩) (k:=l.length) ⟨0,rfl,by omega,by simp [hle],by simp [obC,hle,es0C]⟩ ?_
 rintro k σ ⟨i,rfl,hi,hix,rfl⟩
 refine yl9 ?_
 by_cases c:i < l.length
 ·have ci : (i : Int) < l.length := by omega
  obtain ⟨s,hs⟩:∃ s,l[i]=s:=⟨_,rfl⟩
  have wi:=w64 (n:=(i:Int)+1) (by omega) (by omega)
  have hdr:=vt9 c hs
  refine yt9 [1,2,4,9] (by simp [obC,hle,ci];rfl) ?_
  refine yp9 rfl (fun h=>?_) (fun h=>by simp [c] at h)
  refine yk9 ?_
  refine yl9 ?_
  refine ys9 ?_
  by_cases c1:s.kind=1
  ·rw [hdr,List.find?_cons_of_pos (by simp [isS1,c1])] at hix
   refine W_cT [1,2,4,18] (by simp [obC,hle,c,ci,hs,c1];rfl) rfl ?_
   refine yt9 [2,3] (by simp [obC,hle,c,ci,hs];rfl) ?_
   refine yn9 ?_
   repeat (first | refine yg9 ?_ | refine yh9 ?_)
   rw [← hix]
   simp [retQ,fndR,yf9,es0C,strB,AV.weak]
  ·have c1b:(s.kind == 1)=false:=by simpa using c1
   rw [hdr,List.find?_cons_of_neg (by simp [isS1,c1])] at hix
   refine W_cF [1,2,4,18] (by simp [obC,hle,c,ci,hs,c1,c1b];rfl) rfl ?_
   refine yk9 ?_
   refine zq9 [1,2,4] (by simp [wi];rfl) ?_
   exact ⟨_,by omega,i+1,rfl,by omega,hix,by simp [obC,hle,strB]⟩
 ·have hie:i=l.length:=by omega
  have cn:¬ ((i:Int) < l.length):=by omega
  rw [hie,List.drop_length] at hix
  refine yt9 [1,2,4,9] (by simp [obC,hle,cn];rfl) ?_
  refine yp9 rfl (fun h=>by simp [hie] at h) (fun h=>?_)
  refine zj9 ?_
  refine yt9 [2,3] (by simp;rfl) ?_
  refine yn9 ?_
  repeat (first | refine yg9 ?_ | refine yh9 ?_)
  rw [← hix]
  simp [retQ,fndR,es0C,es0,strB,yf9,AV.weak]
theorem zf6 (o:OMod) (id:Int) (hl:o.esd.length≤1000000):Sound Tryz.prog 72 [obA o,.v (.int .i64 id)] (.v (.bool (o.esd.any (isTg id)))):=by
 refine zh9 Tryz.func72 rfl (by decide +kernel) (by simp [Tryz.f72,strB]) (by simp [AV.rfL,AV.rf,strB]) (by simp [AV.tlL,AV.tl,strB]) (rs:=[.tmp 4]) rfl ?_
 rw [show Tryz.f72.ntmps=30 from rfl]
 obtain ⟨l,hle⟩:∃ l,o.esd=l:=⟨_,rfl⟩
 rw [hle] at hl
 refine yt9 [1,2] (by simp;rfl) ?_
 refine yl9 ?_
 refine yt9 [1,2,5] (by simp;rfl) ?_
 refine ys9 ?_
 refine zl9 (fun k σ=>∃ i:Nat,k=l.length - i∧i≤l.length∧(l.drop i).any (isTg id)=o.esd.any (isTg id)∧σ=⟨30,[(1,.v (.int .i64 id)),(2,.loc 0 0),(5,.v (.int .i64 (i:Nat)))],[.cells 33 (obC o)]⟩) (k:=l.length) ⟨0,rfl,by omega,by simp [hle],by simp [obC,hle,es0C]⟩ ?_
 rintro k σ ⟨i,rfl,hi,hix,rfl⟩
 refine yl9 ?_
 by_cases c:i < l.length
 ·have ci : (i : Int) < l.length := by omega
  obtain ⟨s,hs⟩:∃ s,l[i]=s:=⟨_,rfl⟩
  have wi:=w64 (n:=(i:Int)+1) (by omega) (by omega)
  have hdr:=vt9 c hs
  refine yt9 [1,2,5,10] (by simp [obC,hle,ci];rfl) ?_
  refine yp9 rfl (fun h=>?_) (fun h=>by simp [c] at h)
  refine yk9 ?_
  refine yl9 ?_
  refine ys9 ?_
  by_cases c1:s.kind=2
  ·rw [hdr,List.any_cons,show isTg id s=false by simp [isTg,c1],Bool.false_or] at hix
   refine W_rK [1,2,5,29] ?_
   iterate 2 refine yq9 6 (by simp [obC,hle,c,ci,hs,c1];rfl) rfl ?_
   refine yw9 (by simp [obC,hle,c,ci,hs,c1];rfl) ?_
   refine yp9 rfl (fun h=>by simp at h) (fun h=>?_)
   refine yk9 ?_
   refine zq9 [1,2,5] (by simp [wi];rfl) ?_
   exact ⟨_,by omega,i+1,rfl,by omega,hix,by simp [obC,hle,strB]⟩
  ·have c1b : (s.kind == 2) = false := by simpa using c1
   by_cases c2:s.id=id
   ·rw [hdr,List.any_cons,show isTg id s=true by simp [isTg,c1,c2],Bool.true_or] at hix
    refine W_rK [1,2,5,29] ?_
    iterate 2 refine yq9 6 (by simp [obC,hle,c,ci,hs,c1,c1b,c2,bne];rfl) rfl ?_
    refine yw9 (by simp [obC,hle,c,ci,hs,c1,c1b,c2,bne];rfl) ?_
    refine yp9 rfl (fun h=>?_) (fun h=>by simp at h)
    refine yt9 [4] (by simp;rfl) ?_
    refine yn9 ?_
    repeat (first | refine yg9 ?_ | refine yh9 ?_)
    rw [← hix]
    simp [retQ]
   ·have c2b:(s.id == id)=false:=by simpa using c2
    rw [hdr,List.any_cons,show isTg id s=false by simp [isTg,c1,c2],Bool.false_or] at hix
    refine W_rK [1,2,5,29] ?_
    iterate 2 refine yq9 6 (by simp [obC,hle,c,ci,hs,c1,c1b,c2,c2b,bne];rfl) rfl ?_
    refine yw9 (by simp [obC,hle,c,ci,hs,c1,c1b,c2,c2b,bne];rfl) ?_
    refine yp9 rfl (fun h=>by simp at h) (fun h=>?_)
    refine yk9 ?_
    refine zq9 [1,2,5] (by simp [wi];rfl) ?_
    exact ⟨_,by omega,i+1,rfl,by omega,hix,by simp [obC,hle,strB]⟩
 ·have hie:i=l.length:=by omega
  have cn:¬ ((i:Int) < l.length):=by omega
  rw [hie,List.drop_length] at hix
  refine yt9 [1,2,5,10] (by simp [obC,hle,cn];rfl) ?_
  refine yp9 rfl (fun h=>by simp [hie] at h) (fun h=>?_)
  refine zj9 ?_
  refine yt9 [4] (by simp;rfl) ?_
  refine yn9 ?_
  repeat (first | refine yg9 ?_ | refine yh9 ?_)
  rw [← hix]
  simp [retQ]
theorem yl6 (o:OMod) (n:List UInt8) (hl:o.esd.length≤1000000):Sound Tryz.prog 70 [obA o,strB n] (.v (.bool (o.esd.any (isDf n)))):=by
 refine zh9 Tryz.func70 rfl (by decide +kernel) (by simp [Tryz.f70,strB]) (by simp [AV.rfL,AV.rf,strB]) (by simp [AV.tlL,AV.tl,strB]) (rs:=[.tmp 4]) rfl ?_
 rw [show Tryz.f70.ntmps=30 from rfl]
 obtain ⟨l,hle⟩:∃ l,o.esd=l:=⟨_,rfl⟩
 rw [hle] at hl
 refine yt9 [1,2] (by simp;rfl) ?_
 refine yl9 ?_
 refine yt9 [1,2,5] (by simp;rfl) ?_
 refine ys9 ?_
 refine zl9 (fun k σ=>∃ i:Nat,k=l.length - i∧i≤l.length∧(l.drop i).any (isDf n)=o.esd.any (isDf n)∧σ=⟨30,[(1,strB n),(2,.loc 0 0),(5,.v (.int .i64 (i:Nat)))],[.cells 33 (obC o)]⟩) (k:=l.length) ⟨0,rfl,by omega,by simp [hle],by simp [obC,hle,es0C]⟩ ?_
 rintro k σ ⟨i,rfl,hi,hix,rfl⟩
 refine yl9 ?_
 by_cases c:i < l.length
 ·have ci : (i : Int) < l.length := by omega
  obtain ⟨s,hs⟩:∃ s,l[i]=s:=⟨_,rfl⟩
  have wi:=w64 (n:=(i:Int)+1) (by omega) (by omega)
  have hdr:=vt9 c hs
  refine yt9 [1,2,5,10] (by simp [obC,hle,ci];rfl) ?_
  refine yp9 rfl (fun h=>?_) (fun h=>by simp [c] at h)
  refine yk9 ?_
  refine yl9 ?_
  refine ys9 ?_
  by_cases c1:s.kind=3
  ·rw [hdr,List.any_cons,show isDf n s=false by simp [isDf,c1],Bool.false_or] at hix
   refine W_rK [1,2,5,29] ?_
   iterate 2 refine yq9 6 (by simp [obC,hle,c,ci,hs,c1];rfl) rfl ?_
   refine yw9 (by simp [obC,hle,c,ci,hs,c1];rfl) ?_
   refine yp9 rfl (fun h=>by simp at h) (fun h=>?_)
   refine yk9 ?_
   refine zq9 [1,2,5] (by simp [wi];rfl) ?_
   exact ⟨_,by omega,i+1,rfl,by omega,hix,by simp [obC,hle,strB]⟩
  ·have c1b : (s.kind == 3) = false := by simpa using c1
   by_cases c2:s.name=n
   ·rw [hdr,List.any_cons,show isDf n s=true by simp [isDf,c1,c2],Bool.true_or] at hix
    refine W_rK [1,2,5,29] ?_
    iterate 2 refine yq9 6 (by simp [obC,hle,c,ci,hs,c1,c1b,c2,strB,vv9,bne];rfl) rfl ?_
    refine yw9 (by simp [obC,hle,c,ci,hs,c1,c1b,c2,strB,vv9,bne];rfl) ?_
    refine yp9 rfl (fun h=>?_) (fun h=>by simp at h)
    refine yt9 [4] (by simp;rfl) ?_
    refine yn9 ?_
    repeat (first | refine yg9 ?_ | refine yh9 ?_)
    rw [← hix]
    simp [retQ]
   ·have c2b:(s.name == n)=false:=by simpa using c2
    rw [hdr,List.any_cons,show isDf n s=false by simp [isDf,c1,c2],Bool.false_or] at hix
    refine W_rK [1,2,5,29] ?_
    iterate 2 refine yq9 6 (by simp [obC,hle,c,ci,hs,c1,c1b,c2,c2b,strB,vv9,bne];rfl) rfl ?_
    refine yw9 (by simp [obC,hle,c,ci,hs,c1,c1b,c2,c2b,strB,vv9,bne];rfl) ?_
    refine yp9 rfl (fun h=>by simp at h) (fun h=>?_)
    refine yk9 ?_
    refine zq9 [1,2,5] (by simp [wi];rfl) ?_
    exact ⟨_,by omega,i+1,rfl,by omega,hix,by simp [obC,hle,strB]⟩
 ·have hie:i=l.length:=by omega
  have cn:¬ ((i:Int) < l.length):=by omega
  rw [hie,List.drop_length] at hix
  refine yt9 [1,2,5,10] (by simp [obC,hle,cn];rfl) ?_
  refine yp9 rfl (fun h=>by simp [hie] at h) (fun h=>?_)
  refine zj9 ?_
  refine yt9 [4] (by simp;rfl) ?_
  refine yn9 ?_
  repeat (first | refine yg9 ?_ | refine yh9 ?_)
  rw [← hix]
  simp [retQ]
def vt4 (x:Esd) (at_ n:Int):Bool:=decide (x.addr≤at_)&&(decide (at_≤x.addr+x.len)&&decide (n≤x.addr+x.len - at_))
def qm5 (o:OMod) (id at_ n:Int):Bool:=match o.esd.find? (jq9 id) with
 | some x=>vt4 x at_ n
 | none=>false
def smE (x:Esd):Prop:=0≤x.addr∧x.addr≤65536∧0≤x.len∧x.len≤65536
theorem vg8 (o:OMod) (id at_ n:Int) (hl:o.esd.length≤1000000) (hS:∀ x,o.esd.find? (jq9 id)=some x→smE x) (ha:i64r at_):Sound Tryz.prog 71 [obA o,.v (.int .i64 id),.v (.int .i64 at_),.v (.int .i64 n)] (.v (.bool (qm5 o id at_ n))):=by
 have h:=qn7 o id hl
 unfold qm5
 refine zh9 Tryz.func71 rfl (by decide +kernel) (by simp [Tryz.f71,strB]) (by simp [AV.rfL,AV.rf,strB]) (by simp [AV.tlL,AV.tl,strB]) (rs:=[.tmp 8]) rfl ?_
 rw [show Tryz.f71.ntmps=44 from rfl]
 refine yt9 [1,2,3,4] (by simp;rfl) ?_
 cases hf:o.esd.find? (jq9 id) with
 | none =>
  rw [hf] at h
  refine W_rK [2,3,9,10] ?_
  refine yq9 2 (by simp;rfl) rfl ?_
  refine yd9 (by simp) (by first | (simp;done) | (simp;rfl) | (simp [strB];done) | (simp [strB];rfl)) h (by simp [fndR];rfl) ?_
  refine yw9 (by simp [es0,strB,yf9];rfl) ?_
  refine W_rK [8] ?_
  iterate 4 refine yq9 6 (by simp;rfl) rfl ?_
  refine yw9 (by simp;rfl) ?_
  refine yn9 ?_
  repeat (first | refine yg9 ?_ | refine yh9 ?_)
  simp [retQ]
 | some x =>
  rw [hf] at h
  obtain ⟨s1,s2,s3,s4⟩:=hS x hf
  obtain ⟨r1,r2⟩:=ha
  refine W_rK [2,3,9,10] ?_
  refine yq9 2 (by simp;rfl) rfl ?_
  refine yd9 (by simp) (by first | (simp;done) | (simp;rfl) | (simp [strB];done) | (simp [strB];rfl)) h (by simp [fndR];rfl) ?_
  refine yw9 (by simp [strB,yf9];rfl) ?_
  have w1:=w64 (n:=x.addr+x.len) (by omega) (by omega)
  simp only [vt4]
  by_cases a1:x.addr≤at_
  ·by_cases a2 : at_ ≤ x.addr + x.len
   ·have w2 := w64 (n := x.addr + x.len - at_) (by omega) (by omega)
    by_cases a3:n≤x.addr+x.len - at_
    ·refine W_rK [8] ?_
     iterate 4 refine yq9 6 (by simp [a1,a2,a3,w1,w2];rfl) rfl ?_
     refine yw9 (by simp [a1,a2,a3,w1,w2];rfl) ?_
     refine yn9 ?_
     repeat (first | refine yg9 ?_ | refine yh9 ?_)
     simp [retQ,a1,a2,a3,w1,w2]
    ·refine W_rK [8] ?_
     iterate 4 refine yq9 6 (by simp [a1,a2,a3,w1,w2];rfl) rfl ?_
     refine yw9 (by simp [a1,a2,a3,w1,w2];rfl) ?_
     refine yn9 ?_
     repeat (first | refine yg9 ?_ | refine yh9 ?_)
     simp [retQ,a1,a2,a3,w1,w2]
   ·refine W_rK [8] ?_
    iterate 4 refine yq9 6 (by simp [a1,a2,w1];rfl) rfl ?_
    refine yw9 (by simp [a1,a2,w1];rfl) ?_
    refine yn9 ?_
    repeat (first | refine yg9 ?_ | refine yh9 ?_)
    simp [retQ,a1,a2,w1]
  ·refine W_rK [8] ?_
   iterate 4 refine yq9 6 (by simp [a1];rfl) rfl ?_
   refine yw9 (by simp [a1];rfl) ?_
   refine yn9 ?_
   repeat (first | refine yg9 ?_ | refine yh9 ?_)
   simp [retQ,a1]
theorem ut5 (t:List Esd) (n:Nat) (h:List AObj) (hh:yc9 (h.length+2) h=true):wf9 Tryz.prog 47 [.lst .any 5 (esL t),.v (.int .i64 n)] h fun r h'=>r=.fn (.func 74) [] [.loc h.length 0,.loc (h.length+1) 0]∧h'=h++[.cells 29 [.lst .any 5 (esL t)],.cells 3 [.v (.int .i64 n)]]:=by
 refine zv9 Tryz.func47 rfl (by decide +kernel) (by simp [Tryz.f47]) (rs:=[.tmp 4]) rfl ?_
 rw [show Tryz.f47.ntmps=6 from rfl]
 refine yt9 [2,3] (by simp;rfl) ?_
 refine yt9 [4] (by simp;rfl) ?_
 refine yn9 ?_
 repeat (first | refine yg9 ?_ | refine yh9 ?_)
 refine ⟨.inr rfl,.fn (.func 74) [] [.loc h.length 0,.loc (h.length+1) 0],.fn (.func 74) [] [.loc h.length 0,.loc (h.length+1) 0],h++[.cells 29 [.lst .any 5 (esL t)],.cells 3 [.v (.int .i64 n)]],h.length+2,by simp,.inl ⟨rfl,by simp⟩,by omega,by simp,by simp [AV.under,AV.underL],?_,rfl,?_⟩
 ·rw [List.take_of_length_le (by simp),kp9,hh]
  simp [yc9,AObj.under,AV.under,AV.underL]
 ·rw [List.take_of_length_le (by simp)]
theorem ur5 (t:List Rld) (n:Nat) (h:List AObj) (hh:yc9 (h.length+2) h=true):wf9 Tryz.prog 53 [.lst .any 5 (rdL t),.v (.int .i64 n)] h fun r h'=>r=.fn (.func 77) [] [.loc h.length 0,.loc (h.length+1) 0]∧h'=h++[.cells 31 [.lst .any 5 (rdL t)],.cells 3 [.v (.int .i64 n)]]:=by
 refine zv9 Tryz.func53 rfl (by decide +kernel) (by simp [Tryz.f53]) (rs:=[.tmp 4]) rfl ?_
 rw [show Tryz.f53.ntmps=6 from rfl]
 refine yt9 [2,3] (by simp;rfl) ?_
 refine yt9 [4] (by simp;rfl) ?_
 refine yn9 ?_
 repeat (first | refine yg9 ?_ | refine yh9 ?_)
 refine ⟨.inr rfl,.fn (.func 77) [] [.loc h.length 0,.loc (h.length+1) 0],.fn (.func 77) [] [.loc h.length 0,.loc (h.length+1) 0],h++[.cells 31 [.lst .any 5 (rdL t)],.cells 3 [.v (.int .i64 n)]],h.length+2,by simp,.inl ⟨rfl,by simp⟩,by omega,by simp,by simp [AV.under,AV.underL],?_,rfl,?_⟩
 ·rw [List.take_of_length_le (by simp),kp9,hh]
  simp [yc9,AObj.under,AV.under,AV.underL]
 ·rw [List.take_of_length_le (by simp)]
def ixE : Nat → List Esd → Int
 | _,[]=>-1
 | i,x :: l=>if x.kind=2 then ixE (i+1) l else i
theorem yd4 (x:Esd):Sound Tryz.prog 51 [esA x] (.v (.bool (!(x.kind == 2)))):=by
 refine zh9 Tryz.func51 rfl (by decide +kernel) (by simp [Tryz.f51]) (by simp [AV.rfL,AV.rf,strB]) (by simp [AV.tlL,AV.tl,strB]) (rs:=[.tmp 2]) rfl ?_
 rw [show Tryz.f51.ntmps=6 from rfl]
 refine yt9 [1,2] (by simp;rfl) ?_
 refine yt9 [2] (by simp;rfl) ?_
 refine yn9 ?_
 repeat (first | refine yg9 ?_ | refine yh9 ?_)
 simp [retQ]
 rfl
theorem yn4 (l:List Esd) (hl:l.length≤100000):Sound Tryz.prog 50 [.lst .any 5 (esL l),.fn (.func 51) [] []] (.v (.int .i64 (ixE 0 l))):=by
 refine zh9 Tryz.func50 rfl (by decide +kernel) (by simp [Tryz.f50]) (by simp [AV.rfL,AV.rf]) (by simp [AV.tlL,AV.tl]) (rs:=[.tmp 4]) rfl ?_
 rw [show Tryz.f50.ntmps=19 from rfl]
 refine yt9 [0,1] (by simp;rfl) ?_
 refine yl9 ?_
 refine yt9 [0,1,7,8] (by simp;rfl) ?_
 refine ys9 ?_
 refine zl9 (fun k σ=>∃ i:Nat,k=l.length - i∧i≤l.length∧ixE i (l.drop i)=ixE 0 l∧σ=⟨19,[(0,.lst .any 5 (esL l)),(1,.fn (.func 51) [] []),(7,.v (.int .i64 (l.length:Nat))),(8,.v (.int .i64 (i:Nat)))],[]⟩) (k:=l.length) ⟨0,rfl,by omega,rfl,by simp⟩ ?_
 rintro k σ ⟨i,rfl,hi,hix,rfl⟩
 by_cases c:i < l.length
 ·have ci : (i : Int) < l.length := by omega
  obtain ⟨s,hsi⟩:∃ s,l[i]?=some s:=⟨_,List.getElem?_eq_getElem c⟩
  have hs2:l[i]'c=s:=by rw [List.getElem?_eq_getElem c] at hsi;exact Option.some.inj hsi
  have hdr:l.drop i=s :: l.drop (i+1):=by rw [List.drop_eq_getElem_cons c,hs2]
  have wi:=w64 (n:=(i:Int)+1) (by omega) (by omega)
  have hne:=yd4 s
  rw [hdr,ixE] at hix
  refine yt9 [0,1,7,8,9] (by simp [ci];rfl) ?_
  refine yl9 ?_
  refine yp9 rfl (fun h=>?_) (fun h=>by simp [c] at h)
  refine yk9 ?_
  refine yl9 ?_
  refine ys9 ?_
  refine yt9 [0,1,7,8,5] (by simp;rfl) ?_
  refine W_rK [0,1,7,8,5,16] ?_
  refine yq9 5 (by simp [c,ci,hs2];rfl) rfl ?_
  refine yd9 (by simp) (by first | (simp;done) | (simp;rfl) | (simp [strB];done) | (simp [strB];rfl)) hne (by simp;rfl) ?_
  refine yw9 (by simp;rfl) ?_
  by_cases hk:s.kind=2
  ·rw [if_pos hk] at hix
   refine yp9 (t:=false) (by simp [hk]) (fun h=>by simp at h) (fun h=>?_)
   refine yk9 ?_
   refine zq9 [0,1,7,8] (by simp [wi];rfl) ?_
   exact ⟨_,by omega,i+1,rfl,by omega,hix,by simp⟩
  ·rw [if_neg hk] at hix
   refine yp9 (t:=true) (by simp [hk]) (fun h=>?_) (fun h=>by simp at h)
   refine yt9 [4] (by simp;rfl) ?_
   refine yn9 ?_
   repeat (first | refine yg9 ?_ | refine yh9 ?_)
   simp [retQ,← hix]
 have hie:i=l.length:=by omega
 rw [hie,List.drop_length,ixE] at hix
 refine yt9 [0,1,7,8,9] (by simp [c];rfl) ?_
 refine yl9 ?_
 refine yp9 rfl (fun h=>by simp [hie] at h) (fun h=>?_)
 refine zj9 ?_
 refine yt9 [4] (by simp;rfl) ?_
 refine yn9 ?_
 repeat (first | refine yg9 ?_ | refine yh9 ?_)
 simp [retQ,← hix]
theorem vl5 : ∀ (l : List Esd) (i : Nat), ixE i l = -1 ∨ ∃ j x, l[j]? = some x ∧ ixE i l = ((i + j : Nat) : Int)
 | [],i=>.inl rfl
 | x :: l,i=>by
  rw [ixE]
  by_cases h:x.kind=2
  ·rw [if_pos h]
   rcases vl5 l (i+1) with h1 | ⟨j,y,h1,h2⟩
   ·exact .inl h1
   ·exact .inr ⟨j+1,y,by simpa using h1,by rw [h2];congr 1;omega⟩
  ·rw [if_neg h]
   exact .inr ⟨0,x,rfl,rfl⟩
def vd9:List UInt8:=[69,83,68]
def qh9:List UInt8:=[84,88,84]
def qr9:List UInt8:=[82,76,68]
def vw9:List UInt8:=[69,78,68]
def xv9 : List Esd → Nat → List UInt8 → List UInt8
 | [],_,c=>c
 | x :: l,i,c=>xv9 l (i+1) (putM c (16+16 * i) (qc9 x))
def card1 (g:List Esd):List UInt8:=putM (xm9 vd9) 10 (numM 2 (16 * g.length))
def card2 (g:List Esd):List UInt8:=if 0≤ixE 0 g then putM (card1 g) 14 (numM 2 ((g[(ixE 0 g).toNat]?).elim 0 fun x=>x.id.toNat)) else card1 g
def um9 (g:List Esd):List UInt8:=xv9 g 0 (card2 g)
theorem qk8 (s:List UInt8) (h:(zm9 s).length≤79):(xm9 s).length=80:=by
 rw [xm9,xt9 _ _ _ (by simp;omega)];simp
theorem zn8 (x:Esd) (h:(zm9 x.name).length≤16):(qc9 x).length=16:=by
 have hb:(putM (xr9 16) 0 (zm9 x.name)).length=16:=by rw [xt9 _ _ _ (by simp;omega)];simp
 unfold qc9
 split
 ·rw [xt9 _ _ _ (by rw [xt9 _ _ _ (by simp [hb])];simp [hb]),xt9 _ _ _ (by simp [hb])];simpa using hb
 ·split
  ·rw [xt9 _ _ _ (by rw [xt9 _ _ _ (by simp [hb])];simp [hb]),xt9 _ _ _ (by simp [hb])];simpa using hb
  ·simpa using hb
@[simp] theorem killL_obC (t:Nat) (o:OMod):AV.killL t (obC o)=obC o:=by simp [obC,AV.killL,AV.kill,strB]
theorem xl9 (m:Nat) (ty:TypeId) (cs:List AV):(AObj.cells ty cs).under m=AV.underL m cs:=rfl
theorem qd8 {h:List AObj} (id n:Nat) (c:List UInt8) (k:Nat) (hid:h[id]?=some (.cells 5 (zd9 c k))) (hc:c.length=n):∃ (o:Fl),(o=.any∨o=.tip 5 1)∧vc9 Tryz.prog h 1 id 0 n n=some (.lst o 1 (byL c),h.set id (.froz 5 (byL c))):=by
 have e2:tyI Tryz.prog 5=some (false,1):=by simp
 subst hc
 cases k with
 | zero =>
  have e0:zd9 c 0=byL c:=by simp [zd9]
  rw [e0] at hid
  refine ⟨if 0=0∧c.length=c.length∧c.length * 1=(byL c).length then .tip 5 1 else .any,.inr (by simp),?_⟩
  simp only [vc9,hid,e2]
  rw [if_pos ⟨by omega,.inr trivial,by simp,wb8 _,ww7 _⟩,jv9,List.drop_zero,kl9 _ _ (by omega),List.take_of_length_le (by omega)]
 | succ k =>
  have e1:(zd9 c (k+1)).take (0+c.length * 1)=byL c:=by
   rw [zd9,Nat.zero_add,Nat.mul_one,List.take_append_of_le_length (by simp),List.take_of_length_le (by simp)]
  have e3:AV.koneL (zd9 c (k+1))=false:=by
   rw [zd9,vn8,List.replicate_succ]
   simp [AV.koneL,AV.kone]
  refine ⟨.any,.inl rfl,?_⟩
  simp only [vc9,hid,e2,e1]
  rw [if_neg (by rw [e3];simp),if_pos ⟨by omega,.inr trivial,by simp [xj9],wb8 _,ww7 _⟩,jv9,List.drop_zero,kl9 _ _ (by omega),List.take_of_length_le (by omega)]
end Go.AM
