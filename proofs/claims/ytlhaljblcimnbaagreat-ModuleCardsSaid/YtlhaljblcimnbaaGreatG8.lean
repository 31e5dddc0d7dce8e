/- Parts of the walk: Z31EO Z31EP Z31EL Z31LA Z31LB Z31RB Z31DD Z31MA. -/
import Derived.Test.YtlhaljblcimnbaaGreatG7
namespace Go.AM
open Go.RowKit Go.Proofs
set_option linter.unusedSimpArgs false
set_option linter.unusedVariables false
set_option maxHeartbeats 8000000
def all2 {α β : Type} (f : α → β → Bool) : List α → List β → Bool
 | x :: l,y :: m=>f x y&&all2 f l m
 | _,_=>true
def esV (x:Esd):List Value:=[.string ⟨x.name.toArray⟩,.int .i64 x.kind,.int .i64 x.id,.int .i64 x.addr,.int .i64 x.len]
def rdV (r:Rld):List Value:=[.int .i64 r.in_,.int .i64 r.to_,.int .i64 r.addr,.int .i64 r.len,.bool r.neg]
noncomputable def fs78:List Field:=(Tryz.prog.fieldsOf 50).toList
noncomputable def fs80:List Field:=(Tryz.prog.fieldsOf 46).toList
def esEq (x y:Esd):Bool:=x.name == y.name&&(x.kind == y.kind&&(x.id == y.id&&(x.addr == y.addr&&x.len == y.len)))
def rdEq (x y:Rld):Bool:=x.in_ == y.in_&&(x.to_ == y.to_&&(x.addr == y.addr&&(x.len == y.len&&x.neg == y.neg)))
def txEq (x y:Txt):Bool:=x.id == y.id&&(x.addr == y.addr&&x.data == y.data)
theorem es_eq (x y:Esd):eqFv fs78 (esV x) (esV y)=esEq x y:=by
 have hf:fs78.map (fun f=>f.offset)=[0,1,2,3,4]:=by kernel_rfl
 have key:∀ us vs:List Value,eqFv fs78 us vs=(fs78.map fun f=>f.offset).all fun i=>pv (us.getD i undef) (vs.getD i undef):=by
  intro us vs;simp [eqFv,List.all_map,Function.comp_def]
 rw [key,hf]
 simp [esV,pv,esEq,Lib.toList_data]
theorem rd_eq (x y:Rld):eqFv fs80 (rdV x) (rdV y)=rdEq x y:=by
 have hf:fs80.map (fun f=>f.offset)=[0,1,2,3,4]:=by kernel_rfl
 have key:∀ us vs:List Value,eqFv fs80 us vs=(fs80.map fun f=>f.offset).all fun i=>pv (us.getD i undef) (vs.getD i undef):=by
  intro us vs;simp [eqFv,List.all_map,Function.comp_def]
 rw [key,hf]
 simp [rdV,pv,rdEq]
theorem es_ok (x y:Esd):okF Tryz.prog fs78 (esV x) (esV y)=true:=by kernel_rfl
theorem rd_ok (x y:Rld):okF Tryz.prog fs80 (rdV x) (rdV y)=true:=by kernel_rfl
def yb5 (a b:OMod):Bool:=decide (a.esd.length=b.esd.length)&&(decide (a.txt.length=b.txt.length)&&(decide (a.rld.length=b.rld.length)&&(a.entry == b.entry)))
def eqM (a b:OMod):Bool:=yb5 a b&&(all2 esEq a.esd b.esd&&(all2 txEq a.txt b.txt&&all2 rdEq a.rld b.rld))
theorem zl6 (a b:OMod) (h1:a.esd.length≤1000000) (h2:a.txt.length≤1000000) (h3:a.rld.length≤1000000):Sound Tryz.prog 24 [obA a,obA b] (.v (.bool (eqM a b))):=by
 refine zh9 Tryz.func24 rfl (by decide +kernel) (by simp [Tryz.f24]) (by simp [AV.rfL,AV.rf,strB]) (by simp [AV.tlL,AV.tl,strB]) (rs:=[.tmp 4]) rfl ?_
 rw [show Tryz.f24.ntmps=128 from rfl]
 refine yt9 [2,3] (by simp;rfl) ?_
 refine (show Wt true 0 Tryz.prog _ _ ⟨128,[(2,.loc 0 0),(3,.loc 1 0)],[.cells 33 (obC a),.cells 33 (obC b)]⟩ from ?_)
 refine xh9 (fun σ=>yb5 a b=true∧σ=⟨128,[(2,.loc 0 0),(3,.loc 1 0)],[.cells 33 (obC a),.cells 33 (obC b)]⟩) ?_ ?_
 ·by_cases c1 : a.esd.length = b.esd.length
  ·have c1a : a.esd.length = b.esd.length := c1
   by_cases c2:a.txt.length=b.txt.length
   ·have c2a : a.txt.length = b.txt.length := c2
    by_cases c3:a.rld.length=b.rld.length
    ·have c3a : a.rld.length = b.rld.length := c3
     by_cases c4:a.entry=b.entry
     ·have c4a:a.entry=b.entry:=c4
      refine W_rK [2,3,39] ?_
      iterate 3 refine yq9 8 (by simp [obC,c1a,c2a,c3a,c4a];rfl) rfl ?_
      refine yw9 (by simp [obC,strB,c1a,c2a,c3a,c4a];rfl) ?_
      refine yp9 rfl (fun h=>by simp at h) (fun h=>?_)
      refine zs9 [2,3] ?_
      refine yk9 ?_
      exact ⟨by simp [yb5,c1a,c2a,c3a,c4a],by simp [obC,strB,c1a,c2a,c3a,c4a]⟩
     have c4a:¬ a.entry=b.entry:=c4
     have c4b:(a.entry == b.entry)=false:=beq_eq_false_iff_ne.2 c4
     refine W_rK [2,3,39] ?_
     iterate 3 refine yq9 8 (by simp [obC,c1a,c2a,c3a,c4a,c4b];rfl) rfl ?_
     refine yw9 (by simp [obC,strB,c1a,c2a,c3a,c4a,c4b];rfl) ?_
     refine yp9 rfl (fun h=>?_) (fun h=>by simp at h)
     refine yt9 [4] (by simp;rfl) ?_
     refine yn9 ?_
     repeat (first | refine yg9 ?_ | refine yh9 ?_)
     simp [retQ,eqM,yb5,c1a,c2a,c3a,c4a,c4b]
    have c3a:¬ a.rld.length=b.rld.length:=c3
    have c3b:(((a.rld.length:Nat):Int) == (b.rld.length:Nat))=false:=by rw [beq_eq_false_iff_ne];omega
    have c3c:(((a.rld.length:Nat):Int) != (b.rld.length:Nat))=true:=by rw [bne_iff_ne];omega
    refine W_rK [2,3,39] ?_
    iterate 3 refine yq9 8 (by simp [obC,c1a,c2a,c3a,c3b,c3c];rfl) rfl ?_
    refine yw9 (by simp [obC,strB,c1a,c2a,c3a,c3b,c3c];rfl) ?_
    refine yp9 rfl (fun h=>?_) (fun h=>by simp at h)
    refine yt9 [4] (by simp;rfl) ?_
    refine yn9 ?_
    repeat (first | refine yg9 ?_ | refine yh9 ?_)
    simp [retQ,eqM,yb5,c1a,c2a,c3a,c3b,c3c]
   have c2a:¬ a.txt.length=b.txt.length:=c2
   have c2b:(((a.txt.length:Nat):Int) == (b.txt.length:Nat))=false:=by rw [beq_eq_false_iff_ne];omega
   have c2c:(((a.txt.length:Nat):Int) != (b.txt.length:Nat))=true:=by rw [bne_iff_ne];omega
   refine W_rK [2,3,39] ?_
   iterate 3 refine yq9 8 (by simp [obC,c1a,c2a,c2b,c2c];rfl) rfl ?_
   refine yw9 (by simp [obC,strB,c1a,c2a,c2b,c2c];rfl) ?_
   refine yp9 rfl (fun h=>?_) (fun h=>by simp at h)
   refine yt9 [4] (by simp;rfl) ?_
   refine yn9 ?_
   repeat (first | refine yg9 ?_ | refine yh9 ?_)
   simp [retQ,eqM,yb5,c1a,c2a,c2b,c2c]
  have c1a:¬ a.esd.length=b.esd.length:=c1
  have c1b:(((a.esd.length:Nat):Int) == (b.esd.length:Nat))=false:=by rw [beq_eq_false_iff_ne];omega
  have c1c:(((a.esd.length:Nat):Int) != (b.esd.length:Nat))=true:=by rw [bne_iff_ne];omega
  refine W_rK [2,3,39] ?_
  iterate 3 refine yq9 8 (by simp [obC,c1a,c1b,c1c];rfl) rfl ?_
  refine yw9 (by simp [obC,strB,c1a,c1b,c1c];rfl) ?_
  refine yp9 rfl (fun h=>?_) (fun h=>by simp at h)
  refine yt9 [4] (by simp;rfl) ?_
  refine yn9 ?_
  repeat (first | refine yg9 ?_ | refine yh9 ?_)
  simp [retQ,eqM,yb5,c1a,c1b,c1c]
 rintro _ ⟨hhd,rfl⟩
 have hhd2:=hhd
 simp only [yb5,Bool.and_eq_true,decide_eq_true_eq,beq_iff_eq] at hhd2
 obtain ⟨e1,e2,e3,e4⟩:=hhd2
 refine xh9 (fun σ=>all2 esEq a.esd b.esd=true∧σ=⟨128,[(2,.loc 0 0),(3,.loc 1 0)],[.cells 33 (obC a),.cells 33 (obC b)]⟩) ?_ ?_
 ·refine yt9 [2, 3, 42, 43] (by simp [obC]; rfl) ?_
  refine ys9 ?_
  refine zl9 (fun k σ=>∃ i:Nat,k=a.esd.length - i∧i≤a.esd.length∧all2 esEq a.esd b.esd=all2 esEq (a.esd.drop i) (b.esd.drop i)∧σ=⟨128,[(2,.loc 0 0),(3,.loc 1 0),(42,.v (.int .i64 (a.esd.length:Nat))),(43,.v (.int .i64 (i:Nat)))],[.cells 33 (obC a),.cells 33 (obC b)]⟩) (k:=a.esd.length) ⟨0,rfl,by omega,by simp,by simp [obC,strB]⟩ ?_
  rintro k σ ⟨i,rfl,hi,hall,rfl⟩
  by_cases c:i < a.esd.length
  ·have cb : i < b.esd.length := by omega
   have ci:(i:Int) < a.esd.length:=by omega
   have cib:(i:Int) < b.esd.length:=by omega
   obtain ⟨x,hs⟩:∃ x,a.esd[i]?=some x:=⟨_,List.getElem?_eq_getElem c⟩
   have hx2:a.esd[i]'c=x:=by rw [List.getElem?_eq_getElem c] at hs;exact Option.some.inj hs
   obtain ⟨y,hy⟩:∃ y,b.esd[i]?=some y:=⟨_,List.getElem?_eq_getElem cb⟩
   have hy2:b.esd[i]'cb=y:=by rw [List.getElem?_eq_getElem cb] at hy;exact Option.some.inj hy
   rw [List.drop_eq_getElem_cons c,hx2,List.drop_eq_getElem_cons cb,hy2,all2] at hall
   have wi:=w64 (n:=(i:Int)+1) (by omega) (by omega)
   refine yt9 [2,3,42,43,44] (by simp [ci];rfl) ?_
   refine yl9 ?_
   refine yp9 rfl (fun h=>?_) (fun h=>by simp [c] at h)
   refine yk9 ?_
   refine yl9 ?_
   refine ys9 ?_
   refine yt9 [2,3,42,43,5] (by simp;rfl) ?_
   refine ws9 (fun σ=>σ=⟨128,[(2,.loc 0 0),(3,.loc 1 0),(42,.v (.int .i64 (a.esd.length:Nat))),(43,.v (.int .i64 (i:Nat))),(56,.v (.bool (!esEq x y)))],[.cells 33 (obC a),.cells 33 (obC b)]⟩) ?_ ?_
   ·refine wb9 [2,3,42,43,56] (us8 10 mx (by decide +kernel) ?_)
    refine yr9 5 (by simp [obC,c,ci,hx2];rfl) rfl ?_
    refine ym9 (by simp [obC,cb,cib,hy2];rfl) ?_
    refine vs8 [10] (by decide +kernel) (by simp) ?_
    intro j hj
    simp only [List.mem_cons,List.not_mem_nil,or_false] at hj
    subst hj
    refine ⟨_,rfl,?_⟩
    refine .inr ⟨rfl,?_⟩
    refine xg8 (t:=50) (k1:=50) (k2:=55) (us:=esV x) (vs:=esV y) (fs:=fs78) rfl (by simp [esV,strB]) (by simp [esV,strB]) (by kernel_rfl) (by kernel_rfl) (by kernel_rfl) rfl (es_ok x y) ?_
    rw [es_eq]
    refine ⟨_,by simp;rfl,?_⟩
    refine qm9 (by decide +kernel) ?_
    simp [yj9,km9,obC,strB]
   rintro _ rfl
   by_cases hq:esEq x y=true
   rotate_left
   ·have hqf:esEq x y=false:=by simpa using hq
    refine yp9 (t:=true) (by simp [hqf]) (fun h=>?_) (fun h=>by simp at h)
    refine yt9 [4] (by simp;rfl) ?_
    refine yn9 ?_
    repeat (first | refine yg9 ?_ | refine yh9 ?_)
    rw [hqf,Bool.false_and] at hall
    simp [retQ,eqM,hhd,hall]
   refine yp9 (t:=false) (by simp [hq]) (fun h=>by simp at h) (fun h=>?_)
   refine yk9 ?_
   rw [hq,Bool.true_and] at hall
   refine zq9 [2,3,42,43] (by simp [wi];rfl) ?_
   exact ⟨_,by omega,i+1,rfl,by omega,hall,by simp [obC,strB]⟩
  have hie:i=a.esd.length:=by omega
  rw [hie,List.drop_length] at hall
  refine yt9 [2,3,42,43,44] (by simp [c];rfl) ?_
  refine yl9 ?_
  refine yp9 rfl (fun h=>by simp [hie] at h) (fun h=>?_)
  refine zs9 [2,3] ?_
  refine zj9 ?_
  exact ⟨by rw [hall];rfl,by simp [obC,strB]⟩
 rintro _ ⟨ha1,rfl⟩
 refine xh9 (fun σ=>all2 txEq a.txt b.txt=true∧σ=⟨128,[(2,.loc 0 0),(3,.loc 1 0)],[.cells 33 (obC a),.cells 33 (obC b)]⟩) ?_ ?_
 ·refine yt9 [2, 3, 60, 61] (by simp [obC]; rfl) ?_
  refine ys9 ?_
  refine zl9 (fun k σ=>∃ i:Nat,k=a.txt.length - i∧i≤a.txt.length∧all2 txEq a.txt b.txt=all2 txEq (a.txt.drop i) (b.txt.drop i)∧σ=⟨128,[(2,.loc 0 0),(3,.loc 1 0),(60,.v (.int .i64 (a.txt.length:Nat))),(61,.v (.int .i64 (i:Nat)))],[.cells 33 (obC a),.cells 33 (obC b)]⟩) (k:=a.txt.length) ⟨0,rfl,by omega,by simp,by simp [obC,strB]⟩ ?_
  rintro k σ ⟨i,rfl,hi,hall,rfl⟩
  by_cases c:i < a.txt.length
  ·have cb : i < b.txt.length := by omega
   have ci:(i:Int) < a.txt.length:=by omega
   have cib:(i:Int) < b.txt.length:=by omega
   obtain ⟨x,hs⟩:∃ x,a.txt[i]?=some x:=⟨_,List.getElem?_eq_getElem c⟩
   have hx2:a.txt[i]'c=x:=by rw [List.getElem?_eq_getElem c] at hs;exact Option.some.inj hs
   obtain ⟨y,hy⟩:∃ y,b.txt[i]?=some y:=⟨_,List.getElem?_eq_getElem cb⟩
   have hy2:b.txt[i]'cb=y:=by rw [List.getElem?_eq_getElem cb] at hy;exact Option.some.inj hy
   rw [List.drop_eq_getElem_cons c,hx2,List.drop_eq_getElem_cons cb,hy2,all2] at hall
   have wi:=w64 (n:=(i:Int)+1) (by omega) (by omega)
   refine yt9 [2,3,60,61,62] (by simp [ci];rfl) ?_
   refine yl9 ?_
   refine yp9 rfl (fun h=>?_) (fun h=>by simp [c] at h)
   refine yk9 ?_
   refine yl9 ?_
   refine ys9 ?_
   refine yt9 [2,3,60,61,6] (by simp;rfl) ?_
   refine ws9 (fun σ=>σ=⟨128,[(2,.loc 0 0),(3,.loc 1 0),(60,.v (.int .i64 (a.txt.length:Nat))),(61,.v (.int .i64 (i:Nat))),(108,.v (.bool (!txEq x y)))],[.cells 33 (obC a),.cells 33 (obC b)]⟩) ?_ ?_
   ·by_cases d1 : x.id = y.id
    ·have d1a : x.id = y.id := d1
     by_cases d2:x.addr=y.addr
     ·have d2a : x.addr = y.addr := d2
      by_cases d3:x.data=y.data
      ·have d3a:x.data=y.data:=d3
       refine qt9 [2,3,60,61,108] mx (by decide +kernel) ?_
       iterate 2 refine yr9 6 (by simp [obC,c,ci,hx2,cb,cib,hy2,d1a,d2a,d3a];rfl) rfl ?_
       iterate 3 refine yr9 8 (by simp [obC,c,ci,hx2,cb,cib,hy2,d1a,d2a,d3a];rfl) rfl ?_
       refine ym9 (by simp [obC,c,ci,hx2,cb,cib,hy2,d1a,d2a,d3a];rfl) ?_
       simp [yj9,txEq,obC,strB,d1a,d2a,d3a]
      have d3a:¬ x.data=y.data:=d3
      have d3b:(x.data == y.data)=false:=beq_eq_false_iff_ne.2 d3
      have d3c:(x.data != y.data)=true:=bne_iff_ne.2 d3
      refine qt9 [2,3,60,61,108] mx (by decide +kernel) ?_
      iterate 2 refine yr9 6 (by simp [obC,c,ci,hx2,cb,cib,hy2,d1a,d2a,d3a,d3b,d3c];rfl) rfl ?_
      iterate 3 refine yr9 8 (by simp [obC,c,ci,hx2,cb,cib,hy2,d1a,d2a,d3a,d3b,d3c];rfl) rfl ?_
      refine ym9 (by simp [obC,c,ci,hx2,cb,cib,hy2,d1a,d2a,d3a,d3b,d3c];rfl) ?_
      simp [yj9,txEq,obC,strB,d1a,d2a,d3a,d3b,d3c]
     have d2a:¬ x.addr=y.addr:=d2
     have d2b:(x.addr == y.addr)=false:=beq_eq_false_iff_ne.2 d2
     have d2c:(x.addr != y.addr)=true:=bne_iff_ne.2 d2
     refine qt9 [2,3,60,61,108] mx (by decide +kernel) ?_
     iterate 2 refine yr9 6 (by simp [obC,c,ci,hx2,cb,cib,hy2,d1a,d2a,d2b,d2c];rfl) rfl ?_
     iterate 3 refine yr9 8 (by simp [obC,c,ci,hx2,cb,cib,hy2,d1a,d2a,d2b,d2c];rfl) rfl ?_
     refine ym9 (by simp [obC,c,ci,hx2,cb,cib,hy2,d1a,d2a,d2b,d2c];rfl) ?_
     simp [yj9,txEq,obC,strB,d1a,d2a,d2b,d2c]
    have d1a:¬ x.id=y.id:=d1
    have d1b:(x.id == y.id)=false:=beq_eq_false_iff_ne.2 d1
    have d1c:(x.id != y.id)=true:=bne_iff_ne.2 d1
    refine qt9 [2,3,60,61,108] mx (by decide +kernel) ?_
    iterate 2 refine yr9 6 (by simp [obC,c,ci,hx2,cb,cib,hy2,d1a,d1b,d1c];rfl) rfl ?_
    iterate 3 refine yr9 8 (by simp [obC,c,ci,hx2,cb,cib,hy2,d1a,d1b,d1c];rfl) rfl ?_
    refine ym9 (by simp [obC,c,ci,hx2,cb,cib,hy2,d1a,d1b,d1c];rfl) ?_
    simp [yj9,txEq,obC,strB,d1a,d1b,d1c]
   rintro _ rfl
   by_cases hq:txEq x y=true
   rotate_left
   ·have hqf:txEq x y=false:=by simpa using hq
    refine yp9 (t:=true) (by simp [hqf]) (fun h=>?_) (fun h=>by simp at h)
    refine yt9 [4] (by simp;rfl) ?_
    refine yn9 ?_
    repeat (first | refine yg9 ?_ | refine yh9 ?_)
    rw [hqf,Bool.false_and] at hall
    simp [retQ,eqM,hhd,ha1,hall]
   refine yp9 (t:=false) (by simp [hq]) (fun h=>by simp at h) (fun h=>?_)
   refine yk9 ?_
   rw [hq,Bool.true_and] at hall
   refine zq9 [2,3,60,61] (by simp [wi];rfl) ?_
   exact ⟨_,by omega,i+1,rfl,by omega,hall,by simp [obC,strB]⟩
  have hie:i=a.txt.length:=by omega
  rw [hie,List.drop_length] at hall
  refine yt9 [2,3,60,61,62] (by simp [c];rfl) ?_
  refine yl9 ?_
  refine yp9 rfl (fun h=>by simp [hie] at h) (fun h=>?_)
  refine zs9 [2,3] ?_
  refine zj9 ?_
  exact ⟨by rw [hall];rfl,by simp [obC,strB]⟩
 rintro _ ⟨ha2,rfl⟩
 refine xh9 (fun σ=>all2 rdEq a.rld b.rld=true∧σ=⟨128,[(2,.loc 0 0),(3,.loc 1 0)],[.cells 33 (obC a),.cells 33 (obC b)]⟩) ?_ ?_
 ·refine yt9 [2, 3, 112, 113] (by simp [obC]; rfl) ?_
  refine ys9 ?_
  refine zl9 (fun k σ=>∃ i:Nat,k=a.rld.length - i∧i≤a.rld.length∧all2 rdEq a.rld b.rld=all2 rdEq (a.rld.drop i) (b.rld.drop i)∧σ=⟨128,[(2,.loc 0 0),(3,.loc 1 0),(112,.v (.int .i64 (a.rld.length:Nat))),(113,.v (.int .i64 (i:Nat)))],[.cells 33 (obC a),.cells 33 (obC b)]⟩) (k:=a.rld.length) ⟨0,rfl,by omega,by simp,by simp [obC,strB]⟩ ?_
  rintro k σ ⟨i,rfl,hi,hall,rfl⟩
  by_cases c:i < a.rld.length
  ·have cb : i < b.rld.length := by omega
   have ci:(i:Int) < a.rld.length:=by omega
   have cib:(i:Int) < b.rld.length:=by omega
   obtain ⟨x,hs⟩:∃ x,a.rld[i]?=some x:=⟨_,List.getElem?_eq_getElem c⟩
   have hx2:a.rld[i]'c=x:=by rw [List.getElem?_eq_getElem c] at hs;exact Option.some.inj hs
   obtain ⟨y,hy⟩:∃ y,b.rld[i]?=some y:=⟨_,List.getElem?_eq_getElem cb⟩
   have hy2:b.rld[i]'cb=y:=by rw [List.getElem?_eq_getElem cb] at hy;exact Option.some.inj hy
   rw [List.drop_eq_getElem_cons c,hx2,List.drop_eq_getElem_cons cb,hy2,all2] at hall
   have wi:=w64 (n:=(i:Int)+1) (by omega) (by omega)
   refine yt9 [2,3,112,113,114] (by simp [ci];rfl) ?_
   refine yl9 ?_
   refine yp9 rfl (fun h=>?_) (fun h=>by simp [c] at h)
   refine yk9 ?_
   refine yl9 ?_
   refine ys9 ?_
   refine yt9 [2,3,112,113,7] (by simp;rfl) ?_
   refine ws9 (fun σ=>σ=⟨128,[(2,.loc 0 0),(3,.loc 1 0),(112,.v (.int .i64 (a.rld.length:Nat))),(113,.v (.int .i64 (i:Nat))),(126,.v (.bool (!rdEq x y)))],[.cells 33 (obC a),.cells 33 (obC b)]⟩) ?_ ?_
   ·refine wb9 [2,3,112,113,126] (us8 10 mx (by decide +kernel) ?_)
    refine yr9 5 (by simp [obC,c,ci,hx2];rfl) rfl ?_
    refine ym9 (by simp [obC,cb,cib,hy2];rfl) ?_
    refine vs8 [10] (by decide +kernel) (by simp) ?_
    intro j hj
    simp only [List.mem_cons,List.not_mem_nil,or_false] at hj
    subst hj
    refine ⟨_,rfl,?_⟩
    refine .inr ⟨rfl,?_⟩
    refine xg8 (t:=46) (k1:=120) (k2:=125) (us:=rdV x) (vs:=rdV y) (fs:=fs80) rfl (by simp [rdV,strB]) (by simp [rdV,strB]) (by kernel_rfl) (by kernel_rfl) (by kernel_rfl) rfl (rd_ok x y) ?_
    rw [rd_eq]
    refine ⟨_,by simp;rfl,?_⟩
    refine qm9 (by decide +kernel) ?_
    simp [yj9,km9,obC,strB]
   rintro _ rfl
   by_cases hq:rdEq x y=true
   rotate_left
   ·have hqf:rdEq x y=false:=by simpa using hq
    refine yp9 (t:=true) (by simp [hqf]) (fun h=>?_) (fun h=>by simp at h)
    refine yt9 [4] (by simp;rfl) ?_
    refine yn9 ?_
    repeat (first | refine yg9 ?_ | refine yh9 ?_)
    rw [hqf,Bool.false_and] at hall
    simp [retQ,eqM,hhd,ha1,ha2,hall]
   refine yp9 (t:=false) (by simp [hq]) (fun h=>by simp at h) (fun h=>?_)
   refine yk9 ?_
   rw [hq,Bool.true_and] at hall
   refine zq9 [2,3,112,113] (by simp [wi];rfl) ?_
   exact ⟨_,by omega,i+1,rfl,by omega,hall,by simp [obC,strB]⟩
  have hie:i=a.rld.length:=by omega
  rw [hie,List.drop_length] at hall
  refine yt9 [2,3,112,113,114] (by simp [c];rfl) ?_
  refine yl9 ?_
  refine yp9 rfl (fun h=>by simp [hie] at h) (fun h=>?_)
  refine zs9 [2,3] ?_
  refine zj9 ?_
  exact ⟨by rw [hall];rfl,by simp [obC,strB]⟩
 rintro _ ⟨ha3,rfl⟩
 refine yt9 [4] (by simp;rfl) ?_
 refine yn9 ?_
 repeat (first | refine yg9 ?_ | refine yh9 ?_)
 simp [retQ,eqM,hhd,ha1,ha2,ha3]
def knE:KnF:=fun f args =>
 if f=24 then match args with
  | [x,y]=>(obOf x).bind fun a=>(obOf y).bind fun b =>
    if a.esd.length≤1000000∧a.txt.length≤1000000∧a.rld.length≤1000000 then some (.v (.bool (eqM a b))) else none
  | _=>none
 else knS f args
theorem knE_ok:KnOk Tryz.prog knE:=by
 intro f args r h
 unfold knE at h
 split at h
 ·rename_i hf
  subst hf
  split at h
  ·obtain ⟨a, ha, h⟩ := Option.bind_eq_some_iff.1 h
   obtain ⟨b,hb,h⟩:=Option.bind_eq_some_iff.1 h
   split at h
   ·rename_i hc
    cases h
    rw [ud6 ha,ud6 hb]
    exact zl6 a b hc.1 hc.2.1 hc.2.2
   ·cases h
  ·cases h
 ·exact knS_ok f args r h
set_option maxRecDepth 100000
theorem wr5:Sound Tryz.prog 9 [] (.v (.bool true)):=HX.sound_execK (hb:=fun t=>t == 30) knE_ok mx 3000 (by kernel_rfl)
def dB (b:List UInt8) (fr i:Nat):UInt8:=if b=[] then UInt8.ofNat i else b.getD ((fr+i) % b.length) 0
def jn8 (b:List UInt8) (fr n:Nat):List UInt8:=(List.range n).map (dB b fr)
@[simp] theorem dataM_len (b:List UInt8) (fr n:Nat):(jn8 b fr n).length=n:=by simp [jn8]
theorem wb4 (p r:List UInt8) (z w:UInt8):yf9 (byL (p++z :: r)) p.length [.v (.int .u8 w.toNat)]=byL (p++w :: r):=by
 rw [wc9,wc9,vp9,vp9,yf9,List.take_append_of_le_length (by simp),List.take_of_length_le (by simp),List.drop_append]
 simp
theorem zh4 (b:List UInt8) (fr n:Nat) (hb:b.length≤9223372036854775000) (hf:fr≤1000) (hn:n≤100000):Sound Tryz.prog 15 [.lst .any 1 (byL b),.v (.int .i64 fr),.v (.int .i64 n)] (.lst .any 1 (byL (jn8 b fr n))):=by
 refine vm9 Tryz.func15 rfl (by decide +kernel) (by simp [Tryz.f15]) rfl rfl (rs:=[.tmp 6]) rfl ?_
 rw [show Tryz.f15.ntmps=38 from rfl]
 have hn2:(n:Int)≤281474976710656:=by omega
 have hn3:(n:Int)≤9223372036854775807:=by omega
 refine yt9 [0,1,2] (by simp;rfl) ?_
 refine yt9 [0,1,7] (by simp [hn2,hn3];rfl) ?_
 refine ws9 (fun σ=>σ=⟨38,[(7,.arr 0 0 n n)],[.cells 5 (byL (jn8 b fr n))]⟩) ?_ ?_
 ·refine yt9 [0, 1, 7, 12, 13] (by simp; rfl) ?_
  refine ys9 ?_
  refine zl9 (fun k σ=>∃ i:Nat,k=n - i∧i≤n∧σ=⟨38,[(0,.lst .any 1 (byL b)),(1,.v (.int .i64 fr)),(7,.arr 0 0 n n),(12,.v (.int .i64 n)),(13,.v (.int .i64 (i:Nat)))],[.cells 5 (byL (jn8 b fr i++List.replicate (n - i) 0))]⟩) (k:=n) ⟨0,rfl,by omega,?_⟩ ?_
  ·simp [kt8,jn8]
  rintro k σ ⟨i,rfl,hi,rfl⟩
  by_cases c:i < n
  ·have ci : (i : Int) < n := by omega
   have wi:=w64 (n:=(i:Int)+1) (by omega) (by omega)
   have wf:=w64 (n:=(fr:Int)+i) (by omega) (by omega)
   obtain ⟨D,hD⟩:∃ D,jn8 b fr i=D:=⟨_,rfl⟩
   have hDl:D.length=i:=by rw [← hD];simp
   have hrep:List.replicate (n - i) (0:UInt8)=0 :: List.replicate (n - (i+1)) 0:=by
    rw [show n - i=n - (i+1)+1 by omega,List.replicate_succ]
   have hsnoc:jn8 b fr (i+1)=D++[dB b fr i]:=by rw [jn8,List.range_succ,List.map_append,← hD];rfl
   have hfin:byL (jn8 b fr (i+1)++List.replicate (n - (i+1)) 0)=byL (D++dB b fr i :: List.replicate (n - (i+1)) 0):=by rw [hsnoc];simp
   rw [hD,hrep]
   have hlen:∀ z:UInt8,i+1≤(byL (D++z :: List.replicate (n - (i+1)) 0)).length:=by intro z;simp [hDl] <;> omega
   obtain ⟨u0,hu0⟩:∃ u,UInt8.ofNat i=u:=⟨_,rfl⟩
   have s1:=wb4 D (List.replicate (n - (i+1)) 0) 0 u0
   rw [hDl] at s1
   have hu8:IntKind.u8.wrap (i:Int)=(u0.toNat:Nat):=by rw [← hu0];exact u8v i
   refine yt9 [0,1,7,12,13,14] (by simp [ci];rfl) ?_
   refine yl9 ?_
   refine yp9 rfl (fun h=>?_) (fun h=>by simp [c] at h)
   refine yk9 ?_
   refine yl9 ?_
   refine ys9 ?_
   refine yt9 [0,1,7,12,13,8] (by simp;rfl) ?_
   obtain ⟨z0,hz0⟩:∃ z,byL (D++0 :: List.replicate (n - (i+1)) 0)=z:=⟨_,rfl⟩
   have hl0:=hlen 0
   rw [hz0] at s1 hl0 ⊢
   refine yt9 [0,1,7,12,13,8] (by simp [c,ci,hu8,hl0];rfl) ?_
   rw [s1]
   refine kh6 (fun σ=>σ=⟨38,[(0,.lst .any 1 (byL b)),(1,.v (.int .i64 fr)),(7,.arr 0 0 n n),(12,.v (.int .i64 n)),(13,.v (.int .i64 (i:Nat)))],[.cells 5 (byL (D++dB b fr i :: List.replicate (n - (i+1)) 0))]⟩) ?_ ?_
   ·by_cases hb0 : b = []
    ·subst hb0
     refine W_cF [0,1,7,12,13,8,23] (by simp;rfl) rfl ?_
     refine zs9 [0,1,7,12,13] ?_
     refine yk9 ?_
     simp [yj9,qp8,dB,hu0]
    ·have hpos : 0 < b.length := List.length_pos_iff.2 hb0
     have hpi:(0:Int) < b.length:=by omega
     obtain ⟨q,hq⟩:∃ q,(fr+i) % b.length=q:=⟨_,rfl⟩
     have hql:q < b.length:=by rw [← hq];exact Nat.mod_lt _ hpos
     have hqi:(q:Int) < b.length:=by omega
     obtain ⟨y,hy⟩:∃ y,b[q]?=some y:=⟨_,List.getElem?_eq_getElem hql⟩
     have hy2:b[q]'hql=y:=by rw [List.getElem?_eq_getElem hql] at hy;exact Option.some.inj hy
     have hdb:dB b fr i=y:=by rw [dB,if_neg hb0,hq,List.getD_eq_getElem?_getD,hy];rfl
     have hrem:Int.tmod ((fr:Int)+i) b.length=q:=by
      rw [show ((fr:Int)+i)=((fr+i:Nat):Int) by omega,← hq]
      exact rfl
     have wq:=w64 (n:=(q:Int)) (by omega) (by omega)
     have s2:=wb4 D (List.replicate (n - (i+1)) 0) u0 y
     rw [hDl] at s2
     have hl1:=hlen u0
     obtain ⟨z1,hz1⟩:∃ z,byL (D++u0 :: List.replicate (n - (i+1)) 0)=z:=⟨_,rfl⟩
     rw [hz1] at s2 hl1 ⊢
     rw [hdb]
     refine W_cT [0,1,7,12,13,8,23] (by simp [hpos,hpi];rfl) rfl ?_
     refine W_rE [0,1,7,12,13] ?_
     refine yq9 8 (by simp [wf];rfl) rfl ?_
     refine yq9 3 (by simp [hrem,wq,hb0,hql,hqi,hy2];rfl) rfl ?_
     refine yw9 (by simp [c,ci,hl1];rfl) ?_
     simp [yj9,qp8,s2]
   rintro _ rfl
   refine zq9 [0,1,7,12,13] (by simp [wi];rfl) ?_
   exact ⟨_,by omega,i+1,rfl,by omega,by rw [hfin];simp⟩
  have hie:i=n:=by omega
  subst hie
  refine yt9 [7,14] (by simp;rfl) ?_
  refine yl9 ?_
  refine yp9 rfl (fun h=>by simp at h) (fun h=>?_)
  refine zs9 [7] ?_
  refine zj9 ?_
  simp [yj9]
 rintro _ rfl
 have hle:(jn8 b fr n).length=n:=by simp
 refine yt9 [6] (by simp;rfl) ?_
 refine yn9 ?_
 repeat (first | refine yg9 ?_ | refine yh9 ?_)
 exact ⟨_,by simp [retQ,vc9,hle];exact ⟨rfl,rfl⟩,.inr (by simp [hle,List.take_of_length_le (Nat.le_of_eq hle)])⟩
def u16L (l:List Nat):List AV:=l.map fun n=>.v (.int .u16 (n:Nat))
@[simp] theorem u16L_length (l:List Nat):(u16L l).length=l.length:=by simp [u16L]
@[simp] theorem u16L_getElem (l:List Nat) (i:Nat) (h:i < (u16L l).length):(u16L l)[i]=.v (.int .u16 (l[i]'(by simpa using h):Nat)):=by simp [u16L]
@[simp] theorem dpL_u16L (l:List Nat):AV.dpL (u16L l)=u16L l:=by induction l <;> simp_all [u16L,AV.dpL,AV.dp]
structure SeedM where
 esds:List UInt8
 txts:List Nat
 rlds:List Nat
 entry:UInt8
 data:List UInt8
def zn9 (x:SeedM):List AV:=[.lst .any 1 (byL x.esds),.lst .any 1 (u16L x.txts),.lst .any 1 (u16L x.rlds),.v (.int .u8 x.entry.toNat),.lst .any 1 (byL x.data)]
@[simp] def wv5 (x:SeedM):AV:=.agg [.lst .any 1 (byL x.esds),.lst .any 1 (u16L x.txts),.lst .any 1 (u16L x.rlds),.v (.int .u8 x.entry.toNat),.lst .any 1 (byL x.data)]
@[simp] theorem killL_seedC (t:Nat) (x:SeedM):AV.killL t (zn9 x)=zn9 x:=by simp [zn9,AV.killL,AV.kill]
theorem wm9 (t:Nat) (x:SeedM):AV.underL t (zn9 x)=true:=by simp [zn9,AV.underL,AV.under]
@[simp] theorem eq27c (y:AV) (l:List AV):eqA Tryz.prog 23 (.lst .any 1 (y :: l)) (.lst .nil 0 [])=some false:=by
 unfold eqA
 simp only [k23]
 rfl
@[simp] theorem eq27n:eqA Tryz.prog 23 (.lst .nil 1 []) (.lst .nil 0 [])=some true:=by
 unfold eqA
 simp only [k23]
 rfl
@[simp] theorem eq27s (a:Addr) (n cap:Nat):eqA Tryz.prog 23 (.v (.slice (some a) n cap)) (.lst .nil 0 [])=some false:=by
 unfold eqA
 simp only [k23]
 rfl
theorem clone64 (l:List UInt8) (hl:l.length≤140737488351232):Sound Tryz.prog 34 [.lst .any 1 (byL l)] (.lst (.tip 5 1) 1 (byL l)):=by
 refine uh9 Tryz.func34 rfl (by decide +kernel) (by simp [Tryz.f34]) rfl rfl (rs:=[.tmp 2]) rfl ?_
 rw [show Tryz.f34.ntmps=8 from rfl]
 have hb:l.length≤140737488355328:=by omega
 refine yt9 [0] (by simp;rfl) ?_
 refine yl9 ?_
 cases l with
 | cons x l =>
  refine W_cF [0,4] (by simp [vp9];rfl) rfl ?_
  refine yk9 ?_
  rw [← vp9]
  refine yt9 [2] (by simp at hb;simp [hb];rfl) ?_
  refine yn9 ?_
  repeat (first | refine yg9 ?_ | refine yh9 ?_)
  exact ⟨_,by simp [retQ];exact ⟨rfl,by simp⟩,.norm fun T=>by simp⟩
 | nil =>
  refine xd4 0 (sz:=1) rfl ?_ fun ad cap hc=>?_
  ·refine W_cT [0,4] (by simp [putF];rfl) rfl ?_
   refine yt9 [2] (by simp;rfl) ?_
   refine yn9 ?_
   repeat (first | refine yg9 ?_ | refine yh9 ?_)
   exact ⟨.lst .nil 1 [],by simp [retQ],.nil (by decide +kernel)⟩
  ·refine W_cF [0,4] (by simp [putF];rfl) rfl ?_
   refine yk9 ?_
   refine zs9 [0] ?_
   refine W_unnil 0 1 (by simp;rfl) hc ?_
   refine yt9 [2] (by simp [putF];rfl) ?_
   refine yn9 ?_
   repeat (first | refine yg9 ?_ | refine yh9 ?_)
   exact ⟨_,by simp [retQ];exact ⟨rfl,by simp⟩,.norm fun T=>by simp⟩
theorem clone64p (l:List UInt8) (hl:l.length≤140737488351232):Sound Tryz.prog 34 [.lst .any 1 (byL l)] (.lst .any 1 (byL l)):=(clone64 l hl).weakR
structure LB (m:LMod) (n:Nat):Prop where
 s:m.seg.length * 14≤n
 t:m.text.length≤n
 r:m.rel.length≤n
def zObD:List AV:=[.lst .nil 5 [],.lst .nil 3 [],.lst .nil 5 [],.v (.string ⟨#[]⟩)]
def oF (fe ft fr:Fl) (o:OMod):List AV:=[.lst fe 5 (esL o.esd),.lst ft 3 (txL o.txt),.lst fr 5 (rdL o.rld),strB o.entry]
def FlD (fe ft fr:Fl) (o:OMod):Prop:=(fe=.nil∧o.esd=[]∨fe=.tip 50 129)∧(ft=.nil∧o.txt=[]∨ft=.tip 42 105)∧(fr=.nil∧o.rld=[]∨fr=.tip 46 187)
theorem zj7 {T e a s:Nat} {f:Fl} {p:Prop} {x:List AV} (h:f=.nil∧p∨f=.tip e a) (hne:a≠T):AV.kill T (.lst f s x)=.lst f s x:=by
 rcases h with ⟨rfl,_⟩ | rfl
 ·rfl
 ·rw [us9,if_neg hne]
structure OBd (s:OMod × Int) (n:Nat):Prop where
 e:s.1.esd.length≤3 * n
 t:s.1.txt.length≤n
 r:s.1.rld.length≤7 * n
 n0:0≤s.2
 n1:s.2≤1+3 * n
 ok:OIn s.1
theorem yg8 (b:List UInt8) (a n:Nat) (h:a+n≤b.length):(sbM b a n).length=n:=by
 unfold sbM
 rw [List.length_take,List.length_drop]
 omega
theorem zc3 (l:List UInt8):(decM l).length=l.length:=by simp [decM]
theorem nmM_len (l:List UInt8):(nmM l).length≤l.length:=by
 unfold nmM uk8
 rw [zc3,List.length_reverse]
 have:=(List.dropWhile_sublist (· == (64:UInt8)) (l:=l.reverse)).length_le
 simpa using this
theorem vk4 (b : List UInt8) (hb : b.length = 80) (base : List Esd) (nx : Int) (P : Esd → Prop) (h0 : ∀ x ∈ base, P x) (hP : ∀ x : Esd, x.name.length ≤ 8 → 0 ≤ x.addr → x.addr ≤ 16777216 → P x) : ∀ k, k ≤ 3 → ∀ x ∈ (rdEs b base nx k).1, P x
 | 0,_,x,hx=>h0 x hx
 | k+1,hk,x,hx=>by
  rw [rdEs] at hx
  rcases List.mem_append.1 hx with hx | hx
  ·exact vk4 b hb base nx P h0 hP k (by omega) x hx
  ·simp only [List.mem_singleton] at hx
   subst hx
   obtain ⟨X,hX⟩:∃ X,b.drop (16+16 * k)=X:=⟨_,rfl⟩
   have hXl:16≤X.length:=by rw [← hX,List.length_drop];omega
   rw [hX]
   have hn:(nmM (X.take 8)).length≤8:=by
    have:=nmM_len (X.take 8)
    rw [List.length_take] at this
    omega
   have hv:=xm8 3 (sbM X 9 3) (yg8 _ _ _ (by omega))
   have h256:(256:Nat) ^ 3=16777216:=by decide
   refine hP _ ?_ ?_ ?_
   ·unfold rdE;split;exact hn;split;exact hn;exact hn
   ·unfold rdE;split;(simp only;omega);split;(simp only;omega);(simp only;omega)
   ·unfold rdE;split;(simp only;omega);split;(simp only;omega);(simp only;omega)
theorem OBd.item {s s':OMod × Int} {n:Nat} {b:List UInt8} {p:Bool} (h:OBd s n) (hb:b.length=80) (hi:wk7 p s b=some s'):OBd s' (n+1):=by
 obtain ⟨he,ht,hr,hn0,hn1,⟨oe,ot,orr⟩⟩:=h
 have h256:(256:Nat) ^ 3=16777216:=by decide
 have hc3:∀ v,cntE p v≤3:=fun v=>by unfold cntE;split <;> omega
 have hc7:∀ v,cntR p v≤7:=fun v=>by unfold cntR;split <;> omega
 unfold wk7 at hi
 split at hi
 ·obtain ⟨k,hk⟩:∃ k,cntE p (valM (sbM b 10 2))=k:=⟨_,rfl⟩
  have hk3:=hc3 (valM (sbM b 10 2))
  rw [hk] at hi hk3
  have hl:=ub7 b s.1.esd s.2 k
  have hx:=ur6 b s.1.esd s.2 k
  cases hi
  refine ⟨by simp only;omega,by simp only;omega,by simp only;omega,by simp only;omega,by simp only;omega,⟨?_,ot,orr⟩⟩
  exact vk4 b hb _ _ _ oe (fun x h1 h2 h3=>⟨by omega,by unfold i64r;omega⟩) k hk3
 split at hi
 ·split at hi
  ·cases hi
  ·cases hi
   refine ⟨by simp only;omega,by simp only [List.length_append,List.length_singleton];omega,by simp only;omega,by simp only;omega,by simp only;omega,⟨oe,?_,orr⟩⟩
   intro x hx
   rcases List.mem_append.1 hx with hx | hx
   ·exact ot x hx
   ·simp only [List.mem_singleton] at hx
    subst hx
    have hv:=xm8 3 (sbM b 5 3) (yg8 _ _ _ (by omega))
    refine ⟨by unfold i64r;simp only;omega,?_⟩
    simp only [sbM,List.length_take]
    omega
 split at hi
 ·cases hi
  have h7:=hc7 (valM (sbM b 10 2))
  refine ⟨by simp only;omega,by simp only;omega,by simp only [List.length_append,rdRs,List.length_map,List.length_range];omega,by simp only;omega,by simp only;omega,⟨oe,ot,?_⟩⟩
  intro x hx
  rcases List.mem_append.1 hx with hx | hx
  ·exact orr x hx
  ·obtain ⟨j,hj,rfl⟩:=List.mem_map.1 hx
   have hj:=List.mem_range.1 hj
   have hv:=xm8 3 (sbM (b.drop (16+8 * j)) 5 3) (yg8 _ _ _ (by rw [List.length_drop];omega))
   unfold i64r rdR8
   simp only
   omega
 split at hi
 ·cases hi
  exact ⟨by simp only;omega,by simp only;omega,by simp only;omega,by simp only;omega,by simp only;omega,⟨oe,ot,orr⟩⟩
 ·cases hi
  exact ⟨by omega,by omega,by omega,by omega,by omega,⟨oe,ot,orr⟩⟩
theorem xs7 (l : List Esd) : ∀ (f i : Nat), (egoE l f i).length ≤ f
 | 0,i=>by simp [egoE]
 | f+1,i=>by
  rw [egoE]
  split
  ·have:=xs7 l f (i+3)
   simp only [List.length_cons]
   omega
  ·simp
theorem xp7 (l : List Rld) : ∀ (f i : Nat), (egoR l f i).length ≤ f
 | 0,i=>by simp [egoR]
 | f+1,i=>by
  rw [egoR]
  split
  ·have:=xp7 l f (i+7)
   simp only [List.length_cons]
   omega
  ·simp
theorem wr4 (s t:List Txt):txL (s++t)=txL s++txL t:=by simp [txL]
theorem vj4 (s t:List Rld):rdL (s++t)=rdL s++rdL t:=by simp [rdL]
theorem ww4:txL []=[]:=rfl
theorem vh4:rdL []=[]:=rfl
theorem xm4 (x:Txt):txL [x]=[txA x]:=rfl
theorem vg4 (x:Rld):rdL [x]=[rdA x]:=rfl
theorem bit2:∀ n:Fin 256,(BitVec.ofInt 8 (n.val:Int) &&& BitVec.ofInt 8 2).toNat=n.val / 2 % 2 * 2:=by decide +kernel
theorem and2 (n:Nat) (h:n < 256):xh7 .and .u8 (n:Int) 2=some (.v (.int .u8 ((n / 2 % 2 * 2:Nat):Int))):=by
 have:=bit2 ⟨n,h⟩
 simp only at this
 show some (AV.v (.int .u8 (IntKind.u8.wrap ((BitVec.ofInt 8 (n:Int) &&& BitVec.ofInt 8 2).toNat:Nat))))=_
 rw [this,wu8 (by omega) (by omega)]
theorem shr2 (v:Nat):((v:Int).fdiv (2 ^ min 2 IntKind.u8.bits))=((v / 4:Nat):Int):=by
 have:min 2 IntKind.u8.bits=2:=by decide
 rw [this,Int.fdiv_eq_ediv_of_nonneg _ (by omega)]
 omega
theorem jn6 (b:List UInt8) (n:Nat):rdRs b (n+1)=rdRs b n++[rdR8 (b.drop (16+8 * n))]:=by simp [rdRs,List.range_succ]
theorem vc8 (a b:List UInt8):(a == b)=decide (a=b):=by rw [Bool.eq_iff_iff];simp
theorem xc8 (L : List (List UInt8)) (hL : L.length ≤ 1000000) :
  Sound Tryz.prog 16 [.lst .any 1 (bbL L)] (.tup [obA (dcD true L).1,.v (.int .i64 (if (dcD true L).2=true then 0 else 310))]):=by
 refine uh9 Tryz.func16 rfl (by decide +kernel) (by simp [Tryz.f16]) rfl rfl (rs:=[.cell 2 33,.tmp 3]) rfl ?_
 rw [show Tryz.f16.ntmps=118 from rfl]
 refine yt9 [0,2] (by simp;rfl) ?_
 refine yt9 [0,2,4] (by simp;rfl) ?_
 refine yt9 [0,2,4,5] (by simp;rfl) ?_
 refine xh9 (fun σ=>∃ (o:OMod) (nx:Int) (fe ft fr:Fl),goD true L (om0,1)=some (o,nx)∧OBd (o,nx) L.length∧FlD fe ft fr o∧σ=⟨118,[(0,.lst .any 1 (bbL L)),(2,.loc 0 0),(4,.loc 1 0),(5,.v (.int .i64 nx))],[.cells 33 zObD,.cells 33 (oF fe ft fr o)]⟩) ?_ ?_
 ·refine yt9 [0, 2, 4, 5, 13, 14, 15] (by simp; rfl) ?_
  refine ys9 ?_
  refine zl9 (fun k s => ∃ (i : Nat) (o : OMod) (nx : Int) (fe ft fr : Fl), k = L.length - i ∧ i ≤ L.length ∧ goD true (L.drop i) (o, nx) = goD true L (om0, 1) ∧ OBd (o, nx) i ∧ FlD fe ft fr o ∧
   s=⟨118,[(0,.lst .any 1 (bbL L)),(2,.loc 0 0),(4,.loc 1 0),(5,.v (.int .i64 nx)),(13,.lst .any 1 (bbL L)),(14,.v (.int .i64 (L.length:Nat))),(15,.v (.int .i64 (i:Nat)))],[.cells 33 zObD,.cells 33 (oF fe ft fr o)]⟩) (k:=L.length) ⟨0,om0,1,.nil,.nil,.nil,rfl,by omega,rfl,⟨by simp [om0],by simp [om0],by simp [om0],by omega,by simp,⟨by simp [om0],by simp [om0],by simp [om0]⟩⟩,⟨.inl ⟨rfl,rfl⟩,.inl ⟨rfl,rfl⟩,.inl ⟨rfl,rfl⟩⟩,by simp [oF,om0,esL,txL,rdL,strB,zObD]⟩ ?_
  rintro k s ⟨i,o,nx,fe,ft,fr,rfl,hi,hgo,hB,hfl,rfl⟩
  by_cases c:i < L.length
  rotate_left
  ·refine yt9 [0,2,4,5,16] (by simp [c];rfl) ?_
   refine yl9 ?_
   refine yp9 rfl (fun h=>by simp at h) (fun h=>?_)
   refine zs9 [0,2,4,5] ?_
   refine zj9 ?_
   have hiL:i=L.length:=by omega
   refine ⟨o,nx,fe,ft,fr,?_,?_,hfl,by simp⟩
   ·rw [← hgo,hiL,List.drop_length,goD]
   ·rw [hiL] at hB;exact hB
  have ci:(i:Int) < L.length:=by omega
  obtain ⟨b,hb⟩:∃ b,L[i]?=some b:=⟨_,List.getElem?_eq_getElem c⟩
  have hb2:L[i]'c=b:=by rw [List.getElem?_eq_getElem c] at hb;exact Option.some.inj hb
  have hdr:L.drop i=b :: L.drop (i+1):=by rw [List.drop_eq_getElem_cons c,hb2]
  have wi:=w64 (n:=(i:Int)+1) (by omega) (by omega)
  rw [hdr,goD] at hgo
  refine yt9 [0,2,4,5,13,14,15,16] (by simp [c];rfl) ?_
  refine yl9 ?_
  refine yp9 rfl (fun h=>?_) (fun h=>by simp at h)
  refine yk9 ?_
  refine yl9 ?_
  refine ys9 ?_
  refine yt9 [0,2,4,5,13,14,15,7] (by simp [c,ci,hb2];rfl) ?_
  refine yl9 ?_
  by_cases c80:b.length=80
  rotate_left
  ·have c80i:¬ (b.length:Int)=80:=by omega
   have c80b:((b.length:Int) != 80)=true:=by simpa using c80i
   have c80c:((b.length:Int) == 80)=false:=by simpa using c80i
   rw [if_neg c80] at hgo
   refine W_cT [0,2,4,5,13,14,15,7,21] (by simp [c80,c80i,c80b,c80c];rfl) rfl ?_
   refine yt9 [2,3] (by simp [yf9];rfl) ?_
   refine yn9 ?_
   repeat (first | refine yg9 ?_ | refine yh9 ?_)
   have hd:dcD true L=(om0,false):=by rw [dcD,← hgo]
   rw [hd]
   exact ul9 (r0:=.tup _) ⟨.inr rfl,_,_,by simp [zObD,yf9];rfl,by simp;exact ⟨rfl,rfl⟩,by simp [AV.rf,AV.rfL]⟩ (by simp [AV.plain,AV.plainL,om0,esL,txL,rdL,strB])
  have c80i:(b.length:Int)=80:=by omega
  rw [if_pos c80] at hgo
  have h80:∀ n:Nat,n≤80→n≤b.length:=fun n h=>by omega
  obtain ⟨A,hA⟩:∃ A,sbM b 1 3=A:=⟨_,rfl⟩
  have eA:(List.take 4 (byL b)).tail=byL A:=by rw [← hA,sbM,← List.drop_one,← xf9,← wd9,List.drop_take]
  have hdc:=xl8 A (by rw [← hA,yg8 _ _ _ (by omega)];omega)
  obtain ⟨nm,hnm⟩:∃ s,decM A=s:=⟨_,rfl⟩
  rw [hnm] at hdc
  obtain ⟨A2,hA2⟩:∃ A,sbM b 10 2=A:=⟨_,rfl⟩
  have eA2:List.drop 10 (List.take 12 (byL b))=byL A2:=by rw [← hA2,sbM,← xf9,← wd9,List.drop_take]
  have hv2:=kg9 A2 (by rw [← hA2,yg8 _ _ _ (by omega)];omega)
  have hVl:=xm8 2 A2 (by rw [← hA2,yg8 _ _ _ (by omega)])
  have hp2:(256:Nat) ^ 2=65536:=by decide
  obtain ⟨V,hV⟩:∃ V,valM A2=V:=⟨_,rfl⟩
  rw [hV] at hv2 hVl
  have hitem : wk7 true (o, nx) b = if nm = vd9 then some (⟨(rdEs b o.esd nx (cntE true V)).1, o.txt, o.rld, o.entry⟩, (rdEs b o.esd nx (cntE true V)).2)
    else if nm=qh9 then some (⟨o.esd,o.txt++[⟨valM (sbM b 14 2),valM (sbM b 5 3),sbM b 16 (min V 56)⟩],o.rld,o.entry⟩,nx)
    else if nm=qr9 then some (⟨o.esd,o.txt,o.rld++rdRs b (cntR true V),o.entry⟩,nx)
    else if nm=vw9 then some (⟨o.esd,o.txt,o.rld,nmM (sbM b 16 8)⟩,nx) else some (o,nx):=by
   unfold wk7
   rw [hA,hnm,hA2,hV]
   simp
  have hBn:∀ s',wk7 true (o,nx) b=some s'→OBd s' (i+1):=fun s' h=>hB.item c80 h
  obtain ⟨hB1,hB2,hB3,hB4,hB5,hB6⟩:=hB
  simp only at hB1 hB2 hB3 hB4 hB5
  refine W_cF [0,2,4,5,13,14,15,7,21] (by simp [c80,c80i];rfl) rfl ?_
  refine yk9 ?_
  refine W_rK [0,2,4,5,13,14,15,7,25] ?_
  refine yq9 2 (by simp [c80,c80i,h80];rfl) rfl ?_
  refine yd9 (by simp) (by simp [eA];rfl) hdc (by simp;rfl) ?_
  refine yw9 (by simp [strB];rfl) ?_
  refine ys9 ?_
  by_cases t1:nm=vd9
  ·have hit:=hitem
   rw [if_pos t1] at hit
   have hBs:=hBn _ hit
   rw [hit] at hgo
   simp only at hgo
   have t1b:(nm == [69,83,68])=true:=by rw [vc8];simpa [vd9] using t1
   refine W_cT [0,2,4,5,13,14,15,7,25,26] (by simp [t1b];rfl) rfl ?_
   have hcall:=ul5 b c80 nx hB4 (by omega) o.esd (by omega) fe hfl.1 zObD (.lst ft 3 (txL o.txt)) (.lst fr 5 (rdL o.rld)) (strB o.entry) (zj7 hfl.2.1 (by decide)) (zj7 hfl.2.2 (by decide)) rfl rfl (by simp [AV.under]) (by simp [AV.under]) rfl rfl
   rw [hA2,hV] at hcall
   refine W_rE [0,2,4,5,13,14,15] ?_
   refine yq9 2 (by simp;rfl) rfl ?_
   refine zr9 (f:=32) (args:=[.loc 1 0,.lst .any 1 (byL b),.v (.int .i64 nx)]) (by simp) (by first | (simp;done) | (simp;rfl)) (hcall.mono ?_)
   rintro r h' ⟨fe',rfl,hfe',rfl⟩
   refine ⟨_,by simp;rfl,?_⟩
   refine yw9 (by simp;rfl) ?_
   refine zq9 [0,2,4,5,13,14,15] (by simp [wi];rfl) ?_
   exact ⟨_,by omega,i+1,_,_,fe',ft,fr,rfl,by omega,hgo,hBs,⟨hfe',hfl.2.1,hfl.2.2⟩,by simp [oF]⟩
  have t1b:(nm == [69,83,68])=false:=by rw [vc8];simpa [vd9] using t1
  rw [if_neg t1] at hitem
  refine W_cF [0,2,4,5,13,14,15,7,25,26] (by simp [t1b];rfl) rfl ?_
  by_cases t2:nm=qh9
  ·have hit := hitem
   rw [if_pos t2] at hit
   have hBs:=hBn _ hit
   rw [hit] at hgo
   simp only at hgo
   have t2b:(nm == [84,88,84])=true:=by rw [vc8];simpa [qh9] using t2
   refine W_cT [0,2,4,5,13,14,15,7,31] (by simp [t2b];rfl) rfl ?_
   obtain ⟨m,hm⟩:∃ m,min V 56=m:=⟨_,rfl⟩
   have hm56:m≤56:=by omega
   have hmin:(if (56:Int) < (V:Int) then (56:Int) else (V:Int))=(m:Nat):=by split <;> omega
   rw [hm] at hgo hBs
   refine W_rK [0,2,4,5,13,14,15,7,8] ?_
   refine yq9 2 (by simp [c80,c80i,h80,eA2];rfl) rfl ?_
   refine yd9 (by simp) (by first | (simp;done) | (simp;rfl)) hv2 (by simp;rfl) ?_
   refine yw9 (by simp [hmin];rfl) ?_
   obtain ⟨B1,hB1'⟩:∃ A,sbM b 14 2=A:=⟨_,rfl⟩
   have eB1:List.drop 14 (List.take 16 (byL b))=byL B1:=by rw [← hB1',sbM,← xf9,← wd9,List.drop_take]
   have hvB1:=kg9 B1 (by rw [← hB1',yg8 _ _ _ (by omega)];omega)
   obtain ⟨V1,hV1⟩:∃ V,valM B1=V:=⟨_,rfl⟩
   obtain ⟨B2,hB2'⟩:∃ A,sbM b 5 3=A:=⟨_,rfl⟩
   have eB2:List.drop 5 (List.take 8 (byL b))=byL B2:=by rw [← hB2',sbM,← xf9,← wd9,List.drop_take]
   have hvB2:=kg9 B2 (by rw [← hB2',yg8 _ _ _ (by omega)];omega)
   obtain ⟨V2,hV2⟩:∃ V,valM B2=V:=⟨_,rfl⟩
   obtain ⟨D,hD⟩:∃ D,sbM b 16 m=D:=⟨_,rfl⟩
   have eD:List.drop 16 (List.take (16+m) (byL b))=byL D:=by rw [← hD,sbM,← xf9,← wd9,List.drop_take,Nat.add_sub_cancel_left]
   have hcl:=clone64p D (by rw [← hD,yg8 _ _ _ (by omega)];omega)
   have wm:=w64 (n:=16+(m:Int)) (by omega) (by omega)
   have hq:16+m≤b.length:=by omega
   have hqi:16+(m:Int)≤b.length:=by omega
   have hq0:(0:Int)≤16+(m:Int):=by omega
   have hq1:(16:Int)≤16+(m:Int):=by omega
   have hq2:16+(m:Int)≤80:=by omega
   have hq3:16+m≤80:=by omega
   have hq4:16≤16+m:=by omega
   have hqt:(16+(m:Int)).toNat=16+m:=by omega
   have hl0:∀ q:Int,q≤80→q≤b.length:=fun q h=>by omega
   rw [hB1',hV1,hB2',hV2,hD] at hgo hBs
   rw [hV1] at hvB1
   rw [hV2] at hvB2
   have hby:(o.txt.length+1) * 40≤140737488355328:=by omega
   have hk1:∀ s x,AV.kill 105 (.lst fe s x)=.lst fe s x:=fun s x=>zj7 hfl.1 (by decide)
   have hk2:∀ s x,AV.kill 105 (.lst fr s x)=.lst fr s x:=fun s x=>zj7 hfl.2.2 (by decide)
   have hk3:AV.kill 105 (strB o.entry)=strB o.entry:=rfl
   have hsn:txL (o.txt++[⟨V1,V2,D⟩])=txL o.txt++[txA ⟨V1,V2,D⟩]:=by rw [wr4,xm4]
   obtain ⟨es,txt,rld,en⟩:=o
   simp only at hfl hsn hby hk3 hgo hBs hB1 hB2 hB3 ⊢
   rcases hfl.2.1 with ⟨rfl,ht0⟩ | rfl
   ·subst ht0
    refine qt9 [0,2,4,5,13,14,15] mx (by decide +kernel) ?_
    refine yr9 4 (by simp [c80,c80i,h80,eB1,oF,ww4];rfl) rfl ?_
    refine zw9 (by simp) (by first | (simp;done) | (simp;rfl)) hvB1 (by simp;rfl) ?_
    refine yr9 2 (by simp [c80,c80i,h80,eB2];rfl) rfl ?_
    refine zw9 (by simp) (by first | (simp;done) | (simp;rfl)) hvB2 (by simp;rfl) ?_
    refine yr9 4 (by simp [c80,c80i,h80,hl0,wm,hq,hqi,hq0,hq1,hq2,hq3,hq4,hqt,eD];rfl) rfl ?_
    refine zw9 (by simp) (by first | (simp;done) | (simp;rfl)) hcl (by simp;rfl) ?_
    refine ym9 (by simp [hby,yf9,-AV.kill,uh8,uv9,ub9,uc9,us9,un9,hk1,hk2,hk3];rfl) ?_
    refine zq9 [0,2,4,5,13,14,15] (by simp [wi];rfl) ?_
    exact ⟨_,by omega,i+1,_,_,fe,.tip 42 105,fr,rfl,by omega,hgo,hBs,⟨hfl.1,.inr rfl,hfl.2.2⟩,by simp [oF,txL,yf9,strB,zObD,-AV.kill,uh8,uv9,ub9,uc9,us9,un9,hk1,hk2,hk3]⟩
   ·refine qt9 [0,2,4,5,13,14,15] mx (by decide +kernel) ?_
    refine yr9 4 (by simp [c80,c80i,h80,eB1,oF];rfl) rfl ?_
    refine zw9 (by simp) (by first | (simp;done) | (simp;rfl)) hvB1 (by simp;rfl) ?_
    refine yr9 2 (by simp [c80,c80i,h80,eB2];rfl) rfl ?_
    refine zw9 (by simp) (by first | (simp;done) | (simp;rfl)) hvB2 (by simp;rfl) ?_
    refine yr9 4 (by simp [c80,c80i,h80,hl0,wm,hq,hqi,hq0,hq1,hq2,hq3,hq4,hqt,eD];rfl) rfl ?_
    refine zw9 (by simp) (by first | (simp;done) | (simp;rfl)) hcl (by simp;rfl) ?_
    refine ym9 (by simp [hby,yf9,-AV.kill,uh8,uv9,ub9,uc9,us9,un9,hk1,hk2,hk3];rfl) ?_
    refine zq9 [0,2,4,5,13,14,15] (by simp [wi];rfl) ?_
    exact ⟨_,by omega,i+1,_,_,fe,.tip 42 105,fr,rfl,by omega,hgo,hBs,⟨hfl.1,.inr rfl,hfl.2.2⟩,by simp [oF,hsn,yf9,strB,zObD,-AV.kill,uh8,uv9,ub9,uc9,us9,un9,hk1,hk2,hk3]⟩
  have t2b:(nm == [84,88,84])=false:=by rw [vc8];simpa [qh9] using t2
  rw [if_neg t2] at hitem
  refine W_cF [0,2,4,5,13,14,15,7,25,31] (by simp [t2b];rfl) rfl ?_
  by_cases t3:nm=qr9
  ·have hit := hitem
   rw [if_pos t3] at hit
   have hBs:=hBn _ hit
   rw [hit] at hgo
   simp only at hgo
   have t3b:(nm == [82,76,68])=true:=by rw [vc8];simpa [qr9] using t3
   refine W_cT [0,2,4,5,13,14,15,7,54] (by simp [t3b];rfl) rfl ?_
   obtain ⟨n,hn⟩:∃ n,cntR true V=n:=⟨_,rfl⟩
   have hn7:n≤7:=by rw [← hn];unfold cntR;split <;> omega
   have hdv:(V:Int).tdiv 8=((V / 8:Nat):Int):=rfl
   have wq:=w64 (n:=((V / 8:Nat):Int)) (by omega) (by omega)
   have hmin:(if ((V / 8:Nat):Int) < 7 then ((V / 8:Nat):Int) else (7:Int))=(n:Nat):=by
    rw [← hn,cntR]
    simp only [if_pos]
    split <;> omega
   rw [hn] at hgo hBs
   refine W_rK [0,2,4,5,13,14,15,7,60,61] ?_
   refine yq9 2 (by simp [c80,c80i,h80,eA2];rfl) rfl ?_
   refine yd9 (by simp) (by first | (simp;done) | (simp;rfl)) hv2 (by simp;rfl) ?_
   refine yw9 (by simp [hdv,wq,hmin,-Int.natCast_ediv];rfl) ?_
   have hk1:∀ s x,AV.kill 187 (.lst fe s x)=.lst fe s x:=fun s x=>zj7 hfl.1 (by decide)
   have hk2:∀ s x,AV.kill 187 (.lst ft s x)=.lst ft s x:=fun s x=>zj7 hfl.2.1 (by decide)
   have hk3:AV.kill 187 (strB o.entry)=strB o.entry:=rfl
   refine ys9 ?_
   refine zl9 (fun k s => ∃ (j : Nat) (gs : Fl), k = n - j ∧ j ≤ n ∧ (gs = .nil ∧ o.rld ++ rdRs b j = [] ∨ gs = .tip 46 187) ∧
    s=⟨118,[(0,.lst .any 1 (bbL L)),(2,.loc 0 0),(4,.loc 1 0),(5,.v (.int .i64 nx)),(13,.lst .any 1 (bbL L)),(14,.v (.int .i64 (L.length:Nat))),(15,.v (.int .i64 (i:Nat))),(7,.lst .any 1 (byL b)),(60,.v (.int .i64 (n:Nat))),(61,.v (.int .i64 (j:Nat)))],[.cells 33 zObD,.cells 33 [.lst fe 5 (esL o.esd),.lst ft 3 (txL o.txt),.lst gs 5 (rdL (o.rld++rdRs b j)),strB o.entry]]⟩) (k:=n) ⟨0,fr,rfl,by omega,by simpa [rdRs] using hfl.2.2,by simp [oF,rdRs]⟩ ?_
   rintro k s ⟨j,gs,rfl,hj,hgs,rfl⟩
   by_cases c':j < n
   rotate_left
   ·have hjn:j=n:=by omega
    subst hjn
    refine yt9 [0,2,4,5,13,14,15,62] (by simp;rfl) ?_
    refine yl9 ?_
    refine yp9 rfl (fun h=>by simp at h) (fun h=>?_)
    refine zj9 ?_
    refine zq9 [0,2,4,5,13,14,15] (by simp [wi];rfl) ?_
    exact ⟨_,by omega,i+1,_,_,fe,ft,gs,rfl,by omega,hgo,hBs,⟨hfl.1,hfl.2.1,hgs⟩,by simp [oF]⟩
   have cj:(j:Int) < n:=by omega
   obtain ⟨R,hR⟩:∃ R,o.rld++rdRs b j=R:=⟨_,rfl⟩
   have hRl:R.length≤100000000:=by rw [← hR];simp [rdRs];omega
   obtain ⟨X,hX⟩:∃ X,b.drop (16+8 * j)=X:=⟨_,rfl⟩
   have hXl:8≤X.length:=by rw [← hX,List.length_drop];omega
   have hXi:(8:Int)≤X.length:=by omega
   have eX:List.drop (16+8 * j) (byL b)=byL X:=by rw [← hX,← wd9]
   have hnext:o.rld++rdRs b (j+1)=R++[rdR8 X]:=by rw [jn6,← List.append_assoc,hR,hX]
   have wm:=w64 (n:=8 * (j:Int)) (by omega) (by omega)
   have wa:=w64 (n:=16+8 * (j:Int)) (by omega) (by omega)
   have hq:16+8 * j≤b.length:=by omega
   have hqi:16+8 * (j:Int)≤b.length:=by omega
   have hqt:(16+8 * (j:Int)).toNat=16+8 * j:=by omega
   have hq0:(0:Int)≤16+8 * (j:Int):=by omega
   have hq2:16+8 * (j:Int)≤80:=by omega
   have hq3:16+8 * j≤80:=by omega
   have hx2:2≤X.length:=by omega
   have hx2i:(2:Int)≤X.length:=by omega
   have hx4:4≤X.length:=by omega
   have hx4i:(4:Int)≤X.length:=by omega
   have hx4':4 < X.length:=by omega
   have hx4'i:(4:Int) < X.length:=by omega
   obtain ⟨B1,hB1'⟩:∃ A,X.take 2=A:=⟨_,rfl⟩
   have eB1:List.take 2 (byL X)=byL B1:=by rw [← hB1',← xf9]
   have hvB1:=kg9 B1 (by rw [← hB1',List.length_take];omega)
   obtain ⟨V1,hV1⟩:∃ V,valM B1=V:=⟨_,rfl⟩
   obtain ⟨B2,hB2'⟩:∃ A,sbM X 2 2=A:=⟨_,rfl⟩
   have eB2:List.drop 2 (List.take 4 (byL X))=byL B2:=by rw [← hB2',sbM,← xf9,← wd9,List.drop_take]
   have hvB2:=kg9 B2 (by rw [← hB2',yg8 _ _ _ (by omega)];omega)
   obtain ⟨V2,hV2⟩:∃ V,valM B2=V:=⟨_,rfl⟩
   obtain ⟨B3,hB3'⟩:∃ A,sbM X 5 3=A:=⟨_,rfl⟩
   have eB3:List.drop 5 (List.take 8 (byL X))=byL B3:=by rw [← hB3',sbM,← xf9,← wd9,List.drop_take]
   have hvB3:=kg9 B3 (by rw [← hB3',yg8 _ _ _ (by omega)];omega)
   obtain ⟨V3,hV3⟩:∃ V,valM B3=V:=⟨_,rfl⟩
   rw [hV1] at hvB1
   rw [hV2] at hvB2
   rw [hV3] at hvB3
   obtain ⟨x,hx⟩:∃ x,X[4]?=some x:=⟨_,List.getElem?_eq_getElem hx4'⟩
   have hx2':X[4]'hx4'=x:=by rw [List.getElem?_eq_getElem hx4'] at hx;exact Option.some.inj hx
   have hxd:X.getD 4 0=x:=by rw [List.getD_eq_getElem?_getD,hx];rfl
   have hxl:=x.toNat_lt
   obtain ⟨K,hK⟩:∃ K,x.toNat=K:=⟨_,rfl⟩
   rw [hK] at hxl
   have hand:=and2 K (by omega)
   have hsh:=shr2 K
   obtain ⟨Y,hY⟩:∃ Y,K / 4=Y:=⟨_,rfl⟩
   obtain ⟨Z,hZ⟩:∃ Z,K / 2 % 2 * 2=Z:=⟨_,rfl⟩
   rw [hZ] at hand
   rw [hY] at hsh
   have wY:=w64 (n:=(Y:Int)) (by omega) (by omega)
   have wY0:=wu8 (n:=(Y:Int)) (by omega) (by omega)
   have wY1:=w64 (n:=(Y:Int)+1) (by omega) (by omega)
   have hz1:((Z:Int) != 0)=decide (K / 2 % 2=1):=by
    rw [Bool.eq_iff_iff]
    simp only [bne_iff_ne,ne_eq,decide_eq_true_eq]
    omega
   have hz2:(!((Z:Int) == 0))=decide (K / 2 % 2=1):=hz1
   obtain ⟨ng,hng⟩:∃ g,decide (K / 2 % 2=1)=g:=⟨_,rfl⟩
   rw [hng] at hz1 hz2
   have hrs:rdR8 X=⟨V2,V1,V3,(Y:Int)+1,ng⟩:=by rw [rdR8,hB1',hV1,hB2',hV2,hB3',hV3,hxd,hK,hY,hng];rfl
   have hby:(R.length+1) * 40≤140737488355328:=by omega
   have hsn:rdL (R++[rdR8 X])=rdL R++[rdA (rdR8 X)]:=by rw [vj4,vg4]
   rw [hrs] at hsn hnext
   have wj:=w64 (n:=(j:Int)+1) (by omega) (by omega)
   rw [hR] at hgs ⊢
   refine yt9 [0,2,4,5,13,14,15,7,60,61,62] (by simp [c'];rfl) ?_
   refine yl9 ?_
   refine yp9 rfl (fun h=>?_) (fun h=>by simp at h)
   refine yk9 ?_
   refine yl9 ?_
   refine ys9 ?_
   refine yt9 [0,2,4,5,13,14,15,7,60,61,9] (by simp;rfl) ?_
   refine yt9 [0,2,4,5,13,14,15,7,60,61,10] (by simp [wm,wa,c80,hq,hqi,hqt,hq0,hq2,hq3,eX];rfl) ?_
   rcases hgs with ⟨rfl,hr0⟩ | rfl
   ·subst hr0
    refine qt9 [0,2,4,5,13,14,15,7,60,61] mx (by decide +kernel) ?_
    refine yr9 4 (by simp [hx2,hx2i,eB1,vh4];rfl) rfl ?_
    refine zw9 (by simp) (by first | (simp;done) | (simp;rfl)) hvB1 (by simp;rfl) ?_
    refine yr9 2 (by simp [hx4,hx4i,eB2];rfl) rfl ?_
    refine zw9 (by simp) (by first | (simp;done) | (simp;rfl)) hvB2 (by simp;rfl) ?_
    refine yr9 6 (by simp [hx4',hx4'i,hx2',hK,hand,hsh,wY,wY0,wY1,hz1,hz2,-Int.natCast_ediv];rfl) rfl ?_
    refine yr9 7 (by simp [hx4',hx4'i,hx2',hK,hand,hsh,wY,wY0,wY1,hz1,hz2,hXl,hXi,eB3,-Int.natCast_ediv];rfl) rfl ?_
    refine zw9 (by simp) (by first | (simp;done) | (simp;rfl)) hvB3 (by simp;rfl) ?_
    refine ym9 (by simp [hby,yf9,-AV.kill,uh8,uv9,ub9,uc9,us9,un9,hk1,hk2,hk3];rfl) ?_
    refine zq9 [0,2,4,5,13,14,15,7,60,61] (by simp [wj];rfl) ?_
    exact ⟨_,by omega,j+1,.tip 46 187,rfl,by omega,.inr rfl,by rw [hnext];simp [rdL,hsn,yf9,strB,zObD,-AV.kill,uh8,uv9,ub9,uc9,us9,un9,hk1,hk2,hk3]⟩
   ·refine qt9 [0,2,4,5,13,14,15,7,60,61] mx (by decide +kernel) ?_
    refine yr9 4 (by simp [hx2,hx2i,eB1];rfl) rfl ?_
    refine zw9 (by simp) (by first | (simp;done) | (simp;rfl)) hvB1 (by simp;rfl) ?_
    refine yr9 2 (by simp [hx4,hx4i,eB2];rfl) rfl ?_
    refine zw9 (by simp) (by first | (simp;done) | (simp;rfl)) hvB2 (by simp;rfl) ?_
    refine yr9 6 (by simp [hx4',hx4'i,hx2',hK,hand,hsh,wY,wY0,wY1,hz1,hz2,-Int.natCast_ediv];rfl) rfl ?_
    refine yr9 7 (by simp [hx4',hx4'i,hx2',hK,hand,hsh,wY,wY0,wY1,hz1,hz2,hXl,hXi,eB3,-Int.natCast_ediv];rfl) rfl ?_
    refine zw9 (by simp) (by first | (simp;done) | (simp;rfl)) hvB3 (by simp;rfl) ?_
    refine ym9 (by simp [hby,yf9,-AV.kill,uh8,uv9,ub9,uc9,us9,un9,hk1,hk2,hk3];rfl) ?_
    refine zq9 [0,2,4,5,13,14,15,7,60,61] (by simp [wj];rfl) ?_
    exact ⟨_,by omega,j+1,.tip 46 187,rfl,by omega,.inr rfl,by rw [hnext];simp [hsn,yf9,strB,zObD,-AV.kill,uh8,uv9,ub9,uc9,us9,un9,hk1,hk2,hk3]⟩
  have t3b:(nm == [82,76,68])=false:=by rw [vc8];simpa [qr9] using t3
  rw [if_neg t3] at hitem
  refine W_cF [0,2,4,5,13,14,15,7,25,54] (by simp [t3b];rfl) rfl ?_
  by_cases t4:nm=vw9
  ·have hit:=hitem
   rw [if_pos t4] at hit
   have hBs:=hBn _ hit
   rw [hit] at hgo
   simp only at hgo
   have t4b:(nm == [69,78,68])=true:=by rw [vc8];simpa [vw9] using t4
   obtain ⟨D,hD⟩:∃ D,sbM b 16 8=D:=⟨_,rfl⟩
   have eD:List.drop 16 (List.take 24 (byL b))=byL D:=by rw [← hD,sbM,← xf9,← wd9,List.drop_take]
   have htr:=xl7 D (by rw [← hD,yg8 _ _ _ (by omega)];omega)
   rw [hD] at hgo hBs
   refine W_cT [0,2,4,5,13,14,15,7,96] (by simp [t4b];rfl) rfl ?_
   refine W_rE [0,2,4,5,13,14,15] ?_
   refine yq9 2 (by simp [c80,c80i,h80,eD];rfl) rfl ?_
   refine yd9 (by simp) (by first | (simp;done) | (simp;rfl)) htr (by simp;rfl) ?_
   refine yw9 (by simp [oF,yf9];rfl) ?_
   refine zq9 [0,2,4,5,13,14,15] (by simp [wi];rfl) ?_
   exact ⟨_,by omega,i+1,_,_,fe,ft,fr,rfl,by omega,hgo,hBs,⟨hfl.1,hfl.2.1,hfl.2.2⟩,by simp [oF,nmM,strB]⟩
  have t4b:(nm == [69,78,68])=false:=by rw [vc8];simpa [vw9] using t4
  rw [if_neg t4] at hitem
  have hBs:=hBn _ hitem
  rw [hitem] at hgo
  simp only at hgo
  refine W_cF [0,2,4,5,13,14,15,7,96] (by simp [t4b];rfl) rfl ?_
  refine yk9 ?_
  refine zq9 [0,2,4,5,13,14,15] (by simp [wi];rfl) ?_
  exact ⟨_,by omega,i+1,o,nx,fe,ft,fr,rfl,by omega,hgo,hBs,hfl,by simp⟩
 ·rintro σ ⟨o, nx, fe, ft, fr, hgo, hB, hfl, rfl⟩
  have hen:=wk6 o hB.ok
  refine yl9 ?_
  by_cases hc:chkM o=true
  ·rw [zd4, if_pos hc] at hen
   refine W_rK [0,2,4,11,12] ?_
   refine yq9 1 (by simp [oF];rfl) rfl ?_
   refine yd9 (by simp) (by simp [strB];rfl) hen (by simp;rfl) ?_
   refine yw9 (by simp;rfl) ?_
   have hO:=wt8 hc
   have hel:(encO o).length≤100000000:=by
    have h1:=xs7 o.esd o.esd.length 0
    have h2:=xp7 o.rld o.rld.length 0
    have h3:=hO.l1
    have h4:=hO.l2
    have h5:=hO.l3
    unfold encO
    simp only [List.length_append,List.length_map,List.length_singleton]
    omega
   have hsm:=jf6 (encO o) L hel
   refine W_rK [2,4,115] ?_
   refine yq9 5 (by simp;rfl) rfl ?_
   refine yd9 (by simp) (by first | (simp;done) | (simp;rfl)) hsm (by simp;rfl) ?_
   by_cases he:encO o=L
   ·refine yw9 (by simp [he];rfl) ?_
    refine yp9 rfl (fun h=>by simp at h) (fun h=>?_)
    refine yk9 ?_
    refine yt9 [2,3] (by simp [yf9];rfl) ?_
    refine yn9 ?_
    repeat (first | refine yg9 ?_ | refine yh9 ?_)
    have hd:dcD true L=(o,true):=by rw [dcD,hgo];simp only;rw [if_pos ⟨hc,he⟩]
    rw [hd]
    exact ul9 (r0:=.tup _) ⟨.inr rfl,_,_,by simp [yf9];rfl,by simp;exact ⟨rfl,rfl⟩,by simp [AV.rf,AV.rfL,strB]⟩ (by simp [AV.plain,AV.plainL,strB])
   ·refine yw9 (by simp [he];rfl) ?_
    refine yp9 rfl (fun h=>?_) (fun h=>by simp at h)
    refine yt9 [2,3] (by simp [zObD,yf9];rfl) ?_
    refine yn9 ?_
    repeat (first | refine yg9 ?_ | refine yh9 ?_)
    have hd:dcD true L=(om0,false):=by rw [dcD,hgo];simp only;rw [if_neg fun h=>he h.2]
    rw [hd]
    exact ul9 (r0:=.tup _) ⟨.inr rfl,_,_,by simp [yf9];rfl,by simp;exact ⟨rfl,rfl⟩,by simp [AV.rf,AV.rfL]⟩ (by simp [AV.plain,AV.plainL,om0,esL,txL,rdL,strB])
  ·rw [zd4,if_neg hc] at hen
   refine W_rK [0,2,4,11,12] ?_
   refine yq9 1 (by simp [oF];rfl) rfl ?_
   refine yd9 (by simp) (by simp [strB];rfl) hen (by simp;rfl) ?_
   refine yw9 (by simp;rfl) ?_
   refine W_cT [2,4,115] (by simp;rfl) rfl ?_
   refine yt9 [2,3] (by simp [zObD,yf9];rfl) ?_
   refine yn9 ?_
   repeat (first | refine yg9 ?_ | refine yh9 ?_)
   have hd:dcD true L=(om0,false):=by rw [dcD,hgo];simp only;rw [if_neg fun h=>hc h.1]
   rw [hd]
   exact ul9 (r0:=.tup _) ⟨.inr rfl,_,_,by simp [yf9];rfl,by simp;exact ⟨rfl,rfl⟩,by simp [AV.rf,AV.rfL]⟩ (by simp [AV.plain,AV.plainL,om0,esL,txL,rdL,strB])
theorem chI_at:∀ i:Nat,i < 95→chI (qd9.getD i 0)=i:=by decide +kernel
theorem chI_no (b:UInt8) (h:∀ j:Nat,j < 95→qd9.getD j 0≠b):chI b < 0:=by
 have hd:∀ n:Nat,n < 256→chI (UInt8.ofNat n) < 0∨((chI (UInt8.ofNat n)).toNat < 95∧qd9.getD (chI (UInt8.ofNat n)).toNat 0=UInt8.ofNat n):=by decide +kernel
 have h1:=hd b.toNat b.toNat_lt
 rw [UInt8.ofNat_toNat] at h1
 rcases h1 with h1 | ⟨h1,h2⟩
 ·exact h1
 ·exact absurd h2 (h _ h1)
theorem vt5 (b:UInt8):Sound Tryz.prog 67 [.v (.int .u8 b.toNat)] (.tup [.v (.int .u8 (chM b).1.toNat),.v (.bool (chM b).2)]):=by
 refine zh9 Tryz.func67 rfl (by decide +kernel) (by simp [Tryz.f67]) rfl rfl (rs:=[.tmp 2,.tmp 3]) rfl ?_
 rw [show Tryz.f67.ntmps=22 from rfl]
 have hc95:qd9.length=95:=by decide +kernel
 have hat:=chI_at
 have hno:=chI_no b
 have htb:=qf7
 obtain ⟨L,hL⟩:∃ L,qd9=L:=⟨_,rfl⟩
 rw [hL] at hc95 hat hno htb
 refine yt9 [0] (by simp;rfl) ?_
 refine W_rK [0,4] ?_
 refine yd9 (by simp) (by first | (simp;done) | (simp;rfl)) htb (by simp;rfl) ?_
 refine yw9 (by simp;rfl) ?_
 refine yl9 ?_
 refine yt9 [0,4,5] (by simp;rfl) ?_
 refine ys9 ?_
 refine zl9 (fun k s=>∃ i:Nat,k=95 - i∧i≤95∧(∀ j:Nat,j < i→L.getD j 0≠b)∧s=⟨22,[(0,.v (.int .u8 b.toNat)),(4,.lst (.tip 5 13) 1 (byL L)),(5,.v (.int .i64 (i:Nat)))],[]⟩) (k:=95) ⟨0,rfl,by omega,by intro j hj;omega,by simp⟩ ?_
 rintro k s ⟨i,rfl,hi,hne,rfl⟩
 refine yl9 ?_
 by_cases c:i < 95
 ·have cL : i < L.length := by omega
  have cLi:(i:Int) < L.length:=by omega
  obtain ⟨d,hd⟩:∃ d,L.getD i 0=d:=⟨_,rfl⟩
  have hd2:L[i]'cL=d:=by rw [← hd,List.getD_eq_getElem?_getD,List.getElem?_eq_getElem cL];rfl
  have wi:=w64 (n:=(i:Int)+1) (by omega) (by omega)
  refine W_cT [0,4,5,10] (by simp [cL,cLi];rfl) rfl ?_
  refine yk9 ?_
  refine yl9 ?_
  refine ys9 ?_
  by_cases e:d=b
  ·have hci : chI b = (i : Nat) := by rw [← e, ← hd]; exact hat i c
   have hM:chM b=(UInt8.ofNat (32+i),true):=by rw [chM,if_neg (by omega),hci];rfl
   have w1:IntKind.i64.wrap (32+(i:Int))=32+(i:Int):=w64 (by omega) (by omega)
   have w2:IntKind.u8.wrap (32+(i:Int))=((UInt8.ofNat (32+i)).toNat:Nat):=by
    rw [UInt8.toNat_ofNat']
    simp only [IntKind.wrap_u8]
    omega
   refine yt9 [0,4,5,18] (by simp [cL,cLi,hd2,e];rfl) ?_
   refine yp9 (t:=true) (by simp) (fun h=>?_) (fun h=>by simp at h)
   refine yt9 [2,3] (by simp [w1,w2];rfl) ?_
   refine yn9 ?_
   repeat (first | refine yg9 ?_ | refine yh9 ?_)
   simp [retQ,hM]
  ·have e2:¬ d.toNat=b.toNat:=fun h=>e (UInt8.toNat_inj.1 h)
   have e3:¬ (d.toNat:Int)=b.toNat:=by omega
   refine yt9 [0,4,5,18] (by simp [cL,cLi,hd2];rfl) ?_
   refine yp9 (t:=false) (by simp [e,e2,e3]) (fun h=>by simp at h) (fun h=>?_)
   refine yk9 ?_
   refine zq9 [0,4,5] (by simp [wi];rfl) ?_
   refine ⟨_,by omega,i+1,rfl,by omega,?_,by simp⟩
   intro j hj
   by_cases hji:j=i
   ·rw [hji,hd];exact e
   ·exact hne j (by omega)
 have hie:i=95:=by omega
 subst hie
 have hM:chM b=(0,false):=by rw [chM,if_pos (hno hne)]
 refine W_cF [0,4,5,10] (by simp [hc95];rfl) rfl ?_
 refine zj9 ?_
 refine yt9 [2,3] (by simp;rfl) ?_
 refine yn9 ?_
 repeat (first | refine yg9 ?_ | refine yh9 ?_)
 simp [retQ,hM]
theorem yl8 (l:List UInt8) (hl:l.length≤100000):Sound Tryz.prog 37 [.lst .any 1 (byL l)] (strB (decM l)):=by
 refine zh9 Tryz.func37 rfl (by decide +kernel) (by simp [Tryz.f37]) rfl rfl (rs:=[.tmp 2]) rfl ?_
 rw [show Tryz.f37.ntmps=29 from rfl]
 refine yt9 [0] (by simp;rfl) ?_
 refine yt9 [0,3] (by simp;rfl) ?_
 refine yl9 ?_
 refine yt9 [0,3,4] (by simp;rfl) ?_
 refine ys9 ?_
 refine zl9 (fun k s => ∃ (i : Nat) (x : AV), k = l.length - i ∧ i ≤ l.length ∧ accB x (decM (l.take i)) ∧
  s=⟨29,[(0,.lst .any 1 (byL l)),(3,x),(4,.v (.int .i64 (i:Nat)))],[]⟩) (k:=l.length) ⟨0,_,rfl,by omega,.inl ⟨rfl,rfl⟩,by simp⟩ ?_
 rintro k s ⟨i,x,rfl,hi,hx,rfl⟩
 refine yl9 ?_
 by_cases c:i < l.length
 ·have ci : (i : Int) < l.length := by omega
  obtain ⟨b,hb⟩:∃ b,l[i]?=some b:=⟨_,List.getElem?_eq_getElem c⟩
  have hb2:l[i]'c=b:=by rw [List.getElem?_eq_getElem c] at hb;exact Option.some.inj hb
  have wi:=w64 (n:=(i:Int)+1) (by omega) (by omega)
  have htk:decM (l.take (i+1))=decM (l.take i)++[dec1 b]:=by
   rw [List.take_add_one,hb];simp [decM]
  have hlen:(decM (l.take i)).length=i:=by simp [decM];omega
  refine W_cT [0,3,4,10] (by simp [c,ci];rfl) rfl ?_
  refine yk9 ?_
  refine yl9 ?_
  refine ys9 ?_
  refine W_rK [0,3,4,5,6] ?_
  refine yq9 4 (by simp [c,ci,hb2];rfl) rfl ?_
  refine yd9 (by simp) (by first | (simp;done) | (simp;rfl)) (vt5 b) (by simp;rfl) ?_
  refine yw9 (by simp;rfl) ?_
  refine ws9 (fun σ=>σ=⟨29,[(0,.lst .any 1 (byL l)),(3,x),(4,.v (.int .i64 (i:Nat))),(5,.v (.int .u8 (dec1 b).toNat))],[]⟩∨σ=⟨29,[(0,.lst .any 1 (byL l)),(3,x),(4,.v (.int .i64 (i:Nat))),(5,.v (.int .u8 (dec1 b).toNat)),(22,.v (.bool false))],[]⟩) ?_ ?_
  ·cases hok:(chM b).2 with
   | false =>
    have hd:dec1 b=46:=by simp [dec1,hok]
    refine W_cT [0,3,4,5,22] (by simp [hok];rfl) rfl ?_
    refine zq9 [0,3,4,5] (by simp;rfl) ?_
    simp [yj9,hd]
   | true =>
    have hd:dec1 b=(chM b).1:=by simp [dec1,hok]
    refine W_cF [0,3,4,5,22] (by simp [hok];rfl) rfl ?_
    refine yk9 ?_
    simp [yj9,hd]
  rintro σ (rfl | rfl)
  all_goals
   have fin : ∃ k', k' < l.length - i ∧ ∃ (i' : Nat) (x : AV), k' = l.length - i' ∧ i' ≤ l.length ∧ accB x (decM (l.take i')) ∧
     (⟨29,[(0,.lst .any 1 (byL l)),(3,.lst (.tip 5 53) 1 (byL (decM (l.take i)++[dec1 b]))),(4,.v (.int .i64 ((i:Int)+1)))],[]⟩:St)=⟨29,[(0,.lst .any 1 (byL l)),(3,x),(4,.v (.int .i64 (i':Nat)))],[]⟩ :=
    ⟨_,by omega,i+1,_,rfl,by omega,by rw [htk];exact .inr rfl,by simp⟩
   rcases hx with ⟨h0,rfl⟩ | rfl
   ·rw [h0] at fin
    refine zq9 [0,3,4] (by simp [catK,AV.cellsK,AV.kone,AV.koneL];rfl) ?_
    refine zq9 [0,3,4] (by simp [wi];rfl) ?_
    simpa [byL] using fin
   ·refine zq9 [0,3,4] (by simp [catK,AV.cellsK,AV.kone,AV.koneL,hlen,show i+1≤140737488355328 by omega];rfl) ?_
    refine zq9 [0,3,4] (by simp [wi];rfl) ?_
    simpa [byL] using fin
 have hie:i=l.length:=by omega
 subst hie
 rw [List.take_length] at hx
 refine W_cF [0,3,4,10] (by simp;rfl) rfl ?_
 refine zj9 ?_
 rcases hx with ⟨h0,rfl⟩ | rfl
 ·refine yt9 [2] (by simp;rfl) ?_
  refine yn9 ?_
  repeat (first | refine yg9 ?_ | refine yh9 ?_)
  simp [retQ,strB,h0]
 ·refine yt9 [2] (by simp;rfl) ?_
  refine yn9 ?_
  repeat (first | refine yg9 ?_ | refine yh9 ?_)
  simp [retQ,strB]
theorem wn5 (l:List UInt8) (hl:l.length≤100000):Sound Tryz.prog 68 [.lst .any 1 (byL l)] (strB (decM (uk8 l))):=by
 refine zh9 Tryz.func68 rfl (by decide +kernel) (by simp [Tryz.f68]) rfl rfl (rs:=[.tmp 2]) rfl ?_
 rw [show Tryz.f68.ntmps=22 from rfl]
 refine yt9 [0] (by simp;rfl) ?_
 refine yt9 [0,3] (by simp;rfl) ?_
 refine yl9 ?_
 refine ys9 ?_
 refine zl9 (fun k s=>k≤l.length∧(∀ (j:Nat) (b:UInt8),k≤j→l[j]?=some b→b=64)∧s=⟨22,[(0,.lst .any 1 (byL l)),(3,.v (.int .i64 (k:Nat)))],[]⟩) (k:=l.length) ⟨Nat.le_refl _,fun j b hj hb=>by have:=(List.getElem?_eq_some_iff.1 hb).1;omega,by simp⟩ ?_
 rintro k s ⟨hk,hall,rfl⟩
 refine yl9 ?_
 have done:uk8 l=l.take k→∀ σ,σ=(⟨22,[(0,.lst .any 1 (byL l)),(3,.v (.int .i64 (k:Nat)))],[]⟩:St)→True:=fun _ _ _=>trivial
 by_cases k0:k=0
 ·subst k0
  have hT:uk8 l=[]:=by rw [yj7 l 0 (by omega) hall (.inl rfl)];rfl
  refine W_cF [0,3,15] (by simp;rfl) rfl ?_
  refine zj9 ?_
  refine W_rK [2] ?_
  refine yq9 3 (by simp [← xf9];rfl) rfl ?_
  refine yd9 (by simp) (by first | (simp;done) | (simp;rfl)) (show Sound Tryz.prog 37 [.lst .any 1 []] (strB (decM [])) from yl8 [] (by simp)) (by simp [strB];rfl) ?_
  refine yw9 (by simp;rfl) ?_
  refine yn9 ?_
  repeat (first | refine yg9 ?_ | refine yh9 ?_)
  simp [retQ,strB,hT]
 have kp:0 < k:=by omega
 have kp':(0:Int) < k:=by omega
 have wk:IntKind.i64.wrap ((k:Int) - 1)=((k - 1:Nat):Int):=by rw [w64 (by omega) (by omega)];omega
 obtain ⟨b,hb⟩:∃ b,l[k - 1]?=some b:=⟨_,List.getElem?_eq_getElem (by omega)⟩
 have hbb:(byL l)[k - 1]?=some (.v (.int .u8 b.toNat)):=by simp [byL,hb]
 have hb2:l[k - 1]'(by omega)=b:=by rw [List.getElem?_eq_getElem (by omega)] at hb;exact Option.some.inj hb
 have hkl:k - 1 < l.length:=by omega
 by_cases h64:b=64
 ·subst h64
  refine W_cT [0,3,15] (by simp [kp,kp',wk,hb2,hkl];rfl) rfl ?_
  refine yk9 ?_
  refine ys9 ?_
  refine zq9 [0,3] (by simp [wk];rfl) ?_
  refine ⟨k - 1,by omega,by omega,fun j b2 hj hb3=>?_,rfl⟩
  by_cases hjk:j=k - 1
  ·subst hjk
   rw [hb] at hb3
   exact (Option.some.inj hb3).symm
  ·exact hall j b2 (by omega) hb3
 ·have hT : uk8 l = l.take k := yj7 l k hk hall (.inr ⟨b, hb, h64⟩)
  have h64':((b.toNat:Int) == 64)=false:=by
   rw [beq_eq_false_iff_ne]
   intro h
   apply h64
   apply UInt8.toNat_inj.1
   show b.toNat=64
   omega
  refine W_cF [0,3,15] (by simp [kp,kp',wk,hb2,hkl,h64'];rfl) rfl ?_
  refine zj9 ?_
  refine W_rK [2] ?_
  refine yq9 3 (by simp [← xf9,hk];rfl) rfl ?_
  refine yd9 (by simp) (by first | (simp;done) | (simp;rfl)) (yl8 (l.take k) (by simp;omega)) (by simp [strB];rfl) ?_
  refine yw9 (by simp;rfl) ?_
  refine yn9 ?_
  repeat (first | refine yg9 ?_ | refine yh9 ?_)
  simp [retQ,strB,hT]
theorem vj7 (b:List UInt8) (at_:Nat) (hb:b.length≤100000) (ha:at_+8≤b.length):Sound Tryz.prog 40 [.lst .any 1 (byL b),.v (.int .i64 (at_:Nat))] (strB (nmM (sbM b at_ 8))):=by
 refine zh9 Tryz.func40 rfl (by decide +kernel) (by simp [Tryz.f40]) rfl rfl (rs:=[.tmp 4]) rfl ?_
 rw [show Tryz.f40.ntmps=11 from rfl]
 have eA:List.drop at_ (List.take (at_+8) (byL b))=byL (sbM b at_ 8):=by rw [sbM,← xf9,← wd9,List.drop_take,Nat.add_sub_cancel_left]
 obtain ⟨m,hm⟩:∃ m,at_+8=m:=⟨_,rfl⟩
 have hw:IntKind.i64.wrap ((at_:Int)+8)=(m:Nat):=by rw [w64 (by omega) (by omega)];omega
 rw [hm] at eA ha
 have hat:at_≤m:=by omega
 have hati:(at_:Int)≤m:=by omega
 have hai:(m:Int)≤b.length:=by omega
 have hl:(sbM b at_ 8).length≤100000:=by unfold sbM;rw [List.length_take,List.length_drop];omega
 have htr:=wn5 (sbM b at_ 8) hl
 rw [show decM (uk8 (sbM b at_ 8))=nmM (sbM b at_ 8) from rfl] at htr
 obtain ⟨A,hA⟩:∃ A,sbM b at_ 8=A:=⟨_,rfl⟩
 rw [hA] at htr eA ⊢
 refine yt9 [0,1] (by simp;rfl) ?_
 refine W_rK [4] ?_
 refine yq9 5 (by simp [hw,hat,hati,ha,hai,eA];rfl) rfl ?_
 refine yd9 (by simp) (by first | (simp;done) | (simp;rfl)) htr (by simp [strB];rfl) ?_
 refine yw9 (by simp;rfl) ?_
 refine yn9 ?_
 repeat (first | refine yg9 ?_ | refine yh9 ?_)
 simp [retQ,strB]
end Go.AM
