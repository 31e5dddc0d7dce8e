/- Parts of the walk: Z31EB Z31EC Z31ED Z31OB Z31EE Z31DA. -/
import Derived.Test.YtlhaljblcimnbaaGreatG5
namespace Go.AM
open Go.RowKit Go.Proofs
set_option linter.unusedSimpArgs false
set_option linter.unusedVariables false
set_option maxHeartbeats 8000000
theorem zk5 {top : Bool} {kf : Nat} {Q : Exit → St → Prop} (hkf : kf ≤ 5) (o : OMod) (L g : List Esd) (hg : g.length ≤ 3) (hge : ∀ x ∈ g, EOk x) (acc : List (List UInt8)) (hacc : acc.length ≤ 100000) (fl : Fl) (hfl : (fl = .nil ∧ acc = []) ∨ fl = .tip 23 147)
  (hQ:∀ X Y,Q .normal ⟨176,[(1,.loc 0 0),(4,.loc 1 0)],[.cells 33 (obC o),.cells 22 [.lst (.tip 23 147) 1 (bbL (acc++[um9 g]))],.cells 29 [.lst .any 5 (esL L)],.cells 3 [.v (.int .i64 (3:Nat))],.loop 176 [(1,.loc 0 0),(4,.loc 1 0),(30,.fn (.func 74) [] [.loc 2 0,.loc 3 0])] [31,32] (rfAn Tryz.f22 0) (rfBn Tryz.f22 0) .busy,X,Y]⟩) :
  Wt top kf Tryz.prog (rfBn Tryz.f22 0) Q ⟨176,[(1,.loc 0 0),(4,.loc 1 0),(6,.lst .any 5 (esL g))],[.cells 33 (obC o),.cells 22 [.lst (fl) 1 (bbL (acc))],.cells 29 [.lst .any 5 (esL L)],.cells 3 [.v (.int .i64 (3:Nat))],.loop 176 [(1,.loc 0 0),(4,.loc 1 0),(30,.fn (.func 74) [] [.loc 2 0,.loc 3 0])] [31,32] (rfAn Tryz.f22 0) (rfBn Tryz.f22 0) .busy]⟩:=by
 have hif:=yn4 g (by omega)
 have w16:IntKind.i64.wrap (16 * (g.length:Int))=((16 * g.length:Nat):Int):=by rw [w64 (by omega) (by omega)];omega
 have c0l:=qk8 vd9 (by decide +kernel)
 have hc2:card2 g=if 0≤ixE 0 g then putM (card1 g) 14 (numM 2 ((g[(ixE 0 g).toNat]?).elim 0 fun x=>x.id.toNat)) else card1 g:=rfl
 have hcd1:card1 g=putM (xm9 vd9) 10 (numM 2 (16 * g.length)):=rfl
 have hcE:xv9 g 0 (card2 g)=um9 g:=rfl
 obtain ⟨c0,hc0⟩:∃ c,xm9 vd9=c:=⟨_,rfl⟩
 have hq1:acc.length≤140737488355327:=by omega
 have hq2:(acc.length+1) * 24≤140737488355328:=by omega
 have happ:bbL acc++[.lst .any 1 (byL (um9 g))]=bbL (acc++[um9 g]):=by simp [wv9,qq9]
 rcases hfl with ⟨rfl,rfl⟩ | rfl
 ·refine ys9 ?_
  refine W_rK [1,4,6,7,8] ?_
  refine zr9 (f:=48) (args:=[strB vd9]) (by simp) (by simp [yb9,zt9,strB,vd9]) ((kj9 vd9 (by simp [vd9]) (by decide +kernel) _ (by simp [yc9,xl9,AObj.under,yv9,AV.under,AV.underL,zp9,zd9])).mono ?_)
  rintro _ _ ⟨k,rfl,rfl⟩
  refine ⟨_,by simp;rfl,?_⟩
  refine yw9 (by simp;rfl) ?_
  rw [hc0] at c0l hcd1 ⊢
  refine W_rK [1,4,6,7,8] ?_
  refine yq9 4 (by simp [w16];rfl) rfl ?_
  refine yd9 (by simp) (by first | (simp;done) | (simp;rfl)) (qs9 (16 * g.length) 2 (by omega) (by omega)) (by simp;rfl) ?_
  refine zr9 (f:=76) (args:=[.v (.int .i64 (10:Nat)),.lst .any 1 (byL (numM 2 (16 * g.length))),.loc 6 0]) (by simp) (by simp [yb9,zt9]) ((vj9 (10) 80 (numM 2 (16 * g.length)) c0 k c0l (by simp <;> omega) (by omega) (by omega) _ 6 5 (by simp) (by simp) (by simp [yc9,xl9,AObj.under,yv9,AV.under,AV.underL,zp9,zd9])).mono ?_)
  rintro _ _ ⟨rfl,rfl⟩
  refine ⟨_,by simp;rfl,?_⟩
  refine yw9 (by simp;rfl) ?_
  obtain ⟨c1,hc1⟩:∃ x,putM c0 (10) (numM 2 (16 * g.length))=x:=⟨_,rfl⟩
  have c1l:c1.length=80:=by rw [← hc1,xt9 _ _ _ (by simp <;> omega)];exact c0l
  rw [hc1]
  rw [hc1] at hcd1
  have c2l:(card2 g).length=80:=by
   rw [hc2,hcd1]
   split
   ·rw [xt9 _ _ _ (by simp;omega)];exact c1l
   ·exact c1l
  refine ws9 (fun σ=>σ=⟨176,[(1,.loc 0 0),(4,.loc 1 0),(6,.lst .any 5 (esL g)),(7,.arr 5 0 80 80),(8,.fn (.func 76) [] [.loc 6 0])],[.cells 33 (obC o),.cells 22 [.lst (.nil) 1 (bbL ([]))],.cells 29 [.lst .any 5 (esL L)],.cells 3 [.v (.int .i64 (3:Nat))],.loop 176 [(1,.loc 0 0),(4,.loc 1 0),(30,.fn (.func 74) [] [.loc 2 0,.loc 3 0])] [31,32] (rfAn Tryz.f22 0) (rfBn Tryz.f22 0) .busy,.cells 5 (zd9 (card2 g) k),.cells 23 [.arr 5 0 80 80]]⟩) ?_ ?_
  ·rcases vl5 g 0 with hm | ⟨j, x, hj, hix⟩
   ·rw [hm] at hif hc2
    refine W_rK [1,4,6,7,8,9] ?_
    refine yq9 1 (by simp;rfl) rfl ?_
    refine yd9 (by simp) (by first | (simp;done) | (simp;rfl)) hif (by simp;rfl) ?_
    refine yw9 (by simp;rfl) ?_
    refine W_cF [1,4,6,7,8,46] (by simp;rfl) rfl ?_
    refine zs9 [1,4,6,7,8] ?_
    refine yk9 ?_
    simp [yj9,hc2,hcd1]
   ·rw [Nat.zero_add] at hix
    rw [hix] at hif hc2
    have hjl:j < g.length:=(List.getElem?_eq_some_iff.1 hj).1
    have hj2:g[j]'hjl=x:=by rw [List.getElem?_eq_getElem hjl] at hj;exact Option.some.inj hj
    obtain ⟨n1,n2,i0,i1,a0,a1,l0,l1⟩:=hge x (List.mem_of_getElem? hj)
    have hc2':card2 g=putM c1 14 (numM 2 x.id.toNat):=by rw [hc2,if_pos (by omega),hcd1,Int.toNat_natCast,hj];rfl
    refine W_rK [1,4,6,7,8,9] ?_
    refine yq9 1 (by simp;rfl) rfl ?_
    refine yd9 (by simp) (by first | (simp;done) | (simp;rfl)) hif (by simp;rfl) ?_
    refine yw9 (by simp;rfl) ?_
    refine W_cT [1,4,6,7,8,9,46] (by simp;rfl) rfl ?_
    refine W_rE [1,4,6,7,8] ?_
    refine yq9 6 (by simp [hjl,hj2];rfl) rfl ?_
    refine yd9 (by simp) (by first | (simp;done) | (simp;rfl)) (numZ x.id 2 i0 (by omega) (by omega)) (by simp;rfl) ?_
    refine zr9 (f:=76) (args:=[.v (.int .i64 (14:Nat)),.lst .any 1 (byL (numM 2 x.id.toNat)),.loc 6 0]) (by simp) (by simp [yb9,zt9]) ((vj9 (14) 80 (numM 2 x.id.toNat) c1 k c1l (by simp <;> omega) (by omega) (by omega) _ 6 5 (by simp) (by simp) (by simp [yc9,xl9,AObj.under,yv9,AV.under,AV.underL,zp9,zd9])).mono ?_)
    rintro _ _ ⟨rfl,rfl⟩
    refine ⟨_,by simp;rfl,?_⟩
    refine yw9 (by simp;rfl) ?_
    simp [yj9,hc2']
  rintro _ rfl
  refine ws9 (fun σ=>∃ c,xv9 [] g.length c=um9 g∧c.length=80∧σ=⟨176,[(1,.loc 0 0),(4,.loc 1 0),(7,.arr 5 0 80 80)],[.cells 33 (obC o),.cells 22 [.lst (.nil) 1 (bbL ([]))],.cells 29 [.lst .any 5 (esL L)],.cells 3 [.v (.int .i64 (3:Nat))],.loop 176 [(1,.loc 0 0),(4,.loc 1 0),(30,.fn (.func 74) [] [.loc 2 0,.loc 3 0])] [31,32] (rfAn Tryz.f22 0) (rfBn Tryz.f22 0) .busy,.cells 5 (zd9 c k),.cells 23 [.arr 5 0 80 80]]⟩) ?_ ?_
  ·refine yt9 [1, 4, 7, 8, 55, 56, 57] (by simp; rfl) ?_
   refine ys9 ?_
   refine zl9 (fun kk σ=>∃ (i:Nat) (c:List UInt8),kk=g.length - i∧i≤g.length∧xv9 (g.drop i) i c=um9 g∧c.length=80∧σ=⟨176,[(1,.loc 0 0),(4,.loc 1 0),(7,.arr 5 0 80 80),(8,.fn (.func 76) [] [.loc 6 0]),(55,.lst .any 5 (esL g)),(56,.v (.int .i64 (g.length:Nat))),(57,.v (.int .i64 (i:Nat)))],[.cells 33 (obC o),.cells 22 [.lst (.nil) 1 (bbL ([]))],.cells 29 [.lst .any 5 (esL L)],.cells 3 [.v (.int .i64 (3:Nat))],.loop 176 [(1,.loc 0 0),(4,.loc 1 0),(30,.fn (.func 74) [] [.loc 2 0,.loc 3 0])] [31,32] (rfAn Tryz.f22 0) (rfBn Tryz.f22 0) .busy,.cells 5 (zd9 c k),.cells 23 [.arr 5 0 80 80]]⟩) (k:=g.length) ⟨0,card2 g,rfl,by omega,hcE,c2l,by simp⟩ ?_
   rintro kk σ ⟨i,c,rfl,hi,hgo,cl,rfl⟩
   by_cases ci:i < g.length
   ·have cii:(i:Int) < g.length:=by omega
    obtain ⟨x,hs⟩:∃ x,g[i]?=some x:=⟨_,List.getElem?_eq_getElem ci⟩
    have hs2:g[i]'ci=x:=by rw [List.getElem?_eq_getElem ci] at hs;exact Option.some.inj hs
    have hdr:g.drop i=x :: g.drop (i+1):=by rw [List.drop_eq_getElem_cons ci,hs2]
    have hek:=hge x (List.mem_of_getElem? hs)
    have hn1:=hek.n
    have hel:=zn8 x (by omega)
    have wi:=w64 (n:=(i:Int)+1) (by omega) (by omega)
    have w1:=w64 (n:=16 * (i:Int)) (by omega) (by omega)
    have w2:=w64 (n:=16+16 * (i:Int)) (by omega) (by omega)
    rw [hdr,xv9] at hgo
    refine yt9 [1,4,7,8,55,56,57,58] (by simp [cii];rfl) ?_
    refine yl9 ?_
    refine yp9 rfl (fun h=>?_) (fun h=>by simp [ci] at h)
    refine yk9 ?_
    refine yl9 ?_
    refine ys9 ?_
    refine yt9 [1,4,7,8,55,56,57,10,11] (by simp [ci,cii,hs2,yf9];rfl) ?_
    refine W_rE [1,4,7,8,55,56,57] ?_
    refine yq9 5 (by simp [w1,w2];rfl) rfl ?_
    refine yd9 (by simp) (by first | (simp;done) | (simp;rfl)) (xt7 x hek) (by simp;rfl) ?_
    refine zr9 (f:=76) (args:=[.v (.int .i64 (16+16 * i:Nat)),.lst .any 1 (byL (qc9 x)),.loc 6 0]) (by simp) (by simp [yb9,zt9]) ((vj9 (16+16 * i) 80 (qc9 x) c k cl (by simp [hel] <;> omega) (by omega) (by omega) _ 6 5 (by simp) (by simp) (by simp [yc9,xl9,AObj.under,yv9,AV.under,AV.underL,zp9,zd9,strB])).mono ?_)
    rintro _ _ ⟨rfl,rfl⟩
    refine ⟨_,by simp;rfl,?_⟩
    refine yw9 (by simp;rfl) ?_
    refine xp9 7 (by omega) (by simp) (by simp [yv9,AV.under,AV.underL]) (by simp [yc9,xl9,AObj.under,yv9,AV.under,AV.underL,zp9,zd9]) ?_
    refine zq9 [1,4,7,8,55,56,57] (by simp [wi];rfl) ?_
    exact ⟨_,by omega,i+1,putM c (16+16 * i) (qc9 x),rfl,by omega,hgo,by rw [xt9 _ _ _ (by rw [hel,cl];omega)];exact cl,by simp⟩
   have hie:i=g.length:=by omega
   rw [hie,List.drop_length] at hgo
   refine yt9 [1,4,7,55,56,57,58] (by simp [ci];rfl) ?_
   refine yl9 ?_
   refine yp9 rfl (fun h=>by simp [hie] at h) (fun h=>?_)
   refine zs9 [1,4,7] ?_
   refine zj9 ?_
   exact ⟨c,hgo,cl,by simp⟩
  rintro _ ⟨c,hgo,cl,rfl⟩
  rw [xv9] at hgo
  obtain ⟨fo,hfo,hfz⟩:=qd8 (h:=[.cells 33 (obC o),.cells 22 [.lst (.nil) 1 (bbL ([]))],.cells 29 [.lst .any 5 (esL L)],.cells 3 [.v (.int .i64 (3:Nat))],.loop 176 [(1,.loc 0 0),(4,.loc 1 0),(30,.fn (.func 74) [] [.loc 2 0,.loc 3 0])] [31,32] (rfAn Tryz.f22 0) (rfBn Tryz.f22 0) .busy,.cells 5 (zd9 c k),.cells 23 [.arr 5 0 80 80]]) 5 80 c k rfl cl
  rw [hgo] at hfz ⊢
  refine xf6 7 rfl (by decide) hfz ?_
  rcases hfo with rfl | rfl
  all_goals
   refine zq9 [1,4] (by simp [putF,yf9,catK,AV.cellsK,AV.kone,AV.koneL,hq1,hq2];rfl) ?_
   have hq:=hQ (.froz 5 (byL (um9 g))) (.cells 23 [.arr 5 0 80 80])
   rw [← happ] at hq
   simpa [qp8] using hq
 refine ys9 ?_
 refine W_rK [1,4,6,7,8] ?_
 refine zr9 (f:=48) (args:=[strB vd9]) (by simp) (by simp [yb9,zt9,strB,vd9]) ((kj9 vd9 (by simp [vd9]) (by decide +kernel) _ (by simp [yc9,xl9,AObj.under,yv9,AV.under,AV.underL,zp9,zd9])).mono ?_)
 rintro _ _ ⟨k,rfl,rfl⟩
 refine ⟨_,by simp;rfl,?_⟩
 refine yw9 (by simp;rfl) ?_
 rw [hc0] at c0l hcd1 ⊢
 refine W_rK [1,4,6,7,8] ?_
 refine yq9 4 (by simp [w16];rfl) rfl ?_
 refine yd9 (by simp) (by first | (simp;done) | (simp;rfl)) (qs9 (16 * g.length) 2 (by omega) (by omega)) (by simp;rfl) ?_
 refine zr9 (f:=76) (args:=[.v (.int .i64 (10:Nat)),.lst .any 1 (byL (numM 2 (16 * g.length))),.loc 6 0]) (by simp) (by simp [yb9,zt9]) ((vj9 (10) 80 (numM 2 (16 * g.length)) c0 k c0l (by simp <;> omega) (by omega) (by omega) _ 6 5 (by simp) (by simp) (by simp [yc9,xl9,AObj.under,yv9,AV.under,AV.underL,zp9,zd9])).mono ?_)
 rintro _ _ ⟨rfl,rfl⟩
 refine ⟨_,by simp;rfl,?_⟩
 refine yw9 (by simp;rfl) ?_
 obtain ⟨c1,hc1⟩:∃ x,putM c0 (10) (numM 2 (16 * g.length))=x:=⟨_,rfl⟩
 have c1l:c1.length=80:=by rw [← hc1,xt9 _ _ _ (by simp <;> omega)];exact c0l
 rw [hc1]
 rw [hc1] at hcd1
 have c2l:(card2 g).length=80:=by
  rw [hc2,hcd1]
  split
  ·rw [xt9 _ _ _ (by simp;omega)];exact c1l
  ·exact c1l
 refine ws9 (fun σ=>σ=⟨176,[(1,.loc 0 0),(4,.loc 1 0),(6,.lst .any 5 (esL g)),(7,.arr 5 0 80 80),(8,.fn (.func 76) [] [.loc 6 0])],[.cells 33 (obC o),.cells 22 [.lst (.tip 23 147) 1 (bbL (acc))],.cells 29 [.lst .any 5 (esL L)],.cells 3 [.v (.int .i64 (3:Nat))],.loop 176 [(1,.loc 0 0),(4,.loc 1 0),(30,.fn (.func 74) [] [.loc 2 0,.loc 3 0])] [31,32] (rfAn Tryz.f22 0) (rfBn Tryz.f22 0) .busy,.cells 5 (zd9 (card2 g) k),.cells 23 [.arr 5 0 80 80]]⟩) ?_ ?_
 ·rcases vl5 g 0 with hm | ⟨j, x, hj, hix⟩
  ·rw [hm] at hif hc2
   refine W_rK [1,4,6,7,8,9] ?_
   refine yq9 1 (by simp;rfl) rfl ?_
   refine yd9 (by simp) (by first | (simp;done) | (simp;rfl)) hif (by simp;rfl) ?_
   refine yw9 (by simp;rfl) ?_
   refine W_cF [1,4,6,7,8,46] (by simp;rfl) rfl ?_
   refine zs9 [1,4,6,7,8] ?_
   refine yk9 ?_
   simp [yj9,hc2,hcd1]
  ·rw [Nat.zero_add] at hix
   rw [hix] at hif hc2
   have hjl:j < g.length:=(List.getElem?_eq_some_iff.1 hj).1
   have hj2:g[j]'hjl=x:=by rw [List.getElem?_eq_getElem hjl] at hj;exact Option.some.inj hj
   obtain ⟨n1,n2,i0,i1,a0,a1,l0,l1⟩:=hge x (List.mem_of_getElem? hj)
   have hc2':card2 g=putM c1 14 (numM 2 x.id.toNat):=by rw [hc2,if_pos (by omega),hcd1,Int.toNat_natCast,hj];rfl
   refine W_rK [1,4,6,7,8,9] ?_
   refine yq9 1 (by simp;rfl) rfl ?_
   refine yd9 (by simp) (by first | (simp;done) | (simp;rfl)) hif (by simp;rfl) ?_
   refine yw9 (by simp;rfl) ?_
   refine W_cT [1,4,6,7,8,9,46] (by simp;rfl) rfl ?_
   refine W_rE [1,4,6,7,8] ?_
   refine yq9 6 (by simp [hjl,hj2];rfl) rfl ?_
   refine yd9 (by simp) (by first | (simp;done) | (simp;rfl)) (numZ x.id 2 i0 (by omega) (by omega)) (by simp;rfl) ?_
   refine zr9 (f:=76) (args:=[.v (.int .i64 (14:Nat)),.lst .any 1 (byL (numM 2 x.id.toNat)),.loc 6 0]) (by simp) (by simp [yb9,zt9]) ((vj9 (14) 80 (numM 2 x.id.toNat) c1 k c1l (by simp <;> omega) (by omega) (by omega) _ 6 5 (by simp) (by simp) (by simp [yc9,xl9,AObj.under,yv9,AV.under,AV.underL,zp9,zd9])).mono ?_)
   rintro _ _ ⟨rfl,rfl⟩
   refine ⟨_,by simp;rfl,?_⟩
   refine yw9 (by simp;rfl) ?_
   simp [yj9,hc2']
 rintro _ rfl
 refine ws9 (fun σ=>∃ c,xv9 [] g.length c=um9 g∧c.length=80∧σ=⟨176,[(1,.loc 0 0),(4,.loc 1 0),(7,.arr 5 0 80 80)],[.cells 33 (obC o),.cells 22 [.lst (.tip 23 147) 1 (bbL (acc))],.cells 29 [.lst .any 5 (esL L)],.cells 3 [.v (.int .i64 (3:Nat))],.loop 176 [(1,.loc 0 0),(4,.loc 1 0),(30,.fn (.func 74) [] [.loc 2 0,.loc 3 0])] [31,32] (rfAn Tryz.f22 0) (rfBn Tryz.f22 0) .busy,.cells 5 (zd9 c k),.cells 23 [.arr 5 0 80 80]]⟩) ?_ ?_
 ·refine yt9 [1, 4, 7, 8, 55, 56, 57] (by simp; rfl) ?_
  refine ys9 ?_
  refine zl9 (fun kk σ=>∃ (i:Nat) (c:List UInt8),kk=g.length - i∧i≤g.length∧xv9 (g.drop i) i c=um9 g∧c.length=80∧σ=⟨176,[(1,.loc 0 0),(4,.loc 1 0),(7,.arr 5 0 80 80),(8,.fn (.func 76) [] [.loc 6 0]),(55,.lst .any 5 (esL g)),(56,.v (.int .i64 (g.length:Nat))),(57,.v (.int .i64 (i:Nat)))],[.cells 33 (obC o),.cells 22 [.lst (.tip 23 147) 1 (bbL (acc))],.cells 29 [.lst .any 5 (esL L)],.cells 3 [.v (.int .i64 (3:Nat))],.loop 176 [(1,.loc 0 0),(4,.loc 1 0),(30,.fn (.func 74) [] [.loc 2 0,.loc 3 0])] [31,32] (rfAn Tryz.f22 0) (rfBn Tryz.f22 0) .busy,.cells 5 (zd9 c k),.cells 23 [.arr 5 0 80 80]]⟩) (k:=g.length) ⟨0,card2 g,rfl,by omega,hcE,c2l,by simp⟩ ?_
  rintro kk σ ⟨i,c,rfl,hi,hgo,cl,rfl⟩
  by_cases ci:i < g.length
  ·have cii:(i:Int) < g.length:=by omega
   obtain ⟨x,hs⟩:∃ x,g[i]?=some x:=⟨_,List.getElem?_eq_getElem ci⟩
   have hs2:g[i]'ci=x:=by rw [List.getElem?_eq_getElem ci] at hs;exact Option.some.inj hs
   have hdr:g.drop i=x :: g.drop (i+1):=by rw [List.drop_eq_getElem_cons ci,hs2]
   have hek:=hge x (List.mem_of_getElem? hs)
   have hn1:=hek.n
   have hel:=zn8 x (by omega)
   have wi:=w64 (n:=(i:Int)+1) (by omega) (by omega)
   have w1:=w64 (n:=16 * (i:Int)) (by omega) (by omega)
   have w2:=w64 (n:=16+16 * (i:Int)) (by omega) (by omega)
   rw [hdr,xv9] at hgo
   refine yt9 [1,4,7,8,55,56,57,58] (by simp [cii];rfl) ?_
   refine yl9 ?_
   refine yp9 rfl (fun h=>?_) (fun h=>by simp [ci] at h)
   refine yk9 ?_
   refine yl9 ?_
   refine ys9 ?_
   refine yt9 [1,4,7,8,55,56,57,10,11] (by simp [ci,cii,hs2,yf9];rfl) ?_
   refine W_rE [1,4,7,8,55,56,57] ?_
   refine yq9 5 (by simp [w1,w2];rfl) rfl ?_
   refine yd9 (by simp) (by first | (simp;done) | (simp;rfl)) (xt7 x hek) (by simp;rfl) ?_
   refine zr9 (f:=76) (args:=[.v (.int .i64 (16+16 * i:Nat)),.lst .any 1 (byL (qc9 x)),.loc 6 0]) (by simp) (by simp [yb9,zt9]) ((vj9 (16+16 * i) 80 (qc9 x) c k cl (by simp [hel] <;> omega) (by omega) (by omega) _ 6 5 (by simp) (by simp) (by simp [yc9,xl9,AObj.under,yv9,AV.under,AV.underL,zp9,zd9,strB])).mono ?_)
   rintro _ _ ⟨rfl,rfl⟩
   refine ⟨_,by simp;rfl,?_⟩
   refine yw9 (by simp;rfl) ?_
   refine xp9 7 (by omega) (by simp) (by simp [yv9,AV.under,AV.underL]) (by simp [yc9,xl9,AObj.under,yv9,AV.under,AV.underL,zp9,zd9]) ?_
   refine zq9 [1,4,7,8,55,56,57] (by simp [wi];rfl) ?_
   exact ⟨_,by omega,i+1,putM c (16+16 * i) (qc9 x),rfl,by omega,hgo,by rw [xt9 _ _ _ (by rw [hel,cl];omega)];exact cl,by simp⟩
  have hie:i=g.length:=by omega
  rw [hie,List.drop_length] at hgo
  refine yt9 [1,4,7,55,56,57,58] (by simp [ci];rfl) ?_
  refine yl9 ?_
  refine yp9 rfl (fun h=>by simp [hie] at h) (fun h=>?_)
  refine zs9 [1,4,7] ?_
  refine zj9 ?_
  exact ⟨c,hgo,cl,by simp⟩
 rintro _ ⟨c,hgo,cl,rfl⟩
 rw [xv9] at hgo
 obtain ⟨fo,hfo,hfz⟩:=qd8 (h:=[.cells 33 (obC o),.cells 22 [.lst (.tip 23 147) 1 (bbL (acc))],.cells 29 [.lst .any 5 (esL L)],.cells 3 [.v (.int .i64 (3:Nat))],.loop 176 [(1,.loc 0 0),(4,.loc 1 0),(30,.fn (.func 74) [] [.loc 2 0,.loc 3 0])] [31,32] (rfAn Tryz.f22 0) (rfBn Tryz.f22 0) .busy,.cells 5 (zd9 c k),.cells 23 [.arr 5 0 80 80]]) 5 80 c k rfl cl
 rw [hgo] at hfz ⊢
 refine xf6 7 rfl (by decide) hfz ?_
 rcases hfo with rfl | rfl
 all_goals
  refine zq9 [1,4] (by simp [putF,yf9,catK,AV.cellsK,AV.kone,AV.koneL,hq1,hq2];rfl) ?_
  have hq:=hQ (.froz 5 (byL (um9 g))) (.cells 23 [.arr 5 0 80 80])
  rw [← happ] at hq
  simpa [qp8] using hq
structure ROk (r:Rld):Prop where
 t0:0≤r.to_
 t1:r.to_≤1000000
 i0:0≤r.in_
 i1:r.in_≤1000000
 a0:0≤r.addr
 a1:r.addr≤1000000
 l0:1≤r.len
 l1:r.len≤4
def qk9 (r:Rld):Nat:=4 * (r.len.toNat - 1)+if r.neg=true then 2 else 0
def jn9 (r:Rld):List UInt8:=numM 2 r.to_.toNat++(numM 2 r.in_.toNat++(numM 1 (qk9 r)++numM 3 r.addr.toNat))
@[simp] theorem kf7 (r:Rld):(jn9 r).length=8:=by simp [jn9]
def ww9 : List Rld → Nat → List UInt8 → List UInt8
 | [],_,c=>c
 | x :: l,i,c=>ww9 l (i+1) (putM c (16+8 * i) (jn9 x))
def zm8 (g:List Rld):List UInt8:=ww9 g 0 (putM (xm9 qr9) 10 (numM 2 (8 * g.length)))
theorem vp4 {top : Bool} {kf : Nat} {Q : Exit → St → Prop} (hkf : kf ≤ 5) (o : OMod) (L g : List Rld) (hg : g.length ≤ 7) (hge : ∀ x ∈ g, ROk x) (acc : List (List UInt8)) (hacc : acc.length ≤ 100000)
  (hQ:∀ X Y,Q .normal ⟨176,[(1,.loc 0 0),(4,.loc 1 0)],[.cells 33 (obC o),.cells 22 [.lst (.tip 23 147) 1 (bbL (acc++[zm8 g]))],.cells 31 [.lst .any 5 (rdL L)],.cells 3 [.v (.int .i64 (7:Nat))],.loop 176 [(1,.loc 0 0),(4,.loc 1 0),(112,.fn (.func 77) [] [.loc 2 0,.loc 3 0])] [113,114] (rfAn Tryz.f22 1) (rfBn Tryz.f22 1) .busy,X,Y]⟩) :
  Wt top kf Tryz.prog (rfBn Tryz.f22 1) Q ⟨176,[(1,.loc 0 0),(4,.loc 1 0),(17,.lst .any 5 (rdL g))],[.cells 33 (obC o),.cells 22 [.lst (.tip 23 147) 1 (bbL (acc))],.cells 31 [.lst .any 5 (rdL L)],.cells 3 [.v (.int .i64 (7:Nat))],.loop 176 [(1,.loc 0 0),(4,.loc 1 0),(112,.fn (.func 77) [] [.loc 2 0,.loc 3 0])] [113,114] (rfAn Tryz.f22 1) (rfBn Tryz.f22 1) .busy]⟩:=by
 have w8:IntKind.i64.wrap (8 * (g.length:Int))=((8 * g.length:Nat):Int):=by rw [w64 (by omega) (by omega)];omega
 have c0l:=qk8 qr9 (by decide +kernel)
 have hcE:ww9 g 0 (putM (xm9 qr9) 10 (numM 2 (8 * g.length)))=zm8 g:=rfl
 obtain ⟨c0,hc0⟩:∃ c,xm9 qr9=c:=⟨_,rfl⟩
 have hq1:acc.length≤140737488355327:=by omega
 have hq2:(acc.length+1) * 24≤140737488355328:=by omega
 have happ:bbL acc++[.lst .any 1 (byL (zm8 g))]=bbL (acc++[zm8 g]):=by simp [wv9,qq9]
 refine ys9 ?_
 refine W_rK [1,4,17,18,19] ?_
 refine zr9 (f:=48) (args:=[strB qr9]) (by simp) (by simp [yb9,zt9,strB,qr9]) ((kj9 qr9 (by simp [qr9]) (by decide +kernel) _ (by simp [yc9,xl9,AObj.under,yv9,AV.under,AV.underL,zp9,zd9])).mono ?_)
 rintro _ _ ⟨k,rfl,rfl⟩
 refine ⟨_,by simp;rfl,?_⟩
 refine yw9 (by simp;rfl) ?_
 rw [hc0] at c0l hcE ⊢
 refine W_rK [1,4,17,18,19] ?_
 refine yq9 4 (by simp [w8];rfl) rfl ?_
 refine yd9 (by simp) (by first | (simp;done) | (simp;rfl)) (qs9 (8 * g.length) 2 (by omega) (by omega)) (by simp;rfl) ?_
 refine zr9 (f:=76) (args:=[.v (.int .i64 (10:Nat)),.lst .any 1 (byL (numM 2 (8 * g.length))),.loc 6 0]) (by simp) (by simp [yb9,zt9]) ((vj9 (10) 80 (numM 2 (8 * g.length)) c0 k c0l (by simp <;> omega) (by omega) (by omega) _ 6 5 (by simp) (by simp) (by simp [yc9,xl9,AObj.under,yv9,AV.under,AV.underL,zp9,zd9])).mono ?_)
 rintro _ _ ⟨rfl,rfl⟩
 refine ⟨_,by simp;rfl,?_⟩
 refine yw9 (by simp;rfl) ?_
 obtain ⟨c1,hc1⟩:∃ x,putM c0 (10) (numM 2 (8 * g.length))=x:=⟨_,rfl⟩
 have c1l:c1.length=80:=by rw [← hc1,xt9 _ _ _ (by simp <;> omega)];exact c0l
 rw [hc1]
 rw [hc1] at hcE
 refine ws9 (fun σ=>∃ c,ww9 [] g.length c=zm8 g∧c.length=80∧σ=⟨176,[(1,.loc 0 0),(4,.loc 1 0),(18,.arr 5 0 80 80)],[.cells 33 (obC o),.cells 22 [.lst (.tip 23 147) 1 (bbL (acc))],.cells 31 [.lst .any 5 (rdL L)],.cells 3 [.v (.int .i64 (7:Nat))],.loop 176 [(1,.loc 0 0),(4,.loc 1 0),(112,.fn (.func 77) [] [.loc 2 0,.loc 3 0])] [113,114] (rfAn Tryz.f22 1) (rfBn Tryz.f22 1) .busy,.cells 5 (zd9 c k),.cells 23 [.arr 5 0 80 80]]⟩) ?_ ?_
 ·refine yt9 [1, 4, 18, 19, 125, 126, 127] (by simp; rfl) ?_
  refine ys9 ?_
  refine zl9 (fun kk σ=>∃ (i:Nat) (c:List UInt8),kk=g.length - i∧i≤g.length∧ww9 (g.drop i) i c=zm8 g∧c.length=80∧σ=⟨176,[(1,.loc 0 0),(4,.loc 1 0),(18,.arr 5 0 80 80),(19,.fn (.func 76) [] [.loc 6 0]),(125,.lst .any 5 (rdL g)),(126,.v (.int .i64 (g.length:Nat))),(127,.v (.int .i64 (i:Nat)))],[.cells 33 (obC o),.cells 22 [.lst (.tip 23 147) 1 (bbL (acc))],.cells 31 [.lst .any 5 (rdL L)],.cells 3 [.v (.int .i64 (7:Nat))],.loop 176 [(1,.loc 0 0),(4,.loc 1 0),(112,.fn (.func 77) [] [.loc 2 0,.loc 3 0])] [113,114] (rfAn Tryz.f22 1) (rfBn Tryz.f22 1) .busy,.cells 5 (zd9 c k),.cells 23 [.arr 5 0 80 80]]⟩) (k:=g.length) ⟨0,c1,rfl,by omega,hcE,c1l,by simp⟩ ?_
  rintro kk σ ⟨i,c,rfl,hi,hgo,cl,rfl⟩
  by_cases ci:i < g.length
  ·have cii : (i : Int) < g.length := by omega
   obtain ⟨x,hs⟩:∃ x,g[i]?=some x:=⟨_,List.getElem?_eq_getElem ci⟩
   have hs2:g[i]'ci=x:=by rw [List.getElem?_eq_getElem ci] at hs;exact Option.some.inj hs
   have hdr:g.drop i=x :: g.drop (i+1):=by rw [List.drop_eq_getElem_cons ci,hs2]
   obtain ⟨t0,t1,i0,i1,a0,a1,l0,l1⟩:=hge x (List.mem_of_getElem? hs)
   have wi:=w64 (n:=(i:Int)+1) (by omega) (by omega)
   have w1:=w64 (n:=8 * (i:Int)) (by omega) (by omega)
   have w2:=w64 (n:=16+8 * (i:Int)) (by omega) (by omega)
   have w3:=w64 (n:=x.len - 1) (by omega) (by omega)
   have w4:=w64 (n:=4 * (x.len - 1)) (by omega) (by omega)
   rw [hdr,ww9] at hgo
   refine yt9 [1,4,18,19,125,126,127,128] (by simp [cii];rfl) ?_
   refine yl9 ?_
   refine yp9 rfl (fun h=>?_) (fun h=>by simp [ci] at h)
   refine yk9 ?_
   refine yl9 ?_
   refine ys9 ?_
   refine yt9 [1,4,18,19,125,126,127,20,21] (by simp [ci,cii,hs2,yf9];rfl) ?_
   obtain ⟨v,hv⟩:∃ v,qk9 x=v:=⟨_,rfl⟩
   have hvl:v≤14:=by rw [← hv,qk9];split <;> omega
   refine yt9 [1,4,18,19,125,126,127,20,21,22] (by simp [w3,w4];rfl) ?_
   refine ws9 (fun σ=>σ=⟨176,[(1,.loc 0 0),(4,.loc 1 0),(18,.arr 5 0 80 80),(19,.fn (.func 76) [] [.loc 6 0]),(125,.lst .any 5 (rdL g)),(126,.v (.int .i64 (g.length:Nat))),(127,.v (.int .i64 (i:Nat))),(21,.loc 7 0),(20,.v (.int .i64 (i:Nat))),(22,.v (.int .i64 (v:Nat)))],[.cells 33 (obC o),.cells 22 [.lst (.tip 23 147) 1 (bbL (acc))],.cells 31 [.lst .any 5 (rdL L)],.cells 3 [.v (.int .i64 (7:Nat))],.loop 176 [(1,.loc 0 0),(4,.loc 1 0),(112,.fn (.func 77) [] [.loc 2 0,.loc 3 0])] [113,114] (rfAn Tryz.f22 1) (rfBn Tryz.f22 1) .busy,.cells 5 (zd9 c k),.cells 23 [.arr 5 0 80 80],.cells 46 (rdC x)]⟩) ?_ ?_
   ·by_cases hn : x.neg = true
    ·have hvz:4 * (x.len - 1)+2=(v:Int):=by rw [← hv,qk9,if_pos hn];omega
     have w5:IntKind.i64.wrap (4 * (x.len - 1)+2)=(v:Int):=by rw [w64 (by omega) (by omega)];exact hvz
     refine W_cT [1,4,18,19,125,126,127,20,21,22,137] (by simp [hn];rfl) rfl ?_
     refine zq9 [1,4,18,19,125,126,127,20,21,22] (by simp [w5];rfl) ?_
     simp [yj9,rdC,hn]
    ·have hnf:x.neg=false:=by simpa using hn
     have hvz:4 * (x.len - 1)=(v:Int):=by rw [← hv,qk9,if_neg hn];omega
     refine W_cF [1,4,18,19,125,126,127,20,21,22,137] (by simp [hnf];rfl) rfl ?_
     refine zs9 [1,4,18,19,125,126,127,20,21,22] ?_
     refine yk9 ?_
     simp [yj9,rdC,hnf,hvz]
   rintro _ rfl
   have hcc:Sound Tryz.prog 54 [.lst .any 1 [.lst .any 1 (byL (numM 2 x.to_.toNat)),.lst .any 1 (byL (numM 2 x.in_.toNat)),.lst .any 1 (byL (numM 1 v)),.lst .any 1 (byL (numM 3 x.addr.toNat))]] (.lst .any 1 (byL (jn9 x))):=by
    have h:=kf9 [numM 2 x.to_.toNat,numM 2 x.in_.toNat,numM 1 v,numM 3 x.addr.toNat] (by simp [total]) (by simp)
    simpa [bbL,jn9,hv] using h
   refine yt7 17 [1,4,18,19,125,126,127] mx (by decide +kernel) ?_
   refine yr9 6 (by simp [rdC,w1,w2];rfl) rfl ?_
   refine zw9 (by simp) (by first | (simp;done) | (simp;rfl)) (numZ x.to_ 2 t0 (by omega) (by omega)) (by simp;rfl) ?_
   refine yr9 2 (by simp [rdC];rfl) rfl ?_
   refine zw9 (by simp) (by first | (simp;done) | (simp;rfl)) (numZ x.in_ 2 i0 (by omega) (by omega)) (by simp;rfl) ?_
   refine yr9 1 (by simp [rdC];rfl) rfl ?_
   refine zw9 (by simp) (by first | (simp;done) | (simp;rfl)) (qs9 v 1 (by omega) (by omega)) (by simp;rfl) ?_
   refine yr9 2 (by simp [rdC];rfl) rfl ?_
   refine zw9 (by simp) (by first | (simp;done) | (simp;rfl)) (numZ x.addr 3 a0 (by omega) (by omega)) (by simp;rfl) ?_
   refine yr9 1 (by simp;rfl) rfl ?_
   refine zw9 (by simp) (by first | (simp;done) | (simp;rfl)) hcc (by simp;rfl) ?_
   refine zr9 (f:=76) (args:=[.v (.int .i64 (16+8 * i:Nat)),.lst .any 1 (byL (jn9 x)),.loc 6 0]) (by simp) (by simp [yb9,zt9]) ((vj9 (16+8 * i) 80 (jn9 x) c k cl (by simp <;> omega) (by omega) (by omega) _ 6 5 (by simp) (by simp) (by simp [yc9,xl9,AObj.under,yv9,AV.under,AV.underL,zp9,zd9,rdC])).mono ?_)
   rintro _ _ ⟨rfl,rfl⟩
   refine ⟨_,by simp;rfl,?_⟩
   refine yw9 (by simp;rfl) ?_
   refine xp9 7 (by omega) (by simp) (by simp [yv9,AV.under,AV.underL]) (by simp [yc9,xl9,AObj.under,yv9,AV.under,AV.underL,zp9,zd9]) ?_
   refine zq9 [1,4,18,19,125,126,127] (by simp [wi];rfl) ?_
   exact ⟨_,by omega,i+1,putM c (16+8 * i) (jn9 x),rfl,by omega,hgo,by rw [xt9 _ _ _ (by rw [kf7,cl];omega)];exact cl,by simp⟩
  have hie:i=g.length:=by omega
  rw [hie,List.drop_length] at hgo
  refine yt9 [1,4,18,125,126,127,128] (by simp [ci];rfl) ?_
  refine yl9 ?_
  refine yp9 rfl (fun h=>by simp [hie] at h) (fun h=>?_)
  refine zs9 [1,4,18] ?_
  refine zj9 ?_
  exact ⟨c,hgo,cl,by simp⟩
 rintro _ ⟨c,hgo,cl,rfl⟩
 rw [ww9] at hgo
 obtain ⟨fo,hfo,hfz⟩:=qd8 (h:=[.cells 33 (obC o),.cells 22 [.lst (.tip 23 147) 1 (bbL (acc))],.cells 31 [.lst .any 5 (rdL L)],.cells 3 [.v (.int .i64 (7:Nat))],.loop 176 [(1,.loc 0 0),(4,.loc 1 0),(112,.fn (.func 77) [] [.loc 2 0,.loc 3 0])] [113,114] (rfAn Tryz.f22 1) (rfBn Tryz.f22 1) .busy,.cells 5 (zd9 c k),.cells 23 [.arr 5 0 80 80]]) 5 80 c k rfl cl
 rw [hgo] at hfz ⊢
 refine xf6 18 rfl (by decide) hfz ?_
 rcases hfo with rfl | rfl
 all_goals
  refine zq9 [1,4] (by simp [putF,yf9,catK,AV.cellsK,AV.kone,AV.koneL,hq1,hq2];rfl) ?_
  have hq:=hQ (.froz 5 (byL (zm8 g))) (.cells 23 [.arr 5 0 80 80])
  rw [← happ] at hq
  simpa [qp8] using hq
theorem yc6 (s:List UInt8):(zm9 s).length≤s.length:=by
 unfold zm9 encM
 split
 ·simp [enc1]
 ·simp
theorem vd6 {s:List UInt8} (h:symM s=true):s.length≤8:=by
 simp only [symM,Bool.and_eq_true,decide_eq_true_eq] at h
 exact h.2.1
def EV (x:Esd):Prop:=x.name.length≤8∧((x.kind≠2∧1≤x.id∧x.id≤3000∧0≤x.addr∧x.addr≤65536∧0≤x.len∧x.len≤65536)∨(x.kind=2∧x.len=0))
theorem yw3 {nx:Int} {x:Esd} (h:vs9 nx x=true) (h1:1≤nx) (h2:nx≤3000):EV x:=by
 unfold vs9 at h
 split at h
 ·rename_i hk
  simp only [rule1,Bool.and_eq_true,Bool.or_eq_true,decide_eq_true_eq] at h
  obtain ⟨a1,a2,a3,a4,a5,a6⟩:=h
  refine ⟨?_,.inl ⟨by omega,by omega,by omega,a2,a4,a3,by omega⟩⟩
  rcases a6 with h | h
  ·simp [h]
  ·exact vd6 h
 ·split at h
  ·rename_i hk
   simp only [rule2,Bool.and_eq_true,decide_eq_true_eq] at h
   exact ⟨vd6 h.2,.inr ⟨hk,h.1⟩⟩
  ·split at h
   ·rename_i hk
    simp only [rule3,Bool.and_eq_true,decide_eq_true_eq] at h
    obtain ⟨a1,a2,a3,a4⟩:=h
    exact ⟨vd6 a4,.inl ⟨by omega,by omega,by omega,by omega,by omega,by omega,by omega⟩⟩
   ·cases h
theorem jg7 (s t : List UInt8) (k : Int) : ∀ N : List (List UInt8 × Int), getN s (updN t k N) = if s = t then some k else getN s N
 | []=>by simp only [updN,getN]
 | (u,m) :: N=>by
  simp only [updN]
  by_cases h:t=u
  ·subst h
   rw [if_pos rfl]
   simp only [getN]
   by_cases h2:s=t <;> simp [h2]
  ·rw [if_neg h]
   simp only [getN,jg7 s t k N]
   by_cases h2:s=u
   ·subst h2
    rw [if_pos rfl,if_neg (fun e=>h e.symm),if_pos rfl]
   ·rw [if_neg h2]
    by_cases h3:s=t <;> simp [h3,h2]
theorem ys6 : ∀ (l : List Esd) (S S' : List (Int × Esd)) (N N' : List (List UInt8 × Int)) (nx nx' : Int), uf9 l S N nx = some (S', N', nx') → 1 ≤ nx → nx + l.length ≤ 3000 → SOk S → (∀ i y, getS i S = some y → 1 ≤ i ∧ i ≤ 3000) → (∀ s k, getN s N = some k → s.length ≤ 8) →
  SOk S'∧(∀ i y,getS i S'=some y→1≤i∧i≤3000)∧(∀ s k,getN s N'=some k→s.length≤8)∧nx≤nx'∧nx'≤nx+l.length∧∀ x∈l,EV x
 | [],S,S',N,N',nx,nx',h,h1,h2,hS,hi,hn=>by
  simp only [uf9,Option.some.injEq,Prod.mk.injEq] at h
  obtain ⟨rfl,rfl,rfl⟩:=h
  exact ⟨hS,hi,hn,by omega,by simp,by simp⟩
 | x :: l,S,S',N,N',nx,nx',h,h1,h2,hS,hi,hn=>by
  rw [uf9] at h
  simp only [List.length_cons] at h2
  split at h
  ·rename_i hr
   split at h
   ·cases h
   ·have hev := yw3 hr h1 (by omega)
    have hbd:nx≤nx1 nx x∧nx1 nx x≤nx+1:=by unfold nx1;split <;> omega
    have:=ys6 l (S1 S x) S' (N1 N x) N' (nx1 nx x) nx' h (by omega) (by omega) (jt4 hS hr) (fun i y hy=>by
     unfold S1 at hy
     split at hy
     ·rename_i hk
      rw [zv7] at hy
      split at hy
      ·rename_i he
       rcases hev.2 with ⟨_,a1,a2,_⟩ | ⟨a,_⟩
       ·omega
       ·omega
      ·exact hi i y hy
     ·exact hi i y hy) (fun s k hs=>by
     unfold N1 at hs
     rw [jg7] at hs
     split at hs
     ·rename_i he
      rw [he];exact hev.1
     ·exact hn s k hs)
    obtain ⟨b1,b2,b3,b4,b5,b6⟩:=this
    refine ⟨b1,b2,b3,by omega,by simp only [List.length_cons];omega,?_⟩
    intro y hy
    rcases List.mem_cons.1 hy with rfl | hy
    ·exact hev
    ·exact b6 y hy
  ·cases h
structure OOk (o:OMod):Prop where
 es:∀ x∈o.esd,EOk x
 ts:∀ t∈o.txt,0≤t.id∧t.id≤1000000∧0≤t.addr∧t.addr≤1000000∧1≤t.data.length∧t.data.length≤56
 rs:∀ r∈o.rld,ROk r
 en:o.entry.length≤8
 ne:o.esd≠[]
 l1:o.esd.length≤2048
 l2:o.txt.length≤2048
 l3:o.rld.length≤2048
theorem qt8 {S:List (Int × Esd)} {id at_ n:Int} (h:yq8 S id at_ n=true) (hS:SOk S) (hi:∀ i y,getS i S=some y→1≤i∧i≤3000):1≤id∧id≤3000∧0≤at_∧at_≤200000:=by
 unfold yq8 at h
 split at h
 ·rename_i x hx
  simp only [zv6,Bool.and_eq_true,decide_eq_true_eq] at h
  have h1:=hS id x hx
  have h2:=hi id x hx
  omega
 ·cases h
theorem wt8 {o:OMod} (h:chkM o=true):OOk o:=by
 unfold chkM at h
 simp only [Bool.and_eq_true,Bool.not_eq_true'] at h
 obtain ⟨hbig,hB,hR⟩:=h
 simp only [bigB,Bool.or_eq_false_iff,decide_eq_false_iff_not] at hbig
 obtain ⟨l1,l2,l3⟩:=hbig
 cases hg:uf9 o.esd [] [] 1 with
 | none=>rw [hg] at hR;cases hR
 | some g =>
  obtain ⟨S,N,nx⟩:=g
  rw [hg] at hR hB
  have hinv:=ys6 o.esd [] S [] N 1 nx hg (by omega) (by omega) (fun i x h=>by simp [getS] at h) (fun i y h=>by simp [getS] at h) (fun s k h=>by simp [getN] at h)
  obtain ⟨hS,hi,hn,n1,n2,hev⟩:=hinv
  simp only [kp7,Bool.and_eq_true,Bool.not_eq_true',List.all_eq_true] at hR
  obtain ⟨hT,hRl,hE⟩:=hR
  simp only [esdB,Bool.and_eq_true,List.all_eq_true,decide_eq_true_eq] at hB
  obtain ⟨hent,hpos⟩:=hB
  refine ⟨fun x hx=>?_,fun t ht=>?_,fun r hr=>?_,?_,?_,by omega,by omega,by omega⟩
  ·obtain ⟨e1, e2⟩ := hev x hx
   have hc:=yc6 x.name
   rcases e2 with ⟨_,a1,a2,a3,a4,a5,a6⟩ | ⟨hk,hl⟩
   ·exact ⟨by omega,by omega,by omega,by omega,by omega,by omega,by omega,by omega⟩
   ·have he := hent x hx
    simp only [ent1,hk,Bool.or_eq_true,Bool.not_eq_true',decide_eq_false_iff_not] at he
    rcases he with he | he
    ·simp at he
    ·have:=qt8 he hS hi
     exact ⟨by omega,by omega,by omega,by omega,by omega,by omega,by omega,by omega⟩
  ·have h1:=hT t ht
   simp only [txB,Bool.or_eq_false_iff,decide_eq_false_iff_not,Bool.not_eq_false'] at h1
   obtain ⟨a1,a2,a3⟩:=h1
   have:=qt8 a3 hS hi
   exact ⟨by omega,by omega,by omega,by omega,by omega,by omega⟩
  ·have h1:=hRl r hr
   simp only [rdB,Bool.or_eq_false_iff,decide_eq_false_iff_not,Bool.not_eq_false'] at h1
   obtain ⟨a1,a2,a3,a4,a5⟩:=h1
   have:=qt8 a5 hS hi
   exact ⟨by omega,by omega,by omega,by omega,by omega,by omega,by omega,by omega⟩
  ·unfold entB at hE
   by_cases h0:o.entry=[]
   ·simp [h0]
   ·have h0b:(o.entry == [])=false:=by simpa using h0
    rw [h0b] at hE
    simp only [Bool.not_false,Bool.true_and,Bool.or_eq_false_iff,Bool.not_eq_false'] at hE
    obtain ⟨k,hk⟩:=Option.isSome_iff_exists.1 hE.1
    exact hn _ _ hk
  ·rintro he
   rw [he] at hg
   simp only [uf9,Option.some.injEq,Prod.mk.injEq] at hg
   rw [← hg.1] at hpos
   simp at hpos
structure EInv (p:List Esd) (S:List (Int × Esd)) (N:List (List UInt8 × Int)) (nx:Int):Prop where
 n1:∀ s,s≠[]→getN s N=(p.find? (fun y=>y.name == s)).map (·.kind)
 s1:∀ id,getS id S=p.find? (jq9 id)
 t1:∀ id,p.any (isTg id)=(decide (1≤id)&&decide (id < nx))
 u1:∀ s,s≠[]→p.any (isDf s)=((p.find? (fun y=>y.name == s)).map (fun y=>!decide (y.kind=3))).getD false
 ok:SOk S
 n0:1≤nx
theorem EInv.nil:EInv [] [] [] 1:=by
 refine ⟨fun s _=>rfl,fun id=>rfl,fun id=>?_,fun s _=>rfl,fun i x h=>by simp [getS] at h,by omega⟩
 rw [Bool.eq_iff_iff]
 simp
 try omega
theorem EInv.step {p:List Esd} {S:List (Int × Esd)} {N:List (List UInt8 × Int)} {nx:Int} {x:Esd} (h:EInv p S N nx) (hr:vs9 nx x=true) (hd:dupM N x=false):EInv (p++[x]) (S1 S x) (N1 N x) (nx1 nx x):=by
 have hdn:x.name≠[]→p.find? (fun y=>y.name == x.name)=none:=by
  intro hne
  have h1:=h.n1 x.name hne
  have h2:getN x.name N=none:=by
   unfold dupM at hd
   cases e:getN x.name N with
   | none=>rfl
   | some k=>rw [e] at hd;simp [hne] at hd
  rw [h2] at h1
  cases e:p.find? (fun y=>y.name == x.name) with
  | none=>rfl
  | some y=>rw [e] at h1;cases h1
 have hkind:x.kind=1∨x.kind=2∨x.kind=3:=by
  unfold vs9 at hr
  split at hr
  ·exact .inl (by assumption)
  ·split at hr
   ·exact .inr (.inl (by assumption))
   ·split at hr
    ·exact .inr (.inr (by assumption))
    ·cases hr
 have hid:x.kind≠2→x.id=nx:=by
  intro h2
  unfold vs9 at hr
  rcases hkind with e | e | e
  ·rw [if_pos e] at hr
   simp only [rule1,Bool.and_eq_true,decide_eq_true_eq] at hr
   exact hr.1
  ·exact absurd e h2
  ·rw [if_neg (by omega),if_neg (by omega),if_pos e] at hr
   simp only [rule3,Bool.and_eq_true,decide_eq_true_eq] at hr
   exact hr.1
 refine ⟨fun s hs=>?_,fun id=>?_,fun id=>?_,fun s hs=>?_,jt4 h.ok hr,?_⟩
 ·rw [N1, jg7, List.find?_append]
  by_cases e:s=x.name
  ·subst e
   rw [if_pos rfl,hdn hs]
   simp [List.find?]
  ·rw [if_neg e,h.n1 s hs]
   have e2:(x.name == s)=false:=by simpa using fun h=>e h.symm
   simp [List.find?,e2]
 ·rw [List.find?_append, S1]
  by_cases e:x.kind=1
  ·rw [if_pos e, zv7]
   have hx:=hid (by omega)
   by_cases e2:id=x.id
   ·rw [if_pos e2]
    have h3:p.find? (jq9 id)=none:=by
     rw [List.find?_eq_none]
     intro y hy hs
     have h4:=h.t1 id
     have h5:p.any (isTg id)=true:=List.any_eq_true.2 ⟨y,hy,by
      simp only [jq9,Bool.and_eq_true,decide_eq_true_eq] at hs
      simp [isTg,hs.1,hs.2]⟩
     rw [h5] at h4
     have h6:=h4.symm
     simp only [Bool.and_eq_true,decide_eq_true_eq] at h6
     omega
    rw [h3]
    simp [List.find?,jq9,e,e2]
   ·rw [if_neg e2, h.s1 id]
    have:jq9 id x=false:=by
     have e3:¬ x.id=id:=fun h=>e2 h.symm
     simp [jq9,e3]
    simp [List.find?,this]
  ·rw [if_neg e,h.s1 id]
   have:jq9 id x=false:=by simp [jq9,e]
   simp [List.find?,this]
 ·rw [List.any_append, h.t1 id, nx1]
  rw [Bool.eq_iff_iff]
  have:=h.n0
  by_cases e:x.kind=2
  ·rw [if_pos e]
   simp [isTg,e]
  ·rw [if_neg e]
   have hx:=hid e
   simp [isTg,e,hx]
   omega
 ·rw [List.any_append, List.find?_append, h.u1 s hs]
  by_cases e:s=x.name
  ·subst e
   rw [hdn hs]
   simp [List.find?,isDf]
  ·have e2:(x.name == s)=false:=by simpa using fun h=>e h.symm
   simp [List.find?,isDf,e2]
 ·have:=h.n0
  rw [nx1]
  split <;> omega
theorem EInv.lies {o:OMod} {S:List (Int × Esd)} {N:List (List UInt8 × Int)} {nx:Int} (h:EInv o.esd S N nx) (id at_ n:Int):qm5 o id at_ n=yq8 S id at_ n:=by
 rw [qm5,yq8,h.s1 id]
 cases o.esd.find? (jq9 id) with
 | none=>rfl
 | some x =>
  simp only [vt4,zv6]
  rw [Bool.eq_iff_iff]
  simp only [Bool.and_eq_true,decide_eq_true_eq]
  omega
theorem EInv.sm {o:OMod} {S:List (Int × Esd)} {N:List (List UInt8 × Int)} {nx:Int} (h:EInv o.esd S N nx) (id:Int) (x:Esd) (hx:o.esd.find? (jq9 id)=some x):smE x:=h.ok id x (by rw [h.s1 id];exact hx)
theorem EInv.first {p:List Esd} {S:List (Int × Esd)} {N:List (List UInt8 × Int)} {nx:Int} (h:EInv p S N nx):(p.find? isS1).isSome=decide (0 < S.length):=by
 cases S with
 | nil =>
  cases e:p.find? isS1 with
  | none=>rfl
  | some y =>
   exfalso
   have h1:=h.s1 y.id
   have h2:(p.find? (jq9 y.id)).isSome=true:=by
    rw [List.find?_isSome]
    have hy:=List.find?_some e
    exact ⟨y,List.mem_of_find?_eq_some e,by simpa [jq9,isS1] using hy⟩
   rw [← h1] at h2
   simp [getS] at h2
 | cons q S =>
  have h1:=h.s1 q.1
  obtain ⟨k,z⟩:=q
  simp only [getS,if_true] at h1
  have h3:=List.find?_some h1.symm
  have h4:=List.mem_of_find?_eq_some h1.symm
  have:(p.find? isS1).isSome=true:=by
   rw [List.find?_isSome]
   refine ⟨z,h4,?_⟩
   simp only [jq9,Bool.and_eq_true] at h3
   exact h3.1
  rw [this]
  simp
theorem EInv.dup {p:List Esd} {S:List (Int × Esd)} {N:List (List UInt8 × Int)} {nx:Int} (h:EInv p S N nx) (x:Esd):dupM N x=(!decide (x.name=[])&&p.any fun y=>y.name == x.name):=by
 unfold dupM
 by_cases e:x.name=[]
 ·simp [e]
 ·rw [h.n1 _ e]
  have e2:(x.name == [])=false:=by simpa using e
  rw [Option.isSome_map,e2,Bool.not_false,Bool.and_true,decide_eq_false e,Bool.not_false,Bool.true_and]
  rw [Bool.eq_iff_iff,List.find?_isSome,List.any_eq_true]
theorem EInv.entry {p:List Esd} {S:List (Int × Esd)} {N:List (List UInt8 × Int)} {nx:Int} (h:EInv p S N nx) (e:List UInt8):entB N e=(!decide (e=[])&&!(p.any (isDf e))):=by
 unfold entB
 by_cases e0:e=[]
 ·simp [e0]
 ·have e2 : (e == []) = false := by simpa using e0
  rw [h.n1 e e0,h.u1 e e0,e2,decide_eq_false e0]
  cases p.find? (fun y=>y.name == e) with
  | none=>rfl
  | some y =>
   simp only [Option.map_some,Option.isSome_some,Option.getD_some,Bool.not_false,Bool.true_and,Bool.not_true,Bool.false_or]
   rw [Bool.eq_iff_iff]
   simp
theorem jg9 : ∀ (l p : List Esd) (S S' : List (Int × Esd)) (N N' : List (List UInt8 × Int)) (nx nx' : Int), EInv p S N nx → uf9 l S N nx = some (S', N', nx') → EInv (p ++ l) S' N' nx'
 | [],p,S,S',N,N',nx,nx',h,hg=>by
  simp only [uf9,Option.some.injEq,Prod.mk.injEq] at hg
  obtain ⟨rfl,rfl,rfl⟩:=hg
  simpa using h
 | x :: l,p,S,S',N,N',nx,nx',h,hg=>by
  rw [uf9] at hg
  split at hg
  ·split at hg
   ·cases hg
   ·rename_i h1 h2
    have:=jg9 l (p++[x]) _ S' _ N' _ nx' (h.step h1 (by simpa using h2)) hg
    simpa using this
  ·cases hg
def vf9 (t:Txt):List UInt8:=putM (putM (putM (putM (xm9 qh9) 5 (numM 3 t.addr.toNat)) 10 (numM 2 t.data.length)) 14 (numM 2 t.id.toNat)) 16 t.data
def yt8 (e:List UInt8):List UInt8:=putM (xm9 vw9) 16 (zm9 e)
def egoE (l : List Esd) : Nat → Nat → List (List UInt8)
 | 0,_=>[]
 | f+1,i=>if i < l.length then um9 ((l.drop i).take 3) :: egoE l f (i+3) else []
def egoR (l : List Rld) : Nat → Nat → List (List UInt8)
 | 0,_=>[]
 | f+1,i=>if i < l.length then zm8 ((l.drop i).take 7) :: egoR l f (i+7) else []
theorem qr6 {l : List Esd} : ∀ (f i : Nat), l.length ≤ i → egoE l f i = []
 | 0,i,h=>rfl
 | f+1,i,h=>by rw [egoE,if_neg (by omega)]
theorem qw6 {l : List Rld} : ∀ (f i : Nat), l.length ≤ i → egoR l f i = []
 | 0,i,h=>rfl
 | f+1,i,h=>by rw [egoR,if_neg (by omega)]
def encO (o:OMod):List (List UInt8):=egoE o.esd o.esd.length 0++(o.txt.map vf9++(egoR o.rld o.rld.length 0++[yt8 o.entry]))
def zd4 (o:OMod):AV:=if chkM o=true then .tup [.lst .any 1 (bbL (encO o)),.v (.int .i64 0)] else .tup [.lst .nil 1 [],.v (.int .i64 310)]
theorem kb5 (l:List Esd) (n:Nat):esL (l.take n)=(esL l).take n:=by simp [esL]
theorem kn5 (l:List Esd) (n:Nat):esL (l.drop n)=(esL l).drop n:=by simp [esL]
theorem yh3 (l:List Rld) (n:Nat):rdL (l.take n)=(rdL l).take n:=by simp [rdL]
theorem yj3 (l:List Rld) (n:Nat):rdL (l.drop n)=(rdL l).drop n:=by simp [rdL]
theorem esd_all (o : OMod) (hk : OOk o) (R0 R1 : List (List UInt8)) (hR1 : R0 ++ egoE o.esd o.esd.length 0 = R1) (hR0 : R0.length ≤ 6000) (h00 : R0 = []) :
  wf9 Tryz.prog 74 [.yld 4,.loc 2 0,.loc 3 0] [.cells 33 (obC o),.cells 22 [.lst (.nil) 1 (bbL (R0))],.cells 29 [.lst .any 5 (esL o.esd)],.cells 3 [.v (.int .i64 (3:Nat))],.loop 176 [(1,.loc 0 0),(4,.loc 1 0),(30,.fn (.func 74) [] [.loc 2 0,.loc 3 0])] [31,32] (rfAn Tryz.f22 0) (rfBn Tryz.f22 0) .ready] (fun _ h'=>R1.length≤R0.length+3000∧h'=[.cells 33 (obC o),.cells 22 [.lst (.tip 23 147) 1 (bbL (R1))],.cells 29 [.lst .any 5 (esL o.esd)],.cells 3 [.v (.int .i64 (3:Nat))],.loop 176 [(1,.loc 0 0),(4,.loc 1 0),(30,.fn (.func 74) [] [.loc 2 0,.loc 3 0])] [31,32] (rfAn Tryz.f22 0) (rfBn Tryz.f22 0) .ready]):=by
 have hll:=hk.l1
 refine zv9 Tryz.func74 rfl (by decide +kernel) (by simp [Tryz.f74]) (rs:=[]) rfl ?_
 rw [show Tryz.f74.ntmps=25 from rfl]
 refine yt9 [0,1,2,4] (by simp;rfl) ?_
 refine ys9 ?_
 refine zl9 (fun k σ=>∃ (i f:Nat) (acc:List (List UInt8)) (fl:Fl),k=o.esd.length - i∧o.esd.length≤i+f∧i≤o.esd.length+3∧acc++egoE o.esd f i=R1∧acc.length≤R0.length+i∧((i=0∧fl=.nil∧acc=[])∨(0 < i∧fl=.tip 23 147))∧σ=⟨25,[(0,.yld 4),(1,.loc 2 0),(2,.loc 3 0),(4,.v (.int .i64 (i:Nat)))],[.cells 33 (obC o),.cells 22 [.lst (fl) 1 (bbL (acc))],.cells 29 [.lst .any 5 (esL o.esd)],.cells 3 [.v (.int .i64 (3:Nat))],.loop 176 [(1,.loc 0 0),(4,.loc 1 0),(30,.fn (.func 74) [] [.loc 2 0,.loc 3 0])] [31,32] (rfAn Tryz.f22 0) (rfBn Tryz.f22 0) .ready]⟩) (k:=o.esd.length) ⟨0,o.esd.length,R0,.nil,rfl,by omega,by omega,hR1,by simp,.inl ⟨rfl,rfl,h00⟩,?_⟩ ?_
 ·simp
 rintro k σ ⟨i,f,acc,fl,rfl,hf,hi,hgo,hal,hfl,rfl⟩
 refine yl9 ?_
 by_cases c:i < o.esd.length
 ·have ci : (i : Int) < o.esd.length := by omega
  have wi:=w64 (n:=(i:Int)+3) (by omega) (by omega)
  cases f with
  | zero=>omega
  | succ f =>
  rw [egoE,if_pos c] at hgo
  obtain ⟨e,he⟩:∃ e,min (i+3) o.esd.length=e:=⟨_,rfl⟩
  have hmin:(if (o.esd.length:Int) < (i:Int)+3 then (o.esd.length:Int) else (i:Int)+3)=(e:Nat):=by split <;> omega
  have hdt:(o.esd.take e).drop i=(o.esd.drop i).take 3:=by rw [← he];exact dropmin _ _ _
  have e1:i≤e:=by omega
  have e2:e≤o.esd.length:=by omega
  have e1':(i:Int)≤(e:Nat):=by omega
  have e2':((e:Nat):Int)≤o.esd.length:=by omega
  obtain ⟨G,hG⟩:∃ G,(o.esd.drop i).take 3=G:=⟨_,rfl⟩
  have hGl:G.length≤3:=by rw [← hG,List.length_take];omega
  have hGm:∀ x∈G,EOk x:=fun x hx=>hk.es x (by rw [← hG] at hx;exact List.mem_of_mem_drop (List.mem_of_mem_take hx))
  rw [hG] at hdt hgo
  rcases hfl with ⟨hi0,rfl,rfl⟩ | ⟨_,rfl⟩
  ·refine yt9 [0,1,2,4,8] (by simp [c];rfl) ?_
   refine yp9 rfl (fun h=>?_) (fun h=>by simp [c] at h)
   refine yk9 ?_
   refine yl9 ?_
   refine ys9 ?_
   refine W_rK [0,1,2,4,24] ?_
   refine yq9 6 (by simp [wi];rfl) rfl ?_
   refine yq9 4 (by simp [wi,hmin];rfl) rfl ?_
   refine yq9 1 (by simp [e1,e2,e1',e2'];rfl) rfl ?_
   rw [← kb5,← kn5,hdt]
   refine jj6 (by simp) ?_
   unfold yw7
   dsimp only
   refine ⟨4,176,_,_,_,_,[.v (.int .i64 (i:Nat)),.lst .any 5 (esL G)],by simp,rfl,by simp,by simp,by simp,by simp,?_⟩
   refine (show Wt _ _ _ _ _ _ from ?_)
   refine zq9 [1,4,6] (by simp [setF];rfl) ?_
   refine ⟨rfl,_,_,_,_,_,rfl,?_⟩
   refine zk5 (by simp) o o.esd G hGl hGm [] (by simp) .nil (.inl ⟨rfl,rfl⟩) fun X Y=>?_
   refine ⟨176,_,_,_,_,.ready,true,5,rfl,rfl,by simp,by simp,?_,?_⟩
   ·simp [yc9,yv9,AObj.under,AV.under,AV.underL,zp9]
   refine ⟨_,by simp;rfl,?_⟩
   refine yw9 (by simp;rfl) ?_
   refine yp9 rfl (fun h=>by simp at h) (fun h=>?_)
   refine yk9 ?_
   refine zq9 [0,1,2,4] (by simp [wi];rfl) ?_
   refine ⟨_,by omega,i+3,f,[]++[um9 G],.tip 23 147,rfl,by omega,by omega,by simpa using hgo,by simp;omega,.inr ⟨by omega,rfl⟩,by simp⟩
  ·refine yt9 [0,1,2,4,8] (by simp [c];rfl) ?_
   refine yp9 rfl (fun h=>?_) (fun h=>by simp [c] at h)
   refine yk9 ?_
   refine yl9 ?_
   refine ys9 ?_
   refine W_rK [0,1,2,4,24] ?_
   refine yq9 6 (by simp [wi];rfl) rfl ?_
   refine yq9 4 (by simp [wi,hmin];rfl) rfl ?_
   refine yq9 1 (by simp [e1,e2,e1',e2'];rfl) rfl ?_
   rw [← kb5,← kn5,hdt]
   refine jj6 (by simp) ?_
   unfold yw7
   dsimp only
   refine ⟨4,176,_,_,_,_,[.v (.int .i64 (i:Nat)),.lst .any 5 (esL G)],by simp,rfl,by simp,by simp,by simp,by simp,?_⟩
   refine (show Wt _ _ _ _ _ _ from ?_)
   refine zq9 [1,4,6] (by simp [setF];rfl) ?_
   refine ⟨rfl,_,_,_,_,_,rfl,?_⟩
   refine zk5 (by simp) o o.esd G hGl hGm acc (by omega) _ (.inr rfl) fun X Y=>?_
   refine ⟨176,_,_,_,_,.ready,true,5,rfl,rfl,by simp,by simp,?_,?_⟩
   ·simp [yc9,yv9,AObj.under,AV.under,AV.underL,zp9]
   refine ⟨_,by simp;rfl,?_⟩
   refine yw9 (by simp;rfl) ?_
   refine yp9 rfl (fun h=>by simp at h) (fun h=>?_)
   refine yk9 ?_
   refine zq9 [0,1,2,4] (by simp [wi];rfl) ?_
   refine ⟨_,by omega,i+3,f,acc++[um9 G],.tip 23 147,rfl,by omega,by omega,by simpa using hgo,by simp;omega,.inr ⟨by omega,rfl⟩,by simp⟩
 rcases hfl with ⟨hi0,_,_⟩ | ⟨_,rfl⟩
 ·exact absurd (List.eq_nil_of_length_eq_zero (by omega)) hk.ne
 rw [qr6 _ _ (by omega),List.append_nil] at hgo
 subst hgo
 refine yt9 [0,1,2,4,8] (by simp [c];rfl) ?_
 refine yp9 rfl (fun h=>by simp [c] at h) (fun h=>?_)
 refine zj9 ?_
 refine ⟨.inl rfl,.tup [],.tup [],_,5,rfl,.inl ⟨rfl,rfl⟩,by simp,by simp,rfl,?_,?_⟩
 ·simp [yc9,yv9,AObj.under,AV.under,AV.underL,zp9]
 ·exact ⟨by omega,by simp⟩
theorem rld_all (o : OMod) (hk : OOk o) (R0 R1 : List (List UInt8)) (hR1 : R0 ++ egoR o.rld o.rld.length 0 = R1) (hR0 : R0.length ≤ 6000) :
  wf9 Tryz.prog 77 [.yld 4,.loc 2 0,.loc 3 0] [.cells 33 (obC o),.cells 22 [.lst (.tip 23 147) 1 (bbL (R0))],.cells 31 [.lst .any 5 (rdL o.rld)],.cells 3 [.v (.int .i64 (7:Nat))],.loop 176 [(1,.loc 0 0),(4,.loc 1 0),(112,.fn (.func 77) [] [.loc 2 0,.loc 3 0])] [113,114] (rfAn Tryz.f22 1) (rfBn Tryz.f22 1) .ready] (fun _ h'=>R1.length≤R0.length+3000∧h'=[.cells 33 (obC o),.cells 22 [.lst (.tip 23 147) 1 (bbL (R1))],.cells 31 [.lst .any 5 (rdL o.rld)],.cells 3 [.v (.int .i64 (7:Nat))],.loop 176 [(1,.loc 0 0),(4,.loc 1 0),(112,.fn (.func 77) [] [.loc 2 0,.loc 3 0])] [113,114] (rfAn Tryz.f22 1) (rfBn Tryz.f22 1) .ready]):=by
 have hll:=hk.l3
 refine zv9 Tryz.func77 rfl (by decide +kernel) (by simp [Tryz.f77]) (rs:=[]) rfl ?_
 rw [show Tryz.f77.ntmps=25 from rfl]
 refine yt9 [0,1,2,4] (by simp;rfl) ?_
 refine ys9 ?_
 refine zl9 (fun k σ=>∃ (i f:Nat) (acc:List (List UInt8)),k=o.rld.length - i∧o.rld.length≤i+f∧i≤o.rld.length+7∧acc++egoR o.rld f i=R1∧acc.length≤R0.length+i∧σ=⟨25,[(0,.yld 4),(1,.loc 2 0),(2,.loc 3 0),(4,.v (.int .i64 (i:Nat)))],[.cells 33 (obC o),.cells 22 [.lst (.tip 23 147) 1 (bbL (acc))],.cells 31 [.lst .any 5 (rdL o.rld)],.cells 3 [.v (.int .i64 (7:Nat))],.loop 176 [(1,.loc 0 0),(4,.loc 1 0),(112,.fn (.func 77) [] [.loc 2 0,.loc 3 0])] [113,114] (rfAn Tryz.f22 1) (rfBn Tryz.f22 1) .ready]⟩) (k:=o.rld.length) ⟨0,o.rld.length,R0,rfl,by omega,by omega,hR1,by simp,?_⟩ ?_
 ·simp
 rintro k σ ⟨i,f,acc,rfl,hf,hi,hgo,hal,rfl⟩
 refine yl9 ?_
 by_cases c:i < o.rld.length
 ·have ci:(i:Int) < o.rld.length:=by omega
  have wi:=w64 (n:=(i:Int)+7) (by omega) (by omega)
  cases f with
  | zero=>omega
  | succ f =>
  rw [egoR,if_pos c] at hgo
  obtain ⟨e,he⟩:∃ e,min (i+7) o.rld.length=e:=⟨_,rfl⟩
  have hmin:(if (o.rld.length:Int) < (i:Int)+7 then (o.rld.length:Int) else (i:Int)+7)=(e:Nat):=by split <;> omega
  have hdt:(o.rld.take e).drop i=(o.rld.drop i).take 7:=by rw [← he];exact dropmin _ _ _
  have e1:i≤e:=by omega
  have e2:e≤o.rld.length:=by omega
  have e1':(i:Int)≤(e:Nat):=by omega
  have e2':((e:Nat):Int)≤o.rld.length:=by omega
  obtain ⟨G,hG⟩:∃ G,(o.rld.drop i).take 7=G:=⟨_,rfl⟩
  have hGl:G.length≤7:=by rw [← hG,List.length_take];omega
  have hGm:∀ x∈G,ROk x:=fun x hx=>hk.rs x (by rw [← hG] at hx;exact List.mem_of_mem_drop (List.mem_of_mem_take hx))
  rw [hG] at hdt hgo
  refine yt9 [0,1,2,4,8] (by simp [c];rfl) ?_
  refine yp9 rfl (fun h=>?_) (fun h=>by simp [c] at h)
  refine yk9 ?_
  refine yl9 ?_
  refine ys9 ?_
  refine W_rK [0,1,2,4,24] ?_
  refine yq9 6 (by simp [wi];rfl) rfl ?_
  refine yq9 4 (by simp [wi,hmin];rfl) rfl ?_
  refine yq9 1 (by simp [e1,e2,e1',e2'];rfl) rfl ?_
  rw [← yh3,← yj3,hdt]
  refine jj6 (by simp) ?_
  unfold yw7
  dsimp only
  refine ⟨4,176,_,_,_,_,[.v (.int .i64 (i:Nat)),.lst .any 5 (rdL G)],by simp,rfl,by simp,by simp,by simp,by simp,?_⟩
  refine (show Wt _ _ _ _ _ _ from ?_)
  refine zq9 [1,4,17] (by simp [setF];rfl) ?_
  refine ⟨rfl,_,_,_,_,_,rfl,?_⟩
  refine vp4 (by simp) o o.rld G hGl hGm acc (by omega)  fun X Y=>?_
  refine ⟨176,_,_,_,_,.ready,true,5,rfl,rfl,by simp,by simp,?_,?_⟩
  ·simp [yc9,yv9,AObj.under,AV.under,AV.underL,zp9]
  refine ⟨_,by simp;rfl,?_⟩
  refine yw9 (by simp;rfl) ?_
  refine yp9 rfl (fun h=>by simp at h) (fun h=>?_)
  refine yk9 ?_
  refine zq9 [0,1,2,4] (by simp [wi];rfl) ?_
  refine ⟨_,by omega,i+7,f,acc++[zm8 G],rfl,by omega,by omega,by simpa using hgo,by simp;omega,by simp⟩
 rw [qw6 _ _ (by omega),List.append_nil] at hgo
 subst hgo
 refine yt9 [0,1,2,4,8] (by simp [c];rfl) ?_
 refine yp9 rfl (fun h=>by simp [c] at h) (fun h=>?_)
 refine zj9 ?_
 refine ⟨.inl rfl,.tup [],.tup [],_,5,rfl,.inl ⟨rfl,rfl⟩,by simp,by simp,rfl,?_,?_⟩
 ·simp [yc9,yv9,AObj.under,AV.under,AV.underL,zp9]
 ·exact ⟨by omega,by simp⟩
theorem zs7 (c l:List UInt8) (a:Nat) (h:a+l.length≤c.length) (j:Nat):(putM c a l)[j]?=if a≤j∧j < a+l.length then l[j - a]? else c[j]?:=by
 have hl:(c.take a++l).length=a+l.length:=by rw [List.length_append,List.length_take];omega
 have ht:(c.take a).length=a:=by rw [List.length_take];omega
 unfold putM
 by_cases h1:j < a+l.length
 ·rw [List.getElem?_append_left (by omega)]
  by_cases h2:a≤j
  ·rw [if_pos ⟨h2,h1⟩,List.getElem?_append_right (by omega),ht]
  ·rw [if_neg (by omega),List.getElem?_append_left (by omega),List.getElem?_take,if_pos (by omega)]
 ·rw [if_neg (by omega),List.getElem?_append_right (by omega),hl,List.getElem?_drop]
  congr 1
  omega
theorem vk9 (c l:List UInt8) (a:Nat) (h:a+l.length≤c.length):(putM c a l).length=c.length:=by
 unfold putM
 simp
 omega
def sbM (b:List UInt8) (a n:Nat):List UInt8:=(b.drop a).take n
def nmM (l:List UInt8):List UInt8:=decM (uk8 l)
def rdE (x:List UInt8) (nx:Int):Esd :=
 if x.getD 8 0=0 then ⟨nmM (x.take 8),1,nx,valM (sbM x 9 3),valM (sbM x 13 3)⟩
 else if x.getD 8 0=1 then ⟨nmM (x.take 8),2,valM (sbM x 13 3),valM (sbM x 9 3),0⟩
 else ⟨nmM (x.take 8),3,nx,0,0⟩
def rdEs (b : List UInt8) (base : List Esd) (nx : Int) : Nat → List Esd × Int
 | 0=>(base,nx)
 | k+1=>((rdEs b base nx k).1++[rdE (b.drop (16+16 * k)) (rdEs b base nx k).2],nx1 (rdEs b base nx k).2 (rdE (b.drop (16+16 * k)) (rdEs b base nx k).2))
def rdR8 (x:List UInt8):Rld:=⟨valM (sbM x 2 2),valM (x.take 2),valM (sbM x 5 3),((x.getD 4 0).toNat / 4+1:Nat),decide ((x.getD 4 0).toNat / 2 % 2=1)⟩
def rdRs (b:List UInt8) (n:Nat):List Rld:=(List.range n).map fun i=>rdR8 (b.drop (16+8 * i))
def cntE (p:Bool) (v:Nat):Nat:=if p=true then min 3 (v / 16) else min 3 ((v+15) / 16)
def cntR (p:Bool) (v:Nat):Nat:=if p=true then min 7 (v / 8) else min 7 ((v+7) / 8)
def wk7 (p:Bool) (s:OMod × Int) (b:List UInt8):Option (OMod × Int) :=
 if decM (sbM b 1 3)=vd9 then some (⟨(rdEs b s.1.esd s.2 (cntE p (valM (sbM b 10 2)))).1,s.1.txt,s.1.rld,s.1.entry⟩,(rdEs b s.1.esd s.2 (cntE p (valM (sbM b 10 2)))).2)
 else if decM (sbM b 1 3)=qh9 then
  (if p=false∧56 < valM (sbM b 10 2) then none else some (⟨s.1.esd,s.1.txt++[⟨valM (sbM b 14 2),valM (sbM b 5 3),sbM b 16 (min (valM (sbM b 10 2)) 56)⟩],s.1.rld,s.1.entry⟩,s.2))
 else if decM (sbM b 1 3)=qr9 then some (⟨s.1.esd,s.1.txt,s.1.rld++rdRs b (cntR p (valM (sbM b 10 2))),s.1.entry⟩,s.2)
 else if decM (sbM b 1 3)=vw9 then some (⟨s.1.esd,s.1.txt,s.1.rld,nmM (sbM b 16 8)⟩,s.2)
 else some s
def goD (p : Bool) : List (List UInt8) → OMod × Int → Option (OMod × Int)
 | [],s=>some s
 | b :: r,s=>if b.length=80 then (match wk7 p s b with | none=>none | some s'=>goD p r s') else none
def om0:OMod:=⟨[],[],[],[]⟩
def dcD (p:Bool) (L:List (List UInt8)):OMod × Bool:=match goD p L (om0,1) with
 | none=>(om0,false)
 | some s=>if chkM s.1=true∧encO s.1=L then (s.1,true) else (om0,false)
theorem qp9 : ∀ (n v : Nat), v < 256 ^ n → valM (numM n v) = v
 | 0,v,h=>by
  have:v=0:=by simpa using h
  subst this
  rfl
 | n+1,v,h=>by
  rw [Nat.pow_succ] at h
  rw [numM,yd7,qp9 n (v / 256) (by omega)]
  have:(UInt8.ofNat (v % 256)).toNat=v % 256:=by rw [UInt8.toNat_ofNat'];omega
  rw [this]
  omega
theorem vh7 (b:List UInt8) (a n j:Nat):(sbM b a n)[j]?=if j < n then b[a+j]? else none:=by
 unfold sbM
 rw [List.getElem?_take]
 split
 ·rw [List.getElem?_drop]
 ·rfl
theorem sb_in (c l:List UInt8) (a b n:Nat) (h:a+l.length≤c.length) (h1:a≤b) (h2:b+n≤a+l.length):sbM (putM c a l) b n=sbM l (b - a) n:=by
 apply List.ext_getElem?
 intro j
 rw [vh7,vh7]
 split
 ·rw [zs7 _ _ _ h,if_pos ⟨by omega,by omega⟩]
  congr 1
  omega
 ·rfl
theorem wg8 (c l:List UInt8) (a b n:Nat) (h:a+l.length≤c.length) (h1:b+n≤a∨a+l.length≤b):sbM (putM c a l) b n=sbM c b n:=by
 apply List.ext_getElem?
 intro j
 rw [vh7,vh7]
 split
 ·rw [zs7 _ _ _ h,if_neg (by omega)]
 ·rfl
theorem js6 (l:List UInt8) (n:Nat) (h:l.length=n):sbM l 0 n=l:=by
 unfold sbM
 rw [List.drop_zero,List.take_of_length_le (by omega)]
theorem zh6 (c l:List UInt8) (a n:Nat) (h:a+l.length≤c.length) (hn:l.length=n):sbM (putM c a l) a n=l:=by
 rw [sb_in _ _ _ _ _ h (by omega) (by omega),Nat.sub_self,js6 _ _ hn]
theorem yq4 (b:List UInt8) (a n i k:Nat) (h:i+k≤n):sbM (sbM b a n) i k=sbM b (a+i) k:=by
 apply List.ext_getElem?
 intro j
 rw [vh7,vh7,vh7]
 split
 ·rw [if_pos (by omega)]
  congr 1
  omega
 ·rfl
theorem wr8 (b:List UInt8) (a i k:Nat):sbM (b.drop a) i k=sbM b (a+i) k:=by
 unfold sbM
 rw [List.drop_drop]
theorem ul8 (b:List UInt8) (k:Nat):b.take k=sbM b 0 k:=rfl
theorem uf5 (b:List UInt8) (a n i:Nat) (h:i < n):(sbM b a n).getD i 0=b.getD (a+i) 0:=by
 rw [List.getD_eq_getElem?_getD,List.getD_eq_getElem?_getD,vh7,if_pos h]
theorem zb7 (b:List UInt8) (a i:Nat):(b.drop a).getD i 0=b.getD (a+i) 0:=by
 rw [List.getD_eq_getElem?_getD,List.getD_eq_getElem?_getD,List.getElem?_drop]
theorem rdE_sb (b:List UInt8) (a:Nat) (nx:Int):rdE (b.drop a) nx=rdE (sbM b a 16) nx:=by
 unfold rdE
 rw [ul8,ul8,wr8,wr8,wr8,zb7,yq4 _ _ _ _ _ (by omega),yq4 _ _ _ _ _ (by omega),yq4 _ _ _ _ _ (by omega),uf5 _ _ _ _ (by omega)]
theorem rdR8_sb (b:List UInt8) (a:Nat):rdR8 (b.drop a)=rdR8 (sbM b a 8):=by
 unfold rdR8
 rw [ul8,ul8,wr8,wr8,wr8,zb7,yq4 _ _ _ _ _ (by omega),yq4 _ _ _ _ _ (by omega),yq4 _ _ _ _ _ (by omega),uf5 _ _ _ _ (by omega)]
theorem us6 (b:UInt8) (h:okB b=true):(cdM b).2=true∧(cdM b).1≠64∧dec1 (cdM b).1=b:=by
 have:∀ n:Nat,n < 256→okB (UInt8.ofNat n)=true→(cdM (UInt8.ofNat n)).2=true∧(cdM (UInt8.ofNat n)).1≠64∧dec1 (cdM (UInt8.ofNat n)).1=UInt8.ofNat n:=by decide +kernel
 have hh:=this b.toNat b.toNat_lt
 rw [UInt8.ofNat_toNat] at hh
 exact hh h
theorem up8 {s:List UInt8} (h:s.all okB=true):zm9 s=enc1 s:=by
 unfold zm9 encM
 rw [if_pos]
 unfold vt7
 rw [List.all_eq_true] at h ⊢
 exact fun b hb=>(us6 b (h b hb)).1
theorem wt4 (c:List UInt8) (k:Nat) (h:∀ b∈c,b≠64):uk8 (c++List.replicate k 64)=c:=by
 unfold uk8
 rw [List.reverse_append,List.reverse_replicate]
 have h1:∀ (k:Nat) (r:List UInt8),(List.replicate k (64:UInt8)++r).dropWhile (· == 64)=r.dropWhile (· == 64):=by
  intro k r
  induction k with
  | zero=>simp
  | succ k ih=>rw [List.replicate_succ,List.cons_append,List.dropWhile_cons];simp
 rw [h1]
 have h2:c.reverse.dropWhile (· == 64)=c.reverse:=by
  cases e:c.reverse with
  | nil=>rfl
  | cons x r =>
   have hx:x∈c:=by rw [← List.mem_reverse,e];simp
   rw [List.dropWhile_cons,if_neg (by simpa using h x hx)]
 rw [h2,List.reverse_reverse]
theorem uw4 {s:List UInt8} (h:s.all okB=true) (k:Nat):nmM (zm9 s++List.replicate k 64)=s:=by
 have h0:=List.all_eq_true.1 h
 rw [nmM,up8 h,wt4]
 ·unfold decM enc1
  rw [List.map_map]
  conv=>rhs;rw [← List.map_id s]
  apply List.map_congr_left
  intro b hb
  exact (us6 b (h0 b hb)).2.2
 ·intro b hb
  obtain ⟨a,ha,rfl⟩:=List.mem_map.1 hb
  exact (us6 a (h0 a ha)).2.1
theorem kk8 (s:List UInt8):(enc1 s).length=s.length:=by simp [enc1]
theorem vd5 {s:List UInt8} (h:s.all okB=true) (hl:s.length≤8):nmM (sbM (putM (xr9 16) 0 (zm9 s)) 0 8)=s:=by
 have hc:(zm9 s).length=s.length:=by rw [up8 h,kk8]
 have e:sbM (putM (xr9 16) 0 (zm9 s)) 0 8=zm9 s++List.replicate (8 - s.length) 64:=by
  unfold sbM putM xr9
  rw [List.take_zero,List.nil_append,List.drop_zero,Nat.zero_add,List.drop_replicate,List.take_append,hc,List.take_of_length_le (by omega),List.take_replicate]
  congr 2
  omega
 rw [e,uw4 h]
theorem kg7 (s:List UInt8) (h:(zm9 s).length≤8):(putM (xr9 16) 0 (zm9 s)).length=16:=by rw [vk9 _ _ _ (by simp;omega)];simp
theorem jv4 (c:List UInt8) (i:Nat) (b:UInt8) (h:i < c.length):c.set i b=putM c i [b]:=by
 rw [putM,List.set_eq_take_append_cons_drop,if_pos h]
 simp
theorem yk3 {x:Esd} {nx:Int} (hr:vs9 nx x=true) (ha:x.addr≤1000000) (hi:0≤x.id∧x.id≤1000000) (ha0:0≤x.addr):rdE (qc9 x) nx=x:=by
 obtain ⟨name,kind,id,addr,len⟩:=x
 simp only at ha hi ha0
 have h256:(256:Nat) ^ 3=16777216:=by decide
 have key:∀ (c:List UInt8),c.length=16→∀ (t:UInt8),(c.set 8 t).length=16∧sbM (c.set 8 t) 0 8=sbM c 0 8∧(c.set 8 t).getD 8 0=t:=by
  intro c hc t
  rw [jv4 c 8 t (by omega)]
  refine ⟨by rw [vk9 _ _ _ (by simp;omega)];exact hc,wg8 _ _ _ _ _ (by simp;omega) (.inl (by omega)),?_⟩
  rw [List.getD_eq_getElem?_getD,zs7 _ _ _ (by simp;omega),if_pos (by simp)]
  rfl
 have two : ∀ (c : List UInt8) (u v : Nat), c.length = 16 → u < 16777216 → v < 16777216 → sbM (putM (putM c 9 (numM 3 u)) 13 (numM 3 v)) 0 8 = sbM c 0 8 ∧ (putM (putM c 9 (numM 3 u)) 13 (numM 3 v)).getD 8 0 = c.getD 8 0 ∧
   valM (sbM (putM (putM c 9 (numM 3 u)) 13 (numM 3 v)) 9 3)=u∧valM (sbM (putM (putM c 9 (numM 3 u)) 13 (numM 3 v)) 13 3)=v:=by
  intro c u v hc hu hv
  have l1:(putM c 9 (numM 3 u)).length=16:=by rw [vk9 _ _ _ (by simp;omega)];exact hc
  have b1:9+(numM 3 u).length≤c.length:=by simp;omega
  have b2:13+(numM 3 v).length≤(putM c 9 (numM 3 u)).length:=by simp;omega
  refine ⟨?_,?_,?_,?_⟩
  ·rw [wg8 _ _ _ _ _ b2 (.inl (by omega)),wg8 _ _ _ _ _ b1 (.inl (by omega))]
  ·rw [List.getD_eq_getElem?_getD,List.getD_eq_getElem?_getD,zs7 _ _ _ b2,if_neg (by omega),zs7 _ _ _ b1,if_neg (by omega)]
  ·rw [wg8 _ _ _ _ _ b2 (.inl (by omega)),zh6 _ _ _ _ b1 (by simp),qp9 _ _ (by omega)]
  ·rw [zh6 _ _ _ _ b2 (by simp),qp9 _ _ (by omega)]
 have nameOk:∀ s:List UInt8,(s=[]∨symM s=true)→s.all okB=true∧s.length≤8:=by
  rintro s (rfl | h)
  ·exact ⟨rfl,by simp⟩
  ·simp only [symM,Bool.and_eq_true,decide_eq_true_eq] at h
   exact ⟨h.2.2.2,h.2.1⟩
 unfold vs9 at hr
 simp only at hr
 split at hr
 ·rename_i hk
  subst hk
  simp only [rule1,Bool.and_eq_true,Bool.or_eq_true,decide_eq_true_eq] at hr
  obtain ⟨a1,a2,a3,a4,a5,a6⟩:=hr
  obtain ⟨n1,n2⟩:=nameOk _ a6
  have l0:=kg7 name (by rw [up8 n1,kk8];exact n2)
  obtain ⟨k1,k2,k3⟩:=key _ l0 0
  obtain ⟨t1,t2,t3,t4⟩:=two _ addr.toNat len.toNat k1 (by omega) (by omega)
  unfold rdE qc9
  simp only [if_pos]
  rw [ul8,t1,t2,t3,t4,k2,k3,if_pos rfl,vd5 n1 n2]
  congr 1 <;> omega
 ·split at hr
  ·rename_i hk1 hk
   subst hk
   simp only [rule2,Bool.and_eq_true,decide_eq_true_eq] at hr
   obtain ⟨a1,a2⟩:=hr
   obtain ⟨n1,n2⟩:=nameOk _ (.inr a2)
   have l0:=kg7 name (by rw [up8 n1,kk8];exact n2)
   obtain ⟨k1,k2,k3⟩:=key _ l0 1
   obtain ⟨t1,t2,t3,t4⟩:=two _ addr.toNat id.toNat k1 (by omega) (by omega)
   unfold rdE qc9
   have e21:((2:Int)=1)=False:=by simp
   simp only [e21,if_false,if_true]
   rw [ul8,t1,t2,t3,t4,k2,k3,if_neg (by decide),if_pos rfl,vd5 n1 n2]
   congr 1 <;> omega
  ·split at hr
   ·rename_i hk1 hk2 hk
    subst hk
    simp only [rule3,Bool.and_eq_true,decide_eq_true_eq] at hr
    obtain ⟨a1,a2,a3,a4⟩:=hr
    obtain ⟨n1,n2⟩:=nameOk _ (.inr a4)
    have l0:=kg7 name (by rw [up8 n1,kk8];exact n2)
    obtain ⟨k1,k2,k3⟩:=key _ l0 2
    unfold rdE qc9
    have e31:((3:Int)=1)=False:=by simp
    have e32:((3:Int)=2)=False:=by simp
    simp only [e31,e32,if_false]
    rw [ul8,k2,k3,if_neg (by decide),if_neg (by decide),vd5 n1 n2]
    congr 1 <;> omega
   ·cases hr
end Go.AM
