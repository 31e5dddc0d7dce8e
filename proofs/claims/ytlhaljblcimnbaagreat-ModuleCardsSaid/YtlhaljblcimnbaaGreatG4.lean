/- Parts of the walk: Z31S Z31T Z31U Z31V Z31W Z31X. -/
import Derived.Test.YtlhaljblcimnbaaGreatG3
namespace Go.AM
open Go.RowKit Go.Proofs
set_option linter.unusedSimpArgs false
set_option linter.unusedVariables false
set_option maxHeartbeats 8000000
def uw8 : Code → List (Code × Code)
 | .rangeFunc _ _ a b=>[(a,b)]
 | .seq x y=>uw8 x++uw8 y
 | .cond _ x y=>uw8 x++uw8 y
 | .block _ x=>uw8 x
 | .loop x=>uw8 x
 | .scope x=>uw8 x
 | _=>[]
def rfAn (f:Func) (k:Nat):Code:=(((f.body.map uw8).getD [])[k]?.getD (.skip,.skip)).1
def rfBn (f:Func) (k:Nat):Code:=(((f.body.map uw8).getD [])[k]?.getD (.skip,.skip)).2
theorem kp9 (m : Nat) : ∀ (a b : List AObj), yc9 m (a ++ b) = (yc9 m a && yc9 m b)
 | [],b=>rfl
 | o :: a,b=>by simp only [List.cons_append,yc9,kp9 m a b,Bool.and_assoc]
theorem numZ (z:Int) (n:Nat) (h0:0≤z) (h1:z≤9223372036854775807) (hn:n≤100):Sound Tryz.prog 49 [.v (.int .i64 z),.v (.int .i64 n)] (.lst .any 1 (byL (numM n z.toNat))):=by
 have h:=qs9 z.toNat n (by omega) hn
 rwa [show ((z.toNat:Nat):Int)=z by omega] at h
theorem uw5 (t:List UInt8) (n:Nat) (h:List AObj) (hh:yc9 (h.length+2) h=true):wf9 Tryz.prog 57 [.lst .any 1 (byL t),.v (.int .i64 n)] h fun r h'=>r=.fn (.func 80) [] [.loc h.length 0,.loc (h.length+1) 0]∧h'=h++[.cells 23 [.lst .any 1 (byL t)],.cells 3 [.v (.int .i64 n)]]:=by
 refine zv9 Tryz.func57 rfl (by decide +kernel) (by simp [Tryz.f57]) (rs:=[.tmp 4]) rfl ?_
 rw [show Tryz.f57.ntmps=6 from rfl]
 refine yt9 [2,3] (by simp;rfl) ?_
 refine yt9 [4] (by simp;rfl) ?_
 refine yn9 ?_
 repeat (first | refine yg9 ?_ | refine yh9 ?_)
 refine ⟨.inr rfl,.fn (.func 80) [] [.loc h.length 0,.loc (h.length+1) 0],.fn (.func 80) [] [.loc h.length 0,.loc (h.length+1) 0],h++[.cells 23 [.lst .any 1 (byL t)],.cells 3 [.v (.int .i64 n)]],h.length+2,by simp,.inl ⟨rfl,by simp⟩,by omega,by simp,by simp [AV.under,AV.underL],?_,rfl,?_⟩
 ·rw [List.take_of_length_le (by simp),kp9,hh]
  simp [yc9,AObj.under,AV.under,AV.underL]
 ·rw [List.take_of_length_le (by simp)]
theorem uq5 (t:List Rlo) (n:Nat) (h:List AObj) (hh:yc9 (h.length+2) h=true):wf9 Tryz.prog 58 [.lst .any 3 (rlL t),.v (.int .i64 n)] h fun r h'=>r=.fn (.func 81) [] [.loc h.length 0,.loc (h.length+1) 0]∧h'=h++[.cells 74 [.lst .any 3 (rlL t)],.cells 3 [.v (.int .i64 n)]]:=by
 refine zv9 Tryz.func58 rfl (by decide +kernel) (by simp [Tryz.f58]) (rs:=[.tmp 4]) rfl ?_
 rw [show Tryz.f58.ntmps=6 from rfl]
 refine yt9 [2,3] (by simp;rfl) ?_
 refine yt9 [4] (by simp;rfl) ?_
 refine yn9 ?_
 repeat (first | refine yg9 ?_ | refine yh9 ?_)
 have hu:AV.underL (h.length+2) (rlL t)=true:=by induction t <;> simp_all [rlL,AV.underL,AV.under]
 refine ⟨.inr rfl,.fn (.func 81) [] [.loc h.length 0,.loc (h.length+1) 0],.fn (.func 81) [] [.loc h.length 0,.loc (h.length+1) 0],h++[.cells 74 [.lst .any 3 (rlL t)],.cells 3 [.v (.int .i64 n)]],h.length+2,by simp,.inl ⟨rfl,by simp⟩,by omega,by simp,by simp [AV.under,AV.underL],?_,rfl,?_⟩
 ·rw [List.take_of_length_le (by simp),kp9,hh]
  simp [yc9,AObj.under,AV.under,AV.underL,hu]
 ·rw [List.take_of_length_le (by simp)]
theorem yd3 (l:List Rlo) (n:Nat):rlL (l.take n)=(rlL l).take n:=by simp [rlL]
theorem yf3 (l:List Rlo) (n:Nat):rlL (l.drop n)=(rlL l).drop n:=by simp [rlL]
theorem yn3 (v:Nat):numM 1 v=[UInt8.ofNat v]:=by
 simp only [numM,List.nil_append]
 congr 1
 apply UInt8.toNat.inj
 simp
theorem or128 {v:Nat} (h1:1≤v) (h2:v≤4):v ||| 128=v+128:=by
 obtain rfl | rfl | rfl | rfl:v=1∨v=2∨v=3∨v=4:=by omega
 all_goals rfl
def OC (fl:Fl):Prop:=fl=.tip 23 218∨fl=.tip 23 137∨fl=.tip 23 199
def encR (m:LMod):AV:=if ckM m=true then .tup [.lst .any 1 (bbL (encL m)),.v (.int .i64 0)] else .tup [.lst .nil 1 [],.v (.int .i64 310)]
theorem zf4 (m:LMod) (hl:m.seg.length≤100000) (ht:m.text.length≤50000000) (hrn:m.rel.length≤1000000000):Sound Tryz.prog 27 [lmA m] (encR m):=by
 refine vm9 Tryz.func27 rfl (by decide +kernel) (by simp [Tryz.f27]) rfl rfl (rs:=[.tmp 2,.tmp 3]) rfl ?_
 rw [show Tryz.f27.ntmps=114 from rfl]
 refine yt9 [1] (by simp;rfl) ?_
 refine yl9 ?_
 refine W_rK [1,18] ?_
 refine yq9 1 (by simp;rfl) rfl ?_
 refine yd9 (by simp) (by first | (simp;done) | (simp;rfl)) (qj8 m hl (by omega) hrn) (by simp;rfl) ?_
 by_cases hck:ckM m=true
 rotate_left
 ·refine yw9 (by simp [hck];rfl) ?_
  refine yp9 rfl (fun h=>?_) (fun h=>by simp at h)
  refine yt9 [2,3] (by simp;rfl) ?_
  refine yn9 ?_
  repeat (first | refine yg9 ?_ | refine yh9 ?_)
  refine ⟨_,by simp [retQ];exact ⟨rfl,by simp [AV.rf,AV.rfL]⟩,.inl fun T=>?_⟩
  simp [encR,hck]
 have hk:=ckM_ok hck (by omega)
 obtain ⟨he0,he1,hsg,hrl,hls,hlt,hlr⟩:=hk
 refine yw9 (by simp [hck];rfl) ?_
 refine yp9 rfl (fun h=>by simp at h) (fun h=>?_)
 refine yk9 ?_
 refine jh9 [1,4] mx (by decide +kernel) ?_
 refine yr9 3 (by simp [lmC];rfl) rfl ?_
 refine zw9 (by simp) (by first | (simp;done) | (simp;rfl)) (numZ m.entry 4 he0 (by omega) (by omega)) (by simp;rfl) ?_
 refine yr9 3 (by simp [lmC];rfl) rfl ?_
 refine zw9 (by simp) (by first | (simp;done) | (simp;rfl)) (qs9 m.seg.length 2 (by omega) (by omega)) (by simp;rfl) ?_
 refine yr9 1 (by simp [lmC];rfl) rfl ?_
 have hc1:Sound Tryz.prog 54 [.lst .any 1 [.lst .any 1 [.v (.int .u8 1)],.lst .any 1 (byL (numM 4 m.entry.toNat)),.lst .any 1 (byL (numM 2 m.seg.length))]] (.lst .any 1 (byL (yv5 m))):=by
  have h:=kf9 [[1],numM 4 m.entry.toNat,numM 2 m.seg.length] (by simp [total]) (by simp)
  simpa [bbL,vp9,yv5,wc9] using h
 refine zw9 (by simp) (by first | (simp;done) | (simp;rfl)) hc1 (by simp;rfl) ?_
 refine ym9 (by simp;rfl) ?_
 refine ws9 (fun σ=>σ=⟨114,[(1,.loc 0 0),(4,.lst .any 1 (byL (yv5 m++m.seg.flatMap segR)))],[.cells 76 (lmC m)]⟩) ?_ ?_
 ·refine yt9 [1, 4, 30, 31, 32] (by simp [lmC]; rfl) ?_
  refine ys9 ?_
  refine zl9 (fun k σ=>∃ i:Nat,k=m.seg.length - i∧i≤m.seg.length∧σ=⟨114,[(1,.loc 0 0),(4,.lst .any 1 (byL (yv5 m++(m.seg.take i).flatMap segR))),(30,.lst .any 4 (sgL m.seg)),(31,.v (.int .i64 (m.seg.length:Nat))),(32,.v (.int .i64 (i:Nat)))],[.cells 76 (lmC m)]⟩) (k:=m.seg.length) ⟨0,rfl,by omega,by simp [lmC]⟩ ?_
  rintro k σ ⟨i,rfl,hi,rfl⟩
  by_cases c:i < m.seg.length
  ·have ci : (i : Int) < m.seg.length := by omega
   obtain ⟨s,hs⟩:∃ s,m.seg[i]?=some s:=⟨_,List.getElem?_eq_getElem c⟩
   have hs2:m.seg[i]'c=s:=by rw [List.getElem?_eq_getElem c] at hs;exact Option.some.inj hs
   obtain ⟨b1,b2,b3,b4,b5,b6,b7,b8⟩:=hsg s (List.mem_of_getElem? hs)
   have wi:=w64 (n:=(i:Int)+1) (by omega) (by omega)
   have wp:=w64 (n:=s.par+1) (by omega) (by omega)
   have htk:(m.seg.take (i+1)).flatMap segR=(m.seg.take i).flatMap segR++segR s:=by rw [List.take_add_one,hs];simp
   obtain ⟨hd,hhd⟩:∃ hd,yv5 m++(m.seg.take i).flatMap segR=hd:=⟨_,rfl⟩
   have hhl:hd.length≤1000:=by
    rw [← hhd,List.length_append,jn4,List.length_take]
    simp [yv5]
    omega
   have hc2:Sound Tryz.prog 54 [.lst .any 1 [.lst .any 1 (byL hd),.lst .any 1 (byL (numM 2 (s.par+1).toNat)),.lst .any 1 (byL (numM 4 s.org.toNat)),.lst .any 1 (byL (numM 4 s.frm.toNat)),.lst .any 1 (byL (numM 4 s.len.toNat))]] (.lst .any 1 (byL (hd++segR s))):=by
    have h:=kf9 [hd,numM 2 (s.par+1).toNat,numM 4 s.org.toNat,numM 4 s.frm.toNat,numM 4 s.len.toNat] (by simp [total];omega) (by simp)
    simpa [bbL,segR] using h
   refine yt9 [1,4,30,31,32,33] (by simp [c];rfl) ?_
   refine yl9 ?_
   refine yp9 rfl (fun h=>?_) (fun h=>by simp at h)
   refine yk9 ?_
   refine yl9 ?_
   refine ys9 ?_
   rw [hhd]
   refine yt9 [1,4,30,31,32,6] (by simp [c,ci,hs2,lmC,yf9,AV.weakL,AV.weak,AV.koneL,AV.kone];rfl) ?_
   refine qt9 [1,4,30,31,32] mx (by decide +kernel) ?_
   refine yr9 4 (by simp [wp];rfl) rfl ?_
   refine zw9 (by simp) (by first | (simp;done) | (simp;rfl)) (numZ (s.par+1) 2 (by omega) (by omega) (by omega)) (by simp;rfl) ?_
   refine yr9 2 (by simp;rfl) rfl ?_
   refine zw9 (by simp) (by first | (simp;done) | (simp;rfl)) (numZ s.org 4 (by omega) (by omega) (by omega)) (by simp;rfl) ?_
   refine yr9 2 (by simp;rfl) rfl ?_
   refine zw9 (by simp) (by first | (simp;done) | (simp;rfl)) (numZ s.frm 4 (by omega) (by omega) (by omega)) (by simp;rfl) ?_
   refine yr9 2 (by simp;rfl) rfl ?_
   refine zw9 (by simp) (by first | (simp;done) | (simp;rfl)) (numZ s.len 4 (by omega) (by omega) (by omega)) (by simp;rfl) ?_
   refine yr9 1 (by simp;rfl) rfl ?_
   refine zw9 (by simp) (by first | (simp;done) | (simp;rfl)) hc2 (by simp;rfl) ?_
   refine ym9 (by simp;rfl) ?_
   refine xp9 1 (Nat.zero_le _) (by simp) (by simp [yv9,AV.under,AV.underL]) (by simp [yc9,AObj.under,lmC,AV.under,AV.underL]) ?_
   refine zq9 [1,4,30,31,32] (by simp [wi];rfl) ?_
   refine ⟨_,by omega,i+1,rfl,by omega,?_⟩
   rw [htk,← List.append_assoc,hhd]
   simp [lmC]
  have hie:i=m.seg.length:=by omega
  refine yt9 [1,4,30,31,32,33] (by simp [c];rfl) ?_
  refine yl9 ?_
  refine yp9 rfl (fun h=>by simp at h) (fun h=>?_)
  refine zs9 [1,4] ?_
  refine zj9 ?_
  simp [yj9,hie,lmC]
 rintro _ rfl
 obtain ⟨H0,hH0⟩:∃ H0,yv5 m++m.seg.flatMap segR=H0:=⟨_,rfl⟩
 rw [hH0]
 refine yt9 [1,7] (by simp [yf9,AV.weakL,AV.weak,AV.koneL,AV.kone];rfl) ?_
 refine yl9 ?_
 refine W_rK [1,7,57] ?_
 refine yq9 2 (by simp [lmC];rfl) rfl ?_
 refine zr9 (f:=57) (args:=[.lst .any 1 (byL m.text),.v (.int .i64 (1000:Nat))]) (by simp) (by simp [yb9,zt9]) ((uw5 m.text 1000 _ ?_).mono ?_)
 ·simp [yc9,AObj.under,AV.under,AV.underL,lmC]
 rintro r h' ⟨rfl,rfl⟩
 refine ⟨_,by simp;rfl,?_⟩
 refine yw9 (by simp;rfl) ?_
 refine ys9 ?_
 obtain ⟨R1,hR1⟩:∃ R1,[H0]++wt5 m.text m.text.length 0=R1:=⟨_,rfl⟩
 refine jj9 (Qc:=fun _ h'=>∃ fl,OC fl∧R1.length≤2+m.text.length∧h'=[.cells 76 (lmC m),.cells 22 [.lst fl 1 (bbL R1)],.cells 23 [.lst .any 1 (byL m.text)],.cells 3 [.v (.int .i64 1000)],.loop 114 [(1,.loc 0 0),(7,.loc 1 0),(57,.fn (.func 80) [] [.loc 2 0,.loc 3 0])] [58,59] (rfAn Tryz.f27 0) (rfBn Tryz.f27 0) .ready]) rfl ?_ ?_
 ·refine zv9 Tryz.func80 rfl (by decide +kernel) (by simp [Tryz.f80]) (rs := []) rfl ?_
  rw [show Tryz.f80.ntmps=25 from rfl]
  refine yt9 [0,1,2,4] (by simp;rfl) ?_
  refine ys9 ?_
  refine zl9 (fun k σ=>∃ (i f:Nat) (acc:List (List UInt8)) (fl:Fl),k=m.text.length - i∧m.text.length≤i+f∧i≤m.text.length+1000∧acc++wt5 m.text f i=R1∧acc.length≤1+i∧(i≤m.text.length∨acc.length≤2+m.text.length)∧OC fl∧σ=⟨25,[(0,.yld 4),(1,.loc 2 0),(2,.loc 3 0),(4,.v (.int .i64 (i:Nat)))],[.cells 76 (lmC m),.cells 22 [.lst fl 1 (bbL acc)],.cells 23 [.lst .any 1 (byL m.text)],.cells 3 [.v (.int .i64 1000)],.loop 114 [(1,.loc 0 0),(7,.loc 1 0),(57,.fn (.func 80) [] [.loc 2 0,.loc 3 0])] [58,59] (rfAn Tryz.f27 0) (rfBn Tryz.f27 0) .ready]⟩) (k:=m.text.length) ⟨0,m.text.length,[H0],.tip 23 218,rfl,by omega,by omega,hR1,by simp,by omega,.inl rfl,?_⟩ ?_
  ·simp [AV.weak,lmC,bbL]
   first | exact ⟨rfl,rfl⟩ | exact rfl | (refine ⟨rfl,rfl,?_⟩;rfl)
  rintro k σ ⟨i,f,acc,fl,rfl,hf,hi,hgo,hal,har,hfl,rfl⟩
  refine yl9 ?_
  by_cases c:i < m.text.length
  ·have ci : (i : Int) < m.text.length := by omega
   have wi:=w64 (n:=(i:Int)+1000) (by omega) (by omega)
   have qa:acc.length≤140737488355327:=by omega
   have qa2:(acc.length+1) * 24≤140737488355328:=by omega
   cases f with
   | zero=>omega
   | succ f =>
   rw [wt5,if_pos c] at hgo
   obtain ⟨e,he⟩:∃ e,min (i+1000) m.text.length=e:=⟨_,rfl⟩
   have hmin:(if (m.text.length:Int) < (i:Int)+1000 then (m.text.length:Int) else (i:Int)+1000)=(e:Nat):=by split <;> omega
   have hdt:(m.text.take e).drop i=(m.text.drop i).take 1000:=by rw [← he];exact dropmin _ _ _
   have e1:i≤e:=by omega
   have e2:e≤m.text.length:=by omega
   have e1':(i:Int)≤(e:Nat):=by omega
   have e2':((e:Nat):Int)≤m.text.length:=by omega
   obtain ⟨ck,hck2⟩:∃ ck,(m.text.drop i).take 1000=ck:=⟨_,rfl⟩
   have hckl:ck.length≤1000:=by rw [← hck2,List.length_take];omega
   rw [hck2] at hdt hgo
   have hc3:Sound Tryz.prog 54 [.lst .any 1 [.lst .any 1 [.v (.int .u8 2)],.lst .any 1 (byL (numM 4 i)),.lst .any 1 (byL ck)]] (.lst .any 1 (byL (2 :: (numM 4 i++ck)))):=by
    have h:=kf9 [[2],numM 4 i,ck] (by simp [total];omega) (by simp)
    simpa [bbL,vp9,wc9] using h
   refine W_cT [0,1,2,4,8] (by simp [c];rfl) rfl ?_
   refine yk9 ?_
   refine yl9 ?_
   refine ys9 ?_
   refine W_rK [0,1,2,4,24] ?_
   refine yq9 6 (by simp [wi];rfl) rfl ?_
   refine yq9 4 (by simp [wi,hmin];rfl) rfl ?_
   refine yq9 1 (by simp [e1,e2,e1',e2'];rfl) rfl ?_
   rw [← xf9,← wd9,hdt]
   refine jj6 (by simp) ?_
   unfold yw7
   dsimp only
   refine ⟨4,114,_,_,_,_,[.v (.int .i64 (i:Nat)),.lst .any 1 (byL ck)],by simp,rfl,by simp,by simp,by simp,by simp,?_⟩
   refine (show Wt _ _ _ _ _ _ from ?_)
   refine yt9 [1,7,59,8] (by simp [setF];rfl) ?_
   refine zq9 [1,7,8,9] (by simp;rfl) ?_
   refine ⟨rfl,_,_,_,_,_,rfl,?_⟩
   refine ys9 ?_
   have hu:bbL (acc++[2 :: (numM 4 i++ck)])=bbL acc++[.lst .any 1 (byL (2 :: (numM 4 i++ck)))]:=by simp [wv9,qq9]
   rcases hfl with rfl | rfl | rfl
   all_goals
    refine qt9 [1] mx (by decide +kernel) ?_
    refine yr9 3 (by simp;rfl) rfl ?_
    refine zw9 (by simp) (by first | (simp;done) | (simp;rfl)) (qs9 i 4 (by omega) (by omega)) (by simp;rfl) ?_
    refine yr9 2 (by simp;rfl) rfl ?_
    refine zw9 (by simp) (by first | (simp;done) | (simp;rfl)) hc3 (by simp;rfl) ?_
    refine ym9 (by simp [yf9,catK,AV.cellsK,AV.kone,AV.koneL,qa,qa2];rfl) ?_
    refine ⟨114,_,_,_,_,.ready,true,5,rfl,rfl,by simp,by simp,?_,?_⟩
    ·simp [yc9,yv9,AObj.under,AV.under,AV.underL,lmC]
    refine ⟨_,by simp;rfl,?_⟩
    refine yw9 (by simp;rfl) ?_
    refine yp9 rfl (fun h=>by simp at h) (fun h=>?_)
    refine yk9 ?_
    refine zq9 [0,1,2,4] (by simp [wi];rfl) ?_
    first
     | (refine ⟨_,by omega,i+1000,f,acc++[2 :: (numM 4 i++ck)],.tip 23 137,rfl,by omega,by omega,by simpa using hgo,by simp;omega,by simp;omega,.inr (.inl rfl),?_⟩;simp [hu,lmC];done)
     | (refine ⟨_,by omega,i+1000,f,acc++[2 :: (numM 4 i++ck)],.tip 23 199,rfl,by omega,by omega,by simpa using hgo,by simp;omega,by simp;omega,.inr (.inr rfl),?_⟩;simp [hu,lmC];done)
  rw [xn4 _ _ (by omega),List.append_nil] at hgo
  subst hgo
  refine W_cF [0,1,2,4,8] (by simp [c];rfl) rfl ?_
  refine zj9 ?_
  refine ⟨.inl rfl,.tup [],.tup [],_,5,rfl,.inl ⟨rfl,rfl⟩,by simp,by simp,rfl,?_,?_⟩
  ·simp [yc9,yv9,AObj.under,AV.under,AV.underL,lmC]
  ·exact ⟨fl,hfl,by omega,by simp⟩
 rintro _ _ ⟨fl0,hfl0,hR1l,rfl⟩
 refine ⟨114,_,_,_,_,.ready,rfl,?_⟩
 refine (show Wt true 0 Tryz.prog _ _ _ from ?_)
 refine zs9 [1,7] ?_
 refine xp9 2 (Nat.zero_le _) (by simp) (by simp [yv9,AV.under,AV.underL]) (by simp [yc9,AObj.under,lmC,AV.under,AV.underL]) ?_
 obtain ⟨R2,hR2⟩:∃ R2,R1++wm5 m.rel m.rel.length 0=R2:=⟨_,rfl⟩
 have hcall:∀ fl0,OC fl0→wf9 Tryz.prog 81 [.yld 4,.loc 2 0,.loc 3 0] [.cells 76 (lmC m),.cells 22 [.lst fl0 1 (bbL R1)],.cells 74 [.lst .any 3 (rlL m.rel)],.cells 3 [.v (.int .i64 200)],.loop 114 [(1,.loc 0 0),(7,.loc 1 0),(71,.fn (.func 81) [] [.loc 2 0,.loc 3 0])] [72,73] (rfAn Tryz.f27 1) (rfBn Tryz.f27 1) .ready] (fun _ h'=>∃ fl,OC fl∧R2.length≤1000020000∧h'=[.cells 76 (lmC m),.cells 22 [.lst fl 1 (bbL R2)],.cells 74 [.lst .any 3 (rlL m.rel)],.cells 3 [.v (.int .i64 200)],.loop 114 [(1,.loc 0 0),(7,.loc 1 0),(71,.fn (.func 81) [] [.loc 2 0,.loc 3 0])] [72,73] (rfAn Tryz.f27 1) (rfBn Tryz.f27 1) .ready]):=by
  intro fl0 hfl0
  refine zv9 Tryz.func81 rfl (by decide +kernel) (by simp [Tryz.f81]) (rs:=[]) rfl ?_
  rw [show Tryz.f81.ntmps=25 from rfl]
  refine yt9 [0,1,2,4] (by simp;rfl) ?_
  refine ys9 ?_
  refine zl9 (fun k σ=>∃ (i f:Nat) (acc:List (List UInt8)) (fl:Fl),k=m.rel.length - i∧m.rel.length≤i+f∧i≤m.rel.length+200∧acc++wm5 m.rel f i=R2∧acc.length≤R1.length+i∧OC fl∧σ=⟨25,[(0,.yld 4),(1,.loc 2 0),(2,.loc 3 0),(4,.v (.int .i64 (i:Nat)))],[.cells 76 (lmC m),.cells 22 [.lst fl 1 (bbL acc)],.cells 74 [.lst .any 3 (rlL m.rel)],.cells 3 [.v (.int .i64 200)],.loop 114 [(1,.loc 0 0),(7,.loc 1 0),(71,.fn (.func 81) [] [.loc 2 0,.loc 3 0])] [72,73] (rfAn Tryz.f27 1) (rfBn Tryz.f27 1) .ready]⟩) (k:=m.rel.length) ⟨0,m.rel.length,R1,fl0,rfl,by omega,by omega,hR2,by simp,hfl0,?_⟩ ?_
  ·simp
  rintro k σ ⟨i,f,acc,fl,rfl,hf,hi,hgo,hal,hfl,rfl⟩
  refine yl9 ?_
  by_cases c:i < m.rel.length
  ·have ci : (i : Int) < m.rel.length := by omega
   have wi:=w64 (n:=(i:Int)+200) (by omega) (by omega)
   have qa:acc.length≤140737488355327:=by omega
   have qa2:(acc.length+1) * 24≤140737488355328:=by omega
   cases f with
   | zero=>omega
   | succ f =>
   rw [wm5,if_pos c] at hgo
   obtain ⟨e,he⟩:∃ e,min (i+200) m.rel.length=e:=⟨_,rfl⟩
   have hmin:(if (m.rel.length:Int) < (i:Int)+200 then (m.rel.length:Int) else (i:Int)+200)=(e:Nat):=by split <;> omega
   have hdt:(m.rel.take e).drop i=(m.rel.drop i).take 200:=by rw [← he];exact dropmin _ _ _
   have e1:i≤e:=by omega
   have e2:e≤m.rel.length:=by omega
   have e1':(i:Int)≤(e:Nat):=by omega
   have e2':((e:Nat):Int)≤m.rel.length:=by omega
   obtain ⟨G,hG⟩:∃ G,(m.rel.drop i).take 200=G:=⟨_,rfl⟩
   have hGl:G.length≤200:=by rw [← hG,List.length_take];omega
   have hG0:0 < G.length:=by rw [← hG,List.length_take,List.length_drop];omega
   have hGm:∀ r∈G,0≤r.at_∧r.at_≤1000000000000∧1≤r.len∧r.len≤4:=fun r hr=>hrl r (by rw [← hG] at hr;exact List.mem_of_mem_drop (List.mem_of_mem_take hr))
   rw [hG] at hdt hgo
   refine W_cT [0,1,2,4,8] (by simp [c];rfl) rfl ?_
   refine yk9 ?_
   refine yl9 ?_
   refine ys9 ?_
   refine W_rK [0,1,2,4,24] ?_
   refine yq9 6 (by simp [wi];rfl) rfl ?_
   refine yq9 4 (by simp [wi,hmin];rfl) rfl ?_
   refine yq9 1 (by simp [e1,e2,e1',e2'];rfl) rfl ?_
   rw [← yd3,← yf3,hdt]
   refine jj6 (by simp) ?_
   unfold yw7
   dsimp only
   refine ⟨4,114,_,_,_,_,[.v (.int .i64 (i:Nat)),.lst .any 3 (rlL G)],by simp,rfl,by simp,by simp,by simp,by simp,?_⟩
   refine (show Wt _ _ _ _ _ _ from ?_)
   refine zq9 [1,7,11] (by simp [setF];rfl) ?_
   refine ⟨rfl,_,_,_,_,_,rfl,?_⟩
   refine ys9 ?_
   refine yt9 [1,7,11,12] (by simp;rfl) ?_
   refine ws9 (fun σ=>σ=⟨114,[(1,.loc 0 0),(7,.loc 1 0),(12,.lst .any 1 (byL (rlR G)))],[.cells 76 (lmC m),.cells 22 [.lst fl 1 (bbL acc)],.cells 74 [.lst .any 3 (rlL m.rel)],.cells 3 [.v (.int .i64 200)],.loop 114 [(1,.loc 0 0),(7,.loc 1 0),(71,.fn (.func 81) [] [.loc 2 0,.loc 3 0])] [72,73] (rfAn Tryz.f27 1) (rfBn Tryz.f27 1) .busy]⟩) ?_ ?_
   ·refine yt9 [1, 7, 12, 75, 76, 77] (by simp; rfl) ?_
    refine ys9 ?_
    refine zl9 (fun k σ=>∃ (j:Nat) (g:Fl),k=G.length - j∧j≤G.length∧((j=0∧g=.tip 5 298)∨(0 < j∧g=.any))∧σ=⟨114,[(1,.loc 0 0),(7,.loc 1 0),(12,.lst g 1 (byL (rlR (G.take j)))),(75,.lst .any 3 (rlL G)),(76,.v (.int .i64 (G.length:Nat))),(77,.v (.int .i64 (j:Nat)))],[.cells 76 (lmC m),.cells 22 [.lst fl 1 (bbL acc)],.cells 74 [.lst .any 3 (rlL m.rel)],.cells 3 [.v (.int .i64 200)],.loop 114 [(1,.loc 0 0),(7,.loc 1 0),(71,.fn (.func 81) [] [.loc 2 0,.loc 3 0])] [72,73] (rfAn Tryz.f27 1) (rfBn Tryz.f27 1) .busy]⟩) (k:=G.length) ⟨0,.tip 5 298,rfl,by omega,.inl ⟨rfl,rfl⟩,by simp [rlR,vp9]⟩ ?_
    rintro k σ ⟨j,g,rfl,hj,hg,rfl⟩
    by_cases c2:j < G.length
    ·have cj : (j : Int) < G.length := by omega
     obtain ⟨r,hr⟩:∃ r,G[j]?=some r:=⟨_,List.getElem?_eq_getElem c2⟩
     have hr2:G[j]'c2=r:=by rw [List.getElem?_eq_getElem c2] at hr;exact Option.some.inj hr
     obtain ⟨b1,b2,b3,b4⟩:=hGm r (List.mem_of_getElem? hr)
     have wj:=w64 (n:=(j:Int)+1) (by omega) (by omega)
     have htk:rlR (G.take (j+1))=rlR (G.take j)++rloR r:=by
      rw [List.take_add_one,hr]
      exact ys3 _ _
     obtain ⟨L,hL⟩:∃ L,rlR (G.take j)=L:=⟨_,rfl⟩
     have hLl:L.length≤1001:=by rw [← hL,rlR_len,List.length_take];omega
     rw [hL] at htk ⊢
     obtain ⟨v0,hv0⟩:∃ v0:Nat,r.len=v0:=⟨r.len.toNat,by omega⟩
     obtain ⟨v,hv⟩:∃ v,r.len.toNat+(if r.neg=true then 128 else 0)=v:=⟨_,rfl⟩
     have hvl:v≤132:=by rw [← hv];split <;> omega
     have hc4:Sound Tryz.prog 54 [.lst .any 1 [.lst .any 1 (byL L),.lst .any 1 (byL (numM 4 r.at_.toNat)),.lst .any 1 (byL (numM 1 v))]] (.lst .any 1 (byL (L++rloR r))):=by
      have h:=kf9 [L,numM 4 r.at_.toNat,numM 1 v] (by simp [total];omega) (by simp)
      simpa [bbL,yn3,rloR,hv] using h
     refine yt9 [1,7,12,75,76,77,78] (by simp [c2];rfl) ?_
     refine yl9 ?_
     refine yp9 rfl (fun h=>?_) (fun h=>by simp at h)
     refine yk9 ?_
     refine yl9 ?_
     refine ys9 ?_
     refine yt9 [1,7,12,75,76,77,14] (by simp [c2,cj,hr2,yf9,AV.weakL,AV.weak,AV.koneL,AV.kone];rfl) ?_
     refine yt9 [1,7,12,75,76,77,14,15] (by simp;rfl) ?_
     refine ws9 (fun σ=>σ=⟨114,[(1,.loc 0 0),(7,.loc 1 0),(12,.lst g 1 (byL L)),(75,.lst .any 3 (rlL G)),(76,.v (.int .i64 (G.length:Nat))),(77,.v (.int .i64 (j:Nat))),(14,.loc 5 0),(15,.v (.int .i64 (v:Nat)))],[.cells 76 (lmC m),.cells 22 [.lst fl 1 (bbL acc)],.cells 74 [.lst .any 3 (rlL m.rel)],.cells 3 [.v (.int .i64 200)],.loop 114 [(1,.loc 0 0),(7,.loc 1 0),(71,.fn (.func 81) [] [.loc 2 0,.loc 3 0])] [72,73] (rfAn Tryz.f27 1) (rfBn Tryz.f27 1) .busy,.cells 123 [.v (.int .i64 r.at_),.v (.int .i64 r.len),.v (.bool r.neg)]]⟩) ?_ ?_
     ·by_cases hn : r.neg = true
      ·have hor:xh7 .or .i64 (v0:Int) 128=some (.v (.int .i64 (v:Nat))):=by
        have h:=orA v0 128 (by omega) (by omega) (by rw [or128 (by omega) (by omega)];omega)
        rw [or128 (by omega) (by omega)] at h
        rw [show v=v0+128 by rw [← hv,if_pos hn];omega]
        exact h
       refine W_cT [1,7,12,75,76,77,14,15,84] (by simp [hn];rfl) rfl ?_
       refine zq9 [1,7,12,75,76,77,14,15] (by simp [hv0,hor];rfl) ?_
       simp [yj9,lmC,hn,hv0]
      ·have hnf:r.neg=false:=by simpa using hn
       have hvz:r.len=(v:Int):=by rw [← hv,if_neg hn];omega
       refine W_cF [1,7,12,75,76,77,14,15,84] (by simp [hnf];rfl) rfl ?_
       refine zs9 [1,7,12,75,76,77,14,15] ?_
       refine yk9 ?_
       simp [yj9,lmC,hvz,hnf]
     rintro _ rfl
     refine kh6 (fun σ=>σ=⟨114,[(1,.loc 0 0),(7,.loc 1 0),(12,.lst .any 1 (byL (L++rloR r))),(75,.lst .any 3 (rlL G)),(76,.v (.int .i64 (G.length:Nat))),(77,.v (.int .i64 (j:Nat)))],[.cells 76 (lmC m),.cells 22 [.lst fl 1 (bbL acc)],.cells 74 [.lst .any 3 (rlL m.rel)],.cells 3 [.v (.int .i64 200)],.loop 114 [(1,.loc 0 0),(7,.loc 1 0),(71,.fn (.func 81) [] [.loc 2 0,.loc 3 0])] [72,73] (rfAn Tryz.f27 1) (rfBn Tryz.f27 1) .busy,.cells 123 [.v (.int .i64 r.at_),.v (.int .i64 r.len),.v (.bool r.neg)]]⟩) ?_ ?_
     ·rcases hg with ⟨_, rfl⟩ | ⟨_, rfl⟩
      all_goals
       rcases hfl with rfl | rfl | rfl
      all_goals
       refine W_rE [1,7,12,75,76,77] ?_
       refine yq9 3 (by simp;rfl) rfl ?_
       refine yd9 (by simp) (by first | (simp;done) | (simp;rfl)) (numZ r.at_ 4 (by omega) (by omega) (by omega)) (by simp;rfl) ?_
       refine yq9 1 (by simp;rfl) rfl ?_
       refine yd9 (by simp) (by first | (simp;done) | (simp;rfl)) (qs9 v 1 (by omega) (by omega)) (by simp;rfl) ?_
       refine yq9 1 (by simp;rfl) rfl ?_
       refine yd9 (by simp) (by first | (simp;done) | (simp;rfl)) hc4 (by simp;rfl) ?_
       refine yw9 (by simp;rfl) ?_
       simp [yj9,lmC]
     rintro _ rfl
     refine xp9 5 (by simp) (by simp) (by simp [yv9,AV.under,AV.underL]) (by simp [yc9,yv9,AObj.under,lmC,AV.under,AV.underL]) ?_
     refine zq9 [1,7,12,75,76,77] (by simp [wj];rfl) ?_
     exact ⟨_,by omega,j+1,.any,rfl,by omega,.inr ⟨by omega,rfl⟩,by rw [htk];simp⟩
    ·have hje:j=G.length:=by omega
     obtain rfl:g=.any:=by rcases hg with ⟨h0,_⟩ | ⟨_,h0⟩ <;> first | omega | exact h0
     refine yt9 [1,7,12,75,76,77,78] (by simp [c2];rfl) ?_
     refine yl9 ?_
     refine yp9 rfl (fun h=>by simp at h) (fun h=>?_)
     refine zs9 [1,7,12] ?_
     refine zj9 ?_
     simp [yj9,hje]
   rintro _ rfl
   have hu:bbL (acc++[rlR G])=bbL acc++[.lst .any 1 (byL (rlR G))]:=by simp [wv9,qq9]
   rcases hfl with rfl | rfl | rfl
   all_goals
    refine zq9 [1] (by simp [yf9,catK,AV.cellsK,AV.kone,AV.koneL,qa,qa2];rfl) ?_
    refine ⟨114,_,_,_,_,.ready,true,5,rfl,rfl,by simp,by simp,?_,?_⟩
    ·simp [yc9,yv9,AObj.under,AV.under,AV.underL,lmC]
    refine ⟨_,by simp;rfl,?_⟩
    refine yw9 (by simp;rfl) ?_
    refine yp9 rfl (fun h=>by simp at h) (fun h=>?_)
    refine yk9 ?_
    refine zq9 [0,1,2,4] (by simp [wi];rfl) ?_
    first
     | (refine ⟨_,by omega,i+200,f,acc++[rlR G],.tip 23 137,rfl,by omega,by omega,by simpa using hgo,by simp;omega,.inr (.inl rfl),?_⟩;simp [hu,lmC];done)
     | (refine ⟨_,by omega,i+200,f,acc++[rlR G],.tip 23 199,rfl,by omega,by omega,by simpa using hgo,by simp;omega,.inr (.inr rfl),?_⟩;simp [hu,lmC];done)
  rw [vr4 _ _ (by omega),List.append_nil] at hgo
  subst hgo
  refine W_cF [0,1,2,4,8] (by simp [c];rfl) rfl ?_
  refine zj9 ?_
  refine ⟨.inl rfl,.tup [],.tup [],_,5,rfl,.inl ⟨rfl,rfl⟩,by simp,by simp,rfl,?_,?_⟩
  ·simp [yc9,yv9,AObj.under,AV.under,AV.underL,lmC]
  ·exact ⟨fl,hfl,by omega,by simp⟩
 rcases hfl0 with rfl | rfl | rfl
 all_goals
  refine yl9 ?_
  refine W_rK [1,7,71] ?_
  refine yq9 2 (by simp [lmC];rfl) rfl ?_
  refine zr9 (f:=58) (args:=[.lst .any 3 (rlL m.rel),.v (.int .i64 (200:Nat))]) (by simp) (by simp [yb9,zt9]) ((uq5 m.rel 200 _ ?_).mono ?_)
  ·simp [yc9,AObj.under,AV.under,AV.underL,lmC]
  rintro r h' ⟨rfl,rfl⟩
  refine ⟨_,by simp;rfl,?_⟩
  refine yw9 (by simp;rfl) ?_
  refine ys9 ?_
  refine jj9 (Qc:=fun _ h'=>∃ fl,OC fl∧R2.length≤1000020000∧h'=[.cells 76 (lmC m),.cells 22 [.lst fl 1 (bbL R2)],.cells 74 [.lst .any 3 (rlL m.rel)],.cells 3 [.v (.int .i64 200)],.loop 114 [(1,.loc 0 0),(7,.loc 1 0),(71,.fn (.func 81) [] [.loc 2 0,.loc 3 0])] [72,73] (rfAn Tryz.f27 1) (rfBn Tryz.f27 1) .ready]) rfl (by first | exact hcall _ (.inl rfl) | exact hcall _ (.inr (.inl rfl)) | exact hcall _ (.inr (.inr rfl))) ?_
  rintro _ _ ⟨fl,hfl,hR2l,rfl⟩
  refine ⟨114,_,_,_,_,.ready,rfl,?_⟩
  refine (show Wt true 0 Tryz.prog _ _ _ from ?_)
  refine zs9 [1,7] ?_
  refine xp9 2 (Nat.zero_le _) (by simp) (by simp [yv9,AV.under,AV.underL]) (by simp [yc9,AObj.under,lmC,AV.under,AV.underL]) ?_
  have qe:R2.length≤140737488355327:=by omega
  have qe2:(R2.length+1) * 24≤140737488355328:=by omega
  have hc5:Sound Tryz.prog 54 [.lst .any 1 [.lst .any 1 [.v (.int .u8 4)],.lst .any 1 (byL (numM 4 m.text.length)),.lst .any 1 (byL (numM 4 m.rel.length))]] (.lst .any 1 (byL (endR m))):=by
   have h:=kf9 [[4],numM 4 m.text.length,numM 4 m.rel.length] (by simp [total]) (by simp)
   simpa [bbL,vp9,wc9,endR] using h
  have henc:encL m=R2++[endR m]:=by rw [encL,hH0,← hR2,← hR1];simp
  have hrow:bbL R2++[.lst .any 1 (byL (endR m))]=bbL (R2++[endR m]):=by simp [wv9,qq9]
  rcases hfl with rfl | rfl | rfl
  all_goals
   refine jh9 [2,3] mx (by decide +kernel) ?_
   refine yr9 5 (by simp [lmC];rfl) rfl ?_
   refine zw9 (by simp) (by first | (simp;done) | (simp;rfl)) (qs9 m.text.length 4 (by omega) (by omega)) (by simp;rfl) ?_
   refine yr9 3 (by simp [lmC];rfl) rfl ?_
   refine zw9 (by simp) (by first | (simp;done) | (simp;rfl)) (qs9 m.rel.length 4 (by omega) (by omega)) (by simp;rfl) ?_
   refine yr9 1 (by simp;rfl) rfl ?_
   refine zw9 (by simp) (by first | (simp;done) | (simp;rfl)) hc5 (by simp;rfl) ?_
   refine ym9 (by simp [yf9,catK,AV.cellsK,AV.kone,AV.koneL,qe,qe2];rfl) ?_
   refine yn9 ?_
   repeat (first | refine yg9 ?_ | refine yh9 ?_)
   rw [hrow]
   refine ⟨_,by simp [retQ];exact ⟨rfl,by simp [AV.rf,AV.rfL]⟩,.inr ?_⟩
   simp [AV.plain,AV.plainL,vv7,encR,hck,henc]
theorem mul16:Sound Tryz.prog 90 [.v (.int .u64 1),.v (.int .u64 16)] (.tup [.v (.int .u64 0),.v (.int .u64 16)]):=zg9 mx 100 (by kernel_rfl)
theorem mul80:Sound Tryz.prog 90 [.v (.int .u64 1),.v (.int .u64 80)] (.tup [.v (.int .u64 0),.v (.int .u64 80)]):=zg9 mx 100 (by kernel_rfl)
@[simp] theorem underL_any (m k:Nat):AV.underL m (List.replicate k .any)=true:=by induction k <;> simp_all [List.replicate_succ,AV.underL,AV.under]
@[simp] theorem kn6 (m : Nat) : ∀ (a b : List AV), AV.underL m (a ++ b) = (AV.underL m a && AV.underL m b)
 | [],b=>rfl
 | o :: a,b=>by simp only [List.cons_append,AV.underL,kn6 m a b,Bool.and_assoc]
def zd9 (l:List UInt8) (k:Nat):List AV:=byL l++List.replicate k .any
theorem xj9 (l:List UInt8) (k:Nat):(zd9 l k).length=l.length+k:=by simp [zd9]
theorem yr3 (l m:List UInt8) (k:Nat) (h:m.length≤k):yf9 (zd9 l k) l.length (byL m)=zd9 (l++m) (k - m.length):=by
 simp [yf9,zd9,wc9,List.take_append,List.drop_append]
theorem jv6 (n : Nat) (hn : n = 16 ∨ n = 80) (H : List AObj) (hh : yc9 (H.length + 1) H = true) :
  wf9 Tryz.prog 75 [.lst .any 1 [.v (.int .u8 64)],.v (.int .i64 n)] H fun r h'=>∃ k,r=.arr H.length 0 n n∧h'=H++[.cells 5 (zd9 (List.replicate n 64) k)]:=by
 refine zv9 Tryz.func75 rfl (by decide +kernel) (by simp [Tryz.f75]) (rs:=[.tmp 4]) rfl ?_
 rw [show Tryz.f75.ntmps=77 from rfl]
 have hmul:Sound Tryz.prog 90 [.v (.int .u64 1),.v (.int .u64 n)] (.tup [.v (.int .u64 0),.v (.int .u64 n)]):=by
  rcases hn with rfl | rfl
  ·exact mul16
  ·exact mul80
 have hnl:n≤80:=by omega
 have hn0:0 < n:=by omega
 have c1:¬ ((n:Int)=0):=by omega
 have c2:¬ ((n:Int) < 0):=by omega
 have c3:¬ ((8192:Int) < (n:Int)):=by omega
 have c4:¬ ((9223372036854775807:Int) < (n:Int)):=by omega
 have w1:=w64 (n:=(n:Int)) (by omega) (by omega)
 have w2:IntKind.u64.wrap (n:Int)=n:=by
  have h64:∀ k:Nat,k≤80→IntKind.u64.wrap (k:Int)=k:=by decide +kernel
  exact h64 n hnl
 have w3:IntKind.u64.wrap 1=1:=by decide +kernel
 refine yt9 [0,1] (by simp;rfl) ?_
 refine yl9 ?_
 refine yt9 [0,1,13] (by simp [c1];rfl) ?_
 refine yp9 rfl (fun h=>by simp at h <;> omega) (fun h=>?_)
 refine yk9 ?_
 refine yl9 ?_
 refine yt9 [0,1,16] (by simp [c2];rfl) ?_
 refine yp9 rfl (fun h=>by simp at h <;> omega) (fun h=>?_)
 refine yk9 ?_
 refine W_rK [0,5,6] ?_
 refine yq9 5 (by simp [w2,w3];rfl) rfl ?_
 refine yd9 (by simp) (by simp;rfl) hmul (by simp;rfl) ?_
 refine yw9 (by simp;rfl) ?_
 refine yl9 ?_
 refine yt9 [0,6,32] (by simp [c4];rfl) ?_
 refine yp9 rfl (fun h=>by simp at h <;> omega) (fun h=>?_)
 refine yk9 ?_
 refine yt9 [0,7] (by simp [w1];rfl) ?_
 refine yl9 ?_
 refine W_cF [0,7,38] (by simp;rfl) rfl ?_
 refine yk9 ?_
 refine yt9 [0,7,8] (by simp;rfl) ?_
 refine yl9 ?_
 refine yt9 [0,7,8,42] (by simp [c3];rfl) ?_
 refine yp9 rfl (fun h=>by simp at h <;> omega) (fun h=>?_)
 refine yk9 ?_
 refine W_rGK [0,7,8,9] ?_
 refine ym7 1 _ _ ?_
 refine yw9 (by simp;rfl) ?_
 refine jh6 rfl ?_
 refine uh7 (f:=91) (fn:=Tryz.f91) (ps:=#[3]) (k:=53) (n:=n) (t:=23) (e:=5) rfl (by simp) rfl Tryz.func91 (by decide +kernel) (by kernel_rfl) (by kernel_rfl) (by kernel_rfl) (by kernel_rfl) (by simp) (by omega) ?_
 intro cap hcap hmax
 refine ⟨_,by simp;rfl,?_⟩
 refine ym7 2 _ _ ?_
 refine yw9 (by simp;rfl) ?_
 refine jh6 rfl ?_
 refine jw6 (t:=23) (e:=5) (sz:=1) (ag:=false) (id:=H.length) (off:=0) (len:=n) (cap:=cap) (k1:=54) (k2:=55) (k3:=56) (n:=n) (m:=n) rfl (by simp) (by simp) (by simp) (by simp) hcap (Nat.le_refl _) hn0 ?_
 refine ⟨_,by simp;rfl,?_⟩
 refine ym7 1 _ _ ?_
 refine yw9 (by simp;rfl) ?_
 have hcat:catK 1 ([.v (.int .u8 64)]:List AV)=some [.v (.int .u8 64)]:=by rfl
 refine W_rK [7,8,9,10] ?_
 refine yq9 2 (by simp;rfl) rfl ?_
 refine zd8 (t:=23) (t':=23) (e:=5) (sz:=1) (id:=H.length) (off:=0) (len:=n) (cap:=n) (ag:=false) (oy:=.any) (cs:=List.replicate cap .any) (ys:=[.v (.int .u8 64)]) (yc:=[.v (.int .u8 64)]) (by simp) rfl rfl rfl rfl (by simp) (by simp) (by simp) (by omega) (by simp) (by simp;omega) (by rw [List.take_of_length_le (by simp;omega)];exact hcat) ?_
 refine ⟨_,by simp;rfl,?_⟩
 have hone:min 1 n=1:=by omega
 refine yw9 (by simp [hone,goInt];rfl) ?_
 have hstart:yf9 (List.replicate cap AV.any) 0 (AV.weakL [.v (.int .u8 64)])=zd9 (List.replicate 1 64) (cap - 1):=by
  obtain ⟨k,rfl⟩:∃ k,cap=k+1:=⟨cap - 1,by omega⟩
  simp [yf9,zd9,AV.weakL,AV.weak,vp9,List.replicate_succ]
 refine yl9 ?_
 refine ys9 ?_
 refine zl9 (fun k σ=>∃ bp:Nat,k=n - bp∧1≤bp∧bp≤n∧σ=⟨77,[(7,.v (.int .i64 (n:Nat))),(8,.v (.int .i64 (n:Nat))),(9,.arr H.length 0 n n),(10,.v (.int .i64 (bp:Nat)))],H++[.cells 5 (zd9 (List.replicate bp 64) (cap - bp))]⟩) (k:=n - 1) ⟨1,rfl,by omega,by omega,?_⟩ ?_
 ·rw [← hstart]
  simp
 rintro k σ ⟨bp,rfl,hb1,hb2,rfl⟩
 refine yl9 ?_
 by_cases c:bp < n
 ·have ci : (bp : Int) < n := by omega
  have ci2:¬ ((n:Int) < bp):=by omega
  have hle2:(bp:Int)≤n:=by omega
  have hne:¬ n=bp:=by omega
  obtain ⟨m,hm⟩:∃ m,min bp (n - bp)=m:=⟨_,rfl⟩
  have wi:=w64 (n:=(bp:Int)+m) (by omega) (by omega)
  refine yt9 [7,8,9,10,63] (by simp [ci];rfl) ?_
  refine yp9 rfl (fun h=>?_) (fun h=>by simp [c] at h)
  refine yk9 ?_
  refine ys9 ?_
  refine yt9 [7,8,9,10,11] (by simp [ci2];rfl) ?_
  refine wb9 [7,8,9,10] (W_anyT mx ?_)
  refine wr9 0 rfl (by decide +kernel) (qj9 10 rfl rfl rfl) rfl ?_
  refine wr9 1 rfl (by decide +kernel) (qj9 9 rfl rfl rfl) rfl ?_
  refine wr9 2 rfl (by decide +kernel) (qj9 10 rfl rfl rfl) rfl ?_
  refine wr9 3 rfl (by decide +kernel) (up5 (e:=5) (sz:=1) (ag:=false) (z:=.arr H.length bp (n - bp) (n - bp)) 68 69 rfl rfl (by simp) (by simp) rfl rfl (by simp [wf8,bnd,hle2,hne,hb2])) rfl ?_
  refine wr9 4 rfl (by decide +kernel) (qj9 9 rfl rfl rfl) rfl ?_
  refine wr9 5 rfl (by decide +kernel) (qj9 11 rfl rfl rfl) rfl ?_
  refine wr9 6 rfl (by decide +kernel) (us5 (e:=5) (sz:=1) (ag:=false) (z:=.arr H.length 0 bp n) 71 72 rfl rfl (by simp) (by simp) rfl rfl (by simp [wf8,bnd,hle2,hb2])) rfl ?_
  refine vs8 [7] (by decide +kernel) (by simp) ?_
  intro i hi
  simp only [List.mem_cons,List.not_mem_nil,or_false] at hi
  subst hi
  refine ⟨_,rfl,?_⟩
  refine .inr ⟨rfl,?_⟩
  refine jb5 (t:=23) (t':=23) (e:=5) (sz:=1) (id:=H.length) (off:=bp) (len:=n - bp) (cap:=n - bp) (m:=bp) (ag:=false) (cs:=zd9 (List.replicate bp 64) (cap - bp)) (yc:=byL (List.replicate bp 64)) rfl rfl rfl rfl (by simp) (by simp [srcA,zd9]) (by simp) (by omega) (by simp) (by simp [xj9];omega) ?_
  refine ⟨_,by simp;rfl,?_⟩
  refine qw9 [8] (by decide +kernel) (by simp) ?_
  intro i hi
  simp only [List.mem_cons,List.not_mem_nil,or_false] at hi
  subst hi
  refine ⟨_,rfl,?_⟩
  refine (show runA Tryz.prog _ [_] _ _ from ?_)
  rw [hm]
  refine yw9 (by simp [goInt,wi];rfl) ?_
  refine qw9 [9] (by decide +kernel) (by simp) ?_
  intro i hi
  simp only [List.mem_cons,List.not_mem_nil,or_false] at hi
  subst hi
  refine ⟨_,rfl,?_⟩
  refine (show runA Tryz.prog _ [_] _ _ from ?_)
  refine yw9 (by simp;rfl) ?_
  refine qm9 (by decide +kernel) ?_
  refine ⟨n - (bp+m),by omega,bp+m,rfl,by omega,by omega,?_⟩
  have hseg:yf9 (zd9 (List.replicate bp 64) (cap - bp)) bp ((byL (List.replicate bp 64)).take (m * 1))=zd9 (List.replicate (bp+m) 64) (cap - (bp+m)):=by
   have h1:=yr3 (List.replicate bp 64) (List.replicate m 64) (cap - bp) (by simp;omega)
   rw [List.length_replicate,List.length_replicate] at h1
   rw [← xf9,List.take_replicate,show min (m * 1) bp=m by omega,h1,List.replicate_append_replicate,Nat.sub_sub]
  rw [← hseg]
  simp [km9]
 ·have ci : ¬ ((bp : Int) < n) := by omega
  obtain rfl:bp=n:=by omega
  refine W_cF [7,8,9,10,63] (by simp;rfl) rfl ?_
  refine zj9 ?_
  refine yt9 [4] (by simp;rfl) ?_
  refine yn9 ?_
  repeat (first | refine yg9 ?_ | refine yh9 ?_)
  refine ⟨.inr rfl,.arr H.length 0 bp bp,.arr H.length 0 bp bp,H++[.cells 5 (zd9 (List.replicate bp 64) (cap - bp))],H.length+1,by simp,.inl ⟨rfl,by simp⟩,by omega,by simp,by simp [AV.under],?_,⟨cap - bp,rfl,?_⟩⟩
  ·rw [List.take_of_length_le (by simp),kp9,hh]
   simp [yc9,AObj.under,zd9]
  ·rw [List.take_of_length_le (by simp)]
def putM (c:List UInt8) (at_:Nat) (l:List UInt8):List UInt8:=c.take at_++l++c.drop (at_+l.length)
@[simp] theorem xt9 (c:List UInt8) (at_:Nat) (l:List UInt8) (h:at_+l.length≤c.length):(putM c at_ l).length=c.length:=by simp [putM];omega
theorem jk9 (c l:List UInt8) (k at_:Nat) (h:at_+l.length≤c.length):yf9 (zd9 c k) at_ (byL l)=zd9 (putM c at_ l) k:=by
 simp only [yf9,zd9,putM,wc9,xf9,wd9,vp8]
 rw [List.take_append_of_le_length (by simp;omega),List.drop_append_of_le_length (by simp;omega)]
 simp
theorem kr8 (c:List UInt8) (k i:Nat) (b:UInt8) (h:i < c.length):(zd9 c k).set i (.v (.int .u8 b.toNat))=zd9 (c.set i b) k:=by
 rw [zd9,zd9,List.set_append_left _ _ (by simpa using h),kc4]
theorem vd7 (m : Nat) (o : AObj) (ho : o.under m = true) : ∀ (h : List AObj) (i : Nat), yc9 m h = true → yc9 m (h.set i o) = true
 | [],i,hh=>by simp
 | x :: h,0,hh=>by simp only [List.set_cons_zero,yc9,Bool.and_eq_true] at hh ⊢;exact ⟨ho,hh.2⟩
 | x :: h,i+1,hh=>by simp only [List.set_cons_succ,yc9,Bool.and_eq_true] at hh ⊢;exact ⟨hh.1,vd7 m o ho h i hh.2⟩
theorem jk5 (m:Nat) (c:List UInt8) (k:Nat):(AObj.cells 5 (zd9 c k)).under m=true:=by simp [AObj.under,zd9]
theorem vj9 (at_ n : Nat) (l card : List UInt8) (k : Nat) (hc : card.length = n) (hl : at_ + l.length ≤ n) (hat : at_ < n) (hn : n ≤ 1000) (H : List AObj) (ib ia : Nat) (hb : H[ib]? = some (.cells 23 [.arr ia 0 n n])) (ha : H[ia]? = some (.cells 5 (zd9 card k)))
  (hu:yc9 H.length H=true):wf9 Tryz.prog 76 [.v (.int .i64 at_),.lst .any 1 (byL l),.loc ib 0] H fun r h'=>r=.tup []∧h'=H.set ia (.cells 5 (zd9 (putM card at_ l) k)):=by
 refine zv9 Tryz.func76 rfl (by decide +kernel) (by simp [Tryz.f76]) (rs:=[]) rfl ?_
 rw [show Tryz.f76.ntmps=10 from rfl]
 have h1:(at_:Int)≤n:=by omega
 have h2:at_≤n:=by omega
 have h3:¬ n=at_:=by omega
 have hia:ia < H.length:=(List.getElem?_eq_some_iff.1 ha).1
 refine W_rE [] ?_
 refine yq9 4 (by simp [hb,h1,h2,h3];rfl) rfl ?_
 refine zd8 (t:=23) (t':=23) (e:=5) (sz:=1) (id:=ia) (off:=at_) (len:=n - at_) (cap:=n - at_) (ag:=false) (oy:=.any) (cs:=zd9 card k) (ys:=byL l) (yc:=byL l) (by simp) rfl rfl rfl rfl (by simp) (by simp) (by simp) (by omega) ha (by simp [xj9];omega) (by rw [List.take_of_length_le (by simp;omega)];exact xb8 _) ?_
 refine ⟨_,by simp;rfl,?_⟩
 refine yw9 (by simp;rfl) ?_
 refine ⟨.inl rfl,.tup [],.tup [],_,H.length,rfl,.inl ⟨rfl,rfl⟩,by omega,by simp,rfl,?_,rfl,?_⟩
 ·rw [List.take_of_length_le (by simp)]
  refine vd7 _ _ ?_ _ _ hu
  rw [jk9 _ _ _ _ (by omega)]
  exact jk5 _ _ _
 ·rw [List.take_of_length_le (by simp)]
  rw [← jk9 _ _ _ _ (by omega)]
  simp
theorem wf9.dpArgs {P:Program} {f:FuncId} {args:List AV} {h:List AObj} {Q:AV→List AObj→Prop} (hc:wf9 P f (AV.dpL args) h Q):wf9 P f args h Q :=
 ⟨hc.1,fun F n c w vals h1 h2 h3 h4 h5 h6=>hc.2 F n c w vals h1 h2 h3 h4 h5 h6.dpL⟩
def xr9 (n:Nat):List UInt8:=List.replicate n 64
@[simp] theorem blankL_len (n:Nat):(xr9 n).length=n:=by simp [xr9]
theorem vc7 (T n : Nat) (hn : n = 16 ∨ n = 80) (H : List AObj) (hh : yc9 (H.length + 1) H = true) :
  wf9 Tryz.prog 75 [.lst (.tip 5 T) 1 [.v (.int .u8 64)],.v (.int .i64 n)] H fun r h'=>∃ k,r=.arr H.length 0 n n∧h'=H++[.cells 5 (zd9 (xr9 n) k)]:=by
 refine wf9.dpArgs ?_
 rw [show AV.dpL [.lst (.tip 5 T) 1 [.v (.int .u8 64)],.v (.int .i64 n)]=[.lst .any 1 [.v (.int .u8 64)],.v (.int .i64 n)] by simp [AV.dpL,AV.dp]]
 exact jv6 n hn H hh
def zm9 (s:List UInt8):List UInt8:=(encM s).1
def xm9 (s:List UInt8):List UInt8:=putM ((xr9 80).set 0 2) 1 (zm9 s)
theorem kj9 (s : List UInt8) (hs : s.length ≤ 1000) (hcs : (zm9 s).length ≤ 79) (H : List AObj) (hu : yc9 H.length H = true) :
  wf9 Tryz.prog 48 [strB s] H fun r h'=>∃ k,r=.tup [.arr H.length 0 80 80,.fn (.func 76) [] [.loc (H.length+1) 0]]∧h'=H++[.cells 5 (zd9 (xm9 s) k),.cells 23 [.arr H.length 0 80 80]]:=by
 refine zv9 Tryz.func48 rfl (by decide +kernel) (by simp [Tryz.f48]) (rs:=[.tmp 2,.tmp 3]) rfl ?_
 rw [show Tryz.f48.ntmps=17 from rfl]
 have hcode:=ut8 s (by omega)
 simp only [strB] at hcode ⊢
 refine yt9 [0] (by simp;rfl) ?_
 refine W_rK [0,4] ?_
 refine yq9 1 (by simp;rfl) rfl ?_
 refine zr9 (f:=75) (args:=[.lst (.tip 5 26) 1 [.v (.int .u8 64)],.v (.int .i64 (80:Nat))]) (by simp) (by simp [yb9,zt9]) ((vc7 26 80 (.inr rfl) _ (yf7 (Nat.le_succ _) _ hu)).mono ?_)
 rintro r h' ⟨k,rfl,rfl⟩
 refine ⟨_,by simp;rfl,?_⟩
 refine yw9 (by simp [yf9];rfl) ?_
 refine yt9 [0,4,5] (by simp;rfl) ?_
 have hset:=kr8 (xr9 80) k 0 2 (by simp)
 have h80:1≤80+k:=by omega
 refine yt9 [0,4,5] (by simp [xj9,h80];rfl) ?_
 have hseg:yf9 (zd9 (xr9 80) k) 0 [.v (.int .u8 2)]=zd9 ((xr9 80).set 0 2) k:=by
  rw [← kr8 _ _ _ _ (by simp)]
  simp [yf9,zd9,xr9,List.replicate_succ,vp9]
 rw [hseg]
 refine W_rK [4,5] ?_
 refine yq9 2 (by simp;rfl) rfl ?_
 refine yd9 (by simp) (by first | (simp;done) | (simp;rfl)) hcode (by simp;rfl) ?_
 refine zr9 (f:=76) (args:=[.v (.int .i64 (1:Nat)),.lst .any 1 (byL (zm9 s)),.loc (H.length+1) 0]) (by simp) (by simp [yb9,zt9,zm9]) ((vj9 1 80 (zm9 s) ((xr9 80).set 0 2) k (by simp) (by omega) (by omega) (by omega) _ (H.length+1) H.length ?_ ?_ ?_).mono ?_)
 ·simp
 ·simp
 ·simp [yg7,yc9,AObj.under,AV.under,AV.underL,zd9]
  exact yf7 (by omega) _ hu
 rintro r h' ⟨rfl,rfl⟩
 refine ⟨_,by simp;rfl,?_⟩
 refine yw9 (by simp;rfl) ?_
 have hcl:putM ((xr9 80).set 0 2) 1 (zm9 s)=xm9 s:=rfl
 rw [hcl]
 refine yt9 [2,3] (by simp;rfl) ?_
 refine yn9 ?_
 repeat (first | refine yg9 ?_ | refine yh9 ?_)
 refine ⟨.inr rfl,.tup [.arr H.length 0 80 80,.fn (.func 76) [] [.loc (H.length+1) 0]],.tup [.arr H.length 0 80 80,.fn (.func 76) [] [.loc (H.length+1) 0]],H++[.cells 5 (zd9 (xm9 s) k),.cells 23 [.arr H.length 0 80 80]],H.length+2,?_,.inl ⟨rfl,?_⟩,by omega,by simp,by simp [AV.under,AV.underL],?_,⟨k,rfl,?_⟩⟩
 ·simp
 ·simp
 ·rw [List.take_of_length_le (by simp),yg7,yf7 (Nat.le_add_right _ 2) _ hu]
  simp [yc9,AObj.under,AV.under,AV.underL,zd9]
 ·rw [List.take_of_length_le (by simp)]
structure Esd where
 name:List UInt8
 kind:Int
 id:Int
 addr:Int
 len:Int
def esC (x:Esd):List AV:=[strB x.name,.v (.int .i64 x.kind),.v (.int .i64 x.id),.v (.int .i64 x.addr),.v (.int .i64 x.len)]
@[simp] def esA (x:Esd):AV:=.agg [strB x.name,.v (.int .i64 x.kind),.v (.int .i64 x.id),.v (.int .i64 x.addr),.v (.int .i64 x.len)]
def qc9 (x:Esd):List UInt8 :=
 if x.kind=1 then putM (putM ((putM (xr9 16) 0 (zm9 x.name)).set 8 0) 9 (numM 3 x.addr.toNat)) 13 (numM 3 x.len.toNat)
 else if x.kind=2 then putM (putM ((putM (xr9 16) 0 (zm9 x.name)).set 8 1) 9 (numM 3 x.addr.toNat)) 13 (numM 3 x.id.toNat)
 else (putM (xr9 16) 0 (zm9 x.name)).set 8 2
structure EOk (x:Esd):Prop where
 n:(zm9 x.name).length≤8
 n2:x.name.length≤1000
 i0:0≤x.id
 i1:x.id≤1000000
 a0:0≤x.addr
 a1:x.addr≤1000000
 l0:0≤x.len
 l1:x.len≤1000000
theorem ur9 (xs:List AV) (i:Nat) (y:AV) (h:i < xs.length):yf9 xs i [y]=xs.set i y:=by
 rw [yf9,List.set_eq_take_append_cons_drop,if_pos h]
 simp
theorem vn8 : ∀ (a b : List AV), AV.koneL (a ++ b) = (AV.koneL a && AV.koneL b)
 | [],b=>rfl
 | x :: a,b=>by simp only [List.cons_append,AV.koneL,vn8 a b,Bool.and_assoc]
theorem ym3 {h:List AObj} (T id n:Nat) (c:List UInt8) (k:Nat) (hid:h[id]?=some (.cells 5 (zd9 c k))) (hc:c.length=n):∃ o:Fl × List AObj,vc9 Tryz.prog h T id 0 n n=some (.lst o.1 1 (byL c),o.2)∧(∃ x,o.2=h.set id x∧∀ m,x.under m=true):=by
 have e2:tyI Tryz.prog 5=some (false,1):=by simp
 subst hc
 cases k with
 | zero =>
  have e0:zd9 c 0=byL c:=by simp [zd9]
  rw [e0] at hid
  refine ⟨(if 0=0∧c.length=c.length∧c.length * 1=(byL c).length then .tip 5 T else .any,h.set id (.froz 5 (byL c))),?_,_,rfl,fun m=>by simp [AObj.under]⟩
  simp only [vc9,hid,e2]
  rw [if_pos ⟨by omega,.inr trivial,by simp,wb8 _,ww7 _⟩,jv9,List.drop_zero,kl9 _ _ (by omega),List.take_of_length_le (by omega)]
 | succ k =>
  have e1:(zd9 c (k+1)).take (0+c.length * 1)=byL c:=by
   rw [zd9,Nat.zero_add,Nat.mul_one,List.take_append_of_le_length (by simp),List.take_of_length_le (by simp)]
  have e3:AV.koneL (zd9 c (k+1))=false:=by
   rw [zd9,vn8,List.replicate_succ]
   simp [AV.koneL,AV.kone]
  refine ⟨(.any,h.set id (.froz 5 (byL c))),?_,_,rfl,fun m=>by simp [AObj.under]⟩
  simp only [vc9,hid,e2,e1]
  rw [if_neg (by rw [e3];simp),if_pos ⟨by omega,.inr trivial,by simp [xj9],wb8 _,ww7 _⟩,jv9,List.drop_zero,kl9 _ _ (by omega),List.take_of_length_le (by omega)]
theorem xt7 (x:Esd) (hk:EOk x):Sound Tryz.prog 52 [esA x] (.lst .any 1 (byL (qc9 x))):=by
 refine vm9 Tryz.func52 rfl (by decide +kernel) (by simp [Tryz.f52]) rfl rfl (rs:=[.tmp 2]) rfl ?_
 rw [show Tryz.f52.ntmps=48 from rfl]
 obtain ⟨n1,n2,i0,i1,a0,a1,l0,l1⟩:=hk
 have hcode:=ut8 x.name (by omega)
 simp only [strB] at hcode
 refine yt9 [1] (by simp;rfl) ?_
 refine W_rK [1,3] ?_
 refine yq9 1 (by simp;rfl) rfl ?_
 refine zr9 (f:=75) (args:=[.lst (.tip 5 18) 1 [.v (.int .u8 64)],.v (.int .i64 (16:Nat))]) (by simp) (by simp [yb9,zt9]) ((vc7 18 16 (.inl rfl) _ ?_).mono ?_)
 ·simp [yc9,AObj.under,AV.under,AV.underL,strB]
 rintro r h' ⟨k,rfl,rfl⟩
 refine ⟨_,by simp;rfl,?_⟩
 refine yw9 (by simp;rfl) ?_
 have hb0:=jk9 (xr9 16) (zm9 x.name) k 0 (by simp;omega)
 obtain ⟨b,hb⟩:∃ b,putM (xr9 16) 0 (zm9 x.name)=b:=⟨_,rfl⟩
 have hbl:b.length=16:=by rw [← hb,xt9 _ _ _ (by simp;omega)];simp
 rw [hb] at hb0
 refine W_rK [1,3] ?_
 refine yq9 3 (by simp;rfl) rfl ?_
 refine yd9 (by simp) (by first | (simp;done) | (simp;rfl)) hcode (by simp;rfl) ?_
 refine zd8 (t:=23) (t':=23) (e:=5) (sz:=1) (id:=1) (off:=0) (len:=16) (cap:=16) (ag:=false) (oy:=.any) (cs:=zd9 (xr9 16) k) (ys:=byL (zm9 x.name)) (yc:=byL (zm9 x.name)) (by simp) rfl rfl rfl rfl (by simp) (by simp [zm9]) (by simp) (by omega) (by simp) (by simp [xj9]) (by rw [List.take_of_length_le (by simp;omega)];exact xb8 _) ?_
 refine ⟨_,by simp;rfl,?_⟩
 refine yw9 (by simp [hb0];rfl) ?_
 refine ws9 (fun σ=>σ=⟨48,[(3,.arr 1 0 16 16)],[.cells 50 (esC x),.cells 5 (zd9 (qc9 x) k)]⟩) ?_ ?_
 ·refine yt9 [1, 3, 12] (by simp; rfl) ?_
  refine ys9 ?_
  have h8:9≤16+k:=by omega
  by_cases c1:x.kind=1
  ·refine W_cT [1, 3, 12, 15] (by simp [c1]; rfl) rfl ?_
   have b1l:(b.set 8 0).length=16:=by simp [hbl]
   have hseg0:yf9 (zd9 b k) 8 [.v (.int .u8 0)]=zd9 (b.set 8 0) k:=by
    rw [← kr8 _ _ _ _ (by omega)]
    exact (ur9 _ _ _ (by rw [xj9];omega))
   refine yt9 [1,3] (by simp [xj9,hbl,h8];rfl) ?_
   rw [hseg0]
   obtain ⟨b1,hb1⟩:∃ b1,b.set 8 0=b1:=⟨_,rfl⟩
   rw [hb1] at b1l ⊢
   have hb1p:=jk9 b1 (numM 3 x.addr.toNat) k 9 (by simp;omega)
   refine W_rsK 5 [1,3] mx (by decide +kernel) ?_
   refine yr9 4 (by simp;rfl) rfl ?_
   refine zw9 (by simp) (by first | (simp;done) | (simp;rfl)) (numZ x.addr 3 a0 (by omega) (by omega)) (by simp;rfl) ?_
   refine zd8 (t:=23) (t':=23) (e:=5) (sz:=1) (id:=1) (off:=9) (len:=7) (cap:=7) (ag:=false) (oy:=.any) (cs:=zd9 b1 k) (ys:=byL (numM 3 x.addr.toNat)) (yc:=byL (numM 3 x.addr.toNat)) (by simp) rfl rfl rfl rfl (by simp) (by simp) (by simp) (by omega) (by simp) (by simp [xj9,b1l]) (by rw [List.take_of_length_le (by simp)];exact xb8 _) ?_
   refine ⟨_,by simp;rfl,?_⟩
   refine yw9 (by simp [hb1p];rfl) ?_
   obtain ⟨b2,hb2⟩:∃ b2,putM b1 9 (numM 3 x.addr.toNat)=b2:=⟨_,rfl⟩
   have b2l:b2.length=16:=by rw [← hb2,xt9 _ _ _ (by simp;omega)];exact b1l
   rw [hb2]
   have hb2p:=jk9 b2 (numM 3 x.len.toNat) k 13 (by simp;omega)
   refine yt7 5 [3] mx (by decide +kernel) ?_
   refine yr9 4 (by simp;rfl) rfl ?_
   refine zw9 (by simp) (by first | (simp;done) | (simp;rfl)) (numZ x.len 3 l0 (by omega) (by omega)) (by simp;rfl) ?_
   refine zd8 (t:=23) (t':=23) (e:=5) (sz:=1) (id:=1) (off:=13) (len:=3) (cap:=3) (ag:=false) (oy:=.any) (cs:=zd9 b2 k) (ys:=byL (numM 3 x.len.toNat)) (yc:=byL (numM 3 x.len.toNat)) (by simp) rfl rfl rfl rfl (by simp) (by simp) (by simp) (by omega) (by simp) (by simp [xj9,b2l]) (by rw [List.take_of_length_le (by simp)];exact xb8 _) ?_
   refine ⟨_,by simp;rfl,?_⟩
   simp [runA,yj9,qp8,hb2p,qc9,esC,hb,hb1,hb2,c1]
  ·refine yt9 [1, 3, 12, 15] (by simp [c1]; rfl) ?_
   refine yp9 rfl (fun h=>absurd (by simpa using h) c1) (fun h=>?_)
   by_cases c2:x.kind=2
   ·refine W_cT [1, 3, 31] (by simp [c2]; rfl) rfl ?_
    have b1l:(b.set 8 1).length=16:=by simp [hbl]
    have hseg0:yf9 (zd9 b k) 8 [.v (.int .u8 1)]=zd9 (b.set 8 1) k:=by
     rw [← kr8 _ _ _ _ (by omega)]
     exact (ur9 _ _ _ (by rw [xj9];omega))
    refine yt9 [1,3] (by simp [xj9,hbl,h8];rfl) ?_
    rw [hseg0]
    obtain ⟨b1,hb1⟩:∃ b1,b.set 8 1=b1:=⟨_,rfl⟩
    rw [hb1] at b1l ⊢
    have hb1p:=jk9 b1 (numM 3 x.addr.toNat) k 9 (by simp;omega)
    refine W_rsK 5 [1,3] mx (by decide +kernel) ?_
    refine yr9 4 (by simp;rfl) rfl ?_
    refine zw9 (by simp) (by first | (simp;done) | (simp;rfl)) (numZ x.addr 3 a0 (by omega) (by omega)) (by simp;rfl) ?_
    refine zd8 (t:=23) (t':=23) (e:=5) (sz:=1) (id:=1) (off:=9) (len:=7) (cap:=7) (ag:=false) (oy:=.any) (cs:=zd9 b1 k) (ys:=byL (numM 3 x.addr.toNat)) (yc:=byL (numM 3 x.addr.toNat)) (by simp) rfl rfl rfl rfl (by simp) (by simp) (by simp) (by omega) (by simp) (by simp [xj9,b1l]) (by rw [List.take_of_length_le (by simp)];exact xb8 _) ?_
    refine ⟨_,by simp;rfl,?_⟩
    refine yw9 (by simp [hb1p];rfl) ?_
    obtain ⟨b2,hb2⟩:∃ b2,putM b1 9 (numM 3 x.addr.toNat)=b2:=⟨_,rfl⟩
    have b2l:b2.length=16:=by rw [← hb2,xt9 _ _ _ (by simp;omega)];exact b1l
    rw [hb2]
    have hb2p:=jk9 b2 (numM 3 x.id.toNat) k 13 (by simp;omega)
    refine yt7 5 [3] mx (by decide +kernel) ?_
    refine yr9 4 (by simp;rfl) rfl ?_
    refine zw9 (by simp) (by first | (simp;done) | (simp;rfl)) (numZ x.id 3 i0 (by omega) (by omega)) (by simp;rfl) ?_
    refine zd8 (t:=23) (t':=23) (e:=5) (sz:=1) (id:=1) (off:=13) (len:=3) (cap:=3) (ag:=false) (oy:=.any) (cs:=zd9 b2 k) (ys:=byL (numM 3 x.id.toNat)) (yc:=byL (numM 3 x.id.toNat)) (by simp) rfl rfl rfl rfl (by simp) (by simp) (by simp) (by omega) (by simp) (by simp [xj9,b2l]) (by rw [List.take_of_length_le (by simp)];exact xb8 _) ?_
    refine ⟨_,by simp;rfl,?_⟩
    simp [runA,yj9,qp8,hb2p,qc9,esC,hb,hb1,hb2,c1,c2]
   ·refine yt9 [1, 3, 31] (by simp [c2]; rfl) ?_
    refine yp9 rfl (fun h=>absurd (by simpa using h) c2) (fun h=>?_)
    have hseg0:yf9 (zd9 b k) 8 [.v (.int .u8 2)]=zd9 (b.set 8 2) k:=by
     rw [← kr8 _ _ _ _ (by omega)]
     exact (ur9 _ _ _ (by rw [xj9];omega))
    refine zq9 [3] (by simp [xj9,hbl,h8];rfl) ?_
    simp [yj9,qp8,hseg0,qc9,esC,hb,c1,c2]
 rintro _ rfl
 refine yt9 [2] (by simp;rfl) ?_
 refine yn9 ?_
 repeat (first | refine yg9 ?_ | refine yh9 ?_)
 have hel:(qc9 x).length=16:=by
  unfold qc9
  rw [hb]
  split
  ·rw [xt9 _ _ _ (by rw [xt9 _ _ _ (by simp;omega)];simp;omega),xt9 _ _ _ (by simp;omega)];simpa using hbl
  ·split
   ·rw [xt9 _ _ _ (by rw [xt9 _ _ _ (by simp;omega)];simp;omega),xt9 _ _ _ (by simp;omega)];simpa using hbl
   ·simpa using hbl
 obtain ⟨o,hfz⟩:=ym3 (h:=[.cells 50 (esC x),.cells 5 (zd9 (qc9 x) k)]) 1 1 16 (qc9 x) k rfl hel
 exact ⟨_,by simp [retQ,hfz];exact ⟨rfl,by simp⟩,.inr (by simp)⟩
def getS (i : Int) : List (Int × Esd) → Option Esd
 | []=>none
 | (j,x) :: l=>if i=j then some x else getS i l
def updS (i : Int) (x : Esd) : List (Int × Esd) → List (Int × Esd)
 | []=>[(i,x)]
 | (j,y) :: l=>if i=j then (i,x) :: l else (j,y) :: updS i x l
def getN (s : List UInt8) : List (List UInt8 × Int) → Option Int
 | []=>none
 | (t,k) :: l=>if s=t then some k else getN s l
def updN (s : List UInt8) (k : Int) : List (List UInt8 × Int) → List (List UInt8 × Int)
 | []=>[(s,k)]
 | (t,m) :: l=>if s=t then (s,k) :: l else (t,m) :: updN s k l
def secE (l:List (Int × Esd)):List (Value × AV):=l.map fun p=>(.int .i64 p.1,esA p.2)
def namE (l:List (List UInt8 × Int)):List (Value × AV):=l.map fun p=>(.string ⟨p.1.toArray⟩,.v (.int .i64 p.2))
theorem ww6 (i : Int) : ∀ l : List (Int × Esd), mfind (.int .i64) (.int .i64 i) (secE l) = some ((getS i l).map esA)
 | []=>rfl
 | (j,x) :: l=>by
  have ih:=ww6 i l
  by_cases h:i=j
  ·simp [secE,mfind,Instr.sameNow,getS,h]
  ·simp only [secE,List.map_cons,mfind,Instr.sameNow,getS,if_neg h,if_true]
   rw [show (i == j)=false by simpa using h]
   exact ih
theorem yf5 (i : Int) (x : Esd) : ∀ l : List (Int × Esd), mset (.int .i64) (.int .i64 i) (esA x) (secE l) = some (secE (updS i x l))
 | []=>rfl
 | (j,y) :: l=>by
  have ih:=yf5 i x l
  by_cases h:i=j
  ·simp [secE,mset,Instr.sameNow,updS,h]
  ·simp only [secE,List.map_cons,mset,Instr.sameNow,updS,if_neg h,if_true]
   rw [show (i == j)=false by simpa using h]
   show Option.map _ (mset _ _ _ (secE l))=_
   rw [ih]
   rfl
theorem vv9 (a b:List UInt8):((ByteArray.mk a.toArray) == (ByteArray.mk b.toArray))=(a == b):=by
 rw [Bool.eq_iff_iff,MapKept.bytes_beq]
 simp
theorem wg7 (s : List UInt8) : ∀ l : List (List UInt8 × Int), mfind .string (.string ⟨s.toArray⟩) (namE l) = some ((getN s l).map fun k => .v (.int .i64 k))
 | []=>rfl
 | (t,k) :: l=>by
  have ih:=wg7 s l
  simp only [namE,List.map_cons,mfind,Instr.sameNow,getN,vv9]
  by_cases h:s=t
  ·simp [h]
  ·rw [show (s == t)=false by simpa using h,if_neg h]
   exact ih
theorem yg5 (s : List UInt8) (k : Int) : ∀ l : List (List UInt8 × Int), mset .string (.string ⟨s.toArray⟩) (.v (.int .i64 k)) (namE l) = some (namE (updN s k l))
 | []=>rfl
 | (t,m) :: l=>by
  have ih:=yg5 s k l
  simp only [namE,List.map_cons,mset,Instr.sameNow,updN,vv9]
  by_cases h:s=t
  ·simp [h]
  ·rw [show (s == t)=false by simpa using h,if_neg h]
   show Option.map _ (mset _ _ _ (namE l))=_
   rw [ih]
   rfl
def SOk (S:List (Int × Esd)):Prop:=∀ i x,getS i S=some x→0≤x.addr∧x.addr≤65536∧0≤x.len∧x.len≤65536
def zv6 (x:Esd) (at_ n:Int):Bool:=decide (x.addr≤at_)&&(decide (at_ - x.addr≤x.len)&&decide (n≤x.len - (at_ - x.addr)))
def yq8 (S:List (Int × Esd)) (id at_ n:Int):Bool:=match getS id S with
 | some x=>zv6 x at_ n
 | none=>false
abbrev HC (S:List (Int × Esd)) (N:List (List UInt8 × Int)) (nx:Int) (ob:List AV) (ys:List AObj):List AObj:=.cells 33 ob :: .map (secE S) :: .map (namE N) :: .cells 112 [.mp 1,.mp 2,.v (.int .i64 nx)] :: ys
theorem xq9 (m:Nat) (l:List (Int × Esd)):wt9 m (secE l)=true:=by
 induction l <;> simp_all [secE,wt9,AV.under,AV.underL,strB]
theorem xw9 (m:Nat) (l:List (List UInt8 × Int)):wt9 m (namE l)=true:=by
 induction l <;> simp_all [namE,wt9,AV.under,AV.underL,strB]
def i64r (x:Int):Prop:=-9223372036854775808≤x∧x≤9223372036854775807
theorem wj7 (S : List (Int × Esd)) (N : List (List UInt8 × Int)) (nx : Int) (ob : List AV) (ty : TypeId) (cs : List AV) (id at_ n : Int) (hS : SOk S) (ha : i64r at_) (hob : AV.underL 5 ob = true) (hy : AV.underL 5 cs = true) :
  wf9 Tryz.prog 56 [.loc 3 0,.v (.int .i64 id),.v (.int .i64 at_),.v (.int .i64 n)] (HC S N nx ob [.cells ty cs]) fun r h'=>r=.v (.bool (yq8 S id at_ n))∧h'=HC S N nx ob [.cells ty cs]:=by
 refine zv9 Tryz.func56 rfl (by decide +kernel) (by simp [Tryz.f56]) (rs:=[.tmp 8]) rfl ?_
 rw [show Tryz.f56.ntmps=47 from rfl]
 obtain ⟨ha0,ha1⟩:=ha
 have hfind:=ww6 id S
 refine yt9 [0,1,2,3] (by simp;rfl) ?_
 cases hg:getS id S with
 | none =>
  rw [hg] at hfind
  refine W_rK [2,3,9,10] ?_
  refine yq9 6 (by simp [jc9,uj7,wn8,hfind];rfl) rfl ?_
  refine yw9 (by simp;rfl) ?_
  refine W_rK [8] ?_
  iterate 4 refine yq9 6 (by simp;rfl) rfl ?_
  refine yw9 (by simp;rfl) ?_
  refine yn9 ?_
  repeat (first | refine yg9 ?_ | refine yh9 ?_)
  exact xd9 5 (by simp [resA];rfl) (by simp) (by simp) (by simp [AV.under,AV.underL,yc9,AObj.under,hob,hy,xq9,xw9]) (by simp [yq8,hg])
 | some x =>
  rw [hg] at hfind
  obtain ⟨b1,b2,b3,b4⟩:=hS id x hg
  refine W_rK [2,3,9,10] ?_
  refine yq9 6 (by simp [jc9,uj7,wn8,hfind];rfl) rfl ?_
  refine yw9 (by simp [yf9];rfl) ?_
  by_cases c1:x.addr≤at_
  ·have c1a : x.addr ≤ at_ := c1
   have w1:IntKind.i64.wrap (at_ - x.addr)=at_ - x.addr:=w64 (by omega) (by omega)
   by_cases c2:at_ - x.addr≤x.len
   ·have c2a : at_ - x.addr ≤ x.len := c2
    have w2:IntKind.i64.wrap (x.len - (at_ - x.addr))=x.len - (at_ - x.addr):=w64 (by omega) (by omega)
    by_cases c3:n≤x.len - (at_ - x.addr)
    ·refine W_rK [8] ?_
     iterate 4 refine yq9 6 (by simp [c1a,w1,c2a,w2,c3];rfl) rfl ?_
     refine yw9 (by simp [c1a,w1,c2a,w2,c3];rfl) ?_
     refine yn9 ?_
     repeat (first | refine yg9 ?_ | refine yh9 ?_)
     exact xd9 5 (by simp [resA];rfl) (by simp) (by simp) (by simp [AV.under,AV.underL,yc9,AObj.under,hob,hy,xq9,xw9]) (by simp [yq8,hg,zv6,c1a,w1,c2a,w2,c3])
    refine W_rK [8] ?_
    iterate 4 refine yq9 6 (by simp [c1a,w1,c2a,w2,c3];rfl) rfl ?_
    refine yw9 (by simp [c1a,w1,c2a,w2,c3];rfl) ?_
    refine yn9 ?_
    repeat (first | refine yg9 ?_ | refine yh9 ?_)
    exact xd9 5 (by simp [resA];rfl) (by simp) (by simp) (by simp [AV.under,AV.underL,yc9,AObj.under,hob,hy,xq9,xw9]) (by simp [yq8,hg,zv6,c1a,w1,c2a,w2,c3])
   refine W_rK [8] ?_
   iterate 4 refine yq9 6 (by simp [c1a,w1,c2];rfl) rfl ?_
   refine yw9 (by simp [c1a,w1,c2];rfl) ?_
   refine yn9 ?_
   repeat (first | refine yg9 ?_ | refine yh9 ?_)
   exact xd9 5 (by simp [resA];rfl) (by simp) (by simp) (by simp [AV.under,AV.underL,yc9,AObj.under,hob,hy,xq9,xw9]) (by simp [yq8,hg,zv6,c1a,w1,c2])
  refine W_rK [8] ?_
  iterate 4 refine yq9 6 (by simp [c1];rfl) rfl ?_
  refine yw9 (by simp [c1];rfl) ?_
  refine yn9 ?_
  repeat (first | refine yg9 ?_ | refine yh9 ?_)
  exact xd9 5 (by simp [resA];rfl) (by simp) (by simp) (by simp [AV.under,AV.underL,yc9,AObj.under,hob,hy,xq9,xw9]) (by simp [yq8,hg,zv6,c1])
def rule1 (nx:Int) (x:Esd):Bool:=decide (x.id=nx)&&(decide (0≤x.addr)&&(decide (0≤x.len)&&(decide (x.addr≤65536)&&(decide (x.len≤65536 - x.addr)&&(decide (x.name=[]) || symM x.name)))))
def rule2 (x:Esd):Bool:=decide (x.len=0)&&symM x.name
def rule3 (nx:Int) (x:Esd):Bool:=decide (x.id=nx)&&(decide (x.addr=0)&&(decide (x.len=0)&&symM x.name))
abbrev arrC:List AV:=[.v Value.nilFunc,.fn (.func 92) [] [.loc 4 0],.fn (.func 94) [] [],.fn (.func 95) [] [.loc 4 0]]
abbrev HQ (S:List (Int × Esd)) (N:List (List UInt8 × Int)) (nx:Int) (ob:List AV) (x:Esd):List AObj:=HC S N nx ob [.cells 108 [.loc 3 0],.cells 143 arrC,.cells 50 (esC x)]
theorem ql6 (S:List (Int × Esd)) (N:List (List UInt8 × Int)) (nx:Int) (ob:List AV) (x:Esd) (hob:AV.underL 7 ob=true) (hx:x.name.length≤9223372036854775807):wf9 Tryz.prog 92 [esA x,.loc 4 0] (HQ S N nx ob x) fun v h=>v=.v (.bool (rule1 nx x))∧h=HQ S N nx ob x:=by
 refine zv9 Tryz.func92 rfl (by decide +kernel) (by simp [Tryz.f92]) (rs:=[.tmp 3]) rfl ?_
 rw [show Tryz.f92.ntmps=44 from rfl]
 have hsym:=uc8 x.name (by omega)
 simp only [strB] at hsym
 refine yt9 [1,2] (by simp;rfl) ?_
 by_cases c1:x.id=nx
 ·have c1a : x.id = nx := c1
  by_cases c2:0≤x.addr
  ·by_cases c3 : 0 ≤ x.len
   ·by_cases c4 : x.addr ≤ 65536
    ·have c4a : x.addr ≤ 65536 := c4
     have w1:IntKind.i64.wrap (65536 - x.addr)=65536 - x.addr:=w64 (by omega) (by omega)
     by_cases c5:x.len≤65536 - x.addr
     ·by_cases c6 : x.name = []
      ·have c6a:x.name=[]:=c6
       refine jh9 [3] mx (by decide +kernel) ?_
       iterate 6 refine yr9 6 (by simp [strB,esC,c1a,c2,c3,c4a,w1,c5,c6a];rfl) rfl ?_
       refine yr9 1 (by simp [strB,esC,c1a,c2,c3,c4a,w1,c5,c6a];rfl) rfl ?_
       refine ym9 (by simp [c1a,c2,c3,c4a,w1,c5,c6a];rfl) ?_
       refine yn9 ?_
       repeat (first | refine yg9 ?_ | refine yh9 ?_)
       exact xd9 7 (by simp [resA];rfl) (by simp) (by simp) (by simp [AV.under,AV.underL,yc9,AObj.under,hob,xq9,xw9,esC,strB]) (by simp [esC,strB,rule1,c1a,c2,c3,c4a,w1,c5,c6a])
      have c6a:¬ x.name=[]:=c6
      have c6b:(x.name == [])=false:=beq_eq_false_iff_ne.2 c6
      refine jh9 [3] mx (by decide +kernel) ?_
      iterate 6 refine yr9 6 (by simp [strB,esC,c1a,c2,c3,c4a,w1,c5,c6a,c6b];rfl) rfl ?_
      refine yr9 1 (by simp [strB,esC,c1a,c2,c3,c4a,w1,c5,c6a,c6b];rfl) rfl ?_
      refine zw9 (by simp) (by first | (simp;done) | (simp;rfl)) hsym (by simp;rfl) ?_
      refine ym9 (by simp [c1a,c2,c3,c4a,w1,c5,c6a,c6b];rfl) ?_
      refine yn9 ?_
      repeat (first | refine yg9 ?_ | refine yh9 ?_)
      exact xd9 7 (by simp [resA];rfl) (by simp) (by simp) (by simp [AV.under,AV.underL,yc9,AObj.under,hob,xq9,xw9,esC,strB]) (by simp [esC,strB,rule1,c1a,c2,c3,c4a,w1,c5,c6a,c6b])
     refine jh9 [3] mx (by decide +kernel) ?_
     iterate 6 refine yr9 6 (by simp [strB,esC,c1a,c2,c3,c4a,w1,c5];rfl) rfl ?_
     refine yr9 1 (by simp [strB,esC,c1a,c2,c3,c4a,w1,c5];rfl) rfl ?_
     refine ym9 (by simp [c1a,c2,c3,c4a,w1,c5];rfl) ?_
     refine yn9 ?_
     repeat (first | refine yg9 ?_ | refine yh9 ?_)
     exact xd9 7 (by simp [resA];rfl) (by simp) (by simp) (by simp [AV.under,AV.underL,yc9,AObj.under,hob,xq9,xw9,esC,strB]) (by simp [esC,strB,rule1,c1a,c2,c3,c4a,w1,c5])
    refine jh9 [3] mx (by decide +kernel) ?_
    iterate 6 refine yr9 6 (by simp [strB,esC,c1a,c2,c3,c4];rfl) rfl ?_
    refine yr9 1 (by simp [strB,esC,c1a,c2,c3,c4];rfl) rfl ?_
    refine ym9 (by simp [c1a,c2,c3,c4];rfl) ?_
    refine yn9 ?_
    repeat (first | refine yg9 ?_ | refine yh9 ?_)
    exact xd9 7 (by simp [resA];rfl) (by simp) (by simp) (by simp [AV.under,AV.underL,yc9,AObj.under,hob,xq9,xw9,esC,strB]) (by simp [esC,strB,rule1,c1a,c2,c3,c4])
   refine jh9 [3] mx (by decide +kernel) ?_
   iterate 6 refine yr9 6 (by simp [strB,esC,c1a,c2,c3];rfl) rfl ?_
   refine yr9 1 (by simp [strB,esC,c1a,c2,c3];rfl) rfl ?_
   refine ym9 (by simp [c1a,c2,c3];rfl) ?_
   refine yn9 ?_
   repeat (first | refine yg9 ?_ | refine yh9 ?_)
   exact xd9 7 (by simp [resA];rfl) (by simp) (by simp) (by simp [AV.under,AV.underL,yc9,AObj.under,hob,xq9,xw9,esC,strB]) (by simp [esC,strB,rule1,c1a,c2,c3])
  refine jh9 [3] mx (by decide +kernel) ?_
  iterate 6 refine yr9 6 (by simp [strB,esC,c1a,c2];rfl) rfl ?_
  refine yr9 1 (by simp [strB,esC,c1a,c2];rfl) rfl ?_
  refine ym9 (by simp [c1a,c2];rfl) ?_
  refine yn9 ?_
  repeat (first | refine yg9 ?_ | refine yh9 ?_)
  exact xd9 7 (by simp [resA];rfl) (by simp) (by simp) (by simp [AV.under,AV.underL,yc9,AObj.under,hob,xq9,xw9,esC,strB]) (by simp [esC,strB,rule1,c1a,c2])
 have c1a:¬ x.id=nx:=c1
 have c1b:(x.id == nx)=false:=beq_eq_false_iff_ne.2 c1
 refine jh9 [3] mx (by decide +kernel) ?_
 iterate 6 refine yr9 6 (by simp [strB,esC,c1a,c1b];rfl) rfl ?_
 refine yr9 1 (by simp [strB,esC,c1a,c1b];rfl) rfl ?_
 refine ym9 (by simp [c1a,c1b];rfl) ?_
 refine yn9 ?_
 repeat (first | refine yg9 ?_ | refine yh9 ?_)
 exact xd9 7 (by simp [resA];rfl) (by simp) (by simp) (by simp [AV.under,AV.underL,yc9,AObj.under,hob,xq9,xw9,esC,strB]) (by simp [esC,strB,rule1,c1a,c1b])
theorem qk6 (S:List (Int × Esd)) (N:List (List UInt8 × Int)) (nx:Int) (ob:List AV) (x:Esd) (hob:AV.underL 7 ob=true) (hx:x.name.length≤9223372036854775807):wf9 Tryz.prog 94 [esA x] (HQ S N nx ob x) fun v h=>v=.v (.bool (rule2 x))∧h=HQ S N nx ob x:=by
 refine zv9 Tryz.func94 rfl (by decide +kernel) (by simp [Tryz.f94]) (rs:=[.tmp 2]) rfl ?_
 rw [show Tryz.f94.ntmps=11 from rfl]
 have hsym:=uc8 x.name (by omega)
 simp only [strB] at hsym
 refine yt9 [1] (by simp;rfl) ?_
 by_cases c1:x.len=0
 ·have c1a:x.len=0:=c1
  refine W_rK [2] ?_
  refine yq9 6 (by simp [strB,esC,c1a];rfl) rfl ?_
  refine yd9 (by simp) (by first | (simp;done) | (simp;rfl)) hsym (by simp;rfl) ?_
  refine yw9 (by simp [c1a];rfl) ?_
  refine yn9 ?_
  repeat (first | refine yg9 ?_ | refine yh9 ?_)
  exact xd9 7 (by simp [resA];rfl) (by simp) (by simp) (by simp [AV.under,AV.underL,yc9,AObj.under,hob,xq9,xw9,esC,strB]) (by simp [esC,strB,rule2,c1a])
 have c1a:¬ x.len=0:=c1
 have c1b:(x.len == 0)=false:=beq_eq_false_iff_ne.2 c1
 refine W_rK [2] ?_
 refine yq9 6 (by simp [strB,esC,c1a,c1b];rfl) rfl ?_
 refine yw9 (by simp [c1a,c1b];rfl) ?_
 refine yn9 ?_
 repeat (first | refine yg9 ?_ | refine yh9 ?_)
 exact xd9 7 (by simp [resA];rfl) (by simp) (by simp) (by simp [AV.under,AV.underL,yc9,AObj.under,hob,xq9,xw9,esC,strB]) (by simp [esC,strB,rule2,c1a,c1b])
theorem qj6 (S:List (Int × Esd)) (N:List (List UInt8 × Int)) (nx:Int) (ob:List AV) (x:Esd) (hob:AV.underL 7 ob=true) (hx:x.name.length≤9223372036854775807):wf9 Tryz.prog 95 [esA x,.loc 4 0] (HQ S N nx ob x) fun v h=>v=.v (.bool (rule3 nx x))∧h=HQ S N nx ob x:=by
 refine zv9 Tryz.func95 rfl (by decide +kernel) (by simp [Tryz.f95]) (rs:=[.tmp 3]) rfl ?_
 rw [show Tryz.f95.ntmps=26 from rfl]
 have hsym:=uc8 x.name (by omega)
 simp only [strB] at hsym
 refine yt9 [1,2] (by simp;rfl) ?_
 by_cases c1:x.id=nx
 ·have c1a : x.id = nx := c1
  by_cases c2:x.addr=0
  ·have c2a : x.addr = 0 := c2
   by_cases c3:x.len=0
   ·have c3a:x.len=0:=c3
    refine jh9 [3] mx (by decide +kernel) ?_
    iterate 3 refine yr9 6 (by simp [strB,esC,c1a,c2a,c3a];rfl) rfl ?_
    refine yr9 2 (by simp [strB,esC,c1a,c2a,c3a];rfl) rfl ?_
    refine zw9 (by simp) (by first | (simp;done) | (simp;rfl)) hsym (by simp;rfl) ?_
    refine ym9 (by simp [c1a,c2a,c3a];rfl) ?_
    refine yn9 ?_
    repeat (first | refine yg9 ?_ | refine yh9 ?_)
    exact xd9 7 (by simp [resA];rfl) (by simp) (by simp) (by simp [AV.under,AV.underL,yc9,AObj.under,hob,xq9,xw9,esC,strB]) (by simp [esC,strB,rule3,c1a,c2a,c3a])
   have c3a:¬ x.len=0:=c3
   have c3b:(x.len == 0)=false:=beq_eq_false_iff_ne.2 c3
   refine jh9 [3] mx (by decide +kernel) ?_
   iterate 3 refine yr9 6 (by simp [strB,esC,c1a,c2a,c3a,c3b];rfl) rfl ?_
   refine yr9 2 (by simp [strB,esC,c1a,c2a,c3a,c3b];rfl) rfl ?_
   refine ym9 (by simp [c1a,c2a,c3a,c3b];rfl) ?_
   refine yn9 ?_
   repeat (first | refine yg9 ?_ | refine yh9 ?_)
   exact xd9 7 (by simp [resA];rfl) (by simp) (by simp) (by simp [AV.under,AV.underL,yc9,AObj.under,hob,xq9,xw9,esC,strB]) (by simp [esC,strB,rule3,c1a,c2a,c3a,c3b])
  have c2a:¬ x.addr=0:=c2
  have c2b:(x.addr == 0)=false:=beq_eq_false_iff_ne.2 c2
  refine jh9 [3] mx (by decide +kernel) ?_
  iterate 3 refine yr9 6 (by simp [strB,esC,c1a,c2a,c2b];rfl) rfl ?_
  refine yr9 2 (by simp [strB,esC,c1a,c2a,c2b];rfl) rfl ?_
  refine ym9 (by simp [c1a,c2a,c2b];rfl) ?_
  refine yn9 ?_
  repeat (first | refine yg9 ?_ | refine yh9 ?_)
  exact xd9 7 (by simp [resA];rfl) (by simp) (by simp) (by simp [AV.under,AV.underL,yc9,AObj.under,hob,xq9,xw9,esC,strB]) (by simp [esC,strB,rule3,c1a,c2a,c2b])
 have c1a:¬ x.id=nx:=c1
 have c1b:(x.id == nx)=false:=beq_eq_false_iff_ne.2 c1
 refine jh9 [3] mx (by decide +kernel) ?_
 iterate 3 refine yr9 6 (by simp [strB,esC,c1a,c1b];rfl) rfl ?_
 refine yr9 2 (by simp [strB,esC,c1a,c1b];rfl) rfl ?_
 refine ym9 (by simp [c1a,c1b];rfl) ?_
 refine yn9 ?_
 repeat (first | refine yg9 ?_ | refine yh9 ?_)
 exact xd9 7 (by simp [resA];rfl) (by simp) (by simp) (by simp [AV.under,AV.underL,yc9,AObj.under,hob,xq9,xw9,esC,strB]) (by simp [esC,strB,rule3,c1a,c1b])
theorem wb5 (S:List (Int × Esd)) (N:List (List UInt8 × Int)) (nx:Int) (ob:List AV) (hob:AV.underL 5 ob=true):wf9 Tryz.prog 79 [.loc 3 0] (HC S N nx ob []) fun v h=>v=.agg arrC∧h=HC S N nx ob [.cells 108 [.loc 3 0]]:=by
 refine zv9 Tryz.func79 rfl (by decide +kernel) (by simp [Tryz.f79]) (rs:=[.cell 2 143]) rfl ?_
 rw [show Tryz.f79.ntmps=6 from rfl]
 refine yt9 [1,2] (by simp;rfl) ?_
 refine yt9 [2] (by simp [yf9];rfl) ?_
 refine yn9 ?_
 repeat (first | refine yg9 ?_ | refine yh9 ?_)
 exact xd9 5 (by simp [resA];rfl) (by simp) (by simp) (by simp [AV.under,AV.underL,yc9,AObj.under,hob,xq9,xw9]) (by simp)
end Go.AM
