/- Parts of the walk: C24U C24UA C24UC C24UB C24UD C24VB C24VC C24WC C24VD C24WD C24VE. -/
import Derived.Test.YthjcnajpcphcpaaGreatG9
namespace Go.AM
open Go.RowKit Go.Proofs
set_option linter.unusedSimpArgs false
set_option linter.unusedVariables false
set_option maxHeartbeats 8000000
set_option maxRecDepth 20000
theorem zv6 (n:Nat):IntKind.u8.wrap (n:Int)=((UInt8.ofNat n).toNat:Int):=by
 rw [IntKind.wrap_u8,UInt8.toNat_ofNat']
 omega
theorem rhalf_sound (t:Nat) (ht:t < 65536):Sound Tryz.prog 120 [.v (.int .i64 (t:Nat))] (.lst .any 1 (byL [UInt8.ofNat (t / 256),UInt8.ofNat t])):=by
 refine vk9 Tryz.func120 rfl (by decide +kernel) (by simp [Tryz.f120]) rfl rfl (rs:=[.tmp 2]) rfl ?_
 rw [show Tryz.f120.ntmps=10 from rfl]
 have h1:Int.tdiv (t:Int) 256=((t / 256:Nat):Int):=by rw [Int.tdiv_eq_ediv_of_nonneg (by omega)];omega
 have h2:Int.tmod (t:Int) 256=((t % 256:Nat):Int):=by rw [Int.tmod_eq_emod_of_nonneg (by omega)];omega
 have w1:IntKind.i64.wrap ((t / 256:Nat):Int)=((t / 256:Nat):Int):=w64 (by omega) (by omega)
 have w2:IntKind.i64.wrap ((t % 256:Nat):Int)=((t % 256:Nat):Int):=w64 (by omega) (by omega)
 have e1:=zv6 (t / 256)
 have e2:IntKind.u8.wrap ((t % 256:Nat):Int)=((UInt8.ofNat t).toNat:Int):=by rw [zv6,UInt8.toNat_ofNat',UInt8.toNat_ofNat'];congr 1;omega
 obtain ⟨q,hq⟩:∃ q,t / 256=q:=⟨_,rfl⟩
 obtain ⟨r,hr⟩:∃ r,t % 256=r:=⟨_,rfl⟩
 rw [hq] at h1 w1 e1 ⊢
 rw [hr] at h2 w2 e2
 refine yr9 [0,2] (by simp;rfl) ?_
 refine W_rK [2] ?_
 refine yq9 3 (by simp [h1,w1,e1];rfl) rfl ?_
 refine yq9 3 (by simp [h2,w2,e2];rfl) rfl ?_
 refine yw9 (by simp [catK,AV.cellsK,AV.kone,AV.koneL];rfl) ?_
 refine yj9 ?_
 repeat (first | refine yp9 ?_ | refine ys9 ?_)
 exact ⟨_,by simp [retQ];exact ⟨rfl,by simp [AV.rf,AV.rfL]⟩,.inr (by simp [AV.plain,AV.plainL,xd9])⟩
structure BytC (H:List AObj) (q cap:Nat) (d:List UInt8):Prop where
 n:d.length≤cap
 mx:cap≤maxLen
 o:∃ z,z.length=cap - d.length∧H[q]?=some (.cells 5 (byL (d++z)))
theorem BytC.app {s s1 : St} {x1 : AV} {q cap m : Nat} {d y : List UInt8} {cs : List AV} (h : BytC s.h q cap d) (hcs : s.h[q]? = some (.cells 5 cs)) (hm : m = y.length) (ha : appQ0 s 5 1 q d.length cap m (byL y) cs [.v (.int .u8 0)] s1 x1) :
  ∃ q' cap' h',x1=.arr q' 0 (d++y).length cap'∧s1={ s with h:=h' }∧BytC h' q' cap' (d++y)∧(∀ k,k≠q→k < s.h.length→h'[k]?=s.h[k]?)∧s.h.length≤h'.length∧(q'=q∨q'=s.h.length)∧(∀ k,s.h.length < k→h'[k]?=none):=by
 obtain ⟨z,hz,hq⟩:=h.o
 have hn:=h.n
 rw [hcs] at hq
 have hcs2:cs=byL (d++z):=by
  have:=Option.some.inj hq
  injection this
 subst hcs2
 subst hm
 have hql:=(List.getElem?_eq_some_iff.1 hcs).1
 rcases ha with ⟨hr,rfl,rfl⟩ | ⟨hr,cap',hc1,hc2,rfl,rfl⟩
 ·refine ⟨q, cap, _, by rw [List.length_append], rfl, ⟨by rw [List.length_append]; exact hr, h.mx, z.drop y.length, by rw [List.length_drop, List.length_append, hz]; omega, ?_⟩, ?_, by simp, .inl rfl, ?_⟩
  ·rw [List.getElem?_set,if_pos rfl,if_pos hql]
   congr 2
   rw [Nat.mul_one,yk9,← qs9,← zt8,wq9,List.take_left' rfl,List.drop_append,List.drop_eq_nil_of_le (by omega),Nat.add_sub_cancel_left,List.nil_append,← xp9,← xp9]
  ·intro k hk _
   rw [List.getElem?_set,if_neg (Ne.symm hk)]
  ·intro k hk
   rw [List.getElem?_eq_none (by simp;omega)]
 ·refine ⟨s.h.length, cap', _, by rw [List.length_append], rfl, ⟨by rw [List.length_append]; exact hc1, hc2, List.replicate (cap' - (d.length + y.length)) 0, by rw [List.length_replicate, List.length_append], ?_⟩, ?_, by simp, .inr rfl, ?_⟩
  ·rw [List.getElem?_append_right (Nat.le_refl _),Nat.sub_self,Nat.mul_one,← qs9,List.take_left' rfl,js9,← xp9,← xp9]
   rfl
  ·intro k _ hk
   rw [List.getElem?_append_left hk]
  ·intro k hk
   rw [List.getElem?_eq_none (by simp;omega)]
end Go.AM
namespace Go.AM
open Go.RowKit Go.Proofs
set_option linter.unusedSimpArgs false
set_option linter.unusedVariables false
set_option maxHeartbeats 8000000
set_option maxRecDepth 20000
noncomputable def rbC:Code:=Tryz.f85.body.getD .skip
noncomputable def rbB:Code:=bkC (sq1 (sq2 (lpC (bkC (sq2 (sq1 (sq2 (sq2 (sq2 rbC)))))))))
def zr100:List AV:=[.v (.int .i64 0),.lst .nil 1 [],.lst .nil 1 [],.v (.bool false)]
def rbS (l:List SE) (n i q cap:Nat) (d K:List UInt8) (H:List AObj):St:=⟨86,[(0,.lst .any 3 (seL l)),(1,.v (.int .i64 (n:Nat))),(4,.loc 0 0),(5,.arr q 0 d.length cap),(6,.lst .any 1 (byL K)),(7,.v (.int .i64 (i:Nat)))],H⟩
structure rbH (H:List AObj) (q cap:Nat) (d:List UInt8):Prop where
 b:BytC H q cap d
 q:0 < q
 o:H[0]?=some (.cells 100 zr100)
theorem rb_one {l : List SE} {n i q cap : Nat} {d K : List UInt8} {H : List AObj} (h : rbH H q cap d) {e : RE} (he : l[i]? = some (nmE e)) (h8 : e.key.length = 8) (hs : symM (nmM e.key) = true) (ht : e.trk < 65536) (hr : e.rn < 256) (hd : d.length ≤ 1000) (hl : l.length ≤ 1000000000) (hn : n ≤ 1000000)
  {Q:Exit→St→Prop} (hQ:∀ H' q' cap',rbH H' q' cap' (d++entB e)→Q .normal (rbS l n i q' cap' (d++entB e) (if 21 * n+21 < l.length then e.key else K) H')):Wt true 0 Tryz.prog rbB Q (rbS l n i q cap d K H):=by
 obtain ⟨c,hge⟩:=List.getElem?_eq_some_iff.1 he
 have ci:(i:Int) < l.length:=by omega
 obtain ⟨ha,hs1,hs8⟩:=vp9 hs
 have hpd:=vs8 (nmM e.key) hs1 hs8 ha
 rw [qt7 h8 hs] at hpd
 have hhf:=rhalf_sound e.trk ht
 obtain ⟨S,hS⟩:∃ S,strB (nmM e.key)=S:=⟨_,rfl⟩
 have hSv:∃ u,S=.v u:=⟨_,hS.symm⟩
 rw [hS] at hpd
 obtain ⟨u,rfl⟩:=hSv
 have hsA:seA (nmE e)=.agg [.v u,.v (.int .i64 (e.trk:Nat)),.v (.int .i64 (e.rn:Nat))]:=by rw [← hS];rfl
 have hw:IntKind.u8.wrap (e.rn:Int)=(e.rn:Int):=by rw [IntKind.wrap_u8];omega
 obtain ⟨z,hz,ho⟩:=h.b.o
 have hbn:=h.b.n
 have hql:=(List.getElem?_eq_some_iff.1 ho).1
 unfold rbS
 refine W_rK [0,1,4,5,6,7] ?_
 refine yq9 6 (by simp [c,ci,hge,hsA];rfl) rfl ?_
 refine yf9 (by simp) (by first | (simp;done) | (simp;rfl)) hpd (by simp;rfl) ?_
 refine un9 (t:=90) (e:=5) (sz:=1) (by_:=1) (id:=q) (len:=d.length) (cap:=cap) (m:=e.key.length) (cs:=byL (d++z)) (yc:=byL e.key) (by simp) rfl rfl rfl rfl (by simp) (by simp [srcA,qt9]) s90 a5 z5 (by simp) (by simp [ho]) (by rw [wq9,List.length_append,hz];omega) (by omega) ?_
 intro s1 x1 ha1
 obtain ⟨q1,cap1,h1,rfl,rfl,hB1,hf1,hl1,hq1,_⟩:=h.b.app ho rfl ha1
 have hq1':q1=q∨q1=H.length:=hq1
 have hf1':∀ k,k≠q→k < H.length→h1[k]?=H[k]?:=hf1
 have hl1':H.length≤h1.length:=hl1
 have hqp:=h.q
 have hq1p:0 < q1:=by omega
 have ho1:h1[0]?=some (.cells 100 zr100):=by rw [hf1' 0 (by omega) (by omega)];exact h.o
 obtain ⟨d1,hd1⟩:∃ d1,d++e.key=d1:=⟨_,rfl⟩
 rw [hd1] at hB1 ⊢
 have hd1l:d1.length=d.length+8:=by rw [← hd1,List.length_append,h8]
 refine ⟨_,by simp;rfl,?_⟩
 refine yw9 (by simp;rfl) ?_
 obtain ⟨z1,hz1,hoo1⟩:=hB1.o
 have hbn1:=hB1.n
 obtain ⟨hf,hhfe⟩:∃ hf,[UInt8.ofNat (e.trk / 256),UInt8.ofNat e.trk]=hf:=⟨_,rfl⟩
 rw [hhfe] at hhf
 have hhfl:hf.length=2:=by rw [← hhfe];rfl
 refine W_rK [0,1,4,5,6,7] ?_
 refine yq9 6 (by simp [c,ci,hge,hsA];rfl) rfl ?_
 refine yf9 (by simp) (by first | (simp;done) | (simp;rfl)) hhf (by simp;rfl) ?_
 refine un9 (t:=90) (e:=5) (sz:=1) (by_:=1) (id:=q1) (len:=d1.length) (cap:=cap1) (m:=hf.length) (cs:=byL (d1++z1)) (yc:=byL hf) (by simp) rfl rfl rfl rfl (by simp) (by simp [srcA,qt9]) s90 a5 z5 (by simp) (by simp [hoo1]) (by rw [wq9,List.length_append,hz1];omega) (by omega) ?_
 intro s1 x1 ha2
 obtain ⟨q2,cap2,h2,rfl,rfl,hB2,hf2,hl2,hq2,_⟩:=hB1.app hoo1 rfl ha2
 have hq2':q2=q1∨q2=h1.length:=hq2
 have hf2':∀ k,k≠q1→k < h1.length→h2[k]?=h1[k]?:=hf2
 have hl2':h1.length≤h2.length:=hl2
 have hq2p:0 < q2:=by omega
 have ho2:h2[0]?=some (.cells 100 zr100):=by rw [hf2' 0 (by omega) (by omega)];exact ho1
 obtain ⟨d2,hd2⟩:∃ d2,d1++hf=d2:=⟨_,rfl⟩
 rw [hd2] at hB2 ⊢
 have hd2l:d2.length=d1.length+2:=by rw [← hd2,List.length_append,hhfl]
 refine ⟨_,by simp;rfl,?_⟩
 refine yw9 (by simp;rfl) ?_
 obtain ⟨z2,hz2,hoo2⟩:=hB2.o
 have hbn2:=hB2.n
 have hq2l:=(List.getElem?_eq_some_iff.1 hoo2).1
 refine W_rK [0,1,4,5,6,7] ?_
 refine yq9 7 (by simp [c,ci,hge,hsA,hw];rfl) rfl ?_
 refine kl9 (by simp) ⟨_,by simp [qk9,yf7,catK,AV.cellsK,AV.kone,AV.koneL,show List.range 2=[0,1] from rfl];rfl,?_⟩
 have hrb:[AV.v (.int .u8 (e.rn:Nat)),AV.v (.int .u8 0)]=byL [UInt8.ofNat e.rn,0]:=by
  have:(UInt8.ofNat e.rn).toNat=e.rn:=by rw [UInt8.toNat_ofNat'];omega
  simp [xd9,this]
 have hB2x:BytC (h2++[.cells 5 [AV.v (.int .u8 (e.rn:Nat)),AV.v (.int .u8 0)]]) q2 cap2 d2:=⟨hbn2,hB2.mx,z2,hz2,by rw [List.getElem?_append_left hq2l];exact hoo2⟩
 have hoo2x:(h2++[.cells 5 [AV.v (.int .u8 (e.rn:Nat)),AV.v (.int .u8 0)]])[q2]?=some (AObj.cells 5 (byL (d2++z2))):=by rw [List.getElem?_append_left hq2l];exact hoo2
 refine un9 (t:=90) (e:=5) (sz:=1) (by_:=1) (id:=q2) (len:=d2.length) (cap:=cap2) (m:=([UInt8.ofNat e.rn,0]:List UInt8).length) (cs:=byL (d2++z2)) (yc:=byL [UInt8.ofNat e.rn,0]) (by simp) rfl rfl rfl rfl (by simp) (by simp [srcA,← hrb]) s90 a5 z5 (by simp) hoo2x (by rw [wq9,List.length_append,hz2];omega) (by rw [hd2l,hd1l];simp;omega) ?_
 intro s1 x1 ha3
 obtain ⟨q3,cap3,h3,rfl,rfl,hB3,hf3,hl3,hq3,_⟩:=BytC.app (s:=⟨86,_,h2++[.cells 5 [AV.v (.int .u8 (e.rn:Nat)),AV.v (.int .u8 0)]]⟩) hB2x hoo2x rfl ha3
 have hq3':q3=q2∨q3=h2.length+1:=by simpa using hq3
 have hf3':∀ k,k≠q2→k < h2.length→h3[k]?=h2[k]?:=by
  intro k hk1 hk2
  have:=hf3 k hk1 (by simp;omega)
  rw [this]
  exact List.getElem?_append_left hk2
 have hq3p:0 < q3:=by omega
 have ho3:h3[0]?=some (.cells 100 zr100):=by rw [hf3' 0 (by omega) (by omega)];exact ho2
 obtain ⟨d3,hd3⟩:∃ d3,d2++[UInt8.ofNat e.rn,0]=d3:=⟨_,rfl⟩
 rw [hd3] at hB3 ⊢
 have hdE:d++entB e=d3:=by rw [← hd3,← hd2,← hd1,← hhfe,entB];simp
 rw [hdE] at hQ
 have hfin:=hQ h3 q3 cap3 ⟨hB3,hq3p,ho3⟩
 refine ⟨_,by simp;rfl,?_⟩
 refine yw9 (by simp;rfl) ?_
 have wb1:IntKind.i64.wrap (21 * (n:Int))=21 * (n:Int):=w64 (by omega) (by omega)
 have wb2:IntKind.i64.wrap (21 * (n:Int)+21)=21 * (n:Int)+21:=w64 (by omega) (by omega)
 by_cases c21:21 * n+21 < l.length
 ·have c21i:21 * (n:Int)+21 < (l.length:Nat):=by omega
  rw [if_pos c21] at hfin
  refine yr9 [0,1,4,5,6,7,55] (by simp [wb1,wb2,c21,c21i];rfl) ?_
  refine yt9 (t:=true) (by simp [c21,c21i]) (fun h=>?_) (fun h=>by simp at h)
  refine W_rE [0,1,4,5,6,7] ?_
  refine yq9 5 (by simp [c,ci,hge,hsA];rfl) rfl ?_
  refine yf9 (by simp) (by first | (simp;done) | (simp;rfl)) hpd (by simp;rfl) ?_
  refine yw9 (by simp;rfl) ?_
  exact hfin
 ·have c21i:¬ 21 * (n:Int)+21 < (l.length:Nat):=by omega
  rw [if_neg c21] at hfin
  refine yr9 [0,1,4,5,6,7,55] (by simp [wb1,wb2,c21,c21i];rfl) ?_
  refine yt9 (t:=false) (by simp [c21,c21i]) (fun h=>by simp at h) (fun h=>?_)
  refine ym9 [0,1,4,5,6,7] ?_
  refine yg9 ?_
  exact hfin
end Go.AM
namespace Go.AM
open Go.RowKit Go.Proofs
set_option linter.unusedSimpArgs false
set_option linter.unusedVariables false
set_option maxHeartbeats 8000000
set_option maxRecDepth 20000
noncomputable def rbT:Code:=sq2 (sq2 (sq2 (sq2 rbC)))
def rbR (n k:Nat) (K body:List UInt8):Rec:=⟨((n % 6+1:Nat):Int),K,[0,UInt8.ofNat (2+12 * k)]++body++List.replicate (254 - 12 * k) 0,false⟩
theorem rb_tail {H : List AObj} {q cap n k : Nat} {K body : List UInt8} (h : rbH H q cap ([0, 0] ++ body)) (hbl : body.length = 12 * k) (hk : k ≤ 21) (hn : n ≤ 1000000) :
  Wt true 0 Tryz.prog rbT (retN Tryz.prog [.cell 4 100] (recA (rbR n k K body))) ⟨86,[(1,.v (.int .i64 (n:Nat))),(4,.loc 0 0),(5,.arr q 0 (2+12 * k) cap),(6,.lst .any 1 (byL K))],H⟩:=by
 obtain ⟨z,hz,ho⟩:=h.b.o
 have hbn:=h.b.n
 have hqp:=h.q
 have hql:=(List.getElem?_eq_some_iff.1 ho).1
 have hdl:([0,0]++body:List UInt8).length=2+12 * k:=by rw [List.length_append,hbl];rfl
 rw [hdl] at hbn hz
 obtain ⟨c,hc⟩:∃ c,2+12 * k=c:=⟨_,rfl⟩
 have hc2:2≤c:=by omega
 have hc254:c≤254:=by omega
 rw [hc] at hbn hz ⊢
 have t1:Int.tdiv (c:Int) 256=0:=by rw [Int.tdiv_eq_ediv_of_nonneg (by omega)];omega
 have t2:Int.tmod (c:Int) 256=(c:Int):=by rw [Int.tmod_eq_emod_of_nonneg (by omega)];omega
 have w2:IntKind.i64.wrap (c:Int)=(c:Int):=w64 (by omega) (by omega)
 have w3:IntKind.u8.wrap (c:Int)=(c:Int):=by rw [IntKind.wrap_u8];omega
 have p0:0 < c:=by omega
 have p0i:(0:Int) < (c:Int):=by omega
 have p1:1 < c:=by omega
 have p1i:(1:Int) < (c:Int):=by omega
 have hcl:(byL (([0,0]++body)++z)).length=2+body.length+z.length:=by rw [wq9,List.length_append,List.length_append];rfl
 have l1:1≤body.length+z.length+1+1:=by omega
 refine W_rK [1,4,5,6] ?_
 refine yq9 6 (by simp [t1,show IntKind.i64.wrap 0=0 from by decide,show IntKind.u8.wrap 0=0 from by decide];rfl) rfl ?_
 refine yq9 4 (by simp [t2,w2,w3];rfl) rfl ?_
 refine yq9 2 (by simp [p0,p0i,ho];rfl) rfl ?_
 have hset0:yk9 (byL (0 :: 0 :: (body++z))) 0 [AV.v (.int .u8 0)]=byL (0 :: 0 :: (body++z)):=by simp [yk9,xd9]
 have hcc:((UInt8.ofNat c).toNat:Int)=(c:Int):=by rw [UInt8.toNat_ofNat'];omega
 have hset1:yk9 (byL (0 :: 0 :: (body++z))) 1 [AV.v (.int .u8 (c:Int))]=byL (0 :: UInt8.ofNat c :: (body++z)):=by simp only [yk9,xd9,hcc];rfl
 rw [hset0]
 refine yw9 (by simp [p1,p1i,hql,List.getElem?_set];rfl) ?_
 rw [hset1]
 obtain ⟨H2,hH2⟩:∃ H2,H.set q (AObj.cells 5 (byL (0 :: UInt8.ofNat c :: (body++z))))=H2:=⟨_,rfl⟩
 have hB2:rbH H2 q cap ([0,UInt8.ofNat c]++body):=by
  refine ⟨⟨?_,h.b.mx,z,?_,?_⟩,hqp,?_⟩
  ·rw [List.length_append,hbl];simp <;> omega
  ·rw [List.length_append,hbl,hz,← hc];simp <;> omega
  ·rw [← hH2,List.getElem?_set,if_pos rfl,if_pos hql];rfl
  ·rw [← hH2,List.getElem?_set,if_neg (by omega)];exact h.o
 rw [hH2]
 clear hz ho hset0 hset1 hcl
 refine yh9 ?_
 refine yl9 ?_
 have hD:rbR n k K body=⟨((n % 6+1:Nat):Int),K,[0,UInt8.ofNat c]++body++List.replicate (254 - 12 * k) 0,false⟩:=by rw [← hc];rfl
 rw [hD]
 refine zj9 (fun y σ => ∃ (r q cap : Nat) (H : List AObj) (d : List UInt8), y = 254 - 12 * k - r ∧ r ≤ 254 - 12 * k ∧ [0, UInt8.ofNat c] ++ body ++ List.replicate r 0 = d ∧ rbH H q cap d ∧ σ = ⟨86, [(1, .v (.int .i64 (n : Nat))), (4, .loc 0 0), (5, .arr q 0 d.length cap), (6, .lst .any 1 (byL K))], H⟩) (k := 254 - 12 * k)
  ⟨0,q,cap,H2,[0,UInt8.ofNat c]++body,rfl,by omega,by simp,hB2,by rw [show ([0,UInt8.ofNat c]++body).length=c by rw [List.length_append,hbl,← hc];rfl];rfl⟩ ?_
 clear hB2 hH2 hbn hql
 rintro y σ ⟨r,q,cap,H,d,rfl,hr,hd,hB,rfl⟩
 have hdl:d.length=c+r:=by rw [← hd,List.length_append,List.length_append,hbl,List.length_replicate,← hc];simp <;> omega
 refine yh9 ?_
 by_cases cr:r < 254 - 12 * k
 ·have c256 : d.length < 256 := by omega
  have c256i:(d.length:Int) < 256:=by omega
  obtain ⟨z,hz,ho⟩:=hB.b.o
  have hbn:=hB.b.n
  have hql:=(List.getElem?_eq_some_iff.1 ho).1
  refine yr9 [1,4,5,6,76] (by simp [c256,c256i];rfl) ?_
  refine yt9 (t:=true) (by simp [c256,c256i]) (fun h=>?_) (fun h=>by simp at h)
  refine yg9 ?_
  repeat (first | refine on_norm ?_ | refine in_norm ?_)
  refine yl9 ?_
  refine W_rE [1,4,5,6] ?_
  refine yq9 1 (by simp;rfl) rfl ?_
  refine kl9 (by simp) ⟨_,by simp [qk9,yf7,catK,AV.cellsK,AV.kone,AV.koneL];rfl,?_⟩
  have hBx:BytC (H++[.cells 5 [AV.v (.int .u8 0)]]) q cap d:=⟨hbn,hB.b.mx,z,hz,by rw [List.getElem?_append_left hql];exact ho⟩
  have hox:(H++[.cells 5 [AV.v (.int .u8 0)]])[q]?=some (AObj.cells 5 (byL (d++z))):=by rw [List.getElem?_append_left hql];exact ho
  refine un9 (t:=90) (e:=5) (sz:=1) (by_:=1) (id:=q) (len:=d.length) (cap:=cap) (m:=([0]:List UInt8).length) (cs:=byL (d++z)) (yc:=byL [0]) (by simp) rfl rfl rfl rfl (by simp) (by simp [srcA,xd9]) s90 a5 z5 (by simp) hox (by rw [wq9,List.length_append,hz];omega) (by simp;omega) ?_
  intro s1 x1 ha3
  obtain ⟨q3,cap3,h3,rfl,rfl,hB3,hf3,hl3,hq3,_⟩:=BytC.app (s:=⟨86,_,H++[.cells 5 [AV.v (.int .u8 0)]]⟩) hBx hox rfl ha3
  have hq3':q3=q∨q3=H.length+1:=by simpa using hq3
  have hqp:=hB.q
  have ho3:h3[0]?=some (.cells 100 zr100):=by
   rw [hf3 0 (by omega) (by simp)]
   simp only
   rw [List.getElem?_append_left (by omega)]
   exact hB.o
  have hd3:[0,UInt8.ofNat c]++body++List.replicate (r+1) 0=d++[0]:=by rw [← hd,List.replicate_succ',List.append_assoc,List.append_assoc,List.append_assoc]
  obtain ⟨d3,hd3'⟩:∃ d3,d++[0]=d3:=⟨_,rfl⟩
  rw [hd3'] at hB3 hd3 ⊢
  refine ⟨_,by simp;rfl,?_⟩
  refine yw9 (by simp;rfl) ?_
  repeat (first | refine on_norm ?_ | refine in_norm ?_)
  exact ⟨_,by omega,r+1,q3,cap3,h3,d3,rfl,by omega,hd3,⟨hB3,by omega,ho3⟩,rfl⟩
 ·have hre:r=254 - 12 * k:=by omega
  subst hre
  rw [hd]
  have hdl2:d.length=256:=by omega
  rw [hdl2]
  refine yr9 [1,4,5,6,76] (by simp;rfl) ?_
  refine yt9 (t:=false) (by simp) (fun h=>by simp at h) (fun h=>?_)
  refine ym9 [1,4,5,6] ?_
  refine zs9 ?_
  repeat (first | refine on_exit ?_ | refine in_exit ?_)
  have wr1:Int.tmod (n:Int) 6=((n % 6:Nat):Int):=by rw [Int.tmod_eq_emod_of_nonneg (by omega)];omega
  have wr2:IntKind.i64.wrap (((n % 6:Nat):Int)+1)=((n % 6+1:Nat):Int):=by rw [w64 (by omega) (by omega)];omega
  obtain ⟨i6,hi6⟩:∃ i6,n % 6=i6:=⟨_,rfl⟩
  rw [hi6] at wr1 wr2 ⊢
  have ho:=hB.o
  have hql:0 < H.length:=(List.getElem?_eq_some_iff.1 ho).1
  refine W_rK [4] ?_
  refine yq9 5 (by simp [wr1,wr2];rfl) rfl ?_
  refine yw9 (by simp [yk9,ho,zr100];rfl) ?_
  refine yj9 ?_
  repeat (first | refine yp9 ?_ | refine ys9 ?_)
  obtain ⟨z,hz,hoq⟩:=hB.b.o
  have hqp:=hB.q
  have hq2:(H.set 0 (AObj.cells 100 [.v (.int .i64 ((i6:Int)+1)),.lst .any 1 (byL K),.arr q 0 256 cap,.v (.bool false)]))[q]?=some (.cells 5 (byL (d++z))):=by rw [List.getElem?_set,if_neg (by omega)];exact hoq
  obtain ⟨o,hoo,hfz⟩:=frz_by2 (n:=256) (cq:=cap) hq2 (by rw [List.length_append,hdl2];omega)
  rw [List.take_left' hdl2] at hfz
  rcases hoo with rfl | rfl
  all_goals exact ⟨_,by simp [retQ,frzV,frzL,hfz,hql];exact ⟨rfl,by simp [AV.rf,AV.rfL]⟩,.inr (by simp [AV.plain,AV.plainL])⟩
end Go.AM
namespace Go.AM
open Go.RowKit Go.Proofs
set_option linter.unusedSimpArgs false
set_option linter.unusedVariables false
set_option maxHeartbeats 8000000
set_option maxRecDepth 20000
def keyJ (L P:List RE) (n j:Nat):List UInt8:=if 21 * n+21 < L.length∧0 < j then (P.getD (j - 1) ⟨[],0,0⟩).key else ffL
theorem qp8 (L : List RE) (n : Nat) (h8 : ∀ e ∈ L, e.key.length = 8) (hs : ∀ e ∈ L, symM (nmM e.key) = true) (hb : ∀ e ∈ L, e.trk < 65536 ∧ e.rn < 256) (hl : L.length ≤ 1000000) (hn : n ≤ 1000000) :
  Sound Tryz.prog 85 [.lst .any 3 (seL (L.map nmE)),.v (.int .i64 (n:Nat))] (recA (blkE L n)):=by
 refine vk9 Tryz.func85 rfl (by decide +kernel) (by simp [Tryz.f85]) (by simp [AV.rfL,AV.rf]) (by simp [AV.tlL,AV.tl]) (rs:=[.cell 4 100]) rfl ?_
 rw [show Tryz.f85.ntmps=86 from rfl]
 obtain ⟨P,hP⟩:∃ P,zh7 L n=P:=⟨_,rfl⟩
 have hPl:P.length≤21:=by rw [← hP];exact qw7 L n
 have hPn:P.length=min 21 (L.length - 21 * n):=by rw [← hP,zh7,List.length_take,List.length_drop]
 have hP8:∀ e∈P,e.key.length=8:=fun e he=>h8 e (js8 (hP ▸ he))
 have hPg:∀ j e,P[j]?=some e→L[21 * n+j]?=some e:=by
  intro j e he
  have hj:=(List.getElem?_eq_some_iff.1 he).1
  rw [← hP,zh7,List.getElem?_take,if_pos (by omega),List.getElem?_drop] at he
  exact he
 have w0:IntKind.i64.wrap (21 * (n:Int))=21 * (n:Int):=w64 (by omega) (by omega)
 have w0':IntKind.i64.wrap (21 * (n:Int)+21)=21 * (n:Int)+21:=w64 (by omega) (by omega)
 have hll:(L.map nmE).length=L.length:=by simp
 obtain ⟨l,hlE⟩:∃ l,L.map nmE=l:=⟨_,rfl⟩
 rw [hlE] at hll ⊢
 refine yr9 [0,1,4] (by simp;rfl) ?_
 refine W_rK [0,1,4,5] ?_
 refine kl9 (by simp) ⟨_,by simp [qk9,yf7,catK,AV.cellsK,AV.kone,AV.koneL,show List.range 2=[0,1] from rfl];rfl,?_⟩
 refine yw9 (by simp;rfl) ?_
 refine yr9 [0,1,4,5,6] (by simp [catK,AV.cellsK,AV.kone,AV.koneL,show List.range 8=[0,1,2,3,4,5,6,7] from rfl];rfl) ?_
 refine xp7 6 (o:=.tip 5 38) (sz:=1) (xs:=byL ffL) rfl ?_
 refine yh9 ?_
 refine yr9 [0,1,4,5,6,7] (by simp [putF,w0];rfl) ?_
 refine yl9 ?_
 refine zj9 (fun z σ => ∃ (j q cap : Nat) (H : List AObj), z = P.length - j ∧ j ≤ P.length ∧ rbH H q cap ([0, 0] ++ kj9 (P.take j)) ∧ σ = rbS l n (21 * n + j) q cap ([0, 0] ++ kj9 (P.take j)) (keyJ L P n j) H) (k := P.length)
  ⟨0,1,2,[.cells 100 zr100,.cells 5 (byL [0,0])],rfl,by omega,⟨⟨by simp [kj9],by simp [maxLen],[],by simp [kj9],rfl⟩,by omega,rfl⟩,by simp [rbS,keyJ,kj9,zr100,xd9]⟩ ?_
 rintro z σ ⟨j,q,cap,H,rfl,hj,hH,rfl⟩
 have hbl:(kj9 (P.take j)).length=12 * j:=by rw [xp8 (fun e he=>hP8 e (List.mem_of_mem_take he)),List.length_take];omega
 obtain ⟨d,hd⟩:∃ d,[0,0]++kj9 (P.take j)=d:=⟨_,rfl⟩
 have hdl:d.length=2+12 * j:=by rw [← hd,List.length_append,hbl];rfl
 rw [hd] at hH ⊢
 refine yh9 ?_
 by_cases c:j < P.length
 ·obtain ⟨e, he⟩ : ∃ e, P[j]? = some e := ⟨_, List.getElem?_eq_getElem c⟩
  have heL:=hPg j e he
  have hem:=List.mem_of_getElem? heL
  have hel:l[21 * n+j]?=some (nmE e):=by rw [← hlE,List.getElem?_map,heL];rfl
  have wi:=w64 (n:=21 * (n:Int)+(j:Int)+1) (by omega) (by omega)
  have c1:21 * n+j < 21 * n+21:=by omega
  have c1i:21 * (n:Int)+(j:Int) < 21 * (n:Int)+21:=by omega
  have c2:21 * n+j < l.length:=by omega
  have c2i:21 * (n:Int)+(j:Int) < (l.length:Nat):=by omega
  refine yr9 [0,1,4,5,6,7,22] (by simp [rbS,w0,w0',c1,c1i,c2,c2i,show (j:Int) < 21 by omega,show j < 21 by omega];rfl) ?_
  refine yt9 (t:=true) (by simp) (fun h=>?_) (fun h=>by simp at h)
  refine yg9 ?_
  repeat (first | refine on_norm ?_ | refine in_norm ?_)
  refine ym9 [0,1,4,5,6,7] ?_
  refine yh9 ?_
  refine yl9 ?_
  have hbe:=hb e hem
  refine rb_one hH hel (h8 e hem) (hs e hem) hbe.1 hbe.2 (by omega) (by omega) (by omega) (K:=keyJ L P n j) fun H' q' cap' hH'=>?_
  have htk:P.take (j+1)=P.take j++[e]:=by rw [List.take_add_one,he];rfl
  have hd2:d++entB e=[0,0]++kj9 (P.take (j+1)):=by rw [← hd,htk];simp [kj9]
  have hkj:(if 21 * n+21 < l.length then e.key else keyJ L P n j)=keyJ L P n (j+1):=by
   rw [hll]
   by_cases cc:21 * n+21 < L.length
   ·rw [if_pos cc,keyJ,if_pos ⟨cc,by omega⟩,Nat.add_sub_cancel,List.getD_eq_getElem?_getD,he];rfl
   ·rw [if_neg cc,keyJ,keyJ,if_neg (fun h=>cc h.1),if_neg (fun h=>cc h.1)]
  rw [hkj]
  rw [hd2] at hH' ⊢
  obtain ⟨d3,hd3⟩:∃ d3,[0,0]++kj9 (P.take (j+1))=d3:=⟨_,rfl⟩
  rw [hd3] at hH' ⊢
  repeat (first | refine on_norm ?_ | refine in_norm ?_)
  refine zr9 [0,1,4,5,6,7] (by simp [rbS,wi];rfl) ?_
  exact ⟨_,by omega,j+1,q',cap',H',rfl,by omega,hd3 ▸ hH',by rw [hd3];simp [rbS,Int.add_assoc]⟩
 ·have hje : j = P.length := by omega
  have hge:¬ (21 * n+j < 21 * n+21∧21 * n+j < l.length):=by omega
  have hfinal:Wt true 0 Tryz.prog rbT (retN Tryz.prog [.cell 4 100] (recA (blkE L n))) ⟨86,[(1,.v (.int .i64 (n:Nat))),(4,.loc 0 0),(5,.arr q 0 d.length cap),(6,.lst .any 1 (byL (keyJ L P n j)))],H⟩:=by
   have hkey:keyJ L P n j=keyE L n:=by
    unfold keyJ keyE
    by_cases cc:21 * n+21 < L.length
    ·have hP21 : P.length = 21 := by omega
     rw [if_pos ⟨cc,by omega⟩,if_pos cc,hje,hP21]
     have h20:P[20]?=L[21 * n+20]?:=by
      rw [← hP,zh7,List.getElem?_take,if_pos (by omega),List.getElem?_drop]
     rw [List.getD_eq_getElem?_getD,List.getD_eq_getElem?_getD,show 21 - 1=20 from rfl,h20]
    ·rw [if_neg (fun h=>cc h.1),if_neg cc]
   have hbody:kj9 (P.take j)=kj9 P:=by rw [hje,List.take_length]
   rw [← hd] at hH
   rw [hbody] at hH hbl
   have:=rb_tail (n:=n) (K:=keyJ L P n j) hH hbl (by omega) hn
   rw [hdl]
   have he:rbR n j (keyJ L P n j) (kj9 P)=blkE L n:=by rw [rbR,blkE,hkey,hP,dataE,hje]
   rw [he] at this
   exact this
  by_cases c21:j < 21
  ·have c2:¬ 21 * n+j < l.length:=by omega
   have c2i:¬ 21 * (n:Int)+(j:Int) < (l.length:Nat):=by omega
   refine yr9 [1,4,5,6,22] (by simp [rbS,w0,w0',c2,c2i,show (j:Int) < 21 by omega,c21];rfl) ?_
   refine yt9 (t:=false) (by simp) (fun h=>by simp at h) (fun h=>?_)
   refine ym9 [1,4,5,6] ?_
   refine zs9 ?_
   repeat (first | refine on_exit ?_ | refine in_exit ?_)
   exact hfinal
  ·refine yr9 [1,4,5,6,22] (by simp [rbS,w0,w0',show ¬ (j:Int) < 21 by omega,c21];rfl) ?_
   refine yt9 (t:=false) (by simp) (fun h=>by simp at h) (fun h=>?_)
   refine ym9 [1,4,5,6] ?_
   refine zs9 ?_
   repeat (first | refine on_exit ?_ | refine in_exit ?_)
   exact hfinal
end Go.AM
namespace Go.AM
open Go.RowKit Go.Proofs
set_option linter.unusedSimpArgs false
set_option linter.unusedVariables false
set_option maxHeartbeats 8000000
set_option maxRecDepth 20000
theorem okAt.sw {x:AV} {t:List Rec} (h:okAt x t) (i j:Nat):x.sw i j=x:=by
 rcases h with rfl | ⟨f,rfl,_⟩ <;> simp [AV.sw]
theorem swL_ok {cs:List AV} (i j:Nat) (h:∀ x∈cs,∃ t,okAt x t):AV.swL i j cs=cs:=by
 induction cs with
 | nil=>rfl
 | cons x cs ih =>
  obtain ⟨t,ht⟩:=h x List.mem_cons_self
  simp only [AV.swL,ht.sw,ih (fun y hy=>h y (List.mem_cons_of_mem _ hy))]
theorem wq6 : ∀ (m : Nat) (xs : List AV), m ≤ xs.length → chunk false 1 m xs = xs.take m
 | 0,xs,_=>by simp [chunk]
 | m+1,[],h=>by simp at h
 | m+1,x :: xs,h=>by
  simp only [chunk,List.headD_cons,List.drop_succ_cons,List.drop_zero,List.take_succ_cons,Bool.false_eq_true,if_false]
  rw [wq6 m xs (by simpa using h)]
theorem weakL_take24 (xs:List AV) (n:Nat):AV.weakL (xs.take n)=(AV.weakL xs).take n:=by
 apply List.ext_getElem?
 intro j
 rw [vf9,List.getElem?_take,List.getElem?_take]
 split
 ·rw [vf9]
 ·rfl
noncomputable def rdX:Code:=bkC (sq1 (sq2 (lpC (bkC (sq2 (sq1 (sq2 (sq2 (Tryz.f47.body.getD .skip)))))))))
theorem wn7 {l : List SE} {n i cap x : Nat} {A : List (List Rec)} {cs : List AV} {B : Rec} (hblk : Sound Tryz.prog 85 [.lst .any 3 (seL l), .v (.int .i64 (i : Nat))] (recA B)) (hrc : RC A cap cs) (hne : A ≠ []) (hxl : A.length = x + 1) (hx : i / 6 = x) (hi : i ≤ 1000) (hnl : (zv9 A).length ≤ 6)
  {Q:Exit→St→Prop} (hQ:∀ cs',RC (A.dropLast++[zv9 A++[B]]) cap cs'→Q .normal ⟨33,[(0,.lst .any 3 (seL l)),(1,.v (.int .i64 (n:Nat))),(5,.arr 0 0 (x+1) cap),(6,.v (.int .i64 (i:Nat)))],[.cells 80 cs']⟩) :
  Wt true 0 Tryz.prog (sq2 rdX) Q ⟨33,[(0,.lst .any 3 (seL l)),(1,.v (.int .i64 (n:Nat))),(5,.arr 0 0 (x+1) cap),(6,.v (.int .i64 (i:Nat)))],[.cells 80 cs]⟩:=by
 have wq:Int.tdiv (i:Int) 6=(x:Nat):=by rw [Int.tdiv_eq_ediv_of_nonneg (by omega)];omega
 have wx:IntKind.i64.wrap (x:Nat)=(x:Nat):=w64 (by omega) (by omega)
 have hcl:=hrc.len
 have hce:=hrc.le
 simp only [recA] at hblk
 have hle1:x+1≤cs.length:=by omega
 have h1:x < x+1:=by omega
 have h1i:(x:Int) < (x:Int)+1:=by omega
 obtain ⟨y,hcx,f,rfl,hf⟩:=hrc.last hne
 rw [show A.length - 1=x by omega] at hcx
 obtain ⟨now,hnow⟩:∃ now,zv9 A=now:=⟨_,rfl⟩
 rw [hnow] at hcx hf hnl hQ
 have b3:(now.length+1) * 64≤140737488355328:=by omega
 have b4:64 * (now.length+1)≤140737488355328:=by omega
 have hsn:trL now++[AV.agg [.v (.int .i64 B.R),.lst .any 1 (byL B.key),.lst .any 1 (byL B.data),.v (.bool B.bad)]]=trL (now++[B]):=wv8 now B
 have hxx:A.length - 1=x:=by omega
 rcases hf with rfl | ⟨U,hU,rfl⟩ | ⟨rfl,h0⟩
 ·have hnew:=hrc.grow0 hne (t':=now++[B]) (x:=.lst (.tip 100 61) 4 (trL (now++[B]))) ⟨_,rfl,.inr (.inl ⟨61,by decide,rfl⟩)⟩
  rw [hxx] at hnew
  refine qh9 [0,1,5,6] mx (by decide +kernel) ?_
  refine yd9 6 (by simp [wq,wx];rfl) rfl ?_
  refine yd9 4 (by simp [wq,wx,h1,h1i,hcx];rfl) rfl ?_
  refine yv9 (by simp) (by first | (simp;done) | (simp;rfl)) hblk (by simp;rfl) ?_
  refine yb9 (by simp [wq,wx,h1,h1i,hcx,hle1,catK,AV.cellsK,AV.kone,AV.koneL,b3,b4,hsn];rfl) ?_
  exact hQ _ hnew
 ·have hnew:=hrc.grow (T:=U) hne (t':=now++[B]) (x:=.lst (.tip 100 U) 4 (trL (now++[B]))) ⟨_,rfl,.inr (.inl ⟨U,hU,rfl⟩)⟩
  rw [hxx] at hnew
  have hkl:=jn9 U cs
  have hle2:x+1≤(AV.killL U cs).length:=by omega
  refine qh9 [0,1,5,6] mx (by decide +kernel) ?_
  refine yd9 6 (by simp [wq,wx];rfl) rfl ?_
  refine yd9 4 (by simp [wq,wx,h1,h1i,hcx];rfl) rfl ?_
  refine yv9 (by simp) (by first | (simp;done) | (simp;rfl)) hblk (by simp;rfl) ?_
  refine yb9 (by simp [wq,wx,h1,h1i,hcx,hle1,hle2,catK,AV.cellsK,AV.kone,AV.koneL,b3,b4,hsn,AObj.kill,hU];rfl) ?_
  exact hQ _ hnew
 ·subst h0
  have hnew:=hrc.grow0 hne (t':=[B]) (x:=.lst (.tip 100 61) 4 (trL [B])) ⟨_,rfl,.inr (.inl ⟨61,by decide,rfl⟩)⟩
  rw [hxx] at hnew
  refine qh9 [0,1,5,6] mx (by decide +kernel) ?_
  refine yd9 6 (by simp [wq,wx];rfl) rfl ?_
  refine yd9 4 (by simp [wq,wx,h1,h1i,hcx];rfl) rfl ?_
  refine yv9 (by simp) (by first | (simp;done) | (simp;rfl)) hblk (by simp;rfl) ?_
  refine yb9 (by simp [wq,wx,h1,h1i,hcx,hle1,catK,AV.cellsK,AV.kone,AV.koneL];rfl) ?_
  exact hQ _ hnew
theorem rdirT_sound (L : List RE) (n : Nat) (h8 : ∀ e ∈ L, e.key.length = 8) (hs : ∀ e ∈ L, symM (nmM e.key) = true) (hb : ∀ e ∈ L, e.trk < 65536 ∧ e.rn < 256) (hl : L.length ≤ 1000000) (hn : n ≤ 1000) :
  Sound Tryz.prog 47 [.lst .any 3 (seL (L.map nmE)),.v (.int .i64 (n:Nat))] (.lst (.tip 80 1) 1 (arL (layG L n))):=by
 refine xw9 Tryz.func47 rfl (by decide +kernel) (by simp [Tryz.f47]) (by simp [AV.rfL,AV.rf]) (by simp [AV.tlL,AV.tl]) (rs:=[.tmp 4]) rfl ?_
 rw [show Tryz.f47.ntmps=33 from rfl]
 obtain ⟨l,hlE⟩:∃ l,L.map nmE=l:=⟨_,rfl⟩
 refine yr9 [0,1,4] (by simp;rfl) ?_
 refine yr9 [0,1,5] (by simp;rfl) ?_
 refine yh9 ?_
 refine yr9 [0,1,5,6] (by simp;rfl) ?_
 refine yl9 ?_
 rw [hlE]
 refine zj9 (fun z σ => ∃ (i : Nat) (x : AV) (H : List AObj), z = n - i ∧ i ≤ n ∧ ((i = 0 ∧ x = .lst .nil 1 [] ∧ H = []) ∨ (0 < i ∧ ∃ cap cs, x = .arr 0 0 ((i + 5) / 6) cap ∧ cap ≤ maxLen ∧ RC (layG L i) cap cs ∧ H = [.cells 80 cs])) ∧
  σ=⟨33,[(0,.lst .any 3 (seL l)),(1,.v (.int .i64 (n:Nat))),(5,x),(6,.v (.int .i64 (i:Nat)))],H⟩) (k:=n) ⟨0,_,[],rfl,by omega,.inl ⟨rfl,rfl,rfl⟩,by simp⟩ ?_
 rintro z σ ⟨i,x,H,rfl,hi,hx,rfl⟩
 refine yh9 ?_
 have hlay:=vh9 L i
 by_cases c:i < n
 ·have ci : (i : Int) < n := by omega
  have wi:=w64 (n:=(i:Int)+1) (by omega) (by omega)
  have wr1:Int.tmod (i:Int) 6=((i % 6:Nat):Int):=by rw [Int.tmod_eq_emod_of_nonneg (by omega)];omega
  have wr2:IntKind.i64.wrap ((i % 6:Nat):Int)=((i % 6:Nat):Int):=w64 (by omega) (by omega)
  have hblk:=qp8 L i h8 hs hb hl (by omega)
  obtain ⟨B,hB⟩:∃ B,blkE L i=B:=⟨_,rfl⟩
  rw [hB,hlE] at hblk
  simp only [recA] at hblk
  obtain ⟨r6,hr6⟩:∃ r6,i % 6=r6:=⟨_,rfl⟩
  rw [hr6] at wr1 wr2
  rcases hx with ⟨h0,rfl,rfl⟩ | ⟨h0,cap,cs,rfl,hcm,hrc,rfl⟩
  ·subst h0
   have hr0:r6=0:=by omega
   subst hr0
   refine yr9 [0,1,5,6,9] (by simp [c,ci];rfl) ?_
   refine yt9 (t:=true) (by simp [c,ci]) (fun h=>?_) (fun h=>by simp at h)
   refine yg9 ?_
   repeat (first | refine on_norm ?_ | refine in_norm ?_)
   refine yh9 ?_
   refine yl9 ?_
   refine yh9 ?_
   refine yr9 [0,1,5,6,14] (by simp [wr1,wr2];rfl) ?_
   refine yt9 (t:=true) (by simp) (fun h=>?_) (fun h=>by simp at h)
   refine W_rE [0,1,5,6] ?_
   refine yq9 1 (by simp;rfl) rfl ?_
   refine kl9 (by simp) ⟨_,by simp [qk9,yf7,catK,AV.cellsK,AV.kone,AV.koneL];rfl,?_⟩
   refine ug7 (t:=24) (e:=80) (sz:=1) (by_:=24) (s0:=1) (x0:=[]) (m:=1) (yc:=[.lst .nil 4 []]) (by simp) rfl rfl rfl rfl (by simp) (by simp [srcA]) s24 a80 z80 (by simp) (by omega) (by omega) ?_
   intro cap' hc1 hc2
   refine ⟨_,by simp;rfl,?_⟩
   refine yw9 (by simp;rfl) ?_
   have hrc1:RC [[]] cap' ([.lst .nil 4 []]++repC (cap' - 1) (AV.lst .nil 4 []).cells):=by
    have:=RC.move (RC.nils 0) (t':=[]) (cap':=cap') (x:=.lst .nil 4 []) (by simpa using hc1) ⟨.nil,rfl,.inr (.inr ⟨rfl,rfl⟩)⟩
    simpa [AV.cells,vr9] using this
   simp only [AV.cells,List.cons_append,List.nil_append] at hrc1 ⊢
   obtain ⟨cs,hcs⟩:∃ cs,AV.lst .nil 4 [] :: repC (cap' - 1) [AV.lst .nil 4 []]=cs:=⟨_,rfl⟩
   rw [hcs] at hrc1 ⊢
   repeat (first | refine on_norm ?_ | refine in_norm ?_)
   refine ym9 [0,1,5,6] ?_
   refine W_swap 0 1 (by omega) (by omega) (by simp [zf9]) (by simp [zf9]) ?_
   have hst:∀ bs:AObj,swSt 0 1 (⟨33,[(0,.lst .any 3 (seL l)),(1,.v (.int .i64 (n:Nat))),(5,.arr 1 0 1 cap'),(6,.v (.int .i64 (0:Nat)))],[bs,.cells 80 cs]⟩:St)=⟨33,[(0,.lst .any 3 (seL l)),(1,.v (.int .i64 (n:Nat))),(5,.arr 0 0 1 cap'),(6,.v (.int .i64 (0:Nat)))],[.cells 80 cs,bs.sw 0 1]⟩:=by
    intro bs
    simp [swSt,AV.sw,sw,AObj.sw,swL_ok _ _ hrc1.ce]
   refine (show Wt true 0 Tryz.prog _ _ (swSt 0 1 (⟨33,[(0,.lst .any 3 (seL l)),(1,.v (.int .i64 (n:Nat))),(5,.arr 1 0 1 cap'),(6,.v (.int .i64 (0:Nat)))],[_,.cells 80 cs]⟩:St)) from ?_)
   rw [hst]
   refine vd9 1 (by omega) (by simp) (by simp [zk9,AV.under,AV.underL]) (by simp [yn9,AObj.under,hrc1.under]) ?_
   refine wn7 (x:=0) hblk hrc1 (by simp) rfl rfl (by omega) (by simp [zv9]) fun cs' hcs'=>?_
   repeat (first | refine on_norm ?_ | refine in_norm ?_)
   refine zr9 [0,1,5,6] (by simp [show IntKind.i64.wrap 1=1 from by decide];rfl) ?_
   refine ⟨_,by omega,0+1,_,_,rfl,by omega,.inr ⟨by omega,cap',cs',rfl,hc2,?_,rfl⟩,by simp⟩
   rw [xm8 L (i:=0) rfl,hB]
   simpa [zv9,layG] using hcs'
  ·have hcl := hrc.len
   have hce:=hrc.le
   rw [hlay] at hce
   have hAne:layG L i≠[]:=by intro h;rw [h] at hlay;simp at hlay;omega
   have hlast:(zv9 (layG L i)).length≤6:=by
    unfold zv9
    rw [List.getLast?_eq_some_getLast hAne]
    obtain ⟨j,hj,e⟩:=List.mem_map.1 (List.getLast_mem hAne)
    simp only [Option.getD_some]
    rw [← e,List.length_map,List.length_take]
    omega
   refine yr9 [0,1,5,6,9] (by simp [c,ci];rfl) ?_
   refine yt9 (t:=true) (by simp [c,ci]) (fun h=>?_) (fun h=>by simp at h)
   refine yg9 ?_
   repeat (first | refine on_norm ?_ | refine in_norm ?_)
   refine yh9 ?_
   refine yl9 ?_
   refine yh9 ?_
   by_cases h6:r6=0
   ·subst h6
    obtain ⟨m,hm⟩:∃ m,(i+5) / 6=m:=⟨_,rfl⟩
    rw [hm] at hlay hce ⊢
    refine yr9 [0,1,5,6,14] (by simp [wr1,wr2];rfl) ?_
    refine yt9 (t:=true) (by simp) (fun h=>?_) (fun h=>by simp at h)
    refine W_rE [0,1,5,6] ?_
    refine yq9 1 (by simp;rfl) rfl ?_
    refine kl9 (by simp) ⟨_,by simp [qk9,yf7,catK,AV.cellsK,AV.kone,AV.koneL];rfl,?_⟩
    refine un9 (t:=24) (e:=80) (sz:=1) (by_:=24) (id:=0) (len:=m) (cap:=cap) (m:=1) (cs:=cs) (yc:=[.lst .nil 4 []]) (by simp) rfl rfl rfl rfl (by simp) (by simp [srcA]) s24 a80 z80 (by simp) (by simp) (by omega) (by omega) ?_
    have hnil:okLt (AV.lst .nil 4 []) []:=⟨.nil,rfl,.inr (.inr ⟨rfl,rfl⟩)⟩
    rintro s1 x1 (⟨hr,rfl,rfl⟩ | ⟨hr,cap',hc1,hc2,rfl,rfl⟩)
    ·have hrc1:=hrc.next (t':=[]) (by omega) hnil
     rw [hlay] at hrc1
     refine ⟨_,by simp;rfl,?_⟩
     refine yw9 (by simp;rfl) ?_
     repeat (first | refine on_norm ?_ | refine in_norm ?_)
     refine ym9 [0,1,5,6] ?_
     obtain ⟨cs1,hcs1⟩:∃ cs1,yk9 cs m [AV.lst .nil 4 []]=cs1:=⟨_,rfl⟩
     rw [hcs1] at hrc1 ⊢
     refine vd9 1 (by omega) (by simp [zf9]) (by simp [zf9,uh9,zk9,AV.under,AV.underL]) (by simp [zf9,yn9,AObj.under,hrc1.under]) ?_
     refine wn7 (x:=m) hblk hrc1 (by simp) (by simp [hlay]) (by omega) (by omega) (by simp [zv9]) fun cs' hcs'=>?_
     repeat (first | refine on_norm ?_ | refine in_norm ?_)
     refine zr9 [0,1,5,6] (by simp [wi];rfl) ?_
     refine ⟨_,by omega,i+1,_,_,rfl,by omega,.inr ⟨by omega,cap,cs',by rw [show (i+1+5) / 6=m+1 by omega],hcm,?_,rfl⟩,by simp⟩
     rw [xm8 L (by omega),hB]
     simpa [zv9] using hcs'
    ·have hrc1 := hrc.move (t' := []) (cap' := cap') (by omega) hnil
     rw [hlay] at hrc1
     refine ⟨_,by simp;rfl,?_⟩
     refine yw9 (by simp;rfl) ?_
     repeat (first | refine on_norm ?_ | refine in_norm ?_)
     refine ym9 [0,1,5,6] ?_
     rw [← vr9] at hrc1
     simp only [Nat.mul_one,List.append_assoc,List.cons_append,List.nil_append,AV.cells] at hrc1 ⊢
     obtain ⟨cs1,hcs1⟩:∃ cs1,List.take m cs++AV.lst .nil 4 [] :: repC (cap' - (m+1)) [AV.lst .nil 4 []]=cs1:=⟨_,rfl⟩
     rw [hcs1] at hrc1 ⊢
     refine W_swap 0 2 (by omega) (by omega) (by simp [zf9]) (by simp [zf9]) ?_
     have hst:∀ ys bs:AObj,swSt 0 2 (⟨33,[(0,.lst .any 3 (seL l)),(1,.v (.int .i64 (n:Nat))),(5,.arr 2 0 (m+1) cap'),(6,.v (.int .i64 (i:Nat)))],[ys,bs,.cells 80 cs1]⟩:St)=⟨33,[(0,.lst .any 3 (seL l)),(1,.v (.int .i64 (n:Nat))),(5,.arr 0 0 (m+1) cap'),(6,.v (.int .i64 (i:Nat)))],[.cells 80 cs1,bs.sw 0 2,ys.sw 0 2]⟩:=by
      intro ys bs
      simp [swSt,AV.sw,sw,AObj.sw,swL_ok _ _ hrc1.ce]
     refine (show Wt true 0 Tryz.prog _ _ (swSt 0 2 (⟨33,[(0,.lst .any 3 (seL l)),(1,.v (.int .i64 (n:Nat))),(5,.arr 2 0 (m+1) cap'),(6,.v (.int .i64 (i:Nat)))],[_,_,.cells 80 cs1]⟩:St)) from ?_)
     rw [hst]
     refine vd9 1 (by omega) (by simp) (by simp [zk9,AV.under,AV.underL]) (by simp [yn9,AObj.under,hrc1.under]) ?_
     refine wn7 (x:=m) hblk hrc1 (by simp) (by simp [hlay]) (by omega) (by omega) (by simp [zv9]) fun cs' hcs'=>?_
     repeat (first | refine on_norm ?_ | refine in_norm ?_)
     refine zr9 [0,1,5,6] (by simp [wi];rfl) ?_
     refine ⟨_,by omega,i+1,_,_,rfl,by omega,.inr ⟨by omega,cap',cs',by rw [show (i+1+5) / 6=m+1 by omega],hc2,?_,rfl⟩,by simp⟩
     rw [xm8 L (by omega),hB]
     simpa [zv9] using hcs'
   ·have h6B:((r6:Int) == 0)=false:=by simp;omega
    have h6I:¬ (r6:Int)=0:=by omega
    obtain ⟨m,hm⟩:∃ m,i / 6=m:=⟨_,rfl⟩
    have hm1:(i+5) / 6=m+1:=by omega
    rw [hm1] at hlay hce ⊢
    refine yr9 [0,1,5,6,14] (by simp [wr1,wr2,h6,h6I,h6B];rfl) ?_
    refine yt9 (t:=false) (by simp [h6,h6I,h6B]) (fun h=>by simp at h) (fun h=>?_)
    refine ym9 [0,1,5,6] ?_
    refine yg9 ?_
    repeat (first | refine on_norm ?_ | refine in_norm ?_)
    refine wn7 (x:=m) hblk hrc hAne hlay hm (by omega) hlast fun cs' hcs'=>?_
    repeat (first | refine on_norm ?_ | refine in_norm ?_)
    refine zr9 [0,1,5,6] (by simp [wi];rfl) ?_
    refine ⟨_,by omega,i+1,_,_,rfl,by omega,.inr ⟨by omega,cap,cs',by rw [show (i+1+5) / 6=m+1 by omega],hcm,?_,rfl⟩,by simp⟩
    rw [ql7 L (by omega),hB]
    exact hcs'
 ·rcases hx with ⟨h0, rfl, rfl⟩ | ⟨h0, cap, cs, rfl, hcm, hrc, rfl⟩
  ·have hn0:n=0:=by omega
   subst hn0
   refine yr9 [5,9] (by simp;rfl) ?_
   refine yt9 (t:=false) (by simp) (fun h=>by simp at h) (fun h=>?_)
   refine ym9 [5] ?_
   refine zs9 ?_
   repeat (first | refine on_exit ?_ | refine in_exit ?_)
   refine yr9 [4] (by simp;rfl) ?_
   refine yj9 ?_
   repeat (first | refine yp9 ?_ | refine ys9 ?_)
   exact ⟨.lst .nil 1 [],by simp [retQ],.nil (by decide +kernel)⟩
  ·have hie : i = n := by omega
   subst hie
   have hcl:=hrc.len
   have hdl:=wf9 cs
   refine yr9 [5,9] (by simp;rfl) ?_
   refine yt9 (t:=false) (by simp) (fun h=>by simp at h) (fun h=>?_)
   refine ym9 [5] ?_
   refine zs9 ?_
   repeat (first | refine on_exit ?_ | refine in_exit ?_)
   refine yr9 [4] (by simp;rfl) ?_
   refine W_dpB 0 (ty:=80) (cs:=cs) rfl ?_
   have hfin:=hrc.fin
   rw [hlay] at hfin
   obtain ⟨m,hm⟩:∃ m,(i+5) / 6=m:=⟨_,rfl⟩
   have hce:=hrc.le
   rw [hm] at hfin hlay
   rw [hlay] at hce
   rw [hm]
   obtain ⟨D,hD⟩:∃ D,AV.dpL cs=D:=⟨_,rfl⟩
   rw [hD] at hfin hdl ⊢
   have hDl:D.length=cap:=by omega
   obtain ⟨A,hA⟩:∃ A,layG L i=A:=⟨_,rfl⟩
   rw [hA] at hfin hlay ⊢
   have hch:chunk false 1 m (arL A)=arL A:=by
    have:=chunk1 (arL A)
    rw [wt6,hlay] at this
    exact this
   refine W_tip 4 (id:=0) (len:=m) (cap:=cap) (tk:=1) (ty:=80) (sz:=1) (ag:=false) (cs:=D) (by simp) rfl (by simp) (by simp) (by omega) (.inr rfl) (by omega) (by rw [Nat.mul_one,hfin];simp) (by rw [Nat.mul_one,hfin];simp) ?_
   rw [Nat.mul_one,hfin,weakL_arL,hch]
   refine yj9 ?_
   repeat (first | refine yp9 ?_ | refine ys9 ?_)
   exact ⟨_,by simp [retQ,putF,uh9];exact ⟨rfl,by simp [AV.rf,AV.rfL]⟩,.norm fun T=>by simp⟩
end Go.AM
namespace Go.AM
open Go.RowKit Go.Proofs
set_option linter.unusedSimpArgs false
set_option linter.unusedVariables false
set_option maxHeartbeats 2000000
mutual
theorem under_kill {m T : Nat} : (x : AV) → x.under m = true → (x.kill T).under m = true
 | .lst (.tip e U) s xs,h=>by by_cases hu:U=T <;> simp [AV.kill,hu,AV.under]
 | .lst .any s xs,_ | .lst .nil s xs,_ | .lst .ex s xs,_=>by simp [AV.kill,AV.under]
 | .agg xs,h | .tup xs,h=>by
  simp only [AV.under] at h
  simp only [AV.kill,AV.under]
  exact underL_kill xs h
 | .any,h | .v _,h | .ro _,h | .loc _ _,h | .arr _ _ _ _,h | .fn _ _ _,h | .mp _,h | .yld _,h=>by simp only [AV.kill];exact h
theorem underL_kill {m T : Nat} : (xs : List AV) → AV.underL m xs = true → AV.underL m (AV.killL T xs) = true
 | [],_=>rfl
 | x :: xs,h=>by
  simp only [AV.underL,Bool.and_eq_true] at h
  simp only [AV.killL,AV.underL,under_kill x h.1,underL_kill xs h.2,Bool.and_self]
end
theorem ounder_kill {m T:Nat} (o:AObj) (h:o.under m=true):(o.kill T).under m=true:=by
 cases o with
 | cells ty cs=>exact underL_kill cs h
 | _=>exact h
theorem qg8 {m T : Nat} : ∀ (H : List AObj), yn9 m H = true → yn9 m (H.map (AObj.kill T)) = true
 | [],_=>rfl
 | o :: H,h=>by
  simp only [yn9,Bool.and_eq_true] at h
  simp only [List.map_cons,yn9,ounder_kill o h.1,qg8 H h.2,Bool.and_self]
theorem RC.nil (x:AV):(AV.lst .nil 4 [])=.lst .nil 4 (trL []):=rfl
theorem us6:okLt (AV.lst .nil 4 []) []:=⟨.nil,rfl,.inr (.inr ⟨rfl,rfl⟩)⟩
theorem jb9 {T:Nat} {cs xs:List AV} (h:AV.killL T cs=cs) (hx:AV.killL T xs=xs) (o:Nat):AV.killL T (yk9 cs o xs)=yk9 cs o xs:=by
 apply List.ext_getElem?
 intro j
 rw [xb9]
 unfold yk9
 have e1:∀ (l:List AV) (j:Nat),AV.killL T l=l→(l[j]?).map (AV.kill T)=l[j]?:=by
  intro l j hl
  have:=congrArg (fun z=>z[j]?) hl
  rwa [xb9] at this
 simp only [List.getElem?_append,List.getElem?_take,List.getElem?_drop]
 split
 ·split
  ·split
   ·exact e1 cs _ h
   ·rfl
  ·exact e1 xs _ hx
 ·exact e1 cs _ h
theorem jq9 {T : Nat} : ∀ (xs ys : List AV), AV.killL T (xs ++ ys) = AV.killL T xs ++ AV.killL T ys
 | [],ys=>rfl
 | x :: xs,ys=>by rw [List.cons_append,AV.killL,AV.killL,jq9 xs ys,List.cons_append]
theorem zl7 {T : Nat} : ∀ (xs : List AV) (n : Nat), AV.killL T (xs.take n) = (AV.killL T xs).take n
 | [],n=>by simp [AV.killL]
 | x :: xs,0=>by simp [AV.killL]
 | x :: xs,n+1=>by simp [AV.killL,zl7 xs n]
structure WS (H0:List AObj) (id0:Nat) (H:List AObj) (id cap:Nat) (A:List (List Rec)) (cs:List AV):Prop where
 len:H0.length≤H.length
 old:∀ (j:Nat) o,j≠id0→H0[j]?=some o→(∀ T,o.kill T=o)→H[j]?=some o
 shut:yn9 H.length H=true
 obj:H[id]?=some (.cells 80 cs)
 rc:RC A cap cs
 kl:AV.killL 29 cs=cs
 idn:id=id0∨H0.length≤id
 cap:cap≤maxLen
theorem under_rc {A:List (List Rec)} {cap:Nat} {cs:List AV} (h:RC A cap cs) (m:Nat):(AObj.cells 80 cs).under m=true:=h.under m
namespace WS
variable {H0 : List AObj} {id0 : Nat} {H : List AObj} {id cap : Nat} {A : List (List Rec)} {cs : List AV}
theorem lt (h:WS H0 id0 H id cap A cs):id < H.length:=(List.getElem?_eq_some_iff.1 h.obj).1
theorem push (h:WS H0 id0 H id cap A cs) {o:AObj} (ho:o.under (H.length+1)=true):WS H0 id0 (H++[o]) id cap A cs where
 len:=by rw [List.length_append];have:=h.len;omega
 old j p hj h0 hk:=by
  have h1:=h.old j p hj h0 hk
  rw [List.getElem?_append_left (List.getElem?_eq_some_iff.1 h1).1]
  exact h1
 shut:=by
  have:=shut_push h.shut ho
  rwa [List.length_append]
 obj:=by rw [List.getElem?_append_left h.lt];exact h.obj
 rc:=h.rc
 kl:=h.kl
 idn:=h.idn
 cap:=h.cap
theorem setj (h:WS H0 id0 H id cap A cs) {j:Nat} {o:AObj} (hj:j≠id) (hl:H0.length≤j) (ho:o.under H.length=true):WS H0 id0 (H.set j o) id cap A cs where
 len:=by rw [List.length_set];exact h.len
 old i p hi h0 hk:=by
  have h1:=(List.getElem?_eq_some_iff.1 h0).1
  rw [List.getElem?_set_ne (by omega)]
  exact h.old i p hi h0 hk
 shut:=by rw [List.length_set];exact wc9 h.shut ho
 obj:=by rw [List.getElem?_set_ne hj];exact h.obj
 rc:=h.rc
 kl:=h.kl
 idn:=h.idn
 cap:=h.cap
theorem setb (h:WS H0 id0 H id cap A cs) {j:Nat} {o:AObj} (hj:j≠id0) (hl:j < H0.length) (ho:o.under H.length=true):WS (H0.set j o) id0 (H.set j o) id cap A cs where
 len:=by rw [List.length_set,List.length_set];exact h.len
 old i p hi h0 hk:=by
  by_cases e:i=j
  ·subst e
   rw [List.getElem?_set_self hl] at h0
   rw [List.getElem?_set_self (by have:=h.len;omega)]
   exact h0
  ·rw [List.getElem?_set_ne (Ne.symm e)] at h0 ⊢
   exact h.old i p hi h0 hk
 shut:=by rw [List.length_set];exact wc9 h.shut ho
 obj:=by
  rw [List.getElem?_set_ne]
  ·exact h.obj
  ·rcases h.idn with e | e
   ·rw [e];exact hj
   ·omega
 rc:=h.rc
 kl:=h.kl
 idn:=by rw [List.length_set];exact h.idn
 cap:=h.cap
theorem seto (h:WS H0 id0 H id cap A cs) {A':List (List Rec)} {cap':Nat} {cs':List AV} (hc:cap'≤maxLen) (hr:RC A' cap' cs') (hk:AV.killL 29 cs'=cs'):WS H0 id0 (H.set id (.cells 80 cs')) id cap' A' cs' where
 len:=by rw [List.length_set];exact h.len
 old i p hi h0 hk:=by
  have h1:=(List.getElem?_eq_some_iff.1 h0).1
  rw [List.getElem?_set_ne]
  ·exact h.old i p hi h0 hk
  ·rcases h.idn with e | e
   ·rw [e];exact Ne.symm hi
   ·omega
 shut:=by rw [List.length_set];exact wc9 h.shut (hr.under _)
 obj:=by rw [List.getElem?_set_self h.lt]
 rc:=hr
 kl:=hk
 idn:=h.idn
 cap:=hc
theorem kill (h : WS H0 id0 H id cap A cs) (U : Nat) {A' : List (List Rec)} {cap' : Nat} {cs' : List AV} (hc : cap' ≤ maxLen) (hr : RC A' cap' cs') (hk : AV.killL 29 cs' = cs') :
  WS H0 id0 ((H.map (AObj.kill U)).set id (.cells 80 cs')) id cap' A' cs' where
 len:=by rw [List.length_set,List.length_map];exact h.len
 old i p hi h0 hk:=by
  have h1:=(List.getElem?_eq_some_iff.1 h0).1
  rw [List.getElem?_set_ne]
  ·rw [List.getElem?_map,h.old i p hi h0 hk,Option.map_some,hk U]
  ·rcases h.idn with e | e
   ·rw [e];exact Ne.symm hi
   ·omega
 shut:=by
  rw [List.length_set,List.length_map]
  exact wc9 (qg8 H h.shut) (hr.under _)
 obj:=by rw [List.getElem?_set_self (by rw [List.length_map];exact h.lt)]
 rc:=hr
 kl:=hk
 idn:=h.idn
 cap:=hc
theorem killU (h:WS H0 id0 H id cap A cs) (U:Nat) (hk:AV.killL U cs=cs):WS H0 id0 (H.map (AObj.kill U)) id cap A cs where
 len:=by rw [List.length_map];exact h.len
 old i p hi h0 hk:=by rw [List.getElem?_map,h.old i p hi h0 hk,Option.map_some,hk U]
 shut:=by
  rw [List.length_map]
  exact qg8 H h.shut
 obj:=by
  rw [List.getElem?_map,h.obj,Option.map_some,AObj.kill,hk]
 rc:=h.rc
 kl:=h.kl
 idn:=h.idn
 cap:=h.cap
theorem base {H1:List AObj} (h:WS H1 id0 H id cap A cs) (hl:H0.length≤H1.length) (hp:∀ (j:Nat) o,H0[j]?=some o→H1[j]?=some o):WS H0 id0 H id cap A cs where
 len:=Nat.le_trans hl h.len
 old j o hj h0 hk:=h.old j o hj (hp j o h0) hk
 shut:=h.shut
 obj:=h.obj
 rc:=h.rc
 kl:=h.kl
 idn:=by rcases h.idn with e | e;exact .inl e;exact .inr (Nat.le_trans hl e)
 cap:=h.cap
theorem next (h:WS H0 id0 H id cap A cs) (hc:A.length+1≤cap):WS H0 id0 (H.set id (.cells 80 (yk9 cs A.length [.lst .nil 4 []]))) id cap (A++[[]]) (yk9 cs A.length [.lst .nil 4 []]) :=
 h.seto h.cap (h.rc.next hc us6) (jb9 h.kl (by simp [AV.killL,AV.kill]) _)
theorem move (h : WS H0 id0 H id cap A cs) {cap' : Nat} (hc : A.length + 1 ≤ cap') (hm : cap' ≤ maxLen) :
  WS H0 id0 (H++[.cells 80 (cs.take A.length++[.lst .nil 4 []]++List.replicate (cap' - (A.length+1)) (.lst .nil 4 []))]) H.length cap' (A++[[]]) (cs.take A.length++[.lst .nil 4 []]++List.replicate (cap' - (A.length+1)) (.lst .nil 4 [])):=by
 have hr:=h.rc.move (t':=[]) hc us6
 have h1:=h.push (o:=.cells 80 (cs.take A.length++[.lst .nil 4 []]++List.replicate (cap' - (A.length+1)) (.lst .nil 4 []))) (under_rc hr _)
 refine ⟨h1.len,h1.old,h1.shut,by simp,hr,?_,.inr h.len,hm⟩
 rw [jq9,jq9,zl7,h.kl]
 have:∀ n,AV.killL 29 (List.replicate n (.lst .nil 4 []))=List.replicate n (.lst .nil 4 []):=fun n=>by induction n <;> simp_all [AV.killL,AV.kill,List.replicate_succ]
 rw [this]
 rfl
theorem put0 (h : WS H0 id0 H id cap A cs) (hA : A ≠ []) {x : AV} {t' : List Rec} (hx : okLt x t') (hk : x.kill 29 = x) :
  WS H0 id0 (H.set id (.cells 80 (yk9 cs (A.length - 1) [x]))) id cap (A.dropLast++[t']) (yk9 cs (A.length - 1) [x]) :=
 h.seto h.cap (h.rc.grow0 hA hx) (jb9 h.kl (by simp [AV.killL,hk]) _)
theorem putk (h : WS H0 id0 H id cap A cs) (hA : A ≠ []) {x : AV} {t' : List Rec} (U : Nat) (hx : okLt x t') (hk : x.kill 29 = x) :
  WS H0 id0 ((H.map (AObj.kill U)).set id (.cells 80 (yk9 (AV.killL U cs) (A.length - 1) [x]))) id cap (A.dropLast++[t']) (yk9 (AV.killL U cs) (A.length - 1) [x]) :=
 h.kill U h.cap (h.rc.grow hA hx) (jb9 (by rw [killL_comm,h.kl]) (by simp [AV.killL,hk]) _)
end WS
def WrQ (H:List AObj) (id:Nat) (pl:AV) (A:List (List Rec)) (r:AV) (h':List AObj):Prop :=
 ∃ id' cap' cs',WS H id h' id' cap' A cs'∧r=.tup [.arr id' 0 A.length cap',pl]
end Go.AM
namespace Go.AM
open Go.RowKit Go.Proofs
set_option linter.unusedSimpArgs false
set_option linter.unusedVariables false
set_option maxHeartbeats 8000000
set_option maxRecDepth 20000
noncomputable def wrX:Code:=bkC (sq1 (sq2 (sq2 (lpC (bkC (sq2 (sq1 (sq2 (sq2 (Tryz.f36.body.getD .skip))))))))))
noncomputable def wrR:Code:=sq2 (sq2 (sq2 (sq2 (sq2 wrX))))
def boxP (p:Nat) (r:Int):AObj:=.cells 55 [.v (.int .i64 (p:Nat)),.v (.int .i64 r)]
theorem wr_put {H : List AObj} {id : Nat} {Hc : List AObj} {id' cap' : Nat} {T : List (List Rec)} {cs : List AV} {p0 x m i dir n : Nat} {r0 R : Int} {b : List UInt8} {L : List AV}
  (ws:WS (H++[boxP 0 0,boxP p0 r0]) id Hc id' cap' T cs) (hid:id < H.length) (hx:T.length=x+1) (hm:Hc[m]?=some (.cells 100 [.v (.int .i64 R),.lst .nil 1 [],.lst .any 1 (byL b),.v (.bool false)])) (hlast:(zv9 T).length≤1000)
  {Q : Exit → St → Prop} (hQ : ∀ Hc' cs2, WS (H ++ [boxP 0 0, if i = 0 then boxP x R else boxP p0 r0]) id Hc' id' cap' (T.dropLast ++ [zv9 T ++ [⟨R, [], b, false⟩]]) cs2 →
   Q .normal ⟨91,[(0,.arr id' 0 (x+1) cap'),(1,.v (.int .i64 (dir:Nat))),(7,.loc H.length 0),(8,.loc (H.length+1) 0),(16,.lst .any 1 L),(17,.v (.int .i64 (n:Nat))),(18,.v (.int .i64 (i:Nat)))],Hc'⟩) :
  Wt true H.length Tryz.prog wrR Q ⟨91,[(0,.arr id' 0 (x+1) cap'),(1,.v (.int .i64 (dir:Nat))),(7,.loc H.length 0),(8,.loc (H.length+1) 0),(16,.lst .any 1 L),(17,.v (.int .i64 (n:Nat))),(18,.v (.int .i64 (i:Nat))),(9,.v (.int .i64 (i:Nat))),(11,.v (.int .i64 (x:Nat))),(12,.loc m 0)],Hc⟩:=by
 have hne:T≠[]:=by intro h;rw [h] at hx;simp at hx
 have hcl:=ws.rc.len
 have hce:=ws.rc.le
 have hob:=ws.obj
 have hlen:=ws.len
 simp only [List.length_append,List.length_cons,List.length_nil] at hlen
 have hmid:m≠id':=by
  intro h
  rw [h,hob] at hm
  cases hm
 have hmlt:m < Hc.length:=(List.getElem?_eq_some_iff.1 hm).1
 have hidlt:=ws.lt
 have hle1:x+1≤cs.length:=by omega
 have h1:x < x+1:=by omega
 have h1i:(x:Int) < (x:Int)+1:=by omega
 obtain ⟨y,hcx,f,rfl,hf⟩:=ws.rc.last hne
 rw [show T.length - 1=x by omega] at hcx
 obtain ⟨now,hnow⟩:∃ now,zv9 T=now:=⟨_,rfl⟩
 rw [hnow] at hcx hf hlast hQ
 have b3:(now.length+1) * 64≤140737488355328:=by omega
 have b4:64 * (now.length+1)≤140737488355328:=by omega
 have hsn:trL now++[AV.agg [.v (.int .i64 R),.lst .any 1 [],.lst .any 1 (byL b),.v (.bool false)]]=trL (now++[⟨R,[],b,false⟩]):=wv8 now ⟨R,[],b,false⟩
 have hxx:T.length - 1=x:=by omega
 have tail : ∀ Hc2 cs2, WS (H ++ [boxP 0 0, boxP p0 r0]) id Hc2 id' cap' (T.dropLast ++ [now ++ [⟨R, [], b, false⟩]]) cs2 → Hc2[m]? = some (.cells 100 [.v (.int .i64 R), .lst .nil 1 [], .lst .any 1 (byL b), .v (.bool false)]) →
   Wt true H.length Tryz.prog (sq2 wrR) Q ⟨91,[(0,.arr id' 0 (x+1) cap'),(1,.v (.int .i64 (dir:Nat))),(7,.loc H.length 0),(8,.loc (H.length+1) 0),(16,.lst .any 1 L),(17,.v (.int .i64 (n:Nat))),(18,.v (.int .i64 (i:Nat))),(9,.v (.int .i64 (i:Nat))),(11,.v (.int .i64 (x:Nat))),(12,.loc m 0)],Hc2⟩:=by
  intro Hc2 cs2 ws2 hm2
  have hl2:=ws2.len
  simp only [List.length_append,List.length_cons,List.length_nil] at hl2
  by_cases i0:i=0
  ·subst i0
   refine W_cT [0,1,7,8,16,17,18,11,12,83] (by simp;rfl) rfl ?_
   have hb8:Hc2[H.length+1]?=some (.cells 55 [.v (.int .i64 (p0:Nat)),.v (.int .i64 r0)]):=ws2.old (H.length+1) _ (by omega) (by simp [boxP]) (fun T=>by simp [AObj.kill,AV.killL,AV.kill])
   refine zr9 [0,1,7,8,16,17,18] (by simp [hm2,hb8,yk9];rfl) ?_
   have ws3:=ws2.setb (j:=H.length+1) (o:=boxP x R) (by omega) (by simp) (by simp [boxP,AObj.under,AV.under,AV.underL])
   have hset:(H++[boxP 0 0,boxP p0 r0]).set (H.length+1) (boxP x R)=H++[boxP 0 0,boxP x R]:=by simp
   rw [hset] at ws3
   exact hQ _ _ ws3
  ·have i0':((i:Int) == 0)=false:=by simp;omega
   refine yr9 [0,1,7,8,16,17,18,11,12,83] (by simp [i0,i0'];rfl) ?_
   refine yt9 (t:=false) rfl (fun h=>by simp at h) (fun h=>?_)
   refine ym9 [0,1,7,8,16,17,18] ?_
   refine yg9 ?_
   rw [if_neg i0] at hQ
   exact hQ _ _ ws2
 rcases hf with rfl | ⟨U,hU,rfl⟩ | ⟨rfl,h0⟩
 ·have hnew:=ws.put0 hne (t':=now++[⟨R,[],b,false⟩]) (x:=.lst (.tip 100 161) 4 (trL (now++[⟨R,[],b,false⟩]))) ⟨_,rfl,.inr (.inl ⟨161,by decide,rfl⟩)⟩ (by simp [AV.kill])
  rw [hxx] at hnew
  refine wk9 [0,1,7,8,16,17,18,9,11,12] mx (by decide +kernel) ?_
  refine yd9 6 (by simp [h1,h1i,hob,hcx];rfl) rfl ?_
  refine yd9 2 (by simp [hm];rfl) rfl ?_
  refine yb9 (by simp [h1,h1i,hob,hcx,hle1,catK,AV.cellsK,AV.kone,AV.koneL,b3,b4,hsn];rfl) ?_
  exact tail _ _ hnew (by rw [List.getElem?_set_ne (Ne.symm hmid)];exact hm)
 ·have hU29:¬ U=29:=by
   intro h
   subst h
   have:=congrArg (fun z=>z[x]?) ws.kl
   simp only [xb9,hcx,Option.map_some] at this
   simp [AV.kill,Fl.wk] at this
  have hnew:=ws.putk hne (t':=now++[⟨R,[],b,false⟩]) U (x:=.lst (.tip 100 U) 4 (trL (now++[⟨R,[],b,false⟩]))) ⟨_,rfl,.inr (.inl ⟨U,hU,rfl⟩)⟩ (by simp [AV.kill,hU29])
  rw [hxx] at hnew
  have hkl:=jn9 U cs
  have hle2:x+1≤(AV.killL U cs).length:=by omega
  refine wk9 [0,1,7,8,16,17,18,9,11,12] mx (by decide +kernel) ?_
  refine yd9 6 (by simp [h1,h1i,hob,hcx];rfl) rfl ?_
  refine yd9 2 (by simp [hm];rfl) rfl ?_
  refine yb9 (by simp [h1,h1i,hob,hcx,hle1,hle2,catK,AV.cellsK,AV.kone,AV.koneL,b3,b4,hsn,AObj.kill,hU];rfl) ?_
  exact tail _ _ hnew (by rw [List.getElem?_set_ne (Ne.symm hmid),List.getElem?_map,hm];rfl)
 ·subst h0
  have hnew:=ws.put0 hne (t':=[⟨R,[],b,false⟩]) (x:=.lst (.tip 100 161) 4 (trL [⟨R,[],b,false⟩])) ⟨_,rfl,.inr (.inl ⟨161,by decide,rfl⟩)⟩ (by simp [AV.kill])
  rw [hxx] at hnew
  refine wk9 [0,1,7,8,16,17,18,9,11,12] mx (by decide +kernel) ?_
  refine yd9 6 (by simp [h1,h1i,hob,hcx];rfl) rfl ?_
  refine yd9 2 (by simp [hm];rfl) rfl ?_
  refine yb9 (by simp [h1,h1i,hob,hcx,hle1,catK,AV.cellsK,AV.kone,AV.koneL];rfl) ?_
  exact tail _ _ hnew (by rw [List.getElem?_set_ne (Ne.symm hmid)];exact hm)
end Go.AM
namespace Go.AM
open Go.RowKit Go.Proofs
set_option linter.unusedSimpArgs false
set_option linter.unusedVariables false
set_option maxHeartbeats 8000000
set_option maxRecDepth 20000
noncomputable def waX:Code:=bkC (sq1 (sq2 (lpC (bkC (sq2 (sq1 (sq2 (sq2 (Tryz.f49.body.getD .skip)))))))))
noncomputable def waR:Code:=sq2 (sq2 (sq2 (sq2 (sq2 waX))))
def boxQ (p:Nat) (r:Int):AObj:=.cells 51 [.v (.string ⟨#[]⟩),.v (.int .i64 (p:Nat)),.v (.int .i64 r)]
theorem wa_put {H : List AObj} {id : Nat} {Hc : List AObj} {id' cap' : Nat} {T : List (List Rec)} {cs : List AV} {p0 x m i dir : Nat} {r0 R : Int} {b : List UInt8} {L : List AV}
  (ws:WS (H++[boxQ 0 0,boxQ p0 r0]) id Hc id' cap' T cs) (hid:id < H.length) (hx:T.length=x+1) (hm:Hc[m]?=some (.cells 100 [.v (.int .i64 R),.lst .any 1 [],.lst .any 1 (byL b),.v (.bool false)])) (hlast:(zv9 T).length≤1000)
  {Q : Exit → St → Prop} (hQ : ∀ Hc' cs2, WS (H ++ [boxQ 0 0, if i = 0 then boxQ x R else boxQ p0 r0]) id Hc' id' cap' (T.dropLast ++ [zv9 T ++ [⟨R, [], b, false⟩]]) cs2 →
   Q .normal ⟨91,[(0,.arr id' 0 (x+1) cap'),(1,.v (.int .i64 (dir:Nat))),(2,.lst .any 1 L),(7,.loc H.length 0),(8,.loc (H.length+1) 0),(9,.v (.int .i64 (i:Nat)))],Hc'⟩) :
  Wt true H.length Tryz.prog waR Q ⟨91,[(0,.arr id' 0 (x+1) cap'),(1,.v (.int .i64 (dir:Nat))),(2,.lst .any 1 L),(7,.loc H.length 0),(8,.loc (H.length+1) 0),(9,.v (.int .i64 (i:Nat))),(10,.loc m 0),(11,.v (.int .i64 (x:Nat)))],Hc⟩:=by
 have hne:T≠[]:=by intro h;rw [h] at hx;simp at hx
 have hcl:=ws.rc.len
 have hce:=ws.rc.le
 have hob:=ws.obj
 have hlen:=ws.len
 simp only [List.length_append,List.length_cons,List.length_nil] at hlen
 have hmid:m≠id':=by
  intro h
  rw [h,hob] at hm
  cases hm
 have hmlt:m < Hc.length:=(List.getElem?_eq_some_iff.1 hm).1
 have hidlt:=ws.lt
 have hle1:x+1≤cs.length:=by omega
 have h1:x < x+1:=by omega
 have h1i:(x:Int) < (x:Int)+1:=by omega
 obtain ⟨y,hcx,f,rfl,hf⟩:=ws.rc.last hne
 rw [show T.length - 1=x by omega] at hcx
 obtain ⟨now,hnow⟩:∃ now,zv9 T=now:=⟨_,rfl⟩
 rw [hnow] at hcx hf hlast hQ
 have b3:(now.length+1) * 64≤140737488355328:=by omega
 have b4:64 * (now.length+1)≤140737488355328:=by omega
 have hsn:trL now++[AV.agg [.v (.int .i64 R),.lst .any 1 [],.lst .any 1 (byL b),.v (.bool false)]]=trL (now++[⟨R,[],b,false⟩]):=wv8 now ⟨R,[],b,false⟩
 have hxx:T.length - 1=x:=by omega
 have tail : ∀ Hc2 cs2, WS (H ++ [boxQ 0 0, boxQ p0 r0]) id Hc2 id' cap' (T.dropLast ++ [now ++ [⟨R, [], b, false⟩]]) cs2 → Hc2[m]? = some (.cells 100 [.v (.int .i64 R), .lst .any 1 [], .lst .any 1 (byL b), .v (.bool false)]) →
   Wt true H.length Tryz.prog (sq2 waR) Q ⟨91,[(0,.arr id' 0 (x+1) cap'),(1,.v (.int .i64 (dir:Nat))),(2,.lst .any 1 L),(7,.loc H.length 0),(8,.loc (H.length+1) 0),(9,.v (.int .i64 (i:Nat))),(10,.loc m 0),(11,.v (.int .i64 (x:Nat)))],Hc2⟩:=by
  intro Hc2 cs2 ws2 hm2
  have hl2:=ws2.len
  simp only [List.length_append,List.length_cons,List.length_nil] at hl2
  by_cases i0:i=0
  ·subst i0
   refine W_cT [0,1,2,7,8,9,10,11,84] (by simp;rfl) rfl ?_
   have hb8:Hc2[H.length+1]?=some (.cells 51 [.v (.string ⟨#[]⟩),.v (.int .i64 (p0:Nat)),.v (.int .i64 r0)]):=ws2.old (H.length+1) _ (by omega) (by simp [boxQ]) (fun T=>by simp [AObj.kill,AV.killL,AV.kill])
   refine zr9 [0,1,2,7,8,9] (by simp [hm2,hb8,yk9];rfl) ?_
   have ws3:=ws2.setb (j:=H.length+1) (o:=boxQ x R) (by omega) (by simp) (by simp [boxQ,AObj.under,AV.under,AV.underL])
   have hset:(H++[boxQ 0 0,boxQ p0 r0]).set (H.length+1) (boxQ x R)=H++[boxQ 0 0,boxQ x R]:=by simp
   rw [hset] at ws3
   exact hQ _ _ ws3
  ·have i0':((i:Int) == 0)=false:=by simp;omega
   refine yr9 [0,1,2,7,8,9,10,11,84] (by simp [i0,i0'];rfl) ?_
   refine yt9 (t:=false) rfl (fun h=>by simp at h) (fun h=>?_)
   refine ym9 [0,1,2,7,8,9] ?_
   refine yg9 ?_
   rw [if_neg i0] at hQ
   exact hQ _ _ ws2
 rcases hf with rfl | ⟨U,hU,rfl⟩ | ⟨rfl,h0⟩
 ·have hnew:=ws.put0 hne (t':=now++[⟨R,[],b,false⟩]) (x:=.lst (.tip 100 163) 4 (trL (now++[⟨R,[],b,false⟩]))) ⟨_,rfl,.inr (.inl ⟨163,by decide,rfl⟩)⟩ (by simp [AV.kill])
  rw [hxx] at hnew
  refine wk9 [0,1,2,7,8,9,10,11] mx (by decide +kernel) ?_
  refine yd9 6 (by simp [h1,h1i,hob,hcx];rfl) rfl ?_
  refine yd9 2 (by simp [hm];rfl) rfl ?_
  refine yb9 (by simp [h1,h1i,hob,hcx,hle1,catK,AV.cellsK,AV.kone,AV.koneL,b3,b4,hsn];rfl) ?_
  exact tail _ _ hnew (by rw [List.getElem?_set_ne (Ne.symm hmid)];exact hm)
 ·have hU29:¬ U=29:=by
   intro h
   subst h
   have:=congrArg (fun z=>z[x]?) ws.kl
   simp only [xb9,hcx,Option.map_some] at this
   simp [AV.kill,Fl.wk] at this
  have hnew:=ws.putk hne (t':=now++[⟨R,[],b,false⟩]) U (x:=.lst (.tip 100 U) 4 (trL (now++[⟨R,[],b,false⟩]))) ⟨_,rfl,.inr (.inl ⟨U,hU,rfl⟩)⟩ (by simp [AV.kill,hU29])
  rw [hxx] at hnew
  have hkl:=jn9 U cs
  have hle2:x+1≤(AV.killL U cs).length:=by omega
  refine wk9 [0,1,2,7,8,9,10,11] mx (by decide +kernel) ?_
  refine yd9 6 (by simp [h1,h1i,hob,hcx];rfl) rfl ?_
  refine yd9 2 (by simp [hm];rfl) rfl ?_
  refine yb9 (by simp [h1,h1i,hob,hcx,hle1,hle2,catK,AV.cellsK,AV.kone,AV.koneL,b3,b4,hsn,AObj.kill,hU];rfl) ?_
  exact tail _ _ hnew (by rw [List.getElem?_set_ne (Ne.symm hmid),List.getElem?_map,hm];rfl)
 ·subst h0
  have hnew:=ws.put0 hne (t':=[⟨R,[],b,false⟩]) (x:=.lst (.tip 100 163) 4 (trL [⟨R,[],b,false⟩])) ⟨_,rfl,.inr (.inl ⟨163,by decide,rfl⟩)⟩ (by simp [AV.kill])
  rw [hxx] at hnew
  refine wk9 [0,1,2,7,8,9,10,11] mx (by decide +kernel) ?_
  refine yd9 6 (by simp [h1,h1i,hob,hcx];rfl) rfl ?_
  refine yd9 2 (by simp [hm];rfl) rfl ?_
  refine yb9 (by simp [h1,h1i,hob,hcx,hle1,catK,AV.cellsK,AV.kone,AV.koneL];rfl) ?_
  exact tail _ _ hnew (by rw [List.getElem?_set_ne (Ne.symm hmid)];exact hm)
end Go.AM
namespace Go.AM
open Go.RowKit Go.Proofs
set_option linter.unusedSimpArgs false
set_option linter.unusedVariables false
set_option maxHeartbeats 8000000
set_option maxRecDepth 20000
theorem wg6 {dir:Nat} {T:List (List Rec)} {b:List UInt8} (h:¬ (dir < T.length∧yq7 (zv9 T) ⟨nxR (zv9 T),[],b,false⟩=true)):wr1 dir T b=(T++[[⟨1,[],b,false⟩]],(T.length,1)):=by
 unfold wr1;rw [if_neg h]
theorem wr1_old {dir:Nat} {T:List (List Rec)} {b:List UInt8} (h:dir < T.length∧yq7 (zv9 T) ⟨nxR (zv9 T),[],b,false⟩=true):wr1 dir T b=(T.dropLast++[zv9 T++[⟨nxR (zv9 T),[],b,false⟩]],(T.length - 1,nxR (zv9 T))):=by
 unfold wr1;rw [if_pos h]
noncomputable def wrB:Code:=sq2 (sq2 (sq2 (sq2 wrX)))
noncomputable def wrN:Code:=match sq2 (sq1 wrB) with | .cond _ a _=>a | c=>c
theorem wr_new {H : List AObj} {id : Nat} {Hc : List AObj} {id' cap' : Nat} {T : List (List Rec)} {cs : List AV} {p0 : Nat} {r0 : Int} {m i dir n : Nat} {R : Int} {b : List UInt8} {L : List AV} {li : Int}
  (ws:WS (H++[boxP 0 0,boxP p0 r0]) id Hc id' cap' T cs) (hid:id < H.length) (hli:li=(T.length:Int) - 1) (hT:T.length≤100000000) (hm:Hc[m]?=some (.cells 100 [.v (.int .i64 R),.lst .nil 1 [],.lst .any 1 (byL b),.v (.bool false)]))
  (hm2:H.length+2≤m) {Q:Exit→St→Prop}
  (hQ : ∀ Hc' id2 cap2 cs2, WS (H ++ [boxP 0 0, boxP p0 r0]) id Hc' id2 cap2 (T ++ [[]]) cs2 → Hc'[m]? = some (.cells 100 [.v (.int .i64 1), .lst .nil 1 [], .lst .any 1 (byL b), .v (.bool false)]) →
   Q .normal ⟨91,[(0,.arr id2 0 (T.length+1) cap2),(1,.v (.int .i64 (dir:Nat))),(7,.loc H.length 0),(8,.loc (H.length+1) 0),(16,.lst .any 1 L),(17,.v (.int .i64 (n:Nat))),(18,.v (.int .i64 (i:Nat))),(9,.v (.int .i64 (i:Nat))),(11,.v (.int .i64 (T.length:Nat))),(12,.loc m 0)],Hc'⟩) :
  Wt true H.length Tryz.prog wrN Q ⟨91,[(0,.arr id' 0 T.length cap'),(1,.v (.int .i64 (dir:Nat))),(7,.loc H.length 0),(8,.loc (H.length+1) 0),(16,.lst .any 1 L),(17,.v (.int .i64 (n:Nat))),(18,.v (.int .i64 (i:Nat))),(9,.v (.int .i64 (i:Nat))),(11,.v (.int .i64 li)),(12,.loc m 0)],Hc⟩:=by
 have hob:=ws.obj
 have hcl:=ws.rc.len
 have hmid:m≠id':=by
  intro h
  rw [h,hob] at hm
  cases hm
 have hmlt:m < Hc.length:=(List.getElem?_eq_some_iff.1 hm).1
 have wl:IntKind.i64.wrap (li+1)=(T.length:Nat):=by rw [hli,show (T.length:Int) - 1+1=T.length by omega];exact w64 (by omega) (by omega)
 have ws1:=ws.setj (j:=m) (o:=.cells 100 [.v (.int .i64 1),.lst .nil 1 [],.lst .any 1 (byL b),.v (.bool false)]) hmid (by simpa using hm2) (by simp [AObj.under,AV.under,AV.underL])
 refine yr9 [0,1,7,8,16,17,18,9,11,12] (by simp [hm,yk9];rfl) ?_
 obtain ⟨H1,hH1⟩:∃ H1,Hc.set m (.cells 100 [.v (.int .i64 1),.lst .nil 1 [],.lst .any 1 (byL b),.v (.bool false)])=H1:=⟨_,rfl⟩
 have hm1:H1[m]?=some (.cells 100 [.v (.int .i64 1),.lst .nil 1 [],.lst .any 1 (byL b),.v (.bool false)]):=by rw [← hH1,List.getElem?_set_self hmlt]
 rw [hH1] at ws1 ⊢
 have hob1:=ws1.obj
 have hidlt:=ws1.lt
 refine W_rK [0,1,7,8,16,17,18,9,11,12] ?_
 refine yq9 1 (by simp;rfl) rfl ?_
 refine kl9 (by simp) ⟨_,by simp [qk9,yf7,catK,AV.cellsK,AV.kone,AV.koneL];rfl,?_⟩
 have ws2:=ws1.push (o:=.cells 80 [.lst .nil 4 []]) (by simp [AObj.under,AV.under,AV.underL])
 obtain ⟨H2,hH2⟩:∃ H2,H1++[AObj.cells 80 [.lst .nil 4 []]]=H2:=⟨_,rfl⟩
 have hl2:H2.length=H1.length+1:=by rw [← hH2];simp
 have hob3:H2[H1.length]?=some (.cells 80 [.lst .nil 4 []]):=by rw [← hH2];simp
 have hm3:H2[m]?=some (.cells 100 [.v (.int .i64 1),.lst .nil 1 [],.lst .any 1 (byL b),.v (.bool false)]):=by
  rw [← hH2,List.getElem?_append_left (List.getElem?_eq_some_iff.1 hm1).1];exact hm1
 have hmlt2:m < H2.length:=(List.getElem?_eq_some_iff.1 hm3).1
 rw [hH2] at ws2 ⊢
 have hob2:=ws2.obj
 refine un9 (t:=24) (e:=80) (sz:=1) (by_:=24) (id:=id') (len:=T.length) (cap:=cap') (m:=1) (cs:=cs) (yc:=[.lst .nil 4 []]) (by simp) rfl rfl rfl rfl (by simp) (by simp [srcA,hob3]) s24 a80 z80 (by simp) (by simp [hob2]) (by omega) (by omega) ?_
 rintro s1 x1 (⟨hr,rfl,rfl⟩ | ⟨hr,cap2,hc1,hc2,rfl,rfl⟩)
 ·have ws3:=ws2.next (by omega)
  refine ⟨_,by simp;rfl,?_⟩
  refine yw9 (by simp;rfl) ?_
  refine zr9 [0,1,7,8,16,17,18,9,11,12] (by simp [wl];rfl) ?_
  exact hQ _ _ _ _ ws3 (by rw [List.getElem?_set_ne (Ne.symm hmid)];exact hm3)
 ·have ws3:=ws2.move (cap':=cap2) (by omega) hc2
  refine ⟨_,by simp;rfl,?_⟩
  refine yw9 (by simp;rfl) ?_
  refine zr9 [0,1,7,8,16,17,18,9,11,12] (by simp [wl];rfl) ?_
  simp only [List.append_assoc,List.cons_append,List.nil_append] at ws3
  simp only [vr9]
  exact hQ _ _ _ _ ws3 (by rw [List.getElem?_append_left hmlt2];exact hm3)
end Go.AM
namespace Go.AM
open Go.RowKit Go.Proofs
set_option linter.unusedSimpArgs false
set_option linter.unusedVariables false
set_option maxHeartbeats 8000000
set_option maxRecDepth 20000
noncomputable def waB:Code:=sq2 (sq2 (sq2 (sq2 waX)))
noncomputable def waN:Code:=match sq2 (sq1 waB) with | .cond _ a _=>a | c=>c
theorem wa_new {H : List AObj} {id : Nat} {Hc : List AObj} {id' cap' : Nat} {T : List (List Rec)} {cs : List AV} {p0 : Nat} {r0 : Int} {m i dir : Nat} {R : Int} {b : List UInt8} {L : List AV} {li : Int}
  (ws:WS (H++[boxQ 0 0,boxQ p0 r0]) id Hc id' cap' T cs) (hid:id < H.length) (hli:li=(T.length:Int) - 1) (hT:T.length≤100000000) (hm:Hc[m]?=some (.cells 100 [.v (.int .i64 R),.lst .any 1 [],.lst .any 1 (byL b),.v (.bool false)]))
  (hm2:H.length+2≤m) {Q:Exit→St→Prop}
  (hQ : ∀ Hc' id2 cap2 cs2, WS (H ++ [boxQ 0 0, boxQ p0 r0]) id Hc' id2 cap2 (T ++ [[]]) cs2 → Hc'[m]? = some (.cells 100 [.v (.int .i64 1), .lst .any 1 [], .lst .any 1 (byL b), .v (.bool false)]) →
   Q .normal ⟨91,[(0,.arr id2 0 (T.length+1) cap2),(1,.v (.int .i64 (dir:Nat))),(2,.lst .any 1 L),(7,.loc H.length 0),(8,.loc (H.length+1) 0),(9,.v (.int .i64 (i:Nat))),(10,.loc m 0),(11,.v (.int .i64 (T.length:Nat)))],Hc'⟩) :
  Wt true H.length Tryz.prog waN Q ⟨91,[(0,.arr id' 0 T.length cap'),(1,.v (.int .i64 (dir:Nat))),(2,.lst .any 1 L),(7,.loc H.length 0),(8,.loc (H.length+1) 0),(9,.v (.int .i64 (i:Nat))),(10,.loc m 0),(11,.v (.int .i64 li))],Hc⟩:=by
 have hob:=ws.obj
 have hcl:=ws.rc.len
 have hmid:m≠id':=by
  intro h
  rw [h,hob] at hm
  cases hm
 have hmlt:m < Hc.length:=(List.getElem?_eq_some_iff.1 hm).1
 have wl:IntKind.i64.wrap (li+1)=(T.length:Nat):=by rw [hli,show (T.length:Int) - 1+1=T.length by omega];exact w64 (by omega) (by omega)
 have hidlt:=ws.lt
 have fin : ∀ Hc' id2 cap2 cs2, WS (H ++ [boxQ 0 0, boxQ p0 r0]) id Hc' id2 cap2 (T ++ [[]]) cs2 → Hc'[m]? = some (.cells 100 [.v (.int .i64 R), .lst .any 1 [], .lst .any 1 (byL b), .v (.bool false)]) →
   Wt true H.length Tryz.prog (sq2 (sq2 waN)) Q ⟨91,[(0,.arr id2 0 (T.length+1) cap2),(1,.v (.int .i64 (dir:Nat))),(2,.lst .any 1 L),(7,.loc H.length 0),(8,.loc (H.length+1) 0),(9,.v (.int .i64 (i:Nat))),(10,.loc m 0),(11,.v (.int .i64 (T.length:Nat)))],Hc'⟩:=by
  intro Hc' id2 cap2 cs2 hws hm4
  have hmid2:m≠id2:=by
   intro h
   rw [h,hws.obj] at hm4
   cases hm4
  have ws4:=hws.setj (j:=m) (o:=.cells 100 [.v (.int .i64 1),.lst .any 1 [],.lst .any 1 (byL b),.v (.bool false)]) hmid2 (by simpa using hm2) (by simp [AObj.under,AV.under,AV.underL])
  refine zr9 [0,1,2,7,8,9,10,11] (by simp [hm4,yk9];rfl) ?_
  exact hQ _ _ _ _ ws4 (by rw [List.getElem?_set_self (List.getElem?_eq_some_iff.1 hm4).1])
 refine W_rK [0,1,2,7,8,9,10,11] ?_
 refine yq9 1 (by simp;rfl) rfl ?_
 refine kl9 (by simp) ⟨_,by simp [qk9,yf7,catK,AV.cellsK,AV.kone,AV.koneL];rfl,?_⟩
 have ws2:=ws.push (o:=.cells 80 [.lst .nil 4 []]) (by simp [AObj.under,AV.under,AV.underL])
 obtain ⟨H2,hH2⟩:∃ H2,Hc++[AObj.cells 80 [.lst .nil 4 []]]=H2:=⟨_,rfl⟩
 have hl2:H2.length=Hc.length+1:=by rw [← hH2];simp
 have hob3:H2[Hc.length]?=some (.cells 80 [.lst .nil 4 []]):=by rw [← hH2];simp
 have hm3:H2[m]?=some (.cells 100 [.v (.int .i64 R),.lst .any 1 [],.lst .any 1 (byL b),.v (.bool false)]):=by
  rw [← hH2,List.getElem?_append_left (List.getElem?_eq_some_iff.1 hm).1];exact hm
 have hmlt2:m < H2.length:=(List.getElem?_eq_some_iff.1 hm3).1
 rw [hH2] at ws2 ⊢
 have hob2:=ws2.obj
 refine un9 (t:=24) (e:=80) (sz:=1) (by_:=24) (id:=id') (len:=T.length) (cap:=cap') (m:=1) (cs:=cs) (yc:=[.lst .nil 4 []]) (by simp) rfl rfl rfl rfl (by simp) (by simp [srcA,hob3]) s24 a80 z80 (by simp) (by simp [hob2]) (by omega) (by omega) ?_
 rintro s1 x1 (⟨hr,rfl,rfl⟩ | ⟨hr,cap2,hc1,hc2,rfl,rfl⟩)
 ·have ws3:=ws2.next (by omega)
  refine ⟨_,by simp;rfl,?_⟩
  refine yw9 (by simp;rfl) ?_
  refine yr9 [0,1,2,7,8,9,10,11] (by simp [wl];rfl) ?_
  have hm4:(H2.set id' (.cells 80 (yk9 cs T.length [.lst .nil 4 []])))[m]?=some (.cells 100 [.v (.int .i64 R),.lst .any 1 [],.lst .any 1 (byL b),.v (.bool false)]):=by rw [List.getElem?_set_ne (Ne.symm hmid)];exact hm3
  exact fin _ _ _ _ ws3 hm4
 ·have ws3:=ws2.move (cap':=cap2) (by omega) hc2
  refine ⟨_,by simp;rfl,?_⟩
  refine yw9 (by simp;rfl) ?_
  refine yr9 [0,1,2,7,8,9,10,11] (by simp [wl];rfl) ?_
  simp only [List.append_assoc,List.cons_append,List.nil_append] at ws3
  simp only [vr9]
  exact fin _ _ _ _ ws3 (by rw [List.getElem?_append_left hmlt2];exact hm3)
end Go.AM
namespace Go.AM
open Go.RowKit Go.Proofs
set_option linter.unusedSimpArgs false
set_option linter.unusedVariables false
set_option maxHeartbeats 8000000
set_option maxRecDepth 20000
def boxR (R:Int) (b:List UInt8):AObj:=.cells 100 [.v (.int .i64 R),.lst .nil 1 [],.lst .any 1 (byL b),.v (.bool false)]
def wrS (N:Nat) (id' cap' n i dir:Nat) (T:List (List Rec)) (L:List AV) (Hc:List AObj):St:=⟨91,[(0,.arr id' 0 T.length cap'),(1,.v (.int .i64 (dir:Nat))),(7,.loc N 0),(8,.loc (N+1) 0),(16,.lst .any 1 L),(17,.v (.int .i64 (n:Nat))),(18,.v (.int .i64 (i:Nat)))],Hc⟩
theorem wr_step {H : List AObj} {id : Nat} {Hc : List AObj} {id' cap' : Nat} {T : List (List Rec)} {cs : List AV} {p0 : Nat} {r0 : Int} {i dir n : Nat} {b : List UInt8} {B : List (List UInt8)}
  (ws:WS (H++[boxP 0 0,boxP p0 r0]) id Hc id' cap' T cs) (hid:id < H.length) (hT:T.length≤100000000) (hTv:∀ t∈T,vtrk t=true) (hd:dir≤100000000) (hb:b.length≤1024) (hBi:B[i]?=some b) (hi:i≤1000000)
  {Q:Exit→St→Prop} (hQ:∀ Hc' id2 cap2 cs2,WS (H++[boxP 0 0,if i=0 then boxP (wr1 dir T b).2.1 (wr1 dir T b).2.2 else boxP p0 r0]) id Hc' id2 cap2 (wr1 dir T b).1 cs2→Q .normal (wrS H.length id2 cap2 n i dir (wr1 dir T b).1 (bbL B) Hc')) :
  Wt true H.length Tryz.prog wrX Q (wrS H.length id' cap' n i dir T (bbL B) Hc):=by
 have hiB:i < B.length:=(List.getElem?_eq_some_iff.1 hBi).1
 have hBe:B[i]'hiB=b:=(List.getElem?_eq_some_iff.1 hBi).2
 have hiBi:(i:Int) < B.length:=by omega
 have hlen:=ws.len
 simp only [List.length_append,List.length_cons,List.length_nil] at hlen
 have hob:=ws.obj
 have hidlt:=ws.lt
 obtain ⟨m,hm⟩:∃ m,Hc.length=m:=⟨_,rfl⟩
 have ws1:∀ R,WS (H++[boxP 0 0,boxP p0 r0]) id (Hc++[boxR R b]) id' cap' T cs:=fun R=>ws.push (by simp [boxR,AObj.under,AV.under,AV.underL])
 have hm1:∀ R,(Hc++[boxR R b])[m]?=some (.cells 100 [.v (.int .i64 R),.lst .nil 1 [],.lst .any 1 (byL b),.v (.bool false)]):=fun R=>by rw [← hm];simp [boxR]
 unfold wrS
 refine yr9 [0,1,7,8,16,17,18,9,10] (by simp [hiB,hiBi,hBe];rfl) ?_
 have wl:IntKind.i64.wrap ((T.length:Int) - 1)=(T.length:Int) - 1:=w64 (by omega) (by omega)
 refine yr9 [0,1,7,8,16,17,18,9,10,11] (by simp [wl];rfl) ?_
 refine yr9 [0,1,7,8,16,17,18,9,11,12] (by simp [yk9];rfl) ?_
 rw [hm]
 by_cases c:dir < T.length
 ·obtain ⟨x, hx⟩ : ∃ x, T.length = x + 1 := ⟨T.length - 1, by omega⟩
  have hne:T≠[]:=by intro h;rw [h] at hx;simp at hx
  have hxi:(T.length:Int) - 1=(x:Nat):=by omega
  have cx:dir≤x:=by omega
  have cxi:(dir:Int)≤x:=by omega
  have cxn:¬ (x:Int) < dir:=by omega
  have h1:x < x+1:=by omega
  have h1i:(x:Int) < (x:Int)+1:=by omega
  obtain ⟨y,hcx,f,rfl,hf⟩:=ws.rc.last hne
  rw [show T.length - 1=x by omega] at hcx
  have hnv:=hTv _ (lastT_mem hne)
  obtain ⟨now,hnow⟩:∃ now,zv9 T=now:=⟨_,rfl⟩
  rw [hnow] at hcx hf hnv
  obtain ⟨hn64,hnr,hnsm⟩:=vn8 hnv
  have hR:=nxR_vtrk hnv
  have hfit:=fits15_sound now ⟨nxR now,[],b,false⟩ hnsm ⟨by simp,by simp;omega⟩
  simp only [recA,byL_nil] at hfit
  rw [hxi,hx]
  refine vs9 (fun s=>s=⟨91,[(0,.arr id' 0 (x+1) cap'),(1,.v (.int .i64 (dir:Nat))),(7,.loc H.length 0),(8,.loc (H.length+1) 0),(16,.lst .any 1 (bbL B)),(17,.v (.int .i64 (n:Nat))),(18,.v (.int .i64 (i:Nat))),(9,.v (.int .i64 (i:Nat))),(11,.v (.int .i64 (x:Nat))),(12,.loc m 0)],Hc++[boxR (nxR now) b]⟩) ?_ ?_
  ·have hob1 := (ws1 1).obj
   have hm2:=hm1 1
   obtain ⟨H1,hH1⟩:∃ H1,Hc++[boxR 1 b]=H1:=⟨_,rfl⟩
   rw [hH1] at hob1 hm2
   rw [show Hc++[AObj.cells 100 [.v (.int .i64 1),.lst .nil 1 [],.lst .any 1 (byL b),.v (.bool false)]]=H1 from hH1]
   by_cases c2:now=[]
   ·subst c2
    have hr1:nxR []=1:=rfl
    refine yr9 [0,1,7,8,16,17,18,9,11,12,38] (by simp [cxi,cx,h1,h1i,hob1,hcx];rfl) ?_
    refine yt9 (t:=false) rfl (fun h=>by simp at h) (fun h=>?_)
    refine ym9 [0,1,7,8,16,17,18,9,11,12] ?_
    refine yg9 ?_
    refine (show _=_ from ?_)
    rw [hr1,hH1]
    rfl
   ·obtain ⟨y, hy⟩ : ∃ y, now.length = y + 1 := ⟨now.length - 1, by have := List.length_pos_iff.2 c2; omega⟩
    obtain ⟨r,hr⟩:∃ r,now[y]?=some r:=⟨_,List.getElem?_eq_getElem (by omega)⟩
    have hyl:y < now.length:=by omega
    have hr2:now[y]'hyl=r:=(List.getElem?_eq_some_iff.1 hr).2
    have hnx:nxR now=r.R+1:=by
     unfold nxR
     rw [List.getLast?_eq_getElem?,hy,Nat.add_sub_cancel,hr]
    have hrr:=(hnr r (List.mem_of_getElem? hr)).2.2
    have wr:IntKind.i64.wrap (r.R+1)=r.R+1:=w64 (by omega) (by omega)
    have hpos:0 < now.length:=by omega
    have wy:IntKind.i64.wrap (y:Int)=(y:Nat):=w64 (by omega) (by omega)
    have hty:(trL now)[y]?=some (recA r):=by rw [trL_get,hr];rfl
    have hy1:y < y+1:=by omega
    have hy1i:(y:Int) < (y:Int)+1:=by omega
    refine yr9 [0,1,7,8,16,17,18,9,11,12,38] (by simp [cxi,cx,h1,h1i,hob1,hcx,hy];rfl) ?_
    refine yt9 (t:=true) (by simp [hy]) (fun h=>?_) (fun h=>by simp at h)
    refine qh9 [0,1,7,8,16,17,18,9,11,12] mx (by decide +kernel) ?_
    refine yd9 6 (by simp [h1,h1i,hob1,hcx];rfl) rfl ?_
    refine yd9 4 (by simp [h1,h1i,hob1,hcx,hy,wy];rfl) rfl ?_
    refine yd9 3 (by simp [hy,hyl,hr2,hy1,hy1i,hty];rfl) rfl ?_
    refine yb9 (by simp [wr,hm2,yk9];rfl) ?_
    refine (show _=_ from ?_)
    rw [hnx,← hH1,← hm]
    simp [boxR]
  rintro _ rfl
  have hob1:=(ws1 (nxR now)).obj
  have hm2:=hm1 (nxR now)
  have ws2:=ws1 (nxR now)
  obtain ⟨H1,hH1⟩:∃ H1,Hc++[boxR (nxR now) b]=H1:=⟨_,rfl⟩
  rw [hH1] at hob1 hm2 ws2 ⊢
  refine yh9 ?_
  refine wk9 [0,1,7,8,16,17,18,9,11,12,65] mx (by decide +kernel) ?_
  refine yd9 6 (by simp [cxn,cx,cxi];rfl) rfl ?_
  refine yd9 3 (by simp [cxn,h1,h1i,hob1,hcx,hm2];rfl) rfl ?_
  refine yv9 (by simp) (by first | (simp;done) | (simp;rfl)) hfit (by simp;rfl) ?_
  refine yb9 (by simp;rfl) ?_
  cases hfv:yq7 now ⟨nxR now,[],b,false⟩ with
  | true =>
   have hw:=wr1_old (dir:=dir) (T:=T) (b:=b) ⟨c,by rw [hnow];exact hfv⟩
   rw [hnow,show T.length - 1=x by omega] at hw
   rw [hw] at hQ
   refine yt9 (t:=false) rfl (fun h=>by simp at h) (fun h=>?_)
   refine ym9 [0,1,7,8,16,17,18,9,11,12] ?_
   refine yg9 ?_
   repeat (first | refine on_norm ?_ | refine in_norm ?_)
   refine wr_put (R:=nxR now) ws2 hid hx hm2 (by rw [hnow];omega) fun Hc' cs2 hws=>?_
   rw [hnow] at hws
   have:=hQ _ _ _ _ hws
   unfold wrS at this
   rw [kr8 hne,hx] at this
   exact this
  | false =>
   have hw:=wg6 (dir:=dir) (T:=T) (b:=b) (fun h=>by rw [hnow,hfv] at h;exact absurd h.2 (by simp))
   rw [hw] at hQ
   rw [← hx,← hxi]
   refine yt9 (t:=true) rfl (fun h=>?_) (fun h=>by simp at h)
   refine ym9 [0,1,7,8,16,17,18,9,11,12] ?_
   refine wr_new ws2 hid rfl hT hm2 (by omega) fun Hc' id2 cap2 cs2 hws hm3=>?_
   repeat (first | refine on_norm ?_ | refine in_norm ?_)
   refine wr_put (R:=1) hws hid (by simp) hm3 (by simp [zv9]) fun Hc2 cs3 hws3=>?_
   simp only [zv9,List.getLast?_append,List.getLast?_singleton,Option.some_or,Option.getD_some,List.nil_append,List.dropLast_concat] at hws3
   have:=hQ _ _ _ _ hws3
   unfold wrS at this
   simpa using this
 ·have cn:¬ (dir:Int)≤(T.length:Int) - 1:=by omega
  have cn2:(T.length:Int) - 1 < dir:=by omega
  have hw:=wg6 (dir:=dir) (T:=T) (b:=b) (fun h=>c h.1)
  rw [hw] at hQ
  have ws2:=ws1 1
  have hm2:=hm1 1
  obtain ⟨H1,hH1⟩:∃ H1,Hc++[boxR 1 b]=H1:=⟨_,rfl⟩
  rw [hH1] at hm2 ws2
  rw [show Hc++[AObj.cells 100 [.v (.int .i64 1),.lst .nil 1 [],.lst .any 1 (byL b),.v (.bool false)]]=H1 from hH1]
  refine yh9 ?_
  refine yr9 [0,1,7,8,16,17,18,9,11,12,38] (by simp [cn,cn2];rfl) ?_
  refine yt9 (t:=false) rfl (fun h=>by simp at h) (fun h=>?_)
  refine ym9 [0,1,7,8,16,17,18,9,11,12] ?_
  refine yg9 ?_
  repeat (first | refine on_norm ?_ | refine in_norm ?_)
  refine yh9 ?_
  refine wk9 [0,1,7,8,16,17,18,9,11,12,65] mx (by decide +kernel) ?_
  refine yd9 6 (by simp [cn,cn2];rfl) rfl ?_
  refine yb9 (by simp [cn,cn2];rfl) ?_
  refine yt9 (t:=true) rfl (fun h=>?_) (fun h=>by simp at h)
  refine ym9 [0,1,7,8,16,17,18,9,11,12] ?_
  refine wr_new ws2 hid rfl hT hm2 (by omega) fun Hc' id2 cap2 cs2 hws hm3=>?_
  repeat (first | refine on_norm ?_ | refine in_norm ?_)
  refine wr_put (R:=1) hws hid (by simp) hm3 (by simp [zv9]) fun Hc2 cs3 hws3=>?_
  simp only [zv9,List.getLast?_append,List.getLast?_singleton,Option.some_or,Option.getD_some,List.nil_append,List.dropLast_concat] at hws3
  have:=hQ _ _ _ _ hws3
  unfold wrS at this
  simpa using this
end Go.AM
