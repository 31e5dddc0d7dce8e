/- Parts of the walk: Z31DB Z31DC Z31EF Z31RA Z31EK Z31EM Z31EN. -/
import Derived.Test.YtlhaljblcimnbaaGreatG6
namespace Go.AM
open Go.RowKit Go.Proofs
set_option linter.unusedSimpArgs false
set_option linter.unusedVariables false
set_option maxHeartbeats 8000000
def seqE : Int → List Esd → Prop
 | _,[]=>True
 | nx,x :: l=>(vs9 nx x=true∧EOk x)∧seqE (nx1 nx x) l
theorem vk6 : ∀ (l m : List Esd) (nx : Int), seqE nx (l ++ m) → seqE nx l ∧ seqE (l.foldl nx1 nx) m
 | [],m,nx,h=>⟨trivial,h⟩
 | x :: l,m,nx,h=>by
  have:=vk6 l m (nx1 nx x) h.2
  exact ⟨⟨h.1,this.1⟩,this.2⟩
theorem vj6 (l:List Esd) (nx:Int) (h:seqE nx l) (k:Nat) (x:Esd) (hx:l[k]?=some x):vs9 ((l.take k).foldl nx1 nx) x=true∧EOk x:=by
 have hk:k < l.length:=(List.getElem?_eq_some_iff.1 hx).1
 have e:l=l.take k++(x :: l.drop (k+1)):=by
  have h1:=(List.take_append_drop k l).symm
  rw [List.drop_eq_getElem_cons hk] at h1
  rw [List.getElem?_eq_getElem hk] at hx
  rw [Option.some.inj hx] at h1
  exact h1
 rw [e] at h
 exact (vk6 _ _ _ h).2.1
theorem jd7 : ∀ (g : List Esd) (i : Nat) (c : List UInt8), c.length = 80 → g.length + i ≤ 4 → (∀ x ∈ g, (zm9 x.name).length ≤ 16) → (xv9 g i c).length = 80
 | [],i,c,hc,hg,hn=>hc
 | x :: g,i,c,hc,hg,hn=>by
  simp only [List.length_cons] at hg
  have he:=zn8 x (hn x (by simp))
  exact jd7 g (i+1) _ (by rw [vk9 _ _ _ (by omega)];exact hc) (by omega) fun y hy=>hn y (by simp [hy])
theorem vm8 : ∀ (g : List Esd) (i : Nat) (c : List UInt8) (a n : Nat), c.length = 80 → g.length + i ≤ 4 → (∀ x ∈ g, (zm9 x.name).length ≤ 16) → a + n ≤ 16 + 16 * i → sbM (xv9 g i c) a n = sbM c a n
 | [],i,c,a,n,hc,hg,hn,ha=>rfl
 | x :: g,i,c,a,n,hc,hg,hn,ha=>by
  simp only [List.length_cons] at hg
  have he:=zn8 x (hn x (by simp))
  rw [xv9,vm8 g (i+1) _ a n (by rw [vk9 _ _ _ (by omega)];exact hc) (by omega) (fun y hy=>hn y (by simp [hy])) (by omega),wg8 _ _ _ _ _ (by omega) (.inl (by omega))]
theorem wt6 : ∀ (g : List Esd) (i : Nat) (c : List UInt8) (j : Nat) (x : Esd), c.length = 80 → g.length + i ≤ 4 → (∀ x ∈ g, (zm9 x.name).length ≤ 16) → g[j]? = some x → sbM (xv9 g i c) (16 + 16 * (i + j)) 16 = qc9 x
 | [],i,c,j,x,hc,hg,hn,hx=>by simp at hx
 | y :: g,i,c,j,x,hc,hg,hn,hx=>by
  simp only [List.length_cons] at hg
  have he:=zn8 y (hn y (by simp))
  have hl:(putM c (16+16 * i) (qc9 y)).length=80:=by rw [vk9 _ _ _ (by omega)];exact hc
  rw [xv9]
  cases j with
  | zero =>
   simp only [List.getElem?_cons_zero,Option.some.injEq] at hx
   subst hx
   rw [vm8 g (i+1) _ _ _ hl (by omega) (fun y hy=>hn y (by simp [hy])) (by omega),Nat.add_zero,zh6 _ _ _ _ (by omega) he]
  | succ j =>
   simp only [List.getElem?_cons_succ] at hx
   have:=wt6 g (i+1) (putM c (16+16 * i) (qc9 y)) j x hl (by omega) (fun y hy=>hn y (by simp [hy])) hx
   rw [show i+1+j=i+(j+1) by omega] at this
   exact this
theorem cESD:(xm9 vd9).length=80∧decM (sbM (xm9 vd9) 1 3)=vd9:=by decide +kernel
theorem cTXT:(xm9 qh9).length=80∧decM (sbM (xm9 qh9) 1 3)=qh9:=by decide +kernel
theorem cRLD:(xm9 qr9).length=80∧decM (sbM (xm9 qr9) 1 3)=qr9:=by decide +kernel
theorem cEND:(xm9 vw9).length=80∧decM (sbM (xm9 vw9) 1 3)=vw9∧(xm9 vw9).drop 16=xr9 64:=by decide +kernel
theorem yq7 (g : List Esd) (hg : g.length ≤ 3) (hn : ∀ x ∈ g, (zm9 x.name).length ≤ 16) :
  (um9 g).length=80∧decM (sbM (um9 g) 1 3)=vd9∧valM (sbM (um9 g) 10 2)=16 * g.length∧∀ j x,g[j]?=some x→sbM (um9 g) (16+16 * j) 16=qc9 x:=by
 obtain ⟨l0,n0⟩:=cESD
 have h256:(256:Nat) ^ 2=65536:=by decide
 have b1:10+(numM 2 (16 * g.length)).length≤(xm9 vd9).length:=by simp;omega
 have l1:(card1 g).length=80:=by rw [card1,vk9 _ _ _ b1];exact l0
 have b2:∀ v,14+(numM 2 v).length≤(card1 g).length:=by intro v;simp;omega
 have l2:(card2 g).length=80:=by
  unfold card2
  split
  ·rw [vk9 _ _ _ (b2 _)];exact l1
  ·exact l1
 have s2:∀ a n,a+n≤14→sbM (card2 g) a n=sbM (card1 g) a n:=by
  intro a n h
  unfold card2
  split
  ·rw [wg8 _ _ _ _ _ (b2 _) (.inl (by omega))]
  ·rfl
 refine ⟨jd7 g 0 _ l2 (by omega) hn,?_,?_,fun j x hx=>?_⟩
 ·rw [um9,vm8 g 0 _ _ _ l2 (by omega) hn (by omega),s2 _ _ (by omega),card1,wg8 _ _ _ _ _ b1 (.inl (by omega)),n0]
 ·rw [um9,vm8 g 0 _ _ _ l2 (by omega) hn (by omega),s2 _ _ (by omega),card1,zh6 _ _ _ _ b1 (by simp),qp9 _ _ (by omega)]
 ·have:=wt6 g 0 (card2 g) j x l2 (by omega) hn hx
  rw [Nat.zero_add] at this
  exact this
theorem jm6 (g : List Esd) (nx : Int) (base : List Esd) (hg : g.length ≤ 3) (hs : seqE nx g) : ∀ k, k ≤ g.length → rdEs (um9 g) base nx k = (base ++ g.take k, (g.take k).foldl nx1 nx)
 | 0,_=>by simp [rdEs]
 | k+1,hk=>by
  have ih:=jm6 g nx base hg hs k (by omega)
  obtain ⟨x,hx⟩:∃ x,g[k]?=some x:=⟨_,List.getElem?_eq_getElem (by omega)⟩
  have hn:∀ x∈g,(zm9 x.name).length≤16:=by
   intro y hy
   obtain ⟨j,hj⟩:=List.mem_iff_getElem?.1 hy
   have:=(vj6 g nx hs j y hj).2.n
   omega
  have hf:=(yq7 g hg hn).2.2.2 k x hx
  obtain ⟨hr,ho⟩:=vj6 g nx hs k x hx
  have ht:g.take (k+1)=g.take k++[x]:=by rw [List.take_add_one,hx];rfl
  rw [rdEs,ih]
  simp only
  rw [rdE_sb,hf,yk3 hr ho.a1 ⟨ho.i0,ho.i1⟩ ho.a0,ht,List.foldl_append]
  simp
theorem nmNe:¬ qh9=vd9∧¬ qr9=vd9∧¬ qr9=qh9∧¬ vw9=vd9∧¬ vw9=qh9∧¬ vw9=qr9:=by decide
theorem cntE_16 (p:Bool) (n:Nat) (h:n≤3):cntE p (16 * n)=n:=by
 unfold cntE
 split <;> omega
theorem cntR_8 (p:Bool) (n:Nat) (h:n≤7):cntR p (8 * n)=n:=by
 unfold cntR
 split <;> omega
theorem ub4 (p : Bool) (l : List Esd) (R : List (List UInt8)) (T : List Txt) (D : List Rld) (e : List UInt8) : ∀ (f i : Nat) (A : List Esd) (nx : Int), l.length ≤ i + f → seqE nx (l.drop i) →
  goD p (egoE l f i++R) (⟨A,T,D,e⟩,nx)=goD p R (⟨A++l.drop i,T,D,e⟩,(l.drop i).foldl nx1 nx)
 | f,i,A,nx,hf,hs=>by
  by_cases h:i < l.length
  ·obtain ⟨f', rfl, hf'⟩ : ∃ f', f = f' + 1 ∧ f' < f := ⟨f - 1, by omega, by omega⟩
   rw [egoE,if_pos h,List.cons_append]
   obtain ⟨g,hg⟩:∃ g,(l.drop i).take 3=g:=⟨_,rfl⟩
   have hsp:l.drop i=g++l.drop (i+3):=by
    rw [← hg,← List.drop_drop]
    exact (List.take_append_drop 3 _).symm
   have hg3:g.length≤3:=by rw [← hg,List.length_take];omega
   rw [hsp] at hs
   obtain ⟨s1,s2⟩:=vk6 _ _ _ hs
   have hn:∀ x∈g,(zm9 x.name).length≤16:=by
    intro y hy
    obtain ⟨j,hj⟩:=List.mem_iff_getElem?.1 hy
    have:=(vj6 g nx s1 j y hj).2.n
    omega
   obtain ⟨c1,c2,c3,_⟩:=yq7 g hg3 hn
   have ih:=ub4 p l R T D e f' (i+3) (A++g) (g.foldl nx1 nx) (by omega) s2
   rw [hg,goD,if_pos c1,wk7,if_pos c2,c3,cntE_16 _ _ hg3]
   simp only
   rw [jm6 g nx A hg3 s1 g.length (Nat.le_refl _),List.take_length]
   simp only
   rw [ih,hsp,List.foldl_append,List.append_assoc]
  ·rw [qr6 f i (by omega),List.drop_eq_nil_of_le (by omega)]
   simp
def tOk (t:Txt):Prop:=0≤t.id∧t.id≤60000∧0≤t.addr∧t.addr≤1000000∧1≤t.data.length∧t.data.length≤56
theorem yb6 (t:Txt) (h:tOk t):(vf9 t).length=80∧decM (sbM (vf9 t) 1 3)=qh9∧valM (sbM (vf9 t) 10 2)=t.data.length∧valM (sbM (vf9 t) 14 2)=t.id.toNat∧valM (sbM (vf9 t) 5 3)=t.addr.toNat∧sbM (vf9 t) 16 t.data.length=t.data:=by
 obtain ⟨h1,h2,h3,h4,h5,h6⟩:=h
 obtain ⟨l0,n0⟩:=cTXT
 have e2:(256:Nat) ^ 2=65536:=by decide
 have e3:(256:Nat) ^ 3=16777216:=by decide
 have b1:5+(numM 3 t.addr.toNat).length≤(xm9 qh9).length:=by simp;omega
 have l1:=vk9 _ _ _ b1
 have b2:10+(numM 2 t.data.length).length≤(putM (xm9 qh9) 5 (numM 3 t.addr.toNat)).length:=by simp;omega
 have l2:=vk9 _ _ _ b2
 have b3:14+(numM 2 t.id.toNat).length≤(putM (putM (xm9 qh9) 5 (numM 3 t.addr.toNat)) 10 (numM 2 t.data.length)).length:=by simp;omega
 have l3:=vk9 _ _ _ b3
 have b4:16+t.data.length≤(putM (putM (putM (xm9 qh9) 5 (numM 3 t.addr.toNat)) 10 (numM 2 t.data.length)) 14 (numM 2 t.id.toNat)).length:=by omega
 have l4:=vk9 _ _ _ b4
 have n2:∀ v,(numM 2 v).length=2:=fun v=>zc9 2 v
 have n3:∀ v,(numM 3 v).length=3:=fun v=>zc9 3 v
 refine ⟨?_,?_,?_,?_,?_,?_⟩
 ·rw [vf9];omega
 ·rw [vf9,wg8 _ _ _ _ _ b4 (.inl (by omega)),wg8 _ _ _ _ _ b3 (.inl (by omega)),wg8 _ _ _ _ _ b2 (.inl (by omega)),wg8 _ _ _ _ _ b1 (.inl (by omega)),n0]
 ·rw [vf9,wg8 _ _ _ _ _ b4 (.inl (by omega)),wg8 _ _ _ _ _ b3 (.inl (by omega)),zh6 _ _ _ _ b2 (n2 _),qp9 _ _ (by omega)]
 ·rw [vf9,wg8 _ _ _ _ _ b4 (.inl (by omega)),zh6 _ _ _ _ b3 (n2 _),qp9 _ _ (by omega)]
 ·rw [vf9,wg8 _ _ _ _ _ b4 (.inl (by omega)),wg8 _ _ _ _ _ b3 (.inl (by omega)),wg8 _ _ _ _ _ b2 (.inl (by omega)),zh6 _ _ _ _ b1 (n3 _),qp9 _ _ (by omega)]
 ·rw [vf9,zh6 _ _ _ _ b4 rfl]
theorem uc4 (p : Bool) (R : List (List UInt8)) (E : List Esd) (D : List Rld) (e : List UInt8) (nx : Int) : ∀ (l A : List Txt), (∀ t ∈ l, tOk t) → goD p (l.map vf9 ++ R) (⟨E, A, D, e⟩, nx) = goD p R (⟨E, A ++ l, D, e⟩, nx)
 | [],A,h=>by simp
 | t :: l,A,h=>by
  have ht:=h t (by simp)
  obtain ⟨c1,c2,c3,c4,c5,c6⟩:=yb6 t ht
  obtain ⟨h1,h2,h3,h4,h5,h6⟩:=ht
  have hm:min t.data.length 56=t.data.length:=by omega
  have ie:((t.id.toNat:Nat):Int)=t.id:=by omega
  have ae:((t.addr.toNat:Nat):Int)=t.addr:=by omega
  rw [List.map_cons,List.cons_append,goD,if_pos c1,wk7,c2,if_neg nmNe.1,if_pos rfl,c3,if_neg (by omega),c4,c5,hm,c6,ie,ae]
  simp only
  rw [uc4 p R E D e nx l (A++[t]) fun y hy=>h y (by simp [hy]),List.append_assoc]
  rfl
theorem vl7 : ∀ (g : List Rld) (i : Nat) (c : List UInt8), c.length = 80 → g.length + i ≤ 8 → (ww9 g i c).length = 80
 | [],i,c,hc,hg=>hc
 | x :: g,i,c,hc,hg=>by
  simp only [List.length_cons] at hg
  exact vl7 g (i+1) _ (by rw [vk9 _ _ _ (by simp;omega)];exact hc) (by omega)
theorem xh8 : ∀ (g : List Rld) (i : Nat) (c : List UInt8) (a n : Nat), c.length = 80 → g.length + i ≤ 8 → a + n ≤ 16 + 8 * i → sbM (ww9 g i c) a n = sbM c a n
 | [],i,c,a,n,hc,hg,ha=>rfl
 | x :: g,i,c,a,n,hc,hg,ha=>by
  simp only [List.length_cons] at hg
  rw [ww9,xh8 g (i+1) _ a n (by rw [vk9 _ _ _ (by simp;omega)];exact hc) (by omega) (by omega),wg8 _ _ _ _ _ (by simp;omega) (.inl (by omega))]
theorem kr7 : ∀ (g : List Rld) (i : Nat) (c : List UInt8) (j : Nat) (x : Rld), c.length = 80 → g.length + i ≤ 8 → g[j]? = some x → sbM (ww9 g i c) (16 + 8 * (i + j)) 8 = jn9 x
 | [],i,c,j,x,hc,hg,hx=>by simp at hx
 | y :: g,i,c,j,x,hc,hg,hx=>by
  simp only [List.length_cons] at hg
  have hl:(putM c (16+8 * i) (jn9 y)).length=80:=by rw [vk9 _ _ _ (by simp;omega)];exact hc
  rw [ww9]
  cases j with
  | zero =>
   simp only [List.getElem?_cons_zero,Option.some.injEq] at hx
   subst hx
   rw [xh8 g (i+1) _ _ _ hl (by omega) (by omega),Nat.add_zero,zh6 _ _ _ _ (by simp;omega) (by simp)]
  | succ j =>
   simp only [List.getElem?_cons_succ] at hx
   have:=kr7 g (i+1) (putM c (16+8 * i) (jn9 y)) j x hl (by omega) hx
   rw [show i+1+j=i+(j+1) by omega] at this
   exact this
def rOkD (r:Rld):Prop:=0≤r.to_∧r.to_≤60000∧0≤r.in_∧r.in_≤60000∧0≤r.addr∧r.addr≤1000000∧1≤r.len∧r.len≤4
theorem sbA (a b:List UInt8) (i n:Nat) (h:i+n≤a.length):sbM (a++b) i n=sbM a i n:=by
 unfold sbM
 rw [List.drop_append_of_le_length (by omega),List.take_append_of_le_length (by simp;omega)]
theorem sbB (a b:List UInt8) (i n k:Nat) (h:a.length=k):sbM (a++b) (k+i) n=sbM b i n:=by
 unfold sbM
 rw [← List.drop_drop,List.drop_left' h]
theorem vf4 (r:Rld) (h:rOkD r):rdR8 (jn9 r)=r:=by
 obtain ⟨i,t,a,n,g⟩:=r
 obtain ⟨h1,h2,h3,h4,h5,h6,h7,h8⟩:=h
 simp only at h1 h2 h3 h4 h5 h6 h7 h8
 have e2:(256:Nat) ^ 2=65536:=by decide
 have e3:(256:Nat) ^ 3=16777216:=by decide
 have hfl:qk9 ⟨i,t,a,n,g⟩ < 256:=by unfold qk9;simp only;split <;> omega
 have q1:(jn9 ⟨i,t,a,n,g⟩).take 2=numM 2 t.toNat:=by
  rw [jn9,ul8,sbA _ _ _ _ (by simp),js6 _ _ (by simp)]
 have q2:sbM (jn9 ⟨i,t,a,n,g⟩) 2 2=numM 2 i.toNat:=by
  rw [jn9,show sbM (numM 2 (⟨i,t,a,n,g⟩:Rld).to_.toNat++(numM 2 (⟨i,t,a,n,g⟩:Rld).in_.toNat++(numM 1 (qk9 ⟨i,t,a,n,g⟩)++numM 3 (⟨i,t,a,n,g⟩:Rld).addr.toNat))) 2 2=sbM (numM 2 i.toNat++(numM 1 (qk9 ⟨i,t,a,n,g⟩)++numM 3 a.toNat)) 0 2 from sbB _ _ 0 2 2 (by simp),sbA _ _ _ _ (by simp),js6 _ _ (by simp)]
 have q3:sbM (jn9 ⟨i,t,a,n,g⟩) 5 3=numM 3 a.toNat:=by
  have s1:sbM (jn9 ⟨i,t,a,n,g⟩) (2+3) 3=sbM (numM 2 i.toNat++(numM 1 (qk9 ⟨i,t,a,n,g⟩)++numM 3 a.toNat)) 3 3:=sbB _ _ 3 3 2 (by simp)
  have s2:sbM (numM 2 i.toNat++(numM 1 (qk9 ⟨i,t,a,n,g⟩)++numM 3 a.toNat)) (2+1) 3=sbM (numM 1 (qk9 ⟨i,t,a,n,g⟩)++numM 3 a.toNat) 1 3:=sbB _ _ 1 3 2 (by simp)
  have s3:sbM (numM 1 (qk9 ⟨i,t,a,n,g⟩)++numM 3 a.toNat) (1+0) 3=sbM (numM 3 a.toNat) 0 3:=sbB _ _ 0 3 1 (by simp)
  exact s1.trans (s2.trans (s3.trans (js6 _ _ (by simp))))
 have q4:(jn9 ⟨i,t,a,n,g⟩).getD 4 0=UInt8.ofNat (qk9 ⟨i,t,a,n,g⟩):=by
  have s1:sbM (jn9 ⟨i,t,a,n,g⟩) (2+2) 1=sbM (numM 2 i.toNat++(numM 1 (qk9 ⟨i,t,a,n,g⟩)++numM 3 a.toNat)) 2 1:=sbB _ _ 2 1 2 (by simp)
  have s2:sbM (numM 2 i.toNat++(numM 1 (qk9 ⟨i,t,a,n,g⟩)++numM 3 a.toNat)) (2+0) 1=sbM (numM 1 (qk9 ⟨i,t,a,n,g⟩)++numM 3 a.toNat) 0 1:=sbB _ _ 0 1 2 (by simp)
  have s3:sbM (numM 1 (qk9 ⟨i,t,a,n,g⟩)++numM 3 a.toNat) 0 1=[UInt8.ofNat (qk9 ⟨i,t,a,n,g⟩)]:=by
   rw [sbA _ _ _ _ (by simp),js6 _ _ (by simp)]
   simp only [numM,List.nil_append]
   rw [Nat.mod_eq_of_lt hfl]
  have s4:=uf5 (jn9 ⟨i,t,a,n,g⟩) 4 1 0 (by omega)
  rw [← s4,show sbM (jn9 ⟨i,t,a,n,g⟩) 4 1=[UInt8.ofNat (qk9 ⟨i,t,a,n,g⟩)] from s1.trans (s2.trans s3)]
  rfl
 have q5:(UInt8.ofNat (qk9 ⟨i,t,a,n,g⟩)).toNat=qk9 ⟨i,t,a,n,g⟩:=by rw [UInt8.toNat_ofNat'];omega
 unfold rdR8
 rw [q1,q2,q3,q4,q5,qp9 _ _ (by omega),qp9 _ _ (by omega),qp9 _ _ (by omega)]
 have f1:qk9 ⟨i,t,a,n,g⟩ / 4+1=n.toNat:=by unfold qk9;simp only;split <;> omega
 have f2:decide (qk9 ⟨i,t,a,n,g⟩ / 2 % 2=1)=g:=by
  cases g with
  | true=>rw [decide_eq_true_eq];unfold qk9;simp only [if_pos];omega
  | false=>rw [decide_eq_false_iff_not];unfold qk9;simp only [Bool.false_eq_true,if_neg,not_false_eq_true];omega
 rw [f1,f2]
 congr 1 <;> omega
theorem jm8 (g : List Rld) (hg : g.length ≤ 7) :
  (zm8 g).length=80∧decM (sbM (zm8 g) 1 3)=qr9∧valM (sbM (zm8 g) 10 2)=8 * g.length∧∀ j x,g[j]?=some x→sbM (zm8 g) (16+8 * j) 8=jn9 x:=by
 obtain ⟨l0,n0⟩:=cRLD
 have h256:(256:Nat) ^ 2=65536:=by decide
 have b1:10+(numM 2 (8 * g.length)).length≤(xm9 qr9).length:=by simp;omega
 have l1:(putM (xm9 qr9) 10 (numM 2 (8 * g.length))).length=80:=by rw [vk9 _ _ _ b1];exact l0
 refine ⟨vl7 g 0 _ l1 (by omega),?_,?_,fun j x hx=>?_⟩
 ·rw [zm8,xh8 g 0 _ _ _ l1 (by omega) (by omega),wg8 _ _ _ _ _ b1 (.inl (by omega)),n0]
 ·rw [zm8,xh8 g 0 _ _ _ l1 (by omega) (by omega),zh6 _ _ _ _ b1 (by simp),qp9 _ _ (by omega)]
 ·have:=kr7 g 0 (putM (xm9 qr9) 10 (numM 2 (8 * g.length))) j x l1 (by omega) hx
  rw [Nat.zero_add] at this
  exact this
theorem vd4 (g:List Rld) (hg:g.length≤7) (h:∀ r∈g,rOkD r):rdRs (zm8 g) g.length=g:=by
 apply List.ext_getElem?
 intro j
 unfold rdRs
 rw [List.getElem?_map]
 by_cases hj:j < g.length
 ·rw [List.getElem?_range hj,Option.map_some]
  obtain ⟨x,hx⟩:∃ x,g[j]?=some x:=⟨_,List.getElem?_eq_getElem hj⟩
  rw [rdR8_sb,(jm8 g hg).2.2.2 j x hx,vf4 x (h x (List.mem_iff_getElem?.2 ⟨j,hx⟩)),hx]
 ·rw [List.getElem?_eq_none (by rw [List.length_range];omega),List.getElem?_eq_none (by omega)]
  rfl
theorem uv4 (p : Bool) (l : List Rld) (R : List (List UInt8)) (E : List Esd) (T : List Txt) (e : List UInt8) (nx : Int) (hl : ∀ r ∈ l, rOkD r) : ∀ (f i : Nat) (A : List Rld), l.length ≤ i + f →
  goD p (egoR l f i++R) (⟨E,T,A,e⟩,nx)=goD p R (⟨E,T,A++l.drop i,e⟩,nx)
 | f,i,A,hf=>by
  by_cases h:i < l.length
  ·obtain ⟨f', rfl, hf'⟩ : ∃ f', f = f' + 1 ∧ f' < f := ⟨f - 1, by omega, by omega⟩
   rw [egoR,if_pos h,List.cons_append]
   obtain ⟨g,hg⟩:∃ g,(l.drop i).take 7=g:=⟨_,rfl⟩
   have hsp:l.drop i=g++l.drop (i+7):=by
    rw [← hg,← List.drop_drop]
    exact (List.take_append_drop 7 _).symm
   have hg3:g.length≤7:=by rw [← hg,List.length_take];omega
   have hn:∀ x∈g,rOkD x:=fun x hx=>hl x (by rw [← hg] at hx;exact List.mem_of_mem_drop (List.mem_of_mem_take hx))
   obtain ⟨c1,c2,c3,_⟩:=jm8 g hg3
   have ih:=uv4 p l R E T e nx hl f' (i+7) (A++g) (by omega)
   rw [hg,goD,if_pos c1,wk7,c2,if_neg nmNe.2.1,if_neg nmNe.2.2.1,if_pos rfl,c3,cntR_8 _ _ hg3,vd4 g hg3 hn]
   simp only
   rw [ih,hsp,List.append_assoc]
  ·rw [qw6 f i (by omega),List.drop_eq_nil_of_le (by omega)]
   simp
theorem yn6 (e:List UInt8) (h:e.all okB=true) (hl:e.length≤8):(yt8 e).length=80∧decM (sbM (yt8 e) 1 3)=vw9∧nmM (sbM (yt8 e) 16 8)=e:=by
 obtain ⟨l0,n0,n1⟩:=cEND
 have hc:(zm9 e).length=e.length:=by rw [up8 h,kk8]
 have b1:16+(zm9 e).length≤(xm9 vw9).length:=by omega
 refine ⟨by rw [yt8,vk9 _ _ _ b1];exact l0,by rw [yt8,wg8 _ _ _ _ _ b1 (.inl (by omega)),n0],?_⟩
 have e1:sbM (yt8 e) 16 8=zm9 e++List.replicate (8 - e.length) 64:=by
  unfold yt8 sbM putM
  have hsp:(xm9 vw9).drop (16+(zm9 e).length)=List.replicate (64 - e.length) 64:=by
   rw [← List.drop_drop,n1,hc,xr9,List.drop_replicate]
  rw [hsp,List.append_assoc,List.drop_left' (by rw [List.length_take];omega),List.take_append,hc,List.take_of_length_le (by omega),List.take_replicate]
  congr 2
  omega
 rw [e1,uw4 h]
structure DOk (o:OMod):Prop where
 es:seqE 1 o.esd
 ts:∀ t∈o.txt,tOk t
 rs:∀ r∈o.rld,rOkD r
 en:o.entry.all okB=true∧o.entry.length≤8
theorem zl5 : ∀ (l : List Esd) (S S' : List (Int × Esd)) (N N' : List (List UInt8 × Int)) (nx nx' : Int), uf9 l S N nx = some (S', N', nx') → (∀ x ∈ l, EOk x) → seqE nx l
 | [],S,S',N,N',nx,nx',h,he=>trivial
 | x :: l,S,S',N,N',nx,nx',h,he=>by
  rw [uf9] at h
  split at h
  ·rename_i hr
   split at h
   ·cases h
   ·exact ⟨⟨hr,he x (by simp)⟩,zl5 l _ S' _ N' _ nx' h fun y hy=>he y (by simp [hy])⟩
  ·cases h
theorem name_ok {nx:Int} {x:Esd} (h:vs9 nx x=true):x.name.all okB=true∧x.name.length≤8:=by
 have hs:∀ s,symM s=true→s.all okB=true∧s.length≤8:=by
  intro s h
  simp only [symM,Bool.and_eq_true,decide_eq_true_eq] at h
  exact ⟨h.2.2.2,h.2.1⟩
 unfold vs9 at h
 split at h
 ·simp only [rule1,Bool.and_eq_true,Bool.or_eq_true,decide_eq_true_eq] at h
  rcases h.2.2.2.2.2 with e | e
  ·rw [e];exact ⟨rfl,by simp⟩
  ·exact hs _ e
 ·split at h
  ·simp only [rule2,Bool.and_eq_true] at h
   exact hs _ h.2
  ·split at h
   ·simp only [rule3,Bool.and_eq_true] at h
    exact hs _ h.2.2.2
   ·cases h
theorem qv7 : ∀ (l : List Esd) (nx : Int), seqE nx l → ∀ x ∈ l, x.name.all okB = true ∧ x.name.length ≤ 8
 | [],nx,h,x,hx=>by simp at hx
 | y :: l,nx,h,x,hx=>by
  rcases List.mem_cons.1 hx with rfl | hx
  ·exact name_ok h.1.1
  ·exact qv7 l _ h.2 x hx
theorem jr5 {o:OMod} (h:chkM o=true):DOk o:=by
 have hO:=wt8 h
 unfold chkM at h
 simp only [Bool.and_eq_true,Bool.not_eq_true'] at h
 obtain ⟨hbig,hB,hR⟩:=h
 have hl1:=hO.l1
 cases hg:uf9 o.esd [] [] 1 with
 | none=>rw [hg] at hR;cases hR
 | some g =>
  obtain ⟨S,N,nx⟩:=g
  rw [hg] at hR hB
  have hinv:=ys6 o.esd [] S [] N 1 nx hg (by omega) (by omega) (fun i x h=>by simp [getS] at h) (fun i y h=>by simp [getS] at h) (fun s k h=>by simp [getN] at h)
  obtain ⟨hS,hi,hn,n1,n2,hev⟩:=hinv
  have hE:=jg9 o.esd [] [] S [] N 1 nx EInv.nil hg
  rw [List.nil_append] at hE
  have hsq:=zl5 o.esd [] S [] N 1 nx hg hO.es
  simp only [kp7,Bool.and_eq_true,Bool.not_eq_true',List.all_eq_true] at hR
  obtain ⟨hT,hRl,hEn⟩:=hR
  refine ⟨hsq,fun t ht=>?_,fun r hr=>?_,?_⟩
  ·have h1:=hT t ht
   simp only [txB,Bool.or_eq_false_iff,decide_eq_false_iff_not,Bool.not_eq_false'] at h1
   obtain ⟨a1,a2,a3⟩:=h1
   have:=qt8 a3 hS hi
   exact ⟨by omega,by omega,by omega,by omega,by omega,by omega⟩
  ·have h1:=hRl r hr
   simp only [rdB,Bool.or_eq_false_iff,decide_eq_false_iff_not,Bool.not_eq_false'] at h1
   obtain ⟨a1,a2,a3,a4,a5⟩:=h1
   have:=qt8 a5 hS hi
   exact ⟨by omega,by omega,by omega,by omega,by omega,by omega,by omega,by omega⟩
  ·rw [hE.entry] at hEn
   by_cases h0:o.entry=[]
   ·rw [h0];exact ⟨rfl,by simp⟩
   ·rw [decide_eq_false h0] at hEn
    simp only [Bool.not_false,Bool.true_and,Bool.not_eq_false',List.any_eq_true] at hEn
    obtain ⟨x,hx,hd⟩:=hEn
    have hnm:=qv7 o.esd 1 hsq x hx
    simp only [isDf,Bool.and_eq_true,beq_iff_eq] at hd
    rw [← hd.2]
    exact hnm
theorem goD_enc (p:Bool) (o:OMod) (h:DOk o):∃ nx,goD p (encO o) (om0,1)=some (o,nx):=by
 obtain ⟨es,ts,rs,en1,en2⟩:=h
 refine ⟨o.esd.foldl nx1 1,?_⟩
 obtain ⟨c1,c2,c3⟩:=yn6 o.entry en1 en2
 unfold encO om0
 rw [ub4 p o.esd _ [] [] [] o.esd.length 0 [] 1 (by omega) (by simpa using es), List.drop_zero, uc4 p _ _ _ _ _ o.txt [] ts, uv4 p o.rld _ _ _ _ _ rs o.rld.length 0 [] (by omega), List.drop_zero,
  goD,if_pos c1,wk7,c2,if_neg nmNe.2.2.2.1,if_neg nmNe.2.2.2.2.1,if_neg nmNe.2.2.2.2.2,if_pos rfl,c3]
 simp [goD]
theorem kt4 (p:Bool) (o:OMod) (h:chkM o=true):dcD p (encO o)=(o,true):=by
 obtain ⟨nx,hg⟩:=goD_enc p o (jr5 h)
 rw [dcD,hg]
 exact if_pos ⟨h,rfl⟩
theorem zm5 (p:Bool) (L:List (List UInt8)):dcD p L=(om0,false)∨∃ o,dcD p L=(o,true)∧chkM o=true∧encO o=L:=by
 cases hg:goD p L (om0,1) with
 | none=>left;rw [dcD,hg]
 | some s =>
  by_cases hc:chkM s.1=true∧encO s.1=L
  ·right
   refine ⟨s.1,?_,hc.1,hc.2⟩
   rw [dcD,hg]
   exact if_pos hc
  ·left
   rw [dcD,hg]
   exact if_neg hc
theorem qt6 {p:Bool} {L:List (List UInt8)} (h:(dcD p L).2=true):chkM (dcD p L).1=true∧encO (dcD p L).1=L:=by
 rcases zm5 p L with e | ⟨o,e,h1,h2⟩
 ·rw [e] at h;cases h
 ·rw [e];exact ⟨h1,h2⟩
theorem qp6 {p:Bool} {L:List (List UInt8)} (h:(dcD p L).2=false):dcD p L=(om0,false):=by
 rcases zm5 p L with e | ⟨o,e,h1,h2⟩
 ·exact e
 ·rw [e] at h;cases h
theorem km5 (p q:Bool) (L:List (List UInt8)):dcD p L=dcD q L:=by
 have key:∀ p q,(dcD p L).2=true→dcD p L=dcD q L:=by
  intro p q h
  obtain ⟨h1,h2⟩:=qt6 h
  have h3:=kt4 q _ h1
  rw [h2] at h3
  have h4:=kt4 p _ h1
  rw [h2] at h4
  rw [h4,h3]
 cases h:(dcD p L).2 with
 | true=>exact key p q h
 | false =>
  cases h2:(dcD q L).2 with
  | true=>exact (key q p h2).symm
  | false=>rw [qp6 h,qp6 h2]
theorem qj4 (s t:List Esd):esL (s++t)=esL s++esL t:=by simp [esL]
theorem qh4:esL []=[]:=rfl
theorem qg4 (x:Esd):esL [x]=[esA x]:=rfl
theorem uh8 (T:Nat) (x:Value):AV.kill T (.v x)=.v x:=rfl
theorem uv9 (T i j:Nat):AV.kill T (.loc i j)=.loc i j:=rfl
theorem ub9 (T s:Nat) (x:List AV):AV.kill T (.lst .any s x)=.lst .any s x:=rfl
theorem uc9 (T s:Nat) (x:List AV):AV.kill T (.lst .nil s x)=.lst .nil s x:=rfl
theorem us9 (T e U s:Nat) (x:List AV):AV.kill T (.lst (.tip e U) s x)=if U=T then .lst (if U % 2=0 then .ex else .any) s x else .lst (.tip e U) s x:=rfl
theorem un9 (T:Nat) (x:List AV):AV.kill T (.agg x)=.agg (AV.killL T x):=rfl
theorem ub7 (b : List UInt8) (base : List Esd) (nx : Int) : ∀ k, (rdEs b base nx k).1.length = base.length + k
 | 0=>rfl
 | k+1=>by rw [rdEs];simp [ub7 b base nx k];omega
theorem ur6 (b : List UInt8) (base : List Esd) (nx : Int) : ∀ k, nx ≤ (rdEs b base nx k).2 ∧ (rdEs b base nx k).2 ≤ nx + k
 | 0=>by simp [rdEs]
 | k+1=>by
  have:=ur6 b base nx k
  rw [rdEs]
  simp only [nx1]
  split <;> omega
theorem ul5 (b : List UInt8) (hb : b.length = 80) (nx : Int) (hn0 : 0 ≤ nx) (hn1 : nx ≤ 100000000) (base : List Esd) (hbl : base.length ≤ 100000000) (fe : Fl) (hfe : fe = .nil ∧ base = [] ∨ fe = .tip 50 129) (z : List AV) (x1 x2 x3 : AV)
  (k1:AV.kill 129 x1=x1) (k2:AV.kill 129 x2=x2) (k3:AV.kill 129 x3=x3) (kz:AV.killL 129 z=z) (u1:AV.under 2 x1=true) (u2:AV.under 2 x2=true) (u3:AV.under 2 x3=true) (uz:AV.underL 2 z=true) :
  wf9 Tryz.prog 32 [.loc 1 0, .lst .any 1 (byL b), .v (.int .i64 nx)] [.cells 33 z, .cells 33 [.lst fe 5 (esL base), x1, x2, x3]] fun r h' => ∃ fe',
   r=.v (.int .i64 (rdEs b base nx (cntE true (valM (sbM b 10 2)))).2)∧(fe'=.nil∧(rdEs b base nx (cntE true (valM (sbM b 10 2)))).1=[]∨fe'=.tip 50 129) ∧
   h'=[.cells 33 z,.cells 33 [.lst fe' 5 (esL (rdEs b base nx (cntE true (valM (sbM b 10 2)))).1),x1,x2,x3]]:=by
 refine zv9 Tryz.func32 rfl (by decide +kernel) (by simp [Tryz.f32]) (rs:=[.tmp 6]) rfl ?_
 rw [show Tryz.f32.ntmps=69 from rfl]
 have h12:12≤b.length:=by omega
 have h12i:(12:Int)≤b.length:=by omega
 obtain ⟨A,hA⟩:∃ A,sbM b 10 2=A:=⟨_,rfl⟩
 have eA:List.drop 10 (List.take 12 (byL b))=byL A:=by rw [← hA,sbM,← xf9,← wd9,List.drop_take]
 have hAl:A.length≤7:=by rw [← hA,sbM,List.length_take];omega
 have hv:=kg9 A hAl
 rw [hA]
 obtain ⟨V,hV⟩:∃ V,valM A=V:=⟨_,rfl⟩
 have hVl:V < 256 ^ 2:=by rw [← hV];exact xm8 2 A (by rw [← hA,sbM,List.length_take,List.length_drop];omega)
 have hp2:(256:Nat) ^ 2=65536:=by decide
 rw [hV] at hv ⊢
 obtain ⟨n,hn⟩:∃ n,cntE true V=n:=⟨_,rfl⟩
 have hn3:n≤3:=by rw [← hn];unfold cntE;split <;> omega
 have hdv:(V:Int).tdiv 16=((V / 16:Nat):Int):=rfl
 have wq:=w64 (n:=((V / 16:Nat):Int)) (by omega) (by omega)
 have hmin:(if ((V / 16:Nat):Int) < 3 then ((V / 16:Nat):Int) else (3:Int))=(n:Nat):=by
  rw [← hn,cntE]
  simp only [if_pos]
  split <;> omega
 rw [hn]
 refine yt9 [0,1,2] (by simp;rfl) ?_
 refine yl9 ?_
 refine W_rK [0,1,2,14,15] ?_
 refine yq9 2 (by simp [h12,h12i,eA];rfl) rfl ?_
 refine yd9 (by simp) (by first | (simp;done) | (simp;rfl)) hv (by simp;rfl) ?_
 refine yw9 (by simp [hdv,wq,hmin,-Int.natCast_ediv];rfl) ?_
 refine ys9 ?_
 refine zl9 (fun k s => ∃ (i : Nat) (gs : Fl), k = n - i ∧ i ≤ n ∧ (gs = .nil ∧ (rdEs b base nx i).1 = [] ∨ gs = .tip 50 129) ∧
  s=⟨69,[(0,.loc 1 0),(1,.lst .any 1 (byL b)),(2,.v (.int .i64 (rdEs b base nx i).2)),(14,.v (.int .i64 (n:Nat))),(15,.v (.int .i64 (i:Nat)))],[.cells 33 z,.cells 33 [.lst gs 5 (esL (rdEs b base nx i).1),x1,x2,x3]]⟩) (k:=n) ⟨0,fe,rfl,by omega,hfe,by simp [rdEs]⟩ ?_
 rintro k s ⟨i,gs,rfl,hi,hgs,rfl⟩
 by_cases c:i < n
 rotate_left
 ·have hin:i=n:=by omega
  subst hin
  refine yt9 [0,1,2,14,15,16] (by simp;rfl) ?_
  refine yl9 ?_
  refine yp9 rfl (fun h=>by simp at h) (fun h=>?_)
  refine zj9 ?_
  refine yt9 [6] (by simp;rfl) ?_
  refine yn9 ?_
  repeat (first | refine yg9 ?_ | refine yh9 ?_)
  exact xd9 2 (by simp [resA]) (by simp) (by simp) (by simp [AV.under,AV.underL,yc9,AObj.under,u1,u2,u3,uz]) ⟨gs,rfl,hgs,rfl⟩
 have ci:(i:Int) < n:=by omega
 obtain ⟨acc,hacc⟩:∃ a,(rdEs b base nx i).1=a:=⟨_,rfl⟩
 obtain ⟨ny,hny⟩:∃ a,(rdEs b base nx i).2=a:=⟨_,rfl⟩
 have hal:=ub7 b base nx i
 have hnb:=ur6 b base nx i
 rw [hacc] at hal hgs
 rw [hny] at hnb
 obtain ⟨X,hX⟩:∃ X,b.drop (16+16 * i)=X:=⟨_,rfl⟩
 have hXl:16≤X.length:=by rw [← hX,List.length_drop];omega
 have eX:List.drop (16+16 * i) (byL b)=byL X:=by rw [← hX,← wd9]
 have hstep:rdEs b base nx (i+1)=(acc++[rdE X ny],nx1 ny (rdE X ny)):=by rw [rdEs,hacc,hny,hX]
 obtain ⟨Y,hY⟩:∃ Y,X.take 8=Y:=⟨_,rfl⟩
 have eY:List.take 8 (byL X)=byL Y:=by rw [← hY,← xf9]
 have htr:=xl7 Y (by rw [← hY,List.length_take];omega)
 obtain ⟨nm,hnm⟩:∃ s,decM (uk8 Y)=s:=⟨_,rfl⟩
 rw [hnm] at htr
 have wm:=w64 (n:=16 * (i:Int)) (by omega) (by omega)
 have wa:=w64 (n:=16+16 * (i:Int)) (by omega) (by omega)
 have hq:16+16 * i≤b.length:=by omega
 have hqi:16+16 * (i:Int)≤b.length:=by omega
 have hqt:(16+16 * (i:Int)).toNat=16+16 * i:=by omega
 have hq0:(0:Int)≤16+16 * (i:Int):=by omega
 have h8:8≤X.length:=by omega
 have h8i:(8:Int)≤X.length:=by omega
 have h8':8 < X.length:=by omega
 have h8'i:(8:Int) < X.length:=by omega
 have h9:12≤X.length:=by omega
 have h9i:(12:Int)≤X.length:=by omega
 have h13:(16:Int)≤X.length:=by omega
 obtain ⟨B,hB⟩:∃ A,sbM X 9 3=A:=⟨_,rfl⟩
 have eB:List.drop 9 (List.take 12 (byL X))=byL B:=by rw [← hB,sbM,← xf9,← wd9,List.drop_take]
 have hvB:=kg9 B (by rw [← hB,sbM,List.length_take];omega)
 obtain ⟨VB,hVB⟩:∃ V,valM B=V:=⟨_,rfl⟩
 rw [hVB] at hvB
 obtain ⟨C,hC⟩:∃ A,sbM X 13 3=A:=⟨_,rfl⟩
 have eC:List.drop 13 (List.take 16 (byL X))=byL C:=by rw [← hC,sbM,← xf9,← wd9,List.drop_take]
 have hvC:=kg9 C (by rw [← hC,sbM,List.length_take];omega)
 obtain ⟨VC,hVC⟩:∃ V,valM C=V:=⟨_,rfl⟩
 rw [hVC] at hvC
 obtain ⟨t,ht⟩:∃ t,X[8]?=some t:=⟨_,List.getElem?_eq_getElem h8'⟩
 have ht2:X[8]'h8'=t:=by rw [List.getElem?_eq_getElem h8'] at ht;exact Option.some.inj ht
 have htd:X.getD 8 0=t:=by rw [List.getD_eq_getElem?_getD,ht];rfl
 obtain ⟨K,hK⟩:∃ K,t.toNat=K:=⟨_,rfl⟩
 have heq:∀ x:UInt8,(t=x)=(K=x.toNat):=fun x=>by rw [← hK];exact propext UInt8.toNat_inj.symm
 have hrd:rdE X ny=if K=0 then ⟨nm,1,ny,VB,VC⟩ else if K=1 then ⟨nm,2,VC,VB,0⟩ else ⟨nm,3,ny,0,0⟩:=by
  have e0:(t=0)=(K=0):=heq 0
  have e1:(t=1)=(K=1):=heq 1
  unfold rdE nmM
  rw [htd,hY,hnm,hB,hC,hVB,hVC]
  by_cases q0:K=0
  ·rw [if_pos (by rw [e0];exact q0),if_pos q0]
  ·rw [if_neg (by rw [e0];exact q0),if_neg q0]
   by_cases q1:K=1
   ·rw [if_pos (by rw [e1];exact q1),if_pos q1]
   ·rw [if_neg (by rw [e1];exact q1),if_neg q1]
 have wi:=w64 (n:=(i:Int)+1) (by omega) (by omega)
 have wn1:=w64 (n:=ny+1) (by omega) (by omega)
 have wn2:=w64 (n:=ny - 1) (by omega) (by omega)
 have wn3:=w64 (n:=ny - 1+1) (by omega) (by omega)
 have hby:(acc.length+1) * 48≤140737488355328:=by omega
 obtain ⟨E,hE⟩:∃ E,rdE X ny=E:=⟨_,rfl⟩
 rw [hacc,hny]
 refine yt9 [0,1,2,14,15,16] (by simp [c];rfl) ?_
 refine yl9 ?_
 refine yp9 rfl (fun h=>?_) (fun h=>by simp at h)
 refine yk9 ?_
 refine yl9 ?_
 refine ys9 ?_
 refine yt9 [0,1,2,14,15,7] (by simp;rfl) ?_
 refine yt9 [0,1,2,14,15,8] (by simp [wm,wa,hq,hqi,hqt,hq0,eX];rfl) ?_
 refine W_rK [0,1,2,14,15,8,9] ?_
 refine yq9 2 (by simp [h8,h8i,eY];rfl) rfl ?_
 refine yd9 (by simp) (by first | (simp;done) | (simp;rfl)) htr (by simp;rfl) ?_
 refine yw9 (by simp [strB,yf9];rfl) ?_
 refine xh9 (fun σ=>σ=⟨69,[(0,.loc 1 0),(1,.lst .any 1 (byL b)),(2,.v (.int .i64 (if E.kind=2 then ny - 1 else ny))),(14,.v (.int .i64 (n:Nat))),(15,.v (.int .i64 (i:Nat))),(9,.loc 2 0)],[.cells 33 z,.cells 33 [.lst gs 5 (esL acc),x1,x2,x3],.cells 50 (esC E)]⟩) ?_ ?_
 ·refine yt9 [0, 1, 2, 14, 15, 8, 9, 30] (by simp [h8', h8'i, ht2, hK]; rfl) ?_
  refine ys9 ?_
  by_cases q0:K=0
  ·rw [if_pos q0] at hrd
   refine W_cT [0,1,2,14,15,8,9,30,31] (by simp [q0];rfl) rfl ?_
   refine qt9 [0,1,2,14,15,9] mx (by decide +kernel) ?_
   refine yr9 2 (by simp [h9,h9i,eB];rfl) rfl ?_
   refine zw9 (by simp) (by first | (simp;done) | (simp;rfl)) hvB (by simp;rfl) ?_
   refine yr9 2 (by simp [hXl,h13,eC];rfl) rfl ?_
   refine zw9 (by simp) (by first | (simp;done) | (simp;rfl)) hvC (by simp;rfl) ?_
   refine ym9 (by simp [yf9];rfl) ?_
   simp [← hE,hrd,esC,strB]
  have q0b:((K:Int) == 0)=false:=by simpa using q0
  rw [if_neg q0] at hrd
  refine W_cF [0,1,2,14,15,8,9,30,31] (by simp [q0,q0b];rfl) rfl ?_
  by_cases q1:K=1
  ·rw [if_pos q1] at hrd
   refine W_cT [0,1,2,14,15,8,9,30,42] (by simp [q1];rfl) rfl ?_
   refine jh9 [0,1,2,14,15,9] mx (by decide +kernel) ?_
   refine yr9 2 (by simp [h9,h9i,eB];rfl) rfl ?_
   refine zw9 (by simp) (by first | (simp;done) | (simp;rfl)) hvB (by simp;rfl) ?_
   refine yr9 2 (by simp [hXl,h13,eC];rfl) rfl ?_
   refine zw9 (by simp) (by first | (simp;done) | (simp;rfl)) hvC (by simp;rfl) ?_
   refine ym9 (by simp [yf9];rfl) ?_
   refine zq9 [0,1,2,14,15,9] (by simp [wn2];rfl) ?_
   simp [← hE,hrd,esC,strB]
  have q1b:((K:Int) == 1)=false:=by simp;omega
  rw [if_neg q1] at hrd
  refine W_cF [0,1,2,14,15,9,42] (by simp [q1,q1b];rfl) rfl ?_
  refine zs9 [0,1,2,14,15,9] ?_
  refine yk9 ?_
  simp [← hE,hrd,esC,strB]
 rintro _ rfl
 have wn:IntKind.i64.wrap ((if E.kind=2 then ny - 1 else ny)+1)=nx1 ny E:=by
  unfold nx1
  split
  ·rw [wn3];omega
  ·rw [wn1]
 have hsn:esL (acc++[E])=esL acc++[esA E]:=by rw [qj4,qg4]
 rw [hE] at hstep
 refine yt9 [0,1,2,14,15,9] (by simp [wn];rfl) ?_
 rcases hgs with ⟨rfl,rfl⟩ | rfl
 ·refine W_dvE [0,1,2,14,15] mx (by decide +kernel) (by simp [hby,yf9,esC,strB,qh4,catK,AV.cellsK,AV.kone,AV.koneL,AV.weak,AV.weakL,k1,k2,k3,kz];rfl) ?_
  refine xp9 2 (by simp) (by simp) (by simp [yv9,AV.under,AV.underL]) (by simp [yc9,AObj.under,AV.under,AV.underL,u1,u2,u3,uz,strB]) ?_
  refine zq9 [0,1,2,14,15] (by simp [wi];rfl) ?_
  exact ⟨_,by omega,i+1,.tip 50 129,rfl,by omega,.inr rfl,by simp [hstep,esL,strB]⟩
 ·refine W_dvE [0,1,2,14,15] mx (by decide +kernel) (by simp [hby,yf9,esC,strB,catK,AV.cellsK,AV.kone,AV.koneL,AV.weak,AV.weakL,k1,k2,k3,kz];rfl) ?_
  refine xp9 2 (by simp) (by simp) (by simp [yv9,AV.under,AV.underL]) (by simp [yc9,AObj.under,AV.under,AV.underL,u1,u2,u3,uz,strB]) ?_
  refine zq9 [0,1,2,14,15] (by simp [wi];rfl) ?_
  exact ⟨_,by omega,i+1,.tip 50 129,rfl,by omega,.inr rfl,by simp [hstep,hsn,strB]⟩
theorem wk6 (o:OMod) (ho:OIn o):Sound Tryz.prog 22 [obA o] (zd4 o):=by
 refine vm9 Tryz.func22 rfl (by decide +kernel) (by simp [Tryz.f22]) (by simp [AV.rfL,AV.rf,strB]) (by simp [AV.tlL,AV.tl,strB]) (rs:=[.tmp 2,.tmp 3]) rfl ?_
 rw [show Tryz.f22.ntmps=176 from rfl]
 have hchk:=vr8 o ho
 refine yt9 [1] (by simp;rfl) ?_
 refine (show Wt true 0 Tryz.prog _ _ ⟨176,[(1,.loc 0 0)],[.cells 33 (obC o)]⟩ from ?_)
 refine yl9 ?_
 refine W_rK [1,27] ?_
 refine yq9 1 (by simp [obC];rfl) rfl ?_
 refine yd9 (by simp) (by first | (simp;done) | (simp;rfl) | (simp [strB];done) | (simp [strB];rfl)) hchk (by simp;rfl) ?_
 by_cases hc:chkM o=true
 rotate_left
 ·refine yw9 (by simp [hc];rfl) ?_
  refine yp9 rfl (fun h=>?_) (fun h=>by simp at h)
  refine yt9 [2,3] (by simp;rfl) ?_
  refine yn9 ?_
  repeat (first | refine yg9 ?_ | refine yh9 ?_)
  refine ⟨_,by simp [retQ];exact ⟨rfl,by simp [AV.rf,AV.rfL]⟩,.inl fun T=>?_⟩
  simp [zd4,hc]
 have hk:=wt8 hc
 refine yw9 (by simp [hc];rfl) ?_
 refine yp9 rfl (fun h=>by simp at h) (fun h=>?_)
 refine yk9 ?_
 refine yt9 [1,4] (by simp;rfl) ?_
 refine yl9 ?_
 refine W_rK [1,4,30] ?_
 refine yq9 2 (by simp [obC];rfl) rfl ?_
 refine zr9 (f:=47) (args:=[.lst .any 5 (esL o.esd),.v (.int .i64 (3:Nat))]) (by simp) (by simp [yb9,zt9]) ((ut5 o.esd 3 _ ?_).mono ?_)
 ·simp [yc9,AObj.under,AV.under,AV.underL,obC,strB]
 rintro r h' ⟨rfl,rfl⟩
 refine ⟨_,by simp;rfl,?_⟩
 refine yw9 (by simp;rfl) ?_
 refine ys9 ?_
 obtain ⟨R1,hR1⟩:∃ R1,[]++egoE o.esd o.esd.length 0=R1:=⟨_,rfl⟩
 refine jj9 (Qc:=fun _ h'=>R1.length≤([]:List (List UInt8)).length+3000∧h'=[.cells 33 (obC o),.cells 22 [.lst (.tip 23 147) 1 (bbL (R1))],.cells 29 [.lst .any 5 (esL o.esd)],.cells 3 [.v (.int .i64 (3:Nat))],.loop 176 [(1,.loc 0 0),(4,.loc 1 0),(30,.fn (.func 74) [] [.loc 2 0,.loc 3 0])] [31,32] (rfAn Tryz.f22 0) (rfBn Tryz.f22 0) .ready]) rfl (esd_all o hk [] R1 hR1 (by simp) rfl) ?_
 rintro _ _ ⟨hR1l,rfl⟩
 refine ⟨176,_,_,_,_,.ready,rfl,?_⟩
 refine (show Wt true 0 Tryz.prog _ _ _ from ?_)
 refine zs9 [1,4] ?_
 refine xp9 2 (Nat.zero_le _) (by simp) (by simp [yv9,AV.under,AV.underL]) (by simp [yc9,xl9,AV.under,AV.underL,zp9]) ?_
 refine (show Wt true 0 Tryz.prog _ _ ⟨176,[(1,.loc 0 0),(4,.loc 1 0)],[.cells 33 (obC o),.cells 22 [.lst (.tip 23 147) 1 (bbL R1)]]⟩ from ?_)
 have hl2:=hk.l2
 obtain ⟨R2,hR2⟩:∃ R2,R1++o.txt.map vf9=R2:=⟨_,rfl⟩
 have hR2l:R2.length≤6000:=by rw [← hR2];simp at hR1l ⊢;omega
 refine ws9 (fun σ=>σ=⟨176,[(1,.loc 0 0),(4,.loc 1 0)],[.cells 33 (obC o),.cells 22 [.lst (.tip 23 147) 1 (bbL R2)]]⟩) ?_ ?_
 ·refine yt9 [1, 4, 75, 76, 77] (by simp [obC]; rfl) ?_
  refine ys9 ?_
  refine zl9 (fun kk σ=>∃ (i:Nat),kk=o.txt.length - i∧i≤o.txt.length∧σ=⟨176,[(1,.loc 0 0),(4,.loc 1 0),(75,.lst .any 3 (txL o.txt)),(76,.v (.int .i64 (o.txt.length:Nat))),(77,.v (.int .i64 (i:Nat)))],[.cells 33 (obC o),.cells 22 [.lst (.tip 23 147) 1 (bbL (R1++(o.txt.take i).map vf9))]]⟩) (k:=o.txt.length) ⟨0,rfl,by omega,by simp [obC]⟩ ?_
  rintro kk σ ⟨i,rfl,hi,rfl⟩
  by_cases c:i < o.txt.length
  ·have ci : (i : Int) < o.txt.length := by omega
   obtain ⟨x,hs⟩:∃ x,o.txt[i]?=some x:=⟨_,List.getElem?_eq_getElem c⟩
   have hs2:o.txt[i]'c=x:=by rw [List.getElem?_eq_getElem c] at hs;exact Option.some.inj hs
   obtain ⟨i0,i1,a0,a1,d0,d1⟩:=hk.ts x (List.mem_of_getElem? hs)
   have wi:=w64 (n:=(i:Int)+1) (by omega) (by omega)
   obtain ⟨acc,hacc⟩:∃ acc,R1++(o.txt.take i).map vf9=acc:=⟨_,rfl⟩
   have haccl:acc.length≤6000:=by rw [← hacc];simp at hR1l ⊢;omega
   have hacc2:R1++(o.txt.take (i+1)).map vf9=acc++[vf9 x]:=by rw [← hacc,List.take_add_one,hs];simp
   have happ:bbL acc++[.lst .any 1 (byL (vf9 x))]=bbL (acc++[vf9 x]):=by simp [wv9,qq9]
   have hq1:acc.length≤140737488355327:=by omega
   have hq2:(acc.length+1) * 24≤140737488355328:=by omega
   rw [hacc]
   have c0l:=qk8 qh9 (by decide +kernel)
   have hcT:putM (putM (putM (putM (xm9 qh9) 5 (numM 3 x.addr.toNat)) 10 (numM 2 x.data.length)) 14 (numM 2 x.id.toNat)) 16 x.data=vf9 x:=rfl
   obtain ⟨c0,hc0⟩:∃ c,xm9 qh9=c:=⟨_,rfl⟩
   rw [hc0] at c0l hcT
   refine yt9 [1,4,75,76,77,78] (by simp [ci];rfl) ?_
   refine yl9 ?_
   refine yp9 rfl (fun h=>?_) (fun h=>by simp [c] at h)
   refine yk9 ?_
   refine yl9 ?_
   refine ys9 ?_
   refine yt9 [1,4,75,76,77,13] (by simp [c,ci,hs2,yf9];rfl) ?_
   refine W_rK [1,4,75,76,77,13,14,15] ?_
   refine zr9 (f:=48) (args:=[strB qh9]) (by simp) (by simp [yb9,zt9,strB,qh9]) ((kj9 qh9 (by simp [qh9]) (by decide +kernel) _ (by simp [yc9,xl9,AObj.under,yv9,AV.under,AV.underL,zp9,zd9])).mono ?_)
   rintro _ _ ⟨k,rfl,rfl⟩
   refine ⟨_,by simp;rfl,?_⟩
   refine yw9 (by simp;rfl) ?_
   rw [hc0]
   refine W_rK [1,4,75,76,77,13,14,15] ?_
   refine yq9 3 (by simp;rfl) rfl ?_
   refine yd9 (by simp) (by first | (simp;done) | (simp;rfl)) (numZ x.addr 3 a0 (by omega) (by omega)) (by simp;rfl) ?_
   refine zr9 (f:=76) (args:=[.v (.int .i64 (5:Nat)),.lst .any 1 (byL (numM 3 x.addr.toNat)),.loc 4 0]) (by simp) (by simp [yb9,zt9,zm9]) ((vj9 (5) 80 (numM 3 x.addr.toNat) c0 k c0l (by simp <;> omega) (by omega) (by omega) _ 4 3 (by simp) (by simp) (by simp [yc9,xl9,AObj.under,yv9,AV.under,AV.underL,zp9,zd9,txC])).mono ?_)
   rintro _ _ ⟨rfl,rfl⟩
   refine ⟨_,by simp;rfl,?_⟩
   refine yw9 (by simp;rfl) ?_
   obtain ⟨c1,hc1⟩:∃ zz,putM c0 (5) (numM 3 x.addr.toNat)=zz:=⟨_,rfl⟩
   have c1l:c1.length=80:=by rw [← hc1,xt9 _ _ _ (by simp <;> omega)];exact c0l
   rw [hc1]
   rw [hc1] at hcT
   refine W_rK [1,4,75,76,77,13,14,15] ?_
   refine yq9 4 (by simp;rfl) rfl ?_
   refine yd9 (by simp) (by first | (simp;done) | (simp;rfl)) (qs9 x.data.length 2 (by omega) (by omega)) (by simp;rfl) ?_
   refine zr9 (f:=76) (args:=[.v (.int .i64 (10:Nat)),.lst .any 1 (byL (numM 2 x.data.length)),.loc 4 0]) (by simp) (by simp [yb9,zt9,zm9]) ((vj9 (10) 80 (numM 2 x.data.length) c1 k c1l (by simp <;> omega) (by omega) (by omega) _ 4 3 (by simp) (by simp) (by simp [yc9,xl9,AObj.under,yv9,AV.under,AV.underL,zp9,zd9,txC])).mono ?_)
   rintro _ _ ⟨rfl,rfl⟩
   refine ⟨_,by simp;rfl,?_⟩
   refine yw9 (by simp;rfl) ?_
   obtain ⟨c2,hc2⟩:∃ zz,putM c1 (10) (numM 2 x.data.length)=zz:=⟨_,rfl⟩
   have c2l:c2.length=80:=by rw [← hc2,xt9 _ _ _ (by simp <;> omega)];exact c1l
   rw [hc2]
   rw [hc2] at hcT
   refine W_rK [1,4,75,76,77,13,14,15] ?_
   refine yq9 3 (by simp;rfl) rfl ?_
   refine yd9 (by simp) (by first | (simp;done) | (simp;rfl)) (numZ x.id 2 i0 (by omega) (by omega)) (by simp;rfl) ?_
   refine zr9 (f:=76) (args:=[.v (.int .i64 (14:Nat)),.lst .any 1 (byL (numM 2 x.id.toNat)),.loc 4 0]) (by simp) (by simp [yb9,zt9,zm9]) ((vj9 (14) 80 (numM 2 x.id.toNat) c2 k c2l (by simp <;> omega) (by omega) (by omega) _ 4 3 (by simp) (by simp) (by simp [yc9,xl9,AObj.under,yv9,AV.under,AV.underL,zp9,zd9,txC])).mono ?_)
   rintro _ _ ⟨rfl,rfl⟩
   refine ⟨_,by simp;rfl,?_⟩
   refine yw9 (by simp;rfl) ?_
   obtain ⟨c3,hc3⟩:∃ zz,putM c2 (14) (numM 2 x.id.toNat)=zz:=⟨_,rfl⟩
   have c3l:c3.length=80:=by rw [← hc3,xt9 _ _ _ (by simp <;> omega)];exact c2l
   rw [hc3]
   rw [hc3] at hcT
   refine W_rK [1,4,75,76,77,14] ?_
   refine yq9 3 (by simp;rfl) rfl ?_
   refine zr9 (f:=76) (args:=[.v (.int .i64 (16:Nat)),.lst .any 1 (byL (x.data)),.loc 4 0]) (by simp) (by simp [yb9,zt9,zm9]) ((vj9 (16) 80 (x.data) c3 k c3l (by omega) (by omega) (by omega) _ 4 3 (by simp) (by simp) (by simp [yc9,xl9,AObj.under,yv9,AV.under,AV.underL,zp9,zd9,txC])).mono ?_)
   rintro _ _ ⟨rfl,rfl⟩
   refine ⟨_,by simp;rfl,?_⟩
   refine yw9 (by simp;rfl) ?_
   have cTl:(vf9 x).length=80:=by rw [← hcT,xt9 _ _ _ (by omega)];exact c3l
   rw [hcT]
   obtain ⟨fo,hfo,hfz⟩:=qd8 (h:=[.cells 33 (obC o),.cells 22 [.lst (.tip 23 147) 1 (bbL acc)],.cells 42 [.v (.int .i64 x.id),.v (.int .i64 x.addr),.lst .any 1 (byL x.data)],.cells 5 (zd9 (vf9 x) k),.cells 23 [.arr 3 0 80 80]]) 3 80 (vf9 x) k rfl cTl
   refine xf6 14 rfl (by decide) hfz ?_
   refine kh6 (fun σ=>σ=⟨176,[(1,.loc 0 0),(4,.loc 1 0),(75,.lst .any 3 (txL o.txt)),(76,.v (.int .i64 (o.txt.length:Nat))),(77,.v (.int .i64 (i:Nat)))],[.cells 33 (obC o),.cells 22 [.lst (.tip 23 147) 1 (bbL (acc++[vf9 x]))],.cells 42 [.v (.int .i64 x.id),.v (.int .i64 x.addr),.lst .any 1 (byL x.data)],.froz 5 (byL (vf9 x)),.cells 23 [.arr 3 0 80 80]]⟩) ?_ ?_
   ·rcases hfo with rfl | rfl
    all_goals
     refine zq9 [1,4,75,76,77] (by simp [putF,yf9,catK,AV.cellsK,AV.kone,AV.koneL,hq1,hq2];rfl) ?_
     simp [yj9,← happ]
   rintro _ rfl
   refine xp9 2 (Nat.zero_le _) (by simp) (by simp [yv9,AV.under,AV.underL]) (by simp [yc9,xl9,AV.under,AV.underL,zp9]) ?_
   refine zq9 [1,4,75,76,77] (by simp [wi];rfl) ?_
   exact ⟨_,by omega,i+1,rfl,by omega,by rw [hacc2];simp⟩
  have hie:i=o.txt.length:=by omega
  refine yt9 [1,4,75,76,77,78] (by simp [c];rfl) ?_
  refine yl9 ?_
  refine yp9 rfl (fun h=>by simp [hie] at h) (fun h=>?_)
  refine zs9 [1,4] ?_
  refine zj9 ?_
  simp [yj9,hie,← hR2,List.take_of_length_le]
 rintro _ rfl
 obtain ⟨R3,hR3⟩:∃ R3,R2++egoR o.rld o.rld.length 0=R3:=⟨_,rfl⟩
 refine yl9 ?_
 refine W_rK [1,4,112] ?_
 refine yq9 2 (by simp [obC];rfl) rfl ?_
 refine zr9 (f:=53) (args:=[.lst .any 5 (rdL o.rld),.v (.int .i64 (7:Nat))]) (by simp) (by simp [yb9,zt9]) ((ur5 o.rld 7 _ ?_).mono ?_)
 ·simp [yc9,AObj.under,AV.under,AV.underL,obC,strB]
 rintro r h' ⟨rfl,rfl⟩
 refine ⟨_,by simp;rfl,?_⟩
 refine yw9 (by simp;rfl) ?_
 refine ys9 ?_
 refine jj9 (Qc:=fun _ h'=>R3.length≤R2.length+3000∧h'=[.cells 33 (obC o),.cells 22 [.lst (.tip 23 147) 1 (bbL (R3))],.cells 31 [.lst .any 5 (rdL o.rld)],.cells 3 [.v (.int .i64 (7:Nat))],.loop 176 [(1,.loc 0 0),(4,.loc 1 0),(112,.fn (.func 77) [] [.loc 2 0,.loc 3 0])] [113,114] (rfAn Tryz.f22 1) (rfBn Tryz.f22 1) .ready]) rfl (rld_all o hk R2 R3 hR3 (by omega)) ?_
 rintro _ _ ⟨hR3l,rfl⟩
 refine ⟨176,_,_,_,_,.ready,rfl,?_⟩
 refine (show Wt true 0 Tryz.prog _ _ _ from ?_)
 refine zs9 [1,4] ?_
 refine xp9 2 (Nat.zero_le _) (by simp) (by simp [yv9,AV.under,AV.underL]) (by simp [yc9,xl9,AV.under,AV.underL,zp9]) ?_
 refine (show Wt true 0 Tryz.prog _ _ ⟨176,[(1,.loc 0 0),(4,.loc 1 0)],[.cells 33 (obC o),.cells 22 [.lst (.tip 23 147) 1 (bbL R3)]]⟩ from ?_)
 have hcode:=ut8 o.entry (by have:=hk.en;omega)
 simp only [strB] at hcode
 have c0l:=qk8 vw9 (by decide +kernel)
 have hcN:putM (xm9 vw9) 16 (zm9 o.entry)=yt8 o.entry:=rfl
 have hcl:=yc6 o.entry
 have hen:=hk.en
 obtain ⟨c0,hc0⟩:∃ c,xm9 vw9=c:=⟨_,rfl⟩
 rw [hc0] at c0l hcN
 have hq1:R3.length≤140737488355327:=by omega
 have hq2:(R3.length+1) * 24≤140737488355328:=by omega
 have happ:bbL R3++[.lst .any 1 (byL (yt8 o.entry))]=bbL (R3++[yt8 o.entry]):=by simp [wv9,qq9]
 have henc:encO o=R3++[yt8 o.entry]:=by rw [encO,← hR3,← hR2,← hR1];simp
 refine W_rK [1,4,23,24] ?_
 refine zr9 (f:=48) (args:=[strB vw9]) (by simp) (by simp [yb9,zt9,strB,vw9]) ((kj9 vw9 (by simp [vw9]) (by decide +kernel) _ (by simp [yc9,xl9,AObj.under,yv9,AV.under,AV.underL,zp9,zd9])).mono ?_)
 rintro _ _ ⟨k,rfl,rfl⟩
 refine ⟨_,by simp;rfl,?_⟩
 refine yw9 (by simp;rfl) ?_
 rw [hc0]
 refine W_rK [1,4,23] ?_
 refine yq9 3 (by simp [obC,strB];rfl) rfl ?_
 refine yd9 (by simp) (by first | (simp;done) | (simp;rfl)) hcode (by simp;rfl) ?_
 refine zr9 (f:=76) (args:=[.v (.int .i64 (16:Nat)),.lst .any 1 (byL (zm9 o.entry)),.loc 3 0]) (by simp) (by simp [yb9,zt9,zm9]) ((vj9 (16) 80 (zm9 o.entry) c0 k c0l (by omega) (by omega) (by omega) _ 3 2 (by simp) (by simp) (by simp [yc9,xl9,AObj.under,yv9,AV.under,AV.underL,zp9,zd9,obC,strB])).mono ?_)
 rintro _ _ ⟨rfl,rfl⟩
 refine ⟨_,by simp;rfl,?_⟩
 refine yw9 (by simp;rfl) ?_
 have cNl:(yt8 o.entry).length=80:=by rw [← hcN,xt9 _ _ _ (by omega)];exact c0l
 rw [hcN]
 refine (show Wt true 0 Tryz.prog _ _ ⟨176,[(1,.loc 0 0),(4,.loc 1 0),(23,.arr 2 0 80 80)],[.cells 33 (obC o),.cells 22 [.lst (.tip 23 147) 1 (bbL R3)],.cells 5 (zd9 (yt8 o.entry) k),.cells 23 [.arr 2 0 80 80]]⟩ from ?_)
 obtain ⟨fo,hfo,hfz⟩:=qd8 (h:=[.cells 33 (obC o),.cells 22 [.lst (.tip 23 147) 1 (bbL R3)],.cells 5 (zd9 (yt8 o.entry) k),.cells 23 [.arr 2 0 80 80]]) 2 80 (yt8 o.entry) k rfl cNl
 refine xf6 23 rfl (by decide) hfz ?_
 rcases hfo with rfl | rfl
 all_goals
  refine yt9 [2,3] (by simp [putF,yf9,catK,AV.cellsK,AV.kone,AV.koneL,hq1,hq2];rfl) ?_
  refine yn9 ?_
  repeat (first | refine yg9 ?_ | refine yh9 ?_)
  rw [happ]
  refine ⟨_,by simp [retQ];exact ⟨rfl,by simp [AV.rf,AV.rfL]⟩,.inr ?_⟩
  simp [AV.plain,AV.plainL,vv7,zd4,hc,henc]
theorem qf9 (l:List UInt8) (at_ n:Nat) (hn:n≤6) (ha:at_+n≤l.length) (hl:l.length≤140737488355328):Sound Tryz.prog 39 [.lst .any 1 (byL l),.v (.int .i64 at_),.v (.int .i64 n)] (.v (.int .i64 (valM ((l.drop at_).take n):Nat))):=by
 refine zh9 Tryz.func39 rfl (by decide +kernel) (by simp [Tryz.f39]) rfl rfl (rs:=[.tmp 6]) rfl ?_
 rw [show Tryz.f39.ntmps=25 from rfl]
 refine yt9 [0,1,2] (by simp;rfl) ?_
 refine yt9 [0,1,2,7] (by simp;rfl) ?_
 refine yl9 ?_
 refine yt9 [0,1,2,7,8] (by simp;rfl) ?_
 refine ys9 ?_
 refine zl9 (fun k s=>∃ i:Nat,k=n - i∧i≤n∧s=⟨25,[(0,.lst .any 1 (byL l)),(1,.v (.int .i64 at_)),(2,.v (.int .i64 n)),(7,.v (.int .i64 (valM ((l.drop at_).take i):Nat))),(8,.v (.int .i64 (i:Nat)))],[]⟩) (k:=n) ⟨0,rfl,by omega,by simp [valM]⟩ ?_
 rintro k s ⟨i,rfl,hi,rfl⟩
 refine yl9 ?_
 by_cases c:i < n
 ·have hq:at_+i < l.length:=by omega
  obtain ⟨b,hb⟩:∃ b,l[at_+i]?=some b:=⟨_,List.getElem?_eq_getElem hq⟩
  have hb2:l[at_+i]'hq=b:=by rw [List.getElem?_eq_getElem hq] at hb;exact Option.some.inj hb
  have wi:=w64 (n:=(i:Int)+1) (by omega) (by omega)
  have hv:valM ((l.drop at_).take (i+1))=valM ((l.drop at_).take i) * 256+b.toNat:=by rw [List.take_add_one,List.getElem?_drop,hb,Option.toList_some,yd7]
  have hlt:=xm8 i ((l.drop at_).take i) (by simp;omega)
  have hlt2:valM ((l.drop at_).take i) < 256 ^ 5:=Nat.lt_of_lt_of_le hlt (Nat.pow_le_pow_right (by omega) (by omega))
  have hlt3:(256:Nat) ^ 5=1099511627776:=by decide
  obtain ⟨V,hV⟩:∃ V,valM ((l.drop at_).take i)=V:=⟨_,rfl⟩
  rw [hV] at hv hlt2 ⊢
  have hbl:=b.toNat_lt
  obtain ⟨q,hqe⟩:∃ q:Nat,(at_:Int)+i=q:=⟨at_+i,by omega⟩
  have hqn:at_+i=q:=by omega
  have wq:=w64 (n:=(q:Int)) (by omega) (by omega)
  have hql:q < l.length:=by omega
  have hqi:(q:Int) < l.length:=by omega
  have hb3:l[q]'hql=b:=by subst hqn;exact hb2
  have w1:=w64 (n:=(256:Int) * V) (by omega) (by omega)
  have w2:=w64 (n:=(b.toNat:Int)) (by omega) (by omega)
  have w3:=w64 (n:=(256:Int) * V+b.toNat) (by omega) (by omega)
  have hcast:((valM ((l.drop at_).take (i+1)):Nat):Int)=256 * V+b.toNat:=by rw [hv];omega
  have ci:(i:Int) < n:=by omega
  refine W_cT [0,1,2,7,8,11] (by simp [c];rfl) rfl ?_
  refine yk9 ?_
  refine yl9 ?_
  refine ys9 ?_
  refine zq9 [0,1,2,7,8] (by simp [hqe,wq,hql,hqi,hb3,w1,w2,w3];rfl) ?_
  refine zq9 [0,1,2,7,8] (by simp [wi];rfl) ?_
  exact ⟨_,by omega,i+1,rfl,by omega,by simp [hcast]⟩
 have e:i=n:=by omega
 subst e
 refine W_cF [7,8,11] (by simp;rfl) rfl ?_
 refine zj9 ?_
 refine yt9 [6] (by simp;rfl) ?_
 refine yn9 ?_
 repeat (first | refine yg9 ?_ | refine yh9 ?_)
 simp [retQ]
def xs8 (L:List (List UInt8)) (n k:Nat):List (List UInt8):=(L.take n).map (·.take k)
def esdOf : AV → Option Esd
 | .agg [.v (.string s),.v (.int .i64 a),.v (.int .i64 b),.v (.int .i64 c),.v (.int .i64 d)]=>some ⟨s.data.toList,a,b,c,d⟩
 | _=>none
theorem zf3 {x:AV} {r:Esd} (h:esdOf x=some r):x=esA r:=by
 unfold esdOf at h
 split at h
 ·cases h;simp [strB]
 ·cases h
def rldOf : AV → Option Rld
 | .agg [.v (.int .i64 a),.v (.int .i64 b),.v (.int .i64 c),.v (.int .i64 d),.v (.bool e)]=>some ⟨a,b,c,d,e⟩
 | _=>none
theorem yp3 {x:AV} {r:Rld} (h:rldOf x=some r):x=rdA r:=by
 unfold rldOf at h
 split at h
 ·cases h;rfl
 ·cases h
def txtOf : AV → Option Txt
 | .agg [.v (.int .i64 a),.v (.int .i64 b),.lst .any 1 c]=>(bytesOf c).map fun l=>⟨a,b,l⟩
 | _=>none
theorem jg4 {x:AV} {r:Txt} (h:txtOf x=some r):x=txA r:=by
 unfold txtOf at h
 split at h
 ·obtain ⟨l,hl,rfl⟩:=Option.map_eq_some_iff.1 h
  rw [zr8 hl];rfl
 ·cases h
def segOf : AV → Option Seg
 | .agg [.v (.int .i64 a),.v (.int .i64 b),.v (.int .i64 c),.v (.int .i64 d)]=>some ⟨a,b,c,d⟩
 | _=>none
theorem jm4 {x:AV} {r:Seg} (h:segOf x=some r):x=segA r:=by
 unfold segOf at h
 split at h
 ·cases h;rfl
 ·cases h
def rloOf : AV → Option Rlo
 | .agg [.v (.int .i64 a),.v (.int .i64 b),.v (.bool c)]=>some ⟨a,b,c⟩
 | _=>none
theorem yt3 {x:AV} {r:Rlo} (h:rloOf x=some r):x=rloA r:=by
 unfold rloOf at h
 split at h
 ·cases h;rfl
 ·cases h
def zh7 {α : Type} (f : AV → Option α) : List AV → Option (List α)
 | []=>some []
 | x :: xs=>(f x).bind fun r=>(zh7 f xs).map fun l=>r :: l
theorem wl8 {α : Type} {f : AV → Option α} {g : α → AV} (hf : ∀ x r, f x = some r → x = g r) : ∀ {xs : List AV} {l : List α}, zh7 f xs = some l → xs = l.map g
 | [],l,h=>by simp only [zh7,Option.some.injEq] at h;subst h;rfl
 | x :: xs,l,h=>by
  simp only [zh7] at h
  obtain ⟨b,hb,h⟩:=Option.bind_eq_some_iff.1 h
  obtain ⟨l',hl,rfl⟩:=Option.map_eq_some_iff.1 h
  rw [List.map_cons,hf _ _ hb,wl8 hf hl]
def obOf : AV → Option OMod
 | .agg [.lst .any 5 a,.lst .any 3 b,.lst .any 5 c,.v (.string s)]=>(zh7 esdOf a).bind fun a'=>(zh7 txtOf b).bind fun b'=>(zh7 rldOf c).map fun c'=>⟨a',b',c',s.data.toList⟩
 | _=>none
theorem ud6 {x:AV} {o:OMod} (h:obOf x=some o):x=obA o:=by
 unfold obOf at h
 split at h
 ·obtain ⟨a',h1,h⟩:=Option.bind_eq_some_iff.1 h
  obtain ⟨b',h2,h⟩:=Option.bind_eq_some_iff.1 h
  obtain ⟨c',h3,rfl⟩:=Option.map_eq_some_iff.1 h
  rw [wl8 (fun _ _=>zf3) h1,wl8 (fun _ _=>jg4) h2,wl8 (fun _ _=>yp3) h3]
  simp [esL,txL,rdL,strB]
 ·cases h
def lmOf : AV → Option LMod
 | .agg [.lst .any 1 a,.lst .any 3 b,.lst .any 4 c,.v (.int .i64 e)]=>(bytesOf a).bind fun a'=>(zh7 rloOf b).bind fun b'=>(zh7 segOf c).map fun c'=>⟨a',b',c',e⟩
 | _=>none
theorem up4 {x:AV} {m:LMod} (h:lmOf x=some m):x=lmA m:=by
 unfold lmOf at h
 split at h
 ·obtain ⟨a',h1,h⟩:=Option.bind_eq_some_iff.1 h
  obtain ⟨b',h2,h⟩:=Option.bind_eq_some_iff.1 h
  obtain ⟨c',h3,rfl⟩:=Option.map_eq_some_iff.1 h
  rw [zr8 h1,wl8 (fun _ _=>yt3) h2,wl8 (fun _ _=>jm4) h3]
  simp [rlL,sgL]
 ·cases h
def i64b (x:Int):Bool:=decide (-9223372036854775808≤x)&&decide (x≤9223372036854775807)
theorem vm5 {x:Int} (h:i64b x=true):i64r x:=by simpa [i64b,i64r] using h
def oinB (o:OMod):Bool:=(o.esd.all fun x=>decide (x.name.length≤9223372036854775807)&&i64b x.addr)&&((o.txt.all fun t=>i64b t.addr&&decide (t.data.length≤140737488355328))&&o.rld.all fun r=>i64b r.addr)
theorem vb4 {o:OMod} (h:oinB o=true):OIn o:=by
 simp only [oinB,Bool.and_eq_true,List.all_eq_true,decide_eq_true_eq] at h
 exact ⟨fun x hx=>⟨(h.1 x hx).1,vm5 (h.1 x hx).2⟩,fun x hx=>⟨vm5 (h.2.1 x hx).1,(h.2.1 x hx).2⟩,fun x hx=>vm5 (h.2.2 x hx)⟩
def kn31:KnF:=fun f args =>
 if f=25 then match args with
  | [x]=>(obOf x).bind fun o=>if oinB o=true then some (.v (.int .i64 (if chkM o=true then 0 else 310))) else none
  | _=>none
 else if f=22 then match args with
  | [x]=>(obOf x).bind fun o=>if oinB o=true then some (zd4 o) else none
  | _=>none
 else if f=31 then match args with
  | [.lst .any 1 x]=>(bytesOf x).bind fun l=>if l.length≤100000 then some (strB (decM l)) else none
  | _=>none
 else if f=35 then match args with
  | [.lst .any 1 x]=>(bytesOf x).bind fun l=>if l.length≤100000 then some (strB (decM (uk8 l))) else none
  | _=>none
 else if f=29 then match args with
  | [x]=>(lmOf x).bind fun m=>if m.seg.length≤100000∧m.text.length≤1000000∧m.rel.length≤1000000 then some (.v (.int .i64 (if ckM m=true then 0 else 310))) else none
  | _=>none
 else if f=27 then match args with
  | [x]=>(lmOf x).bind fun m=>if m.seg.length≤100000∧m.text.length≤1000000∧m.rel.length≤1000000 then some (encR m) else none
  | _=>none
 else none
theorem kn31_ok:KnOk Tryz.prog kn31:=by
 intro f args r h
 unfold kn31 at h
 split at h
 ·rename_i hf
  subst hf
  split at h
  ·obtain ⟨o, ho, h⟩ := Option.bind_eq_some_iff.1 h
   split at h
   ·rename_i hc
    cases h
    rw [ud6 ho]
    exact vr8 o (vb4 hc)
   ·cases h
  ·cases h
 split at h
 ·rename_i hf
  subst hf
  split at h
  ·obtain ⟨o, ho, h⟩ := Option.bind_eq_some_iff.1 h
   split at h
   ·rename_i hc
    cases h
    rw [ud6 ho]
    exact wk6 o (vb4 hc)
   ·cases h
  ·cases h
 split at h
 ·rename_i hf
  subst hf
  split at h
  ·obtain ⟨l, hl, h⟩ := Option.bind_eq_some_iff.1 h
   split at h
   ·rename_i hc
    cases h
    rw [zr8 hl]
    exact xl8 l hc
   ·cases h
  ·cases h
 split at h
 ·rename_i hf
  subst hf
  split at h
  ·obtain ⟨l, hl, h⟩ := Option.bind_eq_some_iff.1 h
   split at h
   ·rename_i hc
    cases h
    rw [zr8 hl]
    exact xl7 l hc
   ·cases h
  ·cases h
 split at h
 ·rename_i hf
  subst hf
  split at h
  ·obtain ⟨m, hm, h⟩ := Option.bind_eq_some_iff.1 h
   split at h
   ·rename_i hc
    cases h
    rw [up4 hm]
    exact qj8 m (by omega) (by omega) (by omega)
   ·cases h
  ·cases h
 split at h
 ·rename_i hf
  subst hf
  split at h
  ·obtain ⟨m, hm, h⟩ := Option.bind_eq_some_iff.1 h
   split at h
   ·rename_i hc
    cases h
    rw [up4 hm]
    exact zf4 m (by omega) (by omega) (by omega)
   ·cases h
  ·cases h
 cases h
def shP : List UInt8 → List (Nat × List UInt8) → List UInt8
 | c,[]=>c
 | c,x :: l=>shP (putM c x.1 x.2) l
def shF (name:List UInt8) (it:List (Nat × List UInt8)):List UInt8:=shP (putM (xr9 80) 0 (2 :: name)) it
def ofsL (it:List (Nat × List UInt8)):List AV:=it.map fun x=>.v (.int .i64 (x.1:Nat))
def stsL (it:List (Nat × List UInt8)):List AV:=it.map fun x=>strB x.2
@[simp] theorem ofsL_len (it):(ofsL it).length=it.length:=by simp [ofsL]
@[simp] theorem stsL_len (it):(stsL it).length=it.length:=by simp [stsL]
@[simp] theorem ofsL_getElem (l) (i:Nat) (h:i < (ofsL l).length):(ofsL l)[i]=.v (.int .i64 ((l[i]'(by simpa using h)).1:Nat)):=by simp [ofsL]
@[simp] theorem stsL_getElem (l) (i:Nat) (h:i < (stsL l).length):(stsL l)[i]=strB (l[i]'(by simpa using h)).2:=by simp [stsL]
theorem wc4 (a b:List UInt8) (hl:a.length+b.length≤9223372036854775807):strA .add ⟨a.toArray⟩ ⟨b.toArray⟩=some (.v (.string ⟨(a++b).toArray⟩)):=by
 have h:(ByteArray.mk a.toArray++ByteArray.mk b.toArray)=ByteArray.mk (a++b).toArray:=by
  apply ByteArray.ext
  rw [ByteArray.data_append]
  simp
 have h2:((ByteArray.mk a.toArray).size:Int)+(ByteArray.mk b.toArray).size≤9223372036854775807:=by simp [ByteArray.size];omega
 simp only [strA,h,if_pos h2]
theorem fillS (i n:Nat) (h:i < n):yf9 (byL (List.replicate i 64++List.replicate (n - i) 0)) i [.v (.int .u8 64)]=byL (List.replicate (i+1) 64++List.replicate (n - (i+1)) 0):=by
 obtain ⟨m,rfl⟩:∃ m,n=i+1+m:=⟨n - (i+1),by omega⟩
 have e1:i+1+m - i=m+1:=by omega
 have e2:i+1+m - (i+1)=m:=by omega
 rw [e1,e2,wc9,yf9,List.replicate_succ' (n:=i),List.replicate_succ (n:=m),vp9,wc9,wc9]
 rw [List.take_append_of_le_length (by simp),List.take_of_length_le (by simp),List.drop_append]
 simp [byL]
theorem wh5 (b name : List UInt8) (it : List (Nat × List UInt8)) (hn : name.length ≤ 79) (hb : b.length ≤ 1000000) (hl : it.length ≤ 1000) (hit : ∀ x ∈ it, x.1 + x.2.length ≤ 80 ∧ x.1 < 80) :
  Sound Tryz.prog 23 [.lst .any 1 (byL b),strB name,.lst .any 1 (ofsL it),.lst .any 1 (stsL it)] (.v (.bool (b == shF name it))):=by
 refine zh9 Tryz.func23 rfl (by decide +kernel) (by simp [Tryz.f23]) (by simp [AV.rfL,AV.rf,strB,ofsL,stsL]) (by simp [AV.tlL,AV.tl,strB]) (rs:=[.tmp 8]) rfl ?_
 rw [show Tryz.f23.ntmps=48 from rfl]
 simp only [strB]
 refine yt9 [0,1,2,3] (by simp;rfl) ?_
 refine yt9 [0,1,2,3,9] (by simp;rfl) ?_
 refine yl9 ?_
 refine yt9 [0,1,2,3,9,14,15] (by simp;rfl) ?_
 refine ys9 ?_
 obtain ⟨n,hn80⟩:∃ n:Nat,n=80:=⟨_,rfl⟩
 refine zl9 (fun k σ=>∃ i:Nat,k=n - i∧i≤n∧σ=⟨48,[(0,.lst .any 1 (byL b)),(1,.v (.string ⟨name.toArray⟩)),(2,.lst .any 1 (ofsL it)),(3,.lst .any 1 (stsL it)),(9,.arr 0 0 80 80),(14,.v (.int .i64 80)),(15,.v (.int .i64 (i:Nat)))],[.cells 5 (byL (List.replicate i 64++List.replicate (n - i) 0))]⟩) (k:=n) ⟨0,rfl,by omega,?_⟩ ?_
 ·rw [kt8]
  subst hn80
  rfl
 ·rintro k σ ⟨i, rfl, hi, rfl⟩
  by_cases c:i < n
  ·have ci:(i:Int) < 80:=by omega
   have ci2:i < 80:=by omega
   have wi:=w64 (n:=(i:Int)+1) (by omega) (by omega)
   have hL:(byL (List.replicate i 64++List.replicate (n - i) 0)).length=80:=by simp;omega
   have hf:=fillS i n c
   obtain ⟨z,hz⟩:∃ z,byL (List.replicate i 64++List.replicate (n - i) 0)=z:=⟨_,rfl⟩
   rw [hz] at hL hf ⊢
   have h1:i+1≤z.length:=by omega
   refine yt9 [0,1,2,3,9,14,15,16] (by simp [ci];rfl) ?_
   refine yl9 ?_
   refine yp9 rfl (fun h=>?_) (fun h=>by simp at h)
   refine yk9 ?_
   refine yl9 ?_
   refine ys9 ?_
   refine yt9 [0,1,2,3,9,14,15,10] (by simp;rfl) ?_
   refine zq9 [0,1,2,3,9,14,15] (by simp [ci,ci2,h1];rfl) ?_
   refine zq9 [0,1,2,3,9,14,15] (by simp [wi];rfl) ?_
   exact ⟨_,by omega,i+1,rfl,by omega,by rw [← hf];simp⟩
  have hie:i=80:=by omega
  have hfin:byL (List.replicate i 64++List.replicate (n - i) 0)=byL (xr9 80):=by
   rw [hie,hn80,Nat.sub_self,List.replicate_zero,List.append_nil]
   rfl
  rw [hfin]
  have ci:¬ (i:Int) < 80:=by omega
  refine yt9 [0,1,2,3,9,16] (by simp [ci];rfl) ?_
  refine yl9 ?_
  refine yp9 rfl (fun h=>by simp at h) (fun h=>?_)
  refine zj9 ?_
  have hroom:∀ (c l:List UInt8) (at_:Nat),at_+l.length≤c.length→yf9 (byL c) at_ (byL l)=byL (putM c at_ l):=fun c l at_ h=>by
   have:=jk9 c l 0 at_ h
   simpa [zd9] using this
  have hadd:=wc4 [2] name (by simp;omega)
  simp only [List.singleton_append] at hadd
  have hsz1:(ByteArray.mk (2 :: name).toArray).size=name.length+1:=by simp [ByteArray.size]
  have hmin1:min (ByteArray.mk (2 :: name).toArray).size 80=name.length+1:=by rw [hsz1];omega
  have hl0:(xr9 80).length=80:=by simp
  refine W_rGK [0,2,3,9] ?_
  refine ym7 3 _ _ ?_
  refine yw9 (by simp [hadd];rfl) ?_
  refine jh6 rfl ?_
  refine qh7 (t:=23) (t':=9) (e:=5) (id:=0) (off:=0) (len:=80) (cap:=80) (ag:=false) (cs:=byL (xr9 80)) (b:=⟨(2 :: name).toArray⟩) rfl rfl rfl rfl (by simp) (by simp) (by simp) (by simp) (by simp) ?_
  have hcp:yf9 (byL (xr9 80)) 0 (byL ((ByteArray.mk (2 :: name).toArray).data.toList.take (name.length+1)))=byL (putM (xr9 80) 0 (2 :: name)):=by
   rw [show (ByteArray.mk (2 :: name).toArray).data.toList=2 :: name from rfl,List.take_of_length_le (by simp),hroom _ _ 0 (by simp;omega)]
  rw [hmin1,hcp]
  refine ⟨_,by simp;rfl,?_⟩
  obtain ⟨F,hF⟩:∃ F,shP (putM (xr9 80) 0 (2 :: name)) it=F:=⟨_,rfl⟩
  have hFd:shF name it=F:=hF
  rw [hFd]
  refine ws9 (fun σ=>F.length=80∧σ=⟨48,[(0,.lst .any 1 (byL b)),(9,.arr 0 0 80 80)],[.cells 5 (byL F)]⟩) ?_ ?_
  ·refine yt9 [0, 2, 3, 9, 27, 28] (by simp; rfl) ?_
   refine ys9 ?_
   refine zl9 (fun k σ=>∃ (i:Nat) (cc:List UInt8),k=it.length - i∧i≤it.length∧cc.length=80∧shP cc (it.drop i)=F∧σ=⟨48,[(0,.lst .any 1 (byL b)),(2,.lst .any 1 (ofsL it)),(3,.lst .any 1 (stsL it)),(9,.arr 0 0 80 80),(27,.v (.int .i64 (it.length:Nat))),(28,.v (.int .i64 (i:Nat)))],[.cells 5 (byL cc)]⟩) (k:=it.length) ⟨0,_,rfl,by omega,by rw [xt9 _ _ _ (by simp;omega)];simp,hF,by simp⟩ ?_
   rintro k σ ⟨i,cc,rfl,hi,hcl,hsh,rfl⟩
   by_cases c:i < it.length
   ·have ci : (i : Int) < it.length := by omega
    obtain ⟨x,hs⟩:∃ x,it[i]?=some x:=⟨_,List.getElem?_eq_getElem c⟩
    have hs2:it[i]'c=x:=by rw [List.getElem?_eq_getElem c] at hs;exact Option.some.inj hs
    have hdr:it.drop i=x :: it.drop (i+1):=by rw [List.drop_eq_getElem_cons c,hs2]
    obtain ⟨q1,q2⟩:=hit x (List.mem_of_getElem? hs)
    obtain ⟨p,t⟩:=x
    simp only at q1 q2
    have wi:=w64 (n:=(i:Int)+1) (by omega) (by omega)
    have p1:(p:Int)≤80:=by omega
    have p2:p≤80:=by omega
    have p3:¬ 80=p:=by omega
    have hsz2:(ByteArray.mk t.toArray).size=t.length:=by simp [ByteArray.size]
    have hmin2:min (ByteArray.mk t.toArray).size (80 - p)=t.length:=by rw [hsz2];omega
    rw [hdr,shP] at hsh
    refine yt9 [0,2,3,9,27,28,29] (by simp [ci];rfl) ?_
    refine yl9 ?_
    refine yp9 rfl (fun h=>?_) (fun h=>by simp [c] at h)
    refine yk9 ?_
    refine yl9 ?_
    refine ys9 ?_
    refine yt9 [0,2,3,9,27,28,11] (by simp;rfl) ?_
    refine wb9 [0,2,3,9,27,28] (us8 10 mx (by decide +kernel) ?_)
    refine yr9 5 (by simp [c,ci,hs2];rfl) rfl ?_
    refine ym9 (by simp [c,ci,hs2,p1,p2,p3,strB];rfl) ?_
    refine vs8 [10] (by decide +kernel) (by simp) ?_
    intro j hj
    simp only [List.mem_cons,List.not_mem_nil,or_false] at hj
    subst hj
    refine ⟨_,rfl,?_⟩
    refine .inr ⟨rfl,?_⟩
    refine qh7 (t:=23) (t':=9) (e:=5) (id:=0) (off:=p) (len:=80 - p) (cap:=80 - p) (ag:=false) (cs:=byL cc) (b:=⟨t.toArray⟩) rfl rfl rfl rfl (by simp) (by simp) (by simp) (by simp) (by simp;omega) ?_
    have hcp2:yf9 (byL cc) p (byL ((ByteArray.mk t.toArray).data.toList.take t.length))=byL (putM cc p t):=by
     rw [show (ByteArray.mk t.toArray).data.toList=t from rfl,List.take_of_length_le (by simp),hroom _ _ p (by omega)]
    rw [hmin2,hcp2]
    refine ⟨_,by simp;rfl,?_⟩
    refine qm9 (by decide +kernel) ?_
    refine zq9 [0,2,3,9,27,28] (by simp [wi];rfl) ?_
    exact ⟨_,by omega,i+1,putM cc p t,rfl,by omega,by rw [xt9 _ _ _ (by omega)];exact hcl,hsh,by simp⟩
   have hie:i=it.length:=by omega
   rw [hie,List.drop_length,shP] at hsh
   subst hsh
   refine yt9 [0,9,29] (by simp [c];rfl) ?_
   refine yl9 ?_
   refine yp9 rfl (fun h=>by simp [hie] at h) (fun h=>?_)
   refine zs9 [0,9] ?_
   refine zj9 ?_
   exact ⟨hcl,by simp⟩
  rintro _ ⟨hFl,rfl⟩
  have hchunk:chunk false 1 80 (byL F)=byL F:=by rw [kl9 _ _ (by omega),List.take_of_length_le (by omega)]
  refine W_rK [8] ?_
  refine yq9 3 (by simp;rfl) rfl ?_
  have htk:(byL F).take 80=byL F:=by rw [List.take_of_length_le (by simp;omega)]
  refine zw7 (by simp) ⟨_,by simp [jq8,kc5,hchunk,htk,hFl];rfl,?_⟩
  refine yw9 (by simp;rfl) ?_
  refine yn9 ?_
  repeat (first | refine yg9 ?_ | refine yh9 ?_)
  simp [retQ]
def ql7 : List AV → List AV → Option (List (Nat × List UInt8))
 | [],[]=>some []
 | .v (.int .i64 (.ofNat n)) :: a,.v (.string t) :: b=>(ql7 a b).map fun l=>(n,t.data.toList) :: l
 | _,_=>none
theorem jt6 : ∀ {a b : List AV} {l : List (Nat × List UInt8)}, ql7 a b = some l → a = ofsL l ∧ b = stsL l
 | [],[],l,h=>by simp only [ql7,Option.some.injEq] at h;subst h;exact ⟨rfl,rfl⟩
 | x :: a,y :: b,l,h=>by
  unfold ql7 at h
  split at h
  ·rename_i h1 _;cases h1
  ·rename_i n a' t b' h1 h2
   cases h1
   cases h2
   obtain ⟨l',hl,rfl⟩:=Option.map_eq_some_iff.1 h
   obtain ⟨rfl,rfl⟩:=jt6 hl
   exact ⟨rfl,rfl⟩
  ·cases h
 | [],_ :: _,l,h=>by simp [ql7] at h
 | _ :: _,[],l,h=>by simp [ql7] at h
def knS:KnF:=fun f args =>
 if f=23 then match args with
  | [.lst .any 1 x,.v (.string nm),.lst .any 1 a,.lst .any 1 b]=>(bytesOf x).bind fun l=>(ql7 a b).bind fun it =>
    if (nm.data.toList.length≤79∧l.length≤1000000∧it.length≤1000)∧(it.all fun x=>decide (x.1+x.2.length≤80)&&decide (x.1 < 80))=true then some (.v (.bool (l == shF nm.data.toList it))) else none
  | _=>none
 else kn31 f args
theorem knS_ok:KnOk Tryz.prog knS:=by
 intro f args r h
 unfold knS at h
 split at h
 ·rename_i hf
  subst hf
  split at h
  ·rename_i x nm a b
   obtain ⟨l,hl,h⟩:=Option.bind_eq_some_iff.1 h
   obtain ⟨it,hit,h⟩:=Option.bind_eq_some_iff.1 h
   split at h
   ·rename_i hc
    cases h
    obtain ⟨⟨h1,h2,h3⟩,h4⟩:=hc
    obtain ⟨rfl,rfl⟩:=jt6 hit
    rw [zr8 hl]
    have:=wh5 l nm.data.toList it h1 h2 h3 (fun x hx=>by
     have:=List.all_eq_true.1 h4 x hx
     simpa using this)
    simpa [strB] using this
   ·cases h
  ·cases h
 ·exact kn31_ok f args r h
end Go.AM
