/- Parts of the walk: Z31OF Z31OG Z31OH. -/
import Derived.Test.YtlhaljblcimnbaaGreatG9
namespace Go.AM
open Go.RowKit Go.Proofs
set_option linter.unusedSimpArgs false
set_option linter.unusedVariables false
set_option maxHeartbeats 8000000
theorem vk8 (c l:List UInt8) (a:Nat) (h:a+l.length≤c.length) (j:Nat):(putM c a l)[j]?=if a≤j∧j < a+l.length then l[j - a]? else c[j]?:=by
 have hl:(c.take a++l).length=a+l.length:=by rw [List.length_append,List.length_take];omega
 have ht:(c.take a).length=a:=by rw [List.length_take];omega
 unfold putM
 by_cases h1:j < a+l.length
 ·rw [List.getElem?_append_left (by omega)]
  by_cases h2:a≤j
  ·rw [if_pos ⟨h2,h1⟩,List.getElem?_append_right (by omega),ht]
  ·rw [if_neg (by omega),List.getElem?_append_left (by omega),List.getElem?_take,if_pos (by omega)]
 ·rw [if_neg (by omega),List.getElem?_append_right (by omega),hl,List.getElem?_drop]
  congr 1
  omega
theorem zb9 (c l:List UInt8) (a:Nat) (h:a+l.length≤c.length):(putM c a l).length=c.length:=by
 unfold putM
 simp
 omega
theorem yq5 (c l m:List UInt8) (a b:Nat) (h1:a+l.length≤b) (h2:b+m.length≤c.length):putM (putM c a l) b m=putM (putM c b m) a l:=by
 apply List.ext_getElem?
 intro j
 rw [vk8 _ _ _ (by rw [zb9 _ _ _ (by omega)];exact h2),vk8 _ _ _ (by omega),vk8 _ _ _ (by rw [zb9 _ _ _ h2];omega),vk8 _ _ _ h2]
 by_cases q1:a≤j∧j < a+l.length
 ·rw [if_neg (by omega),if_pos q1,if_pos q1]
 ·rw [if_neg q1,if_neg q1]
theorem un7 (c l m:List UInt8) (a:Nat) (h:a+l.length+m.length≤c.length):putM (putM c a l) (a+l.length) m=putM c a (l++m):=by
 apply List.ext_getElem?
 intro j
 rw [vk8 _ _ _ (by rw [zb9 _ _ _ (by omega)];exact h),vk8 _ _ _ (by omega),vk8 _ _ _ (by rw [List.length_append];omega),List.length_append]
 by_cases q1:a+l.length≤j∧j < a+l.length+m.length
 ·rw [if_pos q1,if_pos (by omega),List.getElem?_append_right (by omega)]
  congr 1
  omega
 ·rw [if_neg q1]
  by_cases q2:a≤j∧j < a+l.length
  ·rw [if_pos q2,if_pos (by omega),List.getElem?_append_left (by omega)]
  ·rw [if_neg q2,if_neg (by omega)]
theorem zp7 (A M B l:List UInt8) (k:Nat) (h:k+l.length≤M.length):putM (A++M++B) (A.length+k) l=A++putM M k l++B:=by
 unfold putM
 rw [List.take_append_of_le_length (by rw [List.length_append];omega),List.drop_append_of_le_length (by rw [List.length_append];omega)]
 rw [List.take_append,List.drop_append]
 rw [List.take_of_length_le (by omega),List.drop_eq_nil_of_le (by omega)]
 rw [show A.length+k - A.length=k by omega,show A.length+k+l.length - A.length=k+l.length by omega]
 simp only [List.append_assoc,List.nil_append]
theorem wk5 (A M B:List UInt8) (k:Nat) (v:UInt8) (h:k < M.length):(A++M++B).set (A.length+k) v=A++M.set k v++B:=by
 rw [List.set_append_left _ _ (by rw [List.length_append];omega),List.set_append_right _ _ (by omega)]
 rw [show A.length+k - A.length=k by omega]
def vn9 (c:List UInt8) (a:Nat) (x:Esd):List UInt8 :=
 if x.kind=1 then putM (putM ((putM c a (zm9 x.name)).set (a+8) 0) (a+9) (numM 3 x.addr.toNat)) (a+13) (numM 3 x.len.toNat)
 else if x.kind=2 then putM (putM ((putM c a (zm9 x.name)).set (a+8) 1) (a+9) (numM 3 x.addr.toNat)) (a+13) (numM 3 x.id.toNat)
 else (putM c a (zm9 x.name)).set (a+8) 2
theorem yp4 (A B:List UInt8) (x:Esd) (hc:(zm9 x.name).length≤8):vn9 (A++xr9 16++B) A.length x=A++qc9 x++B:=by
 have l0:(xr9 16).length=16:=by simp
 have e0:putM (A++xr9 16++B) A.length (zm9 x.name)=A++putM (xr9 16) 0 (zm9 x.name)++B:=by
  have:=zp7 A (xr9 16) B (zm9 x.name) 0 (by omega)
  rwa [Nat.add_zero] at this
 have l1:(putM (xr9 16) 0 (zm9 x.name)).length=16:=by rw [zb9 _ _ _ (by omega)];exact l0
 have l2:∀ v,((putM (xr9 16) 0 (zm9 x.name)).set 8 v).length=16:=fun v=>by rw [List.length_set];exact l1
 have n3:∀ v,(numM 3 v).length=3:=fun v=>zc9 3 v
 unfold vn9 qc9
 rw [e0]
 by_cases h1:x.kind=1
 ·rw [if_pos h1,if_pos h1,wk5 _ _ _ _ _ (by omega),zp7 _ _ _ _ _ (by rw [l2,n3];omega),zp7 _ _ _ _ _ (by rw [zb9 _ _ _ (by rw [l2,n3];omega),l2,n3];omega)]
 ·rw [if_neg h1,if_neg h1]
  by_cases h2:x.kind=2
  ·rw [if_pos h2,if_pos h2,wk5 _ _ _ _ _ (by omega),zp7 _ _ _ _ _ (by rw [l2,n3];omega),zp7 _ _ _ _ _ (by rw [zb9 _ _ _ (by rw [l2,n3];omega),l2,n3];omega)]
  ·rw [if_neg h2,if_neg h2,wk5 _ _ _ _ _ (by omega)]
theorem ks7 {c : List UInt8} {j : Nat} {x : Esd} (hl : c.length = 80) (hj : j < 3) (hb : c.drop (16 + 16 * j) = xr9 (64 - 16 * j)) (hc : (zm9 x.name).length ≤ 8) :
  vn9 c (16+16 * j) x=putM c (16+16 * j) (qc9 x)∧(putM c (16+16 * j) (qc9 x)).drop (16+16 * (j+1))=xr9 (64 - 16 * (j+1))∧(putM c (16+16 * j) (qc9 x)).length=80:=by
 have hei:=zn8 x (by omega)
 have ht:(c.take (16+16 * j)).length=16+16 * j:=by rw [List.length_take];omega
 have hd:xr9 (64 - 16 * j)=xr9 16++xr9 (64 - 16 * (j+1)):=by
  rw [xr9,xr9,xr9,List.replicate_append_replicate]
  congr 1
  omega
 have e:c=c.take (16+16 * j)++xr9 16++xr9 (64 - 16 * (j+1)):=by
  rw [List.append_assoc,← hd,← hb,List.take_append_drop]
 have h1:=yp4 (c.take (16+16 * j)) (xr9 (64 - 16 * (j+1))) x hc
 rw [← e,ht] at h1
 have h2:putM c (16+16 * j) (qc9 x)=c.take (16+16 * j)++qc9 x++xr9 (64 - 16 * (j+1)):=by
  unfold putM
  rw [hei,show 16+16 * j+16=(16+16 * j)+16 from rfl,← List.drop_drop,hb,hd,List.drop_left' (by simp)]
 refine ⟨by rw [h1,h2],?_,by rw [zb9 _ _ _ (by omega)];exact hl⟩
 rw [h2,List.drop_left' (by rw [List.length_append,ht,hei];omega)]
theorem uq8 : ∀ (g : List Esd) (i : Nat) (c l : List UInt8) (a : Nat), a + l.length ≤ 16 → c.length = 80 → g.length + i ≤ 3 → (∀ x ∈ g, (zm9 x.name).length ≤ 16) → xv9 g i (putM c a l) = putM (xv9 g i c) a l
 | [],i,c,l,a,h1,h2,h3,h4=>by rw [xv9,xv9]
 | x :: g,i,c,l,a,h1,h2,h3,h4=>by
  have hei:=zn8 x (h4 x (by simp))
  simp only [List.length_cons] at h3
  rw [xv9,xv9,yq5 _ _ _ _ _ (by omega) (by omega)]
  exact uq8 g (i+1) _ l a h1 (by rw [zb9 _ _ _ (by omega)];exact h2) (by omega) fun y hy=>h4 y (by simp [hy])
def yd8 (l:List Esd):Int:=((l.find? fun x=>!decide (x.kind=2)).map (·.id)).getD 0
theorem wp6 (p:List Esd) (x:Esd) (h:∀ y∈p,y.kind≠2→1≤y.id):yd8 (p++[x])=if yd8 p=0 then (if x.kind=2 then 0 else x.id) else yd8 p:=by
 unfold yd8
 rw [List.find?_append]
 cases e:p.find? fun x=>!decide (x.kind=2) with
 | none =>
  by_cases h2:x.kind=2 <;> simp [List.find?,h2]
 | some y =>
  have h3:=List.find?_some e
  have h4:=h y (List.mem_of_find?_eq_some e) (by simpa using h3)
  simp
  intro h0
  omega
theorem kj5 : ∀ (l : List Esd) (i : Nat), (ixE i l = -1 ∧ l.find? (fun x => !decide (x.kind = 2)) = none) ∨ ∃ j x, l[j]? = some x ∧ ixE i l = ((i + j : Nat) : Int) ∧ l.find? (fun x => !decide (x.kind = 2)) = some x
 | [],i=>.inl ⟨rfl,rfl⟩
 | x :: l,i=>by
  rw [ixE]
  by_cases h:x.kind=2
  ·rw [if_pos h,List.find?_cons_of_neg (by simp [h])]
   rcases kj5 l (i+1) with h1 | ⟨j,y,h1,h2,h3⟩
   ·exact .inl h1
   ·exact .inr ⟨j+1,y,by simpa using h1,by rw [h2];congr 1;omega,h3⟩
  ·rw [if_neg h,List.find?_cons_of_pos (by simp [h])]
   exact .inr ⟨0,x,rfl,by simp,rfl⟩
theorem zm3 (g:List Esd) (h:∀ y∈g,y.kind≠2→1≤y.id):card2 g=if 0 < yd8 g then putM (card1 g) 14 (numM 2 (yd8 g).toNat) else card1 g:=by
 unfold card2 yd8
 rcases kj5 g 0 with ⟨h1,h2⟩ | ⟨j,x,h1,h2,h3⟩
 ·rw [h1,h2,if_neg (by omega)]
  simp
 ·have h4:=List.find?_some h3
  have h5:=h x (List.mem_of_find?_eq_some h3) (by simpa using h4)
  rw [h2,h3,if_pos (by omega)]
  simp only [Option.map_some,Option.getD_some]
  rw [if_pos (by omega)]
  simp [h1]
theorem kh4 (g : List Esd) (h : ∀ y ∈ g, y.kind ≠ 2 → 1 ≤ y.id) (hg : g.length ≤ 3) (hc : ∀ x ∈ g, (zm9 x.name).length ≤ 16) (hl : (xm9 vd9).length = 80) :
  um9 g=(let F:=putM (xv9 g 0 (xm9 vd9)) 10 (numM 2 (16 * g.length));if 0 < yd8 g then putM F 14 (numM 2 (yd8 g).toNat) else F):=by
 have n2:∀ v,(numM 2 v).length=2:=fun v=>zc9 2 v
 have l1:(card1 g).length=80:=by rw [card1,zb9 _ _ _ (by rw [n2];omega)];exact hl
 rw [um9,zm3 g h]
 simp only
 split
 ·rw [uq8 g 0 _ _ 14 (by rw [n2];omega) l1 (by omega) hc,card1,uq8 g 0 _ _ 10 (by rw [n2];omega) hl (by omega) hc]
 ·rw [card1,uq8 g 0 _ _ 10 (by rw [n2];omega) hl (by omega) hc]
theorem qm6:(xm9 vd9).length=80∧(xm9 vd9).drop 16=xr9 64:=by decide +kernel
theorem qs8 {h:List AObj} (id n cap:Nat) (c:List UInt8) (k:Nat) (hid:h[id]?=some (.cells 5 (zd9 c k))) (hc:c.length=n):∃ (o:Fl),(o=.any∨o=.tip 5 1)∧vc9 Tryz.prog h 1 id 0 n cap=some (.lst o 1 (byL c),h.set id (.froz 5 (byL c))):=by
 have e2:tyI Tryz.prog 5=some (false,1):=by simp
 subst hc
 cases k with
 | zero =>
  have e0:zd9 c 0=byL c:=by simp [zd9]
  rw [e0] at hid
  refine ⟨if 0=0∧c.length=cap∧cap * 1=(byL c).length then .tip 5 1 else .any,by split <;> simp,?_⟩
  simp only [vc9,hid,e2]
  rw [if_pos ⟨by omega,.inr trivial,by simp,wb8 _,ww7 _⟩,jv9,List.drop_zero,kl9 _ _ (by omega),List.take_of_length_le (by omega)]
 | succ k =>
  have e1:(zd9 c (k+1)).take (0+c.length * 1)=byL c:=by
   rw [zd9,Nat.zero_add,Nat.mul_one,List.take_append_of_le_length (by simp),List.take_of_length_le (by simp)]
  have e3:AV.koneL (zd9 c (k+1))=false:=by
   rw [zd9,vn8,List.replicate_succ]
   simp [AV.koneL,AV.kone]
  refine ⟨.any,.inl rfl,?_⟩
  simp only [vc9,hid,e2,e1]
  rw [if_neg (by rw [e3];simp),if_pos ⟨by omega,.inr trivial,by simp [xj9],wb8 _,ww7 _⟩,jv9,List.drop_zero,kl9 _ _ (by omega),List.take_of_length_le (by omega)]
theorem qm4 {l:List Esd} {f i:Nat} (h:i < l.length) (hf:l.length≤i+f):∃ f',f=f'+1∧egoE l f i=um9 ((l.drop i).take 3) :: egoE l f' (i+3):=by
 obtain ⟨f',rfl⟩:∃ f',f=f'+1:=⟨f - 1,by omega⟩
 exact ⟨f',rfl,by rw [egoE,if_pos h]⟩
theorem xb9 (h : List AObj) (id cap at' n v : Nat) (c : List UInt8) (k : Nat) (hid : h[id]? = some (.cells 5 (zd9 c k))) (hc : c.length = 80) (hlen : at' + n ≤ 80) (hv : v ≤ 9223372036854775807) :
  wf9 Tryz.prog 12 [.arr id 0 80 cap,.v (.int .i64 (at':Nat)),.v (.int .i64 (n:Nat)),.v (.int .i64 (v:Nat))] h fun r h'=>r=.tup []∧h'=h.set id (.cells 5 (zd9 (putM c at' (numM n v)) k)):=by
 have:=vb6 h id 80 cap at' n v (zd9 c k) hid hlen (by rw [xj9];omega) (by omega) hv
 rwa [jk9 _ _ _ _ (by rw [zc9];omega)] at this
theorem xm7 (h : List AObj) (id cap at' : Nat) (s c : List UInt8) (k : Nat) (hid : h[id]? = some (.cells 5 (zd9 c k))) (hc : c.length = 80) (hs : s.length ≤ 1000000) (hlen : at' + (zm9 s).length ≤ 80) :
  wf9 Tryz.prog 13 [.arr id 0 80 cap,.v (.int .i64 (at':Nat)),strB s] h fun r h'=>r=.tup []∧h'=h.set id (.cells 5 (zd9 (putM c at' (zm9 s)) k)):=by
 have:=jl5 h id 80 cap at' s (zd9 c k) hid hs hlen (by rw [xj9];omega) (by omega)
 rwa [jk9 _ _ _ _ (by omega)] at this
theorem zf8 (c:List UInt8) (k i:Nat) (b:UInt8) (h:i < c.length):yf9 (zd9 c k) i [.v (.int .u8 b.toNat)]=zd9 (c.set i b) k:=by
 rw [ur9 _ _ _ (by rw [xj9];omega),kr8 _ _ _ _ h]
abbrev frG (n:Nat) (acc:AV) (i cap a6:Nat) (a7:Int) (a8:Nat) (x:List (Nat × AV)):List (Nat × AV):=(1,.loc 0 0) :: (3,acc) :: (4,.v (.int .i64 (i:Nat))) :: (5,.arr 1 0 80 cap) :: (6,.v (.int .i64 (a6:Nat))) :: (7,.v (.int .i64 a7)) :: (8,.v (.int .i64 (a8:Nat))) :: x
theorem wp5 (a b:List AV):AV.toksL (a++b)=AV.toksL a++AV.toksL b:=by induction a <;> simp_all [AV.toksL]
theorem zk9 (c:List UInt8) (k:Nat):AV.toksL (zd9 c k)=[]:=by
 rw [zd9,wp5,wp4]
 induction k <;> simp_all [List.replicate_succ,AV.toksL,AV.toks]
theorem zk6 (o:OMod) (hk:∀ x∈o.esd,EOk x) (hne:o.esd≠[]) (hl:o.esd.length≤2048) (hid:∀ x∈o.esd,x.kind≠2→1≤x.id):Sound Tryz.prog 10 [obA o] (.lst (.tip 23 1) 1 (bbL (egoE o.esd o.esd.length 0))):=by
 refine uh9 Tryz.func10 rfl (by decide +kernel) (by simp [Tryz.f10]) (by simp [AV.rfL,AV.rf,strB]) (by simp [AV.tlL,AV.tl,strB]) (rs:=[.tmp 2]) rfl ?_
 rw [show Tryz.f10.ntmps=114 from rfl]
 obtain ⟨l,hle⟩:∃ l,o.esd=l:=⟨_,rfl⟩
 rw [hle] at hk hne hl hid ⊢
 obtain ⟨R0,hR0⟩:∃ R,egoE l l.length 0=R:=⟨_,rfl⟩
 rw [hR0]
 have hl0:0 < l.length:=List.length_pos_iff.2 hne
 obtain ⟨hcl0,hcb0⟩:=qm6
 refine yt9 [1] (by simp;rfl) ?_
 refine yt9 [1,3] (by simp;rfl) ?_
 refine yl9 ?_
 refine yt9 [1,3,4] (by simp;rfl) ?_
 refine ys9 ?_
 refine zl9 (fun m σ => ∃ (f i : Nat) (acc : List (List UInt8)) (fl : Fl), m = l.length + 3 - i ∧ i ≤ l.length + 2 ∧ l.length ≤ i + f ∧ acc ++ egoE l f i = R0 ∧ acc.length ≤ i ∧ ((i = 0 ∧ fl = .nil ∧ acc = []) ∨ (0 < i ∧ fl = .tip 23 225)) ∧
  σ=⟨114,[(1,.loc 0 0),(3,.lst fl 1 (bbL acc)),(4,.v (.int .i64 (i:Nat)))],[.cells 33 (obC o)]⟩) (k:=l.length+3) ⟨l.length,0,[],.nil,by omega,by omega,by omega,hR0,by simp,.inl ⟨rfl,rfl,rfl⟩,by simp [obC]⟩ ?_
 rintro m σ ⟨f,i,acc,fl,rfl,hi,hf,hgo,hacc,hfl,rfl⟩
 refine yl9 ?_
 by_cases c:i < l.length
 ·have ci : (i : Int) < l.length := by omega
  obtain ⟨f',rfl,hes⟩:=qm4 c hf
  rw [hes] at hgo
  obtain ⟨g,hg⟩:∃ g,(l.drop i).take 3=g:=⟨_,rfl⟩
  have hgl:g.length=min 3 (l.length - i):=by rw [← hg];simp
  have hgl3:g.length≤3:=by omega
  have hgget:∀ j,j < g.length→g[j]?=l[i+j]?:=fun j hj=>by rw [← hg,List.getElem?_take,if_pos (by omega),List.getElem?_drop]
  have hgm:∀ x∈g,x∈l:=fun x hx=>by rw [← hg] at hx;exact List.mem_of_mem_drop (List.mem_of_mem_take hx)
  have hgi:∀ y∈g,y.kind≠2→1≤y.id:=fun y hy=>hid y (hgm y hy)
  have hcE:=kh4 g hgi hgl3 (fun x hx=>by have:=(hk x (hgm x hx)).n;omega) hcl0
  rw [hg] at hgo
  have w3:=w64 (n:=(i:Int)+3) (by omega) (by omega)
  refine yt9 [1,3,4,15] (by simp [obC,hle,ci];rfl) ?_
  refine yp9 rfl (fun h=>?_) (fun h=>by simp [c] at h)
  refine yk9 ?_
  refine yl9 ?_
  refine ys9 ?_
  have hfl2:fl=.nil∨fl=.tip 23 225:=by
   rcases hfl with ⟨_,h,_⟩ | ⟨_,h⟩
   ·exact .inl h
   ·exact .inr h
  rcases hfl2 with rfl | rfl
  ·refine W_rK [1, 3, 4, 5] ?_
   refine zr9 (f:=11) (args:=[strB vd9]) (by simp) (by simp [yb9,zt9,strB,vd9]) ((vt8 vd9 (by simp [vd9]) (by decide +kernel) (by decide +kernel) _).mono ?_)
   rintro _ _ ⟨k,rfl,rfl⟩
   refine ⟨_,by simp [strB,zk9];rfl,?_⟩
   refine yw9 (by simp [strB,zk9];rfl) ?_
   obtain ⟨F,hF⟩:∃ F,xv9 g 0 (xm9 vd9)=F:=⟨_,rfl⟩
   rw [hF] at hcE
   obtain ⟨c0,hc0⟩:∃ c,xm9 vd9=c:=⟨_,rfl⟩
   rw [hc0] at hF hcl0 hcb0 ⊢
   refine yt9 [1,3,4,5,6,7] (by simp;rfl) ?_
   refine xh9 (fun σ=>F.length=80∧σ=⟨114,frG 114 (.lst .nil 1 (bbL acc)) i (80+k) (16 * g.length) (yd8 g) (i+g.length) [],[.cells 33 (obC o),.cells 5 (zd9 F k)]⟩) ?_ ?_
   ·refine yt9 [1, 3, 4, 5, 6, 7, 8] (by simp; rfl) ?_
    refine ys9 ?_
    refine zl9 (fun m σ => ∃ (j : Nat) (c : List UInt8), m = g.length - j ∧ j ≤ g.length ∧ xv9 (g.drop j) j c = F ∧ c.length = 80 ∧ c.drop (16 + 16 * j) = xr9 (64 - 16 * j) ∧
     σ=⟨114,frG 114 (.lst .nil 1 (bbL acc)) i (80+k) (16 * j) (yd8 (g.take j)) (i+j) [],[.cells 33 (obC o),.cells 5 (zd9 c k)]⟩) (k:=g.length) ⟨0,c0,rfl,by omega,hF,hcl0,hcb0,by simp [obC,yd8,strB,hle]⟩ ?_
    rintro m σ ⟨j,c1,rfl,hj,hit,hc1,hcb,rfl⟩
    refine yl9 ?_
    have wi3:IntKind.i64.wrap ((i:Int)+3)=(i:Int)+3:=w3
    by_cases cj:j < g.length
    ·obtain ⟨x, hs⟩ : ∃ x, g[j]? = some x := ⟨_, List.getElem?_eq_getElem cj⟩
     have hs2:g[j]'cj=x:=by rw [List.getElem?_eq_getElem cj] at hs;exact Option.some.inj hs
     have hdr:g.drop j=x :: g.drop (j+1):=vt9 cj hs2
     have htk:g.take (j+1)=g.take j++[x]:=by rw [List.take_add_one,hs];rfl
     have hli:l[i+j]?=some x:=by rw [← hgget j cj];exact hs
     have hil:i+j < l.length:=(List.getElem?_eq_some_iff.1 hli).1
     have hil2:l[i+j]'hil=x:=by rw [List.getElem?_eq_getElem hil] at hli;exact Option.some.inj hli
     have hil3:((i:Int)+(j:Int)) < l.length:=by omega
     have hil4:((i:Int)+(j:Int)) < (i:Int)+3:=by omega
     have hil5:(0:Int)≤(i:Int)+(j:Int):=by omega
     have hil6:((i:Int)+(j:Int)).toNat=i+j:=by omega
     have hxl:x∈l:=List.mem_of_getElem? hli
     have hE:=hk x hxl
     obtain ⟨e1,e2,e3,e4,e5,e6,e7,e8⟩:=hE
     have wj:=w64 (n:=(i:Int)+(j:Int) - (i:Int)) (by omega) (by omega)
     have wj2:IntKind.i64.wrap ((j:Int))=j:=w64 (by omega) (by omega)
     have wj3:IntKind.i64.wrap (16 * (j:Int))=16 * (j:Int):=w64 (by omega) (by omega)
     have wj4:IntKind.i64.wrap (16+16 * (j:Int))=((16+16 * j:Nat):Int):=by rw [w64 (by omega) (by omega)];omega
     have wsub:(i:Int)+(j:Int) - (i:Int)=j:=by omega
     have w16:IntKind.i64.wrap (16 * (j:Int)+16)=((16 * (j+1):Nat):Int):=by rw [w64 (by omega) (by omega)];omega
     have wi1:IntKind.i64.wrap ((i:Int)+(j:Int)+1)=((i+(j+1):Nat):Int):=by rw [w64 (by omega) (by omega)];omega
     obtain ⟨hr1,hr2,hr3⟩:=ks7 hc1 (by omega) hcb e1
     rw [hdr,xv9] at hit
     have hfs:=wp6 (g.take j) x (fun y hy=>hgi y (List.mem_of_mem_take hy))
     obtain ⟨A,hA⟩:∃ A,16+16 * j=A:=⟨_,rfl⟩
     have hA64:A+16≤80:=by omega
     rw [hA] at hr1 hit wj4
     rw [← hr1] at hit
     have hr3':(vn9 c1 A x).length=80:=by rw [hr1,← hA];exact hr3
     have hr2':(vn9 c1 A x).drop (16+16 * (j+1))=xr9 (64 - 16 * (j+1)):=by rw [hr1,← hA];exact hr2
     obtain ⟨I0,hI0⟩:∃ I,yd8 (g.take j)=I:=⟨_,rfl⟩
     rw [hI0] at hfs
     have wa8:IntKind.i64.wrap ((A:Int)+8)=((A+8:Nat):Int):=by rw [w64 (by omega) (by omega)];omega
     have wa9:IntKind.i64.wrap ((A:Int)+9)=((A+9:Nat):Int):=by rw [w64 (by omega) (by omega)];omega
     have wa13:IntKind.i64.wrap ((A:Int)+13)=((A+13:Nat):Int):=by rw [w64 (by omega) (by omega)];omega
     refine W_cT [1,3,4,5,6,7,8,30] (by simp [frG,obC,hle,wi3,hil3,hil4];rfl) rfl ?_
     refine yk9 ?_
     refine yl9 ?_
     refine ys9 ?_
     refine W_rK [1,3,4,5,6,7,8,9,10] ?_
     refine yq9 6 (by simp [obC,hle,hil,hil2,hil3,hil5,hil6];rfl) rfl ?_
     refine yw9 (by simp [obC,hle,wj,wsub,wj2,wj3,wj4,yf9,AV.weakL,AV.weak,AV.koneL,AV.kone,strB];rfl) ?_
     refine yt9 [1,3,4,5,6,7,8,9,10] (by simp [w16,-Int.natCast_add,-Int.natCast_mul];rfl) ?_
     refine W_rK [1,3,4,5,6,7,8,9,10] ?_
     refine yq9 4 (by simp;rfl) rfl ?_
     refine zr9 (f:=13) (args:=[.arr 1 0 80 (80+k),.v (.int .i64 (A:Nat)),strB x.name]) (by simp) (by simp [yb9,zt9,strB]) ((xm7 _ 1 (80+k) A x.name c1 k (by simp) hc1 (by omega) (by omega)).mono ?_)
     rintro _ _ ⟨rfl,rfl⟩
     refine ⟨_,by simp [strB,zk9];rfl,?_⟩
     refine yw9 (by simp [strB,zk9];rfl) ?_
     have hp1:(putM c1 A (zm9 x.name)).length=80:=by rw [zb9 _ _ _ (by omega)];exact hc1
     obtain ⟨ad,had⟩:∃ n:Nat,x.addr=n:=⟨x.addr.toNat,by omega⟩
     obtain ⟨ln,hln⟩:∃ n:Nat,x.len=n:=⟨x.len.toNat,by omega⟩
     obtain ⟨ii,hii⟩:∃ n:Nat,x.id=n:=⟨x.id.toNat,by omega⟩
     obtain ⟨A8,hA8⟩:∃ n,A+8=n:=⟨_,rfl⟩
     obtain ⟨A9,hA9⟩:∃ n,A+9=n:=⟨_,rfl⟩
     obtain ⟨A13,hA13⟩:∃ n,A+13=n:=⟨_,rfl⟩
     rw [hA8] at wa8
     rw [hA9] at wa9
     rw [hA13] at wa13
     have ha8:A8 < 80:=by omega
     have ha8i:(A8:Int) < 80:=by omega
     have h8r:A8+1≤80+k:=by omega
     refine xh9 (fun σ=>σ=⟨114,frG 114 (.lst .nil 1 (bbL acc)) i (80+k) (16 * (j+1)) I0 (i+j) [(9,.loc 2 0)],[.cells 33 (obC o),.cells 5 (zd9 (vn9 c1 A x) k),.cells 50 (esC x)]⟩) ?_ ?_
     ·refine yt9 [1, 3, 4, 5, 6, 7, 8, 9, 10, 51] (by simp [strB, zk9]; rfl) ?_
      refine ys9 ?_
      by_cases k1:x.kind=1
      ·refine W_cT [1,3,4,5,6,7,8,9,10,51,56] (by simp [strB,zk9,k1];rfl) rfl ?_
       have hs8:yf9 (zd9 (putM c1 A (zm9 x.name)) k) A8 [.v (.int .u8 0)]=zd9 ((putM c1 A (zm9 x.name)).set A8 0) k:=zf8 _ k A8 0 (by omega)
       have h8l:((putM c1 A (zm9 x.name)).set A8 0).length=80:=by rw [List.length_set];exact hp1
       refine yt9 [1,3,4,5,6,7,8,9,10] (by simp [strB,zk9,xj9,hp1,wa8,ha8,ha8i,hs8,h8r];rfl) ?_
       refine W_rK [1,3,4,5,6,7,8,9,10] ?_
       refine yq9 5 (by simp [wa9,had,strB,zk9];rfl) rfl ?_
       refine zr9 (f:=12) (args:=[.arr 1 0 80 (80+k),.v (.int .i64 (A9:Nat)),.v (.int .i64 (3:Nat)),.v (.int .i64 (ad:Nat))]) (by simp) (by simp [yb9,zt9,wa9,had]) ((xb9 _ 1 (80+k) A9 3 (ad) _ k (by simp;rfl) (by first | exact h8l | (rw [zb9 _ _ _ (by rw [zc9];omega)];exact h8l)) (by omega) (by omega)).mono ?_)
       rintro _ _ ⟨rfl,rfl⟩
       refine ⟨_,by simp [strB,zk9];rfl,?_⟩
       refine yw9 (by simp [strB,zk9];rfl) ?_
       refine W_rE [1,3,4,5,6,7,8,9] ?_
       refine yq9 5 (by simp [wa13,hln,strB,zk9];rfl) rfl ?_
       refine zr9 (f:=12) (args:=[.arr 1 0 80 (80+k),.v (.int .i64 (A13:Nat)),.v (.int .i64 (3:Nat)),.v (.int .i64 (ln:Nat))]) (by simp) (by simp [yb9,zt9,wa13,hln]) ((xb9 _ 1 (80+k) A13 3 (ln) _ k (by simp;rfl) (by first | exact h8l | (rw [zb9 _ _ _ (by rw [zc9];omega)];exact h8l)) (by omega) (by omega)).mono ?_)
       rintro _ _ ⟨rfl,rfl⟩
       refine ⟨_,by simp [strB,zk9];rfl,?_⟩
       refine yw9 (by simp [strB,zk9];rfl) ?_
       simp [hI0,strB,vn9,esC,obC,hA8,hA9,hA13,hle,k1,had,hln]
      have k1b:(x.kind == 1)=false:=by simpa using k1
      by_cases k2:x.kind=2
      ·refine W_cF [1,3,4,5,6,7,8,9,10,51,56] (by simp [strB,zk9,k2];rfl) rfl ?_
       refine W_cT [1,3,4,5,6,7,8,9,10,74] (by simp [strB,zk9,k2];rfl) rfl ?_
       have hs8:yf9 (zd9 (putM c1 A (zm9 x.name)) k) A8 [.v (.int .u8 1)]=zd9 ((putM c1 A (zm9 x.name)).set A8 1) k:=zf8 _ k A8 1 (by omega)
       have h8l:((putM c1 A (zm9 x.name)).set A8 1).length=80:=by rw [List.length_set];exact hp1
       refine yt9 [1,3,4,5,6,7,8,9,10] (by simp [strB,zk9,xj9,hp1,wa8,ha8,ha8i,hs8,h8r];rfl) ?_
       refine W_rK [1,3,4,5,6,7,8,9,10] ?_
       refine yq9 5 (by simp [wa9,had,strB,zk9];rfl) rfl ?_
       refine zr9 (f:=12) (args:=[.arr 1 0 80 (80+k),.v (.int .i64 (A9:Nat)),.v (.int .i64 (3:Nat)),.v (.int .i64 (ad:Nat))]) (by simp) (by simp [yb9,zt9,wa9,had]) ((xb9 _ 1 (80+k) A9 3 (ad) _ k (by simp;rfl) (by first | exact h8l | (rw [zb9 _ _ _ (by rw [zc9];omega)];exact h8l)) (by omega) (by omega)).mono ?_)
       rintro _ _ ⟨rfl,rfl⟩
       refine ⟨_,by simp [strB,zk9];rfl,?_⟩
       refine yw9 (by simp [strB,zk9];rfl) ?_
       refine W_rE [1,3,4,5,6,7,8,9] ?_
       refine yq9 5 (by simp [wa13,hii,strB,zk9];rfl) rfl ?_
       refine zr9 (f:=12) (args:=[.arr 1 0 80 (80+k),.v (.int .i64 (A13:Nat)),.v (.int .i64 (3:Nat)),.v (.int .i64 (ii:Nat))]) (by simp) (by simp [yb9,zt9,wa13,hii]) ((xb9 _ 1 (80+k) A13 3 (ii) _ k (by simp;rfl) (by first | exact h8l | (rw [zb9 _ _ _ (by rw [zc9];omega)];exact h8l)) (by omega) (by omega)).mono ?_)
       rintro _ _ ⟨rfl,rfl⟩
       refine ⟨_,by simp [strB,zk9];rfl,?_⟩
       refine yw9 (by simp [strB,zk9];rfl) ?_
       simp [hI0,strB,vn9,esC,obC,hA8,hA9,hA13,hle,k2,had,hii]
      ·have k2b:(x.kind == 2)=false:=by simpa using k2
       refine W_cF [1,3,4,5,6,7,8,9,10,51,56] (by simp [strB,zk9,k1,k1b];rfl) rfl ?_
       refine W_cF [1,3,4,5,6,7,8,9,10,74] (by simp [strB,zk9,k2,k2b];rfl) rfl ?_
       have hs8:yf9 (zd9 (putM c1 A (zm9 x.name)) k) A8 [.v (.int .u8 2)]=zd9 ((putM c1 A (zm9 x.name)).set A8 2) k:=zf8 _ k A8 2 (by omega)
       have h8l:((putM c1 A (zm9 x.name)).set A8 2).length=80:=by rw [List.length_set];exact hp1
       refine zq9 [1,3,4,5,6,7,8,9] (by simp [strB,zk9,xj9,hp1,wa8,ha8,ha8i,hs8,h8r];rfl) ?_
       simp [hI0,strB,vn9,esC,obC,hA8,hA9,hA13,hle,k1,k2]
     rintro _ rfl
     have hfin:∀ I',(if I0=0 then (if x.kind=2 then 0 else x.id) else I0)=I'→yd8 (g.take (j+1))=I':=fun I' h=>by rw [htk,hfs,h]
     by_cases z0:I0=0
     ·by_cases k2 : x.kind = 2
      ·refine W_cF [1,3,4,5,6,7,8,9,98] (by simp [frG,esC,z0,k2,strB,zk9,bne];rfl) rfl ?_
       refine yk9 ?_
       refine zs9 [1,3,4,5,6,7,8] ?_
       refine xp9 2 (Nat.zero_le _) (by simp) (by simp [frG,yv9,AV.under,AV.underL]) (by simp [yc9,xl9,AObj.under,yv9,AV.under,AV.underL,zp9,zd9,esC,strB]) ?_
       refine zq9 [1,3,4,5,6,7,8] (by simp [wi1,strB,zk9,-Int.natCast_add];rfl) ?_
       exact ⟨_,by omega,j+1,vn9 c1 A x,rfl,by omega,hit,hr3',hr2',by rw [hfin 0 (by simp [z0,k2])];simp [strB,obC,hle,z0]⟩
      ·have k2b:(x.kind == 2)=false:=by simpa using k2
       refine W_cT [1,3,4,5,6,7,8,9,98] (by simp [frG,esC,z0,k2,k2b,strB,zk9,bne];rfl) rfl ?_
       refine zq9 [1,3,4,5,6,7,8,9] (by simp [esC,strB,zk9];rfl) ?_
       refine zs9 [1,3,4,5,6,7,8] ?_
       refine xp9 2 (Nat.zero_le _) (by simp) (by simp [frG,yv9,AV.under,AV.underL]) (by simp [yc9,xl9,AObj.under,yv9,AV.under,AV.underL,zp9,zd9,esC,strB]) ?_
       refine zq9 [1,3,4,5,6,7,8] (by simp [wi1,strB,zk9,-Int.natCast_add];rfl) ?_
       exact ⟨_,by omega,j+1,vn9 c1 A x,rfl,by omega,hit,hr3',hr2',by rw [hfin x.id (by simp [z0,k2])];simp [strB,obC,hle,z0]⟩
     ·have z0b:(I0 == 0)=false:=by simpa using z0
      refine W_cF [1,3,4,5,6,7,8,9,98] (by simp [frG,esC,z0,z0b,strB,zk9,bne];rfl) rfl ?_
      refine yk9 ?_
      refine zs9 [1,3,4,5,6,7,8] ?_
      refine xp9 2 (Nat.zero_le _) (by simp) (by simp [frG,yv9,AV.under,AV.underL]) (by simp [yc9,xl9,AObj.under,yv9,AV.under,AV.underL,zp9,zd9,esC,strB]) ?_
      refine zq9 [1,3,4,5,6,7,8] (by simp [wi1,strB,zk9,-Int.natCast_add];rfl) ?_
      exact ⟨_,by omega,j+1,vn9 c1 A x,rfl,by omega,hit,hr3',hr2',by rw [hfin I0 (by simp [z0])];simp [strB,obC,hle,z0]⟩
    ·have hje : j = g.length := by omega
     rw [hje,List.drop_length,xv9] at hit
     subst hit
     have hnot:¬ (((i:Int)+(j:Int) < (i:Int)+3)∧((i:Int)+(j:Int) < l.length)):=by omega
     by_cases j3:(i:Int)+(j:Int) < (i:Int)+3
     ·have j4:¬ ((i:Int)+(j:Int) < l.length):=fun h=>hnot ⟨j3,h⟩
      refine W_cF [1,3,4,5,6,7,8,30] (by simp [frG,obC,hle,wi3,j3,j4];rfl) rfl ?_
      refine zs9 [1,3,4,5,6,7,8] ?_
      refine zj9 ?_
      refine ⟨hc1,?_⟩
      subst hje
      rw [List.take_length]
      simp [obC,strB,hle]
     ·refine W_cF [1,3,4,5,6,7,8,30] (by simp [frG,obC,hle,wi3,j3];rfl) rfl ?_
      refine zs9 [1,3,4,5,6,7,8] ?_
      refine zj9 ?_
      refine ⟨hc1,?_⟩
      subst hje
      rw [List.take_length]
      simp [obC,strB,hle]
   rintro _ ⟨hFl,rfl⟩
   have hp2:(putM F 10 (numM 2 (16 * g.length))).length=80:=by rw [zb9 _ _ _ (by rw [zc9];omega)];exact hFl
   refine W_rK [1,3,4,5,7] ?_
   refine yq9 2 (by simp [frG,strB,zk9];rfl) rfl ?_
   refine zr9 (f:=12) (args:=[.arr 1 0 80 (80+k),.v (.int .i64 (10:Nat)),.v (.int .i64 (2:Nat)),.v (.int .i64 (16 * g.length:Nat))]) (by simp) (by simp [yb9,zt9]) ((xb9 _ 1 (80+k) 10 2 (16 * g.length) F k (by simp) hFl (by omega) (by omega)).mono ?_)
   rintro _ _ ⟨rfl,rfl⟩
   refine ⟨_,by simp [strB,zk9];rfl,?_⟩
   refine yw9 (by simp [strB,zk9];rfl) ?_
   refine xh9 (fun σ=>σ=⟨114,[(1,.loc 0 0),(3,.lst .nil 1 (bbL acc)),(4,.v (.int .i64 (i:Nat))),(5,.arr 1 0 80 (80+k))],[.cells 33 (obC o),.cells 5 (zd9 (um9 g) k)]⟩) ?_ ?_
   ·obtain ⟨I, hI⟩ : ∃ I, yd8 g = I := ⟨_, rfl⟩
    rw [hI] at hcE ⊢
    by_cases p0:0 < I
    ·obtain ⟨n, hn⟩ : ∃ n : Nat, I = n := ⟨I.toNat, by omega⟩
     subst hn
     have hnb:n≤1000000:=by
      cases hfi:g.find? (fun x=>!decide (x.kind=2)) with
      | none=>simp [yd8,hfi] at hI;omega
      | some y =>
       simp only [yd8,hfi,Option.map_some,Option.getD_some] at hI
       have:=(hk y (hgm y (List.mem_of_find?_eq_some hfi))).i1
       omega
     have p0n:0 < n:=by omega
     refine W_cT [1,3,4,5,7,105] (by simp [p0,p0n,strB,zk9];rfl) rfl ?_
     refine W_rE [1,3,4,5] ?_
     refine yq9 2 (by simp [strB,zk9];rfl) rfl ?_
     refine zr9 (f:=12) (args:=[.arr 1 0 80 (80+k),.v (.int .i64 (14:Nat)),.v (.int .i64 (2:Nat)),.v (.int .i64 (n:Nat))]) (by simp) (by simp [yb9,zt9]) ((xb9 _ 1 (80+k) 14 2 n (putM F 10 (numM 2 (16 * g.length))) k (by simp) hp2 (by omega) (by omega)).mono ?_)
     rintro _ _ ⟨rfl,rfl⟩
     refine ⟨_,by simp [strB,zk9];rfl,?_⟩
     refine yw9 (by simp [strB,zk9];rfl) ?_
     rw [hcE]
     simp [obC,strB,hle,p0n]
    ·refine W_cF [1,3,4,5,7,105] (by simp [p0,strB,zk9];rfl) rfl ?_
     refine zs9 [1,3,4,5] ?_
     refine yk9 ?_
     rw [hcE]
     simp [obC,strB,hle,p0]
   rintro _ rfl
   have hq1:acc.length≤140737488355327:=by omega
   have hq2:(acc.length+1) * 24≤140737488355328:=by omega
   have happ:bbL acc++[.lst .any 1 (byL (um9 g))]=bbL (acc++[um9 g]):=by simp [wv9,qq9]
   have hcl:(um9 g).length=80:=by
    rw [hcE]
    simp only
    split
    ·rw [zb9 _ _ _ (by rw [zc9];omega)];exact hp2
    ·exact hp2
   obtain rfl:acc=[]:=by
    rcases hfl with ⟨_,_,h⟩ | ⟨_,h⟩
    ·exact h
    ·cases h
   obtain ⟨fo,hfo,hfz⟩:=qs8 (h:=[.cells 33 (obC o),.cells 5 (zd9 (um9 g) k)]) 1 80 (80+k) (um9 g) k rfl hcl
   refine xf6 5 rfl (by decide) hfz ?_
   obtain ⟨CE,hCE⟩:∃ C,um9 g=C:=⟨_,rfl⟩
   rw [hCE] at hgo happ hcl ⊢
   rcases hfo with rfl | rfl
   all_goals
    refine zq9 [1,3,4] (by simp [putF,yf9,catK,AV.cellsK,AV.kone,AV.koneL,hq1,hq2,strB,zk9,happ];rfl) ?_
    refine xp9 1 (Nat.zero_le _) (by simp) (by simp [yv9,AV.under,AV.underL]) (by simp [yc9,xl9,AObj.under,yv9,AV.under,AV.underL,zp9,zd9,esC,strB]) ?_
    refine zq9 [1,3,4] (by simp [w3,strB,zk9];rfl) ?_
    exact ⟨_,by omega,f',i+3,[CE],.tip 23 225,rfl,by omega,by omega,by simpa using hgo,by simp only [List.length_append,List.length_cons,List.length_nil];omega,.inr ⟨by omega,rfl⟩,by simp [obC,strB,hle,qq9]⟩
  ·refine W_rK [1, 3, 4, 5] ?_
   refine zr9 (f:=11) (args:=[strB vd9]) (by simp) (by simp [yb9,zt9,strB,vd9]) ((vt8 vd9 (by simp [vd9]) (by decide +kernel) (by decide +kernel) _).mono ?_)
   rintro _ _ ⟨k,rfl,rfl⟩
   refine ⟨_,by simp [strB,zk9];rfl,?_⟩
   refine yw9 (by simp [strB,zk9];rfl) ?_
   obtain ⟨F,hF⟩:∃ F,xv9 g 0 (xm9 vd9)=F:=⟨_,rfl⟩
   rw [hF] at hcE
   obtain ⟨c0,hc0⟩:∃ c,xm9 vd9=c:=⟨_,rfl⟩
   rw [hc0] at hF hcl0 hcb0 ⊢
   refine yt9 [1,3,4,5,6,7] (by simp;rfl) ?_
   refine xh9 (fun σ=>F.length=80∧σ=⟨114,frG 114 (.lst (.tip 23 225) 1 (bbL acc)) i (80+k) (16 * g.length) (yd8 g) (i+g.length) [],[.cells 33 (obC o),.cells 5 (zd9 F k)]⟩) ?_ ?_
   ·refine yt9 [1, 3, 4, 5, 6, 7, 8] (by simp; rfl) ?_
    refine ys9 ?_
    refine zl9 (fun m σ => ∃ (j : Nat) (c : List UInt8), m = g.length - j ∧ j ≤ g.length ∧ xv9 (g.drop j) j c = F ∧ c.length = 80 ∧ c.drop (16 + 16 * j) = xr9 (64 - 16 * j) ∧
     σ=⟨114,frG 114 (.lst (.tip 23 225) 1 (bbL acc)) i (80+k) (16 * j) (yd8 (g.take j)) (i+j) [],[.cells 33 (obC o),.cells 5 (zd9 c k)]⟩) (k:=g.length) ⟨0,c0,rfl,by omega,hF,hcl0,hcb0,by simp [obC,yd8,strB,hle]⟩ ?_
    rintro m σ ⟨j,c1,rfl,hj,hit,hc1,hcb,rfl⟩
    refine yl9 ?_
    have wi3:IntKind.i64.wrap ((i:Int)+3)=(i:Int)+3:=w3
    by_cases cj:j < g.length
    ·obtain ⟨x, hs⟩ : ∃ x, g[j]? = some x := ⟨_, List.getElem?_eq_getElem cj⟩
     have hs2:g[j]'cj=x:=by rw [List.getElem?_eq_getElem cj] at hs;exact Option.some.inj hs
     have hdr:g.drop j=x :: g.drop (j+1):=vt9 cj hs2
     have htk:g.take (j+1)=g.take j++[x]:=by rw [List.take_add_one,hs];rfl
     have hli:l[i+j]?=some x:=by rw [← hgget j cj];exact hs
     have hil:i+j < l.length:=(List.getElem?_eq_some_iff.1 hli).1
     have hil2:l[i+j]'hil=x:=by rw [List.getElem?_eq_getElem hil] at hli;exact Option.some.inj hli
     have hil3:((i:Int)+(j:Int)) < l.length:=by omega
     have hil4:((i:Int)+(j:Int)) < (i:Int)+3:=by omega
     have hil5:(0:Int)≤(i:Int)+(j:Int):=by omega
     have hil6:((i:Int)+(j:Int)).toNat=i+j:=by omega
     have hxl:x∈l:=List.mem_of_getElem? hli
     have hE:=hk x hxl
     obtain ⟨e1,e2,e3,e4,e5,e6,e7,e8⟩:=hE
     have wj:=w64 (n:=(i:Int)+(j:Int) - (i:Int)) (by omega) (by omega)
     have wj2:IntKind.i64.wrap ((j:Int))=j:=w64 (by omega) (by omega)
     have wj3:IntKind.i64.wrap (16 * (j:Int))=16 * (j:Int):=w64 (by omega) (by omega)
     have wj4:IntKind.i64.wrap (16+16 * (j:Int))=((16+16 * j:Nat):Int):=by rw [w64 (by omega) (by omega)];omega
     have wsub:(i:Int)+(j:Int) - (i:Int)=j:=by omega
     have w16:IntKind.i64.wrap (16 * (j:Int)+16)=((16 * (j+1):Nat):Int):=by rw [w64 (by omega) (by omega)];omega
     have wi1:IntKind.i64.wrap ((i:Int)+(j:Int)+1)=((i+(j+1):Nat):Int):=by rw [w64 (by omega) (by omega)];omega
     obtain ⟨hr1,hr2,hr3⟩:=ks7 hc1 (by omega) hcb e1
     rw [hdr,xv9] at hit
     have hfs:=wp6 (g.take j) x (fun y hy=>hgi y (List.mem_of_mem_take hy))
     obtain ⟨A,hA⟩:∃ A,16+16 * j=A:=⟨_,rfl⟩
     have hA64:A+16≤80:=by omega
     rw [hA] at hr1 hit wj4
     rw [← hr1] at hit
     have hr3':(vn9 c1 A x).length=80:=by rw [hr1,← hA];exact hr3
     have hr2':(vn9 c1 A x).drop (16+16 * (j+1))=xr9 (64 - 16 * (j+1)):=by rw [hr1,← hA];exact hr2
     obtain ⟨I0,hI0⟩:∃ I,yd8 (g.take j)=I:=⟨_,rfl⟩
     rw [hI0] at hfs
     have wa8:IntKind.i64.wrap ((A:Int)+8)=((A+8:Nat):Int):=by rw [w64 (by omega) (by omega)];omega
     have wa9:IntKind.i64.wrap ((A:Int)+9)=((A+9:Nat):Int):=by rw [w64 (by omega) (by omega)];omega
     have wa13:IntKind.i64.wrap ((A:Int)+13)=((A+13:Nat):Int):=by rw [w64 (by omega) (by omega)];omega
     refine W_cT [1,3,4,5,6,7,8,30] (by simp [frG,obC,hle,wi3,hil3,hil4];rfl) rfl ?_
     refine yk9 ?_
     refine yl9 ?_
     refine ys9 ?_
     refine W_rK [1,3,4,5,6,7,8,9,10] ?_
     refine yq9 6 (by simp [obC,hle,hil,hil2,hil3,hil5,hil6];rfl) rfl ?_
     refine yw9 (by simp [obC,hle,wj,wsub,wj2,wj3,wj4,yf9,AV.weakL,AV.weak,AV.koneL,AV.kone,strB];rfl) ?_
     refine yt9 [1,3,4,5,6,7,8,9,10] (by simp [w16,-Int.natCast_add,-Int.natCast_mul];rfl) ?_
     refine W_rK [1,3,4,5,6,7,8,9,10] ?_
     refine yq9 4 (by simp;rfl) rfl ?_
     refine zr9 (f:=13) (args:=[.arr 1 0 80 (80+k),.v (.int .i64 (A:Nat)),strB x.name]) (by simp) (by simp [yb9,zt9,strB]) ((xm7 _ 1 (80+k) A x.name c1 k (by simp) hc1 (by omega) (by omega)).mono ?_)
     rintro _ _ ⟨rfl,rfl⟩
     refine ⟨_,by simp [strB,zk9];rfl,?_⟩
     refine yw9 (by simp [strB,zk9];rfl) ?_
     have hp1:(putM c1 A (zm9 x.name)).length=80:=by rw [zb9 _ _ _ (by omega)];exact hc1
     obtain ⟨ad,had⟩:∃ n:Nat,x.addr=n:=⟨x.addr.toNat,by omega⟩
     obtain ⟨ln,hln⟩:∃ n:Nat,x.len=n:=⟨x.len.toNat,by omega⟩
     obtain ⟨ii,hii⟩:∃ n:Nat,x.id=n:=⟨x.id.toNat,by omega⟩
     obtain ⟨A8,hA8⟩:∃ n,A+8=n:=⟨_,rfl⟩
     obtain ⟨A9,hA9⟩:∃ n,A+9=n:=⟨_,rfl⟩
     obtain ⟨A13,hA13⟩:∃ n,A+13=n:=⟨_,rfl⟩
     rw [hA8] at wa8
     rw [hA9] at wa9
     rw [hA13] at wa13
     have ha8:A8 < 80:=by omega
     have ha8i:(A8:Int) < 80:=by omega
     have h8r:A8+1≤80+k:=by omega
     refine xh9 (fun σ=>σ=⟨114,frG 114 (.lst (.tip 23 225) 1 (bbL acc)) i (80+k) (16 * (j+1)) I0 (i+j) [(9,.loc 2 0)],[.cells 33 (obC o),.cells 5 (zd9 (vn9 c1 A x) k),.cells 50 (esC x)]⟩) ?_ ?_
     ·refine yt9 [1, 3, 4, 5, 6, 7, 8, 9, 10, 51] (by simp [strB, zk9]; rfl) ?_
      refine ys9 ?_
      by_cases k1:x.kind=1
      ·refine W_cT [1,3,4,5,6,7,8,9,10,51,56] (by simp [strB,zk9,k1];rfl) rfl ?_
       have hs8:yf9 (zd9 (putM c1 A (zm9 x.name)) k) A8 [.v (.int .u8 0)]=zd9 ((putM c1 A (zm9 x.name)).set A8 0) k:=zf8 _ k A8 0 (by omega)
       have h8l:((putM c1 A (zm9 x.name)).set A8 0).length=80:=by rw [List.length_set];exact hp1
       refine yt9 [1,3,4,5,6,7,8,9,10] (by simp [strB,zk9,xj9,hp1,wa8,ha8,ha8i,hs8,h8r];rfl) ?_
       refine W_rK [1,3,4,5,6,7,8,9,10] ?_
       refine yq9 5 (by simp [wa9,had,strB,zk9];rfl) rfl ?_
       refine zr9 (f:=12) (args:=[.arr 1 0 80 (80+k),.v (.int .i64 (A9:Nat)),.v (.int .i64 (3:Nat)),.v (.int .i64 (ad:Nat))]) (by simp) (by simp [yb9,zt9,wa9,had]) ((xb9 _ 1 (80+k) A9 3 (ad) _ k (by simp;rfl) (by first | exact h8l | (rw [zb9 _ _ _ (by rw [zc9];omega)];exact h8l)) (by omega) (by omega)).mono ?_)
       rintro _ _ ⟨rfl,rfl⟩
       refine ⟨_,by simp [strB,zk9];rfl,?_⟩
       refine yw9 (by simp [strB,zk9];rfl) ?_
       refine W_rE [1,3,4,5,6,7,8,9] ?_
       refine yq9 5 (by simp [wa13,hln,strB,zk9];rfl) rfl ?_
       refine zr9 (f:=12) (args:=[.arr 1 0 80 (80+k),.v (.int .i64 (A13:Nat)),.v (.int .i64 (3:Nat)),.v (.int .i64 (ln:Nat))]) (by simp) (by simp [yb9,zt9,wa13,hln]) ((xb9 _ 1 (80+k) A13 3 (ln) _ k (by simp;rfl) (by first | exact h8l | (rw [zb9 _ _ _ (by rw [zc9];omega)];exact h8l)) (by omega) (by omega)).mono ?_)
       rintro _ _ ⟨rfl,rfl⟩
       refine ⟨_,by simp [strB,zk9];rfl,?_⟩
       refine yw9 (by simp [strB,zk9];rfl) ?_
       simp [hI0,strB,vn9,esC,obC,hA8,hA9,hA13,hle,k1,had,hln]
      have k1b:(x.kind == 1)=false:=by simpa using k1
      by_cases k2:x.kind=2
      ·refine W_cF [1,3,4,5,6,7,8,9,10,51,56] (by simp [strB,zk9,k2];rfl) rfl ?_
       refine W_cT [1,3,4,5,6,7,8,9,10,74] (by simp [strB,zk9,k2];rfl) rfl ?_
       have hs8:yf9 (zd9 (putM c1 A (zm9 x.name)) k) A8 [.v (.int .u8 1)]=zd9 ((putM c1 A (zm9 x.name)).set A8 1) k:=zf8 _ k A8 1 (by omega)
       have h8l:((putM c1 A (zm9 x.name)).set A8 1).length=80:=by rw [List.length_set];exact hp1
       refine yt9 [1,3,4,5,6,7,8,9,10] (by simp [strB,zk9,xj9,hp1,wa8,ha8,ha8i,hs8,h8r];rfl) ?_
       refine W_rK [1,3,4,5,6,7,8,9,10] ?_
       refine yq9 5 (by simp [wa9,had,strB,zk9];rfl) rfl ?_
       refine zr9 (f:=12) (args:=[.arr 1 0 80 (80+k),.v (.int .i64 (A9:Nat)),.v (.int .i64 (3:Nat)),.v (.int .i64 (ad:Nat))]) (by simp) (by simp [yb9,zt9,wa9,had]) ((xb9 _ 1 (80+k) A9 3 (ad) _ k (by simp;rfl) (by first | exact h8l | (rw [zb9 _ _ _ (by rw [zc9];omega)];exact h8l)) (by omega) (by omega)).mono ?_)
       rintro _ _ ⟨rfl,rfl⟩
       refine ⟨_,by simp [strB,zk9];rfl,?_⟩
       refine yw9 (by simp [strB,zk9];rfl) ?_
       refine W_rE [1,3,4,5,6,7,8,9] ?_
       refine yq9 5 (by simp [wa13,hii,strB,zk9];rfl) rfl ?_
       refine zr9 (f:=12) (args:=[.arr 1 0 80 (80+k),.v (.int .i64 (A13:Nat)),.v (.int .i64 (3:Nat)),.v (.int .i64 (ii:Nat))]) (by simp) (by simp [yb9,zt9,wa13,hii]) ((xb9 _ 1 (80+k) A13 3 (ii) _ k (by simp;rfl) (by first | exact h8l | (rw [zb9 _ _ _ (by rw [zc9];omega)];exact h8l)) (by omega) (by omega)).mono ?_)
       rintro _ _ ⟨rfl,rfl⟩
       refine ⟨_,by simp [strB,zk9];rfl,?_⟩
       refine yw9 (by simp [strB,zk9];rfl) ?_
       simp [hI0,strB,vn9,esC,obC,hA8,hA9,hA13,hle,k2,had,hii]
      ·have k2b:(x.kind == 2)=false:=by simpa using k2
       refine W_cF [1,3,4,5,6,7,8,9,10,51,56] (by simp [strB,zk9,k1,k1b];rfl) rfl ?_
       refine W_cF [1,3,4,5,6,7,8,9,10,74] (by simp [strB,zk9,k2,k2b];rfl) rfl ?_
       have hs8:yf9 (zd9 (putM c1 A (zm9 x.name)) k) A8 [.v (.int .u8 2)]=zd9 ((putM c1 A (zm9 x.name)).set A8 2) k:=zf8 _ k A8 2 (by omega)
       have h8l:((putM c1 A (zm9 x.name)).set A8 2).length=80:=by rw [List.length_set];exact hp1
       refine zq9 [1,3,4,5,6,7,8,9] (by simp [strB,zk9,xj9,hp1,wa8,ha8,ha8i,hs8,h8r];rfl) ?_
       simp [hI0,strB,vn9,esC,obC,hA8,hA9,hA13,hle,k1,k2]
     rintro _ rfl
     have hfin:∀ I',(if I0=0 then (if x.kind=2 then 0 else x.id) else I0)=I'→yd8 (g.take (j+1))=I':=fun I' h=>by rw [htk,hfs,h]
     by_cases z0:I0=0
     ·by_cases k2 : x.kind = 2
      ·refine W_cF [1,3,4,5,6,7,8,9,98] (by simp [frG,esC,z0,k2,strB,zk9,bne];rfl) rfl ?_
       refine yk9 ?_
       refine zs9 [1,3,4,5,6,7,8] ?_
       refine xp9 2 (Nat.zero_le _) (by simp) (by simp [frG,yv9,AV.under,AV.underL]) (by simp [yc9,xl9,AObj.under,yv9,AV.under,AV.underL,zp9,zd9,esC,strB]) ?_
       refine zq9 [1,3,4,5,6,7,8] (by simp [wi1,strB,zk9,-Int.natCast_add];rfl) ?_
       exact ⟨_,by omega,j+1,vn9 c1 A x,rfl,by omega,hit,hr3',hr2',by rw [hfin 0 (by simp [z0,k2])];simp [strB,obC,hle,z0]⟩
      ·have k2b:(x.kind == 2)=false:=by simpa using k2
       refine W_cT [1,3,4,5,6,7,8,9,98] (by simp [frG,esC,z0,k2,k2b,strB,zk9,bne];rfl) rfl ?_
       refine zq9 [1,3,4,5,6,7,8,9] (by simp [esC,strB,zk9];rfl) ?_
       refine zs9 [1,3,4,5,6,7,8] ?_
       refine xp9 2 (Nat.zero_le _) (by simp) (by simp [frG,yv9,AV.under,AV.underL]) (by simp [yc9,xl9,AObj.under,yv9,AV.under,AV.underL,zp9,zd9,esC,strB]) ?_
       refine zq9 [1,3,4,5,6,7,8] (by simp [wi1,strB,zk9,-Int.natCast_add];rfl) ?_
       exact ⟨_,by omega,j+1,vn9 c1 A x,rfl,by omega,hit,hr3',hr2',by rw [hfin x.id (by simp [z0,k2])];simp [strB,obC,hle,z0]⟩
     ·have z0b:(I0 == 0)=false:=by simpa using z0
      refine W_cF [1,3,4,5,6,7,8,9,98] (by simp [frG,esC,z0,z0b,strB,zk9,bne];rfl) rfl ?_
      refine yk9 ?_
      refine zs9 [1,3,4,5,6,7,8] ?_
      refine xp9 2 (Nat.zero_le _) (by simp) (by simp [frG,yv9,AV.under,AV.underL]) (by simp [yc9,xl9,AObj.under,yv9,AV.under,AV.underL,zp9,zd9,esC,strB]) ?_
      refine zq9 [1,3,4,5,6,7,8] (by simp [wi1,strB,zk9,-Int.natCast_add];rfl) ?_
      exact ⟨_,by omega,j+1,vn9 c1 A x,rfl,by omega,hit,hr3',hr2',by rw [hfin I0 (by simp [z0])];simp [strB,obC,hle,z0]⟩
    ·have hje : j = g.length := by omega
     rw [hje,List.drop_length,xv9] at hit
     subst hit
     have hnot:¬ (((i:Int)+(j:Int) < (i:Int)+3)∧((i:Int)+(j:Int) < l.length)):=by omega
     by_cases j3:(i:Int)+(j:Int) < (i:Int)+3
     ·have j4:¬ ((i:Int)+(j:Int) < l.length):=fun h=>hnot ⟨j3,h⟩
      refine W_cF [1,3,4,5,6,7,8,30] (by simp [frG,obC,hle,wi3,j3,j4];rfl) rfl ?_
      refine zs9 [1,3,4,5,6,7,8] ?_
      refine zj9 ?_
      refine ⟨hc1,?_⟩
      subst hje
      rw [List.take_length]
      simp [obC,strB,hle]
     ·refine W_cF [1,3,4,5,6,7,8,30] (by simp [frG,obC,hle,wi3,j3];rfl) rfl ?_
      refine zs9 [1,3,4,5,6,7,8] ?_
      refine zj9 ?_
      refine ⟨hc1,?_⟩
      subst hje
      rw [List.take_length]
      simp [obC,strB,hle]
   rintro _ ⟨hFl,rfl⟩
   have hp2:(putM F 10 (numM 2 (16 * g.length))).length=80:=by rw [zb9 _ _ _ (by rw [zc9];omega)];exact hFl
   refine W_rK [1,3,4,5,7] ?_
   refine yq9 2 (by simp [frG,strB,zk9];rfl) rfl ?_
   refine zr9 (f:=12) (args:=[.arr 1 0 80 (80+k),.v (.int .i64 (10:Nat)),.v (.int .i64 (2:Nat)),.v (.int .i64 (16 * g.length:Nat))]) (by simp) (by simp [yb9,zt9]) ((xb9 _ 1 (80+k) 10 2 (16 * g.length) F k (by simp) hFl (by omega) (by omega)).mono ?_)
   rintro _ _ ⟨rfl,rfl⟩
   refine ⟨_,by simp [strB,zk9];rfl,?_⟩
   refine yw9 (by simp [strB,zk9];rfl) ?_
   refine xh9 (fun σ=>σ=⟨114,[(1,.loc 0 0),(3,.lst (.tip 23 225) 1 (bbL acc)),(4,.v (.int .i64 (i:Nat))),(5,.arr 1 0 80 (80+k))],[.cells 33 (obC o),.cells 5 (zd9 (um9 g) k)]⟩) ?_ ?_
   ·obtain ⟨I, hI⟩ : ∃ I, yd8 g = I := ⟨_, rfl⟩
    rw [hI] at hcE ⊢
    by_cases p0:0 < I
    ·obtain ⟨n, hn⟩ : ∃ n : Nat, I = n := ⟨I.toNat, by omega⟩
     subst hn
     have hnb:n≤1000000:=by
      cases hfi:g.find? (fun x=>!decide (x.kind=2)) with
      | none=>simp [yd8,hfi] at hI;omega
      | some y =>
       simp only [yd8,hfi,Option.map_some,Option.getD_some] at hI
       have:=(hk y (hgm y (List.mem_of_find?_eq_some hfi))).i1
       omega
     have p0n:0 < n:=by omega
     refine W_cT [1,3,4,5,7,105] (by simp [p0,p0n,strB,zk9];rfl) rfl ?_
     refine W_rE [1,3,4,5] ?_
     refine yq9 2 (by simp [strB,zk9];rfl) rfl ?_
     refine zr9 (f:=12) (args:=[.arr 1 0 80 (80+k),.v (.int .i64 (14:Nat)),.v (.int .i64 (2:Nat)),.v (.int .i64 (n:Nat))]) (by simp) (by simp [yb9,zt9]) ((xb9 _ 1 (80+k) 14 2 n (putM F 10 (numM 2 (16 * g.length))) k (by simp) hp2 (by omega) (by omega)).mono ?_)
     rintro _ _ ⟨rfl,rfl⟩
     refine ⟨_,by simp [strB,zk9];rfl,?_⟩
     refine yw9 (by simp [strB,zk9];rfl) ?_
     rw [hcE]
     simp [obC,strB,hle,p0n]
    ·refine W_cF [1,3,4,5,7,105] (by simp [p0,strB,zk9];rfl) rfl ?_
     refine zs9 [1,3,4,5] ?_
     refine yk9 ?_
     rw [hcE]
     simp [obC,strB,hle,p0]
   rintro _ rfl
   have hq1:acc.length≤140737488355327:=by omega
   have hq2:(acc.length+1) * 24≤140737488355328:=by omega
   have happ:bbL acc++[.lst .any 1 (byL (um9 g))]=bbL (acc++[um9 g]):=by simp [wv9,qq9]
   have hcl:(um9 g).length=80:=by
    rw [hcE]
    simp only
    split
    ·rw [zb9 _ _ _ (by rw [zc9];omega)];exact hp2
    ·exact hp2
   obtain ⟨fo,hfo,hfz⟩:=qs8 (h:=[.cells 33 (obC o),.cells 5 (zd9 (um9 g) k)]) 1 80 (80+k) (um9 g) k rfl hcl
   refine xf6 5 rfl (by decide) hfz ?_
   obtain ⟨CE,hCE⟩:∃ C,um9 g=C:=⟨_,rfl⟩
   rw [hCE] at hgo happ hcl ⊢
   rcases hfo with rfl | rfl
   all_goals
    refine zq9 [1,3,4] (by simp [putF,yf9,catK,AV.cellsK,AV.kone,AV.koneL,hq1,hq2,strB,zk9,happ];rfl) ?_
    refine xp9 1 (Nat.zero_le _) (by simp) (by simp [yv9,AV.under,AV.underL]) (by simp [yc9,xl9,AObj.under,yv9,AV.under,AV.underL,zp9,zd9,esC,strB]) ?_
    refine zq9 [1,3,4] (by simp [w3,strB,zk9];rfl) ?_
    exact ⟨_,by omega,f',i+3,acc++[CE],.tip 23 225,rfl,by omega,by omega,by simpa using hgo,by simp only [List.length_append,List.length_cons,List.length_nil];omega,.inr ⟨by omega,rfl⟩,by simp [obC,strB,hle]⟩
 ·have hfl3:fl=.tip 23 225:=by
   rcases hfl with ⟨h0,_,_⟩ | ⟨_,h⟩
   ·omega
   ·exact h
  subst hfl3
  have cn:¬ ((i:Int) < l.length):=by omega
  rw [qr6 _ _ (by omega),List.append_nil] at hgo
  subst hgo
  refine yt9 [1,3,4,15] (by simp [obC,hle,cn];rfl) ?_
  refine yp9 rfl (fun h=>by simp [c] at h) (fun h=>?_)
  refine zj9 ?_
  refine yt9 [2] (by simp;rfl) ?_
  refine yn9 ?_
  repeat (first | refine yg9 ?_ | refine yh9 ?_)
  exact ⟨_,by simp [retQ];exact ⟨rfl,by simp⟩,.norm fun T=>by simp⟩
theorem jc4 (c:List UInt8) (i:Nat) (b:UInt8) (h:i < c.length):c.set i b=putM c i [b]:=by
 rw [putM,List.set_eq_take_append_cons_drop,if_pos h]
 simp
theorem yl3 (c:List UInt8) (a:Nat):putM c a []=c:=by simp [putM]
theorem vc4 (c:List UInt8) (a:Nat) (r:Rld) (h:a+8≤c.length):putM (putM (putM (putM c a (numM 2 r.to_.toNat)) (a+2) (numM 2 r.in_.toNat)) (a+4) (numM 1 (qk9 r))) (a+5) (numM 3 r.addr.toNat)=putM c a (jn9 r):=by
 have e1:=un7 c (numM 2 r.to_.toNat) (numM 2 r.in_.toNat) a (by simp;omega)
 simp only [zc9] at e1
 rw [e1]
 have e2:=un7 c (numM 2 r.to_.toNat++numM 2 r.in_.toNat) (numM 1 (qk9 r)) a (by simp;omega)
 simp only [zc9,List.length_append] at e2
 rw [e2]
 have e3:=un7 c (numM 2 r.to_.toNat++numM 2 r.in_.toNat++numM 1 (qk9 r)) (numM 3 r.addr.toNat) a (by simp;omega)
 simp only [zc9,List.length_append] at e3
 rw [e3,jn9]
 simp only [List.append_assoc]
theorem vk7 : ∀ (g : List Rld) (i : Nat) (c l : List UInt8) (a : Nat), a + l.length ≤ 16 → c.length = 80 → g.length + i ≤ 7 → ww9 g i (putM c a l) = putM (ww9 g i c) a l
 | [],i,c,l,a,h1,h2,h3=>by rw [ww9,ww9]
 | x :: g,i,c,l,a,h1,h2,h3=>by
  have hei:=kf7 x
  simp only [List.length_cons] at h3
  rw [ww9,ww9,yq5 _ _ _ _ _ (by omega) (by omega)]
  exact vk7 g (i+1) _ l a h1 (by rw [zb9 _ _ _ (by omega)];exact h2) (by omega)
theorem kg4 (g:List Rld) (hg:g.length≤7) (hl:(xm9 qr9).length=80):zm8 g=putM (ww9 g 0 (xm9 qr9)) 10 (numM 2 (8 * g.length)):=by
 rw [zm8,vk7 g 0 _ _ 10 (by simp) hl (by omega)]
theorem qb4 {l:List Rld} {f i:Nat} (h:i < l.length) (hf:l.length≤i+f):∃ f',f=f'+1∧egoR l f i=zm8 ((l.drop i).take 7) :: egoR l f' (i+7):=by
 obtain ⟨f',rfl⟩:∃ f',f=f'+1:=⟨f - 1,by omega⟩
 exact ⟨f',rfl,by rw [egoR,if_pos h]⟩
theorem obT (o:OMod):AV.toksL (obC o)=[]:=by simp [obC,AV.toksL,AV.toks,strB]
theorem rdT (r:Rld):AV.toksL (rdC r)=[]:=by simp [rdC,AV.toksL,AV.toks]
theorem txT (t:Txt):AV.toksL (txC t)=[]:=by simp [txC,AV.toksL,AV.toks]
theorem kd4:(xm9 qh9).length=80∧(xm9 qr9).length=80∧(xm9 vw9).length=80:=by decide +kernel
theorem jq5 (s:List UInt8):(zm9 s).length≤s.length:=yc6 s
theorem yh6 (l : List Esd) : ∀ (f i : Nat), (egoE l f i).length ≤ f
 | 0,i=>by simp [egoE]
 | f+1,i=>by
  rw [egoE]
  split
  ·have:=yh6 l f (i+3)
   simp
   omega
  ·simp
theorem kw9 (o:OMod) (hk:OOk o) (hid:∀ x∈o.esd,x.kind≠2→1≤x.id):Sound Tryz.prog 4 [obA o] (.lst .any 1 (bbL (encO o))):=by
 obtain ⟨hes,hts,hrs,hen,hne,hl1,hl2,hl3⟩:=hk
 have hsy:=zk6 o hes hne hl1 hid
 obtain ⟨E0,hE0⟩:∃ E,egoE o.esd o.esd.length 0=E:=⟨_,rfl⟩
 have hE0l:E0.length≤2048:=by rw [← hE0];have:=yh6 o.esd o.esd.length 0;omega
 obtain ⟨hcT,hcR,hcN⟩:=kd4
 rw [hE0] at hsy
 have henc:encO o=E0++(o.txt.map vf9++(egoR o.rld o.rld.length 0++[yt8 o.entry])):=by rw [encO,hE0]
 rw [henc]
 refine vm9 Tryz.func4 rfl (by decide +kernel) (by simp [Tryz.f4]) (by simp [AV.rfL,AV.rf,strB]) (by simp [AV.tlL,AV.tl,strB]) (rs:=[.tmp 2]) rfl ?_
 rw [show Tryz.f4.ntmps=144 from rfl]
 refine yt9 [1] (by simp;rfl) ?_
 refine W_rK [1,3] ?_
 refine yq9 1 (by simp [strB];rfl) rfl ?_
 refine yd9 (by simp) (by first | (simp;done) | (simp;rfl) | (simp [strB];done) | (simp [strB];rfl)) hsy (by simp;rfl) ?_
 refine yw9 (by simp [strB];rfl) ?_
 refine xh9 (fun σ=>σ=⟨144,[(1,.loc 0 0),(3,.lst (.tip 23 35) 1 (bbL (E0++o.txt.map vf9)))],[.cells 33 (obC o)]⟩) ?_ ?_
 ·refine yt9 [1, 3, 4] (by simp [strB]; rfl) ?_
  refine ys9 ?_
  refine zl9 (fun m σ=>∃ (i:Nat),m=o.txt.length - i∧i≤o.txt.length∧σ=⟨144,[(1,.loc 0 0),(3,.lst (.tip 23 35) 1 (bbL (E0++(o.txt.take i).map vf9))),(4,.v (.int .i64 (i:Nat)))],[.cells 33 (obC o)]⟩) (k:=o.txt.length) ⟨0,rfl,by omega,by simp [obC,strB]⟩ ?_
  rintro m σ ⟨i,rfl,hi,rfl⟩
  refine yl9 ?_
  obtain ⟨AC,hAC⟩:∃ A,E0++(o.txt.take i).map vf9=A:=⟨_,rfl⟩
  have hACl:AC.length≤5000:=by rw [← hAC];simp;omega
  by_cases c:i < o.txt.length
  ·have ci : (i : Int) < o.txt.length := by omega
   obtain ⟨x,hs⟩:∃ x,o.txt[i]?=some x:=⟨_,List.getElem?_eq_getElem c⟩
   have hs2:o.txt[i]'c=x:=by rw [List.getElem?_eq_getElem c] at hs;exact Option.some.inj hs
   have htk:o.txt.take (i+1)=o.txt.take i++[x]:=by rw [List.take_add_one,hs];rfl
   have hAC2:E0++(o.txt.take (i+1)).map vf9=AC++[vf9 x]:=by rw [htk,List.map_append,← List.append_assoc,hAC];rfl
   obtain ⟨t1,t2,t3,t4,t5,t6⟩:=hts x (List.mem_of_getElem? hs)
   have wi:=w64 (n:=(i:Int)+1) (by omega) (by omega)
   obtain ⟨ad,had⟩:∃ n:Nat,x.addr=n:=⟨x.addr.toNat,by omega⟩
   obtain ⟨ii,hii⟩:∃ n:Nat,x.id=n:=⟨x.id.toNat,by omega⟩
   rw [hAC]
   refine yt9 [1,3,4,22] (by simp [obC,strB,ci];rfl) ?_
   refine yp9 rfl (fun h=>?_) (fun h=>by simp [c] at h)
   refine yk9 ?_
   refine yl9 ?_
   refine ys9 ?_
   refine yt9 [1,3,4,5] (by simp [obC,strB,c,ci,hs2,yf9,AV.weakL,AV.weak,AV.koneL,AV.kone];rfl) ?_
   refine W_rK [1,3,4,5,6] ?_
   refine zr9 (f:=11) (args:=[strB qh9]) (by simp) (by simp [yb9,zt9,strB,qh9]) ((vt8 qh9 (by simp [qh9]) (by decide +kernel) (by decide +kernel) _).mono ?_)
   rintro _ _ ⟨k,rfl,rfl⟩
   refine ⟨_,by simp [strB,zk9,obT,rdT,txT];rfl,?_⟩
   refine yw9 (by simp [strB,zk9,obT,rdT,txT];rfl) ?_
   obtain ⟨c0,hc0⟩:∃ c,xm9 qh9=c:=⟨_,rfl⟩
   have hcT0:c0.length=80:=by rw [← hc0];exact hcT
   rw [hc0]
   refine W_rK [1,3,4,5,6] ?_
   refine yq9 3 (by simp [strB,zk9,obT,rdT,txT,had,hii];rfl) rfl ?_
   refine zr9 (f:=12) (args:=[.arr 2 0 80 (80+k),.v (.int .i64 (5:Nat)),.v (.int .i64 (3:Nat)),.v (.int .i64 (ad:Nat))]) (by simp) (by simp [yb9,zt9,had]) ((xb9 _ 2 (80+k) (5) 3 (ad) c0 k (by first | (simp;done) | (simp;rfl)) hcT0 (by omega) (by omega)).mono ?_)
   rintro _ _ ⟨rfl,rfl⟩
   refine ⟨_,by simp [strB,zk9,obT,rdT,txT];rfl,?_⟩
   refine yw9 (by simp [strB,zk9,obT,rdT,txT];rfl) ?_
   obtain ⟨c1,hc1⟩:∃ c,putM c0 5 (numM 3 ad)=c:=⟨_,rfl⟩
   have hc1l:c1.length=80:=by rw [← hc1,zb9 _ _ _ (by rw [zc9];omega)];exact hcT0
   rw [hc1]
   refine W_rK [1,3,4,5,6] ?_
   refine yq9 4 (by simp [strB,zk9,obT,rdT,txT,had,hii];rfl) rfl ?_
   refine zr9 (f:=12) (args:=[.arr 2 0 80 (80+k),.v (.int .i64 (10:Nat)),.v (.int .i64 (2:Nat)),.v (.int .i64 (x.data.length:Nat))]) (by simp) (by simp [yb9,zt9,had]) ((xb9 _ 2 (80+k) (10) 2 (x.data.length) c1 k (by first | (simp;done) | (simp;rfl)) hc1l (by omega) (by omega)).mono ?_)
   rintro _ _ ⟨rfl,rfl⟩
   refine ⟨_,by simp [strB,zk9,obT,rdT,txT];rfl,?_⟩
   refine yw9 (by simp [strB,zk9,obT,rdT,txT];rfl) ?_
   obtain ⟨c2,hc2⟩:∃ c,putM c1 10 (numM 2 x.data.length)=c:=⟨_,rfl⟩
   have hc2l:c2.length=80:=by rw [← hc2,zb9 _ _ _ (by rw [zc9];omega)];exact hc1l
   rw [hc2]
   refine W_rK [1,3,4,5,6] ?_
   refine yq9 3 (by simp [strB,zk9,obT,rdT,txT,had,hii];rfl) rfl ?_
   refine zr9 (f:=12) (args:=[.arr 2 0 80 (80+k),.v (.int .i64 (14:Nat)),.v (.int .i64 (2:Nat)),.v (.int .i64 (ii:Nat))]) (by simp) (by simp [yb9,zt9,hii]) ((xb9 _ 2 (80+k) (14) 2 (ii) c2 k (by first | (simp;done) | (simp;rfl)) hc2l (by omega) (by omega)).mono ?_)
   rintro _ _ ⟨rfl,rfl⟩
   refine ⟨_,by simp [strB,zk9,obT,rdT,txT];rfl,?_⟩
   refine yw9 (by simp [strB,zk9,obT,rdT,txT];rfl) ?_
   obtain ⟨c3,hc3⟩:∃ c,putM c2 14 (numM 2 ii)=c:=⟨_,rfl⟩
   have hc3l:c3.length=80:=by rw [← hc3,zb9 _ _ _ (by rw [zc9];omega)];exact hc2l
   rw [hc3]
   have hcardT:vf9 x=putM c3 16 x.data:=by rw [vf9,hc0,had,hii,Int.toNat_natCast,Int.toNat_natCast,hc1,hc2,hc3]
   refine xh9 (fun σ=>σ=⟨144,[(1,.loc 0 0),(3,.lst (.tip 23 35) 1 (bbL AC)),(4,.v (.int .i64 (i:Nat))),(6,.arr 2 0 80 (80+k))],[.cells 33 (obC o),.cells 42 (txC x),.cells 5 (zd9 (vf9 x) k)]⟩) ?_ ?_
   ·refine yt9 [1, 3, 4, 5, 6, 7] (by simp [strB, zk9, obT, rdT, txT]; rfl) ?_
    refine ys9 ?_
    refine zl9 (fun m σ=>∃ (j:Nat),m=x.data.length - j∧j≤x.data.length∧σ=⟨144,[(1,.loc 0 0),(3,.lst (.tip 23 35) 1 (bbL AC)),(4,.v (.int .i64 (i:Nat))),(5,.loc 1 0),(6,.arr 2 0 80 (80+k)),(7,.v (.int .i64 (j:Nat)))],[.cells 33 (obC o),.cells 42 (txC x),.cells 5 (zd9 (putM c3 16 (x.data.take j)) k)]⟩) (k:=x.data.length) ⟨0,rfl,by omega,by simp [obC,txC,strB,yl3,had,hii]⟩ ?_
    rintro m σ ⟨j,rfl,hj,rfl⟩
    refine yl9 ?_
    by_cases cj:j < x.data.length
    ·have cji : (j : Int) < x.data.length := by omega
     obtain ⟨b,hb⟩:∃ b,x.data[j]?=some b:=⟨_,List.getElem?_eq_getElem cj⟩
     have hb2:x.data[j]'cj=b:=by rw [List.getElem?_eq_getElem cj] at hb;exact Option.some.inj hb
     have htj:x.data.take (j+1)=x.data.take j++[b]:=by rw [List.take_add_one,hb];rfl
     have htl:(x.data.take j).length=j:=by simp;omega
     have wj:=w64 (n:=(j:Int)+1) (by omega) (by omega)
     obtain ⟨D,hD⟩:∃ D,16+j=D:=⟨_,rfl⟩
     have wd:IntKind.i64.wrap (16+(j:Int))=((D:Nat):Int):=by rw [w64 (by omega) (by omega)];omega
     have hDi:(D:Int) < 80:=by omega
     have hDn:D < 80:=by omega
     have hDk:D+1≤80+k:=by omega
     have hpl:(putM c3 16 (x.data.take j)).length=80:=by rw [zb9 _ _ _ (by rw [htl];omega)];exact hc3l
     have hst:yf9 (zd9 (putM c3 16 (x.data.take j)) k) D [.v (.int .u8 b.toNat)]=zd9 (putM c3 16 (x.data.take (j+1))) k:=by
      rw [zf8 _ _ _ _ (by omega),jc4 _ _ _ (by omega),htj,← un7 _ _ _ _ (by rw [htl];simp;omega),htl,hD]
     refine yt9 [1,3,4,5,6,7,48] (by simp [txC,strB,zk9,obT,rdT,txT,cji];rfl) ?_
     refine yp9 rfl (fun h=>?_) (fun h=>by simp [cj] at h)
     refine yk9 ?_
     refine yl9 ?_
     refine ys9 ?_
     refine zq9 [1,3,4,5,6,7] (by simp [txC,strB,zk9,obT,rdT,txT,xj9,hpl,cj,cji,hb2,wd,hDi,hDn,hDk,hst];rfl) ?_
     refine zq9 [1,3,4,5,6,7] (by simp [wj,strB,zk9,obT,rdT,txT];rfl) ?_
     exact ⟨_,by omega,j+1,rfl,by omega,by simp [obC,txC,strB]⟩
    ·have hje:j=x.data.length:=by omega
     have cn:¬ ((j:Int) < x.data.length):=by omega
     refine yt9 [1,3,4,5,6,7,48] (by simp [txC,strB,zk9,obT,rdT,txT,cn];rfl) ?_
     refine yp9 rfl (fun h=>by simp [hje] at h) (fun h=>?_)
     refine zs9 [1,3,4,6] ?_
     refine zj9 ?_
     rw [hje,List.take_length,← hcardT]
     simp [obC,txC,strB]
   rintro _ rfl
   have hcl:(vf9 x).length=80:=by rw [hcardT,zb9 _ _ _ (by omega)];exact hc3l
   have hq1:AC.length≤140737488355327:=by omega
   have hq2:(AC.length+1) * 24≤140737488355328:=by omega
   have happ:bbL AC++[.lst .any 1 (byL (vf9 x))]=bbL (AC++[vf9 x]):=by simp [wv9,qq9]
   obtain ⟨fo,hfo,hfz⟩:=qs8 (h:=[.cells 33 (obC o),.cells 42 (txC x),.cells 5 (zd9 (vf9 x) k)]) 2 80 (80+k) (vf9 x) k rfl hcl
   refine xf6 6 rfl (by decide) hfz ?_
   obtain ⟨CE,hCE⟩:∃ C,vf9 x=C:=⟨_,rfl⟩
   rw [hCE] at hAC2 happ hcl ⊢
   rcases hfo with rfl | rfl
   all_goals
    refine zq9 [1,3,4] (by simp [putF,yf9,catK,AV.cellsK,AV.kone,AV.koneL,hq1,hq2,strB,zk9,obT,rdT,txT,happ];rfl) ?_
    refine xp9 1 (Nat.zero_le _) (by simp) (by simp [yv9,AV.under,AV.underL]) (by simp [yc9,xl9,AObj.under,yv9,AV.under,AV.underL,zp9,zd9,txC,rdC,strB]) ?_
    refine zq9 [1,3,4] (by simp [wi,strB,zk9,obT,rdT,txT];rfl) ?_
    exact ⟨_,by omega,i+1,rfl,by omega,by rw [hAC2];simp [obC,strB]⟩
  ·have hie:i=o.txt.length:=by omega
   have cn:¬ ((i:Int) < o.txt.length):=by omega
   rw [hie,List.take_length] at hAC ⊢
   refine W_cF [1,3,4,22] (by simp [obC,strB];rfl) rfl ?_
   refine zs9 [1,3] ?_
   refine zj9 ?_
   simp [obC,strB]
 rintro _ rfl
 obtain ⟨E1,hE1⟩:∃ E,E0++o.txt.map vf9=E:=⟨_,rfl⟩
 have hE1l:E1.length≤5000:=by rw [← hE1];simp;omega
 have henc2:E0++(o.txt.map vf9++(egoR o.rld o.rld.length 0++[yt8 o.entry]))=E1++egoR o.rld o.rld.length 0++[yt8 o.entry]:=by rw [← hE1];simp
 rw [henc2,hE1]
 obtain ⟨R0,hR0⟩:∃ R,E1++egoR o.rld o.rld.length 0=R:=⟨_,rfl⟩
 rw [hR0]
 refine xh9 (fun σ=>R0.length≤20000∧σ=⟨144,[(1,.loc 0 0),(3,.lst (.tip 23 35) 1 (bbL R0))],[.cells 33 (obC o)]⟩) ?_ ?_
 ·refine yt9 [1, 3, 8] (by simp [strB]; rfl) ?_
  refine ys9 ?_
  refine zl9 (fun m σ => ∃ (f i : Nat) (acc : List (List UInt8)), m = o.rld.length + 7 - i ∧ i ≤ o.rld.length + 6 ∧ o.rld.length ≤ i + f ∧ acc ++ egoR o.rld f i = R0 ∧ acc.length ≤ 5000 + i ∧
   σ=⟨144,[(1,.loc 0 0),(3,.lst (.tip 23 35) 1 (bbL acc)),(8,.v (.int .i64 (i:Nat)))],[.cells 33 (obC o)]⟩) (k:=o.rld.length+7) ⟨o.rld.length,0,E1,by omega,by omega,by omega,hR0,by omega,by simp [obC,strB]⟩ ?_
  rintro m σ ⟨f,i,acc,rfl,hi,hf,hgo,hacc,rfl⟩
  refine yl9 ?_
  obtain ⟨l,hle⟩:∃ l,o.rld=l:=⟨_,rfl⟩
  rw [hle] at hi hf hgo hl3 hrs
  by_cases c:i < l.length
  ·have ci : (i : Int) < l.length := by omega
   obtain ⟨f',rfl,hes2⟩:=qb4 c hf
   rw [hes2] at hgo
   obtain ⟨g,hg⟩:∃ g,(l.drop i).take 7=g:=⟨_,rfl⟩
   have hgl:g.length=min 7 (l.length - i):=by rw [← hg];simp
   have hgl3:g.length≤7:=by omega
   have hgget:∀ j,j < g.length→g[j]?=l[i+j]?:=fun j hj=>by rw [← hg,List.getElem?_take,if_pos (by omega),List.getElem?_drop]
   have hcE:=kg4 g hgl3 hcR
   rw [hg] at hgo
   have w3:=w64 (n:=(i:Int)+7) (by omega) (by omega)
   have wi3:IntKind.i64.wrap ((i:Int)+7)=(i:Int)+7:=w3
   refine yt9 [1,3,8,68] (by simp [obC,hle,ci,strB];rfl) ?_
   refine yp9 rfl (fun h=>?_) (fun h=>by simp [c] at h)
   refine yk9 ?_
   refine yl9 ?_
   refine ys9 ?_
   refine W_rK [1,3,8,9] ?_
   refine zr9 (f:=11) (args:=[strB qr9]) (by simp) (by simp [yb9,zt9,strB,qr9]) ((vt8 qr9 (by simp [qr9]) (by decide +kernel) (by decide +kernel) _).mono ?_)
   rintro _ _ ⟨k,rfl,rfl⟩
   refine ⟨_,by simp [strB,zk9,obT,rdT,txT];rfl,?_⟩
   refine yw9 (by simp [strB,zk9,obT,rdT,txT];rfl) ?_
   obtain ⟨F,hF⟩:∃ F,ww9 g 0 (xm9 qr9)=F:=⟨_,rfl⟩
   rw [hF] at hcE
   obtain ⟨c0,hc0⟩:∃ c,xm9 qr9=c:=⟨_,rfl⟩
   have hcl0:c0.length=80:=by rw [← hc0];exact hcR
   rw [hc0] at hF ⊢
   refine yt9 [1,3,8,9,10] (by simp [strB,zk9,obT,rdT,txT];rfl) ?_
   refine xh9 (fun σ=>F.length=80∧σ=⟨144,[(1,.loc 0 0),(3,.lst (.tip 23 35) 1 (bbL acc)),(8,.v (.int .i64 (i:Nat))),(9,.arr 1 0 80 (80+k)),(10,.v (.int .i64 (8 * g.length:Nat)))],[.cells 33 (obC o),.cells 5 (zd9 F k)]⟩) ?_ ?_
   ·refine yt9 [1, 3, 8, 9, 10, 11] (by simp [strB, zk9, obT, rdT, txT]; rfl) ?_
    refine ys9 ?_
    refine zl9 (fun m σ => ∃ (j : Nat) (c : List UInt8), m = g.length - j ∧ j ≤ g.length ∧ ww9 (g.drop j) j c = F ∧ c.length = 80 ∧
     σ=⟨144,[(1,.loc 0 0),(3,.lst (.tip 23 35) 1 (bbL acc)),(8,.v (.int .i64 (i:Nat))),(9,.arr 1 0 80 (80+k)),(10,.v (.int .i64 (8 * j:Nat))),(11,.v (.int .i64 (i+j:Nat)))],[.cells 33 (obC o),.cells 5 (zd9 c k)]⟩) (k:=g.length) ⟨0,c0,rfl,by omega,hF,hcl0,by simp [obC,strB,hle]⟩ ?_
    rintro m σ ⟨j,c1,rfl,hj,hit,hc1,rfl⟩
    refine yl9 ?_
    by_cases cj:j < g.length
    ·obtain ⟨x, hs⟩ : ∃ x, g[j]? = some x := ⟨_, List.getElem?_eq_getElem cj⟩
     have hs2:g[j]'cj=x:=by rw [List.getElem?_eq_getElem cj] at hs;exact Option.some.inj hs
     have hdr:g.drop j=x :: g.drop (j+1):=vt9 cj hs2
     have hli:l[i+j]?=some x:=by rw [← hgget j cj];exact hs
     have hil:i+j < l.length:=(List.getElem?_eq_some_iff.1 hli).1
     have hil2:l[i+j]'hil=x:=by rw [List.getElem?_eq_getElem hil] at hli;exact Option.some.inj hli
     have hil3:((i:Int)+(j:Int)) < l.length:=by omega
     have hil4:((i:Int)+(j:Int)) < (i:Int)+7:=by omega
     have hil5:(0:Int)≤(i:Int)+(j:Int):=by omega
     have hil6:((i:Int)+(j:Int)).toNat=i+j:=by omega
     obtain ⟨e1,e2,e3,e4,e5,e6,e7,e8⟩:=hrs x (List.mem_of_getElem? hli)
     have wj2:IntKind.i64.wrap ((j:Int))=j:=w64 (by omega) (by omega)
     have wj3:IntKind.i64.wrap (8 * (j:Int))=8 * (j:Int):=w64 (by omega) (by omega)
     have wj4:IntKind.i64.wrap (16+8 * (j:Int))=((16+8 * j:Nat):Int):=by rw [w64 (by omega) (by omega)];omega
     have wsub:(i:Int)+(j:Int) - (i:Int)=j:=by omega
     have w16:IntKind.i64.wrap (8 * (j:Int)+8)=((8 * (j+1):Nat):Int):=by rw [w64 (by omega) (by omega)];omega
     have wi1:IntKind.i64.wrap ((i:Int)+(j:Int)+1)=((i+(j+1):Nat):Int):=by rw [w64 (by omega) (by omega)];omega
     rw [hdr,ww9] at hit
     obtain ⟨A,hA⟩:∃ A,16+8 * j=A:=⟨_,rfl⟩
     have hA64:A+8≤80:=by omega
     rw [hA] at hit wj4
     have hput:=vc4 c1 A x (by omega)
     have wa2:IntKind.i64.wrap ((A:Int)+2)=((A+2:Nat):Int):=by rw [w64 (by omega) (by omega)];omega
     have wa4:IntKind.i64.wrap ((A:Int)+4)=((A+4:Nat):Int):=by rw [w64 (by omega) (by omega)];omega
     have wa5:IntKind.i64.wrap ((A:Int)+5)=((A+5:Nat):Int):=by rw [w64 (by omega) (by omega)];omega
     obtain ⟨A2,hA2⟩:∃ n,A+2=n:=⟨_,rfl⟩
     obtain ⟨A4,hA4⟩:∃ n,A+4=n:=⟨_,rfl⟩
     obtain ⟨A5,hA5⟩:∃ n,A+5=n:=⟨_,rfl⟩
     rw [hA2] at wa2
     rw [hA4] at wa4
     rw [hA5] at wa5
     rw [hA2,hA4,hA5] at hput
     obtain ⟨to,hto⟩:∃ n:Nat,x.to_=n:=⟨x.to_.toNat,by omega⟩
     obtain ⟨nn,hin⟩:∃ n:Nat,x.in_=n:=⟨x.in_.toNat,by omega⟩
     obtain ⟨ad,had⟩:∃ n:Nat,x.addr=n:=⟨x.addr.toNat,by omega⟩
     obtain ⟨ln,hln⟩:∃ n:Nat,x.len=n:=⟨x.len.toNat,by omega⟩
     have wl1:IntKind.i64.wrap ((ln:Int) - 1)=(ln:Int) - 1:=w64 (by omega) (by omega)
     have wl4:IntKind.i64.wrap (4 * ((ln:Int) - 1))=((4 * (ln - 1):Nat):Int):=by rw [w64 (by omega) (by omega)];omega
     obtain ⟨L4,hL4⟩:∃ n,4 * (ln - 1)=n:=⟨_,rfl⟩
     rw [hL4] at wl4
     have wl2:IntKind.i64.wrap ((L4:Int)+2)=((L4+2:Nat):Int):=by rw [w64 (by omega) (by omega)];omega
     have hflag:qk9 x=L4+if x.neg=true then 2 else 0:=by rw [qk9,hln,Int.toNat_natCast,hL4]
     rw [hto,hin,had,Int.toNat_natCast,Int.toNat_natCast,Int.toNat_natCast] at hput
     refine W_cT [1,3,8,9,10,11,83] (by simp [obC,hle,wi3,hil3,hil4,strB,zk9,obT,rdT,txT];rfl) rfl ?_
     refine yk9 ?_
     refine yl9 ?_
     refine ys9 ?_
     refine W_rK [1,3,8,9,10,11,12,13] ?_
     refine yq9 6 (by simp [obC,hle,hil,hil2,hil3,hil5,hil6,strB,zk9,obT,rdT,txT];rfl) rfl ?_
     refine yw9 (by simp [obC,hle,wsub,wj2,wj3,wj4,yf9,AV.weakL,AV.weak,AV.koneL,AV.kone,strB,zk9,obT,rdT,txT];rfl) ?_
     refine yt9 [1,3,8,9,10,11,12,13] (by simp [w16,strB,zk9,obT,rdT,txT,-Int.natCast_add,-Int.natCast_mul];rfl) ?_
     refine W_rK [1,3,8,9,10,11,12,13] ?_
     refine yq9 4 (by simp [strB,zk9,obT,rdT,txT,hto];rfl) rfl ?_
     refine zr9 (f:=12) (args:=[.arr 1 0 80 (80+k),.v (.int .i64 (A:Nat)),.v (.int .i64 (2:Nat)),.v (.int .i64 (to:Nat))]) (by simp) (by simp [yb9,zt9,hto]) ((xb9 _ 1 (80+k) (A) 2 (to) c1 k (by first | (simp;done) | (simp;rfl)) hc1 (by omega) (by omega)).mono ?_)
     rintro _ _ ⟨rfl,rfl⟩
     refine ⟨_,by simp [strB,zk9,obT,rdT,txT];rfl,?_⟩
     refine yw9 (by simp [strB,zk9,obT,rdT,txT];rfl) ?_
     obtain ⟨c2,hc2⟩:∃ c,putM c1 A (numM 2 to)=c:=⟨_,rfl⟩
     have hc2l:c2.length=80:=by rw [← hc2,zb9 _ _ _ (by rw [zc9];omega)];exact hc1
     rw [hc2] at hput ⊢
     refine W_rK [1,3,8,9,10,11,12,13] ?_
     refine yq9 5 (by simp [strB,zk9,obT,rdT,txT,hin,wa2];rfl) rfl ?_
     refine zr9 (f:=12) (args:=[.arr 1 0 80 (80+k),.v (.int .i64 (A2:Nat)),.v (.int .i64 (2:Nat)),.v (.int .i64 (nn:Nat))]) (by simp) (by simp [yb9,zt9,hin]) ((xb9 _ 1 (80+k) (A2) 2 (nn) c2 k (by first | (simp;done) | (simp;rfl)) hc2l (by omega) (by omega)).mono ?_)
     rintro _ _ ⟨rfl,rfl⟩
     refine ⟨_,by simp [strB,zk9,obT,rdT,txT];rfl,?_⟩
     refine yw9 (by simp [strB,zk9,obT,rdT,txT];rfl) ?_
     obtain ⟨c3,hc3⟩:∃ c,putM c2 A2 (numM 2 nn)=c:=⟨_,rfl⟩
     have hc3l:c3.length=80:=by rw [← hc3,zb9 _ _ _ (by rw [zc9];omega)];exact hc2l
     rw [hc3] at hput ⊢
     obtain ⟨fg,hfg⟩:∃ n,qk9 x=n:=⟨_,rfl⟩
     rw [hfg] at hput hflag
     refine yt9 [1,3,8,9,10,11,12,13,14] (by simp [hln,wl1,wl4,strB,zk9,obT,rdT,txT,-Int.natCast_add,-Int.natCast_mul];rfl) ?_
     refine xh9 (fun σ=>σ=⟨144,[(1,.loc 0 0),(3,.lst (.tip 23 35) 1 (bbL acc)),(8,.v (.int .i64 (i:Nat))),(9,.arr 1 0 80 (80+k)),(10,.v (.int .i64 (8 * (j+1):Nat))),(11,.v (.int .i64 (i+j:Nat)))]++[(12,.loc 2 0),(13,.v (.int .i64 (A:Nat))),(14,.v (.int .i64 (fg:Nat)))],[.cells 33 (obC o),.cells 5 (zd9 c3 k),.cells 46 (rdC x)]⟩) ?_ ?_
     ·cases hng:x.neg with
      | true =>
       rw [hng,if_pos rfl] at hflag
       refine W_cT [1,3,8,9,10,11,12,13,14,114] (by simp [hng,strB,zk9,obT,rdT,txT];rfl) rfl ?_
       refine zq9 [1,3,8,9,10,11,12,13,14] (by simp [wl2,strB,zk9,obT,rdT,txT,-Int.natCast_add];rfl) ?_
       simp [hflag,obC,rdC,strB,hle,hng,hto,hin,hln,had]
      | false =>
       rw [hng,if_neg (by simp),Nat.add_zero] at hflag
       refine W_cF [1,3,8,9,10,11,12,13,14,114] (by simp [hng,strB,zk9,obT,rdT,txT];rfl) rfl ?_
       refine zs9 [1,3,8,9,10,11,12,13,14] ?_
       refine yk9 ?_
       simp [hflag,obC,rdC,strB,hle,hng,hto,hin,hln,had]
     rintro _ rfl
     have hfgb:fg≤100:=by split at hflag <;> omega
     refine W_rK [1,3,8,9,10,11,12,13] ?_
     refine yq9 4 (by simp [strB,zk9,obT,rdT,txT,wa4];rfl) rfl ?_
     refine zr9 (f:=12) (args:=[.arr 1 0 80 (80+k),.v (.int .i64 (A4:Nat)),.v (.int .i64 (1:Nat)),.v (.int .i64 (fg:Nat))]) (by simp) (by simp [yb9,zt9,wa4]) ((xb9 _ 1 (80+k) (A4) 1 (fg) c3 k (by first | (simp;done) | (simp;rfl)) hc3l (by omega) (by omega)).mono ?_)
     rintro _ _ ⟨rfl,rfl⟩
     refine ⟨_,by simp [strB,zk9,obT,rdT,txT];rfl,?_⟩
     refine yw9 (by simp [strB,zk9,obT,rdT,txT];rfl) ?_
     obtain ⟨c4,hc4⟩:∃ c,putM c3 A4 (numM 1 fg)=c:=⟨_,rfl⟩
     have hc4l:c4.length=80:=by rw [← hc4,zb9 _ _ _ (by rw [zc9];omega)];exact hc3l
     rw [hc4] at hput ⊢
     refine W_rE [1,3,8,9,10,11] ?_
     refine yq9 5 (by simp [strB,zk9,obT,rdT,txT,rdC,had,wa5];rfl) rfl ?_
     refine zr9 (f:=12) (args:=[.arr 1 0 80 (80+k),.v (.int .i64 (A5:Nat)),.v (.int .i64 (3:Nat)),.v (.int .i64 (ad:Nat))]) (by simp) (by simp [yb9,zt9,had]) ((xb9 _ 1 (80+k) (A5) 3 (ad) c4 k (by first | (simp;done) | (simp;rfl)) hc4l (by omega) (by omega)).mono ?_)
     rintro _ _ ⟨rfl,rfl⟩
     refine ⟨_,by simp [strB,zk9,obT,rdT,txT];rfl,?_⟩
     refine yw9 (by simp [strB,zk9,obT,rdT,txT];rfl) ?_
     rw [hput]
     refine xp9 2 (Nat.zero_le _) (by simp) (by simp [yv9,AV.under,AV.underL]) (by simp [yc9,xl9,AObj.under,yv9,AV.under,AV.underL,zp9,zd9,txC,rdC,strB]) ?_
     refine zq9 [1,3,8,9,10,11] (by simp [wi1,strB,zk9,obT,rdT,txT,-Int.natCast_add];rfl) ?_
     exact ⟨_,by omega,j+1,putM c1 A (jn9 x),rfl,by omega,hit,by rw [zb9 _ _ _ (by rw [kf7];omega)];exact hc1,by simp [strB,obC,hle]⟩
    ·have hje : j = g.length := by omega
     rw [hje,List.drop_length,ww9] at hit
     subst hit
     have hnot:¬ (((i:Int)+(j:Int) < (i:Int)+7)∧((i:Int)+(j:Int) < l.length)):=by omega
     by_cases j3:(i:Int)+(j:Int) < (i:Int)+7
     ·have j4:¬ ((i:Int)+(j:Int) < l.length):=fun h=>hnot ⟨j3,h⟩
      refine W_cF [1,3,8,9,10,11,83] (by simp [obC,hle,wi3,strB,zk9,obT,rdT,txT,j3,j4];rfl) rfl ?_
      refine zs9 [1,3,8,9,10] ?_
      refine zj9 ?_
      refine ⟨hc1,?_⟩
      subst hje
      simp [obC,strB,hle]
     ·refine W_cF [1,3,8,9,10,11,83] (by simp [obC,hle,wi3,strB,zk9,obT,rdT,txT,j3];rfl) rfl ?_
      refine zs9 [1,3,8,9,10] ?_
      refine zj9 ?_
      refine ⟨hc1,?_⟩
      subst hje
      simp [obC,strB,hle]
   rintro _ ⟨hFl,rfl⟩
   refine W_rK [1,3,8,9] ?_
   refine yq9 2 (by simp [strB,zk9,obT,rdT,txT];rfl) rfl ?_
   refine zr9 (f:=12) (args:=[.arr 1 0 80 (80+k),.v (.int .i64 (10:Nat)),.v (.int .i64 (2:Nat)),.v (.int .i64 (8 * g.length:Nat))]) (by simp) (by simp [yb9,zt9,wi3]) ((xb9 _ 1 (80+k) (10) 2 (8 * g.length) F k (by first | (simp;done) | (simp;rfl)) hFl (by omega) (by omega)).mono ?_)
   rintro _ _ ⟨rfl,rfl⟩
   refine ⟨_,by simp [strB,zk9,obT,rdT,txT];rfl,?_⟩
   refine yw9 (by simp [strB,zk9,obT,rdT,txT];rfl) ?_
   rw [← hcE]
   have hcl:(zm8 g).length=80:=by rw [hcE,zb9 _ _ _ (by rw [zc9];omega)];exact hFl
   have hq1:acc.length≤140737488355327:=by omega
   have hq2:(acc.length+1) * 24≤140737488355328:=by omega
   have happ:bbL acc++[.lst .any 1 (byL (zm8 g))]=bbL (acc++[zm8 g]):=by simp [wv9,qq9]
   obtain ⟨CE,hCE⟩:∃ C,zm8 g=C:=⟨_,rfl⟩
   rw [hCE] at hgo happ hcl ⊢
   have hob:[AV.lst .any 5 (esL o.esd),.lst .any 3 (txL o.txt),.lst .any 5 (rdL l),.v (.string ⟨o.entry.toArray⟩)]=obC o:=by simp [obC,strB,hle]
   first | rw [hob] | skip
   obtain ⟨fo,hfo,hfz⟩:=qs8 (h:=[.cells 33 (obC o),.cells 5 (zd9 CE k)]) 1 80 (80+k) CE k rfl hcl
   refine xf6 9 rfl (by decide) hfz ?_
   rcases hfo with rfl | rfl
   all_goals
    refine zq9 [1,3,8] (by simp [putF,yf9,catK,AV.cellsK,AV.kone,AV.koneL,hq1,hq2,strB,zk9,obT,rdT,txT,happ];rfl) ?_
    refine xp9 1 (Nat.zero_le _) (by simp) (by simp [yv9,AV.under,AV.underL]) (by simp [yc9,xl9,AObj.under,yv9,AV.under,AV.underL,zp9,zd9,txC,rdC,strB]) ?_
    refine zq9 [1,3,8] (by simp [w3,strB,zk9,obT,rdT,txT];rfl) ?_
    rw [← hle] at hgo hf hi c
    exact ⟨_,by omega,f',i+7,acc++[CE],rfl,by omega,by omega,by simpa using hgo,by simp only [List.length_append,List.length_cons,List.length_nil];omega,by simp [obC,strB,hle]⟩
  ·have cn:¬ ((i:Int) < l.length):=by omega
   rw [qw6 _ _ (by omega),List.append_nil] at hgo
   subst hgo
   refine yt9 [1,3,8,68] (by simp [obC,hle,cn,strB];rfl) ?_
   refine yp9 rfl (fun h=>by simp [c] at h) (fun h=>?_)
   refine zs9 [1,3] ?_
   refine zj9 ?_
   exact ⟨by omega,by simp [obC,strB,hle]⟩
 rintro _ ⟨hR0l,rfl⟩
 refine W_rK [1,3,15] ?_
 refine zr9 (f:=11) (args:=[strB vw9]) (by simp) (by simp [yb9,zt9,strB,vw9]) ((vt8 vw9 (by simp [vw9]) (by decide +kernel) (by decide +kernel) _).mono ?_)
 rintro _ _ ⟨k,rfl,rfl⟩
 refine ⟨_,by simp [strB,zk9,obT,rdT,txT];rfl,?_⟩
 refine yw9 (by simp [strB,zk9,obT,rdT,txT];rfl) ?_
 have hcl:(yt8 o.entry).length=80:=by rw [yt8,zb9 _ _ _ (by have:=jq5 o.entry;omega)];exact hcN
 refine W_rK [3,15] ?_
 refine yq9 3 (by simp [obC,strB,zk9,obT,rdT,txT];rfl) rfl ?_
 refine zr9 (f:=13) (args:=[.arr 1 0 80 (80+k),.v (.int .i64 (16:Nat)),strB o.entry]) (by simp) (by simp [yb9,zt9,strB]) ((xm7 _ 1 (80+k) 16 o.entry (xm9 vw9) k (by simp) hcN (by omega) (by have:=jq5 o.entry;omega)).mono ?_)
 rintro _ _ ⟨rfl,rfl⟩
 refine ⟨_,by simp [strB,zk9,obT,rdT,txT];rfl,?_⟩
 refine yw9 (by simp [strB,zk9,obT,rdT,txT];rfl) ?_
 rw [show putM (xm9 vw9) 16 (zm9 o.entry)=yt8 o.entry from rfl]
 have hq1:R0.length≤140737488355327:=by omega
 have hq2:(R0.length+1) * 24≤140737488355328:=by omega
 have happ:bbL R0++[.lst .any 1 (byL (yt8 o.entry))]=bbL (R0++[yt8 o.entry]):=by simp [wv9,qq9]
 obtain ⟨CE,hCE⟩:∃ C,yt8 o.entry=C:=⟨_,rfl⟩
 rw [hCE] at happ hcl ⊢
 have hob:[AV.lst .any 5 (esL o.esd),.lst .any 3 (txL o.txt),.lst .any 5 (rdL o.rld),.v (.string ⟨o.entry.toArray⟩)]=obC o:=by simp [obC,strB]
 first | rw [hob] | skip
 obtain ⟨fo,hfo,hfz⟩:=qs8 (h:=[.cells 33 (obC o),.cells 5 (zd9 CE k)]) 1 80 (80+k) CE k rfl hcl
 refine xf6 15 rfl (by decide) hfz ?_
 rcases hfo with rfl | rfl
 all_goals
  refine yt9 [2] (by simp [putF,yf9,catK,AV.cellsK,AV.kone,AV.koneL,hq1,hq2,strB,zk9,obT,rdT,txT,happ];rfl) ?_
  refine yn9 ?_
  repeat (first | refine yg9 ?_ | refine yh9 ?_)
  exact ⟨_,by simp [retQ];exact ⟨rfl,by simp⟩,.inr (by simp)⟩
end Go.AM
