/- Parts of the walk: C24PA R31I C24B0 C24B C24C C24PB R31L R23G R23H. -/
import Derived.Lib.BytesEntry
import Derived.Test.YthjcnajpcphcpaaGreatG4
namespace Go.AM
open Go.RowKit Go.Proofs
set_option linter.unusedSimpArgs false
set_option linter.unusedVariables false
set_option maxHeartbeats 8000000
structure RE where
 key:List UInt8
 trk:Nat
 rn:Nat
 deriving DecidableEq
def padK (s:List UInt8):List UInt8:=enc1 s++List.replicate (8 - s.length) 64
def uw8 (d:List UInt8) (a:Nat):RE:=⟨(d.drop a).take 8,256 * (d.getD (a+8) 0).toNat+(d.getD (a+9) 0).toNat,(d.getD (a+10) 0).toNat⟩
def limE (d:List UInt8):Nat:=min (256 * (d.getD 0 0).toNat+(d.getD 1 0).toNat) d.length
def zk8 (d:List UInt8):List RE:=(List.range ((limE d - 2) / 12)).map fun i=>uw8 d (2+12 * i)
def ogoE : Option (List UInt8) → List RE → Bool
 | _,[]=>true
 | p,e :: l=>symM (nmM e.key)&&((match p with | none=>true | some k=>Op.bytesLess k e.key)&&ogoE (some e.key) l)
def ordE (l:List RE):Bool:=ogoE none l
def zn7 (l:List RE) (n:Nat):List RE:=(l.drop (21 * n)).take 21
def entB (e:RE):List UInt8:=e.key++[UInt8.ofNat (e.trk / 256),UInt8.ofNat e.trk,UInt8.ofNat e.rn,0]
def kl9 (p:List RE):List UInt8:=(p.map entB).flatten
def dataE (p:List RE):List UInt8:=[0,UInt8.ofNat (2+12 * p.length)]++kl9 p++List.replicate (254 - 12 * p.length) 0
def ffL:List UInt8:=[255,255,255,255,255,255,255,255]
def keyE (l:List RE) (n:Nat):List UInt8:=if 21 * n+21 < l.length then (l.getD (21 * n+20) ⟨[],0,0⟩).key else ffL
def blkE (l:List RE) (n:Nat):Rec:=⟨((n % 6+1:Nat):Int),keyE l n,dataE (zn7 l n),false⟩
def layG (l:List RE) (i:Nat):List (List Rec):=(List.range ((i+5) / 6)).map fun j=>(((List.range i).drop (6 * j)).take 6).map (blkE l)
def us9 (t:List Rec):Bool:=t.any fun r=>decide (r.key.length=8)
def dirT (t:List (List Rec)):List (List Rec):=t.takeWhile us9
def rawE (rs:List Rec):List RE:=(rs.map fun r=>zk8 r.data).flatten
def uq9 (t:List (List Rec)):Option (List RE × Nat) :=
 if (∀ r ∈ (dirT t).flatten, r.data.length = 256) ∧ 1 ≤ (dirT t).flatten.length ∧ (dirT t).flatten.length ≤ 64 ∧ ((dirT t).flatten.length + 5) / 6 = (dirT t).length ∧
   ordE (rawE (dirT t).flatten)=true∧layG (rawE (dirT t).flatten) (dirT t).flatten.length=dirT t
 then some (rawE (dirT t).flatten,(dirT t).flatten.length) else none
theorem uf8 (l:List UInt8):∃ k,l=kh9 l++List.replicate k 64:=by
 have h:=List.takeWhile_append_dropWhile (p:=(· == (64:UInt8))) (l:=l.reverse)
 have ht:∀ x∈l.reverse.takeWhile (· == (64:UInt8)),x=64:=by
  intro x hx
  have:=List.all_eq_true.1 (List.all_takeWhile (p:=(· == (64:UInt8))) (l:=l.reverse)) x hx
  simpa using this
 refine ⟨(l.reverse.takeWhile (· == (64:UInt8))).length,?_⟩
 have h2:=congrArg List.reverse h
 rw [List.reverse_append,List.reverse_reverse] at h2
 rw [kh9]
 refine h2.symm.trans ?_
 congr 1
 rw [List.eq_replicate_iff.2 ⟨rfl,ht⟩,List.reverse_replicate,List.length_replicate]
theorem okB_dec (b:UInt8) (h:okB (dec1 b)=true):(cdM (dec1 b)).1=b:=by
 have:∀ n:Nat,n < 256→okB (dec1 (UInt8.ofNat n))=true→(cdM (dec1 (UInt8.ofNat n))).1=UInt8.ofNat n:=by decide +kernel
 have hh:=this b.toNat b.toNat_lt
 rw [UInt8.ofNat_toNat] at hh
 exact hh h
theorem un9 {s:List UInt8} (h:symM s=true):s.all okB=true∧1≤s.length∧s.length≤8:=by
 simp only [symM,Bool.and_eq_true,decide_eq_true_eq] at h
 exact ⟨h.2.2.2,h.1,h.2.1⟩
theorem us6 {k:List UInt8} (hk:k.length=8) (h:symM (nmM k)=true):padK (nmM k)=k:=by
 obtain ⟨ha,h1,h8⟩:=un9 h
 obtain ⟨n,hn⟩:=uf8 k
 have e1:enc1 (nmM k)=kh9 k:=by
  rw [nmM,decM,enc1,List.map_map]
  conv=>rhs;rw [← List.map_id (kh9 k)]
  apply List.map_congr_left
  intro b hb
  refine okB_dec b (List.all_eq_true.1 ha _ ?_)
  rw [nmM,decM]
  exact List.mem_map.2 ⟨b,hb,rfl⟩
 have e2:(nmM k).length=(kh9 k).length:=by rw [nmM,decM,List.length_map]
 have e3:k.length=(kh9 k).length+n:=by
  conv=>lhs;rw [hn]
  simp
 rw [padK,e1,e2,show 8 - (kh9 k).length=n by omega]
 exact hn.symm
theorem nmM_padK {s:List UInt8} (h:symM s=true):nmM (padK s)=s:=by
 exact nmM_enc (un9 h).1 (8 - s.length)
theorem zt8 {s:List UInt8} (h:s.length≤8):(padK s).length=8:=by
 rw [padK,List.length_append,yj7,List.length_replicate]
 omega
theorem yw8:∀ a:List UInt8,Op.bytesLess a a=false:=by
 intro a
 induction a with
 | nil=>rfl
 | cons x a ih=>simp [Op.bytesLess,ih]
theorem ul9 : ∀ {a b c : List UInt8}, Op.bytesLess a b = true → Op.bytesLess b c = true → Op.bytesLess a c = true
 | [],[],_,h,_=>by simp [Op.bytesLess] at h
 | [],_ :: _,[],_,h=>by simp [Op.bytesLess] at h
 | [],_ :: _,_ :: _,_,_=>by simp [Op.bytesLess]
 | _ :: _,[],_,h,_=>by simp [Op.bytesLess] at h
 | _ :: _,_ :: _,[],_,h=>by simp [Op.bytesLess] at h
 | x :: a,y :: b,z :: c,h1,h2=>by
  simp only [Op.bytesLess,Bool.or_eq_true,Bool.and_eq_true,decide_eq_true_eq,beq_iff_eq] at h1 h2 ⊢
  rcases h1 with h1 | ⟨h1,h1'⟩
  ·rcases h2 with h2 | ⟨h2,h2'⟩
   ·exact .inl (UInt8.lt_trans h1 h2)
   ·subst h2;exact .inl h1
  ·subst h1
   rcases h2 with h2 | ⟨h2,h2'⟩
   ·exact .inl h2
   ·exact .inr ⟨h2,ul9 h1' h2'⟩
theorem less_tot : ∀ {a b : List UInt8}, Op.bytesLess a b = false → a ≠ b → Op.bytesLess b a = true
 | [],[],_,h=>absurd rfl h
 | [],_ :: _,h,_=>by simp [Op.bytesLess] at h
 | _ :: _,[],_,_=>by simp [Op.bytesLess]
 | x :: a,y :: b,h1,h2=>by
  simp only [Op.bytesLess,Bool.or_eq_true,Bool.and_eq_true,decide_eq_true_eq,beq_iff_eq,Bool.or_eq_false_iff,decide_eq_false_iff_not,Bool.and_eq_false_iff,beq_eq_false_iff_ne] at h1 ⊢
  by_cases e:x=y
  ·subst e
   have:Op.bytesLess a b=false:=by rcases h1.2 with h | h;exact absurd rfl h;simpa using h
   exact .inr ⟨rfl,less_tot this (fun h=>h2 (by rw [h]))⟩
  ·exact .inl (UInt8.lt_of_le_of_ne (UInt8.not_lt.1 h1.1) (fun h=>e h.symm))
def okE (e:RE):Prop:=e.key.length=8∧e.trk < 65536∧e.rn < 256
theorem bodyE_cons (e:RE) (p:List RE):kl9 (e :: p)=entB e++kl9 p:=by simp [kl9]
theorem entB_len {e:RE} (h:e.key.length=8):(entB e).length=12:=by simp [entB,h]
theorem xk8 : ∀ {p : List RE}, (∀ e ∈ p, e.key.length = 8) → (kl9 p).length = 12 * p.length
 | [],_=>rfl
 | e :: p,h=>by
  rw [bodyE_cons,List.length_append,entB_len (h e List.mem_cons_self),xk8 (fun x hx=>h x (List.mem_cons_of_mem _ hx)),List.length_cons]
  omega
theorem dataE_len {p:List RE} (h:∀ e∈p,e.key.length=8) (hp:p.length≤21):(dataE p).length=256:=by
 rw [dataE,List.length_append,List.length_append,xk8 h,List.length_replicate]
 simp
 omega
theorem entsE_ok {d:List UInt8}:∀ e∈zk8 d,okE e:=by
 intro e he
 obtain ⟨i,hi,rfl⟩:=List.mem_map.1 he
 rw [List.mem_range] at hi
 have hl:limE d≤d.length:=Nat.min_le_right _ _
 refine ⟨?_,?_,UInt8.toNat_lt _⟩
 ·rw [uw8,List.length_take,List.length_drop]
  omega
 ·have h1:=(d.getD (2+12 * i+8) 0).toNat_lt
  have h2:=(d.getD (2+12 * i+9) 0).toNat_lt
  show 256 * (d.getD (2+12 * i+8) 0).toNat+(d.getD (2+12 * i+9) 0).toNat < 65536
  omega
theorem entsE_len {d:List UInt8} (h:d.length=256):(zk8 d).length≤21:=by
 have hl:limE d≤d.length:=Nat.min_le_right _ _
 rw [zk8,List.length_map,List.length_range]
 omega
theorem jk7 {α : Type} (k : Nat) (xs : List α) : ∀ m : Nat, ((List.range m).map fun j => (xs.drop (k * j)).take k).flatten = xs.take (k * m)
 | 0=>by simp
 | m+1=>by
  rw [List.range_succ,List.map_append,List.flatten_append,jk7 k xs m,Nat.mul_succ,List.take_add]
  simp
theorem layG_flat (l:List RE) (i:Nat):(layG l i).flatten=(List.range i).map (blkE l):=by
 have e:layG l i=(List.range ((i+5) / 6)).map fun j=>(((List.range i).map (blkE l)).drop (6 * j)).take 6:=by
  unfold layG
  apply List.map_congr_left
  intro j _
  rw [List.map_take,List.map_drop]
 rw [e,jk7,List.take_of_length_le (by simp;omega)]
theorem qc9 (l:List RE) (i:Nat):(layG l i).length=(i+5) / 6:=by simp [layG]
theorem jk8 {l:List RE} {n:Nat} {e:RE} (h:e∈zn7 l n):e∈l:=List.mem_of_mem_drop (List.mem_of_mem_take h)
theorem ql7 (l:List RE) (n:Nat):(zn7 l n).length≤21:=by rw [zn7,List.length_take];omega
theorem kn9 {α : Type} (p : α → Bool) : ∀ (l r : List α), (∀ x ∈ l, p x = true) → (l ++ r).takeWhile p = l ++ r.takeWhile p
 | [],r,_=>rfl
 | x :: l,r,h=>by
  rw [List.cons_append,List.takeWhile_cons,if_pos (h x List.mem_cons_self),kn9 p l r (fun y hy=>h y (List.mem_cons_of_mem _ hy))]
  rfl
theorem dirT_drop : ∀ t : List (List Rec), dirT (t.drop (dirT t).length) = []
 | []=>rfl
 | x :: t=>by
  unfold dirT
  rw [List.takeWhile_cons]
  cases h:us9 x with
  | true=>exact dirT_drop t
  | false=>simp [h]
theorem jt9 : ∀ t : List (List Rec), t = dirT t ++ t.drop (dirT t).length
 | []=>rfl
 | x :: t=>by
  have:=jt9 t
  unfold dirT at this ⊢
  rw [List.takeWhile_cons]
  cases h:us9 x with
  | true=>simpa using this
  | false=>rfl
structure ReadOk (t:List (List Rec)) (l:List RE) (n:Nat):Prop where
 ok:∀ e∈l,okE e
 ord:ordE l=true
 n1:1≤n
 n64:n≤64
 len:l.length≤21 * n
 eq:t=layG l n++t.drop ((n+5) / 6)
 rest:dirT (t.drop ((n+5) / 6))=[]
theorem jg8 : ∀ {rs : List Rec}, (∀ r ∈ rs, r.data.length = 256) → (rawE rs).length ≤ 21 * rs.length
 | [],_=>by simp [rawE]
 | r :: rs,h=>by
  have h1:=entsE_len (h r List.mem_cons_self)
  have h2:=jg8 (fun x hx=>h x (List.mem_cons_of_mem _ hx))
  unfold rawE at h2 ⊢
  rw [List.map_cons,List.flatten_cons,List.length_append,List.length_cons]
  omega
theorem zv7 {rs:List Rec}:∀ e∈rawE rs,okE e:=by
 intro e he
 obtain ⟨x,hx,hex⟩:=List.mem_flatten.1 he
 obtain ⟨r,_,rfl⟩:=List.mem_map.1 hx
 exact entsE_ok e hex
theorem zw8 {t:List (List Rec)} {l:List RE} {n:Nat} (h:uq9 t=some (l,n)):ReadOk t l n:=by
 unfold uq9 at h
 split at h
 ·rename_i hc
  obtain ⟨c1,c2,c3,c4,c5,c6⟩:=hc
  simp only [Option.some.injEq,Prod.mk.injEq] at h
  obtain ⟨rfl,rfl⟩:=h
  refine ⟨zv7,c5,c2,c3,jg8 c1,?_,?_⟩
  ·rw [c6,c4];exact jt9 t
  ·rw [c4];exact dirT_drop t
 ·cases h
set_option maxRecDepth 20000
theorem uf7:Sound Tryz.prog 148 [] (.lst (.tip 5 6) 1 (byL vk9)):=zd7 mx 50 (by kernel_rfl)
theorem rcode_sound (b:UInt8):Sound Tryz.prog 150 [.v (.int .u8 b.toNat)] (.tup [.v (.int .u8 (cdM b).1.toNat),.v (.bool (cdM b).2)]):=by
 refine yc9 Tryz.func150 rfl (by decide +kernel) (by simp [Tryz.f150]) rfl rfl (rs:=[.tmp 2,.tmp 3]) rfl ?_
 rw [show Tryz.f150.ntmps=15 from rfl]
 refine yr9 [0] (by simp;rfl) ?_
 refine yh9 ?_
 have hlt:=b.toNat_lt
 by_cases h1:b.toNat < 32
 ·have h1':(b.toNat:Int) < 32:=by omega
  refine W_cT [0,9] (by simp [h1,h1'];rfl) rfl ?_
  refine yr9 [2,3] (by simp;rfl) ?_
  refine yj9 ?_
  repeat (first | refine yp9 ?_ | refine ys9 ?_)
  simp [retQ,cdM,h1]
 have h1':¬ (b.toNat:Int) < 32:=by omega
 by_cases h2:126 < b.toNat
 ·have h2':(126:Int) < b.toNat:=by omega
  refine W_cT [0,9] (by simp [h1,h1',h2,h2'];rfl) rfl ?_
  refine yr9 [2,3] (by simp;rfl) ?_
  refine yj9 ?_
  repeat (first | refine yp9 ?_ | refine ys9 ?_)
  simp [retQ,cdM,h2]
 have h2':¬ (126:Int) < b.toNat:=by omega
 have w1:IntKind.u8.wrap ((b.toNat:Int) - 32)=((b.toNat - 32:Nat):Int):=by
  simp only [IntKind.wrap_u8]
  omega
 refine W_cF [0,9] (by simp [h1,h1',h2,h2'];rfl) rfl ?_
 refine yg9 ?_
 obtain ⟨k,hk⟩:∃ k,b.toNat - 32=k:=⟨_,rfl⟩
 have hk95:k < vk9.length:=by show k < 95;omega
 have hM:cdM b=(vk9[k],true):=by
  rw [cdM,if_neg (by omega),hk,List.getD_eq_getElem?_getD,List.getElem?_eq_getElem hk95];rfl
 rw [hk] at w1
 rw [hM]
 have hk95':(k:Int) < vk9.length:=by omega
 obtain ⟨L,hL⟩:∃ L,vk9=L:=⟨_,rfl⟩
 have htb:=uf7
 simp only [hL] at htb hk95' ⊢
 have hkL:k < L.length:=by rw [← hL];exact hk95
 obtain ⟨cd,hcd⟩:∃ cd,L[k]'hkL=cd:=⟨_,rfl⟩
 refine W_rK [2,3] ?_
 refine yf9 (by simp) (by first | (simp;done) | (simp;rfl)) htb (by simp;rfl) ?_
 refine yw9 (by simp [w1,hkL,hk95',hcd];rfl) ?_
 refine yj9 ?_
 repeat (first | refine yp9 ?_ | refine ys9 ?_)
 simp [retQ,hcd]
def accB (x:AV) (D:List UInt8):Prop:=(D=[]∧x=.lst .nil 1 [])∨x=.lst (.tip 5 53) 1 (byL D)
set_option maxRecDepth 20000
theorem yh6 (l:List UInt8) (hl:l.length≤1000000) (hpos:1≤l.length) (hok0:zt6 l=true):Sound Tryz.prog 147 [strB l] (.tup [.lst (.tip 5 1) 1 (byL (enc1 l)),.v (.int .i64 0)]):=by
 refine zn9 Tryz.func147 rfl (by decide +kernel) (by simp [Tryz.f147]) rfl rfl (rs:=[.tmp 2,.tmp 3]) rfl ?_
 rw [show Tryz.f147.ntmps=28 from rfl]
 simp only [strB]
 refine yr9 [0] (by simp;rfl) ?_
 refine yr9 [0,4] (by simp;rfl) ?_
 refine yh9 ?_
 refine yr9 [0,4,5] (by simp;rfl) ?_
 refine yl9 ?_
 refine zf9 (fun k s => ∃ (i : Nat) (x : AV), k = l.length - i ∧ i ≤ l.length ∧ zt6 (l.take i) = true ∧ accB x (enc1 (l.take i)) ∧
  s=⟨28,[(0,.v (.string ⟨l.toArray⟩)),(4,x),(5,.v (.int .i64 (i:Nat)))],[]⟩) (k:=l.length) ⟨0,_,rfl,by omega,by simp [zt6],.inl ⟨rfl,rfl⟩,by simp⟩ ?_
 rintro k s ⟨i,x,rfl,hi,hok,hx,rfl⟩
 refine yh9 ?_
 by_cases c:i < l.length
 ·have ci : (i : Int) < l.length := by omega
  obtain ⟨b,hb⟩:∃ b,l[i]?=some b:=⟨_,List.getElem?_eq_getElem c⟩
  have hb2:l[i]'c=b:=by rw [List.getElem?_eq_getElem c] at hb;exact Option.some.inj hb
  have wi:=w64 (n:=(i:Int)+1) (by omega) (by omega)
  have hlen:(enc1 (l.take i)).length=i:=by simp [enc1];omega
  refine W_cT [0,4,5,11] (by simp [c];rfl) rfl ?_
  refine yg9 ?_
  refine yh9 ?_
  refine yl9 ?_
  refine W_rK [0,4,5,6,7] ?_
  refine yq9 3 (by simp [c,ci,hb,hb2];rfl) rfl ?_
  refine yf9 (by simp) (by first | (simp;done) | (simp;rfl)) (rcode_sound b) (by simp;rfl) ?_
  refine yw9 (by simp;rfl) ?_
  refine yh9 ?_
  cases hcd:(cdM b).2 with
  | false =>
   rw [encOk_false hb hcd] at hok0
   cases hok0
  | true =>
   have htk:zt6 (l.take (i+1))=true:=by
    rw [List.take_add_one,hb,zt6,List.all_append]
    simp only [Option.toList_some,List.all_cons,hcd,List.all_nil,Bool.and_self,Bool.and_true]
    exact hok
   have he:enc1 (l.take (i+1))=enc1 (l.take i)++[(cdM b).1]:=by rw [List.take_add_one,hb];simp [enc1]
   refine W_cF [0,4,5,6,22] (by simp [hcd];rfl) rfl ?_
   refine yg9 ?_
   have fin : ∃ k', k' < l.length - i ∧ ∃ (i' : Nat) (x : AV), k' = l.length - i' ∧ i' ≤ l.length ∧ zt6 (l.take i') = true ∧ accB x (enc1 (l.take i')) ∧
     (⟨28,[(0,.v (.string ⟨l.toArray⟩)),(4,.lst (.tip 5 53) 1 (byL (enc1 (l.take i)++[(cdM b).1]))),(5,.v (.int .i64 ((i:Int)+1)))],[]⟩:St)=⟨28,[(0,.v (.string ⟨l.toArray⟩)),(4,x),(5,.v (.int .i64 (i':Nat)))],[]⟩ :=
    ⟨_,by omega,i+1,_,rfl,by omega,htk,by rw [he];exact .inr rfl,by simp⟩
   rcases hx with ⟨h0,rfl⟩ | rfl
   ·rw [h0] at fin
    refine zr9 [0,4,5] (by simp [catK,AV.cellsK,AV.kone,AV.koneL];rfl) ?_
    refine zr9 [0,4,5] (by simp [wi];rfl) ?_
    simpa [byL] using fin
   ·refine zr9 [0,4,5] (by simp [catK,AV.cellsK,AV.kone,AV.koneL,hlen,show i+1≤140737488355328 by omega];rfl) ?_
    refine zr9 [0,4,5] (by simp [wi];rfl) ?_
    simpa [byL] using fin
 have hie:i=l.length:=by omega
 subst hie
 rw [List.take_length] at hok hx
 refine W_cF [0,4,5,11] (by simp;rfl) rfl ?_
 refine zs9 ?_
 rcases hx with ⟨h0,rfl⟩ | rfl
 ·have:=congrArg List.length h0
  simp [enc1] at this
  rw [this] at hpos
  simp at hpos
 ·refine yr9 [2,3] (by simp;rfl) ?_
  refine yj9 ?_
  repeat (first | refine yp9 ?_ | refine ys9 ?_)
  exact ⟨.tup [.lst (.tip 5 53) 1 (byL (enc1 l)),.v (.int .i64 0)],by simp [retQ],.norm fun T=>by simp⟩
set_option maxRecDepth 20000
theorem setB (A:List UInt8) (z x:UInt8) (R:List UInt8):yk9 (byL (A++z :: R)) A.length [.v (.int .u8 x.toNat)]=byL (A++x :: R):=by
 have h1:byL (A++z :: R)=byL A++(.v (.int .u8 z.toNat) :: byL R):=by simp [byL]
 have h2:byL (A++x :: R)=byL A++(.v (.int .u8 x.toNat) :: byL R):=by simp [byL]
 have hlb:(byL A).length=A.length:=by simp
 rw [h1,h2]
 unfold yk9
 rw [List.take_left' hlb,List.drop_append]
 simp [hlb]
theorem padK_get {l:List UInt8} (hl:l.length≤8) (i:Nat) (hi:i < 8):(padK l)[i]?=some (if h:i < l.length then (cdM l[i]).1 else 64):=by
 unfold padK
 by_cases h:i < l.length
 ·rw [List.getElem?_append_left (by rw [yj7];exact h),dif_pos h]
  simp [enc1,h]
 ·rw [List.getElem?_append_right (by rw [yj7];omega),dif_neg h,yj7,List.getElem?_replicate,if_pos (by omega)]
theorem qr6 (l:List UInt8) (hl:l.length≤8) (ho:l.all okB=true):Sound Tryz.prog 128 [strB l,.v (.int .i64 8)] (.tup [.lst .any 1 (byL (padK l)),.v (.int .i64 0)]):=by
 refine vd9 Tryz.func128 rfl (by decide +kernel) (by simp [Tryz.f128]) rfl rfl (rs:=[.tmp 4,.tmp 5]) rfl ?_
 rw [show Tryz.f128.ntmps=39 from rfl]
 simp only [strB]
 obtain ⟨K,hK⟩:∃ K,padK l=K:=⟨_,rfl⟩
 have hKl:K.length=8:=by rw [← hK];exact zt8 hl
 refine yr9 [0,1] (by simp;rfl) ?_
 refine yr9 [0,6] (by simp [repC_byL31];rfl) ?_
 refine yh9 ?_
 refine yr9 [0,6,13,14] (by simp;rfl) ?_
 refine yl9 ?_
 refine zf9 (fun k s => ∃ (i : Nat), k = 8 - i ∧ i ≤ 8 ∧
  s=⟨39,[(0,.v (.string ⟨l.toArray⟩)),(6,.arr 0 0 8 8),(13,.v (.int .i64 8)),(14,.v (.int .i64 (i:Nat)))],[.cells 5 (byL (K.take i++List.replicate (8 - i) 0))]⟩) (k:=8) ⟨0,rfl,by omega,by simp⟩ ?_
 rintro k s ⟨i,rfl,hi,rfl⟩
 by_cases c:i < 8
 ·have ci : (i : Int) < 8 := by omega
  have wi:=w64 (n:=(i:Int)+1) (by omega) (by omega)
  have hkt:(K.take i).length=i:=by rw [List.length_take];omega
  have hKi:=padK_get hl i c
  rw [hK] at hKi
  obtain ⟨m8,hm8⟩:∃ m8,8 - (i+1)=m8:=⟨_,rfl⟩
  have hr8:List.replicate (8 - i) (0:UInt8)=0 :: List.replicate (m8) 0:=by
   rw [show 8 - i=m8+1 by omega,List.replicate_succ]
  have hset:∀ z x:UInt8,yk9 (byL (K.take i++z :: List.replicate (m8) 0)) i [.v (.int .u8 x.toNat)]=byL (K.take i++x :: List.replicate (m8) 0):=by
   intro z x
   have:=setB (K.take i) z x (List.replicate (m8) 0)
   rwa [hkt] at this
  have hset64:yk9 (byL (K.take i++(0:UInt8) :: List.replicate (m8) 0)) i [.v (.int .u8 64)]=byL (K.take i++(64:UInt8) :: List.replicate (m8) 0):=hset 0 64
  have hnext:∀ x:UInt8,K[i]?=some x→byL (K.take i++x :: List.replicate (m8) 0)=byL (K.take (i+1)++List.replicate (m8) 0):=by
   intro x hx
   rw [List.take_add_one,hx]
   simp
  have hlen1:∀ x:UInt8,(byL (K.take i++x :: List.replicate (m8) 0)).length=8:=by intro x;simp [hkt];omega
  rw [hr8]
  obtain ⟨Z,hZ⟩:∃ Z,byL (K.take i++(0:UInt8) :: List.replicate (m8) 0)=Z:=⟨_,rfl⟩
  have hZl:Z.length=8:=by rw [← hZ];exact hlen1 0
  rw [hZ] at hset64
  rw [hZ]
  refine yr9 [0,6,13,14,15] (by simp [c,ci];rfl) ?_
  refine yh9 ?_
  refine yt9 (t:=true) (by simp [c,ci]) (fun h=>?_) (fun h=>by simp at h)
  refine yg9 ?_
  refine yh9 ?_
  refine yl9 ?_
  refine yr9 [0,6,13,14,7] (by simp;rfl) ?_
  refine yr9 [0,6,13,14,7] (by simp [c,ci,hZl,hset64,show i≤7 by omega];rfl) ?_
  refine yh9 ?_
  by_cases cl:i < l.length
  ·have hnl:¬ (l.length:Int)≤i:=by omega
   obtain ⟨b,hb⟩:∃ b,l[i]?=some b:=⟨_,List.getElem?_eq_getElem cl⟩
   have hb2:l[i]'cl=b:=by rw [List.getElem?_eq_getElem cl] at hb;exact Option.some.inj hb
   have hbo:=vg7 b (List.all_eq_true.1 ho b (List.mem_of_getElem? hb))
   rw [dif_pos cl,hb2] at hKi
   have hset2:=hset 64 (cdM b).1
   obtain ⟨Y,hY⟩:∃ Y,byL (K.take i++(64:UInt8) :: List.replicate (m8) 0)=Y:=⟨_,rfl⟩
   have hYl:Y.length=8:=by rw [← hY];exact hlen1 64
   rw [hY] at hset2
   rw [hY]
   refine W_cF [0,6,13,14,7,23] (by simp [hnl,show ¬ l.length≤i by omega];rfl) rfl ?_
   refine yg9 ?_
   refine W_rK [0,6,13,14,7,8,9] ?_
   refine yq9 3 (by simp [c,cl,hb,hb2];rfl) rfl ?_
   refine yf9 (by simp) (by first | (simp;done) | (simp;rfl)) (code112_sound b) (by simp;rfl) ?_
   refine yw9 (by simp;rfl) ?_
   refine yh9 ?_
   refine W_cF [0,6,13,14,7,8,32] (by simp [hbo.1];rfl) rfl ?_
   refine yg9 ?_
   refine zr9 [0,6,13,14] (by simp [c,ci,hYl,hset2,show i≤7 by omega];rfl) ?_
   refine zr9 [0,6,13,14] (by simp [wi];rfl) ?_
   exact ⟨_,by omega,i+1,rfl,by omega,by rw [hm8,hnext _ hKi];simp⟩
  ·have hnl:(l.length:Int)≤i:=by omega
   rw [dif_neg cl] at hKi
   rw [hnext _ hKi]
   refine yr9 [0,6,13,14,23] (by simp [hnl,show l.length≤i by omega];rfl) ?_
   refine yt9 (t:=true) (by simp [hnl,show l.length≤i by omega]) (fun h=>?_) (fun h=>by simp at h)
   refine zs9 ?_
   refine zr9 [0,6,13,14] (by simp [wi];rfl) ?_
   exact ⟨_,by omega,i+1,rfl,by omega,by rw [hm8];simp⟩
 have hie:i=8:=by omega
 subst hie
 rw [List.take_of_length_le (by omega),Nat.sub_self,List.replicate_zero,List.append_nil]
 refine yr9 [0,6,13,14,15] (by simp;rfl) ?_
 refine yh9 ?_
 refine yt9 rfl (fun h=>by simp at h) (fun h=>?_)
 refine zs9 ?_
 refine yr9 [4,5] (by simp;rfl) ?_
 refine yj9 ?_
 repeat (first | refine yp9 ?_ | refine ys9 ?_)
 exact ⟨_,by simp [retQ,wt9,hKl];exact ⟨rfl,rfl⟩,.inr (by simp [hK,hKl,List.take_of_length_le (Nat.le_of_eq hKl)])⟩
theorem pad_sound (l:List UInt8) (hl:l.length≤8) (ho:l.all okB=true):Sound Tryz.prog 105 [strB l,.v (.int .i64 8)] (.tup [.lst .any 1 (byL (padK l)),.v (.int .i64 0)]):=by
 refine yc9 Tryz.func105 rfl (by decide +kernel) (by simp [Tryz.f105]) rfl rfl (rs:=[.tmp 4,.tmp 5]) rfl ?_
 rw [show Tryz.f105.ntmps=23 from rfl]
 simp only [strB]
 have h8:¬ (8:Int) < (l.length:Nat):=by omega
 have h8b:¬ 8 < l.length:=by omega
 have hx:=qr6 l hl ho
 simp only [strB] at hx
 refine yr9 [0,1] (by simp;rfl) ?_
 refine yh9 ?_
 refine yl9 ?_
 refine W_cF [0,1,6] (by simp;rfl) rfl ?_
 refine yr9 [0,1,13] (by simp [h8,h8b];rfl) ?_
 refine yt9 (t:=false) (by simp [h8,h8b]) (fun h=>by simp at h) (fun h=>?_)
 refine yg9 ?_
 refine W_rK [4,5] ?_
 refine yq9 2 (by simp;rfl) rfl ?_
 refine yf9 (by simp) (by first | (simp;done) | (simp;rfl)) hx (by simp;rfl) ?_
 refine yw9 (by simp;rfl) ?_
 refine yj9 ?_
 repeat (first | refine yp9 ?_ | refine ys9 ?_)
 simp [retQ]
theorem rpad_sound (l:List UInt8) (hp:1≤l.length) (hl:l.length≤8) (ho:l.all okB=true):Sound Tryz.prog 138 [strB l,.v (.int .i64 8)] (.tup [.lst .any 1 (byL (padK l)),.v (.int .i64 0)]):=by
 refine vd9 Tryz.func138 rfl (by decide +kernel) (by simp [Tryz.f138]) rfl rfl (rs:=[.tmp 4,.tmp 5]) rfl ?_
 rw [show Tryz.f138.ntmps=34 from rfl]
 simp only [strB]
 have h8:¬ (8:Int) < (l.length:Nat):=by omega
 have h8b:¬ 8 < l.length:=by omega
 have hek:zt6 l=true:=by
  unfold zt6
  rw [List.all_eq_true] at ho ⊢
  exact fun b hb=>(vg7 b (ho b hb)).1
 obtain ⟨K,hK⟩:∃ K,padK l=K:=⟨_,rfl⟩
 have hKl:K.length=8:=by rw [← hK];exact zt8 hl
 have hE:enc1 l=K.take l.length:=by rw [← hK,padK,List.take_left' (yj7 l)]
 have he:=yh6 l (by omega) hp hek
 rw [hE] at he
 simp only [strB] at he
 refine yr9 [0,1] (by simp;rfl) ?_
 refine yh9 ?_
 refine W_cF [0,1,13] (by simp;rfl) rfl ?_
 refine yg9 ?_
 refine yh9 ?_
 refine yr9 [0,1,17] (by simp [h8,h8b];rfl) ?_
 refine yt9 (t:=false) (by simp [h8,h8b]) (fun h=>by simp at h) (fun h=>?_)
 refine yg9 ?_
 refine W_rK [1,6,7] ?_
 refine yq9 1 (by simp;rfl) rfl ?_
 refine yf9 (by simp) (by first | (simp;done) | (simp;rfl)) he (by simp;rfl) ?_
 refine yw9 (by simp;rfl) ?_
 refine yh9 ?_
 refine W_cF [1,6,24] (by simp;rfl) rfl ?_
 refine yg9 ?_
 refine yh9 ?_
 refine ym9 [1,6] ?_
 refine yl9 ?_
 refine zf9 (fun k s=>∃ i:Nat,k=8 - i∧i≤8∧l.length≤i∧s=⟨34,[(1,.v (.int .i64 8)),(6,.lst (.tip 5 41) 1 (byL (K.take i)))],[]⟩) (k:=8 - l.length) ⟨l.length,rfl,hl,Nat.le_refl _,by simp [ud9]⟩ ?_
 rintro k s ⟨i,rfl,hi,hli,rfl⟩
 refine yh9 ?_
 have hlen:(K.take i).length=i:=by rw [List.length_take];omega
 by_cases c:i < 8
 ·have ci : (i : Int) < 8 := by omega
  have hKi:K[i]?=some 64:=by
   rw [← hK,padK_get hl i c,dif_neg (by omega)]
  have hnx:byL (K.take i)++[AV.v (.int .u8 64)]=byL (K.take (i+1)):=by
   rw [List.take_add_one,hKi]
   simp [byL]
  refine yr9 [1,6,29] (by simp [hlen,c,ci];rfl) ?_
  refine yt9 (t:=true) (by simp [hlen,c,ci]) (fun h=>?_) (fun h=>by simp at h)
  refine yg9 ?_
  refine yl9 ?_
  refine zr9 [1,6] (by simp [catK,AV.cellsK,AV.kone,AV.koneL,hlen,show i+1≤140737488355328 by omega,hnx];rfl) ?_
  exact ⟨_,by omega,i+1,rfl,by omega,by omega,rfl⟩
 have hie:i=8:=by omega
 subst hie
 rw [List.take_of_length_le (by omega)] at hlen ⊢
 refine yr9 [1,6,29] (by simp [hlen];rfl) ?_
 refine yt9 (t:=false) (by simp [hlen]) (fun h=>by simp at h) (fun h=>?_)
 refine zs9 ?_
 refine yr9 [4,5] (by simp;rfl) ?_
 refine yj9 ?_
 repeat (first | refine yp9 ?_ | refine ys9 ?_)
 exact ⟨_,by simp [retQ];exact ⟨rfl,by simp⟩,.inr (by simp [hK])⟩
theorem vk8 (l:List UInt8) (hp:1≤l.length) (hl:l.length≤8) (ho:l.all okB=true):Sound Tryz.prog 119 [strB l] (.lst .any 1 (byL (padK l))):=by
 refine vd9 Tryz.func119 rfl (by decide +kernel) (by simp [Tryz.f119]) rfl rfl (rs:=[.tmp 2]) rfl ?_
 rw [show Tryz.f119.ntmps=11 from rfl]
 have hx:=rpad_sound l hp hl ho
 simp only [strB] at hx ⊢
 refine yr9 [0] (by simp;rfl) ?_
 refine W_rK [3] ?_
 refine yq9 1 (by simp;rfl) rfl ?_
 refine yf9 (by simp) (by first | (simp;done) | (simp;rfl)) hx (by simp;rfl) ?_
 refine yw9 (by simp;rfl) ?_
 refine yr9 [2] (by simp;rfl) ?_
 refine yj9 ?_
 repeat (first | refine yp9 ?_ | refine ys9 ?_)
 exact ⟨_,by simp [retQ];exact ⟨rfl,by simp⟩,.inr (by simp)⟩
theorem before_sound (a b:List UInt8) (ha:symM a=true) (hb:symM b=true):Sound Tryz.prog 89 [strB a,strB b] (.v (.bool (Op.bytesLess (padK a) (padK b)))):=by
 refine yc9 Tryz.func89 rfl (by decide +kernel) (by simp [Tryz.f89]) rfl rfl (rs:=[.tmp 4]) rfl ?_
 rw [show Tryz.f89.ntmps=12 from rfl]
 obtain ⟨a1,a2,a3⟩:=un9 ha
 obtain ⟨b1,b2,b3⟩:=un9 hb
 have hA:=vk8 a a2 a3 a1
 have hB:=vk8 b b2 b3 b1
 obtain ⟨A,hAe⟩:∃ A,padK a=A:=⟨_,rfl⟩
 obtain ⟨B,hBe⟩:∃ B,padK b=B:=⟨_,rfl⟩
 rw [hAe] at hA ⊢
 rw [hBe] at hB ⊢
 simp only [strB] at hA hB ⊢
 refine yr9 [0,1] (by simp;rfl) ?_
 refine wr9 [4] mx (by decide +kernel) ?_
 refine yd9 1 (by simp;rfl) rfl ?_
 refine yv9 (by simp) (by first | (simp;done) | (simp;rfl)) hA (by simp;rfl) ?_
 refine yd9 2 (by simp;rfl) rfl ?_
 refine yv9 (by simp) (by first | (simp;done) | (simp;rfl)) hB (by simp;rfl) ?_
 refine yb9 (by simp [strA,Lib.toList_data];rfl) ?_
 refine yj9 ?_
 repeat (first | refine yp9 ?_ | refine ys9 ?_)
 simp [retQ]
theorem frzL_byL {P : Program} {tk : Nat} (h : List AObj) : ∀ K : List UInt8, frzL P tk h (byL K) = some (byL K, h)
 | []=>rfl
 | b :: K=>by
  rw [zc9,frzL]
  simp [frzV,frzL_byL h K]
theorem wg8 (l:List UInt8) (hs:symM l=true):Sound Tryz.prog 68 [strB l] (.agg (byL (padK l))):=by
 refine yc9 Tryz.func68 rfl (by decide +kernel) (by simp [Tryz.f68]) rfl rfl (rs:=[.cell 2 76]) rfl ?_
 rw [show Tryz.f68.ntmps=14 from rfl]
 obtain ⟨h1,h2,h3⟩:=un9 hs
 have hP:=pad_sound l h3 h1
 obtain ⟨K,hK⟩:∃ K,padK l=K:=⟨_,rfl⟩
 have hKl:K.length=8:=by rw [← hK];exact zt8 h3
 rw [hK] at hP ⊢
 simp only [strB] at hP ⊢
 refine yr9 [0,2] (by simp;rfl) ?_
 refine W_rK [2,3] ?_
 refine yq9 1 (by simp;rfl) rfl ?_
 refine yf9 (by simp) (by first | (simp;done) | (simp;rfl)) hP (by simp;rfl) ?_
 refine yw9 (by simp;rfl) ?_
 refine W_rK [2] ?_
 refine yq9 2 (by simp [maxLen];rfl) rfl ?_
 refine zf7 (t:=90) (t':=90) (e:=5) (e2:=76) (sz:=1) (id:=0) (off:=0) (len:=8) (cap:=8) (ag:=false) (oy:=.any) (cs:=byL (List.replicate 8 0)) (ys:=byL K) (yc:=byL K) (by simp) rfl rfl rfl rfl (by simp) (by simp) s90 (by omega) (by simp [byL,List.replicate]) (by simp) (by rw [List.take_of_length_le (by simp;omega)];exact qr9 _) ?_
 refine ⟨_,by simp;rfl,?_⟩
 refine yw9 (by simp;rfl) ?_
 refine yr9 [2] (by simp [yk9,hKl];rfl) ?_
 refine yj9 ?_
 repeat (first | refine yp9 ?_ | refine ys9 ?_)
 have hd:List.drop 8 (byL [0,0,0,0,0,0,0,0])=[]:=rfl
 have ht:List.take 8 (byL K)=byL K:=List.take_of_length_le (by simp [hKl])
 simp [retQ,hd,ht,hKl,frzV,frzL_byL]
set_option maxRecDepth 20000
theorem bytesX {P:Program} {c:Ctx} {w:World} {o:Fl} {l:List UInt8} {v:Value} (h:Rep c w (.lst o 1 (byL l)) v):(Extern.Bytes.bytesOf v).run P w=.ok ⟨l.toArray⟩ w:=by
 obtain ⟨a,n,cap,u,rfl,hn,hcap,hmax,hs,hsz,hrf,hz,hnil,hc,hr⟩:=xk9 h
 have hl:l.length=n:=by simpa using hn
 cases a with
 | none =>
  have h0:=(hz rfl).1
  have:l=[]:=List.eq_nil_of_length_eq_zero (by omega)
  subst this
  rfl
 | some ad =>
  have key:=Lib.run_loadBytesX (P:=P) w (l.map fun b=>(b.toNat:Int)) ad .empty (fun j x hj=>by
   rw [List.getElem?_map] at hj
   obtain ⟨b,hb,rfl⟩:=Option.map_eq_some_iff.1 hj
   have hjl:=(List.getElem?_eq_some_iff.1 hb).1
   have h1:=(hc ad j rfl (by omega)).1
   have h2:=hr j 0 (.v (.int .u8 b.toNat)) (.v (.int .u8 b.toNat)) (by simp [byL,hb]) rfl
   rw [Nat.mul_one,Nat.add_zero] at h2
   rw [h1,← h2.v_inv])
  rw [List.length_map,hl] at key
  show (Extern.Bytes.loadBytes ad n .empty).run P w=_
  rw [key]
  congr 1
  apply ByteArray.ext
  simp [Lib.bytesOf]
  conv=>rhs;rw [← List.map_id l]
  apply List.map_congr_left
  intro b _
  simp
theorem jv8 : ∀ a b : List UInt8, Op.bytesLess a b = decide (Lib.compareBytes a b < 0)
 | [],[]=>rfl
 | [],_ :: _=>rfl
 | _ :: _,[]=>rfl
 | x :: a,y :: b=>by
  rw [Op.bytesLess,Lib.compareBytes,jv8 a b]
  by_cases h:x < y
  ·simp [h]
  ·by_cases h2 : y < x
   ·have hne:¬ x=y:=fun e=>h (e ▸ h2)
    simp [h,h2,hne]
   ·have:x=y:=UInt8.le_antisymm (UInt8.not_lt.1 h2) (UInt8.not_lt.1 h)
    simp [this]
theorem eq_cmp : ∀ a b : List UInt8, decide (a = b) = decide (Lib.compareBytes a b = 0)
 | [],[]=>rfl
 | [],_ :: _=>rfl
 | _ :: _,[]=>rfl
 | x :: a,y :: b=>by
  rw [Lib.compareBytes]
  have ih:=eq_cmp a b
  by_cases h:x < y
  ·have hne:¬ x=y:=fun e=>UInt8.lt_irrefl y (e ▸ h)
   simp [h,hne]
  ·by_cases h2 : y < x
   ·have hne:¬ x=y:=fun e=>h (e ▸ h2)
    simp [h,h2,hne]
   ·have:x=y:=UInt8.le_antisymm (UInt8.not_lt.1 h2) (UInt8.not_lt.1 h)
    simp only [this,UInt8.lt_irrefl,if_false]
    rw [← ih]
    simp
set_option maxRecDepth 100000 in
theorem calls106 (u v : Value) (a b : List UInt8) (w : World) (h1 : (Extern.Bytes.bytesOf u).run Tryz.prog w = .ok ⟨a.toArray⟩ w) (h2 : (Extern.Bytes.bytesOf v).run Tryz.prog w = .ok ⟨b.toArray⟩ w) :
  Calls Tryz.prog 106 #[u,v] w fun e w'=>e=.returned (.int .i64 (Lib.compareBytes a b))∧w'=w:=by
 have hrun:(Extern.BytealgCompare.compare #[u,v]).run Tryz.prog w=.ok (.int .i64 (Lib.compareBytes a b)) w:=by
  change Sem.run _ (do pure (goInt (Extern.BytealgCompare.cmp (← Extern.Bytes.bytesOf u) (← Extern.Bytes.bytesOf v)))) w=_
  simp only [Sem.run_bind,Sem.run_pure,h1,h2,Result.andThen]
  rw [Lib.cmp_eq]
  rfl
 go_enter Tryz.func106,Tryz.ntmps106
 go_wp2
 rw [run_callFunc_extern Tryz.func129 (by kernel_rfl) (by kernel_rfl) (by kernel_rfl) (e:=Extern.BytealgCompare.compare) (by kernel_rfl),hrun]
 simp only [Result.andThen]
 rw [Oper.upon_value]
 go_wp2
 go_ret
 exact ⟨rfl,rfl⟩
theorem cmp106_sound (a b:List UInt8):Sound Tryz.prog 106 [.lst .any 1 (byL a),.lst .any 1 (byL b)] (.v (.int .i64 (Lib.compareBytes a b))):=by
 refine ⟨⟨_,Tryz.func106,by decide +kernel,by kernel_rfl⟩,fun F n c w vals T hF hro hT hb ra=>?_⟩
 cases ra with
 | cons h1 _ r1 =>
 cases r1 with
 | cons h2 _ r2 =>
 cases r2
 refine (wf9 hF (calls106 _ _ a b w (bytesX h1) (bytesX h2))).mono ?_
 rintro e w' ⟨rfl,rfl⟩
 exact ⟨_,c,rfl,⟨rfl,rfl,rfl,rfl,rfl,rfl,Nat.le_refl _,fun _ _=>rfl,fun _ _=>rfl,fun _ _=>rfl⟩,.v _,.none rfl⟩
def reC (e:RE):List AV:=byL e.key++[.v (.int .i64 (e.trk:Nat)),.v (.int .i64 (e.rn:Nat))]
def reA (e:RE):AV:=.agg (reC e)
def reL (l:List RE):List AV:=l.map reA
@[simp] theorem reL_length (L:List RE):(reL L).length=L.length:=by simp [reL]
@[simp] theorem reL_nil:reL []=[]:=rfl
theorem reL_take (L:List RE) (n:Nat):reL (L.take n)=(reL L).take n:=by simp [reL]
theorem reL_drop (L:List RE) (n:Nat):reL (L.drop n)=(reL L).drop n:=by simp [reL]
@[simp] theorem reL_getElem (L:List RE) (i:Nat) (h:i < (reL L).length):(reL L)[i]=reA (L[i]'(by simpa using h)):=by simp [reL]
@[simp] theorem reA_rf (e:RE):AV.rf (reA e)=true:=by simp [reA,reC,AV.rf,zg7,AV.rfL]
@[simp] theorem reA_tl (e:RE):AV.tl (reA e)=true:=by
 rw [reA,AV.tl,reC]
 exact ud7.2 fun x hx=>by
  rcases List.mem_append.1 hx with h | h
  ·exact ud7.1 (tlL_byL _) x h
  ·rcases List.mem_cons.1 h with rfl | h
   ·rfl
   ·rw [List.mem_singleton.1 h];rfl
theorem jr8 {e:RE} (h:e.key.length=8):(reC e).take 8=byL e.key:=by
 rw [reC,List.take_append_of_le_length (by simp [h]),List.take_of_length_le (by simp [h])]
@[simp] theorem one_byL (l:List UInt8):oneL (byL l)=true:=by
 rw [oneL,List.all_eq_true]
 intro x hx
 obtain ⟨b,_,rfl⟩:=List.mem_map.1 hx
 rfl
@[simp] theorem zm9 {e:RE} (h:e.key.length=8):(reC e).length=10:=by simp [reC,h]
theorem reC_v (e:RE):reC e=((e.key.map fun b:UInt8=>Value.int .u8 b.toNat)++[Value.int .i64 (e.trk:Nat),Value.int .i64 (e.rn:Nat)]).map AV.v:=by simp [reC,byL]
theorem mv_rf (vs:List Value):AV.rfL (vs.map .v)=true:=by induction vs <;> simp_all [AV.rfL,AV.rf]
theorem mv_tl (vs:List Value):AV.tlL (vs.map .v)=true:=by induction vs <;> simp_all [AV.tlL,AV.tl]
theorem mv_flat (vs:List Value):AV.flatL (vs.map .v)=true:=by induction vs <;> simp_all [AV.flatL,AV.flat]
theorem mv_weak (vs:List Value):AV.weakL (vs.map .v)=vs.map .v:=by induction vs <;> simp_all [AV.weakL,AV.weak]
theorem mv_dp (vs:List Value):AV.dpL (vs.map .v)=vs.map .v:=by induction vs <;> simp_all [AV.dpL,AV.dp]
theorem mv_under (m:Nat) (vs:List Value):AV.underL m (vs.map .v)=true:=by induction vs <;> simp_all [AV.underL,AV.under]
@[simp] theorem flatL_byL (l:List UInt8):AV.flatL (byL l)=true:=by induction l <;> simp_all [byL,AV.flatL,AV.flat]
@[simp] theorem koneL_reC (e:RE):AV.koneL (reC e)=true:=by
 rw [reC,koneL_app];simp [AV.koneL,AV.kone]
@[simp] theorem rfL_reC (e:RE):AV.rfL (reC e)=true:=by rw [reC_v];exact mv_rf _
@[simp] theorem tlL_reC (e:RE):AV.tlL (reC e)=true:=by rw [reC_v];exact mv_tl _
@[simp] theorem flatL_reC (e:RE):AV.flatL (reC e)=true:=by rw [reC_v];exact mv_flat _
@[simp] theorem weakL_reC (e:RE):AV.weakL (reC e)=reC e:=by rw [reC_v];exact mv_weak _
@[simp] theorem dpL_reC (e:RE):AV.dpL (reC e)=reC e:=by rw [reC_v];exact mv_dp _
@[simp] theorem underL_reC (m:Nat) (e:RE):AV.underL m (reC e)=true:=by rw [reC_v];exact mv_under m _
@[simp] theorem killL_reC (T:Nat) (e:RE):AV.killL T (reC e)=reC e:=killL_tl _ (tlL_reC e)
@[simp] theorem killSL_reC (T:List Nat) (e:RE):AV.killSL T (reC e)=reC e:=killSL_tl _ (tlL_reC e)
@[simp] theorem dpL_reL (L:List RE):AV.dpL (reL L)=reL L:=by induction L <;> simp_all [reL,AV.dpL,AV.dp,reA]
theorem frz_re {h:List AObj} (id:Nat) (e:RE) (he:e.key.length=8) (hid:h[id]?=some (.cells 78 (reC e))):wt9 Tryz.prog h 1 id 0 1 1=some (.lst (.tip 78 1) 10 [reA e],h.set id (.froz 78 (reC e))):=by
 unfold wt9
 rw [hid]
 simp [he,chunk,reA,List.take_of_length_le]
theorem frz_key {h:List AObj} (id:Nat) (k:List UInt8) (hk:k.length=8) (hid:h[id]?=some (.cells 76 (byL k))):wt9 Tryz.prog h 1 id 0 1 1=some (.lst (.tip 76 1) 8 [.agg (byL k)],h.set id (.froz 76 (byL k))):=by
 unfold wt9
 rw [hid]
 simp [hk,chunk,List.take_of_length_le]
theorem xw7 (e:RE) (he:e.key.length=8):Sound Tryz.prog 55 [reA e] (strB (nmM e.key)):=by
 refine yc9 Tryz.func55 rfl (by decide +kernel) (by simp [Tryz.f55]) (by simp [AV.rfL]) (by simp [AV.tlL]) (rs:=[.tmp 2]) rfl ?_
 rw [show Tryz.f55.ntmps=6 from rfl]
 have ht:=trim_sound e.key (by omega)
 rw [show decM (kh9 e.key)=nmM e.key from rfl] at ht
 have htk:=jr8 he
 refine yr9 [1] (by simp [reA,he];rfl) ?_
 refine W_roB 1 (tk:=1) (x:=reA e) rfl (by decide) (frz_re 0 e he rfl) (by simp) ?_
 refine vp9 0 (by simp) (by simp) (by simp [zj9,putF,AV.under,AV.underL]) (by simp [yn9]) ?_
 refine W_rK [2] ?_
 refine yq9 2 (by simp [reA,he,htk,maxLen];rfl) rfl ?_
 refine yf9 (by simp) (by first | (simp;done) | (simp;rfl)) ht (by simp [strB];rfl) ?_
 refine yw9 (by simp;rfl) ?_
 refine yj9 ?_
 repeat (first | refine yp9 ?_ | refine ys9 ?_)
 simp [retQ,strB]
theorem qw9 (e:RE) (k:List UInt8) (he:e.key.length=8) (hk:k.length=8):Sound Tryz.prog 69 [reA e,.agg (byL k)] (.v (.int .i64 (Lib.compareBytes e.key k))):=by
 refine yc9 Tryz.func69 rfl (by decide +kernel) (by simp [Tryz.f69]) (by simp [AV.rfL,AV.rf]) (by simp [AV.tlL,AV.tl]) (rs:=[.tmp 4]) rfl ?_
 rw [show Tryz.f69.ntmps=9 from rfl]
 have htk:=jr8 he
 refine yr9 [2,3] (by simp [reA,he,hk];rfl) ?_
 refine (show Wt true 0 Tryz.prog _ _ ⟨9,[(2,.loc 0 0),(3,.loc 1 0)],[.cells 78 (reC e),.cells 76 (byL k)]⟩ from ?_)
 refine W_roB 2 (tk:=1) (x:=reA e) rfl (by decide) (frz_re 0 e he rfl) (by simp) ?_
 refine W_roB 3 (tk:=1) (x:=.agg (byL k)) rfl (by decide) (frz_key 1 k hk rfl) (by simp [AV.rf]) ?_
 refine vp9 0 (by simp) (by simp) (by simp [zj9,putF,AV.under,AV.underL]) (by simp [yn9]) ?_
 refine (show Wt true 0 Tryz.prog _ _ ⟨9,[(2,.ro (reA e)),(3,.ro (.agg (byL k)))],[]⟩ from ?_)
 refine wr9 [4] mx (by decide +kernel) ?_
 refine yd9 3 (by simp [reA,he,hk,htk,maxLen];rfl) rfl ?_
 refine yv9 (by simp) (by first | (simp;done) | (simp;rfl)) (cmp106_sound e.key k) (by simp;rfl) ?_
 refine yb9 (by simp;rfl) ?_
 refine yj9 ?_
 repeat (first | refine yp9 ?_ | refine ys9 ?_)
 simp [retQ]
abbrev ltE (a b:RE):Prop:=Op.bytesLess a.key b.key=true
theorem ogoE_iff : ∀ {l : List RE} {p : Option (List UInt8)}, ogoE p l = true ↔ (∀ e ∈ l, symM (nmM e.key) = true) ∧ l.Pairwise ltE ∧ (∀ k, p = some k → ∀ e ∈ l, Op.bytesLess k e.key = true)
 | [],p=>by simp [ogoE]
 | e :: l,p=>by
  rw [show ogoE p (e :: l)=(symM (nmM e.key)&&((match p with | none=>true | some k=>Op.bytesLess k e.key)&&ogoE (some e.key) l)) by cases p <;> rfl,Bool.and_eq_true,Bool.and_eq_true,ogoE_iff (p:=some e.key),List.pairwise_cons]
  constructor
  ·rintro ⟨h1, h2, h3, h4, h5⟩
   refine ⟨fun x hx=>?_,⟨fun x hx=>h5 _ rfl x hx,h4⟩,fun k hk x hx=>?_⟩
   ·rcases List.mem_cons.1 hx with rfl | hx
    ·exact h1
    ·exact h3 x hx
   ·subst hk
    rcases List.mem_cons.1 hx with rfl | hx
    ·exact h2
    ·exact ul9 h2 (h5 _ rfl x hx)
  ·rintro ⟨h1, ⟨h2, h3⟩, h4⟩
   refine ⟨h1 e List.mem_cons_self,?_,fun x hx=>h1 x (List.mem_cons_of_mem _ hx),h3,fun k hk x hx=>?_⟩
   ·cases p with
    | none=>rfl
    | some k=>exact h4 k rfl e List.mem_cons_self
   ·cases hk
    exact h2 x hx
theorem ul8 {l:List RE}:ordE l=true ↔ (∀ e∈l,symM (nmM e.key)=true)∧l.Pairwise ltE:=by
 rw [ordE,ogoE_iff]
 constructor
 ·rintro ⟨h1,h2,_⟩;exact ⟨h1,h2⟩
 ·rintro ⟨h1,h2⟩;exact ⟨h1,h2,fun k hk=>by cases hk⟩
def posE (l:List RE) (k:List UInt8):Nat:=(l.takeWhile fun e=>Op.bytesLess e.key k).length
def fndE (l:List RE) (k:List UInt8):Bool:=match l[posE l k]? with | some e=>e.key == k | none=>false
def insE (l:List RE) (e:RE):List RE:=l.take (posE l e.key)++e :: l.drop (posE l e.key+if fndE l e.key then 1 else 0)
def ym6 (l:List RE) (k:List UInt8):Option RE:=l.find? fun e=>e.key == k
theorem posE_le (l:List RE) (k:List UInt8):posE l k≤l.length:=(List.takeWhile_sublist _).length_le
theorem vj8 : ∀ {l : List RE} (k : List UInt8), l.Pairwise ltE → (∀ e ∈ l.take (posE l k), Op.bytesLess e.key k = true) ∧ (∀ e ∈ l.drop (posE l k), Op.bytesLess e.key k = false)
 | [],k,_=>by simp
 | x :: l,k,h=>by
  rw [List.pairwise_cons] at h
  unfold posE
  rw [List.takeWhile_cons]
  cases hx:Op.bytesLess x.key k with
  | true =>
   have ih:=vj8 k h.2
   unfold posE at ih
   simp only [if_true,List.length_cons,List.take_succ_cons,List.drop_succ_cons]
   refine ⟨fun e he=>?_,ih.2⟩
   rcases List.mem_cons.1 he with rfl | he
   ·exact hx
   ·exact ih.1 e he
  | false =>
   simp only [if_neg (show ¬ (false=true) by decide),List.length_nil,List.take_zero,List.drop_zero]
   refine ⟨by simp,fun e he=>?_⟩
   rcases List.mem_cons.1 he with rfl | he
   ·exact hx
   ·cases hk:Op.bytesLess e.key k with
    | false=>rfl
    | true=>rw [ul9 (h.1 e he) hk] at hx;cases hx
theorem pw_drop {l:List RE} (h:l.Pairwise ltE) (n:Nat):(l.drop n).Pairwise ltE:=h.sublist (List.drop_sublist _ _)
theorem pw_take {l:List RE} (h:l.Pairwise ltE) (n:Nat):(l.take n).Pairwise ltE:=h.sublist (List.take_sublist _ _)
theorem get_mem {α:Type} {l:List α} {i:Nat} {x:α} (h:l[i]?=some x):x∈l:=List.mem_of_getElem? h
theorem vb9 {α:Type} {l:List α} {i:Nat} {x:α} (h:l[i]?=some x):l.drop i=x :: l.drop (i+1):=by
 obtain ⟨h1,h2⟩:=List.getElem?_eq_some_iff.1 h
 rw [List.drop_eq_getElem_cons h1,h2]
theorem fnd_iff {l:List RE} (h:l.Pairwise ltE) (k:List UInt8):fndE l k=true ↔ ∃ e∈l,e.key=k:=by
 unfold fndE
 constructor
 ·intro hf
  split at hf
  ·rename_i e he
   exact ⟨e,get_mem he,by simpa using hf⟩
  ·cases hf
 ·rintro ⟨e, he, hk⟩
  obtain ⟨s1,s2⟩:=vj8 k h
  have he2:e∈l.drop (posE l k):=by
   rw [← List.take_append_drop (posE l k) l] at he
   rcases List.mem_append.1 he with he | he
   ·have:=s1 e he
    rw [hk,yw8] at this
    cases this
   ·exact he
  cases hg:l[posE l k]? with
  | none =>
   rw [List.getElem?_eq_none_iff] at hg
   rw [List.drop_eq_nil_of_le hg] at he2
   cases he2
  | some x =>
   rw [vb9 hg] at he2
   have hpw:=pw_drop h (posE l k)
   rw [vb9 hg,List.pairwise_cons] at hpw
   rcases List.mem_cons.1 he2 with rfl | he3
   ·simpa using hk
   ·have h1:=hpw.1 e he3
    have h2:=s2 x (by rw [vb9 hg];exact List.mem_cons_self)
    unfold ltE at h1
    rw [hk] at h1
    rw [h1] at h2
    cases h2
theorem ins_rest {l:List RE} (h:l.Pairwise ltE) (k:List UInt8):∀ b∈l.drop (posE l k+if fndE l k then 1 else 0),Op.bytesLess k b.key=true:=by
 intro b hb
 obtain ⟨s1,s2⟩:=vj8 k h
 cases hf:fndE l k with
 | true =>
  rw [hf] at hb
  simp only [if_true] at hb
  have hf':=hf
  unfold fndE at hf'
  split at hf'
  ·rename_i x hx
   have hpw:=pw_drop h (posE l k)
   rw [vb9 hx,List.pairwise_cons] at hpw
   have:=hpw.1 b hb
   unfold ltE at this
   rwa [beq_iff_eq.1 hf'] at this
  ·cases hf'
 | false =>
  rw [hf] at hb
  simp only [if_neg (show ¬ (false=true) by decide),Nat.add_zero] at hb
  refine less_tot (s2 b hb) fun he=>?_
  have:=(fnd_iff h k).2 ⟨b,List.mem_of_mem_drop hb,he⟩
  rw [hf] at this
  cases this
theorem ord_ins {l:List RE} (h:ordE l=true) {e:RE} (he:symM (nmM e.key)=true):ordE (insE l e)=true:=by
 rw [ul8] at h ⊢
 obtain ⟨h1,h2⟩:=h
 obtain ⟨s1,s2⟩:=vj8 e.key h2
 have s3:=ins_rest h2 e.key
 refine ⟨fun x hx=>?_,?_⟩
 ·unfold insE at hx
  rcases List.mem_append.1 hx with hx | hx
  ·exact h1 x (List.mem_of_mem_take hx)
  ·rcases List.mem_cons.1 hx with rfl | hx
   ·exact he
   ·exact h1 x (List.mem_of_mem_drop hx)
 ·unfold insE
  rw [List.pairwise_append,List.pairwise_cons]
  refine ⟨pw_take h2 _,⟨fun b hb=>s3 b hb,pw_drop h2 _⟩,fun a ha b hb=>?_⟩
  have ha1:=s1 a ha
  rcases List.mem_cons.1 hb with rfl | hb
  ·exact ha1
  ·exact ul9 ha1 (s3 b hb)
theorem mem_ins {l:List RE} (h:l.Pairwise ltE) (e x:RE):x∈insE l e ↔ x=e∨(x∈l∧x.key≠e.key):=by
 obtain ⟨s1,s2⟩:=vj8 e.key h
 have s3:=ins_rest h e.key
 unfold insE
 rw [List.mem_append,List.mem_cons]
 constructor
 ·rintro (hx | rfl | hx)
  ·refine .inr ⟨List.mem_of_mem_take hx,fun hk=>?_⟩
   have:=s1 x hx
   rw [hk,yw8] at this
   cases this
  ·exact .inl rfl
  ·refine .inr ⟨List.mem_of_mem_drop hx,fun hk=>?_⟩
   have:=s3 x hx
   rw [hk,yw8] at this
   cases this
 ·rintro (rfl | ⟨hx, hk⟩)
  ·exact .inr (.inl rfl)
  ·rw [← List.take_append_drop (posE l e.key) l] at hx
   rcases List.mem_append.1 hx with hx | hx
   ·exact .inl hx
   ·refine .inr (.inr ?_)
    cases hf:fndE l e.key with
    | false=>simpa using hx
    | true =>
     have hf':=hf
     unfold fndE at hf'
     split at hf'
     ·rename_i y hy
      rw [vb9 hy] at hx
      rcases List.mem_cons.1 hx with rfl | hx
      ·exact absurd (by simpa using hf') hk
      ·simpa using hx
     ·cases hf'
theorem ins_len {l:List RE} (e:RE):(insE l e).length=l.length+if fndE l e.key then 0 else 1:=by
 have hp:=posE_le l e.key
 unfold insE
 rw [List.length_append,List.length_take,List.length_cons,List.length_drop]
 cases hf:fndE l e.key with
 | false =>
  simp only [if_neg (show ¬ (false=true) by decide)]
  omega
 | true =>
  simp only [if_true]
  have:posE l e.key < l.length:=by
   unfold fndE at hf
   split at hf
   ·rename_i x hx
    exact (List.getElem?_eq_some_iff.1 hx).1
   ·cases hf
  omega
theorem uniq {l:List RE} (h:l.Pairwise ltE) {a b:RE} (ha:a∈l) (hb:b∈l) (hk:a.key=b.key):a=b:=by
 induction l with
 | nil=>cases ha
 | cons x l ih =>
  rw [List.pairwise_cons] at h
  rcases List.mem_cons.1 ha with e1 | h1 <;> rcases List.mem_cons.1 hb with e2 | h2
  ·rw [e1,e2]
  ·have:=h.1 b h2;unfold ltE at this;rw [← e1,hk,yw8] at this;cases this
  ·have:=h.1 a h1;unfold ltE at this;rw [← e2,hk,yw8] at this;cases this
  ·exact ih h.2 h1 h2
theorem find_iff {l:List RE} (h:l.Pairwise ltE) (k:List UInt8) (x:RE):ym6 l k=some x ↔ x∈l∧x.key=k:=by
 unfold ym6
 constructor
 ·intro hf
  exact ⟨List.mem_of_find?_eq_some hf,by simpa using List.find?_some hf⟩
 ·rintro ⟨hx, hk⟩
  cases hf:l.find? fun e=>e.key == k with
  | none =>
   rw [List.find?_eq_none] at hf
   exact absurd (by simpa using hk) (hf x hx)
  | some y =>
   rw [uniq h hx (List.mem_of_find?_eq_some hf) (by rw [hk];exact (by simpa using List.find?_some hf:y.key=k).symm)]
theorem find_none {l:List RE} (k:List UInt8):ym6 l k=none ↔ ∀ x∈l,x.key≠k:=by
 unfold ym6
 rw [List.find?_eq_none]
 simp
theorem find_pos {l:List RE} (h:l.Pairwise ltE) (k:List UInt8):ym6 l k=if fndE l k then l[posE l k]? else none:=by
 cases hf:fndE l k with
 | true =>
  have hf':=hf
  unfold fndE at hf'
  split at hf'
  ·rename_i x hx
   rw [if_pos rfl,hx,find_iff h]
   exact ⟨get_mem hx,by simpa using hf'⟩
  ·cases hf'
 | false =>
  rw [if_neg (by decide),find_none]
  intro x hx hk
  rw [(fnd_iff h k).2 ⟨x,hx,hk⟩] at hf
  cases hf
def vv9 (t:List Rec) (n:Int):Option Nat:=t.findIdx? fun r=>r.R == n
def seqL : List Rec → Option (List (List UInt8))
 | []=>none
 | r :: L=>if r.bad=true∨r.key≠[] then none else if r.data=[] then some [] else (seqL L).map (r.data :: ·)
def fromE (t:List (List Rec)) (p k:Nat):List Rec:=(t.getD p []).drop k++(t.drop (p+1)).flatten
def seqE (t:List (List Rec)) (p:Nat) (n:Int):Option (List (List UInt8)) :=
 if p < t.length then (match vv9 (t.getD p []) n with | none=>none | some k=>seqL (fromE t p k)) else none
def nxR (t:List Rec):Int:=match t.getLast? with | none=>1 | some r=>r.R+1
def xc9 (t:List (List Rec)):List Rec:=t.getLast?.getD []
def wr1 (dir:Nat) (t:List (List Rec)) (b:List UInt8):List (List Rec) × (Nat × Int) :=
 if dir < t.length∧wc7 (xc9 t) ⟨nxR (xc9 t),[],b,false⟩=true then (t.dropLast++[xc9 t++[⟨nxR (xc9 t),[],b,false⟩]],(t.length - 1,nxR (xc9 t)))
 else (t++[[⟨1,[],b,false⟩]],(t.length,1))
def wrL (dir:Nat) (t:List (List Rec)) (L:List (List UInt8)):List (List Rec):=L.foldl (fun t b=>(wr1 dir t b).1) t
def wrE (dir:Nat) (t:List (List Rec)) (bs:List (List UInt8)):List (List Rec) × (Nat × Int):=(wrL dir t (bs++[[]]),(wr1 dir t (bs.headD [])).2)
structure WExt (t:List (List Rec)) (N:List Rec) (t':List (List Rec)):Prop where
 len:t.length≤t'.length
 flat:t'.flatten=t.flatten++N
 pre:∀ i,i < t.length→t.getD i [] <+: t'.getD i []
 take:∀ i,i < t.length→t'.take i=t.take i
theorem WExt.refl (t:List (List Rec)):WExt t [] t:=⟨Nat.le_refl _,by simp,fun i _=>List.prefix_rfl,fun i _=>rfl⟩
theorem WExt.trans {t u v:List (List Rec)} {N M:List Rec} (h:WExt t N u) (k:WExt u M v):WExt t (N++M) v where
 len:=Nat.le_trans h.len k.len
 flat:=by rw [k.flat,h.flat,List.append_assoc]
 pre i hi:=(h.pre i hi).trans (k.pre i (Nat.lt_of_lt_of_le hi h.len))
 take i hi:=by rw [k.take i (Nat.lt_of_lt_of_le hi h.len),h.take i hi]
theorem zn6 {t:List (List Rec)} (h:t≠[]):t=t.dropLast++[xc9 t]:=by
 unfold xc9
 rw [List.getLast?_eq_some_getLast h]
 exact (List.dropLast_concat_getLast h).symm
theorem wr1_ext (dir:Nat) (t:List (List Rec)) (b:List UInt8):WExt t [⟨(wr1 dir t b).2.2,[],b,false⟩] (wr1 dir t b).1:=by
 unfold wr1
 split
 ·rename_i hc
  have hne:t≠[]:=by intro h;rw [h] at hc;simp at hc
  have hs:=zn6 hne
  obtain ⟨D,hD⟩:∃ D,t.dropLast=D:=⟨_,rfl⟩
  obtain ⟨L,hL⟩:∃ L,xc9 t=L:=⟨_,rfl⟩
  rw [hD,hL] at hs ⊢
  simp only
  subst hs
  refine ⟨by simp,by simp,fun i hi=>?_,fun i hi=>?_⟩
  ·rw [List.length_append, List.length_singleton] at hi
   rw [List.getD_eq_getElem?_getD,List.getD_eq_getElem?_getD]
   by_cases h:i < D.length
   ·rw [List.getElem?_append_left h,List.getElem?_append_left h];exact List.prefix_rfl
   ·have:i=D.length:=by omega
    subst this
    simp
  ·rw [List.length_append,List.length_singleton] at hi
   rw [List.take_append_of_le_length (by omega),List.take_append_of_le_length (by omega)]
 ·refine ⟨by simp,by simp,fun i hi=>?_,fun i hi=>?_⟩
  ·rw [List.getD_eq_getElem?_getD,List.getD_eq_getElem?_getD,List.getElem?_append_left hi];exact List.prefix_rfl
  ·rw [List.take_append_of_le_length (by omega)]
theorem from_flat {t:List (List Rec)} {p k:Nat} (hp:p < t.length) (hk:k≤(t.getD p []).length):fromE t p k=t.flatten.drop ((t.take p).flatten.length+k):=by
 have e:t=t.take p++(t.getD p [] :: t.drop (p+1)):=by
  have:t[p]?=some (t.getD p []):=by rw [List.getD_eq_getElem?_getD,List.getElem?_eq_getElem hp];rfl
  rw [← vb9 this,List.take_append_drop]
 conv=>rhs;rw [e]
 rw [List.flatten_append,List.flatten_cons,List.take_append_of_le_length (by rw [List.length_take];omega),List.take_of_length_le (by rw [List.length_take];omega),← List.drop_drop,List.drop_left,List.drop_append_of_le_length hk]
 rfl
theorem qw6 {t:List Rec} {n:Int} {k:Nat} (h:vv9 t n=some k):k < t.length:=by
 unfold vv9 at h
 rw [List.findIdx?_eq_some_iff_findIdx_eq] at h
 exact h.1
set_option maxRecDepth 20000
theorem jf7 (a b:List UInt8):Sound Tryz.prog 102 [.lst .any 1 (byL a),.lst .any 1 (byL b)] (.v (.bool (decide (a=b)))):=by
 refine yc9 Tryz.func102 rfl (by decide +kernel) (by simp [Tryz.f102]) rfl rfl (rs:=[.tmp 4]) rfl ?_
 rw [show Tryz.f102.ntmps=10 from rfl]
 refine yr9 [0,1] (by simp;rfl) ?_
 refine yr9 [4] (by simp [strA];rfl) ?_
 refine yj9 ?_
 repeat (first | refine yp9 ?_ | refine ys9 ?_)
 simp [retQ]
 rw [Bool.eq_iff_iff];simp
set_option maxRecDepth 20000
theorem sameT_sound (a b:List Rec) (hl:a.length≤100000000):Sound Tryz.prog 51 [.lst .any 4 (trL a),.lst .any 4 (trL b)] (.v (.bool (decide (a=b)))):=by
 refine yc9 Tryz.func51 rfl (by decide +kernel) (by simp [Tryz.f51]) rfl rfl (rs:=[.tmp 4]) rfl ?_
 rw [show Tryz.f51.ntmps=27 from rfl]
 refine yr9 [0,1] (by simp;rfl) ?_
 refine yh9 ?_
 by_cases c:a.length=b.length
 rotate_left
 ·have hne:¬ a=b:=fun e=>c (by rw [e])
  refine W_cT [0,1,10] (by simp [ne_nat,c];rfl) rfl ?_
  refine yr9 [4] (by simp;rfl) ?_
  refine yj9 ?_
  repeat (first | refine yp9 ?_ | refine ys9 ?_)
  simp [retQ,hne]
 refine W_cF [0,1,10] (by simp [c];rfl) rfl ?_
 refine yg9 ?_
 refine yh9 ?_
 refine yr9 [0,1,5] (by simp;rfl) ?_
 refine yl9 ?_
 refine zf9 (fun k s=>∃ i:Nat,k=a.length - i∧i≤a.length∧a.take i=b.take i∧s=⟨27,[(0,.lst .any 4 (trL a)),(1,.lst .any 4 (trL b)),(5,.v (.int .i64 i))],[]⟩) (k:=a.length) ⟨0,by simp,by omega,by simp,by simp⟩ ?_
 rintro k s ⟨i,rfl,hi,hab,rfl⟩
 refine yh9 ?_
 refine yr9 [0,1,5,14] (by simp;rfl) ?_
 refine yt9 rfl (fun h=>?_) (fun h=>?_)
 ·refine yg9 ?_
  refine yh9 ?_
  refine yl9 ?_
  have hi2:i < a.length:=by simp at h;omega
  have hj2:i < b.length:=by omega
  have hi2':(i:Int) < a.length:=by omega
  have hj2':(i:Int) < b.length:=by omega
  obtain ⟨r,hr⟩:∃ r,a[i]?=some r:=⟨_,List.getElem?_eq_getElem hi2⟩
  obtain ⟨q,hq⟩:∃ q,b[i]?=some q:=⟨_,List.getElem?_eq_getElem hj2⟩
  have hr2:a[i]'hi2=r:=by rw [List.getElem?_eq_getElem hi2] at hr;exact Option.some.inj hr
  have hq2:b[i]'hj2=q:=by rw [List.getElem?_eq_getElem hj2] at hq;exact Option.some.inj hq
  have hst:=vk6 r q
  refine wr9 [0,1,5,26] mx (by decide +kernel) ?_
  refine yd9 8 (by simp [hi2,hi2',hj2,hj2',hr2,hq2];rfl) rfl ?_
  refine yv9 (by simp) (by first | (simp;done) | (simp;rfl)) hst (by simp;rfl) ?_
  by_cases e:r=q
  ·have wi:=w64 (n:=(i:Int)+1) (by omega) (by omega)
   refine yb9 (by simp [e];rfl) ?_
   refine yt9 rfl (fun h=>by simp at h) (fun h=>?_)
   refine yg9 ?_
   refine zr9 [0,1,5] (by simp [wi];rfl) ?_
   exact ⟨_,by omega,i+1,rfl,by omega,wb9 hr (by rw [hq,e]) hab,by simp⟩
  ·have hne:¬ a=b:=fun he=>e (by rw [he,hq] at hr;exact (Option.some.inj hr).symm)
   refine yb9 (by simp [e];rfl) ?_
   refine yt9 rfl (fun h=>?_) (fun h=>by simp at h)
   refine yr9 [4] (by simp;rfl) ?_
   refine yj9 ?_
   repeat (first | refine yp9 ?_ | refine ys9 ?_)
   simp [retQ,hne]
 refine zs9 ?_
 have hie:i=a.length:=by simp at h;omega
 have hEq:a=b:=by
  rw [hie,List.take_length] at hab
  rw [hab,c,List.take_length]
 refine yr9 [4] (by simp;rfl) ?_
 refine yj9 ?_
 repeat (first | refine yp9 ?_ | refine ys9 ?_)
 simp [retQ,hEq]
theorem sameTs_sound (a b:List (List Rec)) (hl:a.length≤100000000) (ht:∀ t∈a,t.length≤100000000):Sound Tryz.prog 16 [.lst .any 1 (arL a),.lst .any 1 (arL b)] (.v (.bool (decide (a=b)))):=by
 refine yc9 Tryz.func16 rfl (by decide +kernel) (by simp [Tryz.f16]) rfl rfl (rs:=[.tmp 4]) rfl ?_
 rw [show Tryz.f16.ntmps=27 from rfl]
 refine yr9 [0,1] (by simp;rfl) ?_
 refine yh9 ?_
 by_cases c:a.length=b.length
 rotate_left
 ·have hne:¬ a=b:=fun e=>c (by rw [e])
  refine W_cT [0,1,10] (by simp [ne_nat,c];rfl) rfl ?_
  refine yr9 [4] (by simp;rfl) ?_
  refine yj9 ?_
  repeat (first | refine yp9 ?_ | refine ys9 ?_)
  simp [retQ,hne]
 refine W_cF [0,1,10] (by simp [c];rfl) rfl ?_
 refine yg9 ?_
 refine yh9 ?_
 refine yr9 [0,1,5] (by simp;rfl) ?_
 refine yl9 ?_
 refine zf9 (fun k s=>∃ i:Nat,k=a.length - i∧i≤a.length∧a.take i=b.take i∧s=⟨27,[(0,.lst .any 1 (arL a)),(1,.lst .any 1 (arL b)),(5,.v (.int .i64 i))],[]⟩) (k:=a.length) ⟨0,by simp,by omega,by simp,by simp⟩ ?_
 rintro k s ⟨i,rfl,hi,hab,rfl⟩
 refine yh9 ?_
 refine yr9 [0,1,5,14] (by simp;rfl) ?_
 refine yt9 rfl (fun h=>?_) (fun h=>?_)
 ·refine yg9 ?_
  refine yh9 ?_
  refine yl9 ?_
  have hi2:i < a.length:=by simp at h;omega
  have hj2:i < b.length:=by omega
  have hi2':(i:Int) < a.length:=by omega
  have hj2':(i:Int) < b.length:=by omega
  obtain ⟨r,hr⟩:∃ r,a[i]?=some r:=⟨_,List.getElem?_eq_getElem hi2⟩
  obtain ⟨q,hq⟩:∃ q,b[i]?=some q:=⟨_,List.getElem?_eq_getElem hj2⟩
  have hr2:a[i]'hi2=r:=by rw [List.getElem?_eq_getElem hi2] at hr;exact Option.some.inj hr
  have hq2:b[i]'hj2=q:=by rw [List.getElem?_eq_getElem hj2] at hq;exact Option.some.inj hq
  have hst:=sameT_sound r q (ht r (List.mem_of_getElem? hr))
  refine wr9 [0,1,5,26] mx (by decide +kernel) ?_
  refine yd9 8 (by simp [hi2,hi2',hj2,hj2',hr2,hq2];rfl) rfl ?_
  refine yv9 (by simp) (by first | (simp;done) | (simp;rfl)) hst (by simp;rfl) ?_
  by_cases e:r=q
  ·have wi:=w64 (n:=(i:Int)+1) (by omega) (by omega)
   refine yb9 (by simp [e];rfl) ?_
   refine yt9 rfl (fun h=>by simp at h) (fun h=>?_)
   refine yg9 ?_
   refine zr9 [0,1,5] (by simp [wi];rfl) ?_
   exact ⟨_,by omega,i+1,rfl,by omega,wb9 hr (by rw [hq,e]) hab,by simp⟩
  ·have hne:¬ a=b:=fun he=>e (by rw [he,hq] at hr;exact (Option.some.inj hr).symm)
   refine yb9 (by simp [e];rfl) ?_
   refine yt9 rfl (fun h=>?_) (fun h=>by simp at h)
   refine yr9 [4] (by simp;rfl) ?_
   refine yj9 ?_
   repeat (first | refine yp9 ?_ | refine ys9 ?_)
   simp [retQ,hne]
 refine zs9 ?_
 have hie:i=a.length:=by simp at h;omega
 have hEq:a=b:=by
  rw [hie,List.take_length] at hab
  rw [hab,c,List.take_length]
 refine yr9 [4] (by simp;rfl) ?_
 refine yj9 ?_
 repeat (first | refine yp9 ?_ | refine ys9 ?_)
 simp [retQ,hEq]
set_option maxRecDepth 20000
theorem W_dpB {top:Bool} {kf:Nat} {P:Program} {code:Code} {Q:Exit→St→Prop} {s:St} (b:Nat) {ty:TypeId} {cs:List AV} (hb:s.h[b]?=some (.cells ty cs)) (h:Wt top kf P code Q ⟨s.n,s.fr,s.h.set b (.cells ty (AV.dpL cs))⟩):Wt top kf P code Q s:=by
 refine W_conv (fun c w a hs=>?_) h
 refine ⟨hs.n,hs.base,hs.fr,⟨by simp only [List.length_set];exact hs.h.no,hs.h.lt,hs.h.inj,fun i o hi=>?_⟩,hs.dfr⟩
 simp only at hi
 rw [List.getElem?_set] at hi
 split at hi
 ·rename_i e
  subst e
  split at hi
  ·cases hi
   obtain ⟨h1,h2,h3,cur,h4,h5,h6⟩:=hs.h.obj b _ hb
   refine ⟨h1,h2,h3,cur,h4,by rw [wd9];exact h5,fun j y hj=>?_⟩
   rw [wk8] at hj
   obtain ⟨x,hx,rfl⟩:=Option.map_eq_some_iff.1 hj
   obtain ⟨k1,_,k3⟩:=h6 j x hx
   exact ⟨k1.dp,.none (AV.tl_dp _),k3⟩
  ·cases hi
 ·exact hs.h.obj i o hi
def recC (r:Rec):List AV:=[.v (.int .i64 r.R),.lst .any 1 (byL r.key),.lst .any 1 (byL r.data),.v (.bool r.bad)]
theorem arL_cons (t:List Rec) (a:List (List Rec)):arL (t :: a)=.lst .any 4 (trL t) :: arL a:=rfl
end Go.AM
