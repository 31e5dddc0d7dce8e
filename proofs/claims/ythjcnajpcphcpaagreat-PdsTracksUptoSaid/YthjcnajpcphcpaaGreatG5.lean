/- Parts of the walk: C24PA C24PB R23G R23H R23I C24PC C24VA R31I C24B0. -/
import Derived.Test.YthjcnajpcphcpaaGreatG4
namespace Go.AM
open Go.RowKit Go.Proofs
set_option linter.unusedSimpArgs false
set_option linter.unusedVariables false
set_option maxHeartbeats 8000000
structure RE where
 key:List UInt8
 trk:Nat
 rn:Nat
 deriving DecidableEq
def padK (s:List UInt8):List UInt8:=enc1 s++List.replicate (8 - s.length) 64
def qq6 (d:List UInt8) (a:Nat):RE:=⟨(d.drop a).take 8,256 * (d.getD (a+8) 0).toNat+(d.getD (a+9) 0).toNat,(d.getD (a+10) 0).toNat⟩
def limE (d:List UInt8):Nat:=min (256 * (d.getD 0 0).toNat+(d.getD 1 0).toNat) d.length
def entsE (d:List UInt8):List RE:=(List.range ((limE d - 2) / 12)).map fun i=>qq6 d (2+12 * i)
def ogoE : Option (List UInt8) → List RE → Bool
 | _,[]=>true
 | p,e :: l=>symM (nmM e.key)&&((match p with | none=>true | some k=>Op.bytesLess k e.key)&&ogoE (some e.key) l)
def ordE (l:List RE):Bool:=ogoE none l
def zh7 (l:List RE) (n:Nat):List RE:=(l.drop (21 * n)).take 21
def entB (e:RE):List UInt8:=e.key++[UInt8.ofNat (e.trk / 256),UInt8.ofNat e.trk,UInt8.ofNat e.rn,0]
def kj9 (p:List RE):List UInt8:=(p.map entB).flatten
def dataE (p:List RE):List UInt8:=[0,UInt8.ofNat (2+12 * p.length)]++kj9 p++List.replicate (254 - 12 * p.length) 0
def ffL:List UInt8:=[255,255,255,255,255,255,255,255]
def keyE (l:List RE) (n:Nat):List UInt8:=if 21 * n+21 < l.length then (l.getD (21 * n+20) ⟨[],0,0⟩).key else ffL
def blkE (l:List RE) (n:Nat):Rec:=⟨((n % 6+1:Nat):Int),keyE l n,dataE (zh7 l n),false⟩
def layG (l:List RE) (i:Nat):List (List Rec):=(List.range ((i+5) / 6)).map fun j=>(((List.range i).drop (6 * j)).take 6).map (blkE l)
def ks9 (t:List Rec):Bool:=t.any fun r=>decide (r.key.length=8)
def dirT (t:List (List Rec)):List (List Rec):=t.takeWhile ks9
def rawE (rs:List Rec):List RE:=(rs.map fun r=>entsE r.data).flatten
def zg7 (t:List (List Rec)):Option (List RE × Nat) :=
 if (∀ r ∈ (dirT t).flatten, r.data.length = 256) ∧ 1 ≤ (dirT t).flatten.length ∧ (dirT t).flatten.length ≤ 64 ∧ ((dirT t).flatten.length + 5) / 6 = (dirT t).length ∧
   ordE (rawE (dirT t).flatten)=true∧layG (rawE (dirT t).flatten) (dirT t).flatten.length=dirT t
 then some (rawE (dirT t).flatten,(dirT t).flatten.length) else none
theorem ym6 (l:List UInt8):∃ k,l=wh8 l++List.replicate k 64:=by
 have h:=List.takeWhile_append_dropWhile (p:=(· == (64:UInt8))) (l:=l.reverse)
 have ht:∀ x∈l.reverse.takeWhile (· == (64:UInt8)),x=64:=by
  intro x hx
  have:=List.all_eq_true.1 (List.all_takeWhile (p:=(· == (64:UInt8))) (l:=l.reverse)) x hx
  simpa using this
 refine ⟨(l.reverse.takeWhile (· == (64:UInt8))).length,?_⟩
 have h2:=congrArg List.reverse h
 rw [List.reverse_append,List.reverse_reverse] at h2
 rw [wh8]
 refine h2.symm.trans ?_
 congr 1
 rw [List.eq_replicate_iff.2 ⟨rfl,ht⟩,List.reverse_replicate,List.length_replicate]
theorem okB_dec (b:UInt8) (h:okB (dec1 b)=true):(cdM (dec1 b)).1=b:=by
 have:∀ n:Nat,n < 256→okB (dec1 (UInt8.ofNat n))=true→(cdM (dec1 (UInt8.ofNat n))).1=UInt8.ofNat n:=by decide +kernel
 have hh:=this b.toNat b.toNat_lt
 rw [UInt8.ofNat_toNat] at hh
 exact hh h
theorem vp9 {s:List UInt8} (h:symM s=true):s.all okB=true∧1≤s.length∧s.length≤8:=by
 simp only [symM,Bool.and_eq_true,decide_eq_true_eq] at h
 exact ⟨h.2.2.2,h.1,h.2.1⟩
theorem qt7 {k:List UInt8} (hk:k.length=8) (h:symM (nmM k)=true):padK (nmM k)=k:=by
 obtain ⟨ha,h1,h8⟩:=vp9 h
 obtain ⟨n,hn⟩:=ym6 k
 have e1:enc1 (nmM k)=wh8 k:=by
  rw [nmM,decM,enc1,List.map_map]
  conv=>rhs;rw [← List.map_id (wh8 k)]
  apply List.map_congr_left
  intro b hb
  refine okB_dec b (List.all_eq_true.1 ha _ ?_)
  rw [nmM,decM]
  exact List.mem_map.2 ⟨b,hb,rfl⟩
 have e2:(nmM k).length=(wh8 k).length:=by rw [nmM,decM,List.length_map]
 have e3:k.length=(wh8 k).length+n:=by
  conv=>lhs;rw [hn]
  simp
 rw [padK,e1,e2,show 8 - (wh8 k).length=n by omega]
 exact hn.symm
theorem jg8 {s:List UInt8} (h:symM s=true):nmM (padK s)=s:=by
 exact nmM_enc (vp9 h).1 (8 - s.length)
theorem um9 {s:List UInt8} (h:s.length≤8):(padK s).length=8:=by
 rw [padK,List.length_append,yg7,List.length_replicate]
 omega
theorem ug9:∀ a:List UInt8,Op.bytesLess a a=false:=by
 intro a
 induction a with
 | nil=>rfl
 | cons x a ih=>simp [Op.bytesLess,ih]
theorem vc9 : ∀ {a b c : List UInt8}, Op.bytesLess a b = true → Op.bytesLess b c = true → Op.bytesLess a c = true
 | [],[],_,h,_=>by simp [Op.bytesLess] at h
 | [],_ :: _,[],_,h=>by simp [Op.bytesLess] at h
 | [],_ :: _,_ :: _,_,_=>by simp [Op.bytesLess]
 | _ :: _,[],_,h,_=>by simp [Op.bytesLess] at h
 | _ :: _,_ :: _,[],_,h=>by simp [Op.bytesLess] at h
 | x :: a,y :: b,z :: c,h1,h2=>by
  simp only [Op.bytesLess,Bool.or_eq_true,Bool.and_eq_true,decide_eq_true_eq,beq_iff_eq] at h1 h2 ⊢
  rcases h1 with h1 | ⟨h1,h1'⟩
  ·rcases h2 with h2 | ⟨h2,h2'⟩
   ·exact .inl (UInt8.lt_trans h1 h2)
   ·subst h2;exact .inl h1
  ·subst h1
   rcases h2 with h2 | ⟨h2,h2'⟩
   ·exact .inl h2
   ·exact .inr ⟨h2,vc9 h1' h2'⟩
theorem uf6 : ∀ {a b : List UInt8}, Op.bytesLess a b = false → a ≠ b → Op.bytesLess b a = true
 | [],[],_,h=>absurd rfl h
 | [],_ :: _,h,_=>by simp [Op.bytesLess] at h
 | _ :: _,[],_,_=>by simp [Op.bytesLess]
 | x :: a,y :: b,h1,h2=>by
  simp only [Op.bytesLess,Bool.or_eq_true,Bool.and_eq_true,decide_eq_true_eq,beq_iff_eq,Bool.or_eq_false_iff,decide_eq_false_iff_not,Bool.and_eq_false_iff,beq_eq_false_iff_ne] at h1 ⊢
  by_cases e:x=y
  ·subst e
   have:Op.bytesLess a b=false:=by rcases h1.2 with h | h;exact absurd rfl h;simpa using h
   exact .inr ⟨rfl,uf6 this (fun h=>h2 (by rw [h]))⟩
  ·exact .inl (UInt8.lt_of_le_of_ne (UInt8.not_lt.1 h1.1) (fun h=>e h.symm))
def okE (e:RE):Prop:=e.key.length=8∧e.trk < 65536∧e.rn < 256
theorem bodyE_cons (e:RE) (p:List RE):kj9 (e :: p)=entB e++kj9 p:=by simp [kj9]
theorem entB_len {e:RE} (h:e.key.length=8):(entB e).length=12:=by simp [entB,h]
theorem xp8 : ∀ {p : List RE}, (∀ e ∈ p, e.key.length = 8) → (kj9 p).length = 12 * p.length
 | [],_=>rfl
 | e :: p,h=>by
  rw [bodyE_cons,List.length_append,entB_len (h e List.mem_cons_self),xp8 (fun x hx=>h x (List.mem_cons_of_mem _ hx)),List.length_cons]
  omega
theorem dataE_len {p:List RE} (h:∀ e∈p,e.key.length=8) (hp:p.length≤21):(dataE p).length=256:=by
 rw [dataE,List.length_append,List.length_append,xp8 h,List.length_replicate]
 simp
 omega
theorem entsE_ok {d:List UInt8}:∀ e∈entsE d,okE e:=by
 intro e he
 obtain ⟨i,hi,rfl⟩:=List.mem_map.1 he
 rw [List.mem_range] at hi
 have hl:limE d≤d.length:=Nat.min_le_right _ _
 refine ⟨?_,?_,UInt8.toNat_lt _⟩
 ·rw [qq6,List.length_take,List.length_drop]
  omega
 ·have h1:=(d.getD (2+12 * i+8) 0).toNat_lt
  have h2:=(d.getD (2+12 * i+9) 0).toNat_lt
  show 256 * (d.getD (2+12 * i+8) 0).toNat+(d.getD (2+12 * i+9) 0).toNat < 65536
  omega
theorem entsE_len {d:List UInt8} (h:d.length=256):(entsE d).length≤21:=by
 have hl:limE d≤d.length:=Nat.min_le_right _ _
 rw [entsE,List.length_map,List.length_range]
 omega
theorem vh9 (l:List RE) (i:Nat):(layG l i).length=(i+5) / 6:=by simp [layG]
theorem keyE_len {l:List RE} (h:∀ e∈l,e.key.length=8) (n:Nat):(keyE l n).length=8:=by
 unfold keyE
 split
 ·rename_i hn
  rw [List.getD_eq_getElem?_getD,List.getElem?_eq_getElem (by omega)]
  exact h _ (List.getElem_mem _)
 ·rfl
theorem js8 {l:List RE} {n:Nat} {e:RE} (h:e∈zh7 l n):e∈l:=List.mem_of_mem_drop (List.mem_of_mem_take h)
theorem qw7 (l:List RE) (n:Nat):(zh7 l n).length≤21:=by rw [zh7,List.length_take];omega
theorem kb9 {α : Type} (p : α → Bool) : ∀ (l r : List α), (∀ x ∈ l, p x = true) → (l ++ r).takeWhile p = l ++ r.takeWhile p
 | [],r,_=>rfl
 | x :: l,r,h=>by
  rw [List.cons_append,List.takeWhile_cons,if_pos (h x List.mem_cons_self),kb9 p l r (fun y hy=>h y (List.mem_cons_of_mem _ hy))]
  rfl
theorem dirT_drop : ∀ t : List (List Rec), dirT (t.drop (dirT t).length) = []
 | []=>rfl
 | x :: t=>by
  unfold dirT
  rw [List.takeWhile_cons]
  cases h:ks9 x with
  | true=>exact dirT_drop t
  | false=>simp [h]
theorem yh7 : ∀ t : List (List Rec), t = dirT t ++ t.drop (dirT t).length
 | []=>rfl
 | x :: t=>by
  have:=yh7 t
  unfold dirT at this ⊢
  rw [List.takeWhile_cons]
  cases h:ks9 x with
  | true=>simpa using this
  | false=>rfl
structure ReadOk (t:List (List Rec)) (l:List RE) (n:Nat):Prop where
 ok:∀ e∈l,okE e
 ord:ordE l=true
 n1:1≤n
 n64:n≤64
 len:l.length≤21 * n
 eq:t=layG l n++t.drop ((n+5) / 6)
 rest:dirT (t.drop ((n+5) / 6))=[]
theorem jr8 : ∀ {rs : List Rec}, (∀ r ∈ rs, r.data.length = 256) → (rawE rs).length ≤ 21 * rs.length
 | [],_=>by simp [rawE]
 | r :: rs,h=>by
  have h1:=entsE_len (h r List.mem_cons_self)
  have h2:=jr8 (fun x hx=>h x (List.mem_cons_of_mem _ hx))
  unfold rawE at h2 ⊢
  rw [List.map_cons,List.flatten_cons,List.length_append,List.length_cons]
  omega
theorem rawE_ok {rs:List Rec}:∀ e∈rawE rs,okE e:=by
 intro e he
 obtain ⟨x,hx,hex⟩:=List.mem_flatten.1 he
 obtain ⟨r,_,rfl⟩:=List.mem_map.1 hx
 exact entsE_ok e hex
theorem read_inv {t:List (List Rec)} {l:List RE} {n:Nat} (h:zg7 t=some (l,n)):ReadOk t l n:=by
 unfold zg7 at h
 split at h
 ·rename_i hc
  obtain ⟨c1,c2,c3,c4,c5,c6⟩:=hc
  simp only [Option.some.injEq,Prod.mk.injEq] at h
  obtain ⟨rfl,rfl⟩:=h
  refine ⟨rawE_ok,c5,c2,c3,jr8 c1,?_,?_⟩
  ·rw [c6,c4];exact yh7 t
  ·rw [c4];exact dirT_drop t
 ·cases h
abbrev ltE (a b:RE):Prop:=Op.bytesLess a.key b.key=true
theorem ogoE_iff : ∀ {l : List RE} {p : Option (List UInt8)}, ogoE p l = true ↔ (∀ e ∈ l, symM (nmM e.key) = true) ∧ l.Pairwise ltE ∧ (∀ k, p = some k → ∀ e ∈ l, Op.bytesLess k e.key = true)
 | [],p=>by simp [ogoE]
 | e :: l,p=>by
  rw [show ogoE p (e :: l)=(symM (nmM e.key)&&((match p with | none=>true | some k=>Op.bytesLess k e.key)&&ogoE (some e.key) l)) by cases p <;> rfl,Bool.and_eq_true,Bool.and_eq_true,ogoE_iff (p:=some e.key),List.pairwise_cons]
  constructor
  ·rintro ⟨h1, h2, h3, h4, h5⟩
   refine ⟨fun x hx=>?_,⟨fun x hx=>h5 _ rfl x hx,h4⟩,fun k hk x hx=>?_⟩
   ·rcases List.mem_cons.1 hx with rfl | hx
    ·exact h1
    ·exact h3 x hx
   ·subst hk
    rcases List.mem_cons.1 hx with rfl | hx
    ·exact h2
    ·exact vc9 h2 (h5 _ rfl x hx)
  ·rintro ⟨h1, ⟨h2, h3⟩, h4⟩
   refine ⟨h1 e List.mem_cons_self,?_,fun x hx=>h1 x (List.mem_cons_of_mem _ hx),h3,fun k hk x hx=>?_⟩
   ·cases p with
    | none=>rfl
    | some k=>exact h4 k rfl e List.mem_cons_self
   ·cases hk
    exact h2 x hx
theorem ud8 {l:List RE}:ordE l=true ↔ (∀ e∈l,symM (nmM e.key)=true)∧l.Pairwise ltE:=by
 rw [ordE,ogoE_iff]
 constructor
 ·rintro ⟨h1,h2,_⟩;exact ⟨h1,h2⟩
 ·rintro ⟨h1,h2⟩;exact ⟨h1,h2,fun k hk=>by cases hk⟩
def posE (l:List RE) (k:List UInt8):Nat:=(l.takeWhile fun e=>Op.bytesLess e.key k).length
def fndE (l:List RE) (k:List UInt8):Bool:=match l[posE l k]? with | some e=>e.key == k | none=>false
def insE (l:List RE) (e:RE):List RE:=l.take (posE l e.key)++e :: l.drop (posE l e.key+if fndE l e.key then 1 else 0)
def findE (l:List RE) (k:List UInt8):Option RE:=l.find? fun e=>e.key == k
theorem posE_le (l:List RE) (k:List UInt8):posE l k≤l.length:=(List.takeWhile_sublist _).length_le
theorem vp8 : ∀ {l : List RE} (k : List UInt8), l.Pairwise ltE → (∀ e ∈ l.take (posE l k), Op.bytesLess e.key k = true) ∧ (∀ e ∈ l.drop (posE l k), Op.bytesLess e.key k = false)
 | [],k,_=>by simp
 | x :: l,k,h=>by
  rw [List.pairwise_cons] at h
  unfold posE
  rw [List.takeWhile_cons]
  cases hx:Op.bytesLess x.key k with
  | true =>
   have ih:=vp8 k h.2
   unfold posE at ih
   simp only [if_true,List.length_cons,List.take_succ_cons,List.drop_succ_cons]
   refine ⟨fun e he=>?_,ih.2⟩
   rcases List.mem_cons.1 he with rfl | he
   ·exact hx
   ·exact ih.1 e he
  | false =>
   simp only [if_neg (show ¬ (false=true) by decide),List.length_nil,List.take_zero,List.drop_zero]
   refine ⟨by simp,fun e he=>?_⟩
   rcases List.mem_cons.1 he with rfl | he
   ·exact hx
   ·cases hk:Op.bytesLess e.key k with
    | false=>rfl
    | true=>rw [vc9 (h.1 e he) hk] at hx;cases hx
theorem pw_drop {l:List RE} (h:l.Pairwise ltE) (n:Nat):(l.drop n).Pairwise ltE:=h.sublist (List.drop_sublist _ _)
theorem pw_take {l:List RE} (h:l.Pairwise ltE) (n:Nat):(l.take n).Pairwise ltE:=h.sublist (List.take_sublist _ _)
theorem get_mem {α:Type} {l:List α} {i:Nat} {x:α} (h:l[i]?=some x):x∈l:=List.mem_of_getElem? h
theorem vb9 {α:Type} {l:List α} {i:Nat} {x:α} (h:l[i]?=some x):l.drop i=x :: l.drop (i+1):=by
 obtain ⟨h1,h2⟩:=List.getElem?_eq_some_iff.1 h
 rw [List.drop_eq_getElem_cons h1,h2]
theorem fnd_iff {l:List RE} (h:l.Pairwise ltE) (k:List UInt8):fndE l k=true ↔ ∃ e∈l,e.key=k:=by
 unfold fndE
 constructor
 ·intro hf
  split at hf
  ·rename_i e he
   exact ⟨e,get_mem he,by simpa using hf⟩
  ·cases hf
 ·rintro ⟨e, he, hk⟩
  obtain ⟨s1,s2⟩:=vp8 k h
  have he2:e∈l.drop (posE l k):=by
   rw [← List.take_append_drop (posE l k) l] at he
   rcases List.mem_append.1 he with he | he
   ·have:=s1 e he
    rw [hk,ug9] at this
    cases this
   ·exact he
  cases hg:l[posE l k]? with
  | none =>
   rw [List.getElem?_eq_none_iff] at hg
   rw [List.drop_eq_nil_of_le hg] at he2
   cases he2
  | some x =>
   rw [vb9 hg] at he2
   have hpw:=pw_drop h (posE l k)
   rw [vb9 hg,List.pairwise_cons] at hpw
   rcases List.mem_cons.1 he2 with rfl | he3
   ·simpa using hk
   ·have h1:=hpw.1 e he3
    have h2:=s2 x (by rw [vb9 hg];exact List.mem_cons_self)
    unfold ltE at h1
    rw [hk] at h1
    rw [h1] at h2
    cases h2
theorem ins_rest {l:List RE} (h:l.Pairwise ltE) (k:List UInt8):∀ b∈l.drop (posE l k+if fndE l k then 1 else 0),Op.bytesLess k b.key=true:=by
 intro b hb
 obtain ⟨s1,s2⟩:=vp8 k h
 cases hf:fndE l k with
 | true =>
  rw [hf] at hb
  simp only [if_true] at hb
  have hf':=hf
  unfold fndE at hf'
  split at hf'
  ·rename_i x hx
   have hpw:=pw_drop h (posE l k)
   rw [vb9 hx,List.pairwise_cons] at hpw
   have:=hpw.1 b hb
   unfold ltE at this
   rwa [beq_iff_eq.1 hf'] at this
  ·cases hf'
 | false =>
  rw [hf] at hb
  simp only [if_neg (show ¬ (false=true) by decide),Nat.add_zero] at hb
  refine uf6 (s2 b hb) fun he=>?_
  have:=(fnd_iff h k).2 ⟨b,List.mem_of_mem_drop hb,he⟩
  rw [hf] at this
  cases this
theorem ord_ins {l:List RE} (h:ordE l=true) {e:RE} (he:symM (nmM e.key)=true):ordE (insE l e)=true:=by
 rw [ud8] at h ⊢
 obtain ⟨h1,h2⟩:=h
 obtain ⟨s1,s2⟩:=vp8 e.key h2
 have s3:=ins_rest h2 e.key
 refine ⟨fun x hx=>?_,?_⟩
 ·unfold insE at hx
  rcases List.mem_append.1 hx with hx | hx
  ·exact h1 x (List.mem_of_mem_take hx)
  ·rcases List.mem_cons.1 hx with rfl | hx
   ·exact he
   ·exact h1 x (List.mem_of_mem_drop hx)
 ·unfold insE
  rw [List.pairwise_append,List.pairwise_cons]
  refine ⟨pw_take h2 _,⟨fun b hb=>s3 b hb,pw_drop h2 _⟩,fun a ha b hb=>?_⟩
  have ha1:=s1 a ha
  rcases List.mem_cons.1 hb with rfl | hb
  ·exact ha1
  ·exact vc9 ha1 (s3 b hb)
theorem mem_ins {l:List RE} (h:l.Pairwise ltE) (e x:RE):x∈insE l e ↔ x=e∨(x∈l∧x.key≠e.key):=by
 obtain ⟨s1,s2⟩:=vp8 e.key h
 have s3:=ins_rest h e.key
 unfold insE
 rw [List.mem_append,List.mem_cons]
 constructor
 ·rintro (hx | rfl | hx)
  ·refine .inr ⟨List.mem_of_mem_take hx,fun hk=>?_⟩
   have:=s1 x hx
   rw [hk,ug9] at this
   cases this
  ·exact .inl rfl
  ·refine .inr ⟨List.mem_of_mem_drop hx,fun hk=>?_⟩
   have:=s3 x hx
   rw [hk,ug9] at this
   cases this
 ·rintro (rfl | ⟨hx, hk⟩)
  ·exact .inr (.inl rfl)
  ·rw [← List.take_append_drop (posE l e.key) l] at hx
   rcases List.mem_append.1 hx with hx | hx
   ·exact .inl hx
   ·refine .inr (.inr ?_)
    cases hf:fndE l e.key with
    | false=>simpa using hx
    | true =>
     have hf':=hf
     unfold fndE at hf'
     split at hf'
     ·rename_i y hy
      rw [vb9 hy] at hx
      rcases List.mem_cons.1 hx with rfl | hx
      ·exact absurd (by simpa using hf') hk
      ·simpa using hx
     ·cases hf'
theorem ins_len {l:List RE} (e:RE):(insE l e).length=l.length+if fndE l e.key then 0 else 1:=by
 have hp:=posE_le l e.key
 unfold insE
 rw [List.length_append,List.length_take,List.length_cons,List.length_drop]
 cases hf:fndE l e.key with
 | false =>
  simp only [if_neg (show ¬ (false=true) by decide)]
  omega
 | true =>
  simp only [if_true]
  have:posE l e.key < l.length:=by
   unfold fndE at hf
   split at hf
   ·rename_i x hx
    exact (List.getElem?_eq_some_iff.1 hx).1
   ·cases hf
  omega
theorem uniq {l:List RE} (h:l.Pairwise ltE) {a b:RE} (ha:a∈l) (hb:b∈l) (hk:a.key=b.key):a=b:=by
 induction l with
 | nil=>cases ha
 | cons x l ih =>
  rw [List.pairwise_cons] at h
  rcases List.mem_cons.1 ha with e1 | h1 <;> rcases List.mem_cons.1 hb with e2 | h2
  ·rw [e1,e2]
  ·have:=h.1 b h2;unfold ltE at this;rw [← e1,hk,ug9] at this;cases this
  ·have:=h.1 a h1;unfold ltE at this;rw [← e2,hk,ug9] at this;cases this
  ·exact ih h.2 h1 h2
theorem find_iff {l:List RE} (h:l.Pairwise ltE) (k:List UInt8) (x:RE):findE l k=some x ↔ x∈l∧x.key=k:=by
 unfold findE
 constructor
 ·intro hf
  exact ⟨List.mem_of_find?_eq_some hf,by simpa using List.find?_some hf⟩
 ·rintro ⟨hx, hk⟩
  cases hf:l.find? fun e=>e.key == k with
  | none =>
   rw [List.find?_eq_none] at hf
   exact absurd (by simpa using hk) (hf x hx)
  | some y =>
   rw [uniq h hx (List.mem_of_find?_eq_some hf) (by rw [hk];exact (by simpa using List.find?_some hf:y.key=k).symm)]
theorem find_none {l:List RE} (k:List UInt8):findE l k=none ↔ ∀ x∈l,x.key≠k:=by
 unfold findE
 rw [List.find?_eq_none]
 simp
theorem find_pos {l:List RE} (h:l.Pairwise ltE) (k:List UInt8):findE l k=if fndE l k then l[posE l k]? else none:=by
 cases hf:fndE l k with
 | true =>
  have hf':=hf
  unfold fndE at hf'
  split at hf'
  ·rename_i x hx
   rw [if_pos rfl,hx,find_iff h]
   exact ⟨get_mem hx,by simpa using hf'⟩
  ·cases hf'
 | false =>
  rw [if_neg (by decide),find_none]
  intro x hx hk
  rw [(fnd_iff h k).2 ⟨x,hx,hk⟩] at hf
  cases hf
def kf9 (t:List Rec) (n:Int):Option Nat:=t.findIdx? fun r=>r.R == n
def seqL : List Rec → Option (List (List UInt8))
 | []=>none
 | r :: L=>if r.bad=true∨r.key≠[] then none else if r.data=[] then some [] else (seqL L).map (r.data :: ·)
def fromE (t:List (List Rec)) (p k:Nat):List Rec:=(t.getD p []).drop k++(t.drop (p+1)).flatten
def seqE (t:List (List Rec)) (p:Nat) (n:Int):Option (List (List UInt8)) :=
 if p < t.length then (match kf9 (t.getD p []) n with | none=>none | some k=>seqL (fromE t p k)) else none
def nxR (t:List Rec):Int:=match t.getLast? with | none=>1 | some r=>r.R+1
def zv9 (t:List (List Rec)):List Rec:=t.getLast?.getD []
def wr1 (dir:Nat) (t:List (List Rec)) (b:List UInt8):List (List Rec) × (Nat × Int) :=
 if dir < t.length∧yq7 (zv9 t) ⟨nxR (zv9 t),[],b,false⟩=true then (t.dropLast++[zv9 t++[⟨nxR (zv9 t),[],b,false⟩]],(t.length - 1,nxR (zv9 t)))
 else (t++[[⟨1,[],b,false⟩]],(t.length,1))
def wrL (dir:Nat) (t:List (List Rec)) (L:List (List UInt8)):List (List Rec):=L.foldl (fun t b=>(wr1 dir t b).1) t
def wrE (dir:Nat) (t:List (List Rec)) (bs:List (List UInt8)):List (List Rec) × (Nat × Int):=(wrL dir t (bs++[[]]),(wr1 dir t (bs.headD [])).2)
structure WExt (t:List (List Rec)) (N:List Rec) (t':List (List Rec)):Prop where
 len:t.length≤t'.length
 flat:t'.flatten=t.flatten++N
 pre:∀ i,i < t.length→t.getD i [] <+: t'.getD i []
 take:∀ i,i < t.length→t'.take i=t.take i
theorem WExt.refl (t:List (List Rec)):WExt t [] t:=⟨Nat.le_refl _,by simp,fun i _=>List.prefix_rfl,fun i _=>rfl⟩
theorem WExt.trans {t u v:List (List Rec)} {N M:List Rec} (h:WExt t N u) (k:WExt u M v):WExt t (N++M) v where
 len:=Nat.le_trans h.len k.len
 flat:=by rw [k.flat,h.flat,List.append_assoc]
 pre i hi:=(h.pre i hi).trans (k.pre i (Nat.lt_of_lt_of_le hi h.len))
 take i hi:=by rw [k.take i (Nat.lt_of_lt_of_le hi h.len),h.take i hi]
theorem zr7 {t:List (List Rec)} (h:t≠[]):t=t.dropLast++[zv9 t]:=by
 unfold zv9
 rw [List.getLast?_eq_some_getLast h]
 exact (List.dropLast_concat_getLast h).symm
theorem wr1_ext (dir:Nat) (t:List (List Rec)) (b:List UInt8):WExt t [⟨(wr1 dir t b).2.2,[],b,false⟩] (wr1 dir t b).1:=by
 unfold wr1
 split
 ·rename_i hc
  have hne:t≠[]:=by intro h;rw [h] at hc;simp at hc
  have hs:=zr7 hne
  obtain ⟨D,hD⟩:∃ D,t.dropLast=D:=⟨_,rfl⟩
  obtain ⟨L,hL⟩:∃ L,zv9 t=L:=⟨_,rfl⟩
  rw [hD,hL] at hs ⊢
  simp only
  subst hs
  refine ⟨by simp,by simp,fun i hi=>?_,fun i hi=>?_⟩
  ·rw [List.length_append, List.length_singleton] at hi
   rw [List.getD_eq_getElem?_getD,List.getD_eq_getElem?_getD]
   by_cases h:i < D.length
   ·rw [List.getElem?_append_left h,List.getElem?_append_left h];exact List.prefix_rfl
   ·have:i=D.length:=by omega
    subst this
    simp
  ·rw [List.length_append,List.length_singleton] at hi
   rw [List.take_append_of_le_length (by omega),List.take_append_of_le_length (by omega)]
 ·refine ⟨by simp,by simp,fun i hi=>?_,fun i hi=>?_⟩
  ·rw [List.getD_eq_getElem?_getD,List.getD_eq_getElem?_getD,List.getElem?_append_left hi];exact List.prefix_rfl
  ·rw [List.take_append_of_le_length (by omega)]
theorem from_flat {t:List (List Rec)} {p k:Nat} (hp:p < t.length) (hk:k≤(t.getD p []).length):fromE t p k=t.flatten.drop ((t.take p).flatten.length+k):=by
 have e:t=t.take p++(t.getD p [] :: t.drop (p+1)):=by
  have:t[p]?=some (t.getD p []):=by rw [List.getD_eq_getElem?_getD,List.getElem?_eq_getElem hp];rfl
  rw [← vb9 this,List.take_append_drop]
 conv=>rhs;rw [e]
 rw [List.flatten_append,List.flatten_cons,List.take_append_of_le_length (by rw [List.length_take];omega),List.take_of_length_le (by rw [List.length_take];omega),← List.drop_drop,List.drop_left,List.drop_append_of_le_length hk]
 rfl
theorem findT_lt {t:List Rec} {n:Int} {k:Nat} (h:kf9 t n=some k):k < t.length:=by
 unfold kf9 at h
 rw [List.findIdx?_eq_some_iff_findIdx_eq] at h
 exact h.1
set_option maxRecDepth 20000
theorem sameT_sound (a b:List Rec) (hl:a.length≤100000000):Sound Tryz.prog 51 [.lst .any 4 (trL a),.lst .any 4 (trL b)] (.v (.bool (decide (a=b)))):=by
 refine yc9 Tryz.func51 rfl (by decide +kernel) (by simp [Tryz.f51]) rfl rfl (rs:=[.tmp 4]) rfl ?_
 rw [show Tryz.f51.ntmps=27 from rfl]
 refine yr9 [0,1] (by simp;rfl) ?_
 refine yh9 ?_
 by_cases c:a.length=b.length
 rotate_left
 ·have hne:¬ a=b:=fun e=>c (by rw [e])
  refine W_cT [0,1,10] (by simp [ne_nat,c];rfl) rfl ?_
  refine yr9 [4] (by simp;rfl) ?_
  refine yj9 ?_
  repeat (first | refine yp9 ?_ | refine ys9 ?_)
  simp [retQ,hne]
 refine W_cF [0,1,10] (by simp [c];rfl) rfl ?_
 refine yg9 ?_
 refine yh9 ?_
 refine yr9 [0,1,5] (by simp;rfl) ?_
 refine yl9 ?_
 refine zj9 (fun k s=>∃ i:Nat,k=a.length - i∧i≤a.length∧a.take i=b.take i∧s=⟨27,[(0,.lst .any 4 (trL a)),(1,.lst .any 4 (trL b)),(5,.v (.int .i64 i))],[]⟩) (k:=a.length) ⟨0,by simp,by omega,by simp,by simp⟩ ?_
 rintro k s ⟨i,rfl,hi,hab,rfl⟩
 refine yh9 ?_
 refine yr9 [0,1,5,14] (by simp;rfl) ?_
 refine yt9 rfl (fun h=>?_) (fun h=>?_)
 ·refine yg9 ?_
  refine yh9 ?_
  refine yl9 ?_
  have hi2:i < a.length:=by simp at h;omega
  have hj2:i < b.length:=by omega
  have hi2':(i:Int) < a.length:=by omega
  have hj2':(i:Int) < b.length:=by omega
  obtain ⟨r,hr⟩:∃ r,a[i]?=some r:=⟨_,List.getElem?_eq_getElem hi2⟩
  obtain ⟨q,hq⟩:∃ q,b[i]?=some q:=⟨_,List.getElem?_eq_getElem hj2⟩
  have hr2:a[i]'hi2=r:=by rw [List.getElem?_eq_getElem hi2] at hr;exact Option.some.inj hr
  have hq2:b[i]'hj2=q:=by rw [List.getElem?_eq_getElem hj2] at hq;exact Option.some.inj hq
  have hst:=vp6 r q
  refine wk9 [0,1,5,26] mx (by decide +kernel) ?_
  refine yd9 8 (by simp [hi2,hi2',hj2,hj2',hr2,hq2];rfl) rfl ?_
  refine yv9 (by simp) (by first | (simp;done) | (simp;rfl)) hst (by simp;rfl) ?_
  by_cases e:r=q
  ·have wi:=w64 (n:=(i:Int)+1) (by omega) (by omega)
   refine yb9 (by simp [e];rfl) ?_
   refine yt9 rfl (fun h=>by simp at h) (fun h=>?_)
   refine yg9 ?_
   refine zr9 [0,1,5] (by simp [wi];rfl) ?_
   exact ⟨_,by omega,i+1,rfl,by omega,vg9 hr (by rw [hq,e]) hab,by simp⟩
  ·have hne:¬ a=b:=fun he=>e (by rw [he,hq] at hr;exact (Option.some.inj hr).symm)
   refine yb9 (by simp [e];rfl) ?_
   refine yt9 rfl (fun h=>?_) (fun h=>by simp at h)
   refine yr9 [4] (by simp;rfl) ?_
   refine yj9 ?_
   repeat (first | refine yp9 ?_ | refine ys9 ?_)
   simp [retQ,hne]
 refine zs9 ?_
 have hie:i=a.length:=by simp at h;omega
 have hEq:a=b:=by
  rw [hie,List.take_length] at hab
  rw [hab,c,List.take_length]
 refine yr9 [4] (by simp;rfl) ?_
 refine yj9 ?_
 repeat (first | refine yp9 ?_ | refine ys9 ?_)
 simp [retQ,hEq]
theorem sameTs_sound (a b:List (List Rec)) (hl:a.length≤100000000) (ht:∀ t∈a,t.length≤100000000):Sound Tryz.prog 16 [.lst .any 1 (arL a),.lst .any 1 (arL b)] (.v (.bool (decide (a=b)))):=by
 refine yc9 Tryz.func16 rfl (by decide +kernel) (by simp [Tryz.f16]) rfl rfl (rs:=[.tmp 4]) rfl ?_
 rw [show Tryz.f16.ntmps=27 from rfl]
 refine yr9 [0,1] (by simp;rfl) ?_
 refine yh9 ?_
 by_cases c:a.length=b.length
 rotate_left
 ·have hne:¬ a=b:=fun e=>c (by rw [e])
  refine W_cT [0,1,10] (by simp [ne_nat,c];rfl) rfl ?_
  refine yr9 [4] (by simp;rfl) ?_
  refine yj9 ?_
  repeat (first | refine yp9 ?_ | refine ys9 ?_)
  simp [retQ,hne]
 refine W_cF [0,1,10] (by simp [c];rfl) rfl ?_
 refine yg9 ?_
 refine yh9 ?_
 refine yr9 [0,1,5] (by simp;rfl) ?_
 refine yl9 ?_
 refine zj9 (fun k s=>∃ i:Nat,k=a.length - i∧i≤a.length∧a.take i=b.take i∧s=⟨27,[(0,.lst .any 1 (arL a)),(1,.lst .any 1 (arL b)),(5,.v (.int .i64 i))],[]⟩) (k:=a.length) ⟨0,by simp,by omega,by simp,by simp⟩ ?_
 rintro k s ⟨i,rfl,hi,hab,rfl⟩
 refine yh9 ?_
 refine yr9 [0,1,5,14] (by simp;rfl) ?_
 refine yt9 rfl (fun h=>?_) (fun h=>?_)
 ·refine yg9 ?_
  refine yh9 ?_
  refine yl9 ?_
  have hi2:i < a.length:=by simp at h;omega
  have hj2:i < b.length:=by omega
  have hi2':(i:Int) < a.length:=by omega
  have hj2':(i:Int) < b.length:=by omega
  obtain ⟨r,hr⟩:∃ r,a[i]?=some r:=⟨_,List.getElem?_eq_getElem hi2⟩
  obtain ⟨q,hq⟩:∃ q,b[i]?=some q:=⟨_,List.getElem?_eq_getElem hj2⟩
  have hr2:a[i]'hi2=r:=by rw [List.getElem?_eq_getElem hi2] at hr;exact Option.some.inj hr
  have hq2:b[i]'hj2=q:=by rw [List.getElem?_eq_getElem hj2] at hq;exact Option.some.inj hq
  have hst:=sameT_sound r q (ht r (List.mem_of_getElem? hr))
  refine wk9 [0,1,5,26] mx (by decide +kernel) ?_
  refine yd9 8 (by simp [hi2,hi2',hj2,hj2',hr2,hq2];rfl) rfl ?_
  refine yv9 (by simp) (by first | (simp;done) | (simp;rfl)) hst (by simp;rfl) ?_
  by_cases e:r=q
  ·have wi:=w64 (n:=(i:Int)+1) (by omega) (by omega)
   refine yb9 (by simp [e];rfl) ?_
   refine yt9 rfl (fun h=>by simp at h) (fun h=>?_)
   refine yg9 ?_
   refine zr9 [0,1,5] (by simp [wi];rfl) ?_
   exact ⟨_,by omega,i+1,rfl,by omega,vg9 hr (by rw [hq,e]) hab,by simp⟩
  ·have hne:¬ a=b:=fun he=>e (by rw [he,hq] at hr;exact (Option.some.inj hr).symm)
   refine yb9 (by simp [e];rfl) ?_
   refine yt9 rfl (fun h=>?_) (fun h=>by simp at h)
   refine yr9 [4] (by simp;rfl) ?_
   refine yj9 ?_
   repeat (first | refine yp9 ?_ | refine ys9 ?_)
   simp [retQ,hne]
 refine zs9 ?_
 have hie:i=a.length:=by simp at h;omega
 have hEq:a=b:=by
  rw [hie,List.take_length] at hab
  rw [hab,c,List.take_length]
 refine yr9 [4] (by simp;rfl) ?_
 refine yj9 ?_
 repeat (first | refine yp9 ?_ | refine ys9 ?_)
 simp [retQ,hEq]
set_option maxRecDepth 20000
theorem W_dpB {top:Bool} {kf:Nat} {P:Program} {code:Code} {Q:Exit→St→Prop} {s:St} (b:Nat) {ty:TypeId} {cs:List AV} (hb:s.h[b]?=some (.cells ty cs)) (h:Wt top kf P code Q ⟨s.n,s.fr,s.h.set b (.cells ty (AV.dpL cs))⟩):Wt top kf P code Q s:=by
 refine W_conv (fun c w a hs=>?_) h
 refine ⟨hs.n,hs.base,hs.fr,⟨by simp only [List.length_set];exact hs.h.no,hs.h.lt,hs.h.inj,fun i o hi=>?_⟩,hs.dfr⟩
 simp only at hi
 rw [List.getElem?_set] at hi
 split at hi
 ·rename_i e
  subst e
  split at hi
  ·cases hi
   obtain ⟨h1,h2,h3,cur,h4,h5,h6⟩:=hs.h.obj b _ hb
   refine ⟨h1,h2,h3,cur,h4,by rw [wf9];exact h5,fun j y hj=>?_⟩
   rw [wt8] at hj
   obtain ⟨x,hx,rfl⟩:=Option.map_eq_some_iff.1 hj
   obtain ⟨k1,_,k3⟩:=h6 j x hx
   exact ⟨k1.dp,.none (AV.tl_dp _),k3⟩
  ·cases hi
 ·exact hs.h.obj i o hi
def recC (r:Rec):List AV:=[.v (.int .i64 r.R),.lst .any 1 (byL r.key),.lst .any 1 (byL r.data),.v (.bool r.bad)]
theorem arL_cons (t:List Rec) (a:List (List Rec)):arL (t :: a)=.lst .any 4 (trL t) :: arL a:=rfl
set_option maxRecDepth 20000
def resT (p:List (List Rec) × Int):AV:=.tup [.lst (.tip 80 1) 1 (arL p.1),.v (.int .i64 p.2)]
theorem vgo_asc : ∀ {t : List Rec} {p : Option Int}, vgo p t = true → (∀ x, p = some x → ∀ r ∈ t, x < r.R) ∧ t.Pairwise (fun a b => a.R < b.R) ∧ ∀ r ∈ t, vrec r = true
 | [],p,_=>by simp
 | r :: t,p,h=>by
  rw [vm8,Bool.and_eq_true,Bool.and_eq_true] at h
  obtain ⟨⟨h1,h2⟩,h3⟩:=h
  obtain ⟨i1,i2,i3⟩:=vgo_asc h3
  have i1':=i1 r.R rfl
  refine ⟨fun x hx y hy=>?_,List.pairwise_cons.2 ⟨i1',i2⟩,fun y hy=>?_⟩
  ·subst hx
   have h2':x < r.R:=by simpa using h2
   rcases List.mem_cons.1 hy with rfl | hy
   ·exact h2'
   ·exact Int.lt_trans h2' (i1' y hy)
  ·rcases List.mem_cons.1 hy with rfl | hy
   ·exact h1
   ·exact i3 y hy
theorem wk6 {t:List Rec} (h:vtrk t=true):t.Pairwise (fun a b=>a.R < b.R)∧(∀ r∈t,vrec r=true)∧xm9 t≤2048:=by
 unfold vtrk at h
 rw [Bool.and_eq_true,decide_eq_true_eq] at h
 exact ⟨(vgo_asc h.1).2.1,(vgo_asc h.1).2.2,h.2⟩
theorem vrec_rng {r:Rec} (h:vrec r=true):1≤r.R∧r.R≤255:=by
 unfold vrec at h
 simp only [Bool.and_eq_true,decide_eq_true_eq] at h
 exact h.1
theorem find_new {L:List Rec} {r:Rec} (h:vtrk (L++[r])=true):kf9 (L++[r]) r.R=some L.length:=by
 obtain ⟨h1,_,_⟩:=wk6 h
 rw [List.pairwise_append] at h1
 unfold kf9
 rw [List.findIdx?_append]
 have e:L.findIdx? (fun x=>x.R == r.R)=none:=by
  rw [List.findIdx?_eq_none_iff]
  intro x hx
  have:=h1.2.2 x hx r (List.mem_singleton.2 rfl)
  simp only [beq_eq_false_iff_ne]
  omega
 rw [e]
 simp [List.findIdx?_cons]
theorem wr1_place (dir : Nat) (t : List (List Rec)) (b : List UInt8) : ∃ k, kf9 ((wr1 dir t b).1.getD (wr1 dir t b).2.1 []) (wr1 dir t b).2.2 = some k ∧ ((wr1 dir t b).1.take (wr1 dir t b).2.1).flatten.length + k = t.flatten.length ∧
  (wr1 dir t b).2.1+1=(wr1 dir t b).1.length∧(dir≤t.length→dir≤(wr1 dir t b).2.1)∧1≤(wr1 dir t b).2.2∧(wr1 dir t b).2.2≤255:=by
 unfold wr1
 split
 ·rename_i hc
  have hne:t≠[]:=by intro h;rw [h] at hc;simp at hc
  have hs:=zr7 hne
  obtain ⟨D,hD⟩:∃ D,t.dropLast=D:=⟨_,rfl⟩
  obtain ⟨L,hL⟩:∃ L,zv9 t=L:=⟨_,rfl⟩
  rw [hD,hL] at hs ⊢
  rw [hL,← vj7] at hc
  have hlen:t.length - 1=D.length:=by rw [hs];simp
  simp only
  rw [hlen]
  have hv:=(wk6 hc.2).2.1 _ (List.mem_append_right _ (List.mem_singleton.2 rfl))
  have hr:=vrec_rng hv
  refine ⟨L.length,?_,?_,by simp,fun h=>?_,hr.1,hr.2⟩
  ·rw [List.getD_eq_getElem?_getD,List.getElem?_append_right (Nat.le_refl _)]
   simp only [Nat.sub_self,List.getElem?_cons_zero,Option.getD_some]
   exact find_new hc.2
  ·rw [List.take_left,hs]
   simp
  ·rw [hs] at hc
   simp at hc
   omega
 ·refine ⟨0, ?_, ?_, by simp, fun h => h, by simp, by simp⟩
  ·rw [List.getD_eq_getElem?_getD,List.getElem?_append_right (Nat.le_refl _)]
   simp [kf9,List.findIdx?_cons]
  ·simp
theorem wrL_ext (dir : Nat) : ∀ (L : List (List UInt8)) (t : List (List Rec)), ∃ N, WExt t N (wrL dir t L) ∧ N.map (·.data) = L ∧ ∀ r ∈ N, r.key = [] ∧ r.bad = false
 | [],t=>⟨[],WExt.refl t,rfl,by simp⟩
 | b :: L,t=>by
  obtain ⟨N,h1,h2,h3⟩:=wrL_ext dir L (wr1 dir t b).1
  refine ⟨_,(wr1_ext dir t b).trans h1,by rw [List.map_append,h2];rfl,?_⟩
  intro r hr
  rcases List.mem_append.1 hr with hr | hr
  ·rw [List.mem_singleton.1 hr];exact ⟨rfl,rfl⟩
  ·exact h3 r hr
theorem wrE_ext (dir:Nat) (t:List (List Rec)) (bs:List (List UInt8)):∃ N,WExt t N (wrE dir t bs).1:=by
 obtain ⟨N,h,_,_⟩:=wrL_ext dir (bs++[[]]) t
 exact ⟨N,h⟩
theorem wrL_split (dir:Nat) (t:List (List Rec)) (bs:List (List UInt8)):∃ Ls,bs++[[]]=bs.headD [] :: Ls∧wrL dir t (bs++[[]])=wrL dir (wr1 dir t (bs.headD [])).1 Ls:=by
 cases bs with
 | nil=>exact ⟨[],rfl,rfl⟩
 | cons b bs=>exact ⟨bs++[[]],rfl,rfl⟩
theorem wl8 (dir:Nat) (t:List (List Rec)) (bs:List (List UInt8)) (h:dir≤t.length):dir≤(wrE dir t bs).2.1∧(wrE dir t bs).2.1 < (wrE dir t bs).1.length∧1≤(wrE dir t bs).2.2∧(wrE dir t bs).2.2≤255:=by
 obtain ⟨Ls,h1,h2⟩:=wrL_split dir t bs
 obtain ⟨k,p1,p2,p3,p4,p5,p6⟩:=wr1_place dir t (bs.headD [])
 obtain ⟨N,w1,_,_⟩:=wrL_ext dir Ls (wr1 dir t (bs.headD [])).1
 refine ⟨p4 h,?_,p5,p6⟩
 show (wr1 dir t (bs.headD [])).2.1 < (wrL dir t (bs++[[]])).length
 rw [h2]
 have:=w1.len
 omega
theorem lastT_app (D:List (List Rec)) {u:List (List Rec)} (h:u≠[]):zv9 (D++u)=zv9 u:=by
 unfold zv9
 rw [List.getLast?_append,List.getLast?_eq_some_getLast h]
 rfl
theorem wr1_front (D u:List (List Rec)) (b:List UInt8):wr1 D.length (D++u) b=(D++(wr1 0 u b).1,(D.length+(wr1 0 u b).2.1,(wr1 0 u b).2.2)):=by
 cases u with
 | nil=>simp [wr1]
 | cons x u =>
  have hl:=lastT_app D (u:=x :: u) (by simp)
  unfold wr1
  rw [hl]
  by_cases hf:yq7 (zv9 (x :: u)) ⟨nxR (zv9 (x :: u)),[],b,false⟩=true
  ·rw [if_pos ⟨by simp,hf⟩,if_pos ⟨by simp,hf⟩]
   rw [List.dropLast_append_of_ne_nil (by simp)]
   simp only [List.append_assoc,List.length_append,List.length_cons,Prod.mk.injEq,true_and,and_true]
   omega
  ·rw [if_neg (by simp [hf]),if_neg (by simp [hf])]
   simp
theorem wrL_front (D : List (List Rec)) : ∀ (L : List (List UInt8)) (u : List (List Rec)), wrL D.length (D ++ u) L = D ++ wrL 0 u L
 | [],u=>rfl
 | b :: L,u=>by
  show wrL D.length (wr1 D.length (D++u) b).1 L=D++wrL 0 (wr1 0 u b).1 L
  rw [wr1_front,wrL_front D L]
theorem wrE_front (D u:List (List Rec)) (bs:List (List UInt8)):wrE D.length (D++u) bs=(D++(wrE 0 u bs).1,(D.length+(wrE 0 u bs).2.1,(wrE 0 u bs).2.2)):=by
 unfold wrE
 rw [wrL_front,wr1_front]
theorem dirT_head {u:List (List Rec)}:dirT u=[] ↔ ∀ x,u.head?=some x→ks9 x=false:=by
 unfold dirT
 cases u with
 | nil=>simp
 | cons x u =>
  rw [List.takeWhile_cons]
  cases hk:ks9 x <;> simp [hk]
theorem wr1_open {u:List (List Rec)} {b:List UInt8} (h:dirT u=[]):dirT (wr1 0 u b).1=[]:=by
 rw [dirT_head] at h ⊢
 unfold wr1
 split
 ·rename_i hc
  have hne:u≠[]:=by intro h;rw [h] at hc;simp at hc
  have hs:=zr7 hne
  cases hd:u.dropLast with
  | nil =>
   rw [hd] at hs
   have hl:=h (zv9 u) (by rw [hs];rfl)
   intro x hx
   simp at hx
   subst hx
   unfold ks9 at hl ⊢
   rw [List.any_append,hl]
   rfl
  | cons y D =>
   rw [hd] at hs
   have hy:=h y (by rw [hs];rfl)
   intro x hx
   simp at hx
   subst hx
   exact hy
 ·intro x hx
  cases u with
  | nil=>simp at hx;subst hx;rfl
  | cons y u=>simp at hx;subst hx;exact h y rfl
theorem wrL_open : ∀ (L : List (List UInt8)) {u : List (List Rec)}, dirT u = [] → dirT (wrL 0 u L) = []
 | [],u,h=>h
 | b :: L,u,h=>wrL_open L (u:=(wr1 0 u b).1) (wr1_open h)
theorem wrE_open {u:List (List Rec)} {bs:List (List UInt8)} (h:dirT u=[]):dirT (wrE 0 u bs).1=[]:=wrL_open _ h
theorem lay_valid {l:List RE} (h:∀ e∈l,e.key.length=8) (n:Nat):∀ t∈layG l n,vtrk t=true:=by
 intro t ht
 obtain ⟨j,hj,rfl⟩:=List.mem_map.1 ht
 rw [List.mem_range] at hj
 have key:∀ (m a:Nat),a+m≤n→a % 6+m≤6→∀ p:Option Int,(∀ x,p=some x→x < (a % 6+1:Nat))→vgo p ((List.range' a m).map (blkE l))=true∧xm9 ((List.range' a m).map (blkE l))≤312 * m:=by
  intro m
  induction m with
  | zero=>intro a _ _ p _;exact ⟨by cases p <;> rfl,by simp [xm9]⟩
  | succ m ih =>
   intro a h1 h2 p hp
   rw [List.range'_succ,List.map_cons]
   have hv:vrec (blkE l a)=true:=by
    unfold vrec blkE
    simp only [Bool.and_eq_true,decide_eq_true_eq,keyE_len h]
    omega
   have hcost:vn9 (blkE l a)≤312:=by
    unfold vn9 blkE
    simp only [keyE_len h,dataE_len (fun x hx=>h x (js8 hx)) (qw7 l a)]
    split <;> omega
   have hm:vgo p (blkE l a :: (List.range' (a+1) m).map (blkE l))=vgo (some (blkE l a).R) ((List.range' (a+1) m).map (blkE l)):=by
    rw [vm8,hv,Bool.true_and]
    cases p with
    | none=>rw [Bool.true_and]
    | some x =>
     have hx:x < (blkE l a).R:=hp x rfl
     simp only [hx,decide_true,Bool.true_and]
   rw [hm]
   by_cases hm0:m=0
   ·subst hm0
    refine ⟨rfl,?_⟩
    simp [xm9]
    omega
   ·have h3 : (a + 1) % 6 = a % 6 + 1 := by omega
    obtain ⟨i1,i2⟩:=ih (a+1) (by omega) (by omega) (some (blkE l a).R) (fun x hx=>by
     cases hx
     show ((a % 6+1:Nat):Int) < (((a+1) % 6+1:Nat):Int)
     omega)
    refine ⟨i1,?_⟩
    have:xm9 (blkE l a :: (List.range' (a+1) m).map (blkE l))=vn9 (blkE l a)+xm9 ((List.range' (a+1) m).map (blkE l)):=by simp [xm9]
    rw [this]
    omega
 have e:((List.range n).drop (6 * j)).take 6=List.range' (6 * j) (min 6 (n - 6 * j)):=by
  apply List.ext_getElem?
  intro i
  rw [List.getElem?_take,List.getElem?_drop]
  by_cases hi:i < min 6 (n - 6 * j)
  ·rw [if_pos (by omega),List.getElem?_range (by omega),List.getElem?_range' hi]
   simp
  ·rw [List.getElem?_eq_none (l:=List.range' _ _) (by simpa using hi)]
   split
   ·rw [List.getElem?_eq_none (by simp;omega)]
   ·rfl
 rw [e]
 obtain ⟨k1,k2⟩:=key (min 6 (n - 6 * j)) (6 * j) (by omega) (by omega) none (fun x hx=>by cases hx)
 unfold vtrk
 rw [k1,Bool.true_and,decide_eq_true_eq]
 omega
theorem wr1_validD (dir:Nat) {u:List (List Rec)} {b:List UInt8} (h:∀ x∈u,vtrk x=true) (hb:b.length≤1024):∀ x∈(wr1 dir u b).1,vtrk x=true:=by
 have h1:vtrk [⟨1,[],b,false⟩]=true:=by
  unfold vtrk vgo
  simp [vrec,xm9,vn9,vgo]
  omega
 unfold wr1
 split
 ·rename_i hc
  intro x hx
  rcases List.mem_append.1 hx with hx | hx
  ·exact h x (List.dropLast_subset _ hx)
  ·rw [List.mem_singleton.1 hx,vj7];exact hc.2
 ·intro x hx
  rcases List.mem_append.1 hx with hx | hx
  ·exact h x hx
  ·rw [List.mem_singleton.1 hx];exact h1
theorem vb8 (dir : Nat) : ∀ {L : List (List UInt8)} {u : List (List Rec)}, (∀ x ∈ u, vtrk x = true) → (∀ b ∈ L, b.length ≤ 1024) → ∀ x ∈ wrL dir u L, vtrk x = true
 | [],u,h,_=>h
 | b :: L,u,h,hb=>vb8 dir (u:=(wr1 dir u b).1) (wr1_validD dir h (hb b List.mem_cons_self)) (fun x hx=>hb x (List.mem_cons_of_mem _ hx))
theorem yn7 (dir:Nat) {u:List (List Rec)} {bs:List (List UInt8)} (h:∀ x∈u,vtrk x=true) (hb:∀ b∈bs,b.length≤1024):∀ x∈(wrE dir u bs).1,vtrk x=true:=by
 refine vb8 dir h fun b hb'=>?_
 rcases List.mem_append.1 hb' with h1 | h1
 ·exact hb b h1
 ·rw [List.mem_singleton.1 h1];simp
theorem wr1_len (dir:Nat) (t:List (List Rec)) (b:List UInt8):(wr1 dir t b).1.length≤t.length+1:=by
 unfold wr1
 split
 ·rename_i hc
  have:t≠[]:=by intro h;rw [h] at hc;simp at hc
  have:=List.length_pos_iff.2 this
  simp
 ·simp
theorem wf6 (dir : Nat) : ∀ (L : List (List UInt8)) (t : List (List Rec)), (wrL dir t L).length ≤ t.length + L.length
 | [],t=>by simp [wrL]
 | b :: L,t=>by
  have h1:=wf6 dir L (wr1 dir t b).1
  have h2:=wr1_len dir t b
  show (wrL dir (wr1 dir t b).1 L).length≤_
  simp
  omega
theorem wrE_len (dir:Nat) (t:List (List Rec)) (bs:List (List UInt8)):(wrE dir t bs).1.length≤t.length+bs.length+1:=by
 have:=wf6 dir (bs++[[]]) t
 simp at this
 unfold wrE
 dsimp only
 omega
theorem wrL_snoc (dir:Nat) (t:List (List Rec)) (L:List (List UInt8)) (b:List UInt8):wrL dir t (L++[b])=(wr1 dir (wrL dir t L) b).1:=by
 unfold wrL
 rw [List.foldl_append]
 rfl
theorem cost_ge (r:Rec):32+r.data.length+r.key.length≤vn9 r+0:=by
 unfold vn9
 split
 ·rename_i h;rw [h];simp
 ·omega
theorem used_mem : ∀ {t : List Rec} {r : Rec}, r ∈ t → vn9 r ≤ xm9 t
 | [],r,h=>by simp at h
 | q :: t,r,h=>by
  have e:xm9 (q :: t)=vn9 q+xm9 t:=by simp [xm9]
  rcases List.mem_cons.1 h with rfl | h
  ·omega
  ·have:=used_mem h;omega
theorem used_len : ∀ t : List Rec, 32 * t.length ≤ xm9 t
 | []=>by simp
 | q :: t=>by
  have e:xm9 (q :: t)=vn9 q+xm9 t:=by simp [xm9]
  have:=used_len t
  have:=cost_ge q
  simp
  omega
theorem vn8 {t:List Rec} (h:vtrk t=true):t.length≤64∧(∀ r∈t,r.key.length≤2048∧r.data.length≤2048∧1≤r.R∧r.R≤255)∧trSm t:=by
 obtain ⟨_,hv,hu⟩:=wk6 h
 have h1:=used_len t
 have h2:∀ r∈t,r.key.length≤2048∧r.data.length≤2048∧1≤r.R∧r.R≤255:=by
  intro r hr
  have:=used_mem hr
  have:=cost_ge r
  have:=vrec_rng (hv r hr)
  omega
 exact ⟨by omega,h2,by omega,fun r hr=>⟨by have:=(h2 r hr).1;omega,by have:=(h2 r hr).2.1;omega⟩⟩
theorem nxR_vtrk {t:List Rec} (h:vtrk t=true):1≤nxR t∧nxR t≤256:=by
 unfold nxR
 cases hl:t.getLast? with
 | none=>exact ⟨by decide,by decide⟩
 | some r =>
  have:=(vn8 h).2.1 r (List.mem_of_getLast? hl)
  dsimp only
  omega
theorem yc7 {d:Dcb} {l bs:List (List UInt8)} (h:zg9 d l=(bs,0)):bs.length≤4096∧l.length≤4096∧zn9 d=0∧∀ b∈bs,b≠[]∧b.length≤1024:=by
 obtain ⟨hc,hl,gs,rfl,rfl,hg,_⟩:=blockM_groups h
 have h1:=ys8 hc
 have hb:∀ b∈gs.map (enc d),b≠[]∧b.length≤1024:=by
  intro b hb
  obtain ⟨g,hgm,rfl⟩:=List.mem_map.1 hb
  have hk:=hg g hgm
  have:=body_pos hc hk.ne hk.fit
  have:=hk.len
  refine ⟨?_,by omega⟩
  intro he
  have hz:(enc d g).length=0:=by rw [he];rfl
  unfold enc at hz
  split at hz
  ·simp at hz
  ·omega
 have hn:∀ gs:List (List (List UInt8)),(∀ x∈gs,GroupOk d x)→gs.length≤gs.flatten.length:=by
  intro gs
  induction gs with
  | nil=>intro _;simp
  | cons g gs ih =>
   intro h
   have h1:=ih fun x hx=>h x (List.mem_cons_of_mem _ hx)
   have h2:=List.length_pos_iff.2 (h g List.mem_cons_self).ne
   simp at h1 ⊢
   omega
 have:=hn gs hg
 exact ⟨by rw [List.length_map];omega,hl,hc,hb⟩
theorem lastT_mem {t:List (List Rec)} (h:t≠[]):zv9 t∈t:=by
 unfold zv9
 rw [List.getLast?_eq_some_getLast h]
 exact List.getLast_mem h
set_option maxRecDepth 20000
theorem table_sound:Sound Tryz.prog 148 [] (.lst (.tip 5 6) 1 (byL ql9)):=zt7 mx 50 (by kernel_rfl)
theorem rcode_sound (b:UInt8):Sound Tryz.prog 150 [.v (.int .u8 b.toNat)] (.tup [.v (.int .u8 (cdM b).1.toNat),.v (.bool (cdM b).2)]):=by
 refine yc9 Tryz.func150 rfl (by decide +kernel) (by simp [Tryz.f150]) rfl rfl (rs:=[.tmp 2,.tmp 3]) rfl ?_
 rw [show Tryz.f150.ntmps=15 from rfl]
 refine yr9 [0] (by simp;rfl) ?_
 refine yh9 ?_
 have hlt:=b.toNat_lt
 by_cases h1:b.toNat < 32
 ·have h1':(b.toNat:Int) < 32:=by omega
  refine W_cT [0,9] (by simp [h1,h1'];rfl) rfl ?_
  refine yr9 [2,3] (by simp;rfl) ?_
  refine yj9 ?_
  repeat (first | refine yp9 ?_ | refine ys9 ?_)
  simp [retQ,cdM,h1]
 have h1':¬ (b.toNat:Int) < 32:=by omega
 by_cases h2:126 < b.toNat
 ·have h2':(126:Int) < b.toNat:=by omega
  refine W_cT [0,9] (by simp [h1,h1',h2,h2'];rfl) rfl ?_
  refine yr9 [2,3] (by simp;rfl) ?_
  refine yj9 ?_
  repeat (first | refine yp9 ?_ | refine ys9 ?_)
  simp [retQ,cdM,h2]
 have h2':¬ (126:Int) < b.toNat:=by omega
 have w1:IntKind.u8.wrap ((b.toNat:Int) - 32)=((b.toNat - 32:Nat):Int):=by
  simp only [IntKind.wrap_u8]
  omega
 refine W_cF [0,9] (by simp [h1,h1',h2,h2'];rfl) rfl ?_
 refine yg9 ?_
 obtain ⟨k,hk⟩:∃ k,b.toNat - 32=k:=⟨_,rfl⟩
 have hk95:k < ql9.length:=by show k < 95;omega
 have hM:cdM b=(ql9[k],true):=by
  rw [cdM,if_neg (by omega),hk,List.getD_eq_getElem?_getD,List.getElem?_eq_getElem hk95];rfl
 rw [hk] at w1
 rw [hM]
 have hk95':(k:Int) < ql9.length:=by omega
 obtain ⟨L,hL⟩:∃ L,ql9=L:=⟨_,rfl⟩
 have htb:=table_sound
 simp only [hL] at htb hk95' ⊢
 have hkL:k < L.length:=by rw [← hL];exact hk95
 obtain ⟨cd,hcd⟩:∃ cd,L[k]'hkL=cd:=⟨_,rfl⟩
 refine W_rK [2,3] ?_
 refine yf9 (by simp) (by first | (simp;done) | (simp;rfl)) htb (by simp;rfl) ?_
 refine yw9 (by simp [w1,hkL,hk95',hcd];rfl) ?_
 refine yj9 ?_
 repeat (first | refine yp9 ?_ | refine ys9 ?_)
 simp [retQ,hcd]
def accB (x:AV) (D:List UInt8):Prop:=(D=[]∧x=.lst .nil 1 [])∨x=.lst (.tip 5 53) 1 (byL D)
set_option maxRecDepth 20000
theorem jm7 (l:List UInt8) (hl:l.length≤1000000) (hpos:1≤l.length) (hok0:yg6 l=true):Sound Tryz.prog 147 [strB l] (.tup [.lst (.tip 5 1) 1 (byL (enc1 l)),.v (.int .i64 0)]):=by
 refine xw9 Tryz.func147 rfl (by decide +kernel) (by simp [Tryz.f147]) rfl rfl (rs:=[.tmp 2,.tmp 3]) rfl ?_
 rw [show Tryz.f147.ntmps=28 from rfl]
 simp only [strB]
 refine yr9 [0] (by simp;rfl) ?_
 refine yr9 [0,4] (by simp;rfl) ?_
 refine yh9 ?_
 refine yr9 [0,4,5] (by simp;rfl) ?_
 refine yl9 ?_
 refine zj9 (fun k s => ∃ (i : Nat) (x : AV), k = l.length - i ∧ i ≤ l.length ∧ yg6 (l.take i) = true ∧ accB x (enc1 (l.take i)) ∧
  s=⟨28,[(0,.v (.string ⟨l.toArray⟩)),(4,x),(5,.v (.int .i64 (i:Nat)))],[]⟩) (k:=l.length) ⟨0,_,rfl,by omega,by simp [yg6],.inl ⟨rfl,rfl⟩,by simp⟩ ?_
 rintro k s ⟨i,x,rfl,hi,hok,hx,rfl⟩
 refine yh9 ?_
 by_cases c:i < l.length
 ·have ci : (i : Int) < l.length := by omega
  obtain ⟨b,hb⟩:∃ b,l[i]?=some b:=⟨_,List.getElem?_eq_getElem c⟩
  have hb2:l[i]'c=b:=by rw [List.getElem?_eq_getElem c] at hb;exact Option.some.inj hb
  have wi:=w64 (n:=(i:Int)+1) (by omega) (by omega)
  have hlen:(enc1 (l.take i)).length=i:=by simp [enc1];omega
  refine W_cT [0,4,5,11] (by simp [c];rfl) rfl ?_
  refine yg9 ?_
  refine yh9 ?_
  refine yl9 ?_
  refine W_rK [0,4,5,6,7] ?_
  refine yq9 3 (by simp [c,ci,hb,hb2];rfl) rfl ?_
  refine yf9 (by simp) (by first | (simp;done) | (simp;rfl)) (rcode_sound b) (by simp;rfl) ?_
  refine yw9 (by simp;rfl) ?_
  refine yh9 ?_
  cases hcd:(cdM b).2 with
  | false =>
   rw [encOk_false hb hcd] at hok0
   cases hok0
  | true =>
   have htk:yg6 (l.take (i+1))=true:=by
    rw [List.take_add_one,hb,yg6,List.all_append]
    simp only [Option.toList_some,List.all_cons,hcd,List.all_nil,Bool.and_self,Bool.and_true]
    exact hok
   have he:enc1 (l.take (i+1))=enc1 (l.take i)++[(cdM b).1]:=by rw [List.take_add_one,hb];simp [enc1]
   refine W_cF [0,4,5,6,22] (by simp [hcd];rfl) rfl ?_
   refine yg9 ?_
   have fin : ∃ k', k' < l.length - i ∧ ∃ (i' : Nat) (x : AV), k' = l.length - i' ∧ i' ≤ l.length ∧ yg6 (l.take i') = true ∧ accB x (enc1 (l.take i')) ∧
     (⟨28,[(0,.v (.string ⟨l.toArray⟩)),(4,.lst (.tip 5 53) 1 (byL (enc1 (l.take i)++[(cdM b).1]))),(5,.v (.int .i64 ((i:Int)+1)))],[]⟩:St)=⟨28,[(0,.v (.string ⟨l.toArray⟩)),(4,x),(5,.v (.int .i64 (i':Nat)))],[]⟩ :=
    ⟨_,by omega,i+1,_,rfl,by omega,htk,by rw [he];exact .inr rfl,by simp⟩
   rcases hx with ⟨h0,rfl⟩ | rfl
   ·rw [h0] at fin
    refine zr9 [0,4,5] (by simp [catK,AV.cellsK,AV.kone,AV.koneL];rfl) ?_
    refine zr9 [0,4,5] (by simp [wi];rfl) ?_
    simpa [byL] using fin
   ·refine zr9 [0,4,5] (by simp [catK,AV.cellsK,AV.kone,AV.koneL,hlen,show i+1≤140737488355328 by omega];rfl) ?_
    refine zr9 [0,4,5] (by simp [wi];rfl) ?_
    simpa [byL] using fin
 have hie:i=l.length:=by omega
 subst hie
 rw [List.take_length] at hok hx
 refine W_cF [0,4,5,11] (by simp;rfl) rfl ?_
 refine zs9 ?_
 rcases hx with ⟨h0,rfl⟩ | rfl
 ·have:=congrArg List.length h0
  simp [enc1] at this
  rw [this] at hpos
  simp at hpos
 ·refine yr9 [2,3] (by simp;rfl) ?_
  refine yj9 ?_
  repeat (first | refine yp9 ?_ | refine ys9 ?_)
  exact ⟨.tup [.lst (.tip 5 53) 1 (byL (enc1 l)),.v (.int .i64 0)],by simp [retQ],.norm fun T=>by simp⟩
end Go.AM
