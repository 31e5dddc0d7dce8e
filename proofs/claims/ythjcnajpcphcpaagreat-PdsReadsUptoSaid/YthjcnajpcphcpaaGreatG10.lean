/- Parts of the walk: C24PC C24VA C24TA C24TB C24U C24UA C24UC C24UB C24UD. -/
import Derived.Test.YthjcnajpcphcpaaGreatG9
namespace Go.AM
open Go.RowKit Go.Proofs
set_option linter.unusedSimpArgs false
set_option linter.unusedVariables false
set_option maxHeartbeats 8000000
theorem vgo_asc : ∀ {t : List Rec} {p : Option Int}, vgo p t = true → (∀ x, p = some x → ∀ r ∈ t, x < r.R) ∧ t.Pairwise (fun a b => a.R < b.R) ∧ ∀ r ∈ t, vrec r = true
 | [],p,_=>by simp
 | r :: t,p,h=>by
  rw [kv8,Bool.and_eq_true,Bool.and_eq_true] at h
  obtain ⟨⟨h1,h2⟩,h3⟩:=h
  obtain ⟨i1,i2,i3⟩:=vgo_asc h3
  have i1':=i1 r.R rfl
  refine ⟨fun x hx y hy=>?_,List.pairwise_cons.2 ⟨i1',i2⟩,fun y hy=>?_⟩
  ·subst hx
   have h2':x < r.R:=by simpa using h2
   rcases List.mem_cons.1 hy with rfl | hy
   ·exact h2'
   ·exact Int.lt_trans h2' (i1' y hy)
  ·rcases List.mem_cons.1 hy with rfl | hy
   ·exact h1
   ·exact i3 y hy
theorem vr6 {t:List Rec} (h:vtrk t=true):t.Pairwise (fun a b=>a.R < b.R)∧(∀ r∈t,vrec r=true)∧vj9 t≤2048:=by
 unfold vtrk at h
 rw [Bool.and_eq_true,decide_eq_true_eq] at h
 exact ⟨(vgo_asc h.1).2.1,(vgo_asc h.1).2.2,h.2⟩
theorem vrec_rng {r:Rec} (h:vrec r=true):1≤r.R∧r.R≤255:=by
 unfold vrec at h
 simp only [Bool.and_eq_true,decide_eq_true_eq] at h
 exact h.1
theorem find_new {L:List Rec} {r:Rec} (h:vtrk (L++[r])=true):vv9 (L++[r]) r.R=some L.length:=by
 obtain ⟨h1,_,_⟩:=vr6 h
 rw [List.pairwise_append] at h1
 unfold vv9
 rw [List.findIdx?_append]
 have e:L.findIdx? (fun x=>x.R == r.R)=none:=by
  rw [List.findIdx?_eq_none_iff]
  intro x hx
  have:=h1.2.2 x hx r (List.mem_singleton.2 rfl)
  simp only [beq_eq_false_iff_ne]
  omega
 rw [e]
 simp [List.findIdx?_cons]
theorem wr1_place (dir : Nat) (t : List (List Rec)) (b : List UInt8) : ∃ k, vv9 ((wr1 dir t b).1.getD (wr1 dir t b).2.1 []) (wr1 dir t b).2.2 = some k ∧ ((wr1 dir t b).1.take (wr1 dir t b).2.1).flatten.length + k = t.flatten.length ∧
  (wr1 dir t b).2.1+1=(wr1 dir t b).1.length∧(dir≤t.length→dir≤(wr1 dir t b).2.1)∧1≤(wr1 dir t b).2.2∧(wr1 dir t b).2.2≤255:=by
 unfold wr1
 split
 ·rename_i hc
  have hne:t≠[]:=by intro h;rw [h] at hc;simp at hc
  have hs:=zn6 hne
  obtain ⟨D,hD⟩:∃ D,t.dropLast=D:=⟨_,rfl⟩
  obtain ⟨L,hL⟩:∃ L,xc9 t=L:=⟨_,rfl⟩
  rw [hD,hL] at hs ⊢
  rw [hL,← vtrk_snoc] at hc
  have hlen:t.length - 1=D.length:=by rw [hs];simp
  simp only
  rw [hlen]
  have hv:=(vr6 hc.2).2.1 _ (List.mem_append_right _ (List.mem_singleton.2 rfl))
  have hr:=vrec_rng hv
  refine ⟨L.length,?_,?_,by simp,fun h=>?_,hr.1,hr.2⟩
  ·rw [List.getD_eq_getElem?_getD,List.getElem?_append_right (Nat.le_refl _)]
   simp only [Nat.sub_self,List.getElem?_cons_zero,Option.getD_some]
   exact find_new hc.2
  ·rw [List.take_left,hs]
   simp
  ·rw [hs] at hc
   simp at hc
   omega
 ·refine ⟨0, ?_, ?_, by simp, fun h => h, by simp, by simp⟩
  ·rw [List.getD_eq_getElem?_getD,List.getElem?_append_right (Nat.le_refl _)]
   simp [vv9,List.findIdx?_cons]
  ·simp
theorem wrL_ext (dir : Nat) : ∀ (L : List (List UInt8)) (t : List (List Rec)), ∃ N, WExt t N (wrL dir t L) ∧ N.map (·.data) = L ∧ ∀ r ∈ N, r.key = [] ∧ r.bad = false
 | [],t=>⟨[],WExt.refl t,rfl,by simp⟩
 | b :: L,t=>by
  obtain ⟨N,h1,h2,h3⟩:=wrL_ext dir L (wr1 dir t b).1
  refine ⟨_,(wr1_ext dir t b).trans h1,by rw [List.map_append,h2];rfl,?_⟩
  intro r hr
  rcases List.mem_append.1 hr with hr | hr
  ·rw [List.mem_singleton.1 hr];exact ⟨rfl,rfl⟩
  ·exact h3 r hr
theorem wrL_split (dir:Nat) (t:List (List Rec)) (bs:List (List UInt8)):∃ Ls,bs++[[]]=bs.headD [] :: Ls∧wrL dir t (bs++[[]])=wrL dir (wr1 dir t (bs.headD [])).1 Ls:=by
 cases bs with
 | nil=>exact ⟨[],rfl,rfl⟩
 | cons b bs=>exact ⟨bs++[[]],rfl,rfl⟩
theorem wrE_place (dir:Nat) (t:List (List Rec)) (bs:List (List UInt8)) (h:dir≤t.length):dir≤(wrE dir t bs).2.1∧(wrE dir t bs).2.1 < (wrE dir t bs).1.length∧1≤(wrE dir t bs).2.2∧(wrE dir t bs).2.2≤255:=by
 obtain ⟨Ls,h1,h2⟩:=wrL_split dir t bs
 obtain ⟨k,p1,p2,p3,p4,p5,p6⟩:=wr1_place dir t (bs.headD [])
 obtain ⟨N,w1,_,_⟩:=wrL_ext dir Ls (wr1 dir t (bs.headD [])).1
 refine ⟨p4 h,?_,p5,p6⟩
 show (wr1 dir t (bs.headD [])).2.1 < (wrL dir t (bs++[[]])).length
 rw [h2]
 have:=w1.len
 omega
theorem lastT_app (D:List (List Rec)) {u:List (List Rec)} (h:u≠[]):xc9 (D++u)=xc9 u:=by
 unfold xc9
 rw [List.getLast?_append,List.getLast?_eq_some_getLast h]
 rfl
theorem wr1_front (D u:List (List Rec)) (b:List UInt8):wr1 D.length (D++u) b=(D++(wr1 0 u b).1,(D.length+(wr1 0 u b).2.1,(wr1 0 u b).2.2)):=by
 cases u with
 | nil=>simp [wr1]
 | cons x u =>
  have hl:=lastT_app D (u:=x :: u) (by simp)
  unfold wr1
  rw [hl]
  by_cases hf:wc7 (xc9 (x :: u)) ⟨nxR (xc9 (x :: u)),[],b,false⟩=true
  ·rw [if_pos ⟨by simp,hf⟩,if_pos ⟨by simp,hf⟩]
   rw [List.dropLast_append_of_ne_nil (by simp)]
   simp only [List.append_assoc,List.length_append,List.length_cons,Prod.mk.injEq,true_and,and_true]
   omega
  ·rw [if_neg (by simp [hf]),if_neg (by simp [hf])]
   simp
theorem wrL_front (D : List (List Rec)) : ∀ (L : List (List UInt8)) (u : List (List Rec)), wrL D.length (D ++ u) L = D ++ wrL 0 u L
 | [],u=>rfl
 | b :: L,u=>by
  show wrL D.length (wr1 D.length (D++u) b).1 L=D++wrL 0 (wr1 0 u b).1 L
  rw [wr1_front,wrL_front D L]
theorem wrE_front (D u:List (List Rec)) (bs:List (List UInt8)):wrE D.length (D++u) bs=(D++(wrE 0 u bs).1,(D.length+(wrE 0 u bs).2.1,(wrE 0 u bs).2.2)):=by
 unfold wrE
 rw [wrL_front,wr1_front]
theorem wr1_validD (dir:Nat) {u:List (List Rec)} {b:List UInt8} (h:∀ x∈u,vtrk x=true) (hb:b.length≤1024):∀ x∈(wr1 dir u b).1,vtrk x=true:=by
 have h1:vtrk [⟨1,[],b,false⟩]=true:=by
  unfold vtrk vgo
  simp [vrec,vj9,kk9,vgo]
  omega
 unfold wr1
 split
 ·rename_i hc
  intro x hx
  rcases List.mem_append.1 hx with hx | hx
  ·exact h x (List.dropLast_subset _ hx)
  ·rw [List.mem_singleton.1 hx,vtrk_snoc];exact hc.2
 ·intro x hx
  rcases List.mem_append.1 hx with hx | hx
  ·exact h x hx
  ·rw [List.mem_singleton.1 hx];exact h1
theorem zr7 (dir : Nat) : ∀ {L : List (List UInt8)} {u : List (List Rec)}, (∀ x ∈ u, vtrk x = true) → (∀ b ∈ L, b.length ≤ 1024) → ∀ x ∈ wrL dir u L, vtrk x = true
 | [],u,h,_=>h
 | b :: L,u,h,hb=>zr7 dir (u:=(wr1 dir u b).1) (wr1_validD dir h (hb b List.mem_cons_self)) (fun x hx=>hb x (List.mem_cons_of_mem _ hx))
theorem wrE_validD (dir:Nat) {u:List (List Rec)} {bs:List (List UInt8)} (h:∀ x∈u,vtrk x=true) (hb:∀ b∈bs,b.length≤1024):∀ x∈(wrE dir u bs).1,vtrk x=true:=by
 refine zr7 dir h fun b hb'=>?_
 rcases List.mem_append.1 hb' with h1 | h1
 ·exact hb b h1
 ·rw [List.mem_singleton.1 h1];simp
theorem wr1_len (dir:Nat) (t:List (List Rec)) (b:List UInt8):(wr1 dir t b).1.length≤t.length+1:=by
 unfold wr1
 split
 ·rename_i hc
  have:t≠[]:=by intro h;rw [h] at hc;simp at hc
  have:=List.length_pos_iff.2 this
  simp
 ·simp
theorem wrL_len (dir : Nat) : ∀ (L : List (List UInt8)) (t : List (List Rec)), (wrL dir t L).length ≤ t.length + L.length
 | [],t=>by simp [wrL]
 | b :: L,t=>by
  have h1:=wrL_len dir L (wr1 dir t b).1
  have h2:=wr1_len dir t b
  show (wrL dir (wr1 dir t b).1 L).length≤_
  simp
  omega
theorem wrE_len (dir:Nat) (t:List (List Rec)) (bs:List (List UInt8)):(wrE dir t bs).1.length≤t.length+bs.length+1:=by
 have:=wrL_len dir (bs++[[]]) t
 simp at this
 unfold wrE
 dsimp only
 omega
theorem wrL_snoc (dir:Nat) (t:List (List Rec)) (L:List (List UInt8)) (b:List UInt8):wrL dir t (L++[b])=(wr1 dir (wrL dir t L) b).1:=by
 unfold wrL
 rw [List.foldl_append]
 rfl
theorem cost_ge (r:Rec):32+r.data.length+r.key.length≤kk9 r+0:=by
 unfold kk9
 split
 ·rename_i h;rw [h];simp
 ·omega
theorem used_mem : ∀ {t : List Rec} {r : Rec}, r ∈ t → kk9 r ≤ vj9 t
 | [],r,h=>by simp at h
 | q :: t,r,h=>by
  have e:vj9 (q :: t)=kk9 q+vj9 t:=by simp [vj9]
  rcases List.mem_cons.1 h with rfl | h
  ·omega
  ·have:=used_mem h;omega
theorem used_len : ∀ t : List Rec, 32 * t.length ≤ vj9 t
 | []=>by simp
 | q :: t=>by
  have e:vj9 (q :: t)=kk9 q+vj9 t:=by simp [vj9]
  have:=used_len t
  have:=cost_ge q
  simp
  omega
theorem zh6 {t:List Rec} (h:vtrk t=true):t.length≤64∧(∀ r∈t,r.key.length≤2048∧r.data.length≤2048∧1≤r.R∧r.R≤255)∧trSm t:=by
 obtain ⟨_,hv,hu⟩:=vr6 h
 have h1:=used_len t
 have h2:∀ r∈t,r.key.length≤2048∧r.data.length≤2048∧1≤r.R∧r.R≤255:=by
  intro r hr
  have:=used_mem hr
  have:=cost_ge r
  have:=vrec_rng (hv r hr)
  omega
 exact ⟨by omega,h2,by omega,fun r hr=>⟨by have:=(h2 r hr).1;omega,by have:=(h2 r hr).2.1;omega⟩⟩
theorem nxR_vtrk {t:List Rec} (h:vtrk t=true):1≤nxR t∧nxR t≤256:=by
 unfold nxR
 cases hl:t.getLast? with
 | none=>exact ⟨by decide,by decide⟩
 | some r =>
  have:=(zh6 h).2.1 r (List.mem_of_getLast? hl)
  dsimp only
  omega
theorem block_le {d:Dcb} {l bs:List (List UInt8)} (h:wj9 d l=(bs,0)):bs.length≤4096∧l.length≤4096∧zk9 d=0∧∀ b∈bs,b≠[]∧b.length≤1024:=by
 obtain ⟨hc,hl,gs,rfl,rfl,hg,_⟩:=blockM_groups h
 have h1:=qb9 hc
 have hb:∀ b∈gs.map (enc d),b≠[]∧b.length≤1024:=by
  intro b hb
  obtain ⟨g,hgm,rfl⟩:=List.mem_map.1 hb
  have hk:=hg g hgm
  have:=body_pos hc hk.ne hk.fit
  have:=hk.len
  refine ⟨?_,by omega⟩
  intro he
  have hz:(enc d g).length=0:=by rw [he];rfl
  unfold enc at hz
  split at hz
  ·simp at hz
  ·omega
 have hn:∀ gs:List (List (List UInt8)),(∀ x∈gs,GroupOk d x)→gs.length≤gs.flatten.length:=by
  intro gs
  induction gs with
  | nil=>intro _;simp
  | cons g gs ih =>
   intro h
   have h1:=ih fun x hx=>h x (List.mem_cons_of_mem _ hx)
   have h2:=List.length_pos_iff.2 (h g List.mem_cons_self).ne
   simp at h1 ⊢
   omega
 have:=hn gs hg
 exact ⟨by rw [List.length_map];omega,hl,hc,hb⟩
theorem lastT_mem {t:List (List Rec)} (h:t≠[]):xc9 t∈t:=by
 unfold xc9
 rw [List.getLast?_eq_some_getLast h]
 exact List.getLast_mem h
set_option maxRecDepth 20000
theorem yg6 (D:List UInt8) (hD:D.length≤1000000000):Sound Tryz.prog 53 [.lst .any 1 (byL D)] (.lst (.tip 51 1) 3 (seL ((zk8 D).map nmE))):=by
 refine zn9 Tryz.func53 rfl (by decide +kernel) (by simp [Tryz.f53]) (by simp [AV.rfL,AV.rf]) (by simp [AV.tlL,AV.tl]) (rs:=[.tmp 2]) rfl ?_
 rw [show Tryz.f53.ntmps=58 from rfl]
 refine yr9 [0,2] (by simp;rfl) ?_
 refine yr9 [0,3] (by simp;rfl) ?_
 refine yh9 ?_
 refine yr9 [0,3,4] (by simp;rfl) ?_
 refine yl9 ?_
 have hlimle:limE D≤D.length:=Nat.min_le_right _ _
 refine zf9 (fun q σ=>∃ (m a:Nat) (fo:Fl) (N:List SE),q=D.length - m∧a=2+12 * m∧m≤(limE D - 2) / 12∧((fo=.nil∧m=0)∨fo=.tip 51 113)∧((List.range m).map fun i=>uw8 D (2+12 * i)).map nmE=N∧σ=⟨58,[(0,.lst .any 1 (byL D)),(3,.lst fo 3 (seL N)),(4,.v (.int .i64 (a:Nat)))],[]⟩) (k:=D.length) ⟨0,2,.nil,[],rfl,rfl,by omega,.inl ⟨rfl,rfl⟩,rfl,by simp [seL]⟩ ?_
 rintro q σ ⟨m,a,fo,N,rfl,ha,hm,hfo,hN,rfl⟩
 have hkf:∀ T:Nat,T≠113→∀ xs,(AV.lst fo 3 xs).kill T=.lst fo 3 xs:=by
  intro T hT xs
  rcases hfo with ⟨rfl,_⟩ | rfl
  ·simp [AV.kill]
  ·simp [AV.kill,hT.symm]
 have hab:a≤1000000020:=by omega
 have w12:=w64 (n:=(a:Int)+12) (by omega) (by omega)
 have hexit:m=(limE D - 2) / 12→Wt true 0 Tryz.prog (sq2 (sq2 (sq2 (Tryz.f53.body.getD .skip)))) (retU Tryz.prog [.tmp 2] (.lst (.tip 51 1) 3 (seL ((zk8 D).map nmE)))) ⟨58,[(3,.lst fo 3 (seL N))],[]⟩:=by
  intro hmK
  refine yr9 [2] (by simp [↓hkf];rfl) ?_
  refine yj9 ?_
  repeat (first | refine yp9 ?_ | refine ys9 ?_)
  have hNe:(zk8 D).map nmE=N:=by rw [← hN,hmK];rfl
  rw [hNe]
  refine ⟨.lst fo 3 (seL N),by rcases hfo with ⟨rfl,_⟩ | rfl <;> simp [retQ,AV.rf,AV.rfL],?_⟩
  rcases hfo with ⟨rfl,h0⟩ | rfl
  ·rw [h0] at hN
   rw [← hN]
   exact AV.Le.nil (by decide +kernel)
  ·exact AV.Le.norm fun T=>by simp [AV.norm]
 refine yh9 ?_
 by_cases c1:a+12≤D.length
 ·have c1i : (a : Int) + 12 ≤ (D.length : Nat) := by omega
  obtain ⟨x,hx⟩:∃ x,D[0]?=some x:=⟨_,List.getElem?_eq_getElem (by omega)⟩
  obtain ⟨y,hy⟩:∃ y,D[1]?=some y:=⟨_,List.getElem?_eq_getElem (by omega)⟩
  have hx1:D[0]'(by omega)=x:=by rw [List.getElem?_eq_getElem (by omega)] at hx;exact Option.some.inj hx
  have hy1:D[1]'(by omega)=y:=by rw [List.getElem?_eq_getElem (by omega)] at hy;exact Option.some.inj hy
  have h0l:0 < D.length:=by omega
  have h1l:1 < D.length:=by omega
  have ux:=x.toNat_lt
  have uy:=y.toNat_lt
  have vx:=w64 (n:=(x.toNat:Int)) (by omega) (by omega)
  have vy:=w64 (n:=(y.toNat:Int)) (by omega) (by omega)
  have wx:=w64 (n:=256 * (x.toNat:Int)) (by omega) (by omega)
  have wxy:=w64 (n:=256 * (x.toNat:Int)+(y.toNat:Int)) (by omega) (by omega)
  have hlim:limE D=min (256 * x.toNat+y.toNat) D.length:=by
   rw [limE,List.getD_eq_getElem?_getD,hx,List.getD_eq_getElem?_getD,hy]
   rfl
  by_cases c2:a+12≤256 * x.toNat+y.toNat
  ·have c2i : (a : Int) + 12 ≤ 256 * (x.toNat : Int) + (y.toNat : Int) := by omega
   refine wr9 [0,3,4,24] mx (by decide +kernel) ?_
   refine yd9 6 (by simp [↓hkf,c1,c1i,w12];rfl) rfl ?_
   refine yd9 7 (by simp [↓hkf,h0l,hx,hx1,vx,wx,w12];rfl) rfl ?_
   refine yb9 (by simp [↓hkf,h1l,hy,hy1,vy,wxy,c2,c2i];rfl) ?_
   refine yt9 rfl (fun h=>?_) (fun h=>by simp at h)
   refine yg9 ?_
   repeat (first | refine on_norm ?_ | refine in_norm ?_)
   refine ym9 [0,3,4] ?_
   refine yh9 ?_
   refine yl9 ?_
   have w8:=w64 (n:=(a:Int)+8) (by omega) (by omega)
   have w9:=w64 (n:=(a:Int)+9) (by omega) (by omega)
   have w10:=w64 (n:=(a:Int)+10) (by omega) (by omega)
   have p8:(0:Int)≤(a:Int)+8:=by omega
   have p9:(0:Int)≤(a:Int)+9:=by omega
   have p10:(0:Int)≤(a:Int)+10:=by omega
   have t8:((a:Int)+8).toNat=a+8:=by omega
   have t9:((a:Int)+9).toNat=a+9:=by omega
   have t10:((a:Int)+10).toNat=a+10:=by omega
   have q0:a≤a+8:=by omega
   have q1:a+8≤D.length:=by omega
   have q2:(a:Int)≤(a:Int)+8:=by omega
   have q3:(a:Int)+8≤(D.length:Nat):=by omega
   obtain ⟨x8,b8⟩:∃ x,D[a+8]?=some x:=⟨_,List.getElem?_eq_getElem (by omega)⟩
   obtain ⟨x9,b9⟩:∃ x,D[a+9]?=some x:=⟨_,List.getElem?_eq_getElem (by omega)⟩
   obtain ⟨x10,b10⟩:∃ x,D[a+10]?=some x:=⟨_,List.getElem?_eq_getElem (by omega)⟩
   have g8:(byL D)[a+8]?=some (.v (.int .u8 x8.toNat)):=by simp [byL,b8]
   have g9:(byL D)[a+9]?=some (.v (.int .u8 x9.toNat)):=by simp [byL,b9]
   have g10:(byL D)[a+10]?=some (.v (.int .u8 x10.toNat)):=by simp [byL,b10]
   have u8:=x8.toNat_lt
   have u9:=x9.toNat_lt
   have u10:=x10.toNat_lt
   have v8:=w64 (n:=(x8.toNat:Int)) (by omega) (by omega)
   have v9:=w64 (n:=(x9.toNat:Int)) (by omega) (by omega)
   have v10:=w64 (n:=(x10.toNat:Int)) (by omega) (by omega)
   have wm8:=w64 (n:=256 * (x8.toNat:Int)) (by omega) (by omega)
   have wm9:=w64 (n:=256 * (x8.toNat:Int)+(x9.toNat:Int)) (by omega) (by omega)
   have hE:uw8 D a=⟨(D.drop a).take 8,256 * x8.toNat+x9.toNat,x10.toNat⟩:=by
    rw [uw8,List.getD_eq_getElem?_getD,b8,List.getD_eq_getElem?_getD,b9,List.getD_eq_getElem?_getD,b10]
    rfl
   have htr:=rtrim_sound ((D.drop a).take 8) (by rw [List.length_take];omega)
   have hnE:nmE (uw8 D a)=⟨decM (kh9 ((D.drop a).take 8)),256 * x8.toNat+x9.toNat,x10.toNat⟩:=by rw [hE];rfl
   have hdt:List.drop a (List.take (a+8) (byL D))=byL ((D.drop a).take 8):=by rw [← vr9,← kw9,List.drop_take,Nat.add_sub_cancel_left]
   obtain ⟨K,hK⟩:∃ K,(D.drop a).take 8=K:=⟨_,rfl⟩
   rw [hK] at htr hnE hE hdt
   obtain ⟨nm,hnm⟩:∃ nm,decM (kh9 K)=nm:=⟨_,rfl⟩
   rw [hnm] at htr hnE
   have hsA:seA (nmE (uw8 D a))=.agg [strB nm,.v (.int .i64 (256 * ↑x8.toNat+↑x9.toNat)),.v (.int .i64 ↑x10.toNat)]:=by rw [hnE];simp [seA]
   have hNs:((List.range (m+1)).map fun i=>uw8 D (2+12 * i)).map nmE=N++[nmE (uw8 D a)]:=by rw [← hN,List.range_succ,List.map_append,List.map_append,List.map_singleton,List.map_singleton,← ha]
   have hNl:N.length=m:=by rw [← hN,List.length_map,List.length_map,List.length_range]
   obtain ⟨S,hS⟩:∃ S,strB nm=S:=⟨_,rfl⟩
   have hSv:∃ u,S=.v u:=⟨_,hS.symm⟩
   rw [hS] at htr hsA
   obtain ⟨u,rfl⟩:=hSv
   have hu1:u.oneCell'=true:=by have h':=hS;simp only [strB,AV.v.injEq] at h';rw [← h'];rfl
   have htl:seL N++[.agg [.v u,.v (.int .i64 (256 * ↑x8.toNat+↑x9.toNat)),.v (.int .i64 ↑x10.toNat)]]=seL (N++[nmE (uw8 D a)]):=by rw [seL_app];simp [seL,hsA]
   have b3:(m+1) * 32≤140737488355328:=by omega
   have b4:32 * (m+1)≤140737488355328:=by omega
   refine yc8 [0,3,4] mx (by decide +kernel) ?_
   refine yd9 6 (by simp [↓hkf,w8,q0,q1,q2,q3,p8,t8];rfl) rfl ?_
   refine yv9 (by simp) (by first | (simp [hdt];done) | (simp [hdt];rfl)) htr (by simp [↓hkf];rfl) ?_
   refine yd9 7 (by simp [↓hkf,w8,p8,t8,g8,v8,wm8];rfl) rfl ?_
   refine yd9 7 (by simp [↓hkf,w9,p9,t9,g9,v9,wm9];rfl) rfl ?_
   refine yd9 6 (by simp [↓hkf,w10,p10,t10,g10,v10];rfl) rfl ?_
   rcases hfo with ⟨rfl,h0⟩ | rfl
   ·have hN0:N=[]:=List.eq_nil_of_length_eq_zero (by omega)
    subst hN0
    refine yb9 (by simp [seL,yk9,catK,AV.cellsK,AV.kone,AV.koneL,hu1];rfl) ?_
    repeat (first | refine on_norm ?_ | refine in_norm ?_)
    refine zr9 [0,3,4] (by simp [w12];rfl) ?_
    exact ⟨_,by omega,m+1,a+12,.tip 51 113,_,rfl,by omega,by omega,.inr rfl,hNs,by rw [← htl];simp [seL]⟩
   ·refine yb9 (by simp [yk9,catK,AV.cellsK,AV.kone,AV.koneL,hu1,hNl,b3,b4,htl];rfl) ?_
    repeat (first | refine on_norm ?_ | refine in_norm ?_)
    refine zr9 [0,3,4] (by simp [w12];rfl) ?_
    exact ⟨_,by omega,m+1,a+12,.tip 51 113,_,rfl,by omega,by omega,.inr rfl,hNs,by simp⟩
  ·have c2i:¬ (a:Int)+12≤256 * (x.toNat:Int)+(y.toNat:Int):=by omega
   refine wr9 [3,24] mx (by decide +kernel) ?_
   refine yd9 6 (by simp [↓hkf,c1,c1i,w12];rfl) rfl ?_
   refine yd9 7 (by simp [↓hkf,h0l,hx,hx1,vx,wx,w12];rfl) rfl ?_
   refine yb9 (by simp [↓hkf,h1l,hy,hy1,vy,wxy,c2,c2i];rfl) ?_
   refine yt9 (t:=false) (by simp) (fun h=>by simp at h) (fun h=>?_)
   refine ym9 [3] ?_
   refine zs9 ?_
   repeat (first | refine on_exit ?_ | refine in_exit ?_)
   exact hexit (by omega)
 ·have c1i:¬ (a:Int)+12≤(D.length:Nat):=by omega
  refine wr9 [3,24] mx (by decide +kernel) ?_
  refine yd9 6 (by simp [↓hkf,c1,c1i,w12];rfl) rfl ?_
  refine yd9 7 (by simp [↓hkf];rfl) rfl ?_
  refine yb9 (by simp [↓hkf];rfl) ?_
  refine yt9 (t:=false) (by simp) (fun h=>by simp at h) (fun h=>?_)
  refine ym9 [3] ?_
  refine zs9 ?_
  repeat (first | refine on_exit ?_ | refine in_exit ?_)
  exact hexit (by omega)
set_option maxRecDepth 20000
def ogoS : Option (List UInt8) → List SE → Bool
 | _,[]=>true
 | p,e :: l=>symM e.name&&((match p with | none=>true | some k=>Op.bytesLess (padK k) (padK e.name))&&ogoS (some e.name) l)
def ordS (l:List SE):Bool:=ogoS none l
theorem ogoS_at : ∀ {l : List SE} {p : Option (List UInt8)}, ogoS p l = true ↔ ∀ (i : Nat) e, l[i]? = some e → symM e.name = true ∧ (∀ k, (if i = 0 then p else (l[i - 1]?).map (·.name)) = some k → Op.bytesLess (padK k) (padK e.name) = true)
 | [],p=>by cases p <;> simp [ogoS]
 | x :: l,p=>by
  rw [show ogoS p (x :: l)=(symM x.name&&((match p with | none=>true | some k=>Op.bytesLess (padK k) (padK x.name))&&ogoS (some x.name) l)) by cases p <;> rfl,Bool.and_eq_true,Bool.and_eq_true,ogoS_at (p:=some x.name)]
  constructor
  ·rintro ⟨h1, h2, h3⟩ i e he
   cases i with
   | zero =>
    simp at he
    subst he
    refine ⟨h1,fun k hk=>?_⟩
    simp at hk
    subst hk
    exact h2
   | succ i =>
    obtain ⟨a,b⟩:=h3 i e (by simpa using he)
    refine ⟨a,fun k hk=>b k ?_⟩
    rw [if_neg (by omega),Nat.add_sub_cancel] at hk
    cases i with
    | zero=>simpa using hk
    | succ i=>rw [if_neg (by omega)];simpa using hk
  ·intro h
   refine ⟨(h 0 x rfl).1,?_,fun i e he=>?_⟩
   ·cases p with
    | none=>rfl
    | some k=>exact (h 0 x rfl).2 k rfl
   ·obtain ⟨a,b⟩:=h (i+1) e (by simpa using he)
    refine ⟨a,fun k hk=>b k ?_⟩
    rw [if_neg (by omega),Nat.add_sub_cancel]
    cases i with
    | zero=>simpa using hk
    | succ i=>rw [if_neg (by omega)] at hk;simpa using hk
theorem uf6 {l:List SE}:ordS l=true ↔ ∀ (i:Nat) e,l[i]?=some e→symM e.name=true∧(∀ d,0 < i→l[i - 1]?=some d→Op.bytesLess (padK d.name) (padK e.name)=true):=by
 rw [ordS,ogoS_at]
 constructor
 ·intro h i e he
  obtain ⟨a,b⟩:=h i e he
  refine ⟨a,fun d hi hd=>b _ ?_⟩
  rw [if_neg (by omega),hd]
  rfl
 ·intro h i e he
  obtain ⟨a,b⟩:=h i e he
  refine ⟨a,fun k hk=>?_⟩
  by_cases hi:i=0
  ·rw [if_pos hi] at hk;cases hk
  ·rw [if_neg hi] at hk
   obtain ⟨d,hd,rfl⟩:=Option.map_eq_some_iff.1 hk
   exact b d (by omega) hd
theorem yf6 (l:List SE) (hl:l.length≤1000000000) (hn:∀ e∈l,e.name.length≤1000000000):Sound Tryz.prog 54 [.lst .any 3 (seL l)] (.v (.bool (ordS l))):=by
 refine yc9 Tryz.func54 rfl (by decide +kernel) (by simp [Tryz.f54]) (by simp [AV.rfL,AV.rf]) (by simp [AV.tlL,AV.tl]) (rs:=[.tmp 2]) rfl ?_
 rw [show Tryz.f54.ntmps=36 from rfl]
 refine yr9 [0,2] (by simp;rfl) ?_
 refine yh9 ?_
 refine yr9 [0,3] (by simp;rfl) ?_
 refine yl9 ?_
 refine zf9 (fun q σ=>∃ i:Nat,q=l.length - i∧i≤l.length∧(∀ (m:Nat) e,m < i→l[m]?=some e→symM e.name=true∧(∀ d,0 < m→l[m - 1]?=some d→Op.bytesLess (padK d.name) (padK e.name)=true))∧σ=⟨36,[(0,.lst .any 3 (seL l)),(3,.v (.int .i64 (i:Nat)))],[]⟩) (k:=l.length) ⟨0,rfl,by omega,by intro m e hm;omega,by simp⟩ ?_
 rintro q σ ⟨i,rfl,hi,hall,rfl⟩
 refine yh9 ?_
 by_cases c:i < l.length
 ·have ci : (i : Int) < l.length := by omega
  have wi:=w64 (n:=(i:Int)+1) (by omega) (by omega)
  obtain ⟨e,he⟩:∃ e,l[i]?=some e:=⟨_,List.getElem?_eq_getElem c⟩
  have hge:l[i]'c=e:=by rw [List.getElem?_eq_getElem c] at he;exact Option.some.inj he
  have hva:=rname_sound e.name (by have:=hn e (List.mem_of_getElem? he);omega)
  obtain ⟨V,hV⟩:∃ V,symM e.name=V:=⟨_,rfl⟩
  rw [hV] at hva
  obtain ⟨S,hS⟩:∃ S,strB e.name=S:=⟨_,rfl⟩
  have hSv:∃ u,S=.v u:=⟨_,hS.symm⟩
  obtain ⟨u,rfl⟩:=hSv
  refine yr9 [0,3,7] (by simp [c,ci];rfl) ?_
  refine yt9 (t:=true) (by simp [c,ci]) (fun h=>?_) (fun h=>by simp at h)
  refine yg9 ?_
  repeat (first | refine on_norm ?_ | refine in_norm ?_)
  refine yh9 ?_
  refine yl9 ?_
  cases V with
  | false =>
   have hbad:ordS l=false:=by
    cases ho:ordS l with
    | false=>rfl
    | true=>rw [((uf6.1 ho) i e he).1] at hV;cases hV
   rw [hS] at hva
   refine wr9 [35] mx (by decide +kernel) ?_
   refine yd9 5 (by simp [c,ci,hge,seA,hS];rfl) rfl ?_
   refine yv9 (by simp) (by first | (simp;done) | (simp;rfl)) hva (by simp;rfl) ?_
   refine yd9 6 (by simp;rfl) rfl ?_
   refine yd9 7 (by simp;rfl) rfl ?_
   refine yb9 (by simp;rfl) ?_
   refine yt9 rfl (fun h=>?_) (fun h=>by simp at h)
   refine yr9 [2] (by simp;rfl) ?_
   refine yj9 ?_
   repeat (first | refine yp9 ?_ | refine ys9 ?_)
   simp [retQ,hbad]
  | true =>
  by_cases h0:i=0
  ·have hall2:∀ (m:Nat) e,m < 0+1→l[m]?=some e→symM e.name=true∧(∀ d,0 < m→l[m - 1]?=some d→Op.bytesLess (padK d.name) (padK e.name)=true):=by
    intro m x hm hx
    have:m=0:=by omega
    subst this
    rw [← h0,he] at hx
    obtain rfl:=Option.some.inj hx
    exact ⟨hV,fun d hd=>by omega⟩
   subst h0
   rw [hS] at hva
   refine wr9 [0,3,35] mx (by decide +kernel) ?_
   refine yd9 5 (by simp [c,ci,hge,seA,hS];rfl) rfl ?_
   refine yv9 (by simp) (by first | (simp;done) | (simp;rfl)) hva (by simp;rfl) ?_
   refine yd9 6 (by simp;rfl) rfl ?_
   refine yd9 7 (by simp;rfl) rfl ?_
   refine yb9 (by simp;rfl) ?_
   refine yt9 rfl (fun h=>by simp at h) (fun h=>?_)
   refine yg9 ?_
   repeat (first | refine on_norm ?_ | refine in_norm ?_)
   refine zr9 [0,3] (by simp [show IntKind.i64.wrap 1=1 from by decide];rfl) ?_
   exact ⟨_,by omega,0+1,rfl,by omega,hall2,by simp⟩
  ·have wd := w64 (n := (i : Int) - 1) (by omega) (by omega)
   have hp0:0 < i:=by omega
   have hp1:(0:Int) < (i:Int):=by omega
   have hp6:(1:Int)≤(i:Int):=by omega
   have hp2:(0:Int)≤(i:Int) - 1:=by omega
   have hp3:(i:Int) - 1 < l.length:=by omega
   have hp4:((i:Int) - 1).toNat=i - 1:=by omega
   have hp5:i - 1 < l.length:=by omega
   obtain ⟨d,hd⟩:∃ d,l[i - 1]?=some d:=⟨_,List.getElem?_eq_getElem hp5⟩
   have hgd:l[i - 1]'hp5=d:=by rw [List.getElem?_eq_getElem hp5] at hd;exact Option.some.inj hd
   have hVd:=(hall (i - 1) d (by omega) hd).1
   have hbf:=before_sound d.name e.name hVd hV
   obtain ⟨S2,hS2⟩:∃ S,strB d.name=S:=⟨_,rfl⟩
   have hSv2:∃ u,S2=.v u:=⟨_,hS2.symm⟩
   obtain ⟨u2,rfl⟩:=hSv2
   rw [hS,hS2] at hbf
   rw [hS] at hva
   cases hb:Op.bytesLess (padK d.name) (padK e.name) with
   | true =>
    rw [hb] at hbf
    have hall2:∀ (m:Nat) e,m < i+1→l[m]?=some e→symM e.name=true∧(∀ d,0 < m→l[m - 1]?=some d→Op.bytesLess (padK d.name) (padK e.name)=true):=by
     intro m x hm hx
     by_cases hm2:m < i
     ·exact hall m x hm2 hx
     ·have:m=i:=by omega
      subst this
      rw [he] at hx
      obtain rfl:=Option.some.inj hx
      exact ⟨hV,fun d2 _ hd2=>by rw [hd] at hd2;obtain rfl:=Option.some.inj hd2;exact hb⟩
    refine wr9 [0,3,35] mx (by decide +kernel) ?_
    refine yd9 5 (by simp [c,ci,hge,seA,hS];rfl) rfl ?_
    refine yv9 (by simp) (by first | (simp;done) | (simp;rfl)) hva (by simp;rfl) ?_
    refine yd9 5 (by simp [hp0,hp1];rfl) rfl ?_
    refine yd9 6 (by simp [hp0,hp1,hp2,hp3,hp4,hp5,hp6,wd,hgd,seA,hS2];rfl) rfl ?_
    refine yd9 5 (by simp [c,ci,hge,seA,hS];rfl) rfl ?_
    refine yv9 (by simp) (by first | (simp;done) | (simp;rfl)) hbf (by simp;rfl) ?_
    refine yb9 (by simp;rfl) ?_
    refine yt9 rfl (fun h=>by simp at h) (fun h=>?_)
    refine yg9 ?_
    repeat (first | refine on_norm ?_ | refine in_norm ?_)
    refine zr9 [0,3] (by simp [wi];rfl) ?_
    exact ⟨_,by omega,i+1,rfl,by omega,hall2,by simp⟩
   | false =>
    rw [hb] at hbf
    have hbad:ordS l=false:=by
     cases ho:ordS l with
     | false=>rfl
     | true =>
      have:=((uf6.1 ho) i e he).2 d (by omega) hd
      rw [this] at hb
      cases hb
    refine wr9 [35] mx (by decide +kernel) ?_
    refine yd9 5 (by simp [c,ci,hge,seA,hS];rfl) rfl ?_
    refine yv9 (by simp) (by first | (simp;done) | (simp;rfl)) hva (by simp;rfl) ?_
    refine yd9 5 (by simp [hp0,hp1];rfl) rfl ?_
    refine yd9 6 (by simp [hp0,hp1,hp2,hp3,hp4,hp5,hp6,wd,hgd,seA,hS2];rfl) rfl ?_
    refine yd9 5 (by simp [c,ci,hge,seA,hS];rfl) rfl ?_
    refine yv9 (by simp) (by first | (simp;done) | (simp;rfl)) hbf (by simp;rfl) ?_
    refine yb9 (by simp;rfl) ?_
    refine yt9 rfl (fun h=>?_) (fun h=>by simp at h)
    refine yr9 [2] (by simp;rfl) ?_
    refine yj9 ?_
    repeat (first | refine yp9 ?_ | refine ys9 ?_)
    simp [retQ,hbad]
 ·have hie : i = l.length := by omega
  have hok:ordS l=true:=by
   rw [uf6]
   intro m e he
   have hm:m < l.length:=(List.getElem?_eq_some_iff.1 he).1
   exact hall m e (by omega) he
  refine yr9 [7] (by simp [hie];rfl) ?_
  refine yt9 (t:=false) (by simp [hie]) (fun h=>by simp at h) (fun h=>?_)
  refine zs9 ?_
  repeat (first | refine on_exit ?_ | refine in_exit ?_)
  refine yr9 [2] (by simp;rfl) ?_
  refine yj9 ?_
  repeat (first | refine yp9 ?_ | refine ys9 ?_)
  simp [retQ,hok]
theorem ordS_nm {L:List RE} (h8:∀ e∈L,e.key.length=8):ordS (L.map nmE)=ordE L:=by
 rw [Bool.eq_iff_iff,uf6,ug6]
 have hk:∀ e∈L,symM (nmM e.key)=true→padK (nmM e.key)=e.key:=fun e he h=>us6 (h8 e he) h
 constructor
 ·intro h i e he
  have hm:=List.mem_of_getElem? he
  obtain ⟨a,b⟩:=h i (nmE e) (by rw [List.getElem?_map,he];rfl)
  refine ⟨a,fun d hi hd=>?_⟩
  have hdm:=List.mem_of_getElem? hd
  have hd2:=(h (i - 1) (nmE d) (by rw [List.getElem?_map,hd];rfl)).1
  have:=b (nmE d) hi (by rw [List.getElem?_map,hd];rfl)
  rw [show (nmE d).name=nmM d.key from rfl,show (nmE e).name=nmM e.key from rfl,hk d hdm hd2,hk e hm a] at this
  exact this
 ·intro h i e he
  rw [List.getElem?_map] at he
  obtain ⟨e,he2,rfl⟩:=Option.map_eq_some_iff.1 he
  have hm:=List.mem_of_getElem? he2
  obtain ⟨a,b⟩:=h i e he2
  refine ⟨a,fun d hi hd=>?_⟩
  rw [List.getElem?_map] at hd
  obtain ⟨d,hd1,rfl⟩:=Option.map_eq_some_iff.1 hd
  have hdm:=List.mem_of_getElem? hd1
  have hd2:=(h (i - 1) d hd1).1
  have:=b d hi hd1
  rw [show (nmE d).name=nmM d.key from rfl,show (nmE e).name=nmM e.key from rfl,hk d hdm hd2,hk e hm a]
  exact this
set_option maxRecDepth 20000
theorem xh6 (n:Nat):IntKind.u8.wrap (n:Int)=((UInt8.ofNat n).toNat:Int):=by
 rw [IntKind.wrap_u8,UInt8.toNat_ofNat']
 omega
theorem rhalf_sound (t:Nat) (ht:t < 65536):Sound Tryz.prog 120 [.v (.int .i64 (t:Nat))] (.lst .any 1 (byL [UInt8.ofNat (t / 256),UInt8.ofNat t])):=by
 refine vd9 Tryz.func120 rfl (by decide +kernel) (by simp [Tryz.f120]) rfl rfl (rs:=[.tmp 2]) rfl ?_
 rw [show Tryz.f120.ntmps=10 from rfl]
 have h1:Int.tdiv (t:Int) 256=((t / 256:Nat):Int):=by rw [Int.tdiv_eq_ediv_of_nonneg (by omega)];omega
 have h2:Int.tmod (t:Int) 256=((t % 256:Nat):Int):=by rw [Int.tmod_eq_emod_of_nonneg (by omega)];omega
 have w1:IntKind.i64.wrap ((t / 256:Nat):Int)=((t / 256:Nat):Int):=w64 (by omega) (by omega)
 have w2:IntKind.i64.wrap ((t % 256:Nat):Int)=((t % 256:Nat):Int):=w64 (by omega) (by omega)
 have e1:=xh6 (t / 256)
 have e2:IntKind.u8.wrap ((t % 256:Nat):Int)=((UInt8.ofNat t).toNat:Int):=by rw [xh6,UInt8.toNat_ofNat',UInt8.toNat_ofNat'];congr 1;omega
 obtain ⟨q,hq⟩:∃ q,t / 256=q:=⟨_,rfl⟩
 obtain ⟨r,hr⟩:∃ r,t % 256=r:=⟨_,rfl⟩
 rw [hq] at h1 w1 e1 ⊢
 rw [hr] at h2 w2 e2
 refine yr9 [0,2] (by simp;rfl) ?_
 refine W_rK [2] ?_
 refine yq9 3 (by simp [h1,w1,e1];rfl) rfl ?_
 refine yq9 3 (by simp [h2,w2,e2];rfl) rfl ?_
 refine yw9 (by simp [catK,AV.cellsK,AV.kone,AV.koneL];rfl) ?_
 refine yj9 ?_
 repeat (first | refine yp9 ?_ | refine ys9 ?_)
 exact ⟨_,by simp [retQ];exact ⟨rfl,by simp [AV.rf,AV.rfL]⟩,.inr (by simp [AV.plain,AV.plainL,zc9])⟩
structure BytC (H:List AObj) (q cap:Nat) (d:List UInt8):Prop where
 n:d.length≤cap
 mx:cap≤maxLen
 o:∃ z,z.length=cap - d.length∧H[q]?=some (.cells 5 (byL (d++z)))
theorem BytC.app {s s1 : St} {x1 : AV} {q cap m : Nat} {d y : List UInt8} {cs : List AV} (h : BytC s.h q cap d) (hcs : s.h[q]? = some (.cells 5 cs)) (hm : m = y.length) (ha : appQ0 s 5 1 q d.length cap m (byL y) cs [.v (.int .u8 0)] s1 x1) :
  ∃ q' cap' h',x1=.arr q' 0 (d++y).length cap'∧s1={ s with h:=h' }∧BytC h' q' cap' (d++y)∧(∀ k,k≠q→k < s.h.length→h'[k]?=s.h[k]?)∧s.h.length≤h'.length∧(q'=q∨q'=s.h.length)∧(∀ k,s.h.length < k→h'[k]?=none):=by
 obtain ⟨z,hz,hq⟩:=h.o
 have hn:=h.n
 rw [hcs] at hq
 have hcs2:cs=byL (d++z):=by
  have:=Option.some.inj hq
  injection this
 subst hcs2
 subst hm
 have hql:=(List.getElem?_eq_some_iff.1 hcs).1
 rcases ha with ⟨hr,rfl,rfl⟩ | ⟨hr,cap',hc1,hc2,rfl,rfl⟩
 ·refine ⟨q, cap, _, by rw [List.length_append], rfl, ⟨by rw [List.length_append]; exact hr, h.mx, z.drop y.length, by rw [List.length_drop, List.length_append, hz]; omega, ?_⟩, ?_, by simp, .inl rfl, ?_⟩
  ·rw [List.getElem?_set,if_pos rfl,if_pos hql]
   congr 2
   rw [Nat.mul_one,yk9,← vr9,← kw9,xv9,List.take_left' rfl,List.drop_append,List.drop_eq_nil_of_le (by omega),Nat.add_sub_cancel_left,List.nil_append,← xb9,← xb9]
  ·intro k hk _
   rw [List.getElem?_set,if_neg (Ne.symm hk)]
  ·intro k hk
   rw [List.getElem?_eq_none (by simp;omega)]
 ·refine ⟨s.h.length, cap', _, by rw [List.length_append], rfl, ⟨by rw [List.length_append]; exact hc1, hc2, List.replicate (cap' - (d.length + y.length)) 0, by rw [List.length_replicate, List.length_append], ?_⟩, ?_, by simp, .inr rfl, ?_⟩
  ·rw [List.getElem?_append_right (Nat.le_refl _),Nat.sub_self,Nat.mul_one,← vr9,List.take_left' rfl,jd9,← xb9,← xb9]
   rfl
  ·intro k _ hk
   rw [List.getElem?_append_left hk]
  ·intro k hk
   rw [List.getElem?_eq_none (by simp;omega)]
set_option maxRecDepth 20000
noncomputable def rbC:Code:=Tryz.f85.body.getD .skip
noncomputable def rbB:Code:=bkC (sq1 (sq2 (lpC (bkC (sq2 (sq1 (sq2 (sq2 (sq2 rbC)))))))))
def zr100:List AV:=[.v (.int .i64 0),.lst .nil 1 [],.lst .nil 1 [],.v (.bool false)]
def rbS (l:List SE) (n i q cap:Nat) (d K:List UInt8) (H:List AObj):St:=⟨86,[(0,.lst .any 3 (seL l)),(1,.v (.int .i64 (n:Nat))),(4,.loc 0 0),(5,.arr q 0 d.length cap),(6,.lst .any 1 (byL K)),(7,.v (.int .i64 (i:Nat)))],H⟩
structure rbH (H:List AObj) (q cap:Nat) (d:List UInt8):Prop where
 b:BytC H q cap d
 q:0 < q
 o:H[0]?=some (.cells 100 zr100)
theorem rb_one {l : List SE} {n i q cap : Nat} {d K : List UInt8} {H : List AObj} (h : rbH H q cap d) {e : RE} (he : l[i]? = some (nmE e)) (h8 : e.key.length = 8) (hs : symM (nmM e.key) = true) (ht : e.trk < 65536) (hr : e.rn < 256) (hd : d.length ≤ 1000) (hl : l.length ≤ 1000000000) (hn : n ≤ 1000000)
  {Q:Exit→St→Prop} (hQ:∀ H' q' cap',rbH H' q' cap' (d++entB e)→Q .normal (rbS l n i q' cap' (d++entB e) (if 21 * n+21 < l.length then e.key else K) H')):Wt true 0 Tryz.prog rbB Q (rbS l n i q cap d K H):=by
 obtain ⟨c,hge⟩:=List.getElem?_eq_some_iff.1 he
 have ci:(i:Int) < l.length:=by omega
 obtain ⟨ha,hs1,hs8⟩:=un9 hs
 have hpd:=vk8 (nmM e.key) hs1 hs8 ha
 rw [us6 h8 hs] at hpd
 have hhf:=rhalf_sound e.trk ht
 obtain ⟨S,hS⟩:∃ S,strB (nmM e.key)=S:=⟨_,rfl⟩
 have hSv:∃ u,S=.v u:=⟨_,hS.symm⟩
 rw [hS] at hpd
 obtain ⟨u,rfl⟩:=hSv
 have hsA:seA (nmE e)=.agg [.v u,.v (.int .i64 (e.trk:Nat)),.v (.int .i64 (e.rn:Nat))]:=by rw [← hS];rfl
 have hw:IntKind.u8.wrap (e.rn:Int)=(e.rn:Int):=by rw [IntKind.wrap_u8];omega
 obtain ⟨z,hz,ho⟩:=h.b.o
 have hbn:=h.b.n
 have hql:=(List.getElem?_eq_some_iff.1 ho).1
 unfold rbS
 refine W_rK [0,1,4,5,6,7] ?_
 refine yq9 6 (by simp [c,ci,hge,hsA];rfl) rfl ?_
 refine yf9 (by simp) (by first | (simp;done) | (simp;rfl)) hpd (by simp;rfl) ?_
 refine jb9 (t:=90) (e:=5) (sz:=1) (by_:=1) (id:=q) (len:=d.length) (cap:=cap) (m:=e.key.length) (cs:=byL (d++z)) (yc:=byL e.key) (by simp) rfl rfl rfl rfl (by simp) (by simp [srcA,qr9]) s90 a5 z5 (by simp) (by simp [ho]) (by rw [xv9,List.length_append,hz];omega) (by omega) ?_
 intro s1 x1 ha1
 obtain ⟨q1,cap1,h1,rfl,rfl,hB1,hf1,hl1,hq1,_⟩:=h.b.app ho rfl ha1
 have hq1':q1=q∨q1=H.length:=hq1
 have hf1':∀ k,k≠q→k < H.length→h1[k]?=H[k]?:=hf1
 have hl1':H.length≤h1.length:=hl1
 have hqp:=h.q
 have hq1p:0 < q1:=by omega
 have ho1:h1[0]?=some (.cells 100 zr100):=by rw [hf1' 0 (by omega) (by omega)];exact h.o
 obtain ⟨d1,hd1⟩:∃ d1,d++e.key=d1:=⟨_,rfl⟩
 rw [hd1] at hB1 ⊢
 have hd1l:d1.length=d.length+8:=by rw [← hd1,List.length_append,h8]
 refine ⟨_,by simp;rfl,?_⟩
 refine yw9 (by simp;rfl) ?_
 obtain ⟨z1,hz1,hoo1⟩:=hB1.o
 have hbn1:=hB1.n
 obtain ⟨hf,hhfe⟩:∃ hf,[UInt8.ofNat (e.trk / 256),UInt8.ofNat e.trk]=hf:=⟨_,rfl⟩
 rw [hhfe] at hhf
 have hhfl:hf.length=2:=by rw [← hhfe];rfl
 refine W_rK [0,1,4,5,6,7] ?_
 refine yq9 6 (by simp [c,ci,hge,hsA];rfl) rfl ?_
 refine yf9 (by simp) (by first | (simp;done) | (simp;rfl)) hhf (by simp;rfl) ?_
 refine jb9 (t:=90) (e:=5) (sz:=1) (by_:=1) (id:=q1) (len:=d1.length) (cap:=cap1) (m:=hf.length) (cs:=byL (d1++z1)) (yc:=byL hf) (by simp) rfl rfl rfl rfl (by simp) (by simp [srcA,qr9]) s90 a5 z5 (by simp) (by simp [hoo1]) (by rw [xv9,List.length_append,hz1];omega) (by omega) ?_
 intro s1 x1 ha2
 obtain ⟨q2,cap2,h2,rfl,rfl,hB2,hf2,hl2,hq2,_⟩:=hB1.app hoo1 rfl ha2
 have hq2':q2=q1∨q2=h1.length:=hq2
 have hf2':∀ k,k≠q1→k < h1.length→h2[k]?=h1[k]?:=hf2
 have hl2':h1.length≤h2.length:=hl2
 have hq2p:0 < q2:=by omega
 have ho2:h2[0]?=some (.cells 100 zr100):=by rw [hf2' 0 (by omega) (by omega)];exact ho1
 obtain ⟨d2,hd2⟩:∃ d2,d1++hf=d2:=⟨_,rfl⟩
 rw [hd2] at hB2 ⊢
 have hd2l:d2.length=d1.length+2:=by rw [← hd2,List.length_append,hhfl]
 refine ⟨_,by simp;rfl,?_⟩
 refine yw9 (by simp;rfl) ?_
 obtain ⟨z2,hz2,hoo2⟩:=hB2.o
 have hbn2:=hB2.n
 have hq2l:=(List.getElem?_eq_some_iff.1 hoo2).1
 refine W_rK [0,1,4,5,6,7] ?_
 refine yq9 7 (by simp [c,ci,hge,hsA,hw];rfl) rfl ?_
 refine xw8 (by simp) ⟨_,by simp [ys8,jd7,catK,AV.cellsK,AV.kone,AV.koneL,show List.range 2=[0,1] from rfl];rfl,?_⟩
 have hrb:[AV.v (.int .u8 (e.rn:Nat)),AV.v (.int .u8 0)]=byL [UInt8.ofNat e.rn,0]:=by
  have:(UInt8.ofNat e.rn).toNat=e.rn:=by rw [UInt8.toNat_ofNat'];omega
  simp [zc9,this]
 have hB2x:BytC (h2++[.cells 5 [AV.v (.int .u8 (e.rn:Nat)),AV.v (.int .u8 0)]]) q2 cap2 d2:=⟨hbn2,hB2.mx,z2,hz2,by rw [List.getElem?_append_left hq2l];exact hoo2⟩
 have hoo2x:(h2++[.cells 5 [AV.v (.int .u8 (e.rn:Nat)),AV.v (.int .u8 0)]])[q2]?=some (AObj.cells 5 (byL (d2++z2))):=by rw [List.getElem?_append_left hq2l];exact hoo2
 refine jb9 (t:=90) (e:=5) (sz:=1) (by_:=1) (id:=q2) (len:=d2.length) (cap:=cap2) (m:=([UInt8.ofNat e.rn,0]:List UInt8).length) (cs:=byL (d2++z2)) (yc:=byL [UInt8.ofNat e.rn,0]) (by simp) rfl rfl rfl rfl (by simp) (by simp [srcA,← hrb]) s90 a5 z5 (by simp) hoo2x (by rw [xv9,List.length_append,hz2];omega) (by rw [hd2l,hd1l];simp;omega) ?_
 intro s1 x1 ha3
 obtain ⟨q3,cap3,h3,rfl,rfl,hB3,hf3,hl3,hq3,_⟩:=BytC.app (s:=⟨86,_,h2++[.cells 5 [AV.v (.int .u8 (e.rn:Nat)),AV.v (.int .u8 0)]]⟩) hB2x hoo2x rfl ha3
 have hq3':q3=q2∨q3=h2.length+1:=by simpa using hq3
 have hf3':∀ k,k≠q2→k < h2.length→h3[k]?=h2[k]?:=by
  intro k hk1 hk2
  have:=hf3 k hk1 (by simp;omega)
  rw [this]
  exact List.getElem?_append_left hk2
 have hq3p:0 < q3:=by omega
 have ho3:h3[0]?=some (.cells 100 zr100):=by rw [hf3' 0 (by omega) (by omega)];exact ho2
 obtain ⟨d3,hd3⟩:∃ d3,d2++[UInt8.ofNat e.rn,0]=d3:=⟨_,rfl⟩
 rw [hd3] at hB3 ⊢
 have hdE:d++entB e=d3:=by rw [← hd3,← hd2,← hd1,← hhfe,entB];simp
 rw [hdE] at hQ
 have hfin:=hQ h3 q3 cap3 ⟨hB3,hq3p,ho3⟩
 refine ⟨_,by simp;rfl,?_⟩
 refine yw9 (by simp;rfl) ?_
 have wb1:IntKind.i64.wrap (21 * (n:Int))=21 * (n:Int):=w64 (by omega) (by omega)
 have wb2:IntKind.i64.wrap (21 * (n:Int)+21)=21 * (n:Int)+21:=w64 (by omega) (by omega)
 by_cases c21:21 * n+21 < l.length
 ·have c21i:21 * (n:Int)+21 < (l.length:Nat):=by omega
  rw [if_pos c21] at hfin
  refine yr9 [0,1,4,5,6,7,55] (by simp [wb1,wb2,c21,c21i];rfl) ?_
  refine yt9 (t:=true) (by simp [c21,c21i]) (fun h=>?_) (fun h=>by simp at h)
  refine W_rE [0,1,4,5,6,7] ?_
  refine yq9 5 (by simp [c,ci,hge,hsA];rfl) rfl ?_
  refine yf9 (by simp) (by first | (simp;done) | (simp;rfl)) hpd (by simp;rfl) ?_
  refine yw9 (by simp;rfl) ?_
  exact hfin
 ·have c21i:¬ 21 * (n:Int)+21 < (l.length:Nat):=by omega
  rw [if_neg c21] at hfin
  refine yr9 [0,1,4,5,6,7,55] (by simp [wb1,wb2,c21,c21i];rfl) ?_
  refine yt9 (t:=false) (by simp [c21,c21i]) (fun h=>by simp at h) (fun h=>?_)
  refine ym9 [0,1,4,5,6,7] ?_
  refine yg9 ?_
  exact hfin
set_option maxRecDepth 20000
noncomputable def rbT:Code:=sq2 (sq2 (sq2 (sq2 rbC)))
def rbR (n k:Nat) (K body:List UInt8):Rec:=⟨((n % 6+1:Nat):Int),K,[0,UInt8.ofNat (2+12 * k)]++body++List.replicate (254 - 12 * k) 0,false⟩
theorem rb_tail {H : List AObj} {q cap n k : Nat} {K body : List UInt8} (h : rbH H q cap ([0, 0] ++ body)) (hbl : body.length = 12 * k) (hk : k ≤ 21) (hn : n ≤ 1000000) :
  Wt true 0 Tryz.prog rbT (retN Tryz.prog [.cell 4 100] (recA (rbR n k K body))) ⟨86,[(1,.v (.int .i64 (n:Nat))),(4,.loc 0 0),(5,.arr q 0 (2+12 * k) cap),(6,.lst .any 1 (byL K))],H⟩:=by
 obtain ⟨z,hz,ho⟩:=h.b.o
 have hbn:=h.b.n
 have hqp:=h.q
 have hql:=(List.getElem?_eq_some_iff.1 ho).1
 have hdl:([0,0]++body:List UInt8).length=2+12 * k:=by rw [List.length_append,hbl];rfl
 rw [hdl] at hbn hz
 obtain ⟨c,hc⟩:∃ c,2+12 * k=c:=⟨_,rfl⟩
 have hc2:2≤c:=by omega
 have hc254:c≤254:=by omega
 rw [hc] at hbn hz ⊢
 have t1:Int.tdiv (c:Int) 256=0:=by rw [Int.tdiv_eq_ediv_of_nonneg (by omega)];omega
 have t2:Int.tmod (c:Int) 256=(c:Int):=by rw [Int.tmod_eq_emod_of_nonneg (by omega)];omega
 have w2:IntKind.i64.wrap (c:Int)=(c:Int):=w64 (by omega) (by omega)
 have w3:IntKind.u8.wrap (c:Int)=(c:Int):=by rw [IntKind.wrap_u8];omega
 have p0:0 < c:=by omega
 have p0i:(0:Int) < (c:Int):=by omega
 have p1:1 < c:=by omega
 have p1i:(1:Int) < (c:Int):=by omega
 have hcl:(byL (([0,0]++body)++z)).length=2+body.length+z.length:=by rw [xv9,List.length_append,List.length_append];rfl
 have l1:1≤body.length+z.length+1+1:=by omega
 refine W_rK [1,4,5,6] ?_
 refine yq9 6 (by simp [t1,show IntKind.i64.wrap 0=0 from by decide,show IntKind.u8.wrap 0=0 from by decide];rfl) rfl ?_
 refine yq9 4 (by simp [t2,w2,w3];rfl) rfl ?_
 refine yq9 2 (by simp [p0,p0i,ho];rfl) rfl ?_
 have hset0:yk9 (byL (0 :: 0 :: (body++z))) 0 [AV.v (.int .u8 0)]=byL (0 :: 0 :: (body++z)):=by simp [yk9,zc9]
 have hcc:((UInt8.ofNat c).toNat:Int)=(c:Int):=by rw [UInt8.toNat_ofNat'];omega
 have hset1:yk9 (byL (0 :: 0 :: (body++z))) 1 [AV.v (.int .u8 (c:Int))]=byL (0 :: UInt8.ofNat c :: (body++z)):=by simp only [yk9,zc9,hcc];rfl
 rw [hset0]
 refine yw9 (by simp [p1,p1i,hql,List.getElem?_set];rfl) ?_
 rw [hset1]
 obtain ⟨H2,hH2⟩:∃ H2,H.set q (AObj.cells 5 (byL (0 :: UInt8.ofNat c :: (body++z))))=H2:=⟨_,rfl⟩
 have hB2:rbH H2 q cap ([0,UInt8.ofNat c]++body):=by
  refine ⟨⟨?_,h.b.mx,z,?_,?_⟩,hqp,?_⟩
  ·rw [List.length_append,hbl];simp <;> omega
  ·rw [List.length_append,hbl,hz,← hc];simp <;> omega
  ·rw [← hH2,List.getElem?_set,if_pos rfl,if_pos hql];rfl
  ·rw [← hH2,List.getElem?_set,if_neg (by omega)];exact h.o
 rw [hH2]
 clear hz ho hset0 hset1 hcl
 refine yh9 ?_
 refine yl9 ?_
 have hD:rbR n k K body=⟨((n % 6+1:Nat):Int),K,[0,UInt8.ofNat c]++body++List.replicate (254 - 12 * k) 0,false⟩:=by rw [← hc];rfl
 rw [hD]
 refine zf9 (fun y σ => ∃ (r q cap : Nat) (H : List AObj) (d : List UInt8), y = 254 - 12 * k - r ∧ r ≤ 254 - 12 * k ∧ [0, UInt8.ofNat c] ++ body ++ List.replicate r 0 = d ∧ rbH H q cap d ∧ σ = ⟨86, [(1, .v (.int .i64 (n : Nat))), (4, .loc 0 0), (5, .arr q 0 d.length cap), (6, .lst .any 1 (byL K))], H⟩) (k := 254 - 12 * k)
  ⟨0,q,cap,H2,[0,UInt8.ofNat c]++body,rfl,by omega,by simp,hB2,by rw [show ([0,UInt8.ofNat c]++body).length=c by rw [List.length_append,hbl,← hc];rfl];rfl⟩ ?_
 clear hB2 hH2 hbn hql
 rintro y σ ⟨r,q,cap,H,d,rfl,hr,hd,hB,rfl⟩
 have hdl:d.length=c+r:=by rw [← hd,List.length_append,List.length_append,hbl,List.length_replicate,← hc];simp <;> omega
 refine yh9 ?_
 by_cases cr:r < 254 - 12 * k
 ·have c256 : d.length < 256 := by omega
  have c256i:(d.length:Int) < 256:=by omega
  obtain ⟨z,hz,ho⟩:=hB.b.o
  have hbn:=hB.b.n
  have hql:=(List.getElem?_eq_some_iff.1 ho).1
  refine yr9 [1,4,5,6,76] (by simp [c256,c256i];rfl) ?_
  refine yt9 (t:=true) (by simp [c256,c256i]) (fun h=>?_) (fun h=>by simp at h)
  refine yg9 ?_
  repeat (first | refine on_norm ?_ | refine in_norm ?_)
  refine yl9 ?_
  refine W_rE [1,4,5,6] ?_
  refine yq9 1 (by simp;rfl) rfl ?_
  refine xw8 (by simp) ⟨_,by simp [ys8,jd7,catK,AV.cellsK,AV.kone,AV.koneL];rfl,?_⟩
  have hBx:BytC (H++[.cells 5 [AV.v (.int .u8 0)]]) q cap d:=⟨hbn,hB.b.mx,z,hz,by rw [List.getElem?_append_left hql];exact ho⟩
  have hox:(H++[.cells 5 [AV.v (.int .u8 0)]])[q]?=some (AObj.cells 5 (byL (d++z))):=by rw [List.getElem?_append_left hql];exact ho
  refine jb9 (t:=90) (e:=5) (sz:=1) (by_:=1) (id:=q) (len:=d.length) (cap:=cap) (m:=([0]:List UInt8).length) (cs:=byL (d++z)) (yc:=byL [0]) (by simp) rfl rfl rfl rfl (by simp) (by simp [srcA,zc9]) s90 a5 z5 (by simp) hox (by rw [xv9,List.length_append,hz];omega) (by simp;omega) ?_
  intro s1 x1 ha3
  obtain ⟨q3,cap3,h3,rfl,rfl,hB3,hf3,hl3,hq3,_⟩:=BytC.app (s:=⟨86,_,H++[.cells 5 [AV.v (.int .u8 0)]]⟩) hBx hox rfl ha3
  have hq3':q3=q∨q3=H.length+1:=by simpa using hq3
  have hqp:=hB.q
  have ho3:h3[0]?=some (.cells 100 zr100):=by
   rw [hf3 0 (by omega) (by simp)]
   simp only
   rw [List.getElem?_append_left (by omega)]
   exact hB.o
  have hd3:[0,UInt8.ofNat c]++body++List.replicate (r+1) 0=d++[0]:=by rw [← hd,List.replicate_succ',List.append_assoc,List.append_assoc,List.append_assoc]
  obtain ⟨d3,hd3'⟩:∃ d3,d++[0]=d3:=⟨_,rfl⟩
  rw [hd3'] at hB3 hd3 ⊢
  refine ⟨_,by simp;rfl,?_⟩
  refine yw9 (by simp;rfl) ?_
  repeat (first | refine on_norm ?_ | refine in_norm ?_)
  exact ⟨_,by omega,r+1,q3,cap3,h3,d3,rfl,by omega,hd3,⟨hB3,by omega,ho3⟩,rfl⟩
 ·have hre:r=254 - 12 * k:=by omega
  subst hre
  rw [hd]
  have hdl2:d.length=256:=by omega
  rw [hdl2]
  refine yr9 [1,4,5,6,76] (by simp;rfl) ?_
  refine yt9 (t:=false) (by simp) (fun h=>by simp at h) (fun h=>?_)
  refine ym9 [1,4,5,6] ?_
  refine zs9 ?_
  repeat (first | refine on_exit ?_ | refine in_exit ?_)
  have wr1:Int.tmod (n:Int) 6=((n % 6:Nat):Int):=by rw [Int.tmod_eq_emod_of_nonneg (by omega)];omega
  have wr2:IntKind.i64.wrap (((n % 6:Nat):Int)+1)=((n % 6+1:Nat):Int):=by rw [w64 (by omega) (by omega)];omega
  obtain ⟨i6,hi6⟩:∃ i6,n % 6=i6:=⟨_,rfl⟩
  rw [hi6] at wr1 wr2 ⊢
  have ho:=hB.o
  have hql:0 < H.length:=(List.getElem?_eq_some_iff.1 ho).1
  refine W_rK [4] ?_
  refine yq9 5 (by simp [wr1,wr2];rfl) rfl ?_
  refine yw9 (by simp [yk9,ho,zr100];rfl) ?_
  refine yj9 ?_
  repeat (first | refine yp9 ?_ | refine ys9 ?_)
  obtain ⟨z,hz,hoq⟩:=hB.b.o
  have hqp:=hB.q
  have hq2:(H.set 0 (AObj.cells 100 [.v (.int .i64 ((i6:Int)+1)),.lst .any 1 (byL K),.arr q 0 256 cap,.v (.bool false)]))[q]?=some (.cells 5 (byL (d++z))):=by rw [List.getElem?_set,if_neg (by omega)];exact hoq
  obtain ⟨o,hoo,hfz⟩:=frz_by2 (n:=256) (cq:=cap) hq2 (by rw [List.length_append,hdl2];omega)
  rw [List.take_left' hdl2] at hfz
  rcases hoo with rfl | rfl
  all_goals exact ⟨_,by simp [retQ,frzV,frzL,hfz,hql];exact ⟨rfl,by simp [AV.rf,AV.rfL]⟩,.inr (by simp [AV.plain,AV.plainL])⟩
set_option maxRecDepth 20000
def keyJ (L P:List RE) (n j:Nat):List UInt8:=if 21 * n+21 < L.length∧0 < j then (P.getD (j - 1) ⟨[],0,0⟩).key else ffL
theorem yj6 (L : List RE) (n : Nat) (h8 : ∀ e ∈ L, e.key.length = 8) (hs : ∀ e ∈ L, symM (nmM e.key) = true) (hb : ∀ e ∈ L, e.trk < 65536 ∧ e.rn < 256) (hl : L.length ≤ 1000000) (hn : n ≤ 1000000) :
  Sound Tryz.prog 85 [.lst .any 3 (seL (L.map nmE)),.v (.int .i64 (n:Nat))] (recA (blkE L n)):=by
 refine vd9 Tryz.func85 rfl (by decide +kernel) (by simp [Tryz.f85]) (by simp [AV.rfL,AV.rf]) (by simp [AV.tlL,AV.tl]) (rs:=[.cell 4 100]) rfl ?_
 rw [show Tryz.f85.ntmps=86 from rfl]
 obtain ⟨P,hP⟩:∃ P,zn7 L n=P:=⟨_,rfl⟩
 have hPl:P.length≤21:=by rw [← hP];exact ql7 L n
 have hPn:P.length=min 21 (L.length - 21 * n):=by rw [← hP,zn7,List.length_take,List.length_drop]
 have hP8:∀ e∈P,e.key.length=8:=fun e he=>h8 e (jk8 (hP ▸ he))
 have hPg:∀ j e,P[j]?=some e→L[21 * n+j]?=some e:=by
  intro j e he
  have hj:=(List.getElem?_eq_some_iff.1 he).1
  rw [← hP,zn7,List.getElem?_take,if_pos (by omega),List.getElem?_drop] at he
  exact he
 have w0:IntKind.i64.wrap (21 * (n:Int))=21 * (n:Int):=w64 (by omega) (by omega)
 have w0':IntKind.i64.wrap (21 * (n:Int)+21)=21 * (n:Int)+21:=w64 (by omega) (by omega)
 have hll:(L.map nmE).length=L.length:=by simp
 obtain ⟨l,hlE⟩:∃ l,L.map nmE=l:=⟨_,rfl⟩
 rw [hlE] at hll ⊢
 refine yr9 [0,1,4] (by simp;rfl) ?_
 refine W_rK [0,1,4,5] ?_
 refine xw8 (by simp) ⟨_,by simp [ys8,jd7,catK,AV.cellsK,AV.kone,AV.koneL,show List.range 2=[0,1] from rfl];rfl,?_⟩
 refine yw9 (by simp;rfl) ?_
 refine yr9 [0,1,4,5,6] (by simp [catK,AV.cellsK,AV.kone,AV.koneL,show List.range 8=[0,1,2,3,4,5,6,7] from rfl];rfl) ?_
 refine W_any 6 (o:=.tip 5 38) (sz:=1) (xs:=byL ffL) rfl ?_
 refine yh9 ?_
 refine yr9 [0,1,4,5,6,7] (by simp [putF,w0];rfl) ?_
 refine yl9 ?_
 refine zf9 (fun z σ => ∃ (j q cap : Nat) (H : List AObj), z = P.length - j ∧ j ≤ P.length ∧ rbH H q cap ([0, 0] ++ kl9 (P.take j)) ∧ σ = rbS l n (21 * n + j) q cap ([0, 0] ++ kl9 (P.take j)) (keyJ L P n j) H) (k := P.length)
  ⟨0,1,2,[.cells 100 zr100,.cells 5 (byL [0,0])],rfl,by omega,⟨⟨by simp [kl9],by simp [maxLen],[],by simp [kl9],rfl⟩,by omega,rfl⟩,by simp [rbS,keyJ,kl9,zr100,zc9]⟩ ?_
 rintro z σ ⟨j,q,cap,H,rfl,hj,hH,rfl⟩
 have hbl:(kl9 (P.take j)).length=12 * j:=by rw [xk8 (fun e he=>hP8 e (List.mem_of_mem_take he)),List.length_take];omega
 obtain ⟨d,hd⟩:∃ d,[0,0]++kl9 (P.take j)=d:=⟨_,rfl⟩
 have hdl:d.length=2+12 * j:=by rw [← hd,List.length_append,hbl];rfl
 rw [hd] at hH ⊢
 refine yh9 ?_
 by_cases c:j < P.length
 ·obtain ⟨e, he⟩ : ∃ e, P[j]? = some e := ⟨_, List.getElem?_eq_getElem c⟩
  have heL:=hPg j e he
  have hem:=List.mem_of_getElem? heL
  have hel:l[21 * n+j]?=some (nmE e):=by rw [← hlE,List.getElem?_map,heL];rfl
  have wi:=w64 (n:=21 * (n:Int)+(j:Int)+1) (by omega) (by omega)
  have c1:21 * n+j < 21 * n+21:=by omega
  have c1i:21 * (n:Int)+(j:Int) < 21 * (n:Int)+21:=by omega
  have c2:21 * n+j < l.length:=by omega
  have c2i:21 * (n:Int)+(j:Int) < (l.length:Nat):=by omega
  refine yr9 [0,1,4,5,6,7,22] (by simp [rbS,w0,w0',c1,c1i,c2,c2i,show (j:Int) < 21 by omega,show j < 21 by omega];rfl) ?_
  refine yt9 (t:=true) (by simp) (fun h=>?_) (fun h=>by simp at h)
  refine yg9 ?_
  repeat (first | refine on_norm ?_ | refine in_norm ?_)
  refine ym9 [0,1,4,5,6,7] ?_
  refine yh9 ?_
  refine yl9 ?_
  have hbe:=hb e hem
  refine rb_one hH hel (h8 e hem) (hs e hem) hbe.1 hbe.2 (by omega) (by omega) (by omega) (K:=keyJ L P n j) fun H' q' cap' hH'=>?_
  have htk:P.take (j+1)=P.take j++[e]:=by rw [List.take_add_one,he];rfl
  have hd2:d++entB e=[0,0]++kl9 (P.take (j+1)):=by rw [← hd,htk];simp [kl9]
  have hkj:(if 21 * n+21 < l.length then e.key else keyJ L P n j)=keyJ L P n (j+1):=by
   rw [hll]
   by_cases cc:21 * n+21 < L.length
   ·rw [if_pos cc,keyJ,if_pos ⟨cc,by omega⟩,Nat.add_sub_cancel,List.getD_eq_getElem?_getD,he];rfl
   ·rw [if_neg cc,keyJ,keyJ,if_neg (fun h=>cc h.1),if_neg (fun h=>cc h.1)]
  rw [hkj]
  rw [hd2] at hH' ⊢
  obtain ⟨d3,hd3⟩:∃ d3,[0,0]++kl9 (P.take (j+1))=d3:=⟨_,rfl⟩
  rw [hd3] at hH' ⊢
  repeat (first | refine on_norm ?_ | refine in_norm ?_)
  refine zr9 [0,1,4,5,6,7] (by simp [rbS,wi];rfl) ?_
  exact ⟨_,by omega,j+1,q',cap',H',rfl,by omega,hd3 ▸ hH',by rw [hd3];simp [rbS,Int.add_assoc]⟩
 ·have hje : j = P.length := by omega
  have hge:¬ (21 * n+j < 21 * n+21∧21 * n+j < l.length):=by omega
  have hfinal:Wt true 0 Tryz.prog rbT (retN Tryz.prog [.cell 4 100] (recA (blkE L n))) ⟨86,[(1,.v (.int .i64 (n:Nat))),(4,.loc 0 0),(5,.arr q 0 d.length cap),(6,.lst .any 1 (byL (keyJ L P n j)))],H⟩:=by
   have hkey:keyJ L P n j=keyE L n:=by
    unfold keyJ keyE
    by_cases cc:21 * n+21 < L.length
    ·have hP21 : P.length = 21 := by omega
     rw [if_pos ⟨cc,by omega⟩,if_pos cc,hje,hP21]
     have h20:P[20]?=L[21 * n+20]?:=by
      rw [← hP,zn7,List.getElem?_take,if_pos (by omega),List.getElem?_drop]
     rw [List.getD_eq_getElem?_getD,List.getD_eq_getElem?_getD,show 21 - 1=20 from rfl,h20]
    ·rw [if_neg (fun h=>cc h.1),if_neg cc]
   have hbody:kl9 (P.take j)=kl9 P:=by rw [hje,List.take_length]
   rw [← hd] at hH
   rw [hbody] at hH hbl
   have:=rb_tail (n:=n) (K:=keyJ L P n j) hH hbl (by omega) hn
   rw [hdl]
   have he:rbR n j (keyJ L P n j) (kl9 P)=blkE L n:=by rw [rbR,blkE,hkey,hP,dataE,hje]
   rw [he] at this
   exact this
  by_cases c21:j < 21
  ·have c2:¬ 21 * n+j < l.length:=by omega
   have c2i:¬ 21 * (n:Int)+(j:Int) < (l.length:Nat):=by omega
   refine yr9 [1,4,5,6,22] (by simp [rbS,w0,w0',c2,c2i,show (j:Int) < 21 by omega,c21];rfl) ?_
   refine yt9 (t:=false) (by simp) (fun h=>by simp at h) (fun h=>?_)
   refine ym9 [1,4,5,6] ?_
   refine zs9 ?_
   repeat (first | refine on_exit ?_ | refine in_exit ?_)
   exact hfinal
  ·refine yr9 [1,4,5,6,22] (by simp [rbS,w0,w0',show ¬ (j:Int) < 21 by omega,c21];rfl) ?_
   refine yt9 (t:=false) (by simp) (fun h=>by simp at h) (fun h=>?_)
   refine ym9 [1,4,5,6] ?_
   refine zs9 ?_
   repeat (first | refine on_exit ?_ | refine in_exit ?_)
   exact hfinal
set_option maxRecDepth 20000
theorem okAt.sw {x:AV} {t:List Rec} (h:okAt x t) (i j:Nat):x.sw i j=x:=by
 rcases h with rfl | ⟨f,rfl,_⟩ <;> simp [AV.sw]
theorem swL_ok {cs:List AV} (i j:Nat) (h:∀ x∈cs,∃ t,okAt x t):AV.swL i j cs=cs:=by
 induction cs with
 | nil=>rfl
 | cons x cs ih =>
  obtain ⟨t,ht⟩:=h x List.mem_cons_self
  simp only [AV.swL,ht.sw,ih (fun y hy=>h y (List.mem_cons_of_mem _ hy))]
theorem wj6 : ∀ (m : Nat) (xs : List AV), m ≤ xs.length → chunk false 1 m xs = xs.take m
 | 0,xs,_=>by simp [chunk]
 | m+1,[],h=>by simp at h
 | m+1,x :: xs,h=>by
  simp only [chunk,List.headD_cons,List.drop_succ_cons,List.drop_zero,List.take_succ_cons,Bool.false_eq_true,if_false]
  rw [wj6 m xs (by simpa using h)]
theorem weakL_take24 (xs:List AV) (n:Nat):AV.weakL (xs.take n)=(AV.weakL xs).take n:=by
 apply List.ext_getElem?
 intro j
 rw [vh9,List.getElem?_take,List.getElem?_take]
 split
 ·rw [vh9]
 ·rfl
noncomputable def rdX:Code:=bkC (sq1 (sq2 (lpC (bkC (sq2 (sq1 (sq2 (sq2 (Tryz.f47.body.getD .skip)))))))))
theorem vf7 {l : List SE} {n i cap x : Nat} {A : List (List Rec)} {cs : List AV} {B : Rec} (hblk : Sound Tryz.prog 85 [.lst .any 3 (seL l), .v (.int .i64 (i : Nat))] (recA B)) (hrc : RC A cap cs) (hne : A ≠ []) (hxl : A.length = x + 1) (hx : i / 6 = x) (hi : i ≤ 1000) (hnl : (xc9 A).length ≤ 6)
  {Q:Exit→St→Prop} (hQ:∀ cs',RC (A.dropLast++[xc9 A++[B]]) cap cs'→Q .normal ⟨33,[(0,.lst .any 3 (seL l)),(1,.v (.int .i64 (n:Nat))),(5,.arr 0 0 (x+1) cap),(6,.v (.int .i64 (i:Nat)))],[.cells 80 cs']⟩) :
  Wt true 0 Tryz.prog (sq2 rdX) Q ⟨33,[(0,.lst .any 3 (seL l)),(1,.v (.int .i64 (n:Nat))),(5,.arr 0 0 (x+1) cap),(6,.v (.int .i64 (i:Nat)))],[.cells 80 cs]⟩:=by
 have wq:Int.tdiv (i:Int) 6=(x:Nat):=by rw [Int.tdiv_eq_ediv_of_nonneg (by omega)];omega
 have wx:IntKind.i64.wrap (x:Nat)=(x:Nat):=w64 (by omega) (by omega)
 have hcl:=hrc.len
 have hce:=hrc.le
 simp only [recA] at hblk
 have hle1:x+1≤cs.length:=by omega
 have h1:x < x+1:=by omega
 have h1i:(x:Int) < (x:Int)+1:=by omega
 obtain ⟨y,hcx,f,rfl,hf⟩:=hrc.last hne
 rw [show A.length - 1=x by omega] at hcx
 obtain ⟨now,hnow⟩:∃ now,xc9 A=now:=⟨_,rfl⟩
 rw [hnow] at hcx hf hnl hQ
 have b3:(now.length+1) * 64≤140737488355328:=by omega
 have b4:64 * (now.length+1)≤140737488355328:=by omega
 have hsn:trL now++[AV.agg [.v (.int .i64 B.R),.lst .any 1 (byL B.key),.lst .any 1 (byL B.data),.v (.bool B.bad)]]=trL (now++[B]):=us7 now B
 have hxx:A.length - 1=x:=by omega
 rcases hf with rfl | ⟨U,hU,rfl⟩ | ⟨rfl,h0⟩
 ·have hnew:=hrc.grow0 hne (t':=now++[B]) (x:=.lst (.tip 100 61) 4 (trL (now++[B]))) ⟨_,rfl,.inr (.inl ⟨61,by decide,rfl⟩)⟩
  rw [hxx] at hnew
  refine yc8 [0,1,5,6] mx (by decide +kernel) ?_
  refine yd9 6 (by simp [wq,wx];rfl) rfl ?_
  refine yd9 4 (by simp [wq,wx,h1,h1i,hcx];rfl) rfl ?_
  refine yv9 (by simp) (by first | (simp;done) | (simp;rfl)) hblk (by simp;rfl) ?_
  refine yb9 (by simp [wq,wx,h1,h1i,hcx,hle1,catK,AV.cellsK,AV.kone,AV.koneL,b3,b4,hsn];rfl) ?_
  exact hQ _ hnew
 ·have hnew:=hrc.grow (T:=U) hne (t':=now++[B]) (x:=.lst (.tip 100 U) 4 (trL (now++[B]))) ⟨_,rfl,.inr (.inl ⟨U,hU,rfl⟩)⟩
  rw [hxx] at hnew
  have hkl:=vb8 U cs
  have hle2:x+1≤(AV.killL U cs).length:=by omega
  refine yc8 [0,1,5,6] mx (by decide +kernel) ?_
  refine yd9 6 (by simp [wq,wx];rfl) rfl ?_
  refine yd9 4 (by simp [wq,wx,h1,h1i,hcx];rfl) rfl ?_
  refine yv9 (by simp) (by first | (simp;done) | (simp;rfl)) hblk (by simp;rfl) ?_
  refine yb9 (by simp [wq,wx,h1,h1i,hcx,hle1,hle2,catK,AV.cellsK,AV.kone,AV.koneL,b3,b4,hsn,AObj.kill,hU];rfl) ?_
  exact hQ _ hnew
 ·subst h0
  have hnew:=hrc.grow0 hne (t':=[B]) (x:=.lst (.tip 100 61) 4 (trL [B])) ⟨_,rfl,.inr (.inl ⟨61,by decide,rfl⟩)⟩
  rw [hxx] at hnew
  refine yc8 [0,1,5,6] mx (by decide +kernel) ?_
  refine yd9 6 (by simp [wq,wx];rfl) rfl ?_
  refine yd9 4 (by simp [wq,wx,h1,h1i,hcx];rfl) rfl ?_
  refine yv9 (by simp) (by first | (simp;done) | (simp;rfl)) hblk (by simp;rfl) ?_
  refine yb9 (by simp [wq,wx,h1,h1i,hcx,hle1,catK,AV.cellsK,AV.kone,AV.koneL];rfl) ?_
  exact hQ _ hnew
theorem rdirT_sound (L : List RE) (n : Nat) (h8 : ∀ e ∈ L, e.key.length = 8) (hs : ∀ e ∈ L, symM (nmM e.key) = true) (hb : ∀ e ∈ L, e.trk < 65536 ∧ e.rn < 256) (hl : L.length ≤ 1000000) (hn : n ≤ 1000) :
  Sound Tryz.prog 47 [.lst .any 3 (seL (L.map nmE)),.v (.int .i64 (n:Nat))] (.lst (.tip 80 1) 1 (arL (layG L n))):=by
 refine zn9 Tryz.func47 rfl (by decide +kernel) (by simp [Tryz.f47]) (by simp [AV.rfL,AV.rf]) (by simp [AV.tlL,AV.tl]) (rs:=[.tmp 4]) rfl ?_
 rw [show Tryz.f47.ntmps=33 from rfl]
 obtain ⟨l,hlE⟩:∃ l,L.map nmE=l:=⟨_,rfl⟩
 refine yr9 [0,1,4] (by simp;rfl) ?_
 refine yr9 [0,1,5] (by simp;rfl) ?_
 refine yh9 ?_
 refine yr9 [0,1,5,6] (by simp;rfl) ?_
 refine yl9 ?_
 rw [hlE]
 refine zf9 (fun z σ => ∃ (i : Nat) (x : AV) (H : List AObj), z = n - i ∧ i ≤ n ∧ ((i = 0 ∧ x = .lst .nil 1 [] ∧ H = []) ∨ (0 < i ∧ ∃ cap cs, x = .arr 0 0 ((i + 5) / 6) cap ∧ cap ≤ maxLen ∧ RC (layG L i) cap cs ∧ H = [.cells 80 cs])) ∧
  σ=⟨33,[(0,.lst .any 3 (seL l)),(1,.v (.int .i64 (n:Nat))),(5,x),(6,.v (.int .i64 (i:Nat)))],H⟩) (k:=n) ⟨0,_,[],rfl,by omega,.inl ⟨rfl,rfl,rfl⟩,by simp⟩ ?_
 rintro z σ ⟨i,x,H,rfl,hi,hx,rfl⟩
 refine yh9 ?_
 have hlay:=qc9 L i
 by_cases c:i < n
 ·have ci : (i : Int) < n := by omega
  have wi:=w64 (n:=(i:Int)+1) (by omega) (by omega)
  have wr1:Int.tmod (i:Int) 6=((i % 6:Nat):Int):=by rw [Int.tmod_eq_emod_of_nonneg (by omega)];omega
  have wr2:IntKind.i64.wrap ((i % 6:Nat):Int)=((i % 6:Nat):Int):=w64 (by omega) (by omega)
  have hblk:=yj6 L i h8 hs hb hl (by omega)
  obtain ⟨B,hB⟩:∃ B,blkE L i=B:=⟨_,rfl⟩
  rw [hB,hlE] at hblk
  simp only [recA] at hblk
  obtain ⟨r6,hr6⟩:∃ r6,i % 6=r6:=⟨_,rfl⟩
  rw [hr6] at wr1 wr2
  rcases hx with ⟨h0,rfl,rfl⟩ | ⟨h0,cap,cs,rfl,hcm,hrc,rfl⟩
  ·subst h0
   have hr0:r6=0:=by omega
   subst hr0
   refine yr9 [0,1,5,6,9] (by simp [c,ci];rfl) ?_
   refine yt9 (t:=true) (by simp [c,ci]) (fun h=>?_) (fun h=>by simp at h)
   refine yg9 ?_
   repeat (first | refine on_norm ?_ | refine in_norm ?_)
   refine yh9 ?_
   refine yl9 ?_
   refine yh9 ?_
   refine yr9 [0,1,5,6,14] (by simp [wr1,wr2];rfl) ?_
   refine yt9 (t:=true) (by simp) (fun h=>?_) (fun h=>by simp at h)
   refine W_rE [0,1,5,6] ?_
   refine yq9 1 (by simp;rfl) rfl ?_
   refine xw8 (by simp) ⟨_,by simp [ys8,jd7,catK,AV.cellsK,AV.kone,AV.koneL];rfl,?_⟩
   refine runA_nilA (t:=24) (e:=80) (sz:=1) (by_:=24) (s0:=1) (x0:=[]) (m:=1) (yc:=[.lst .nil 4 []]) (by simp) rfl rfl rfl rfl (by simp) (by simp [srcA]) s24 a80 z80 (by simp) (by omega) (by omega) ?_
   intro cap' hc1 hc2
   refine ⟨_,by simp;rfl,?_⟩
   refine yw9 (by simp;rfl) ?_
   have hrc1:RC [[]] cap' ([.lst .nil 4 []]++repC (cap' - 1) (AV.lst .nil 4 []).cells):=by
    have:=RC.move (RC.nils 0) (t':=[]) (cap':=cap') (x:=.lst .nil 4 []) (by simpa using hc1) ⟨.nil,rfl,.inr (.inr ⟨rfl,rfl⟩)⟩
    simpa [AV.cells,xr8] using this
   simp only [AV.cells,List.cons_append,List.nil_append] at hrc1 ⊢
   obtain ⟨cs,hcs⟩:∃ cs,AV.lst .nil 4 [] :: repC (cap' - 1) [AV.lst .nil 4 []]=cs:=⟨_,rfl⟩
   rw [hcs] at hrc1 ⊢
   repeat (first | refine on_norm ?_ | refine in_norm ?_)
   refine ym9 [0,1,5,6] ?_
   refine W_swap 0 1 (by omega) (by omega) (by simp [zg9]) (by simp [zg9]) ?_
   have hst:∀ bs:AObj,swSt 0 1 (⟨33,[(0,.lst .any 3 (seL l)),(1,.v (.int .i64 (n:Nat))),(5,.arr 1 0 1 cap'),(6,.v (.int .i64 (0:Nat)))],[bs,.cells 80 cs]⟩:St)=⟨33,[(0,.lst .any 3 (seL l)),(1,.v (.int .i64 (n:Nat))),(5,.arr 0 0 1 cap'),(6,.v (.int .i64 (0:Nat)))],[.cells 80 cs,bs.sw 0 1]⟩:=by
    intro bs
    simp [swSt,AV.sw,sw,AObj.sw,swL_ok _ _ hrc1.ce]
   refine (show Wt true 0 Tryz.prog _ _ (swSt 0 1 (⟨33,[(0,.lst .any 3 (seL l)),(1,.v (.int .i64 (n:Nat))),(5,.arr 1 0 1 cap'),(6,.v (.int .i64 (0:Nat)))],[_,.cells 80 cs]⟩:St)) from ?_)
   rw [hst]
   refine vp9 1 (by omega) (by simp) (by simp [zj9,AV.under,AV.underL]) (by simp [yn9,AObj.under,hrc1.under]) ?_
   refine vf7 (x:=0) hblk hrc1 (by simp) rfl rfl (by omega) (by simp [xc9]) fun cs' hcs'=>?_
   repeat (first | refine on_norm ?_ | refine in_norm ?_)
   refine zr9 [0,1,5,6] (by simp [show IntKind.i64.wrap 1=1 from by decide];rfl) ?_
   refine ⟨_,by omega,0+1,_,_,rfl,by omega,.inr ⟨by omega,cap',cs',rfl,hc2,?_,rfl⟩,by simp⟩
   rw [vk7 L (i:=0) rfl,hB]
   simpa [xc9,layG] using hcs'
  ·have hcl := hrc.len
   have hce:=hrc.le
   rw [hlay] at hce
   have hAne:layG L i≠[]:=by intro h;rw [h] at hlay;simp at hlay;omega
   have hlast:(xc9 (layG L i)).length≤6:=by
    unfold xc9
    rw [List.getLast?_eq_some_getLast hAne]
    obtain ⟨j,hj,e⟩:=List.mem_map.1 (List.getLast_mem hAne)
    simp only [Option.getD_some]
    rw [← e,List.length_map,List.length_take]
    omega
   refine yr9 [0,1,5,6,9] (by simp [c,ci];rfl) ?_
   refine yt9 (t:=true) (by simp [c,ci]) (fun h=>?_) (fun h=>by simp at h)
   refine yg9 ?_
   repeat (first | refine on_norm ?_ | refine in_norm ?_)
   refine yh9 ?_
   refine yl9 ?_
   refine yh9 ?_
   by_cases h6:r6=0
   ·subst h6
    obtain ⟨m,hm⟩:∃ m,(i+5) / 6=m:=⟨_,rfl⟩
    rw [hm] at hlay hce ⊢
    refine yr9 [0,1,5,6,14] (by simp [wr1,wr2];rfl) ?_
    refine yt9 (t:=true) (by simp) (fun h=>?_) (fun h=>by simp at h)
    refine W_rE [0,1,5,6] ?_
    refine yq9 1 (by simp;rfl) rfl ?_
    refine xw8 (by simp) ⟨_,by simp [ys8,jd7,catK,AV.cellsK,AV.kone,AV.koneL];rfl,?_⟩
    refine jb9 (t:=24) (e:=80) (sz:=1) (by_:=24) (id:=0) (len:=m) (cap:=cap) (m:=1) (cs:=cs) (yc:=[.lst .nil 4 []]) (by simp) rfl rfl rfl rfl (by simp) (by simp [srcA]) s24 a80 z80 (by simp) (by simp) (by omega) (by omega) ?_
    have hnil:okLt (AV.lst .nil 4 []) []:=⟨.nil,rfl,.inr (.inr ⟨rfl,rfl⟩)⟩
    rintro s1 x1 (⟨hr,rfl,rfl⟩ | ⟨hr,cap',hc1,hc2,rfl,rfl⟩)
    ·have hrc1:=hrc.next (t':=[]) (by omega) hnil
     rw [hlay] at hrc1
     refine ⟨_,by simp;rfl,?_⟩
     refine yw9 (by simp;rfl) ?_
     repeat (first | refine on_norm ?_ | refine in_norm ?_)
     refine ym9 [0,1,5,6] ?_
     obtain ⟨cs1,hcs1⟩:∃ cs1,yk9 cs m [AV.lst .nil 4 []]=cs1:=⟨_,rfl⟩
     rw [hcs1] at hrc1 ⊢
     refine vp9 1 (by omega) (by simp [zg9]) (by simp [zg9,ud9,zj9,AV.under,AV.underL]) (by simp [zg9,yn9,AObj.under,hrc1.under]) ?_
     refine vf7 (x:=m) hblk hrc1 (by simp) (by simp [hlay]) (by omega) (by omega) (by simp [xc9]) fun cs' hcs'=>?_
     repeat (first | refine on_norm ?_ | refine in_norm ?_)
     refine zr9 [0,1,5,6] (by simp [wi];rfl) ?_
     refine ⟨_,by omega,i+1,_,_,rfl,by omega,.inr ⟨by omega,cap,cs',by rw [show (i+1+5) / 6=m+1 by omega],hcm,?_,rfl⟩,by simp⟩
     rw [vk7 L (by omega),hB]
     simpa [xc9] using hcs'
    ·have hrc1 := hrc.move (t' := []) (cap' := cap') (by omega) hnil
     rw [hlay] at hrc1
     refine ⟨_,by simp;rfl,?_⟩
     refine yw9 (by simp;rfl) ?_
     repeat (first | refine on_norm ?_ | refine in_norm ?_)
     refine ym9 [0,1,5,6] ?_
     rw [← xr8] at hrc1
     simp only [Nat.mul_one,List.append_assoc,List.cons_append,List.nil_append,AV.cells] at hrc1 ⊢
     obtain ⟨cs1,hcs1⟩:∃ cs1,List.take m cs++AV.lst .nil 4 [] :: repC (cap' - (m+1)) [AV.lst .nil 4 []]=cs1:=⟨_,rfl⟩
     rw [hcs1] at hrc1 ⊢
     refine W_swap 0 2 (by omega) (by omega) (by simp [zg9]) (by simp [zg9]) ?_
     have hst:∀ ys bs:AObj,swSt 0 2 (⟨33,[(0,.lst .any 3 (seL l)),(1,.v (.int .i64 (n:Nat))),(5,.arr 2 0 (m+1) cap'),(6,.v (.int .i64 (i:Nat)))],[ys,bs,.cells 80 cs1]⟩:St)=⟨33,[(0,.lst .any 3 (seL l)),(1,.v (.int .i64 (n:Nat))),(5,.arr 0 0 (m+1) cap'),(6,.v (.int .i64 (i:Nat)))],[.cells 80 cs1,bs.sw 0 2,ys.sw 0 2]⟩:=by
      intro ys bs
      simp [swSt,AV.sw,sw,AObj.sw,swL_ok _ _ hrc1.ce]
     refine (show Wt true 0 Tryz.prog _ _ (swSt 0 2 (⟨33,[(0,.lst .any 3 (seL l)),(1,.v (.int .i64 (n:Nat))),(5,.arr 2 0 (m+1) cap'),(6,.v (.int .i64 (i:Nat)))],[_,_,.cells 80 cs1]⟩:St)) from ?_)
     rw [hst]
     refine vp9 1 (by omega) (by simp) (by simp [zj9,AV.under,AV.underL]) (by simp [yn9,AObj.under,hrc1.under]) ?_
     refine vf7 (x:=m) hblk hrc1 (by simp) (by simp [hlay]) (by omega) (by omega) (by simp [xc9]) fun cs' hcs'=>?_
     repeat (first | refine on_norm ?_ | refine in_norm ?_)
     refine zr9 [0,1,5,6] (by simp [wi];rfl) ?_
     refine ⟨_,by omega,i+1,_,_,rfl,by omega,.inr ⟨by omega,cap',cs',by rw [show (i+1+5) / 6=m+1 by omega],hc2,?_,rfl⟩,by simp⟩
     rw [vk7 L (by omega),hB]
     simpa [xc9] using hcs'
   ·have h6B:((r6:Int) == 0)=false:=by simp;omega
    have h6I:¬ (r6:Int)=0:=by omega
    obtain ⟨m,hm⟩:∃ m,i / 6=m:=⟨_,rfl⟩
    have hm1:(i+5) / 6=m+1:=by omega
    rw [hm1] at hlay hce ⊢
    refine yr9 [0,1,5,6,14] (by simp [wr1,wr2,h6,h6I,h6B];rfl) ?_
    refine yt9 (t:=false) (by simp [h6,h6I,h6B]) (fun h=>by simp at h) (fun h=>?_)
    refine ym9 [0,1,5,6] ?_
    refine yg9 ?_
    repeat (first | refine on_norm ?_ | refine in_norm ?_)
    refine vf7 (x:=m) hblk hrc hAne hlay hm (by omega) hlast fun cs' hcs'=>?_
    repeat (first | refine on_norm ?_ | refine in_norm ?_)
    refine zr9 [0,1,5,6] (by simp [wi];rfl) ?_
    refine ⟨_,by omega,i+1,_,_,rfl,by omega,.inr ⟨by omega,cap,cs',by rw [show (i+1+5) / 6=m+1 by omega],hcm,?_,rfl⟩,by simp⟩
    rw [layG_more L (by omega),hB]
    exact hcs'
 ·rcases hx with ⟨h0, rfl, rfl⟩ | ⟨h0, cap, cs, rfl, hcm, hrc, rfl⟩
  ·have hn0:n=0:=by omega
   subst hn0
   refine yr9 [5,9] (by simp;rfl) ?_
   refine yt9 (t:=false) (by simp) (fun h=>by simp at h) (fun h=>?_)
   refine ym9 [5] ?_
   refine zs9 ?_
   repeat (first | refine on_exit ?_ | refine in_exit ?_)
   refine yr9 [4] (by simp;rfl) ?_
   refine yj9 ?_
   repeat (first | refine yp9 ?_ | refine ys9 ?_)
   exact ⟨.lst .nil 1 [],by simp [retQ],.nil (by decide +kernel)⟩
  ·have hie : i = n := by omega
   subst hie
   have hcl:=hrc.len
   have hdl:=wd9 cs
   refine yr9 [5,9] (by simp;rfl) ?_
   refine yt9 (t:=false) (by simp) (fun h=>by simp at h) (fun h=>?_)
   refine ym9 [5] ?_
   refine zs9 ?_
   repeat (first | refine on_exit ?_ | refine in_exit ?_)
   refine yr9 [4] (by simp;rfl) ?_
   refine W_dpB 0 (ty:=80) (cs:=cs) rfl ?_
   have hfin:=hrc.fin
   rw [hlay] at hfin
   obtain ⟨m,hm⟩:∃ m,(i+5) / 6=m:=⟨_,rfl⟩
   have hce:=hrc.le
   rw [hm] at hfin hlay
   rw [hlay] at hce
   rw [hm]
   obtain ⟨D,hD⟩:∃ D,AV.dpL cs=D:=⟨_,rfl⟩
   rw [hD] at hfin hdl ⊢
   have hDl:D.length=cap:=by omega
   obtain ⟨A,hA⟩:∃ A,layG L i=A:=⟨_,rfl⟩
   rw [hA] at hfin hlay ⊢
   have hch:chunk false 1 m (arL A)=arL A:=by
    have:=chunk1 (arL A)
    rw [wc6,hlay] at this
    exact this
   refine W_tip 4 (id:=0) (len:=m) (cap:=cap) (tk:=1) (ty:=80) (sz:=1) (ag:=false) (cs:=D) (by simp) rfl (by simp) (by simp) (by omega) (.inr rfl) (by omega) (by rw [Nat.mul_one,hfin];simp) (by rw [Nat.mul_one,hfin];simp) ?_
   rw [Nat.mul_one,hfin,weakL_arL,hch]
   refine yj9 ?_
   repeat (first | refine yp9 ?_ | refine ys9 ?_)
   exact ⟨_,by simp [retQ,putF,ud9];exact ⟨rfl,by simp [AV.rf,AV.rfL]⟩,.norm fun T=>by simp⟩
theorem rdir_sound (L : List RE) (n : Nat) (h8 : ∀ e ∈ L, e.key.length = 8) (hs : ∀ e ∈ L, symM (nmM e.key) = true) (hb : ∀ e ∈ L, e.trk < 65536 ∧ e.rn < 256) (hl : L.length ≤ 1000000) (hn : n ≤ 1000) :
  Sound Tryz.prog 47 [.lst .any 3 (seL (L.map nmE)),.v (.int .i64 (n:Nat))] (.lst .any 1 (arL (layG L n))):=by
 have:=(rdirT_sound L n h8 hs hb hl hn).weakR
 simpa using this
end Go.AM
