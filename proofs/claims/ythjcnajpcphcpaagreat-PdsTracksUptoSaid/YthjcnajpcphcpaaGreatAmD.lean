/- The abstract machine: further regions, calls and rules. -/
import Derived.ChangeKeysEq
import Derived.Deep.CondSized
import Derived.Laws.AppendOwn
import Derived.Laws.Externs
import Derived.Laws.StructEq
import Derived.Lib.MakeNoZero
import Derived.Lib.Overlaps
import Derived.Test.YthjcnajpcphcpaaGreatAmC
set_option linter.unusedVariables false
set_option linter.unusedSimpArgs false
namespace Go.AM
section
variable {P : Program}
def seqM (ops : Array Oper) : Nat → Nat → Array Bool → Bool
 | 0,_,_=>true
 | fuel+1,k,listed=>Region.ready .any ops listed == [k]&&seqM ops fuel (k+1) (listed.setIfInBounds k true)
def setM : Nat → Nat → Array Bool → Array Bool
 | 0,_,listed=>listed
 | fuel+1,k,listed=>setM fuel (k+1) (listed.setIfInBounds k true)
def closedB (ops:Array Oper) (L:Array Bool):Bool :=
 (List.range ops.size).all fun j=>!(L.getD j false) || match ops[j]? with
  | some o=>o.after.all fun e=>!(Region.binds .any e) || L.getD e.on false
  | none=>true
theorem closedB_ok {ops:Array Oper} {L:Array Bool} (h:closedB ops L=true):wf8 ops L:=by
 intro j oj ho hl e he hb
 have hj:j < ops.size:=(Array.getElem?_eq_some_iff.1 ho).1
 simp only [closedB,List.all_eq_true,List.mem_range] at h
 have:=h j hj
 rw [hl,ho] at this
 simp only [Bool.not_true,Bool.false_or,Array.all_eq_true] at this
 obtain ⟨i,hi,rfl⟩:=Array.mem_iff_getElem.1 he
 have h2:=this i hi
 rw [hb] at h2
 simpa using h2
def drawM (ops : Array Oper) (pre mid : Nat) : Bool := decide (pre ≤ mid) && decide (mid ≤ ops.size) && lexS ops (preL ops pre) pre 0 (Array.replicate ops.size false) && seqM ops (mid - pre) pre (preL ops pre) &&
 closedB ops (setM (mid - pre) pre (preL ops pre))&&lexD ops (ops.size - mid) mid (setM (mid - pre) pre (preL ops pre))&&ops.toList.all fun o=>dcls o != 9
variable {F : Fence} {n : Nat}
theorem seqM_wp {ops : Array Oper} {L2 : Array Bool} {R : St → Prop} {Qw : Exit → Act → World → Prop} {c0 : Ctx} {w0 : World} (hF : Good F) (rest : Nat) (hT : ∀ (s : St) (c : Ctx) (w : World) (a : Act), Ext c0 w0 c w → SimSt P c w s a → R s →
   wpAnyIn F n P .any ops Qw rest L2 a w):∀ (fuel k:Nat) (listed:Array Bool) (s:St) (c:Ctx) (w:World) (a:Act),k+fuel≤ops.size→seqM ops fuel k listed=true→setM fuel k listed=L2→Ext c0 w0 c w→SimSt P c w s a →
  runA P ops.toList ((ops.toList.drop k).take fuel) s R→wpAnyIn F n P .any ops Qw (fuel+rest) listed a w
 | 0,k,listed,s,c,w,a,hk,hB,hL,he,hs,h=>by
  simp only [setM] at hL
  subst hL
  rw [Nat.zero_add]
  exact hT s c w a he hs h
 | fuel+1,k,listed,s,c,w,a,hk,hB,hL,he,hs,h=>by
  simp only [seqM,Bool.and_eq_true,beq_iff_eq] at hB
  obtain ⟨hr,hB'⟩:=hB
  rw [Nat.add_right_comm]
  refine ⟨fun h0=>(by rw [hr] at h0;cases h0),fun i hi=>?_⟩
  rw [hr] at hi
  simp at hi
  subst hi
  have hlt:i < ops.toList.length:=by simp;omega
  rw [List.drop_eq_getElem_cons hlt,List.take_succ_cons] at h
  have ho:ops[i]?=some (ops.toList[i]):=by rw [← Array.getElem?_toList];exact List.getElem?_eq_getElem hlt
  unfold wpOpIn
  simp only [ho]
  refine xk8 (K':=fun s'=>runA P ops.toList ((ops.toList.drop (i+1)).take fuel) s' R) hF hs ho h ?_
  intro s' a' c' w' hK hs' he'
  exact seqM_wp hF rest hT fuel (i+1) _ s' c' w' a' (by omega) hB' hL (he.trans he') hs' hK
theorem W_drawM {top : Bool} {kf : Nat} {id : Nat} {ops : Array Oper} {Q : Exit → St → Prop} {s : St} (pre mid : Nat) (hm : P.follows .mixedOrders = true) (hd : drawM ops pre mid = true)
  (h:runD P ops.toList (ops.toList.take pre) s fun s1=>runA P ops.toList ((ops.toList.drop pre).take (mid - pre)) s1 fun s2=>runD P ops.toList (ops.toList.drop mid) s2 fun s3=>Q .normal s3):Wt top kf P (.region id ops true) Q s:=by
 intro F n c w a hF hs
 simp only [drawM,Bool.and_eq_true,decide_eq_true_eq,List.all_eq_true,bne_iff_ne,ne_eq] at hd
 obtain ⟨⟨⟨⟨⟨⟨hpm,hle⟩,hlex⟩,hseq⟩,hcl⟩,hlexD⟩,h9⟩:=hd
 have h9':∀ (i:Nat) (o:Oper),ops[i]?=some o→dcls o≠9:=fun i o ho=>h9 o (by rw [← Array.getElem?_toList] at ho;exact List.mem_of_getElem? ho)
 refine wpIn_region_any hm ?_
 let Q':St→Prop:=fun s=>∃ t,Eqv s t∧Q .normal t
 have hQ':Closed Q':=fun s t h ⟨u,h1,h2⟩=>⟨u,h.symm.trans h1,h2⟩
 let R2:St→Prop:=fun s=>runD P ops.toList (ops.toList.drop mid) s Q'
 let R:St→Prop:=fun s=>∃ t,Eqv s t∧runA P ops.toList ((ops.toList.drop pre).take (mid - pre)) t R2
 have hR:Closed R:=fun s t h ⟨u,h1,h2⟩=>⟨u,h.symm.trans h1,h2⟩
 have hlen:(ops.toList.take pre).length=pre:=by rw [List.length_take];simp;omega
 have hlen2:(ops.toList.drop mid).length=ops.size - mid:=by simp
 have hrunE:runE P ops.toList (ops.toList.take pre) s R:=by
  refine zl8 (fun o ho=>h9 o (List.mem_of_mem_take ho)) ?_
  exact kn8 (fun s1 h1=>⟨s1,Eqv.refl s1,uh7 (fun s2 h2=>kn8 (fun s3 h3=>⟨s3,Eqv.refl s3,h3⟩) h2) h1⟩) h
 have hany:=vf7 (P:=P) hR (fun j hj=>by
   rw [Array.getD_eq_getD_getElem?,Array.getElem?_eq_none (by rw [un7];exact hj)];rfl) (ops.toList.take pre) 0 (Array.replicate ops.size false) s (fun j hj=>by
   rw [Nat.zero_add,List.getElem?_take,if_pos (by omega),Array.getElem?_toList]) (fun j oj hj hl=>by
   exfalso
   rcases Nat.lt_or_ge j ops.size with h' | h' <;> simp [h'] at hl) (by rw [hlen];exact hlex) hrunE
 rw [hlen] at hany
 have:=anyS_wp (n:=n) (c0:=c) (w0:=w) (Qw:=fun e a' w'=>∃ s' c',Q e s'∧SimSt P c' w' s' a'∧ExtK kf c w c' w') hF.1 (ops.size - pre) (R:=R) (L:=preL ops pre) ?_ pre _ s c w.drew a (xl9 c w) hs.drew hany
 ·have e1:pre+(ops.size - pre)=ops.size:=by omega
  rw [e1] at this
  exact this
 ·rintro s1 c1 w1 a1 he1 hs1 ⟨t, h1, h2⟩
  have := seqM_wp (n := n) (c0 := c) (w0 := w) (Qw := fun e a' w' => ∃ s' c', Q e s' ∧ SimSt P c' w' s' a' ∧ ExtK kf c w c' w') hF.1 (ops.size - mid) (R := R2) (L2 := setM (mid - pre) pre (preL ops pre)) ?_
   (mid - pre) pre (preL ops pre) t c1 w1 a1 (by omega) hseq rfl he1 (hs1.eqv h1) h2
  ·have e1:mid - pre+(ops.size - mid)=ops.size - pre:=by omega
   rw [e1] at this
   exact this
  ·intro s2 c2 w2 a2 he2 hs2 hR2
   have hrE:runE P ops.toList (ops.toList.drop mid) s2 Q':=zl8 (fun o ho=>h9 o (List.mem_of_mem_drop ho)) hR2
   have hA:=anyA_lex hQ' (ops.toList.drop mid) mid _ s2 (fun j=>by rw [List.getElem?_drop,Array.getElem?_toList]) (closedB_ok hcl) (by rw [hlen2];exact hlexD) hrE
   rw [hlen2] at hA
   refine wr9 ?_ _ _ _ _ (anyA_wp (n:=n) hF.1 h9' _ _ s2 c2 w2 a2 hs2 hA)
   rintro e a3 w3 ⟨s3,c3,q,hs3,he3⟩
   cases e with
   | normal =>
    obtain ⟨t3,k1,k2⟩:=q
    exact ⟨t3,c3,k2,hs3.eqv k1,(he2.trans he3).toK hF.2.2⟩
   | _=>exact q.elim
theorem W_rmK {top : Bool} {kf : Nat} {id : Nat} {ops : Array Oper} {y : Code} {Q : Exit → St → Prop} {s : St} (pre mid : Nat) (ks : List Nat) (hm : P.follows .mixedOrders = true) (hd : drawM ops pre mid = true)
  (h:runD P ops.toList (ops.toList.take pre) s fun s1=>runA P ops.toList ((ops.toList.drop pre).take (mid - pre)) s1 fun s2=>runD P ops.toList (ops.toList.drop mid) s2 fun s3=>Wt top kf P y Q (zf9 ks s3)) :
  Wt top kf P (.seq (.region id ops true) y) Q s :=
 yh9 (jr9 ks (W_drawM pre mid hm hd h))
end
end Go.AM
namespace Go.AM
section
variable {P : Program} {c c' : Ctx} {w : World}
theorem RepL.split {xs:List AV} {y:AV} {ys:List AV} {us:List Value} (h:RepL P c w (xs++y :: ys) us):∃ us1 v us2,us=us1++v :: us2∧RepL P c w xs us1∧Rep c w y v∧RepL P c w ys us2:=by
 induction xs generalizing us with
 | nil =>
  cases h with
  | cons h1 h2 h3=>exact ⟨[],_,_,rfl,.nil,h1,h3⟩
 | cons x xs ih =>
  cases h with
  | cons h1 h2 h3 =>
   obtain ⟨us1,v,us2,rfl,k1,k2,k3⟩:=ih h3
   exact ⟨_ :: us1,v,us2,rfl,.cons h1 h2 k1,k2,k3⟩
end
end Go.AM
namespace Go.AM
section
variable {P : Program} {c c' : Ctx} {w : World}
end
end Go.AM
namespace Go.AM
section
variable {P : Program}
end
end Go.AM
namespace Go.AM
section
variable {P : Program} {F : Fence} {n : Nat} {o : Oper} {a : Act} {w : World}
end
def Vw (P:Program) (h:List AObj) (x x1:AV):Prop :=
 x1 = x.weak ∨ ∃ id off len cap ty cs ag sz, x = .arr id off len cap ∧ h[id]? = some (.cells ty cs) ∧ tyI P ty = some (ag, sz) ∧ 0 < sz ∧ (ag = true ∨ sz = 1) ∧ off + len * sz ≤ cs.length ∧ AV.koneL (cs.take (off + len * sz)) = true ∧ AV.rfL (cs.take (off + len * sz)) = true ∧
  x1=.lst .any sz (chunk ag sz len ((AV.weakL (cs.take (off+len * sz))).drop off))
section
variable {P : Program}
end
end Go.AM
namespace Go.AM
section
variable {P : Program}
end
end Go.AM
namespace Go.AM
inductive VwD (P : Program) (h : List AObj) : AV → AV → Prop
 | base {x x1:AV} (hv:Vw P h x x1):VwD P h x x1
 | row {id len cap sz : Nat} {ag : Bool} {ty : TypeId} {cs ys : List AV} (zs : Nat → AV) (hid : h[id]? = some (.cells ty cs)) (hsz : 0 < sz) (hag : ag = true ∨ sz = 1) (hle : len * sz ≤ cs.length) (hyl : ys.length = len * sz)
   (hk:AV.koneL ys=true) (hrf:AV.rfL ys=true) (hz:∀ (k:Nat) (y:AV),ys[k]?=some y→cs[k]?=some (zs k)) (hv:∀ (k:Nat) (y:AV),ys[k]?=some y→VwD P h (zs k) y) :
   VwD P h (.arr id 0 len cap) (.lst .any sz (chunk ag sz len ys))
section
variable {P : Program}
end
end Go.AM
namespace Go.AM
section
variable {P : Program}
end
end Go.AM
namespace Go.AM
section
variable {P : Program}
def AnyT (kf:Nat) (P:Program) (ops:Array Oper) (Q:Exit→St→Prop) (fuel:Nat) (listed:Array Bool) (s:St):Prop :=
 ∀ (F : Fence) (n : Nat) (c0 : Ctx) (w0 : World) (c : Ctx) (w : World) (a : Act), Good F → F.round = none → kf ≤ c0.no → Ext c0 w0 c w → SimSt P c w s a →
  wpAnyIn F n P .any ops (fun e a' w'=>e=.normal∧∃ s' c',Q e s'∧SimSt P c' w' s' a'∧ExtK kf c0 w0 c' w') fuel listed a w
theorem W_anyT {kf:Nat} {id:Nat} {ops:Array Oper} {Q:Exit→St→Prop} {s:St} (hm:P.follows .mixedOrders=true) (h:AnyT kf P ops Q ops.size (Array.replicate ops.size false) s):Wt true kf P (.region id ops true) Q s:=by
 intro F n c w a hF hs
 refine wpIn_region_any hm ?_
 exact wr9 (fun e a w h=>h.2) _ _ _ _ (h F n c w c w.drew a hF.1 (hF.2.1 rfl) hF.2.2 (xl9 c w) hs.drew)
def Gives (P:Program) (ops:Array Oper) (o:Oper) (s:St) (x:AV):Prop:=∀ (c:Ctx) (w:World) (a:Act),SimSt P c w s a→∃ u,YieldsFenced P ops o u a∧Rep c w x u∧Own P c w x u
def takeB (ops:Array Oper) (listed:Array Bool) (i:Nat):Bool:=Region.noSelect ops&&Region.free .any ops listed i&&(Region.ready .any ops listed).contains i
theorem yh8 {kf fuel : Nat} {ops : Array Oper} {Q : Exit → St → Prop} {listed : Array Bool} {s s' : St} (i : Nat) {o : Oper} {x : AV} (ho : ops[i]? = some o) (hb : takeB ops listed i = true) (hg : Gives P ops o s x) (hp : s.put o.dst x = some s')
  (h:AnyT kf P ops Q fuel (listed.setIfInBounds i true) s'):AnyT kf P ops Q (fuel+1) listed s:=by
 intro F n c0 w0 c w a hF hro hk he hs
 simp only [takeB,Bool.and_eq_true] at hb
 obtain ⟨u,hy,hr,hown⟩:=hg c w a hs
 exact wpAnyIn_take hro ho hb.1.1 hb.1.2 hb.2 (fun c a w hq=>by cases hq.1) hy (h F n c0 w0 c w (a.put o.dst u) hF hro hk he (hs.put hp hr hown))
theorem anyT_all {kf fuel : Nat} {ops : Array Oper} {Q : Exit → St → Prop} {listed : Array Bool} {s : St} (rs : List Nat) (hr : Region.ready .any ops listed = rs) (hne : rs ≠ [])
  (h:∀ i∈rs,∃ o,ops[i]?=some o∧yj8 P ops.toList o s fun s'=>AnyT kf P ops Q fuel (listed.setIfInBounds i true) s'):AnyT kf P ops Q (fuel+1) listed s:=by
 intro F n c0 w0 c w a hF hro hk he hs
 refine ⟨fun h0=>absurd (hr ▸ h0) hne,fun i hi=>?_⟩
 obtain ⟨o,ho,hst⟩:=h i (hr ▸ hi)
 unfold wpOpIn
 simp only [ho]
 refine xk8 (K':=fun s'=>AnyT kf P ops Q fuel (listed.setIfInBounds i true) s') hF hs ho hst ?_
 intro s' a' c' w' hK hs' he'
 exact hK F n c0 w0 c' w' a' hF hro hk (he.trans he') hs'
theorem anyT_done {kf:Nat} {ops:Array Oper} {Q:Exit→St→Prop} {listed:Array Bool} {s:St} (hr:Region.ready .any ops listed=[]) (h:Q .normal s):AnyT kf P ops Q 0 listed s:=by
 intro F n c0 w0 c w a hF hro hk he hs
 exact ⟨hr,rfl,s,c,h,hs,he.toK hk⟩
theorem xq8 {ops:Array Oper} {o:Oper} {s:St} {x:AV} (k:Nat) (hop:o.op=.move (.tmp k)) (hgd:o.guard=none) (hx:getF s.fr k=some x):Gives P ops o s x:=by
 intro c w a hs
 obtain ⟨u,hu,hr,ho⟩:=hs.fr k x hx
 have hev:a.eval (.tmp k)=u:=by simp [Act.eval,hu]
 exact ⟨u,⟨.inl ⟨by simp [Region.wanted,hgd],fun w=>by simp only [execOp,hop,hev];rfl⟩,fun w=>by simp only [Oper.about,hop]⟩,hr,ho⟩
end
end Go.AM
namespace Go.AM
section
variable {P : Program}
theorem W_swap {top:Bool} {kf:Nat} {code:Code} {Q:Exit→St→Prop} {s:St} (i j:Nat) (hi:kf≤i) (hj:kf≤j) (hi':i < s.h.length) (hj':j < s.h.length) (h:Wt top kf P code Q (swSt i j s)):Wt top kf P code Q s:=by
 intro F n c w a hF hs
 have he:ExtK kf c w (c.sw i j) w:={ (ExtK.refl hF.2.2 w) with
  ob:=fun id hid=>by simp only [Ctx.sw,Go.AM.sw];rw [if_neg (by omega),if_neg (by omega)] }
 refine wpIn_mono (h F n (c.sw i j) w a (hF.next he) (hs.sw hi' hj')) ?_
 rintro e a' w' ⟨s',c',q,hs',he'⟩
 exact ⟨s',c',q,hs',he.trans he'⟩
end
end Go.AM
namespace Go.AM
section
variable {P : Program}
theorem kk7 {F:Fence} (hF:Good F) (m:Machine):m.fenced P F:=by
 intro g _
 refine ⟨fun h=>?_,.inl (hF.1 _),fun f _=>hF.1 f,fun d hd=>?_⟩
 ·rw [hF.2.2] at h;cases h
 ·rw [hF.2.1] at hd;cases hd
theorem wg9 {F:Fence} {n:Nat} {f:FuncId} {args:Array Value} {w:World} {R:Ending→World→Prop} (hF:Good F) (h:Calls P f args w R):CallsIn F n P f args w R:=by
 refine ⟨hF.1 f,fun cs _=>?_⟩
 obtain ⟨e,w',fr,r,s,x⟩:=h cs
 refine ⟨e,w',fr,r,?_,x⟩
 cases e with
 | returned v=>exact (StepsIn.of_steps s).mono fun m _=>kk7 hF m
 | panicked ch=>exact (StepsIn.of_steps s).mono fun m _=>kk7 hF m
 | outgrown=>exact s
theorem repL_vs {c : Ctx} {w : World} : ∀ {us vals : List Value}, RepL P c w (us.map .v) vals → vals = us
 | [],_,h=>by cases h;rfl
 | u :: us,_,h=>by
  cases h with
  | cons h1 h2 h3=>rw [h1.v_inv,repL_vs h3]
theorem jv7 {f:FuncId} {us:List Value} {u:Value} (hc:Callable P f) (h:∀ w,Calls P f us.toArray w fun e w'=>e=.returned u∧∃ n:Nat,w'={ w with drawn:=w.drawn+n }):Sound P f (us.map .v) (.v u):=by
 refine ⟨hc,fun F n c w vals T hF hro hT hb ra=>?_⟩
 rw [repL_vs ra]
 refine (wg9 hF (h w)).mono ?_
 rintro e w' ⟨rfl,k,rfl⟩
 exact ⟨u,c,rfl,⟨rfl,rfl,rfl,rfl,rfl,rfl,Nat.le_refl _,fun _ _=>rfl,fun _ _=>rfl,fun _ _=>rfl⟩,.v u,.none rfl⟩
end
end Go.AM
namespace Go.AM
section
variable {P : Program}
def StepW (P : Program) (o : Oper) (s : St) (K : St → Prop) : Prop := (∀ c, o.op ≠ .defer c) ∧ ∀ (c : Ctx) (w : World) (a : Act), SimSt P c w s a →
 ∃ u w' c' s',(execOp a.eval o).run P w=.ok (.value u) w'∧Ext c w c' w'∧SimSt P c' w' s' (a.put o.dst u)∧K s'
def stepG (P:Program) (ops:List Oper) (o:Oper) (s:St) (K:St→Prop):Prop:=yj8 P ops o s K∨(o.guard=none∧StepW P o s K)
def runG (P : Program) (ops : List Oper) : List Oper → St → (St → Prop) → Prop
 | [],s,K=>K s
 | o :: l,s,K=>stepG P ops o s fun s'=>runG P ops l s' K
variable {F : Fence} {n : Nat} {s : St} {a : Act} {o : Oper} {K : Act → World → Prop} {Q : Exit → Act → World → Prop} {c : Ctx} {w : World}
theorem vt6 {ops : Array Oper} {i : Nat} {K' : St → Prop} (hF : Good F) (hs : SimSt P c w s a) (ho : ops[i]? = some o) (h : stepG P ops.toList o s K')
  (hk:∀ s' a' c' w',K' s'→SimSt P c' w' s' a'→Ext c w c' w'→K a' w') :
  if Region.wanted o (yielded ops a.tmps) then o.wpIn F n P a w K Q else (∀ f,o.about P w a.eval=some f→F.fn f)∧K (a.put o.dst undef) w:=by
 rcases h with h | ⟨hg,hnd,h⟩
 ·exact xk8 hF hs ho h hk
 ·rw [if_pos (by simp [Region.wanted,hg])]
  refine ⟨fun f _=>hF.1 f,?_⟩
  obtain ⟨u,w',c',s',h1,h2,h3,h4⟩:=h c w a hs
  rw [Oper.semAt_eq _ _ _ hnd,h1]
  exact hk _ _ _ _ h4 h3 h2
theorem runG_wp {ops : Array Oper} (hF : Good F) : ∀ (m k : Nat) (s : St) (c : Ctx) (w : World) (a : Act) (K' : St → Prop), ops.size = k + m → SimSt P c w s a → runG P ops.toList (ops.toList.drop k) s K' →
  wpOpsIn F n P ops (fun e a' w'=>∃ s' c',zw9 K' (fun _ _=>False) e s'∧SimSt P c' w' s' a'∧Ext c w c' w') (List.range' k m) a w:=by
 intro m
 induction m with
 | zero =>
  intro k s c w a K' hk hs h
  have:ops.toList.drop k=[]:=by rw [List.drop_eq_nil_iff];simp;omega
  rw [this] at h
  exact ⟨s,c,h,hs,Ext.refl c w⟩
 | succ m ih =>
  intro k s c w a K' hk hs h
  have hlt:k < ops.toList.length:=by simp;omega
  rw [List.drop_eq_getElem_cons hlt] at h
  have ho:ops[k]?=some (ops.toList[k]):=by rw [← Array.getElem?_toList];exact List.getElem?_eq_getElem hlt
  simp only [List.range'_succ,wpOpsIn,ho]
  refine vt6 (K':=fun s'=>runG P ops.toList (ops.toList.drop (k+1)) s' K') hF hs ho h ?_
  intro s' a' c' w' hK hs' he
  have:=ih (k+1) s' c' w' a' K' (by omega) hs' hK
  refine yc8 ?_ _ _ _ this
  rintro e a2 w2 ⟨s2,c2,q,hs2,he2⟩
  exact ⟨s2,c2,q,hs2,he.trans he2⟩
theorem W_regionG {top:Bool} {kf:Nat} {id:Nat} {ops:Array Oper} {Q:Exit→St→Prop} {s:St} (h:runG P ops.toList ops.toList s (fun s'=>Q .normal s')):Wt top kf P (.region id ops false) Q s:=by
 intro F n c w a hF hs
 refine wpIn_region ?_
 rw [List.range_eq_range']
 refine yc8 ?_ _ _ _ (runG_wp hF.1 ops.size 0 s c w a _ (by omega) hs (by simpa using h))
 rintro e a2 w2 ⟨s2,c2,q,hs2,he2⟩
 cases e with
 | normal=>exact ⟨s2,c2,q,hs2,he2.toK hF.2.2⟩
 | _=>exact q.elim
theorem W_rGK {top : Bool} {kf : Nat} {id : Nat} {ops : Array Oper} {y : Code} {Q : Exit → St → Prop} {s : St} (ks : List Nat) (h : runG P ops.toList ops.toList s fun s3 => Wt top kf P y Q (zf9 ks s3)) :
  Wt top kf P (.seq (.region id ops false) y) Q s:=yh9 (jr9 ks (W_regionG h))
theorem kk9 {ops : List Oper} {K : St → Prop} : ∀ (m : Nat) (l : List Oper) (s : St), runA P ops (l.take m) s (fun s1 => runG P ops (l.drop m) s1 K) → runG P ops l s K
 | 0,l,s,h=>by simpa [runA] using h
 | m+1,[],s,h=>by simpa [runA] using h
 | m+1,o :: l,s,h=>by
  simp only [List.take_succ_cons,List.drop_succ_cons,runA] at h
  refine .inl ?_
  refine zr6 ?_ h
  intro s1 h1
  exact kk9 m l s1 h1
theorem qt8 {ops:List Oper} {K:St→Prop} {o:Oper} {l:List Oper} {s:St} (hg:o.guard=none) (h:StepW P o s fun s'=>runG P ops l s' K):runG P ops (o :: l) s K:=.inr ⟨hg,h⟩
theorem xb6 : ∀ (n t : Nat) (acc : Array Value), (∀ j, j < acc.size → (acc.getD j undef).oneCell' = true) → ∀ j, j < acc.size + n → ((Extern.BytealgMakeNoZero.digits n t acc).getD j undef).oneCell' = true
 | 0,t,acc,h,j,hj=>by rw [Extern.BytealgMakeNoZero.digits];exact h j (by omega)
 | n+1,t,acc,h,j,hj=>by
  rw [Extern.BytealgMakeNoZero.digits]
  refine xb6 n _ _ (fun i hi=>?_) j (by simp;omega)
  simp only [Array.size_push] at hi
  rw [Array.getD_eq_getD_getElem?,Array.getElem?_push]
  split
  ·rfl
  ·rw [← Array.getD_eq_getD_getElem?]
   exact h i (by omega)
theorem uf7 (w : World) (ps : Array TypeId) (t e : TypeId) (ht : P.underlying t = some (.slice e)) (n : Nat) (hn : n ≤ 281474976710656) :
  ∃ cs : Array Value, (Extern.BytealgMakeNoZero.makeNoZero ps #[t] #[.int .i64 n]).run P w = .ok (.slice (some ⟨w.heap.size, 0, none⟩) n cs.size) (w.drew.drew.alloc (.cells cs e)) ∧ n ≤ cs.size ∧ (n ≤ maxLen → cs.size ≤ maxLen) ∧
   ∀ j,j < cs.size→(cs.getD j undef).oneCell'=true:=by
 have h1:¬ (n:Int) < 0:=by omega
 have h2:¬ (281474976710656:Int) < (n:Int):=by omega
 have key:∃ tp:Nat,(Extern.BytealgMakeNoZero.makeNoZero ps #[t] #[.int .i64 n]).run P w=.ok (.slice (some ⟨w.heap.size,0,none⟩) n (grownCap w n 0 e)) (w.drew.drew.alloc (.cells (Extern.BytealgMakeNoZero.digits (grownCap w n 0 e) tp #[]) e)):=by
  apply Exists.intro
  show (underlying t >>= _:Sem Value).run P w=_
  simp [run_underlying ht,h1,h2,Question.forced,newRow,grownCap]
  rfl
 obtain ⟨tp,key⟩:=key
 refine ⟨Extern.BytealgMakeNoZero.digits (grownCap w n 0 e) tp #[],?_,?_,?_,?_⟩
 ·rw [key,Lib.size_digits]
  simp
 ·rw [Lib.size_digits]
  simpa using grownCap_ge w n 0 e
 ·intro hm
  rw [Lib.size_digits]
  simpa using grownCap_le_maxLen w n 0 e hm
 ·intro j hj
  rw [Lib.size_digits] at hj
  exact xb6 _ _ _ (fun i hi=>by simp at hi) j hj
theorem ww7 {o : Oper} {cl : Call} {s : St} {K : St → Prop} {f : FuncId} {fn : Func} {ps : Array TypeId} {k n : Nat} {t e : TypeId} (ho : o.op = .call cl) (hc : zc9 s cl.callee = some (f, [], [])) (ha : cl.args = #[.tmp k]) (hf : P.funcs[f]? = some fn)
  (hname : (fn.name == "runtime.NumGoroutine") = false) (hb : fn.body.isNone = true) (hn' : Extern.findNext fn = none) (he : Extern.find fn = some (Extern.BytealgMakeNoZero.makeNoZero ps #[t])) (ht : P.underlying t = some (.slice e))
  (hx:getF s.fr k=some (.v (.int .i64 (n:Nat)))) (hn:n≤100000000)
  (hK:∀ cap,n≤cap→cap≤maxLen→∃ s',(⟨s.n,s.fr,s.h++[.cells e (List.replicate cap .any)]⟩:St).put o.dst (.arr s.h.length 0 n cap)=some s'∧K s'):StepW P o s K:=by
 refine ⟨by simp [ho],fun c w a hs=>?_⟩
 obtain ⟨fo,v1,v2,hfo,hev,rl1,rl2⟩:=qp9 hs hc
 have e1:v1.toList=[]:=List.eq_nil_of_length_eq_zero (by rw [← rl1.length];rfl)
 have e2:v2.toList=[]:=List.eq_nil_of_length_eq_zero (by rw [← rl2.length];rfl)
 have hv1:v1=#[]:=by apply Array.ext';simpa using e1
 have hv2:v2=#[]:=by apply Array.ext';simpa using e2
 obtain ⟨u,hu,hr,_⟩:=hs.fr k _ hx
 have hu2:=hr.v_inv
 subst hu2
 have hak:a.eval (.tmp k)=.int .i64 (n:Nat):=by simp [Act.eval,hu]
 obtain ⟨cs,hrun,hle,hmx,hone⟩:=uf7 (P:=P) w ps t e ht n (by omega)
 have hmx':=hmx (by simp only [maxLen];omega)
 obtain ⟨s',hp,hk⟩:=hK cs.size hle hmx'
 have hs2:SimSt P c w.drew.drew s a:=hs.drew.drew
 have hs3:=hs2.obj (ty:=e) (cs:=List.replicate cs.size .any) (cur:=cs) (by simp) (fun j y hj=>by
  have:=List.getElem?_replicate (n:=cs.size) (a:=AV.any) (i:=j)
  rw [this] at hj
  split at hj
  ·cases hj
   rename_i hj2
   exact ⟨.any _,.none rfl,hone j hj2⟩
  ·cases hj)
 refine ⟨.slice (some ⟨w.heap.size,0,none⟩) n cs.size,_,_,s',?_,(xl9 c w).trans ((xl9 c w.drew).trans (kq9 c w.drew.drew (.cells cs e) hs2.base)),hs3.put hp ?_ (.none rfl),hk⟩
 ·unfold execOp
  simp only [ho,resolve,hfo,Sem.run_bind,hev,Deferred.ofValue,Sem.run_pure,Result.andThen_ok,invoke,ha,hv1,hv2]
  rw [show (#[]++Array.map a.eval #[Operand.tmp k]++#[]:Array Value)=#[.int .i64 (n:Nat)] by simp [hak]]
  rw [run_callFunc_extern hf hname hb hn' he,hrun]
  rfl
 ·have h1:s.h.length < (c.newO w.heap.size).no:=by simp only [Ctx.newO];rw [hs.h.no];omega
  have h2:(c.newO w.heap.size).ob s.h.length=w.heap.size:=by simp only [Ctx.newO];rw [if_pos hs.h.no.symm]
  have:=Rep.arr (c:=c.newO w.heap.size) (w:=w.drew.drew.alloc (.cells cs e)) (off:=0) (len:=n) (cap:=cs.size) h1 hle hmx'
  rw [h2] at this
  exact this
theorem stepW_slice3 {o : Oper} {s : St} {K : St → Prop} {t e sz id off len cap k1 k2 k3 n m : Nat} {ag : Bool} (ho : o.op = .slice t (.tmp k1) none (some (.tmp k2)) (some (.tmp k3))) (hsl : slI P t = some (e, ag, sz))
  (h1:getF s.fr k1=some (.arr id off len cap)) (h2:getF s.fr k2=some (.v (.int .i64 (n:Nat)))) (h3:getF s.fr k3=some (.v (.int .i64 (m:Nat)))) (hm:m≤cap) (hn:n≤m) (hm0:0 < m)
  (hK:∃ s',s.put o.dst (.arr id off n m)=some s'∧K s'):StepW P o s K:=by
 refine ⟨by simp [ho],fun c w a hs=>?_⟩
 obtain ⟨s',hp,hk⟩:=hK
 obtain ⟨u,hu,hr,_⟩:=hs.fr k1 _ h1
 obtain ⟨u2,hu2,hr2,_⟩:=hs.fr k2 _ h2
 obtain ⟨u3,hu3,hr3,_⟩:=hs.fr k3 _ h3
 have q2:=hr2.v_inv
 have q3:=hr3.v_inv
 subst q2 q3
 have e1:a.eval (.tmp k2)=.int .i64 (n:Nat):=by simp [Act.eval,hu2]
 have e2:a.eval (.tmp k3)=.int .i64 (m:Nat):=by simp [Act.eval,hu3]
 have e0:a.eval (.tmp k1)=u:=by simp [Act.eval,hu]
 obtain ⟨hu',hty⟩:=xf9 hsl
 cases hr with
 | arr hid hlen hmax =>
  refine ⟨.slice (some ⟨c.ob id,off,none⟩) n m,w,c,s',?_,Ext.refl c w,hs.put hp (.arr hid hn (by omega)) (.none rfl),hk⟩
  have hsz:=zb9 (P:=P) (w:=w) hty
  simp only [execOp,ho,Option.map_none,Option.map_some,e0,e1,e2]
  have g1:¬ (m:Int)≤0:=by omega
  have g2:max (m:Int) 0=m:=by omega
  simp [Instr.sliceAt,run_underlying hu',Instr.slice,hsz,Instr.sliceBounds,Instr.sliceBound,asIntOf,Sem.run,hm,hn,g1,g2,Addr.add]
theorem qw6 {t t2 ty e e2 sz id off len cap m : Nat} {ag : Bool} {yc cs : List AV} {u v : Value} {s : St} (hs : SimSt P c w s a) (hsl : slI P t = some (e, ag, sz))
  (hsz:0 < sz) (hobj:s.h[id]?=some (.cells e2 cs)) (hcs:off+len * sz≤cs.length) (rx:Rep c w (.arr id off len cap) u)
  (ry:Row P c w m sz yc v) :
  ∃ w',(Builtin.copy_ #[t,t2] ty #[u,v]).run P w=.ok (goInt (min m len:Nat)) w'∧Ext c w c w'∧SimSt P c w' { s with h:=s.h.set id (.cells e2 (yk9 cs off (yc.take (min m len * sz)))) } a:=by
 obtain ⟨ht,hty⟩:=xf9 hsl
 obtain ⟨hm,b,cc,uy,rfl,hmc,hzy,hcy,hryy⟩:=ry
 have hid:id < c.no:=by rw [hs.h.no];exact (List.getElem?_eq_some_iff.1 hobj).1
 obtain ⟨_,_,_,cur,hcur,hl,hcsr⟩:=hs.h.obj id _ hobj
 have hle:min m len * sz≤len * sz:=Nat.mul_le_mul_right _ (Nat.min_le_right _ _)
 have hle2:min m len * sz≤m * sz:=Nat.mul_le_mul_right _ (Nat.min_le_left _ _)
 have hycl:(yc.take (min m len * sz)).length=min m len * sz:=by rw [List.length_take,hm];omega
 have hfit:off+(yc.take (min m len * sz)).length≤cs.length:=by rw [hycl];omega
 cases rx with
 | arr _ hlen hmax =>
  have hfc:(Builtin.firstCells sz (min m len) (.slice b m cc)).run P w=.ok ((List.range (min m len * sz)).map uy).toArray w:=by
   cases b with
   | none =>
    have h0:m=0:=hzy rfl
    rw [run_firstCells_none]
    simp [h0]
   | some ad=>exact run_firstCells_some (P:=P) w sz (min m len) ad m cc ((List.range (min m len * sz)).map uy) (by simp) (fun j v hj=>by
     obtain ⟨h1,rfl⟩:=wm9 _ _ _ _ hj
     exact (hcy ad j rfl (by omega)).1)
  have hone:∀ v∈(List.range (min m len * sz)).map uy,v.oneCell'=true:=by
   intro v hv
   obtain ⟨k,hk,rfl⟩:=List.mem_map.1 hv
   have hk':k < min m len * sz:=by simpa using hk
   cases b with
   | none=>have:=hzy rfl;simp [this] at hk'
   | some ad=>exact (hcy ad k rfl (by omega)).2
  have hnC:∀ j y,(yc.take (min m len * sz))[j]?=some y→Rep c w y (((List.range (min m len * sz)).map uy).getD j undef)∧Own P c w y (((List.range (min m len * sz)).map uy).getD j undef)∧(((List.range (min m len * sz)).map uy).getD j undef).oneCell'=true:=by
   intro j y hj
   have hjl:j < min m len * sz:=by rw [← hycl];exact (List.getElem?_eq_some_iff.1 hj).1
   have e1:((List.range (min m len * sz)).map uy).getD j undef=uy j:=by simp [List.getD_eq_getElem?_getD,hjl]
   rw [e1]
   rw [List.getElem?_take,if_pos hjl] at hj
   exact ⟨(hryy j y hj).1,(hryy j y hj).2,hone _ (List.mem_map.2 ⟨j,by simpa using hjl,rfl⟩)⟩
  have hC:=jt7 (P:=P) (c:=c) (w:=w) (cs:=cs) (ys:=yc.take (min m len * sz)) (cur:=cur) (off:=off) (news:=(List.range (min m len * sz)).map uy) ⟨hl,hcsr⟩ (by simp [hycl]) hfit hnC
  have hst:=run_storeCells_at P (c.ob id) off e2 ((List.range (min m len * sz)).map uy) 0 cur w hcur (by simp;omega) hone
  simp only [Nat.add_zero] at hst
  have hsz2:((cur.toList.take off++(List.range (min m len * sz)).map uy++cur.toList.drop (off+((List.range (min m len * sz)).map uy).length)).toArray).size=cur.size:=by
   have:=hC.1
   rw [zp9 _ _ _ hfit] at this
   rw [← this,hl]
  obtain ⟨he,hs'⟩:=hs.setObj hobj hcur hsz2 hC
  refine ⟨_,?_,he,hs'⟩
  have hlo:(Builtin.lenOf (.slice b m cc)).run P w=.ok m w:=rfl
  have h1:#[t,t2][0]?=some t:=rfl
  simp only [Builtin.copy_,Sem.run_bind,run_underlying ht,Result.andThen_ok,hlo,zb9 w hty,Sem.run_pure,List.getElem?_toArray,List.getElem?_cons_zero,List.getElem?_cons_succ]
  have e3:Nat.min m len=min m len:=rfl
  rw [e3,hfc]
  simp only [Result.andThen_ok,hst,Sem.run_bind,Sem.run_pure]
theorem jk9 {o : Oper} {cl : Call} {s : St} {K : St → Prop} {xo yo : Operand} {t t' e e2 sz id off len cap m : Nat} {ag : Bool} {cs yc : List AV} (ho : o.op = .call cl) (hc : cl.callee = .builtin .copy) (ha : cl.args.toList = [xo, yo]) (hty : cl.argTypes.toList = [t, t'])
  (h1:s.evT P t xo=some (.arr id off len cap)) (h2:srcA P s t' yo sz=some (m,yc)) (hsl:slI P t=some (e,ag,sz)) (hsz:0 < sz) (hobj:s.h[id]?=some (.cells e2 cs)) (hcs:off+len * sz≤cs.length)
  (hK:∃ s',({ s with h:=s.h.set id (.cells e2 (yk9 cs off (yc.take (min m len * sz)))) }:St).put o.dst (.v (goInt (min m len:Nat)))=some s'∧K s'):StepW P o s K:=by
 refine ⟨by simp [ho],fun c w a hs=>?_⟩
 obtain ⟨s',hp,hk⟩:=hK
 have hargs:cl.args=#[xo,yo]:=by rw [← Array.toArray_toList (xs:=cl.args),ha]
 have htys:cl.argTypes=#[t,t']:=by rw [← Array.toArray_toList (xs:=cl.argTypes),hty]
 have hrun:(execOp a.eval o).run P w=((Builtin.copy_ #[t,t'] o.type #[a.eval xo,a.eval yo]).run P w).andThen fun v w=>.ok (.value v) w:=by
  unfold execOp
  simp only [ho,resolve,hc,hargs,htys,invoke,builtin,Sem.run_bind,Sem.run_pure,Result.andThen_ok,List.map_toArray,List.map_cons,List.map_nil]
 obtain ⟨w',r1,r2,r3⟩:=qw6 (ty:=o.type) (t2:=t') hs hsl hsz hobj hcs (hs.evT h1).1 (zw7 hs hsz h2)
 exact ⟨_,_,_,s',by rw [hrun,r1];rfl,r2,r3.put hp (.v _) (.none rfl),hk⟩
theorem stepW_copy {o : Oper} {cl : Call} {s : St} {K : St → Prop} {xo yo : Operand} {t t' e sz id off len cap m : Nat} {ag : Bool} {cs yc : List AV} (ho : o.op = .call cl) (hc : cl.callee = .builtin .copy) (ha : cl.args.toList = [xo, yo]) (hty : cl.argTypes.toList = [t, t'])
  (h1:s.evT P t xo=some (.arr id off len cap)) (h2:srcA P s t' yo sz=some (m,yc)) (hsl:slI P t=some (e,ag,sz)) (hsz:0 < sz) (hobj:s.h[id]?=some (.cells e cs)) (hcs:off+len * sz≤cs.length)
  (hK:∃ s',({ s with h:=s.h.set id (.cells e (yk9 cs off (yc.take (min m len * sz)))) }:St).put o.dst (.v (goInt (min m len:Nat)))=some s'∧K s'):StepW P o s K :=
 jk9 ho hc ha hty h1 h2 hsl hsz hobj hcs hK
theorem anyT_allG {kf fuel : Nat} {ops : Array Oper} {Q : Exit → St → Prop} {listed : Array Bool} {s : St} (rs : List Nat) (hr : Region.ready .any ops listed = rs) (hne : rs ≠ [])
  (h:∀ i∈rs,∃ o,ops[i]?=some o∧stepG P ops.toList o s fun s'=>AnyT kf P ops Q fuel (listed.setIfInBounds i true) s'):AnyT kf P ops Q (fuel+1) listed s:=by
 intro F n c0 w0 c w a hF hro hk he hs
 refine ⟨fun h0=>absurd (hr ▸ h0) hne,fun i hi=>?_⟩
 obtain ⟨o,ho,hst⟩:=h i (hr ▸ hi)
 unfold wpOpIn
 simp only [ho]
 refine vt6 (K':=fun s'=>AnyT kf P ops Q fuel (listed.setIfInBounds i true) s') hF hs ho hst ?_
 intro s' a' c' w' hK hs' he'
 exact hK F n c0 w0 c' w' a' hF hro hk (he.trans he') hs'
theorem gives_arrLo {ops : Array Oper} {o : Oper} {s : St} {t e sz id off len cap m : Nat} {ag : Bool} {z : AV} (k1 k2 : Nat) (hop : o.op = .slice t (.tmp k1) (some (.tmp k2)) none none) (hgd : o.guard = none)
  (hsl:slI P t=some (e,ag,sz)) (hk:kdI P t=some .sl) (h1:getF s.fr k1=some (.arr id off len cap)) (h2:getF s.fr k2=some (.v (.int .i64 (m:Nat)))) (hz:zj8 P t (.arr id off len cap) (some (.v (.int .i64 (m:Nat)))) none=some z):Gives P ops o s z:=by
 intro c w a hs
 obtain ⟨u,hu,hr,ho⟩:=hs.fr k1 _ h1
 obtain ⟨v,hv,hrv,_⟩:=hs.fr k2 _ h2
 have hv':=hrv.v_inv
 subst hv'
 have e1:a.eval (.tmp k1)=u:=by simp [Act.eval,hu]
 have e2:a.eval (.tmp k2)=.int .i64 (m:Nat):=by simp [Act.eval,hv]
 obtain ⟨r,hrun,hrr,htl⟩:=wn8 hz hr (vl:=some (.int .i64 (m:Nat))) (vh:=none) (.some (.v _)) .none
 have hall:∀ w2,(Instr.sliceAt t u (some (.int .i64 (m:Nat))) none none).run P w2=.ok r w2:=by
  intro w2
  unfold zj8 at hz
  rw [hk] at hz
  simp only [hsl] at hz
  obtain ⟨hh,g1,hz⟩:=Option.bind_eq_some_iff.1 hz
  obtain ⟨l,g2,hz⟩:=Option.bind_eq_some_iff.1 hz
  obtain ⟨hu',hty⟩:=xf9 hsl
  cases hr with
  | arr hid hlen hmax =>
   have hb:∀ w3:World,_:=fun w3=>vj9 (P:=P) (c:=c) (w:=w3) true g1 g2 (Nat.le_refl _) .none (.some (.v _))
   simp only [Instr.sliceAt,Sem.run_bind,run_underlying hu',Result.andThen_ok,Instr.slice,hb,zb9 _ hty,Sem.run_pure] at hrun ⊢
   cases hrun
   rfl
 refine ⟨r,⟨.inl ⟨by simp [Region.wanted,hgd],fun w2=>?_⟩,fun w=>by simp only [Oper.about,hop]⟩,hrr,.none htl⟩
 simp only [execOp,hop,Option.map_none,Option.map_some,e1,e2]
 simp [hall w2]
theorem gives_arrHi {ops : Array Oper} {o : Oper} {s : St} {t e sz id off len cap m : Nat} {ag : Bool} {z : AV} (k1 k2 : Nat) (hop : o.op = .slice t (.tmp k1) none (some (.tmp k2)) none) (hgd : o.guard = none)
  (hsl:slI P t=some (e,ag,sz)) (hk:kdI P t=some .sl) (h1:getF s.fr k1=some (.arr id off len cap)) (h2:getF s.fr k2=some (.v (.int .i64 (m:Nat)))) (hz:zj8 P t (.arr id off len cap) none (some (.v (.int .i64 (m:Nat))))=some z):Gives P ops o s z:=by
 intro c w a hs
 obtain ⟨u,hu,hr,ho⟩:=hs.fr k1 _ h1
 obtain ⟨v,hv,hrv,_⟩:=hs.fr k2 _ h2
 have hv':=hrv.v_inv
 subst hv'
 have e1:a.eval (.tmp k1)=u:=by simp [Act.eval,hu]
 have e2:a.eval (.tmp k2)=.int .i64 (m:Nat):=by simp [Act.eval,hv]
 obtain ⟨r,hrun,hrr,htl⟩:=wn8 hz hr (vl:=none) (vh:=some (.int .i64 (m:Nat))) .none (.some (.v _))
 have hall:∀ w2,(Instr.sliceAt t u none (some (.int .i64 (m:Nat))) none).run P w2=.ok r w2:=by
  intro w2
  unfold zj8 at hz
  rw [hk] at hz
  simp only [hsl] at hz
  obtain ⟨hh,g1,hz⟩:=Option.bind_eq_some_iff.1 hz
  obtain ⟨l,g2,hz⟩:=Option.bind_eq_some_iff.1 hz
  obtain ⟨hu',hty⟩:=xf9 hsl
  cases hr with
  | arr hid hlen hmax =>
   have hb:∀ w3:World,_:=fun w3=>vj9 (P:=P) (c:=c) (w:=w3) true g1 g2 (Nat.le_refl _) (.some (.v _)) .none
   simp only [Instr.sliceAt,Sem.run_bind,run_underlying hu',Result.andThen_ok,Instr.slice,hb,zb9 _ hty,Sem.run_pure] at hrun ⊢
   cases hrun
   rfl
 refine ⟨r,⟨.inl ⟨by simp [Region.wanted,hgd],fun w2=>?_⟩,fun w=>by simp only [Oper.about,hop]⟩,hrr,.none htl⟩
 simp only [execOp,hop,Option.map_none,Option.map_some,e1,e2]
 simp [hall w2]
end
end Go.AM
namespace Go.AM
section
variable {P : Program}
theorem xs7 {o : Oper} {cl : Call} {s : St} {K : St → Prop} {k t : Nat} {m : AV} {d : TypeDesc} {e : TypeId} {es : List (Value × AV)} (ho : o.op = .call cl) (hc : cl.callee = .builtin .len) (ha : cl.args = #[.tmp k]) (hty : cl.argTypes = #[t])
  (hmp:mpI P t=some (d,e)) (hx:getF s.fr k=some m) (hes:mapOf s.h m=some es) (hK:∃ s',s.put o.dst (.v (.int .i64 (es.length:Nat)))=some s'∧K s'):StepW P o s K:=by
 refine ⟨by simp [ho],fun c w a hs=>?_⟩
 obtain ⟨s',hp,hk⟩:=hK
 obtain ⟨u,hu,hr,_⟩:=hs.fr k _ hx
 obtain ⟨kt,hun,_,_⟩:=ud6 hmp
 obtain ⟨r,cur,clock,rfl,hb,hl,_⟩:=mapOf_inv hs hes hr
 have hev:a.eval (.tmp k)=.map (some r):=by simp [Act.eval,hu]
 have hres:(resolve a.eval cl o.type).run P w=.ok ⟨.builtin .len cl.argTypes o.type (cl.args.map fun | .const _=>true | _=>false),#[.map (some r)]⟩ w:=by
  simp [resolve,hc,ha,hev]
 refine ⟨.int .i64 (es.length:Nat),w,c,s',?_,Ext.refl c w,hs.put hp (.v _) (.none rfl),hk⟩
 simp only [execOp,ho,Sem.run_bind,hres,Result.andThen_ok,invoke]
 simp [builtin,Builtin.len_,hty,run_underlying hun,goInt,getObj,Sem.run,hb,hl]
end
end Go.AM
namespace Go.AM
section
variable {P : Program}
end
end Go.AM
set_option linter.unusedSimpArgs false
namespace Go.AM.HX
open Go.RowKit
section
variable (P : Program) (hb : TypeId → Bool)
def callX (ex:kg9) (f:FuncId) (args:List AV) (h:List AObj):Option (AV × List AObj) :=
 match P.funcs[f]? with
 | some fn=>match fn.body with
  | some code => if (fn.name == "runtime.NumGoroutine") = false ∧ args.length ≤ fn.ntmps then
    match ex true code ⟨fn.ntmps,numF 0 args,h⟩ with
    | some (.normal,s) | some (.ret,s)=>if h.length≤s.h.length then (resA P s fn.results.toList).bind fun x =>
      if x.under h.length&&yn9 h.length (s.h.take h.length) then some (x,s.h.take h.length) else if x.under s.h.length&&yn9 s.h.length s.h then some (x,s.h) else none else none
    | _=>none
   else none
  | none=>none
 | none=>none
def yldX (ex:kg9) (id n:Nat) (fr:List (Nat × AV)) (as body:Code) (h:List AObj):Option (Bool × List AObj) :=
 match ex false as ⟨n,fr,h⟩ with
 | some (.normal,s1)=>match s1.h[id]? with
  | some (.loop n' fr' ps' as' body' .ready)=>match ex false body ⟨s1.n,s1.fr,s1.h.set id (.loop n' fr' ps' as' body' .busy)⟩ with
   | some (e,s2)=>match s2.h[id]?,km7 e with
    | some (.loop n2 fr2 ps2 as2 body2 .busy),some (st,b) =>
     let h2:=s2.h.set id (.loop n2 fr2 ps2 as2 body2 st)
     if h.length≤s2.h.length then
      if yn9 h.length (h2.take h.length) then some (b,h2.take h.length) else if yn9 s2.h.length h2 then some (b,h2) else none
     else none
    | _,_=>none
   | none=>none
  | _=>none
 | _=>none
def jp7 (ex:kg9) (f:FuncId) (args:List AV):Option AV :=
 match P.funcs[f]? with
 | some fn=>match fn.body with
  | some code => if (fn.name == "runtime.NumGoroutine") = false ∧ args.length ≤ fn.ntmps ∧ AV.rfL args = true ∧ AV.tlL args = true then
    match ex true code ⟨fn.ntmps,numF 0 args,[]⟩ with
    | some (.normal,s) | some (.ret,s)=>(resA P s fn.results.toList).bind fun x=>(frzV P 1 s.h x).bind fun (r,_)=>if r.rf then some r else none
    | _=>none
   else none
  | none=>none
 | none=>none
def opX (kn:KnF) (ex:kg9) (draw:Bool) (o:Oper) (s:St):Option St :=
 match o.op with
 | .call c=>match c.callee with
  | .value fo=>match zc9 s c.callee with
   | some (f,l1,l2)=>if c.args.size≤c.argTypes.size then
     (evOpts P s (c.args.toList.zip c.argTypes.toList)).bind fun xs =>
      if draw then
       (if AV.flatL xs&&AV.rfL (AV.dpL (l1++xs++l2)) then (match kn f (AV.dpL (l1++xs++l2)) with | some r=>some r | none=>jp7 P ex f (AV.nlL (l1++xs++l2))).bind fun r=>s.put o.dst (r.norm (site o)) else none)
      else match (prep P s (site o) l1 (c.args.toList.zip c.argTypes.toList) l2).bind fun x=>(kn f x.1).map fun r=>(r,x.2) with
      | some (r,h')=>(⟨s.n,s.fr,h'⟩:St).put o.dst (r.norm (site o))
      | none=>(callX P ex f (l1++xs++l2) s.h).bind fun (r,h')=>(⟨s.n,kv9 (AV.toksL (l1++xs++l2)++wj8 s.h) s.fr,h'⟩:St).put o.dst r
     else none
   | none=>if draw then none else match s.ev fo with
     | some (.yld id)=>match s.h[id]? with
      | some (.loop n fr ps as body .ready)=>(evOpts P s (c.args.toList.zip c.argTypes.toList)).bind fun xs =>
        if c.args.size≤c.argTypes.size∧xs.length=ps.length∧(ps.all fun p=>decide (p < n))=true then
         (yldX ex id n (setF fr ps (AV.weakL xs)) as body s.h).bind fun (b,h')=>(⟨s.n,kv9 (wj8 s.h) s.fr,h'⟩:St).put o.dst (.v (.bool b))
        else none
      | _=>none
     | _=>none
  | _=>if draw&&!qq9 P s o then none else evOp P o s
 | .convert _ _ _=>if draw then evOp P o s else match qk9 P s o with
  | some s'=>some s'
  | none=>evOp P o s
 | .buildSlice t _ _=>if draw || !hb t then evOp P o s else match qk9 P s o with
  | some s'=>some s'
  | none=>evOp P o s
 | _=>evOp P o s
def opsX (kn : KnF) (ex : kg9) (draw : Bool) (ops : List Oper) : List Oper → St → Option St
 | [],s=>some s
 | o :: l,s=>(match xq9 ops s o with
  | some true=>match opX P hb kn ex draw o s with
   | some s'=>some s'
   | none=>if draw then none else if xq9 ops (frzO P s o) o=some true then opX P hb kn ex draw o (frzO P s o) else none
  | some false=>s.put o.dst (.v undef)
  | none=>none).bind (opsX kn ex draw ops l)
def afterX (s:St) (h:List AObj):Option (Exit × St) :=
 match h[s.h.length]? with
 | some (.loop _ _ _ _ _ .ready)=>some (.normal,⟨s.n,s.fr,h.set s.h.length .dead⟩)
 | some (.loop _ _ _ _ _ (.done .ret))=>some (.ret,⟨s.n,s.fr,h.set s.h.length .dead⟩)
 | some (.loop _ _ _ _ _ (.done (.exit id)))=>some (.exit id,⟨s.n,s.fr,h.set s.h.length .dead⟩)
 | some (.loop _ _ _ _ _ (.done (.goto id)))=>some (.goto id,⟨s.n,s.fr,h.set s.h.length .dead⟩)
 | _=>none
def exec (kn : KnF) : Nat → kg9
 | 0,_,_,_=>none
 | n+1,top,c,s=>match c with
  | .skip=>some (.normal,s)
  | .label _=>some (.normal,s)
  | .scope x=>match exec kn n top x s with
   | some (.goto _,_)=>none
   | r=>r
  | .ret=>some (.ret,s)
  | .exit id=>some (.exit id,s)
  | .seq x y=>match exec kn n top x s with
   | some (.normal,s1)=>exec kn n top y s1
   | r=>r
  | .cond o x y=>match s.ev o with
   | some (.v (.bool true))=>exec kn n top x s
   | some (.v (.bool false))=>exec kn n top y s
   | _=>none
  | .block id x=>match exec kn n top x s with
   | some (.exit i,s1)=>if i=id then some (.normal,s1) else some (.exit i,s1)
   | r=>r
  | .loop body=>match exec kn n top body s with
   | some (.normal,s1)=>exec kn n top (.loop body) s1
   | r=>r
  | .region _ ops draw=>if draw&&!yh6 ops then none else match opsX P hb kn (exec kn n) draw ops.toList ops.toList s with
   | some s'=>some (.normal,s')
   | none=>if draw then (opsX P hb kn (exec kn n) draw ops.toList ops.toList (ops.toList.foldl (frzO P) s)).map fun s'=>(.normal,s') else none
  | .rangeFunc g ps as body => if top then match zc9 s (.value g) with
    | some (f,l1,l2)=>(callX P (exec kn n) f (l1++[.yld s.h.length]++l2) (s.h++[.loop s.n (vh7 s.fr) ps.toList as body .ready])).bind fun (_,h') =>
      afterX ⟨s.n,kv9 (AV.toksL (l1++[.yld s.h.length]++l2)++wj8 (s.h++[.loop s.n (vh7 s.fr) ps.toList as body .ready])) s.fr,s.h⟩ h'
    | none=>none
   else none
  | _=>none
end
section
variable {P : Program} {hb : TypeId → Bool}
theorem yd8 {ex : kg9} (hex : ∀ top kf c s e s' Q, ex top c s = some (e, s') → Q e s' → Wt top kf P c Q s) {f : FuncId} {args : List AV} {h h' : List AObj} {r : AV} (hc : callX P ex f args h = some (r, h')) :
  ww9 P f args h fun r1 h1=>r1=r∧h1=h':=by
 unfold callX at hc
 split at hc
 ·rename_i fn hf
  split at hc
  ·rename_i code hb
   split at hc
   ·rename_i hn
    have fin : ∀ e s, (e = Exit.normal ∨ e = .ret) → ex true code ⟨fn.ntmps, numF 0 args, h⟩ = some (e, s) →
      (if h.length≤s.h.length then (resA P s fn.results.toList).bind fun x =>
      if x.under h.length&&yn9 h.length (s.h.take h.length) then some (x,s.h.take h.length) else if x.under s.h.length&&yn9 s.h.length s.h then some (x,s.h) else none else none)=some (r,h') →
      ww9 P f args h fun r1 h1=>r1=r∧h1=h':=by
     intro e s he hr hc
     split at hc
     ·rename_i hle
      obtain ⟨x,hx,hc⟩:=Option.bind_eq_some_iff.1 hc
      split at hc
      ·rename_i hu
       simp only [Option.some.injEq,Prod.mk.injEq] at hc
       obtain ⟨rfl,rfl⟩:=hc
       simp only [Bool.and_eq_true] at hu
       exact zd9 hf hb hn.1 hn.2 rfl (hex _ _ _ _ _ _ _ hr ⟨he,x,x,s.h,h.length,hx,.inl ⟨rfl,rfl⟩,Nat.le_refl _,hle,hu.1,hu.2,rfl,rfl⟩)
      ·split at hc
       ·rename_i hu
        simp only [Option.some.injEq,Prod.mk.injEq] at hc
        obtain ⟨rfl,rfl⟩:=hc
        simp only [Bool.and_eq_true] at hu
        exact zd9 hf hb hn.1 hn.2 rfl (hex _ _ _ _ _ _ _ hr ⟨he,x,x,s.h,s.h.length,hx,.inl ⟨rfl,rfl⟩,hle,Nat.le_refl _,hu.1,by rw [List.take_length];exact hu.2,by rw [List.take_length];exact ⟨rfl,rfl⟩⟩)
       ·cases hc
     ·cases hc
    split at hc
    ·rename_i s hr;exact fin _ s (.inl rfl) hr hc
    ·rename_i s hr;exact fin _ s (.inr rfl) hr hc
    ·cases hc
   ·cases hc
  ·cases hc
 ·cases hc
theorem yb7 {ex : kg9} (hex : ∀ top kf c s e s' Q, ex top c s = some (e, s') → Q e s' → Wt top kf P c Q s) {id n : Nat} {fr : List (Nat × AV)} {as body : Code} {h h' : List AObj} {b : Bool} (hc : yldX ex id n fr as body h = some (b, h')) :
  roundA P id h.length n fr as body h fun b1 h1=>b1=b∧h1=h':=by
 unfold yldX at hc
 split at hc
 ·rename_i s1 h1
  split at hc
  ·rename_i n1 fr1 ps1 as1 body1 ho1
   split at hc
   ·rename_i e s2 h2
    split at hc
    ·rename_i n2 fr2 ps2 as2 body2 st b' ho2 hends
     dsimp only at hc
     split at hc
     ·rename_i hle
      refine hex _ _ _ _ _ _ _ h1 ⟨rfl,n1,fr1,ps1,as1,body1,ho1,?_⟩
      split at hc
      ·rename_i hu
       cases hc
       exact hex _ _ _ _ _ _ _ h2 ⟨n2,fr2,ps2,as2,body2,st,b,h.length,ho2,hends,Nat.le_refl _,hle,hu,rfl,rfl⟩
      ·split at hc
       ·rename_i hu
        cases hc
        refine hex _ _ _ _ _ _ _ h2 ⟨n2,fr2,ps2,as2,body2,st,b,s2.h.length,ho2,hends,hle,Nat.le_refl _,?_,rfl,?_⟩
        ·rw [List.take_of_length_le (by rw [List.length_set];exact Nat.le_refl _)];exact hu
        ·rw [List.take_of_length_le (by rw [List.length_set];exact Nat.le_refl _)]
       ·cases hc
     ·cases hc
    ·cases hc
   ·cases hc
  ·cases hc
 ·cases hc
theorem yf8 {ex:kg9} (hex:∀ top kf c s e s' Q,ex top c s=some (e,s')→Q e s'→Wt top kf P c Q s) {f:FuncId} {args:List AV} {r:AV} (hc:jp7 P ex f args=some r):Sound P f args r:=by
 unfold jp7 at hc
 split at hc
 ·rename_i fn hf
  split at hc
  ·rename_i code hb
   split at hc
   ·rename_i hn
    have fin : ∀ e s, (e = Exit.normal ∨ e = .ret) → ex true code ⟨fn.ntmps, numF 0 args, []⟩ = some (e, s) →
      ((resA P s fn.results.toList).bind fun x=>(frzV P 1 s.h x).bind fun (r,_)=>if r.rf then some r else none)=some r→Sound P f args r:=by
     intro e s he hr hc
     obtain ⟨x,hx,hc⟩:=Option.bind_eq_some_iff.1 hc
     obtain ⟨⟨y,h1⟩,hy,hc⟩:=Option.bind_eq_some_iff.1 hc
     dsimp only at hc
     split at hc
     ·rename_i hrf
      cases hc
      exact yc9 hf hb hn.1 hn.2.1 hn.2.2.1 hn.2.2.2 rfl (hex _ _ _ _ _ _ _ hr ⟨he,x,h1,hx,hy,hrf⟩)
     ·cases hc
    split at hc
    ·rename_i s hr;exact fin _ s (.inl rfl) hr hc
    ·rename_i s hr;exact fin _ s (.inr rfl) hr hc
    ·cases hc
   ·cases hc
  ·cases hc
 ·cases hc
theorem vf8 {kn : KnF} (hkn : KnOk P kn) {ex : kg9} (hex : ∀ top kf c s e s' Q, ex top c s = some (e, s') → Q e s' → Wt top kf P c Q s) {o : Oper} {s s' : St} {K : St → Prop} (h : opX P hb kn ex false o s = some s') (hk : K s') :
  step5 P o s K:=by
 unfold opX at h
 split at h
 ·rename_i c ho
  split at h
  ·rename_i fo hfo
   split at h
   ·rename_i f l1 l2 hcal
    split at h
    ·rename_i hsz
     obtain ⟨xs,hxs,h⟩:=Option.bind_eq_some_iff.1 h
     simp only [Bool.false_eq_true,if_false] at h
     split at h
     ·rename_i r h' hpr
      obtain ⟨x,hx,hpr⟩:=Option.bind_eq_some_iff.1 hpr
      obtain ⟨r',hr',he⟩:=Option.map_eq_some_iff.1 hpr
      cases he
      refine .inr (.inl ?_)
      unfold callA
      rw [ho]
      dsimp only
      rw [hcal]
      unfold prep at hx
      obtain ⟨xs,hxs,hx⟩:=Option.bind_eq_some_iff.1 hx
      obtain ⟨⟨ys,h1⟩,hys,hx⟩:=Option.bind_eq_some_iff.1 hx
      dsimp only at hx
      split at hx
      ·cases hx
       exact ⟨ys,_,r,s',by rw [hxs];exact hys,hsz,(hkn _ _ _ hr').ofDp,h,hk⟩
      ·cases hx
     obtain ⟨⟨r,h'⟩,hr,h⟩:=Option.bind_eq_some_iff.1 h
     refine .inr (.inr (.inl ?_))
     unfold callO
     rw [ho]
     dsimp only
     rw [hcal]
     refine ⟨xs,hxs,hsz,(yd8 hex hr).mono ?_⟩
     rintro r1 h1 ⟨rfl,rfl⟩
     exact ⟨s',h,hk⟩
    ·cases h
   ·simp only [Bool.false_eq_true, if_false] at h
    split at h
    ·rename_i id hev
     split at h
     ·rename_i n fr ps as body hob
      obtain ⟨xs,hxs,h⟩:=Option.bind_eq_some_iff.1 h
      split at h
      ·rename_i hcond
       obtain ⟨⟨b,h'⟩,hy,h⟩:=Option.bind_eq_some_iff.1 h
       refine .inr (.inr (.inr (.inl ?_)))
       unfold wg7
       rw [ho]
       dsimp only
       rw [hfo]
       refine ⟨id,n,fr,ps,as,body,xs,hev,hob,hxs,hcond.1,hcond.2.1,hcond.2.2,ql8 ?_ (yb7 hex hy)⟩
       rintro b1 h1 ⟨rfl,rfl⟩
       exact ⟨s',h,hk⟩
      ·cases h
     ·cases h
    ·cases h
  ·simp only [Bool.false_and,Bool.false_eq_true,if_false] at h
   exact .inl ⟨s',h,hk⟩
 ·rename_i ho
  simp only [Bool.false_eq_true,if_false] at h
  split at h
  ·rename_i s1 h1
   cases h
   refine .inr (.inr (.inr (.inr ?_)))
   unfold qw8
   rw [ho]
   exact ⟨_,h1,hk⟩
  ·exact .inl ⟨s',h,hk⟩
 ·rename_i ho
  split at h
  ·exact .inl ⟨s',h,hk⟩
  ·split at h
   ·rename_i s1 h1
    cases h
    refine .inr (.inr (.inr (.inr ?_)))
    unfold qw8
    rw [ho]
    exact ⟨_,h1,hk⟩
   ·exact .inl ⟨s',h,hk⟩
 ·exact .inl ⟨s',h,hk⟩
theorem qd7 {kn : KnF} (hkn : KnOk P kn) {ex : kg9} (hex : ∀ top kf c s e s' Q, ex top c s = some (e, s') → Q e s' → Wt top kf P c Q s) {o : Oper} {s s' : St} {K : St → Prop} (h : opX P hb kn ex true o s = some s') (hk : K s') :
  (∃ s',(if qq9 P s o then evOp P o s else none)=some s'∧K s')∨(dcls o=3∧yk6 P o s K):=by
 unfold opX at h
 split at h
 ·rename_i c ho
  split at h
  ·rename_i fo hfo
   split at h
   ·rename_i f l1 l2 hcal
    split at h
    ·rename_i hsz
     obtain ⟨xs,hxs,h⟩:=Option.bind_eq_some_iff.1 h
     simp only [if_true] at h
     split at h
     ·rename_i hfl
      obtain ⟨r,hr,h⟩:=Option.bind_eq_some_iff.1 h
      simp only [Bool.and_eq_true] at hfl
      refine .inr ⟨by simp [dcls,ho,hfo],?_⟩
      unfold yk6
      rw [ho]
      dsimp only
      rw [hcal]
      refine ⟨xs,r,s',hxs,hfl.1,hfl.2,hsz,?_,h,hk⟩
      split at hr
      ·rename_i r' hr'
       cases hr
       exact (hkn _ _ _ hr').ofDp
      ·exact yf8 hex hr
     ·cases h
    ·cases h
   ·simp only [if_true] at h;cases h
  ·simp only [Bool.true_and, Bool.not_eq_true'] at h
   split at h
   ·cases h
   ·rename_i hn
    exact .inl ⟨s',by rw [if_pos (by simpa using hn)];exact h,hk⟩
 ·rename_i ho
  simp only [if_true] at h
  refine .inl ⟨s',?_,hk⟩
  have:qq9 P s o=true:=by unfold qq9;rw [ho]
  rw [if_pos this];exact h
 ·rename_i ho
  simp only [Bool.true_or,if_true] at h
  refine .inl ⟨s',?_,hk⟩
  have:qq9 P s o=true:=by unfold qq9;rw [ho]
  rw [if_pos this];exact h
 ·rename_i hno _ _
  refine .inl ⟨s',?_,hk⟩
  have:qq9 P s o=true:=by
   unfold qq9
   split
   ·rename_i c ho;exact absurd ho (hno c)
   ·rfl
  rw [if_pos this];exact h
theorem vd8 {kn : KnF} (hkn : KnOk P kn) {ex : kg9} (hex : ∀ top kf c s e s' Q, ex top c s = some (e, s') → Q e s' → Wt top kf P c Q s) {ops : List Oper} : ∀ {l : List Oper} {s s' : St} {K : St → Prop}, opsX P hb kn ex false ops l s = some s' → K s' → runA P ops l s K
 | [],s,s',K,h,hk=>by simp only [opsX,Option.some.injEq] at h;subst h;exact hk
 | o :: l,s,s',K,h,hk=>by
  simp only [opsX] at h
  obtain ⟨s1,h1,h2⟩:=Option.bind_eq_some_iff.1 h
  have rest:=vd8 hkn hex (K:=K) h2 hk
  simp only [runA,yj8]
  cases hg:xq9 ops s o with
  | none=>rw [hg] at h1;cases h1
  | some b =>
   rw [hg] at h1
   cases b with
   | true =>
    dsimp only at h1
    split at h1
    ·rename_i s' ho
     cases h1
     rcases vf8 (K:=fun s'=>runA P ops l s' K) hkn hex ho rest with h | h | h | h | h
     ·exact .inl h
     ·exact .inr (.inl h)
     ·exact .inr (.inr (.inl h))
     ·exact .inr (.inr (.inr (.inl h)))
     ·exact .inr (.inr (.inr (.inr (.inl h))))
    ·simp only [Bool.false_eq_true, if_false] at h1
     split at h1
     ·rename_i hg2
      refine .inr (.inr (.inr (.inr (.inr ((uw6 o).mono ?_)))))
      rintro _ rfl
      exact ⟨hg2,vf8 (K:=fun s'=>runA P ops l s' K) hkn hex h1 rest⟩
     ·cases h1
   | false=>exact ⟨s1,h1,rest⟩
theorem jc9 {kn : KnF} (hkn : KnOk P kn) {ex : kg9} (hex : ∀ top kf c s e s' Q, ex top c s = some (e, s') → Q e s' → Wt top kf P c Q s) {ops : List Oper} : ∀ {l : List Oper} {s s' : St} {K : St → Prop}, opsX P hb kn ex true ops l s = some s' → K s' → runD P ops l s K
 | [],s,s',K,h,hk=>by simp only [opsX,Option.some.injEq] at h;subst h;exact hk
 | o :: l,s,s',K,h,hk=>by
  simp only [opsX] at h
  obtain ⟨s1,h1,h2⟩:=Option.bind_eq_some_iff.1 h
  have rest:=jc9 hkn hex (K:=K) h2 hk
  simp only [runD,wr7]
  cases hg:xq9 ops s o with
  | none=>rw [hg] at h1;cases h1
  | some b =>
   rw [hg] at h1
   cases b with
   | true =>
    dsimp only at h1
    split at h1
    ·rename_i s' ho
     cases h1
     exact qd7 (K:=fun s'=>runD P ops l s' K) hkn hex ho rest
    ·simp at h1
   | false=>exact ⟨s1,h1,rest⟩
theorem zn7 {kn:KnF} (hkn:KnOk P kn) (hm:P.follows .mixedOrders=true) (n:Nat):∀ (top:Bool) (kf:Nat) (c:Code) (s:St) (e:Exit) (s':St) (Q:Exit→St→Prop),exec P hb kn n top c s=some (e,s')→Q e s'→Wt top kf P c Q s:=by
 induction n using Nat.strongRecOn with
 | _ n ihs =>
 intro top kf c s e s' Q h hq
 cases n with
 | zero=>cases h
 | succ n =>
  have ih:=ihs n (Nat.lt_succ_self n)
  cases c
  case loop body =>
   refine zj9 (fun k s=>k≤n+1∧exec P hb kn k top (.loop body) s=some (e,s')) (k:=n+1) ⟨Nat.le_refl _,h⟩ ?_
   rintro k s2 ⟨hk,h2⟩
   cases k with
   | zero=>cases h2
   | succ k =>
    have ihk:=ihs k (by omega)
    simp only [exec] at h2
    split at h2
    ·rename_i s1 h1
     exact ihk top kf body s2 _ _ _ h1 ⟨k,Nat.lt_succ_self k,by omega,h2⟩
    ·rename_i hne
     refine ihk top kf body s2 _ _ _ h2 ?_
     cases e with
     | normal=>exact absurd h2 (hne s')
     | _=>exact hq
  all_goals simp only [exec] at h
  case skip=>cases h;exact yg9 hq
  case label l=>cases h;exact W_label hq
  case scope x =>
   refine W_scope ?_
   split at h
   ·cases h
   ·rename_i hne
    refine ih top kf x s _ _ _ h ?_
    cases e with
    | goto l=>exact absurd h (hne l s')
    | _=>exact hq
  case ret=>cases h;exact yj9 hq
  case exit id=>cases h;exact zs9 hq
  case seq x y =>
   refine yh9 ?_
   split at h
   ·rename_i s1 h1
    exact ih top kf x s _ _ _ h1 (ih top kf y s1 _ _ _ h hq)
   ·rename_i hne
    refine ih top kf x s _ _ _ h ?_
    cases e with
    | normal=>exact absurd h (hne s')
    | _=>exact hq
  case cond o x y =>
   split at h
   ·rename_i ho;exact yt9 ho (fun _=>ih top kf x s _ _ _ h hq) (fun h=>(by cases h))
   ·rename_i ho;exact yt9 ho (fun h=>(by cases h)) (fun _=>ih top kf y s _ _ _ h hq)
   ·cases h
  case block id x =>
   refine yl9 ?_
   split at h
   ·rename_i i s1 h1
    refine ih top kf x s _ _ _ h1 ?_
    simp only [inBlk]
    split at h
    ·rename_i hi;cases h;rw [if_pos hi];exact hq
    ·rename_i hi;cases h;rw [if_neg hi];exact hq
   ·rename_i hne
    refine ih top kf x s _ _ _ h ?_
    cases e with
    | exit i=>exact absurd h (hne i s')
    | _=>exact hq
  case region id ops draw =>
   split at h
   ·cases h
   ·rename_i hd
    split at h
    ·rename_i s1 h1
     cases h
     cases draw with
     | false=>exact yv7 (vd8 hkn ih h1 hq)
     | true=>exact kh8 hm (by simpa using hd) (jc9 hkn ih h1 hq)
    ·split at h
     ·rename_i hdr
      obtain ⟨s1,h1,h2⟩:=Option.map_eq_some_iff.1 h
      cases h2
      subst hdr
      refine W_pre ((ub7 ops.toList s).mono ?_)
      rintro _ rfl
      exact kh8 hm (by simpa using hd) (jc9 hkn ih h1 hq)
     ·cases h
  case rangeFunc g ps as body =>
   split at h
   ·rename_i htop
    subst htop
    split at h
    ·rename_i f l1 l2 hcal
     obtain ⟨⟨r,h'⟩,hx,h⟩:=Option.bind_eq_some_iff.1 h
     refine ws8 hcal (yd8 ih hx) ?_
     rintro _ _ ⟨rfl,rfl⟩
     dsimp only at h
     unfold afterX at h
     split at h <;> cases h <;> (rename_i ho;exact ⟨_,_,_,_,_,_,ho,hq⟩)
    ·cases h
   ·cases h
  all_goals cases h
theorem xl8 {kn:KnF} (hkn:KnOk P kn) (hm:P.follows .mixedOrders=true) (n:Nat) {f:FuncId} {args:List AV} {r:AV} (h:jp7 P (exec P hb kn n) f args=some r):Sound P f args r:=yf8 (zn7 hkn hm n) h
theorem zt7 (hm:P.follows .mixedOrders=true) (n:Nat) {f:FuncId} {args:List AV} {r:AV} (h:jp7 P (exec P hb kn0 n) f args=some r):Sound P f args r:=xl8 kn0_ok hm n h
end
end Go.AM.HX
namespace Go.AM
section
variable {P : Program} {s : St} {a : Act} {c : Ctx} {w : World}
end
end Go.AM
namespace Go.AM
section
variable {P : Program} {s : St} {a : Act} {c : Ctx} {w : World}
end
end Go.AM
namespace Go.AM
open Go.RowKit
set_option linter.unusedSimpArgs false
section
variable {P : Program} {c c' : Ctx} {w w' : World}
end
end Go.AM
namespace Go.AM
open Go.RowKit
set_option linter.unusedSimpArgs false
section
variable {P : Program}
mutual
theorem kill_comm (T U : Nat) : (x : AV) → (x.kill T).kill U = (x.kill U).kill T
 | .lst (.tip e V) s xs=>by
  by_cases h1:V=T <;> by_cases h2:V=U <;> by_cases h3:V % 2=0 <;> simp_all [AV.kill,Fl.wk]
 | .lst .any _ _=>rfl
 | .lst .ex _ _=>rfl
 | .lst .nil _ _=>rfl
 | .agg xs=>by simp only [AV.kill,killL_comm T U xs]
 | .tup xs=>by simp only [AV.kill,killL_comm T U xs]
 | .any=>rfl
 | .v _=>rfl
 | .ro _=>rfl
 | .loc _ _=>rfl
 | .arr _ _ _ _=>rfl
 | .fn _ _ _=>rfl
 | .mp _=>rfl
 | .yld _=>rfl
theorem killL_comm (T U : Nat) : (xs : List AV) → AV.killL U (AV.killL T xs) = AV.killL T (AV.killL U xs)
 | []=>rfl
 | x :: xs=>by simp only [AV.killL,kill_comm T U x,killL_comm T U xs]
end
abbrev KL:=List (Nat × Nat × Nat)
def kofV (kl:KL) (i:Nat):Option Nat:=(kl.find? fun e=>e.1 == i).map (·.2.2)
def kbyV (kl:KL) (j:Nat):Option (Nat × Nat):=(kl.find? fun e=>e.2.1 == j).map fun e=>(e.1,e.2.2)
def jq7 (ops:Array Oper) (j:Nat):Option Tmp:=(ops[j]?).bind (·.dst)
def valB (ops:Array Oper) (m:Nat):Bool :=
 decide (m≤ops.size)&&((List.range ops.size).all fun i=>match ops[i]? with
  | none=>true
  | some o =>
   dcls o != 9&&(if i < m then
    ((o.looksAt ops).all fun d=>(List.range m).all fun j=>jq7 ops j != some d || (decide (j < i)&&o.after.any fun e=>e.on == j&&Region.binds .any e)) &&
    ((List.range m).all fun j=>j == i || jq7 ops j != o.dst)&&o.dst.isSome&&o.after.all fun e=>!(Region.binds .any e) || decide (e.on < i)
   else (List.range m).all fun j=>o.after.any fun e=>e.on == j&&Region.binds .any e))
def klB (ops:Array Oper) (m:Nat) (kl:KL):Bool :=
 kl.all fun e=>decide (e.1 < m)&&decide (e.2.1 < e.1)&&(match ops[e.1]? with
  | none=>false
  | some o=>o.after.any fun f=>f.on == e.2.1&&Region.binds .any f)&&((List.range m).all fun k=>k == e.1 || match ops[k]? with
  | none=>true
  | some o=>(o.looksAt ops).all fun d=>jq7 ops e.2.1 != some d)&&kl.all fun e'=>(e'.1 != e.1 || e' == e)&&(e'.2.1 != e.2.1 || e' == e)
theorem jk8 {ops : Array Oper} {m : Nat} {kl : KL} (h : klB ops m kl = true) {i j T : Nat} (he : (i, j, T) ∈ kl) : i < m ∧ j < i ∧ (∀ k o, k < m → k ≠ i → ops[k]? = some o → ∀ d ∈ o.looksAt ops, jq7 ops j ≠ some d) ∧
  kofV kl i=some T∧kbyV kl j=some (i,T):=by
 simp only [klB,List.all_eq_true,Bool.and_eq_true,decide_eq_true_eq,List.mem_range,Bool.or_eq_true,beq_iff_eq,bne_iff_ne,ne_eq] at h
 obtain ⟨⟨⟨⟨h1,h2⟩,_⟩,h3⟩,h4⟩:=h _ he
 refine ⟨h1,h2,fun k o hk hne ho d hd=>?_,?_,?_⟩
 ·rcases h3 k hk with h5 | h5
  ·exact absurd h5 hne
  ·rw [ho] at h5
   simp only [List.all_eq_true,bne_iff_ne,ne_eq] at h5
   exact h5 d hd
 ·unfold kofV
  cases hf:kl.find? fun e=>e.1 == i with
  | none=>have:=List.find?_eq_none.1 hf _ he;simp at this
  | some e' =>
   have h6:e'.1=i:=by simpa using List.find?_some hf
   rcases (h4 e' (List.mem_of_find?_eq_some hf)).1 with h7 | h7
   ·exact absurd h6 h7
   ·rw [h7];rfl
 ·unfold kbyV
  cases hf:kl.find? fun e=>e.2.1 == j with
  | none=>have:=List.find?_eq_none.1 hf _ he;simp at this
  | some e' =>
   have h6:e'.2.1=j:=by simpa using List.find?_some hf
   rcases (h4 e' (List.mem_of_find?_eq_some hf)).2 with h7 | h7
   ·exact absurd h6 h7
   ·rw [h7];rfl
theorem uh6 {kl:KL} {i T:Nat} (h:kofV kl i=some T):∃ j,(i,j,T)∈kl:=by
 unfold kofV at h
 obtain ⟨e,he,rfl⟩:=Option.map_eq_some_iff.1 h
 have h6:e.1=i:=by simpa using List.find?_some he
 exact ⟨e.2.1,by rw [← h6];exact List.mem_of_find?_eq_some he⟩
theorem ul6 {kl:KL} {i j T:Nat} (h:kbyV kl j=some (i,T)):(i,j,T)∈kl:=by
 unfold kbyV at h
 obtain ⟨e,he,h⟩:=Option.map_eq_some_iff.1 h
 have h6:e.2.1=j:=by simpa using List.find?_some he
 cases h
 rw [← h6];exact List.mem_of_find?_eq_some he
def ixV (ops:Array Oper) (m:Nat) (d:Tmp):Option Nat:=(List.range m).find? fun j=>jq7 ops j == some d
theorem ixV_some {ops:Array Oper} {m j:Nat} {d:Tmp} (h:ixV ops m d=some j):j < m∧jq7 ops j=some d :=
 ⟨by simpa using List.mem_of_find?_eq_some h,by simpa using List.find?_some h⟩
def struck (kl:KL) (L:Nat→Bool) (j:Nat) (x:AV):AV:=match kbyV kl j with
 | some (i,T)=>if L i=true then x.kill T else x
 | none=>x
def Fv (s:St) (ops:Array Oper) (m:Nat) (kl:KL) (xs:List AV) (L:Nat→Bool) (d:Tmp):Option AV :=
 match ixV ops m d with
 | some j=>if L j=true then (xs[j]?).map (struck kl L j) else getF s.fr d
 | none=>getF s.fr d
structure VSt (s:St) (ops:Array Oper) (m:Nat) (kl:KL) (xs:List AV) (L:Nat→Bool) (t:St):Prop where
 n:t.n=s.n
 h:t.h=s.h
 fr:∀ d,getF t.fr d=Fv s ops m kl xs L d
def Clear (s:St) (kl:KL):Prop:=∀ e∈kl,(∀ d x,getF s.fr d=some x→x.kill e.2.2=x)∧s.h.map (AObj.kill e.2.2)=s.h
theorem valB_spec {ops : Array Oper} {m : Nat} (h : valB ops m = true) : m ≤ ops.size ∧ ∀ i o, ops[i]? = some o → dcls o ≠ 9 ∧
  (i < m→(∀ d∈o.looksAt ops,∀ j,j < m→jq7 ops j=some d→j < i∧∃ e∈o.after,e.on=j∧Region.binds .any e=true)∧(∀ j,j < m→j≠i→jq7 ops j≠o.dst)∧o.dst.isSome=true∧∀ e∈o.after,Region.binds .any e=true→e.on < i) ∧
  (m≤i→∀ j,j < m→∃ e∈o.after,e.on=j∧Region.binds .any e=true):=by
 simp only [valB,Bool.and_eq_true,decide_eq_true_eq,List.all_eq_true,List.mem_range] at h
 refine ⟨h.1,fun i o ho=>?_⟩
 have hi:=h.2 i (Array.getElem?_eq_some_iff.1 ho).1
 rw [ho] at hi
 simp only [Bool.and_eq_true,bne_iff_ne,ne_eq] at hi
 refine ⟨hi.1,fun him=>?_,fun hmi j hj=>?_⟩
 ·have h2 := hi.2
  rw [if_pos him] at h2
  simp only [Bool.and_eq_true,List.all_eq_true,List.mem_range,Bool.or_eq_true,bne_iff_ne,ne_eq,decide_eq_true_eq,beq_iff_eq,Array.all_eq_true',Bool.not_eq_true'] at h2
  obtain ⟨⟨⟨a1,a2⟩,a3⟩,a4⟩:=h2
  refine ⟨fun d hd j hj hdj=>?_,fun j hj hne=>?_,a3,fun e he hb=>?_⟩
  ·rcases a1 d hd j hj with h3 | h3
   ·exact absurd hdj h3
   ·refine ⟨h3.1,?_⟩
    obtain ⟨e,he,hb⟩:=Array.any_eq_true'.1 h3.2
    simp only [Bool.and_eq_true,beq_iff_eq] at hb
    exact ⟨e,he,hb.1,hb.2⟩
  ·rcases a2 j hj with h3 | h3
   ·exact absurd h3 hne
   ·exact h3
  ·rcases a4 e he with h3 | h3
   ·rw [hb] at h3;cases h3
   ·exact h3
 ·have h2:=hi.2
  rw [if_neg (by omega)] at h2
  simp only [List.all_eq_true,List.mem_range] at h2
  obtain ⟨e,he,hb⟩:=Array.any_eq_true'.1 (h2 j hj)
  simp only [Bool.and_eq_true,beq_iff_eq] at hb
  exact ⟨e,he,hb.1,hb.2⟩
variable {s : St} {ops : Array Oper} {m : Nat}
theorem ixV_dst (hv:valB ops m=true) {i:Nat} {o:Oper} {d:Tmp} (ho:ops[i]?=some o) (hi:i < m) (hd:o.dst=some d):ixV ops m d=some i:=by
 have hdi:jq7 ops i=some d:=by simp [jq7,ho,hd]
 cases h:ixV ops m d with
 | none =>
  have:=List.find?_eq_none.1 h i (by simpa using hi)
  simp [hdi] at this
 | some j =>
  obtain ⟨h1,h2⟩:=ixV_some h
  by_cases hji:j=i
  ·rw [hji]
  ·exact absurd (h2.trans hd.symm) (((valB_spec hv).2 i o ho).2.1 hi |>.2.1 j h1 hji)
theorem VSt.step (hv : valB ops m = true) {kl : KL} (hkl : klB ops m kl = true) (hcl : Clear s kl) {xs : List AV} {L L' : Nat → Bool} {t t' : St} {i : Nat} {o : Oper} {x : AV} (hxs : ∀ k y, xs[k]? = some y → ∀ e ∈ kl, e.2.1 ≠ k → y.kill e.2.2 = y)
  (h:VSt s ops m kl xs L t) (hi0:L i=false) (hdep:∀ j T,(j,i,T)∈kl→L j=false) (ho:ops[i]?=some o) (hi:i < m) (hx:xs[i]?=some x) (hp:app (x,s.h,kofV kl i) o.dst t=some t') (hL:∀ j,L' j=(L j || j == i)):VSt s ops m kl xs L' t':=by
 have hs:=((valB_spec hv).2 i o ho).2.1 hi |>.2.2.1
 obtain ⟨d0,hd0⟩:=Option.isSome_iff_exists.1 hs
 have hix:=ixV_dst hv ho hi hd0
 obtain ⟨_,p2,p3,p4⟩:=wj9 hp
 refine ⟨p2.trans h.n,p3,fun d=>?_⟩
 rw [p4,hd0]
 split
 ·rename_i he
  cases he
  simp only [Fv,hix,hL,beq_self_eq_true,Bool.or_true,if_true,hx,Option.map_some,struck]
  split
  ·rename_i j T hk
   have hm:=ul6 hk
   have hne:(j == i)=false:=by have:=(jk8 hkl hm).2.1;simp;omega
   rw [hdep j T hm,hne,Bool.or_false,if_neg (by simp)]
  ·rfl
 ·rename_i hne0
  have hne:d0≠d:=fun h=>hne0 (by rw [h])
  rw [h.fr d]
  unfold Fv
  split
  ·rename_i j hj
   have hji:j≠i:=by
    rintro rfl
    have:=(ixV_some hj).2
    simp [jq7,ho,hd0] at this
    exact hne this
   rw [hL,show (j == i)=false by simpa using hji,Bool.or_false]
   by_cases hLj:L j=true
   ·rw [if_pos hLj, if_pos hLj]
    cases hy:xs[j]? with
    | none=>rfl
    | some y =>
     simp only [Option.map_some,Option.some.injEq]
     cases hk:kofV kl i with
     | none =>
      simp only [killO,struck]
      split
      ·rename_i i' T hk'
       have hii:i'≠i:=by
        rintro rfl
        have:=(jk8 hkl (ul6 hk')).2.2.2.1
        rw [hk] at this;cases this
       rw [hL,show (i' == i)=false by simpa using hii,Bool.or_false]
      ·rfl
     | some T =>
      simp only [killO]
      obtain ⟨j',hm⟩:=uh6 hk
      by_cases hjj:j=j'
      ·subst hjj
       simp only [struck,(jk8 hkl hm).2.2.2.2,hi0,hL,beq_self_eq_true,Bool.or_true,if_true]
       rfl
      ·have hyk := hxs j y hy _ hm (Ne.symm hjj)
       simp only at hyk
       simp only [struck]
       split
       ·rename_i i' T' hk'
        have hii:i'≠i:=by
         rintro rfl
         have hm':=ul6 hk'
         obtain ⟨_,_,_,a,_⟩:=jk8 hkl hm
         obtain ⟨_,_,_,a',_⟩:=jk8 hkl hm'
         simp only [klB,List.all_eq_true,Bool.and_eq_true,Bool.or_eq_true,bne_iff_ne,ne_eq] at hkl
         rcases ((hkl _ hm).2 _ hm').1 with h9 | h9
         ·exact h9 rfl
         ·have h9:(i',j,T')=(i',j',T):=by simpa using h9
          cases h9
          exact hjj rfl
        rw [hL,show (i' == i)=false by simpa using hii,Bool.or_false]
        split
        ·rw [kill_comm,hyk]
        ·exact hyk
       ·exact hyk
   ·rw [if_neg hLj, if_neg hLj]
    cases hg:getF s.fr d with
    | none=>rfl
    | some y =>
     cases hk:kofV kl i with
     | none=>rfl
     | some T =>
      obtain ⟨j',hm⟩:=uh6 hk
      simp only [Option.map_some,killO,(hcl _ hm).1 d y hg]
  ·cases hg:getF s.fr d with
   | none=>rfl
   | some y =>
    cases hk:kofV kl i with
    | none=>rfl
    | some T =>
     obtain ⟨j',hm⟩:=uh6 hk
     simp only [Option.map_some,killO,(hcl _ hm).1 d y hg]
theorem Fv_app {s:St} {ops:Array Oper} {m:Nat} {kl:KL} {xs ys:List AV} {L:Nat→Bool} (hL:∀ j,L j=true→j < xs.length) (d:Tmp):Fv s ops m kl (xs++ys) L d=Fv s ops m kl xs L d:=by
 unfold Fv
 split
 ·rename_i j hj
  split
  ·rename_i h
   rw [List.getElem?_append_left (hL j h)]
  ·rfl
 ·rfl
theorem VSt.app {s:St} {ops:Array Oper} {m:Nat} {kl:KL} {xs ys:List AV} {L:Nat→Bool} {t:St} (hL:∀ j,L j=true→j < xs.length) (h:VSt s ops m kl xs L t):VSt s ops m kl (xs++ys) L t :=
 ⟨h.n,h.h,fun d=>by rw [h.fr,Fv_app hL]⟩
end
end Go.AM
namespace Go.AM
open Go.RowKit
section
variable {P : Program} {c : Ctx} {w : World} {s : St} {a : Act}
end
end Go.AM
namespace Go.AM
open Go.RowKit
section
variable {P : Program} {c : Ctx} {w : World} {s : St} {a : Act} {top : Bool} {kf : Nat}
theorem rep_ro {o:Fl} {s0 cap:Nat} {x:AV} {ad:Addr} (h:Rep c w (.lst o s0 [x]) (.slice (some ad) 1 cap)) (hx:x.rf=true):Rep c w (.ro x) (.pointer (some ad)):=by
 cases h with
 | lst u hn hcap hmax hs hsz hrf hz hnil hc hr =>
  have hl:x.cells.length=s0:=hsz x (by simp)
  refine .ro u hx (fun k hk=>hc ad k rfl (by omega)) (fun j y hj=>?_)
  have:=hr 0 j x y rfl hj
  simpa using this
theorem W_roB {code : Code} {Q : Exit → St → Prop} (i : Nat) {id tk s0 : Nat} {x : AV} {o : Fl} {h' : List AObj} (hg : getF s.fr i = some (.loc id 0)) (htk : tk % 2 = 1)
  (hf:ws9 P s.h tk id 0 1 1=some (.lst o s0 [x],h')) (hx:x.rf=true) (h:Wt top kf P code Q ⟨s.n,putF s.fr i (.ro x),h'⟩):Wt top kf P code Q s:=by
 intro F n c w a hF hs
 obtain ⟨u,hu,hr,_⟩:=hs.fr i _ hg
 cases hr with
 | loc hid =>
  obtain ⟨c',he,hk,hs',hr',ho'⟩:=kd9 hs htk hf (.arr hid (Nat.le_refl 1) (by simp [maxLen]))
  have hro:=rep_ro hr' hx
  have hs2:SimSt P c' w ⟨s.n,putF s.fr i (.ro x),h'⟩ a:=by
   refine ⟨hs'.n,hs'.base,fun j y hy=>?_,hs'.h,hs'.dfr⟩
   simp only at hy
   rw [jm9] at hy
   split at hy
   ·rename_i hj
    subst hj
    cases hy
    exact ⟨_,hu,hro,.none rfl⟩
   ·exact hs'.fr j y hy
  have he':=he.toK hF.2.2
  refine wpIn_mono (h F n c' w a (hF.next he') hs2) ?_
  rintro e a' w' ⟨s',c2,q,k1,k2⟩
  exact ⟨s',c2,q,k1,he'.trans k2⟩
end
end Go.AM
namespace Go.AM
open Go.RowKit
set_option linter.unusedSimpArgs false
set_option linter.unusedVariables false
section
variable {P : Program}
section
variable {c c' : Ctx} {w w' : World}
end
end
section
variable {P : Program} {top : Bool} {kf : Nat} {Q : Exit → St → Prop} {s s' : St}
theorem W_cF {id c:Nat} {ops:Array Oper} {x y:Code} (ks:List Nat) (h:(kd8 P ops.toList ops.toList s).map (fun s=>⟨s.n,uh9 ks s.fr,s.h⟩)=some s') (hc:getF s'.fr c=some (.v (.bool false))) (hq:Wt top kf P y Q s'):Wt top kf P (.seq (.region id ops false) (.cond (.tmp c) x y)) Q s :=
 yr9 ks h (yt9 (t:=false) hc (fun h=>by cases h) fun _=>hq)
theorem W_cT {id c:Nat} {ops:Array Oper} {x y:Code} (ks:List Nat) (h:(kd8 P ops.toList ops.toList s).map (fun s=>⟨s.n,uh9 ks s.fr,s.h⟩)=some s') (hc:getF s'.fr c=some (.v (.bool true))) (hq:Wt top kf P x Q s'):Wt top kf P (.seq (.region id ops false) (.cond (.tmp c) x y)) Q s :=
 yr9 ks h (yt9 (t:=true) hc (fun _=>hq) fun h=>by cases h)
end
end Go.AM
set_option linter.unusedSimpArgs false
set_option linter.unusedVariables false
namespace Go.AM
open Go.RowKit
end Go.AM
set_option linter.unusedSimpArgs false
set_option linter.unusedVariables false
namespace Go.AM
open Go.RowKit
section
variable {P : Program}
end
end Go.AM
set_option linter.unusedSimpArgs false
namespace Go.AM
open Go.RowKit Go.ChangeShapes Go.WideShapes Go.ChangeAt Go.Deep
mutual
def AV.blk : AV → Nat
 | .v (.string s)=>s.size+1
 | .v _=>1
 | .lst _ _ xs=>AV.blkL xs+1
 | .agg xs=>AV.blkL xs
 | .tup xs=>AV.blkL xs
 | _=>1
def AV.blkL : List AV → Nat
 | []=>0
 | x :: xs=>AV.blk x+AV.blkL xs
end
theorem blkL_app : ∀ (xs ys : List AV), AV.blkL (xs ++ ys) = AV.blkL xs + AV.blkL ys
 | [],ys=>by simp [AV.blkL]
 | x :: xs,ys=>by rw [List.cons_append,AV.blkL,AV.blkL,blkL_app xs ys];omega
mutual
theorem blk_dp : (x : AV) → AV.blk x.dp = AV.blk x
 | .lst _ _ xs=>by simp only [AV.dp,AV.blk,blkL_dp xs]
 | .agg xs=>by simp only [AV.dp,AV.blk,blkL_dp xs]
 | .tup xs=>by simp only [AV.dp,AV.blk,blkL_dp xs]
 | .any | .v _ | .ro _ | .loc _ _ | .arr _ _ _ _ | .fn _ _ _ | .mp _ | .yld _=>rfl
theorem blkL_dp : (xs : List AV) → AV.blkL (AV.dpL xs) = AV.blkL xs
 | []=>rfl
 | x :: xs=>by simp only [AV.dpL,AV.blkL,blk_dp x,blkL_dp xs]
end
structure BulkOk {H:Type} (B:DataW H→Nat) (BA:List (DataW H)→Nat):Prop where
 one:∀ d,1≤B d
 str:∀ l,B (.lit (.string l))=l.length+1
 sl:∀ a b,BA a+BA b+1≤B (.slice a b)
 ag:∀ a,BA a≤B (.agg a)
 cons:∀ d l,BA (d :: l)=B d+BA l
 nil:BA []=0
theorem blk_map {H : Type} {B : DataW H → Nat} {BA : List (DataW H) → Nat} (hB : BulkOk B BA) {f : Nat → AV} {D : Nat → DataW H} : ∀ {L : List Nat}, (∀ i ∈ L, AV.blk (f i) ≤ B (D i)) → AV.blkL (L.map f) ≤ BA (L.map D)
 | [],_=>by rw [List.map_nil,List.map_nil,hB.nil];exact Nat.le_refl _
 | i :: L,h=>by
  rw [List.map_cons,List.map_cons,AV.blkL,hB.cons]
  have h1:=h i List.mem_cons_self
  have h2:=blk_map hB (L:=L) fun j hj=>h j (List.mem_cons_of_mem _ hj)
  omega
section
variable {H : Type} {enc : TypeId × Value → H} {P : Program} {W : World}
variable {B : DataW H → Nat} {BA : List (DataW H) → Nat}
theorem xh7 (hB : BulkOk B BA) {n : Nat} {cs : List Value} (ih : ∀ (fuel : Nat) (t : TypeId) (cs : List Value) (x : DataW H × List MemPlace), qs8 P n t = true → DataW.trod enc P W 0 (fun _ => true) true fuel t cs = some x → (∀ m ∈ x.1.weights P t, m ≤ reachBytes) → ∃ xs, TyC P n t xs ∧ LRep W xs cs ∧ AV.blkL xs ≤ B x.1) :
  ∀ (fl : List Field) (zs : List (DataW H × List MemPlace)) (off : Nat), tiles P off fl = some cs.length →
   (∀ (i:Nat) f,fl[i]?=some f→qs8 P n f.type=true∧∃ (k:Nat) (y:DataW H × List MemPlace),zs[i]?=some y∧DataW.trod enc P W 0 (fun _=>true) true k f.type ((cs.drop f.offset).take (P.cellsOf f.type))=some y∧∀ m∈y.1.weights P f.type,m≤reachBytes) →
   ∃ xs,LRep W xs (cs.drop off)∧AV.blkL xs≤BA (zs.map (·.1))∧∀ f∈fl,off≤f.offset∧TyC P n f.type ((xs.drop (f.offset - off)).take (P.cellsOf f.type))
 | [],zs,off,h,_=>by
  simp [tiles] at h
  refine ⟨[],?_,Nat.zero_le _,by simp⟩
  rw [List.drop_eq_nil_of_le (by omega)]
  exact ⟨rfl,by simp,rfl,rfl,by simp⟩
 | f :: fl,zs,off,h,hf=>by
  simp only [tiles] at h
  split at h
  ·rename_i ho
   have hle:=tiles_le _ _ _ h
   obtain ⟨hp,k,y,hz,hy,hyw⟩:=hf 0 f rfl
   obtain ⟨zs',rfl⟩:∃ zs',zs=y :: zs':=by
    cases zs with
    | nil=>simp at hz
    | cons z zs'=>simp at hz;exact ⟨zs',by rw [hz]⟩
   obtain ⟨xs',h1,hb1,h2⟩:=xh7 hB ih fl zs' _ h (fun i g hg=>hf (i+1) g (by simpa using hg))
   obtain ⟨ys,h3,h4,hb2⟩:=ih k f.type _ y hp hy hyw
   rw [ho] at h4
   have hly:ys.length=P.cellsOf f.type:=by rw [h4.len,List.length_take,List.length_drop];omega
   refine ⟨ys++xs',?_,by rw [blkL_app,List.map_cons,hB.cons];omega,?_⟩
   ·have:=h4.append h1
    rwa [← List.drop_drop,List.take_append_drop] at this
   ·intro g hg
    rcases List.mem_cons.1 hg with rfl | hg
    ·refine ⟨by omega,?_⟩
     rw [ho,Nat.sub_self,List.drop_zero,List.take_append_of_le_length (by omega),List.take_of_length_le (by omega)]
     exact h3
    ·obtain ⟨h5,h6⟩:=h2 g hg
     refine ⟨by omega,?_⟩
     rw [List.drop_append,List.drop_eq_nil_of_le (by omega),List.nil_append,hly,show g.offset - off - P.cellsOf f.type=g.offset - (off+P.cellsOf f.type) by omega]
     exact h6
  ·cases h
theorem up6 (hB : BulkOk B BA) : ∀ (n fuel : Nat) (t : TypeId) (cs : List Value) (x : DataW H × List MemPlace), qs8 P n t = true → DataW.trod enc P W 0 (fun _ => true) true fuel t cs = some x → (∀ m ∈ x.1.weights P t, m ≤ reachBytes) →
  ∃ xs,TyC P n t xs∧LRep W xs cs∧AV.blkL xs≤B x.1
 | 0,_,_,_,_,h,_,_=>by cases h
 | n+1,fuel,t,cs,x,hp,h,hwt=>by
  simp only [qs8] at hp
  cases hu:P.underlying t with
  | none=>rw [hu] at hp;cases hp
  | some dd =>
   rw [hu] at hp
   cases dd <;> simp only [] at hp <;> first | (cases hp;done) | skip
   case bool =>
    obtain ⟨b,rfl,_⟩:=DataW.trod_bool hu h
    exact ⟨[.v (.bool b)],by simp only [TyC,hu];exact ⟨b,rfl⟩,⟨rfl,fun j y hj=>by
     match j,hj with
     | 0,hj=>simp at hj;subst hj;exact ⟨_,rfl,.v _,rfl⟩,rfl,rfl,by simp [AV.cells,AV.one]⟩,hB.one _⟩
   case int k =>
    obtain ⟨m,rfl,_,hw⟩:=DataW.trod_int hu h
    simp only [Lit.wf,Bool.and_eq_true,decide_eq_true_eq] at hw
    exact ⟨[.v (.int k m)],by simp only [TyC,hu];exact ⟨m,rfl,hw.1,hw.2⟩,⟨rfl,fun j y hj=>by
     match j,hj with
     | 0,hj=>simp at hj;subst hj;exact ⟨_,rfl,.v _,rfl⟩,rfl,rfl,by simp [AV.cells,AV.one]⟩,hB.one _⟩
   case string =>
    obtain ⟨s,rfl,hxs,hw⟩:=DataW.trod_string hu h
    exact ⟨[.v (.string s)],by simp only [TyC,hu];exact ⟨s,rfl,hw⟩,⟨rfl,fun j y hj=>by
     match j,hj with
     | 0,hj=>simp at hj;subst hj;exact ⟨_,rfl,.v _,rfl⟩,rfl,rfl,by simp [AV.cells,AV.one]⟩,by rw [hxs];show s.size+1+0≤_;rw [hB.str,Array.length_toList];exact Nat.le_refl _⟩
   case struct fs =>
    simp only [Bool.and_eq_true,List.all_eq_true,beq_iff_eq] at hp
    obtain ⟨ys,m,_,hxe,hl,hlen,hf⟩:=DataW.trod_struct hu h
    obtain ⟨xs,h1,hb,h2⟩:=xh7 hB (fun fuel t cs x h1 h2 h3=>up6 hB n fuel t cs x h1 h2 h3) fs.toList ys 0 (by rw [hl];exact hp.2) (fun i f hi=>by
     have hf':f∈fs.toList:=List.mem_of_getElem? hi
     refine ⟨hp.1 f hf',m,?_⟩
     have hi':fs[i]?=some f:=by simpa using hi
     have hlt:i < ys.length:=by rw [hlen];exact (Array.getElem?_eq_some_iff.1 hi').1
     refine ⟨ys[i],by simp [hlt],by rw [hf i f hi'];simp [hlt],fun m hm=>hwt m ?_⟩
     rw [hxe]
     simp only [DataW.weights,hu]
     exact DataW.weights_mem_each (j:=i) (t:=f.type) (d:=ys[i].1) (by simp [hi']) (by simp [hlt]) m hm)
    rw [List.drop_zero] at h1
    exact ⟨xs,by simp only [TyC,hu];exact ⟨by rw [h1.len,hl],fun f hf'=>(h2 f hf').2⟩,h1,by rw [hxe];exact Nat.le_trans hb (hB.ag _)⟩
   case slice e =>
    simp only [Bool.and_eq_true,decide_eq_true_eq,Bool.or_eq_true,beq_iff_eq] at hp
    obtain ⟨⟨hpe,hce⟩,hst⟩:=hp
    rcases open_slice hu h with ⟨rfl,_⟩ | ⟨a,len,cap,m,k,D,Pl,rfl,_,hlc,hcm,hm,hxe,hel⟩
    ·exact ⟨[.lst .nil (P.cellsOf e) []],by simp only [TyC,hu];exact ⟨.nil,[],rfl,⟨Nat.zero_le _,by simp⟩,.inl rfl,fun _=>rfl,by simp⟩,⟨rfl,fun j y hj=>by
      match j,hj with
      | 0,hj=>simp at hj;subst hj;exact ⟨_,rfl,.lst (fun _=>undef) rfl (Nat.zero_le _) (Nat.zero_le _) (by simp) (by simp) rfl (fun _=>⟨rfl,rfl⟩) rfl (by simp) (by simp),rfl⟩,rfl,rfl,by simp [AV.cells,AV.one]⟩,hB.one _⟩
    ·have hel':∀ i,i < len→∃ cs' ys,W.cells? 0 (a.add (i * P.cellsOf e)) (P.cellsOf e)=some cs'∧TyC P n e ys∧LRep W ys cs'∧AV.blkL ys≤B (D i):=fun i hi=>by
      obtain ⟨cs',h1,h2⟩:=hel i (by simp at hm;omega)
      obtain ⟨ys,h3,h4,hb4⟩:=up6 hB n k e cs' _ hpe h2 (fun m hm'=>hwt m (by
       rw [hxe]
       simp only [DataW.weights,hu]
       refine List.mem_cons_of_mem _ (List.mem_append_left _ (qr8 (d:=D i) ?_ m hm'))
       exact List.mem_map.2 ⟨i,List.mem_range.2 hi,rfl⟩))
      exact ⟨cs',ys,h1,h3,h4,hb4⟩
     have hY:∃ Y:Nat→List AV,∀ i,i < len→∃ cs',W.cells? 0 (a.add (i * P.cellsOf e)) (P.cellsOf e)=some cs'∧TyC P n e (Y i)∧LRep W (Y i) cs'∧AV.blkL (Y i)≤B (D i):=by
      refine ⟨fun i=>if hi:i < len then Classical.choose (Classical.choose_spec (hel' i hi)) else [],fun i hi=>?_⟩
      obtain ⟨h1,h2,h3,h4⟩:=Classical.choose_spec (Classical.choose_spec (hel' i hi))
      exact ⟨_,h1,by simp only [dif_pos hi];exact h2,by simp only [dif_pos hi];exact h3,by simp only [dif_pos hi];exact h4⟩
     obtain ⟨Y,hY⟩:=hY
     let wr:List AV→AV:=fun ys=>if isSt P e then .agg ys else ys.headD .any
     have hYl:∀ i,i < len→(Y i).length=P.cellsOf e:=fun i hi=>by
      obtain ⟨cs',h1,_,h3,hb3⟩:=hY i hi
      rw [h3.len,(cells_get h1).1]
     have hwr:∀ i,i < len→(wr (Y i)).cells=Y i∧(wr (Y i)).rf=true:=fun i hi=>by
      obtain ⟨cs',h1,_,h3,hb3⟩:=hY i hi
      simp only [wr]
      split
      ·exact ⟨rfl,h3.rf⟩
      ·rename_i hns
       have h1c:P.cellsOf e=1:=by rcases hst with h | h;exact absurd h hns;exact h
       have:=hYl i hi
       rw [h1c] at this
       match hYi:Y i,this with
       | [y],_ =>
        simp only [List.headD_cons]
        exact ⟨(h3.one y (by rw [hYi];simp)).1,qc8.1 h3.rf y (by rw [hYi];simp)⟩
     have hmem:∀ x∈(List.range len).map fun i=>wr (Y i),∃ i,i < len∧x=wr (Y i):=fun x hx=>by
      obtain ⟨i,hi,rfl⟩:=List.mem_map.1 hx
      exact ⟨i,by simpa using hi,rfl⟩
     have hcell:∀ i j,i < len→j < P.cellsOf e→∃ u,W.cell? (a.add (i * P.cellsOf e+j))=some u∧u.oneCell'=true∧∀ y,(Y i)[j]?=some y→Rep (ctxOf W) W y u:=fun i j hi hj=>by
      obtain ⟨cs',h1,_,h3,hb3⟩:=hY i hi
      obtain ⟨h4,h5⟩:=cells_get h1
      obtain ⟨u,h6,h7⟩:=h5 j hj
      rw [jh7] at h7
      have hjl:j < (Y i).length:=by rw [hYl i hi];exact hj
      obtain ⟨u',h8,h9,h10⟩:=h3.rep j (Y i)[j] (by simp [hjl])
      rw [h6] at h8
      cases h8
      refine ⟨u,h7,h10,fun y hy=>?_⟩
      simp [hjl] at hy
      subst hy
      exact h9
     let U:Nat→Value:=fun k=>(W.cell? (a.add k)).getD undef
     have hby:((List.range len).map fun i=>wr (Y i)).length * P.bytesOf e≤140737488351232:=by
      have h0:=hwt ((((List.range len).map D).length+((List.range (m - len)).map fun j=>D (len+j)).length) * P.bytesOf e) (by
       rw [hxe]
       simp only [DataW.weights,hu]
       exact List.mem_cons_self)
      have h1:reachBytes=140737488351232:=rfl
      rw [h1] at h0
      refine Nat.le_trans (Nat.mul_le_mul_right _ ?_) h0
      simp
     have hblk:AV.blkL [.lst .any (P.cellsOf e) ((List.range len).map fun i=>wr (Y i))]≤B x.1:=by
      rw [hxe]
      refine Nat.le_trans ?_ (hB.sl _ _)
      have:=blk_map hB (f:=fun i=>wr (Y i)) (D:=D) (L:=List.range len) fun i hi=>by
       rw [List.mem_range] at hi
       obtain ⟨cs',h1,_,h3,hb3⟩:=hY i hi
       simp only [wr]
       split
       ·exact hb3
       ·rename_i hns
        have h1c:P.cellsOf e=1:=by rcases hst with h | h;exact absurd h hns;exact h
        have:=hYl i hi
        rw [h1c] at this
        match hYi:Y i,this with
        | [y],_ =>
         rw [hYi] at hb3
         simpa [AV.blkL] using hb3
      simp only [AV.blkL,AV.blk]
      omega
     refine ⟨[.lst .any (P.cellsOf e) ((List.range len).map fun i=>wr (Y i))],?_,⟨rfl,fun j y hj=>?_,?_,rfl,by simp [AV.cells,AV.one]⟩,hblk⟩
     ·simp only [TyC, hu]
      refine ⟨.any,_,rfl,⟨by simp;omega,hby⟩,.inr rfl,fun h=>(by cases h),fun x hx=>?_⟩
      obtain ⟨i,hi,rfl⟩:=hmem x hx
      obtain ⟨cs',h1,h2,h3,hb3⟩:=hY i hi
      by_cases hs:isSt P e=true
      ·exact .inl ⟨hs,Y i,by simp [wr,hs],h2⟩
      ·refine .inr ⟨by simpa using hs,?_⟩
       have h1c:P.cellsOf e=1:=by rcases hst with h | h;exact absurd h hs;exact h
       have:=hYl i hi
       rw [h1c] at this
       match hYi:Y i,this with
       | [y],_=>rw [hYi] at h2;simpa [wr,hs] using h2
     ·match j,hj with
      | 0,hj =>
       simp at hj
       subst hj
       refine ⟨_,rfl,.lst U (by simp) hlc hcm (fun _=>hce) ?_ ?_ (by simp) trivial ?_ ?_,rfl⟩
       ·intro x hx
        obtain ⟨i,hi,rfl⟩:=hmem x hx
        rw [(hwr i hi).1,hYl i hi]
       ·refine rfL_mk fun x hx=>?_
        obtain ⟨i,hi,rfl⟩:=hmem x hx
        exact (hwr i hi).2
       ·intro ad k' had hk
        cases had
        have hq:k' / P.cellsOf e < len:=Nat.div_lt_of_lt_mul (by rw [Nat.mul_comm];exact hk)
        have hr:k' % P.cellsOf e < P.cellsOf e:=Nat.mod_lt _ hce
        have hk':k' / P.cellsOf e * P.cellsOf e+k' % P.cellsOf e=k':=by rw [Nat.mul_comm];exact Nat.div_add_mod k' _
        obtain ⟨u,h1,h2,_⟩:=hcell _ _ hq hr
        rw [hk'] at h1
        have hU:U k'=u:=by simp only [U,h1];rfl
        rw [hU]
        exact ⟨h1,prot_ctxOf h1,h2⟩
       ·intro i j' x y hi hj'
        simp only [List.getElem?_map,Option.map_eq_some_iff] at hi
        obtain ⟨i',hi',rfl⟩:=hi
        have:i'=i∧i < len:=by
         have:=List.getElem?_eq_some_iff.1 hi'
         obtain ⟨h1,h2⟩:=this
         simp at h1 h2
         exact ⟨h2.symm,h1⟩
        obtain ⟨rfl,hil⟩:=this
        rw [(hwr i' hil).1] at hj'
        have hjl:j' < P.cellsOf e:=by rw [← hYl i' hil];exact (List.getElem?_eq_some_iff.1 hj').1
        obtain ⟨u,h1,_,h3⟩:=hcell i' j' hil hjl
        have hU:U (i' * P.cellsOf e+j')=u:=by simp only [U,h1];rfl
        rw [hU]
        exact h3 y hj'
     ·simp only [AV.rfL,AV.rf,Bool.and_true]
theorem open_argB (hB : BulkOk B BA) {n : Nat} {t : TypeId} {v : Value} {d : DataW H} {ps : List MemPlace} {b0 : Nat} (hp : qs8 P n t = true) (hval : Value.okWide P W .any b0 t v) (h : DataW.Trod enc P W 0 (fun _ => true) true t v d ps) (hwt : ∀ m ∈ d.weights P t, m ≤ reachBytes) :
  ∃ x,TyV P n t x∧Rep (ctxOf W) W x v∧x.rf=true∧x.tl=true∧AV.blk x≤B d:=by
 obtain ⟨fuel,hf⟩:=h
 obtain ⟨xs,h1,h2,hb⟩:=up6 hB n fuel t _ _ hp hf hwt
 cases n with
 | zero=>cases hp
 | succ n =>
  by_cases hs:isSt P t=true
  ·have hv:∃ cs,v=.agg cs:=by
    unfold isSt at hs
    split at hs
    ·rename_i fs hu
     unfold Value.okWide at hval
     rw [hu] at hval
     obtain ⟨cs,rfl,_⟩:=hval
     exact ⟨cs,rfl⟩
    ·cases hs
   obtain ⟨cs,rfl⟩:=hv
   refine ⟨.agg xs,.inl ⟨hs,xs,rfl,h1⟩,.agg (by simpa [Value.cells] using h2.len) (fun j y hj=>?_),h2.rf,h2.tl,hb⟩
   obtain ⟨u,h3,h4,_⟩:=h2.rep j y hj
   have:cs.getD j undef=u:=by
    have:cs[j]?=some u:=by simpa [Value.cells] using h3
    simp [this]
   rw [this];exact h4
  ·have hs' : isSt P t = false := by simpa using hs
   have hcv:v.cells=#[v]:=by
    simp only [qs8] at hp
    cases hu:P.underlying t with
    | none=>rw [hu] at hp;cases hp
    | some dd =>
     rw [hu] at hp
     cases dd <;> simp only [] at hp <;> first | (cases hp;done) | skip
     ·obtain ⟨b,rfl⟩:=okWide_bool hu hval;rfl
     ·obtain ⟨b,rfl⟩:=okWide_int hu hval;rfl
     ·obtain ⟨b,rfl⟩:=okWide_string hu hval;rfl
     ·obtain ⟨a,l,c,rfl⟩:=okWide_slice hu hval;rfl
     ·simp [isSt,hu] at hs
   have hlen:xs.length=1:=by rw [h2.len,hcv];rfl
   match xs,hlen with
   | [x],_ =>
    refine ⟨x,.inr ⟨hs',h1⟩,?_,?_,?_,by simpa [AV.blkL] using hb⟩
    ·obtain ⟨u,h3,h4,_⟩:=h2.rep 0 x rfl
     rw [hcv] at h3
     simp at h3
     subst h3
     exact h4
    ·have:=h2.rf;simpa [AV.rfL] using this
    ·have:=h2.tl;simpa [AV.tlL] using this
theorem zl6 (hB : BulkOk B BA) {n b0 : Nat} : ∀ {ts : List TypeId} {vs : List Value} {ds : List (DataW H)} {ps : List MemPlace}, (∀ t ∈ ts, qs8 P n t = true) →
  (∀ (j:Nat) t v,ts[j]?=some t→vs[j]?=some v→Value.okWide P W .any b0 t v)→DataW.TrodAll enc P W 0 (fun _=>true) true ts vs ds ps→(∀ m∈DataW.weightsEach P ts ds,m≤reachBytes) →
  ∃ xs,TyAll P n ts xs∧RepL P (ctxOf W) W xs vs∧AV.rfL xs=true∧AV.tlL xs=true∧AV.blkL xs≤BA ds
 | [],[],[],_,_,_,_,_=>⟨[],trivial,.nil,rfl,rfl,Nat.zero_le _⟩
 | [],[],_ :: _,_,_,_,h,_=>h.elim
 | [],_ :: _,_,_,_,_,h,_=>by cases ‹List (DataW H)› <;> exact h.elim
 | _ :: _,[],_,_,_,_,h,_=>by cases ‹List (DataW H)› <;> exact h.elim
 | _ :: _,_ :: _,[],_,_,_,h,_=>h.elim
 | t :: ts,v :: vs,d :: ds,ps,hp,hv,h,hwt=>by
  obtain ⟨p,q,h1,h2,_⟩:=h
  obtain ⟨x,k1,k2,k3,k4,k5⟩:=open_argB hB (hp t List.mem_cons_self) (hv 0 t v rfl rfl) h1 (fun m hm=>hwt m (List.mem_append_left _ hm))
  obtain ⟨xs,g1,g2,g3,g4,g5⟩:=zl6 hB (fun t ht=>hp t (List.mem_cons_of_mem _ ht)) (fun j t v ht hv'=>hv (j+1) t v (by simpa using ht) (by simpa using hv')) h2 (fun m hm=>hwt m (List.mem_append_right _ hm))
  exact ⟨x :: xs,⟨k1,g1⟩,.cons k2 (.none k4) g2,by simp only [AV.rfL,k3,g3,Bool.and_self],by simp only [AV.tlL,k4,g4,Bool.and_self],by rw [AV.blkL,hB.cons];omega⟩
theorem ug6 (hB : BulkOk B BA) {N : Nat} {f : FuncId} {fn : Func} {s : ChangeSpec} {n : Nat} {t : TypeId} (hl : laidOutB P = true) (hts : ∀ t ∈ fn.params.toList, qs8 P n t = true ∧ P.readableRec t = true ∧ t < P.types.size)
  (hvars:s.vars=[]) (hres:fn.resultTypes=#[t]) (ht:P.underlying t=some .bool)
  (hs:∀ (H:Type) (ds:List (DataW H)),ds.length=fn.params.size→s.fn H ds={ results:=[.lit (.bool true)],args:=ds })
  (hsound:∀ xs,TyAll P n fn.params.toList xs→AV.blkL xs≤N→Sound P f xs (.v (.bool true)))
  (base:Nat) (args:Array Value) (ds gs:List (DataW H)) (before:List MemPlace)
  (hval:∀ (j:Nat) t v,fn.params[j]?=some t→args[j]?=some v→Value.okWide P W .any base t v)
  (hW:DataW.Whole enc P fn.params.toList s.vars false W args.toList ds gs before)
  (hbd:BA (ds++gs)≤N)
  (hsz:(DataW.weightsEach P (fn.params.toList++s.plain.varTypes P) (ds++gs)).all (·≤reachBytes)=true) :
  Calls P f args W fun e W'=>∃ v,e=.returned v∧s.post enc P fn false true false false W args v W':=by
 have hlt:=hW.lt
 obtain ⟨p,q,hA,hV,hpq,hfz,hnd⟩:=hW
 rw [hvars] at hV
 obtain ⟨rfl,rfl⟩:=trodVars_none hV
 rw [List.append_nil] at hpq hbd
 subst hpq
 have hwt:∀ m∈DataW.weightsEach P fn.params.toList ds,m≤reachBytes:=by
  have hvt:s.plain.varTypes P=[]:=by simp [DataSpec.varTypes,ChangeSpec.plain,hvars]
  rw [hvt,List.append_nil,List.append_nil] at hsz
  intro m hm
  simpa using List.all_eq_true.1 hsz m hm
 obtain ⟨xs,k1,k2,k3,k4,k5⟩:=zl6 hB (n:=n) (b0:=base) (fun t ht=>(hts t ht).1) (fun j t v h1 h2=>hval j t v (by simpa using h1) (by simpa using h2)) hA hwt
 have hcall:=(hsound xs k1 (Nat.le_trans k5 hbd)).2 Fence.wide 0 (ctxOf W) W args.toList 1 good_wide rfl (by decide) (fun b h=>h) k2
 rw [← callsIn_wide (n:=0)]
 rw [show args.toList.toArray=args by simp] at hcall
 refine CallsIn.mono hcall ?_
 rintro e W' ⟨u,c',rfl,hp,hr,_⟩
 have hu:u=.bool true:=hr.v_inv
 subst hu
 have hlenD:ds.length=fn.params.size:=by
  have:∀ {ts:List TypeId} {vs:List Value} {ds:List (DataW H)} {ps:List MemPlace},DataW.TrodAll enc P W 0 (fun _=>true) true ts vs ds ps→ds.length=ts.length:=by
   intro ts
   induction ts with
   | nil=>intro vs ds ps h;cases vs <;> cases ds <;> first | rfl | exact h.elim
   | cons t ts ih =>
    intro vs ds ps h
    cases vs <;> cases ds <;> first | exact h.elim | skip
    obtain ⟨p,q,_,h2,_⟩:=h
    simp [ih h2]
  simpa using this hA
 have hfn:=hs H ds hlenD
 have hbel:Below W.heap.size W W':=⟨hp.os,hp.tape,hp.output,hp.size,hp.block⟩
 refine ⟨_,rfl,ds,[],before,[],before,[],⟨before,[],hA,by rw [hvars];simp [DataW.TrodVars],by simp,hfz,hnd⟩,?_,?_,?_,?_,fun h=>(by cases h)⟩
 ·rw [List.append_nil,hfn,hres]
  simp only [Value.resultList]
  exact trodAll_mk1 (shut_bool ht true)
 ·rw [List.append_nil,hfn]
  exact kc8 hl hbel (fun t ht=>(hts t ht).2) hA hlt
 ·rw [List.append_nil,hfn,hvars]
  simp [DataW.TrodVars]
 ·exact hbel.frame _
end
end Go.AM
namespace Go.AM
open Go.RowKit
set_option linter.unusedSimpArgs false
section
variable {P : Program} {c : Ctx} {w : World} {s : St} {a : Act}
theorem wm8 (w : World) (t tn ty e : TypeId) (i : TypeInfo) (z : Value) (k kn : IntKind) (ht : P.underlying t = some (.slice e)) (htn : P.underlying tn = some (.int kn)) (hi : P.info? e = some i) (hz : i.zero = some z)
  (b:Addr) (sLen sCap:Nat) (olds:List Value) (hlo:olds.length=sLen * i.size) (holds:∀ j v,olds[j]?=some v→w.cell? (b.add j)=some v) (n:Nat) (h0:0 < n) (hs:0 < i.size)
  (hg:sCap < sLen+n) (h63:((sLen+n:Nat):Int)≤9223372036854775807) (h48:n * i.bytes≤281474976710656) (hfit:Builtin.nextslicecap (sLen+n) sCap * i.bytes≤281474976710656) :
  (Builtin.append_ #[t, tn] ty #[.slice (some b) sLen sCap, .int k n]).run P w =
   .ok (.slice (some ⟨w.heap.size, 0, none⟩) (sLen + n) (grownCap w (sLen + n) sCap e))
    (w.drew.alloc (.cells (olds.toArray++Builtin.zeroCells z.cells n++Builtin.zeroCells z.cells (grownCap w (sLen+n) sCap e - (sLen+n))) e)):=by
 have hn:n≠0:=by omega
 have hn2:¬ (sLen+n≤sCap):=by omega
 have hw:IntKind.i64.wrap (n:Int)=n:=by rw [IntKind.wrap_i64];omega
 have h63':¬ (9223372036854775807 < ((sLen:Int)+(n:Int))):=by omega
 have h48':¬ (281474976710656 < Builtin.nextslicecap (sLen+n) sCap * i.bytes):=by omega
 have h48i:¬ (281474976710656 < (n:Int) * (i.bytes:Int)):=by
  rw [← Int.natCast_mul]
  omega
 have hneg:¬ ((n:Int) < 0):=by omega
 have hns:¬ (n * i.size=0):=Nat.mul_ne_zero hn (by omega)
 have hfo:=run_firstCells_some (P:=P) w.drew i.size sLen b sLen sCap olds hlo (by simpa using holds)
 simp [Builtin.append_,run_underlying ht,run_underlying htn,sizeOf,typeInfo,zeroValue,hi,hz,asInt,asIntOf,hw,hn2,hneg,hns,h63',h48',h48i,Question.forced,hfo,newRow,grownCap]
theorem appZArr_sound {t tn ty e sz by_ id len cap n : Nat} {ag : Bool} {k kn : IntKind} {cs : List AV} {z : AV} {u : Value} (hs : SimSt P c w s a) (hsl : slI P t = some (e, ag, sz)) (htn : P.underlying tn = some (.int kn)) (hap : apI P e = some (sz, by_))
  (hz:zA P e=some z) (hzl:z.cells.length=sz) (hsz:0 < sz) (hby:0 < by_) (hobj:s.h[id]?=some (.cells e cs)) (hcs:len * sz≤cs.length) (rx:Rep c w (.arr id 0 len cap) u)
  (hn:0 < n) (hroom:cap < len+n) (hb:(len+n) * by_≤140737488355328) :
  ∃ v' w' c' cap', (Builtin.append_ #[t, tn] ty #[u, .int k n]).run P w = .ok v' w' ∧ Ext c w c' w' ∧ len + n ≤ cap' ∧ cap' ≤ maxLen ∧ SimSt P c' w' { s with h := s.h ++ [.cells e (cs.take (len * sz) ++ repC (cap' - len) z.cells)] } a ∧
   Rep c' w' (.arr s.h.length 0 (len+n) cap') v':=by
 obtain ⟨ht,hty⟩:=xf9 hsl
 obtain ⟨i,zv,hi,hzz,hisz,hib,hzs,_⟩:=un8 hap
 have hid:id < c.no:=by rw [hs.h.no];exact (List.getElem?_eq_some_iff.1 hobj).1
 obtain ⟨_,_,_,cur,hcur,hl,hcsr⟩:=hs.h.obj id _ hobj
 have hnm:len+n≤140737488355328:=by
  have:(len+n) * 1≤(len+n) * by_:=Nat.mul_le_mul_left _ hby
  omega
 have hnb:n * by_≤(len+n) * by_:=Nat.mul_le_mul_right _ (by omega)
 cases rx with
 | arr _ hlen hmax =>
  have holdl:(cur.toList.take (len * sz)).length=len * i.size:=by rw [hisz,List.length_take,Array.length_toList,← hl];omega
  have holds:∀ (j:Nat) (v:Value),(cur.toList.take (len * sz))[j]?=some v→w.cell? ((⟨c.ob id,0,none⟩:Addr).add j)=some v:=by
   intro j v hj
   rw [qg9,Nat.zero_add]
   simp only [World.cell?,hcur,Option.isSome_none,Bool.false_eq_true,if_false]
   rw [List.getElem?_take] at hj
   split at hj
   ·rw [← Array.getElem?_toList];exact hj
   ·cases hj
  have hrun := wm8 (P := P) w t tn ty e i zv k kn ht htn hi hzz ⟨c.ob id, 0, none⟩ len cap (cur.toList.take (len * sz)) holdl holds n hn (by omega) hroom (by omega) (by rw [hib]; omega)
   (growslice_fits (by omega) (by rw [hib];exact hb))
  have hge:=grownCap_ge w (len+n) cap e
  have hle:=grownCap_le_maxLen w (len+n) cap e (by simp only [maxLen];omega)
  generalize hcap':grownCap w (len+n) cap e=cap' at hrun hge hle
  have hsd:=hs.drew
  have hC1:Cells P c w (cs.take (len * sz)) (cur.toList.take (len * sz)).toArray:=by
   refine ⟨by simp [hl],fun j y hj=>?_⟩
   rw [List.getElem?_take] at hj
   split at hj
   ·rename_i hjl
    have:=hcsr j y hj
    have e1:((cur.toList.take (len * sz)).toArray).getD j undef=cur.getD j undef:=by
     rw [Array.getD_eq_getD_getElem?,List.getElem?_toArray,List.getElem?_take,if_pos hjl,Array.getElem?_toList,← Array.getD_eq_getD_getElem?]
    rw [e1];exact this
   ·cases hj
  obtain ⟨ha1,ha2,ha3⟩:=zf8 (P:=P) (c:=c) (w:=w) hi hzz hz hzl hzs hsz n
  obtain ⟨hz1,hz2,hz3⟩:=zf8 (P:=P) (c:=c) (w:=w) hi hzz hz hzl hzs hsz (cap' - (len+n))
  have hC3:=uc9 (uc9 hC1 (ys:=repC n z.cells) (vs:=Builtin.zeroCells zv.cells n) ⟨by rw [ha1,ha2],ha3⟩) (ys:=repC (cap' - (len+n)) z.cells) (vs:=Builtin.zeroCells zv.cells (cap' - (len+n))) ⟨by rw [hz1,hz2],hz3⟩
  have hrep:∀ (a b:Nat) (zs:List AV),repC a zs++repC b zs=repC (a+b) zs:=by
   intro a b zs
   induction a with
   | zero=>simp [repC]
   | succ a ih=>simp only [repC,List.append_assoc,ih,Nat.succ_add]
  rw [List.append_assoc,hrep,show n+(cap' - (len+n))=cap' - len by omega] at hC3
  obtain ⟨c',_,he,hs',hr⟩:=newArr hsd (e:=e) (uv8 (xl9 c w) (zm8 c w _ rfl) hC3) (len+n) cap' hge hle
  exact ⟨_,_,c',cap',hrun,(xl9 c w).trans he,hge,hle,hs',hr⟩
theorem stepW_appZ {o : Oper} {cl : Call} {K : St → Prop} {k1 k2 t tn e sz by_ id len cap n : Nat} {ag : Bool} {kn : IntKind} {cs : List AV} {z : AV} (ho : o.op = .call cl) (hc : cl.callee = .builtin .append) (ha : cl.args = #[.tmp k1, .tmp k2]) (hty : cl.argTypes = #[t, tn])
  (h1:getF s.fr k1=some (.arr id 0 len cap)) (h2:getF s.fr k2=some (.v (.int .i64 (n:Nat)))) (hsl:slI P t=some (e,ag,sz)) (htn:P.underlying tn=some (.int kn)) (hap:apI P e=some (sz,by_)) (hz:zA P e=some z) (hside:z.cells.length=sz∧0 < sz∧0 < by_)
  (hobj:s.h[id]?=some (.cells e cs)) (hcs:len * sz≤cs.length) (hn:0 < n) (hroom:cap < len+n) (hb:(len+n) * by_≤140737488355328)
  (rest:∀ cap',len+n≤cap'→cap'≤maxLen→∃ s',({ s with h:=s.h++[.cells e (cs.take (len * sz)++repC (cap' - len) z.cells)] }:St).put o.dst (.arr s.h.length 0 (len+n) cap')=some s'∧K s'):StepW P o s K:=by
 refine ⟨by simp [ho],fun c w a hs=>?_⟩
 obtain ⟨u,hu,hr,_⟩:=hs.fr k1 _ h1
 obtain ⟨v,hv,hrv,_⟩:=hs.fr k2 _ h2
 have hv':=hrv.v_inv
 subst hv'
 have e1:a.eval (.tmp k1)=u:=by simp [Act.eval,hu]
 have e2:a.eval (.tmp k2)=.int .i64 (n:Nat):=by simp [Act.eval,hv]
 have hrun:(execOp a.eval o).run P w=((Builtin.append_ #[t,tn] o.type #[u,.int .i64 (n:Nat)]).run P w).andThen fun v w=>.ok (.value v) w:=by
  unfold execOp
  simp only [ho,resolve,hc,ha,hty,invoke,builtin,Sem.run_bind,Sem.run_pure,Result.andThen_ok,List.map_toArray,List.map_cons,List.map_nil,e1,e2]
 obtain ⟨v',w',c',cap',r1,r2,r3,r4,r5,r6⟩:=appZArr_sound (ty:=o.type) (k:=.i64) hs hsl htn hap hz hside.1 hside.2.1 hside.2.2 hobj hcs hr hn hroom hb
 obtain ⟨s',p1,p2⟩:=rest cap' r3 r4
 exact ⟨_,_,_,s',by rw [hrun,r1];rfl,r2,r5.put p1 r6 (.none rfl),p2⟩
theorem jc7 {o : Oper} {cl : Call} {K : St → Prop} {f : FuncId} {fn : Func} {k1 k2 tS tR e e1 e2 id1 off1 l1 c1 id2 off2 l2 c2 sz : Nat} {ag : Bool} {cs1 cs2 : List AV} (ho : o.op = .call cl) (hc : zc9 s cl.callee = some (f, [], [])) (ha : cl.args = #[.tmp k1, .tmp k2])
  (hf : P.funcs[f]? = some fn) (hname : (fn.name == "runtime.NumGoroutine") = false) (hb : fn.body.isNone = true) (hn' : Extern.findNext fn = none) (he : Extern.find fn = some (Extern.SlicesOverlaps.overlaps #[tS, tS] #[tR]))
  (hsl:slI P tS=some (e,ag,sz)) (h1:getF s.fr k1=some (.arr id1 off1 l1 c1)) (h2:getF s.fr k2=some (.arr id2 off2 l2 c2)) (hne:id1≠id2) (ho1:s.h[id1]?=some (.cells e1 cs1)) (ho2:s.h[id2]?=some (.cells e2 cs2)) (hz:cs2≠[])
  (hK:∃ s',s.put o.dst (.v (.bool false))=some s'∧K s'):StepW P o s K:=by
 refine ⟨by simp [ho],fun c w a hs=>?_⟩
 obtain ⟨fo,v1,v2,hfo,hev,rl1,rl2⟩:=qp9 hs hc
 have q1:v1.toList=[]:=List.eq_nil_of_length_eq_zero (by rw [← rl1.length];rfl)
 have q2:v2.toList=[]:=List.eq_nil_of_length_eq_zero (by rw [← rl2.length];rfl)
 have hv1:v1=#[]:=by apply Array.ext';simpa using q1
 have hv2:v2=#[]:=by apply Array.ext';simpa using q2
 obtain ⟨ht,hty⟩:=xf9 hsl
 obtain ⟨u1,hu1,hr1,_⟩:=hs.fr k1 _ h1
 obtain ⟨u2,hu2,hr2,_⟩:=hs.fr k2 _ h2
 have e1':a.eval (.tmp k1)=u1:=by simp [Act.eval,hu1]
 have e2':a.eval (.tmp k2)=u2:=by simp [Act.eval,hu2]
 have hid1:id1 < c.no:=by rw [hs.h.no];exact (List.getElem?_eq_some_iff.1 ho1).1
 have hid2:id2 < c.no:=by rw [hs.h.no];exact (List.getElem?_eq_some_iff.1 ho2).1
 obtain ⟨_,_,_,cur1,hcur1,hl1,_⟩:=hs.h.obj id1 _ ho1
 obtain ⟨_,_,_,cur2,hcur2,hl2,_⟩:=hs.h.obj id2 _ ho2
 have hbne:=hs.h.inj id1 id2 hid1 hid2 hne
 have hk2:cur2.size≠0:=by rw [← hl2];exact fun h=>hz (List.eq_nil_of_length_eq_zero h)
 obtain ⟨s',hp,hk⟩:=hK
 cases hr1 with
 | arr _ hlen1 hmax1 =>
 cases hr2 with
 | arr _ hlen2 hmax2 =>
 have hrun:=Lib.run_overlaps_apart (P:=P) w tS tR e ht sz (fun w=>zb9 w hty) ⟨c.ob id1,off1,none⟩ ⟨c.ob id2,off2,none⟩ l1 c1 l2 c2 hbne e1 e2 cur1.size cur2.size (by simp [World.shape?,hcur1]) (by simp [World.shape?,hcur2]) hk2 (by simp [World.frozen?,hcur1]) (by simp [World.frozen?,hcur1])
 refine ⟨.bool false,w,c,s',?_,Ext.refl c w,hs.put hp (.v _) (.none rfl),hk⟩
 unfold execOp
 simp only [ho,resolve,hfo,Sem.run_bind,hev,Deferred.ofValue,Sem.run_pure,Result.andThen_ok,invoke,ha,hv1,hv2]
 rw [show (#[]++Array.map a.eval #[Operand.tmp k1,Operand.tmp k2]++#[]:Array Value)=#[.slice (some ⟨c.ob id1,off1,none⟩) l1 c1,.slice (some ⟨c.ob id2,off2,none⟩) l2 c2] by simp [e1',e2']]
 rw [run_callFunc_extern hf hname hb hn' he,hrun]
 rfl
variable {F : Fence} {n : Nat}
theorem seqG_wp {ops : Array Oper} (hF : Good F) : ∀ (fuel k : Nat) (listed : Array Bool) (s : St) (c : Ctx) (w : World) (a : Act) (K' : St → Prop), k + fuel = ops.size → seqB ops fuel k listed = true → SimSt P c w s a →
  runG P ops.toList (ops.toList.drop k) s K'→wpAnyIn F n P .any ops (fun e a' w'=>∃ s' c',zw9 K' (fun _ _=>False) e s'∧SimSt P c' w' s' a'∧Ext c w c' w') fuel listed a w
 | 0,k,listed,s,c,w,a,K',hk,hB,hs,h=>by
  simp only [seqB,List.isEmpty_iff] at hB
  have:ops.toList.drop k=[]:=by rw [List.drop_eq_nil_iff];simp;omega
  rw [this] at h
  exact ⟨hB,s,c,h,hs,Ext.refl c w⟩
 | fuel+1,k,listed,s,c,w,a,K',hk,hB,hs,h=>by
  simp only [seqB,Bool.and_eq_true,beq_iff_eq] at hB
  obtain ⟨hr,hB'⟩:=hB
  refine ⟨fun h0=>(by rw [hr] at h0;cases h0),fun i hi=>?_⟩
  rw [hr] at hi
  simp at hi
  subst hi
  have hlt:i < ops.toList.length:=by simp;omega
  rw [List.drop_eq_getElem_cons hlt] at h
  have ho:ops[i]?=some (ops.toList[i]):=by rw [← Array.getElem?_toList];exact List.getElem?_eq_getElem hlt
  unfold wpOpIn
  simp only [ho]
  refine vt6 (K':=fun s'=>runG P ops.toList (ops.toList.drop (i+1)) s' K') hF hs ho h ?_
  intro s' a' c' w' hK hs' he
  refine wr9 ?_ _ _ _ _ (seqG_wp hF fuel (i+1) _ s' c' w' a' K' (by omega) hB' hs' hK)
  rintro e a2 w2 ⟨s2,c2,q,hs2,he2⟩
  exact ⟨s2,c2,q,hs2,he.trans he2⟩
theorem W_drawSG {top : Bool} {kf : Nat} {id : Nat} {ops : Array Oper} {Q : Exit → St → Prop} {s : St} (pre : Nat) (hm : P.follows .mixedOrders = true) (hd : drawS ops pre = true)
  (h:runD P ops.toList (ops.toList.take pre) s fun s'=>runG P ops.toList (ops.toList.drop pre) s' fun s2=>Q .normal s2):Wt top kf P (.region id ops true) Q s:=by
 intro F n c w a hF hs
 simp only [drawS,Bool.and_eq_true,decide_eq_true_eq] at hd
 obtain ⟨⟨hle,hlex⟩,hseq⟩:=hd
 refine wpIn_region_any hm ?_
 let R:St→Prop:=fun s=>∃ t,Eqv s t∧runG P ops.toList (ops.toList.drop pre) t fun s2=>Q .normal s2
 have hR:Closed R:=fun s t h ⟨u,h1,h2⟩=>⟨u,h.symm.trans h1,h2⟩
 have hlen:(ops.toList.take pre).length=pre:=by rw [List.length_take];simp;omega
 have h9:∀ (m k:Nat) (listed:Array Bool),lexS ops (preL ops pre) m k listed=true→∀ j o,j < m→ops[k+j]?=some o→dcls o≠9:=by
  intro m
  induction m with
  | zero=>intro k listed _ j o hj;omega
  | succ m ih =>
   intro k listed hx j o hj ho
   simp only [lexS,Bool.and_eq_true] at hx
   cases j with
   | zero =>
    have h1:=hx.1.2
    rw [Nat.add_zero] at ho
    rw [ho] at h1
    simpa using h1
   | succ j=>exact ih (k+1) _ hx.2 j o (by omega) (by rw [show k+1+j=k+(j+1) by omega];exact ho)
 have hrunE:runE P ops.toList (ops.toList.take pre) s R:=by
  refine zl8 ?_ ?_
  ·intro o ho
   obtain ⟨j,hj,rfl⟩:=List.mem_iff_getElem.1 ho
   refine h9 pre 0 _ hlex j _ (by omega) ?_
   rw [Nat.zero_add,← Array.getElem?_toList,List.getElem_take]
   exact List.getElem?_eq_getElem _
  ·have mono:∀ (l:List Oper) (s:St) {K K':St→Prop},(∀ s,K s→K' s)→runD P ops.toList l s K→runD P ops.toList l s K':=by
    intro l
    induction l with
    | nil=>exact fun s _ _ hk h=>hk s h
    | cons o l ih =>
     intro s K K' hk h
     simp only [runD,wr7] at h ⊢
     split
     ·rename_i hg
      rw [hg] at h
      rcases h with ⟨s',h1,h2⟩ | ⟨h1,h2⟩
      ·exact .inl ⟨s',h1,ih s' hk h2⟩
      ·refine .inr ⟨h1, ?_⟩
       unfold yk6 at *
       split
       ·rename_i c ho
        rw [ho] at h2
        dsimp only at h2
        split
        ·rename_i hc
         rw [hc] at h2
         obtain ⟨xs,r,s',e1,e2,e3,e4,e5,e6,e7⟩:=h2
         exact ⟨xs,r,s',e1,e2,e3,e4,e5,e6,ih s' hk e7⟩
        ·rename_i hc;rw [hc] at h2;exact h2
       ·rename_i hno;split at h2 <;> first | exact absurd (by assumption) (hno _) | exact h2
     ·rename_i hg;rw [hg] at h;obtain ⟨s',h1,h2⟩:=h;exact ⟨s',h1,ih s' hk h2⟩
     ·rename_i hg;rw [hg] at h;exact h
   exact mono _ s (fun s' h=>⟨s',Eqv.refl s',h⟩) h
 have hany:=vf7 (P:=P) hR (fun j hj=>by
   rw [Array.getD_eq_getD_getElem?,Array.getElem?_eq_none (by rw [un7];exact hj)];rfl) (ops.toList.take pre) 0 (Array.replicate ops.size false) s (fun j hj=>by
   rw [Nat.zero_add,List.getElem?_take,if_pos (by omega),Array.getElem?_toList]) (fun j oj hj hl=>by
   exfalso
   rcases Nat.lt_or_ge j ops.size with h' | h' <;> simp [h'] at hl) (by rw [hlen];exact hlex) hrunE
 rw [hlen] at hany
 have:=anyS_wp (n:=n) (c0:=c) (w0:=w) (Qw:=fun e a' w'=>∃ s' c',Q e s'∧SimSt P c' w' s' a'∧ExtK kf c w c' w') hF.1 (ops.size - pre) (R:=R) (L:=preL ops pre) ?_ pre _ s c w.drew a (xl9 c w) hs.drew hany
 ·have e1:pre+(ops.size - pre)=ops.size:=by omega
  rw [e1] at this
  exact this
 ·rintro s1 c1 w1 a1 he1 hs1 ⟨t,h1,h2⟩
  refine wr9 ?_ _ _ _ _ (seqG_wp hF.1 (ops.size - pre) pre (preL ops pre) t c1 w1 a1 _ (by omega) hseq (hs1.eqv h1) h2)
  rintro e a2 w2 ⟨s2,c2,q,hs2,he2⟩
  cases e with
  | normal=>exact ⟨s2,c2,q,hs2,(he1.trans he2).toK hF.2.2⟩
  | _=>exact q.elim
theorem W_rsGK {top : Bool} {kf : Nat} {id : Nat} {ops : Array Oper} {y : Code} {Q : Exit → St → Prop} {s : St} (pre : Nat) (ks : List Nat) (hm : P.follows .mixedOrders = true) (hd : drawS ops pre = true)
  (h:runD P ops.toList (ops.toList.take pre) s fun s'=>runG P ops.toList (ops.toList.drop pre) s' fun s2=>Wt top kf P y Q (zf9 ks s2)):Wt top kf P (.seq (.region id ops true) y) Q s :=
 yh9 (jr9 ks (W_drawSG pre hm hd h))
end
end Go.AM
namespace Go.AM
open Go.RowKit
set_option linter.unusedSimpArgs false
section
variable {P : Program}
variable {F : Fence} {n : Nat} {s : St} {a : Act} {o : Oper} {K : Act → World → Prop} {Q : Exit → Act → World → Prop} {c : Ctx} {w : World}
end
section
variable {P : Program} {s : St}
end
end Go.AM
