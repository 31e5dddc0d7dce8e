/- The abstract machine: further regions, calls and rules. -/
import Derived.ChangeKeysEq
import Derived.Deep.CondSized
import Derived.Laws.Externs
import Derived.Laws.StructEq
import Derived.Lib.MakeNoZero
import Derived.Test.YtlhaljblcimnbaaGreatAmC
set_option linter.unusedVariables false
set_option linter.unusedSimpArgs false
namespace Go.AM
section
variable {P : Program}
variable {F : Fence} {n : Nat}
end
end Go.AM
namespace Go.AM
section
variable {P : Program} {c c' : Ctx} {w : World}
theorem RepL.split {xs:List AV} {y:AV} {ys:List AV} {us:List Value} (h:RepL P c w (xs++y :: ys) us):∃ us1 v us2,us=us1++v :: us2∧RepL P c w xs us1∧Rep c w y v∧RepL P c w ys us2:=by
 induction xs generalizing us with
 | nil =>
  cases h with
  | cons h1 h2 h3=>exact ⟨[],_,_,rfl,.nil,h1,h3⟩
 | cons x xs ih =>
  cases h with
  | cons h1 h2 h3 =>
   obtain ⟨us1,v,us2,rfl,k1,k2,k3⟩:=ih h3
   exact ⟨_ :: us1,v,us2,rfl,.cons h1 h2 k1,k2,k3⟩
end
end Go.AM
namespace Go.AM
section
variable {P : Program} {c c' : Ctx} {w : World}
end
end Go.AM
namespace Go.AM
section
variable {P : Program}
def retF (P:Program) (rs:List ResultVar) (Q:AV→List AObj→Prop) (e:Exit) (s:St):Prop:=(e=.normal∨e=.ret)∧∃ x,resA P s rs=some x∧Q x s.h
theorem wv6 {f : FuncId} {fn : Func} {code : Code} {args : List AV} {h : List AObj} {Q : AV → List AObj → Prop} (hf : P.funcs[f]? = some fn) (hb : fn.body = some code) (hn : (fn.name == "runtime.NumGoroutine") = false)
  (hlen:args.length≤fn.ntmps) {rs:List ResultVar} (hrs:fn.results.toList=rs) (hW:Wt true h.length P code (retF P rs Q) ⟨fn.ntmps,numF 0 args,h⟩):wf9 P f args h Q:=by
 subst hrs
 refine ⟨⟨fn,hf,hn,by rw [hb];rfl⟩,?_⟩
 intro F n c w vals hF hro hbase hdef hh hargs
 have hl:args.length=vals.length:=hargs.length
 refine callsIn_of_wp_marks hf hb (hF.1 f) ?_ hro
 have hs0:SimSt P c w ⟨fn.ntmps,numF 0 args,h⟩ { tmps:=vals.toArray++Array.replicate (fn.ntmps - vals.toArray.size) undef,defers:=[] }:=by
  refine ⟨by simp;omega,hbase,?_,hh,⟨[],rfl,.nil,by simp⟩⟩
  intro i x hx
  obtain ⟨h1,h2⟩:=kp8 args 0 i x hx
  obtain ⟨u,hu,hr,ho⟩:=hargs.get (by simpa using h2)
  have hi:i < vals.length:=(List.getElem?_eq_some_iff.1 hu).1
  exact ⟨u,by rw [Array.getElem?_append_left (by simpa using hi)];simpa using hu,hr,ho⟩
 refine wpIn_mono (hW F n c w _ (hF.top hro (Nat.le_of_eq hh.no.symm) true) hs0) ?_
 rintro e a' w' ⟨s',c',⟨he,x,hres,hq⟩,hs',hextK⟩
 have hext:=hextK.toExt hh.no
 have key:LeavesInM F n P fn a'.tmps (fun e w'=>∃ u c' r h',e=.returned u∧Q r h'∧Ext c w c' w'∧HSim P c' w' h'∧Rep c' w' r u∧Own P c' w' r u) a'.defers .returning w':=by
  obtain ⟨rs,hd,hnd,hrs⟩:=hs'.dfr
  obtain ⟨w2,hsh,hleave⟩:=xn7 (F:=F) (n:=n) (fn:=fn) (tmps:=a'.tmps) (R:=fun e w'=>∃ u c' r h',e=.returned u∧Q r h'∧Ext c w c' w'∧HSim P c' w' h'∧Rep c' w' r u∧Own P c' w' r u) rs w' hnd hrs
  rw [hd]
  refine hleave ?_
  have hs2:=hs'.recell hsh
  obtain ⟨v,hrun,hrep,hown⟩:=wh8 hs2 hres
  have hext2 : Ext c w c' w2 := {
   base:=hext.base,os:=hsh.os.trans hext.os,tape:=hsh.tape.trans hext.tape,output:=hsh.output.trans hext.output,size:=by rw [hsh.size];exact hext.size
   below:=fun b hb=>(hsh.below b (by rw [hext.base];exact hb)).trans (hext.below b hb)
   cell:=fun ad u hp hc=>hsh.cell (hext.cell ad u hp hc)
   pm:=hext.pm,pmb:=hext.pmb,owb:=hext.owb,no:=hext.no,ob:=hext.ob
   dfr:=fun b hb=>by rw [hsh.below b (by rw [hext.base];exact hdef b _ hb)];exact hext.dfr b hb }
  exact ⟨v,hrun,v,c',x,s'.h,rfl,hq,hext2,hs2.h,hrep,hown⟩
 rcases he with rfl | rfl
 ·exact key
 ·exact key
end
end Go.AM
namespace Go.AM
section
variable {P : Program} {F : Fence} {n : Nat} {o : Oper} {a : Act} {w : World}
end
def Vw (P:Program) (h:List AObj) (x x1:AV):Prop :=
 x1 = x.weak ∨ ∃ id off len cap ty cs ag sz, x = .arr id off len cap ∧ h[id]? = some (.cells ty cs) ∧ tyI P ty = some (ag, sz) ∧ 0 < sz ∧ (ag = true ∨ sz = 1) ∧ off + len * sz ≤ cs.length ∧ AV.koneL (cs.take (off + len * sz)) = true ∧ AV.rfL (cs.take (off + len * sz)) = true ∧
  x1=.lst .any sz (chunk ag sz len ((AV.weakL (cs.take (off+len * sz))).drop off))
section
variable {P : Program}
end
end Go.AM
namespace Go.AM
section
variable {P : Program}
end
end Go.AM
namespace Go.AM
inductive VwD (P : Program) (h : List AObj) : AV → AV → Prop
 | base {x x1:AV} (hv:Vw P h x x1):VwD P h x x1
 | row {id len cap sz : Nat} {ag : Bool} {ty : TypeId} {cs ys : List AV} (zs : Nat → AV) (hid : h[id]? = some (.cells ty cs)) (hsz : 0 < sz) (hag : ag = true ∨ sz = 1) (hle : len * sz ≤ cs.length) (hyl : ys.length = len * sz)
   (hk:AV.koneL ys=true) (hrf:AV.rfL ys=true) (hz:∀ (k:Nat) (y:AV),ys[k]?=some y→cs[k]?=some (zs k)) (hv:∀ (k:Nat) (y:AV),ys[k]?=some y→VwD P h (zs k) y) :
   VwD P h (.arr id 0 len cap) (.lst .any sz (chunk ag sz len ys))
section
variable {P : Program}
end
end Go.AM
namespace Go.AM
section
variable {P : Program}
end
end Go.AM
namespace Go.AM
section
variable {P : Program}
def AnyT (kf:Nat) (P:Program) (ops:Array Oper) (Q:Exit→St→Prop) (fuel:Nat) (listed:Array Bool) (s:St):Prop :=
 ∀ (F : Fence) (n : Nat) (c0 : Ctx) (w0 : World) (c : Ctx) (w : World) (a : Act), Good F → F.round = none → kf ≤ c0.no → Ext c0 w0 c w → SimSt P c w s a →
  wpAnyIn F n P .any ops (fun e a' w'=>e=.normal∧∃ s' c',Q e s'∧SimSt P c' w' s' a'∧ExtK kf c0 w0 c' w') fuel listed a w
theorem W_anyT {kf:Nat} {id:Nat} {ops:Array Oper} {Q:Exit→St→Prop} {s:St} (hm:P.follows .mixedOrders=true) (h:AnyT kf P ops Q ops.size (Array.replicate ops.size false) s):Wt true kf P (.region id ops true) Q s:=by
 intro F n c w a hF hs
 refine wpIn_region_any hm ?_
 exact vb9 (fun e a w h=>h.2) _ _ _ _ (h F n c w c w.drew a hF.1 (hF.2.1 rfl) hF.2.2 (wl9 c w) hs.drew)
def Gives (P:Program) (ops:Array Oper) (o:Oper) (s:St) (x:AV):Prop:=∀ (c:Ctx) (w:World) (a:Act),SimSt P c w s a→∃ u,YieldsFenced P ops o u a∧Rep c w x u∧Own P c w x u
def takeB (ops:Array Oper) (listed:Array Bool) (i:Nat):Bool:=Region.noSelect ops&&Region.free .any ops listed i&&(Region.ready .any ops listed).contains i
theorem wr9 {kf fuel : Nat} {ops : Array Oper} {Q : Exit → St → Prop} {listed : Array Bool} {s s' : St} (i : Nat) {o : Oper} {x : AV} (ho : ops[i]? = some o) (hb : takeB ops listed i = true) (hg : Gives P ops o s x) (hp : s.put o.dst x = some s')
  (h:AnyT kf P ops Q fuel (listed.setIfInBounds i true) s'):AnyT kf P ops Q (fuel+1) listed s:=by
 intro F n c0 w0 c w a hF hro hk he hs
 simp only [takeB,Bool.and_eq_true] at hb
 obtain ⟨u,hy,hr,hown⟩:=hg c w a hs
 exact wpAnyIn_take hro ho hb.1.1 hb.1.2 hb.2 (fun c a w hq=>by cases hq.1) hy (h F n c0 w0 c w (a.put o.dst u) hF hro hk he (hs.put hp hr hown))
theorem qw9 {kf fuel : Nat} {ops : Array Oper} {Q : Exit → St → Prop} {listed : Array Bool} {s : St} (rs : List Nat) (hr : Region.ready .any ops listed = rs) (hne : rs ≠ [])
  (h:∀ i∈rs,∃ o,ops[i]?=some o∧xp8 P ops.toList o s fun s'=>AnyT kf P ops Q fuel (listed.setIfInBounds i true) s'):AnyT kf P ops Q (fuel+1) listed s:=by
 intro F n c0 w0 c w a hF hro hk he hs
 refine ⟨fun h0=>absurd (hr ▸ h0) hne,fun i hi=>?_⟩
 obtain ⟨o,ho,hst⟩:=h i (hr ▸ hi)
 unfold wpOpIn
 simp only [ho]
 refine qb8 (K':=fun s'=>AnyT kf P ops Q fuel (listed.setIfInBounds i true) s') hF hs ho hst ?_
 intro s' a' c' w' hK hs' he'
 exact hK F n c0 w0 c' w' a' hF hro hk (he.trans he') hs'
theorem qm9 {kf:Nat} {ops:Array Oper} {Q:Exit→St→Prop} {listed:Array Bool} {s:St} (hr:Region.ready .any ops listed=[]) (h:Q .normal s):AnyT kf P ops Q 0 listed s:=by
 intro F n c0 w0 c w a hF hro hk he hs
 exact ⟨hr,rfl,s,c,h,hs,he.toK hk⟩
theorem qj9 {ops:Array Oper} {o:Oper} {s:St} {x:AV} (k:Nat) (hop:o.op=.move (.tmp k)) (hgd:o.guard=none) (hx:getF s.fr k=some x):Gives P ops o s x:=by
 intro c w a hs
 obtain ⟨u,hu,hr,ho⟩:=hs.fr k x hx
 have hev:a.eval (.tmp k)=u:=by simp [Act.eval,hu]
 exact ⟨u,⟨.inl ⟨by simp [Region.wanted,hgd],fun w=>by simp only [execOp,hop,hev];rfl⟩,fun w=>by simp only [Oper.about,hop]⟩,hr,ho⟩
end
end Go.AM
namespace Go.AM
section
variable {P : Program}
theorem vl9 {ops:Array Oper} {o:Oper} {s:St} {xs:List AV} {i:Nat} {z:AV} (k:Nat) (hop:o.op=.extract (.tmp k) i) (hgd:o.guard=none) (hx:getF s.fr k=some (.tup xs)) (hz:xs[i]?=some z):Gives P ops o s z:=by
 intro c w a hs
 obtain ⟨u,hu,hr,ho⟩:=hs.fr k _ hx
 obtain ⟨vs,rfl,hl,hrr⟩:=vt6 hr
 have hlt:i < vs.size:=by rw [← hl];exact (List.getElem?_eq_some_iff.1 hz).1
 have e:vs.getD i undef=vs[i]:=by simp [Array.getD,hlt]
 have hev:a.eval (.tmp k)=.tuple vs:=by simp [Act.eval,hu]
 refine ⟨vs[i],⟨.inl ⟨by simp [Region.wanted,hgd],fun w2=>?_⟩,fun w=>by simp only [Oper.about,hop]⟩,e ▸ hrr i z hz,e ▸ up6 ho i z hz⟩
 simp only [execOp,hop,hev]
 simp [Instr.extract,hlt]
end
end Go.AM
namespace Go.AM
section
variable {P : Program}
theorem jm7 {F:Fence} (hF:Good F) (m:Machine):m.fenced P F:=by
 intro g _
 refine ⟨fun h=>?_,.inl (hF.1 _),fun f _=>hF.1 f,fun d hd=>?_⟩
 ·rw [hF.2.2] at h;cases h
 ·rw [hF.2.1] at hd;cases hd
theorem vg9 {F:Fence} {n:Nat} {f:FuncId} {args:Array Value} {w:World} {R:Ending→World→Prop} (hF:Good F) (h:Calls P f args w R):CallsIn F n P f args w R:=by
 refine ⟨hF.1 f,fun cs _=>?_⟩
 obtain ⟨e,w',fr,r,s,x⟩:=h cs
 refine ⟨e,w',fr,r,?_,x⟩
 cases e with
 | returned v=>exact (StepsIn.of_steps s).mono fun m _=>jm7 hF m
 | panicked ch=>exact (StepsIn.of_steps s).mono fun m _=>jm7 hF m
 | outgrown=>exact s
theorem vs4 {c : Ctx} {w : World} : ∀ {us vals : List Value}, RepL P c w (us.map .v) vals → vals = us
 | [],_,h=>by cases h;rfl
 | u :: us,_,h=>by
  cases h with
  | cons h1 h2 h3=>rw [h1.v_inv,vs4 h3]
theorem zg6 {f:FuncId} {us:List Value} {u:Value} (hc:Callable P f) (h:∀ w,Calls P f us.toArray w fun e w'=>e=.returned u∧∃ n:Nat,w'={ w with drawn:=w.drawn+n }):Sound P f (us.map .v) (.v u):=by
 refine ⟨hc,fun F n c w vals T hF hro hT hb ra=>?_⟩
 rw [vs4 ra]
 refine (vg9 hF (h w)).mono ?_
 rintro e w' ⟨rfl,k,rfl⟩
 exact ⟨u,c,rfl,⟨rfl,rfl,rfl,rfl,rfl,rfl,Nat.le_refl _,fun _ _=>rfl,fun _ _=>rfl,fun _ _=>rfl⟩,.v u,.none rfl⟩
end
end Go.AM
namespace Go.AM
section
variable {P : Program}
def kj6 (P : Program) (o : Oper) (s : St) (K : St → Prop) : Prop := (∀ c, o.op ≠ .defer c) ∧ ∀ (c : Ctx) (w : World) (a : Act), SimSt P c w s a →
 ∃ u w' c' s',(execOp a.eval o).run P w=.ok (.value u) w'∧Ext c w c' w'∧SimSt P c' w' s' (a.put o.dst u)∧K s'
def stepG (P:Program) (ops:List Oper) (o:Oper) (s:St) (K:St→Prop):Prop:=xp8 P ops o s K∨(o.guard=none∧kj6 P o s K)
def runG (P : Program) (ops : List Oper) : List Oper → St → (St → Prop) → Prop
 | [],s,K=>K s
 | o :: l,s,K=>stepG P ops o s fun s'=>runG P ops l s' K
variable {F : Fence} {n : Nat} {s : St} {a : Act} {o : Oper} {K : Act → World → Prop} {Q : Exit → Act → World → Prop} {c : Ctx} {w : World}
theorem qb5 {ops : Array Oper} {i : Nat} {K' : St → Prop} (hF : Good F) (hs : SimSt P c w s a) (ho : ops[i]? = some o) (h : stepG P ops.toList o s K')
  (hk:∀ s' a' c' w',K' s'→SimSt P c' w' s' a'→Ext c w c' w'→K a' w') :
  if Region.wanted o (yielded ops a.tmps) then o.wpIn F n P a w K Q else (∀ f,o.about P w a.eval=some f→F.fn f)∧K (a.put o.dst undef) w:=by
 rcases h with h | ⟨hg,hnd,h⟩
 ·exact qb8 hF hs ho h hk
 ·rw [if_pos (by simp [Region.wanted,hg])]
  refine ⟨fun f _=>hF.1 f,?_⟩
  obtain ⟨u,w',c',s',h1,h2,h3,h4⟩:=h c w a hs
  rw [Oper.semAt_eq _ _ _ hnd,h1]
  exact hk _ _ _ _ h4 h3 h2
theorem runG_wp {ops : Array Oper} (hF : Good F) : ∀ (m k : Nat) (s : St) (c : Ctx) (w : World) (a : Act) (K' : St → Prop), ops.size = k + m → SimSt P c w s a → runG P ops.toList (ops.toList.drop k) s K' →
  wpOpsIn F n P ops (fun e a' w'=>∃ s' c',yj9 K' (fun _ _=>False) e s'∧SimSt P c' w' s' a'∧Ext c w c' w') (List.range' k m) a w:=by
 intro m
 induction m with
 | zero =>
  intro k s c w a K' hk hs h
  have:ops.toList.drop k=[]:=by rw [List.drop_eq_nil_iff];simp;omega
  rw [this] at h
  exact ⟨s,c,h,hs,Ext.refl c w⟩
 | succ m ih =>
  intro k s c w a K' hk hs h
  have hlt:k < ops.toList.length:=by simp;omega
  rw [List.drop_eq_getElem_cons hlt] at h
  have ho:ops[k]?=some (ops.toList[k]):=by rw [← Array.getElem?_toList];exact List.getElem?_eq_getElem hlt
  simp only [List.range'_succ,wpOpsIn,ho]
  refine qb5 (K':=fun s'=>runG P ops.toList (ops.toList.drop (k+1)) s' K') hF hs ho h ?_
  intro s' a' c' w' hK hs' he
  have:=ih (k+1) s' c' w' a' K' (by omega) hs' hK
  refine xf8 ?_ _ _ _ this
  rintro e a2 w2 ⟨s2,c2,q,hs2,he2⟩
  exact ⟨s2,c2,q,hs2,he.trans he2⟩
theorem xm5 {top:Bool} {kf:Nat} {id:Nat} {ops:Array Oper} {Q:Exit→St→Prop} {s:St} (h:runG P ops.toList ops.toList s (fun s'=>Q .normal s')):Wt top kf P (.region id ops false) Q s:=by
 intro F n c w a hF hs
 refine wpIn_region ?_
 rw [List.range_eq_range']
 refine xf8 ?_ _ _ _ (runG_wp hF.1 ops.size 0 s c w a _ (by omega) hs (by simpa using h))
 rintro e a2 w2 ⟨s2,c2,q,hs2,he2⟩
 cases e with
 | normal=>exact ⟨s2,c2,q,hs2,he2.toK hF.2.2⟩
 | _=>exact q.elim
theorem W_rGK {top : Bool} {kf : Nat} {id : Nat} {ops : Array Oper} {y : Code} {Q : Exit → St → Prop} {s : St} (ks : List Nat) (h : runG P ops.toList ops.toList s fun s3 => Wt top kf P y Q (js7 ks s3)) :
  Wt top kf P (.seq (.region id ops false) y) Q s:=yl9 (wb9 ks (xm5 h))
theorem ym7 {ops : List Oper} {K : St → Prop} : ∀ (m : Nat) (l : List Oper) (s : St), runA P ops (l.take m) s (fun s1 => runG P ops (l.drop m) s1 K) → runG P ops l s K
 | 0,l,s,h=>by simpa [runA] using h
 | m+1,[],s,h=>by simpa [runA] using h
 | m+1,o :: l,s,h=>by
  simp only [List.take_succ_cons,List.drop_succ_cons,runA] at h
  refine .inl ?_
  refine xl6 ?_ h
  intro s1 h1
  exact ym7 m l s1 h1
theorem jh6 {ops:List Oper} {K:St→Prop} {o:Oper} {l:List Oper} {s:St} (hg:o.guard=none) (h:kj6 P o s fun s'=>runG P ops l s' K):runG P ops (o :: l) s K:=.inr ⟨hg,h⟩
theorem wc6 : ∀ (n t : Nat) (acc : Array Value), (∀ j, j < acc.size → (acc.getD j undef).oneCell' = true) → ∀ j, j < acc.size + n → ((Extern.BytealgMakeNoZero.digits n t acc).getD j undef).oneCell' = true
 | 0,t,acc,h,j,hj=>by rw [Extern.BytealgMakeNoZero.digits];exact h j (by omega)
 | n+1,t,acc,h,j,hj=>by
  rw [Extern.BytealgMakeNoZero.digits]
  refine wc6 n _ _ (fun i hi=>?_) j (by simp;omega)
  simp only [Array.size_push] at hi
  rw [Array.getD_eq_getD_getElem?,Array.getElem?_push]
  split
  ·rfl
  ·rw [← Array.getD_eq_getD_getElem?]
   exact h i (by omega)
theorem kq7 (w : World) (ps : Array TypeId) (t e : TypeId) (ht : P.underlying t = some (.slice e)) (n : Nat) (hn : n ≤ 281474976710656) :
  ∃ cs : Array Value, (Extern.BytealgMakeNoZero.makeNoZero ps #[t] #[.int .i64 n]).run P w = .ok (.slice (some ⟨w.heap.size, 0, none⟩) n cs.size) (w.drew.drew.alloc (.cells cs e)) ∧ n ≤ cs.size ∧ (n ≤ maxLen → cs.size ≤ maxLen) ∧
   ∀ j,j < cs.size→(cs.getD j undef).oneCell'=true:=by
 have h1:¬ (n:Int) < 0:=by omega
 have h2:¬ (281474976710656:Int) < (n:Int):=by omega
 have key:∃ tp:Nat,(Extern.BytealgMakeNoZero.makeNoZero ps #[t] #[.int .i64 n]).run P w=.ok (.slice (some ⟨w.heap.size,0,none⟩) n (grownCap w n 0 e)) (w.drew.drew.alloc (.cells (Extern.BytealgMakeNoZero.digits (grownCap w n 0 e) tp #[]) e)):=by
  apply Exists.intro
  show (underlying t >>= _:Sem Value).run P w=_
  simp [run_underlying ht,h1,h2,Question.forced,newRow,grownCap]
  rfl
 obtain ⟨tp,key⟩:=key
 refine ⟨Extern.BytealgMakeNoZero.digits (grownCap w n 0 e) tp #[],?_,?_,?_,?_⟩
 ·rw [key,Lib.size_digits]
  simp
 ·rw [Lib.size_digits]
  simpa using grownCap_ge w n 0 e
 ·intro hm
  rw [Lib.size_digits]
  simpa using grownCap_le_maxLen w n 0 e hm
 ·intro j hj
  rw [Lib.size_digits] at hj
  exact wc6 _ _ _ (fun i hi=>by simp at hi) j hj
theorem uh7 {o : Oper} {cl : Call} {s : St} {K : St → Prop} {f : FuncId} {fn : Func} {ps : Array TypeId} {k n : Nat} {t e : TypeId} (ho : o.op = .call cl) (hc : zt9 s cl.callee = some (f, [], [])) (ha : cl.args = #[.tmp k]) (hf : P.funcs[f]? = some fn)
  (hname : (fn.name == "runtime.NumGoroutine") = false) (hb : fn.body.isNone = true) (hn' : Extern.findNext fn = none) (he : Extern.find fn = some (Extern.BytealgMakeNoZero.makeNoZero ps #[t])) (ht : P.underlying t = some (.slice e))
  (hx:getF s.fr k=some (.v (.int .i64 (n:Nat)))) (hn:n≤100000000)
  (hK:∀ cap,n≤cap→cap≤maxLen→∃ s',(⟨s.n,s.fr,s.h++[.cells e (List.replicate cap .any)]⟩:St).put o.dst (.arr s.h.length 0 n cap)=some s'∧K s'):kj6 P o s K:=by
 refine ⟨by simp [ho],fun c w a hs=>?_⟩
 obtain ⟨fo,v1,v2,hfo,hev,rl1,rl2⟩:=yb8 hs hc
 have e1:v1.toList=[]:=List.eq_nil_of_length_eq_zero (by rw [← rl1.length];rfl)
 have e2:v2.toList=[]:=List.eq_nil_of_length_eq_zero (by rw [← rl2.length];rfl)
 have hv1:v1=#[]:=by apply Array.ext';simpa using e1
 have hv2:v2=#[]:=by apply Array.ext';simpa using e2
 obtain ⟨u,hu,hr,_⟩:=hs.fr k _ hx
 have hu2:=hr.v_inv
 subst hu2
 have hak:a.eval (.tmp k)=.int .i64 (n:Nat):=by simp [Act.eval,hu]
 obtain ⟨cs,hrun,hle,hmx,hone⟩:=kq7 (P:=P) w ps t e ht n (by omega)
 have hmx':=hmx (by simp only [maxLen];omega)
 obtain ⟨s',hp,hk⟩:=hK cs.size hle hmx'
 have hs2:SimSt P c w.drew.drew s a:=hs.drew.drew
 have hs3:=hs2.obj (ty:=e) (cs:=List.replicate cs.size .any) (cur:=cs) (by simp) (fun j y hj=>by
  have:=List.getElem?_replicate (n:=cs.size) (a:=AV.any) (i:=j)
  rw [this] at hj
  split at hj
  ·cases hj
   rename_i hj2
   exact ⟨.any _,.none rfl,hone j hj2⟩
  ·cases hj)
 refine ⟨.slice (some ⟨w.heap.size,0,none⟩) n cs.size,_,_,s',?_,(wl9 c w).trans ((wl9 c w.drew).trans (jl9 c w.drew.drew (.cells cs e) hs2.base)),hs3.put hp ?_ (.none rfl),hk⟩
 ·unfold execOp
  simp only [ho,resolve,hfo,Sem.run_bind,hev,Deferred.ofValue,Sem.run_pure,Result.andThen_ok,invoke,ha,hv1,hv2]
  rw [show (#[]++Array.map a.eval #[Operand.tmp k]++#[]:Array Value)=#[.int .i64 (n:Nat)] by simp [hak]]
  rw [run_callFunc_extern hf hname hb hn' he,hrun]
  rfl
 ·have h1:s.h.length < (c.newO w.heap.size).no:=by simp only [Ctx.newO];rw [hs.h.no];omega
  have h2:(c.newO w.heap.size).ob s.h.length=w.heap.size:=by simp only [Ctx.newO];rw [if_pos hs.h.no.symm]
  have:=Rep.arr (c:=c.newO w.heap.size) (w:=w.drew.drew.alloc (.cells cs e)) (off:=0) (len:=n) (cap:=cs.size) h1 hle hmx'
  rw [h2] at this
  exact this
theorem jw6 {o : Oper} {s : St} {K : St → Prop} {t e sz id off len cap k1 k2 k3 n m : Nat} {ag : Bool} (ho : o.op = .slice t (.tmp k1) none (some (.tmp k2)) (some (.tmp k3))) (hsl : slI P t = some (e, ag, sz))
  (h1:getF s.fr k1=some (.arr id off len cap)) (h2:getF s.fr k2=some (.v (.int .i64 (n:Nat)))) (h3:getF s.fr k3=some (.v (.int .i64 (m:Nat)))) (hm:m≤cap) (hn:n≤m) (hm0:0 < m)
  (hK:∃ s',s.put o.dst (.arr id off n m)=some s'∧K s'):kj6 P o s K:=by
 refine ⟨by simp [ho],fun c w a hs=>?_⟩
 obtain ⟨s',hp,hk⟩:=hK
 obtain ⟨u,hu,hr,_⟩:=hs.fr k1 _ h1
 obtain ⟨u2,hu2,hr2,_⟩:=hs.fr k2 _ h2
 obtain ⟨u3,hu3,hr3,_⟩:=hs.fr k3 _ h3
 have q2:=hr2.v_inv
 have q3:=hr3.v_inv
 subst q2 q3
 have e1:a.eval (.tmp k2)=.int .i64 (n:Nat):=by simp [Act.eval,hu2]
 have e2:a.eval (.tmp k3)=.int .i64 (m:Nat):=by simp [Act.eval,hu3]
 have e0:a.eval (.tmp k1)=u:=by simp [Act.eval,hu]
 obtain ⟨hu',hty⟩:=wp9 hsl
 cases hr with
 | arr hid hlen hmax =>
  refine ⟨.slice (some ⟨c.ob id,off,none⟩) n m,w,c,s',?_,Ext.refl c w,hs.put hp (.arr hid hn (by omega)) (.none rfl),hk⟩
  have hsz:=xn9 (P:=P) (w:=w) hty
  simp only [execOp,ho,Option.map_none,Option.map_some,e0,e1,e2]
  have g1:¬ (m:Int)≤0:=by omega
  have g2:max (m:Int) 0=m:=by omega
  simp [Instr.sliceAt,run_underlying hu',Instr.slice,hsz,Instr.sliceBounds,Instr.sliceBound,asIntOf,Sem.run,hm,hn,g1,g2,Addr.add]
theorem qd6 {t t2 ty e sz id off len cap m : Nat} {ag : Bool} {yc cs : List AV} {u v : Value} {s : St} (hs : SimSt P c w s a) (hsl : slI P t = some (e, ag, sz))
  (hsz:0 < sz) (hobj:s.h[id]?=some (.cells e cs)) (hcs:off+len * sz≤cs.length) (rx:Rep c w (.arr id off len cap) u)
  (ry:Row P c w m sz yc v) :
  ∃ w',(Builtin.copy_ #[t,t2] ty #[u,v]).run P w=.ok (goInt (min m len:Nat)) w'∧Ext c w c w'∧SimSt P c w' { s with h:=s.h.set id (.cells e (yf9 cs off (yc.take (min m len * sz)))) } a:=by
 obtain ⟨ht,hty⟩:=wp9 hsl
 obtain ⟨hm,b,cc,uy,rfl,hmc,hzy,hcy,hryy⟩:=ry
 have hid:id < c.no:=by rw [hs.h.no];exact (List.getElem?_eq_some_iff.1 hobj).1
 obtain ⟨_,_,_,cur,hcur,hl,hcsr⟩:=hs.h.obj id _ hobj
 have hle:min m len * sz≤len * sz:=Nat.mul_le_mul_right _ (Nat.min_le_right _ _)
 have hle2:min m len * sz≤m * sz:=Nat.mul_le_mul_right _ (Nat.min_le_left _ _)
 have hycl:(yc.take (min m len * sz)).length=min m len * sz:=by rw [List.length_take,hm];omega
 have hfit:off+(yc.take (min m len * sz)).length≤cs.length:=by rw [hycl];omega
 cases rx with
 | arr _ hlen hmax =>
  have hfc:(Builtin.firstCells sz (min m len) (.slice b m cc)).run P w=.ok ((List.range (min m len * sz)).map uy).toArray w:=by
   cases b with
   | none =>
    have h0:m=0:=hzy rfl
    rw [run_firstCells_none]
    simp [h0]
   | some ad=>exact run_firstCells_some (P:=P) w sz (min m len) ad m cc ((List.range (min m len * sz)).map uy) (by simp) (fun j v hj=>by
     obtain ⟨h1,rfl⟩:=vh9 _ _ _ _ hj
     exact (hcy ad j rfl (by omega)).1)
  have hone:∀ v∈(List.range (min m len * sz)).map uy,v.oneCell'=true:=by
   intro v hv
   obtain ⟨k,hk,rfl⟩:=List.mem_map.1 hv
   have hk':k < min m len * sz:=by simpa using hk
   cases b with
   | none=>have:=hzy rfl;simp [this] at hk'
   | some ad=>exact (hcy ad k rfl (by omega)).2
  have hnC:∀ j y,(yc.take (min m len * sz))[j]?=some y→Rep c w y (((List.range (min m len * sz)).map uy).getD j undef)∧Own P c w y (((List.range (min m len * sz)).map uy).getD j undef)∧(((List.range (min m len * sz)).map uy).getD j undef).oneCell'=true:=by
   intro j y hj
   have hjl:j < min m len * sz:=by rw [← hycl];exact (List.getElem?_eq_some_iff.1 hj).1
   have e1:((List.range (min m len * sz)).map uy).getD j undef=uy j:=by simp [List.getD_eq_getElem?_getD,hjl]
   rw [e1]
   rw [List.getElem?_take,if_pos hjl] at hj
   exact ⟨(hryy j y hj).1,(hryy j y hj).2,hone _ (List.mem_map.2 ⟨j,by simpa using hjl,rfl⟩)⟩
  have hC:=xf7 (P:=P) (c:=c) (w:=w) (cs:=cs) (ys:=yc.take (min m len * sz)) (cur:=cur) (off:=off) (news:=(List.range (min m len * sz)).map uy) ⟨hl,hcsr⟩ (by simp [hycl]) hfit hnC
  have hst:=run_storeCells_at P (c.ob id) off e ((List.range (min m len * sz)).map uy) 0 cur w hcur (by simp;omega) hone
  simp only [Nat.add_zero] at hst
  have hsz2:((cur.toList.take off++(List.range (min m len * sz)).map uy++cur.toList.drop (off+((List.range (min m len * sz)).map uy).length)).toArray).size=cur.size:=by
   have:=hC.1
   rw [xs9 _ _ _ hfit] at this
   rw [← this,hl]
  obtain ⟨he,hs'⟩:=hs.setObj hobj hcur hsz2 hC
  refine ⟨_,?_,he,hs'⟩
  have hlo:(Builtin.lenOf (.slice b m cc)).run P w=.ok m w:=rfl
  have h1:#[t,t2][0]?=some t:=rfl
  simp only [Builtin.copy_,Sem.run_bind,run_underlying ht,Result.andThen_ok,hlo,xn9 w hty,Sem.run_pure,List.getElem?_toArray,List.getElem?_cons_zero,List.getElem?_cons_succ]
  have e2:Nat.min m len=min m len:=rfl
  rw [e2,hfc]
  simp only [Result.andThen_ok,hst,Sem.run_bind,Sem.run_pure]
theorem jb5 {o : Oper} {cl : Call} {s : St} {K : St → Prop} {xo yo : Operand} {t t' e sz id off len cap m : Nat} {ag : Bool} {cs yc : List AV} (ho : o.op = .call cl) (hc : cl.callee = .builtin .copy) (ha : cl.args.toList = [xo, yo]) (hty : cl.argTypes.toList = [t, t'])
  (h1:s.evT P t xo=some (.arr id off len cap)) (h2:srcA P s t' yo sz=some (m,yc)) (hsl:slI P t=some (e,ag,sz)) (hsz:0 < sz) (hobj:s.h[id]?=some (.cells e cs)) (hcs:off+len * sz≤cs.length)
  (hK:∃ s',({ s with h:=s.h.set id (.cells e (yf9 cs off (yc.take (min m len * sz)))) }:St).put o.dst (.v (goInt (min m len:Nat)))=some s'∧K s'):kj6 P o s K:=by
 refine ⟨by simp [ho],fun c w a hs=>?_⟩
 obtain ⟨s',hp,hk⟩:=hK
 have hargs:cl.args=#[xo,yo]:=by rw [← Array.toArray_toList (xs:=cl.args),ha]
 have htys:cl.argTypes=#[t,t']:=by rw [← Array.toArray_toList (xs:=cl.argTypes),hty]
 have hrun:(execOp a.eval o).run P w=((Builtin.copy_ #[t,t'] o.type #[a.eval xo,a.eval yo]).run P w).andThen fun v w=>.ok (.value v) w:=by
  unfold execOp
  simp only [ho,resolve,hc,hargs,htys,invoke,builtin,Sem.run_bind,Sem.run_pure,Result.andThen_ok,List.map_toArray,List.map_cons,List.map_nil]
 obtain ⟨w',r1,r2,r3⟩:=qd6 (ty:=o.type) (t2:=t') hs hsl hsz hobj hcs (hs.evT h1).1 (qm8 hs hsz h2)
 exact ⟨_,_,_,s',by rw [hrun,r1];rfl,r2,r3.put hp (.v _) (.none rfl),hk⟩
theorem vs8 {kf fuel : Nat} {ops : Array Oper} {Q : Exit → St → Prop} {listed : Array Bool} {s : St} (rs : List Nat) (hr : Region.ready .any ops listed = rs) (hne : rs ≠ [])
  (h:∀ i∈rs,∃ o,ops[i]?=some o∧stepG P ops.toList o s fun s'=>AnyT kf P ops Q fuel (listed.setIfInBounds i true) s'):AnyT kf P ops Q (fuel+1) listed s:=by
 intro F n c0 w0 c w a hF hro hk he hs
 refine ⟨fun h0=>absurd (hr ▸ h0) hne,fun i hi=>?_⟩
 obtain ⟨o,ho,hst⟩:=h i (hr ▸ hi)
 unfold wpOpIn
 simp only [ho]
 refine qb5 (K':=fun s'=>AnyT kf P ops Q fuel (listed.setIfInBounds i true) s') hF hs ho hst ?_
 intro s' a' c' w' hK hs' he'
 exact hK F n c0 w0 c' w' a' hF hro hk (he.trans he') hs'
theorem up5 {ops : Array Oper} {o : Oper} {s : St} {t e sz id off len cap m : Nat} {ag : Bool} {z : AV} (k1 k2 : Nat) (hop : o.op = .slice t (.tmp k1) (some (.tmp k2)) none none) (hgd : o.guard = none)
  (hsl:slI P t=some (e,ag,sz)) (hk:kdI P t=some .sl) (h1:getF s.fr k1=some (.arr id off len cap)) (h2:getF s.fr k2=some (.v (.int .i64 (m:Nat)))) (hz:wf8 P t (.arr id off len cap) (some (.v (.int .i64 (m:Nat)))) none=some z):Gives P ops o s z:=by
 intro c w a hs
 obtain ⟨u,hu,hr,ho⟩:=hs.fr k1 _ h1
 obtain ⟨v,hv,hrv,_⟩:=hs.fr k2 _ h2
 have hv':=hrv.v_inv
 subst hv'
 have e1:a.eval (.tmp k1)=u:=by simp [Act.eval,hu]
 have e2:a.eval (.tmp k2)=.int .i64 (m:Nat):=by simp [Act.eval,hv]
 obtain ⟨r,hrun,hrr,htl⟩:=ub8 hz hr (vl:=some (.int .i64 (m:Nat))) (vh:=none) (.some (.v _)) .none
 have hall:∀ w2,(Instr.sliceAt t u (some (.int .i64 (m:Nat))) none none).run P w2=.ok r w2:=by
  intro w2
  unfold wf8 at hz
  rw [hk] at hz
  simp only [hsl] at hz
  obtain ⟨hh,g1,hz⟩:=Option.bind_eq_some_iff.1 hz
  obtain ⟨l,g2,hz⟩:=Option.bind_eq_some_iff.1 hz
  obtain ⟨hu',hty⟩:=wp9 hsl
  cases hr with
  | arr hid hlen hmax =>
   have hb:∀ w3:World,_:=fun w3=>yp8 (P:=P) (c:=c) (w:=w3) true g1 g2 (Nat.le_refl _) .none (.some (.v _))
   simp only [Instr.sliceAt,Sem.run_bind,run_underlying hu',Result.andThen_ok,Instr.slice,hb,xn9 _ hty,Sem.run_pure] at hrun ⊢
   cases hrun
   rfl
 refine ⟨r,⟨.inl ⟨by simp [Region.wanted,hgd],fun w2=>?_⟩,fun w=>by simp only [Oper.about,hop]⟩,hrr,.none htl⟩
 simp only [execOp,hop,Option.map_none,Option.map_some,e1,e2]
 simp [hall w2]
theorem us5 {ops : Array Oper} {o : Oper} {s : St} {t e sz id off len cap m : Nat} {ag : Bool} {z : AV} (k1 k2 : Nat) (hop : o.op = .slice t (.tmp k1) none (some (.tmp k2)) none) (hgd : o.guard = none)
  (hsl:slI P t=some (e,ag,sz)) (hk:kdI P t=some .sl) (h1:getF s.fr k1=some (.arr id off len cap)) (h2:getF s.fr k2=some (.v (.int .i64 (m:Nat)))) (hz:wf8 P t (.arr id off len cap) none (some (.v (.int .i64 (m:Nat))))=some z):Gives P ops o s z:=by
 intro c w a hs
 obtain ⟨u,hu,hr,ho⟩:=hs.fr k1 _ h1
 obtain ⟨v,hv,hrv,_⟩:=hs.fr k2 _ h2
 have hv':=hrv.v_inv
 subst hv'
 have e1:a.eval (.tmp k1)=u:=by simp [Act.eval,hu]
 have e2:a.eval (.tmp k2)=.int .i64 (m:Nat):=by simp [Act.eval,hv]
 obtain ⟨r,hrun,hrr,htl⟩:=ub8 hz hr (vl:=none) (vh:=some (.int .i64 (m:Nat))) .none (.some (.v _))
 have hall:∀ w2,(Instr.sliceAt t u none (some (.int .i64 (m:Nat))) none).run P w2=.ok r w2:=by
  intro w2
  unfold wf8 at hz
  rw [hk] at hz
  simp only [hsl] at hz
  obtain ⟨hh,g1,hz⟩:=Option.bind_eq_some_iff.1 hz
  obtain ⟨l,g2,hz⟩:=Option.bind_eq_some_iff.1 hz
  obtain ⟨hu',hty⟩:=wp9 hsl
  cases hr with
  | arr hid hlen hmax =>
   have hb:∀ w3:World,_:=fun w3=>yp8 (P:=P) (c:=c) (w:=w3) true g1 g2 (Nat.le_refl _) (.some (.v _)) .none
   simp only [Instr.sliceAt,Sem.run_bind,run_underlying hu',Result.andThen_ok,Instr.slice,hb,xn9 _ hty,Sem.run_pure] at hrun ⊢
   cases hrun
   rfl
 refine ⟨r,⟨.inl ⟨by simp [Region.wanted,hgd],fun w2=>?_⟩,fun w=>by simp only [Oper.about,hop]⟩,hrr,.none htl⟩
 simp only [execOp,hop,Option.map_none,Option.map_some,e1,e2]
 simp [hall w2]
end
end Go.AM
namespace Go.AM
section
variable {P : Program}
theorem jr6 {o : Oper} {cl : Call} {s : St} {K : St → Prop} {k t : Nat} {m : AV} {d : TypeDesc} {e : TypeId} {es : List (Value × AV)} (ho : o.op = .call cl) (hc : cl.callee = .builtin .len) (ha : cl.args = #[.tmp k]) (hty : cl.argTypes = #[t])
  (hmp:mpI P t=some (d,e)) (hx:getF s.fr k=some m) (hes:uj7 s.h m=some es) (hK:∃ s',s.put o.dst (.v (.int .i64 (es.length:Nat)))=some s'∧K s'):kj6 P o s K:=by
 refine ⟨by simp [ho],fun c w a hs=>?_⟩
 obtain ⟨s',hp,hk⟩:=hK
 obtain ⟨u,hu,hr,_⟩:=hs.fr k _ hx
 obtain ⟨kt,hun,_,_⟩:=uf6 hmp
 obtain ⟨r,cur,clock,rfl,hb,hl,_⟩:=yh5 hs hes hr
 have hev:a.eval (.tmp k)=.map (some r):=by simp [Act.eval,hu]
 have hres:(resolve a.eval cl o.type).run P w=.ok ⟨.builtin .len cl.argTypes o.type (cl.args.map fun | .const _=>true | _=>false),#[.map (some r)]⟩ w:=by
  simp [resolve,hc,ha,hev]
 refine ⟨.int .i64 (es.length:Nat),w,c,s',?_,Ext.refl c w,hs.put hp (.v _) (.none rfl),hk⟩
 simp only [execOp,ho,Sem.run_bind,hres,Result.andThen_ok,invoke]
 simp [builtin,Builtin.len_,hty,run_underlying hun,goInt,getObj,Sem.run,hb,hl]
end
end Go.AM
namespace Go.AM
section
variable {P : Program}
def drawP (ops:Array Oper) (pre:Nat):Bool:=decide (pre≤ops.size)&&lexS ops (preL ops pre) pre 0 (Array.replicate ops.size false)&&(ops.toList.take pre).all fun o=>dcls o != 9
theorem us8 {kf : Nat} {id : Nat} {ops : Array Oper} {Q : Exit → St → Prop} {s : St} (pre : Nat) (hm : P.follows .mixedOrders = true) (hd : drawP ops pre = true)
  (h:runD P ops.toList (ops.toList.take pre) s fun s1=>AnyT kf P ops Q (ops.size - pre) (preL ops pre) s1):Wt true kf P (.region id ops true) Q s:=by
 intro F n c w a hF hs
 simp only [drawP,Bool.and_eq_true,decide_eq_true_eq,List.all_eq_true,bne_iff_ne,ne_eq] at hd
 obtain ⟨⟨hle,hlex⟩,h9⟩:=hd
 refine wpIn_region_any hm ?_
 let R:St→Prop:=fun s=>∃ t,Eqv s t∧AnyT kf P ops Q (ops.size - pre) (preL ops pre) t
 have hR:Closed R:=fun s t h ⟨u,h1,h2⟩=>⟨u,h.symm.trans h1,h2⟩
 have hlen:(ops.toList.take pre).length=pre:=by rw [List.length_take];simp;omega
 have hrunE:runE P ops.toList (ops.toList.take pre) s R:=by
  refine zq7 (fun o ho=>h9 o ho) ?_
  exact kw7 (fun s1 h1=>⟨s1,Eqv.refl s1,h1⟩) h
 have hany:=kg6 (P:=P) hR (fun j hj=>by
   rw [Array.getD_eq_getD_getElem?,Array.getElem?_eq_none (by rw [yw5];exact hj)];rfl) (ops.toList.take pre) 0 (Array.replicate ops.size false) s (fun j hj=>by
   rw [Nat.zero_add,List.getElem?_take,if_pos (by omega),Array.getElem?_toList]) (fun j oj hj hl=>by
   exfalso
   rcases Nat.lt_or_ge j ops.size with h' | h' <;> simp [h'] at hl) (by rw [hlen];exact hlex) hrunE
 rw [hlen] at hany
 have:=qs5 (n:=n) (c0:=c) (w0:=w) (Qw:=fun e a' w'=>∃ s' c',Q e s'∧SimSt P c' w' s' a'∧ExtK kf c w c' w') hF.1 (ops.size - pre) (R:=R) (L:=preL ops pre) ?_ pre _ s c w.drew a (wl9 c w) hs.drew hany
 ·have e1:pre+(ops.size - pre)=ops.size:=by omega
  rw [e1] at this
  exact this
 ·rintro s1 c1 w1 a1 he1 hs1 ⟨t,h1,h2⟩
  exact vb9 (fun e a w h=>h.2) _ _ _ _ (h2 F n c w c1 w1 a1 hF.1 (hF.2.1 rfl) hF.2.2 he1 (hs1.eqv h1))
end
end Go.AM
set_option linter.unusedSimpArgs false
namespace Go.AM.HX
open Go.RowKit
section
variable (P : Program) (hb : TypeId → Bool)
def kw6 (ex:ys8) (f:FuncId) (args:List AV) (h:List AObj):Option (AV × List AObj) :=
 match P.funcs[f]? with
 | some fn=>match fn.body with
  | some code => if (fn.name == "runtime.NumGoroutine") = false ∧ args.length ≤ fn.ntmps then
    match ex true code ⟨fn.ntmps,numF 0 args,h⟩ with
    | some (.normal,s) | some (.ret,s)=>if h.length≤s.h.length then (resA P s fn.results.toList).bind fun x =>
      if x.under h.length&&yc9 h.length (s.h.take h.length) then some (x,s.h.take h.length) else if x.under s.h.length&&yc9 s.h.length s.h then some (x,s.h) else none else none
    | _=>none
   else none
  | none=>none
 | none=>none
def yldX (ex:ys8) (id n:Nat) (fr:List (Nat × AV)) (as body:Code) (h:List AObj):Option (Bool × List AObj) :=
 match ex false as ⟨n,fr,h⟩ with
 | some (.normal,s1)=>match s1.h[id]? with
  | some (.loop n' fr' ps' as' body' .ready)=>match ex false body ⟨s1.n,s1.fr,s1.h.set id (.loop n' fr' ps' as' body' .busy)⟩ with
   | some (e,s2)=>match s2.h[id]?,yf6 e with
    | some (.loop n2 fr2 ps2 as2 body2 .busy),some (st,b) =>
     let h2:=s2.h.set id (.loop n2 fr2 ps2 as2 body2 st)
     if h.length≤s2.h.length then
      if yc9 h.length (h2.take h.length) then some (b,h2.take h.length) else if yc9 s2.h.length h2 then some (b,h2) else none
     else none
    | _,_=>none
   | none=>none
  | _=>none
 | _=>none
def ym6 (ex:ys8) (f:FuncId) (args:List AV):Option AV :=
 match P.funcs[f]? with
 | some fn=>match fn.body with
  | some code => if (fn.name == "runtime.NumGoroutine") = false ∧ args.length ≤ fn.ntmps ∧ AV.rfL args = true ∧ AV.tlL args = true then
    match ex true code ⟨fn.ntmps,numF 0 args,[]⟩ with
    | some (.normal,s) | some (.ret,s)=>(resA P s fn.results.toList).bind fun x=>(frzV P 1 s.h x).bind fun (r,_)=>if r.rf then some r else none
    | _=>none
   else none
  | none=>none
 | none=>none
def opX (kn:KnF) (ex:ys8) (draw:Bool) (o:Oper) (s:St):Option St :=
 match o.op with
 | .call c=>match c.callee with
  | .value fo=>match zt9 s c.callee with
   | some (f,l1,l2)=>if c.args.size≤c.argTypes.size then
     (evOpts P s (c.args.toList.zip c.argTypes.toList)).bind fun xs =>
      if draw then
       (if AV.flatL xs&&AV.rfL (AV.dpL (l1++xs++l2)) then (match kn f (AV.dpL (l1++xs++l2)) with | some r=>some r | none=>ym6 P ex f (AV.nlL (l1++xs++l2))).bind fun r=>s.put o.dst (r.norm (site o)) else none)
      else match (prep P s (site o) l1 (c.args.toList.zip c.argTypes.toList) l2).bind fun x=>(kn f x.1).map fun r=>(r,x.2) with
      | some (r,h')=>(⟨s.n,s.fr,h'⟩:St).put o.dst (r.norm (site o))
      | none=>(kw6 P ex f (l1++xs++l2) s.h).bind fun (r,h')=>(⟨s.n,yj8 (AV.toksL (l1++xs++l2)++uf8 s.h) s.fr,h'⟩:St).put o.dst r
     else none
   | none=>if draw then none else match s.ev fo with
     | some (.yld id)=>match s.h[id]? with
      | some (.loop n fr ps as body .ready)=>(evOpts P s (c.args.toList.zip c.argTypes.toList)).bind fun xs =>
        if c.args.size≤c.argTypes.size∧xs.length=ps.length∧(ps.all fun p=>decide (p < n))=true then
         (yldX ex id n (setF fr ps (AV.weakL xs)) as body s.h).bind fun (b,h')=>(⟨s.n,yj8 (uf8 s.h) s.fr,h'⟩:St).put o.dst (.v (.bool b))
        else none
      | _=>none
     | _=>none
  | _=>if draw&&!kh9 P s o then none else evOp P o s
 | .convert _ _ _=>if draw then evOp P o s else match jq8 P s o with
  | some s'=>some s'
  | none=>evOp P o s
 | .buildSlice t _ _=>if draw || !hb t then evOp P o s else match jq8 P s o with
  | some s'=>some s'
  | none=>evOp P o s
 | _=>evOp P o s
def opsX (kn : KnF) (ex : ys8) (draw : Bool) (ops : List Oper) : List Oper → St → Option St
 | [],s=>some s
 | o :: l,s=>(match xg9 ops s o with
  | some true=>match opX P hb kn ex draw o s with
   | some s'=>some s'
   | none=>if draw then none else if xg9 ops (frzO P s o) o=some true then opX P hb kn ex draw o (frzO P s o) else none
  | some false=>s.put o.dst (.v undef)
  | none=>none).bind (opsX kn ex draw ops l)
def xn5 (s:St) (h:List AObj):Option (Exit × St) :=
 match h[s.h.length]? with
 | some (.loop _ _ _ _ _ .ready)=>some (.normal,⟨s.n,s.fr,h.set s.h.length .dead⟩)
 | some (.loop _ _ _ _ _ (.done .ret))=>some (.ret,⟨s.n,s.fr,h.set s.h.length .dead⟩)
 | some (.loop _ _ _ _ _ (.done (.exit id)))=>some (.exit id,⟨s.n,s.fr,h.set s.h.length .dead⟩)
 | some (.loop _ _ _ _ _ (.done (.goto id)))=>some (.goto id,⟨s.n,s.fr,h.set s.h.length .dead⟩)
 | _=>none
def exec (kn : KnF) : Nat → ys8
 | 0,_,_,_=>none
 | n+1,top,c,s=>match c with
  | .skip=>some (.normal,s)
  | .label _=>some (.normal,s)
  | .scope x=>match exec kn n top x s with
   | some (.goto _,_)=>none
   | r=>r
  | .ret=>some (.ret,s)
  | .exit id=>some (.exit id,s)
  | .seq x y=>match exec kn n top x s with
   | some (.normal,s1)=>exec kn n top y s1
   | r=>r
  | .cond o x y=>match s.ev o with
   | some (.v (.bool true))=>exec kn n top x s
   | some (.v (.bool false))=>exec kn n top y s
   | _=>none
  | .block id x=>match exec kn n top x s with
   | some (.exit i,s1)=>if i=id then some (.normal,s1) else some (.exit i,s1)
   | r=>r
  | .loop body=>match exec kn n top body s with
   | some (.normal,s1)=>exec kn n top (.loop body) s1
   | r=>r
  | .region _ ops draw=>if draw&&!yk6 ops then none else match opsX P hb kn (exec kn n) draw ops.toList ops.toList s with
   | some s'=>some (.normal,s')
   | none=>if draw then (opsX P hb kn (exec kn n) draw ops.toList ops.toList (ops.toList.foldl (frzO P) s)).map fun s'=>(.normal,s') else none
  | .rangeFunc g ps as body => if top then match zt9 s (.value g) with
    | some (f,l1,l2)=>(kw6 P (exec kn n) f (l1++[.yld s.h.length]++l2) (s.h++[.loop s.n (qp7 s.fr) ps.toList as body .ready])).bind fun (_,h') =>
      xn5 ⟨s.n,yj8 (AV.toksL (l1++[.yld s.h.length]++l2)++uf8 (s.h++[.loop s.n (qp7 s.fr) ps.toList as body .ready])) s.fr,s.h⟩ h'
    | none=>none
   else none
  | _=>none
end
section
variable {P : Program} {hb : TypeId → Bool}
theorem xq8 {ex : ys8} (hex : ∀ top kf c s e s' Q, ex top c s = some (e, s') → Q e s' → Wt top kf P c Q s) {f : FuncId} {args : List AV} {h h' : List AObj} {r : AV} (hc : kw6 P ex f args h = some (r, h')) :
  wf9 P f args h fun r1 h1=>r1=r∧h1=h':=by
 unfold kw6 at hc
 split at hc
 ·rename_i fn hf
  split at hc
  ·rename_i code hb
   split at hc
   ·rename_i hn
    have fin : ∀ e s, (e = Exit.normal ∨ e = .ret) → ex true code ⟨fn.ntmps, numF 0 args, h⟩ = some (e, s) →
      (if h.length≤s.h.length then (resA P s fn.results.toList).bind fun x =>
      if x.under h.length&&yc9 h.length (s.h.take h.length) then some (x,s.h.take h.length) else if x.under s.h.length&&yc9 s.h.length s.h then some (x,s.h) else none else none)=some (r,h') →
      wf9 P f args h fun r1 h1=>r1=r∧h1=h':=by
     intro e s he hr hc
     split at hc
     ·rename_i hle
      obtain ⟨x,hx,hc⟩:=Option.bind_eq_some_iff.1 hc
      split at hc
      ·rename_i hu
       simp only [Option.some.injEq,Prod.mk.injEq] at hc
       obtain ⟨rfl,rfl⟩:=hc
       simp only [Bool.and_eq_true] at hu
       exact zv9 hf hb hn.1 hn.2 rfl (hex _ _ _ _ _ _ _ hr ⟨he,x,x,s.h,h.length,hx,.inl ⟨rfl,rfl⟩,Nat.le_refl _,hle,hu.1,hu.2,rfl,rfl⟩)
      ·split at hc
       ·rename_i hu
        simp only [Option.some.injEq,Prod.mk.injEq] at hc
        obtain ⟨rfl,rfl⟩:=hc
        simp only [Bool.and_eq_true] at hu
        exact zv9 hf hb hn.1 hn.2 rfl (hex _ _ _ _ _ _ _ hr ⟨he,x,x,s.h,s.h.length,hx,.inl ⟨rfl,rfl⟩,hle,Nat.le_refl _,hu.1,by rw [List.take_length];exact hu.2,by rw [List.take_length];exact ⟨rfl,rfl⟩⟩)
       ·cases hc
     ·cases hc
    split at hc
    ·rename_i s hr;exact fin _ s (.inl rfl) hr hc
    ·rename_i s hr;exact fin _ s (.inr rfl) hr hc
    ·cases hc
   ·cases hc
  ·cases hc
 ·cases hc
theorem xk7 {ex : ys8} (hex : ∀ top kf c s e s' Q, ex top c s = some (e, s') → Q e s' → Wt top kf P c Q s) {id n : Nat} {fr : List (Nat × AV)} {as body : Code} {h h' : List AObj} {b : Bool} (hc : yldX ex id n fr as body h = some (b, h')) :
  jc6 P id h.length n fr as body h fun b1 h1=>b1=b∧h1=h':=by
 unfold yldX at hc
 split at hc
 ·rename_i s1 h1
  split at hc
  ·rename_i n1 fr1 ps1 as1 body1 ho1
   split at hc
   ·rename_i e s2 h2
    split at hc
    ·rename_i n2 fr2 ps2 as2 body2 st b' ho2 hends
     dsimp only at hc
     split at hc
     ·rename_i hle
      refine hex _ _ _ _ _ _ _ h1 ⟨rfl,n1,fr1,ps1,as1,body1,ho1,?_⟩
      split at hc
      ·rename_i hu
       cases hc
       exact hex _ _ _ _ _ _ _ h2 ⟨n2,fr2,ps2,as2,body2,st,b,h.length,ho2,hends,Nat.le_refl _,hle,hu,rfl,rfl⟩
      ·split at hc
       ·rename_i hu
        cases hc
        refine hex _ _ _ _ _ _ _ h2 ⟨n2,fr2,ps2,as2,body2,st,b,s2.h.length,ho2,hends,hle,Nat.le_refl _,?_,rfl,?_⟩
        ·rw [List.take_of_length_le (by rw [List.length_set];exact Nat.le_refl _)];exact hu
        ·rw [List.take_of_length_le (by rw [List.length_set];exact Nat.le_refl _)]
       ·cases hc
     ·cases hc
    ·cases hc
   ·cases hc
  ·cases hc
 ·cases hc
theorem xw8 {ex:ys8} (hex:∀ top kf c s e s' Q,ex top c s=some (e,s')→Q e s'→Wt top kf P c Q s) {f:FuncId} {args:List AV} {r:AV} (hc:ym6 P ex f args=some r):Sound P f args r:=by
 unfold ym6 at hc
 split at hc
 ·rename_i fn hf
  split at hc
  ·rename_i code hb
   split at hc
   ·rename_i hn
    have fin : ∀ e s, (e = Exit.normal ∨ e = .ret) → ex true code ⟨fn.ntmps, numF 0 args, []⟩ = some (e, s) →
      ((resA P s fn.results.toList).bind fun x=>(frzV P 1 s.h x).bind fun (r,_)=>if r.rf then some r else none)=some r→Sound P f args r:=by
     intro e s he hr hc
     obtain ⟨x,hx,hc⟩:=Option.bind_eq_some_iff.1 hc
     obtain ⟨⟨y,h1⟩,hy,hc⟩:=Option.bind_eq_some_iff.1 hc
     dsimp only at hc
     split at hc
     ·rename_i hrf
      cases hc
      exact zh9 hf hb hn.1 hn.2.1 hn.2.2.1 hn.2.2.2 rfl (hex _ _ _ _ _ _ _ hr ⟨he,x,h1,hx,hy,hrf⟩)
     ·cases hc
    split at hc
    ·rename_i s hr;exact fin _ s (.inl rfl) hr hc
    ·rename_i s hr;exact fin _ s (.inr rfl) hr hc
    ·cases hc
   ·cases hc
  ·cases hc
 ·cases hc
theorem qw8 {kn : KnF} (hkn : KnOk P kn) {ex : ys8} (hex : ∀ top kf c s e s' Q, ex top c s = some (e, s') → Q e s' → Wt top kf P c Q s) {o : Oper} {s s' : St} {K : St → Prop} (h : opX P hb kn ex false o s = some s') (hk : K s') :
  step5 P o s K:=by
 unfold opX at h
 split at h
 ·rename_i c ho
  split at h
  ·rename_i fo hfo
   split at h
   ·rename_i f l1 l2 hcal
    split at h
    ·rename_i hsz
     obtain ⟨xs,hxs,h⟩:=Option.bind_eq_some_iff.1 h
     simp only [Bool.false_eq_true,if_false] at h
     split at h
     ·rename_i r h' hpr
      obtain ⟨x,hx,hpr⟩:=Option.bind_eq_some_iff.1 hpr
      obtain ⟨r',hr',he⟩:=Option.map_eq_some_iff.1 hpr
      cases he
      refine .inr (.inl ?_)
      unfold kt6
      rw [ho]
      dsimp only
      rw [hcal]
      unfold prep at hx
      obtain ⟨xs,hxs,hx⟩:=Option.bind_eq_some_iff.1 hx
      obtain ⟨⟨ys,h1⟩,hys,hx⟩:=Option.bind_eq_some_iff.1 hx
      dsimp only at hx
      split at hx
      ·cases hx
       exact ⟨ys,_,r,s',by rw [hxs];exact hys,hsz,(hkn _ _ _ hr').ofDp,h,hk⟩
      ·cases hx
     obtain ⟨⟨r,h'⟩,hr,h⟩:=Option.bind_eq_some_iff.1 h
     refine .inr (.inr (.inl ?_))
     unfold xj5
     rw [ho]
     dsimp only
     rw [hcal]
     refine ⟨xs,hxs,hsz,(xq8 hex hr).mono ?_⟩
     rintro r1 h1 ⟨rfl,rfl⟩
     exact ⟨s',h,hk⟩
    ·cases h
   ·simp only [Bool.false_eq_true, if_false] at h
    split at h
    ·rename_i id hev
     split at h
     ·rename_i n fr ps as body hob
      obtain ⟨xs,hxs,h⟩:=Option.bind_eq_some_iff.1 h
      split at h
      ·rename_i hcond
       obtain ⟨⟨b,h'⟩,hy,h⟩:=Option.bind_eq_some_iff.1 h
       refine .inr (.inr (.inr (.inl ?_)))
       unfold yw7
       rw [ho]
       dsimp only
       rw [hfo]
       refine ⟨id,n,fr,ps,as,body,xs,hev,hob,hxs,hcond.1,hcond.2.1,hcond.2.2,jd8 ?_ (xk7 hex hy)⟩
       rintro b1 h1 ⟨rfl,rfl⟩
       exact ⟨s',h,hk⟩
      ·cases h
     ·cases h
    ·cases h
  ·simp only [Bool.false_and,Bool.false_eq_true,if_false] at h
   exact .inl ⟨s',h,hk⟩
 ·rename_i ho
  simp only [Bool.false_eq_true,if_false] at h
  split at h
  ·rename_i s1 h1
   cases h
   refine .inr (.inr (.inr (.inr ?_)))
   unfold ql8
   rw [ho]
   exact ⟨_,h1,hk⟩
  ·exact .inl ⟨s',h,hk⟩
 ·rename_i ho
  split at h
  ·exact .inl ⟨s',h,hk⟩
  ·split at h
   ·rename_i s1 h1
    cases h
    refine .inr (.inr (.inr (.inr ?_)))
    unfold ql8
    rw [ho]
    exact ⟨_,h1,hk⟩
   ·exact .inl ⟨s',h,hk⟩
 ·exact .inl ⟨s',h,hk⟩
theorem kb7 {kn : KnF} (hkn : KnOk P kn) {ex : ys8} (hex : ∀ top kf c s e s' Q, ex top c s = some (e, s') → Q e s' → Wt top kf P c Q s) {o : Oper} {s s' : St} {K : St → Prop} (h : opX P hb kn ex true o s = some s') (hk : K s') :
  (∃ s',(if kh9 P s o then evOp P o s else none)=some s'∧K s')∨(dcls o=3∧xs6 P o s K):=by
 unfold opX at h
 split at h
 ·rename_i c ho
  split at h
  ·rename_i fo hfo
   split at h
   ·rename_i f l1 l2 hcal
    split at h
    ·rename_i hsz
     obtain ⟨xs,hxs,h⟩:=Option.bind_eq_some_iff.1 h
     simp only [if_true] at h
     split at h
     ·rename_i hfl
      obtain ⟨r,hr,h⟩:=Option.bind_eq_some_iff.1 h
      simp only [Bool.and_eq_true] at hfl
      refine .inr ⟨by simp [dcls,ho,hfo],?_⟩
      unfold xs6
      rw [ho]
      dsimp only
      rw [hcal]
      refine ⟨xs,r,s',hxs,hfl.1,hfl.2,hsz,?_,h,hk⟩
      split at hr
      ·rename_i r' hr'
       cases hr
       exact (hkn _ _ _ hr').ofDp
      ·exact xw8 hex hr
     ·cases h
    ·cases h
   ·simp only [if_true] at h;cases h
  ·simp only [Bool.true_and, Bool.not_eq_true'] at h
   split at h
   ·cases h
   ·rename_i hn
    exact .inl ⟨s',by rw [if_pos (by simpa using hn)];exact h,hk⟩
 ·rename_i ho
  simp only [if_true] at h
  refine .inl ⟨s',?_,hk⟩
  have:kh9 P s o=true:=by unfold kh9;rw [ho]
  rw [if_pos this];exact h
 ·rename_i ho
  simp only [Bool.true_or,if_true] at h
  refine .inl ⟨s',?_,hk⟩
  have:kh9 P s o=true:=by unfold kh9;rw [ho]
  rw [if_pos this];exact h
 ·rename_i hno _ _
  refine .inl ⟨s',?_,hk⟩
  have:kh9 P s o=true:=by
   unfold kh9
   split
   ·rename_i c ho;exact absurd ho (hno c)
   ·rfl
  rw [if_pos this];exact h
theorem qq8 {kn : KnF} (hkn : KnOk P kn) {ex : ys8} (hex : ∀ top kf c s e s' Q, ex top c s = some (e, s') → Q e s' → Wt top kf P c Q s) {ops : List Oper} : ∀ {l : List Oper} {s s' : St} {K : St → Prop}, opsX P hb kn ex false ops l s = some s' → K s' → runA P ops l s K
 | [],s,s',K,h,hk=>by simp only [opsX,Option.some.injEq] at h;subst h;exact hk
 | o :: l,s,s',K,h,hk=>by
  simp only [opsX] at h
  obtain ⟨s1,h1,h2⟩:=Option.bind_eq_some_iff.1 h
  have rest:=qq8 hkn hex (K:=K) h2 hk
  simp only [runA,xp8]
  cases hg:xg9 ops s o with
  | none=>rw [hg] at h1;cases h1
  | some b =>
   rw [hg] at h1
   cases b with
   | true =>
    dsimp only at h1
    split at h1
    ·rename_i s' ho
     cases h1
     rcases qw8 (K:=fun s'=>runA P ops l s' K) hkn hex ho rest with h | h | h | h | h
     ·exact .inl h
     ·exact .inr (.inl h)
     ·exact .inr (.inr (.inl h))
     ·exact .inr (.inr (.inr (.inl h)))
     ·exact .inr (.inr (.inr (.inr (.inl h))))
    ·simp only [Bool.false_eq_true, if_false] at h1
     split at h1
     ·rename_i hg2
      refine .inr (.inr (.inr (.inr (.inr ((ut6 o).mono ?_)))))
      rintro _ rfl
      exact ⟨hg2,qw8 (K:=fun s'=>runA P ops l s' K) hkn hex h1 rest⟩
     ·cases h1
   | false=>exact ⟨s1,h1,rest⟩
theorem zh8 {kn : KnF} (hkn : KnOk P kn) {ex : ys8} (hex : ∀ top kf c s e s' Q, ex top c s = some (e, s') → Q e s' → Wt top kf P c Q s) {ops : List Oper} : ∀ {l : List Oper} {s s' : St} {K : St → Prop}, opsX P hb kn ex true ops l s = some s' → K s' → runD P ops l s K
 | [],s,s',K,h,hk=>by simp only [opsX,Option.some.injEq] at h;subst h;exact hk
 | o :: l,s,s',K,h,hk=>by
  simp only [opsX] at h
  obtain ⟨s1,h1,h2⟩:=Option.bind_eq_some_iff.1 h
  have rest:=zh8 hkn hex (K:=K) h2 hk
  simp only [runD,wd8]
  cases hg:xg9 ops s o with
  | none=>rw [hg] at h1;cases h1
  | some b =>
   rw [hg] at h1
   cases b with
   | true =>
    dsimp only at h1
    split at h1
    ·rename_i s' ho
     cases h1
     exact kb7 (K:=fun s'=>runD P ops l s' K) hkn hex ho rest
    ·simp at h1
   | false=>exact ⟨s1,h1,rest⟩
theorem wn7 {kn:KnF} (hkn:KnOk P kn) (hm:P.follows .mixedOrders=true) (n:Nat):∀ (top:Bool) (kf:Nat) (c:Code) (s:St) (e:Exit) (s':St) (Q:Exit→St→Prop),exec P hb kn n top c s=some (e,s')→Q e s'→Wt top kf P c Q s:=by
 induction n using Nat.strongRecOn with
 | _ n ihs =>
 intro top kf c s e s' Q h hq
 cases n with
 | zero=>cases h
 | succ n =>
  have ih:=ihs n (Nat.lt_succ_self n)
  cases c
  case loop body =>
   refine zl9 (fun k s=>k≤n+1∧exec P hb kn k top (.loop body) s=some (e,s')) (k:=n+1) ⟨Nat.le_refl _,h⟩ ?_
   rintro k s2 ⟨hk,h2⟩
   cases k with
   | zero=>cases h2
   | succ k =>
    have ihk:=ihs k (by omega)
    simp only [exec] at h2
    split at h2
    ·rename_i s1 h1
     exact ihk top kf body s2 _ _ _ h1 ⟨k,Nat.lt_succ_self k,by omega,h2⟩
    ·rename_i hne
     refine ihk top kf body s2 _ _ _ h2 ?_
     cases e with
     | normal=>exact absurd h2 (hne s')
     | _=>exact hq
  all_goals simp only [exec] at h
  case skip=>cases h;exact yk9 hq
  case label l=>cases h;exact jq4 hq
  case scope x =>
   refine km4 ?_
   split at h
   ·cases h
   ·rename_i hne
    refine ih top kf x s _ _ _ h ?_
    cases e with
    | goto l=>exact absurd h (hne l s')
    | _=>exact hq
  case ret=>cases h;exact yn9 hq
  case exit id=>cases h;exact zj9 hq
  case seq x y =>
   refine yl9 ?_
   split at h
   ·rename_i s1 h1
    exact ih top kf x s _ _ _ h1 (ih top kf y s1 _ _ _ h hq)
   ·rename_i hne
    refine ih top kf x s _ _ _ h ?_
    cases e with
    | normal=>exact absurd h (hne s')
    | _=>exact hq
  case cond o x y =>
   split at h
   ·rename_i ho;exact yp9 ho (fun _=>ih top kf x s _ _ _ h hq) (fun h=>(by cases h))
   ·rename_i ho;exact yp9 ho (fun h=>(by cases h)) (fun _=>ih top kf y s _ _ _ h hq)
   ·cases h
  case block id x =>
   refine ys9 ?_
   split at h
   ·rename_i i s1 h1
    refine ih top kf x s _ _ _ h1 ?_
    simp only [qp8]
    split at h
    ·rename_i hi;cases h;rw [if_pos hi];exact hq
    ·rename_i hi;cases h;rw [if_neg hi];exact hq
   ·rename_i hne
    refine ih top kf x s _ _ _ h ?_
    cases e with
    | exit i=>exact absurd h (hne i s')
    | _=>exact hq
  case region id ops draw =>
   split at h
   ·cases h
   ·rename_i hd
    split at h
    ·rename_i s1 h1
     cases h
     cases draw with
     | false=>exact xj7 (qq8 hkn ih h1 hq)
     | true=>exact yp7 hm (by simpa using hd) (zh8 hkn ih h1 hq)
    ·split at h
     ·rename_i hdr
      obtain ⟨s1,h1,h2⟩:=Option.map_eq_some_iff.1 h
      cases h2
      subst hdr
      refine W_pre ((kh7 ops.toList s).mono ?_)
      rintro _ rfl
      exact yp7 hm (by simpa using hd) (zh8 hkn ih h1 hq)
     ·cases h
  case rangeFunc g ps as body =>
   split at h
   ·rename_i htop
    subst htop
    split at h
    ·rename_i f l1 l2 hcal
     obtain ⟨⟨r,h'⟩,hx,h⟩:=Option.bind_eq_some_iff.1 h
     refine jj9 hcal (xq8 ih hx) ?_
     rintro _ _ ⟨rfl,rfl⟩
     dsimp only at h
     unfold xn5 at h
     split at h <;> cases h <;> (rename_i ho;exact ⟨_,_,_,_,_,_,ho,hq⟩)
    ·cases h
   ·cases h
  all_goals cases h
theorem sound_execK {kn:KnF} (hkn:KnOk P kn) (hm:P.follows .mixedOrders=true) (n:Nat) {f:FuncId} {args:List AV} {r:AV} (h:ym6 P (exec P hb kn n) f args=some r):Sound P f args r:=xw8 (wn7 hkn hm n) h
theorem zg9 (hm:P.follows .mixedOrders=true) (n:Nat) {f:FuncId} {args:List AV} {r:AV} (h:ym6 P (exec P hb kn0 n) f args=some r):Sound P f args r:=sound_execK kn0_ok hm n h
end
end Go.AM.HX
namespace Go.AM
section
variable {P : Program} {s : St} {a : Act} {c : Ctx} {w : World}
theorem qs6 {t t2 ty e id off len cap : Nat} {ag : Bool} {cs : List AV} {u : Value} {b : ByteArray} (hs : SimSt P c w s a) (hsl : slI P t = some (e, ag, 1))
  (hobj:s.h[id]?=some (.cells e cs)) (hcs:off+len≤cs.length) (rx:Rep c w (.arr id off len cap) u) :
  ∃ w',(Builtin.copy_ #[t,t2] ty #[u,.string b]).run P w=.ok (goInt (min b.size len:Nat)) w'∧Ext c w c w'∧SimSt P c w' { s with h:=s.h.set id (.cells e (yf9 cs off (byL (b.data.toList.take (min b.size len))))) } a:=by
 obtain ⟨ht,hty⟩:=wp9 hsl
 have hid:id < c.no:=by rw [hs.h.no];exact (List.getElem?_eq_some_iff.1 hobj).1
 obtain ⟨_,_,_,cur,hcur,hl,hcsr⟩:=hs.h.obj id _ hobj
 obtain ⟨n,hn⟩:∃ n,min b.size len=n:=⟨_,rfl⟩
 have hnb:n≤b.size:=by omega
 have hnl:n≤len:=by omega
 obtain ⟨news,hnews⟩:∃ news:List Value,(b.data.toList.take n).map (fun x=>Value.int .u8 x.toNat)=news:=⟨_,rfl⟩
 have hbl:b.data.toList.length=b.size:=by rw [Array.length_toList];rfl
 have hlen:news.length=n:=by rw [← hnews];simp [hbl];omega
 have hyl:(byL (b.data.toList.take n)).length=n:=by simp [hbl];omega
 cases rx with
 | arr _ hlen' hmax =>
  have hfc:(Builtin.firstCells 1 n (.string b)).run P w=.ok news.toArray w:=by
   rw [← hnews]
   show Result.ok ((b.extract 0 n).data.map fun b=>Value.int .u8 b.toNat) w=_
   congr 1
   apply Array.ext'
   rw [ByteArray.data_extract]
   simp [Array.toList_extract,List.extract_eq_take_drop]
  have hget:∀ j,news.getD j undef=((b.data.toList.take n)[j]?.map fun x=>Value.int .u8 x.toNat).getD undef:=by
   intro j
   rw [← hnews,List.getD_eq_getElem?_getD,List.getElem?_map]
  have hone:∀ v∈news,v.oneCell'=true:=by
   intro v hv
   rw [← hnews] at hv
   obtain ⟨x,_,rfl⟩:=List.mem_map.1 hv
   rfl
  have hnC:∀ j y,(byL (b.data.toList.take n))[j]?=some y→Rep c w y (news.getD j undef)∧Own P c w y (news.getD j undef)∧(news.getD j undef).oneCell'=true:=by
   intro j y hj
   rw [byL_get] at hj
   obtain ⟨x,hx,rfl⟩:=Option.map_eq_some_iff.1 hj
   rw [hget,hx]
   exact ⟨.v _,.none rfl,rfl⟩
  have hC:=xf7 (P:=P) (c:=c) (w:=w) (cs:=cs) (ys:=byL (b.data.toList.take n)) (cur:=cur) (off:=off) (news:=news) ⟨hl,hcsr⟩ (by rw [hlen,hyl]) (by rw [hyl];omega) hnC
  have hst:=run_storeCells_at P (c.ob id) off e news 0 cur w hcur (by rw [hlen];omega) hone
  simp only [Nat.add_zero] at hst
  have hsz2:((cur.toList.take off++news++cur.toList.drop (off+news.length)).toArray).size=cur.size:=by
   have:=hC.1
   rw [xs9 _ _ _ (by rw [hyl];omega)] at this
   rw [← this,hl]
  obtain ⟨he,hs'⟩:=hs.setObj hobj hcur hsz2 hC
  refine ⟨_,?_,he,by rw [hn];exact hs'⟩
  have hlo:(Builtin.lenOf (.string b)).run P w=.ok b.size w:=rfl
  simp only [Builtin.copy_,Sem.run_bind,run_underlying ht,Result.andThen_ok,hlo,xn9 w hty,Sem.run_pure,List.getElem?_toArray,List.getElem?_cons_zero,List.getElem?_cons_succ]
  have e2:Nat.min b.size len=n:=hn
  rw [e2,hfc,hn]
  simp only [Result.andThen_ok,hst]
theorem qh7 {o : Oper} {cl : Call} {K : St → Prop} {xo yo : Operand} {t t' e id off len cap : Nat} {ag : Bool} {cs : List AV} {b : ByteArray} (ho : o.op = .call cl) (hc : cl.callee = .builtin .copy) (ha : cl.args.toList = [xo, yo]) (hty : cl.argTypes.toList = [t, t'])
  (h1:s.evT P t xo=some (.arr id off len cap)) (h2:s.evT P t' yo=some (.v (.string b))) (hsl:slI P t=some (e,ag,1)) (hobj:s.h[id]?=some (.cells e cs)) (hcs:off+len≤cs.length)
  (hK:∃ s',({ s with h:=s.h.set id (.cells e (yf9 cs off (byL (b.data.toList.take (min b.size len))))) }:St).put o.dst (.v (goInt (min b.size len:Nat)))=some s'∧K s'):kj6 P o s K:=by
 refine ⟨by simp [ho],fun c w a hs=>?_⟩
 obtain ⟨s',hp,hk⟩:=hK
 have hargs:cl.args=#[xo,yo]:=by rw [← Array.toArray_toList (xs:=cl.args),ha]
 have htys:cl.argTypes=#[t,t']:=by rw [← Array.toArray_toList (xs:=cl.argTypes),hty]
 have hb:a.eval yo=.string b:=(hs.evT h2).1.v_inv
 have hrun:(execOp a.eval o).run P w=((Builtin.copy_ #[t,t'] o.type #[a.eval xo,.string b]).run P w).andThen fun v w=>.ok (.value v) w:=by
  unfold execOp
  simp only [ho,resolve,hc,hargs,htys,invoke,builtin,Sem.run_bind,Sem.run_pure,Result.andThen_ok,List.map_toArray,List.map_cons,List.map_nil,hb]
 obtain ⟨w',r1,r2,r3⟩:=qs6 (ty:=o.type) (t2:=t') (b:=b) hs hsl hobj hcs (hs.evT h1).1
 exact ⟨_,_,_,s',by rw [hrun,r1];rfl,r2,r3.put hp (.v _) (.none rfl),hk⟩
end
end Go.AM
namespace Go.AM
section
variable {P : Program} {s : St} {a : Act} {c : Ctx} {w : World}
def pv : Value → Value → Bool
 | .int _ a,.int _ b=>a == b
 | .string a,.string b=>a.toList == b.toList
 | .bool a,.bool b=>a == b
 | _,_=>false
def okV (P:Program) (e:TypeId) (a b:Value):Bool :=
 match P.underlying e,a,b with
 | some (.int _),.int k _,.int k' _=>decide (k=k')
 | some .string,.string _,.string _=>true
 | some .bool,.bool _,.bool _=>true
 | _,_,_=>false
theorem zg3 (d:Nat) {e:TypeId} {a b:Value} (h:okV P e a b=true):(Op.equalIn (d+1) e a b).run P w=.ok (pv a b) w∧P.plainKey e=true:=by
 unfold okV at h
 split at h
 ·rename_i q k a k' b hu
  have hk:k=k':=by simpa using h
  subst hk
  exact ⟨run_equalIn_int w d e k q a b hu,by simp [Program.plainKey,hu]⟩
 ·rename_i a b hu
  exact ⟨run_equalIn_string w d e a b hu,by simp [Program.plainKey,hu]⟩
 ·rename_i a b hu
  exact ⟨run_equalIn_bool w d e a b hu,by simp [Program.plainKey,hu]⟩
 ·cases h
theorem up7 (d : Nat) (xs ys : Array Value) : ∀ (fs : List Field), (∀ f ∈ fs, f.name ≠ "_" ∧ f.offset < xs.size ∧ f.offset < ys.size ∧ okV P f.type (xs.getD f.offset undef) (ys.getD f.offset undef) = true) →
  (Op.eqFields (d+1) xs ys fs).run P w=.ok (fs.all fun f=>pv (xs.getD f.offset undef) (ys.getD f.offset undef)) w
 | [],_=>by simp [Op.eqFields]
 | f :: fs,hall=>by
  obtain ⟨hn,hx,hy,hok⟩:=hall f (by simp)
  obtain ⟨h1,h2⟩:=zg3 (w:=w) d hok
  have ih:=up7 d xs ys fs (fun g hg=>hall g (by simp [hg]))
  have p1:=run_part_plain (P:=P) w h2 (xs:=xs) (off:=f.offset) (v:=xs.getD f.offset undef) (by simp [Array.getD_eq_getD_getElem?,hx])
  have p2:=run_part_plain (P:=P) w h2 (xs:=ys) (off:=f.offset) (v:=ys.getD f.offset undef) (by simp [Array.getD_eq_getD_getElem?,hy])
  simp only [Op.eqFields,hn,ne_eq,not_false_eq_true,if_true,Sem.run_bind,p1,p2,h1,Result.andThen_ok,List.all_cons]
  cases pv (xs.getD f.offset undef) (ys.getD f.offset undef)
  ·simp
  ·simpa using ih
def eqFv (fs:List Field) (us vs:List Value):Bool:=fs.all fun f=>pv (us.getD f.offset undef) (vs.getD f.offset undef)
def okF (P : Program) (fs : List Field) (us vs : List Value) : Bool := fs.all fun f => f.name != "_" && (decide (f.offset < us.length) && (decide (f.offset < vs.length) && okV P f.type (us.getD f.offset undef) (vs.getD f.offset undef)))
theorem xg8 {o : Oper} {K : St → Prop} {t t' k1 k2 : Nat} {us vs : List Value} {fs : List Field} (ho : o.op = .binOp .neq t (.tmp k1) (.tmp k2) t') (h1 : getF s.fr k1 = some (.agg (us.map .v))) (h2 : getF s.fr k2 = some (.agg (vs.map .v)))
  (hu:P.underlying t=some (.struct (P.fieldsOf t))) (hp:P.stoodInHeld t=false) (hg:P.eqGuardType P.depth t=false) (hfs:(P.fieldsOf t).toList=fs) (hok:okF P fs us vs=true)
  (hK:∃ s',s.put o.dst (.v (.bool (!eqFv fs us vs)))=some s'∧K s'):kj6 P o s K:=by
 refine ⟨by simp [ho],fun c w a hs=>?_⟩
 obtain ⟨s',hpt,hk⟩:=hK
 have key:∀ (k:Nat) (ws:List Value),getF s.fr k=some (.agg (ws.map .v))→a.eval (.tmp k)=.agg ws.toArray:=by
  intro k ws h
  obtain ⟨u,hu,hr,_⟩:=hs.fr k _ h
  obtain ⟨xs,rfl,hl,hx⟩:=yr7 hr
  have:xs=ws.toArray:=by
   apply Array.ext
   ·simpa using hl.symm
   ·intro i hi1 hi2
    have hi:i < ws.length:=by simpa using hi2
    have:=(hx i (.v ws[i]) (by simp [hi])).v_inv
    rw [Array.getD_eq_getD_getElem?,Array.getElem?_eq_getElem hi1] at this
    simpa using this
  rw [← this]
  simp [Act.eval,hu]
 have e1:=key k1 us h1
 have e2:=key k2 vs h2
 have hget:∀ (ws:List Value) (i:Nat),ws.toArray.getD i undef=ws.getD i undef:=by
  intro ws i
  rw [Array.getD_eq_getD_getElem?,List.getD_eq_getElem?_getD,List.getElem?_toArray]
 have heq:(Op.equal t (.agg us.toArray) (.agg vs.toArray)).run P w=.ok (eqFv fs us vs) w:=by
  show (Op.equalIn (9999+1) t _ _).run P w=_
  rw [run_equalIn_struct w 9999 t _ _ hu hp,hfs,up7 (w:=w) 9998 us.toArray vs.toArray fs (fun f hf=>by
   have:=List.all_eq_true.1 hok f hf
   simp only [Bool.and_eq_true,bne_iff_ne,ne_eq,decide_eq_true_eq] at this
   rw [hget,hget]
   exact ⟨this.1,by simpa using this.2.1,by simpa using this.2.2.1,this.2.2.2⟩)]
  simp only [eqFv,hget]
 refine ⟨.bool (!eqFv fs us vs),w,c,s',?_,Ext.refl c w,hs.put hpt (.v _) (.none rfl),hk⟩
 have hgd:=run_eqGuard_agg (P:=P) (w:=w) .neq t (.tmp k1) (.tmp k2) us.toArray vs.toArray hg
 have hb:binOp .neq t (.agg us.toArray) (.agg vs.toArray)=(do pure (.bool (!(← Op.equal t (.agg us.toArray) (.agg vs.toArray))))):=rfl
 simp only [execOp,ho,e1,e2,Sem.run_bind,hgd,hb,heq,Result.andThen_ok,Sem.run_pure]
end
end Go.AM
namespace Go.AM
open Go.RowKit
set_option linter.unusedSimpArgs false
section
variable {P : Program} {c c' : Ctx} {w w' : World}
end
end Go.AM
namespace Go.AM
open Go.RowKit
set_option linter.unusedSimpArgs false
section
variable {P : Program}
mutual
theorem yl5 (T U : Nat) : (x : AV) → (x.kill T).kill U = (x.kill U).kill T
 | .lst (.tip e V) s xs=>by
  by_cases h1:V=T <;> by_cases h2:V=U <;> by_cases h3:V % 2=0 <;> simp_all [AV.kill,Fl.wk]
 | .lst .any _ _=>rfl
 | .lst .ex _ _=>rfl
 | .lst .nil _ _=>rfl
 | .agg xs=>by simp only [AV.kill,killL_comm T U xs]
 | .tup xs=>by simp only [AV.kill,killL_comm T U xs]
 | .any=>rfl
 | .v _=>rfl
 | .ro _=>rfl
 | .loc _ _=>rfl
 | .arr _ _ _ _=>rfl
 | .fn _ _ _=>rfl
 | .mp _=>rfl
 | .yld _=>rfl
theorem killL_comm (T U : Nat) : (xs : List AV) → AV.killL U (AV.killL T xs) = AV.killL T (AV.killL U xs)
 | []=>rfl
 | x :: xs=>by simp only [AV.killL,yl5 T U x,killL_comm T U xs]
end
abbrev KL:=List (Nat × Nat × Nat)
def kofV (kl:KL) (i:Nat):Option Nat:=(kl.find? fun e=>e.1 == i).map (·.2.2)
def kbyV (kl:KL) (j:Nat):Option (Nat × Nat):=(kl.find? fun e=>e.2.1 == j).map fun e=>(e.1,e.2.2)
def yj6 (ops:Array Oper) (j:Nat):Option Tmp:=(ops[j]?).bind (·.dst)
def valB (ops:Array Oper) (m:Nat):Bool :=
 decide (m≤ops.size)&&((List.range ops.size).all fun i=>match ops[i]? with
  | none=>true
  | some o =>
   dcls o != 9&&(if i < m then
    ((o.looksAt ops).all fun d=>(List.range m).all fun j=>yj6 ops j != some d || (decide (j < i)&&o.after.any fun e=>e.on == j&&Region.binds .any e)) &&
    ((List.range m).all fun j=>j == i || yj6 ops j != o.dst)&&o.dst.isSome&&o.after.all fun e=>!(Region.binds .any e) || decide (e.on < i)
   else (List.range m).all fun j=>o.after.any fun e=>e.on == j&&Region.binds .any e))
def klB (ops:Array Oper) (m:Nat) (kl:KL):Bool :=
 kl.all fun e=>decide (e.1 < m)&&decide (e.2.1 < e.1)&&(match ops[e.1]? with
  | none=>false
  | some o=>o.after.any fun f=>f.on == e.2.1&&Region.binds .any f)&&((List.range m).all fun k=>k == e.1 || match ops[k]? with
  | none=>true
  | some o=>(o.looksAt ops).all fun d=>yj6 ops e.2.1 != some d)&&kl.all fun e'=>(e'.1 != e.1 || e' == e)&&(e'.2.1 != e.2.1 || e' == e)
theorem zk7 {ops : Array Oper} {m : Nat} {kl : KL} (h : klB ops m kl = true) {i j T : Nat} (he : (i, j, T) ∈ kl) : i < m ∧ j < i ∧ (∀ k o, k < m → k ≠ i → ops[k]? = some o → ∀ d ∈ o.looksAt ops, yj6 ops j ≠ some d) ∧
  kofV kl i=some T∧kbyV kl j=some (i,T):=by
 simp only [klB,List.all_eq_true,Bool.and_eq_true,decide_eq_true_eq,List.mem_range,Bool.or_eq_true,beq_iff_eq,bne_iff_ne,ne_eq] at h
 obtain ⟨⟨⟨⟨h1,h2⟩,_⟩,h3⟩,h4⟩:=h _ he
 refine ⟨h1,h2,fun k o hk hne ho d hd=>?_,?_,?_⟩
 ·rcases h3 k hk with h5 | h5
  ·exact absurd h5 hne
  ·rw [ho] at h5
   simp only [List.all_eq_true,bne_iff_ne,ne_eq] at h5
   exact h5 d hd
 ·unfold kofV
  cases hf:kl.find? fun e=>e.1 == i with
  | none=>have:=List.find?_eq_none.1 hf _ he;simp at this
  | some e' =>
   have h6:e'.1=i:=by simpa using List.find?_some hf
   rcases (h4 e' (List.mem_of_find?_eq_some hf)).1 with h7 | h7
   ·exact absurd h6 h7
   ·rw [h7];rfl
 ·unfold kbyV
  cases hf:kl.find? fun e=>e.2.1 == j with
  | none=>have:=List.find?_eq_none.1 hf _ he;simp at this
  | some e' =>
   have h6:e'.2.1=j:=by simpa using List.find?_some hf
   rcases (h4 e' (List.mem_of_find?_eq_some hf)).2 with h7 | h7
   ·exact absurd h6 h7
   ·rw [h7];rfl
theorem ug6 {kl:KL} {i T:Nat} (h:kofV kl i=some T):∃ j,(i,j,T)∈kl:=by
 unfold kofV at h
 obtain ⟨e,he,rfl⟩:=Option.map_eq_some_iff.1 h
 have h6:e.1=i:=by simpa using List.find?_some he
 exact ⟨e.2.1,by rw [← h6];exact List.mem_of_find?_eq_some he⟩
theorem uk6 {kl:KL} {i j T:Nat} (h:kbyV kl j=some (i,T)):(i,j,T)∈kl:=by
 unfold kbyV at h
 obtain ⟨e,he,h⟩:=Option.map_eq_some_iff.1 h
 have h6:e.2.1=j:=by simpa using List.find?_some he
 cases h
 rw [← h6];exact List.mem_of_find?_eq_some he
def ixV (ops:Array Oper) (m:Nat) (d:Tmp):Option Nat:=(List.range m).find? fun j=>yj6 ops j == some d
theorem kf5 {ops:Array Oper} {m j:Nat} {d:Tmp} (h:ixV ops m d=some j):j < m∧yj6 ops j=some d :=
 ⟨by simpa using List.mem_of_find?_eq_some h,by simpa using List.find?_some h⟩
def struck (kl:KL) (L:Nat→Bool) (j:Nat) (x:AV):AV:=match kbyV kl j with
 | some (i,T)=>if L i=true then x.kill T else x
 | none=>x
def Fv (s:St) (ops:Array Oper) (m:Nat) (kl:KL) (xs:List AV) (L:Nat→Bool) (d:Tmp):Option AV :=
 match ixV ops m d with
 | some j=>if L j=true then (xs[j]?).map (struck kl L j) else getF s.fr d
 | none=>getF s.fr d
structure VSt (s:St) (ops:Array Oper) (m:Nat) (kl:KL) (xs:List AV) (L:Nat→Bool) (t:St):Prop where
 n:t.n=s.n
 h:t.h=s.h
 fr:∀ d,getF t.fr d=Fv s ops m kl xs L d
def Clear (s:St) (kl:KL):Prop:=∀ e∈kl,(∀ d x,getF s.fr d=some x→x.kill e.2.2=x)∧s.h.map (AObj.kill e.2.2)=s.h
theorem kv6 {ops : Array Oper} {m : Nat} (h : valB ops m = true) : m ≤ ops.size ∧ ∀ i o, ops[i]? = some o → dcls o ≠ 9 ∧
  (i < m→(∀ d∈o.looksAt ops,∀ j,j < m→yj6 ops j=some d→j < i∧∃ e∈o.after,e.on=j∧Region.binds .any e=true)∧(∀ j,j < m→j≠i→yj6 ops j≠o.dst)∧o.dst.isSome=true∧∀ e∈o.after,Region.binds .any e=true→e.on < i) ∧
  (m≤i→∀ j,j < m→∃ e∈o.after,e.on=j∧Region.binds .any e=true):=by
 simp only [valB,Bool.and_eq_true,decide_eq_true_eq,List.all_eq_true,List.mem_range] at h
 refine ⟨h.1,fun i o ho=>?_⟩
 have hi:=h.2 i (Array.getElem?_eq_some_iff.1 ho).1
 rw [ho] at hi
 simp only [Bool.and_eq_true,bne_iff_ne,ne_eq] at hi
 refine ⟨hi.1,fun him=>?_,fun hmi j hj=>?_⟩
 ·have h2 := hi.2
  rw [if_pos him] at h2
  simp only [Bool.and_eq_true,List.all_eq_true,List.mem_range,Bool.or_eq_true,bne_iff_ne,ne_eq,decide_eq_true_eq,beq_iff_eq,Array.all_eq_true',Bool.not_eq_true'] at h2
  obtain ⟨⟨⟨a1,a2⟩,a3⟩,a4⟩:=h2
  refine ⟨fun d hd j hj hdj=>?_,fun j hj hne=>?_,a3,fun e he hb=>?_⟩
  ·rcases a1 d hd j hj with h3 | h3
   ·exact absurd hdj h3
   ·refine ⟨h3.1,?_⟩
    obtain ⟨e,he,hb⟩:=Array.any_eq_true'.1 h3.2
    simp only [Bool.and_eq_true,beq_iff_eq] at hb
    exact ⟨e,he,hb.1,hb.2⟩
  ·rcases a2 j hj with h3 | h3
   ·exact absurd h3 hne
   ·exact h3
  ·rcases a4 e he with h3 | h3
   ·rw [hb] at h3;cases h3
   ·exact h3
 ·have h2:=hi.2
  rw [if_neg (by omega)] at h2
  simp only [List.all_eq_true,List.mem_range] at h2
  obtain ⟨e,he,hb⟩:=Array.any_eq_true'.1 (h2 j hj)
  simp only [Bool.and_eq_true,beq_iff_eq] at hb
  exact ⟨e,he,hb.1,hb.2⟩
variable {s : St} {ops : Array Oper} {m : Nat}
theorem ixV_dst (hv:valB ops m=true) {i:Nat} {o:Oper} {d:Tmp} (ho:ops[i]?=some o) (hi:i < m) (hd:o.dst=some d):ixV ops m d=some i:=by
 have hdi:yj6 ops i=some d:=by simp [yj6,ho,hd]
 cases h:ixV ops m d with
 | none =>
  have:=List.find?_eq_none.1 h i (by simpa using hi)
  simp [hdi] at this
 | some j =>
  obtain ⟨h1,h2⟩:=kf5 h
  by_cases hji:j=i
  ·rw [hji]
  ·exact absurd (h2.trans hd.symm) (((kv6 hv).2 i o ho).2.1 hi |>.2.1 j h1 hji)
theorem VSt.step (hv : valB ops m = true) {kl : KL} (hkl : klB ops m kl = true) (hcl : Clear s kl) {xs : List AV} {L L' : Nat → Bool} {t t' : St} {i : Nat} {o : Oper} {x : AV} (hxs : ∀ k y, xs[k]? = some y → ∀ e ∈ kl, e.2.1 ≠ k → y.kill e.2.2 = y)
  (h:VSt s ops m kl xs L t) (hi0:L i=false) (hdep:∀ j T,(j,i,T)∈kl→L j=false) (ho:ops[i]?=some o) (hi:i < m) (hx:xs[i]?=some x) (hp:app (x,s.h,kofV kl i) o.dst t=some t') (hL:∀ j,L' j=(L j || j == i)):VSt s ops m kl xs L' t':=by
 have hs:=((kv6 hv).2 i o ho).2.1 hi |>.2.2.1
 obtain ⟨d0,hd0⟩:=Option.isSome_iff_exists.1 hs
 have hix:=ixV_dst hv ho hi hd0
 obtain ⟨_,p2,p3,p4⟩:=xk9 hp
 refine ⟨p2.trans h.n,p3,fun d=>?_⟩
 rw [p4,hd0]
 split
 ·rename_i he
  cases he
  simp only [Fv,hix,hL,beq_self_eq_true,Bool.or_true,if_true,hx,Option.map_some,struck]
  split
  ·rename_i j T hk
   have hm:=uk6 hk
   have hne:(j == i)=false:=by have:=(zk7 hkl hm).2.1;simp;omega
   rw [hdep j T hm,hne,Bool.or_false,if_neg (by simp)]
  ·rfl
 ·rename_i hne0
  have hne:d0≠d:=fun h=>hne0 (by rw [h])
  rw [h.fr d]
  unfold Fv
  split
  ·rename_i j hj
   have hji:j≠i:=by
    rintro rfl
    have:=(kf5 hj).2
    simp [yj6,ho,hd0] at this
    exact hne this
   rw [hL,show (j == i)=false by simpa using hji,Bool.or_false]
   by_cases hLj:L j=true
   ·rw [if_pos hLj, if_pos hLj]
    cases hy:xs[j]? with
    | none=>rfl
    | some y =>
     simp only [Option.map_some,Option.some.injEq]
     cases hk:kofV kl i with
     | none =>
      simp only [killO,struck]
      split
      ·rename_i i' T hk'
       have hii:i'≠i:=by
        rintro rfl
        have:=(zk7 hkl (uk6 hk')).2.2.2.1
        rw [hk] at this;cases this
       rw [hL,show (i' == i)=false by simpa using hii,Bool.or_false]
      ·rfl
     | some T =>
      simp only [killO]
      obtain ⟨j',hm⟩:=ug6 hk
      by_cases hjj:j=j'
      ·subst hjj
       simp only [struck,(zk7 hkl hm).2.2.2.2,hi0,hL,beq_self_eq_true,Bool.or_true,if_true]
       rfl
      ·have hyk := hxs j y hy _ hm (Ne.symm hjj)
       simp only at hyk
       simp only [struck]
       split
       ·rename_i i' T' hk'
        have hii:i'≠i:=by
         rintro rfl
         have hm':=uk6 hk'
         obtain ⟨_,_,_,a,_⟩:=zk7 hkl hm
         obtain ⟨_,_,_,a',_⟩:=zk7 hkl hm'
         simp only [klB,List.all_eq_true,Bool.and_eq_true,Bool.or_eq_true,bne_iff_ne,ne_eq] at hkl
         rcases ((hkl _ hm).2 _ hm').1 with h9 | h9
         ·exact h9 rfl
         ·have h9:(i',j,T')=(i',j',T):=by simpa using h9
          cases h9
          exact hjj rfl
        rw [hL,show (i' == i)=false by simpa using hii,Bool.or_false]
        split
        ·rw [yl5,hyk]
        ·exact hyk
       ·exact hyk
   ·rw [if_neg hLj, if_neg hLj]
    cases hg:getF s.fr d with
    | none=>rfl
    | some y =>
     cases hk:kofV kl i with
     | none=>rfl
     | some T =>
      obtain ⟨j',hm⟩:=ug6 hk
      simp only [Option.map_some,killO,(hcl _ hm).1 d y hg]
  ·cases hg:getF s.fr d with
   | none=>rfl
   | some y =>
    cases hk:kofV kl i with
    | none=>rfl
    | some T =>
     obtain ⟨j',hm⟩:=ug6 hk
     simp only [Option.map_some,killO,(hcl _ hm).1 d y hg]
theorem Fv_app {s:St} {ops:Array Oper} {m:Nat} {kl:KL} {xs ys:List AV} {L:Nat→Bool} (hL:∀ j,L j=true→j < xs.length) (d:Tmp):Fv s ops m kl (xs++ys) L d=Fv s ops m kl xs L d:=by
 unfold Fv
 split
 ·rename_i j hj
  split
  ·rename_i h
   rw [List.getElem?_append_left (hL j h)]
  ·rfl
 ·rfl
theorem VSt.app {s:St} {ops:Array Oper} {m:Nat} {kl:KL} {xs ys:List AV} {L:Nat→Bool} {t:St} (hL:∀ j,L j=true→j < xs.length) (h:VSt s ops m kl xs L t):VSt s ops m kl (xs++ys) L t :=
 ⟨h.n,h.h,fun d=>by rw [h.fr,Fv_app hL]⟩
end
end Go.AM
namespace Go.AM
open Go.RowKit
section
variable {P : Program} {c : Ctx} {w : World} {s : St} {a : Act}
def kp5 : Fl → Bool
 | .nil=>true
 | .ex=>true
 | .tip _ T=>T % 2 == 0
 | .any=>false
theorem xv5 {t ty e sz by_ : Nat} {ag : Bool} {z : AV} {u v : Value} {s0 : Nat} {fl : Fl} {m : Nat} {yc : List AV} (hs : SimSt P c w s a) (hsl : slI P t = some (e, ag, sz)) (hap : apI P e = some (sz, by_))
  (hz:zA P e=some z) (hzl:z.cells.length=sz) (hsz:0 < sz) (hfl:kp5 fl=true) (rx:Rep c w (.lst fl s0 []) u) (hby:0 < by_) (ry:Row P c w m sz yc v) (hm0:0 < m) (hb:m * by_≤140737488355328) :
  ∃ v' w' c' cap', (Builtin.append_ #[t, t] ty #[u, v]).run P w = .ok v' w' ∧ Ext c w c' w' ∧ m ≤ cap' ∧ cap' ≤ maxLen ∧ SimSt P c' w' { s with h := s.h ++ [.cells e (yc ++ repC (cap' - m) z.cells)] } a ∧
   Rep c' w' (.arr s.h.length 0 m cap') v':=by
 obtain ⟨ad0,hu⟩:∃ ad0:Option Addr,u=.slice ad0 0 0:=by
  cases rx with
  | lst u hn hcap hmax hs hsz hrf hz hnil hc hr =>
   rename_i n cap
   have hn0:n=0:=by simpa using hn.symm
   have hc0:cap=0:=by
    cases fl with
    | nil=>exact (hz hnil).2
    | ex=>have:n=cap:=hnil;omega
    | tip e T =>
     have h1:T % 2=0:=by simpa [kp5] using hfl
     have:n=cap:=hnil h1
     omega
    | any=>simp [kp5] at hfl
   subst hn0;subst hc0
   exact ⟨_,rfl⟩
 cases ad0 with
 | none =>
  have rx2:Rep c w (.lst .nil s0 []) u:=by
   subst hu
   exact .lst (fun _=>undef) rfl (Nat.le_refl _) (by simp [maxLen]) (by simp) (by simp) rfl (fun _=>⟨rfl,rfl⟩) rfl (by simp) (by simp)
  exact ug7 (ty:=ty) hs hsl hap hz hzl hsz rx2 hby ry hm0 hb
 | some ad0 =>
 subst hu
 obtain ⟨ht,hty⟩:=wp9 hsl
 obtain ⟨i,zv,hi,hzz,hisz,hib,hzs,_⟩:=kc8 hap
 obtain ⟨hycl,b,cc,uy,rfl,hmc,hbn,hcy,hyr⟩:=ry
 obtain ⟨ad,rfl⟩:∃ ad,b=some ad:=by
  cases b with
  | none=>have:=hbn rfl;omega
  | some ad=>exact ⟨ad,rfl⟩
 have hnm:m≤140737488355328:=by
  have:m * 1≤m * by_:=Nat.mul_le_mul_left _ hby
  omega
 have hycl':(yc).length=m * sz:=hycl
 have hnewsl:((List.range (m * sz)).map uy).length=m * i.size:=by simp [hisz]
 have hnews:∀ (j:Nat) (v:Value),((List.range (m * sz)).map uy)[j]?=some v→w.cell? (ad.add j)=some v:=by
  intro j v hj
  obtain ⟨h1,rfl⟩:=vh9 _ _ _ _ hj
  exact (hcy ad j rfl h1).1
 have hrun := run_append_grow (P := P) w t ty e i zv ht hi hzz ad0 0 0 [] (by simp) (by simp) ad m cc _ hnewsl hnews (by omega) (by omega)
  (growslice_fits (by omega) (by rw [hib];simpa using hb))
 simp only [Nat.zero_add] at hrun
 have hge:=grownCap_ge w m 0 e
 have hle:=grownCap_le_maxLen w m 0 e (by simp only [maxLen];omega)
 generalize hcap':grownCap w m 0 e=cap' at hrun hge hle
 have hC2:Cells P c w (yc) ((List.range (m * sz)).map uy).toArray:=by
  refine ⟨by simp [hycl'],fun j y hj=>?_⟩
  have hjl:j < m * sz:=by rw [← hycl'];exact (List.getElem?_eq_some_iff.1 hj).1
  have e1:(((List.range (m * sz)).map uy).toArray).getD j undef=uy j:=by simp [Array.getD_eq_getD_getElem?,hjl]
  rw [e1]
  exact ⟨(hyr j y hj).1,(hyr j y hj).2,(hcy ad j rfl hjl).2⟩
 obtain ⟨hz1,hz2,hz3⟩:=uj8 (P:=P) (c:=c) (w:=w) hi hzz hz hzl hzs hsz (cap' - m)
 have hC3:=yr8 hC2 (ys:=repC (cap' - m) z.cells) (vs:=Builtin.zeroCells zv.cells (cap' - m)) ⟨by rw [hz1,hz2],hz3⟩
 obtain ⟨c',_,he,hs',hr⟩:=ys5 hs.drew (e:=e) (kl8 (wl9 c w) (wm8 c w _ rfl) hC3) m cap' hge hle
 exact ⟨_,_,c',cap',by rw [hrun];simp,(wl9 c w).trans he,hge,hle,hs',hr⟩
theorem jn5 {o : Oper} {cl : Call} {K : St → Prop} {xo yo : Operand} {t e sz by_ s0 m : Nat} {ag : Bool} {z : AV} {fl : Fl} {yc : List AV} (ho : o.op = .call cl) (hc : cl.callee = .builtin .append) (ha : cl.args.toList = [xo, yo]) (hty : cl.argTypes.toList = [t, t])
  (h1:s.evT P t xo=some (.lst fl s0 [])) (hfl:kp5 fl=true) (hsl:slI P t=some (e,ag,sz)) (hap:apI P e=some (sz,by_)) (hz:zA P e=some z) (hside:z.cells.length=sz∧0 < sz∧0 < by_)
  (h2:srcA P s t yo sz=some (m,yc)) (hm:0 < m) (hb:m * by_≤140737488355328)
  (rest:∀ cap',m≤cap'→cap'≤maxLen→∃ s',({ s with h:=s.h++[.cells e (yc++repC (cap' - m) z.cells)] }:St).put o.dst (.arr s.h.length 0 m cap')=some s'∧K s'):kj6 P o s K:=by
 refine ⟨by simp [ho],fun c w a hs=>?_⟩
 have hargs:cl.args=#[xo,yo]:=by rw [← Array.toArray_toList (xs:=cl.args),ha]
 have htys:cl.argTypes=#[t,t]:=by rw [← Array.toArray_toList (xs:=cl.argTypes),hty]
 have hrun:(execOp a.eval o).run P w=((Builtin.append_ #[t,t] o.type #[a.eval xo,a.eval yo]).run P w).andThen fun v w=>.ok (.value v) w:=by
  unfold execOp
  simp only [ho,resolve,hc,hargs,htys,invoke,builtin,Sem.run_bind,Sem.run_pure,Result.andThen_ok,List.map_toArray,List.map_cons,List.map_nil]
 obtain ⟨v',w',c',cap',r1,r2,r3,r4,r5,r6⟩:=xv5 (ty:=o.type) hs hsl hap hz hside.1 hside.2.1 hfl (hs.evT h1).1 hside.2.2 (qm8 hs hside.2.1 h2) hm hb
 obtain ⟨s',p1,p2⟩:=rest cap' r3 r4
 exact ⟨_,_,_,s',by rw [hrun,r1];rfl,r2,r5.put p1 r6 (.none rfl),p2⟩
end
end Go.AM
namespace Go.AM
open Go.RowKit
section
variable {P : Program} {c : Ctx} {w : World} {s : St} {a : Act} {top : Bool} {kf : Nat}
theorem rep_ro {o:Fl} {s0 cap:Nat} {x:AV} {ad:Addr} (h:Rep c w (.lst o s0 [x]) (.slice (some ad) 1 cap)) (hx:x.rf=true):Rep c w (.ro x) (.pointer (some ad)):=by
 cases h with
 | lst u hn hcap hmax hs hsz hrf hz hnil hc hr =>
  have hl:x.cells.length=s0:=hsz x (by simp)
  refine .ro u hx (fun k hk=>hc ad k rfl (by omega)) (fun j y hj=>?_)
  have:=hr 0 j x y rfl hj
  simpa using this
theorem W_roB {code : Code} {Q : Exit → St → Prop} (i : Nat) {id tk s0 : Nat} {x : AV} {o : Fl} {h' : List AObj} (hg : getF s.fr i = some (.loc id 0)) (htk : tk % 2 = 1)
  (hf:vc9 P s.h tk id 0 1 1=some (.lst o s0 [x],h')) (hx:x.rf=true) (h:Wt top kf P code Q ⟨s.n,putF s.fr i (.ro x),h'⟩):Wt top kf P code Q s:=by
 intro F n c w a hF hs
 obtain ⟨u,hu,hr,_⟩:=hs.fr i _ hg
 cases hr with
 | loc hid =>
  obtain ⟨c',he,hk,hs',hr',ho'⟩:=yw8 hs htk hf (.arr hid (Nat.le_refl 1) (by simp [maxLen]))
  have hro:=rep_ro hr' hx
  have hs2:SimSt P c' w ⟨s.n,putF s.fr i (.ro x),h'⟩ a:=by
   refine ⟨hs'.n,hs'.base,fun j y hy=>?_,hs'.h,hs'.dfr⟩
   simp only at hy
   rw [zk8] at hy
   split at hy
   ·rename_i hj
    subst hj
    cases hy
    exact ⟨_,hu,hro,.none rfl⟩
   ·exact hs'.fr j y hy
  have he':=he.toK hF.2.2
  refine wpIn_mono (h F n c' w a (hF.next he') hs2) ?_
  rintro e a' w' ⟨s',c2,q,k1,k2⟩
  exact ⟨s',c2,q,k1,he'.trans k2⟩
end
end Go.AM
namespace Go.AM
open Go.RowKit
set_option linter.unusedSimpArgs false
set_option linter.unusedVariables false
section
variable {P : Program}
section
variable {c c' : Ctx} {w w' : World}
end
end
section
variable {P : Program} {top : Bool} {kf : Nat} {Q : Exit → St → Prop} {s s' : St}
theorem W_cF {id c:Nat} {ops:Array Oper} {x y:Code} (ks:List Nat) (h:(jv8 P ops.toList ops.toList s).map (fun s=>⟨s.n,km9 ks s.fr,s.h⟩)=some s') (hc:getF s'.fr c=some (.v (.bool false))) (hq:Wt top kf P y Q s'):Wt top kf P (.seq (.region id ops false) (.cond (.tmp c) x y)) Q s :=
 yt9 ks h (yp9 (t:=false) hc (fun h=>by cases h) fun _=>hq)
theorem W_cT {id c:Nat} {ops:Array Oper} {x y:Code} (ks:List Nat) (h:(jv8 P ops.toList ops.toList s).map (fun s=>⟨s.n,km9 ks s.fr,s.h⟩)=some s') (hc:getF s'.fr c=some (.v (.bool true))) (hq:Wt top kf P x Q s'):Wt top kf P (.seq (.region id ops false) (.cond (.tmp c) x y)) Q s :=
 yt9 ks h (yp9 (t:=true) hc (fun _=>hq) fun h=>by cases h)
end
end Go.AM
set_option linter.unusedSimpArgs false
set_option linter.unusedVariables false
namespace Go.AM
open Go.RowKit
end Go.AM
set_option linter.unusedSimpArgs false
set_option linter.unusedVariables false
namespace Go.AM
open Go.RowKit
section
variable {P : Program}
end
end Go.AM
set_option linter.unusedSimpArgs false
namespace Go.AM
open Go.RowKit Go.ChangeShapes Go.WideShapes Go.ChangeAt Go.Deep
structure BulkOk {H:Type} (B:DataW H→Nat) (BA:List (DataW H)→Nat):Prop where
 one:∀ d,1≤B d
 str:∀ l,B (.lit (.string l))=l.length+1
 sl:∀ a b,BA a+BA b+1≤B (.slice a b)
 ag:∀ a,BA a≤B (.agg a)
 cons:∀ d l,BA (d :: l)=B d+BA l
 nil:BA []=0
section
variable {H : Type} {enc : TypeId × Value → H} {P : Program} {W : World}
variable {B : DataW H → Nat} {BA : List (DataW H) → Nat}
end
end Go.AM
