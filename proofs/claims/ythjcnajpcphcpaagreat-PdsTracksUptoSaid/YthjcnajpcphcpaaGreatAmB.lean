/- The abstract machine: calls, regions whose order is drawn. -/
import Derived.Lib.AppendZeros
import Derived.OrdersIn
import Derived.RangeFuncIn
import Derived.RangeFuncLeaves
import Derived.RangeFuncRecord
import Derived.Test.YthjcnajpcphcpaaGreatAmA
set_option linter.unusedVariables false
set_option linter.unusedSimpArgs false
namespace Go.AM
open Go.RowKit
structure PExt (c:Ctx) (w:World) (c':Ctx) (w':World):Prop where
 base:c'.base=c.base
 no:c'.no=c.no
 ob:c'.ob=c.ob
 os:w'.os=w.os
 tape:w'.tape=w.tape
 output:w'.output=w.output
 size:w.heap.size≤w'.heap.size
 block:∀ b,b < w.heap.size→w'.heap[b]?=w.heap[b]?
 pm:∀ b,b < w.heap.size→c'.pm b=c.pm b
 ow:∀ b,b < w.heap.size→c'.ow b=c.ow b
section
variable {P : Program} {c c' : Ctx} {w w' : World}
theorem PExt.ext (h:PExt c w c' w') (hb:∀ b,w.heap.size≤b→c.base b):Ext c w c' w' where
 base:=h.base
 os:=h.os
 tape:=h.tape
 output:=h.output
 size:=h.size
 below b hb':=h.block b (Nat.lt_of_not_le fun e=>hb' (hb b e))
 cell a u _ hc:=by rw [cell_of_heap (h.block _ (uf8 hc))];exact hc
 pm b hb':=by rw [h.pm b hb'];exact Nat.le_refl _
 pmb b hb':=h.pm b (Nat.lt_of_not_le fun e=>hb' (hb b e))
 owb b hb':=h.ow b (Nat.lt_of_not_le fun e=>hb' (hb b e))
 no:=by rw [h.no];exact Nat.le_refl _
 ob _ _:=by rw [h.ob]
 dfr b hb':=by rw [h.block b (xd6 hb')];exact hb'
theorem PExt.keeps (h:PExt c w c' w'):Keeps c w c' w' none:=by
 intro g cur e _ hg _
 have hlt:=xd6 hg
 exact ⟨by rw [h.block g hlt];exact hg,h.pm g hlt,h.ow g hlt⟩
theorem SimSt.pext {s:St} {a:Act} (hs:SimSt P c w s a) (h:PExt c w c' w'):SimSt P c' w' s a :=
 hs.mono (T:=none) (h.ext hs.base) h.keeps h.no fun i oo hi _=>by
  have hlt:c.ob i < w.heap.size:=hs.h.lt i (by rw [hs.h.no];exact (List.getElem?_eq_some_iff.1 hi).1)
  exact ⟨h.block _ hlt,h.pm _ hlt,h.ow _ hlt⟩
def Ctx.rebase (c:Ctx) (b:Nat→Prop):Ctx:={ c with base:=b }
def SoundPure (P:Program) (f:FuncId) (args:List AV) (r:AV):Prop :=
 ∀ F n (c : Ctx) (w : World) (vals : List Value) (T : Nat), Good F → F.round = none → T % 2 = 1 → (∀ b, w.heap.size ≤ b → c.base b) → RepL P c w args vals →
  CallsIn F n P f vals.toArray w fun e w'=>∃ u c',e=.returned u∧PExt c w c' w'∧Rep c' w' (r.norm T) u∧Own P (c'.rebase fun b=>w.heap.size≤b) w' (r.norm T) u
def numF : Nat → List AV → List (Nat × AV)
 | _,[]=>[]
 | k,x :: xs=>(k,x) :: numF (k+1) xs
theorem jf8 : ∀ (xs : List AV) (k i : Nat) (y : AV), getF (numF k xs) i = some y → k ≤ i ∧ xs[i - k]? = some y
 | [],k,i,y,h=>by simp [numF,getF] at h
 | x :: xs,k,i,y,h=>by
  simp only [numF,getF] at h
  split at h
  ·rename_i hi;subst hi;cases h;exact ⟨Nat.le_refl _,by simp⟩
  ·rename_i hi
   obtain ⟨h1,h2⟩:=jf8 xs (k+1) i y h
   refine ⟨by omega,?_⟩
   rw [show i - k=(i - (k+1))+1 by omega]
   simpa using h2
def resL (P : Program) (s : St) : List ResultVar → Option (List AV)
 | []=>some []
 | .tmp t :: l=>(getF s.fr t).bind fun x=>(resL P s l).map fun r=>x :: r
 | .cell a t :: l=>(getF s.fr a).bind fun p=>(yw6 P s.h t p).bind fun x=>(resL P s l).map fun r=>x :: r
def resA (P:Program) (s:St) (l:List ResultVar):Option AV :=
 (resL P s l).map fun xs=>match xs with
  | [x]=>x
  | xs=>.tup xs
def resV (tmps : Array Value) : ResultVar → Sem Value
 | .tmp t=>pure (tmps.getD t undef)
 | .cell a t=>do loadVar t (← asAddr (tmps.getD a undef))
theorem results_eq (fn:Func) (tmps:Array Value):results fn tmps=(do
  let vs ← fn.results.mapM (resV tmps)
  pure (if h:vs.size=1 then vs[0] else .tuple vs)):=rfl
theorem zd7 {s : St} {a : Act} (hs : SimSt P c w s a) : ∀ {l : List ResultVar} {xs : List AV}, resL P s l = some xs →
  ∃ us,(l.mapM (resV a.tmps)).run P w=.ok us w∧RepL P c w xs us
 | [],xs,h=>by simp [resL] at h;subst h;exact ⟨[],rfl,.nil⟩
 | .tmp t :: l,xs,h=>by
  simp only [resL] at h
  obtain ⟨x,hx,h⟩:=Option.bind_eq_some_iff.1 h
  obtain ⟨r,hr,rfl⟩:=Option.map_eq_some_iff.1 h
  obtain ⟨us,h1,h2⟩:=zd7 hs hr
  obtain ⟨u,hu,r1,r2⟩:=hs.fr t x hx
  have e:a.tmps.getD t undef=u:=by rw [Array.getD_eq_getD_getElem?,hu];rfl
  refine ⟨u :: us,?_,.cons r1 r2 h2⟩
  simp only [List.mapM_cons,resV,Sem.run_bind,Sem.run_pure,Result.andThen_ok,h1,e]
 | .cell b t :: l,xs,h=>by
  simp only [resL] at h
  obtain ⟨p,hp,h⟩:=Option.bind_eq_some_iff.1 h
  obtain ⟨x,hx,h⟩:=Option.bind_eq_some_iff.1 h
  obtain ⟨r,hr,rfl⟩:=Option.map_eq_some_iff.1 h
  obtain ⟨us,h1,h2⟩:=zd7 hs hr
  obtain ⟨u,hu,r1,r2⟩:=hs.fr b p hp
  have e:a.tmps.getD b undef=u:=by rw [Array.getD_eq_getD_getElem?,hu];rfl
  obtain ⟨v,hv,v1,v2⟩:=qk7 hs.h hx r1
  refine ⟨v :: us,?_,.cons v1 v2 h2⟩
  have hva:(resV a.tmps (.cell b t)).run P w=.ok v w:=by
   show (do loadVar t (← asAddr (a.tmps.getD b undef)):Sem Value).run P w=_
   rw [e]
   cases u <;> simp only [Instr.loadAt,Instr.sureAddr,Sem.run_bind,run_stuck,Result.andThen_halt] at hv <;> try (cases hv;done)
   rename_i ad
   cases ad with
   | none=>simp only [run_stuck,Result.andThen_halt] at hv;cases hv
   | some ad=>simp only [Sem.run_pure,Result.andThen_ok] at hv;simp only [asAddr,Sem.run_bind,Sem.run_pure,Result.andThen_ok];exact hv
  simp only [List.mapM_cons,Sem.run_bind,hva,Result.andThen_ok,h1,Sem.run_pure]
theorem up8 {s:St} {a:Act} {fn:Func} {x:AV} (hs:SimSt P c w s a) (h:resA P s fn.results.toList=some x):∃ v,(results fn a.tmps).run P w=.ok v w∧Rep c w x v∧Own P c w x v:=by
 unfold resA at h
 obtain ⟨xs,hxs,hx⟩:=Option.map_eq_some_iff.1 h
 obtain ⟨us,h1,h2⟩:=zd7 hs hxs
 have hrun:(fn.results.mapM (resV a.tmps)).run P w=.ok us.toArray w:=by
  rw [Array.mapM_eq_mapM_toList,Sem.run_map,h1];rfl
 rw [results_eq]
 simp only [Sem.run_bind,hrun,Result.andThen_ok,Sem.run_pure]
 split at hx
 ·cases h2 with
  | cons r1 r2 r3=>cases r3;subst hx;exact ⟨_,rfl,r1,r2⟩
 ·rename_i hne
  have hlen:¬ us.toArray.size=1:=by
   intro hh
   have:xs.length=1:=by rw [h2.length];simpa using hh
   match xs,this with
   | [y],_=>exact hne y rfl
  rw [dif_neg hlen]
  subst hx
  have:=RepL.to_arr (vs:=us.toArray) (by simpa using h2)
  exact ⟨_,rfl,.tup this.1 this.2.1,.tup this.2.2⟩
end
end Go.AM
namespace Go.AM
open Go.RowKit
section
variable {P : Program} {c c' : Ctx} {w w' : World}
def xq9 (ops:List Oper) (s:St) (o:Oper):Option Bool :=
 match o.guard with
 | none=>some true
 | some (j,want)=>match (ops[j]?).bind (·.dst) with
  | some d=>match getF s.fr d with
   | some (.v (.bool b))=>some (b == want)
   | some (.v (.tuple _))=>some false
   | _=>none
  | none=>some false
theorem tmps_get {s:St} {a:Act} (hs:SimSt P c w s a) {i:Nat} {x:Value} (h:getF s.fr i=some (.v x)):a.tmps[i]?=some x:=by
 obtain ⟨u,hu,hr,_⟩:=hs.fr i _ h
 cases hr
 exact hu
theorem xk7 {s:St} {a:Act} (hs:SimSt P c w s a) {ops:Array Oper} {o:Oper} {t:Bool} (h:xq9 ops.toList s o=some t):Region.wanted o (yielded ops a.tmps)=t:=by
 unfold xq9 at h
 unfold Region.wanted
 split at h
 ·rename_i hg
  rw [hg];cases h;rfl
 ·rename_i j want hg
  rw [hg]
  simp only [yielded]
  rw [Array.getElem?_toList] at h
  split at h
  ·rename_i d hd
   rw [hd]
   split at h
   ·rename_i b hb
    cases h
    simp only [Option.bind_some,tmps_get hs hb]
    cases b <;> cases want <;> rfl
   ·rename_i hb
    cases h
    simp only [Option.bind_some,tmps_get hs hb]
    cases want <;> rfl
   ·cases h
  ·rename_i hd
   cases h
   rw [hd]
   cases want <;> rfl
def Callable (P : Program) (f : FuncId) : Prop := ∃ fn, P.funcs[f]? = some fn ∧ (fn.name == "runtime.NumGoroutine") = false ∧ fn.body.isNone = false
theorem Callable.run {f:FuncId} (h:Callable P f) (args:Array Value) (w:World):(callFunc f args).run P w=.ok (.enter f args) w:=by
 obtain ⟨fn,h1,h2,h3⟩:=h
 have h2' : fn.name ≠ "runtime.NumGoroutine" := by simpa using h2
 have h3':fn.body≠none:=by intro e;rw [e] at h3;cases h3
 simp [callFunc,go_sem,h1,h2',h3']
def Sound (P:Program) (f:FuncId) (args:List AV) (r:AV):Prop:=Callable P f∧SoundPure P f args r
variable {s : St} {a : Act}
theorem wd6 {l1:List Operand} {l2:List TypeId} (h:l1.length≤l2.length):((l1.zip l2).map fun x=>a.eval x.1)=l1.map a.eval:=by
 induction l1 generalizing l2 with
 | nil=>rfl
 | cons x l1 ih =>
  cases l2 with
  | nil=>simp at h
  | cons y l2=>simp only [List.zip_cons_cons,List.map_cons,ih (by simpa using h)]
theorem RepL.weakL : ∀ {xs : List AV} {us : List Value}, RepL P c w xs us → RepL P c w (AV.weakL xs) us
 | _,_,.nil=>.nil
 | _,_,.cons h _ hl=>.cons h.weak (Own.weak _ _) hl.weakL
end
namespace AV
mutual
def dp : AV → AV
 | .lst _ s xs=>.lst .any s (dpL xs)
 | .ro x=>.ro (dp x)
 | .agg xs=>.agg (dpL xs)
 | .tup xs=>.tup (dpL xs)
 | .fn f a b=>.fn f (dpL a) (dpL b)
 | x=>x
def dpL : List AV → List AV
 | []=>[]
 | x :: xs=>dp x :: dpL xs
end
mutual
theorem tl_dp : (x : AV) → x.dp.tl = true
 | .lst _ _ _=>rfl
 | .agg xs=>tl_dpL xs
 | .tup xs=>tl_dpL xs
 | .any=>rfl
 | .v _=>rfl
 | .ro _=>rfl
 | .loc _ _=>rfl
 | .arr _ _ _ _=>rfl
 | .fn _ _ _=>rfl
 | .mp _=>rfl
 | .yld _=>rfl
theorem tl_dpL : (xs : List AV) → AV.tlL (AV.dpL xs) = true
 | []=>rfl
 | x :: xs=>by simp only [AV.dpL,AV.tlL,tl_dp x,tl_dpL xs,Bool.and_self]
end
mutual
theorem rf_dp : (x : AV) → x.rf = true → x.dp.rf = true
 | .lst _ _ _,_=>rfl
 | .agg xs,h=>rfL_dp xs (by simpa [AV.rf] using h)
 | .tup xs,h=>rfL_dp xs (by simpa [AV.rf] using h)
 | .fn _ a b,h=>by
  simp only [AV.rf,Bool.and_eq_true] at h
  simp only [AV.dp,AV.rf,Bool.and_eq_true]
  exact ⟨rfL_dp a h.1,rfL_dp b h.2⟩
 | .any,_=>rfl
 | .v _,_=>rfl
 | .ro _,_=>rfl
theorem rfL_dp : (xs : List AV) → AV.rfL xs = true → AV.rfL (AV.dpL xs) = true
 | [],_=>rfl
 | x :: xs,h=>by
  simp only [AV.rfL,Bool.and_eq_true] at h
  simp only [AV.dpL,AV.rfL,Bool.and_eq_true]
  exact ⟨rf_dp x h.1,rfL_dp xs h.2⟩
end
end AV
theorem wt8 (xs:List AV) (j:Nat):(AV.dpL xs)[j]?=(xs[j]?).map AV.dp:=by
 induction xs generalizing j with
 | nil=>simp [AV.dpL]
 | cons x xs ih=>cases j <;> simp [AV.dpL,ih]
theorem wf9 (xs:List AV):(AV.dpL xs).length=xs.length:=by
 induction xs <;> simp_all [AV.dpL]
theorem vp7 (x:AV):x.dp.cells=AV.dpL x.cells:=by
 cases x <;> simp [AV.dp,AV.cells,AV.dpL]
theorem Rep.dp {c:Ctx} {w:World} {x:AV} {u:Value} (h:Rep c w x u):Rep c w x.dp u:=by
 induction h with
 | @lst o s xs a n cap u hn hcap hmax hs hsz hrf hz hnil hc hr ih =>
  refine .lst u (by rw [wf9];exact hn) hcap hmax (fun hne=>hs (fun e=>hne (by rw [e];rfl))) ?_ (AV.rfL_dp _ hrf) hz trivial hc ?_
  ·intro y hy
   obtain ⟨j,hj,rfl⟩:=List.mem_iff_getElem.1 hy
   have hj':j < xs.length:=by rw [wf9] at hj;exact hj
   have h1:=wt8 xs j
   rw [List.getElem?_eq_getElem hj,List.getElem?_eq_getElem hj'] at h1
   simp only [Option.map_some,Option.some.injEq] at h1
   rw [h1,vp7,wf9]
   exact hsz _ (List.getElem_mem hj')
  ·intro i j y z hi hj
   rw [wt8] at hi
   obtain ⟨x,hx,rfl⟩:=Option.map_eq_some_iff.1 hi
   rw [vp7,wt8] at hj
   obtain ⟨z',hz',rfl⟩:=Option.map_eq_some_iff.1 hj
   exact ih i j x z' hx hz'
 | @ro x ad u hrf hc hr ih =>
  refine .ro u (AV.rf_dp _ hrf) ?_ ?_
  ·intro k hk
   rw [vp7,wf9] at hk
   exact hc k hk
  ·intro j y hj
   rw [vp7,wt8] at hj
   obtain ⟨z',hz',rfl⟩:=Option.map_eq_some_iff.1 hj
   exact ih j z' hz'
 | agg h _ ih =>
  refine .agg (by rw [wf9];exact h) fun j y hj=>?_
  rw [wt8] at hj
  obtain ⟨x,hx,rfl⟩:=Option.map_eq_some_iff.1 hj
  exact ih j x hx
 | tup h _ ih =>
  refine .tup (by rw [wf9];exact h) fun j y hj=>?_
  rw [wt8] at hj
  obtain ⟨x,hx,rfl⟩:=Option.map_eq_some_iff.1 hj
  exact ih j x hx
 | fn h1 h2 _ _ i1 i2 =>
  refine .fn (by rw [wf9];exact h1) (by rw [wf9];exact h2) (fun j y hj=>?_) (fun j y hj=>?_)
  ·rw [wt8] at hj
   obtain ⟨x,hx,rfl⟩:=Option.map_eq_some_iff.1 hj
   exact i1 j x hx
  ·rw [wt8] at hj
   obtain ⟨x,hx,rfl⟩:=Option.map_eq_some_iff.1 hj
   exact i2 j x hx
 | any u=>exact .any u
 | v x=>exact .v x
 | loc h=>exact .loc h
 | arr h h1 h2=>exact .arr h h1 h2
 | mp h=>exact .mp h
 | yld h=>exact .yld h
theorem RepL.dpL {P : Program} {c : Ctx} {w : World} : ∀ {xs : List AV} {us : List Value}, RepL P c w xs us → RepL P c w (AV.dpL xs) us
 | _,_,.nil=>.nil
 | _,_,.cons h _ hl=>.cons h.dp (.none (AV.tl_dp _)) hl.dpL
namespace AV
mutual
def nl : AV → AV
 | .lst .nil s xs=>.lst .nil s (nlL xs)
 | .lst _ s xs=>.lst .any s (nlL xs)
 | .ro x=>.ro (nl x)
 | .agg xs=>.agg (nlL xs)
 | .tup xs=>.tup (nlL xs)
 | .fn f a b=>.fn f (nlL a) (nlL b)
 | x=>x
def nlL : List AV → List AV
 | []=>[]
 | x :: xs=>nl x :: nlL xs
end
def nlO : Fl → Fl
 | .nil=>.nil
 | _=>.any
theorem nl_lst (o:Fl) (s:Nat) (xs:List AV):nl (.lst o s xs)=.lst (nlO o) s (nlL xs):=by cases o <;> rfl
mutual
theorem tl_nl : (x : AV) → x.nl.tl = true
 | .lst o _ _=>by rw [nl_lst];cases o <;> rfl
 | .agg xs=>tl_nlL xs
 | .tup xs=>tl_nlL xs
 | .any=>rfl
 | .v _=>rfl
 | .ro _=>rfl
 | .loc _ _=>rfl
 | .arr _ _ _ _=>rfl
 | .fn _ _ _=>rfl
 | .mp _=>rfl
 | .yld _=>rfl
theorem tl_nlL : (xs : List AV) → AV.tlL (AV.nlL xs) = true
 | []=>rfl
 | x :: xs=>by simp only [AV.nlL,AV.tlL,tl_nl x,tl_nlL xs,Bool.and_self]
end
mutual
theorem rf_nl' : (x : AV) → x.rf = true → x.nl.rf = true
 | .lst o _ _,_=>by rw [nl_lst];rfl
 | .agg xs,h=>rfL_nlL' xs (by simpa [AV.rf] using h)
 | .tup xs,h=>rfL_nlL' xs (by simpa [AV.rf] using h)
 | .fn _ a b,h=>by
  simp only [AV.rf,Bool.and_eq_true] at h
  simp only [AV.nl,AV.rf,Bool.and_eq_true]
  exact ⟨rfL_nlL' a h.1,rfL_nlL' b h.2⟩
 | .any,_=>rfl
 | .v _,_=>rfl
 | .ro x,h=>by
  simp only [AV.nl]
  exact h
theorem rfL_nlL' : (xs : List AV) → AV.rfL xs = true → AV.rfL (AV.nlL xs) = true
 | [],_=>rfl
 | x :: xs,h=>by
  simp only [AV.rfL,Bool.and_eq_true] at h
  simp only [AV.nlL,AV.rfL,Bool.and_eq_true]
  exact ⟨rf_nl' x h.1,rfL_nlL' xs h.2⟩
end
mutual
theorem dp_nl : (x : AV) → x.nl.dp = x.dp
 | .lst o _ xs=>by rw [nl_lst];simp only [AV.dp,dpL_nlL xs]
 | .agg xs=>by simp only [AV.nl,AV.dp,dpL_nlL xs]
 | .tup xs=>by simp only [AV.nl,AV.dp,dpL_nlL xs]
 | .fn _ a b=>by simp only [AV.nl,AV.dp,dpL_nlL a,dpL_nlL b]
 | .any=>rfl
 | .v _=>rfl
 | .ro x=>by simp only [AV.nl,AV.dp,dp_nl x]
 | .loc _ _=>rfl
 | .arr _ _ _ _=>rfl
 | .mp _=>rfl
 | .yld _=>rfl
theorem dpL_nlL : (xs : List AV) → AV.dpL (AV.nlL xs) = AV.dpL xs
 | []=>rfl
 | x :: xs=>by simp only [AV.nlL,AV.dpL,dp_nl x,dpL_nlL xs]
end
end AV
theorem vg8 (xs:List AV) (j:Nat):(AV.nlL xs)[j]?=(xs[j]?).map AV.nl:=by
 induction xs generalizing j with
 | nil=>simp [AV.nlL]
 | cons x xs ih=>cases j <;> simp [AV.nlL,ih]
theorem ul9 (xs:List AV):(AV.nlL xs).length=xs.length:=by
 induction xs <;> simp_all [AV.nlL]
theorem vw7 (x:AV):x.nl.cells=AV.nlL x.cells:=by
 cases x with
 | lst o s xs=>rw [AV.nl_lst];simp [AV.cells,AV.nlL,AV.nl_lst]
 | _=>simp [AV.nl,AV.cells,AV.nlL]
theorem Rep.nl {c:Ctx} {w:World} {x:AV} {u:Value} (h:Rep c w x u):Rep c w x.nl u:=by
 induction h with
 | @lst o s xs a n cap u hn hcap hmax hs hsz hrf hz hnil hc hr ih =>
  rw [AV.nl_lst]
  refine .lst u (by rw [ul9];exact hn) hcap hmax (fun hne=>hs (fun e=>hne (by rw [e];rfl))) ?_ (AV.rfL_nlL' _ hrf) hz ?_ hc ?_
  ·intro y hy
   obtain ⟨j,hj,rfl⟩:=List.mem_iff_getElem.1 hy
   have hj':j < xs.length:=by rw [ul9] at hj;exact hj
   have h1:=vg8 xs j
   rw [List.getElem?_eq_getElem hj,List.getElem?_eq_getElem hj'] at h1
   simp only [Option.map_some,Option.some.injEq] at h1
   rw [h1,vw7,ul9]
   exact hsz _ (List.getElem_mem hj')
  ·cases o with
   | nil=>exact hnil
   | _=>trivial
  ·intro i j y z hi hj
   rw [vg8] at hi
   obtain ⟨x,hx,rfl⟩:=Option.map_eq_some_iff.1 hi
   rw [vw7,vg8] at hj
   obtain ⟨z',hz',rfl⟩:=Option.map_eq_some_iff.1 hj
   exact ih i j x z' hx hz'
 | @ro x ad u hrf hc hr ih =>
  refine .ro u (AV.rf_nl' _ hrf) ?_ ?_
  ·intro k hk
   rw [vw7,ul9] at hk
   exact hc k hk
  ·intro j y hj
   rw [vw7,vg8] at hj
   obtain ⟨z',hz',rfl⟩:=Option.map_eq_some_iff.1 hj
   exact ih j z' hz'
 | agg h _ ih =>
  refine .agg (by rw [ul9];exact h) fun j y hj=>?_
  rw [vg8] at hj
  obtain ⟨x,hx,rfl⟩:=Option.map_eq_some_iff.1 hj
  exact ih j x hx
 | tup h _ ih =>
  refine .tup (by rw [ul9];exact h) fun j y hj=>?_
  rw [vg8] at hj
  obtain ⟨x,hx,rfl⟩:=Option.map_eq_some_iff.1 hj
  exact ih j x hx
 | fn h1 h2 _ _ i1 i2 =>
  refine .fn (by rw [ul9];exact h1) (by rw [ul9];exact h2) (fun j y hj=>?_) (fun j y hj=>?_)
  ·rw [vg8] at hj
   obtain ⟨x,hx,rfl⟩:=Option.map_eq_some_iff.1 hj
   exact i1 j x hx
  ·rw [vg8] at hj
   obtain ⟨x,hx,rfl⟩:=Option.map_eq_some_iff.1 hj
   exact i2 j x hx
 | any u=>exact .any u
 | v x=>exact .v x
 | loc h=>exact .loc h
 | arr h h1 h2=>exact .arr h h1 h2
 | mp h=>exact .mp h
 | yld h=>exact .yld h
theorem RepL.nlL {P : Program} {c : Ctx} {w : World} : ∀ {xs : List AV} {us : List Value}, RepL P c w xs us → RepL P c w (AV.nlL xs) us
 | _,_,.nil=>.nil
 | _,_,.cons h _ hl=>.cons h.nl (.none (AV.tl_nl _)) hl.nlL
theorem Sound.ofDp {P:Program} {f:FuncId} {xs:List AV} {r:AV} (h:Sound P f (AV.dpL xs) r):Sound P f (AV.nlL xs) r :=
 ⟨h.1,fun F n c w vals T h1 h2 h3 h4 h5=>h.2 F n c w vals T h1 h2 h3 h4 (by have:=h5.dpL;rwa [AV.dpL_nlL] at this)⟩
end Go.AM
namespace Go.AM
open Go.RowKit
section
variable {P : Program}
structure Shut (base:Nat→Prop) (w w':World):Prop where
 os:w'.os=w.os
 tape:w'.tape=w.tape
 output:w'.output=w.output
 size:w'.heap.size=w.heap.size
 below:∀ b,¬ base b→w'.heap[b]?=w.heap[b]?
 objs:∀ (b:Nat) o,w.heap[b]?=some o→(∀ x,o≠Go.Obj.deferred x)→w'.heap[b]?=some o
theorem Shut.cells {base:Nat→Prop} {w w':World} (h:Shut base w w') (b:Nat) (cur:Array Value) (e:TypeId) (m:Nat × Nat) (hc:w.heap[b]?=some (Go.Obj.cells cur e m)):w'.heap[b]?=some (Go.Obj.cells cur e m) :=
 h.objs b _ hc (by simp)
theorem Shut.refl (base:Nat→Prop) (w:World):Shut base w w:=⟨rfl,rfl,rfl,rfl,fun _ _=>rfl,fun _ _ h _=>h⟩
theorem Shut.trans {base:Nat→Prop} {w w' w'':World} (h:Shut base w w') (k:Shut base w' w''):Shut base w w'' :=
 ⟨k.os.trans h.os,k.tape.trans h.tape,k.output.trans h.output,k.size.trans h.size,fun b hb=>(k.below b hb).trans (h.below b hb),fun b o hc hn=>k.objs b o (h.objs b o hc hn) hn⟩
theorem Shut.cell {base:Nat→Prop} {w w':World} (h:Shut base w w') {a:Addr} {u:Value} (hc:w.cell? a=some u):w'.cell? a=some u:=by
 unfold World.cell? at hc ⊢
 cases hb:w.heap[a.block]? with
 | none=>simp [hb] at hc
 | some o =>
  cases o with
  | cells cur e m=>rw [h.cells _ _ _ _ hb];rw [hb] at hc;exact hc
  | _=>simp [hb] at hc
variable {c : Ctx} {w w' : World}
theorem Rep.recell (h:∀ a u,w.cell? a=some u→w'.cell? a=some u) {x:AV} {u:Value} (hr:Rep c w x u):Rep c w' x u:=by
 induction hr with
 | any u=>exact .any u
 | v x=>exact .v x
 | lst u hn hcap hmax hs hsz hrf hz hnil hc _ ih =>
  exact .lst u hn hcap hmax hs hsz hrf hz hnil (fun ad k ha hk=>let ⟨h1,h2,h3⟩:=hc ad k ha hk;⟨h _ _ h1,h2,h3⟩) ih
 | ro u hrf hc _ ih=>exact .ro u hrf (fun k hk=>let ⟨h1,h2,h3⟩:=hc k hk;⟨h _ _ h1,h2,h3⟩) ih
 | loc h=>exact .loc h
 | arr h h1 h2=>exact .arr h h1 h2
 | fn h1 h2 _ _ i1 i2=>exact .fn h1 h2 i1 i2
 | agg h _ ih=>exact .agg h ih
 | tup h _ ih=>exact .tup h ih
 | mp h=>exact .mp h
 | yld h=>exact .yld h
theorem TipAt.recell {base:Nat→Prop} (h:Shut base w w') {e T:Nat} {a:Option Addr} {n cap:Nat} (ht:TipAt P c w e T a n cap):TipAt P c w' e T a n cap:=by
 rcases ht with ht | ⟨g,cur,h1,h2,h3,h4⟩
 ·exact .inl ht
 ·exact .inr ⟨g,cur,h1,h2,h.cells _ _ _ _ h3,h4⟩
theorem Own.recell {base:Nat→Prop} (h:Shut base w w') {x:AV} {u:Value} (ho:Own P c w x u):Own P c w' x u:=by
 induction ho with
 | none h=>exact .none h
 | tip hT hs ht=>exact .tip hT hs (ht.recell h)
 | agg _ ih=>exact .agg ih
 | tup _ ih=>exact .tup ih
theorem xn9.recell {base:Nat→Prop} (h:Shut base w w') {id:Nat} {o:AObj} (ho:xn9 P c w id o):xn9 P c w' id o:=by
 cases o with
 | cells ty cs =>
  obtain ⟨h1,h2,h3,cur,h4,h5,h6⟩:=ho
  exact ⟨h1,h2,h3,cur,h.cells _ _ _ _ h4,h5,fun j y hj=>⟨(h6 j y hj).1.recell fun _ _=>h.cell,(h6 j y hj).2.1.recell h,(h6 j y hj).2.2⟩⟩
 | froz ty cs =>
  intro j y hj
  obtain ⟨u,h1,h2,h3,h4⟩:=ho j y hj
  exact ⟨u,h.cell h1,h2,h3,h4.recell fun _ _=>h.cell⟩
 | map es =>
  obtain ⟨h1,h2,h3,cur,clock,h4,h5,h6⟩:=ho
  exact ⟨h1,h2,h3,cur,clock,h.objs _ _ h4 (by simp),h5,fun j k y hj=>let ⟨e,e1,e2,e3⟩:=h6 j k y hj;⟨e,e1,e2,e3.recell fun _ _=>h.cell⟩⟩
 | loop n fr ps as body st =>
  obtain ⟨h1,h2,h3,r,h4,h5,h6,h7⟩:=ho
  exact ⟨h1,h2,h3,r,h.objs _ _ h4 (by simp),h5,fun i x hx=>let ⟨h0,u,e1,e2⟩:=h6 i x hx;⟨h0,u,e1,e2.recell fun _ _=>h.cell⟩,h7⟩
 | dead=>trivial
theorem SimSt.recell {base:Nat→Prop} (h:Shut base w w') {s:St} {a:Act} (hs:SimSt P c w s a):SimSt P c w' s { a with defers:=[] } :=
 ⟨hs.n, by rw [h.size]; exact hs.base, fun i x hx => let ⟨u, h1, h2, h3⟩ := hs.fr i x hx; ⟨u, h1, h2.recell fun _ _ => h.cell, h3.recell h⟩,
  ⟨hs.h.no,fun i hi=>by rw [h.size];exact hs.h.lt i hi,hs.h.inj,fun i o ho=>(hs.h.obj i o ho).recell h⟩,⟨[],rfl,.nil,by simp⟩⟩
theorem ut7 {F : Fence} {n : Nat} {fn : Func} {tmps : Array Value} {R : Ending → World → Prop} {base : Nat → Prop} : ∀ (rs : List Nat) (w : World), rs.Nodup → (∀ r ∈ rs, base r ∧ w.heap[r]? = some (Go.Obj.deferred (some []))) →
  ∃ w',Shut base w w'∧(LeavesInM F n P fn tmps R [] .returning w'→LeavesInM F n P fn tmps R (rs.map mark) .returning w)
 | [],w,_,_=>⟨w,Shut.refl _ _,id⟩
 | r :: rs,w,hn,hr=>by
  obtain ⟨hb,hd⟩:=hr r (by simp)
  have hother:∀ b,b≠r→(w.putObj r (.deferred none)).heap[b]?=w.heap[b]?:=fun b hne=>World.putObj_heap_other hne
  obtain ⟨w',h1,h2⟩:=ut7 (F:=F) (n:=n) (fn:=fn) (tmps:=tmps) (R:=R) rs (w.putObj r (.deferred none)) (List.nodup_cons.1 hn).2 (fun r' hr'=>by
   refine ⟨(hr r' (by simp [hr'])).1,?_⟩
   rw [hother r' (fun e=>(List.nodup_cons.1 hn).1 (e ▸ hr'))]
   exact (hr r' (by simp [hr'])).2)
  refine ⟨w',Shut.trans (w':=w.putObj r (.deferred none)) ⟨rfl,rfl,rfl,by simp,fun b hlt=>hother b (fun e=>hlt (by rw [e];exact hb)),fun b o hc hn=>?_⟩ h1,fun h=>?_⟩
  ·rw [hother b (fun e'=>by subst e';rw [hd] at hc;cases hc;exact hn _ rfl)];exact hc
  ·exact ⟨by simp,.inl ⟨r,_,rfl,run_takeDeferred hd,h2 h⟩⟩
def retQ (P:Program) (rs:List ResultVar) (r:AV) (e:Exit) (s:St):Prop :=
 (e=.normal∨e=.ret)∧∃ x h',resA P s rs=some x∧frzV P 1 s.h x=some (r,h')∧r.rf=true
mutual
theorem qf7 (T : Nat) : (x : AV) → x.tl = true → (x.norm T).tl = true
 | .lst (.tip _ _) _ _,h=>by simp [AV.tl] at h
 | .lst .any _ _,_=>rfl
 | .lst .nil _ _,_=>rfl
 | .lst .ex _ _,_=>rfl
 | .agg xs,h=>norm_tlL T xs (by simpa [AV.tl] using h)
 | .tup xs,h=>norm_tlL T xs (by simpa [AV.tl] using h)
 | .any,_=>rfl
 | .v _,_=>rfl
 | .ro _,_=>rfl
 | .loc _ _,_=>rfl
 | .arr _ _ _ _,_=>rfl
 | .fn _ _ _,_=>rfl
 | .mp _,_=>rfl
 | .yld _,_=>rfl
theorem norm_tlL (T : Nat) : (xs : List AV) → AV.tlL xs = true → AV.tlL (AV.normL T xs) = true
 | [],_=>rfl
 | x :: xs,h=>by
  simp only [AV.tlL,AV.normL,Bool.and_eq_true] at h ⊢
  exact ⟨qf7 T x h.1,norm_tlL T xs h.2⟩
end
theorem Own.recast {c c':Ctx} {w:World} {T:Nat} (hT:T % 2=1) (hb:∀ b,c.base b→c'.base b) (hpm:c'.pm=c.pm) (how:∀ g,c.base g→c'.ow g=T) {x:AV} {u:Value} (ho:Own P c w x u):Own P c' w (x.norm T) u:=by
 induction ho with
 | @none x u h =>
  refine .none ?_
  exact qf7 T x h
 | @tip e U s xs a n cap hU hs ht =>
  refine .tip (by omega) hs ?_
  rcases ht with ht | ⟨g,cur,h1,h2,h3,h4,h5,h6,h7⟩
  ·exact .inl ht
  ·exact .inr ⟨g,cur,h1,hb g h2,h3,h4,by rw [hpm];exact h5,how g h2,h7⟩
 | @agg xs vs h ih =>
  refine .agg fun j y hj=>?_
  rw [kp9] at hj
  obtain ⟨x,hx,rfl⟩:=Option.map_eq_some_iff.1 hj
  exact ih j x hx
 | @tup xs vs h ih =>
  refine .tup fun j y hj=>?_
  rw [kp9] at hj
  obtain ⟨x,hx,rfl⟩:=Option.map_eq_some_iff.1 hj
  exact ih j x hx
theorem RepL.enter {c c' : Ctx} {w : World} (hp : c'.pm = c.pm) : ∀ {xs : List AV} {us : List Value}, RepL P c w xs us → AV.rfL xs = true → AV.tlL xs = true → RepL P c' w xs us
 | _,_,.nil,_,_=>.nil
 | _,_,.cons h ho hl,hr,ht=>by
  simp only [AV.rfL,AV.tlL,Bool.and_eq_true] at hr ht
  exact .cons (h.recast (fun a ha=>by unfold Ctx.prot at *;rw [hp];exact ha) hr.1) (.none ht.1) (hl.enter hp hr.2 ht.2)
theorem yc9 {f : FuncId} {fn : Func} {code : Code} {args : List AV} {r : AV} (hf : P.funcs[f]? = some fn) (hb : fn.body = some code) (hn : (fn.name == "runtime.NumGoroutine") = false)
  (hlen:args.length≤fn.ntmps) (hrf:AV.rfL args=true) (htl:AV.tlL args=true) {rs:List ResultVar} (hrs:fn.results.toList=rs) (h:W P code (retQ P rs r) ⟨fn.ntmps,numF 0 args,[]⟩):Sound P f args r:=by
 subst hrs
 refine ⟨⟨fn,hf,hn,by rw [hb];rfl⟩,?_⟩
 intro F n c w vals T hF hro hT hbase hargs
 let c0:Ctx:={ c with base:=fun b=>w.heap.size≤b,no:=0 }
 have hargs0:RepL P c0 w args vals:=RepL.enter (c:=c) (c':=c0) rfl hargs hrf htl
 have hl:args.length=vals.length:=hargs.length
 refine callsIn_of_wp_marks hf hb (hF.1 f) ?_ hro
 have hs0:SimSt P c0 w ⟨fn.ntmps,numF 0 args,[]⟩ { tmps:=vals.toArray++Array.replicate (fn.ntmps - vals.toArray.size) undef,defers:=[] }:=by
  refine ⟨by simp;omega,fun _ h=>h,?_,⟨rfl,fun i hi=>absurd hi (Nat.not_lt_zero _),fun i j hi=>absurd hi (Nat.not_lt_zero _),by simp⟩,⟨[],rfl,.nil,by simp⟩⟩
  intro i x hx
  obtain ⟨h1,h2⟩:=jf8 args 0 i x hx
  obtain ⟨u,hu,hr,ho⟩:=hargs0.get (by simpa using h2)
  have hi:i < vals.length:=(List.getElem?_eq_some_iff.1 hu).1
  exact ⟨u,by rw [Array.getElem?_append_left (by simpa using hi)];simpa using hu,hr,ho⟩
 refine wpIn_mono (h F n c0 w _ (hF.top hro (Nat.zero_le _) true) hs0) ?_
 rintro e a' w' ⟨s',c',⟨he,x,h',hres,hfr,hrr⟩,hs',hext⟩
 have key:LeavesInM F n P fn a'.tmps (fun e w'=>∃ u c',e=.returned u∧PExt c w c' w'∧Rep c' w' (r.norm T) u∧Own P (c'.rebase fun b=>w.heap.size≤b) w' (r.norm T) u) a'.defers .returning w':=by
  obtain ⟨rs,hd,hnd,hrs⟩:=hs'.dfr
  obtain ⟨w2,hsh,hleave⟩:=ut7 (F:=F) (n:=n) (fn:=fn) (tmps:=a'.tmps) (R:=fun e w'=>∃ u c',e=.returned u∧PExt c w c' w'∧Rep c' w' (r.norm T) u∧Own P (c'.rebase fun b=>w.heap.size≤b) w' (r.norm T) u) rs w' hnd hrs
  rw [hd]
  refine hleave ?_
  have hs2:=hs'.recell hsh
  obtain ⟨v,hrun,hrep,hown⟩:=up8 hs2 hres
  obtain ⟨c3,e3,k3,s3,r3,o3⟩:=jd9 (by decide) x s' c' r h' v hs2 hfr hrep hown
  have hb':c'.base=(fun b=>w.heap.size≤b):=hext.base
  have hb3:c3.base=(fun b=>w.heap.size≤b):=by rw [e3.base,hb']
  let cF:Ctx:={ c with pm:=c3.pm,ow:=fun b=>if b < w.heap.size then c.ow b else T }
  refine ⟨v,hrun,v,cF,rfl,⟨rfl,rfl,rfl,by rw [hsh.os];exact hext.os,by rw [hsh.tape];exact hext.tape,by rw [hsh.output];exact hext.output,by rw [hsh.size];exact hext.size,?_,?_,?_⟩,?_,?_⟩
  ·intro b hlt
   rw [hsh.below b (by rw [hb'];simpa using hlt)]
   exact hext.below b (by simpa [c0] using hlt)
  ·intro b hlt
   have h1:c3.pm b=c'.pm b:=e3.pmb b (by rw [hb'];simpa using hlt)
   have h2:c'.pm b=c.pm b:=hext.pmb b (by simpa [c0] using hlt)
   exact h1.trans h2
  ·intro b hlt
   simp only [cF,if_pos hlt]
  ·exact (Rep.recast (c:=c3) (c':=cF) (fun a ha=>ha) r3 hrr).norm hT
  ·refine Own.recast (c := c3) (c' := cF.rebase fun b => w.heap.size ≤ b) hT ?_ rfl ?_ o3
   ·rw [hb3];exact fun _ h=>h
   ·intro g hg
    rw [hb3] at hg
    simp only [cF,Ctx.rebase,if_neg (show ¬ g < w.heap.size by omega)]
 rcases he with rfl | rfl
 ·exact key
 ·exact key
end
end Go.AM
namespace Go.AM
open Go.RowKit
namespace AV
mutual
def killS (l : List Nat) : AV → AV
 | .lst (.tip e U) s xs=>if l.contains U then .lst (Fl.tip e U).wk s xs else .lst (.tip e U) s xs
 | .agg xs=>.agg (killSL l xs)
 | .tup xs=>.tup (killSL l xs)
 | x=>x
def killSL (l : List Nat) : List AV → List AV
 | []=>[]
 | x :: xs=>killS l x :: killSL l xs
end
mutual
def toks : AV → List Nat
 | .lst (.tip _ U) _ _=>[U]
 | .agg xs | .tup xs=>toksL xs
 | _=>[]
def toksL : List AV → List Nat
 | []=>[]
 | x :: xs=>toks x++toksL xs
end
mutual
def under (m : Nat) : AV → Bool
 | .loc id _ | .arr id _ _ _ | .mp id | .yld id=>id < m
 | .fn _ a b=>underL m a&&underL m b
 | .agg xs | .tup xs=>underL m xs
 | _=>true
def underL (m : Nat) : List AV → Bool
 | []=>true
 | x :: xs=>under m x&&underL m xs
end
end AV
def AObj.toks : AObj → List Nat
 | .cells _ cs=>AV.toksL cs
 | _=>[]
def wj8 : List AObj → List Nat
 | []=>[]
 | o :: h=>o.toks++wj8 h
def xt9 (m : Nat) : List (Value × AV) → Bool
 | []=>true
 | (_,x) :: l=>x.under m&&xt9 m l
def zk9 (m : Nat) : List (Nat × AV) → Bool
 | []=>true
 | (_,x) :: l=>x.under m&&zk9 m l
def AObj.under (m : Nat) : AObj → Bool
 | .cells _ cs=>AV.underL m cs
 | .froz _ cs=>AV.underL m cs
 | .map es=>xt9 m es
 | .loop _ fr _ _ _ _=>zk9 m fr
 | .dead=>true
def yn9 (m : Nat) : List AObj → Bool
 | []=>true
 | o :: h=>o.under m&&yn9 m h
def kv9 (l : List Nat) : List (Nat × AV) → List (Nat × AV)
 | []=>[]
 | (j,y) :: fr=>(j,y.killS l) :: kv9 l fr
section lists
theorem ug8 (T:List Nat) (xs:List AV) (j:Nat):(AV.killSL T xs)[j]?=(xs[j]?).map (AV.killS T):=by
 induction xs generalizing j with
 | nil=>simp [AV.killSL]
 | cons x xs ih=>cases j <;> simp [AV.killSL,ih]
theorem jl8 (T:List Nat) (xs:List AV):(AV.killSL T xs).length=xs.length:=by
 induction xs <;> simp_all [AV.killSL]
theorem getF_killSF (T:List Nat) (fr:List (Nat × AV)) (i:Nat):getF (kv9 T fr) i=(getF fr i).map (AV.killS T):=by
 induction fr with
 | nil=>rfl
 | cons p l ih =>
  obtain ⟨j,y⟩:=p
  simp only [kv9,getF]
  split
  ·simp
  ·exact ih
theorem kv8 {xs:List AV} {j:Nat} {y:AV} {t:Nat} (hy:xs[j]?=some y) (ht:t∈y.toks):t∈AV.toksL xs:=by
 induction xs generalizing j with
 | nil=>simp at hy
 | cons x xs ih =>
  simp only [AV.toksL,List.mem_append]
  cases j with
  | zero=>simp at hy;subst hy;exact .inl ht
  | succ j=>exact .inr (ih (by simpa using hy))
theorem toksH_mem {h:List AObj} {j:Nat} {o:AObj} {t:Nat} (hy:h[j]?=some o) (ht:t∈o.toks):t∈wj8 h:=by
 induction h generalizing j with
 | nil=>simp at hy
 | cons x xs ih =>
  simp only [wj8,List.mem_append]
  cases j with
  | zero=>simp at hy;subst hy;exact .inl ht
  | succ j=>exact .inr (ih (by simpa using hy))
theorem jt9 {m:Nat} {xs:List AV} (h:AV.underL m xs=true) {j:Nat} {y:AV} (hy:xs[j]?=some y):y.under m=true:=by
 induction xs generalizing j with
 | nil=>simp at hy
 | cons x xs ih =>
  simp only [AV.underL,Bool.and_eq_true] at h
  cases j with
  | zero=>simp at hy;subst hy;exact h.1
  | succ j=>exact ih h.2 (by simpa using hy)
theorem wf7 {m:Nat} {xs:List (Value × AV)} (h:xt9 m xs=true) {j:Nat} {k:Value} {y:AV} (hy:xs[j]?=some (k,y)):y.under m=true:=by
 induction xs generalizing j with
 | nil=>simp at hy
 | cons x xs ih =>
  obtain ⟨k',x⟩:=x
  simp only [xt9,Bool.and_eq_true] at h
  cases j with
  | zero=>simp at hy;obtain ⟨_,rfl⟩:=hy;exact h.1
  | succ j=>exact ih h.2 (by simpa using hy)
theorem kt7 {m:Nat} {xs:List (Nat × AV)} (h:zk9 m xs=true) {i:Nat} {y:AV} (hy:getF xs i=some y):y.under m=true:=by
 induction xs with
 | nil=>simp [getF] at hy
 | cons p xs ih =>
  obtain ⟨j,x⟩:=p
  simp only [zk9,Bool.and_eq_true] at h
  simp only [getF] at hy
  split at hy
  ·cases hy;exact h.1
  ·exact ih h.2 hy
theorem yn6 {m:Nat} {xs:List AObj} (h:yn9 m xs=true) {j:Nat} {y:AObj} (hy:xs[j]?=some y):y.under m=true:=by
 induction xs generalizing j with
 | nil=>simp at hy
 | cons x xs ih =>
  simp only [yn9,Bool.and_eq_true] at h
  cases j with
  | zero=>simp at hy;subst hy;exact h.1
  | succ j=>exact ih h.2 (by simpa using hy)
end lists
section
variable {P : Program} {c c' : Ctx} {w w' : World}
theorem Rep.killS {T:List Nat} {x:AV} {u:Value} (h:Rep c w x u):Rep c w (x.killS T) u:=by
 induction h with
 | @lst o s xs a n cap u hn hcap hmax hs hsz hrf hz hnil hc hr _ =>
  cases o with
  | tip e U =>
   simp only [AV.killS]
   split
   ·exact .lst u hn hcap hmax hs hsz hrf hz (Fl.fits_wk hnil) hc hr
   ·exact .lst u hn hcap hmax hs hsz hrf hz hnil hc hr
  | ex=>exact .lst u hn hcap hmax hs hsz hrf hz hnil hc hr
  | any=>exact .lst u hn hcap hmax hs hsz hrf hz hnil hc hr
  | nil=>exact .lst u hn hcap hmax hs hsz hrf hz hnil hc hr
 | agg h _ ih =>
  refine .agg (by rw [jl8];exact h) fun j y hj=>?_
  rw [ug8] at hj
  obtain ⟨x,hx,rfl⟩:=Option.map_eq_some_iff.1 hj
  exact ih j x hx
 | tup h _ ih =>
  refine .tup (by rw [jl8];exact h) fun j y hj=>?_
  rw [ug8] at hj
  obtain ⟨x,hx,rfl⟩:=Option.map_eq_some_iff.1 hj
  exact ih j x hx
 | any u=>exact .any u
 | v x=>exact .v x
 | ro u hrf hc hr=>exact .ro u hrf hc hr
 | loc h=>exact .loc h
 | arr h h1 h2=>exact .arr h h1 h2
 | fn h1 h2 r1 r2=>exact .fn h1 h2 r1 r2
 | mp h=>exact .mp h
 | yld h=>exact .yld h
mutual
theorem killS_tl {T : List Nat} : (x : AV) → x.tl = true → (x.killS T) = x
 | .lst (.tip _ _) _ _,h=>by simp [AV.tl] at h
 | .lst .any _ _,_=>rfl
 | .lst .nil _ _,_=>rfl
 | .lst .ex _ _,_=>rfl
 | .agg xs,h=>by simp only [AV.killS,killSL_tl xs h]
 | .tup xs,h=>by simp only [AV.killS,killSL_tl xs h]
 | .any,_=>rfl
 | .v _,_=>rfl
 | .ro _,_=>rfl
 | .loc _ _,_=>rfl
 | .arr _ _ _ _,_=>rfl
 | .fn _ _ _,_=>rfl
 | .mp _,_=>rfl
 | .yld _,_=>rfl
theorem killSL_tl {T : List Nat} : (xs : List AV) → AV.tlL xs = true → AV.killSL T xs = xs
 | [],_=>rfl
 | x :: xs,h=>by
  simp only [AV.tlL,Bool.and_eq_true] at h
  simp only [AV.killSL,killS_tl x h.1,killSL_tl xs h.2]
end
theorem Own.killS {T : List Nat} (hb : c'.base = c.base)
  (hk:∀ g cur e,c.base g→w.heap[g]?=some (.cells cur e (0,0))→c.ow g≠0→T.contains (c.ow g)=false→w'.heap[g]?=w.heap[g]?∧c'.pm g=c.pm g∧c'.ow g=c.ow g)
  {x:AV} {u:Value} (h:Own P c w x u):Own P c' w' (x.killS T) u:=by
 induction h with
 | @none x u h=>rw [killS_tl x h];exact .none h
 | @tip e U s xs a n cap hU hs h =>
  simp only [AV.killS]
  split
  ·refine .none ?_
   simp only [Fl.wk];split <;> rfl
  ·rename_i hne
   refine .tip hU hs ?_
   rcases h with h | ⟨g,cur,h1,h2,h3,h4,h5,h6,h7⟩
   ·exact .inl h
   ·obtain ⟨k1,k2,k3⟩:=hk g cur e h2 h3 (by rw [h6];exact hU) (by rw [h6];simpa using hne)
    exact .inr (⟨g,cur,h1,by rw [hb];exact h2,k1.trans h3,h4,k2.trans h5,k3.trans h6,h7⟩)
 | @agg xs vs h ih =>
  refine .agg fun j y hj=>?_
  rw [ug8] at hj
  obtain ⟨x,hx,rfl⟩:=Option.map_eq_some_iff.1 hj
  exact ih j x hx
 | @tup xs vs h ih =>
  refine .tup fun j y hj=>?_
  rw [ug8] at hj
  obtain ⟨x,hx,rfl⟩:=Option.map_eq_some_iff.1 hj
  exact ih j x hx
theorem Rep.rebase (b:Nat→Prop) {x:AV} {u:Value} (h:Rep c w x u):Rep (c.rebase b) w x u:=by
 induction h with
 | any u=>exact .any u
 | v x=>exact .v x
 | lst u hn hcap hmax hs hsz hrf hz hnil hc _ ih=>exact .lst u hn hcap hmax hs hsz hrf hz hnil hc ih
 | ro u hrf hc _ ih=>exact .ro u hrf hc ih
 | loc h=>exact .loc (c:=c.rebase b) h
 | arr h h1 h2=>exact .arr (c:=c.rebase b) h h1 h2
 | fn h1 h2 _ _ i1 i2=>exact .fn h1 h2 i1 i2
 | agg h _ ih=>exact .agg h ih
 | tup h _ ih=>exact .tup h ih
 | mp h=>exact .mp (c:=c.rebase b) h
 | yld h=>exact .yld (c:=c.rebase b) h
theorem Own.rebase {b : Nat → Prop} {l : List Nat} (hb : ∀ g cur e, c.base g → w.heap[g]? = some (.cells cur e (0, 0)) → c.ow g ∈ l → b g)
  {x:AV} {u:Value} (h:Own P c w x u) (hl:∀ t∈x.toks,t∈l):Own P (c.rebase b) w x u:=by
 induction h with
 | none h=>exact .none h
 | @tip e U s xs a n cap hU hs h =>
  refine .tip hU hs ?_
  rcases h with h | ⟨g,cur,h1,h2,h3,h4,h5,h6,h7⟩
  ·exact .inl h
  ·exact .inr (⟨g,cur,h1,hb g cur e h2 h3 (by rw [h6];exact hl U (by simp [AV.toks])),h3,h4,h5,h6,h7⟩)
 | @agg xs vs _ ih=>exact .agg fun j y hj=>ih j y hj fun t ht=>hl t (by simp only [AV.toks];exact kv8 hj ht)
 | @tup xs vs _ ih=>exact .tup fun j y hj=>ih j y hj fun t ht=>hl t (by simp only [AV.toks];exact kv8 hj ht)
theorem Own.rebase_up {b:Nat→Prop} (hb:∀ g,c.base g→b g) {x:AV} {u:Value} (h:Own P c w x u):Own P (c.rebase b) w x u :=
 h.rebase (l:=x.toks) (fun g _ _ h _ _=>hb g h) (fun _ h=>h)
theorem xn9.rebase {b : Nat → Prop} {l : List Nat} (hb : ∀ g cur e, c.base g → w.heap[g]? = some (.cells cur e (0, 0)) → c.ow g ∈ l → b g) {id : Nat} {o : AObj}
  (hid:o.live=true→b (c.ob id)) (h:xn9 P c w id o) (hl:∀ t∈o.toks,t∈l):xn9 P (c.rebase b) w id o:=by
 cases o with
 | cells ty cs =>
  obtain ⟨h1,h2,h3,cur,h4,h5,h6⟩:=h
  exact ⟨hid rfl,h2,h3,cur,h4,h5,fun j y hj=>⟨(h6 j y hj).1.rebase b,(h6 j y hj).2.1.rebase hb (fun t ht=>hl t (kv8 hj ht)),(h6 j y hj).2.2⟩⟩
 | froz ty cs =>
  intro j y hj
  obtain ⟨u,h1,h2,h3,h4⟩:=h j y hj
  exact ⟨u,h1,h2,h3,h4.rebase b⟩
 | map es =>
  obtain ⟨h1,h2,h3,cur,clock,h4,h5,h6⟩:=h
  exact ⟨hid rfl,h2,h3,cur,clock,h4,h5,fun j k y hj=>let ⟨e,e1,e2,e3⟩:=h6 j k y hj;⟨e,e1,e2,e3.rebase b⟩⟩
 | loop n fr ps as body st =>
  obtain ⟨h1,h2,h3,r,h4,h5,h6,h7⟩:=h
  exact ⟨hid rfl,h2,h3,r,h4,h5,fun i x hx=>let ⟨h0,u,e1,e2⟩:=h6 i x hx;⟨h0,u,e1,e2.rebase b⟩,h7⟩
 | dead=>trivial
def Ctx.cut (c:Ctx) (m:Nat):Ctx:={ c with no:=m }
theorem Rep.cut {m:Nat} {x:AV} {u:Value} (h:Rep c w x u) (hb:x.under m=true):Rep (c.cut m) w x u:=by
 induction h with
 | any u=>exact .any u
 | v x=>exact .v x
 | lst u hn hcap hmax hs hsz hrf hz hnil hc hr _ =>
  exact .lst u hn hcap hmax hs hsz hrf hz hnil hc (fun i j x y hi hj=>Rep.recast (c:=c) (c':=c.cut m) (fun _ h=>h) (hr i j x y hi hj) (wc7 (xc8 hrf hi) hj))
 | ro u hrf hc hr _=>exact .ro u hrf hc (fun j y hj=>Rep.recast (c:=c) (c':=c.cut m) (fun _ h=>h) (hr j y hj) (wc7 hrf hj))
 | loc h=>exact .loc (c:=c.cut m) (by simpa [AV.under,Ctx.cut] using hb)
 | arr h h1 h2=>exact .arr (c:=c.cut m) (by simpa [AV.under,Ctx.cut] using hb) h1 h2
 | fn h1 h2 _ _ i1 i2 =>
  simp only [AV.under,Bool.and_eq_true] at hb
  exact .fn h1 h2 (fun j y hj=>i1 j y hj (jt9 hb.1 hj)) (fun j y hj=>i2 j y hj (jt9 hb.2 hj))
 | agg h _ ih=>exact .agg h (fun j y hj=>ih j y hj (jt9 (by simpa [AV.under,Ctx.cut] using hb) hj))
 | tup h _ ih=>exact .tup h (fun j y hj=>ih j y hj (jt9 (by simpa [AV.under,Ctx.cut] using hb) hj))
 | mp h=>exact .mp (c:=c.cut m) (by simpa [AV.under,Ctx.cut] using hb)
 | yld h=>exact .yld (c:=c.cut m) (by simpa [AV.under,Ctx.cut] using hb)
theorem Own.cut {m:Nat} {x:AV} {u:Value} (h:Own P c w x u):Own P (c.cut m) w x u:=by
 induction h with
 | none h=>exact .none h
 | tip hU hs h=>exact .tip hU hs h
 | agg _ ih=>exact .agg ih
 | tup _ ih=>exact .tup ih
theorem xn9.cut {m id:Nat} {o:AObj} (h:xn9 P c w id o) (hb:o.under m=true):xn9 P (c.cut m) w id o:=by
 cases o with
 | cells ty cs =>
  obtain ⟨h1,h2,h3,cur,h4,h5,h6⟩:=h
  exact ⟨h1,h2,h3,cur,h4,h5,fun j y hj=>⟨(h6 j y hj).1.cut (jt9 hb hj),(h6 j y hj).2.1.cut,(h6 j y hj).2.2⟩⟩
 | froz ty cs =>
  intro j y hj
  obtain ⟨u,h1,h2,h3,h4⟩:=h j y hj
  exact ⟨u,h1,h2,h3,h4.cut (jt9 hb hj)⟩
 | map es =>
  obtain ⟨h1,h2,h3,cur,clock,h4,h5,h6⟩:=h
  exact ⟨h1,h2,h3,cur,clock,h4,h5,fun j k y hj=>let ⟨e,e1,e2,e3⟩:=h6 j k y hj;⟨e,e1,e2,e3.cut (wf7 hb hj)⟩⟩
 | loop n fr ps as body st =>
  obtain ⟨h1,h2,h3,r,h4,h5,h6,h7⟩:=h
  exact ⟨h1,h2,h3,r,h4,h5,fun i x hx=>let ⟨h0,u,e1,e2⟩:=h6 i x hx;⟨h0,u,e1,e2.cut (kt7 hb hx)⟩,h7⟩
 | dead=>trivial
theorem HSim.cut {h:List AObj} (hh:HSim P c w h) {m:Nat} (hm:m≤h.length) (hu:yn9 m (h.take m)=true):HSim P (c.cut m) w (h.take m):=by
 have hno:=hh.no
 refine ⟨by show m=_;rw [List.length_take];omega,fun i hi=>hh.lt i (by have:i < m:=hi;omega),fun i j hi hj=>hh.inj i j (by have:i < m:=hi;omega) (by have:j < m:=hj;omega),?_⟩
 intro i o ho
 have ho':=ho
 rw [List.getElem?_take] at ho
 split at ho
 ·exact (hh.obj i o ho).cut (yn6 hu ho')
 ·cases ho
theorem vd9 {top:Bool} {kf:Nat} {code:Code} {Q:Exit→St→Prop} {s:St} (m:Nat) (hk:kf≤m) (hm:m≤s.h.length) (hf:zk9 m s.fr=true) (hu:yn9 m (s.h.take m)=true) (h:Wt top kf P code Q ⟨s.n,s.fr,s.h.take m⟩):Wt top kf P code Q s:=by
 intro F n c w a hF hs
 have he:ExtK kf c w (c.cut m) w:={ (ExtK.refl hF.2.2 w) with no:=hk,ob:=fun _ _=>rfl }
 refine wpIn_mono (h F n (c.cut m) w a (hF.next he) ⟨hs.n,hs.base,?_,hs.h.cut hm hu,hs.dfr⟩) ?_
 ·intro i x hx
  obtain ⟨u,h1,h2,h3⟩:=hs.fr i x hx
  exact ⟨u,h1,h2.cut (kt7 hf hx),h3.cut⟩
 ·rintro e a' w' ⟨s',c',q,hs',he'⟩
  exact ⟨s',c',q,hs',he.trans he'⟩
def ww9 (P:Program) (f:FuncId) (args:List AV) (h:List AObj) (Q:AV→List AObj→Prop):Prop :=
 Callable P f ∧ ∀ F n (c : Ctx) (w : World) (vals : List Value), Good F → F.round = none → (∀ b, w.heap.size ≤ b → c.base b) → (∀ b x, w.heap[b]? = some (Go.Obj.deferred x) → ¬ c.base b) →
  HSim P c w h→RepL P c w args vals →
  CallsIn F n P f vals.toArray w fun e w'=>∃ u c' r h',e=.returned u∧Q r h'∧Ext c w c' w'∧HSim P c' w' h'∧Rep c' w' r u∧Own P c' w' r u
theorem ww9.mono {f:FuncId} {args:List AV} {h:List AObj} {Q Q':AV→List AObj→Prop} (hc:ww9 P f args h Q) (hq:∀ r h',Q r h'→Q' r h'):ww9 P f args h Q' :=
 ⟨hc.1,fun F n c w vals h1 h2 h3 h4 h5 h6=>CallsIn.mono (hc.2 F n c w vals h1 h2 h3 h4 h5 h6) fun _ _ ⟨u,c',r,h',e1,e2,e3⟩=>⟨u,c',r,h',e1,hq _ _ e2,e3⟩⟩
def retW (P:Program) (rs:List ResultVar) (k:Nat) (Q:AV→List AObj→Prop) (e:Exit) (s:St):Prop :=
 (e=.normal∨e=.ret)∧∃ x y h1 m,resA P s rs=some x∧((y=x∧h1=s.h)∨frzV P 1 s.h x=some (y,h1))∧k≤m∧m≤h1.length∧y.under m=true∧yn9 m (h1.take m)=true∧Q y (h1.take m)
theorem zd9 {f : FuncId} {fn : Func} {code : Code} {args : List AV} {h : List AObj} {Q : AV → List AObj → Prop} (hf : P.funcs[f]? = some fn) (hb : fn.body = some code) (hn : (fn.name == "runtime.NumGoroutine") = false)
  (hlen:args.length≤fn.ntmps) {rs:List ResultVar} (hrs:fn.results.toList=rs) (hW:Wt true h.length P code (retW P rs h.length Q) ⟨fn.ntmps,numF 0 args,h⟩):ww9 P f args h Q:=by
 subst hrs
 refine ⟨⟨fn,hf,hn,by rw [hb];rfl⟩,?_⟩
 intro F n c w vals hF hro hbase hdef hh hargs
 have hl:args.length=vals.length:=hargs.length
 refine callsIn_of_wp_marks hf hb (hF.1 f) ?_ hro
 have hs0:SimSt P c w ⟨fn.ntmps,numF 0 args,h⟩ { tmps:=vals.toArray++Array.replicate (fn.ntmps - vals.toArray.size) undef,defers:=[] }:=by
  refine ⟨by simp;omega,hbase,?_,hh,⟨[],rfl,.nil,by simp⟩⟩
  intro i x hx
  obtain ⟨h1,h2⟩:=jf8 args 0 i x hx
  obtain ⟨u,hu,hr,ho⟩:=hargs.get (by simpa using h2)
  have hi:i < vals.length:=(List.getElem?_eq_some_iff.1 hu).1
  exact ⟨u,by rw [Array.getElem?_append_left (by simpa using hi)];simpa using hu,hr,ho⟩
 refine wpIn_mono (hW F n c w _ (hF.top hro (Nat.le_of_eq hh.no.symm) true) hs0) ?_
 rintro e a' w' ⟨s',c',⟨he,x,y,h1,m,hres,hfz,hkm,hml,hyb,hhb,hq⟩,hs',hextK⟩
 have hext:=hextK.toExt hh.no
 have key:LeavesInM F n P fn a'.tmps (fun e w'=>∃ u c' r h',e=.returned u∧Q r h'∧Ext c w c' w'∧HSim P c' w' h'∧Rep c' w' r u∧Own P c' w' r u) a'.defers .returning w':=by
  obtain ⟨rs,hd,hnd,hrs⟩:=hs'.dfr
  obtain ⟨w2,hsh,hleave⟩:=ut7 (F:=F) (n:=n) (fn:=fn) (tmps:=a'.tmps) (R:=fun e w'=>∃ u c' r h',e=.returned u∧Q r h'∧Ext c w c' w'∧HSim P c' w' h'∧Rep c' w' r u∧Own P c' w' r u) rs w' hnd hrs
  rw [hd]
  refine hleave ?_
  have hs2:=hs'.recell hsh
  obtain ⟨v,hrun,hrep,hown⟩:=up8 hs2 hres
  have hext2 : Ext c w c' w2 := {
   base:=hext.base,os:=hsh.os.trans hext.os,tape:=hsh.tape.trans hext.tape,output:=hsh.output.trans hext.output,size:=by rw [hsh.size];exact hext.size
   below:=fun b hb=>(hsh.below b (by rw [hext.base];exact hb)).trans (hext.below b hb)
   cell:=fun ad u hp hc=>hsh.cell (hext.cell ad u hp hc)
   pm:=hext.pm,pmb:=hext.pmb,owb:=hext.owb,no:=hext.no,ob:=hext.ob
   dfr:=fun b hb=>by rw [hsh.below b (by rw [hext.base];exact hdef b _ hb)];exact hext.dfr b hb }
  obtain ⟨c3,e3,s3,r3,o3⟩:∃ c3,Ext c' w2 c3 w2∧SimSt P c3 w2 { s' with h:=h1 } { a' with defers:=[] }∧Rep c3 w2 y v∧Own P c3 w2 y v:=by
   rcases hfz with ⟨rfl,rfl⟩ | hfz
   ·exact ⟨c',Ext.refl _ _,hs2,hrep,hown⟩
   ·obtain ⟨c3,e3,_,s3,r3,o3⟩:=jd9 (tk:=1) rfl x s' c' y h1 v hs2 hfz hrep hown
    exact ⟨c3,e3,s3,r3,o3⟩
  have hext3:=hext2.trans e3
  refine ⟨v,hrun,v,c3.cut m,y,h1.take m,rfl,hq,?_,?_,r3.cut hyb,o3.cut⟩
  ·exact { base := hext3.base, os := hext3.os, tape := hext3.tape, output := hext3.output, size := hext3.size, below := hext3.below, cell := hext3.cell, pm := hext3.pm, pmb := hext3.pmb, owb := hext3.owb,
           no:=by show c.no≤m;rw [hh.no];exact hkm
           ob:=hext3.ob,dfr:=hext3.dfr }
  ·have hno:c3.no=h1.length:=s3.h.no
   refine ⟨by show m=_;rw [List.length_take];omega,fun i hi=>s3.h.lt i (by have:i < m:=hi;omega),fun i j hi hj=>s3.h.inj i j (by have:i < m:=hi;omega) (by have:j < m:=hj;omega),?_⟩
   intro i o ho
   have ho':=ho
   rw [List.getElem?_take] at ho
   split at ho
   ·exact (s3.h.obj i o ho).cut (yn6 hhb ho')
   ·cases ho
 rcases he with rfl | rfl
 ·exact key
 ·exact key
def zc9 (s : St) : Callee → Option (FuncId × List AV × List AV)
 | .value f=>match s.ev f with
  | some (.fn (.func g) a b)=>if AV.tlL a&&AV.tlL b then some (g,a,b) else none
  | _=>none
 | _=>none
theorem RepL.append {xs ys:List AV} {us vs:List Value} (h:RepL P c w xs us) (k:RepL P c w ys vs):RepL P c w (xs++ys) (us++vs):=by
 induction h with
 | nil=>exact k
 | cons h ho _ ih=>exact .cons h ho ih
theorem qp9 {s : St} {a : Act} (hs : SimSt P c w s a) {x : Callee} {g : FuncId} {l1 l2 : List AV} (h : zc9 s x = some (g, l1, l2)) :
  ∃ o v1 v2,x=.value o∧a.eval o=.func (.func g) v1 v2∧RepL P c w l1 v1.toList∧RepL P c w l2 v2.toList:=by
 unfold zc9 at h
 split at h
 ·rename_i o
  split at h
  ·rename_i g' a' b' hev
   split at h
   ·rename_i htl
    simp only [Option.some.injEq,Prod.mk.injEq] at h
    obtain ⟨rfl,rfl,rfl⟩:=h
    simp only [Bool.and_eq_true] at htl
    have hr:=(hs.ev hev).1
    generalize hu:a.eval o=u at hr
    cases hr with
    | @fn _ _ _ v1 v2 h1 h2 r1 r2 =>
     refine ⟨o,v1,v2,rfl,hu,?_,?_⟩
     ·exact RepL.of_arr h1 r1 fun j y hj=>.none (qj8 htl.1 hj)
     ·exact RepL.of_arr h2 r2 fun j y hj=>.none (qj8 htl.2 hj)
   ·cases h
  ·cases h
 ·cases h
def callO (P:Program) (o:Oper) (s:St) (K:St→Prop):Prop :=
 match o.op with
 | .call c=>match zc9 s c.callee with
  | some (f, l1, l2) => ∃ xs, evOpts P s (c.args.toList.zip c.argTypes.toList) = some xs ∧ c.args.size ≤ c.argTypes.size ∧
    ww9 P f (l1++xs++l2) s.h fun r h'=>∃ s',(⟨s.n,kv9 (AV.toksL (l1++xs++l2)++wj8 s.h) s.fr,h'⟩:St).put o.dst r=some s'∧K s'
  | none=>False
 | _=>False
variable {F : Fence} {n : Nat} {s : St} {a : Act} {o : Oper} {K : Act → World → Prop} {Q : Exit → Act → World → Prop}
theorem kr7 (hs : SimSt P c w s a) (T : List Nat) (hT : ∀ t ∈ wj8 s.h, t ∈ T) : ∃ b0 : Nat → Prop, (∀ b, w.heap.size ≤ b → b0 b) ∧ (∀ b x, w.heap[b]? = some (Go.Obj.deferred x) → ¬ b0 b) ∧ HSim P (c.rebase b0) w s.h ∧
  (∀ x u,Rep c w x u→Own P c w x u→(∀ t∈x.toks,t∈T)→Rep (c.rebase b0) w x u∧Own P (c.rebase b0) w x u) ∧
  (∀ c2 w2 h',Ext (c.rebase b0) w c2 w2→HSim P c2 w2 h'→Ext c w (c2.rebase c.base) w2∧SimSt P (c2.rebase c.base) w2 ⟨s.n,kv9 T s.fr,h'⟩ a∧∀ x u,Rep c2 w2 x u→Own P c2 w2 x u→Rep (c2.rebase c.base) w2 x u∧Own P (c2.rebase c.base) w2 x u):=by
 have hne0:∀ {i:Nat} {oo:AObj},s.h[i]?=some oo→oo.live=true→c.ow (c.ob i)=0:=fun h1 h2=>(hs.h.live h1 h2).2.2
 let b0:Nat→Prop:=fun b=>w.heap.size≤b∨(∃ (i:Nat) (oo:AObj),s.h[i]?=some oo∧oo.live=true∧c.ob i=b)∨(c.base b∧c.ow b∈T∧∃ cur e,w.heap[b]?=some (.cells cur e (0,0)))
 have hsub:∀ b,b0 b→c.base b:=by
  rintro b (hb | ⟨i,oo,h1,h2,rfl⟩ | ⟨hb,_⟩)
  ·exact hs.base b hb
  ·exact (hs.h.live h1 h2).1
  ·exact hb
 have hrow:∀ g cur e,c.base g→w.heap[g]?=some (.cells cur e (0,0))→c.ow g∈T→b0 g:=fun g cur e h1 h2 h3=>.inr (.inr ⟨h1,h3,cur,e,h2⟩)
 have hh0:HSim P (c.rebase b0) w s.h:=⟨hs.h.no,hs.h.lt,hs.h.inj,fun i oo hi =>
  (hs.h.obj i oo hi).rebase hrow (fun hl=>.inr (.inl ⟨i,oo,hi,hl,rfl⟩)) fun t ht=>hT t (toksH_mem hi ht)⟩
 refine ⟨b0,fun b hb=>.inl hb,?_,hh0,fun x u h1 h2 h3=>⟨h1.rebase b0,h2.rebase hrow h3⟩,?_⟩
 ·rintro b x hb (h1 | ⟨i, oo, h1, h2, rfl⟩ | ⟨_, _, cur, e, h3⟩)
  ·rw [Array.getElem?_eq_none h1] at hb;cases hb
  ·have:=hs.h.obj i oo h1
   cases oo with
   | cells ty cs=>obtain ⟨_,_,_,cur,h4,_⟩:=this;rw [hb] at h4;cases h4
   | map es=>obtain ⟨_,_,_,cur,clock,h4,_⟩:=this;rw [hb] at h4;cases h4
   | loop n fr ps as body st=>obtain ⟨_,_,_,r,h4,_⟩:=this;rw [hb] at h4;cases h4
   | froz ty cs=>cases h2
   | dead=>cases h2
  ·rw [hb] at h3;cases h3
 ·intro c2 w2 h' he hh
  have hb2:c2.base=b0:=he.base
  have heX : Ext c w (c2.rebase c.base) w2 := {
   base:=rfl,os:=he.os,tape:=he.tape,output:=he.output,size:=he.size
   below:=fun b hb=>he.below b fun hb0=>hb (hsub b hb0)
   cell:=he.cell,pm:=he.pm
   pmb:=fun b hb=>he.pmb b fun hb0=>hb (hsub b hb0)
   owb:=fun b hb=>he.owb b fun hb0=>hb (hsub b hb0)
   no:=he.no,ob:=he.ob,dfr:=he.dfr }
  have hup:∀ g,c2.base g→c.base g:=fun g hg=>hsub g (by rw [← hb2];exact hg)
  refine ⟨heX,?_,fun x u h1 h2=>⟨h1.rebase _,h2.rebase_up hup⟩⟩
  refine ⟨hs.n,fun b hb=>hs.base b (Nat.le_trans he.size hb),?_,⟨hh.no,hh.lt,hh.inj,fun i oo hi=>?_⟩,hs.dfr.mono heX⟩
  ·intro i x hx
   rw [getF_killSF] at hx
   obtain ⟨y,hy,rfl⟩:=Option.map_eq_some_iff.1 hx
   obtain ⟨u',hu',h1,h2⟩:=hs.fr i y hy
   refine ⟨u',hu',(h1.mono heX).killS,Own.killS (c:=c) (c':=c2.rebase c.base) (w:=w) (w':=w2) rfl ?_ h2⟩
   intro g cur ee hg hcur hne hcon
   have hnb:¬ (c.rebase b0).base g:=by
    rintro (h3 | ⟨i,oo,h3,h4,rfl⟩ | ⟨_,h3,_⟩)
    ·rw [Array.getElem?_eq_none h3] at hcur;cases hcur
    ·exact hne (hne0 h3 h4)
    ·have:T.contains (c.ow g)=true:=by simpa using h3
     rw [hcon] at this;cases this
   exact ⟨he.below g hnb,he.pmb g hnb,he.owb g hnb⟩
  ·refine (hh.obj i oo hi).rebase (l:=oo.toks) (fun g _ _ hg _ _=>hup g hg) (fun hl=>hup _ (hh.live hi hl).1) (fun _ h=>h)
theorem callW_use {f : FuncId} {args : List AV} {vals : List Value} {Q : AV → List AObj → Prop} (hF : Good F) (hro : F.round = none) (hs : SimSt P c w s a) (hcw : ww9 P f args s.h Q) (rl : RepL P c w args vals) :
  CallsIn F n P f vals.toArray w fun e w2=>∃ u c2 r h',e=.returned u∧Q r h'∧Ext c w c2 w2∧SimSt P c2 w2 ⟨s.n,kv9 (AV.toksL args++wj8 s.h) s.fr,h'⟩ a∧Rep c2 w2 r u∧Own P c2 w2 r u:=by
 obtain ⟨b0,h1,h2,hh0,h4,h5⟩:=kr7 hs (AV.toksL args++wj8 s.h) (fun t ht=>List.mem_append_right _ ht)
 have rl0:RepL P (c.rebase b0) w args vals:=by
  refine RepL.of_get rl.length fun j y u hy hu=>?_
  obtain ⟨u',hu',k1,k2⟩:=rl.get hy
  rw [hu] at hu'
  cases hu'
  exact h4 _ _ k1 k2 fun t ht=>List.mem_append_left _ (kv8 hy ht)
 refine CallsIn.mono (hcw.2 F n (c.rebase b0) w _ hF hro h1 h2 hh0 rl0) ?_
 rintro e w2 ⟨u,c2,r,h',rfl,hQ,he,hh,hr,hown⟩
 obtain ⟨k1,k2,k3⟩:=h5 c2 w2 h' he hh
 exact ⟨u,c2.rebase c.base,r,h',rfl,hQ,k1,k2,k3 _ _ hr hown⟩
theorem callO_wp {K':St→Prop} (hF:Good F) (hs:SimSt P c w s a) (h:callO P o s K') (hk:∀ s' a' c' w',K' s'→SimSt P c' w' s' a'→Ext c w c' w'→K a' w'):o.wpIn F n P a w K Q:=by
 unfold callO at h
 split at h
 ·rename_i cl ho
  split at h
  ·rename_i f l1 l2 hcal
   obtain ⟨xs,hxs,hlen,hcw⟩:=h
   obtain ⟨fo,v1,v2,hfo,hev,rl1,rl2⟩:=qp9 hs hcal
   refine ⟨fun f _=>hF.1 f,?_⟩
   rw [Oper.semAt_eq _ _ _ (by simp [ho])]
   have rlx:=hs.evOpts hxs
   rw [wd6 (by simpa using hlen)] at rlx
   have hrun:(execOp a.eval o).run P w=.ok (.enter f (v1++cl.args.map a.eval++v2)) w:=by
    unfold execOp
    simp only [ho,resolve,hfo,Sem.run_bind,hev,Deferred.ofValue,Sem.run_pure,Result.andThen_ok,invoke]
    exact hcw.1.run _ _
   rw [hrun]
   refine ⟨fun hd=>(by rw [hF.2.1] at hd;cases hd),?_⟩
   have rl:=(rl1.append rlx).append rl2
   have e2:(v1.toList++List.map a.eval cl.args.toList++v2.toList).toArray=v1++cl.args.map a.eval++v2:=by
    apply Array.ext';simp
   have hcall:=callW_use (F:=F.plain) (n:=n - 1) hF rfl hs hcw rl
   rw [e2] at hcall
   refine CallsIn.mono hcall ?_
   rintro e w2 ⟨u,c2,r,h',rfl,⟨s',hput,hK⟩,he,hs2,hr,hown⟩
   exact hk _ _ _ _ hK (hs2.put hput hr hown) he
  ·exact h.elim
 ·exact h.elim
end
end Go.AM
namespace Go.AM
open Go.RowKit
def vh7 : List (Nat × AV) → List (Nat × AV)
 | []=>[]
 | (j,y) :: l=>(j,y.weak) :: vh7 l
def setF : List (Nat × AV) → List Tmp → List AV → List (Nat × AV)
 | fr,p :: ps,x :: xs=>setF (putF fr p x) ps xs
 | fr,_,_=>fr
theorem getF_weakF (fr:List (Nat × AV)) (i:Nat):getF (vh7 fr) i=(getF fr i).map AV.weak:=by
 induction fr with
 | nil=>rfl
 | cons p l ih =>
  obtain ⟨j,y⟩:=p
  simp only [vh7,getF]
  split <;> simp_all
def km7 : Exit → Option (LSt × Bool)
 | .normal=>some (.ready,true)
 | .ret=>some (.done .ret,false)
 | .exit id=>some (.done (.exit id),false)
 | .goto t=>some (.done (.goto t),false)
 | _=>none
def jumpQ (Q : Exit → St → Prop) (s : St) : LSt → Prop
 | .ready=>Q .normal s
 | .done .ret=>Q .ret s
 | .done (.exit id)=>Q (.exit id) s
 | .done (.goto t)=>Q (.goto t) s
 | _=>False
section
variable {P : Program} {c c' : Ctx} {w w' : World}
def roundA (P:Program) (id k:Nat) (n:Nat) (fr:List (Nat × AV)) (as body:Code) (h:List AObj) (K:Bool→List AObj→Prop):Prop :=
 Wt false k P as (fun e s1 => e = .normal ∧ ∃ n' fr' ps' as' body', s1.h[id]? = some (.loop n' fr' ps' as' body' .ready) ∧
  Wt false k P body (fun e s2 => ∃ n' fr' ps' as' body' st b m, s2.h[id]? = some (.loop n' fr' ps' as' body' .busy) ∧ km7 e = some (st, b) ∧ k ≤ m ∧ m ≤ s2.h.length ∧
   yn9 m ((s2.h.set id (.loop n' fr' ps' as' body' st)).take m)=true∧K b ((s2.h.set id (.loop n' fr' ps' as' body' st)).take m))
   ⟨s1.n,s1.fr,s1.h.set id (.loop n' fr' ps' as' body' .busy)⟩) ⟨n,fr,h⟩
def wg7 (P:Program) (o:Oper) (s:St) (K:St→Prop):Prop :=
 match o.op with
 | .call c=>match c.callee with
  | .value f => ∃ id n fr ps as body xs, s.ev f = some (.yld id) ∧ s.h[id]? = some (.loop n fr ps as body .ready) ∧ evOpts P s (c.args.toList.zip c.argTypes.toList) = some xs ∧
    c.args.size≤c.argTypes.size∧xs.length=ps.length∧(ps.all fun p=>decide (p < n))=true ∧
    roundA P id s.h.length n (setF fr ps (AV.weakL xs)) as body s.h fun b h'=>∃ s',(⟨s.n,kv9 (wj8 s.h) s.fr,h'⟩:St).put o.dst (.v (.bool b))=some s'∧K s'
  | _=>False
 | _=>False
theorem SimSt.setRaw {s : St} {a : Act} (hs : SimSt P c w s a) {id : Nat} {o o' : AObj} {b b' : Go.Obj} (hobj : s.h[id]? = some o) (hl : o.live = true)
  (hcur:w.heap[c.ob id]?=some b) (hnc:∀ cur e m,b≠.cells cur e m) (hnd:∀ d,b≠.deferred d)
  (hrep:∀ w1,Ext c w c w1→w1.heap[c.ob id]?=some b'→xn9 P c w1 id o') :
  Ext c w c (w.putObj (c.ob id) b')∧SimSt P c (w.putObj (c.ob id) b') { s with h:=s.h.set id o' } a:=by
 obtain ⟨hbase,hpm,how⟩:=hs.h.live hobj hl
 have hid:id < c.no:=by rw [hs.h.no];exact (List.getElem?_eq_some_iff.1 hobj).1
 have hne:∀ k,k≠c.ob id→(w.putObj (c.ob id) b').heap[k]?=w.heap[k]?:=fun k hk=>World.putObj_heap_other hk
 have hgg:(w.putObj (c.ob id) b').heap[c.ob id]?=some b':=World.putObj_heap_same (hs.h.lt id hid)
 have hws:(w.putObj (c.ob id) b').heap.size=w.heap.size:=World.putObj_size
 have he : Ext c w c (w.putObj (c.ob id) b') := {
  base:=rfl,os:=rfl,tape:=rfl,output:=rfl
  size:=by rw [hws];exact Nat.le_refl _
  below:=fun k hk=>hne k (fun e=>hk (by rw [e];exact hbase))
  cell:=fun ad v hp hv=>by
   have hb:ad.block≠c.ob id:=by intro hb;unfold Ctx.prot at hp;rw [hb,hpm] at hp;omega
   rw [cell_of_heap (hne _ hb)];exact hv
  pm:=fun _ _=>Nat.le_refl _
  pmb:=fun _ _=>rfl
  owb:=fun _ _=>rfl
  no:=Nat.le_refl _
  ob:=fun _ _=>rfl
  dfr:=fun k hk=>by
   by_cases hb:k=c.ob id
   ·subst hb;rw [hcur] at hk;cases hk;exact absurd rfl (hnd _)
   ·rw [hne k hb];exact hk }
 have hk:Keeps c w c (w.putObj (c.ob id) b') none:=by
  intro g cur0 e0 hbk hk _
  by_cases hb:g=c.ob id
  ·subst hb;rw [hcur] at hk;cases hk;exact absurd rfl (hnc _ _ _)
  ·exact ⟨by rw [hne g hb];exact hk,rfl,rfl⟩
 refine ⟨he,hs.n,by rw [hws];exact hs.base,hs.fr.mono (T:=none) he hk,⟨by rw [List.length_set];exact hs.h.no,fun i hi=>by rw [hws];exact hs.h.lt i hi,hs.h.inj,?_⟩,hs.dfr.mono he⟩
 intro i o ho
 rw [List.getElem?_set] at ho
 split at ho
 ·rename_i hi
  subst hi
  split at ho
  ·cases ho
   exact hrep _ he hgg
  ·cases ho
 ·rename_i hi
  have hi':i < c.no:=by rw [hs.h.no];exact (List.getElem?_eq_some_iff.1 ho).1
  exact xn9.mono (P:=P) (T:=none) he hk hi' (hs.h.obj i o ho) (fun _=>⟨hne _ (hs.h.inj i id hi' hid (Ne.symm hi)),rfl,rfl⟩)
theorem SimSt.newRaw {s : St} {a : Act} (hs : SimSt P c w s a) (b : Go.Obj) (o : AObj)
  (hrep : Ext c w (c.newO w.heap.size) (w.alloc b) → (c.newO w.heap.size).ob s.h.length = w.heap.size → c.base w.heap.size → (c.newO w.heap.size).pm w.heap.size = 0 → (c.newO w.heap.size).ow w.heap.size = 0 →
   (w.alloc b).heap[w.heap.size]?=some b→xn9 P (c.newO w.heap.size) (w.alloc b) s.h.length o) :
  SimSt P (c.newO w.heap.size) (w.alloc b) { s with h:=s.h++[o] } a:=by
 have he:=kq9 c w b hs.base
 have hk:=uh8 c w b
 refine ⟨hs.n,fun b hb=>hs.base b (Nat.le_trans he.size hb),hs.fr.mono (T:=none) he hk,?_,hs.dfr.mono he⟩
 have hno:=hs.h.no
 have hobn:(c.newO w.heap.size).ob s.h.length=w.heap.size:=by simp only [Ctx.newO];rw [if_pos hno.symm]
 have hobo:∀ i,i < c.no→(c.newO w.heap.size).ob i=c.ob i:=fun i hi=>he.ob i hi
 refine ⟨by simp [Ctx.newO,hno],?_,?_,?_⟩
 ·intro i hi
  rw [jg9]
  rcases Nat.lt_or_ge i c.no with h | h
  ·rw [hobo i h];exact Nat.lt_succ_of_lt (hs.h.lt i h)
  ·have:i=s.h.length:=by simp only [Ctx.newO] at hi;omega
   subst this;rw [hobn];omega
 ·intro i j hi hj hne
  simp only [Ctx.newO] at hi hj
  rcases Nat.lt_or_ge i c.no with h | h <;> rcases Nat.lt_or_ge j c.no with k | k
  ·rw [hobo i h,hobo j k];exact hs.h.inj i j h k hne
  ·have:j=s.h.length:=by omega
   subst this;rw [hobo i h,hobn];exact Nat.ne_of_lt (hs.h.lt i h)
  ·have:i=s.h.length:=by omega
   subst this;rw [hobo j k,hobn];exact Nat.ne_of_gt (hs.h.lt j k)
  ·omega
 ·intro i o ho
  rcases Nat.lt_or_ge i s.h.length with h | h
  ·rw [List.getElem?_append_left h] at ho
   have hi:i < c.no:=by omega
   refine xn9.mono (P:=P) (T:=none) he hk hi (hs.h.obj i o ho) (fun _=>?_)
   have hlt:=hs.h.lt i hi
   refine ⟨qf9 w _ _ hlt,?_,?_⟩ <;> simp only [Ctx.newO,Ctx.setB] <;> rw [if_neg (by omega)]
  ·rw [List.getElem?_append_right h] at ho
   have hi:i=s.h.length:=by
    have:=(List.getElem?_eq_some_iff.1 ho).1
    simp at this
    omega
   subst hi
   simp at ho
   subst ho
   exact hrep he hobn (hs.base _ (Nat.le_refl _)) (by simp [Ctx.newO,Ctx.setB]) (by simp [Ctx.newO,Ctx.setB]) (qd9 w _)
theorem SimSt.setLoop {s : St} {a : Act} (hs : SimSt P c w s a) {id : Nat} {n : Nat} {fr : List (Nat × AV)} {ps : List Tmp} {as body : Code} {st st' : LSt} {r r' : Go.Loop} (hobj : s.h[id]? = some (.loop n fr ps as body st))
  (hr:w.heap[c.ob id]?=some (.loop r)) (ht:r'.tmps=r.tmps) (hp:r'.params=r.params) (ha:r'.assign=r.assign) (hb:r'.body=r.body)
  (hst:st'.ok r') :
  Ext c w c (w.putObj (c.ob id) (.loop r'))∧SimSt P c (w.putObj (c.ob id) (.loop r')) { s with h:=s.h.set id (.loop n fr ps as body st') } a:=by
 obtain ⟨h1,h2,h3,r0,h4,h5,h6,h7,h8,h9,_⟩:=hs.h.obj id _ hobj
 rw [hr] at h4
 cases h4
 refine hs.setRaw hobj rfl hr (by simp) (by simp) fun w1 he hh=>?_
 exact ⟨h1,h2,h3,r',hh,by rw [ht];exact h5,fun i x hx=>let ⟨h0,u,e1,e2⟩:=h6 i x hx;⟨h0,u,by rw [ht];exact e1,e2.mono he⟩,by rw [hp];exact h7,ha.trans h8,hb.trans h9,hst⟩
theorem ql8 {id k n:Nat} {fr:List (Nat × AV)} {as body:Code} {h:List AObj} {K K':Bool→List AObj→Prop} (hk:∀ b h,K b h→K' b h) (hr:roundA P id k n fr as body h K):roundA P id k n fr as body h K' :=
 Wt.mono hr fun _ _ ⟨he,n',fr',ps',as',body',h1,h2⟩=>⟨he,n',fr',ps',as',body',h1,Wt.mono h2 fun _ _ ⟨a,b,c,d,e,st,bb,m,k1,k2,k3,k4,k5,k6⟩=>⟨a,b,c,d,e,st,bb,m,k1,k2,k3,k4,k5,hk _ _ k6⟩⟩
theorem callY_mono {o:Oper} {s:St} {K K':St→Prop} (hk:∀ s,K s→K' s) (h:wg7 P o s K):wg7 P o s K':=by
 unfold wg7 at *
 split
 ·rename_i c ho
  rw [ho] at h
  dsimp only at h
  split
  ·rename_i hc
   rw [hc] at h
   obtain ⟨id,n,fr,ps,as,body,xs,e1,e2,e3,e4,e5,e6,e7⟩:=h
   exact ⟨id,n,fr,ps,as,body,xs,e1,e2,e3,e4,e5,e6,ql8 (fun _ _ ⟨s1,k1,k2⟩=>⟨s1,k1,hk _ k2⟩) e7⟩
  ·rename_i hno;split at h <;> first | exact absurd (by assumption) (hno _) | exact h
 ·rename_i hno;split at h <;> first | exact absurd (by assumption) (hno _) | exact h
theorem xf6 {tmps : Array Value} : ∀ {fr : List (Nat × AV)} {ps : List Tmp} {xs : List AV} {us : List Value} {tmps : Array Value} {n : Nat}, tmps.size = n → FSim P c w fr tmps → RepL P c w xs us → xs.length = ps.length → (∀ p ∈ ps, p < n) →
  ((ps.zip us).foldl (fun tmps (t,a)=>tmps.setIfInBounds t a) tmps).size=n∧FSim P c w (setF fr ps xs) ((ps.zip us).foldl (fun tmps (t,a)=>tmps.setIfInBounds t a) tmps)
 | fr,[],xs,us,tmps,n,hn,hf,_,_,_=>by cases xs <;> exact ⟨hn,hf⟩
 | fr,p :: ps,[],us,tmps,n,_,_,_,hl,_=>by simp at hl
 | fr,p :: ps,x :: xs,[],tmps,n,_,_,hr,_,_=>by cases hr
 | fr,p :: ps,x :: xs,u :: us,tmps,n,hn,hf,.cons hr ho hl,hlen,hlt=>by
  simp only [List.zip_cons_cons,List.foldl_cons,setF]
  refine xf6 (tmps:=#[]) (by simpa using hn) ?_ hl (by simpa using hlen) fun q hq=>hlt q (List.mem_cons_of_mem _ hq)
  intro i y hy
  rw [jm9] at hy
  have hp:=hlt p List.mem_cons_self
  split at hy
  ·rename_i hi
   subst hi
   cases hy
   exact ⟨u,by rw [Array.getElem?_setIfInBounds,if_pos rfl,if_pos (by rw [hn];exact hp)],hr,ho⟩
  ·rename_i hi
   obtain ⟨v,hv,h1,h2⟩:=hf i y hy
   exact ⟨v,by rw [Array.getElem?_setIfInBounds,if_neg (Ne.symm hi)];exact hv,h1,h2⟩
variable {F : Fence} {n : Nat} {s : St} {a : Act} {o : Oper} {K : Act → World → Prop} {Q : Exit → Act → World → Prop}
theorem callY_wp {K':St→Prop} (hF:Good F) (hs:SimSt P c w s a) (h:wg7 P o s K') (hk:∀ s' a' c' w',K' s'→SimSt P c' w' s' a'→Ext c w c' w'→K a' w'):o.wpIn F n P a w K Q:=by
 unfold wg7 at h
 split at h
 ·rename_i cl ho
  split at h
  ·rename_i f hcal
   obtain ⟨id,m,fr,ps,as,body,xs,hev,hobj,hxs,hlen,hpl,hps,hround⟩:=h
   have hrid:=(hs.ev hev).1
   have hid:id < c.no:=by rw [hs.h.no];exact (List.getElem?_eq_some_iff.1 hobj).1
   have hfv:a.eval f=.func (.yield (c.ob id)) #[] #[]:=by
    generalize a.eval f=u at hrid
    cases hrid;rfl
   obtain ⟨hbase,hpm,how,r,hr,hrn,hrf,hrp,hra,hrb,hrs⟩:=hs.h.obj id _ hobj
   have rlx:=hs.evOpts hxs
   rw [wd6 (by simpa using hlen)] at rlx
   refine ⟨fun f _=>hF.1 f,?_⟩
   rw [Oper.semAt_eq _ _ _ (by simp [ho])]
   have hsz:(cl.args.map a.eval).size=r.params.size:=by
    have:=rlx.length
    have h2:r.params.toList.length=ps.length:=by rw [hrp]
    simp at this h2 ⊢
    omega
   have hrun:(execOp a.eval o).run P w=.ok (.round (c.ob id) r.fn ((r.params.zip (cl.args.map a.eval)).foldl (fun tmps (t,a)=>tmps.setIfInBounds t a) r.tmps) r.assign r.body) w:=by
    unfold execOp
    simp only [ho,resolve,hcal,Sem.run_bind,hfv,Deferred.ofValue,Sem.run_pure,Result.andThen_ok,invoke]
    simpa using run_yield hr hsz
   rw [hrun,Oper.uponIn_round]
   refine ⟨fun hd=>(by rw [hF.2.1] at hd;cases hd),?_⟩
   obtain ⟨b0,k1,k2,hh0,k4,k5⟩:=kr7 hs (wj8 s.h) (fun t ht=>ht)
   obtain ⟨tmps',htm⟩:∃ tmps',(r.params.zip (cl.args.map a.eval)).foldl (fun tmps (t,a)=>tmps.setIfInBounds t a) r.tmps=tmps':=⟨_,rfl⟩
   rw [htm]
   have hfold:tmps'=(ps.zip (List.map a.eval cl.args.toList)).foldl (fun tmps (t,a)=>tmps.setIfInBounds t a) r.tmps:=by
    rw [← htm,← hrp,← Array.foldl_toList,Array.toList_zip,Array.toList_map]
   have hfr0:FSim P (c.rebase b0) w fr r.tmps:=fun i x hx=>by
    obtain ⟨h0,u,e1,e2⟩:=hrf i x hx
    exact ⟨u,e1,e2.rebase b0,.none h0⟩
   have rlw:RepL P (c.rebase b0) w (AV.weakL xs) (List.map a.eval cl.args.toList):=by
    refine RepL.of_get rlx.weakL.length fun j y u hy hu=>?_
    obtain ⟨u',hu',e1,_⟩:=rlx.weakL.get hy
    rw [hu] at hu'
    cases hu'
    exact ⟨e1.rebase b0,.none (qj8 (tl_weakL xs) hy)⟩
   obtain ⟨hn1,hf1⟩:=xf6 (tmps:=#[]) hrn hfr0 rlw (by rw [xg9];exact hpl) (by simpa using hps)
   rw [← hfold] at hn1 hf1
   have hs0:SimSt P (c.rebase b0) w ⟨m,setF fr ps (AV.weakL xs),s.h⟩ { tmps:=tmps',defers:=[] }:=⟨hn1,k1,hf1,hh0,⟨[],rfl,.nil,by simp⟩⟩
   have hG:GoodT false s.h.length (F.inRound (c.ob id)) (c.rebase b0):=⟨⟨hF.1,hF.2⟩,(fun h=>by cases h),Nat.le_of_eq hs.h.no.symm⟩
   have hidl:id < s.h.length:=by rw [← hs.h.no];exact hid
   refine roundIn_of_wpIn (hF.1 _) ?_
   rw [hra,hrb]
   refine wpIn_mono (hround (F.inRound (c.ob id)) (n - 1) (c.rebase b0) w _ hG hs0) ?_
   rintro e a1 w1 ⟨s1,c1,⟨rfl,n1,fr1,ps1,as1,body1,hobj1,hbody⟩,hs1,he1⟩
   simp only [Exit.then]
   obtain ⟨_,_,_,r1,hr1,_,_,_,_,_,hst1⟩:=hs1.h.obj id _ hobj1
   have hob1:c1.ob id=c.ob id:=he1.ob id hidl
   rw [hob1] at hr1
   refine ⟨_,run_beginRound hr1 hst1.1,?_⟩
   obtain ⟨e2,hs2⟩:=hs1.setLoop (st':=.busy) (r:=r1) (r':={ r1 with state:=.busy }) hobj1 (by rw [hob1];exact hr1) rfl rfl rfl rfl rfl
   rw [hob1] at e2 hs2
   refine wpIn_mono (hbody (F.inRound (c.ob id)) (n - 1) c1 _ a1 (hG.next he1) hs2) ?_
   rintro e a2 w3 ⟨s2,c2,⟨n2,fr2,ps2,as2,body2,st,b,mm,hobj2,hends,hkm,hml,hu,s',hput,hK⟩,hs3,he3⟩
   obtain ⟨_,_,_,r2,hr2,_,_,_,_,_,hst2⟩:=hs3.h.obj id _ hobj2
   have hob2:c2.ob id=c.ob id:=(he3.ob id hidl).trans hob1
   rw [hob2] at hr2
   have fin : ∀ (jump : Option Code), b = jump.isNone → st.ok { r2 with state := if jump.isNone then .ready else .done, pending := jump } →
     ∃ v w',(Instr.endRound (c.ob id) jump).run P w3=.ok v w'∧K (a.put o.dst v) w':=by
    intro jump hb hj
    refine ⟨_,_,run_endRound jump hr2,?_⟩
    obtain ⟨e4,hs4⟩:=hs3.setLoop (st':=st) (r:=r2) (r':={ r2 with state:=if jump.isNone then .ready else .done,pending:=jump }) hobj2 (by rw [hob2];exact hr2) rfl rfl rfl rfl hj
    rw [hob2] at e4 hs4
    have hno2:s2.h.length=c2.no:=hs3.h.no.symm
    have hcut:=hs4.h.cut (m:=mm) (by rw [List.length_set];exact hml) hu
    have heK:ExtK s.h.length (c.rebase b0) w c2 _:=((he1.trans (e2.toK he1.no)).trans he3).trans (e4.toK he3.no)
    have hE:Ext (c.rebase b0) w (c2.cut mm) _:={ heK with
     no:=by show c.no≤mm;rw [hs.h.no];exact hkm
     ob:=fun i hi=>heK.ob i (by rw [← hs.h.no];exact hi) }
    obtain ⟨q1,q2,_⟩:=k5 _ _ _ hE hcut
    exact hk _ _ _ _ hK (q2.put hput (by rw [hb];exact .v _) (.none rfl)) q1
   cases e with
   | normal=>simp only [km7,Option.some.injEq,Prod.mk.injEq] at hends;obtain ⟨rfl,rfl⟩:=hends;exact fin none rfl ⟨rfl,rfl⟩
   | ret=>simp only [km7,Option.some.injEq,Prod.mk.injEq] at hends;obtain ⟨rfl,rfl⟩:=hends;exact fin (some .ret) rfl ⟨rfl,rfl⟩
   | exit i=>simp only [km7,Option.some.injEq,Prod.mk.injEq] at hends;obtain ⟨rfl,rfl⟩:=hends;exact fin (some (.exit i)) rfl ⟨rfl,rfl⟩
   | goto t=>simp only [km7,Option.some.injEq,Prod.mk.injEq] at hends;obtain ⟨rfl,rfl⟩:=hends;exact fin (some (.goto t)) rfl ⟨rfl,rfl⟩
   | panic ch=>cases hends
   | outgrown=>cases hends
  ·exact h.elim
 ·exact h.elim
theorem ws8 {g : Operand} {ps : Array Tmp} {assign body : Code} {Q : Exit → St → Prop} {kf : Nat} {f : FuncId} {l1 l2 : List AV} {Qc : AV → List AObj → Prop} (hg : zc9 s (.value g) = some (f, l1, l2))
  (hcall:ww9 P f (l1++[.yld s.h.length]++l2) (s.h++[.loop s.n (vh7 s.fr) ps.toList assign body .ready]) Qc)
  (hQ : ∀ r h', Qc r h' → ∃ n1 fr1 qs1 as1 body1 st, h'[s.h.length]? = some (.loop n1 fr1 qs1 as1 body1 st) ∧
   jumpQ Q ⟨s.n,kv9 (AV.toksL (l1++[.yld s.h.length]++l2)++wj8 (s.h++[.loop s.n (vh7 s.fr) ps.toList assign body .ready])) s.fr,h'.set s.h.length .dead⟩ st) :
  Wt true kf P (.rangeFunc g ps assign body) Q s:=by
 intro F n c w a hF hs
 refine wpIn_rangeFunc fun fn _=>?_
 obtain ⟨g',v1,v2,hg',hev,rl1,rl2⟩:=qp9 hs hg
 cases hg'
 have hno:=hs.h.no
 let L:Go.Loop:={ state:=.ready,pending:=none,fn,tmps:=a.tmps,params:=ps,assign,body,defers:=w.heap.size }
 let w1:=w.alloc (.deferred (some []))
 let w2:=w1.alloc (.loop L)
 have hw1:w1.heap.size=w.heap.size+1:=jg9 _ _
 have hw2:w2.heap.size=w.heap.size+2:=by show (w1.alloc _).heap.size=_;rw [jg9,hw1]
 let c1:=c.setB w.heap.size 0 0
 have e1:Ext c w c1 w1:=yw8 c w _ 0 0 hs.base
 have k1:Keeps c w c1 w1 none:=qm8 c w _ 0 0
 have s1:SimSt P c1 w1 s a:=hs.row _ 0 0
 let c2:=c1.newO w1.heap.size
 have e2:Ext c1 w1 c2 w2:=kq9 c1 w1 _ s1.base
 have k2:Keeps c1 w1 c2 w2 none:=uh8 c1 w1 _
 have s2:SimSt P c2 w2 { s with h:=s.h++[.loop s.n (vh7 s.fr) ps.toList assign body .ready] } a:=s1.newRaw _ _ fun he hob hb hpm how hget=>by
  refine ⟨?_,?_,?_,L,?_,hs.n,?_,rfl,rfl,rfl,rfl,rfl⟩
  ·rw [hob];exact hb
  ·rw [hob];exact hpm
  ·rw [hob];exact how
  ·rw [hob];exact hget
  ·intro i x hx
   rw [getF_weakF] at hx
   obtain ⟨y,hy,rfl⟩:=Option.map_eq_some_iff.1 hx
   obtain ⟨u,h1,h2,_⟩:=s1.fr i y hy
   exact ⟨vq6 y,u,h1,(h2.mono he).weak⟩
 have hobn:c2.ob s.h.length=w.heap.size+1:=by
  show (if s.h.length=c1.no then w1.heap.size else c1.ob s.h.length)=_
  rw [if_pos (by show s.h.length=c.no;omega),hw1]
 have e12:=e1.trans e2
 have hd0:w2.heap[w.heap.size]?=some (Go.Obj.deferred (some [])):=by
  rw [qf9 w1 _ _ (by rw [hw1];omega)];exact qd9 w _
 have s2':SimSt P c2 w2 { s with h:=s.h++[.loop s.n (vh7 s.fr) ps.toList assign body .ready] } { a with defers:=[mark w.heap.size]++a.defers }:=by
  refine ⟨s2.n,s2.base,s2.fr,s2.h,?_⟩
  obtain ⟨rs,h1,h2,h3⟩:=hs.dfr
  refine ⟨w.heap.size :: rs,by rw [h1];rfl,List.nodup_cons.2 ⟨fun hm=>absurd (xd6 (h3 _ hm).2) (Nat.lt_irrefl _),h2⟩,?_⟩
  intro r hr
  rcases List.mem_cons.1 hr with rfl | hr
  ·exact ⟨by rw [e12.base];exact hs.base _ (Nat.le_refl _),hd0⟩
  ·exact ⟨by rw [e12.base];exact (h3 r hr).1,e12.dfr r (h3 r hr).2⟩
 have rly:RepL P c2 w2 [.yld s.h.length] [.func (.yield (w.heap.size+1)) #[] #[]]:=by
  refine .cons ?_ (.none rfl) .nil
  rw [← hobn]
  exact .yld (by rw [s2.h.no];simp)
 have k12:Keeps c w c2 w2 none:=k1.trans e1.base k2
 have rl:=((rl1.mono e12 k12).append rly).append (rl2.mono e12 k12)
 have hcall2:=callW_use (n:=n - 1) hF.1 (hF.2.1 rfl) s2' hcall rl
 refine ⟨w.heap.size+1,[mark w.heap.size],w2,{ target:=.fn (.func f) v2,args:=v1++#[.func (.yield (w.heap.size+1)) #[] #[]] },w2,f,(v1++#[.func (.yield (w.heap.size+1)) #[] #[]]++v2),w2,?_,?_,?_,?_,?_,?_⟩
 ·rw [hF.2.1 rfl];exact run_enterLoop_outer fn a.tmps ps assign body
 ·show (resolve a.eval (rangeCall g (w.heap.size+1)) 0).run P w2=_
  simp only [resolve,rangeCall,hev,Deferred.ofValue,Sem.run_pure]
  simp [Act.eval]
 ·exact fun f' _=>hF.1.1 f'
 ·simp only [invoke]
  exact hcall.1.run (v1++#[.func (.yield (w.heap.size+1)) #[] #[]]++v2) w2
 ·intro hd;rw [hF.1.2.1] at hd;cases hd
 ·have hargs:(v1.toList++[Value.func (.yield (w.heap.size+1)) #[] #[]]++v2.toList).toArray=v1++#[.func (.yield (w.heap.size+1)) #[] #[]]++v2:=by
   apply Array.ext';simp
  rw [hargs] at hcall2
  refine CallsIn.mono hcall2 ?_
  rintro e w3 ⟨u,c3,r,h',rfl,hqc,e3,s3,_,_⟩
  obtain ⟨n3,fr3,ps3,as3,body3,st,hobj3,hj⟩:=hQ r h' hqc
  obtain ⟨_,_,_,r3,hr3,_,_,_,_,_,hst⟩:=s3.h.obj _ _ hobj3
  have hob3:c3.ob s.h.length=w.heap.size+1:=by
   rw [e3.ob _ (by rw [s2.h.no];simp)];exact hobn
  obtain ⟨e4,s4⟩:=s3.setRaw (o':=.dead) (b':=.loop { r3 with state:=.exhausted }) hobj3 rfl hr3 (by simp) (by simp) fun _ _ _=>trivial
  rw [hob3] at hr3 e4 s4
  have eAll:ExtK kf c w c3 _:=(((e12.trans e3).trans e4)).toK hF.2.2
  cases st with
  | ready =>
   refine ⟨_,_,run_endLoop hr3 (by rw [hst.1];decide),?_⟩
   split
   ·exact ⟨_,c3,hj,s4,eAll⟩
   ·rename_i hp;rw [hst.2] at hp;cases hp
  | busy=>exact hj.elim
  | done j =>
   refine ⟨_,_,run_endLoop hr3 (by rw [hst.1];decide),?_⟩
   split
   ·rename_i hp;rw [hst.2] at hp;cases hp
   ·rename_i cc hp
    rw [hst.2] at hp
    cases hp
    cases j with
    | ret=>exact wpIn_ret ⟨_,c3,hj,s4,eAll⟩
    | exit i=>exact wpIn_exit ⟨_,c3,hj,s4,eAll⟩
    | goto i=>exact wpIn_goto ⟨_,c3,hj,s4,eAll⟩
    | _=>exact hj.elim
end
end Go.AM
namespace Go.AM
open Go.RowKit
section
variable {P : Program} {c c' : Ctx} {w w' : World}
theorem catK_inv {sz : Nat} {l fl : List AV} (hsz : 0 < sz) (h : catK sz l = some fl) {j : Nat} {y : AV} (hy : fl[j]? = some y) :
  ∃ x,l[j / sz]?=some x∧x.cells[j % sz]?=some y∧x.cells.length=sz:=by
 have hlen:=qn9 h
 have hj:j < l.length * sz:=by rw [← hlen];exact (List.getElem?_eq_some_iff.1 hy).1
 have hi:j / sz < l.length:=Nat.div_lt_of_lt_mul (by rw [Nat.mul_comm];exact hj)
 have hx:l[j / sz]?=some l[j / sz]:=List.getElem?_eq_getElem hi
 have hxl:=catK_all h _ (List.getElem_mem hi)
 have hm:j % sz < l[j / sz].cells.length:=by rw [hxl];exact Nat.mod_lt _ hsz
 have hc:l[j / sz].cells[j % sz]?=some l[j / sz].cells[j % sz]:=List.getElem?_eq_getElem hm
 obtain ⟨_,h2⟩:=catK_get h hx hc
 have e:j / sz * sz+j % sz=j:=by rw [Nat.mul_comm];exact Nat.div_add_mod j sz
 rw [e,hy] at h2
 cases h2
 exact ⟨_,hx,hc,hxl⟩
theorem lst_row {o : Fl} {sz : Nat} {ys yc : List AV} {v : Value} (hsz : 0 < sz) (h : Rep c w (.lst o sz ys) v) (hcat : catK sz ys = some yc) :
  ∃ (b : Option Addr) (cc : Nat) (uy : Nat → Value), v = .slice b ys.length cc ∧ ys.length ≤ cc ∧ (b = none → ys = []) ∧
   (∀ ad k,b=some ad→k < ys.length * sz→w.cell? (ad.add k)=some (uy k)∧(uy k).oneCell'=true)∧∀ j y,(AV.weakL yc)[j]?=some y→Rep c w y (uy j):=by
 obtain ⟨b,m,cc,uy,rfl,hm,hmc,_,_,_,_,hzy,_,hcy,hryy⟩:=xv9 h
 subst hm
 refine ⟨b,cc,uy,rfl,hmc,fun hb=>List.eq_nil_of_length_eq_zero (hzy hb).1,fun ad k h1 h2=>⟨(hcy ad k h1 h2).1,(hcy ad k h1 h2).2.2⟩,fun j y hj=>?_⟩
 rw [vf9] at hj
 obtain ⟨y',hy',rfl⟩:=Option.map_eq_some_iff.1 hj
 obtain ⟨x,hx,hxc,_⟩:=catK_inv hsz hcat hy'
 have:=hryy _ _ _ _ hx hxc
 rw [Nat.mul_comm,Nat.div_add_mod] at this
 exact this.weak
def Row (P:Program) (c:Ctx) (w:World) (n sz:Nat) (yc:List AV) (v:Value):Prop :=
 yc.length = n * sz ∧ ∃ (b : Option Addr) (cc : Nat) (uy : Nat → Value), v = .slice b n cc ∧ n ≤ cc ∧ (b = none → n = 0) ∧
   (∀ ad k,b=some ad→k < n * sz→w.cell? (ad.add k)=some (uy k)∧(uy k).oneCell'=true)∧∀ j y,yc[j]?=some y→Rep c w y (uy j)∧Own P c w y (uy j)
theorem lst_Row {o:Fl} {sz:Nat} {ys yc:List AV} {v:Value} (hsz:0 < sz) (h:Rep c w (.lst o sz ys) v) (hcat:catK sz ys=some yc):Row P c w ys.length sz (AV.weakL yc) v:=by
 obtain ⟨b,cc,uy,h1,h2,h3,h4,h5⟩:=lst_row hsz h hcat
 exact ⟨by rw [xg9];exact qn9 hcat,b,cc,uy,h1,h2,fun hb=>by rw [h3 hb];rfl,h4,fun j y hj=>⟨h5 j y hj,.none (qj8 (tl_weakL yc) hj)⟩⟩
def srcA (P:Program) (s:St) (t:TypeId) (yo:Operand) (sz:Nat):Option (Nat × List AV) :=
 match s.evT P t yo with
 | some (.lst _ s' ys)=>if s'=sz then (catK sz ys).map fun yc=>(ys.length,AV.weakL yc) else none
 | some (.arr id off m _)=>match s.h[id]? with
  | some (.cells _ cs)=>if off+m * sz≤cs.length then some (m,(cs.drop off).take (m * sz)) else none
  | _=>none
 | _=>none
theorem zw7 {s:St} {a:Act} {t:TypeId} {yo:Operand} {sz m:Nat} {yc:List AV} (hs:SimSt P c w s a) (hsz:0 < sz) (h:srcA P s t yo sz=some (m,yc)):Row P c w m sz yc (a.eval yo):=by
 unfold srcA at h
 split at h
 ·rename_i o s' ys he
  split at h
  ·rename_i hs'
   subst hs'
   obtain ⟨yc',h1,h2⟩:=Option.map_eq_some_iff.1 h
   cases h2
   exact lst_Row hsz (hs.evT he).1 h1
  ·cases h
 ·rename_i id off m' cap he
  split at h
  ·rename_i ty cs hobj
   split at h
   ·rename_i hle
    cases h
    obtain ⟨_,_,_,cur,hcur,hl,hcsr⟩:=hs.h.obj id _ hobj
    have hr:=(hs.evT he).1
    generalize hv:a.eval yo=v at hr
    cases hr with
    | arr hid hlen hmax =>
     refine ⟨by simp;omega,_,_,fun k=>cur.getD (off+k) undef,rfl,hlen,fun hb=>by simp at hb,fun ad k had hk=>?_,fun j y hj=>?_⟩
     ·cases had
      have hk2:off+k < cs.length:=by omega
      have:=(hcsr (off+k) _ (List.getElem?_eq_getElem hk2)).2.2
      refine ⟨?_,this⟩
      rw [qg9]
      simp only [World.cell?,hcur,Option.isSome_none,Bool.false_eq_true,if_false]
      have hk3:off+k < cur.size:=by omega
      simp [hk3]
     ·rw [List.getElem?_take] at hj
      split at hj
      ·rw [List.getElem?_drop] at hj
       exact ⟨(hcsr _ _ hj).1,(hcsr _ _ hj).2.1⟩
      ·simp at hj
   ·cases h
  ·cases h
 ·cases h
theorem jt7 {cs ys : List AV} {cur : Array Value} {off : Nat} {news : List Value} (hC : cs.length = cur.size ∧ ∀ j y, cs[j]? = some y → Rep c w y (cur.getD j undef) ∧ Own P c w y (cur.getD j undef) ∧ (cur.getD j undef).oneCell' = true)
  (hl:news.length=ys.length) (hle:off+ys.length≤cs.length) (hn:∀ j y,ys[j]?=some y→Rep c w y (news.getD j undef)∧Own P c w y (news.getD j undef)∧(news.getD j undef).oneCell'=true) :
  Cells P c w (yk9 cs off ys) (cur.toList.take off++news++cur.toList.drop (off+news.length)).toArray:=by
 refine ⟨?_,fun j y hj=>?_⟩
 ·rw [zp9 _ _ _ hle]
  simp only [List.size_toArray,List.length_append,List.length_take,List.length_drop,Array.length_toList]
  have:=hC.1
  omega
 ·rw [wv9 _ _ _ hle] at hj
  rw [up7 cur news off (by have:=hC.1;omega) j,hl]
  split at hj
  ·rename_i hcj;rw [if_pos hcj];exact hn _ _ hj
  ·rename_i hcj;rw [if_neg hcj];exact hC.2 j y hj
variable {s : St} {a : Act}
def appQ0 (s:St) (e sz id len cap m:Nat) (yc cs zc:List AV) (s1:St) (x1:AV):Prop :=
 (len+m≤cap∧s1={ s with h:=s.h.set id (.cells e (yk9 cs (len * sz) (yc))) }∧x1=.arr id 0 (len+m) cap) ∨
 (cap < len+m∧∃ cap',len+m≤cap'∧cap'≤maxLen∧s1={ s with h:=s.h++[.cells e (cs.take (len * sz)++yc++repC (cap' - (len+m)) zc)] }∧x1=.arr s.h.length 0 (len+m) cap')
def appQ (s:St) (e sz id len cap m:Nat) (yc cs zc:List AV) (s1:St) (x1:AV):Prop :=
 (len+m≤cap∧s1={ s with h:=s.h.set id (.cells e (yk9 cs (len * sz) (AV.weakL yc))) }∧x1=.arr id 0 (len+m) cap) ∨
 (cap < len+m∧∃ cap',len+m≤cap'∧cap'≤maxLen∧s1={ s with h:=s.h++[.cells e (cs.take (len * sz)++AV.weakL yc++repC (cap' - (len+m)) zc)] }∧x1=.arr s.h.length 0 (len+m) cap')
theorem newArr (hs : SimSt P c w s a) {e : TypeId} {cs : List AV} {cur : Array Value} (hC : Cells P c w cs cur) (n cap : Nat) (h1 : n ≤ cap) (h2 : cap ≤ maxLen) :
  ∃ c' : Ctx, c'.ob s.h.length = w.heap.size ∧ Ext c w c' (w.alloc (.cells cur e)) ∧ SimSt P c' (w.alloc (.cells cur e)) { s with h := s.h ++ [.cells e cs] } a ∧
   Rep c' (w.alloc (.cells cur e)) (.arr s.h.length 0 n cap) (.slice (some ⟨w.heap.size,0,none⟩) n cap):=by
 have hs1:=hs.newCells (ty:=e) hC
 have k1:s.h.length < (c.newO w.heap.size).no:=by simp only [Ctx.newO];rw [hs.h.no];omega
 have k2:(c.newO w.heap.size).ob s.h.length=w.heap.size:=by simp only [Ctx.newO];rw [if_pos hs.h.no.symm]
 refine ⟨c.newO w.heap.size,k2,kq9 c w _ hs.base,hs1,?_⟩
 have:=Rep.arr (c:=c.newO w.heap.size) (w:=w.alloc (.cells cur e)) (off:=0) (len:=n) (cap:=cap) k1 h1 h2
 rw [k2] at this
 exact this
theorem zf8 {e : TypeId} {z : AV} {zv : Value} {i : TypeInfo} {sz : Nat} (hi : P.info? e = some i) (hzz : i.zero = some zv) (hz : zA P e = some z) (hzl : z.cells.length = sz) (hzs : zv.cells.size = sz) (hsz : 0 < sz) (n : Nat) :
  (repC n z.cells).length=n * sz∧(Builtin.zeroCells zv.cells n).size=n * sz ∧
  ∀ j y,(repC n z.cells)[j]?=some y→Rep c w y ((Builtin.zeroCells zv.cells n).getD j undef)∧Own P c w y ((Builtin.zeroCells zv.cells n).getD j undef)∧((Builtin.zeroCells zv.cells n).getD j undef).oneCell'=true:=by
 obtain ⟨i',u,hi',hzz',hr,htl,hone,hlen,hcell⟩:=yl8 (c:=c) (w:=w) hz
 rw [hi] at hi';cases hi'
 rw [hzz] at hzz';cases hzz'
 have hl:=qv9 n z.cells
 rw [hzl] at hl
 refine ⟨hl,by rw [size_zeroCells,hzs],fun j y hj=>?_⟩
 have hj2:j < n * sz:=by rw [← hl];exact (List.getElem?_eq_some_iff.1 hj).1
 have hg:=vv6 z.cells (by omega) _ _ _ hj
 rw [hzl] at hg
 have hm:j % sz < zv.cells.size:=by rw [hzs];exact Nat.mod_lt _ hsz
 have e1:(Builtin.zeroCells zv.cells n).getD j undef=zv.cells.getD (j % sz) undef:=by
  unfold Builtin.zeroCells
  rw [hzs,vl9 _ _ _ hj2,Array.getD_eq_getD_getElem?,Array.getElem?_eq_getElem hm,getElem!_pos zv.cells _ hm]
  rfl
 rw [e1]
 exact ⟨(hcell _ _ hg).1,.none (hcell _ _ hg).2,hone _ hm⟩
theorem uc9 {xs ys:List AV} {us vs:Array Value} (h1:Cells P c w xs us) (h2:Cells P c w ys vs):Cells P c w (xs++ys) (us++vs):=by
 refine ⟨by simp [h1.1,h2.1],fun j y hj=>?_⟩
 rcases Nat.lt_or_ge j xs.length with h | h
 ·rw [List.getElem?_append_left h] at hj
  have:=h1.2 j y hj
  rw [Array.getD_eq_getD_getElem?] at this ⊢
  rw [Array.getElem?_append_left (by rw [← h1.1];exact h)]
  exact this
 ·rw [List.getElem?_append_right h] at hj
  have:=h2.2 _ y hj
  rw [Array.getD_eq_getD_getElem?] at this ⊢
  rw [Array.getElem?_append_right (by rw [← h1.1];exact h),← h1.1]
  exact this
theorem uv8 (he:Ext c w c' w') (hk:Keeps c w c' w' none) {xs:List AV} {us:Array Value} (h:Cells P c w xs us):Cells P c' w' xs us :=
 ⟨h.1,fun j y hj=>⟨(h.2 j y hj).1.mono he,(h.2 j y hj).2.1.keep (T:=none) he.base hk,(h.2 j y hj).2.2⟩⟩
theorem appArr_sound {t ty e sz by_ id len cap : Nat} {ag : Bool} {m : Nat} {yc cs : List AV} {z : AV} {u v : Value} (hs : SimSt P c w s a) (hsl : slI P t = some (e, ag, sz)) (hap : apI P e = some (sz, by_))
  (hz:zA P e=some z) (hzl:z.cells.length=sz) (hsz:0 < sz) (hby:0 < by_) (hobj:s.h[id]?=some (.cells e cs)) (hcs:cs.length=cap * sz) (rx:Rep c w (.arr id 0 len cap) u)
  (ry:Row P c w m sz yc v) (hb:(len+m) * by_≤140737488355328) :
  ∃ v' w' c' s1 x1,(Builtin.append_ #[t,t] ty #[u,v]).run P w=.ok v' w'∧Ext c w c' w'∧SimSt P c' w' s1 a∧Rep c' w' x1 v'∧appQ0 s e sz id len cap m yc cs z.cells s1 x1:=by
 obtain ⟨ht,hty⟩:=xf9 hsl
 obtain ⟨i,zv,hi,hzz,hisz,hib,hzs,_⟩:=un8 hap
 obtain ⟨hycl,b,cc,uy,rfl,hmc,hbn,hcy,hyr⟩:=ry
 have hid:id < c.no:=by rw [hs.h.no];exact (List.getElem?_eq_some_iff.1 hobj).1
 obtain ⟨_,_,_,cur,hcur,hl,hcsr⟩:=hs.h.obj id _ hobj
 have hnm:len+m≤140737488355328:=by
  have:(len+m) * 1≤(len+m) * by_:=Nat.mul_le_mul_left _ hby
  omega
 have hycl':(yc).length=m * sz:=hycl
 cases rx with
 | arr _ hlen hmax =>
  by_cases hm0:m=0
  ·subst hm0
   have hyc:yc=[]:=List.eq_nil_of_length_eq_zero (by simpa using hycl)
   subst hyc
   refine ⟨_,w,c,s,.arr id 0 len cap,zd8 ht hi _ b len cap cc hlen,Ext.refl c w,hs,.arr hid hlen hmax,.inl ⟨by simpa using hlen,?_,rfl⟩⟩
   have:yk9 cs (len * sz) []=cs:=by simp [yk9]
   rw [this]
   have:s.h.set id (.cells e cs)=s.h:=by
    apply List.ext_getElem?
    intro k
    rw [List.getElem?_set]
    split
    ·rename_i hk;subst hk;rw [hobj];simp [(List.getElem?_eq_some_iff.1 hobj).1]
    ·rfl
   rw [this]
  ·obtain ⟨ad,rfl⟩:∃ ad,b=some ad:=by
    cases b with
    | none=>exact absurd (hbn rfl) hm0
    | some ad=>exact ⟨ad,rfl⟩
   have hnewsl:((List.range (m * sz)).map uy).length=m * i.size:=by simp [hisz]
   have hnews:∀ (j:Nat) (v:Value),((List.range (m * sz)).map uy)[j]?=some v→w.cell? (ad.add j)=some v:=by
    intro j v hj
    obtain ⟨h1,rfl⟩:=wm9 _ _ _ _ hj
    exact (hcy ad j rfl h1).1
   have hone:∀ v∈(List.range (m * sz)).map uy,v.oneCell'=true:=by
    intro v hv
    obtain ⟨k,hk,rfl⟩:=List.mem_map.1 hv
    exact (hcy ad k rfl (by simpa using hk)).2
   have hnC:∀ j y,(yc)[j]?=some y→Rep c w y (((List.range (m * sz)).map uy).getD j undef)∧Own P c w y (((List.range (m * sz)).map uy).getD j undef)∧(((List.range (m * sz)).map uy).getD j undef).oneCell'=true:=by
    intro j y hj
    have hjl:j < m * sz:=by rw [← hycl'];exact (List.getElem?_eq_some_iff.1 hj).1
    have e1:((List.range (m * sz)).map uy).getD j undef=uy j:=by simp [List.getD_eq_getElem?_getD,hjl]
    rw [e1]
    exact ⟨(hyr j y hj).1,(hyr j y hj).2,(hcy ad j rfl hjl).2⟩
   by_cases hroom:len+m≤cap
   ·have hfit : len * sz + (yc).length ≤ cs.length := by rw [hycl', hcs, ← Nat.add_mul]; exact Nat.mul_le_mul_right _ hroom
    have hrun:=run_append_room (P:=P) w t ty e i ht hi (c.ob id) len cap cur hcur ad m cc _ hnewsl hnews hone hroom (by
     rw [← hl,hisz];simp only [List.length_map,List.length_range];rw [← hycl'];exact hfit)
    rw [hisz] at hrun
    have hC:=jt7 (P:=P) (c:=c) (w:=w) (cs:=cs) (ys:=yc) (cur:=cur) (off:=len * sz) (news:=(List.range (m * sz)).map uy) ⟨hl,hcsr⟩ (by simp [hycl']) hfit hnC
    have hsz2:((cur.toList.take (len * sz)++(List.range (m * sz)).map uy++cur.toList.drop (len * sz+((List.range (m * sz)).map uy).length)).toArray).size=cur.size:=by
     have:=hC.1
     rw [zp9 _ _ _ hfit] at this
     rw [← this,hl]
    obtain ⟨he,hs'⟩:=hs.setObj hobj hcur hsz2 hC
    exact ⟨_,_,c,_,.arr id 0 (len+m) cap,hrun,he,hs',.arr hid hroom hmax,.inl ⟨hroom,rfl,rfl⟩⟩
   ·have hlc : len * sz ≤ cs.length := by rw [hcs]; exact Nat.mul_le_mul_right _ hlen
    have holdl:(cur.toList.take (len * sz)).length=len * i.size:=by rw [hisz,List.length_take,Array.length_toList,← hl];omega
    have holds:∀ (j:Nat) (v:Value),(cur.toList.take (len * sz))[j]?=some v→w.cell? ((⟨c.ob id,0,none⟩:Addr).add j)=some v:=by
     intro j v hj
     rw [qg9,Nat.zero_add]
     simp only [World.cell?,hcur,Option.isSome_none,Bool.false_eq_true,if_false]
     rw [List.getElem?_take] at hj
     split at hj
     ·rw [← Array.getElem?_toList];exact hj
     ·cases hj
    have hrun := run_append_grow (P := P) w t ty e i zv ht hi hzz ⟨c.ob id, 0, none⟩ len cap (cur.toList.take (len * sz)) holdl holds ad m cc _ hnewsl hnews (by omega) (by omega)
     (growslice_fits (by omega) (by rw [hib];exact hb))
    have hge:=grownCap_ge w (len+m) cap e
    have hle:=grownCap_le_maxLen w (len+m) cap e (by simp only [maxLen];omega)
    generalize hcap':grownCap w (len+m) cap e=cap' at hrun hge hle
    have hsd:=hs.drew
    have hC1:Cells P c w (cs.take (len * sz)) (cur.toList.take (len * sz)).toArray:=by
     refine ⟨by simp [hl],fun j y hj=>?_⟩
     rw [List.getElem?_take] at hj
     split at hj
     ·rename_i hjl
      have:=hcsr j y hj
      have e1:((cur.toList.take (len * sz)).toArray).getD j undef=cur.getD j undef:=by
       rw [Array.getD_eq_getD_getElem?,List.getElem?_toArray,List.getElem?_take,if_pos hjl,Array.getElem?_toList,← Array.getD_eq_getD_getElem?]
      rw [e1];exact this
     ·cases hj
    have hC2:Cells P c w (yc) ((List.range (m * sz)).map uy).toArray:=by
     refine ⟨by simp [hycl'],fun j y hj=>?_⟩
     have:=hnC j y hj
     have e1:(((List.range (m * sz)).map uy).toArray).getD j undef=((List.range (m * sz)).map uy).getD j undef:=by simp [Array.getD_eq_getD_getElem?,List.getD_eq_getElem?_getD]
     rw [e1];exact this
    obtain ⟨hz1,hz2,hz3⟩:=zf8 (P:=P) (c:=c) (w:=w) hi hzz hz hzl hzs hsz (cap' - (len+m))
    have hC3:=uc9 (uc9 hC1 hC2) (ys:=repC (cap' - (len+m)) z.cells) (vs:=Builtin.zeroCells zv.cells (cap' - (len+m))) ⟨by rw [hz1,hz2],hz3⟩
    obtain ⟨c',_,he,hs',hr⟩:=newArr hsd (e:=e) (uv8 (xl9 c w) (zm8 c w _ rfl) hC3) (len+m) cap' hge hle
    exact ⟨_,_,c',_,_,hrun,(xl9 c w).trans he,hs',hr,.inr ⟨by omega,cap',hge,hle,rfl,rfl⟩⟩
theorem appNil_sound {t ty e sz by_ : Nat} {ag : Bool} {z : AV} {u v : Value} {s0 : Nat} {x0 : List AV} {m : Nat} {yc : List AV} (hs : SimSt P c w s a) (hsl : slI P t = some (e, ag, sz)) (hap : apI P e = some (sz, by_))
  (hz:zA P e=some z) (hzl:z.cells.length=sz) (hsz:0 < sz) (rx:Rep c w (.lst .nil s0 x0) u) (hby:0 < by_) (ry:Row P c w m sz yc v) (hm0:0 < m) (hb:m * by_≤140737488355328) :
  ∃ v' w' c' cap', (Builtin.append_ #[t, t] ty #[u, v]).run P w = .ok v' w' ∧ Ext c w c' w' ∧ m ≤ cap' ∧ cap' ≤ maxLen ∧ SimSt P c' w' { s with h := s.h ++ [.cells e (yc ++ repC (cap' - m) z.cells)] } a ∧
   Rep c' w' (.arr s.h.length 0 m cap') v':=by
 obtain ⟨ht,hty⟩:=xf9 hsl
 obtain ⟨i,zv,hi,hzz,hisz,hib,hzs,_⟩:=un8 hap
 have hu:u=.slice none 0 0:=by
  cases rx with
  | lst u hn hcap hmax hs hsz hrf hz hnil hc hr =>
   have h1:_=none:=hnil
   obtain ⟨h2,h3⟩:=hz h1
   subst h1;subst h2;subst h3;rfl
 subst hu
 obtain ⟨hycl,b,cc,uy,rfl,hmc,hbn,hcy,hyr⟩:=ry
 obtain ⟨ad,rfl⟩:∃ ad,b=some ad:=by
  cases b with
  | none=>have:=hbn rfl;omega
  | some ad=>exact ⟨ad,rfl⟩
 have hnm:m≤140737488355328:=by
  have:m * 1≤m * by_:=Nat.mul_le_mul_left _ hby
  omega
 have hycl':(yc).length=m * sz:=hycl
 have hnewsl:((List.range (m * sz)).map uy).length=m * i.size:=by simp [hisz]
 have hnews:∀ (j:Nat) (v:Value),((List.range (m * sz)).map uy)[j]?=some v→w.cell? (ad.add j)=some v:=by
  intro j v hj
  obtain ⟨h1,rfl⟩:=wm9 _ _ _ _ hj
  exact (hcy ad j rfl h1).1
 have hrun:=run_append_nil (P:=P) w t ty e i zv ht hi hzz ad m cc _ hnewsl hnews hm0 (by omega) (by rw [hib];omega)
 have hge:=grownCap_ge w m 0 e
 have hle:=grownCap_le_maxLen w m 0 e (by simp only [maxLen];omega)
 generalize hcap':grownCap w m 0 e=cap' at hrun hge hle
 have hC2:Cells P c w (yc) ((List.range (m * sz)).map uy).toArray:=by
  refine ⟨by simp [hycl'],fun j y hj=>?_⟩
  have hjl:j < m * sz:=by rw [← hycl'];exact (List.getElem?_eq_some_iff.1 hj).1
  have e1:(((List.range (m * sz)).map uy).toArray).getD j undef=uy j:=by simp [Array.getD_eq_getD_getElem?,hjl]
  rw [e1]
  exact ⟨(hyr j y hj).1,(hyr j y hj).2,(hcy ad j rfl hjl).2⟩
 obtain ⟨hz1,hz2,hz3⟩:=zf8 (P:=P) (c:=c) (w:=w) hi hzz hz hzl hzs hsz (cap' - m)
 have hC3:=uc9 hC2 (ys:=repC (cap' - m) z.cells) (vs:=Builtin.zeroCells zv.cells (cap' - m)) ⟨by rw [hz1,hz2],hz3⟩
 obtain ⟨c',_,he,hs',hr⟩:=newArr hs.drew (e:=e) (uv8 (xl9 c w) (zm8 c w _ rfl) hC3) m cap' hge hle
 exact ⟨_,_,c',cap',hrun,(xl9 c w).trans he,hge,hle,hs',hr⟩
theorem appZ_sound {t tn ty e sz by_ : Nat} {ag : Bool} {z : AV} {k kn : IntKind} {u : Value} {n s0 : Nat} {x0 : List AV} (hs : SimSt P c w s a) (hsl : slI P t = some (e, ag, sz)) (htn : P.underlying tn = some (.int kn)) (hap : apI P e = some (sz, by_))
  (hz:zA P e=some z) (hzl:z.cells.length=sz) (hsz:0 < sz) (hn:0 < n) (rx:Rep c w (.lst .nil s0 x0) u) (hb:n * by_≤140737488355328) (hby:0 < by_) :
  ∃ v' w' c' cap',(Builtin.append_ #[t,tn] ty #[u,.int k n]).run P w=.ok v' w'∧Ext c w c' w'∧n≤cap'∧cap'≤maxLen∧SimSt P c' w' { s with h:=s.h++[.cells e (repC cap' z.cells)] } a∧Rep c' w' (.arr s.h.length 0 n cap') v':=by
 obtain ⟨ht,hty⟩:=xf9 hsl
 obtain ⟨i,zv,hi,hzz,hisz,hib,hzs,_⟩:=un8 hap
 have hu:u=.slice none 0 0:=by
  cases rx with
  | lst u hn hcap hmax hs hsz hrf hz hnil hc hr =>
   have h1:_=none:=hnil
   obtain ⟨h2,h3⟩:=hz h1
   subst h1;subst h2;subst h3;rfl
 subst hu
 have hnm:n≤140737488355328:=by
  have:n * 1≤n * by_:=Nat.mul_le_mul_left _ hby
  omega
 have hrun:=Lib.run_append_nil_zeros (P:=P) w t tn ty e i zv k kn ht htn hi hzz n hn (by omega) (by omega) (by rw [hib];omega)
 have hge:=grownCap_ge w n 0 e
 have hle:=grownCap_le_maxLen w n 0 e (by simp only [maxLen];omega)
 generalize hcap':grownCap w n 0 e=cap' at hrun hge hle
 obtain ⟨ha1,ha2,ha3⟩:=zf8 (P:=P) (c:=c) (w:=w) hi hzz hz hzl hzs hsz n
 obtain ⟨hb1,hb2,hb3⟩:=zf8 (P:=P) (c:=c) (w:=w) hi hzz hz hzl hzs hsz (cap' - n)
 have hC:=uc9 (P:=P) (c:=c) (w:=w) (xs:=repC n z.cells) (us:=Builtin.zeroCells zv.cells n) (ys:=repC (cap' - n) z.cells) (vs:=Builtin.zeroCells zv.cells (cap' - n)) ⟨by rw [ha1,ha2],ha3⟩ ⟨by rw [hb1,hb2],hb3⟩
 have hrep:∀ (a b:Nat) (zs:List AV),repC a zs++repC b zs=repC (a+b) zs:=by
  intro a b zs
  induction a with
  | zero=>simp [repC]
  | succ a ih=>simp only [repC,List.append_assoc,ih,Nat.succ_add]
 rw [hrep,show n+(cap' - n)=cap' by omega] at hC
 obtain ⟨c',_,he,hs',hr⟩:=newArr hs.drew (e:=e) (uv8 (xl9 c w) (zm8 c w _ rfl) hC) n cap' hge hle
 exact ⟨_,_,c',cap',hrun,(xl9 c w).trans he,hge,hle,hs',hr⟩
theorem qr6 {t t2 ty e e2 sz id off len cap : Nat} {ag : Bool} {oy : Fl} {ys yc cs : List AV} {u v : Value} (hs : SimSt P c w s a) (hsl : slI P t = some (e, ag, sz))
  (hsz:0 < sz) (hobj:s.h[id]?=some (.cells e2 cs)) (hcs:off+len * sz≤cs.length) (rx:Rep c w (.arr id off len cap) u)
  (ry:Rep c w (.lst oy sz ys) v) (hcat:catK sz (ys.take len)=some yc) :
  ∃ w',(Builtin.copy_ #[t,t2] ty #[u,v]).run P w=.ok (goInt (min ys.length len:Nat)) w'∧Ext c w c w'∧SimSt P c w' { s with h:=s.h.set id (.cells e2 (yk9 cs off (AV.weakL yc))) } a:=by
 obtain ⟨ht,hty⟩:=xf9 hsl
 obtain ⟨b,m,cc,uy,rfl,hm,hmc,_,_,_,_,hzy,_,hcy,hryy⟩:=xv9 ry
 subst hm
 have hid:id < c.no:=by rw [hs.h.no];exact (List.getElem?_eq_some_iff.1 hobj).1
 obtain ⟨_,_,_,cur,hcur,hl,hcsr⟩:=hs.h.obj id _ hobj
 have hycl:yc.length=min ys.length len * sz:=by rw [qn9 hcat,List.length_take,Nat.min_comm]
 have hycl':(AV.weakL yc).length=min ys.length len * sz:=by rw [xg9,hycl]
 have hle:min ys.length len * sz≤len * sz:=Nat.mul_le_mul_right _ (Nat.min_le_right _ _)
 have hle2:min ys.length len * sz≤ys.length * sz:=Nat.mul_le_mul_right _ (Nat.min_le_left _ _)
 have hfit:off+(AV.weakL yc).length≤cs.length:=by rw [hycl'];omega
 have hyr:∀ j y,(AV.weakL yc)[j]?=some y→Rep c w y (uy j):=by
  intro j y hj
  rw [vf9] at hj
  obtain ⟨y',hy',rfl⟩:=Option.map_eq_some_iff.1 hj
  obtain ⟨x,hx,hxc,_⟩:=catK_inv hsz hcat hy'
  rw [List.getElem?_take] at hx
  split at hx
  ·have:=hryy _ _ _ _ hx hxc
   rw [Nat.mul_comm,Nat.div_add_mod] at this
   exact this.weak
  ·cases hx
 cases rx with
 | arr _ hlen hmax =>
  have hfc:(Builtin.firstCells sz (min ys.length len) (.slice b ys.length cc)).run P w=.ok ((List.range (min ys.length len * sz)).map uy).toArray w:=by
   cases b with
   | none =>
    have h0:ys.length=0:=(hzy rfl).1
    rw [run_firstCells_none]
    simp [h0]
   | some ad=>exact run_firstCells_some (P:=P) w sz (min ys.length len) ad ys.length cc ((List.range (min ys.length len * sz)).map uy) (by simp) (fun j v hj=>by
     obtain ⟨h1,rfl⟩:=wm9 _ _ _ _ hj
     exact (hcy ad j rfl (by omega)).1)
  have hone:∀ v∈(List.range (min ys.length len * sz)).map uy,v.oneCell'=true:=by
   intro v hv
   obtain ⟨k,hk,rfl⟩:=List.mem_map.1 hv
   have hk':k < min ys.length len * sz:=by simpa using hk
   cases b with
   | none=>have:=(hzy rfl).1;simp [this] at hk'
   | some ad=>exact (hcy ad k rfl (by omega)).2.2
  have hnC:∀ j y,(AV.weakL yc)[j]?=some y→Rep c w y (((List.range (min ys.length len * sz)).map uy).getD j undef)∧Own P c w y (((List.range (min ys.length len * sz)).map uy).getD j undef)∧(((List.range (min ys.length len * sz)).map uy).getD j undef).oneCell'=true:=by
   intro j y hj
   have hjl:j < min ys.length len * sz:=by rw [← hycl'];exact (List.getElem?_eq_some_iff.1 hj).1
   have e1:((List.range (min ys.length len * sz)).map uy).getD j undef=uy j:=by simp [List.getD_eq_getElem?_getD,hjl]
   rw [e1]
   exact ⟨hyr j y hj,.none (qj8 (tl_weakL yc) hj),hone _ (List.mem_map.2 ⟨j,by simpa using hjl,rfl⟩)⟩
  have hC:=jt7 (P:=P) (c:=c) (w:=w) (cs:=cs) (ys:=AV.weakL yc) (cur:=cur) (off:=off) (news:=(List.range (min ys.length len * sz)).map uy) ⟨hl,hcsr⟩ (by simp [hycl']) hfit hnC
  have hst:=run_storeCells_at P (c.ob id) off e2 ((List.range (min ys.length len * sz)).map uy) 0 cur w hcur (by simp;omega) hone
  simp only [Nat.add_zero] at hst
  have hsz2:((cur.toList.take off++(List.range (min ys.length len * sz)).map uy++cur.toList.drop (off+((List.range (min ys.length len * sz)).map uy).length)).toArray).size=cur.size:=by
   have:=hC.1
   rw [zp9 _ _ _ hfit] at this
   rw [← this,hl]
  obtain ⟨he,hs'⟩:=hs.setObj hobj hcur hsz2 hC
  refine ⟨_,?_,he,hs'⟩
  have hlo:(Builtin.lenOf (.slice b ys.length cc)).run P w=.ok ys.length w:=rfl
  have h1:#[t,t2][0]?=some t:=rfl
  simp only [Builtin.copy_,Sem.run_bind,run_underlying ht,Result.andThen_ok,hlo,zb9 w hty,Sem.run_pure,List.getElem?_toArray,List.getElem?_cons_zero,List.getElem?_cons_succ]
  have e3:Nat.min ys.length len=min ys.length len:=rfl
  rw [e3,hfc]
  simp only [Result.andThen_ok,hst,Sem.run_bind,Sem.run_pure]
def evLent (P:Program) (s:St) (d:Option Tmp) (src dst:TypeId) (x:Operand):Option St :=
 match s.ev x with
 | some (.arr id off len _)=>match s.h[id]? with
  | some (.cells ty cs)=>match tyI P ty with
   | some (ag,sz) =>
    if 0 < sz∧(ag=true∨sz=1)∧off+len * sz≤(cs.take (off+len * sz)).length∧AV.koneL (cs.take (off+len * sz))=true∧AV.rfL (cs.take (off+len * sz))=true then
     (cvA P src dst (.lst .any sz (chunk ag sz len ((AV.weakL (cs.take (off+len * sz))).drop off)))).bind (s.put d) else none
   | none=>none
  | _=>none
 | _=>none
theorem evLent_sound {s' : St} {d : Option Tmp} {src dst : TypeId} {x : Operand} (hs : SimSt P c w s a) (h : evLent P s d src dst x = some s') :
  ∃ u,(convert src dst (a.eval x)).run P w=.ok u w∧SimSt P c w s' (a.put d u):=by
 unfold evLent at h
 split at h
 ·rename_i id off len cap hev
  split at h
  ·rename_i ty cs hobj
   split at h
   ·rename_i ag sz hty
    split at h
    ·rename_i hc
     obtain ⟨hsz,hag,hle,hk,hrf⟩:=hc
     obtain ⟨z,hz,hput⟩:=Option.bind_eq_some_iff.1 h
     obtain ⟨hr,_⟩:=hs.ev hev
     obtain ⟨hbase,hpm,how,cur,hcur,hcl,hcc⟩:=hs.h.obj id _ hobj
     generalize heq:a.eval x=v at hr
     cases hr with
     | arr hid hlen hmax =>
      let c1:Ctx:=c.setB (c.ob id) cs.length 0
      have he1 : Ext c w c1 w := {
       base:=rfl,os:=rfl,tape:=rfl,output:=rfl,size:=Nat.le_refl _,below:=fun _ _=>rfl,cell:=fun _ _ _ h=>h
       pm:=fun b _=>by
        simp only [c1,Ctx.setB]
        split
        ·rename_i e;subst e;rw [hpm];exact Nat.zero_le _
        ·exact Nat.le_refl _
       pmb:=fun b hb'=>by simp only [c1,Ctx.setB];rw [if_neg (fun e=>hb' (by rw [e];exact hbase))]
       owb:=fun b hb'=>by simp only [c1,Ctx.setB];rw [if_neg (fun e=>hb' (by rw [e];exact hbase))]
       no:=Nat.le_refl _
       ob:=fun _ _=>rfl
       dfr:=fun _ h=>h }
      have hcell:∀ j y,(AV.weakL (cs.take (off+len * sz)))[j]?=some y→∃ u,w.cell? ⟨c1.ob id,j,none⟩=some u∧c1.prot ⟨c1.ob id,j,none⟩∧u.oneCell'=true∧Rep c1 w y u:=by
       intro j y hj
       rw [vf9] at hj
       obtain ⟨z,hz,rfl⟩:=Option.map_eq_some_iff.1 hj
       rw [List.getElem?_take] at hz
       split at hz
       ·have hjl := (List.getElem?_eq_some_iff.1 hz).1
        obtain ⟨r1,_,r3⟩:=hcc j z hz
        refine ⟨cur.getD j undef,?_,?_,r3,(r1.mono he1).weak⟩
        ·show w.cell? ⟨c.ob id,j,none⟩=_
         simp only [World.cell?,hcur,Option.isSome_none,Bool.false_eq_true,if_false]
         rw [Array.getD_eq_getD_getElem?,Array.getElem?_eq_getElem (by omega)]
         rfl
        ·show j < (if c.ob id=c.ob id then _ else _)
         rw [if_pos rfl];exact hjl
       ·cases hz
      have hrep:=vw8 (c:=c1) (w:=w) (id:=id) (off:=off) (len:=len) (cap:=cap) (cs:=AV.weakL (cs.take (off+len * sz))) (o:=.any) hsz hag (by rw [xg9];exact hle) (by rw [zb8];exact hk) (weakL_rf _ hrf) hcell trivial hlen hmax
      obtain ⟨r,h1,h2⟩:=cvA_sound hz hrep
      subst h2
      exact ⟨r,h1,hs.put hput (.v r) (.none rfl)⟩
    ·cases h
   ·cases h
  ·cases h
 ·cases h
def yf7 (P:Program) (s:St) (dst:Option Tmp) (t:TypeId) (len:Nat) (parts:List (Nat × Operand)):Option St :=
 match slI P t with
 | some (e,_,sz)=>match zA P e with
  | some z=>(evParts P s (fun _=>e) parts).bind fun ps=>(catK sz (ps.map (·.2))).bind fun fl =>
    if ps.map (·.1)=List.range len∧0 < sz∧z.cells.length=sz∧0 < len∧len * sz≤16777216 then ({ s with h:=s.h++[.cells e fl] }:St).put dst (.arr s.h.length 0 len len) else none
  | none=>none
 | none=>none
theorem evBsO_sound {s' : St} {dst : Option Tmp} {t : TypeId} {len : Nat} {parts : Array (Nat × Operand)} (hs : SimSt P c w s a) (h : yf7 P s dst t len parts.toList = some s') :
  ∃ u w' c',(Instr.buildSlice t len (parts.map fun (i,x)=>(i,a.eval x))).run P w=.ok u w'∧Ext c w c' w'∧SimSt P c' w' s' (a.put dst u):=by
 unfold yf7 at h
 split at h
 ·rename_i e ag sz hsl
  obtain ⟨hu,hty⟩:=xf9 hsl
  split at h
  ·rename_i zz hz
   obtain ⟨ps,hps,h⟩:=Option.bind_eq_some_iff.1 h
   obtain ⟨fl,hcat,h⟩:=Option.bind_eq_some_iff.1 h
   split at h
   ·rename_i hc
    obtain ⟨hidx,hsz,hzl,hlen0,hle⟩:=hc
    obtain ⟨i,u,hi,hzz,hr,htl,hone,hlen,hcell⟩:=yl8 (c:=c) (w:=w) hz
    have hus:u.cells.size=sz:=by rw [← hlen];exact hzl
    have hpl:ps.length=len:=by have:=congrArg List.length hidx;simpa using this
    have hP:RepP P c w ps ((parts.map fun (i,x)=>(i,a.eval x)).toList):=by
     have:=hs.evParts hps
     rw [Array.toList_map]
     exact this
    have hpz:ps=(List.range' 0 (ps.map (·.2)).length).zip (ps.map (·.2)):=by
     rw [List.length_map,hpl,← List.range_eq_range',← hidx]
     exact zip_parts ps
    have hfill:=kg7 (ps.map (·.2)) fl 0 [] hcat (by simp)
    rw [← hpz,List.nil_append,List.nil_append,List.length_map,hpl] at hfill
    have hzero:Cells P c w (List.replicate (len * sz) .any) ((Array.range (len * sz)).map (fun k=>u.cells[k % u.cells.size]!)):=by
     refine ⟨by simp,fun j y hj=>?_⟩
     have hj':=List.getElem?_eq_some_iff.1 hj
     obtain ⟨hj1,hj2⟩:=hj'
     simp at hj1 hj2
     subst hj2
     refine ⟨.any _,.none rfl,?_⟩
     rw [vl9 _ _ _ hj1]
     have hm:j % u.cells.size < u.cells.size:=Nat.mod_lt _ (by omega)
     have:=hone _ hm
     rw [Array.getD_eq_getD_getElem?,Array.getElem?_eq_getElem hm] at this
     rw [getElem!_pos u.cells _ hm]
     exact this
    obtain ⟨cs',h1,h2⟩:=ul8 hP hzero hfill
    have hmax:len≤maxLen:=by
     have:len * 1≤len * sz:=Nat.mul_le_mul_left _ hsz
     simp only [maxLen];omega
    obtain ⟨c',k1,k2,k3,k4⟩:=newArr hs (e:=e) h2 len len (Nat.le_refl _) hmax
    refine ⟨_,_,c',?_,k2,k3.put h k4 (.none rfl)⟩
    have hnle':¬ (len * sz > 2 ^ 24):=by simpa using hle
    have h0:¬ len * sz=0:=by
     have:=Nat.mul_pos hlen0 hsz
     omega
    simp only [Instr.buildSlice,run_underlying hu,Sem.run_bind,Result.andThen_ok,zb9 w hty,if_neg hnle',Sem.run_pure,if_neg h0,ut8 hi hzz,h1]
    rfl
   ·cases h
  ·cases h
 ·cases h
def qk9 (P:Program) (s:St) (o:Oper):Option St :=
 match o.op with
 | .convert src dst x => if src = dst then
   match P.underlying src with
   | some (.slice e)=>match P.underlying e with
    | some (.int .u8)=>match s.ev x with
     | some (.lst (.tip _ T) sz (y :: ys))=>if T % 2=0 then (⟨s.n,qn7 T s.fr,s.h.map (AObj.kill T)⟩:St).put o.dst (.lst .ex sz (y :: ys)) else none
     | _=>none
    | _=>none
   | _=>none
  else evLent P s o.dst src dst x
 | .buildSlice t len ps=>yf7 P s o.dst t len ps.toList
 | _=>none
theorem evSame_sound {s' : St} {o : Oper} (hs : SimSt P c w s a) (h : qk9 P s o = some s') :
  ∃ u w' c',(execOp a.eval o).run P w=.ok (.value u) w'∧Ext c w c' w'∧SimSt P c' w' s' (a.put o.dst u):=by
 unfold qk9 at h
 split at h
 ·rename_i src dst x ho
  split at h
  ·rename_i hsd
   subst hsd
   split at h
   ·rename_i e hu
    split at h
    ·rename_i hue
     split at h
     ·rename_i e' T sz y ys hev
      split at h
      rotate_left
      ·cases h
      rename_i heven
      obtain ⟨hr,hown⟩:=hs.ev hev
      generalize heq:a.eval x=v at hr hown
      cases hown with
      | none h0=>simp [AV.tl] at h0
      | @tip _ _ _ _ ad n cap hT hse hat =>
       rcases hat with ⟨_,h2,_⟩ | ⟨g,cur,rfl,hbg,hg,hcs,hpm,how,_⟩
       ·exfalso
        cases hr with
        | lst u hn=>rw [h2] at hn;simp at hn
       ·have hgl := xd6 hg
        let w1:World:=w.freeze { block:=g,off:=cur.size } 1
        have hw1:∀ k,k≠g→w1.heap[k]?=w.heap[k]?:=fun k hk=>by
         simp only [w1,World.freeze,Nat.one_ne_zero,if_false,Array.getElem?_modify]
         rw [if_neg (Ne.symm hk)]
        have hw1g:w1.heap[g]?=some (.cells cur e' (cur.size,cur.size+1)):=by
         simp only [w1,World.freeze,Nat.one_ne_zero,if_false,Array.getElem?_modify,if_pos,hg,Option.map_some]
         rfl
        have hw1s:w1.heap.size=w.heap.size:=by simp [w1,World.freeze]
        have he : Ext c w c w1 := {
         base:=rfl,os:=by simp [w1,World.freeze],tape:=by simp [w1,World.freeze],output:=by simp [w1,World.freeze]
         size:=by rw [hw1s];exact Nat.le_refl _
         below:=fun k hk=>hw1 k (fun e=>hk (by rw [e];exact hbg))
         cell:=fun ad v _ hv=>by
          by_cases hb:ad.block=g
          ·simp only [World.cell?,hb,hg] at hv
           simp only [World.cell?,hb,hw1g]
           exact hv
          ·rw [cell_of_heap (hw1 _ hb)];exact hv
         pm:=fun _ _=>Nat.le_refl _
         pmb:=fun _ _=>rfl
         owb:=fun _ _=>rfl
         no:=Nat.le_refl _
         ob:=fun _ _=>rfl
         dfr:=fun k hk=>by
          by_cases hb:k=g
          ·subst hb;rw [hg] at hk;cases hk
          ·rw [hw1 k hb];exact hk }
        have hk:Keeps c w c w1 (some T):=by
         intro k cur0 e0 hbk hk hne
         have hkg:k≠g:=by intro h;subst h;exact hne how.symm
         exact ⟨by rw [hw1 k hkg];exact hk,rfl,rfl⟩
        have hs1:=hs.mono (T:=some T) he hk rfl fun k oo hk hlv=>by
         obtain ⟨_,_,ho0⟩:=hs.h.live hk hlv
         exact ⟨hw1 _ (by intro h;rw [h,how] at ho0;exact hT ho0),rfl,rfl⟩
        have hrun:(execOp a.eval o).run P w=.ok (.value (.slice (some ⟨g,0,none⟩) n cap)) w1:=by
         unfold execOp
         simp only [ho,heq,convert,Sem.run_bind,run_underlying hu,Result.andThen_ok,run_underlying hue,beq_self_eq_true,markStringish]
         simp [Sem.run,shape,World.shape?,hg,freeze,w1]
        have hr1:Rep c w1 (.lst .ex sz (y :: ys)) (.slice (some ⟨g,0,none⟩) n cap):=by
         exact (hr.mono he).lst_flag (fun h=>h heven)
        exact ⟨_,w1,c,hrun,he,hs1.put h hr1 (.none rfl)⟩
     ·cases h
    ·cases h
   ·cases h
  ·obtain ⟨u,h1,h2⟩:=evLent_sound hs h
   refine ⟨u,w,c,?_,Ext.refl c w,h2⟩
   unfold execOp
   simp only [ho,Sem.run_bind,h1,Result.andThen_ok]
   rfl
 ·rename_i t len ps ho
  obtain ⟨u,w',c',h1,h2,h3⟩:=evBsO_sound hs h
  exact ⟨u,w',c',by unfold execOp;simp only [ho,Sem.run_bind,h1,Result.andThen_ok,Sem.run_pure],h2,h3⟩
 ·cases h
def qw8 (P:Program) (o:Oper) (s:St) (K:St→Prop):Prop :=
 match o.op with
 | .call c=>match c.callee,c.args.toList,c.argTypes.toList with
  | .builtin .append,[xo,yo],[t,t'] =>
   (t' = t ∧ ∃ e ag sz by_ z id len cap cs m yc, slI P t = some (e, ag, sz) ∧ apI P e = some (sz, by_) ∧ zA P e = some z ∧ z.cells.length = sz ∧ 0 < sz ∧ 0 < by_ ∧ s.evT P t xo = some (.arr id 0 len cap) ∧
    s.h[id]?=some (.cells e cs)∧cs.length=cap * sz∧srcA P s t yo sz=some (m,yc)∧(len+m) * by_≤140737488355328 ∧
    ∀ s1 x1,appQ0 s e sz id len cap m yc cs z.cells s1 x1→∃ s',s1.put o.dst x1=some s'∧K s') ∨
   (∃ e ag sz by_ z kn k n s0 x0, s.evT P t xo = some (.lst .nil s0 x0) ∧ slI P t = some (e, ag, sz) ∧ P.underlying t' = some (.int kn) ∧ apI P e = some (sz, by_) ∧ zA P e = some z ∧ z.cells.length = sz ∧ 0 < sz ∧ 0 < by_ ∧
    s.ev yo=some (.v (.int k (n:Nat)))∧0 < n∧n * by_≤140737488355328 ∧
    ∀ cap',n≤cap'→cap'≤maxLen→∃ s',({ s with h:=s.h++[.cells e (repC cap' z.cells)] }:St).put o.dst (.arr s.h.length 0 n cap')=some s'∧K s') ∨
   (t' = t ∧ ∃ e ag sz by_ z s0 x0 m yc, s.evT P t xo = some (.lst .nil s0 x0) ∧ slI P t = some (e, ag, sz) ∧ apI P e = some (sz, by_) ∧ zA P e = some z ∧ z.cells.length = sz ∧ 0 < sz ∧ 0 < by_ ∧
    srcA P s t yo sz=some (m,yc)∧0 < m∧m * by_≤140737488355328 ∧
    ∀ cap',m≤cap'→cap'≤maxLen→∃ s',({ s with h:=s.h++[.cells e (yc++repC (cap' - m) z.cells)] }:St).put o.dst (.arr s.h.length 0 m cap')=some s'∧K s')
  | .builtin .copy, [xo, yo], [t, t'] => ∃ e e2 ag sz id off len cap cs oy ys yc, slI P t = some (e, ag, sz) ∧ 0 < sz ∧ s.evT P t xo = some (.arr id off len cap) ∧ s.h[id]? = some (.cells e2 cs) ∧ off + len * sz ≤ cs.length ∧
    s.evT P t' yo=some (.lst oy sz ys)∧catK sz (ys.take len)=some yc ∧
    ∃ s',({ s with h:=s.h.set id (.cells e2 (yk9 cs off (AV.weakL yc))) }:St).put o.dst (.v (goInt (min ys.length len:Nat)))=some s'∧K s'
  | _,_,_=>False
 | _=>∃ s',qk9 P s o=some s'∧K s'
theorem callB_mono {o:Oper} {K K':St→Prop} (hk:∀ s,K s→K' s) (h:qw8 P o s K):qw8 P o s K':=by
 unfold qw8 at *
 split
 ·rename_i c ho
  rw [ho] at h
  dsimp only at h
  split
  ·rename_i xo yo t t' h1 h2 h3
   rw [h1,h2,h3] at h
   dsimp only at h
   rcases h with ⟨e,h⟩ | h | ⟨e,h⟩
   ·obtain ⟨a1,a2,a3,a4,a5,a6,a7,a8,a9,b1,b2,c1,c2,c3,c4,c5,c6,c7,c8,c9,d1,d2,d4⟩:=h
    exact .inl ⟨e,a1,a2,a3,a4,a5,a6,a7,a8,a9,b1,b2,c1,c2,c3,c4,c5,c6,c7,c8,c9,d1,d2,fun s1 x1 hq=>let ⟨s',k1,k2⟩:=d4 s1 x1 hq;⟨s',k1,hk _ k2⟩⟩
   ·obtain ⟨a1,a2,a3,a4,a5,a6,a7,a8,a8',a8'',a9,b1,b2,b3,c1,c2,c3,c4,c5,c6,c7,c8⟩:=h
    exact .inr (.inl ⟨a1,a2,a3,a4,a5,a6,a7,a8,a8',a8'',a9,b1,b2,b3,c1,c2,c3,c4,c5,c6,c7,fun cap' q1 q2=>let ⟨s',k1,k2⟩:=c8 cap' q1 q2;⟨s',k1,hk _ k2⟩⟩)
   ·obtain ⟨a1,a2,a3,a4,a5,a6,a7,a8,a9,b1,b2,c1,c2,c3,c4,c5,c6,c7,c9,d1⟩:=h
    exact .inr (.inr ⟨e,a1,a2,a3,a4,a5,a6,a7,a8,a9,b1,b2,c1,c2,c3,c4,c5,c6,c7,c9,fun cap' q1 q2=>let ⟨s',k1,k2⟩:=d1 cap' q1 q2;⟨s',k1,hk _ k2⟩⟩)
  ·rename_i xo yo t t' h1 h2 h3
   rw [h1,h2,h3] at h
   dsimp only at h
   obtain ⟨a0,a1,a2,a3,a4,a5,a6,a7,a8,a9,b1,b2,b3,c1,c2,c3,c4,c5,c6,s',k1,k2⟩:=h
   exact ⟨a0,a1,a2,a3,a4,a5,a6,a7,a8,a9,b1,b2,b3,c1,c2,c3,c4,c5,c6,s',k1,hk _ k2⟩
  ·rename_i h1 h2
   split at h
   ·rename_i a1 a2 a3;exact absurd a3 (h1 _ _ _ _ a1 a2)
   ·rename_i a1 a2 a3;exact absurd a3 (h2 _ _ _ _ a1 a2)
   ·exact h
 ·rename_i hno
  split at h
  ·exact absurd (by assumption) (hno _)
  ·obtain ⟨s',k1,k2⟩:=h;exact ⟨s',k1,hk _ k2⟩
variable {F : Fence} {n : Nat} {o : Oper} {K : Act → World → Prop} {Q : Exit → Act → World → Prop}
theorem callB_wp {K':St→Prop} (hF:Good F) (hs:SimSt P c w s a) (h:qw8 P o s K') (hk:∀ s' a' c' w',K' s'→SimSt P c' w' s' a'→Ext c w c' w'→K a' w'):o.wpIn F n P a w K Q:=by
 unfold qw8 at h
 split at h
 ·rename_i cl ho
  refine ⟨fun f _=>hF.1 f,?_⟩
  rw [Oper.semAt_eq _ _ _ (by simp [ho])]
  split at h
  ·rename_i xo yo t t' h1 h2 h3
   have hargs:cl.args=#[xo,yo]:=by rw [← Array.toArray_toList (xs:=cl.args),h2]
   have htys:cl.argTypes=#[t,t']:=by rw [← Array.toArray_toList (xs:=cl.argTypes),h3]
   have hrun:(execOp a.eval o).run P w=((Builtin.append_ #[t,t'] o.type #[a.eval xo,a.eval yo]).run P w).andThen fun v w=>.ok (.value v) w:=by
    unfold execOp
    simp only [ho,resolve,h1,hargs,htys,invoke,builtin,Sem.run_bind,Sem.run_pure,Result.andThen_ok,List.map_toArray,List.map_cons,List.map_nil]
   rcases h with ⟨rfl,e,ag,sz,by_,z,id,len,cap,cs,my,yc,q1,q2,q3,q4,q5,q6,q7,q8,q9,q10,q12,q13⟩ | ⟨e,ag,sz,by_,z,kn,k,m,s0,x0,q0,q1,q2,q3,q4,q5,q6,q7,q8,q9,q10,q11⟩ | ⟨rfl,e,ag,sz,by_,z,s0,x0,my,yc,q0,q1,q2,q3,q4,q5,q6,q7,q9,q10,q11⟩
   ·obtain ⟨v', w', c', s1, x1, r1, r2, r3, r4, r5⟩ := appArr_sound (ty := o.type) hs q1 q2 q3 q4 q5 q6 q8 q9 (hs.evT q7).1 (zw7 hs q5 q10) q12
    obtain ⟨s',p1,p2⟩:=q13 s1 x1 r5
    rw [hrun,r1]
    have ho2:Own P c' w' x1 v':=by
     rcases r5 with ⟨_,_,rfl⟩ | ⟨_,_,_,_,_,rfl⟩ <;> exact .none rfl
    exact hk _ _ _ _ p2 (r3.put p1 r4 ho2) r2
   ·have hm:a.eval yo=.int k m:=(hs.ev q8).1.v_inv
    obtain ⟨v',w',c',cap',r1,r2,r3,r4,r5,r6⟩:=appZ_sound (ty:=o.type) (k:=k) hs q1 q2 q3 q4 q5 q6 q9 (hs.evT q0).1 q10 q7
    obtain ⟨s',p1,p2⟩:=q11 cap' r3 r4
    rw [hrun,hm]
    rw [r1]
    exact hk _ _ _ _ p2 (r5.put p1 r6 (.none rfl)) r2
   ·obtain ⟨v',w',c',cap',r1,r2,r3,r4,r5,r6⟩:=appNil_sound (ty:=o.type) hs q1 q2 q3 q4 q5 (hs.evT q0).1 q6 (zw7 hs q5 q7) q9 q10
    obtain ⟨s',p1,p2⟩:=q11 cap' r3 r4
    rw [hrun,r1]
    exact hk _ _ _ _ p2 (r5.put p1 r6 (.none rfl)) r2
  ·rename_i xo yo t t' h1 h2 h3
   have hargs:cl.args=#[xo,yo]:=by rw [← Array.toArray_toList (xs:=cl.args),h2]
   have htys:cl.argTypes=#[t,t']:=by rw [← Array.toArray_toList (xs:=cl.argTypes),h3]
   have hrun:(execOp a.eval o).run P w=((Builtin.copy_ #[t,t'] o.type #[a.eval xo,a.eval yo]).run P w).andThen fun v w=>.ok (.value v) w:=by
    unfold execOp
    simp only [ho,resolve,h1,hargs,htys,invoke,builtin,Sem.run_bind,Sem.run_pure,Result.andThen_ok,List.map_toArray,List.map_cons,List.map_nil]
   obtain ⟨e,e2,ag,sz,id,off,len,cap,cs,oy,ys,yc,q1,q2,q3,q4,q5,q6,q7,s',p1,p2⟩:=h
   obtain ⟨w',r1,r2,r3⟩:=qr6 (ty:=o.type) (t2:=t') hs q1 q2 q4 q5 (hs.evT q3).1 (hs.evT q6).1 q7
   rw [hrun,r1]
   exact hk _ _ _ _ p2 (r3.put p1 (.v _) (.none rfl)) r2
  ·exact h.elim
 ·obtain ⟨s',h1,h2⟩:=h
  refine ⟨fun f _=>hF.1 f,?_⟩
  obtain ⟨u,w',c',r1,r2,r3⟩:=evSame_sound hs h1
  rw [Oper.semAt_eq _ _ _ (by intro cl hcl;unfold qk9 at h1;simp [hcl] at h1),r1]
  exact hk _ _ _ _ h2 r3 r2
end
end Go.AM
namespace Go.AM
open Go.RowKit
section
variable {P : Program} {c c' : Ctx} {w w' : World}
def prep (P:Program) (s:St) (tk:Nat) (l1:List AV) (l:List (Operand × TypeId)) (l2:List AV):Option (List AV × List AObj) :=
 (evOpts P s l).bind fun xs=>(frzL P tk s.h xs).bind fun (ys,h')=>if AV.rfL (AV.dpL (l1++ys++l2)) then some (AV.dpL (l1++ys++l2),h') else none
def callA (P:Program) (o:Oper) (s:St) (K:St→Prop):Prop :=
 match o.op with
 | .call c=>match zc9 s c.callee with
  | some (f, l1, l2) => ∃ ys h' r s', ((evOpts P s (c.args.toList.zip c.argTypes.toList)).bind fun xs => frzL P (site o) s.h xs) = some (ys, h') ∧ c.args.size ≤ c.argTypes.size ∧ Sound P f (AV.nlL (l1 ++ ys ++ l2)) r ∧
    (⟨s.n,s.fr,h'⟩:St).put o.dst (r.norm (site o))=some s'∧K s'
  | none=>False
 | _=>False
def Pre (P:Program) (s:St) (R:St→Prop):Prop:=∀ (c:Ctx) (w:World) (a:Act),SimSt P c w s a→∃ (c':Ctx) (s1:St),Ext c w c' w∧SimSt P c' w s1 a∧R s1
theorem Pre.mono {s:St} {R R':St→Prop} (hk:∀ s,R s→R' s) (h:Pre P s R):Pre P s R':=fun c w a hs=>let ⟨c',s1,h1,h2,h3⟩:=h c w a hs;⟨c',s1,h1,h2,hk _ h3⟩
def step5 (P:Program) (o:Oper) (s:St) (K:St→Prop):Prop:=(∃ s',evOp P o s=some s'∧K s')∨callA P o s K∨callO P o s K∨wg7 P o s K∨qw8 P o s K
def yj8 (P:Program) (ops:List Oper) (o:Oper) (s:St) (K:St→Prop):Prop :=
 match xq9 ops s o with
 | some true=>(∃ s',evOp P o s=some s'∧K s')∨callA P o s K∨callO P o s K∨wg7 P o s K∨qw8 P o s K∨Pre P s fun s1=>xq9 ops s1 o=some true∧step5 P o s1 K
 | some false=>∃ s',s.put o.dst (.v undef)=some s'∧K s'
 | none=>False
def runA (P : Program) (ops : List Oper) : List Oper → St → (St → Prop) → Prop
 | [],s,K=>K s
 | o :: l,s,K=>yj8 P ops o s fun s'=>runA P ops l s' K
theorem evOp_noDefer {s s':St} {o:Oper} (h:evOp P o s=some s'):∀ c,o.op≠.defer c:=by
 intro c ho
 unfold evOp at h
 simp [ho,wn9] at h
variable {F : Fence} {n : Nat} {s : St} {a : Act} {o : Oper} {K : Act → World → Prop} {Q : Exit → Act → World → Prop}
theorem evOp_wp {s':St} (hF:Good F) (hs:SimSt P c w s a) (h:evOp P o s=some s') (hk:∀ a' c' w',SimSt P c' w' s' a'→Ext c w c' w'→K a' w'):o.wpIn F n P a w K Q:=by
 obtain ⟨u,nx,w',c',hrun,hnx,he,hs'⟩:=evOp_sound hs h
 refine ⟨fun f _=>hF.1 f,?_⟩
 rw [Oper.semAt_eq _ _ _ (evOp_noDefer h),hrun]
 rcases hnx with rfl | ⟨rfl,rfl⟩
 ·exact hk _ _ _ hs' he
 ·exact hk _ _ _ hs' he
theorem callA_wp {K':St→Prop} (hF:Good F) (hs:SimSt P c w s a) (h:callA P o s K') (hk:∀ s' a' c' w',K' s'→SimSt P c' w' s' a'→Ext c w c' w'→K a' w'):o.wpIn F n P a w K Q:=by
 unfold callA at h
 split at h
 ·rename_i cl ho
  split at h
  ·rename_i f l1 l2 hcal
   obtain ⟨ys,h',r,s',hprep,hlen,hsound,hput,hK⟩:=h
   obtain ⟨fo,v1,v2,hfo,hev,rl1,rl2⟩:=qp9 hs hcal
   refine ⟨fun f _=>hF.1 f,?_⟩
   rw [Oper.semAt_eq _ _ _ (by simp [ho])]
   obtain ⟨xs,hxs,hys⟩:=Option.bind_eq_some_iff.1 hprep
   have rl:=hs.evOpts hxs
   rw [wd6 (by simpa using hlen)] at rl
   obtain ⟨c1,e1,k1,s1,rlx⟩:=frzL_sound (ur8 o) xs s c _ _ _ hs hys rl
   have rlA:=((rl1.mono e1 k1).append rlx).append (rl2.mono e1 k1)
   have hcall:=hsound.2 F.plain (n - 1) c1 w _ (site o) hF rfl (ur8 o) s1.base rlA.nlL
   have hrun:(execOp a.eval o).run P w=.ok (.enter f (v1++cl.args.map a.eval++v2)) w:=by
    unfold execOp
    simp only [ho,resolve,hfo,Sem.run_bind,hev,Deferred.ofValue,Sem.run_pure,Result.andThen_ok,invoke]
    exact hsound.1.run _ _
   rw [hrun]
   refine ⟨fun hd=>(by rw [hF.2.1] at hd;cases hd),?_⟩
   have e2:(v1.toList++List.map a.eval cl.args.toList++v2.toList).toArray=v1++cl.args.map a.eval++v2:=by
    apply Array.ext';simp
   rw [e2] at hcall
   refine CallsIn.mono hcall ?_
   rintro e w2 ⟨u,c2,rfl,hp,hr,ho2⟩
   have ho3:Own P c2 w2 (r.norm (site o)) u:=ho2.rebase_up (b:=c2.base) (fun g hg=>by rw [hp.base];exact s1.base g hg)
   exact hk _ _ _ _ hK ((s1.pext hp).put hput hr ho3) (e1.trans (hp.ext s1.base))
  ·exact h.elim
 ·exact h.elim
theorem qs7 {Q Q':Exit→Act→World→Prop} {K K':Act→World→Prop} (hk:∀ a w,K a w→K' a w) (hq:∀ e a w,Q e a w→Q' e a w) (h:o.wpIn F n P a w K Q):o.wpIn F n P a w K' Q':=by
 have hl:LetsOut Q→LetsOut Q':=fun ⟨a,w,h⟩=>⟨a,w,hq _ _ _ h⟩
 unfold Oper.wpIn at *
 refine ⟨h.1,?_⟩
 have hh:=h.2
 generalize (o.semAt F.round a.eval).run P w=r at *
 cases r with
 | ok x w' =>
  cases x <;> simp only [Oper.uponIn] at hh ⊢ <;>
   first
    | exact hk _ _ hh
    | exact ⟨hh.1,CallsIn.mono hh.2 (fun e w'' he=>by cases e <;> first | exact hk _ _ he | exact hq _ _ _ he | exact hl he)⟩
    | exact ⟨hh.1,RowsIn.mono hh.2 (fun _ _ he=>hk _ _ he)⟩
    | exact ⟨hh.1,RoundIn.mono hh.2 (fun e w'' he=>by cases e <;> first | exact hk _ _ he | exact hq _ _ _ he | exact hl he)⟩
 | halt x w'=>cases x <;> simp only [Oper.uponIn] at hh ⊢ <;> first | exact hh | exact hq _ _ _ hh
theorem yc8 {ops:Array Oper} {Q Q':Exit→Act→World→Prop} (hq:∀ e a w,Q e a w→Q' e a w):∀ (l:List Nat) (a:Act) (w:World),wpOpsIn F n P ops Q l a w→wpOpsIn F n P ops Q' l a w:=by
 intro l
 induction l with
 | nil=>exact fun a w h=>hq _ _ _ h
 | cons i l ih =>
  intro a w h
  simp only [wpOpsIn] at h ⊢
  split
  ·rename_i hn;rw [hn] at h;exact ih _ _ h
  ·rename_i o hn
   rw [hn] at h
   dsimp only at h
   split
   ·rename_i hw
    rw [if_pos hw] at h
    exact qs7 ih hq h
   ·rename_i hw
    rw [if_neg hw] at h
    exact ⟨h.1,ih _ _ h.2⟩
theorem uw8 {K' : St → Prop} (hF : Good F) (hs : SimSt P c w s a) (h : step5 P o s K')
  (hk:∀ s' a' c' w',K' s'→SimSt P c' w' s' a'→Ext c w c' w'→K a' w'):o.wpIn F n P a w K Q:=by
 rcases h with ⟨s',h,hK⟩ | h | h | h | h
 ·exact evOp_wp hF hs h fun a' c' w' hs' he=>hk _ _ _ _ hK hs' he
 ·exact callA_wp hF hs h hk
 ·exact callO_wp hF hs h hk
 ·exact callY_wp hF hs h hk
 ·exact callB_wp hF hs h hk
theorem xk8 {ops : Array Oper} {i : Nat} {K' : St → Prop} (hF : Good F) (hs : SimSt P c w s a) (_ho : ops[i]? = some o) (h : yj8 P ops.toList o s K')
  (hk:∀ s' a' c' w',K' s'→SimSt P c' w' s' a'→Ext c w c' w'→K a' w') :
  if Region.wanted o (yielded ops a.tmps) then o.wpIn F n P a w K Q else (∀ f,o.about P w a.eval=some f→F.fn f)∧K (a.put o.dst undef) w:=by
 unfold yj8 at h
 split at h
 ·rename_i hg
  rw [if_pos (xk7 hs hg)]
  rcases h with h | h | h | h | h | h
  ·exact uw8 hF hs (.inl h) hk
  ·exact uw8 hF hs (.inr (.inl h)) hk
  ·exact uw8 hF hs (.inr (.inr (.inl h))) hk
  ·exact uw8 hF hs (.inr (.inr (.inr (.inl h)))) hk
  ·exact uw8 hF hs (.inr (.inr (.inr (.inr h)))) hk
  ·obtain ⟨c1,s1,he,hs1,_,h5⟩:=h c w a hs
   exact uw8 hF hs1 h5 fun s' a' c' w' hK hs' he'=>hk _ _ _ _ hK hs' (he.trans he')
 ·rename_i hg
  rw [if_neg (by rw [xk7 hs hg];simp)]
  obtain ⟨s',h,hK⟩:=h
  exact ⟨fun f _=>hF.1 f,hk _ _ _ _ hK (hs.put h (.v undef) (.none rfl)) (Ext.refl c w)⟩
 ·exact h.elim
theorem runA_wp {ops : Array Oper} (hF : Good F) : ∀ (m k : Nat) (s : St) (c : Ctx) (w : World) (a : Act) (K' : St → Prop), ops.size = k + m → SimSt P c w s a → runA P ops.toList (ops.toList.drop k) s K' →
  wpOpsIn F n P ops (fun e a' w'=>∃ s' c',zw9 K' (fun _ _=>False) e s'∧SimSt P c' w' s' a'∧Ext c w c' w') (List.range' k m) a w:=by
 intro m
 induction m with
 | zero =>
  intro k s c w a K' hk hs h
  have:ops.toList.drop k=[]:=by rw [List.drop_eq_nil_iff];simp;omega
  rw [this] at h
  exact ⟨s,c,h,hs,Ext.refl c w⟩
 | succ m ih =>
  intro k s c w a K' hk hs h
  have hlt:k < ops.toList.length:=by simp;omega
  rw [List.drop_eq_getElem_cons hlt] at h
  have ho:ops[k]?=some (ops.toList[k]):=by rw [← Array.getElem?_toList];exact List.getElem?_eq_getElem hlt
  simp only [List.range'_succ,wpOpsIn,ho]
  refine xk8 (K':=fun s'=>runA P ops.toList (ops.toList.drop (k+1)) s' K') hF hs ho h ?_
  intro s' a' c' w' hK hs' he
  have:=ih (k+1) s' c' w' a' K' (by omega) hs' hK
  refine yc8 ?_ _ _ _ this
  rintro e a2 w2 ⟨s2,c2,q,hs2,he2⟩
  exact ⟨s2,c2,q,hs2,he.trans he2⟩
theorem yv7 {top:Bool} {kf:Nat} {id:Nat} {ops:Array Oper} {Q:Exit→St→Prop} {s:St} (h:runA P ops.toList ops.toList s (fun s'=>Q .normal s')):Wt top kf P (.region id ops false) Q s:=by
 intro F n c w a hF hs
 refine wpIn_region ?_
 rw [List.range_eq_range']
 refine yc8 ?_ _ _ _ (runA_wp hF.1 ops.size 0 s c w a _ (by omega) hs (by simpa using h))
 rintro e a2 w2 ⟨s2,c2,q,hs2,he2⟩
 cases e with
 | normal=>exact ⟨s2,c2,q,hs2,he2.toK hF.2.2⟩
 | _=>exact q.elim
end
end Go.AM
set_option linter.unusedSimpArgs false
namespace Go.AM
open Go.RowKit
def kc9 (T:Nat) (s:St):St:=⟨s.n,qn7 T s.fr,s.h.map (AObj.kill T)⟩
section
variable {P : Program} {T : Nat}
theorem xk9 (T:Nat) (o:Fl) (s:Nat) (xs:List AV):∃ o',AV.kill T (.lst o s xs)=.lst o' s xs∧(o=.nil ↔ o'=.nil):=by
 cases o with
 | tip e U =>
  simp only [AV.kill]
  split
  ·refine ⟨_,rfl,?_⟩
   simp only [Fl.wk];split <;> simp
  ·exact ⟨_,rfl,by simp⟩
 | any=>exact ⟨_,rfl,by simp⟩
 | ex=>exact ⟨_,rfl,by simp⟩
 | nil=>exact ⟨_,rfl,by simp⟩
mutual
theorem weak_kill (T : Nat) : (x : AV) → (x.kill T).weak = x.weak
 | .lst (.tip e U) s xs=>by
  simp only [AV.kill]
  split
  ·simp only [AV.weak]
   by_cases h:U % 2=0 <;> simp [Fl.wk,h]
  ·rfl
 | .lst .any _ _=>rfl
 | .lst .ex _ _=>rfl
 | .lst .nil _ _=>rfl
 | .agg xs=>by simp only [AV.kill,AV.weak,weakL_kill T xs]
 | .tup xs=>by simp only [AV.kill,AV.weak,weakL_kill T xs]
 | .any=>rfl
 | .v _=>rfl
 | .ro _=>rfl
 | .loc _ _=>rfl
 | .arr _ _ _ _=>rfl
 | .fn _ _ _=>rfl
 | .mp _=>rfl
 | .yld _=>rfl
theorem weakL_kill (T : Nat) : (xs : List AV) → AV.weakL (AV.killL T xs) = AV.weakL xs
 | []=>rfl
 | x :: xs=>by simp only [AV.killL,AV.weakL,weak_kill T x,weakL_kill T xs]
end
theorem qv7 (x:AV):(x.weak).kill T=x.weak:=qb7 _ (vq6 x)
theorem ut9 (s:St) (o:Operand):(kc9 T s).ev o=(s.ev o).map (AV.kill T):=by
 cases o with
 | tmp t=>exact yq8 T s.fr t
 | const c =>
  simp only [St.ev,Option.map_some]
  rw [qb7]
  unfold absV
  split <;> rfl
 | func f=>rfl
 | global g=>rfl
theorem evT_kill (s:St) (t:TypeId) (o:Operand):(kc9 T s).evT P t o=(s.evT P t o).map (AV.kill T):=by
 cases o with
 | const c =>
  simp only [St.evT,Option.map_some]
  rw [qb7]
  unfold absV
  split
  ·unfold nilTy
   split
   ·split <;> rfl
   ·rename_i h _;exact rfl
  ·rfl
 | tmp t=>exact ut9 s (.tmp t)
 | func f=>rfl
 | global g=>rfl
theorem xv6 (s:St) (l:List Operand):evAll (kc9 T s) l=(evAll s l).map (AV.killL T):=by
 induction l with
 | nil=>rfl
 | cons o l ih =>
  simp only [evAll,ut9,ih]
  cases s.ev o with
  | none=>rfl
  | some x=>cases evAll s l <;> rfl
theorem evOpt_kill (s:St) (o:Option Operand):evOpt (kc9 T s) o=(evOpt s o).map fun x=>x.map (AV.kill T):=by
 cases o with
 | none=>rfl
 | some o=>simp only [evOpt,ut9];cases s.ev o <;> rfl
theorem one_kill (x:AV):(x.kill T).one=x.one:=by
 cases x with
 | lst o s xs=>obtain ⟨o',h,_⟩:=xk9 T o s xs;rw [h];rfl
 | _=>rfl
theorem zj7 (xs:List AV) (off:Nat) (ag:Bool) (sz:Nat):wk8 (AV.killL T xs) off ag sz=(wk8 xs off ag sz).map (AV.kill T):=by
 unfold wk8
 cases ag with
 | true =>
  simp only [if_true,ym8]
  split
  ·simp only [Option.map_some,AV.kill,Option.some.injEq,AV.agg.injEq]
   apply List.ext_getElem?
   intro i
   rw [xb9,List.getElem?_take,List.getElem?_take,List.getElem?_drop,List.getElem?_drop]
   split
   ·rw [xb9]
   ·rfl
  ·rfl
 | false =>
  simp only [Bool.false_eq_true,if_false,xb9]
  cases xs[off]? with
  | none=>rfl
  | some y =>
   simp only [Option.map_some,Option.bind_some,one_kill]
   split <;> rfl
theorem zk7 (x:AV):nilSl (x.kill T)=nilSl x:=by
 cases x with
 | lst o s xs =>
  obtain ⟨o',h,hn⟩:=xk9 T o s xs
  rw [h]
  cases o <;> cases o' <;> simp_all [nilSl] <;> cases xs <;> rfl
 | _=>rfl
theorem jv9 (x:AV):qh7 (x.kill T)=qh7 x:=by
 cases x with
 | lst o s xs=>obtain ⟨o',h,_⟩:=xk9 T o s xs;rw [h];rfl
 | _=>rfl
theorem zc8 (x:AV):nilFn (x.kill T)=nilFn x:=by
 cases x with
 | lst o s xs=>obtain ⟨o',h,_⟩:=xk9 T o s xs;rw [h];rfl
 | _=>rfl
theorem qj9 (x:AV):(∃ v,x=.v v)∨((∀ v,x≠.v v)∧∀ v,x.kill T≠.v v):=by
 cases x with
 | v v=>exact .inl ⟨v,rfl⟩
 | lst o s xs=>obtain ⟨o',h,_⟩:=xk9 T o s xs;rw [h];exact .inr ⟨by simp,by simp⟩
 | _=>exact .inr ⟨by simp,by simp [AV.kill]⟩
theorem eqA_kill (t:TypeId) (x y:AV):eqA P t (x.kill T) (y.kill T)=eqA P t x y:=by
 unfold eqA
 cases kdI P t with
 | none=>rfl
 | some k =>
  cases k with
  | sl =>
   dsimp only
   cases x with
   | lst o s xs =>
    obtain ⟨o',h,hn⟩:=xk9 T o s xs
    have hx:=zk7 (T:=T) (.lst o s xs)
    rw [h] at hx ⊢
    by_cases ho:o=.nil
    ·have:=hn.1 ho;subst ho;subst this;exact zk7 y
    ·have ho' : o' ≠ .nil := fun e => ho (hn.2 e)
     cases y with
     | lst p s' ys =>
      obtain ⟨p',h',hn'⟩:=xk9 T p s' ys
      rw [h']
      by_cases hp:p=.nil
      ·have:=hn'.1 hp;subst hp;subst this
       cases o <;> cases o' <;> simp_all
      ·have hp':p'≠.nil:=fun e=>hp (hn'.2 e)
       cases o <;> cases o' <;> cases p <;> cases p' <;> simp_all
     | _=>cases o <;> cases o' <;> simp_all [AV.kill]
   | _ =>
    cases y with
    | lst p s' ys =>
     obtain ⟨p',h',hn'⟩:=xk9 T p s' ys
     rw [h']
     by_cases hp:p=.nil
     ·have:=hn'.1 hp;subst hp;subst this
      exact zk7 (T:=T) _
     ·have hp':p'≠.nil:=fun e=>hp (hn'.2 e)
      cases p <;> cases p' <;> simp_all [AV.kill]
    | _=>rfl
  | ptr =>
   dsimp only
   rcases qj9 (T:=T) x with ⟨v,rfl⟩ | ⟨h1,h2⟩ <;> rcases qj9 (T:=T) y with ⟨u,rfl⟩ | ⟨h3,h4⟩
   ·rfl
   ·have e:AV.kill T (.v v)=.v v:=rfl
    rw [e]
    split <;> first | (rename_i h;cases h;exact jv9 y) | (split <;> simp_all [jv9];done) | simp_all [jv9]
   ·have e:AV.kill T (.v u)=.v u:=rfl
    rw [e]
    split <;> first | (split <;> simp_all [jv9];done) | simp_all [jv9]
   ·split <;> first | (split <;> simp_all;done) | simp_all
  | fn =>
   dsimp only
   rcases qj9 (T:=T) x with ⟨v,rfl⟩ | ⟨h1,h2⟩ <;> rcases qj9 (T:=T) y with ⟨u,rfl⟩ | ⟨h3,h4⟩
   ·rfl
   ·have e:AV.kill T (.v v)=.v v:=rfl
    rw [e]
    split <;> first | (rename_i h;cases h;exact zc8 y) | (split <;> simp_all [zc8];done) | simp_all [zc8]
   ·have e:AV.kill T (.v u)=.v u:=rfl
    rw [e]
    split <;> first | (split <;> simp_all [zc8];done) | simp_all [zc8]
   ·split <;> first | (split <;> simp_all;done) | simp_all
  | bool =>
   dsimp only
   rcases qj9 (T:=T) x with ⟨v,rfl⟩ | ⟨h1,h2⟩ <;> rcases qj9 (T:=T) y with ⟨u,rfl⟩ | ⟨h3,h4⟩
   ·rfl
   ·have e:AV.kill T (.v v)=.v v:=rfl
    rw [e]
    split <;> first | (split <;> simp_all;done) | simp_all
   ·have e:AV.kill T (.v u)=.v u:=rfl
    rw [e]
    split <;> first | (split <;> simp_all;done) | simp_all
   ·split <;> first | (split <;> simp_all;done) | simp_all
  | _=>rfl
theorem wr6 {op:BinOp} {k:IntKind} {a b:Int}:(wh7 op k a b).map (AV.kill T)=wh7 op k a b:=by
 cases op <;> rfl
theorem intA_kill {op:BinOp} {k:IntKind} {a b:Int}:(intA op k a b).map (AV.kill T)=intA op k a b:=by
 cases op <;> simp only [intA] <;> first | rfl | exact wr6 | (split <;> rfl)
theorem strA_kill {op:BinOp} {a b:ByteArray}:(strA op a b).map (AV.kill T)=strA op a b:=by
 cases op <;> simp only [strA] <;> first | rfl | (split <;> rfl)
theorem binA_kill (op:BinOp) (t:TypeId) (x y:AV):binA P op t (x.kill T) (y.kill T)=(binA P op t x y).map (AV.kill T):=by
 have gen : ∀ x y : AV, (∀ k a k' b, ¬ (x = .v (.int k a) ∧ y = .v (.int k' b))) → (∀ a b, ¬ (x = .v (.string a) ∧ y = .v (.string b))) →
   binA P op t x y=match op with
    | .eql=>(eqA P t x y).map fun b=>.v (.bool b)
    | .neq=>(eqA P t x y).map fun b=>.v (.bool !b)
    | _=>none:=by
  intro x y h1 h2
  unfold binA
  split
  ·exact absurd ⟨rfl,rfl⟩ (h1 _ _ _ _)
  ·exact absurd ⟨rfl,rfl⟩ (h2 _ _)
  ·rfl
 have tail : ∀ x y : AV, (∀ k a k' b, ¬ (x = .v (.int k a) ∧ y = .v (.int k' b))) → (∀ a b, ¬ (x = .v (.string a) ∧ y = .v (.string b))) →
   (∀ k a k' b,¬ (x.kill T=.v (.int k a)∧y.kill T=.v (.int k' b)))→(∀ a b,¬ (x.kill T=.v (.string a)∧y.kill T=.v (.string b))) →
   binA P op t (x.kill T) (y.kill T)=(binA P op t x y).map (AV.kill T):=by
  intro x y h1 h2 h3 h4
  rw [gen _ _ h1 h2,gen _ _ h3 h4,eqA_kill]
  cases op <;> first | rfl | (cases eqA P t x y <;> rfl)
 rcases qj9 (T:=T) x with ⟨v,rfl⟩ | ⟨hx1,hx2⟩
 ·rcases qj9 (T := T) y with ⟨u, rfl⟩ | ⟨hy1, hy2⟩
  ·show binA P op t (.v v) (.v u) = _
   unfold binA
   split
   ·split
    ·rw [intA_kill]
    ·rfl
   ·rw [strA_kill]
   ·cases op <;> first | rfl | (rename_i a b _ _ ;cases eqA P t (.v v) (.v u) <;> rfl) | (cases eqA P t (.v v) (.v u) <;> rfl)
  ·exact tail _ _ (by rintro _ _ _ _ ⟨_,h⟩;exact hy1 _ h) (by rintro _ _ ⟨_,h⟩;exact hy1 _ h) (by rintro _ _ _ _ ⟨_,h⟩;exact hy2 _ h) (by rintro _ _ ⟨_,h⟩;exact hy2 _ h)
 ·exact tail _ _ (by rintro _ _ _ _ ⟨h,_⟩;exact hx1 _ h) (by rintro _ _ ⟨h,_⟩;exact hx1 _ h) (by rintro _ _ _ _ ⟨h,_⟩;exact hx2 _ h) (by rintro _ _ ⟨h,_⟩;exact hx2 _ h)
end
end Go.AM
set_option linter.unusedSimpArgs false
namespace Go.AM
open Go.RowKit
section
variable {P : Program} {T : Nat}
theorem unA_kill (op:UnOp) (x:AV):unA op (x.kill T)=(unA op x).map (AV.kill T):=by
 rcases qj9 (T:=T) x with ⟨v,rfl⟩ | ⟨h1,h2⟩
 ·show unA op (.v v)=_
  cases op <;> cases v <;> simp only [unA] <;> first | rfl | exact wr6.symm
 ·have e:∀ y:AV,(∀ v,y≠.v v)→unA op y=none:=by
   intro y hy
   unfold unA
   split <;> first | rfl | exact absurd rfl (hy _)
  rw [e _ h1,e _ h2];rfl
theorem cvA_kill (s d:TypeId) (x:AV):cvA P s d (x.kill T)=(cvA P s d x).map (AV.kill T):=by
 unfold cvA
 cases cvI P s d with
 | none=>rfl
 | some c =>
  cases x with
  | lst o s xs =>
   obtain ⟨o',h,_⟩:=xk9 T o s xs
   rw [h]
   cases c <;> simp only [] <;> first | rfl | (cases vk8 xs <;> rfl)
  | v v=>show _=Option.map (AV.kill T) _;cases c <;> cases v <;> rfl
  | _=>cases c <;> rfl
theorem lenA_kill (t:TypeId) (x:AV):lenA P t (x.kill T)=(lenA P t x).map (AV.kill T):=by
 unfold lenA
 cases kdI P t with
 | none=>rfl
 | some k =>
  cases x with
  | lst o s xs =>
   obtain ⟨o',h,_⟩:=xk9 T o s xs
   rw [h]
   cases k <;> rfl
  | v v=>cases k <;> cases v <;> rfl
  | _=>cases k <;> rfl
theorem min2A_kill (x y:AV):min2A (x.kill T) (y.kill T)=(min2A x y).map (AV.kill T):=by
 have e:∀ y z:AV,(∀ v,y≠.v v)∨(∀ v,z≠.v v)→min2A y z=none:=by
  intro y z hy
  unfold min2A
  split
  ·rcases hy with hy | hy <;> exact absurd rfl (hy _)
  ·rfl
 rcases qj9 (T:=T) x with ⟨v,rfl⟩ | ⟨h1,h2⟩ <;> rcases qj9 (T:=T) y with ⟨u,rfl⟩ | ⟨h3,h4⟩
 ·cases v <;> cases u <;> rfl
 ·rw [e _ _ (.inr h3),e _ _ (.inr h4)];rfl
 ·rw [e _ _ (.inl h1),e _ _ (.inl h2)];rfl
 ·rw [e _ _ (.inl h1),e _ _ (.inl h2)];rfl
theorem max2A_kill (x y:AV):max2A (x.kill T) (y.kill T)=(max2A x y).map (AV.kill T):=by
 have e:∀ y z:AV,(∀ v,y≠.v v)∨(∀ v,z≠.v v)→max2A y z=none:=by
  intro y z hy
  unfold max2A
  split
  ·rcases hy with hy | hy <;> exact absurd rfl (hy _)
  ·rfl
 rcases qj9 (T:=T) x with ⟨v,rfl⟩ | ⟨h1,h2⟩ <;> rcases qj9 (T:=T) y with ⟨u,rfl⟩ | ⟨h3,h4⟩
 ·cases v <;> cases u <;> rfl
 ·rw [e _ _ (.inr h3),e _ _ (.inr h4)];rfl
 ·rw [e _ _ (.inl h1),e _ _ (.inl h2)];rfl
 ·rw [e _ _ (.inl h1),e _ _ (.inl h2)];rfl
theorem zb7 {f : AV → AV → Option AV} (hf : ∀ x y, f (x.kill T) (y.kill T) = (f x y).map (AV.kill T)) : ∀ (l : List AV) (x : AV), yp6 f (x.kill T) (AV.killL T l) = (yp6 f x l).map (AV.kill T)
 | [],x=>rfl
 | y :: l,x=>by
  simp only [AV.killL,yp6,hf]
  cases f x y with
  | none=>rfl
  | some z=>exact zb7 hf l z
theorem vd7 (lo hi:Nat) (o:Option AV) (d:Nat):bnd lo hi (o.map (AV.kill T)) d=bnd lo hi o d:=by
 cases o with
 | none=>rfl
 | some x =>
  cases x with
  | lst o s xs=>obtain ⟨o',h,_⟩:=xk9 T o s xs;simp only [Option.map_some,h];rfl
  | v v=>rfl
  | _=>rfl
theorem sliceA_kill (t:TypeId) (x:AV) (lo hi:Option AV):zj8 P t (x.kill T) (lo.map (AV.kill T)) (hi.map (AV.kill T))=(zj8 P t x lo hi).map (AV.kill T):=by
 unfold zj8
 cases kdI P t with
 | none=>rfl
 | some k =>
  cases x with
  | lst o s xs =>
   obtain ⟨o',h,hno⟩:=xk9 T o s xs
   have hk:o'.keepNil=o.keepNil:=by cases o <;> cases o' <;> simp_all [Fl.keepNil]
   have hk2:∀ s ys,AV.kill T (.lst o.keepNil s ys)=.lst o.keepNil s ys:=by intro s ys;cases o <;> rfl
   rw [h]
   cases k <;> simp only [vd7] <;> first | rfl | skip
   cases slI P t with
   | none=>rfl
   | some z =>
    obtain ⟨_,_,sz⟩:=z
    dsimp only
    split
    ·cases bnd 0 xs.length hi xs.length with
     | none=>rfl
     | some h=>cases hh:bnd 0 h lo 0 <;> simp [hh,hk,hk2]
    ·rfl
  | v v =>
   cases k <;> cases v <;> simp only [AV.kill,vd7] <;> first | rfl | skip
   rename_i s
   cases bnd 0 s.size hi s.size with
   | none=>rfl
   | some h=>cases hh:bnd 0 h lo 0 <;> simp [hh,AV.kill]
  | arr id off len cap =>
   cases k <;> simp only [AV.kill,vd7] <;> first | rfl | skip
   cases slI P t with
   | none=>rfl
   | some z =>
    obtain ⟨_,_,sz⟩:=z
    dsimp only
    cases bnd 0 cap hi len with
    | none=>rfl
    | some h=>cases hh:bnd 0 h lo 0 <;> simp [hh,AV.kill]
  | loc id off =>
   cases k <;> simp only [AV.kill,vd7] <;> first | rfl | skip
   cases arI P t with
   | none=>rfl
   | some z =>
    obtain ⟨n,_,_,sz⟩:=z
    dsimp only
    split
    ·cases bnd 0 n hi n with
     | none=>rfl
     | some h=>cases hh:bnd 0 h lo 0 <;> simp [hh,AV.kill]
    ·rfl
  | ro y =>
   cases k <;> cases y <;> first | rfl | skip
   simp only [AV.kill,Option.isNone_map]
   split
   ·split <;> rfl
   ·rfl
  | _=>cases k <;> rfl
theorem uc6 (t:TypeId) (x i:AV):uf9 P t (x.kill T) (i.kill T)=(uf9 P t x i).map (AV.kill T):=by
 rcases qj9 (T:=T) i with ⟨v,rfl⟩ | ⟨h1,h2⟩
 ·show uf9 P t (x.kill T) (.v v) = _
  cases x with
  | lst o s xs =>
   obtain ⟨o',h,_⟩:=xk9 T o s xs
   rw [h]
   cases v <;> simp only [uf9] <;> first | rfl | skip
   cases slI P t with
   | none=>rfl
   | some z =>
    obtain ⟨_,_,sz⟩:=z
    dsimp only
    split
    ·simp only [Option.map_map];congr 1
    ·rfl
  | arr id off len cap =>
   cases v <;> simp only [uf9,AV.kill] <;> first | rfl | skip
   cases slI P t with
   | none=>rfl
   | some z =>
    obtain ⟨_,_,sz⟩:=z
    dsimp only
    split <;> rfl
  | loc id off =>
   cases v <;> simp only [uf9,AV.kill] <;> first | rfl | skip
   cases arI P t with
   | none=>rfl
   | some z =>
    obtain ⟨_,_,_,sz⟩:=z
    dsimp only
    split <;> rfl
  | _=>rfl
 ·have e:∀ y i:AV,(∀ v,i≠.v v)→uf9 P t y i=none:=by
   intro y i hi
   unfold uf9
   split <;> first | rfl | exact absurd rfl (hi _)
  rw [e _ _ h1,e _ _ h2];rfl
theorem idxA_kill (t:TypeId) (x i:AV):idxA P t (x.kill T) (i.kill T)=(idxA P t x i).map (AV.kill T):=by
 rcases qj9 (T:=T) i with ⟨v,rfl⟩ | ⟨h1,h2⟩
 ·show idxA P t (x.kill T) (.v v) = _
  cases x with
  | lst o s xs=>obtain ⟨o',h,_⟩:=xk9 T o s xs;rw [h];rfl
  | v u =>
   show idxA P t (.v u) (.v v)=_
   cases u <;> cases v <;> simp only [idxA] <;> first | rfl | skip
   split
   ·split
    ·simp only [Option.map_map];congr 1
    ·rfl
   ·rfl
  | agg xs =>
   cases v <;> simp only [idxA,AV.kill] <;> first | rfl | skip
   split
   ·split
    ·exact zj7 _ _ _ _
    ·rfl
   ·rfl
  | _=>rfl
 ·have e:∀ y i:AV,(∀ v,i≠.v v)→idxA P t y i=none:=by
   intro y i hi
   unfold idxA
   split <;> first | rfl | exact absurd rfl (hi _)
  rw [e _ _ h1,e _ _ h2];rfl
theorem fieldA_kill (t:TypeId) (x:AV) (f:Nat):kj7 P t (x.kill T) f=(kj7 P t x f).map (AV.kill T):=by
 cases x with
 | lst o s xs=>obtain ⟨o',h,_⟩:=xk9 T o s xs;rw [h];rfl
 | agg xs =>
  simp only [kj7,AV.kill]
  split
  ·exact zj7 _ _ _ _
  ·rfl
 | _=>rfl
theorem kh7 (t:TypeId) (x:AV) (f:Nat):qb9 P t (x.kill T) f=(qb9 P t x f).map (AV.kill T):=by
 unfold qb9
 cases fdI P t f with
 | none=>rfl
 | some z =>
  obtain ⟨off,ag,sz⟩:=z
  dsimp only
  split
  ·rfl
  ·cases x with
   | lst o s xs=>obtain ⟨o',h,_⟩:=xk9 T o s xs;rw [h];rfl
   | ro y =>
    cases y with
    | agg xs =>
     simp only [AV.kill]
     split
     ·cases wk8 xs off ag sz <;> rfl
     ·rfl
    | _=>rfl
   | _=>rfl
theorem objLoad_kill (h:List AObj) (id off:Nat) (ag:Bool) (sz:Nat):qn8 (h.map (AObj.kill T)) id off ag sz=(qn8 h id off ag sz).map (AV.kill T):=by
 unfold qn8
 rw [List.getElem?_map]
 cases h[id]? with
 | none=>rfl
 | some o =>
  cases o with
  | cells ty cs=>exact zj7 _ _ _ _
  | froz ty cs =>
   simp only [Option.map_some,AObj.kill]
   cases wk8 cs off ag sz with
   | none=>rfl
   | some y=>simp only [Option.map_some,qv7]
  | map es=>rfl
  | loop _ _ _ _ _ _=>rfl
  | dead=>rfl
theorem loadA_kill (h:List AObj) (t:TypeId) (x:AV):yw6 P (h.map (AObj.kill T)) t (x.kill T)=(yw6 P h t x).map (AV.kill T):=by
 unfold yw6
 cases tyI P t with
 | none=>rfl
 | some z =>
  obtain ⟨ag,sz⟩:=z
  cases x with
  | lst o s xs=>obtain ⟨o',h,_⟩:=xk9 T o s xs;rw [h];rfl
  | ro y =>
   simp only [AV.kill]
   split
   ·cases y <;> simp only [] <;> first | rfl | skip
    split
    ·simp only [Option.map_some,qv7]
    ·rfl
   ·split
    ·simp only [Option.map_some,qv7]
    ·rfl
  | loc id off=>exact objLoad_kill _ _ _ _ _
  | _=>rfl
theorem yq6 (x:AV):zv8 (x.kill T)=(zv8 x).map (AV.kill T):=by
 cases x with
 | lst o s xs=>obtain ⟨o',h,_⟩:=xk9 T o s xs;rw [h];rfl
 | _=>rfl
theorem capA_kill (t:TypeId) (x:AV):capA P t (x.kill T)=(capA P t x).map (AV.kill T):=by
 unfold capA
 cases kdI P t with
 | none=>rfl
 | some k =>
  cases x with
  | lst o s xs =>
   obtain ⟨o',h,hi⟩:=xk9 T o s xs
   rw [h]
   cases k <;> try rfl
   cases o <;> cases o' <;> simp_all [AV.kill]
  | _=>cases k <;> rfl
theorem builtinA_kill (b:Builtin) (ts:Array TypeId) (l:List AV):zp8 P b ts (AV.killL T l)=(zp8 P b ts l).map (AV.kill T):=by
 cases b <;> simp only [zp8] <;> first | rfl | skip
 ·match l with
  | []=>rfl
  | [x] =>
   simp only [AV.killL]
   cases ts[0]? with
   | none=>rfl
   | some t=>first | exact lenA_kill t x | exact capA_kill t x
  | _ :: _ :: _=>rfl
 ·match l with
  | []=>rfl
  | [x] =>
   simp only [AV.killL]
   cases ts[0]? with
   | none=>rfl
   | some t=>first | exact lenA_kill t x | exact capA_kill t x
  | _ :: _ :: _=>rfl
 all_goals
  match l with
  | []=>rfl
  | x :: l=>first | exact zb7 min2A_kill l x | exact zb7 max2A_kill l x
theorem kc7 (s:St) (o:Oper):wn9 P (kc9 T s) o=(wn9 P s o).map (AV.kill T):=by
 unfold wn9
 cases o.op <;> first | rfl | exact evT_kill s _ _ | dsimp only | skip
 case pick c a b =>
  rw [ut9]
  cases s.ev c with
  | none=>rfl
  | some x =>
   rcases qj9 (T:=T) x with ⟨v,rfl⟩ | ⟨h1,h2⟩
   ·cases v <;> simp only [Option.map_some,AV.kill] <;> first | rfl | skip
    split <;> exact evT_kill s _ _
   ·simp only [Option.map_some]
    split <;> split <;> simp_all
 case binOp op t x y d =>
  simp only [ut9]
  cases s.ev x with
  | none=>rfl
  | some a=>cases s.ev y with
   | none=>rfl
   | some b=>exact binA_kill op t a b
 case unOp op t x =>
  simp only [ut9]
  cases s.ev x with
  | none=>rfl
  | some a=>exact unA_kill op a
 case convert a b x =>
  simp only [ut9]
  cases s.ev x with
  | none=>rfl
  | some y=>exact cvA_kill a b y
 case extract t i =>
  simp only [ut9]
  cases s.ev t with
  | none=>rfl
  | some x =>
   cases x with
   | tup xs=>simp only [Option.map_some,AV.kill];exact xb9 T xs i
   | lst o s xs=>obtain ⟨o',h,_⟩:=xk9 T o s xs;simp only [Option.map_some,h];rfl
   | _=>rfl
 case field t x f =>
  simp only [ut9]
  cases s.ev x with
  | none=>rfl
  | some y=>exact fieldA_kill t y f
 case index t x i =>
  simp only [ut9]
  cases s.ev x with
  | none=>rfl
  | some a=>cases s.ev i with
   | none=>rfl
   | some b=>exact idxA_kill t a b
 case indexAddr t x i =>
  simp only [ut9]
  cases s.ev x with
  | none=>rfl
  | some a=>cases s.ev i with
   | none=>rfl
   | some b=>exact uc6 t a b
 case fieldAddr t x f =>
  simp only [ut9]
  cases s.ev x with
  | none=>rfl
  | some y=>exact kh7 t y f
 case slice t x lo hi mx =>
  cases mx with
  | some _=>rfl
  | none =>
   simp only [ut9,evOpt_kill]
   cases s.ev x with
   | none=>rfl
   | some a=>cases evOpt s lo with
    | none=>rfl
    | some l=>cases evOpt s hi with
     | none=>rfl
     | some h=>exact sliceA_kill t a l h
 case load t x =>
  simp only [ut9]
  cases s.ev x with
  | none=>rfl
  | some y=>exact loadA_kill s.h t y
 case nilCheck x =>
  simp only [ut9]
  cases s.ev x with
  | none=>rfl
  | some y=>exact yq6 y
 case makeFunc f a b =>
  simp only [xv6]
  cases evAll s a.toList with
  | none=>rfl
  | some l1=>cases evAll s b.toList with
   | none=>rfl
   | some l2=>simp only [Option.map_some,Option.bind_some,weakL_kill,AV.kill]
 case call c =>
  cases c.callee <;> simp only [] <;> first | rfl | skip
  simp only [xv6]
  cases evAll s c.args.toList with
  | none=>rfl
  | some l=>exact builtinA_kill _ _ l
end
end Go.AM
set_option linter.unusedSimpArgs false
namespace Go.AM
open Go.RowKit
abbrev Eff:=AV × List AObj × Option Nat
def app (e:Eff) (dst:Option Tmp) (s:St):Option St:=(⟨s.n,jc8 e.2.2 s.fr,e.2.1⟩:St).put dst e.1
def dcls (o:Oper):Nat :=
 match o.op with
 | .move _ | .assign _ | .pick _ _ _ | .binOp _ _ _ _ _ | .unOp _ _ _ | .extract _ _ | .field _ _ _ | .index _ _ _ | .indexAddr _ _ _ | .fieldAddr _ _ _ | .nilCheck _ | .makeFunc _ _ _ | .slice _ _ _ _ _=>0
 | .convert _ _ _=>0
 | .build _ _ | .buildSlice _ _ _=>1
 | .load _ _=>2
 | .call c=>match c.callee with
  | .value _=>3
  | .builtin .append=>5
  | .builtin .len=>0
  | .builtin .cap=>0
  | .builtin .min=>0
  | .builtin .max=>0
  | _=>9
 | .alloc _=>4
 | .store _ _ _=>6
 | _=>9
def s2bA : AV → Option AV
 | .v (.string b)=>if b.size≤9223372036854775807 then some (.lst .any 1 (b.data.toList.map byteV)) else none
 | _=>none
def evF (P:Program) (s:St) (o:Oper):Option AV :=
 match o.op with
 | .convert src dst x=>match cvI P src dst with
  | some (.s2b _)=>(s.ev x).bind s2bA
  | _=>wn9 P s o
 | _=>wn9 P s o
def ub6 (P:Program) (h:List AObj) (t:TypeId) (addr x:AV):Option (List AObj) :=
 match tyI P t,addr with
 | some (_,sz),.loc id off=>match h[id]? with
  | some (.cells ty cs)=>(x.cellsK).bind fun ys=>if ys.length=sz∧off+sz≤cs.length then some (h.set id (.cells ty (yk9 cs off ys))) else none
  | _=>none
 | _,_=>none
def xr8 (P:Program) (s:St) (tk:Nat) (xo yo:Operand) (t t':TypeId):Option Eff :=
 if t'=t then
  match slI P t with
  | some (e,_,sz)=>match apI P e with
   | some (sz',by_)=>(s.evT P t xo).bind fun x=>(s.evT P t yo).bind fun y =>
    match tipA e sz x,y with
    | some (src,xs),.lst _ sy ys =>
     if sy=sz∧sz'=sz∧0 < sz∧0 < by_∧exOk x ys=true∧(xs.length+ys.length) * by_≤140737488355328 then
      some (.lst (.tip e (tokA src tk)) sz (xs++ys),wb9 src s.h,src) else none
    | _,_=>none
   | none=>none
  | none=>none
 else none
def evE (P:Program) (o:Oper) (s:St):Option Eff :=
 match o.op with
 | .alloc e=>(zA P e).map fun z=>(.loc s.h.length 0,s.h++[.cells e z.cells],none)
 | .build t ps=>(yt8 P s t ps.toList).map fun x=>(x,s.h,none)
 | .buildSlice t len ps=>(xh9 P s (site o) t len ps.toList).map fun x=>(x,s.h,none)
 | .store t x y=>(s.ev x).bind fun a=>(s.evT P t y).bind fun b=>(ub6 P s.h t a b).map fun h'=>(.v undef,h',none)
 | .call c=>match c.callee,c.args.toList,c.argTypes.toList with
  | .builtin .append,[x,y],[t,t']=>xr8 P s (site o) x y t t'
  | .builtin .append,_,_=>none
  | _,_,_=>(evF P s o).map fun x=>(x,s.h,none)
 | _=>(evF P s o).map fun x=>(x,s.h,none)
section
variable {P : Program}
theorem ys7 {o:Oper} {s s':St} (h:(wn9 P s o).bind (s.put o.dst)=some s'):∃ x,wn9 P s o=some x∧app (x,s.h,none) o.dst s=some s':=by
 obtain ⟨x,hx,h⟩:=Option.bind_eq_some_iff.1 h
 exact ⟨x,hx,h⟩
theorem evStore_E (s:St) (t:TypeId) (a x:AV):kp8 P s t a x=(ub6 P s.h t a x).map fun h'=>{ s with h:=h' }:=by
 unfold kp8 ub6
 cases tyI P t with
 | none=>rfl
 | some z =>
  obtain ⟨ag,sz⟩:=z
  cases a with
  | loc id off =>
   dsimp only
   cases s.h[id]? with
   | none=>rfl
   | some o =>
    cases o with
    | cells ty cs =>
     dsimp only
     cases x.cellsK with
     | none=>rfl
     | some ys=>simp only [Option.bind_some];split <;> rfl
    | _=>rfl
  | _=>rfl
def qq9 (P:Program) (s:St) (o:Oper):Bool :=
 match o.op with
 | .call c=>match c.callee,c.args.toList,c.argTypes.toList with
  | .builtin .append,[_,y],[t,_]=>match s.evT P t y with
   | some (.lst _ _ _)=>true
   | _=>false
  | _,_,_=>true
 | _=>true
theorem evOp_evE {o:Oper} {s s':St} (hc:dcls o≠9) (hn:qq9 P s o=true) (h:evOp P o s=some s'):∃ e,evE P o s=some e∧app e o.dst s=some s':=by
 obtain ⟨dst,op,ty,pos,after,guard⟩:=o
 cases op
 all_goals first | (exfalso;exact hc rfl) | skip
 case alloc e =>
  simp only [evOp,xw7] at h
  obtain ⟨z,hz,h⟩:=Option.bind_eq_some_iff.1 h
  exact ⟨(.loc s.h.length 0,s.h++[AObj.cells e z.cells],none),by simp only [evE,hz,Option.map_some],h⟩
 case build t ps =>
  simp only [evOp] at h
  obtain ⟨z,hz,h⟩:=Option.bind_eq_some_iff.1 h
  exact ⟨(z,s.h,none),by simp only [evE,hz,Option.map_some],h⟩
 case buildSlice t n ps =>
  simp only [evOp] at h
  obtain ⟨z,hz,h⟩:=Option.bind_eq_some_iff.1 h
  exact ⟨(z,s.h,none),by simp only [evE,hz,Option.map_some],h⟩
 case store t x y =>
  simp only [evOp] at h
  obtain ⟨a,ha,h⟩:=Option.bind_eq_some_iff.1 h
  obtain ⟨b,hb,h⟩:=Option.bind_eq_some_iff.1 h
  obtain ⟨s1,hs1,h⟩:=Option.bind_eq_some_iff.1 h
  rw [evStore_E] at hs1
  obtain ⟨h',hh,rfl⟩:=Option.map_eq_some_iff.1 hs1
  exact ⟨(.v undef,h',none),by simp only [evE,ha,hb,Option.bind_some,hh,Option.map_some],h⟩
 case convert a b x =>
  simp only [evOp] at h
  simp only [evE,evF]
  cases hcv:cvI P a b with
  | none =>
   rw [hcv] at h
   obtain ⟨z,hz,h⟩:=ys7 (o:={ dst:=dst,op:=.convert a b x,type:=ty,pos:=pos,after:=after,guard:=guard }) h
   exact ⟨(z,s.h,none),by simp only [hz,Option.map_some],h⟩
  | some cv =>
   rw [hcv] at h
   cases cv with
   | s2b e =>
    obtain ⟨xa,hxa,h⟩:=Option.bind_eq_some_iff.1 h
    simp only [hxa,Option.bind_some]
    unfold evS2b at h
    split at h
    ·split at h
     ·rename_i b' hle
      exact ⟨(.lst .any 1 (b'.data.toList.map byteV),s.h,none),by simp only [s2bA,if_pos hle,Option.map_some],h⟩
     ·cases h
    ·cases h
   | _ =>
    obtain ⟨z,hz,h⟩:=ys7 (o:={ dst:=dst,op:=.convert a b x,type:=ty,pos:=pos,after:=after,guard:=guard }) h
    exact ⟨(z,s.h,none),by simp only [hz,Option.map_some],h⟩
 case call c =>
  obtain ⟨callee,args,argTypes⟩:=c
  cases callee with
  | value f=>simp only [evOp] at h;cases h
  | invoke r m=>simp only [evOp] at h;cases h
  | builtin b =>
   have pc : (wn9 P s { dst := dst, op := .call ⟨.builtin b, args, argTypes⟩, type := ty, pos := pos, after := after, guard := guard }).bind (s.put dst) = some s' → b ≠ .append →
     ∃ e,evE P { dst:=dst,op:=.call ⟨.builtin b,args,argTypes⟩,type:=ty,pos:=pos,after:=after,guard:=guard } s=some e∧app e dst s=some s':=by
    intro h hb
    obtain ⟨z,hz,h⟩:=ys7 (o:={ dst:=dst,op:=.call ⟨.builtin b,args,argTypes⟩,type:=ty,pos:=pos,after:=after,guard:=guard }) h
    refine ⟨(z,s.h,none),?_,h⟩
    cases b <;> first | exact absurd rfl hb | (simp only [evE,evF,hz,Option.map_some])
   by_cases hb:b=.append
   ·subst hb
    simp only [evOp] at h
    split at h
    ·rename_i x y t t' _ h2 h3
     simp only [evE]
     rw [h2,h3]
     dsimp only
     simp only [qq9,h2,h3] at hn
     clear hc
     unfold uc8 at h
     unfold xr8
     by_cases htt:t'=t
     ·rw [if_pos htt] at h ⊢
      cases hsl:slI P t with
      | none=>simp [hsl] at h
      | some z =>
       obtain ⟨e,ag,sz⟩:=z
       simp only [hsl] at h ⊢
       cases hap:apI P e with
       | none=>simp [hap] at h
       | some z =>
        obtain ⟨sz',by_⟩:=z
        simp only [hap] at h ⊢
        obtain ⟨x1,hx1,h⟩:=Option.bind_eq_some_iff.1 h
        obtain ⟨y1,hy1,h⟩:=Option.bind_eq_some_iff.1 h
        obtain ⟨⟨y2,h2'⟩,hf,h⟩:=Option.bind_eq_some_iff.1 h
        simp only [hx1,hy1,Option.bind_some]
        rw [hy1] at hn
        cases y1 <;> simp only [] at hn <;> first | (cases hn;done) | skip
        simp only [frzV,Option.some.injEq,Prod.mk.injEq] at hf
        obtain ⟨rfl,rfl⟩:=hf
        dsimp only at h
        cases htip:tipA e sz x1 with
        | none=>simp [htip] at h
        | some z =>
         obtain ⟨src,xs⟩:=z
         simp only [htip] at h ⊢
         split at h
         ·rename_i hcc
          rw [if_pos hcc]
          exact ⟨(_,_,_),rfl,h⟩
         ·cases h
     ·rw [if_neg htt] at h;cases h
    ·exfalso
     simp only [wn9] at h
     obtain ⟨z,hz,_⟩:=Option.bind_eq_some_iff.1 h
     obtain ⟨l,_,hz⟩:=Option.bind_eq_some_iff.1 hz
     simp [zp8] at hz
    ·cases h
   ·refine pc ?_ hb
    simp only [evOp] at h
    split at h
    ·rename_i h1 _ _;cases h1;exact absurd rfl hb
    ·exact h
    ·cases h
 all_goals
  obtain ⟨z,hz,h⟩:=ys7 h
  exact ⟨(z,s.h,none),by simp only [evE,evF,hz,Option.map_some],h⟩
end
end Go.AM
set_option linter.unusedSimpArgs false
namespace Go.AM
open Go.RowKit
section
variable {P : Program}
def vc8 (l:List Operand) (s t:St):Prop:=∀ x∈l,s.ev x=t.ev x
theorem vc8.evT {l:List Operand} {s t:St} (h:vc8 l s t) {x:Operand} (hx:x∈l) (ty:TypeId):s.evT P ty x=t.evT P ty x:=by
 cases x with
 | const c=>rfl
 | _=>exact h _ hx
theorem yp8 {s t : St} : ∀ {l : List Operand}, (∀ x ∈ l, s.ev x = t.ev x) → evAll s l = evAll t l
 | [],_=>rfl
 | o :: l,h=>by
  have h1:=h o List.mem_cons_self
  have h2:=yp8 (l:=l) fun x hx=>h x (List.mem_cons_of_mem _ hx)
  simp only [evAll,h1,h2]
theorem evT_of_ev {s t:St} {o:Operand} (h:s.ev o=t.ev o) (ty:TypeId):s.evT P ty o=t.evT P ty o:=by
 cases o with
 | const c=>rfl
 | _=>exact h
theorem xv7 {s t : St} : ∀ {l : List (Operand × TypeId)}, (∀ x ∈ l, s.ev x.1 = t.ev x.1) → evOpts P s l = evOpts P t l
 | [],_=>rfl
 | (o,ty) :: l,h=>by
  have h1:s.evT P ty o=t.evT P ty o:=evT_of_ev (h (o,ty) List.mem_cons_self) ty
  have h2:=xv7 (l:=l) fun x hx=>h x (List.mem_cons_of_mem _ hx)
  simp only [evOpts,h1,h2]
theorem jw9 {s t : St} {f : Nat → TypeId} : ∀ {l : List (Nat × Operand)}, (∀ x ∈ l, s.ev x.2 = t.ev x.2) → evParts P s f l = evParts P t f l
 | [],_=>rfl
 | (i,o) :: l,h=>by
  have h1:s.evT P (f i) o=t.evT P (f i) o:=evT_of_ev (h (i,o) List.mem_cons_self) (f i)
  have h2:=jw9 (f:=f) (l:=l) fun x hx=>h x (List.mem_cons_of_mem _ hx)
  simp only [evParts,h1,h2]
theorem xl7 {s t:St} {o:Oper} (ha:vc8 o.op.operands.toList s t) (hh:s.h=t.h):wn9 P s o=wn9 P t o:=by
 obtain ⟨dst,op,ty,pos,after,guard⟩:=o
 cases op <;> simp only [wn9] <;> first | rfl | skip
 case move x=>exact ha.evT (by simp [Op.operands]) _
 case assign x=>exact ha.evT (by simp [Op.operands]) _
 case pick c a b =>
  rw [ha c (by simp [Op.operands]),ha.evT (P:=P) (x:=a) (by simp [Op.operands]),ha.evT (P:=P) (x:=b) (by simp [Op.operands])]
 case binOp op t' x y d=>rw [ha x (by simp [Op.operands]),ha y (by simp [Op.operands])]
 case unOp op t' x=>rw [ha x (by simp [Op.operands])]
 case convert a b x=>rw [ha x (by simp [Op.operands])]
 case extract x i=>rw [ha x (by simp [Op.operands])]
 case field t' x f=>rw [ha x (by simp [Op.operands])]
 case index t' x i=>rw [ha x (by simp [Op.operands]),ha i (by simp [Op.operands])]
 case indexAddr t' x i=>rw [ha x (by simp [Op.operands]),ha i (by simp [Op.operands])]
 case fieldAddr t' x f=>rw [ha x (by simp [Op.operands])]
 case load t' x=>rw [ha x (by simp [Op.operands]),hh]
 case nilCheck x=>rw [ha x (by simp [Op.operands])]
 case slice t' x lo hi mx =>
  cases mx with
  | some _=>rfl
  | none =>
   have e1:evOpt s lo=evOpt t lo:=by
    cases lo with
    | none=>rfl
    | some l=>simp only [evOpt];rw [ha l (by simp [Op.operands])]
   have e2:evOpt s hi=evOpt t hi:=by
    cases hi with
    | none=>rfl
    | some l=>simp only [evOpt];rw [ha l (by simp [Op.operands])]
   dsimp only
   rw [ha x (by simp [Op.operands]),e1,e2]
 case makeFunc f a b =>
  rw [yp8 (s := s) (t := t) (l := a.toList) fun x hx => ha x (by simp only [Op.operands, Array.toList_append, List.mem_append]; exact .inl hx),
   yp8 (s:=s) (t:=t) (l:=b.toList) fun x hx=>ha x (by simp only [Op.operands,Array.toList_append,List.mem_append];exact .inr hx)]
 case call c =>
  cases hc:c.callee <;> simp only [] <;> first | rfl | skip
  rw [yp8 (s:=s) (t:=t) (l:=c.args.toList) fun x hx=>ha x (by simp only [Op.operands,Call.operands,hc,Array.toList_append,List.mem_append];exact .inr hx)]
theorem evF_congr {s t:St} {o:Oper} (ha:vc8 o.op.operands.toList s t) (hh:s.h=t.h):evF P s o=evF P t o:=by
 unfold evF
 split
 ·rename_i src dst x ho
  rw [ho] at ha
  rw [ha x (by simp [Op.operands]),xl7 (by rw [ho];exact ha) hh]
 ·exact xl7 ha hh
theorem evE_congr {s t:St} {o:Oper} (ha:vc8 o.op.operands.toList s t) (hh:s.h=t.h):evE P o s=evE P o t:=by
 have hF:=evF_congr (P:=P) ha hh
 obtain ⟨dst,op,ty,pos,after,guard⟩:=o
 cases op <;> simp only [evE,hF,hh]
 case build t' ps =>
  have:yt8 P s t' ps.toList=yt8 P t t' ps.toList:=by
   have e:∀ f,evParts P s f ps.toList=evParts P t f ps.toList:=fun f=>jw9 fun x hx=>ha x.2 (by simp only [Op.operands];simpa using ⟨x.1,Array.mem_toList_iff.1 hx⟩)
   unfold yt8
   split
   ·split
    ·rw [e]
    ·split
     ·rw [e]
     ·rfl
   ·rfl
  rw [this]
 case buildSlice t' n ps =>
  have:∀ tk,xh9 P s tk t' n ps.toList=xh9 P t tk t' n ps.toList:=by
   intro tk
   have e:∀ f,evParts P s f ps.toList=evParts P t f ps.toList:=fun f=>jw9 fun x hx=>ha x.2 (by simp only [Op.operands];simpa using ⟨x.1,Array.mem_toList_iff.1 hx⟩)
   unfold xh9
   split
   ·split
    ·rw [e]
    ·rfl
   ·rfl
  rw [this]
 case store t' x y=>rw [ha x (by simp [Op.operands]),ha.evT (P:=P) (x:=y) (by simp [Op.operands])]
 case call c =>
  obtain ⟨callee,args,argTypes⟩:=c
  cases callee with
  | value f=>rfl
  | invoke r m=>rfl
  | builtin b =>
   cases b <;> first | rfl | skip
   dsimp only
   split
   ·rename_i x y t1 t2 _ h2 h3
    have hx:x∈args.toList:=by rw [h2];simp
    have hy:y∈args.toList:=by rw [h2];simp
    have m:∀ z,z∈args.toList→z∈(Op.call ⟨.builtin .append,args,argTypes⟩).operands.toList:=fun z hz=>by simp [Op.operands,Call.operands];simpa using hz
    unfold xr8
    split
    ·split
     ·split
      ·rw [ha.evT (P:=P) (m x hx),ha.evT (P:=P) (m y hy),hh]
      ·rfl
     ·rfl
    ·rfl
   ·rfl
   ·rfl
def setH (s:St) (h:List AObj):St:={ s with h:=h }
theorem kl7 {s:St} {o:Oper} (hl:∀ t x,o.op≠.load t x) (h:List AObj):wn9 P (setH s h) o=wn9 P s o:=by
 have e1:∀ x,(setH s h).ev x=s.ev x:=fun x=>by cases x <;> rfl
 have e2:∀ t x,(setH s h).evT P t x=s.evT P t x:=fun t x=>by cases x <;> rfl
 have e3:∀ l,evAll (setH s h) l=evAll s l:=fun l=>yp8 fun x _=>e1 x
 have e4:∀ l,evOpt (setH s h) l=evOpt s l:=fun l=>by cases l <;> rfl
 unfold wn9
 split <;> simp only [e1,e2,e3,e4]
 rename_i t x ho
 exact absurd ho (hl _ _)
theorem evF_setH {s:St} {o:Oper} (hl:∀ t x,o.op≠.load t x) (h:List AObj):evF P (setH s h) o=evF P s o:=by
 have e1:∀ x,(setH s h).ev x=s.ev x:=fun x=>by cases x <;> rfl
 unfold evF
 split
 ·simp only [e1,kl7 hl]
 ·exact kl7 hl h
theorem xc7 {s:St} {f:Nat→TypeId} (l:List (Nat × Operand)) (h:List AObj):evParts P (setH s h) f l=evParts P s f l:=jw9 fun x _=>by cases x.2 <;> rfl
theorem evE_calm {s:St} {o:Oper} {e:Eff} (hc:dcls o=0∨dcls o=1) (h:evE P o s=some e):e.2.1=s.h∧e.2.2=none∧∀ h2,evE P o (setH s h2)=some (e.1,h2,none):=by
 have main : (evF P s o).map (fun x => (x, s.h, (none : Option Nat))) = some e → (∀ t x, o.op ≠ .load t x) → (∀ s', evE P o s' = (evF P s' o).map fun x => (x, s'.h, none)) →
   e.2.1=s.h∧e.2.2=none∧∀ h2,evE P o (setH s h2)=some (e.1,h2,none):=by
  intro h hl he
  obtain ⟨x,hx,rfl⟩:=Option.map_eq_some_iff.1 h
  refine ⟨rfl,rfl,fun h2=>?_⟩
  rw [he,evF_setH hl,hx];rfl
 obtain ⟨dst,op,ty,pos,after,guard⟩:=o
 cases op
 case build t ps =>
  obtain ⟨x,hx,rfl⟩:=Option.map_eq_some_iff.1 h
  refine ⟨rfl,rfl,fun h2=>?_⟩
  have:yt8 P (setH s h2) t ps.toList=yt8 P s t ps.toList:=by
   unfold yt8
   simp only [xc7]
  simp only [evE,this,hx];rfl
 case buildSlice t n ps =>
  obtain ⟨x,hx,rfl⟩:=Option.map_eq_some_iff.1 h
  refine ⟨rfl,rfl,fun h2=>?_⟩
  have:∀ tk,xh9 P (setH s h2) tk t n ps.toList=xh9 P s tk t n ps.toList:=by
   intro tk
   unfold xh9
   simp only [xc7]
  simp only [evE,this,hx];rfl
 case call c =>
  obtain ⟨callee,args,argTypes⟩:=c
  cases callee with
  | value f=>rcases hc with hc | hc <;> simp [dcls] at hc
  | invoke r m=>rcases hc with hc | hc <;> simp [dcls] at hc
  | builtin b =>
   cases b <;> first | (exfalso;rcases hc with hc | hc <;> simp [dcls] at hc;done) | exact main h (fun _ _ e=>by cases e) (fun _=>rfl)
 all_goals first | (exfalso;rcases hc with hc | hc <;> simp [dcls] at hc;done) | exact main h (fun _ _ e=>by cases e) (fun _=>rfl)
theorem evE_kill {s:St} {o:Oper} {T:Nat} (hc:dcls o=0∨dcls o=2):evE P o (kc9 T s)=(evE P o s).map fun e=>(e.1.kill T,e.2.1.map (AObj.kill T),none):=by
 have hF:evF P (kc9 T s) o=(evF P s o).map (AV.kill T):=by
  unfold evF
  split
  ·rename_i src dst x ho
   split
   ·rw [ut9]
    cases s.ev x with
    | none=>rfl
    | some y =>
     rcases qj9 (T:=T) y with ⟨v,rfl⟩ | ⟨h1,h2⟩
     ·show s2bA (.v v)=Option.map _ (s2bA (.v v))
      cases v <;> simp only [s2bA] <;> first | rfl | (split <;> rfl)
     ·have e:∀ z:AV,(∀ v,z≠.v v)→s2bA z=none:=by
       intro z hz
       unfold s2bA
       split
       ·exact absurd rfl (hz _)
       ·rfl
      simp only [Option.map_some,Option.bind_some,e _ h1,e _ h2,Option.map_none]
   ·exact kc7 s o
  ·exact kc7 s o
 have main:(∀ s',evE P o s'=(evF P s' o).map fun x=>(x,s'.h,none))→evE P o (kc9 T s)=(evE P o s).map fun e=>(e.1.kill T,e.2.1.map (AObj.kill T),none):=by
  intro he
  rw [he,he,hF]
  cases evF P s o <;> rfl
 obtain ⟨dst,op,ty,pos,after,guard⟩:=o
 cases op
 case call c =>
  obtain ⟨callee,args,argTypes⟩:=c
  cases callee with
  | value f=>rcases hc with hc | hc <;> simp [dcls] at hc
  | invoke r m=>rcases hc with hc | hc <;> simp [dcls] at hc
  | builtin b =>
   cases b <;> first | (exfalso;rcases hc with hc | hc <;> simp [dcls] at hc;done) | exact main (fun _=>rfl)
 all_goals first | (exfalso;rcases hc with hc | hc <;> simp [dcls] at hc;done) | exact main (fun _=>rfl)
theorem evE_load {s:St} {o:Oper} {e:Eff} (hc:dcls o=2) (h:evE P o s=some e):e.2.1=s.h∧e.2.2=none∧∀ z,evE P o (setH s (s.h++[z]))=some (e.1,s.h++[z],none):=by
 obtain ⟨dst,op,ty,pos,after,guard⟩:=o
 cases op
 case load t x =>
  obtain ⟨y,hy,rfl⟩:=Option.map_eq_some_iff.1 h
  refine ⟨rfl,rfl,fun z=>?_⟩
  simp only [evE,evF,wn9] at hy ⊢
  have e1:(setH s (s.h++[z])).ev x=s.ev x:=by cases x <;> rfl
  rw [e1]
  obtain ⟨a,ha,hy⟩:=Option.bind_eq_some_iff.1 hy
  have:yw6 P (s.h++[z]) t a=some y:=by
   unfold yw6 at hy ⊢
   cases hty:tyI P t with
   | none=>simp [hty] at hy
   | some w =>
    obtain ⟨ag,sz⟩:=w
    simp only [hty] at hy ⊢
    cases a with
    | loc id off =>
     simp only [qn8] at hy ⊢
     cases hh:s.h[id]? with
     | none=>simp [hh] at hy
     | some o =>
      rw [List.getElem?_append_left (List.getElem?_eq_some_iff.1 hh).1]
      exact hy
    | _=>exact hy
  simp only [ha,Option.bind_some,setH,this,Option.map_some]
 case call c =>
  obtain ⟨callee,args,argTypes⟩:=c
  cases callee with
  | value f=>simp [dcls] at hc
  | invoke r m=>simp [dcls] at hc
  | builtin b=>cases b <;> simp [dcls] at hc
 all_goals simp [dcls] at hc
theorem evE_alloc {o:Oper} (hc:dcls o=4):∃ ty cs,AV.tlL cs=true∧((∀ s,evE P o s=none)∨∀ s,evE P o s=some (.loc s.h.length 0,s.h++[AObj.cells ty cs],none)):=by
 obtain ⟨dst,op,ty,pos,after,guard⟩:=o
 cases op
 case alloc e =>
  cases hz:zA P e with
  | none=>exact ⟨0,[],rfl,.inl fun s=>by simp only [evE,hz];rfl⟩
  | some z =>
   refine ⟨e,z.cells,?_,.inr fun s=>by simp only [evE,hz];rfl⟩
   obtain ⟨i,u,hi,hz',hr,htl,h1,h2,h3⟩:=yl8 (P:=P) (c:=⟨fun _=>True,fun _=>0,fun _=>0,0,fun _=>0⟩) (w:=default) hz
   cases z with
   | agg xs=>exact htl
   | _=>simp only [AV.cells,AV.tlL,htl,Bool.and_true]
 case call c =>
  obtain ⟨callee,args,argTypes⟩:=c
  cases callee with
  | value f=>simp [dcls] at hc
  | invoke r m=>simp [dcls] at hc
  | builtin b=>cases b <;> simp [dcls] at hc
 all_goals simp [dcls] at hc
theorem xq7 {s:St} {o:Oper} {e:Eff} (hc:dcls o=5) (h:evE P o s=some e):e.2.1=wb9 e.2.2 s.h∧∀ h2,evE P o (setH s h2)=some (e.1,wb9 e.2.2 h2,e.2.2):=by
 obtain ⟨dst,op,ty,pos,after,guard⟩:=o
 cases op
 case call c =>
  obtain ⟨callee,args,argTypes⟩:=c
  cases callee with
  | value f=>simp [dcls] at hc
  | invoke r m=>simp [dcls] at hc
  | builtin b =>
   cases b <;> first | (exfalso;simp [dcls] at hc;done) | skip
   simp only [evE] at h ⊢
   split at h
   ·have e2 : ∀ t x h2, (setH s h2).evT P t x = s.evT P t x := fun t x h2 => by cases x <;> rfl
    rename_i x y t t' _ h1 h3
    unfold xr8 at h
    split at h
    ·rename_i htt
     split at h
     ·rename_i hsl
      split at h
      ·rename_i hap
       obtain ⟨x1,hx1,h⟩:=Option.bind_eq_some_iff.1 h
       obtain ⟨y1,hy1,h⟩:=Option.bind_eq_some_iff.1 h
       split at h
       ·rename_i htip
        split at h
        ·rename_i hcc
         cases h
         refine ⟨rfl,fun h2=>?_⟩
         unfold xr8
         rw [if_pos htt]
         simp only [hsl,hap,e2,hx1,hy1,Option.bind_some,htip]
         rw [if_pos hcc]
         rfl
        ·cases h
       ·cases h
      ·cases h
     ·cases h
    ·cases h
   ·cases h
   ·rename_i h1 _;exact absurd rfl h1
 all_goals simp [dcls] at hc
end
end Go.AM
set_option linter.unusedSimpArgs false
namespace Go.AM
open Go.RowKit
namespace AV
mutual
def flat : AV → Bool
 | .arr _ _ _ _=>false
 | .agg xs | .tup xs=>flatL xs
 | _=>true
def flatL : List AV → Bool
 | []=>true
 | x :: xs=>flat x&&flatL xs
end
end AV
section
variable {P : Program}
mutual
theorem frzV_flat (tk : Nat) (h : List AObj) : (x : AV) → x.flat = true → frzV P tk h x = some (x, h)
 | .arr _ _ _ _,hf=>by simp [AV.flat] at hf
 | .agg xs,hf=>by simp only [frzV,frzL_flat tk h xs hf,Option.map_some]
 | .tup xs,hf=>by simp only [frzV,frzL_flat tk h xs hf,Option.map_some]
 | .any,_=>rfl
 | .v _,_=>rfl
 | .lst _ _ _,_=>rfl
 | .ro _,_=>rfl
 | .loc _ _,_=>rfl
 | .fn _ _ _,_=>rfl
 | .mp _,_=>rfl
 | .yld _,_=>rfl
theorem frzL_flat (tk : Nat) (h : List AObj) : (xs : List AV) → AV.flatL xs = true → frzL P tk h xs = some (xs, h)
 | [],_=>rfl
 | x :: xs,hf=>by
  simp only [AV.flatL,Bool.and_eq_true] at hf
  simp only [frzL,frzV_flat tk h x hf.1,Option.bind_some,frzL_flat tk h xs hf.2,Option.map_some]
end
def callE (P:Program) (o:Oper) (s:St) (x:AV):Prop :=
 ∃ c f l1 l2 xs r, o.op = .call c ∧ zc9 s c.callee = some (f, l1, l2) ∧ evOpts P s (c.args.toList.zip c.argTypes.toList) = some xs ∧ AV.flatL xs = true ∧
  AV.rfL (AV.dpL (l1++xs++l2))=true∧c.args.size≤c.argTypes.size∧Sound P f (AV.nlL (l1++xs++l2)) r∧x=r.norm (site o)
def ER (P:Program) (ops:List Oper) (o:Oper) (s:St) (e:Eff):Prop :=
 (xq9 ops s o=some false∧e=(.v undef,s.h,none)) ∨
 (xq9 ops s o=some true∧((evE P o s=some e∧qq9 P s o=true)∨(dcls o=3∧callE P o s e.1∧e.2.1=s.h∧e.2.2=none)))
def Looks (ops:Array Oper) (o:Oper) (s t:St):Prop:=∀ d∈o.looksAt ops,getF s.fr d=getF t.fr d
theorem Looks.ev {ops:Array Oper} {o:Oper} {s t:St} (h:Looks ops o s t):vc8 o.op.operands.toList s t:=by
 intro x hx
 cases x with
 | tmp d=>exact h d (List.mem_append_left _ (List.mem_filterMap.2 ⟨.tmp d,hx,rfl⟩))
 | _=>rfl
theorem Looks.guard {ops:Array Oper} {o:Oper} {s t:St} (h:Looks ops o s t):xq9 ops.toList s o=xq9 ops.toList t o:=by
 unfold xq9
 cases hg:o.guard with
 | none=>rfl
 | some gw =>
  obtain ⟨j,want⟩:=gw
  simp only []
  rw [Array.getElem?_toList]
  cases hd:(ops[j]?).bind (·.dst) with
  | none=>rfl
  | some d =>
   have:getF s.fr d=getF t.fr d:=h d (by simp [Oper.looksAt,hg,hd])
   simp only [this]
theorem zip_mem {l1:List Operand} {l2:List TypeId} {x:Operand × TypeId} (h:x∈l1.zip l2):x.1∈l1:=by
 obtain ⟨a,b⟩:=x;exact (List.of_mem_zip h).1
theorem calleeA_congr {s t:St} {c:Callee} (h:∀ f,c=.value f→s.ev f=t.ev f):zc9 s c=zc9 t c:=by
 unfold zc9
 split
 ·rename_i f;rw [h f rfl]
 ·rename_i hne
  cases c with
  | value f=>exact absurd rfl (hne f)
  | _=>rfl
theorem js7 {s t:St} {o:Oper} {x:AV} (ha:vc8 o.op.operands.toList s t) (h:callE P o s x):callE P o t x:=by
 obtain ⟨c,f,l1,l2,xs,r,h1,h2,h3,h4⟩:=h
 rw [h1] at ha
 have hf:∀ f,c.callee=.value f→s.ev f=t.ev f:=fun f hf=>ha f (by simp [Op.operands,Call.operands,hf])
 have hx:∀ y∈c.args.toList.zip c.argTypes.toList,s.ev y.1=t.ev y.1:=fun y hy=>ha y.1 (by
  have:=zip_mem hy
  simp only [Op.operands,Call.operands,Array.toList_append,List.mem_append];exact .inr this)
 exact ⟨c,f,l1,l2,xs,r,h1,by rw [← calleeA_congr hf];exact h2,by rw [← xv7 hx];exact h3,h4⟩
theorem xv8 {s t:St} {o:Oper} (ha:vc8 o.op.operands.toList s t):qq9 P s o=qq9 P t o:=by
 unfold qq9
 split
 ·rename_i c ho
  rw [ho] at ha
  split
  ·rename_i x y t1 t2 _ h2 _
   rw [ha.evT (P:=P) (x:=y) (by simp only [Op.operands,Call.operands,Array.toList_append,List.mem_append];exact .inr (by rw [h2];simp))]
  ·rfl
 ·rfl
theorem vq9 {ops:Array Oper} {o:Oper} {s t:St} {e:Eff} (hl:Looks ops o s t) (hh:s.h=t.h) (h:ER P ops.toList o s e):ER P ops.toList o t e:=by
 unfold ER at *
 rw [← hl.guard,← hh,← evE_congr hl.ev hh,← xv8 hl.ev]
 rcases h with h | ⟨h1,h2 | ⟨h2,h3,h4⟩⟩
 ·exact .inl h
 ·exact .inr ⟨h1,.inl h2⟩
 ·exact .inr ⟨h1,.inr ⟨h2,js7 hl.ev h3,h4⟩⟩
theorem vq7 {s:St} {o:Oper} (h:dcls o≠5):qq9 P s o=true:=by
 unfold qq9
 split
 ·rename_i c ho
  split
  ·rename_i hc _ _;exfalso;apply h;simp [dcls,ho,hc]
  ·rfl
 ·rfl
theorem kj8 {ops : List Oper} {o : Oper} {s : St} {e : Eff} (hc : dcls o = 0 ∨ dcls o = 1 ∨ dcls o = 3) (h : ER P ops o s e) :
  e.2.1=s.h∧e.2.2=none∧∀ h2,ER P ops o (setH s h2) (e.1,h2,none):=by
 rcases h with ⟨h1,rfl⟩ | ⟨h1,⟨h2,hn⟩ | ⟨h2,h3,h4,h5⟩⟩
 ·exact ⟨rfl,rfl,fun h2=>.inl ⟨h1,rfl⟩⟩
 ·have hc':dcls o=0∨dcls o=1:=by
   rcases hc with hc | hc | hc
   ·exact .inl hc
   ·exact .inr hc
   ·exfalso
    obtain ⟨dst,op,ty,pos,after,guard⟩:=o
    cases op <;> simp [dcls] at hc
    rename_i c
    obtain ⟨callee,args,argTypes⟩:=c
    cases callee with
    | value f=>simp [evE,evF,wn9] at h2
    | invoke r m=>simp at hc
    | builtin b=>cases b <;> simp at hc
  obtain ⟨g1,g2,g3⟩:=evE_calm hc' h2
  exact ⟨g1,g2,fun h2=>.inr ⟨h1,.inl ⟨g3 h2,vq7 (by omega)⟩⟩⟩
 ·refine ⟨h4,h5,fun hh=>.inr ⟨h1,.inr ⟨h2,?_,rfl,rfl⟩⟩⟩
  exact js7 (fun x _=>by cases x <;> rfl) h3
theorem ER_load {ops : List Oper} {o : Oper} {s : St} {e : Eff} (hc : dcls o = 2) (h : ER P ops o s e) :
  e.2.1=s.h∧e.2.2=none∧∀ z,ER P ops o (setH s (s.h++[z])) (e.1,s.h++[z],none):=by
 rcases h with ⟨h1,rfl⟩ | ⟨h1,⟨h2,hn⟩ | ⟨h2,h3,h4,h5⟩⟩
 ·exact ⟨rfl,rfl,fun h2=>.inl ⟨h1,rfl⟩⟩
 ·obtain ⟨g1,g2,g3⟩:=evE_load hc h2
  exact ⟨g1,g2,fun z=>.inr ⟨h1,.inl ⟨g3 z,vq7 (by omega)⟩⟩⟩
 ·omega
theorem kw8 {ops:List Oper} {s:St} {o:Oper} {T:Nat}:xq9 ops (kc9 T s) o=xq9 ops s o:=by
 unfold xq9
 split
 ·rfl
 ·split
  ·rename_i d _
   have e:getF (kc9 T s).fr d=(getF s.fr d).map (AV.kill T):=yq8 T s.fr d
   rw [e]
   cases getF s.fr d with
   | none=>rfl
   | some x =>
    rcases qj9 (T:=T) x with ⟨v,rfl⟩ | ⟨h1,h2⟩
    ·rfl
    ·simp only [Option.map_some]
     split <;> split <;> simp_all
  ·rfl
theorem ER_kill {ops : List Oper} {o : Oper} {s : St} {T : Nat} (hc : dcls o = 0 ∨ dcls o = 2) {e' : Eff} :
  ER P ops o (kc9 T s) e' ↔ ∃ e,ER P ops o s e∧e'=(e.1.kill T,e.2.1.map (AObj.kill T),none):=by
 unfold ER
 rw [kw8,evE_kill hc]
 have hn:∀ s,qq9 P s o=true:=fun s=>vq7 (by omega)
 constructor
 ·rintro (⟨h1, rfl⟩ | ⟨h1, ⟨h2, _⟩ | ⟨h2, _⟩⟩)
  ·exact ⟨(.v undef,s.h,none),.inl ⟨h1,rfl⟩,rfl⟩
  ·obtain ⟨e,he,rfl⟩:=Option.map_eq_some_iff.1 h2
   exact ⟨e,.inr ⟨h1,.inl ⟨he,hn s⟩⟩,rfl⟩
  ·omega
 ·rintro ⟨e,⟨h1,rfl⟩ | ⟨h1,⟨h2,_⟩ | ⟨h2,_⟩⟩,rfl⟩
  ·exact .inl ⟨h1,rfl⟩
  ·exact .inr ⟨h1,.inl ⟨by rw [h2];rfl,hn _⟩⟩
  ·omega
def Eqv (s t:St):Prop:=s.n=t.n∧s.h=t.h∧∀ i,getF s.fr i=getF t.fr i
theorem Eqv.refl (s:St):Eqv s s:=⟨rfl,rfl,fun _=>rfl⟩
theorem Eqv.symm {s t:St} (h:Eqv s t):Eqv t s:=⟨h.1.symm,h.2.1.symm,fun i=>(h.2.2 i).symm⟩
theorem Eqv.trans {s t u:St} (h:Eqv s t) (k:Eqv t u):Eqv s u:=⟨h.1.trans k.1,h.2.1.trans k.2.1,fun i=>(h.2.2 i).trans (k.2.2 i)⟩
theorem wj9 {e : Eff} {dst : Option Tmp} {s s' : St} (h : app e dst s = some s') :
  (∀ d,dst=some d→d < s.n)∧s'.n=s.n∧s'.h=e.2.1∧∀ i,getF s'.fr i=if dst=some i then some e.1 else (getF s.fr i).map (killO e.2.2):=by
 unfold app St.put at h
 cases dst with
 | none=>cases h;exact ⟨by simp,rfl,rfl,fun i=>by simp [zv7]⟩
 | some d =>
  simp only at h
  split at h
  ·rename_i hd
   cases h
   refine ⟨fun d' hd'=>by cases hd';exact hd,rfl,rfl,fun i=>?_⟩
   rw [jm9,zv7]
   by_cases hi:i=d
   ·subst hi;simp
   ·rw [if_neg hi,if_neg (by simpa using fun e=>hi e.symm)]
  ·cases h
theorem xs8 {e:Eff} {dst:Option Tmp} {s:St} (h:∀ d,dst=some d→d < s.n):∃ s',app e dst s=some s':=by
 unfold app St.put
 cases dst with
 | none=>exact ⟨_,rfl⟩
 | some d=>exact ⟨_,if_pos (h d rfl)⟩
def qw9 (a b:Nat):Bool :=
 a == 0 || b == 0 || (a == 1&&(b == 1 || b == 2 || b == 3 || b == 4 || b == 6)) || (b == 1&&(a == 2 || a == 3 || a == 4 || a == 6)) || (a == 2&&(b == 2 || b == 3 || b == 4 || b == 5)) ||
 (b == 2&&(a == 3 || a == 5)) || (a == 3&&(b == 3 || b == 4 || b == 6)) || (b == 3&&(a == 4 || a == 6)) || (a == 5&&b == 4)
theorem wd8 {ops : List Oper} {o : Oper} {s : St} {e : Eff} (h : ER P ops o s e) :
  (e.2.1=s.h∧e.2.2=none)∨(dcls o=4∧e.2.2=none∧∃ ty cs,AV.tlL cs=true∧e.1=.loc s.h.length 0∧e.2.1=s.h++[AObj.cells ty cs]∧∀ s',xq9 ops s' o=some true→ER P ops o s' (.loc s'.h.length 0,s'.h++[AObj.cells ty cs],none)) ∨
  (dcls o=5∧e.2.1=wb9 e.2.2 s.h∧∀ h2,ER P ops o (setH s h2) (e.1,wb9 e.2.2 h2,e.2.2))∨(dcls o=6∧e.2.2=none)∨dcls o=9:=by
 have h0:=h
 rcases h with ⟨h1,rfl⟩ | ⟨h1,⟨h2,hn⟩ | ⟨h2,h3,h4,h5⟩⟩
 ·exact .inl ⟨rfl,rfl⟩
 ·by_cases c0 : dcls o = 0 ∨ dcls o = 1 ∨ dcls o = 3
  ·obtain ⟨g1,g2,_⟩:=kj8 c0 h0;exact .inl ⟨g1,g2⟩
  by_cases c2:dcls o=2
  ·obtain ⟨g1,g2,_⟩:=ER_load c2 h0;exact .inl ⟨g1,g2⟩
  by_cases c4:dcls o=4
  ·obtain ⟨ty, cs, htl, hh | hh⟩ := evE_alloc (P := P) c4
   ·rw [hh] at h2;cases h2
   ·rw [hh] at h2;cases h2
    exact .inr (.inl ⟨c4,rfl,ty,cs,htl,rfl,rfl,fun s' hg=>.inr ⟨hg,.inl ⟨hh s',vq7 (by omega)⟩⟩⟩)
  by_cases c5:dcls o=5
  ·obtain ⟨g1,g2⟩:=xq7 c5 h2
   have hna:∀ h2,qq9 P (setH s h2) o=true:=fun h2=>by rw [← xv8 (s:=s) (fun x _=>by cases x <;> rfl)];exact hn
   exact .inr (.inr (.inl ⟨c5,g1,fun h2=>.inr ⟨h1,.inl ⟨g2 h2,hna h2⟩⟩⟩))
  by_cases c6:dcls o=6
  ·refine .inr (.inr (.inr (.inl ⟨c6, ?_⟩)))
   obtain ⟨dst,op,ty,pos,after,guard⟩:=o
   cases op
   case store t x y =>
    simp only [evE] at h2
    obtain ⟨a,_,h2⟩:=Option.bind_eq_some_iff.1 h2
    obtain ⟨b,_,h2⟩:=Option.bind_eq_some_iff.1 h2
    obtain ⟨h',_,rfl⟩:=Option.map_eq_some_iff.1 h2
    rfl
   case call c =>
    exfalso
    obtain ⟨callee,args,argTypes⟩:=c
    cases callee with
    | value f=>simp [dcls] at c6
    | invoke r m=>simp [dcls] at c6
    | builtin b=>cases b <;> simp [dcls] at c6
   all_goals (exfalso;simp [dcls] at c6)
  ·refine .inr (.inr (.inr (.inr ?_)))
   have:∀ o:Oper,dcls o=0∨dcls o=1∨dcls o=2∨dcls o=3∨dcls o=4∨dcls o=5∨dcls o=6∨dcls o=9:=by
    intro o
    obtain ⟨dst,op,ty,pos,after,guard⟩:=o
    cases op
    case call c =>
     obtain ⟨callee,args,argTypes⟩:=c
     cases callee with
     | value f=>simp [dcls]
     | invoke r m=>simp [dcls]
     | builtin b=>cases b <;> simp [dcls]
    all_goals simp [dcls]
   have:=this o
   omega
 ·exact .inl ⟨h4,h5⟩
theorem zt9 (x:Option AV):x.map (killO none)=x:=by cases x <;> rfl
theorem kill_zero {cs:List AV} {ty:TypeId} (h:AV.tlL cs=true) (T:Option Nat):wb9 T [AObj.cells ty cs]=[AObj.cells ty cs]:=by
 cases T with
 | none=>rfl
 | some T=>simp only [wb9,List.map_cons,List.map_nil,AObj.kill,killL_tl cs h]
theorem uk6 (T:Option Nat) (a b:List AObj):wb9 T (a++b)=wb9 T a++wb9 T b:=by cases T <;> simp [wb9]
theorem uj6 (T:Option Nat) (a:List AObj):(wb9 T a).length=a.length:=by cases T <;> simp [wb9]
theorem swap {ops : Array Oper} {oi oj : Oper} (hap : oi.apart ops oj = true) (hcm : qw9 (dcls oi) (dcls oj) = true) (h9 : dcls oi ≠ 9 ∧ dcls oj ≠ 9) {s s1 s2 : St} {ei ej : Eff}
  (hi:ER P ops.toList oi s ei) (ai:app ei oi.dst s=some s1) (hj:ER P ops.toList oj s1 ej) (aj:app ej oj.dst s1=some s2) :
  ∃ ej' s1' ei' s2',ER P ops.toList oj s ej'∧app ej' oj.dst s=some s1'∧ER P ops.toList oi s1' ei'∧app ei' oi.dst s1'=some s2'∧Eqv s2 s2':=by
 obtain ⟨h1,h2,h3⟩:=Oper.apart_spec hap
 obtain ⟨di,n1,hh1,g1⟩:=wj9 ai
 obtain ⟨dj,n2,hh2,g2⟩:=wj9 aj
 have dj':∀ d,oj.dst=some d→d < s.n:=fun d hd=>by rw [← n1];exact dj d hd
 have lookJ:∀ (t u:St),(∀ i,i∈oj.looksAt ops→oi.dst≠some i→getF t.fr i=getF u.fr i)→Looks ops oj t u:=fun t u h d hd=>h d hd fun e=>h1 d e hd
 have lookI:∀ (t u:St),(∀ i,i∈oi.looksAt ops→oj.dst≠some i→getF t.fr i=getF u.fr i)→Looks ops oi t u:=fun t u h d hd=>h d hd fun e=>h3 d e hd
 have apartD:∀ i,oi.dst=some i→oj.dst≠some i:=h2
 by_cases hsi:ei.2.1=s.h∧ei.2.2=none
 ·
  obtain ⟨q1,q2⟩:=hsi
  have hJ:ER P ops.toList oj s ej:=vq9 (lookJ s1 s fun i _ hne=>by rw [g1,if_neg hne,q2,zt9]) (by rw [hh1,q1]) hj
  obtain ⟨s1',as1⟩:=xs8 (e:=ej) dj'
  obtain ⟨_,n1',hh1',g1'⟩:=wj9 as1
  have fin : ∀ (T : Option Nat) (xi' : AV), ej.2.2 = T → xi' = killO T ei.1 → ER P ops.toList oi s1' (xi', ej.2.1, none) →
    ∃ ej' s1' ei' s2',ER P ops.toList oj s ej'∧app ej' oj.dst s=some s1'∧ER P ops.toList oi s1' ei'∧app ei' oi.dst s1'=some s2'∧Eqv s2 s2':=by
   intro T xi' hT hx hI
   obtain ⟨s2',as2⟩:=xs8 (e:=(xi',ej.2.1,none)) (dst:=oi.dst) (s:=s1') (fun d hd=>by rw [n1'];exact di d hd)
   obtain ⟨_,n2',hh2',g2'⟩:=wj9 as2
   refine ⟨ej,s1',_,s2',hJ,as1,hI,as2,by rw [n2,n1,n2',n1'],by rw [hh2,hh2'],fun i=>?_⟩
   rw [g2,g2',g1,g1',hT,hx]
   simp only [zt9,q2]
   by_cases hi':oi.dst=some i
   ·rw [if_neg (apartD i hi'),if_pos hi',if_pos hi'];rfl
   ·rw [if_neg hi',if_neg hi']
  by_cases hT:ej.2.2=none
  ·
   have base:s.h=ej.2.1∨(∀ h2,ER P ops.toList oi (setH s h2) (ei.1,h2,none))∨(∃ z,ej.2.1=s.h++[z]∧ER P ops.toList oi (setH s (s.h++[z])) (ei.1,s.h++[z],none)):=by
    by_cases ci:dcls oi=0∨dcls oi=1∨dcls oi=3
    ·exact .inr (.inl (kj8 ci hi).2.2)
    by_cases c2:dcls oi=2
    ·rcases wd8 hJ with ⟨e1,_⟩ | ⟨c4,_,ty,cs,_,_,e2,_⟩ | ⟨c5,e1,_⟩ | ⟨c6,_⟩ | c9
     ·exact .inl e1.symm
     ·exact .inr (.inr ⟨_,e2,(ER_load c2 hi).2.2 _⟩)
     ·rw [hT] at e1;exact .inl e1.symm
     ·rw [c2,c6] at hcm;cases hcm
     ·exact absurd c9 h9.2
    ·
     rcases hi with ⟨k1,k2⟩ | ⟨k1,⟨k2,_⟩ | ⟨k2,_⟩⟩
     ·exact .inr (.inl fun h2=>.inl ⟨k1,by rw [k2];rfl⟩)
     ·rcases wd8 (P := P) (ops := ops.toList) (.inr ⟨k1, .inl ⟨k2, by assumption⟩⟩) with _ | ⟨c4, _, ty, cs, _, _, e2, _⟩ | ⟨c5, e1, _⟩ | ⟨c6, _⟩ | c9
      ·have hd := dcls oi
       rcases wd8 hJ with ⟨e1,_⟩ | ⟨c4',_⟩ | ⟨c5',e1,_⟩ | ⟨c6',_⟩ | c9'
       ·exact .inl e1.symm
       ·have:dcls oi=5:=by
         rw [c4'] at hcm
         simp only [qw9,Bool.or_eq_true,Bool.and_eq_true,beq_iff_eq] at hcm
         omega
        rcases wd8 (P:=P) (ops:=ops.toList) (.inr ⟨k1,.inl ⟨k2,by assumption⟩⟩) with _ | ⟨c4,_⟩ | ⟨c5,e1,e3⟩ | ⟨c6,_⟩ | c9
        ·obtain ⟨e3,e4⟩:=xq7 this k2
         refine .inr (.inl fun h2=>.inr ⟨k1,.inl ⟨?_,?_⟩⟩)
         ·rw [e4 h2,q2];rfl
         ·rw [← xv8 (s:=s) (fun x _=>by cases x <;> rfl)];assumption
        ·omega
        ·refine .inr (.inl fun h2=>?_)
         have:=e3 h2
         rw [q2] at this;exact this
        ·omega
        ·exact absurd c9 h9.1
       ·rw [hT] at e1;exact .inl e1.symm
       ·rw [c6'] at hcm
        simp only [qw9,Bool.or_eq_true,Bool.and_eq_true,beq_iff_eq] at hcm
        omega
       ·exact absurd c9' h9.2
      ·exfalso;rw [q1] at e2;exact absurd (congrArg List.length e2) (by simp)
      ·have hc4:∀ h2,ER P ops.toList oi (setH s h2) (ei.1,h2,none):=fun h2=>by
        obtain ⟨e3,e4⟩:=xq7 c5 k2
        refine .inr ⟨k1,.inl ⟨?_,?_⟩⟩
        ·rw [e4 h2,q2];rfl
        ·rw [← xv8 (s:=s) (fun x _=>by cases x <;> rfl)];assumption
       exact .inr (.inl hc4)
      ·
       have hcj:dcls oj=0∨dcls oj=1∨dcls oj=3:=by
        rw [c6] at hcm
        simp only [qw9,Bool.or_eq_true,Bool.and_eq_true,beq_iff_eq] at hcm
        omega
       exact .inl (kj8 hcj hJ).1.symm
      ·exact absurd c9 h9.1
     ·omega
   refine fin none ei.1 hT rfl ?_
   rcases base with b1 | b1 | ⟨z,b1,b2⟩
   ·rw [← b1]
    have:=vq9 (t:=s1') (lookI s s1' fun i _ hne=>by rw [g1',if_neg hne,hT,zt9]) (by rw [hh1',b1]) hi
    rw [show ei=(ei.1,s.h,none) from by rw [← q1,← q2]] at this
    exact this
   ·exact vq9 (s:=setH s ej.2.1) (lookI _ s1' fun i _ hne=>by rw [g1',if_neg hne,hT,zt9];rfl) (by rw [hh1'];rfl) (b1 _)
   ·rw [b1]
    exact vq9 (s:=setH s (s.h++[z])) (lookI _ s1' fun i _ hne=>by rw [g1',if_neg hne,hT,zt9];rfl) (by rw [hh1',b1];rfl) b2
  ·
   rcases wd8 hJ with ⟨_,e1⟩ | ⟨_,e1,_⟩ | ⟨c5,e1,_⟩ | ⟨_,e1⟩ | c9
   ·exact absurd e1 hT
   ·exact absurd e1 hT
   ·obtain ⟨T, hT'⟩ := Option.ne_none_iff_exists'.1 hT
    have hci:dcls oi=0∨dcls oi=2:=by
     rw [c5] at hcm
     simp only [qw9,Bool.or_eq_true,Bool.and_eq_true,beq_iff_eq] at hcm
     omega
    refine fin (some T) _ hT' rfl ?_
    have hk:ER P ops.toList oi (kc9 T s) (ei.1.kill T,s.h.map (AObj.kill T),none):=(ER_kill hci).2 ⟨ei,hi,by rw [q1]⟩
    rw [e1,hT']
    refine vq9 (s:=kc9 T s) (lookI _ s1' fun i _ hne=>?_) (by rw [hh1',e1,hT'];rfl) hk
    rw [g1',if_neg hne,hT']
    exact yq8 T s.fr i
   ·exact absurd e1 hT
   ·exact absurd c9 h9.2
 ·
  rcases wd8 hi with hh | ⟨c4,e2,ty,cs,htl,e3,e4,e5⟩ | ⟨c5,e1,e5⟩ | ⟨c6,e2⟩ | c9
  ·exact absurd hh hsi
  ·
   have hcj:dcls oj=0∨dcls oj=1∨dcls oj=3:=by
    rw [c4] at hcm
    simp only [qw9,Bool.or_eq_true,Bool.and_eq_true,beq_iff_eq] at hcm
    omega
   obtain ⟨k1,k2,k3⟩:=kj8 hcj hj
   have hJ:ER P ops.toList oj s (ej.1,s.h,none):=vq9 (s:=setH s1 s.h) (lookJ _ s fun i _ hne=>by show getF s1.fr i=_;rw [g1,if_neg hne,e2,zt9]) rfl (k3 s.h)
   obtain ⟨s1',as1⟩:=xs8 (e:=(ej.1,s.h,none)) dj'
   obtain ⟨_,n1',hh1',g1'⟩:=wj9 as1
   have hI:ER P ops.toList oi s1' ei:=vq9 (lookI s s1' fun i _ hne=>by rw [g1',if_neg hne,zt9]) hh1'.symm hi
   obtain ⟨s2',as2⟩:=xs8 (e:=ei) (dst:=oi.dst) (s:=s1') (fun d hd=>by rw [n1'];exact di d hd)
   obtain ⟨_,n2',hh2',g2'⟩:=wj9 as2
   refine ⟨_,s1',_,s2',hJ,as1,hI,as2,by rw [n2,n1,n2',n1'],by rw [hh2,hh2',k1,hh1],fun i=>?_⟩
   rw [g2,g2',g1,g1',k2,e2]
   simp only [zt9]
   by_cases hi':oi.dst=some i
   ·rw [if_neg (apartD i hi'),if_pos hi',if_pos hi']
   ·rw [if_neg hi',if_neg hi']
  ·
   by_cases hcj:dcls oj=4
   ·
    rcases hj with ⟨kg,rfl⟩ | ⟨kg,kk⟩
    ·
     have hg:xq9 ops.toList s oj=xq9 ops.toList s1 oj:=by
      cases hT:ei.2.2 with
      | none=>exact (lookJ s s1 fun i _ hne=>by rw [g1,if_neg hne,hT,zt9]).guard
      | some T=>rw [← kw8 (T:=T)];exact (lookJ (kc9 T s) s1 fun i _ hne=>by rw [g1,if_neg hne,hT];exact yq8 T s.fr i).guard
     have hJ:ER P ops.toList oj s (.v undef,s.h,none):=.inl ⟨by rw [hg];exact kg,rfl⟩
     obtain ⟨s1',as1⟩:=xs8 (e:=(.v undef,s.h,none)) dj'
     obtain ⟨_,n1',hh1',g1'⟩:=wj9 as1
     have hI:ER P ops.toList oi s1' ei:=vq9 (lookI s s1' fun i _ hne=>by rw [g1',if_neg hne,zt9]) hh1'.symm hi
     obtain ⟨s2',as2⟩:=xs8 (e:=ei) (dst:=oi.dst) (s:=s1') (fun d hd=>by rw [n1'];exact di d hd)
     obtain ⟨_,n2',hh2',g2'⟩:=wj9 as2
     refine ⟨_,s1',_,s2',hJ,as1,hI,as2,by rw [n2,n1,n2',n1'],by rw [hh2,hh2',hh1],fun i=>?_⟩
     rw [g2,g2',g1,g1']
     simp only [zt9]
     by_cases hi':oi.dst=some i
     ·rw [if_neg (apartD i hi'),if_pos hi',if_pos hi']
     ·rw [if_neg hi',if_neg hi']
      by_cases hj':oj.dst=some i
      ·rw [if_pos hj',if_pos hj'];cases ei.2.2 <;> rfl
      ·rw [if_neg hj',if_neg hj']
    ·rcases wd8 (P := P) (.inr ⟨kg, kk⟩) with ⟨k1, _⟩ | ⟨_, k2, ty, cs, htl, k3, k4, k5⟩ | ⟨k1, _⟩ | ⟨k1, _⟩ | k1
     ·exfalso
      rcases kk with ⟨kk,_⟩ | ⟨kk,_⟩
      ·obtain ⟨ty, cs, htl, hh | hh⟩ := evE_alloc (P := P) hcj
       ·rw [hh] at kk;cases kk
       ·rw [hh] at kk;cases kk
        exact absurd (congrArg List.length k1) (by simp)
      ·omega
     ·have hg:xq9 ops.toList s oj=xq9 ops.toList s1 oj:=by
       cases hT:ei.2.2 with
       | none=>exact (lookJ s s1 fun i _ hne=>by rw [g1,if_neg hne,hT,zt9]).guard
       | some T=>rw [← kw8 (T:=T)];exact (lookJ (kc9 T s) s1 fun i _ hne=>by rw [g1,if_neg hne,hT];exact yq8 T s.fr i).guard
      have hJ:=k5 s (by rw [hg];exact kg)
      obtain ⟨s1',as1⟩:=xs8 (e:=(.loc s.h.length 0,s.h++[AObj.cells ty cs],none)) dj'
      obtain ⟨_,n1',hh1',g1'⟩:=wj9 as1
      have hI:ER P ops.toList oi s1' (ei.1,wb9 ei.2.2 (s.h++[AObj.cells ty cs]),ei.2.2) :=
       vq9 (s:=setH s (s.h++[AObj.cells ty cs])) (lookI _ s1' fun i _ hne=>by rw [g1',if_neg hne,zt9];rfl) (by rw [hh1'];rfl) (e5 _)
      obtain ⟨s2',as2⟩:=xs8 (e:=(ei.1,wb9 ei.2.2 (s.h++[AObj.cells ty cs]),ei.2.2)) (dst:=oi.dst) (s:=s1') (fun d hd=>by rw [n1'];exact di d hd)
      obtain ⟨_,n2',hh2',g2'⟩:=wj9 as2
      refine ⟨_,s1',_,s2',hJ,as1,hI,as2,by rw [n2,n1,n2',n1'],by rw [hh2,hh2',k4,hh1,e1,uk6,kill_zero htl],fun i=>?_⟩
      rw [g2,g2',g1,g1',k2,k3,hh1,e1,uj6]
      simp only [zt9]
      by_cases hi':oi.dst=some i
      ·rw [if_neg (apartD i hi'),if_pos hi',if_pos hi']
      ·rw [if_neg hi',if_neg hi']
       by_cases hj':oj.dst=some i
       ·rw [if_pos hj',if_pos hj'];cases ei.2.2 <;> rfl
       ·rw [if_neg hj',if_neg hj']
     ·omega
     ·omega
     ·exact absurd k1 h9.2
   ·have hcj':dcls oj=0∨dcls oj=2:=by
     rw [c5] at hcm
     simp only [qw9,Bool.or_eq_true,Bool.and_eq_true,beq_iff_eq] at hcm
     omega
    have hJ:∃ e,ER P ops.toList oj s e∧e.2.1=s.h∧e.2.2=none∧ej.1=killO ei.2.2 e.1∧ej.2.1=wb9 ei.2.2 s.h∧ej.2.2=none:=by
     cases hT:ei.2.2 with
     | none =>
      have hJ:ER P ops.toList oj s ej:=vq9 (lookJ s1 s fun i _ hne=>by rw [g1,if_neg hne,hT,zt9]) (by rw [hh1,e1,hT];rfl) hj
      have:ej.2.1=s.h∧ej.2.2=none:=by
       rcases hcj' with h | h
       ·obtain ⟨a,b,_⟩:=kj8 (.inl h) hJ;exact ⟨a,b⟩
       ·obtain ⟨a,b,_⟩:=ER_load h hJ;exact ⟨a,b⟩
      exact ⟨ej,hJ,this.1,this.2,rfl,this.1,this.2⟩
     | some T =>
      have hJk:ER P ops.toList oj (kc9 T s) ej:=vq9 (lookJ s1 _ fun i _ hne=>by rw [g1,if_neg hne,hT];exact (yq8 T s.fr i).symm) (by rw [hh1,e1,hT];rfl) hj
      obtain ⟨e,he,rfl⟩:=(ER_kill hcj').1 hJk
      have:e.2.1=s.h∧e.2.2=none:=by
       rcases hcj' with h | h
       ·obtain ⟨a,b,_⟩:=kj8 (.inl h) he;exact ⟨a,b⟩
       ·obtain ⟨a,b,_⟩:=ER_load h he;exact ⟨a,b⟩
      exact ⟨e,he,this.1,this.2,rfl,by rw [this.1];rfl,rfl⟩
    obtain ⟨e,hE,k1,k2,k3,k4,k5⟩:=hJ
    obtain ⟨s1',as1⟩:=xs8 (e:=e) dj'
    obtain ⟨_,n1',hh1',g1'⟩:=wj9 as1
    have hI:ER P ops.toList oi s1' ei:=vq9 (lookI s s1' fun i _ hne=>by rw [g1',if_neg hne,k2,zt9]) (by rw [hh1',k1]) hi
    obtain ⟨s2',as2⟩:=xs8 (e:=ei) (dst:=oi.dst) (s:=s1') (fun d hd=>by rw [n1'];exact di d hd)
    obtain ⟨_,n2',hh2',g2'⟩:=wj9 as2
    refine ⟨_,s1',_,s2',hE,as1,hI,as2,by rw [n2,n1,n2',n1'],by rw [hh2,hh2',k4,e1],fun i=>?_⟩
    rw [g2,g2',g1,g1',k2,k3,k5]
    simp only [zt9]
    by_cases hi':oi.dst=some i
    ·rw [if_neg (apartD i hi'),if_pos hi',if_pos hi']
    ·rw [if_neg hi',if_neg hi']
     by_cases hj':oj.dst=some i
     ·rw [if_pos hj',if_pos hj'];rfl
     ·rw [if_neg hj',if_neg hj']
  ·
   have hcj:dcls oj=0∨dcls oj=1∨dcls oj=3:=by
    rw [c6] at hcm
    simp only [qw9,Bool.or_eq_true,Bool.and_eq_true,beq_iff_eq] at hcm
    omega
   obtain ⟨k1,k2,k3⟩:=kj8 hcj hj
   have hJ:ER P ops.toList oj s (ej.1,s.h,none):=vq9 (s:=setH s1 s.h) (lookJ _ s fun i _ hne=>by show getF s1.fr i=_;rw [g1,if_neg hne,e2,zt9]) rfl (k3 s.h)
   obtain ⟨s1',as1⟩:=xs8 (e:=(ej.1,s.h,none)) dj'
   obtain ⟨_,n1',hh1',g1'⟩:=wj9 as1
   have hI:ER P ops.toList oi s1' ei:=vq9 (lookI s s1' fun i _ hne=>by rw [g1',if_neg hne,zt9]) hh1'.symm hi
   obtain ⟨s2',as2⟩:=xs8 (e:=ei) (dst:=oi.dst) (s:=s1') (fun d hd=>by rw [n1'];exact di d hd)
   obtain ⟨_,n2',hh2',g2'⟩:=wj9 as2
   refine ⟨_,s1',_,s2',hJ,as1,hI,as2,by rw [n2,n1,n2',n1'],by rw [hh2,hh2',k1,hh1],fun i=>?_⟩
   rw [g2,g2',g1,g1',k2,e2]
   simp only [zt9]
   by_cases hi':oi.dst=some i
   ·rw [if_neg (apartD i hi'),if_pos hi',if_pos hi']
   ·rw [if_neg hi',if_neg hi']
  ·exact absurd c9 h9.1
end
end Go.AM
set_option linter.unusedSimpArgs false
namespace Go.AM
open Go.RowKit
section
variable {P : Program}
def xj8 (P:Program) (ops:List Oper) (o:Oper) (s:St) (K:St→Prop):Prop:=∃ e s',ER P ops o s e∧app e o.dst s=some s'∧K s'
def runE (P : Program) (ops : List Oper) : List Oper → St → (St → Prop) → Prop
 | [],s,K=>K s
 | o :: l,s,K=>xj8 P ops o s fun s'=>runE P ops l s' K
def Closed (K:St→Prop):Prop:=∀ s t,Eqv s t→K s→K t
theorem app_eqv {e:Eff} {dst:Option Tmp} {s t s':St} (h:Eqv s t) (ha:app e dst s=some s'):∃ t',app e dst t=some t'∧Eqv s' t':=by
 obtain ⟨h1,h2,h3,h4⟩:=wj9 ha
 obtain ⟨t',ht⟩:=xs8 (e:=e) (dst:=dst) (s:=t) (fun d hd=>by rw [← h.1];exact h1 d hd)
 obtain ⟨_,k2,k3,k4⟩:=wj9 ht
 exact ⟨t',ht,by rw [h2,k2,h.1],by rw [h3,k3],fun i=>by rw [h4,k4,h.2.2]⟩
theorem xd7 {ops:Array Oper} {o:Oper} {K:St→Prop} (hK:Closed K):Closed fun s=>xj8 P ops.toList o s K:=by
 rintro s t h ⟨e,s',h1,h2,h3⟩
 obtain ⟨t',h4,h5⟩:=app_eqv h h2
 exact ⟨e,t',vq9 (fun d _=>h.2.2 d) h.2.1 h1,h4,hK _ _ h5 h3⟩
theorem uk9 {ops:List Oper} {o:Oper} {s:St} {K K':St→Prop} (hk:∀ s,K s→K' s) (h:xj8 P ops o s K):xj8 P ops o s K':=by
 obtain ⟨e,s',h1,h2,h3⟩:=h
 exact ⟨e,s',h1,h2,hk _ h3⟩
theorem zw6 {ops : Array Oper} {oi oj : Oper} (hap : oi.apart ops oj = true) (hcm : qw9 (dcls oi) (dcls oj) = true) (h9 : dcls oi ≠ 9 ∧ dcls oj ≠ 9) {s : St} {K : St → Prop} (hK : Closed K)
  (h:xj8 P ops.toList oi s fun s1=>xj8 P ops.toList oj s1 K):xj8 P ops.toList oj s fun s1=>xj8 P ops.toList oi s1 K:=by
 obtain ⟨ei,s1,h1,h2,ej,s2,h3,h4,h5⟩:=h
 obtain ⟨ej',s1',ei',s2',k1,k2,k3,k4,k5⟩:=swap hap hcm h9 h1 h2 h3 h4
 exact ⟨ej',s1',k1,k2,ei',s2',k3,k4,hK _ _ k5 h5⟩
def anyA (P : Program) (ops : Array Oper) (Q : St → Prop) : Nat → Array Bool → St → Prop
 | 0,listed,s=>Region.ready .any ops listed=[]∧Q s
 | fuel+1,listed,s =>
  (Region.ready .any ops listed=[]→Q s) ∧
  ∀ i∈Region.ready .any ops listed,∀ o,ops[i]?=some o→xj8 P ops.toList o s (anyA P ops Q fuel (listed.setIfInBounds i true))
theorem jg7 {ops : Array Oper} {Q : St → Prop} (hQ : Closed Q) : ∀ (fuel : Nat) (listed : Array Bool), Closed (anyA P ops Q fuel listed)
 | 0,listed,s,t,h,⟨h1,h2⟩=>⟨h1,hQ _ _ h h2⟩
 | fuel+1,listed,s,t,h,⟨h1,h2⟩=>⟨fun hr=>hQ _ _ h (h1 hr),fun i hi o ho=>xd7 (jg7 hQ fuel _) _ _ h (h2 i hi o ho)⟩
def up9 (ops : Array Oper) (i : Nat) : Nat → Nat → Bool
 | 0,_=>false
 | n+1,j=>match ops[j]? with
  | some o=>o.after.any fun e=>Region.binds .any e&&(e.on == i || up9 ops i n e.on)
  | none=>false
def wf8 (ops:Array Oper) (listed:Array Bool):Prop :=
 ∀ j oj,ops[j]?=some oj→listed.getD j false=true→∀ e∈oj.after,Region.binds .any e=true→listed.getD e.on false=true
theorem xd8 {ops : Array Oper} {i : Nat} {listed : Array Bool} (hc : wf8 ops listed) : ∀ (n j : Nat), up9 ops i n j = true → listed.getD j false = true → listed.getD i false = true
 | 0,_,h,_=>by cases h
 | n+1,j,h,hj=>by
  simp only [up9] at h
  split at h
  ·rename_i o ho
   obtain ⟨e,he,hb⟩:=Array.any_eq_true'.1 h
   simp only [Bool.and_eq_true,Bool.or_eq_true,beq_iff_eq] at hb
   have hl:=hc j o ho hj e he hb.1
   rcases hb.2 with h1 | h1
   ·rw [h1] at hl;exact hl
   ·exact xd8 hc n _ h1 hl
  ·cases h
theorem wp8 {ops:Array Oper} {listed:Array Bool} (hc:wf8 ops listed) {j:Nat} (hj:j∈Region.ready .any ops listed):wf8 ops (listed.setIfInBounds j true):=by
 intro k ok hk hl e he hb
 by_cases hkj:j=k
 ·subst hkj
  obtain ⟨_,o,ho,hall⟩:=mem_ready.1 hj
  rw [ho] at hk
  cases hk
  exact getD_set_true (hall e he hb)
 ·rw [getD_set_ne false hkj] at hl
  exact getD_set_true (hc k ok hk hl e he hb)
theorem anyA_first {ops : Array Oper} {Q : St → Prop} (hQ : Closed Q) {i : Nat} {oi : Oper} (hi : ops[i]? = some oi) (N : Nat) :
  ∀ (fuel : Nat) (listed : Array Bool) (s : St), wf8 ops listed →
   (∀ j oj,ops[j]?=some oj→j≠i→listed.getD j true=false→up9 ops i N j=false→oi.apart ops oj=true∧qw9 (dcls oi) (dcls oj)=true∧dcls oi≠9∧dcls oj≠9) →
   i∈Region.ready .any ops listed→xj8 P ops.toList oi s (anyA P ops Q fuel (listed.setIfInBounds i true))→anyA P ops Q (fuel+1) listed s:=by
 intro fuel
 induction fuel with
 | zero =>
  intro listed s _ _ hr H
  refine ⟨fun h=>(by rw [h] at hr;cases hr),fun j hj o ho=>?_⟩
  by_cases hji:j=i
  ·subst hji;rw [hi] at ho;cases ho;exact H
  ·have:=ready_mono hj hji
   obtain ⟨e,s',_,_,h3,_⟩:=H
   rw [h3] at this
   cases this
 | succ fuel ih =>
  intro listed s hcl hfree hr H
  refine ⟨fun h=>(by rw [h] at hr;cases hr),fun j hj o ho=>?_⟩
  by_cases hji:j=i
  ·subst hji;rw [hi] at ho;cases ho;exact H
  ·have hun := (mem_ready.1 hj).1
   have hiun:listed.getD i false=false:=by
    have h0:=(mem_ready.1 hr).1
    rcases Nat.lt_or_ge i listed.size with h' | h'
    ·simp [h'] at h0 ⊢;exact h0
    ·simp [Array.getElem?_eq_none h']
   have hw:up9 ops i N j=false:=by
    cases hwt:up9 ops i N j with
    | false=>rfl
    | true =>
     exfalso
     cases N with
     | zero=>cases hwt
     | succ N =>
      simp only [up9,ho] at hwt
      obtain ⟨e,he,hb⟩:=Array.any_eq_true'.1 hwt
      simp only [Bool.and_eq_true,Bool.or_eq_true,beq_iff_eq] at hb
      obtain ⟨_,o',ho',hall⟩:=mem_ready.1 hj
      rw [ho] at ho'
      cases ho'
      have hl:=hall e he hb.1
      rcases hb.2 with h1 | h1
      ·rw [h1,hiun] at hl;cases hl
      ·have:=xd8 hcl N _ h1 hl
       rw [hiun] at this;cases this
   obtain ⟨c1,c2,c3⟩:=hfree j o ho hji hun hw
   have h1:xj8 P ops.toList oi s fun s1=>xj8 P ops.toList o s1 (anyA P ops Q fuel ((listed.setIfInBounds i true).setIfInBounds j true)) :=
    uk9 (fun s1 hs1=>hs1.2 j (ready_mono hj hji) o ho) H
   have h2:=zw6 c1 c2 c3 (jg7 hQ fuel _) h1
   have hfree':∀ k ok,ops[k]?=some ok→k≠i→(listed.setIfInBounds j true).getD k true=false→up9 ops i N k=false→oi.apart ops ok=true∧qw9 (dcls oi) (dcls ok)=true∧dcls oi≠9∧dcls ok≠9 :=
    fun k ok hk hki hunk hwk=>by
     refine hfree k ok hk hki ?_ hwk
     by_cases hjk:j=k
     ·subst hjk;exact hun
     ·rw [getD_set_ne true hjk] at hunk;exact hunk
   refine uk9 (fun s1 hs1=>ih (listed.setIfInBounds j true) s1 (wp8 hcl hj) hfree' (ready_mono hr (Ne.symm hji)) ?_) h2
   rw [Array.setIfInBounds_comm _ _ hji]
   exact hs1
def wj6 (i : Nat) : List Oper → Nat → Nat → Nat
 | [],_,m=>m
 | o :: l,k,m=>wj6 i l (k+1) (if o.after.any fun e=>Region.binds .any e&&(e.on == i || m.testBit e.on) then m ||| 2 ^ k else m)
theorem jj9 {ops : Array Oper} {i : Nat} : ∀ {n m j : Nat}, n ≤ m → up9 ops i n j = true → up9 ops i m j = true
 | 0,_,_,_,h=>by cases h
 | n+1,0,_,h,_=>by omega
 | n+1,m+1,j,hle,h=>by
  simp only [up9] at h ⊢
  split at h
  ·rename_i o ho
   rw [Array.any_eq_true] at h ⊢
   obtain ⟨e,he,h⟩:=h
   refine ⟨e,he,?_⟩
   simp only [Bool.and_eq_true,Bool.or_eq_true] at h ⊢
   exact ⟨h.1,h.2.imp id (jj9 (by omega))⟩
  ·cases h
theorem xf8 {ops : Array Oper} {i : Nat} : ∀ (l : List Oper) (k m : Nat), ops.toList.drop k = l → (∀ j, m.testBit j = true → j < k ∧ up9 ops i (j + 1) j = true) →
  ∀ j,(wj6 i l k m).testBit j=true→j < ops.size∧up9 ops i (j+1) j=true
 | [],k,m,hl,hm,j,h=>by
  obtain ⟨h1,h2⟩:=hm j h
  refine ⟨?_,h2⟩
  simp only [up9] at h2
  split at h2
  ·rename_i o ho;exact (Array.getElem?_eq_some_iff.1 ho).1
  ·cases h2
 | o :: l,k,m,hl,hm,j,h=>by
  simp only [wj6] at h
  have hk:ops[k]?=some o:=by
   rw [← Array.getElem?_toList]
   have:=List.getElem?_drop (xs:=ops.toList) (i:=k) (j:=0)
   rw [hl] at this
   simpa using this.symm
  have hl':ops.toList.drop (k+1)=l:=by
   rw [← List.tail_drop,hl];rfl
  refine xf8 l (k+1) _ hl' ?_ j h
  intro j' hj'
  split at hj'
  ·rename_i hany
   rw [Nat.testBit_or,Bool.or_eq_true] at hj'
   rcases hj' with hj' | hj'
   ·obtain ⟨h1,h2⟩:=hm j' hj';exact ⟨by omega,h2⟩
   ·rw [Nat.testBit_two_pow] at hj'
    have hkj:k=j':=by simpa using hj'
    subst hkj
    refine ⟨by omega,?_⟩
    simp only [up9,hk]
    rw [Array.any_eq_true] at hany ⊢
    obtain ⟨e,he,hany⟩:=hany
    refine ⟨e,he,?_⟩
    simp only [Bool.and_eq_true,Bool.or_eq_true] at hany ⊢
    refine ⟨hany.1,hany.2.imp id fun hb=>?_⟩
    obtain ⟨h1,h2⟩:=hm _ hb
    exact jj9 (by omega) h2
  ·obtain ⟨h1,h2⟩:=hm j' hj';exact ⟨by omega,h2⟩
def freeM (ops:Array Oper) (listed:Array Bool) (i m:Nat):Bool :=
 match ops[i]? with
 | none=>false
 | some oi=>(List.range ops.size).all fun j=>j == i || listed.getD j true || m.testBit j || match ops[j]? with
   | some oj=>oi.apart ops oj&&qw9 (dcls oi) (dcls oj)&&dcls oi != 9&&dcls oj != 9
   | none=>true
def freeB (ops:Array Oper) (listed:Array Bool) (i:Nat):Bool:=freeM ops listed i (wj6 i ops.toList 0 0)
def lexD (ops : Array Oper) : Nat → Nat → Array Bool → Bool
 | 0,_,listed=>(Region.ready .any ops listed).isEmpty
 | fuel+1,k,listed=>(Region.ready .any ops listed).contains k&&freeB ops listed k&&lexD ops fuel (k+1) (listed.setIfInBounds k true)
def drawOk (ops:Array Oper):Bool:=lexD ops ops.size 0 (Array.replicate ops.size false)
theorem anyA_lex {ops : Array Oper} {Q : St → Prop} (hQ : Closed Q) : ∀ (l : List Oper) (k : Nat) (listed : Array Bool) (s : St), (∀ j, l[j]? = ops[k + j]?) → wf8 ops listed →
  lexD ops l.length k listed=true→runE P ops.toList l s Q→anyA P ops Q l.length listed s
 | [],_,_,_,_,_,hB,h=>⟨by simpa [lexD] using hB,h⟩
 | o :: l,k,listed,s,hl,hcl,hB,h=>by
  have h0:ops[k]?=some o:=by simpa using (hl 0).symm
  simp only [List.length_cons,lexD,Bool.and_eq_true] at hB
  obtain ⟨⟨hr,hf⟩,hB'⟩:=hB
  have hr':k∈Region.ready .any ops listed:=by simpa using hr
  refine anyA_first hQ h0 ops.size l.length listed s hcl ?_ hr' ?_
  ·intro j oj hj hne hun hw
   simp only [freeB,freeM,h0,List.all_eq_true,List.mem_range] at hf
   have h1:=hf j (Array.getElem?_eq_some_iff.1 hj).1
   have hw':(wj6 k ops.toList 0 0).testBit j=false:=by
    cases hb:(wj6 k ops.toList 0 0).testBit j with
    | false=>rfl
    | true =>
     obtain ⟨h2,h3⟩:=xf8 (ops:=ops) ops.toList 0 0 rfl (by simp) j hb
     rw [jj9 (by omega) h3] at hw;cases hw
   simp only [hj,hw',hun,Bool.or_eq_true,Bool.and_eq_true,beq_iff_eq,hne,false_or,Bool.false_eq_true,bne_iff_ne,ne_eq] at h1
   exact ⟨h1.1.1.1,h1.1.1.2,h1.1.2,h1.2⟩
  ·exact uk9 (fun s1 hs1=>anyA_lex hQ l (k+1) _ s1 (fun j=>by have:=hl (j+1);simpa [Nat.add_assoc,Nat.add_comm 1 j] using this) (wp8 hcl hr') hB' hs1) h
variable {F : Fence} {n : Nat}
theorem evE_evOp {o:Oper} {s s':St} {e:Eff} (hc:dcls o≠9) (hn:qq9 P s o=true) (h:evE P o s=some e) (ha:app e o.dst s=some s'):evOp P o s=some s':=by
 obtain ⟨dst,op,ty,pos,after,guard⟩:=o
 have main : (evF P s { dst := dst, op := op, type := ty, pos := pos, after := after, guard := guard }).map (fun x => (x, s.h, (none : Option Nat))) = some e →
   ∃ x,evF P s { dst:=dst,op:=op,type:=ty,pos:=pos,after:=after,guard:=guard }=some x∧s.put dst x=some s':=by
  intro h
  obtain ⟨x,hx,rfl⟩:=Option.map_eq_some_iff.1 h
  exact ⟨x,hx,ha⟩
 cases op
 all_goals first | (exfalso;exact hc rfl) | skip
 case alloc t =>
  obtain ⟨z,hz,rfl⟩:=Option.map_eq_some_iff.1 h
  simp only [evOp,xw7,hz,Option.bind_some];exact ha
 case build t ps =>
  obtain ⟨z,hz,rfl⟩:=Option.map_eq_some_iff.1 h
  simp only [evOp,hz,Option.bind_some];exact ha
 case buildSlice t m ps =>
  obtain ⟨z,hz,rfl⟩:=Option.map_eq_some_iff.1 h
  simp only [evOp,hz,Option.bind_some];exact ha
 case store t x y =>
  simp only [evE] at h
  obtain ⟨a,ha',h⟩:=Option.bind_eq_some_iff.1 h
  obtain ⟨b,hb,h⟩:=Option.bind_eq_some_iff.1 h
  obtain ⟨h',hh,rfl⟩:=Option.map_eq_some_iff.1 h
  simp only [evOp,ha',hb,Option.bind_some,evStore_E,hh,Option.map_some];exact ha
 case convert a b x =>
  obtain ⟨z,hz,hp⟩:=main h
  simp only [evF] at hz
  simp only [evOp]
  cases hcv:cvI P a b with
  | none=>rw [hcv] at hz;dsimp only at hz ⊢;rw [hz];exact hp
  | some cv =>
   rw [hcv] at hz
   cases cv with
   | s2b t =>
    dsimp only at hz ⊢
    obtain ⟨xa,hxa,hz⟩:=Option.bind_eq_some_iff.1 hz
    rw [hxa]
    simp only [Option.bind_some]
    unfold s2bA at hz
    unfold evS2b
    split at hz
    ·split at hz
     ·rename_i hle
      cases hz
      dsimp only
      rw [if_pos hle];exact hp
     ·cases hz
    ·cases hz
   | _=>dsimp only at hz ⊢;rw [hz];exact hp
 case call c =>
  obtain ⟨callee,args,argTypes⟩:=c
  cases callee with
  | value f=>obtain ⟨x,hx,_⟩:=main h;simp [evF,wn9] at hx
  | invoke r m=>exact absurd rfl hc
  | builtin b =>
   by_cases hb:b=.append
   ·subst hb
    simp only [evE] at h
    simp only [evOp]
    split at h
    ·rename_i x y t t' _ h2 h3
     rw [h2,h3]
     dsimp only
     simp only [qq9,h2,h3] at hn
     unfold xr8 at h
     unfold uc8
     split at h
     ·rename_i htt
      rw [if_pos htt]
      cases hsl:slI P t with
      | none=>simp [hsl] at h
      | some z =>
       obtain ⟨e',ag,sz⟩:=z
       simp only [hsl] at h ⊢
       cases hap:apI P e' with
       | none=>simp [hap] at h
       | some z =>
        obtain ⟨sz',by_⟩:=z
        simp only [hap] at h ⊢
        obtain ⟨x1,hx1,h⟩:=Option.bind_eq_some_iff.1 h
        obtain ⟨y1,hy1,h⟩:=Option.bind_eq_some_iff.1 h
        simp only [hx1,hy1,Option.bind_some]
        rw [hy1] at hn
        cases y1 <;> simp only [] at hn <;> first | (cases hn;done) | skip
        simp only [frzV,Option.bind_some]
        cases htip:tipA e' sz x1 with
        | none=>simp [htip] at h
        | some z =>
         obtain ⟨src,xs⟩:=z
         simp only [htip] at h ⊢
         split at h
         ·rename_i hcc
          cases h
          rw [if_pos hcc]
          exact ha
         ·cases h
     ·cases h
    ·cases h
    ·rename_i h1 _;exact absurd rfl h1
   ·have pc : ∀ b, b ≠ .append → dcls { dst := dst, op := .call ⟨.builtin b, args, argTypes⟩, type := ty, pos := pos, after := after, guard := guard } ≠ 9 →
      (evE P { dst:=dst,op:=.call ⟨.builtin b,args,argTypes⟩,type:=ty,pos:=pos,after:=after,guard:=guard } s=some e) →
      evOp P { dst:=dst,op:=.call ⟨.builtin b,args,argTypes⟩,type:=ty,pos:=pos,after:=after,guard:=guard } s=some s':=by
     intro b hb hc h
     cases b <;> first | exact absurd rfl hb | (exfalso;exact hc rfl) | skip
     all_goals
      obtain ⟨x,hx,rfl⟩:=Option.map_eq_some_iff.1 h
      simp only [evF] at hx
      simp only [evOp,hx,Option.bind_some]
      exact ha
    exact pc b hb hc h
 all_goals
  obtain ⟨z,hz,hp⟩:=main h
  simp only [evF] at hz
  simp only [evOp,hz,Option.bind_some]
  exact hp
theorem uw7 {ops:List Oper} {o:Oper} {s:St} {K:St→Prop} (hc:dcls o≠9) (h:xj8 P ops o s K):yj8 P ops o s K:=by
 obtain ⟨e,s',hE,ha,hK⟩:=h
 unfold yj8
 rcases hE with ⟨h1,rfl⟩ | ⟨h1,⟨h2,hn⟩ | ⟨h2,h3,h4,h5⟩⟩
 ·rw [h1];exact ⟨s',ha,hK⟩
 ·rw [h1];exact .inl ⟨s',evE_evOp hc hn h2 ha,hK⟩
 ·rw [h1]
  refine .inr (.inl ?_)
  obtain ⟨c,f,l1,l2,xs,r,k1,k2,k3,k4,k5,k6,k7,k8⟩:=h3
  unfold callA
  rw [k1]
  dsimp only
  rw [k2]
  refine ⟨_,s.h,r,s',?_,k6,k7,?_,hK⟩
  ·rw [k3]
   simp only [Option.bind_some,frzL_flat _ _ _ k4]
  ·obtain ⟨x,h',T⟩:=e
   dsimp only at k8 h4 h5
   subst k8;subst h4;subst h5
   exact ha
theorem wr9 {ops : Array Oper} {md : Region.Mode} {Q Q' : Exit → Act → World → Prop} (hq : ∀ e a w, Q e a w → Q' e a w) : ∀ (fuel : Nat) (listed : Array Bool) (a : Act) (w : World),
  wpAnyIn F n P md ops Q fuel listed a w→wpAnyIn F n P md ops Q' fuel listed a w
 | 0,listed,a,w,⟨h1,h2⟩=>⟨h1,hq _ _ _ h2⟩
 | fuel+1,listed,a,w,⟨h1,h2⟩=>by
  refine ⟨fun hr=>hq _ _ _ (h1 hr),fun i hi=>?_⟩
  have h:=h2 i hi
  unfold wpOpIn at *
  split
  ·rename_i hn;rw [hn] at h;exact wr9 hq fuel _ _ _ h
  ·rename_i o hn
   rw [hn] at h
   dsimp only at h
   split
   ·rename_i hw
    rw [if_pos hw] at h
    exact qs7 (fun a w=>wr9 hq fuel _ a w) hq h
   ·rename_i hw
    rw [if_neg hw] at h
    exact ⟨h.1,wr9 hq fuel _ _ _ h.2⟩
theorem anyA_wp {ops : Array Oper} {Q : St → Prop} (hF : Good F) (h9 : ∀ (i : Nat) (o : Oper), ops[i]? = some o → dcls o ≠ 9) : ∀ (fuel : Nat) (listed : Array Bool) (s : St) (c : Ctx) (w : World) (a : Act), SimSt P c w s a → anyA P ops Q fuel listed s →
  wpAnyIn F n P .any ops (fun e a' w'=>∃ s' c',zw9 Q (fun _ _=>False) e s'∧SimSt P c' w' s' a'∧Ext c w c' w') fuel listed a w
 | 0,listed,s,c,w,a,hs,⟨h1,h2⟩=>⟨h1,s,c,h2,hs,Ext.refl c w⟩
 | fuel+1,listed,s,c,w,a,hs,⟨h1,h2⟩=>by
  refine ⟨fun hr=>⟨s,c,h1 hr,hs,Ext.refl c w⟩,fun i hi=>?_⟩
  obtain ⟨_,o,ho,_⟩:=mem_ready.1 hi
  have hst:=uw7 (h9 i o ho) (h2 i hi o ho)
  unfold wpOpIn
  simp only [ho]
  refine xk8 hF hs ho hst ?_
  intro s' a' c' w' hK hs' he
  have:=anyA_wp hF h9 fuel _ s' c' w' a' hs' hK
  refine wr9 ?_ _ _ _ _ this
  rintro e a2 w2 ⟨s2,c2,q,hs2,he2⟩
  exact ⟨s2,c2,q,hs2,he.trans he2⟩
theorem SimSt.eqv {c:Ctx} {w:World} {s t:St} {a:Act} (hs:SimSt P c w s a) (h:Eqv s t):SimSt P c w t a :=
 ⟨hs.n.trans h.1,hs.base,fun i x hx=>hs.fr i x (by rw [h.2.2];exact hx),by rw [← h.2.1];exact hs.h,hs.dfr⟩
def yh6 (ops:Array Oper):Bool:=drawOk ops&&ops.toList.all fun o=>dcls o != 9
theorem W_draw {top : Bool} {kf : Nat} {id : Nat} {ops : Array Oper} {Q : Exit → St → Prop} {s : St} (hm : P.follows .mixedOrders = true) (hd : yh6 ops = true) (h : runE P ops.toList ops.toList s (fun s' => Q .normal s')) :
  Wt top kf P (.region id ops true) Q s:=by
 intro F n c w a hF hs
 simp only [yh6,Bool.and_eq_true,List.all_eq_true,bne_iff_ne,ne_eq] at hd
 have h9:∀ (i:Nat) (o:Oper),ops[i]?=some o→dcls o≠9:=fun i o ho=>hd.2 o (by rw [← Array.getElem?_toList] at ho;exact List.mem_of_getElem? ho)
 refine wpIn_region_any hm ?_
 let Q':St→Prop:=fun s=>∃ t,Eqv s t∧Q .normal t
 have hQ':Closed Q':=fun s t h ⟨u,h1,h2⟩=>⟨u,h.symm.trans h1,h2⟩
 have mono:∀ (l:List Oper) (s:St),runE P ops.toList l s (fun s'=>Q .normal s')→runE P ops.toList l s Q':=by
  intro l
  induction l with
  | nil=>exact fun s h=>⟨s,Eqv.refl s,h⟩
  | cons o l ih=>exact fun s h=>uk9 (fun s1=>ih s1) h
 have hany:=anyA_lex hQ' ops.toList 0 (Array.replicate ops.size false) s (by simp) (fun j oj hj hl=>by
   exfalso
   rcases Nat.lt_or_ge j ops.size with h' | h' <;> simp [h'] at hl) (by simpa [drawOk] using hd.1) (mono _ _ h)
 have:=anyA_wp (n:=n) hF.1 h9 _ _ s c w.drew a hs.drew hany
 simp only [Array.length_toList] at this
 refine wr9 ?_ _ _ _ _ this
 rintro e a2 w2 ⟨s2,c2,q,hs2,he2⟩
 cases e with
 | normal =>
  obtain ⟨t,h1,h2⟩:=q
  exact ⟨t,c2,h2,hs2.eqv h1,((xl9 c w).trans he2).toK hF.2.2⟩
 | _=>exact q.elim
def ev1D (P:Program) (ops:List Oper) (o:Oper) (s:St):Option St :=
 match xq9 ops s o with
 | some true=>if qq9 P s o then evOp P o s else none
 | some false=>s.put o.dst (.v undef)
 | none=>none
def yp7 (P : Program) (ops : List Oper) : List Oper → St → Option St
 | [],s=>some s
 | o :: l,s=>(ev1D P ops o s).bind (yp7 P ops l)
def yk6 (P:Program) (o:Oper) (s:St) (K:St→Prop):Prop :=
 match o.op with
 | .call c=>match zc9 s c.callee with
  | some (f, l1, l2) => ∃ xs r s', evOpts P s (c.args.toList.zip c.argTypes.toList) = some xs ∧ AV.flatL xs = true ∧ AV.rfL (AV.dpL (l1 ++ xs ++ l2)) = true ∧ c.args.size ≤ c.argTypes.size ∧
    Sound P f (AV.nlL (l1++xs++l2)) r∧s.put o.dst (r.norm (site o))=some s'∧K s'
  | none=>False
 | _=>False
def wr7 (P:Program) (ops:List Oper) (o:Oper) (s:St) (K:St→Prop):Prop :=
 match xq9 ops s o with
 | some true=>(∃ s',(if qq9 P s o then evOp P o s else none)=some s'∧K s')∨(dcls o=3∧yk6 P o s K)
 | some false=>∃ s',s.put o.dst (.v undef)=some s'∧K s'
 | none=>False
def runD (P : Program) (ops : List Oper) : List Oper → St → (St → Prop) → Prop
 | [],s,K=>K s
 | o :: l,s,K=>wr7 P ops o s fun s'=>runD P ops l s' K
theorem stepD_stepE {ops:List Oper} {o:Oper} {s:St} {K:St→Prop} (hc:dcls o≠9) (h:wr7 P ops o s K):xj8 P ops o s K:=by
 unfold wr7 at h
 split at h
 ·rename_i hg
  rcases h with ⟨s',h,hK⟩ | ⟨h3,h⟩
  ·split at h
   ·rename_i hn
    obtain ⟨e,he,ha⟩:=evOp_evE hc hn h
    exact ⟨e,s',.inr ⟨hg,.inl ⟨he,hn⟩⟩,ha,hK⟩
   ·cases h
  ·unfold yk6 at h
   split at h
   ·rename_i c ho
    split at h
    ·rename_i f l1 l2 hcal
     obtain ⟨xs,r,s',k1,k2,k3,k4,k5,k6,hK⟩:=h
     exact ⟨(r.norm (site o),s.h,none),s',.inr ⟨hg,.inr ⟨h3,⟨c,f,l1,l2,xs,r,ho,hcal,k1,k2,k3,k4,k5,rfl⟩,rfl,rfl⟩⟩,k6,hK⟩
    ·exact h.elim
   ·exact h.elim
 ·rename_i hg
  obtain ⟨s',h,hK⟩:=h
  exact ⟨(.v undef,s.h,none),s',.inl ⟨hg,rfl⟩,h,hK⟩
 ·exact h.elim
theorem zl8 {ops : List Oper} : ∀ {l : List Oper} {s : St} {K : St → Prop}, (∀ o ∈ l, dcls o ≠ 9) → runD P ops l s K → runE P ops l s K
 | [],_,_,_,h=>h
 | o :: l,s,K,h9,h=>uk9 (fun s1 h1=>zl8 (fun o ho=>h9 o (List.mem_cons_of_mem _ ho)) h1) (stepD_stepE (h9 o List.mem_cons_self) h)
theorem kh8 {top : Bool} {kf : Nat} {id : Nat} {ops : Array Oper} {Q : Exit → St → Prop} {s : St} (hm : P.follows .mixedOrders = true) (hd : yh6 ops = true) (h : runD P ops.toList ops.toList s (fun s' => Q .normal s')) :
  Wt top kf P (.region id ops true) Q s:=by
 refine W_draw hm hd (zl8 ?_ h)
 simp only [yh6,Bool.and_eq_true,List.all_eq_true,bne_iff_ne,ne_eq] at hd
 exact hd.2
theorem ks8 {ops : List Oper} {l2 : List Oper} : ∀ {l1 : List Oper} {s s' : St} {K : St → Prop}, yp7 P ops l1 s = some s' → runD P ops l2 s' K → runD P ops (l1 ++ l2) s K
 | [],s,s',K,h,hk=>by simp only [yp7,Option.some.injEq] at h;subst h;exact hk
 | o :: l,s,s',K,h,hk=>by
  simp only [yp7] at h
  obtain ⟨s1,h1,h2⟩:=Option.bind_eq_some_iff.1 h
  have rest:=ks8 (K:=K) h2 hk
  simp only [List.cons_append,runD,wr7]
  unfold ev1D at h1
  split at h1
  ·exact .inl ⟨s1,h1,rest⟩
  ·exact ⟨s1,h1,rest⟩
  ·cases h1
theorem W_dv {top : Bool} {kf : Nat} {id : Nat} {ops : Array Oper} {Q : Exit → St → Prop} {s s' : St} (hm : P.follows .mixedOrders = true) (hd : yh6 ops = true) (h : yp7 P ops.toList ops.toList s = some s') (hq : Q .normal s') :
  Wt top kf P (.region id ops true) Q s :=
 kh8 hm hd (by have:=ks8 (P:=P) (ops:=ops.toList) (l2:=[]) (K:=fun s'=>Q .normal s') h hq;simpa using this)
end
end Go.AM
set_option linter.unusedSimpArgs false
set_option linter.unusedVariables false
namespace Go
section
variable {P : Program} {b : Frame} {a : Act} {k : List Item} {cs : List Frame} {w : World} {F : Fence} {n : Nat} {Q : Exit → Act → World → Prop}
theorem qc9 {c:Code}:step P (lone (b.atR a (.code (.scope c) :: k)) cs w)=.next (lone (b.atR a (.code c :: .inScope c :: k)) cs w) :=
 step_lone_go (by simp [stepG,stepG.exec,Frame.atR])
theorem vr6 {c:Code}:step P (lone (b.atR a (.inScope c :: k)) cs w)=.next (lone (b.atR a k) cs w) :=
 step_lone_go (by simp [stepG,stepG.exec,Frame.atR])
theorem wpIn_scope {c:Code} (h:c.wpIn F n P (Exit.noGoto Q) a w):(Code.scope c).wpIn F n P Q a w:=by
 intro b k cs hro hb hr
 have h0:(lone (b.atR a (.code (.scope c) :: k)) cs w).fenced P F:=fenced_calm hb hr rfl
 obtain ⟨e,a₁,w₁,hq,harr⟩:=h b (.inScope c :: k) cs hro hb hr
 cases e with
 | normal=>exact ⟨.normal,a₁,w₁,hq,.head h0 qc9 (StepsIn.trans harr (.one (fenced_calm hb hr rfl) vr6))⟩
 | exit id' =>
  have hx:exitTo id' (.inScope c :: k)=exitTo id' k:=by simp [exitTo]
  exact ⟨.exit id', a₁, w₁, hq, fun k' hk => .head h0 qc9 (harr.1 k' (by rw [hx]; exact hk)),
   fun hr' hk=>let ⟨k₁,h1,h2⟩:=harr.2 hr' (by rw [hx];exact hk);⟨k₁,h1,.head h0 qc9 h2⟩⟩
 | goto l=>exact hq.elim
 | ret=>exact ⟨_,a₁,w₁,hq,.of_steps (.one h0 qc9) harr⟩
 | panic ch=>exact ⟨_,a₁,w₁,hq,.of_steps (.one h0 qc9) harr⟩
 | outgrown=>exact ⟨_,a₁,w₁,hq,.of_steps (.one h0 qc9) harr⟩
end
end Go
namespace Go.AM
open Go.RowKit
section
variable {P : Program} {top : Bool} {kf : Nat} {Q : Exit → St → Prop} {s : St}
theorem W_label {l:Nat} (h:Q .normal s):Wt top kf P (.label l) Q s :=
 fun F n c w a hF hs=>wpIn_label ⟨s,c,h,hs,(Ext.refl c w).toK hF.2.2⟩
def noGo (Q : Exit → St → Prop) : Exit → St → Prop
 | .goto _,_=>False
 | e,s=>Q e s
theorem W_scope {x:Code} (h:Wt top kf P x (noGo Q) s):Wt top kf P (.scope x) Q s:=by
 intro F n c w a hF hs
 refine wpIn_scope (wpIn_mono (h F n c w a hF hs) ?_)
 rintro e a' w' ⟨s',c',q,h1,h2⟩
 cases e with
 | goto l=>exact q.elim
 | _=>exact ⟨s',c',q,h1,h2⟩
theorem W_pre {x:Code} (h:Pre P s fun s1=>Wt top kf P x Q s1):Wt top kf P x Q s:=by
 intro F n c w a hF hs
 obtain ⟨c',s1,he,hs1,hw⟩:=h c w a hs
 have he':=he.toK hF.2.2
 refine wpIn_mono (hw F n c' w a (hF.next he') hs1) ?_
 rintro e a' w' ⟨s',c2,q,k1,k2⟩
 exact ⟨s',c2,q,k1,he'.trans k2⟩
theorem Pre.here {R:St→Prop} (h:R s):Pre P s R:=fun c w a hs=>⟨c,s,Ext.refl c w,hs,h⟩
theorem Pre.bind {R R':St→Prop} (h:Pre P s R) (k:∀ s1,R s1→Pre P s1 R'):Pre P s R':=by
 intro c w a hs
 obtain ⟨c1,s1,e1,hs1,h1⟩:=h c w a hs
 obtain ⟨c2,s2,e2,hs2,h2⟩:=k s1 h1 c1 w a hs1
 exact ⟨c2,s2,e1.trans e2,hs2,h2⟩
theorem pre_frz (i : Nat) {id off len cap tk : Nat} {x : AV} {h' : List AObj} (hg : getF s.fr i = some (.arr id off len cap)) (htk : tk % 2 = 1)
  (hf:ws9 P s.h tk id off len cap=some (x,h')):Pre P s (·=⟨s.n,putF s.fr i x,h'⟩):=by
 intro c w a hs
 obtain ⟨u,hu,hr,_⟩:=hs.fr i _ hg
 obtain ⟨c',he,hk,hs',hr',ho'⟩:=kd9 hs htk hf hr
 refine ⟨c',⟨s.n,putF s.fr i x,h'⟩,he,⟨hs'.n,hs'.base,fun j y hy=>?_,hs'.h,hs'.dfr⟩,rfl⟩
 simp only at hy
 rw [jm9] at hy
 split at hy
 ·rename_i hj
  subst hj
  cases hy
  exact ⟨u,hu,hr',ho'⟩
 ·exact hs'.fr j y hy
def frz1 (P:Program) (tk:Nat) (s:St) (x:Operand):St:=match x with
 | .tmp t=>match getF s.fr t with
  | some (.arr id off len cap)=>match ws9 P s.h tk id off len cap with
   | some (y,h')=>⟨s.n,putF s.fr t y,h'⟩
   | none=>s
  | _=>s
 | _=>s
def frzO (P:Program) (s:St) (o:Oper):St:=o.op.operands.toList.foldl (frz1 P (site o)) s
theorem pre_frz1 {tk:Nat} (htk:tk % 2=1) (x:Operand):Pre P s (·=frz1 P tk s x):=by
 unfold frz1
 split
 ·split
  ·rename_i hg
   split
   ·rename_i hf;exact pre_frz _ hg htk hf
   ·exact .here rfl
  ·exact .here rfl
 ·exact .here rfl
theorem pre_frzL {tk : Nat} (htk : tk % 2 = 1) : ∀ (l : List Operand) (s : St), Pre P s (· = l.foldl (frz1 P tk) s)
 | [],s=>.here rfl
 | x :: l,s=>(pre_frz1 htk x).bind fun s1 h1=>by subst h1;exact pre_frzL htk l _
theorem uw6 (o:Oper):Pre P s (·=frzO P s o):=pre_frzL (ur8 o) _ _
theorem ub7 : ∀ (l : List Oper) (s : St), Pre P s (· = l.foldl (frzO P) s)
 | [],s=>.here rfl
 | x :: l,s=>(uw6 x).bind fun s1 h1=>by subst h1;exact ub7 l _
end
end Go.AM
set_option linter.unusedSimpArgs false
namespace Go.AM
open Go.RowKit
section
variable {P : Program}
def anyS (P : Program) (ops : Array Oper) (L : Array Bool) (R : St → Prop) : Nat → Array Bool → St → Prop
 | 0,listed,s=>listed=L∧R s
 | fuel+1,listed,s =>
  Region.ready .any ops listed≠[] ∧
  ∀ i∈Region.ready .any ops listed,∀ o,ops[i]?=some o→dcls o≠9∧xj8 P ops.toList o s (anyS P ops L R fuel (listed.setIfInBounds i true))
theorem jf7 {ops : Array Oper} {L : Array Bool} {R : St → Prop} (hR : Closed R) : ∀ (fuel : Nat) (listed : Array Bool), Closed (anyS P ops L R fuel listed)
 | 0,listed,s,t,h,⟨h1,h2⟩=>⟨h1,hR _ _ h h2⟩
 | fuel+1,listed,s,t,h,⟨h1,h2⟩=>⟨h1,fun i hi o ho=>⟨(h2 i hi o ho).1,xd7 (jf7 hR fuel _) _ _ h (h2 i hi o ho).2⟩⟩
theorem uk7 {ops:Array Oper} {listed:Array Bool} (hcl:wf8 ops listed) {i j:Nat} (hj:j∈Region.ready .any ops listed) (hiun:listed.getD i false=false):∀ N,up9 ops i N j=false:=by
 intro N
 cases hwt:up9 ops i N j with
 | false=>rfl
 | true =>
  exfalso
  obtain ⟨_,o,ho,hall⟩:=mem_ready.1 hj
  cases N with
  | zero=>cases hwt
  | succ N =>
   simp only [up9,ho] at hwt
   obtain ⟨e,he,hb⟩:=Array.any_eq_true'.1 hwt
   simp only [Bool.and_eq_true,Bool.or_eq_true,beq_iff_eq] at hb
   have hl:=hall e he hb.1
   rcases hb.2 with h1 | h1
   ·rw [h1,hiun] at hl;cases hl
   ·have:=xd8 hcl N _ h1 hl
    rw [hiun] at this;cases this
theorem unl_false {listed:Array Bool} {i:Nat} (h:listed.getD i true=false):listed.getD i false=false:=by
 rcases Nat.lt_or_ge i listed.size with h' | h'
 ·simp [h'] at h ⊢;exact h
 ·simp [Array.getElem?_eq_none h']
theorem anyS_first {ops : Array Oper} {L : Array Bool} {R : St → Prop} (hR : Closed R) {i : Nat} {oi : Oper} (hi : ops[i]? = some oi) (hi9 : dcls oi ≠ 9) (N : Nat)
  (hsuf:∀ j,j≠i→L.getD j true=false→up9 ops i N j=true) :
  ∀ (fuel : Nat) (listed : Array Bool) (s : St), wf8 ops listed →
   (∀ j oj,ops[j]?=some oj→j≠i→listed.getD j true=false→up9 ops i N j=false→oi.apart ops oj=true∧qw9 (dcls oi) (dcls oj)=true∧dcls oi≠9∧dcls oj≠9) →
   i∈Region.ready .any ops listed→xj8 P ops.toList oi s (anyS P ops L R fuel (listed.setIfInBounds i true))→anyS P ops L R (fuel+1) listed s:=by
 intro fuel
 induction fuel with
 | zero =>
  intro listed s hcl _ hr H
  refine ⟨fun h=>(by rw [h] at hr;cases hr),fun j hj o ho=>?_⟩
  by_cases hji:j=i
  ·subst hji;rw [hi] at ho;cases ho;exact ⟨hi9,H⟩
  ·exfalso
   obtain ⟨e,s',_,_,h3,_⟩:=H
   have hun:=(mem_ready.1 hj).1
   have hLj:L.getD j true=false:=by rw [← h3,getD_set_ne true (Ne.symm hji)];exact hun
   have h4:=hsuf j hji hLj
   rw [uk7 hcl hj (unl_false (mem_ready.1 hr).1) N] at h4
   cases h4
 | succ fuel ih =>
  intro listed s hcl hfree hr H
  refine ⟨fun h=>(by rw [h] at hr;cases hr),fun j hj o ho=>?_⟩
  by_cases hji:j=i
  ·subst hji;rw [hi] at ho;cases ho;exact ⟨hi9,H⟩
  ·have hun := (mem_ready.1 hj).1
   have hw:=uk7 hcl hj (unl_false (mem_ready.1 hr).1) N
   obtain ⟨c1,c2,c3⟩:=hfree j o ho hji hun hw
   have h1:xj8 P ops.toList oi s fun s1=>xj8 P ops.toList o s1 (anyS P ops L R fuel ((listed.setIfInBounds i true).setIfInBounds j true)) :=
    uk9 (fun s1 hs1=>(hs1.2 j (ready_mono hj hji) o ho).2) H
   have h2:=zw6 c1 c2 c3 (jf7 hR fuel _) h1
   have hfree':∀ k ok,ops[k]?=some ok→k≠i→(listed.setIfInBounds j true).getD k true=false→up9 ops i N k=false→oi.apart ops ok=true∧qw9 (dcls oi) (dcls ok)=true∧dcls oi≠9∧dcls ok≠9 :=
    fun k ok hk hki hunk hwk=>by
     refine hfree k ok hk hki ?_ hwk
     by_cases hjk:j=k
     ·subst hjk;exact hun
     ·rw [getD_set_ne true hjk] at hunk;exact hunk
   refine ⟨c3.2,uk9 (fun s1 hs1=>ih (listed.setIfInBounds j true) s1 (wp8 hcl hj) hfree' (ready_mono hr (Ne.symm hji)) ?_) h2⟩
   rw [Array.setIfInBounds_comm _ _ hji]
   exact hs1
def lexS (ops : Array Oper) (L : Array Bool) : Nat → Nat → Array Bool → Bool
 | 0,_,listed=>listed == L
 | fuel + 1, k, listed => (Region.ready .any ops listed).contains k && freeB ops listed k && (List.range ops.size).all (fun j => j == k || L.getD j true || (wj6 k ops.toList 0 0).testBit j) &&
   (match ops[k]? with | some o=>dcls o != 9 | none=>false)&&lexS ops L fuel (k+1) (listed.setIfInBounds k true)
def seqB (ops : Array Oper) : Nat → Nat → Array Bool → Bool
 | 0,_,listed=>(Region.ready .any ops listed).isEmpty
 | fuel+1,k,listed=>Region.ready .any ops listed == [k]&&seqB ops fuel (k+1) (listed.setIfInBounds k true)
def preL (ops:Array Oper) (pre:Nat):Array Bool:=(List.range pre).foldl (fun l k=>l.setIfInBounds k true) (Array.replicate ops.size false)
def drawS (ops:Array Oper) (pre:Nat):Bool:=decide (pre≤ops.size)&&lexS ops (preL ops pre) pre 0 (Array.replicate ops.size false)&&seqB ops (ops.size - pre) pre (preL ops pre)
theorem vf7 {ops : Array Oper} {L : Array Bool} {R : St → Prop} (hR : Closed R) (hL : ∀ j, ops.size ≤ j → L.getD j true = true) : ∀ (l : List Oper) (k : Nat) (listed : Array Bool) (s : St), (∀ j, j < l.length → l[j]? = ops[k + j]?) → wf8 ops listed →
  lexS ops L l.length k listed=true→runE P ops.toList l s R→anyS P ops L R l.length listed s
 | [],k,listed,s,_,_,hB,h=>⟨by simpa [lexS] using hB,h⟩
 | o :: l,k,listed,s,hl,hcl,hB,h=>by
  have h0:ops[k]?=some o:=by simpa using (hl 0 (by simp)).symm
  simp only [List.length_cons,lexS,Bool.and_eq_true,h0,bne_iff_ne,ne_eq] at hB
  obtain ⟨⟨⟨⟨hr,hf⟩,hs⟩,h9⟩,hB'⟩:=hB
  have hr':k∈Region.ready .any ops listed:=by simpa using hr
  refine anyS_first hR h0 h9 ops.size ?_ l.length listed s hcl ?_ hr' ?_
  ·intro j hjk hLj
   have hjlt:j < ops.size:=by
    rcases Nat.lt_or_ge j ops.size with h | h
    ·exact h
    ·rw [hL j h] at hLj;cases hLj
   simp only [List.all_eq_true,List.mem_range] at hs
   have h1:=hs j hjlt
   simp only [Bool.or_eq_true,beq_iff_eq,hjk,hLj,false_or,Bool.false_eq_true] at h1
   obtain ⟨h2,h3⟩:=xf8 (ops:=ops) ops.toList 0 0 rfl (by simp) j h1
   exact jj9 (by omega) h3
  ·intro j oj hj hne hun hw
   simp only [freeB,freeM,h0,List.all_eq_true,List.mem_range] at hf
   have h1:=hf j (Array.getElem?_eq_some_iff.1 hj).1
   have hw':(wj6 k ops.toList 0 0).testBit j=false:=by
    cases hb:(wj6 k ops.toList 0 0).testBit j with
    | false=>rfl
    | true =>
     obtain ⟨h2,h3⟩:=xf8 (ops:=ops) ops.toList 0 0 rfl (by simp) j hb
     rw [jj9 (by omega) h3] at hw;cases hw
   simp only [hj,hw',hun,Bool.or_eq_true,Bool.and_eq_true,beq_iff_eq,hne,false_or,Bool.false_eq_true,bne_iff_ne,ne_eq] at h1
   exact ⟨h1.1.1.1,h1.1.1.2,h1.1.2,h1.2⟩
  ·exact uk9 (fun s1 hs1=>vf7 hR hL l (k+1) _ s1 (fun j hj=>by have:=hl (j+1) (by simpa using hj);simpa [Nat.add_assoc,Nat.add_comm 1 j] using this) (wp8 hcl hr') hB' hs1) h
variable {F : Fence} {n : Nat}
theorem seq_wp {ops : Array Oper} (hF : Good F) : ∀ (fuel k : Nat) (listed : Array Bool) (s : St) (c : Ctx) (w : World) (a : Act) (K' : St → Prop), k + fuel = ops.size → seqB ops fuel k listed = true → SimSt P c w s a →
  runA P ops.toList (ops.toList.drop k) s K'→wpAnyIn F n P .any ops (fun e a' w'=>∃ s' c',zw9 K' (fun _ _=>False) e s'∧SimSt P c' w' s' a'∧Ext c w c' w') fuel listed a w
 | 0,k,listed,s,c,w,a,K',hk,hB,hs,h=>by
  simp only [seqB,List.isEmpty_iff] at hB
  have:ops.toList.drop k=[]:=by rw [List.drop_eq_nil_iff];simp;omega
  rw [this] at h
  exact ⟨hB,s,c,h,hs,Ext.refl c w⟩
 | fuel+1,k,listed,s,c,w,a,K',hk,hB,hs,h=>by
  simp only [seqB,Bool.and_eq_true,beq_iff_eq] at hB
  obtain ⟨hr,hB'⟩:=hB
  refine ⟨fun h0=>(by rw [hr] at h0;cases h0),fun i hi=>?_⟩
  rw [hr] at hi
  simp at hi
  subst hi
  have hlt:i < ops.toList.length:=by simp;omega
  rw [List.drop_eq_getElem_cons hlt] at h
  have ho:ops[i]?=some (ops.toList[i]):=by rw [← Array.getElem?_toList];exact List.getElem?_eq_getElem hlt
  unfold wpOpIn
  simp only [ho]
  refine xk8 (K':=fun s'=>runA P ops.toList (ops.toList.drop (i+1)) s' K') hF hs ho h ?_
  intro s' a' c' w' hK hs' he
  refine wr9 ?_ _ _ _ _ (seq_wp hF fuel (i+1) _ s' c' w' a' K' (by omega) hB' hs' hK)
  rintro e a2 w2 ⟨s2,c2,q,hs2,he2⟩
  exact ⟨s2,c2,q,hs2,he.trans he2⟩
theorem anyS_wp {ops : Array Oper} {L : Array Bool} {R : St → Prop} {Qw : Exit → Act → World → Prop} {c0 : Ctx} {w0 : World} (hF : Good F) (rest : Nat) (hT : ∀ (s : St) (c : Ctx) (w : World) (a : Act), Ext c0 w0 c w → SimSt P c w s a → R s →
   wpAnyIn F n P .any ops Qw rest L a w) :
  ∀ (fuel:Nat) (listed:Array Bool) (s:St) (c:Ctx) (w:World) (a:Act),Ext c0 w0 c w→SimSt P c w s a→anyS P ops L R fuel listed s→wpAnyIn F n P .any ops Qw (fuel+rest) listed a w
 | 0,listed,s,c,w,a,he,hs,h=>by
  obtain ⟨h1,h2⟩:=h
  subst h1
  rw [Nat.zero_add]
  exact hT s c w a he hs h2
 | fuel+1,listed,s,c,w,a,he,hs,h=>by
  obtain ⟨h1,h2⟩:=h
  rw [Nat.add_right_comm]
  refine ⟨fun hr=>absurd hr h1,fun i hi=>?_⟩
  obtain ⟨_,o,ho,_⟩:=mem_ready.1 hi
  have hst:=uw7 (h2 i hi o ho).1 (h2 i hi o ho).2
  unfold wpOpIn
  simp only [ho]
  refine xk8 hF hs ho hst ?_
  intro s' a' c' w' hK hs' he'
  exact anyS_wp hF rest hT fuel _ s' c' w' a' (he.trans he') hs' hK
theorem un7 (ops:Array Oper) (pre:Nat):(preL ops pre).size=ops.size:=by
 unfold preL
 have:∀ (l:List Nat) (a:Array Bool),(l.foldl (fun l k=>l.setIfInBounds k true) a).size=a.size:=by
  intro l
  induction l with
  | nil=>intro a;rfl
  | cons x l ih=>intro a;simp [ih]
 rw [this];simp
theorem W_drawS {top : Bool} {kf : Nat} {id : Nat} {ops : Array Oper} {Q : Exit → St → Prop} {s : St} (pre : Nat) (hm : P.follows .mixedOrders = true) (hd : drawS ops pre = true)
  (h:runD P ops.toList (ops.toList.take pre) s fun s'=>runA P ops.toList (ops.toList.drop pre) s' fun s2=>Q .normal s2):Wt top kf P (.region id ops true) Q s:=by
 intro F n c w a hF hs
 simp only [drawS,Bool.and_eq_true,decide_eq_true_eq] at hd
 obtain ⟨⟨hle,hlex⟩,hseq⟩:=hd
 refine wpIn_region_any hm ?_
 let R:St→Prop:=fun s=>∃ t,Eqv s t∧runA P ops.toList (ops.toList.drop pre) t fun s2=>Q .normal s2
 have hR:Closed R:=fun s t h ⟨u,h1,h2⟩=>⟨u,h.symm.trans h1,h2⟩
 have hlen:(ops.toList.take pre).length=pre:=by rw [List.length_take];simp;omega
 have h9:∀ (m k:Nat) (listed:Array Bool),lexS ops (preL ops pre) m k listed=true→∀ j o,j < m→ops[k+j]?=some o→dcls o≠9:=by
  intro m
  induction m with
  | zero=>intro k listed _ j o hj;omega
  | succ m ih =>
   intro k listed hx j o hj ho
   simp only [lexS,Bool.and_eq_true] at hx
   cases j with
   | zero =>
    have h1:=hx.1.2
    rw [Nat.add_zero] at ho
    rw [ho] at h1
    simpa using h1
   | succ j=>exact ih (k+1) _ hx.2 j o (by omega) (by rw [show k+1+j=k+(j+1) by omega];exact ho)
 have hrunE:runE P ops.toList (ops.toList.take pre) s R:=by
  refine zl8 ?_ ?_
  ·intro o ho
   obtain ⟨j,hj,rfl⟩:=List.mem_iff_getElem.1 ho
   refine h9 pre 0 _ hlex j _ (by omega) ?_
   rw [Nat.zero_add,← Array.getElem?_toList,List.getElem_take]
   exact List.getElem?_eq_getElem _
  ·have mono:∀ (l:List Oper) (s:St) {K K':St→Prop},(∀ s,K s→K' s)→runD P ops.toList l s K→runD P ops.toList l s K':=by
    intro l
    induction l with
    | nil=>exact fun s _ _ hk h=>hk s h
    | cons o l ih =>
     intro s K K' hk h
     simp only [runD,wr7] at h ⊢
     split
     ·rename_i hg
      rw [hg] at h
      rcases h with ⟨s',h1,h2⟩ | ⟨h1,h2⟩
      ·exact .inl ⟨s',h1,ih s' hk h2⟩
      ·refine .inr ⟨h1, ?_⟩
       unfold yk6 at *
       split
       ·rename_i c ho
        rw [ho] at h2
        dsimp only at h2
        split
        ·rename_i hc
         rw [hc] at h2
         obtain ⟨xs,r,s',e1,e2,e3,e4,e5,e6,e7⟩:=h2
         exact ⟨xs,r,s',e1,e2,e3,e4,e5,e6,ih s' hk e7⟩
        ·rename_i hc;rw [hc] at h2;exact h2
       ·rename_i hno;split at h2 <;> first | exact absurd (by assumption) (hno _) | exact h2
     ·rename_i hg;rw [hg] at h;obtain ⟨s',h1,h2⟩:=h;exact ⟨s',h1,ih s' hk h2⟩
     ·rename_i hg;rw [hg] at h;exact h
   exact mono _ s (fun s' h=>⟨s',Eqv.refl s',h⟩) h
 have hany:=vf7 (P:=P) hR (fun j hj=>by
   rw [Array.getD_eq_getD_getElem?,Array.getElem?_eq_none (by rw [un7];exact hj)];rfl) (ops.toList.take pre) 0 (Array.replicate ops.size false) s (fun j hj=>by
   rw [Nat.zero_add,List.getElem?_take,if_pos (by omega),Array.getElem?_toList]) (fun j oj hj hl=>by
   exfalso
   rcases Nat.lt_or_ge j ops.size with h' | h' <;> simp [h'] at hl) (by rw [hlen];exact hlex) hrunE
 rw [hlen] at hany
 have:=anyS_wp (n:=n) (c0:=c) (w0:=w) (Qw:=fun e a' w'=>∃ s' c',Q e s'∧SimSt P c' w' s' a'∧ExtK kf c w c' w') hF.1 (ops.size - pre) (R:=R) (L:=preL ops pre) ?_ pre _ s c w.drew a (xl9 c w) hs.drew hany
 ·have e1:pre+(ops.size - pre)=ops.size:=by omega
  rw [e1] at this
  exact this
 ·rintro s1 c1 w1 a1 he1 hs1 ⟨t,h1,h2⟩
  refine wr9 ?_ _ _ _ _ (seq_wp hF.1 (ops.size - pre) pre (preL ops pre) t c1 w1 a1 _ (by omega) hseq (hs1.eqv h1) h2)
  rintro e a2 w2 ⟨s2,c2,q,hs2,he2⟩
  cases e with
  | normal=>exact ⟨s2,c2,q,hs2,(he1.trans he2).toK hF.2.2⟩
  | _=>exact q.elim
end
end Go.AM
