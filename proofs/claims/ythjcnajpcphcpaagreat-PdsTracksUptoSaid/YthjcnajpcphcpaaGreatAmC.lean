/- The abstract machine: runs by computation, and the step to a given statement. -/
import Derived.Carry
import Derived.ChangeArms
import Derived.Deep.Slices
import Derived.ProofKit
import Derived.SizedLaws
import Derived.Test.YthjcnajpcphcpaaGreatAmB
set_option linter.unusedVariables false
set_option linter.unusedSimpArgs false
set_option linter.unusedSimpArgs false
set_option linter.unusedVariables false
namespace Go.AM
open Go.RowKit
def sw (i j k:Nat):Nat:=if k=i then j else if k=j then i else k
theorem sw_sw (i j k:Nat):sw i j (sw i j k)=k:=by unfold sw;split <;> split <;> (try split) <;> omega
theorem sw_lt {i j k N:Nat} (h:k < N) (hj:j < N) (hi:i < N):sw i j k < N:=by unfold sw;split <;> (try split) <;> omega
theorem sw_inj {i j a b:Nat} (h:sw i j a=sw i j b):a=b:=by have:=congrArg (sw i j) h;rwa [sw_sw,sw_sw] at this
mutual
def AV.sw (i j : Nat) : AV → AV
 | .loc k o=>.loc (Go.AM.sw i j k) o
 | .arr k o l c=>.arr (Go.AM.sw i j k) o l c
 | .mp k=>.mp (Go.AM.sw i j k)
 | .yld k=>.yld (Go.AM.sw i j k)
 | .fn f a b=>.fn f (swL i j a) (swL i j b)
 | .agg xs=>.agg (swL i j xs)
 | .tup xs=>.tup (swL i j xs)
 | x=>x
def AV.swL (i j : Nat) : List AV → List AV
 | []=>[]
 | x :: xs=>AV.sw i j x :: AV.swL i j xs
end
theorem wb8 (i j:Nat) (xs:List AV) (k:Nat):(AV.swL i j xs)[k]?=(xs[k]?).map (AV.sw i j):=by
 induction xs generalizing k with
 | nil=>simp [AV.swL]
 | cons x xs ih=>cases k <;> simp [AV.swL,ih]
theorem zg8 (i j:Nat) (xs:List AV):(AV.swL i j xs).length=xs.length:=by
 induction xs <;> simp_all [AV.swL]
mutual
theorem tl_sw (i j : Nat) : (x : AV) → x.tl = true → (x.sw i j).tl = true
 | .lst _ _ _,h=>h
 | .agg xs,h=>tlL_sw i j xs h
 | .tup xs,h=>tlL_sw i j xs h
 | .any,_=>rfl
 | .v _,_=>rfl
 | .ro _,_=>rfl
 | .loc _ _,_=>rfl
 | .arr _ _ _ _,_=>rfl
 | .fn _ _ _,_=>rfl
 | .mp _,_=>rfl
 | .yld _,_=>rfl
theorem tlL_sw (i j : Nat) : (xs : List AV) → AV.tlL xs = true → AV.tlL (AV.swL i j xs) = true
 | [],_=>rfl
 | x :: xs,h=>by
  simp only [AV.tlL,Bool.and_eq_true] at h
  simp only [AV.swL,AV.tlL,tl_sw i j x h.1,tlL_sw i j xs h.2,Bool.and_self]
end
def Ctx.sw (i j:Nat) (c:Ctx):Ctx:={ c with ob:=fun k=>c.ob (Go.AM.sw i j k) }
theorem Rep.sw {i j:Nat} {c:Ctx} {w:World} (hi:i < c.no) (hj:j < c.no) {x:AV} {u:Value} (h:Rep c w x u):Rep (c.sw i j) w (x.sw i j) u:=by
 have hp:∀ a,c.prot a→(c.sw i j).prot a:=fun a h=>h
 have ho:∀ k,(c.sw i j).ob (Go.AM.sw i j k)=c.ob k:=fun k=>by simp only [Ctx.sw,sw_sw]
 induction h with
 | lst u hn hcap hmax hs hsz hrf hz hnil hc hr _=>exact (Rep.lst u hn hcap hmax hs hsz hrf hz hnil hc hr).recast hp rfl
 | ro u hrf hc hr _=>exact (Rep.ro u hrf hc hr).recast hp rfl
 | @loc id off h=>rw [← ho id];exact .loc (sw_lt h hj hi)
 | @arr id off len cap h h1 h2=>rw [← ho id];exact .arr (sw_lt h hj hi) h1 h2
 | @mp id h=>rw [← ho id];exact .mp (sw_lt h hj hi)
 | @yld id h=>rw [← ho id];exact .yld (sw_lt h hj hi)
 | fn h1 h2 _ _ i1 i2 =>
  refine .fn (by rw [zg8];exact h1) (by rw [zg8];exact h2) (fun k y hk=>?_) (fun k y hk=>?_)
  ·rw [wb8] at hk
   obtain ⟨x,hx,rfl⟩:=Option.map_eq_some_iff.1 hk
   exact i1 k x hx
  ·rw [wb8] at hk
   obtain ⟨x,hx,rfl⟩:=Option.map_eq_some_iff.1 hk
   exact i2 k x hx
 | agg h _ ih =>
  refine .agg (by rw [zg8];exact h) fun k y hk=>?_
  rw [wb8] at hk
  obtain ⟨x,hx,rfl⟩:=Option.map_eq_some_iff.1 hk
  exact ih k x hx
 | tup h _ ih =>
  refine .tup (by rw [zg8];exact h) fun k y hk=>?_
  rw [wb8] at hk
  obtain ⟨x,hx,rfl⟩:=Option.map_eq_some_iff.1 hk
  exact ih k x hx
 | any u=>exact .any u
 | v x=>exact .v x
theorem Own.sw {P:Program} {i j:Nat} {c:Ctx} {w:World} {x:AV} {u:Value} (h:Own P c w x u):Own P (c.sw i j) w (x.sw i j) u:=by
 induction h with
 | @none x u h=>exact .none (tl_sw i j x h)
 | tip hT hs h=>exact .tip hT hs h
 | agg h ih =>
  refine .agg fun k y hk=>?_
  rw [wb8] at hk
  obtain ⟨x,hx,rfl⟩:=Option.map_eq_some_iff.1 hk
  exact ih k x hx
 | tup h ih =>
  refine .tup fun k y hk=>?_
  rw [wb8] at hk
  obtain ⟨x,hx,rfl⟩:=Option.map_eq_some_iff.1 hk
  exact ih k x hx
def AObj.sw (i j : Nat) : AObj → AObj
 | .cells ty cs=>.cells ty (AV.swL i j cs)
 | .froz ty cs=>.froz ty (AV.swL i j cs)
 | .map es=>.map (es.map fun p=>(p.1,p.2.sw i j))
 | .loop n fr ps as body st=>.loop n (fr.map fun p=>(p.1,p.2.sw i j)) ps as body st
 | .dead=>.dead
theorem getF_sw (i j:Nat) (fr:List (Nat × AV)) (k:Nat):getF (fr.map fun p=>(p.1,p.2.sw i j)) k=(getF fr k).map (AV.sw i j):=by
 induction fr with
 | nil=>rfl
 | cons p l ih =>
  obtain ⟨a,x⟩:=p
  simp only [List.map_cons,getF,ih]
  split <;> rfl
def swSt (i j:Nat) (s:St):St:=⟨s.n,s.fr.map fun p=>(p.1,p.2.sw i j),((s.h.set i (s.h.getD j .dead)).set j (s.h.getD i .dead)).map (AObj.sw i j)⟩
theorem swSt_get {i j:Nat} {s:St} (hi:i < s.h.length) (hj:j < s.h.length) (k:Nat):(swSt i j s).h[k]?=(s.h[sw i j k]?).map (AObj.sw i j):=by
 simp only [swSt,List.getElem?_map]
 congr 1
 rw [List.getElem?_set,List.getElem?_set]
 simp only [List.length_set]
 unfold sw
 by_cases h1:k=i
 ·subst h1
  by_cases h2:j=k
  ·subst h2;simp [hj]
  ·rw [if_neg h2,if_pos rfl,if_pos hi,if_pos rfl];simp [hj]
 ·by_cases h2:k=j
  ·subst h2;rw [if_pos rfl,if_pos hj,if_neg h1,if_pos rfl];simp [hi]
  ·rw [if_neg (fun e=>h2 e.symm),if_neg (fun e=>h1 e.symm),if_neg h1,if_neg h2]
section
variable {P : Program}
theorem xn9.sw {i j:Nat} {c:Ctx} {w:World} (hi:i < c.no) (hj:j < c.no) {k:Nat} {o:AObj} (h:xn9 P c w (Go.AM.sw i j k) o):xn9 P (c.sw i j) w k (o.sw i j):=by
 cases o with
 | cells ty cs =>
  obtain ⟨h1,h2,h3,cur,h4,h5,h6⟩:=h
  refine ⟨h1,h2,h3,cur,h4,by rw [zg8];exact h5,fun m y hm=>?_⟩
  rw [wb8] at hm
  obtain ⟨x,hx,rfl⟩:=Option.map_eq_some_iff.1 hm
  obtain ⟨k1,k2,k3⟩:=h6 m x hx
  exact ⟨k1.sw hi hj,k2.sw,k3⟩
 | froz ty cs =>
  intro m y hm
  rw [wb8] at hm
  obtain ⟨x,hx,rfl⟩:=Option.map_eq_some_iff.1 hm
  obtain ⟨u,k1,k2,k3,k4⟩:=h m x hx
  exact ⟨u,k1,k2,k3,k4.sw hi hj⟩
 | map es =>
  obtain ⟨h1,h2,h3,cur,clock,h4,h5,h6⟩:=h
  refine ⟨h1,h2,h3,cur,clock,h4,by rw [List.length_map];exact h5,fun m key y hm=>?_⟩
  rw [List.getElem?_map] at hm
  obtain ⟨x,hx,he⟩:=Option.map_eq_some_iff.1 hm
  cases he
  obtain ⟨e,k1,k2,k3⟩:=h6 m x.1 x.2 hx
  exact ⟨e,k1,k2,k3.sw hi hj⟩
 | loop n fr ps as body st =>
  obtain ⟨h1,h2,h3,r,h4,h5,h6,h7⟩:=h
  refine ⟨h1,h2,h3,r,h4,h5,fun m x hm=>?_,h7⟩
  rw [getF_sw] at hm
  obtain ⟨y,hy,rfl⟩:=Option.map_eq_some_iff.1 hm
  obtain ⟨k1,u,k2,k3⟩:=h6 m y hy
  exact ⟨tl_sw i j y k1,u,k2,k3.sw hi hj⟩
 | dead=>trivial
theorem SimSt.sw {i j:Nat} {c:Ctx} {w:World} {s:St} {a:Act} (hs:SimSt P c w s a) (hi:i < s.h.length) (hj:j < s.h.length):SimSt P (c.sw i j) w (swSt i j s) a:=by
 have hi':i < c.no:=by rw [hs.h.no];exact hi
 have hj':j < c.no:=by rw [hs.h.no];exact hj
 refine ⟨hs.n,hs.base,fun k x hk=>?_,⟨?_,fun k hk=>hs.h.lt _ (sw_lt hk hj' hi'),fun a b ha hb hne=>hs.h.inj _ _ (sw_lt ha hj' hi') (sw_lt hb hj' hi') fun e=>hne (sw_inj e),fun k o hk=>?_⟩,hs.dfr⟩
 ·simp only [swSt,getF_sw] at hk
  obtain ⟨y,hy,rfl⟩:=Option.map_eq_some_iff.1 hk
  obtain ⟨u,h1,h2,h3⟩:=hs.fr k y hy
  exact ⟨u,h1,h2.sw hi' hj',h3.sw⟩
 ·simp only [swSt,List.length_map,List.length_set];exact hs.h.no
 ·rw [swSt_get hi hj] at hk
  obtain ⟨o',ho,rfl⟩:=Option.map_eq_some_iff.1 hk
  exact (hs.h.obj _ _ ho).sw hi' hj'
def Seen (P:Program) (N:Nat) (s t:St):Prop:=∀ (c:Ctx) (w:World) (a:Act),SimSt P c w s a→∃ c':Ctx,(∀ (c0:Ctx) (w0:World),c0.no≤N→Ext c0 w0 c w→Ext c0 w0 c' w)∧SimSt P c' w t a
theorem Seen.sw {N i j:Nat} {s:St} (hi:N≤i) (hj:N≤j) (hi':i < s.h.length) (hj':j < s.h.length):Seen P N s (swSt i j s):=by
 intro c w a hs
 refine ⟨c.sw i j,fun c0 w0 hN he=>?_,hs.sw hi' hj'⟩
 exact { base := he.base, os := he.os, tape := he.tape, output := he.output, size := he.size, below := he.below, cell := he.cell, pm := he.pm, pmb := he.pmb, owb := he.owb, no := he.no, dfr := he.dfr
         ob:=fun id hid=>(by have h1:=he.ob id hid;simp only [Ctx.sw,Go.AM.sw];rw [if_neg (by omega),if_neg (by omega)];exact h1) }
def CalmAt (P:Program) (ops:List Oper) (o:Oper) (s:St) (e:Eff):Prop:=e.2.1=s.h∧e.2.2=none∧∀ h2,ER P ops o (setH s h2) (e.1,h2,none)
def stepR (P:Program) (ro:Bool) (ops:List Oper) (o:Oper) (s:St) (K:St→Prop):Prop:=∃ e s',ER P ops o s e∧app e o.dst s=some s'∧(ro=true→CalmAt P ops o s e)∧K s'
theorem stepR.E {ro:Bool} {ops:List Oper} {o:Oper} {s:St} {K:St→Prop} (h:stepR P ro ops o s K):xj8 P ops o s K:=let ⟨e,s',h1,h2,_,h4⟩:=h;⟨e,s',h1,h2,h4⟩
inductive Ord where
 | done
 | one (k:Nat) (t:Ord)
 | two (i j:Nat) (t1 t2:Ord)
end
end Go.AM
namespace Go.AM
open Go.RowKit
section
variable {P : Program} {top : Bool} {kf : Nat}
def ev1 (P:Program) (ops:List Oper) (o:Oper) (s:St):Option St :=
 match xq9 ops s o with
 | some true=>evOp P o s
 | some false=>s.put o.dst (.v undef)
 | none=>none
def kd8 (P : Program) (ops : List Oper) : List Oper → St → Option St
 | [],s=>some s
 | o :: l,s=>(ev1 P ops o s).bind (kd8 P ops l)
theorem xc6 {ops : List Oper} : ∀ {l : List Oper} {s s' : St} {K : St → Prop}, kd8 P ops l s = some s' → K s' → runA P ops l s K
 | [],s,s',K,h,hk=>by simp only [kd8,Option.some.injEq] at h;subst h;exact hk
 | o :: l,s,s',K,h,hk=>by
  simp only [kd8] at h
  obtain ⟨s1,h1,h2⟩:=Option.bind_eq_some_iff.1 h
  have rest:=xc6 (K:=K) h2 hk
  simp only [runA,yj8]
  unfold ev1 at h1
  split at h1
  ·rename_i hg;rw [hg];exact .inl ⟨s1,h1,rest⟩
  ·rename_i hg;rw [hg];exact ⟨s1,h1,rest⟩
  ·cases h1
theorem evRun_app {ops : List Oper} {l2 : List Oper} : ∀ {l1 : List Oper} {s s' : St} {K : St → Prop}, kd8 P ops l1 s = some s' → runA P ops l2 s' K → runA P ops (l1 ++ l2) s K
 | [],s,s',K,h,hk=>by simp only [kd8,Option.some.injEq] at h;subst h;exact hk
 | o :: l,s,s',K,h,hk=>by
  simp only [kd8] at h
  obtain ⟨s1,h1,h2⟩:=Option.bind_eq_some_iff.1 h
  have rest:=evRun_app (K:=K) h2 hk
  simp only [List.cons_append,runA,yj8]
  unfold ev1 at h1
  split at h1
  ·rename_i hg;rw [hg];exact .inl ⟨s1,h1,rest⟩
  ·rename_i hg;rw [hg];exact ⟨s1,h1,rest⟩
  ·cases h1
def uh9 (ks : List Nat) : List (Nat × AV) → List (Nat × AV)
 | []=>[]
 | (i,x) :: l=>if ks.contains i then (i,x) :: uh9 ks l else uh9 ks l
theorem getF_keepF {ks:List Nat} {fr:List (Nat × AV)} {i:Nat} {x:AV} (h:getF (uh9 ks fr) i=some x):getF fr i=some x:=by
 induction fr with
 | nil=>exact h
 | cons p l ih =>
  obtain ⟨j,y⟩:=p
  simp only [uh9] at h
  by_cases hj:i=j
  ·subst hj
   split at h
   ·simpa [getF] using h
   ·rename_i hk
    exfalso
    have:∀ l:List (Nat × AV),getF (uh9 ks l) i=some x→ks.contains i=true:=by
     intro l
     induction l with
     | nil=>intro h;simp [uh9,getF] at h
     | cons p l ih =>
      obtain ⟨j,y⟩:=p
      intro h
      simp only [uh9] at h
      split at h
      ·rename_i hk
       simp only [getF] at h
       split at h
       ·rename_i e;rw [e];exact hk
       ·exact ih h
      ·exact ih h
    exact hk (this l h)
  ·simp only [getF,if_neg hj]
   split at h
   ·simp only [getF,if_neg hj] at h;exact ih h
   ·exact ih h
theorem SimSt.keep {c:Ctx} {w:World} {s:St} {a:Act} (hs:SimSt P c w s a) (ks:List Nat):SimSt P c w { s with fr:=uh9 ks s.fr } a :=
 ⟨hs.n,hs.base,fun i x hx=>hs.fr i x (getF_keepF hx),hs.h,hs.dfr⟩
theorem W_keep {code:Code} {Q:Exit→St→Prop} {s:St} (ks:List Nat) (h:Wt top kf P code Q { s with fr:=uh9 ks s.fr }):Wt top kf P code Q s :=
 fun F n c w a hF hs=>h F n c w a hF (hs.keep ks)
theorem W_ev {id:Nat} {ops:Array Oper} {Q:Exit→St→Prop} {s s':St} (h:kd8 P ops.toList ops.toList s=some s') (hq:Q .normal s'):Wt top kf P (.region id ops false) Q s :=
 yv7 (xc6 h hq)
theorem jr9 {code:Code} {Q:Exit→St→Prop} {s:St} (ks:List Nat) (h:Wt top kf P code (fun e s=>Q e { s with fr:=uh9 ks s.fr }) s):Wt top kf P code Q s :=
 fun F n c w a hF hs=>wpIn_mono (h F n c w a hF hs) fun _ _ _ ⟨_,c',q,hs',he⟩=>⟨_,c',q,hs'.keep ks,he⟩
theorem zr9 {id:Nat} {ops:Array Oper} {Q:Exit→St→Prop} {s s':St} (ks:List Nat) (h:(kd8 P ops.toList ops.toList s).map (fun s=>⟨s.n,uh9 ks s.fr,s.h⟩)=some s') (hq:Q .normal s'):Wt top kf P (.region id ops false) Q s:=by
 obtain ⟨s1,h1,rfl⟩:=Option.map_eq_some_iff.1 h
 exact jr9 ks (W_ev h1 hq)
theorem yr9 {id:Nat} {ops:Array Oper} {y:Code} {Q:Exit→St→Prop} {s s':St} (ks:List Nat) (h:(kd8 P ops.toList ops.toList s).map (fun s=>⟨s.n,uh9 ks s.fr,s.h⟩)=some s') (hq:Wt top kf P y Q s'):Wt top kf P (.seq (.region id ops false) y) Q s :=
 yh9 (zr9 ks h hq)
end
end Go.AM
namespace Go.AM
open Go.RowKit
attribute [simp] kd8 ev1 xq9 evOp wn9 St.evT St.ev evAll evOpt evParts evOpts St.put numF putF getF absV nilTy uh9 jc8 qn7 wb9 AV.kill AV.killL AObj.kill
 xh9 uc8 yt8 kp8 xw7 evBox wr8 catK AV.cellsK AV.kone AV.koneL AV.weak AV.weakL AV.dp AV.dpL AV.norm AV.normL AV.rf AV.rfL AV.tl AV.tlL frzV frzL tipA binA intA unA cvA lenA yw6 uf9 idxA
 kb7 yr8 vt7 mapOf xs6 mfind mset Instr.sameNow zc9 kv9 AV.killS AV.killSL AV.toks AV.toksL AObj.toks wj8 AV.under AV.underL AObj.under xt9 yn9
 kj7 qb9 wk8 zj8 Fl.keepNil Fl.wk tokA exOk capA bnd zp8 qn8 zv8 site AV.cells AV.one ys6 resL resA zw9 inBlk nilSl qh7 nilFn min2A max2A yp6
@[simp] theorem oneCell_int (k:IntKind) (n:Int):Value.oneCell' (.int k n)=true:=rfl
@[simp] theorem oneCell_bool (b:Bool):Value.oneCell' (.bool b)=true:=rfl
@[simp] theorem oneCell_string (b:ByteArray):Value.oneCell' (.string b)=true:=rfl
theorem w64 {n:Int} (h1:-9223372036854775808≤n) (h2:n≤9223372036854775807):IntKind.i64.wrap n=n:=by
 simp [IntKind.wrap,IntKind.signed,IntKind.bits];omega
def byL (l:List UInt8):List AV:=l.map fun b=>.v (.int .u8 b.toNat)
@[simp] theorem wq9 (l:List UInt8):(byL l).length=l.length:=by simp [byL]
@[simp] theorem byL_nil:byL []=[]:=rfl
theorem xd9 (b:UInt8) (l:List UInt8):byL (b :: l)=.v (.int .u8 b.toNat) :: byL l:=rfl
theorem xp9 (l m:List UInt8):byL (l++m)=byL l++byL m:=by simp [byL]
@[simp] theorem byL_getElem (l:List UInt8) (i:Nat) (h:i < (byL l).length):(byL l)[i]=.v (.int .u8 (l[i]'(by simpa using h)).toNat):=by simp [byL]
theorem qs9 (l:List UInt8) (n:Nat):byL (l.take n)=(byL l).take n:=by simp [byL]
theorem zt8 (l:List UInt8) (n:Nat):byL (l.drop n)=(byL l).drop n:=by simp [byL]
end Go.AM
set_option linter.unusedSimpArgs false
namespace Go.AM
open Go.RowKit
abbrev KnF:=FuncId→List AV→Option AV
def KnOk (P:Program) (kn:KnF):Prop:=∀ f args r,kn f args=some r→Sound P f args r
abbrev kg9:=Bool→Code→St→Option (Exit × St)
section
variable (P : Program)
def callX (ex:kg9) (f:FuncId) (args:List AV) (h:List AObj):Option (AV × List AObj) :=
 match P.funcs[f]? with
 | some fn=>match fn.body with
  | some code => if (fn.name == "runtime.NumGoroutine") = false ∧ args.length ≤ fn.ntmps then
    match ex true code ⟨fn.ntmps,numF 0 args,h⟩ with
    | some (.normal,s) | some (.ret,s)=>if h.length≤s.h.length then (resA P s fn.results.toList).bind fun x =>
      if x.under h.length&&yn9 h.length (s.h.take h.length) then some (x,s.h.take h.length) else if x.under s.h.length&&yn9 s.h.length s.h then some (x,s.h) else none else none
    | _=>none
   else none
  | none=>none
 | none=>none
def yldX (ex:kg9) (id n:Nat) (fr:List (Nat × AV)) (as body:Code) (h:List AObj):Option (Bool × List AObj) :=
 match ex false as ⟨n,fr,h⟩ with
 | some (.normal,s1)=>match s1.h[id]? with
  | some (.loop n' fr' ps' as' body' .ready)=>match ex false body ⟨s1.n,s1.fr,s1.h.set id (.loop n' fr' ps' as' body' .busy)⟩ with
   | some (e,s2)=>match s2.h[id]?,km7 e with
    | some (.loop n2 fr2 ps2 as2 body2 .busy),some (st,b) =>
     let h2:=s2.h.set id (.loop n2 fr2 ps2 as2 body2 st)
     if h.length≤s2.h.length then
      if yn9 h.length (h2.take h.length) then some (b,h2.take h.length) else if yn9 s2.h.length h2 then some (b,h2) else none
     else none
    | _,_=>none
   | none=>none
  | _=>none
 | _=>none
def jp7 (ex:kg9) (f:FuncId) (args:List AV):Option AV :=
 match P.funcs[f]? with
 | some fn=>match fn.body with
  | some code => if (fn.name == "runtime.NumGoroutine") = false ∧ args.length ≤ fn.ntmps ∧ AV.rfL args = true ∧ AV.tlL args = true then
    match ex true code ⟨fn.ntmps,numF 0 args,[]⟩ with
    | some (.normal,s) | some (.ret,s)=>(resA P s fn.results.toList).bind fun x=>(frzV P 1 s.h x).bind fun (r,_)=>if r.rf then some r else none
    | _=>none
   else none
  | none=>none
 | none=>none
def opX (kn:KnF) (ex:kg9) (draw:Bool) (o:Oper) (s:St):Option St :=
 match o.op with
 | .call c=>match c.callee with
  | .value fo=>match zc9 s c.callee with
   | some (f,l1,l2)=>if c.args.size≤c.argTypes.size then
     (evOpts P s (c.args.toList.zip c.argTypes.toList)).bind fun xs =>
      if draw then
       (if AV.flatL xs&&AV.rfL (AV.dpL (l1++xs++l2)) then (match kn f (AV.dpL (l1++xs++l2)) with | some r=>some r | none=>jp7 P ex f (AV.nlL (l1++xs++l2))).bind fun r=>s.put o.dst (r.norm (site o)) else none)
      else match (prep P s (site o) l1 (c.args.toList.zip c.argTypes.toList) l2).bind fun x=>(kn f x.1).map fun r=>(r,x.2) with
      | some (r,h')=>(⟨s.n,s.fr,h'⟩:St).put o.dst (r.norm (site o))
      | none=>(callX P ex f (l1++xs++l2) s.h).bind fun (r,h')=>(⟨s.n,kv9 (AV.toksL (l1++xs++l2)++wj8 s.h) s.fr,h'⟩:St).put o.dst r
     else none
   | none=>if draw then none else match s.ev fo with
     | some (.yld id)=>match s.h[id]? with
      | some (.loop n fr ps as body .ready)=>(evOpts P s (c.args.toList.zip c.argTypes.toList)).bind fun xs =>
        if c.args.size≤c.argTypes.size∧xs.length=ps.length∧(ps.all fun p=>decide (p < n))=true then
         (yldX ex id n (setF fr ps (AV.weakL xs)) as body s.h).bind fun (b,h')=>(⟨s.n,kv9 (wj8 s.h) s.fr,h'⟩:St).put o.dst (.v (.bool b))
        else none
      | _=>none
     | _=>none
  | _=>if draw&&!qq9 P s o then none else evOp P o s
 | .convert _ _ _=>if draw then evOp P o s else match qk9 P s o with
  | some s'=>some s'
  | none=>evOp P o s
 | _=>evOp P o s
def opsX (kn : KnF) (ex : kg9) (draw : Bool) (ops : List Oper) : List Oper → St → Option St
 | [],s=>some s
 | o :: l,s=>(match xq9 ops s o with
  | some true=>match opX P kn ex draw o s with
   | some s'=>some s'
   | none=>if draw then none else if xq9 ops (frzO P s o) o=some true then opX P kn ex draw o (frzO P s o) else none
  | some false=>s.put o.dst (.v undef)
  | none=>none).bind (opsX kn ex draw ops l)
def afterX (s:St) (h:List AObj):Option (Exit × St) :=
 match h[s.h.length]? with
 | some (.loop _ _ _ _ _ .ready)=>some (.normal,⟨s.n,s.fr,h.set s.h.length .dead⟩)
 | some (.loop _ _ _ _ _ (.done .ret))=>some (.ret,⟨s.n,s.fr,h.set s.h.length .dead⟩)
 | some (.loop _ _ _ _ _ (.done (.exit id)))=>some (.exit id,⟨s.n,s.fr,h.set s.h.length .dead⟩)
 | some (.loop _ _ _ _ _ (.done (.goto id)))=>some (.goto id,⟨s.n,s.fr,h.set s.h.length .dead⟩)
 | _=>none
def exec (kn : KnF) : Nat → kg9
 | 0,_,_,_=>none
 | n+1,top,c,s=>match c with
  | .skip=>some (.normal,s)
  | .label _=>some (.normal,s)
  | .scope x=>match exec kn n top x s with
   | some (.goto _,_)=>none
   | r=>r
  | .ret=>some (.ret,s)
  | .exit id=>some (.exit id,s)
  | .seq x y=>match exec kn n top x s with
   | some (.normal,s1)=>exec kn n top y s1
   | r=>r
  | .cond o x y=>match s.ev o with
   | some (.v (.bool true))=>exec kn n top x s
   | some (.v (.bool false))=>exec kn n top y s
   | _=>none
  | .block id x=>match exec kn n top x s with
   | some (.exit i,s1)=>if i=id then some (.normal,s1) else some (.exit i,s1)
   | r=>r
  | .loop body=>match exec kn n top body s with
   | some (.normal,s1)=>exec kn n top (.loop body) s1
   | r=>r
  | .region _ ops draw=>if draw&&!yh6 ops then none else match opsX P kn (exec kn n) draw ops.toList ops.toList s with
   | some s'=>some (.normal,s')
   | none=>if draw then (opsX P kn (exec kn n) draw ops.toList ops.toList (ops.toList.foldl (frzO P) s)).map fun s'=>(.normal,s') else none
  | .rangeFunc g ps as body => if top then match zc9 s (.value g) with
    | some (f,l1,l2)=>(callX P (exec kn n) f (l1++[.yld s.h.length]++l2) (s.h++[.loop s.n (vh7 s.fr) ps.toList as body .ready])).bind fun (_,h') =>
      afterX ⟨s.n,kv9 (AV.toksL (l1++[.yld s.h.length]++l2)++wj8 (s.h++[.loop s.n (vh7 s.fr) ps.toList as body .ready])) s.fr,s.h⟩ h'
    | none=>none
   else none
  | _=>none
end
section
variable {P : Program}
theorem yd8 {ex : kg9} (hex : ∀ top kf c s e s' Q, ex top c s = some (e, s') → Q e s' → Wt top kf P c Q s) {f : FuncId} {args : List AV} {h h' : List AObj} {r : AV} (hc : callX P ex f args h = some (r, h')) :
  ww9 P f args h fun r1 h1=>r1=r∧h1=h':=by
 unfold callX at hc
 split at hc
 ·rename_i fn hf
  split at hc
  ·rename_i code hb
   split at hc
   ·rename_i hn
    have fin : ∀ e s, (e = Exit.normal ∨ e = .ret) → ex true code ⟨fn.ntmps, numF 0 args, h⟩ = some (e, s) →
      (if h.length≤s.h.length then (resA P s fn.results.toList).bind fun x =>
      if x.under h.length&&yn9 h.length (s.h.take h.length) then some (x,s.h.take h.length) else if x.under s.h.length&&yn9 s.h.length s.h then some (x,s.h) else none else none)=some (r,h') →
      ww9 P f args h fun r1 h1=>r1=r∧h1=h':=by
     intro e s he hr hc
     split at hc
     ·rename_i hle
      obtain ⟨x,hx,hc⟩:=Option.bind_eq_some_iff.1 hc
      split at hc
      ·rename_i hu
       simp only [Option.some.injEq,Prod.mk.injEq] at hc
       obtain ⟨rfl,rfl⟩:=hc
       simp only [Bool.and_eq_true] at hu
       exact zd9 hf hb hn.1 hn.2 rfl (hex _ _ _ _ _ _ _ hr ⟨he,x,x,s.h,h.length,hx,.inl ⟨rfl,rfl⟩,Nat.le_refl _,hle,hu.1,hu.2,rfl,rfl⟩)
      ·split at hc
       ·rename_i hu
        simp only [Option.some.injEq,Prod.mk.injEq] at hc
        obtain ⟨rfl,rfl⟩:=hc
        simp only [Bool.and_eq_true] at hu
        exact zd9 hf hb hn.1 hn.2 rfl (hex _ _ _ _ _ _ _ hr ⟨he,x,x,s.h,s.h.length,hx,.inl ⟨rfl,rfl⟩,hle,Nat.le_refl _,hu.1,by rw [List.take_length];exact hu.2,by rw [List.take_length];exact ⟨rfl,rfl⟩⟩)
       ·cases hc
     ·cases hc
    split at hc
    ·rename_i s hr;exact fin _ s (.inl rfl) hr hc
    ·rename_i s hr;exact fin _ s (.inr rfl) hr hc
    ·cases hc
   ·cases hc
  ·cases hc
 ·cases hc
theorem yb7 {ex : kg9} (hex : ∀ top kf c s e s' Q, ex top c s = some (e, s') → Q e s' → Wt top kf P c Q s) {id n : Nat} {fr : List (Nat × AV)} {as body : Code} {h h' : List AObj} {b : Bool} (hc : yldX ex id n fr as body h = some (b, h')) :
  roundA P id h.length n fr as body h fun b1 h1=>b1=b∧h1=h':=by
 unfold yldX at hc
 split at hc
 ·rename_i s1 h1
  split at hc
  ·rename_i n1 fr1 ps1 as1 body1 ho1
   split at hc
   ·rename_i e s2 h2
    split at hc
    ·rename_i n2 fr2 ps2 as2 body2 st b' ho2 hends
     dsimp only at hc
     split at hc
     ·rename_i hle
      refine hex _ _ _ _ _ _ _ h1 ⟨rfl,n1,fr1,ps1,as1,body1,ho1,?_⟩
      split at hc
      ·rename_i hu
       cases hc
       exact hex _ _ _ _ _ _ _ h2 ⟨n2,fr2,ps2,as2,body2,st,b,h.length,ho2,hends,Nat.le_refl _,hle,hu,rfl,rfl⟩
      ·split at hc
       ·rename_i hu
        cases hc
        refine hex _ _ _ _ _ _ _ h2 ⟨n2,fr2,ps2,as2,body2,st,b,s2.h.length,ho2,hends,hle,Nat.le_refl _,?_,rfl,?_⟩
        ·rw [List.take_of_length_le (by rw [List.length_set];exact Nat.le_refl _)];exact hu
        ·rw [List.take_of_length_le (by rw [List.length_set];exact Nat.le_refl _)]
       ·cases hc
     ·cases hc
    ·cases hc
   ·cases hc
  ·cases hc
 ·cases hc
theorem yf8 {ex:kg9} (hex:∀ top kf c s e s' Q,ex top c s=some (e,s')→Q e s'→Wt top kf P c Q s) {f:FuncId} {args:List AV} {r:AV} (hc:jp7 P ex f args=some r):Sound P f args r:=by
 unfold jp7 at hc
 split at hc
 ·rename_i fn hf
  split at hc
  ·rename_i code hb
   split at hc
   ·rename_i hn
    have fin : ∀ e s, (e = Exit.normal ∨ e = .ret) → ex true code ⟨fn.ntmps, numF 0 args, []⟩ = some (e, s) →
      ((resA P s fn.results.toList).bind fun x=>(frzV P 1 s.h x).bind fun (r,_)=>if r.rf then some r else none)=some r→Sound P f args r:=by
     intro e s he hr hc
     obtain ⟨x,hx,hc⟩:=Option.bind_eq_some_iff.1 hc
     obtain ⟨⟨y,h1⟩,hy,hc⟩:=Option.bind_eq_some_iff.1 hc
     dsimp only at hc
     split at hc
     ·rename_i hrf
      cases hc
      exact yc9 hf hb hn.1 hn.2.1 hn.2.2.1 hn.2.2.2 rfl (hex _ _ _ _ _ _ _ hr ⟨he,x,h1,hx,hy,hrf⟩)
     ·cases hc
    split at hc
    ·rename_i s hr;exact fin _ s (.inl rfl) hr hc
    ·rename_i s hr;exact fin _ s (.inr rfl) hr hc
    ·cases hc
   ·cases hc
  ·cases hc
 ·cases hc
theorem vf8 {kn : KnF} (hkn : KnOk P kn) {ex : kg9} (hex : ∀ top kf c s e s' Q, ex top c s = some (e, s') → Q e s' → Wt top kf P c Q s) {o : Oper} {s s' : St} {K : St → Prop} (h : opX P kn ex false o s = some s') (hk : K s') :
  step5 P o s K:=by
 unfold opX at h
 split at h
 ·rename_i c ho
  split at h
  ·rename_i fo hfo
   split at h
   ·rename_i f l1 l2 hcal
    split at h
    ·rename_i hsz
     obtain ⟨xs,hxs,h⟩:=Option.bind_eq_some_iff.1 h
     simp only [Bool.false_eq_true,if_false] at h
     split at h
     ·rename_i r h' hpr
      obtain ⟨x,hx,hpr⟩:=Option.bind_eq_some_iff.1 hpr
      obtain ⟨r',hr',he⟩:=Option.map_eq_some_iff.1 hpr
      cases he
      refine .inr (.inl ?_)
      unfold callA
      rw [ho]
      dsimp only
      rw [hcal]
      unfold prep at hx
      obtain ⟨xs,hxs,hx⟩:=Option.bind_eq_some_iff.1 hx
      obtain ⟨⟨ys,h1⟩,hys,hx⟩:=Option.bind_eq_some_iff.1 hx
      dsimp only at hx
      split at hx
      ·cases hx
       exact ⟨ys,_,r,s',by rw [hxs];exact hys,hsz,(hkn _ _ _ hr').ofDp,h,hk⟩
      ·cases hx
     obtain ⟨⟨r,h'⟩,hr,h⟩:=Option.bind_eq_some_iff.1 h
     refine .inr (.inr (.inl ?_))
     unfold callO
     rw [ho]
     dsimp only
     rw [hcal]
     refine ⟨xs,hxs,hsz,(yd8 hex hr).mono ?_⟩
     rintro r1 h1 ⟨rfl,rfl⟩
     exact ⟨s',h,hk⟩
    ·cases h
   ·simp only [Bool.false_eq_true, if_false] at h
    split at h
    ·rename_i id hev
     split at h
     ·rename_i n fr ps as body hob
      obtain ⟨xs,hxs,h⟩:=Option.bind_eq_some_iff.1 h
      split at h
      ·rename_i hcond
       obtain ⟨⟨b,h'⟩,hy,h⟩:=Option.bind_eq_some_iff.1 h
       refine .inr (.inr (.inr (.inl ?_)))
       unfold wg7
       rw [ho]
       dsimp only
       rw [hfo]
       refine ⟨id,n,fr,ps,as,body,xs,hev,hob,hxs,hcond.1,hcond.2.1,hcond.2.2,ql8 ?_ (yb7 hex hy)⟩
       rintro b1 h1 ⟨rfl,rfl⟩
       exact ⟨s',h,hk⟩
      ·cases h
     ·cases h
    ·cases h
  ·simp only [Bool.false_and,Bool.false_eq_true,if_false] at h
   exact .inl ⟨s',h,hk⟩
 ·rename_i ho
  simp only [Bool.false_eq_true,if_false] at h
  split at h
  ·rename_i s1 h1
   cases h
   refine .inr (.inr (.inr (.inr ?_)))
   unfold qw8
   rw [ho]
   exact ⟨_,h1,hk⟩
  ·exact .inl ⟨s',h,hk⟩
 ·exact .inl ⟨s',h,hk⟩
theorem qd7 {kn : KnF} (hkn : KnOk P kn) {ex : kg9} (hex : ∀ top kf c s e s' Q, ex top c s = some (e, s') → Q e s' → Wt top kf P c Q s) {o : Oper} {s s' : St} {K : St → Prop} (h : opX P kn ex true o s = some s') (hk : K s') :
  (∃ s',(if qq9 P s o then evOp P o s else none)=some s'∧K s')∨(dcls o=3∧yk6 P o s K):=by
 unfold opX at h
 split at h
 ·rename_i c ho
  split at h
  ·rename_i fo hfo
   split at h
   ·rename_i f l1 l2 hcal
    split at h
    ·rename_i hsz
     obtain ⟨xs,hxs,h⟩:=Option.bind_eq_some_iff.1 h
     simp only [if_true] at h
     split at h
     ·rename_i hfl
      obtain ⟨r,hr,h⟩:=Option.bind_eq_some_iff.1 h
      simp only [Bool.and_eq_true] at hfl
      refine .inr ⟨by simp [dcls,ho,hfo],?_⟩
      unfold yk6
      rw [ho]
      dsimp only
      rw [hcal]
      refine ⟨xs,r,s',hxs,hfl.1,hfl.2,hsz,?_,h,hk⟩
      split at hr
      ·rename_i r' hr'
       cases hr
       exact (hkn _ _ _ hr').ofDp
      ·exact yf8 hex hr
     ·cases h
    ·cases h
   ·simp only [if_true] at h;cases h
  ·simp only [Bool.true_and, Bool.not_eq_true'] at h
   split at h
   ·cases h
   ·rename_i hn
    exact .inl ⟨s',by rw [if_pos (by simpa using hn)];exact h,hk⟩
 ·rename_i ho
  simp only [if_true] at h
  refine .inl ⟨s',?_,hk⟩
  have:qq9 P s o=true:=by unfold qq9;rw [ho]
  rw [if_pos this];exact h
 ·rename_i hno _
  refine .inl ⟨s',?_,hk⟩
  have:qq9 P s o=true:=by
   unfold qq9
   split
   ·rename_i c ho;exact absurd ho (hno c)
   ·rfl
  rw [if_pos this];exact h
theorem vd8 {kn : KnF} (hkn : KnOk P kn) {ex : kg9} (hex : ∀ top kf c s e s' Q, ex top c s = some (e, s') → Q e s' → Wt top kf P c Q s) {ops : List Oper} : ∀ {l : List Oper} {s s' : St} {K : St → Prop}, opsX P kn ex false ops l s = some s' → K s' → runA P ops l s K
 | [],s,s',K,h,hk=>by simp only [opsX,Option.some.injEq] at h;subst h;exact hk
 | o :: l,s,s',K,h,hk=>by
  simp only [opsX] at h
  obtain ⟨s1,h1,h2⟩:=Option.bind_eq_some_iff.1 h
  have rest:=vd8 hkn hex (K:=K) h2 hk
  simp only [runA,yj8]
  cases hg:xq9 ops s o with
  | none=>rw [hg] at h1;cases h1
  | some b =>
   rw [hg] at h1
   cases b with
   | true =>
    dsimp only at h1
    split at h1
    ·rename_i s' ho
     cases h1
     rcases vf8 (K:=fun s'=>runA P ops l s' K) hkn hex ho rest with h | h | h | h | h
     ·exact .inl h
     ·exact .inr (.inl h)
     ·exact .inr (.inr (.inl h))
     ·exact .inr (.inr (.inr (.inl h)))
     ·exact .inr (.inr (.inr (.inr (.inl h))))
    ·simp only [Bool.false_eq_true, if_false] at h1
     split at h1
     ·rename_i hg2
      refine .inr (.inr (.inr (.inr (.inr ((uw6 o).mono ?_)))))
      rintro _ rfl
      exact ⟨hg2,vf8 (K:=fun s'=>runA P ops l s' K) hkn hex h1 rest⟩
     ·cases h1
   | false=>exact ⟨s1,h1,rest⟩
theorem jc9 {kn : KnF} (hkn : KnOk P kn) {ex : kg9} (hex : ∀ top kf c s e s' Q, ex top c s = some (e, s') → Q e s' → Wt top kf P c Q s) {ops : List Oper} : ∀ {l : List Oper} {s s' : St} {K : St → Prop}, opsX P kn ex true ops l s = some s' → K s' → runD P ops l s K
 | [],s,s',K,h,hk=>by simp only [opsX,Option.some.injEq] at h;subst h;exact hk
 | o :: l,s,s',K,h,hk=>by
  simp only [opsX] at h
  obtain ⟨s1,h1,h2⟩:=Option.bind_eq_some_iff.1 h
  have rest:=jc9 hkn hex (K:=K) h2 hk
  simp only [runD,wr7]
  cases hg:xq9 ops s o with
  | none=>rw [hg] at h1;cases h1
  | some b =>
   rw [hg] at h1
   cases b with
   | true =>
    dsimp only at h1
    split at h1
    ·rename_i s' ho
     cases h1
     exact qd7 (K:=fun s'=>runD P ops l s' K) hkn hex ho rest
    ·simp at h1
   | false=>exact ⟨s1,h1,rest⟩
theorem zn7 {kn:KnF} (hkn:KnOk P kn) (hm:P.follows .mixedOrders=true) (n:Nat):∀ (top:Bool) (kf:Nat) (c:Code) (s:St) (e:Exit) (s':St) (Q:Exit→St→Prop),exec P kn n top c s=some (e,s')→Q e s'→Wt top kf P c Q s:=by
 induction n using Nat.strongRecOn with
 | _ n ihs =>
 intro top kf c s e s' Q h hq
 cases n with
 | zero=>cases h
 | succ n =>
  have ih:=ihs n (Nat.lt_succ_self n)
  cases c
  case loop body =>
   refine zj9 (fun k s=>k≤n+1∧exec P kn k top (.loop body) s=some (e,s')) (k:=n+1) ⟨Nat.le_refl _,h⟩ ?_
   rintro k s2 ⟨hk,h2⟩
   cases k with
   | zero=>cases h2
   | succ k =>
    have ihk:=ihs k (by omega)
    simp only [exec] at h2
    split at h2
    ·rename_i s1 h1
     exact ihk top kf body s2 _ _ _ h1 ⟨k,Nat.lt_succ_self k,by omega,h2⟩
    ·rename_i hne
     refine ihk top kf body s2 _ _ _ h2 ?_
     cases e with
     | normal=>exact absurd h2 (hne s')
     | _=>exact hq
  all_goals simp only [exec] at h
  case skip=>cases h;exact yg9 hq
  case label l=>cases h;exact W_label hq
  case scope x =>
   refine W_scope ?_
   split at h
   ·cases h
   ·rename_i hne
    refine ih top kf x s _ _ _ h ?_
    cases e with
    | goto l=>exact absurd h (hne l s')
    | _=>exact hq
  case ret=>cases h;exact yj9 hq
  case exit id=>cases h;exact zs9 hq
  case seq x y =>
   refine yh9 ?_
   split at h
   ·rename_i s1 h1
    exact ih top kf x s _ _ _ h1 (ih top kf y s1 _ _ _ h hq)
   ·rename_i hne
    refine ih top kf x s _ _ _ h ?_
    cases e with
    | normal=>exact absurd h (hne s')
    | _=>exact hq
  case cond o x y =>
   split at h
   ·rename_i ho;exact yt9 ho (fun _=>ih top kf x s _ _ _ h hq) (fun h=>(by cases h))
   ·rename_i ho;exact yt9 ho (fun h=>(by cases h)) (fun _=>ih top kf y s _ _ _ h hq)
   ·cases h
  case block id x =>
   refine yl9 ?_
   split at h
   ·rename_i i s1 h1
    refine ih top kf x s _ _ _ h1 ?_
    simp only [inBlk]
    split at h
    ·rename_i hi;cases h;rw [if_pos hi];exact hq
    ·rename_i hi;cases h;rw [if_neg hi];exact hq
   ·rename_i hne
    refine ih top kf x s _ _ _ h ?_
    cases e with
    | exit i=>exact absurd h (hne i s')
    | _=>exact hq
  case region id ops draw =>
   split at h
   ·cases h
   ·rename_i hd
    split at h
    ·rename_i s1 h1
     cases h
     cases draw with
     | false=>exact yv7 (vd8 hkn ih h1 hq)
     | true=>exact kh8 hm (by simpa using hd) (jc9 hkn ih h1 hq)
    ·split at h
     ·rename_i hdr
      obtain ⟨s1,h1,h2⟩:=Option.map_eq_some_iff.1 h
      cases h2
      subst hdr
      refine W_pre ((ub7 ops.toList s).mono ?_)
      rintro _ rfl
      exact kh8 hm (by simpa using hd) (jc9 hkn ih h1 hq)
     ·cases h
  case rangeFunc g ps as body =>
   split at h
   ·rename_i htop
    subst htop
    split at h
    ·rename_i f l1 l2 hcal
     obtain ⟨⟨r,h'⟩,hx,h⟩:=Option.bind_eq_some_iff.1 h
     refine ws8 hcal (yd8 ih hx) ?_
     rintro _ _ ⟨rfl,rfl⟩
     dsimp only at h
     unfold afterX at h
     split at h <;> cases h <;> (rename_i ho;exact ⟨_,_,_,_,_,_,ho,hq⟩)
    ·cases h
   ·cases h
  all_goals cases h
theorem xl8 {kn:KnF} (hkn:KnOk P kn) (hm:P.follows .mixedOrders=true) (n:Nat) {f:FuncId} {args:List AV} {r:AV} (h:jp7 P (exec P kn n) f args=some r):Sound P f args r:=yf8 (zn7 hkn hm n) h
def kn0:KnF:=fun _ _=>none
theorem kn0_ok:KnOk P kn0:=fun _ _ _ h=>by cases h
theorem zt7 (hm:P.follows .mixedOrders=true) (n:Nat) {f:FuncId} {args:List AV} {r:AV} (h:jp7 P (exec P kn0 n) f args=some r):Sound P f args r:=xl8 kn0_ok hm n h
end
end Go.AM
set_option linter.unusedSimpArgs false
namespace Go.AM
open Go.RowKit Go.ChangeShapes Go.WideShapes Go.ChangeAt Go.Deep
def isSt (P:Program) (t:TypeId):Bool :=
 match P.underlying t with
 | some (.struct _)=>true
 | _=>false
def tiles (P : Program) : Nat → List Field → Option Nat
 | off,[]=>some off
 | off,f :: fs=>if f.offset=off then tiles P (off+P.cellsOf f.type) fs else none
def qs8 (P : Program) : Nat → TypeId → Bool
 | 0,_=>false
 | n+1,t=>match P.underlying t with
  | some .bool=>true
  | some (.int _)=>true
  | some .string=>true
  | some (.slice e)=>qs8 P n e&&decide (0 < P.cellsOf e)&&(isSt P e || P.cellsOf e == 1)
  | some (.struct fs)=>(fs.toList.all fun f=>qs8 P n f.type)&&tiles P 0 fs.toList == some (P.cellsOf t)
  | _=>false
def TyC (P : Program) : Nat → TypeId → List AV → Prop
 | 0,_,_=>False
 | n+1,t,xs=>match P.underlying t with
  | some .bool=>∃ b,xs=[.v (.bool b)]
  | some (.int k)=>∃ m,xs=[.v (.int k m)]∧k.min≤m∧m≤k.max
  | some .string=>∃ s:ByteArray,xs=[.v (.string s)]∧s.size≤maxLen
  | some (.slice e) => ∃ o l, xs = [.lst o (P.cellsOf e) l] ∧ (l.length ≤ maxLen ∧ l.length * P.bytesOf e ≤ 140737488351232) ∧ (o = .nil ∨ o = .any) ∧ (o = .nil → l = []) ∧
    ∀ x∈l,(isSt P e=true∧∃ ys,x=.agg ys∧TyC P n e ys)∨(isSt P e=false∧TyC P n e [x])
  | some (.struct fs)=>xs.length=P.cellsOf t∧∀ f∈fs.toList,TyC P n f.type ((xs.drop f.offset).take (P.cellsOf f.type))
  | _=>False
def TyV (P:Program) (n:Nat) (t:TypeId) (x:AV):Prop:=(isSt P t=true∧∃ ys,x=.agg ys∧TyC P n t ys)∨(isSt P t=false∧TyC P n t [x])
def TyAll (P : Program) (n : Nat) : List TypeId → List AV → Prop
 | [],[]=>True
 | t :: ts,x :: xs=>TyV P n t x∧TyAll P n ts xs
 | _,_=>False
def ctxOf (W:World):Ctx where
 base b:=W.heap.size≤b
 pm b:=match W.heap[b]? with
  | some (.cells cs _ _)=>cs.size
  | _=>0
 ow _:=0
 no:=0
 ob _:=0
section
variable {H : Type} {enc : TypeId × Value → H} {P : Program} {W : World}
theorem prot_ctxOf {a:Addr} {u:Value} (h:W.cell? a=some u):(ctxOf W).prot a:=by
 unfold World.cell? at h
 unfold Ctx.prot ctxOf
 dsimp only
 cases hb:W.heap[a.block]? with
 | none=>simp [hb] at h
 | some o =>
  cases o with
  | cells cs t fr =>
   simp only [hb] at h ⊢
   split at h
   ·cases h
   ·exact (Array.getElem?_eq_some_iff.1 h).1
  | _=>simp [hb] at h
structure LRep (W:World) (xs:List AV) (cs:List Value):Prop where
 len:xs.length=cs.length
 rep:∀ (j:Nat) (y:AV),xs[j]?=some y→∃ u:Value,cs[j]?=some u∧Rep (ctxOf W) W y u∧u.oneCell'=true
 rf:AV.rfL xs=true
 tl:AV.tlL xs=true
 one:∀ y∈xs,y.cells=[y]∧y.one=true
theorem rfL_mk {xs:List AV} (h:∀ x∈xs,x.rf=true):AV.rfL xs=true:=qc8.2 h
theorem vm7 {xs:List AV}:AV.tlL xs=true ↔ ∀ x∈xs,x.tl=true:=by
 induction xs with
 | nil=>simp [AV.tlL]
 | cons x xs ih=>simp [AV.tlL,ih]
theorem cells_get {base:Nat} {a:Addr} {n:Nat} {cs:List Value} (h:W.cells? base a n=some cs):cs.length=n∧∀ k,k < n→∃ u,cs[k]?=some u∧W.cell? (a.add k)=some u:=by
 unfold World.cells? at h
 split at h
 ·have hl:=mapM_some_length h
  simp at hl
  refine ⟨hl,fun k hk=>?_⟩
  have:=mapM_some_get h k k (by simp [hk])
  have hk':k < cs.length:=by omega
  exact ⟨cs[k],by simp [hk'],by rw [this];simp [hk']⟩
 ·cases h
theorem LRep.append {xs ys:List AV} {cs ds:List Value} (h:LRep W xs cs) (k:LRep W ys ds):LRep W (xs++ys) (cs++ds) where
 len:=by simp [h.len,k.len]
 rep j y hj:=by
  rcases Nat.lt_or_ge j xs.length with hlt | hge
  ·rw [List.getElem?_append_left hlt] at hj
   obtain ⟨u,h1,h2⟩:=h.rep j y hj
   exact ⟨u,by rw [List.getElem?_append_left (by rw [← h.len];exact hlt)];exact h1,h2⟩
  ·rw [List.getElem?_append_right hge] at hj
   obtain ⟨u,h1,h2⟩:=k.rep _ y hj
   exact ⟨u,by rw [List.getElem?_append_right (by rw [← h.len];exact hge),← h.len];exact h1,h2⟩
 rf:=by rw [zs7,h.rf,k.rf];rfl
 tl:=vm7.2 fun x hx=>by
  rcases List.mem_append.1 hx with h1 | h1
  ·exact vm7.1 h.tl x h1
  ·exact vm7.1 k.tl x h1
 one y hy:=by
  rcases List.mem_append.1 hy with h1 | h1
  ·exact h.one y h1
  ·exact k.one y h1
theorem tiles_le : ∀ (fs : List Field) (off N : Nat), tiles P off fs = some N → off ≤ N
 | [],off,N,h=>by simp [tiles] at h;omega
 | f :: fs,off,N,h=>by
  simp only [tiles] at h
  split at h
  ·have:=tiles_le fs _ _ h;omega
  ·cases h
theorem qr8 {e : TypeId} : ∀ {l : List (DataW H)} {d : DataW H}, d ∈ l → ∀ n ∈ d.weights P e, n ∈ DataW.weightsAll P e l
 | [],_,h=>by cases h
 | x :: l,d,h=>fun n hn=>by
  rcases List.mem_cons.1 h with rfl | h
  ·exact List.mem_append_left _ hn
  ·exact List.mem_append_right _ (qr8 h n hn)
theorem kc8 (hl : laidOutB P = true) {W' : World} (hb : Below W.heap.size W W') : ∀ {ts : List TypeId} {vs : List Value} {ds : List (DataW H)} {ps : List MemPlace}, (∀ t ∈ ts, P.readableRec t = true ∧ t < P.types.size) →
  DataW.TrodAll enc P W 0 (fun _=>true) true ts vs ds ps→(∀ x∈ps,x.block < W.heap.size)→DataW.TrodAll enc P W' 0 (fun b=>decide (b < W.heap.size)) true ts vs ds ps
 | [],[],[],_,_,h,_=>h
 | [],[],_ :: _,_,_,h,_=>h.elim
 | [],_ :: _,_,_,_,h,_=>by cases ‹List (DataW H)› <;> exact h.elim
 | _ :: _,[],_,_,_,h,_=>by cases ‹List (DataW H)› <;> exact h.elim
 | _ :: _,_ :: _,[],_,_,h,_=>h.elim
 | t :: ts,v :: vs,d :: ds,ps,hp,h,hlt=>by
  obtain ⟨p,q,h1,h2,rfl⟩:=h
  exact ⟨p, q, Below.trod hl (hp t List.mem_cons_self).1 (hp t List.mem_cons_self).2 h1 hb (fun x hx => hlt x (List.mem_append_left _ hx)),
   kc8 hl hb (fun t ht=>hp t (List.mem_cons_of_mem _ ht)) h2 (fun x hx=>hlt x (List.mem_append_right _ hx)),rfl⟩
theorem good_wide:Good Fence.wide:=⟨fun _=>trivial,rfl,rfl⟩
theorem ty_bytes {n : Nat} {t e : TypeId} {x : AV} (hu : P.underlying t = some (.slice e)) (he : P.underlying e = some (.int .u8)) (hc : P.cellsOf e = 1) (h : TyV P (n + 2) t x) :
  ∃ (o:Fl) (l:List UInt8),x=.lst o 1 (l.map fun b:UInt8=>AV.v (.int .u8 b.toNat))∧l.length≤maxLen∧l.length * P.bytesOf e≤140737488351232:=by
 have hs:isSt P t=false:=by simp [isSt,hu]
 have hse:isSt P e=false:=by simp [isSt,he]
 rcases h with ⟨h1,_⟩ | ⟨_,h⟩
 ·rw [hs] at h1;cases h1
 ·simp only [TyC, hu] at h
  obtain ⟨o,l,hl,hmax,_,_,hx⟩:=h
  simp only [List.cons.injEq,and_true] at hl
  subst hl
  rw [hc]
  have:∀ l:List AV,(∀ x∈l,(isSt P e=true∧∃ ys,x=.agg ys∧TyC P (n+1) e ys)∨(isSt P e=false∧TyC P (n+1) e [x]))→∃ m:List UInt8,l=m.map fun b:UInt8=>AV.v (.int .u8 b.toNat):=by
   intro l
   induction l with
   | nil=>exact fun _=>⟨[],rfl⟩
   | cons y l ih =>
    intro hx
    obtain ⟨m,rfl⟩:=ih fun x hx'=>hx x (List.mem_cons_of_mem _ hx')
    rcases hx y List.mem_cons_self with ⟨h1,_⟩ | ⟨_,h1⟩
    ·rw [hse] at h1;cases h1
    ·simp only [TyC,he] at h1
     obtain ⟨k,hk,h2,h3⟩:=h1
     simp only [List.cons.injEq,and_true] at hk
     subst hk
     simp [IntKind.min,IntKind.max,IntKind.signed,IntKind.bits] at h2 h3
     refine ⟨UInt8.ofNat k.toNat :: m,?_⟩
     simp only [List.map_cons,List.cons.injEq,AV.v.injEq,Value.int.injEq,true_and,and_true]
     rw [UInt8.toNat_ofNat'];omega
  obtain ⟨m,rfl⟩:=this l hx
  exact ⟨o,m,rfl,by simpa using hmax.1,by simpa using hmax.2⟩
end
end Go.AM
set_option linter.unusedSimpArgs false
namespace Go.AM
open Go.RowKit
attribute [simp] yp7 ev1D qq9 AV.flat AV.flatL
section
variable {P : Program} {top : Bool} {kf : Nat}
def zf9 (ks:List Nat) (s:St):St:=⟨s.n,uh9 ks s.fr,s.h⟩
@[simp] theorem keepS_mk (ks:List Nat) (n:Nat) (fr:List (Nat × AV)) (h:List AObj):zf9 ks ⟨n,fr,h⟩=⟨n,uh9 ks fr,h⟩:=rfl
theorem jp9 {o:Oper} {s:St} {K K':St→Prop} (hk:∀ s,K s→K' s) (h:step5 P o s K):step5 P o s K':=by
 rcases h with ⟨s',h1,h2⟩ | h | h | h | h
 ·exact .inl ⟨s',h1,hk _ h2⟩
 ·refine .inr (.inl ?_)
  unfold callA at *
  split
  ·rename_i c ho
   rw [ho] at h
   dsimp only at h
   split
   ·rename_i hc
    rw [hc] at h
    obtain ⟨a,b,c,d,e1,e2,e3,e4,e5⟩:=h
    exact ⟨a,b,c,d,e1,e2,e3,e4,hk _ e5⟩
   ·rename_i hc;rw [hc] at h;exact h
  ·rename_i hno;split at h <;> first | exact absurd (by assumption) (hno _) | exact h
 ·refine .inr (.inr (.inl ?_))
  unfold callO at *
  split
  ·rename_i c ho
   rw [ho] at h
   dsimp only at h
   split
   ·rename_i hc
    rw [hc] at h
    obtain ⟨a,e1,e2,e3⟩:=h
    exact ⟨a,e1,e2,e3.mono fun _ _ ⟨s1,k1,k2⟩=>⟨s1,k1,hk _ k2⟩⟩
   ·rename_i hc;rw [hc] at h;exact h
  ·rename_i hno;split at h <;> first | exact absurd (by assumption) (hno _) | exact h
 ·exact .inr (.inr (.inr (.inl (callY_mono hk h))))
 ·exact .inr (.inr (.inr (.inr (callB_mono hk h))))
theorem jl9 {ops:List Oper} {o:Oper} {s:St} {K:St→Prop} (hg:xq9 ops s o=some true) (h:step5 P o s K):yj8 P ops o s K:=by
 unfold yj8
 rw [hg]
 rcases h with h | h | h | h | h
 ·exact .inl h
 ·exact .inr (.inl h)
 ·exact .inr (.inr (.inl h))
 ·exact .inr (.inr (.inr (.inl h)))
 ·exact .inr (.inr (.inr (.inr (.inl h))))
theorem zr6 {ops:List Oper} {o:Oper} {s:St} {K K':St→Prop} (hk:∀ s,K s→K' s) (h:yj8 P ops o s K):yj8 P ops o s K':=by
 by_cases hg:xq9 ops s o=some true
 ·unfold yj8 at h
  rw [hg] at h
  rcases h with h | h | h | h | h | h
  ·exact jl9 hg (jp9 hk (.inl h))
  ·exact jl9 hg (jp9 hk (.inr (.inl h)))
  ·exact jl9 hg (jp9 hk (.inr (.inr (.inl h))))
  ·exact jl9 hg (jp9 hk (.inr (.inr (.inr (.inl h)))))
  ·exact jl9 hg (jp9 hk (.inr (.inr (.inr (.inr h)))))
  ·unfold yj8
   rw [hg]
   exact .inr (.inr (.inr (.inr (.inr (h.mono fun s1 ⟨h1,h2⟩=>⟨h1,jp9 hk h2⟩)))))
 ·unfold yj8 at *
  split
  ·rename_i hg2;exact absurd hg2 hg
  ·rename_i hg2;rw [hg2] at h;obtain ⟨s',h1,h2⟩:=h;exact ⟨s',h1,hk _ h2⟩
  ·rename_i hg2;rw [hg2] at h;exact h
theorem uh7 {ops : List Oper} : ∀ {l : List Oper} {s : St} {K K' : St → Prop}, (∀ s, K s → K' s) → runA P ops l s K → runA P ops l s K'
 | [],_,_,_,hk,h=>hk _ h
 | _ :: _,_,_,_,hk,h=>zr6 (fun _ h=>uh7 hk h) h
theorem stepD_mono {ops:List Oper} {o:Oper} {s:St} {K K':St→Prop} (hk:∀ s,K s→K' s) (h:wr7 P ops o s K):wr7 P ops o s K':=by
 unfold wr7 at *
 split
 ·rename_i hg
  rw [hg] at h
  rcases h with ⟨s',h1,h2⟩ | ⟨h3,h⟩
  ·exact .inl ⟨s',h1,hk _ h2⟩
  ·refine .inr ⟨h3, ?_⟩
   unfold yk6 at *
   split
   ·rename_i c ho
    rw [ho] at h
    dsimp only at h
    split
    ·rename_i hc
     rw [hc] at h
     obtain ⟨a,b,c,e1,e2,e3,e4,e5,e6,e7⟩:=h
     exact ⟨a,b,c,e1,e2,e3,e4,e5,e6,hk _ e7⟩
    ·rename_i hc;rw [hc] at h;exact h
   ·rename_i hno;split at h <;> first | exact absurd (by assumption) (hno _) | exact h
 ·rename_i hg;rw [hg] at h;obtain ⟨s',h1,h2⟩:=h;exact ⟨s',h1,hk _ h2⟩
 ·rename_i hg;rw [hg] at h;exact h
theorem kn8 {ops : List Oper} : ∀ {l : List Oper} {s : St} {K K' : St → Prop}, (∀ s, K s → K' s) → runD P ops l s K → runD P ops l s K'
 | [],_,_,_,hk,h=>hk _ h
 | _ :: _,_,_,_,hk,h=>stepD_mono (fun _ h=>kn8 hk h) h
theorem ym9 {code:Code} {Q:Exit→St→Prop} {s:St} (ks:List Nat) (h:Wt top kf P code Q (zf9 ks s)):Wt top kf P code Q s:=W_keep ks h
theorem W_dvK {id : Nat} {ops : Array Oper} {y : Code} {Q : Exit → St → Prop} {s s' : St} (ks : List Nat) (hm : P.follows .mixedOrders = true) (hd : yh6 ops = true)
  (h:(yp7 P ops.toList ops.toList s).map (zf9 ks)=some s') (hq:Wt top kf P y Q s'):Wt top kf P (.seq (.region id ops true) y) Q s:=by
 obtain ⟨s1,h1,rfl⟩:=Option.map_eq_some_iff.1 h
 exact yh9 (W_dv hm hd h1 (ym9 ks hq))
theorem W_rK {id:Nat} {ops:Array Oper} {y:Code} {Q:Exit→St→Prop} {s:St} (ks:List Nat) (h:runA P ops.toList ops.toList s fun s'=>Wt top kf P y Q (zf9 ks s')):Wt top kf P (.seq (.region id ops false) y) Q s :=
 yh9 (yv7 (uh7 (fun _ h=>ym9 ks h) h))
theorem W_rE {id:Nat} {ops:Array Oper} {Q:Exit→St→Prop} {s:St} (ks:List Nat) (h:runA P ops.toList ops.toList s fun s'=>Q .normal (zf9 ks s')):Wt top kf P (.region id ops false) Q s :=
 jr9 ks (yv7 h)
theorem wk9 {id : Nat} {ops : Array Oper} {y : Code} {Q : Exit → St → Prop} {s : St} (ks : List Nat) (hm : P.follows .mixedOrders = true) (hd : yh6 ops = true) (h : runD P ops.toList ops.toList s fun s' => Wt top kf P y Q (zf9 ks s')) :
  Wt top kf P (.seq (.region id ops true) y) Q s :=
 yh9 (kh8 hm hd (kn8 (fun _ h=>ym9 ks h) h))
theorem qh9 {id : Nat} {ops : Array Oper} {Q : Exit → St → Prop} {s : St} (ks : List Nat) (hm : P.follows .mixedOrders = true) (hd : yh6 ops = true) (h : runD P ops.toList ops.toList s fun s' => Q .normal (zf9 ks s')) :
  Wt top kf P (.region id ops true) Q s:=jr9 ks (kh8 hm hd h)
theorem yq9 {ops l l2:List Oper} {s s':St} {K:St→Prop} (k:Nat) (h:kd8 P ops (l.take k) s=some s') (hl:l.drop k=l2) (rest:runA P ops l2 s' K):runA P ops l s K:=by
 subst hl
 have:=evRun_app h rest
 rwa [List.take_append_drop] at this
theorem yw9 {ops l:List Oper} {s s':St} {K:St→Prop} (h:kd8 P ops l s=some s') (hk:K s'):runA P ops l s K:=by
 have:=yq9 (P:=P) (ops:=ops) (l:=l) (K:=K) (l2:=[]) l.length (by rw [List.take_length];exact h) (by simp) hk
 exact this
def callArgs (P:Program) (s:St) (o:Oper):Option (FuncId × List AV × List AObj) :=
 match o.op with
 | .call c=>match zc9 s c.callee with
  | some (f,l1,l2)=>if c.args.size≤c.argTypes.size then (prep P s (site o) l1 (c.args.toList.zip c.argTypes.toList) l2).map fun x=>(f,x.1,x.2) else none
  | none=>none
 | _=>none
theorem yf9 {ops l : List Oper} {o : Oper} {s s' : St} {K : St → Prop} {f : FuncId} {args : List AV} {h' : List AObj} {r : AV} (hg : xq9 ops s o = some true) (hc : callArgs P s o = some (f, args, h')) (hS : Sound P f args r)
  (hput:(⟨s.n,s.fr,h'⟩:St).put o.dst (r.norm (site o))=some s') (rest:runA P ops l s' K):runA P ops (o :: l) s K:=by
 simp only [runA,yj8]
 rw [hg]
 refine .inr (.inl ?_)
 unfold callArgs at hc
 unfold callA
 split at hc
 ·rename_i c ho
  split at hc
  ·rename_i f' l1 l2 hcal
   split at hc
   ·rename_i hsz
    obtain ⟨x,hx,he⟩:=Option.map_eq_some_iff.1 hc
    cases he
    rw [ho]
    dsimp only
    rw [hcal]
    unfold prep at hx
    obtain ⟨xs,hxs,hx⟩:=Option.bind_eq_some_iff.1 hx
    obtain ⟨⟨ys,h1⟩,hys,hx⟩:=Option.bind_eq_some_iff.1 hx
    dsimp only at hx
    split at hx
    ·cases hx
     exact ⟨ys,_,r,s',by rw [hxs];exact hys,hsz,hS.ofDp,hput,rest⟩
    ·cases hx
   ·cases hc
  ·cases hc
 ·cases hc
def xj9 (P:Program) (s:St) (o:Oper):Option (FuncId × List AV) :=
 match o.op with
 | .call c=>match zc9 s c.callee with
  | some (f,l1,l2)=>if c.args.size≤c.argTypes.size then (evOpts P s (c.args.toList.zip c.argTypes.toList)).map fun xs=>(f,l1++xs++l2) else none
  | none=>none
 | _=>none
theorem xs9 {ops l : List Oper} {o : Oper} {s : St} {K : St → Prop} {f : FuncId} {args : List AV} (hg : xq9 ops s o = some true) (hc : xj9 P s o = some (f, args))
  (hS:ww9 P f args s.h fun r h'=>∃ s',(⟨s.n,kv9 (AV.toksL args++wj8 s.h) s.fr,h'⟩:St).put o.dst r=some s'∧runA P ops l s' K):runA P ops (o :: l) s K:=by
 simp only [runA,yj8]
 rw [hg]
 refine .inr (.inr (.inl ?_))
 unfold xj9 at hc
 unfold callO
 split at hc
 ·rename_i c ho
  split at hc
  ·rename_i f' l1 l2 hcal
   split at hc
   ·rename_i hsz
    obtain ⟨x,hx,he⟩:=Option.map_eq_some_iff.1 hc
    cases he
    rw [ho]
    dsimp only
    rw [hcal]
    exact ⟨_,hx,hsz,hS⟩
   ·cases hc
  ·cases hc
 ·cases hc
theorem kl9 {ops l:List Oper} {o:Oper} {s:St} {K:St→Prop} (hg:xq9 ops s o=some true) (h:qw8 P o s fun s'=>runA P ops l s' K):runA P ops (o :: l) s K:=by
 simp only [runA,yj8]
 rw [hg]
 exact .inr (.inr (.inr (.inr (.inl h))))
theorem runA_y {ops l:List Oper} {o:Oper} {s:St} {K:St→Prop} (hg:xq9 ops s o=some true) (h:wg7 P o s fun s'=>runA P ops l s' K):runA P ops (o :: l) s K:=by
 simp only [runA,yj8]
 rw [hg]
 exact .inr (.inr (.inr (.inl h)))
theorem yd9 {ops l l2:List Oper} {s s':St} {K:St→Prop} (k:Nat) (h:yp7 P ops (l.take k) s=some s') (hl:l.drop k=l2) (rest:runD P ops l2 s' K):runD P ops l s K:=by
 subst hl
 have:=ks8 h rest
 rwa [List.take_append_drop] at this
theorem yb9 {ops l:List Oper} {s s':St} {K:St→Prop} (h:yp7 P ops l s=some s') (hk:K s'):runD P ops l s K:=by
 have:=yd9 (P:=P) (ops:=ops) (l:=l) (K:=K) (l2:=[]) l.length (by rw [List.take_length];exact h) (by simp) hk
 exact this
def jd7 (P:Program) (s:St) (o:Oper):Option (FuncId × List AV) :=
 match o.op with
 | .call c=>match c.callee with
  | .value _=>match zc9 s c.callee with
   | some (f,l1,l2)=>if c.args.size≤c.argTypes.size then (evOpts P s (c.args.toList.zip c.argTypes.toList)).bind fun xs=>if AV.flatL xs&&AV.rfL (AV.dpL (l1++xs++l2)) then some (f,AV.dpL (l1++xs++l2)) else none else none
   | none=>none
  | _=>none
 | _=>none
theorem yv9 {ops l : List Oper} {o : Oper} {s s' : St} {K : St → Prop} {f : FuncId} {args : List AV} {r : AV} (hg : xq9 ops s o = some true) (hc : jd7 P s o = some (f, args)) (hS : Sound P f args r)
  (hput:s.put o.dst (r.norm (site o))=some s') (rest:runD P ops l s' K):runD P ops (o :: l) s K:=by
 simp only [runD,wr7]
 rw [hg]
 unfold jd7 at hc
 split at hc
 ·rename_i c ho
  split at hc
  ·rename_i fo hfo
   split at hc
   ·rename_i f' l1 l2 hcal
    split at hc
    ·rename_i hsz
     obtain ⟨xs,hxs,hc⟩:=Option.bind_eq_some_iff.1 hc
     split at hc
     ·rename_i hfl
      cases hc
      simp only [Bool.and_eq_true] at hfl
      refine .inr ⟨by simp [dcls,ho,hfo],?_⟩
      unfold yk6
      rw [ho]
      dsimp only
      rw [hcal]
      exact ⟨xs,r,s',hxs,hfl.1,hfl.2,hsz,hS.ofDp,hput,rest⟩
     ·cases hc
    ·cases hc
   ·cases hc
  ·cases hc
 ·cases hc
theorem Sound.dp {f:FuncId} {xs:List AV} {r:AV} (h:Sound P f (AV.dpL xs) r):Sound P f xs r :=
 ⟨h.1,fun F n c w vals T h1 h2 h3 h4 h5=>h.2 F n c w vals T h1 h2 h3 h4 h5.dpL⟩
theorem Sound.weak {f:FuncId} {xs:List AV} {r:AV} (h:Sound P f (AV.weakL xs) r):Sound P f xs r :=
 ⟨h.1,fun F n c w vals T h1 h2 h3 h4 h5=>h.2 F n c w vals T h1 h2 h3 h4 h5.weakL⟩
attribute [simp] callArgs xj9 jd7 prep
@[simp] theorem underL_byL (m:Nat) (l:List UInt8):AV.underL m (byL l)=true:=by induction l <;> simp_all [byL,AV.underL,AV.under]
@[simp] theorem rfL_byL (l:List UInt8):AV.rfL (byL l)=true:=by induction l <;> simp_all [byL,AV.rfL,AV.rf]
@[simp] theorem tlL_byL (l:List UInt8):AV.tlL (byL l)=true:=by induction l <;> simp_all [byL,AV.tlL,AV.tl]
@[simp] theorem qc7 (l:List UInt8):AV.koneL (byL l)=true:=by induction l <;> simp_all [byL,AV.koneL,AV.kone]
@[simp] theorem toksL_byL (l:List UInt8):AV.toksL (byL l)=[]:=by induction l <;> simp_all [byL,AV.toksL,AV.toks]
@[simp] theorem killSL_byL (T:List Nat) (l:List UInt8):AV.killSL T (byL l)=byL l:=killSL_tl _ (tlL_byL l)
@[simp] theorem killL_byL (T:Nat) (l:List UInt8):AV.killL T (byL l)=byL l:=killL_tl _ (tlL_byL l)
@[simp] theorem dpL_byL (l:List UInt8):AV.dpL (byL l)=byL l:=by induction l <;> simp_all [byL,AV.dpL,AV.dp]
@[simp] theorem jh9 (l:List UInt8):AV.weakL (byL l)=byL l:=by induction l <;> simp_all [byL,AV.weakL,AV.weak]
@[simp] theorem normL_byL (T:Nat) (l:List UInt8):AV.normL T (byL l)=byL l:=by induction l <;> simp_all [byL,AV.normL,AV.norm]
@[simp] theorem qt9 (l:List UInt8):catK 1 (byL l)=some (byL l):=by induction l <;> simp_all [byL,catK,AV.cellsK,AV.kone]
@[simp] theorem yk7 (n:Nat) (l:List UInt8) (h:n≤l.length):chunk false 1 n (byL l)=byL (l.take n):=by
 induction n generalizing l with
 | zero=>simp [chunk]
 | succ n ih =>
  cases l with
  | nil=>simp at h
  | cons b l=>simp only [chunk,xd9,List.headD_cons,List.drop_succ_cons,List.drop_zero,List.take_succ_cons,Bool.false_eq_true,if_false];rw [ih l (by simpa using h)]
theorem yp9 {K:St→Prop} {Q:Exit→St→Prop} {s:St} (h:Q .ret s):zw9 K Q .ret s:=h
theorem ys9 {id:Nat} {Q:Exit→St→Prop} {s:St} (h:Q .ret s):inBlk id Q .ret s:=h
end
end Go.AM
namespace Go.AM
open Go.RowKit
variable {P : Program}
mutual
def AV.plain : AV → AV
 | .lst _ s xs=>.lst .any s xs
 | .agg xs=>.agg (AV.plainL xs)
 | .tup xs=>.tup (AV.plainL xs)
 | x=>x
def AV.plainL : List AV → List AV
 | []=>[]
 | x :: xs=>AV.plain x :: AV.plainL xs
end
theorem zh6 (xs:List AV) (j:Nat):(AV.plainL xs)[j]?=(xs[j]?).map AV.plain:=by
 induction xs generalizing j with
 | nil=>simp [AV.plainL]
 | cons x xs ih=>cases j <;> simp [AV.plainL,ih]
theorem jp8 (xs:List AV):(AV.plainL xs).length=xs.length:=by
 induction xs <;> simp_all [AV.plainL]
theorem Rep.plain {c:Ctx} {w:World} {x:AV} {u:Value} (h:Rep c w x u):Rep c w x.plain u:=by
 induction h with
 | lst u hn hcap hmax hs hsz hrf hz hnil hc hr _=>exact .lst u hn hcap hmax hs hsz hrf hz trivial hc hr
 | agg h _ ih =>
  refine .agg (by rw [jp8];exact h) fun j y hj=>?_
  rw [zh6] at hj
  obtain ⟨x,hx,rfl⟩:=Option.map_eq_some_iff.1 hj
  exact ih j x hx
 | tup h _ ih =>
  refine .tup (by rw [jp8];exact h) fun j y hj=>?_
  rw [zh6] at hj
  obtain ⟨x,hx,rfl⟩:=Option.map_eq_some_iff.1 hj
  exact ih j x hx
 | any u=>exact .any u
 | v x=>exact .v x
 | ro u hrf hc hr=>exact .ro u hrf hc hr
 | loc h=>exact .loc h
 | arr h h1 h2=>exact .arr h h1 h2
 | fn h1 h2 r1 r2=>exact .fn h1 h2 r1 r2
 | mp h=>exact .mp h
 | yld h=>exact .yld h
mutual
theorem wk7 : (x : AV) → x.plain.tl = true
 | .lst _ _ _=>rfl
 | .agg xs=>tl_plainL xs
 | .tup xs=>tl_plainL xs
 | .any=>rfl
 | .v _=>rfl
 | .ro _=>rfl
 | .loc _ _=>rfl
 | .arr _ _ _ _=>rfl
 | .fn _ _ _=>rfl
 | .mp _=>rfl
 | .yld _=>rfl
theorem tl_plainL : (xs : List AV) → AV.tlL (AV.plainL xs) = true
 | []=>rfl
 | x :: xs=>by simp only [AV.plainL,AV.tlL,wk7 x,tl_plainL xs,Bool.and_self]
end
mutual
theorem zg6 (T : Nat) : (x : AV) → (x.norm T).plain = x.plain
 | .lst (.tip _ _) _ _=>rfl
 | .lst .any _ _=>rfl
 | .lst .nil _ _=>rfl
 | .lst .ex _ _=>rfl
 | .agg xs=>by simp only [AV.norm,AV.plain,plain_normL T xs]
 | .tup xs=>by simp only [AV.norm,AV.plain,plain_normL T xs]
 | .any=>rfl
 | .v _=>rfl
 | .ro _=>rfl
 | .loc _ _=>rfl
 | .arr _ _ _ _=>rfl
 | .fn _ _ _=>rfl
 | .mp _=>rfl
 | .yld _=>rfl
theorem plain_normL (T : Nat) : (xs : List AV) → AV.plainL (AV.normL T xs) = AV.plainL xs
 | []=>rfl
 | x :: xs=>by simp only [AV.normL,AV.plainL,zg6 T x,plain_normL T xs]
end
theorem Sound.weakR {f:FuncId} {xs:List AV} {r:AV} (h:Sound P f xs r):Sound P f xs r.plain :=
 ⟨h.1,fun F n c w vals T h1 h2 h3 h4 h5=>(h.2 F n c w vals T h1 h2 h3 h4 h5).mono fun e w' hh=>by
  obtain ⟨u,c',he,hx,hr,ho⟩:=hh
  have hr':=hr.plain
  rw [zg6] at hr'
  exact ⟨u,c',he,hx,hr'.norm h3,.none (qf7 T _ (wk7 r))⟩⟩
attribute [simp] AV.plain AV.plainL
def flds (P:Program) (t:TypeId):Option (List (TypeId × Nat × Nat)) :=
 match P.underlying t with
 | some (.struct fs)=>some (fs.toList.map fun f=>(f.type,f.offset,P.cellsOf f.type))
 | _=>none
theorem vb7 {n m : Nat} {t : TypeId} {x : AV} {l : List (TypeId × Nat × Nat)} (hf : flds P t = some l) (hc : P.cellsOf t = m) (h : TyV P (n + 1) t x) :
  ∃ ys,x=.agg ys∧ys.length=m∧∀ p∈l,TyC P n p.1 ((ys.drop p.2.1).take p.2.2):=by
 unfold flds at hf
 split at hf
 ·rename_i fs hu
  cases hf
  have hs:isSt P t=true:=by simp [isSt,hu]
  rcases h with ⟨_,ys,rfl,h⟩ | ⟨h1,_⟩
  ·simp only [TyC,hu] at h
   refine ⟨ys,rfl,by rw [h.1,hc],fun p hp=>?_⟩
   obtain ⟨f,hf,rfl⟩:=List.mem_map.1 hp
   exact h.2 f hf
  ·rw [hs] at h1;cases h1
 ·cases hf
theorem wg8 {n:Nat} {t:TypeId} {x:AV} (hs:isSt P t=false) (h:TyC P n t [x]):TyV P n t x:=.inr ⟨hs,h⟩
theorem ty_bool {n:Nat} {t:TypeId} {x:AV} (hu:P.underlying t=some .bool) (h:TyV P (n+1) t x):∃ b:Bool,x=.v (.bool b):=by
 rcases h with ⟨h1,_⟩ | ⟨_,h⟩
 ·simp [isSt,hu] at h1
 ·simp only [TyC,hu] at h
  obtain ⟨k,hk⟩:=h
  simp only [List.cons.injEq,and_true] at hk
  exact ⟨k,hk⟩
theorem vn7 {n:Nat} {t:TypeId} {x:AV} {k:IntKind} (hu:P.underlying t=some (.int k)) (h:TyV P (n+1) t x):∃ m:Int,x=.v (.int k m)∧k.min≤m∧m≤k.max:=by
 rcases h with ⟨h1,_⟩ | ⟨_,h⟩
 ·simp [isSt,hu] at h1
 ·simp only [TyC,hu] at h
  obtain ⟨m,hk,h2⟩:=h
  simp only [List.cons.injEq,and_true] at hk
  exact ⟨m,hk,h2⟩
def retN (P:Program) (rs:List ResultVar) (r:AV) (e:Exit) (s:St):Prop:=∃ r0,retQ P rs r0 e s∧((∀ T,r0.norm T=r.norm T)∨r0.plain=r)
theorem vk9 {f : FuncId} {fn : Func} {code : Code} {args : List AV} {r : AV} (hf : P.funcs[f]? = some fn) (hb : fn.body = some code) (hn : (fn.name == "runtime.NumGoroutine") = false)
  (hlen:args.length≤fn.ntmps) (hrf:AV.rfL args=true) (htl:AV.tlL args=true) {rs:List ResultVar} (hrs:fn.results.toList=rs) (h:W P code (retN P rs r) ⟨fn.ntmps,numF 0 args,[]⟩):Sound P f args r:=by
 subst hrs
 refine ⟨⟨fn,hf,hn,by rw [hb];rfl⟩,?_⟩
 intro F n c w vals T hF hro hT hbase hargs
 let c0:Ctx:={ c with base:=fun b=>w.heap.size≤b,no:=0 }
 have hargs0:RepL P c0 w args vals:=RepL.enter (c:=c) (c':=c0) rfl hargs hrf htl
 have hl:args.length=vals.length:=hargs.length
 refine callsIn_of_wp_marks hf hb (hF.1 f) ?_ hro
 have hs0:SimSt P c0 w ⟨fn.ntmps,numF 0 args,[]⟩ { tmps:=vals.toArray++Array.replicate (fn.ntmps - vals.toArray.size) undef,defers:=[] }:=by
  refine ⟨by simp;omega,fun _ h=>h,?_,⟨rfl,fun i hi=>absurd hi (Nat.not_lt_zero _),fun i j hi=>absurd hi (Nat.not_lt_zero _),by simp⟩,⟨[],rfl,.nil,by simp⟩⟩
  intro i x hx
  obtain ⟨h1,h2⟩:=jf8 args 0 i x hx
  obtain ⟨u,hu,hr,ho⟩:=hargs0.get (by simpa using h2)
  have hi:i < vals.length:=(List.getElem?_eq_some_iff.1 hu).1
  exact ⟨u,by rw [Array.getElem?_append_left (by simpa using hi)];simpa using hu,hr,ho⟩
 refine wpIn_mono (h F n c0 w _ (hF.top hro (Nat.zero_le _) true) hs0) ?_
 rintro e a' w' ⟨s',c',⟨r0,⟨he,x,h',hres,hfr,hrr⟩,hnorm⟩,hs',hext⟩
 have key:LeavesInM F n P fn a'.tmps (fun e w'=>∃ u c',e=.returned u∧PExt c w c' w'∧Rep c' w' (r.norm T) u∧Own P (c'.rebase fun b=>w.heap.size≤b) w' (r.norm T) u) a'.defers .returning w':=by
  obtain ⟨rs,hd,hnd,hrs⟩:=hs'.dfr
  obtain ⟨w2,hsh,hleave⟩:=ut7 (F:=F) (n:=n) (fn:=fn) (tmps:=a'.tmps) (R:=fun e w'=>∃ u c',e=.returned u∧PExt c w c' w'∧Rep c' w' (r.norm T) u∧Own P (c'.rebase fun b=>w.heap.size≤b) w' (r.norm T) u) rs w' hnd hrs
  rw [hd]
  refine hleave ?_
  have hs2:=hs'.recell hsh
  obtain ⟨v,hrun,hrep,hown⟩:=up8 hs2 hres
  obtain ⟨c3,e3,k3,s3,r3,o3⟩:=jd9 (by decide) x s' c' r0 h' v hs2 hfr hrep hown
  have hb':c'.base=(fun b=>w.heap.size≤b):=hext.base
  have hb3:c3.base=(fun b=>w.heap.size≤b):=by rw [e3.base,hb']
  let cF:Ctx:={ c with pm:=c3.pm,ow:=fun b=>if b < w.heap.size then c.ow b else T }
  refine ⟨v,hrun,v,cF,rfl,⟨rfl,rfl,rfl,by rw [hsh.os];exact hext.os,by rw [hsh.tape];exact hext.tape,by rw [hsh.output];exact hext.output,by rw [hsh.size];exact hext.size,?_,?_,?_⟩,?_,?_⟩
  ·intro b hlt
   rw [hsh.below b (by rw [hb'];simpa using hlt)]
   exact hext.below b (by simpa [c0] using hlt)
  ·intro b hlt
   have h1:c3.pm b=c'.pm b:=e3.pmb b (by rw [hb'];simpa using hlt)
   have h2:c'.pm b=c.pm b:=hext.pmb b (by simpa [c0] using hlt)
   exact h1.trans h2
  ·intro b hlt
   simp only [cF,if_pos hlt]
  ·rcases hnorm with hnorm | rfl
   ·rw [← hnorm T]
    exact (Rep.recast (c:=c3) (c':=cF) (fun a ha=>ha) r3 hrr).norm hT
   ·exact (Rep.recast (c:=c3) (c':=cF) (fun a ha=>ha) r3 hrr).plain.norm hT
  ·rcases hnorm with hnorm | rfl
   rotate_left
   ·exact .none (qf7 T _ (wk7 r0))
   rw [← hnorm T]
   refine Own.recast (c:=c3) (c':=cF.rebase fun b=>w.heap.size≤b) hT ?_ rfl ?_ o3
   ·rw [hb3];exact fun _ h=>h
   ·intro g hg
    rw [hb3] at hg
    simp only [cF,Ctx.rebase,if_neg (show ¬ g < w.heap.size by omega)]
 rcases he with rfl | rfl
 ·exact key
 ·exact key
def inL (l:List Int):List AV:=l.map fun b=>.v (.int .i64 b)
@[simp] theorem inL_nil:inL []=[]:=rfl
end Go.AM
set_option linter.unusedSimpArgs false
namespace Go.AM
open Go.RowKit
variable {P : Program}
namespace AV
mutual
theorem under_le {m n : Nat} (h : m ≤ n) : (x : AV) → x.under m = true → x.under n = true
 | .loc _ _,k=>by simp only [AV.under,decide_eq_true_eq] at k ⊢;omega
 | .arr _ _ _ _,k=>by simp only [AV.under,decide_eq_true_eq] at k ⊢;omega
 | .mp _,k=>by simp only [AV.under,decide_eq_true_eq] at k ⊢;omega
 | .yld _,k=>by simp only [AV.under,decide_eq_true_eq] at k ⊢;omega
 | .fn _ a b,k=>by simp only [AV.under,Bool.and_eq_true] at k ⊢;exact ⟨underL_le h a k.1,underL_le h b k.2⟩
 | .agg xs,k=>underL_le h xs k
 | .tup xs,k=>underL_le h xs k
 | .any,_=>rfl
 | .v _,_=>rfl
 | .lst _ _ _,_=>rfl
 | .ro _,_=>rfl
theorem underL_le {m n : Nat} (h : m ≤ n) : (xs : List AV) → AV.underL m xs = true → AV.underL n xs = true
 | [],_=>rfl
 | x :: xs,k=>by
  simp only [AV.underL,Bool.and_eq_true] at k ⊢
  exact ⟨under_le h x k.1,underL_le h xs k.2⟩
end
end AV
theorem vj8 {m n : Nat} (h : m ≤ n) : (xs : List (Value × AV)) → xt9 m xs = true → xt9 n xs = true
 | [],_=>rfl
 | (_,x) :: xs,k=>by
  simp only [xt9,Bool.and_eq_true] at k ⊢
  exact ⟨AV.under_le h x k.1,vj8 h xs k.2⟩
theorem xg6 {m n : Nat} (h : m ≤ n) : (xs : List (Nat × AV)) → zk9 m xs = true → zk9 n xs = true
 | [],_=>rfl
 | (_,x) :: xs,k=>by
  simp only [zk9,Bool.and_eq_true] at k ⊢
  exact ⟨AV.under_le h x k.1,xg6 h xs k.2⟩
theorem AObj.under_le {m n:Nat} (h:m≤n) (o:AObj) (k:o.under m=true):o.under n=true:=by
 cases o with
 | cells _ cs=>exact AV.underL_le h cs k
 | froz _ cs=>exact AV.underL_le h cs k
 | map es=>exact vj8 h es k
 | loop _ fr _ _ _ _=>exact xg6 h fr k
 | dead=>rfl
theorem xc9 {m n : Nat} (h : m ≤ n) : (xs : List AObj) → yn9 m xs = true → yn9 n xs = true
 | [],_=>rfl
 | x :: xs,k=>by
  simp only [yn9,Bool.and_eq_true] at k ⊢
  exact ⟨AObj.under_le h x k.1,xc9 h xs k.2⟩
theorem wn6 (m:Nat) (a b:List AObj):yn9 m (a++b)=(yn9 m a&&yn9 m b):=by
 induction a with
 | nil=>simp [yn9]
 | cons x a ih=>simp [yn9,ih,Bool.and_assoc]
abbrev Shut1 (h:List AObj):Prop:=yn9 h.length h=true
theorem shut_push {h:List AObj} {o:AObj} (hh:Shut1 h) (ho:o.under (h.length+1)=true):yn9 (h.length+1) (h++[o])=true:=by
 rw [wn6]
 simp only [yn9,Bool.and_true,Bool.and_eq_true]
 exact ⟨xc9 (Nat.le_succ _) h hh,ho⟩
theorem vs6 {ops l : List Oper} {o : Oper} {s : St} {K : St → Prop} {cl : Call} {xo yo : Operand} {t e sz by_ s0 : Nat} {ag : Bool} {z : AV} {oy : Fl} {x0 ys yc : List AV} (hg : xq9 ops s o = some true)
  (ho:o.op=.call cl) (hc:cl.callee=.builtin .append) (ha:cl.args.toList=[xo,yo]) (hty:cl.argTypes.toList=[t,t]) (h1:s.evT P t xo=some (.lst .nil s0 x0)) (h2:s.evT P t yo=some (.lst oy sz ys))
  (hsl:slI P t=some (e,ag,sz)) (hap:apI P e=some (sz,by_)) (hz:zA P e=some z) (hside:z.cells.length=sz∧0 < sz∧0 < by_) (hcat:catK sz ys=some yc) (hne:ys≠[])
  (hb:ys.length * by_≤140737488355328)
  (rest:∀ cap',ys.length≤cap'→cap'≤maxLen→∃ s',({ s with h:=s.h++[.cells e (AV.weakL yc++repC (cap' - ys.length) z.cells)] }:St).put o.dst (.arr s.h.length 0 ys.length cap')=some s'∧runA P ops l s' K):runA P ops (o :: l) s K:=by
 refine kl9 hg ?_
 unfold qw8
 rw [ho]
 dsimp only
 rw [hc,ha,hty]
 exact .inr (.inr ⟨rfl,e,ag,sz,by_,z,s0,x0,ys.length,AV.weakL yc,h1,hsl,hap,hz,hside.1,hside.2.1,hside.2.2,by unfold srcA;rw [h2];simp [hcat],List.length_pos_iff.2 hne,hb,rest⟩)
theorem ug7 {ops l : List Oper} {o : Oper} {s : St} {K : St → Prop} {cl : Call} {xo yo : Operand} {t e sz by_ s0 m : Nat} {ag : Bool} {z : AV} {x0 yc : List AV} (hg : xq9 ops s o = some true)
  (ho:o.op=.call cl) (hc:cl.callee=.builtin .append) (ha:cl.args.toList=[xo,yo]) (hty:cl.argTypes.toList=[t,t]) (h1:s.evT P t xo=some (.lst .nil s0 x0)) (h2:srcA P s t yo sz=some (m,yc))
  (hsl:slI P t=some (e,ag,sz)) (hap:apI P e=some (sz,by_)) (hz:zA P e=some z) (hside:z.cells.length=sz∧0 < sz∧0 < by_) (hne:0 < m)
  (hb:m * by_≤140737488355328)
  (rest:∀ cap',m≤cap'→cap'≤maxLen→∃ s',({ s with h:=s.h++[.cells e (yc++repC (cap' - m) z.cells)] }:St).put o.dst (.arr s.h.length 0 m cap')=some s'∧runA P ops l s' K):runA P ops (o :: l) s K:=by
 refine kl9 hg ?_
 unfold qw8
 rw [ho]
 dsimp only
 rw [hc,ha,hty]
 exact .inr (.inr ⟨rfl,e,ag,sz,by_,z,s0,x0,m,yc,h1,hsl,hap,hz,hside.1,hside.2.1,hside.2.2,h2,hne,hb,rest⟩)
theorem un9 {ops l : List Oper} {o : Oper} {s : St} {K : St → Prop} {cl : Call} {xo yo : Operand} {t e sz by_ id len cap m : Nat} {ag : Bool} {z : AV} {cs yc : List AV} (hg : xq9 ops s o = some true)
  (ho:o.op=.call cl) (hc:cl.callee=.builtin .append) (ha:cl.args.toList=[xo,yo]) (hty:cl.argTypes.toList=[t,t]) (h1:s.evT P t xo=some (.arr id 0 len cap)) (h2:srcA P s t yo sz=some (m,yc))
  (hsl:slI P t=some (e,ag,sz)) (hap:apI P e=some (sz,by_)) (hz:zA P e=some z) (hside:z.cells.length=sz∧0 < sz∧0 < by_) (hobj:s.h[id]?=some (.cells e cs)) (hcs:cs.length=cap * sz)
  (hb:(len+m) * by_≤140737488355328)
  (rest:∀ s1 x1,appQ0 s e sz id len cap m yc cs z.cells s1 x1→∃ s',s1.put o.dst x1=some s'∧runA P ops l s' K):runA P ops (o :: l) s K:=by
 refine kl9 hg ?_
 unfold qw8
 rw [ho]
 dsimp only
 rw [hc,ha,hty]
 exact .inl ⟨rfl,e,ag,sz,by_,z,id,len,cap,cs,m,yc,hsl,hap,hz,hside.1,hside.2.1,hside.2.2,h1,hobj,hcs,h2,hb,rest⟩
theorem vd6 {ops l : List Oper} {o : Oper} {s : St} {K : St → Prop} {cl : Call} {xo yo : Operand} {t e sz by_ id len cap : Nat} {ag : Bool} {z : AV} {oy : Fl} {cs ys yc : List AV} (hg : xq9 ops s o = some true)
  (ho:o.op=.call cl) (hc:cl.callee=.builtin .append) (ha:cl.args.toList=[xo,yo]) (hty:cl.argTypes.toList=[t,t]) (h1:s.evT P t xo=some (.arr id 0 len cap)) (h2:s.evT P t yo=some (.lst oy sz ys))
  (hsl:slI P t=some (e,ag,sz)) (hap:apI P e=some (sz,by_)) (hz:zA P e=some z) (hside:z.cells.length=sz∧0 < sz∧0 < by_) (hobj:s.h[id]?=some (.cells e cs)) (hcs:cs.length=cap * sz) (hcat:catK sz ys=some yc)
  (hb:(len+ys.length) * by_≤140737488355328)
  (rest:∀ s1 x1,appQ s e sz id len cap ys.length yc cs z.cells s1 x1→∃ s',s1.put o.dst x1=some s'∧runA P ops l s' K):runA P ops (o :: l) s K:=by
 refine kl9 hg ?_
 unfold qw8
 rw [ho]
 dsimp only
 rw [hc,ha,hty]
 exact .inl ⟨rfl,e,ag,sz,by_,z,id,len,cap,cs,ys.length,AV.weakL yc,hsl,hap,hz,hside.1,hside.2.1,hside.2.2,h1,hobj,hcs,by unfold srcA;rw [h2];simp [hcat],hb,rest⟩
theorem zp7 {ops l : List Oper} {o : Oper} {s : St} {K : St → Prop} {cl : Call} {xo yo : Operand} {t t' e e2 sz id off len cap : Nat} {ag : Bool} {oy : Fl} {cs ys yc : List AV} (hg : xq9 ops s o = some true)
  (ho:o.op=.call cl) (hc:cl.callee=.builtin .copy) (ha:cl.args.toList=[xo,yo]) (hty:cl.argTypes.toList=[t,t']) (h1:s.evT P t xo=some (.arr id off len cap)) (h2:s.evT P t' yo=some (.lst oy sz ys))
  (hsl:slI P t=some (e,ag,sz)) (hsz:0 < sz) (hobj:s.h[id]?=some (.cells e2 cs)) (hcs:off+len * sz≤cs.length) (hcat:catK sz (ys.take len)=some yc)
  (rest:∃ s',({ s with h:=s.h.set id (.cells e2 (yk9 cs off (AV.weakL yc))) }:St).put o.dst (.v (goInt (min ys.length len:Nat)))=some s'∧runA P ops l s' K):runA P ops (o :: l) s K:=by
 refine kl9 hg ?_
 unfold qw8
 rw [ho]
 dsimp only
 rw [hc,ha,hty]
 exact ⟨e,e2,ag,sz,id,off,len,cap,cs,oy,ys,yc,hsl,hsz,h1,hobj,hcs,h2,hcat,rest⟩
theorem km8 {ops l : List Oper} {o : Oper} {s : St} {K : St → Prop} {cl : Call} {xo yo : Operand} {t t' e sz id off len cap : Nat} {ag : Bool} {oy : Fl} {cs ys yc : List AV} (hg : xq9 ops s o = some true)
  (ho:o.op=.call cl) (hc:cl.callee=.builtin .copy) (ha:cl.args.toList=[xo,yo]) (hty:cl.argTypes.toList=[t,t']) (h1:s.evT P t xo=some (.arr id off len cap)) (h2:s.evT P t' yo=some (.lst oy sz ys))
  (hsl:slI P t=some (e,ag,sz)) (hsz:0 < sz) (hobj:s.h[id]?=some (.cells e cs)) (hcs:off+len * sz≤cs.length) (hcat:catK sz (ys.take len)=some yc)
  (rest:∃ s',({ s with h:=s.h.set id (.cells e (yk9 cs off (AV.weakL yc))) }:St).put o.dst (.v (goInt (min ys.length len:Nat)))=some s'∧runA P ops l s' K):runA P ops (o :: l) s K :=
 zp7 hg ho hc ha hty h1 h2 hsl hsz hobj hcs hcat rest
theorem W_rsK {top : Bool} {kf : Nat} {id : Nat} {ops : Array Oper} {y : Code} {Q : Exit → St → Prop} {s : St} (pre : Nat) (ks : List Nat) (hm : P.follows .mixedOrders = true) (hd : drawS ops pre = true)
  (h:runD P ops.toList (ops.toList.take pre) s fun s'=>runA P ops.toList (ops.toList.drop pre) s' fun s2=>Wt top kf P y Q (zf9 ks s2)):Wt top kf P (.seq (.region id ops true) y) Q s :=
 yh9 (jr9 ks (W_drawS pre hm hd h))
theorem W_rsE {top : Bool} {kf : Nat} {id : Nat} {ops : Array Oper} {Q : Exit → St → Prop} {s : St} (pre : Nat) (ks : List Nat) (hm : P.follows .mixedOrders = true) (hd : drawS ops pre = true)
  (h:runD P ops.toList (ops.toList.take pre) s fun s'=>runA P ops.toList (ops.toList.drop pre) s' fun s2=>Q .normal (zf9 ks s2)):Wt top kf P (.region id ops true) Q s :=
 jr9 ks (W_drawS pre hm hd h)
theorem js9 (n:Nat):repC n [AV.v (.int .u8 0)]=byL (List.replicate n 0):=by
 induction n with
 | zero=>rfl
 | succ n ih=>simp only [repC,ih,List.replicate_succ,xd9];rfl
theorem xf7 (B b:List UInt8) (off:Nat):yk9 (byL B) off (byL b)=byL (B.take off++b++B.drop (off+b.length)):=by
 simp only [yk9,wq9,xp9,qs9,zt8]
def bbL (L:List (List UInt8)):List AV:=L.map fun b=>.lst .any 1 (byL b)
@[simp] theorem bbL_length (L:List (List UInt8)):(bbL L).length=L.length:=by simp [bbL]
@[simp] theorem bbL_nil:bbL []=[]:=rfl
theorem wh9 (b:List UInt8) (L:List (List UInt8)):bbL (b :: L)=.lst .any 1 (byL b) :: bbL L:=rfl
theorem uv9 (L M:List (List UInt8)):bbL (L++M)=bbL L++bbL M:=by simp [bbL]
@[simp] theorem bbL_getElem (L:List (List UInt8)) (i:Nat) (h:i < (bbL L).length):(bbL L)[i]=.lst .any 1 (byL (L[i]'(by simpa using h))):=by simp [bbL]
@[simp] theorem rfL_bbL (L:List (List UInt8)):AV.rfL (bbL L)=true:=by induction L <;> simp_all [bbL,AV.rfL,AV.rf]
@[simp] theorem tlL_bbL (L:List (List UInt8)):AV.tlL (bbL L)=true:=by induction L <;> simp_all [bbL,AV.tlL,AV.tl]
@[simp] theorem koneL_bbL (L:List (List UInt8)):AV.koneL (bbL L)=true:=by induction L <;> simp_all [bbL,AV.koneL,AV.kone]
@[simp] theorem underL_bbL (m:Nat) (L:List (List UInt8)):AV.underL m (bbL L)=true:=by induction L <;> simp_all [bbL,AV.underL,AV.under]
@[simp] theorem killL_bbL (T:Nat) (L:List (List UInt8)):AV.killL T (bbL L)=bbL L:=killL_tl _ (tlL_bbL L)
@[simp] theorem dpL_bbL (L:List (List UInt8)):AV.dpL (bbL L)=bbL L:=by induction L <;> simp_all [bbL,AV.dpL,AV.dp]
@[simp] theorem weakL_bbL (L:List (List UInt8)):AV.weakL (bbL L)=bbL L:=by induction L <;> simp_all [bbL,AV.weakL,AV.weak]
def byteOf : AV → Option UInt8
 | .v (.int .u8 n)=>if 0≤n∧n < 256 then some (UInt8.ofNat n.toNat) else none
 | _=>none
theorem byteOf_eq {x:AV} {b:UInt8} (h:byteOf x=some b):x=.v (.int .u8 b.toNat):=by
 unfold byteOf at h
 split at h
 ·split at h
  ·rename_i n hn
   cases h
   congr 2
   rw [UInt8.toNat_ofNat'];omega
  ·cases h
 ·cases h
def bytesOf : List AV → Option (List UInt8)
 | []=>some []
 | x :: xs=>(byteOf x).bind fun b=>(bytesOf xs).map fun l=>b :: l
theorem ub8 : ∀ {xs : List AV} {l : List UInt8}, bytesOf xs = some l → xs = byL l
 | [],l,h=>by simp only [bytesOf,Option.some.injEq] at h;subst h;rfl
 | x :: xs,l,h=>by
  simp only [bytesOf] at h
  obtain ⟨b,hb,h⟩:=Option.bind_eq_some_iff.1 h
  obtain ⟨l',hl,rfl⟩:=Option.map_eq_some_iff.1 h
  rw [xd9,byteOf_eq hb,ub8 hl]
def bbOf : List AV → Option (List (List UInt8))
 | []=>some []
 | .lst .any 1 x :: xs=>(bytesOf x).bind fun b=>(bbOf xs).map fun l=>b :: l
 | _=>none
theorem bbOf_eq : ∀ {xs : List AV} {l : List (List UInt8)}, bbOf xs = some l → xs = bbL l
 | [],l,h=>by simp only [bbOf,Option.some.injEq] at h;subst h;rfl
 | x :: xs,l,h=>by
  unfold bbOf at h
  split at h
  ·rename_i h1;cases h1
  ·rename_i h1
   cases h1
   obtain ⟨b,hb,h⟩:=Option.bind_eq_some_iff.1 h
   obtain ⟨l',hl,rfl⟩:=Option.map_eq_some_iff.1 h
   rw [wh9,ub8 hb,bbOf_eq hl]
  ·cases h
end Go.AM
namespace Go.AM
open Go.RowKit
set_option linter.unusedSimpArgs false
def AV.sl : AV → Bool
 | .v (.slice _ _ _)=>true
 | .v _=>false
 | .lst _ _ _=>true
 | .arr _ _ _ _=>true
 | .any=>true
 | _=>false
section
variable {P : Program} {c c' : Ctx} {w w' : World}
mutual
theorem dp_norm (T : Nat) : (x : AV) → (x.norm T).dp = x.dp
 | .lst (.tip _ _) _ _=>rfl
 | .lst .any _ _=>rfl
 | .lst .nil _ _=>rfl
 | .lst .ex _ _=>rfl
 | .agg xs=>by simp only [AV.norm,AV.dp,dp_normL T xs]
 | .tup xs=>by simp only [AV.norm,AV.dp,dp_normL T xs]
 | .any=>rfl
 | .v _=>rfl
 | .ro _=>rfl
 | .loc _ _=>rfl
 | .arr _ _ _ _=>rfl
 | .fn _ _ _=>rfl
 | .mp _=>rfl
 | .yld _=>rfl
theorem dp_normL (T : Nat) : (xs : List AV) → AV.dpL (AV.normL T xs) = AV.dpL xs
 | []=>rfl
 | x :: xs=>by simp only [AV.normL,AV.dpL,dp_norm T x,dp_normL T xs]
end
def AV.Le (P:Program) (x y:AV):Prop:=∀ (c:Ctx) (w:World) (u:Value) (T:Nat),T % 2=1→Rep c w (x.norm T) u→Own P c w (x.norm T) u→Rep c w (y.norm T) u∧Own P c w (y.norm T) u
theorem AV.Le.refl (x:AV):AV.Le P x x:=fun _ _ _ _ _ h1 h2=>⟨h1,h2⟩
theorem AV.Le.norm {x y:AV} (h:∀ T,x.norm T=y.norm T):AV.Le P x y:=fun _ _ _ T _ h1 h2=>by rw [← h T];exact ⟨h1,h2⟩
theorem AV.Le.dp (x:AV):AV.Le P x x.dp:=fun _ _ _ T hT h1 _=>by
 have h:=h1.dp
 rw [dp_norm] at h
 exact ⟨h.norm hT,.none (qf7 T _ (AV.tl_dp x))⟩
theorem AV.Le.nil {e T0 s:Nat} (hs:s=P.cellsOf e):AV.Le P (.lst .nil s []) (.lst (.tip e T0) s []):=fun c w u T hT h1 _=>by
 simp only [AV.norm] at h1 ⊢
 obtain ⟨a,n,cap,ux,rfl,hn,hcap,hmax,hs0,hsx,hrx,hzx,hnil,hcx,hrr⟩:=xv9 h1
 have ha:a=none:=hnil
 subst ha
 obtain ⟨rfl,rfl⟩:=hzx rfl
 exact ⟨.lst ux rfl (Nat.le_refl _) hmax (by simp) (by simp) rfl (fun _=>⟨rfl,rfl⟩) (fun _=>rfl) (by simp) (by simp),.tip (by omega) hs (.inl ⟨rfl,rfl,rfl⟩)⟩
theorem AV.Le.tup {xs ys:List AV} (hl:xs.length=ys.length) (h:∀ (j:Nat) (x y:AV),xs[j]?=some x→ys[j]?=some y→AV.Le P x y):AV.Le P (.tup xs) (.tup ys):=fun c w u T hT h1 h2=>by
 simp only [AV.norm] at h1 h2 ⊢
 obtain ⟨us,rfl,hul,hrr⟩:=tup_inv h1
 have hoo:=own_tup h2
 have hln:∀ l:List AV,(AV.normL T l).length=l.length:=fun l=>by induction l <;> simp_all [AV.normL]
 have key:∀ j y,(AV.normL T ys)[j]?=some y→Rep c w y (us.getD j undef)∧Own P c w y (us.getD j undef):=by
  intro j y hj
  rw [kp9] at hj
  obtain ⟨y0,hy,rfl⟩:=Option.map_eq_some_iff.1 hj
  have hjl:j < xs.length:=by rw [hl];exact (List.getElem?_eq_some_iff.1 hy).1
  have hx:xs[j]?=some xs[j]:=List.getElem?_eq_getElem hjl
  have hxn:(AV.normL T xs)[j]?=some (xs[j].norm T):=by rw [kp9,hx];rfl
  exact h j _ _ hx hy c w _ T hT (hrr j _ hxn) (hoo j _ hxn)
 exact ⟨.tup (by rw [hln,← hl,← hul,hln]) fun j y hj=>(key j y hj).1,.tup fun j y hj=>(key j y hj).2⟩
theorem AV.Le.tup2 {a b c d:AV} (h1:AV.Le P a c) (h2:AV.Le P b d):AV.Le P (.tup [a,b]) (.tup [c,d]):=.tup rfl fun j x y hx hy=>by
 match j with
 | 0=>simp at hx hy;subst hx hy;exact h1
 | 1=>simp at hx hy;subst hx hy;exact h2
 | j+2=>simp at hx
theorem Sound.le {f:FuncId} {xs:List AV} {r r':AV} (h:Sound P f xs r) (hle:AV.Le P r r'):Sound P f xs r' :=
 ⟨h.1,fun F n c w vals T h1 h2 h3 h4 h5=>(h.2 F n c w vals T h1 h2 h3 h4 h5).mono fun e w' hh=>by
  obtain ⟨u,c',he,hx,hr,ho⟩:=hh
  obtain ⟨k1,k2⟩:=hle _ w' u T h3 (hr.rebase _) ho
  exact ⟨u,c',he,hx,k1.rebase c'.base,k2⟩⟩
def retU (P:Program) (rs:List ResultVar) (r:AV) (e:Exit) (s:St):Prop:=∃ r0,retQ P rs r0 e s∧AV.Le P r0 r
theorem xw9 {f : FuncId} {fn : Func} {code : Code} {args : List AV} {r : AV} (hf : P.funcs[f]? = some fn) (hb : fn.body = some code) (hn : (fn.name == "runtime.NumGoroutine") = false)
  (hlen:args.length≤fn.ntmps) (hrf:AV.rfL args=true) (htl:AV.tlL args=true) {rs:List ResultVar} (hrs:fn.results.toList=rs) (h:W P code (retU P rs r) ⟨fn.ntmps,numF 0 args,[]⟩):Sound P f args r:=by
 subst hrs
 refine ⟨⟨fn,hf,hn,by rw [hb];rfl⟩,?_⟩
 intro F n c w vals T hF hro hT hbase hargs
 let c0:Ctx:={ c with base:=fun b=>w.heap.size≤b,no:=0 }
 have hargs0:RepL P c0 w args vals:=RepL.enter (c:=c) (c':=c0) rfl hargs hrf htl
 have hl:args.length=vals.length:=hargs.length
 refine callsIn_of_wp_marks hf hb (hF.1 f) ?_ hro
 have hs0:SimSt P c0 w ⟨fn.ntmps,numF 0 args,[]⟩ { tmps:=vals.toArray++Array.replicate (fn.ntmps - vals.toArray.size) undef,defers:=[] }:=by
  refine ⟨by simp;omega,fun _ h=>h,?_,⟨rfl,fun i hi=>absurd hi (Nat.not_lt_zero _),fun i j hi=>absurd hi (Nat.not_lt_zero _),by simp⟩,⟨[],rfl,.nil,by simp⟩⟩
  intro i x hx
  obtain ⟨h1,h2⟩:=jf8 args 0 i x hx
  obtain ⟨u,hu,hr,ho⟩:=hargs0.get (by simpa using h2)
  have hi:i < vals.length:=(List.getElem?_eq_some_iff.1 hu).1
  exact ⟨u,by rw [Array.getElem?_append_left (by simpa using hi)];simpa using hu,hr,ho⟩
 refine wpIn_mono (h F n c0 w _ (hF.top hro (Nat.zero_le _) true) hs0) ?_
 rintro e a' w' ⟨s',c',⟨r0,⟨he,x,h',hres,hfr,hrr⟩,hnorm⟩,hs',hext⟩
 have key:LeavesInM F n P fn a'.tmps (fun e w'=>∃ u c',e=.returned u∧PExt c w c' w'∧Rep c' w' (r.norm T) u∧Own P (c'.rebase fun b=>w.heap.size≤b) w' (r.norm T) u) a'.defers .returning w':=by
  obtain ⟨rs,hd,hnd,hrs⟩:=hs'.dfr
  obtain ⟨w2,hsh,hleave⟩:=ut7 (F:=F) (n:=n) (fn:=fn) (tmps:=a'.tmps) (R:=fun e w'=>∃ u c',e=.returned u∧PExt c w c' w'∧Rep c' w' (r.norm T) u∧Own P (c'.rebase fun b=>w.heap.size≤b) w' (r.norm T) u) rs w' hnd hrs
  rw [hd]
  refine hleave ?_
  have hs2:=hs'.recell hsh
  obtain ⟨v,hrun,hrep,hown⟩:=up8 hs2 hres
  obtain ⟨c3,e3,k3,s3,r3,o3⟩:=jd9 (by decide) x s' c' r0 h' v hs2 hfr hrep hown
  have hb':c'.base=(fun b=>w.heap.size≤b):=hext.base
  have hb3:c3.base=(fun b=>w.heap.size≤b):=by rw [e3.base,hb']
  let cF:Ctx:={ c with pm:=c3.pm,ow:=fun b=>if b < w.heap.size then c.ow b else T }
  have hfin:Rep (cF.rebase fun b=>w.heap.size≤b) w2 (r.norm T) v∧Own P (cF.rebase fun b=>w.heap.size≤b) w2 (r.norm T) v:=by
   refine hnorm _ w2 v T hT ?_ ?_
   ·exact ((Rep.recast (c:=c3) (c':=cF) (fun a ha=>ha) r3 hrr).norm hT).rebase _
   ·refine Own.recast (c := c3) (c' := cF.rebase fun b => w.heap.size ≤ b) hT ?_ rfl ?_ o3
    ·rw [hb3];exact fun _ h=>h
    ·intro g hg
     rw [hb3] at hg
     simp only [cF,Ctx.rebase,if_neg (show ¬ g < w.heap.size by omega)]
  refine ⟨v,hrun,v,cF,rfl,⟨rfl,rfl,rfl,by rw [hsh.os];exact hext.os,by rw [hsh.tape];exact hext.tape,by rw [hsh.output];exact hext.output,by rw [hsh.size];exact hext.size,?_,?_,?_⟩,?_,?_⟩
  ·intro b hlt
   rw [hsh.below b (by rw [hb'];simpa using hlt)]
   exact hext.below b (by simpa [c0] using hlt)
  ·intro b hlt
   have h1:c3.pm b=c'.pm b:=e3.pmb b (by rw [hb'];simpa using hlt)
   have h2:c'.pm b=c.pm b:=hext.pmb b (by simpa [c0] using hlt)
   exact h1.trans h2
  ·intro b hlt
   simp only [cF,if_pos hlt]
  ·exact (hfin.1.rebase cF.base)
  ·exact hfin.2
 rcases he with rfl | rfl
 ·exact key
 ·exact key
end
end Go.AM
namespace Go.AM
open Go.RowKit
set_option linter.unusedSimpArgs false
section
variable {P : Program} {c c' : Ctx} {w : World}
end
end Go.AM
namespace Go.AM
open Go.RowKit
set_option linter.unusedSimpArgs false
section
variable {P : Program} {top : Bool} {kf : Nat}
theorem W_frz {code : Code} {Q : Exit → St → Prop} {s : St} (i : Nat) {id off len cap tk : Nat} {x : AV} {h' : List AObj} (hg : getF s.fr i = some (.arr id off len cap)) (htk : tk % 2 = 1)
  (hf:ws9 P s.h tk id off len cap=some (x,h')) (h:Wt top kf P code Q ⟨s.n,putF s.fr i x,h'⟩):Wt top kf P code Q s:=by
 intro F n c w a hF hs
 obtain ⟨u,hu,hr,_⟩:=hs.fr i _ hg
 obtain ⟨c',he,hk,hs',hr',ho'⟩:=kd9 hs htk hf hr
 have hs2:SimSt P c' w ⟨s.n,putF s.fr i x,h'⟩ a:=by
  refine ⟨hs'.n,hs'.base,fun j y hy=>?_,hs'.h,hs'.dfr⟩
  simp only at hy
  rw [jm9] at hy
  split at hy
  ·rename_i hj
   subst hj
   cases hy
   exact ⟨u,hu,hr',ho'⟩
  ·exact hs'.fr j y hy
 have he':=he.toK hF.2.2
 refine wpIn_mono (h F n c' w a (hF.next he') hs2) ?_
 rintro e a' w' ⟨s',c2,q,k1,k2⟩
 exact ⟨s',c2,q,k1,he'.trans k2⟩
theorem zw8 {h h':List AObj} {tk id off len cap:Nat} {x:AV} (hf:ws9 P h tk id off len cap=some (x,h')) {b:Nat} (hb:b≠id):h'[b]?=h[b]?:=by
 unfold ws9 at hf
 split at hf
 ·split at hf
  ·simp only at hf
   split at hf
   ·cases hf
    exact List.getElem?_set_ne (by omega)
   ·split at hf
    ·cases hf
     exact List.getElem?_set_ne (by omega)
    ·cases hf
  ·cases hf
 ·split at hf
  ·split at hf
   ·cases hf;rfl
   ·cases hf
  ·cases hf
 ·cases hf
theorem W_frzP {code : Code} {Q : Exit → St → Prop} {s : St} (b j : Nat) {ty id off len cap tk : Nat} {cs : List AV} {x : AV} {h' : List AObj} (hb : s.h[b]? = some (.cells ty cs)) (hg : cs[j]? = some (.arr id off len cap)) (hbi : b ≠ id) (htk : tk % 2 = 1)
  (hf:ws9 P s.h tk id off len cap=some (x,h')) (h:Wt top kf P code Q ⟨s.n,s.fr,h'.set b (.cells ty (cs.set j x.plain))⟩):Wt top kf P code Q s:=by
 intro F n c w a hF hs
 obtain ⟨_,_,_,cur0,hcur0,_,hcc⟩:=hs.h.obj b _ hb
 obtain ⟨hr,_,_⟩:=hcc j _ hg
 obtain ⟨c',he,hk,hs',hr',ho'⟩:=kd9 hs htk hf hr
 have hb':h'[b]?=some (.cells ty cs):=by rw [zw8 hf hbi];exact hb
 have hob:=hs'.h.obj b _ hb'
 have hbl:b < h'.length:=(List.getElem?_eq_some_iff.1 hb').1
 have hcb:c'.ob b=c.ob b:=he.ob b (by rw [hs.h.no];exact (List.getElem?_eq_some_iff.1 hb).1)
 obtain ⟨o1,o2,o3,cur,hcur,hlen,hcell⟩:=hob
 have hsame:cur0=cur:=by
  rw [hcb,hcur0] at hcur
  cases hcur
  rfl
 subst hsame
 have hs2:SimSt P c' w ⟨s.n,s.fr,h'.set b (.cells ty (cs.set j x.plain))⟩ a:=by
  refine ⟨hs'.n,hs'.base,hs'.fr,⟨by simp only [List.length_set];exact hs'.h.no,hs'.h.lt,hs'.h.inj,fun i o hi=>?_⟩,hs'.dfr⟩
  simp only at hi
  rw [List.getElem?_set] at hi
  split at hi
  ·rename_i hbi2
   subst hbi2
   cases hi
   refine ⟨o1,o2,o3,cur0,hcur,by rw [List.length_set];exact hlen,fun k y hy=>?_⟩
   rw [List.getElem?_set] at hy
   split at hy
   ·rename_i hjk
    subst hjk
    split at hy
    ·cases hy
     exact ⟨hr'.plain,.none (wk7 x),(hcell j _ hg).2.2⟩
    ·cases hy
   ·exact hcell k y hy
  ·exact hs'.h.obj i o hi
 have he':=he.toK hF.2.2
 refine wpIn_mono (h F n c' w a (hF.next he') hs2) ?_
 rintro e a' w' ⟨s',c2,q,k1,k2⟩
 exact ⟨s',c2,q,k1,he'.trans k2⟩
theorem us8 {c:Ctx} {w:World} {s:St} {a:Act} (hs:SimSt P c w s a) (i:Nat) {x:AV} {u:Value} (hu:a.tmps[i]?=some u) (hr:Rep c w x u) (ho:Own P c w x u):SimSt P c w ⟨s.n,putF s.fr i x,s.h⟩ a:=by
 refine ⟨hs.n,hs.base,fun j y hy=>?_,hs.h,hs.dfr⟩
 simp only at hy
 rw [jm9] at hy
 split at hy
 ·rename_i hj
  subst hj
  cases hy
  exact ⟨u,hu,hr,ho⟩
 ·exact hs.fr j y hy
theorem tipArr_sound {c : Ctx} {w : World} {s : St} {a : Act} {tk id len cap ty sz : Nat} {ag : Bool} {cs : List AV} {u : Value} (hs : SimSt P c w s a) (htk : tk % 2 = 1) (hobj : s.h[id]? = some (.cells ty cs)) (hty : tyI P ty = some (ag, sz)) (hsz : 0 < sz) (hag : ag = true ∨ sz = 1)
  (hfull:cap * sz=cs.length) (hk:AV.koneL (cs.take (len * sz))=true) (hrf:AV.rfL (cs.take (len * sz))=true) (hr:Rep c w (.arr id 0 len cap) u) :
  ∃ c',Ext c w c' w∧Keeps c w c' w none∧SimSt P c' w { s with h:=s.h.set id (.froz ty (AV.weakL (cs.take (len * sz)))) } a∧Rep c' w (.lst (.tip ty tk) sz (chunk ag sz len (AV.weakL (cs.take (len * sz))))) u∧Own P c' w (.lst (.tip ty tk) sz (chunk ag sz len (AV.weakL (cs.take (len * sz))))) u:=by
 cases hr with
 | arr hid hlen hmax =>
   obtain ⟨hbase,hpm,how,cur,hcur,hl,hcs⟩:=hs.h.obj id _ hobj
   have hle:0+len * sz≤cs.length:=by rw [← hfull,Nat.zero_add];exact Nat.mul_le_mul_right _ hlen
   rw [← Nat.zero_add (len * sz)] at hk hrf ⊢
   let c1:Ctx:=c.setB (c.ob id) (0+len * sz) tk
   have hlt:=hs.h.lt id hid
   have he : Ext c w c1 w := {
    base:=rfl,os:=rfl,tape:=rfl,output:=rfl,size:=Nat.le_refl _,below:=fun _ _=>rfl,cell:=fun _ _ _ h=>h
    pm:=fun k _=>by
     simp only [c1,Ctx.setB]
     split
     ·rename_i hh;subst hh;rw [hpm];exact Nat.zero_le _
     ·exact Nat.le_refl _
    pmb:=fun k hk=>by simp only [c1,Ctx.setB];rw [if_neg (fun e=>hk (by rw [e];exact hbase))]
    owb:=fun k hk=>by simp only [c1,Ctx.setB];rw [if_neg (fun e=>hk (by rw [e];exact hbase))]
    no:=Nat.le_refl _
    ob:=fun _ _=>rfl
    dfr:=fun _ h=>h }
   have hkp:Keeps c w c1 w none:=by
    intro g cur0 e0 _ hg hne
    have hgn:g≠c.ob id:=by intro hh;subst hh;rw [how] at hne;exact hne rfl
    exact ⟨hg,by simp only [c1,Ctx.setB];rw [if_neg hgn],by simp only [c1,Ctx.setB];rw [if_neg hgn]⟩
   have hcell:∀ j y,(AV.weakL (cs.take (0+len * sz)))[j]?=some y→∃ u,w.cell? ⟨c1.ob id,j,none⟩=some u∧c1.prot ⟨c1.ob id,j,none⟩∧u.oneCell'=true∧Rep c1 w y u:=by
    intro j y hj
    rw [vf9] at hj
    obtain ⟨z,hz,rfl⟩:=Option.map_eq_some_iff.1 hj
    have hjm:j < 0+len * sz:=by
     have:=(List.getElem?_eq_some_iff.1 hz).1
     simp at this;omega
    rw [List.getElem?_take,if_pos hjm] at hz
    have hjl:=(List.getElem?_eq_some_iff.1 hz).1
    obtain ⟨r1,_,r3⟩:=hcs j z hz
    refine ⟨cur.getD j undef,?_,?_,r3,(r1.mono he).weak⟩
    ·show w.cell? ⟨c.ob id,j,none⟩=_
     simp only [World.cell?,hcur,Option.isSome_none,Bool.false_eq_true,if_false]
     rw [Array.getD_eq_getD_getElem?,Array.getElem?_eq_getElem (by omega)]
     rfl
    ·show j < (if c.ob id=c.ob id then _ else _)
     rw [if_pos rfl];exact hjm
   have hfin:SimSt P c1 w { s with h:=s.h.set id (.froz ty (AV.weakL (cs.take (0+len * sz)))) } a:=by
    refine ⟨hs.n,hs.base,hs.fr.mono (T:=none) he hkp,⟨by rw [List.length_set];exact hs.h.no,hs.h.lt,hs.h.inj,?_⟩,hs.dfr.mono he⟩
    intro i o ho
    rw [List.getElem?_set] at ho
    split at ho
    ·rename_i hi
     subst hi
     split at ho
     ·cases ho;exact hcell
     ·cases ho
    ·rename_i hi
     have hi':i < c.no:=by rw [hs.h.no];exact (List.getElem?_eq_some_iff.1 ho).1
     refine xn9.mono (P:=P) (T:=none) he hkp hi' (hs.h.obj i o ho) (fun _=>⟨rfl,?_,?_⟩) <;> simp only [c1,Ctx.setB] <;> rw [if_neg (hs.h.inj i id hi' hid (Ne.symm hi))]
   have hlt2:(AV.weakL (cs.take (0+len * sz))).length=0+len * sz:=by rw [xg9,List.length_take];omega
   have hrep:=vw8 (c:=c1) (w:=w) (id:=id) (off:=0) (len:=len) (cap:=cap) (o:=.tip ty tk) hsz hag (by rw [hlt2];exact Nat.le_refl _) (by rw [zb8];exact hk) (weakL_rf _ hrf) hcell (fun h=>by omega) hlen hmax
   rw [List.drop_zero] at hrep
   refine ⟨c1,he,hkp,hfin,hrep,.tip (by omega) (us9 hty).symm (.inr ⟨c.ob id,cur,rfl,hbase,hcur,?_,?_,?_,?_⟩)⟩
   ·rw [us9 hty,hfull,hl]
   ·simp only [c1,Ctx.setB];rw [if_pos trivial,us9 hty,Nat.zero_add]
   ·simp only [c1,Ctx.setB];rw [if_pos trivial]
   ·intro v hv
    obtain ⟨j,hj,rfl⟩:=Array.mem_iff_getElem.1 hv
    have hj2:j < cs.length:=by rw [hl];exact hj
    have:=(hcs j _ (List.getElem?_eq_getElem hj2)).2.2
    rwa [Array.getD_eq_getD_getElem?,Array.getElem?_eq_getElem hj] at this
theorem W_tip {code : Code} {Q : Exit → St → Prop} {s : St} (i : Nat) {id len cap tk ty sz : Nat} {ag : Bool} {cs : List AV} (hg : getF s.fr i = some (.arr id 0 len cap)) (htk : tk % 2 = 1) (hobj : s.h[id]? = some (.cells ty cs)) (hty : tyI P ty = some (ag, sz)) (hsz : 0 < sz) (hag : ag = true ∨ sz = 1)
  (hfull:cap * sz=cs.length) (hk:AV.koneL (cs.take (len * sz))=true) (hrf:AV.rfL (cs.take (len * sz))=true)
  (h:Wt top kf P code Q ⟨s.n,putF s.fr i (.lst (.tip ty tk) sz (chunk ag sz len (AV.weakL (cs.take (len * sz))))),s.h.set id (.froz ty (AV.weakL (cs.take (len * sz))))⟩):Wt top kf P code Q s:=by
 intro F n c w a hF hs
 obtain ⟨u,hu,hr,_⟩:=hs.fr i _ hg
 obtain ⟨c',he,hk2,hs',hr',ho'⟩:=tipArr_sound hs htk hobj hty hsz hag hfull hk hrf hr
 have hs2:=us8 hs' i hu hr' ho'
 have he':=he.toK hF.2.2
 refine wpIn_mono (h F n c' w a (hF.next he') hs2) ?_
 rintro e a' w' ⟨s',c2,q,k1,k2⟩
 exact ⟨s',c2,q,k1,he'.trans k2⟩
theorem ws6 {code : Code} {Q : Exit → St → Prop} {s : St} (i : Nat) {sz : Nat} (hg : getF s.fr i = some (.lst .any sz [])) (h1 : Wt top kf P code Q ⟨s.n, putF s.fr i (.lst .nil sz []), s.h⟩)
  (h2:∀ ad cap,cap≤maxLen→Wt top kf P code Q ⟨s.n,putF s.fr i (.v (.slice (some ad) 0 cap)),s.h⟩):Wt top kf P code Q s:=by
 intro F n c w a hF hs
 obtain ⟨u,hu,hr,_⟩:=hs.fr i _ hg
 obtain ⟨aa,n0,cap,ux,rfl,hn,hcap,hmax,hs0,hsx,hrx,hzx,hnil,hcx,hrr⟩:=xv9 hr
 have hn0:n0=0:=by simpa using hn.symm
 subst hn0
 cases aa with
 | none =>
  obtain ⟨_,hc0⟩:=hzx rfl
  subst hc0
  exact h1 F n c w a hF (us8 hs i hu (.lst (fun _=>undef) rfl (Nat.le_refl _) (Nat.zero_le _) (by simp) (by simp) rfl (fun _=>⟨rfl,rfl⟩) rfl (by simp) (by simp)) (.none rfl))
 | some ad=>exact h2 ad cap hmax F n c w a hF (us8 hs i hu (.v _) (.none rfl))
theorem W_unnil {code:Code} {Q:Exit→St→Prop} {s:St} (i sz:Nat) {ad:Addr} {cap:Nat} (hg:getF s.fr i=some (.v (.slice (some ad) 0 cap))) (hc:cap≤maxLen) (h:Wt top kf P code Q ⟨s.n,putF s.fr i (.lst .any sz []),s.h⟩):Wt top kf P code Q s:=by
 intro F n c w a hF hs
 obtain ⟨u,hu,hr,_⟩:=hs.fr i _ hg
 cases hr with
 | v=>exact h F n c w a hF (us8 hs i hu (.lst (fun _=>undef) rfl (Nat.zero_le _) hc (by simp) (by simp) rfl (fun e=>by cases e) trivial (by simp) (by simp)) (.none rfl))
end
theorem vs9 {c1 c2:Code} {Q:Exit→St→Prop} {s:St} {top:Bool} {kf:Nat} {P:Program} (K:St→Prop) (h1:Wt top kf P c1 (zw9 K fun _ _=>False) s) (h2:∀ s,K s→Wt top kf P c2 Q s):Wt top kf P (.seq c1 c2) Q s:=by
 refine yh9 (h1.mono fun e s h=>?_)
 cases e with
 | normal=>exact h2 s h
 | _=>exact h.elim
theorem jk7 {c1 c2:Code} {Q:Exit→St→Prop} {s:St} {top:Bool} {kf:Nat} {P:Program} (K:St→Prop) (h1:Wt top kf P c1 (zw9 K Q) s) (h2:∀ s,K s→Wt top kf P c2 Q s):Wt top kf P (.seq c1 c2) Q s:=by
 refine yh9 (h1.mono fun e s h=>?_)
 cases e with
 | normal=>exact h2 s h
 | _=>exact h
theorem W_lastC {c1:Code} {Q:Exit→St→Prop} {s:St} {top:Bool} {kf:Nat} {P:Program} (K:St→Prop) (h1:Wt top kf P c1 (zw9 K fun _ _=>False) s) (h2:∀ s,K s→Q .normal s):Wt top kf P c1 Q s:=by
 refine h1.mono fun e s h=>?_
 cases e with
 | normal=>exact h2 s h
 | _=>exact h.elim
theorem W_lastK {c1:Code} {Q:Exit→St→Prop} {s:St} {top:Bool} {kf:Nat} {P:Program} (K:St→Prop) (h1:Wt top kf P c1 (zw9 K Q) s) (h2:∀ s,K s→Q .normal s):Wt top kf P c1 Q s:=by
 refine h1.mono fun e s h=>?_
 cases e with
 | normal=>exact h2 s h
 | _=>exact h
theorem W_perm {c1:Code} {Q:Exit→St→Prop} {n:Nat} {fr fr':List (Nat × AV)} {h:List AObj} {top:Bool} {kf:Nat} {P:Program} (hg:∀ i,getF fr' i=getF fr i) (h1:Wt top kf P c1 Q ⟨n,fr',h⟩):Wt top kf P c1 Q ⟨n,fr,h⟩ :=
 W_conv (t:=⟨n,fr',h⟩) (fun c w a hs=>⟨hs.n,hs.base,fun i x hx=>hs.fr i x (by rw [← hg i];exact hx),hs.h,hs.dfr⟩) h1
end Go.AM
namespace Go.AM
open Go.RowKit
set_option linter.unusedSimpArgs false
section
variable {P : Program} {top : Bool} {kf : Nat}
theorem Rep.maxLen {c:Ctx} {w:World} {o:Fl} {s:Nat} {xs:List AV} {u:Value} (h:Rep c w (.lst o s xs) u):xs.length≤maxLen:=by
 obtain ⟨_,n,cap,_,_,h1,h2,h3,_⟩:=xv9 h
 omega
def FrOk : List (Nat × AV) → List (Nat × AV) → Prop
 | [],_=>True
 | (i,x) :: l,fr=>getF fr i=some x∧FrOk l fr
theorem FrOk.get {l fr:List (Nat × AV)} (h:FrOk l fr) {i:Nat} {x:AV} (hx:getF l i=some x):getF fr i=some x:=by
 induction l with
 | nil=>simp [getF] at hx
 | cons p l ih =>
  obtain ⟨j,y⟩:=p
  simp only [getF] at hx
  split at hx
  ·rename_i e;cases hx;subst e;exact h.1
  ·exact ih h.2 hx
def AtS (n:Nat) (l:List (Nat × AV)) (H:List AObj) (s:St):Prop:=s.n=n∧s.h=H∧FrOk l s.fr
theorem W_at {code:Code} {Q:Exit→St→Prop} {s:St} {n:Nat} {l:List (Nat × AV)} {H:List AObj} (h:AtS n l H s) (hw:Wt top kf P code Q ⟨n,l,H⟩):Wt top kf P code Q s:=by
 obtain ⟨sn,fr,sh⟩:=s
 obtain ⟨h1,h2,h3⟩:=h
 simp only at h1 h2 h3
 subst h1 h2
 exact W_conv (t:=⟨sn,l,sh⟩) (fun c w a hs=>⟨hs.n,hs.base,fun i x hx=>hs.fr i x (h3.get hx),hs.h,hs.dfr⟩) hw
theorem W_tok {code : Code} {Q : Exit → St → Prop} {s : St} (i e T U : Nat) {sz : Nat} {xs : List AV} (hg : getF s.fr i = some (.lst (.tip e T) sz xs)) (hU : U % 2 = 1)
  (h:Wt top kf P code Q ⟨s.n,putF (qn7 T s.fr) i (.lst (.tip e U) sz xs),s.h.map (AObj.kill T)⟩):Wt top kf P code Q s:=by
 intro F n c w a hF hs
 obtain ⟨u,hu,hr,ho⟩:=hs.fr i _ hg
 obtain ⟨c',hc'⟩:∃ c':Ctx,c'={ c with ow:=fun g=>open Classical in if c.base g∧c.ow g=T then U else c.ow g }:=⟨_,rfl⟩
 have hT0:T≠0:=by
  cases ho with
  | none h=>simp [AV.tl] at h
  | tip hT _ _=>exact hT
 have he:Ext c w c' w:=by
  subst hc'
  refine ⟨rfl,rfl,rfl,rfl,Nat.le_refl _,fun _ _=>rfl,fun _ _ _ h=>h,fun _ _=>Nat.le_refl _,fun _ _=>rfl,?_,Nat.le_refl _,fun _ _=>rfl,fun _ h=>h⟩
  intro b hb
  simp [hb]
 have hk:Keeps c w c' w (some T):=by
  intro g cur e hg hc hne
  refine ⟨hc,by subst hc';rfl,?_⟩
  subst hc'
  simp only [Option.getD_some] at hne
  simp only
  rw [if_neg]
  rintro ⟨_,h⟩
  exact hne h.symm
 have hs1:=hs.mono he hk (by subst hc';rfl) (by
  intro j o hj hl
  obtain ⟨h1,h2,h3⟩:=hs.h.live hj hl
  refine ⟨rfl,by subst hc';rfl,?_⟩
  subst hc'
  simp only
  rw [if_neg]
  rintro ⟨_,h⟩
  omega)
 have ho':Own P c' w (.lst (.tip e U) sz xs) u:=by
  cases ho with
  | none h=>simp [AV.tl] at h
  | tip hT hsz ht =>
   refine .tip (by omega) hsz ?_
   rcases ht with h | ⟨g,cur,h1,h2,h3,h4,h5,h6,h7⟩
   ·exact .inl h
   ·refine .inr ⟨g,cur,h1,by subst hc';exact h2,h3,h4,by subst hc';exact h5,?_,h7⟩
    subst hc'
    simp [h2,h6]
 have hr':Rep c' w (.lst (.tip e U) sz xs) u:=(hr.mono he).lst_flag fun _ hT2=>by omega
 have hs2:SimSt P c' w ⟨s.n,putF (qn7 T s.fr) i (.lst (.tip e U) sz xs),s.h.map (AObj.kill T)⟩ a :=
  us8 (s:=⟨s.n,qn7 T s.fr,s.h.map (AObj.kill T)⟩) hs1 i hu hr' ho'
 have he':=he.toK hF.2.2
 refine wpIn_mono (h F n c' w a (hF.next he') hs2) ?_
 rintro e a' w' ⟨s',c2,q,k1,k2⟩
 exact ⟨s',c2,q,k1,he'.trans k2⟩
end
end Go.AM
namespace Go.AM
open Go.RowKit
set_option linter.unusedSimpArgs false
class Enc (α:Type) where
 enc:α→AV
 sz:Nat
 pos:0 < sz
 ck:∀ x,(enc x).cellsK=some (enc x).cells
 len:∀ x,(enc x).cells.length=sz
 rf:∀ x,(enc x).rf=true
 dp:∀ x,(enc x).dp=enc x
 weak:∀ x,(enc x).weak=enc x
section
variable {α : Type} [Enc α]
def encs (l:List α):List AV:=l.map Enc.enc
@[simp] theorem encs_nil:encs ([]:List α)=[]:=rfl
theorem encs_cons (b:α) (L:List α):encs (b :: L)=Enc.enc b :: encs L:=rfl
@[simp] theorem dpL_encs (L:List α):AV.dpL (encs L)=encs L:=by
 induction L with
 | nil=>rfl
 | cons x L ih=>simp [encs_cons,AV.dpL,Enc.dp,ih]
end
@[simp] theorem rf_lst (o:Fl) (s:Nat) (xs:List AV):AV.rf (.lst o s xs)=true:=rfl
instance:Enc Int:=⟨fun n=>.v (.int .i64 n),1,Nat.one_pos,fun _=>by simp,fun _=>rfl,fun _=>rfl,fun _=>rfl,fun _=>rfl⟩
instance:Enc UInt8:=⟨fun b=>.v (.int .u8 b.toNat),1,Nat.one_pos,fun _=>by simp,fun _=>rfl,fun _=>rfl,fun _=>rfl,fun _=>rfl⟩
instance:Enc Bool:=⟨fun b=>.v (.bool b),1,Nat.one_pos,fun _=>by simp,fun _=>rfl,fun _=>rfl,fun _=>rfl,fun _=>rfl⟩
instance {α:Type} [Enc α]:Enc (List α):=⟨fun l=>.lst .any (Enc.sz α) (encs l),1,Nat.one_pos,fun _=>by simp,fun _=>rfl,fun _=>rfl,fun l=>by simp [AV.dp],fun _=>rfl⟩
@[simp] theorem enc_list {α:Type} [Enc α] (l:List α):Enc.enc l=.lst .any (Enc.sz α) (encs l):=rfl
@[simp] theorem enc_int (n:Int):Enc.enc n=.v (.int .i64 n):=rfl
@[simp] theorem enc_u8 (b:UInt8):Enc.enc b=.v (.int .u8 b.toNat):=rfl
@[simp] theorem enc_bool (b:Bool):Enc.enc b=.v (.bool b):=rfl
@[simp] theorem sz_u8:Enc.sz UInt8=1:=rfl
@[simp] theorem sz_int:Enc.sz Int=1:=rfl
@[simp] theorem sz_bool:Enc.sz Bool=1:=rfl
@[simp] theorem sz_list {α:Type} [Enc α]:Enc.sz (List α)=1:=rfl
@[simp] theorem encs_byL (l:List UInt8):encs l=byL l:=rfl
@[simp] theorem encs_bbL (l:List (List UInt8)):encs l=bbL l:=rfl
structure Str where
 b:List UInt8
deriving DecidableEq
instance:Enc Str:=⟨fun s=>.v (.string ⟨s.b.toArray⟩),1,Nat.one_pos,fun _=>by simp,fun _=>rfl,fun _=>rfl,fun _=>rfl,fun _=>rfl⟩
@[simp] theorem enc_str (s:Str):Enc.enc s=.v (.string ⟨s.b.toArray⟩):=rfl
@[simp] theorem sz_str:Enc.sz Str=1:=rfl
end Go.AM
