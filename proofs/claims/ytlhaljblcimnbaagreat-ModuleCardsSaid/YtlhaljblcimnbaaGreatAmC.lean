/- The abstract machine: runs by computation, and the step to a given statement. -/
import Derived.Carry
import Derived.ChangeArms
import Derived.Deep.Slices
import Derived.ProofKit
import Derived.SizedLaws
import Derived.Test.YtlhaljblcimnbaaGreatAmB
set_option linter.unusedVariables false
set_option linter.unusedSimpArgs false
set_option linter.unusedSimpArgs false
set_option linter.unusedVariables false
namespace Go.AM
open Go.RowKit
def sw (i j k:Nat):Nat:=if k=i then j else if k=j then i else k
theorem sw_sw (i j k:Nat):sw i j (sw i j k)=k:=by unfold sw;split <;> split <;> (try split) <;> omega
theorem wf5 {i j k N:Nat} (h:k < N) (hj:j < N) (hi:i < N):sw i j k < N:=by unfold sw;split <;> (try split) <;> omega
theorem sw_inj {i j a b:Nat} (h:sw i j a=sw i j b):a=b:=by have:=congrArg (sw i j) h;rwa [sw_sw,sw_sw] at this
mutual
def AV.sw (i j : Nat) : AV → AV
 | .loc k o=>.loc (Go.AM.sw i j k) o
 | .arr k o l c=>.arr (Go.AM.sw i j k) o l c
 | .mp k=>.mp (Go.AM.sw i j k)
 | .yld k=>.yld (Go.AM.sw i j k)
 | .fn f a b=>.fn f (swL i j a) (swL i j b)
 | .agg xs=>.agg (swL i j xs)
 | .tup xs=>.tup (swL i j xs)
 | x=>x
def AV.swL (i j : Nat) : List AV → List AV
 | []=>[]
 | x :: xs=>AV.sw i j x :: AV.swL i j xs
end
theorem uv8 (i j:Nat) (xs:List AV) (k:Nat):(AV.swL i j xs)[k]?=(xs[k]?).map (AV.sw i j):=by
 induction xs generalizing k with
 | nil=>simp [AV.swL]
 | cons x xs ih=>cases k <;> simp [AV.swL,ih]
theorem ws8 (i j:Nat) (xs:List AV):(AV.swL i j xs).length=xs.length:=by
 induction xs <;> simp_all [AV.swL]
mutual
theorem tl_sw (i j : Nat) : (x : AV) → x.tl = true → (x.sw i j).tl = true
 | .lst _ _ _,h=>h
 | .agg xs,h=>tlL_sw i j xs h
 | .tup xs,h=>tlL_sw i j xs h
 | .any,_=>rfl
 | .v _,_=>rfl
 | .ro _,_=>rfl
 | .loc _ _,_=>rfl
 | .arr _ _ _ _,_=>rfl
 | .fn _ _ _,_=>rfl
 | .mp _,_=>rfl
 | .yld _,_=>rfl
theorem tlL_sw (i j : Nat) : (xs : List AV) → AV.tlL xs = true → AV.tlL (AV.swL i j xs) = true
 | [],_=>rfl
 | x :: xs,h=>by
  simp only [AV.tlL,Bool.and_eq_true] at h
  simp only [AV.swL,AV.tlL,tl_sw i j x h.1,tlL_sw i j xs h.2,Bool.and_self]
end
def Ctx.sw (i j:Nat) (c:Ctx):Ctx:={ c with ob:=fun k=>c.ob (Go.AM.sw i j k) }
theorem Rep.sw {i j:Nat} {c:Ctx} {w:World} (hi:i < c.no) (hj:j < c.no) {x:AV} {u:Value} (h:Rep c w x u):Rep (c.sw i j) w (x.sw i j) u:=by
 have hp:∀ a,c.prot a→(c.sw i j).prot a:=fun a h=>h
 have ho:∀ k,(c.sw i j).ob (Go.AM.sw i j k)=c.ob k:=fun k=>by simp only [Ctx.sw,sw_sw]
 induction h with
 | lst u hn hcap hmax hs hsz hrf hz hnil hc hr _=>exact (Rep.lst u hn hcap hmax hs hsz hrf hz hnil hc hr).recast hp rfl
 | ro u hrf hc hr _=>exact (Rep.ro u hrf hc hr).recast hp rfl
 | @loc id off h=>rw [← ho id];exact .loc (wf5 h hj hi)
 | @arr id off len cap h h1 h2=>rw [← ho id];exact .arr (wf5 h hj hi) h1 h2
 | @mp id h=>rw [← ho id];exact .mp (wf5 h hj hi)
 | @yld id h=>rw [← ho id];exact .yld (wf5 h hj hi)
 | fn h1 h2 _ _ i1 i2 =>
  refine .fn (by rw [ws8];exact h1) (by rw [ws8];exact h2) (fun k y hk=>?_) (fun k y hk=>?_)
  ·rw [uv8] at hk
   obtain ⟨x,hx,rfl⟩:=Option.map_eq_some_iff.1 hk
   exact i1 k x hx
  ·rw [uv8] at hk
   obtain ⟨x,hx,rfl⟩:=Option.map_eq_some_iff.1 hk
   exact i2 k x hx
 | agg h _ ih =>
  refine .agg (by rw [ws8];exact h) fun k y hk=>?_
  rw [uv8] at hk
  obtain ⟨x,hx,rfl⟩:=Option.map_eq_some_iff.1 hk
  exact ih k x hx
 | tup h _ ih =>
  refine .tup (by rw [ws8];exact h) fun k y hk=>?_
  rw [uv8] at hk
  obtain ⟨x,hx,rfl⟩:=Option.map_eq_some_iff.1 hk
  exact ih k x hx
 | any u=>exact .any u
 | v x=>exact .v x
theorem Own.sw {P:Program} {i j:Nat} {c:Ctx} {w:World} {x:AV} {u:Value} (h:Own P c w x u):Own P (c.sw i j) w (x.sw i j) u:=by
 induction h with
 | @none x u h=>exact .none (tl_sw i j x h)
 | tip hT hs h=>exact .tip hT hs h
 | agg h ih =>
  refine .agg fun k y hk=>?_
  rw [uv8] at hk
  obtain ⟨x,hx,rfl⟩:=Option.map_eq_some_iff.1 hk
  exact ih k x hx
 | tup h ih =>
  refine .tup fun k y hk=>?_
  rw [uv8] at hk
  obtain ⟨x,hx,rfl⟩:=Option.map_eq_some_iff.1 hk
  exact ih k x hx
def AObj.sw (i j : Nat) : AObj → AObj
 | .cells ty cs=>.cells ty (AV.swL i j cs)
 | .froz ty cs=>.froz ty (AV.swL i j cs)
 | .map es=>.map (es.map fun p=>(p.1,p.2.sw i j))
 | .loop n fr ps as body st=>.loop n (fr.map fun p=>(p.1,p.2.sw i j)) ps as body st
 | .dead=>.dead
theorem um4 (i j:Nat) (fr:List (Nat × AV)) (k:Nat):getF (fr.map fun p=>(p.1,p.2.sw i j)) k=(getF fr k).map (AV.sw i j):=by
 induction fr with
 | nil=>rfl
 | cons p l ih =>
  obtain ⟨a,x⟩:=p
  simp only [List.map_cons,getF,ih]
  split <;> rfl
def swSt (i j:Nat) (s:St):St:=⟨s.n,s.fr.map fun p=>(p.1,p.2.sw i j),((s.h.set i (s.h.getD j .dead)).set j (s.h.getD i .dead)).map (AObj.sw i j)⟩
theorem jj4 {i j:Nat} {s:St} (hi:i < s.h.length) (hj:j < s.h.length) (k:Nat):(swSt i j s).h[k]?=(s.h[sw i j k]?).map (AObj.sw i j):=by
 simp only [swSt,List.getElem?_map]
 congr 1
 rw [List.getElem?_set,List.getElem?_set]
 simp only [List.length_set]
 unfold sw
 by_cases h1:k=i
 ·subst h1
  by_cases h2:j=k
  ·subst h2;simp [hj]
  ·rw [if_neg h2,if_pos rfl,if_pos hi,if_pos rfl];simp [hj]
 ·by_cases h2:k=j
  ·subst h2;rw [if_pos rfl,if_pos hj,if_neg h1,if_pos rfl];simp [hi]
  ·rw [if_neg (fun e=>h2 e.symm),if_neg (fun e=>h1 e.symm),if_neg h1,if_neg h2]
section
variable {P : Program}
theorem wj9.sw {i j:Nat} {c:Ctx} {w:World} (hi:i < c.no) (hj:j < c.no) {k:Nat} {o:AObj} (h:wj9 P c w (Go.AM.sw i j k) o):wj9 P (c.sw i j) w k (o.sw i j):=by
 cases o with
 | cells ty cs =>
  obtain ⟨h1,h2,h3,cur,h4,h5,h6⟩:=h
  refine ⟨h1,h2,h3,cur,h4,by rw [ws8];exact h5,fun m y hm=>?_⟩
  rw [uv8] at hm
  obtain ⟨x,hx,rfl⟩:=Option.map_eq_some_iff.1 hm
  obtain ⟨k1,k2,k3⟩:=h6 m x hx
  exact ⟨k1.sw hi hj,k2.sw,k3⟩
 | froz ty cs =>
  intro m y hm
  rw [uv8] at hm
  obtain ⟨x,hx,rfl⟩:=Option.map_eq_some_iff.1 hm
  obtain ⟨u,k1,k2,k3,k4⟩:=h m x hx
  exact ⟨u,k1,k2,k3,k4.sw hi hj⟩
 | map es =>
  obtain ⟨h1,h2,h3,cur,clock,h4,h5,h6⟩:=h
  refine ⟨h1,h2,h3,cur,clock,h4,by rw [List.length_map];exact h5,fun m key y hm=>?_⟩
  rw [List.getElem?_map] at hm
  obtain ⟨x,hx,he⟩:=Option.map_eq_some_iff.1 hm
  cases he
  obtain ⟨e,k1,k2,k3⟩:=h6 m x.1 x.2 hx
  exact ⟨e,k1,k2,k3.sw hi hj⟩
 | loop n fr ps as body st =>
  obtain ⟨h1,h2,h3,r,h4,h5,h6,h7⟩:=h
  refine ⟨h1,h2,h3,r,h4,h5,fun m x hm=>?_,h7⟩
  rw [um4] at hm
  obtain ⟨y,hy,rfl⟩:=Option.map_eq_some_iff.1 hm
  obtain ⟨k1,u,k2,k3⟩:=h6 m y hy
  exact ⟨tl_sw i j y k1,u,k2,k3.sw hi hj⟩
 | dead=>trivial
theorem SimSt.sw {i j:Nat} {c:Ctx} {w:World} {s:St} {a:Act} (hs:SimSt P c w s a) (hi:i < s.h.length) (hj:j < s.h.length):SimSt P (c.sw i j) w (swSt i j s) a:=by
 have hi':i < c.no:=by rw [hs.h.no];exact hi
 have hj':j < c.no:=by rw [hs.h.no];exact hj
 refine ⟨hs.n,hs.base,fun k x hk=>?_,⟨?_,fun k hk=>hs.h.lt _ (wf5 hk hj' hi'),fun a b ha hb hne=>hs.h.inj _ _ (wf5 ha hj' hi') (wf5 hb hj' hi') fun e=>hne (sw_inj e),fun k o hk=>?_⟩,hs.dfr⟩
 ·simp only [swSt,um4] at hk
  obtain ⟨y,hy,rfl⟩:=Option.map_eq_some_iff.1 hk
  obtain ⟨u,h1,h2,h3⟩:=hs.fr k y hy
  exact ⟨u,h1,h2.sw hi' hj',h3.sw⟩
 ·simp only [swSt,List.length_map,List.length_set];exact hs.h.no
 ·rw [jj4 hi hj] at hk
  obtain ⟨o',ho,rfl⟩:=Option.map_eq_some_iff.1 hk
  exact (hs.h.obj _ _ ho).sw hi' hj'
def Seen (P:Program) (N:Nat) (s t:St):Prop:=∀ (c:Ctx) (w:World) (a:Act),SimSt P c w s a→∃ c':Ctx,(∀ (c0:Ctx) (w0:World),c0.no≤N→Ext c0 w0 c w→Ext c0 w0 c' w)∧SimSt P c' w t a
theorem Seen.refl (N:Nat) (s:St):Seen P N s s:=fun c w a hs=>⟨c,fun _ _ _ h=>h,hs⟩
theorem Seen.sw {N i j:Nat} {s:St} (hi:N≤i) (hj:N≤j) (hi':i < s.h.length) (hj':j < s.h.length):Seen P N s (swSt i j s):=by
 intro c w a hs
 refine ⟨c.sw i j,fun c0 w0 hN he=>?_,hs.sw hi' hj'⟩
 exact { base := he.base, os := he.os, tape := he.tape, output := he.output, size := he.size, below := he.below, cell := he.cell, pm := he.pm, pmb := he.pmb, owb := he.owb, no := he.no, dfr := he.dfr
         ob:=fun id hid=>(by have h1:=he.ob id hid;simp only [Ctx.sw,Go.AM.sw];rw [if_neg (by omega),if_neg (by omega)];exact h1) }
def jh5 (P:Program) (ops:List Oper) (o:Oper) (s:St) (e:Eff):Prop:=e.2.1=s.h∧e.2.2=none∧∀ h2,ER P ops o (setH s h2) (e.1,h2,none)
def xb7 (P:Program) (ro:Bool) (ops:List Oper) (o:Oper) (s:St) (K:St→Prop):Prop:=∃ e s',ER P ops o s e∧app e o.dst s=some s'∧(ro=true→jh5 P ops o s e)∧K s'
theorem xb7.E {ro:Bool} {ops:List Oper} {o:Oper} {s:St} {K:St→Prop} (h:xb7 P ro ops o s K):jp9 P ops o s K:=let ⟨e,s',h1,h2,_,h4⟩:=h;⟨e,s',h1,h2,h4⟩
theorem xv7 {ro:Bool} {ops:List Oper} {o:Oper} {s:St} {K K':St→Prop} (hk:∀ s,K s→K' s) (h:xb7 P ro ops o s K):xb7 P ro ops o s K':=let ⟨e,s',h1,h2,h3,h4⟩:=h;⟨e,s',h1,h2,h3,hk _ h4⟩
theorem jg5 {ops:List Oper} {o:Oper} {s:St} {e:Eff} (h5:dcls o≠5) (h9:dcls o≠9) (h:ER P ops o s e):e.2.2=none:=by
 rcases yn8 h with ⟨_,h⟩ | ⟨_,h,_⟩ | ⟨h,_⟩ | ⟨_,h⟩ | h
 ·exact h
 ·exact h
 ·exact absurd h h5
 ·exact h
 ·exact absurd h h9
theorem swapC {ops : Array Oper} {oi oj : Oper} (hap : oi.apart ops oj = true) (h5 : dcls oj ≠ 5) (h9 : dcls oj ≠ 9) {s s1 s2 : St} {ei ej : Eff}
  (hi:ER P ops.toList oi s ei) (hc:jh5 P ops.toList oi s ei) (ai:app ei oi.dst s=some s1) (hj:ER P ops.toList oj s1 ej) (aj:app ej oj.dst s1=some s2) :
  ∃ s1' s2',ER P ops.toList oj s ej∧app ej oj.dst s=some s1'∧ER P ops.toList oi s1' (ei.1,s1'.h,none)∧app (ei.1,s1'.h,none) oi.dst s1'=some s2'∧jh5 P ops.toList oi s1' (ei.1,s1'.h,none)∧Eqv s2 s2':=by
 obtain ⟨h1,h2,h3⟩:=Oper.apart_spec hap
 obtain ⟨di,n1,hh1,g1⟩:=xk9 ai
 obtain ⟨dj,n2,hh2,g2⟩:=xk9 aj
 obtain ⟨q1,q2,q3⟩:=hc
 have hT:=jg5 h5 h9 hj
 have dj':∀ d,oj.dst=some d→d < s.n:=fun d hd=>by rw [← n1];exact dj d hd
 have lookJ:∀ (t u:St),(∀ i,i∈oj.looksAt ops→oi.dst≠some i→getF t.fr i=getF u.fr i)→Looks ops oj t u:=fun t u h d hd=>h d hd fun e=>h1 d e hd
 have lookI:∀ (t u:St),(∀ i,i∈oi.looksAt ops→oj.dst≠some i→getF t.fr i=getF u.fr i)→Looks ops oi t u:=fun t u h d hd=>h d hd fun e=>h3 d e hd
 have apartD:∀ i,oi.dst=some i→oj.dst≠some i:=h2
 have hJ:ER P ops.toList oj s ej:=wn9 (lookJ s1 s fun i _ hne=>by rw [g1,if_neg hne,q2,zf9]) (by rw [hh1,q1]) hj
 obtain ⟨s1',as1⟩:=kc9 (e:=ej) dj'
 obtain ⟨_,n1',hh1',g1'⟩:=xk9 as1
 have hC:∀ h2,ER P ops.toList oi (setH s1' h2) (ei.1,h2,none):=fun h2 =>
  wn9 (s:=setH s h2) (lookI _ _ fun i _ hne=>by show getF s.fr i=getF s1'.fr i;rw [g1',if_neg hne,hT,zf9]) rfl (q3 h2)
 have hI:ER P ops.toList oi s1' (ei.1,s1'.h,none):=hC s1'.h
 obtain ⟨s2',as2⟩:=kc9 (e:=(ei.1,s1'.h,none)) (dst:=oi.dst) (s:=s1') (fun d hd=>by rw [n1'];exact di d hd)
 obtain ⟨_,n2',hh2',g2'⟩:=xk9 as2
 refine ⟨s1',s2',hJ,as1,hI,as2,⟨rfl,rfl,hC⟩,by rw [n2,n1,n2',n1'],by rw [hh2,hh2',hh1'],fun i=>?_⟩
 rw [g2,g2',g1,g1',hT]
 simp only [zf9,q2]
 by_cases hi':oi.dst=some i
 ·rw [if_neg (apartD i hi'),if_pos hi',if_pos hi']
 ·rw [if_neg hi',if_neg hi']
theorem jv5 {o:Oper} {s:St} {e:Eff} (h6:dcls o=6) (h:evE P o s=some e) (z:AObj):evE P o (setH s (s.h++[z]))=some (e.1,e.2.1++[z],e.2.2)∧e.2.1.length=s.h.length:=by
 obtain ⟨dst,op,ty,pos,after,guard⟩:=o
 cases op
 case store t x y =>
  simp only [evE] at h ⊢
  obtain ⟨a,ha,h⟩:=Option.bind_eq_some_iff.1 h
  obtain ⟨b,hb,h⟩:=Option.bind_eq_some_iff.1 h
  obtain ⟨h',hst,rfl⟩:=Option.map_eq_some_iff.1 h
  have ha':(setH s (s.h++[z])).ev x=some a:=ha
  have hb':(setH s (s.h++[z])).evT P t y=some b:=hb
  rw [ha',hb']
  simp only [Option.bind_some]
  have hs:(setH s (s.h++[z])).h=s.h++[z]:=rfl
  rw [hs]
  unfold qw7 at hst ⊢
  split at hst
  ·rename_i szz id off htI hhh
   split at hst
   ·rename_i ty' cs h2
    have hl:id < s.h.length:=(List.getElem?_eq_some_iff.1 h2).1
    rw [List.getElem?_append_left hl,h2]
    dsimp only
    obtain ⟨ys,hys,hst⟩:=Option.bind_eq_some_iff.1 hst
    rw [hys]
    simp only [Option.bind_some]
    split at hst
    ·rename_i hc
     rw [if_pos hc]
     cases hst
     exact ⟨by simp [List.set_append,hl],by simp⟩
    ·cases hst
   ·cases hst
  ·cases hst
 case call c =>
  exfalso
  obtain ⟨callee,args,argTypes⟩:=c
  cases callee with
  | value f=>simp [dcls] at h6
  | invoke r m=>simp [dcls] at h6
  | builtin b=>cases b <;> simp [dcls] at h6
 all_goals (exfalso;simp [dcls] at h6)
theorem swapSA {ops : Array Oper} {oi oj : Oper} (hap : oi.apart ops oj = true) (h6 : dcls oi = 6) (h4 : dcls oj = 4) {s s1 s2 : St} {ei ej : Eff}
  (hi:ER P ops.toList oi s ei) (ai:app ei oi.dst s=some s1) (hj:ER P ops.toList oj s1 ej) (aj:app ej oj.dst s1=some s2) :
  ∃ ej' s1' ei' s2',ER P ops.toList oj s ej'∧app ej' oj.dst s=some s1'∧ER P ops.toList oi s1' ei'∧app ei' oi.dst s1'=some s2'∧Eqv s2 s2':=by
 have hi0:=hi
 rcases hi with ⟨g0,rfl⟩ | ⟨g0,⟨he,hn⟩ | ⟨h3,_⟩⟩
 ·obtain ⟨s1',s2',k1,k2,k3,k4,_,k6⟩:=swapC hap (by omega) (by omega) hi0 ⟨rfl,rfl,fun h2=>.inl ⟨g0,rfl⟩⟩ ai hj aj
  exact ⟨_,s1',_,s2',k1,k2,k3,k4,k6⟩
 ·obtain ⟨h1, h2, h3⟩ := Oper.apart_spec hap
  obtain ⟨di,n1,hh1,g1⟩:=xk9 ai
  obtain ⟨dj,n2,hh2,g2⟩:=xk9 aj
  have q2:=jg5 (by omega) (by omega) hi0
  have dj':∀ d,oj.dst=some d→d < s.n:=fun d hd=>by rw [← n1];exact dj d hd
  have lookJ:∀ (t u:St),(∀ i,i∈oj.looksAt ops→oi.dst≠some i→getF t.fr i=getF u.fr i)→Looks ops oj t u:=fun t u h d hd=>h d hd fun e=>h1 d e hd
  have lookI:∀ (t u:St),(∀ i,i∈oi.looksAt ops→oj.dst≠some i→getF t.fr i=getF u.fr i)→Looks ops oi t u:=fun t u h d hd=>h d hd fun e=>h3 d e hd
  have apartD:∀ i,oi.dst=some i→oj.dst≠some i:=h2
  have hgd:xg9 ops.toList s oj=xg9 ops.toList s1 oj:=(lookJ s s1 fun i _ hne=>by rw [g1,if_neg hne,q2,zf9]).guard
  rcases hj with ⟨kg,rfl⟩ | ⟨kg,kk⟩
  ·have hJ:ER P ops.toList oj s (.v undef,s.h,none):=.inl ⟨by rw [hgd];exact kg,rfl⟩
   obtain ⟨s1',as1⟩:=kc9 (e:=(.v undef,s.h,none)) dj'
   obtain ⟨_,n1',hh1',g1'⟩:=xk9 as1
   have hI:ER P ops.toList oi s1' ei:=wn9 (lookI s s1' fun i _ hne=>by rw [g1',if_neg hne,zf9]) hh1'.symm hi0
   obtain ⟨s2',as2⟩:=kc9 (e:=ei) (dst:=oi.dst) (s:=s1') (fun d hd=>by rw [n1'];exact di d hd)
   obtain ⟨_,n2',hh2',g2'⟩:=xk9 as2
   refine ⟨_,s1',_,s2',hJ,as1,hI,as2,by rw [n2,n1,n2',n1'],by rw [hh2,hh2',hh1],fun i=>?_⟩
   rw [g2,g2',g1,g1',q2]
   simp only [zf9]
   by_cases hi':oi.dst=some i
   ·rw [if_neg (apartD i hi'),if_pos hi',if_pos hi']
   ·rw [if_neg hi',if_neg hi']
  ·rcases yn8 (P := P) (.inr ⟨kg, kk⟩) with ⟨k1, _⟩ | ⟨_, k2, ty, cs, htl, k3, k4, k5⟩ | ⟨k1, _⟩ | ⟨k1, _⟩ | k1
   ·exfalso
    rcases kk with ⟨kk,_⟩ | ⟨kk,_⟩
    ·obtain ⟨ty, cs, htl, hh | hh⟩ := yp6 (P := P) h4
     ·rw [hh] at kk;cases kk
     ·rw [hh] at kk;cases kk
      exact absurd (congrArg List.length k1) (by simp)
    ·omega
   ·have hJ := k5 s (by rw [hgd]; exact kg)
    obtain ⟨s1',as1⟩:=kc9 (e:=(.loc s.h.length 0,s.h++[AObj.cells ty cs],none)) dj'
    obtain ⟨_,n1',hh1',g1'⟩:=xk9 as1
    obtain ⟨p1,p2⟩:=jv5 h6 he (AObj.cells ty cs)
    have hI:ER P ops.toList oi s1' (ei.1,ei.2.1++[AObj.cells ty cs],ei.2.2) :=
     wn9 (s:=setH s (s.h++[AObj.cells ty cs])) (lookI _ s1' fun i _ hne=>by rw [g1',if_neg hne,zf9];rfl) (by rw [hh1'];rfl) (.inr ⟨g0,.inl ⟨p1,ks8 (by omega)⟩⟩)
    obtain ⟨s2',as2⟩:=kc9 (e:=(ei.1,ei.2.1++[AObj.cells ty cs],ei.2.2)) (dst:=oi.dst) (s:=s1') (fun d hd=>by rw [n1'];exact di d hd)
    obtain ⟨_,n2',hh2',g2'⟩:=xk9 as2
    refine ⟨_,s1',_,s2',hJ,as1,hI,as2,by rw [n2,n1,n2',n1'],by rw [hh2,hh2',k4,hh1],fun i=>?_⟩
    rw [g2,g2',g1,g1',k2,k3,hh1,p2,q2]
    simp only [zf9]
    by_cases hi':oi.dst=some i
    ·rw [if_neg (apartD i hi'),if_pos hi',if_pos hi']
    ·rw [if_neg hi',if_neg hi']
   ·omega
   ·omega
   ·omega
 ·omega
def mayB (ro:Bool) (ops:Array Oper) (oi oj:Oper):Bool:=oi.apart ops oj&&(if ro then dcls oj != 5&&dcls oj != 9 else (kr9 (dcls oi) (dcls oj)&&dcls oi != 9&&dcls oj != 9) || (dcls oi == 6&&dcls oj == 4))
theorem xc7 {ro : Bool} {ops : Array Oper} {oi oj : Oper} (hm : mayB ro ops oi oj = true) {s : St} {K : St → Prop} (hK : Closed K)
  (h:xb7 P ro ops.toList oi s fun s1=>jp9 P ops.toList oj s1 K):jp9 P ops.toList oj s fun s1=>xb7 P ro ops.toList oi s1 K:=by
 obtain ⟨ei,s1,h1,h2,hc,ej,s2,h3,h4,h5⟩:=h
 simp only [mayB,Bool.and_eq_true] at hm
 cases ro with
 | true =>
  simp only [if_true,Bool.and_eq_true,bne_iff_ne,ne_eq] at hm
  obtain ⟨s1',s2',k1,k2,k3,k4,k5,k6⟩:=swapC hm.1 hm.2.1 hm.2.2 h1 (hc rfl) h2 h3 h4
  exact ⟨ej,s1',k1,k2,_,s2',k3,k4,fun _=>k5,hK _ _ k6 h5⟩
 | false =>
  simp only [Bool.false_eq_true,if_false,Bool.and_eq_true,Bool.or_eq_true,bne_iff_ne,ne_eq,beq_iff_eq] at hm
  obtain ⟨ej',s1',ei',s2',k1,k2,k3,k4,k5⟩:=hm.2.elim (fun h=>swap hm.1 h.1.1 ⟨h.1.2,h.2⟩ h1 h2 h3 h4) fun h=>swapSA hm.1 h.1 h.2 h1 h2 h3 h4
  exact ⟨ej',s1',k1,k2,ei',s2',k3,k4,fun h=>(by cases h),hK _ _ k5 h5⟩
def jh7 (ro:Nat→Bool) (ops:Array Oper) (listed:Array Bool) (I:List Nat) (i:Nat):Bool :=
 match ops[i]? with
 | none=>false
 | some oi=>(List.range ops.size).all fun j=>I.contains j || listed.getD j true || (I.any fun i'=>(qs7 i' ops.toList 0 0).testBit j) || match ops[j]? with
   | some oj=>mayB (ro i) ops oi oj&&(I.length == 1 || dcls oj != 3)
   | none=>true
theorem wc7 {ro : Nat → Bool} {ops : Array Oper} {listed : Array Bool} {I : List Nat} {i : Nat} {oi : Oper} (hi : ops[i]? = some oi) (h : jh7 ro ops listed I i = true) (j : Nat) (oj : Oper) (hj : ops[j]? = some oj)
  (hne:j ∉ I) (hun:listed.getD j true=false) (hw:∀ i'∈I,uw9 ops i' ops.size j=false):mayB (ro i) ops oi oj=true∧(I.length=1∨dcls oj≠3):=by
 simp only [jh7,hi,List.all_eq_true,List.mem_range] at h
 have h1:=h j (Array.getElem?_eq_some_iff.1 hj).1
 have hw':(I.any fun i'=>(qs7 i' ops.toList 0 0).testBit j)=false:=by
  rw [List.any_eq_false]
  intro i' hi' hb
  obtain ⟨h2,h3⟩:=zp8 (ops:=ops) ops.toList 0 0 rfl (by simp) j hb
  have:=hw i' hi'
  rw [jr9 (by omega) h3] at this;cases this
 simp only [hj,hw',hun,Bool.or_eq_true,Bool.and_eq_true,beq_iff_eq,bne_iff_ne,ne_eq,List.contains_iff_mem,hne,false_or,Bool.false_eq_true] at h1
 exact h1
theorem um8 {ops:Array Oper} {listed:Array Bool} {i j:Nat} (hcl:yf8 ops listed) (hi:i∈Region.ready .any ops listed) (hj:j∈Region.ready .any ops listed) (N:Nat):uw9 ops i N j=false:=by
 have hiun:listed.getD i false=false:=by
  have h0:=(mem_ready.1 hi).1
  rcases Nat.lt_or_ge i listed.size with h' | h'
  ·simp [h'] at h0 ⊢;exact h0
  ·simp [Array.getElem?_eq_none h']
 cases hwt:uw9 ops i N j with
 | false=>rfl
 | true =>
  exfalso
  cases N with
  | zero=>cases hwt
  | succ N =>
   obtain ⟨_,o,ho,hall⟩:=mem_ready.1 hj
   simp only [uw9,ho] at hwt
   obtain ⟨e,he,hb⟩:=Array.any_eq_true'.1 hwt
   simp only [Bool.and_eq_true,Bool.or_eq_true,beq_iff_eq] at hb
   have hl:=hall e he hb.1
   rcases hb.2 with h1 | h1
   ·rw [h1,hiun] at hl;cases hl
   ·have:=yk8 hcl N _ h1 hl
    rw [hiun] at this;cases this
theorem wv7 {ro:Nat→Bool} {ops:Array Oper} {listed:Array Bool} {I:List Nat} {i j:Nat} (h:jh7 ro ops listed I i=true):jh7 ro ops (listed.setIfInBounds j true) I i=true:=by
 unfold jh7 at *
 split at h
 ·cases h
 ·rename_i oi hoi
  simp only [List.all_eq_true,List.mem_range,Bool.or_eq_true] at h ⊢
  intro k hk
  rcases h k hk with ((h1 | h1) | h1) | h1
  ·exact .inl (.inl (.inl h1))
  ·refine .inl (.inl (.inr ?_))
   by_cases hkj:j=k
   ·subst hkj
    rcases Nat.lt_or_ge j listed.size with h' | h'
    ·simp [h']
    ·simp [h']
   ·rw [getD_set_ne true hkj];exact h1
  ·exact .inl (.inr h1)
  ·exact .inr h1
theorem anyA_one {ro : Nat → Bool} {ops : Array Oper} {Q : St → Prop} (hQ : Closed Q) {i : Nat} {oi : Oper} (hi : ops[i]? = some oi) :
  ∀ (fuel : Nat) (listed : Array Bool) (s : St), yf8 ops listed → jh7 ro ops listed [i] i = true →
   i∈Region.ready .any ops listed→xb7 P (ro i) ops.toList oi s (anyA P ops Q fuel (listed.setIfInBounds i true))→anyA P ops Q (fuel+1) listed s:=by
 intro fuel
 induction fuel with
 | zero =>
  intro listed s _ _ hr H
  refine ⟨fun h=>(by rw [h] at hr;cases hr),fun j hj o ho=>?_⟩
  by_cases hji:j=i
  ·subst hji;rw [hi] at ho;cases ho;exact H.E
  ·have:=ready_mono hj hji
   obtain ⟨e,s',_,_,_,h3,_⟩:=H
   rw [h3] at this
   cases this
 | succ fuel ih =>
  intro listed s hcl hfree hr H
  refine ⟨fun h=>(by rw [h] at hr;cases hr),fun j hj o ho=>?_⟩
  by_cases hji:j=i
  ·subst hji;rw [hi] at ho;cases ho;exact H.E
  ·have hun := (mem_ready.1 hj).1
   have hw:=um8 hcl hr hj ops.size
   obtain ⟨hm,_⟩:=wc7 hi hfree j o ho (by simpa using hji) hun (fun i' hi'=>by rw [List.mem_singleton.1 hi'];exact hw)
   have h1:xb7 P (ro i) ops.toList oi s fun s1=>jp9 P ops.toList o s1 (anyA P ops Q fuel ((listed.setIfInBounds i true).setIfInBounds j true)) :=
    xv7 (fun s1 hs1=>hs1.2 j (ready_mono hj hji) o ho) H
   have h2:=xc7 hm (xt8 hQ fuel _) h1
   refine ug9 (fun s1 hs1=>ih (listed.setIfInBounds j true) s1 (ud9 hcl hj) (wv7 hfree) (ready_mono hr (Ne.symm hji)) ?_) h2
   rw [Array.setIfInBounds_comm _ _ hji]
   exact hs1
theorem ER_det {ops:List Oper} {o:Oper} {s:St} {e e':Eff} (h3:dcls o≠3) (h:ER P ops o s e) (h':ER P ops o s e'):e=e':=by
 rcases h with ⟨a1,rfl⟩ | ⟨a1,⟨a2,_⟩ | ⟨a2,_⟩⟩ <;> rcases h' with ⟨b1,rfl⟩ | ⟨b1,⟨b2,_⟩ | ⟨b2,_⟩⟩
 ·rfl
 ·rw [a1] at b1;cases b1
 ·exact absurd b2 h3
 ·rw [a1] at b1;cases b1
 ·rw [a2] at b2;cases b2;rfl
 ·exact absurd b2 h3
 ·exact absurd a2 h3
 ·exact absurd a2 h3
 ·exact absurd a2 h3
theorem wv4 {ops:List Oper} {o:Oper} {s:St} {K K':St→Prop} (h3:dcls o≠3) (h:jp9 P ops o s K) (h':jp9 P ops o s K'):jp9 P ops o s fun s=>K s∧K' s:=by
 obtain ⟨e,s1,h1,h2,h4⟩:=h
 obtain ⟨e',s1',k1,k2,k4⟩:=h'
 have:=ER_det h3 h1 k1
 subst this
 rw [h2] at k2
 cases k2
 exact ⟨e,s1,h1,h2,h4,k4⟩
theorem anyA_two {ro : Nat → Bool} {ops : Array Oper} {Q : St → Prop} (hQ : Closed Q) {i i2 : Nat} {oi oi2 : Oper} (hi : ops[i]? = some oi) (hi2 : ops[i2]? = some oi2) (hne : i ≠ i2) :
  ∀ (fuel : Nat) (listed : Array Bool) (s : St), yf8 ops listed → jh7 ro ops listed [i, i2] i = true → jh7 ro ops listed [i, i2] i2 = true →
   i∈Region.ready .any ops listed→i2∈Region.ready .any ops listed→xb7 P (ro i) ops.toList oi s (anyA P ops Q fuel (listed.setIfInBounds i true))→xb7 P (ro i2) ops.toList oi2 s (anyA P ops Q fuel (listed.setIfInBounds i2 true)) →
   anyA P ops Q (fuel+1) listed s:=by
 intro fuel
 induction fuel with
 | zero =>
  intro listed s _ _ _ hr hr2 H H2
  refine ⟨fun h=>(by rw [h] at hr;cases hr),fun j hj o ho=>?_⟩
  have:=ready_mono hr2 (Ne.symm hne)
  obtain ⟨e,s',_,_,_,h3,_⟩:=H
  rw [h3] at this
  cases this
 | succ fuel ih =>
  intro listed s hcl hfree hfree2 hr hr2 H H2
  refine ⟨fun h=>(by rw [h] at hr;cases hr),fun j hj o ho=>?_⟩
  by_cases hji:j=i
  ·subst hji;rw [hi] at ho;cases ho;exact H.E
  by_cases hji2:j=i2
  ·subst hji2;rw [hi2] at ho;cases ho;exact H2.E
  ·have hun := (mem_ready.1 hj).1
   have hw2:∀ i'∈[i,i2],uw9 ops i' ops.size j=false:=by
    intro i' hi'
    simp only [List.mem_cons,List.not_mem_nil,or_false] at hi'
    rcases hi' with rfl | rfl
    ·exact um8 hcl hr hj ops.size
    ·exact um8 hcl hr2 hj ops.size
   obtain ⟨hm,hc3⟩:=wc7 hi hfree j o ho (by simp [hji,hji2]) hun hw2
   obtain ⟨hm2,_⟩:=wc7 hi2 hfree2 j o ho (by simp [hji,hji2]) hun hw2
   have hc3':dcls o≠3:=by rcases hc3 with h | h;exact absurd h (by simp);exact h
   have h1:xb7 P (ro i) ops.toList oi s fun s1=>jp9 P ops.toList o s1 (anyA P ops Q fuel ((listed.setIfInBounds i true).setIfInBounds j true)) :=
    xv7 (fun s1 hs1=>hs1.2 j (ready_mono hj hji) o ho) H
   have h2:=xc7 hm (xt8 hQ fuel _) h1
   have k1:xb7 P (ro i2) ops.toList oi2 s fun s1=>jp9 P ops.toList o s1 (anyA P ops Q fuel ((listed.setIfInBounds i2 true).setIfInBounds j true)) :=
    xv7 (fun s1 hs1=>hs1.2 j (ready_mono hj hji2) o ho) H2
   have k2:=xc7 hm2 (xt8 hQ fuel _) k1
   refine ug9 (fun s1 hs1=>ih (listed.setIfInBounds j true) s1 (ud9 hcl hj) (wv7 hfree) (wv7 hfree2) (ready_mono hr (Ne.symm hji)) (ready_mono hr2 (Ne.symm hji2)) ?_ ?_) (wv4 hc3' h2 k2)
   ·rw [Array.setIfInBounds_comm _ _ hji]
    exact hs1.1
   ·rw [Array.setIfInBounds_comm _ _ hji2]
    exact hs1.2
inductive Ord where
 | done
 | one (k:Nat) (t:Ord)
 | two (i j:Nat) (t1 t2:Ord)
def ordB (ro : Nat → Bool) (ops : Array Oper) : Nat → Ord → Array Bool → Bool
 | 0,.done,L=>(Region.ready .any ops L).isEmpty
 | n+1,.one k t,L=>(Region.ready .any ops L).contains k&&jh7 ro ops L [k] k&&ordB ro ops n t (L.setIfInBounds k true)
 | n + 1, .two i j t1 t2, L => (Region.ready .any ops L).contains i && (Region.ready .any ops L).contains j && i != j && jh7 ro ops L [i, j] i && jh7 ro ops L [i, j] j &&
   ordB ro ops n t1 (L.setIfInBounds i true)&&ordB ro ops n t2 (L.setIfInBounds j true)
 | _,_,_=>false
def roAt (s:St) (o:Oper):Bool:=match o.op with
 | .load _ x=>match s.ev x with
  | some (.ro _)=>true
  | _=>false
 | _=>false
def runO (P : Program) (ro : Nat → Bool) (ops : Array Oper) : Ord → St → (St → Prop) → Prop
 | .done,s,K=>K s
 | .one k t,s,K=>match ops[k]? with
  | some o=>(ro k=true→xg9 ops.toList s o=some false∨roAt s o=true)∧wd8 P ops.toList o s fun s'=>runO P ro ops t s' K
  | none=>False
 | .two i j t1 t2,s,K=>match ops[i]?,ops[j]? with
  | some o,some o2=>ro i=false∧ro j=false∧(wd8 P ops.toList o s fun s'=>runO P ro ops t1 s' K)∧wd8 P ops.toList o2 s fun s'=>runO P ro ops t2 s' K
  | _,_=>False
theorem calm_ro {ops:List Oper} {o:Oper} {s:St} {e:Eff} (hr:xg9 ops s o=some false∨roAt s o=true) (h:ER P ops o s e):jh5 P ops o s e:=by
 rcases h with ⟨h1,rfl⟩ | ⟨h1,hh⟩
 ·exact ⟨rfl,rfl,fun h2=>.inl ⟨h1,rfl⟩⟩
 ·rcases hr with hr | hr
  ·rw [hr] at h1;cases h1
  ·unfold roAt at hr
   split at hr
   ·rename_i t x ho
    split at hr
    ·rename_i y hy
     have hc:dcls o=2:=by simp [dcls,ho]
     rcases hh with ⟨h2,hn⟩ | ⟨h2,_⟩
     ·obtain ⟨g1, g2, _⟩ := kv5 hc h2
      refine ⟨g1,g2,fun h3=>.inr ⟨h1,.inl ⟨?_,ks8 (by omega)⟩⟩⟩
      have hy3:(setH s h3).ev x=some (.ro y):=hy
      simp only [evE,ho,evF,uq9] at h2 ⊢
      rw [hy] at h2
      rw [hy3]
      simp only [Option.bind_some] at h2 ⊢
      obtain ⟨z,hz,hze⟩:=Option.map_eq_some_iff.1 h2
      have:wh7 P (setH s h3).h t (.ro y)=wh7 P s.h t (.ro y):=by
       unfold wh7
       rfl
      rw [this,hz]
      simp only [Option.map_some]
      rw [← hze]
      rfl
     ·omega
    ·cases hr
   ·cases hr
theorem jp8 {ro:Bool} {ops:List Oper} {o:Oper} {s:St} {K:St→Prop} (hc:dcls o≠9) (hr:ro=true→xg9 ops s o=some false∨roAt s o=true) (h:wd8 P ops o s K):xb7 P ro ops o s K:=by
 obtain ⟨e,s',h1,h2,h3⟩:=qk7 hc h
 exact ⟨e,s',h1,h2,fun h=>calm_ro (hr h) h1,h3⟩
theorem js8 {ops:List Oper} {o:Oper} {s:St} {K K':St→Prop} (hk:∀ s,K s→K' s) (h:wd8 P ops o s K):wd8 P ops o s K':=by
 unfold wd8 at *
 split
 ·rename_i hg
  rw [hg] at h
  rcases h with ⟨s',h1,h2⟩ | ⟨h3,h⟩
  ·exact .inl ⟨s',h1,hk _ h2⟩
  ·refine .inr ⟨h3, ?_⟩
   unfold xs6 at *
   split
   ·rename_i c ho
    rw [ho] at h
    dsimp only at h
    split
    ·rename_i hc
     rw [hc] at h
     obtain ⟨a,b,c,e1,e2,e3,e4,e5,e6,e7⟩:=h
     exact ⟨a,b,c,e1,e2,e3,e4,e5,e6,hk _ e7⟩
    ·rename_i hc;rw [hc] at h;exact h
   ·rename_i hno;split at h <;> first | exact absurd (by assumption) (hno _) | exact h
 ·rename_i hg;rw [hg] at h;obtain ⟨s',h1,h2⟩:=h;exact ⟨s',h1,hk _ h2⟩
 ·rename_i hg;rw [hg] at h;exact h
theorem anyA_ord {ro:Nat→Bool} {ops:Array Oper} {Q:St→Prop} (hQ:Closed Q) (h9:∀ (i:Nat) (o:Oper),ops[i]?=some o→dcls o≠9):∀ (n:Nat) (t:Ord) (L:Array Bool) (s:St),yf8 ops L→ordB ro ops n t L=true→runO P ro ops t s Q→anyA P ops Q n L s:=by
 intro n
 induction n with
 | zero =>
  intro t L s _ hB h
  cases t with
  | done=>exact ⟨by simpa [ordB] using hB,h⟩
  | one k t=>simp [ordB] at hB
  | two i j t1 t2=>simp [ordB] at hB
 | succ n ih =>
  intro t L s hcl hB h
  cases t with
  | done=>simp [ordB] at hB
  | one k t =>
   simp only [ordB,Bool.and_eq_true] at hB
   obtain ⟨⟨hr,hf⟩,hB'⟩:=hB
   have hr':k∈Region.ready .any ops L:=by simpa using hr
   simp only [runO] at h
   split at h
   ·rename_i o ho
    exact anyA_one hQ ho n L s hcl hf hr' (jp8 (h9 _ _ ho) h.1 (js8 (fun s' hs'=>ih t _ s' (ud9 hcl hr') hB' hs') h.2))
   ·exact h.elim
  | two i j t1 t2 =>
   simp only [ordB,Bool.and_eq_true,bne_iff_ne,ne_eq] at hB
   obtain ⟨⟨⟨⟨⟨⟨hri,hrj⟩,hij⟩,hfi⟩,hfj⟩,hB1⟩,hB2⟩:=hB
   have hri':i∈Region.ready .any ops L:=by simpa using hri
   have hrj':j∈Region.ready .any ops L:=by simpa using hrj
   simp only [runO] at h
   split at h
   ·rename_i o o2 ho ho2
    obtain ⟨r1,r2,k1,k2⟩:=h
    exact anyA_two hQ ho ho2 hij n L s hcl hfi hfj hri' hrj' (jp8 (h9 _ _ ho) (fun h => by rw [r1] at h; cases h) (js8 (fun s' hs' => ih t1 _ s' (ud9 hcl hri') hB1 hs') k1))
     (jp8 (h9 _ _ ho2) (fun h=>by rw [r2] at h;cases h) (js8 (fun s' hs'=>ih t2 _ s' (ud9 hcl hrj') hB2 hs') k2))
   ·exact h.elim
def ordOk (ro:Nat→Bool) (ops:Array Oper) (t:Ord):Bool:=ordB ro ops ops.size t (Array.replicate ops.size false)&&ops.toList.all fun o=>dcls o != 9
theorem W_ord {top : Bool} {kf : Nat} {id : Nat} {ops : Array Oper} {Q : Exit → St → Prop} {s : St} (ro : Nat → Bool) (t : Ord) (hm : P.follows .mixedOrders = true) (hd : ordOk ro ops t = true)
  (h:runO P ro ops t s (fun s'=>∃ u,Seen P s.h.length s' u∧Q .normal u)):Wt top kf P (.region id ops true) Q s:=by
 intro F n c w a hF hs
 simp only [ordOk,Bool.and_eq_true,List.all_eq_true,bne_iff_ne,ne_eq] at hd
 have h9:∀ (i:Nat) (o:Oper),ops[i]?=some o→dcls o≠9:=fun i o ho=>hd.2 o (by rw [← Array.getElem?_toList] at ho;exact List.mem_of_getElem? ho)
 refine wpIn_region_any hm ?_
 let Q':St→Prop:=fun s1=>∃ u,Seen P s.h.length s1 u∧Q .normal u
 have hQ':Closed Q':=fun s1 t h1 ⟨u,h2,h3⟩=>⟨u,fun c w a hs=>h2 c w a (hs.eqv ⟨h1.1.symm,h1.2.1.symm,fun i=>(h1.2.2 i).symm⟩),h3⟩
 have hA:=anyA_ord (P:=P) hQ' h9 ops.size t (Array.replicate ops.size false) s (by
  intro j oj hj hl
  exfalso
  rw [Array.getD_eq_getD_getElem?] at hl
  rcases Nat.lt_or_ge j ops.size with h' | h'
  ·rw [Array.getElem?_eq_getElem (by simpa using h')] at hl;simp at hl
  ·rw [Array.getElem?_eq_none (by simpa using h')] at hl;simp at hl) hd.1 h
 refine vb9 ?_ _ _ _ _ (qd5 (n:=n) hF.1 h9 ops.size _ s c w.drew a hs.drew hA)
 rintro e a2 w2 ⟨s2,c2,q,hs2,he2⟩
 cases e with
 | normal =>
  obtain ⟨u,h1,h2⟩:=q
  obtain ⟨c3,h3,h4⟩:=h1 c2 w2 a2 hs2
  exact ⟨u,c3,h2,h4,(h3 c w (by rw [hs.h.no];exact Nat.le_refl _) ((wl9 c w).trans he2)).toK hF.2.2⟩
 | _=>exact q.elim
def evO (P : Program) (ro : Nat → Bool) (ops : Array Oper) : Ord → St → Option (List St)
 | .done,s=>some [s]
 | .one k t,s=>match ops[k]? with
  | some o=>if ro k=false || xg9 ops.toList s o == some false || roAt s o then (ev1D P ops.toList o s).bind (evO P ro ops t) else none
  | none=>none
 | .two i j t1 t2,s=>match ops[i]?,ops[j]? with
  | some o,some o2=>if ro i || ro j then none else ((ev1D P ops.toList o s).bind (evO P ro ops t1)).bind fun l1=>((ev1D P ops.toList o2 s).bind (evO P ro ops t2)).map fun l2=>l1++l2
  | _,_=>none
theorem vr7 {ops:List Oper} {o:Oper} {s s':St} {K:St→Prop} (h:ev1D P ops o s=some s') (hk:K s'):wd8 P ops o s K:=by
 unfold ev1D at h
 unfold wd8
 split at h
 ·exact .inl ⟨s',h,hk⟩
 ·exact ⟨s',h,hk⟩
 ·cases h
theorem xw7 {ro : Nat → Bool} {ops : Array Oper} {K : St → Prop} : ∀ (t : Ord) (s : St) (l : List St), evO P ro ops t s = some l → (∀ s' ∈ l, K s') → runO P ro ops t s K
 | .done,s,l,h,hk=>by simp only [evO,Option.some.injEq] at h;subst h;exact hk s (by simp)
 | .one k t,s,l,h,hk=>by
  simp only [evO] at h
  simp only [runO]
  split at h
  ·rename_i o ho
   split at h
   ·rename_i hr
    obtain ⟨s1,h1,h2⟩:=Option.bind_eq_some_iff.1 h
    refine ⟨fun hro=>?_,vr7 h1 (xw7 t s1 l h2 hk)⟩
    simp only [Bool.or_eq_true,beq_iff_eq,decide_eq_true_eq,hro,Bool.true_eq_false,false_or] at hr
    exact hr
   ·cases h
  ·cases h
 | .two i j t1 t2,s,l,h,hk=>by
  simp only [evO] at h
  simp only [runO]
  split at h
  ·rename_i o o2 ho ho2
   split at h
   ·cases h
   ·rename_i hr
    obtain ⟨l1,h1,h⟩:=Option.bind_eq_some_iff.1 h
    obtain ⟨l2,h2,h⟩:=Option.map_eq_some_iff.1 h
    obtain ⟨s1,k1,k2⟩:=Option.bind_eq_some_iff.1 h1
    obtain ⟨s2,m1,m2⟩:=Option.bind_eq_some_iff.1 h2
    subst h
    simp only [Bool.or_eq_true,not_or,Bool.not_eq_true] at hr
    exact ⟨hr.1,hr.2,vr7 k1 (xw7 t1 s1 l1 k2 fun s' hs'=>hk s' (List.mem_append_left _ hs')),vr7 m1 (xw7 t2 s2 l2 m2 fun s' hs'=>hk s' (List.mem_append_right _ hs'))⟩
  ·cases h
end
end Go.AM
namespace Go.AM
open Go.RowKit
section
variable {P : Program} {top : Bool} {kf : Nat}
def ev1 (P:Program) (ops:List Oper) (o:Oper) (s:St):Option St :=
 match xg9 ops s o with
 | some true=>evOp P o s
 | some false=>s.put o.dst (.v undef)
 | none=>none
def jv8 (P : Program) (ops : List Oper) : List Oper → St → Option St
 | [],s=>some s
 | o :: l,s=>(ev1 P ops o s).bind (jv8 P ops l)
theorem wg6 {ops : List Oper} : ∀ {l : List Oper} {s s' : St} {K : St → Prop}, jv8 P ops l s = some s' → K s' → runA P ops l s K
 | [],s,s',K,h,hk=>by simp only [jv8,Option.some.injEq] at h;subst h;exact hk
 | o :: l,s,s',K,h,hk=>by
  simp only [jv8] at h
  obtain ⟨s1,h1,h2⟩:=Option.bind_eq_some_iff.1 h
  have rest:=wg6 (K:=K) h2 hk
  simp only [runA,xp8]
  unfold ev1 at h1
  split at h1
  ·rename_i hg;rw [hg];exact .inl ⟨s1,h1,rest⟩
  ·rename_i hg;rw [hg];exact ⟨s1,h1,rest⟩
  ·cases h1
theorem zf5 {ops : List Oper} {l2 : List Oper} : ∀ {l1 : List Oper} {s s' : St} {K : St → Prop}, jv8 P ops l1 s = some s' → runA P ops l2 s' K → runA P ops (l1 ++ l2) s K
 | [],s,s',K,h,hk=>by simp only [jv8,Option.some.injEq] at h;subst h;exact hk
 | o :: l,s,s',K,h,hk=>by
  simp only [jv8] at h
  obtain ⟨s1,h1,h2⟩:=Option.bind_eq_some_iff.1 h
  have rest:=zf5 (K:=K) h2 hk
  simp only [List.cons_append,runA,xp8]
  unfold ev1 at h1
  split at h1
  ·rename_i hg;rw [hg];exact .inl ⟨s1,h1,rest⟩
  ·rename_i hg;rw [hg];exact ⟨s1,h1,rest⟩
  ·cases h1
def km9 (ks : List Nat) : List (Nat × AV) → List (Nat × AV)
 | []=>[]
 | (i,x) :: l=>if ks.contains i then (i,x) :: km9 ks l else km9 ks l
theorem zr4 {ks:List Nat} {fr:List (Nat × AV)} {i:Nat} {x:AV} (h:getF (km9 ks fr) i=some x):getF fr i=some x:=by
 induction fr with
 | nil=>exact h
 | cons p l ih =>
  obtain ⟨j,y⟩:=p
  simp only [km9] at h
  by_cases hj:i=j
  ·subst hj
   split at h
   ·simpa [getF] using h
   ·rename_i hk
    exfalso
    have:∀ l:List (Nat × AV),getF (km9 ks l) i=some x→ks.contains i=true:=by
     intro l
     induction l with
     | nil=>intro h;simp [km9,getF] at h
     | cons p l ih =>
      obtain ⟨j,y⟩:=p
      intro h
      simp only [km9] at h
      split at h
      ·rename_i hk
       simp only [getF] at h
       split at h
       ·rename_i e;rw [e];exact hk
       ·exact ih h
      ·exact ih h
    exact hk (this l h)
  ·simp only [getF,if_neg hj]
   split at h
   ·simp only [getF,if_neg hj] at h;exact ih h
   ·exact ih h
theorem SimSt.keep {c:Ctx} {w:World} {s:St} {a:Act} (hs:SimSt P c w s a) (ks:List Nat):SimSt P c w { s with fr:=km9 ks s.fr } a :=
 ⟨hs.n,hs.base,fun i x hx=>hs.fr i x (zr4 hx),hs.h,hs.dfr⟩
theorem W_keep {code:Code} {Q:Exit→St→Prop} {s:St} (ks:List Nat) (h:Wt top kf P code Q { s with fr:=km9 ks s.fr }):Wt top kf P code Q s :=
 fun F n c w a hF hs=>h F n c w a hF (hs.keep ks)
theorem W_ev {id:Nat} {ops:Array Oper} {Q:Exit→St→Prop} {s s':St} (h:jv8 P ops.toList ops.toList s=some s') (hq:Q .normal s'):Wt top kf P (.region id ops false) Q s :=
 xj7 (wg6 h hq)
theorem wb9 {code:Code} {Q:Exit→St→Prop} {s:St} (ks:List Nat) (h:Wt top kf P code (fun e s=>Q e { s with fr:=km9 ks s.fr }) s):Wt top kf P code Q s :=
 fun F n c w a hF hs=>wpIn_mono (h F n c w a hF hs) fun _ _ _ ⟨_,c',q,hs',he⟩=>⟨_,c',q,hs'.keep ks,he⟩
theorem zq9 {id:Nat} {ops:Array Oper} {Q:Exit→St→Prop} {s s':St} (ks:List Nat) (h:(jv8 P ops.toList ops.toList s).map (fun s=>⟨s.n,km9 ks s.fr,s.h⟩)=some s') (hq:Q .normal s'):Wt top kf P (.region id ops false) Q s:=by
 obtain ⟨s1,h1,rfl⟩:=Option.map_eq_some_iff.1 h
 exact wb9 ks (W_ev h1 hq)
theorem yt9 {id:Nat} {ops:Array Oper} {y:Code} {Q:Exit→St→Prop} {s s':St} (ks:List Nat) (h:(jv8 P ops.toList ops.toList s).map (fun s=>⟨s.n,km9 ks s.fr,s.h⟩)=some s') (hq:Wt top kf P y Q s'):Wt top kf P (.seq (.region id ops false) y) Q s :=
 yl9 (zq9 ks h hq)
end
end Go.AM
namespace Go.AM
open Go.RowKit
attribute [simp] jv8 ev1 xg9 evOp uq9 St.evT St.ev evAll evOpt evParts evOpts St.put numF putF getF absV vf5 km9 zc7 vk5 ut9 AV.kill AV.killL AObj.kill
 wh9 kj8 zv8 jl8 vw7 zd3 ur8 catK AV.cellsK AV.kone AV.koneL AV.weak AV.weakL AV.dp AV.dpL AV.norm AV.normL AV.rf AV.rfL AV.tl AV.tlL frzV frzL tipA binA intA unA cvA lenA wh7 kq9 idxA
 yt6 jf9 jc9 uj7 wn8 mfind mset Instr.sameNow zt9 yj8 AV.killS AV.killSL AV.toks AV.toksL AObj.toks uf8 AV.under AV.underL AObj.under wt9 yc9
 jn7 jd9 ug8 wf8 Fl.keepNil Fl.wk tokA exOk capA bnd xn8 jh8 wk8 site AV.cells AV.one zm6 resL resA yj9 qp8 yp5 km7 vg5 min2A max2A zn6
@[simp] theorem oneCell_int (k:IntKind) (n:Int):Value.oneCell' (.int k n)=true:=rfl
@[simp] theorem oneCell_bool (b:Bool):Value.oneCell' (.bool b)=true:=rfl
@[simp] theorem js4 (b:ByteArray):Value.oneCell' (.string b)=true:=rfl
theorem w64 {n:Int} (h1:-9223372036854775808≤n) (h2:n≤9223372036854775807):IntKind.i64.wrap n=n:=by
 simp [IntKind.wrap,IntKind.signed,IntKind.bits];omega
theorem wu8 {n:Int} (h1:0≤n) (h2:n≤255):IntKind.u8.wrap n=n:=by
 simp [IntKind.wrap,IntKind.signed,IntKind.bits];omega
def byL (l:List UInt8):List AV:=l.map fun b=>.v (.int .u8 b.toNat)
@[simp] theorem vp8 (l:List UInt8):(byL l).length=l.length:=by simp [byL]
@[simp] theorem byL_nil:byL []=[]:=rfl
theorem vp9 (b:UInt8) (l:List UInt8):byL (b :: l)=.v (.int .u8 b.toNat) :: byL l:=rfl
theorem wc9 (l m:List UInt8):byL (l++m)=byL l++byL m:=by simp [byL]
@[simp] theorem byL_getElem (l:List UInt8) (i:Nat) (h:i < (byL l).length):(byL l)[i]=.v (.int .u8 (l[i]'(by simpa using h)).toNat):=by simp [byL]
theorem xf9 (l:List UInt8) (n:Nat):byL (l.take n)=(byL l).take n:=by simp [byL]
theorem wd9 (l:List UInt8) (n:Nat):byL (l.drop n)=(byL l).drop n:=by simp [byL]
theorem kc4 (l:List UInt8) (n:Nat) (b:UInt8):byL (l.set n b)=(byL l).set n (.v (.int .u8 b.toNat)):=by simp [byL]
theorem byL_get (l:List UInt8) (i:Nat):(byL l)[i]?=(l[i]?).map fun b=>.v (.int .u8 b.toNat):=by simp [byL]
end Go.AM
set_option linter.unusedSimpArgs false
namespace Go.AM
open Go.RowKit
abbrev KnF:=FuncId→List AV→Option AV
def KnOk (P:Program) (kn:KnF):Prop:=∀ f args r,kn f args=some r→Sound P f args r
abbrev ys8:=Bool→Code→St→Option (Exit × St)
section
variable (P : Program)
def kw6 (ex:ys8) (f:FuncId) (args:List AV) (h:List AObj):Option (AV × List AObj) :=
 match P.funcs[f]? with
 | some fn=>match fn.body with
  | some code => if (fn.name == "runtime.NumGoroutine") = false ∧ args.length ≤ fn.ntmps then
    match ex true code ⟨fn.ntmps,numF 0 args,h⟩ with
    | some (.normal,s) | some (.ret,s)=>if h.length≤s.h.length then (resA P s fn.results.toList).bind fun x =>
      if x.under h.length&&yc9 h.length (s.h.take h.length) then some (x,s.h.take h.length) else if x.under s.h.length&&yc9 s.h.length s.h then some (x,s.h) else none else none
    | _=>none
   else none
  | none=>none
 | none=>none
def yldX (ex:ys8) (id n:Nat) (fr:List (Nat × AV)) (as body:Code) (h:List AObj):Option (Bool × List AObj) :=
 match ex false as ⟨n,fr,h⟩ with
 | some (.normal,s1)=>match s1.h[id]? with
  | some (.loop n' fr' ps' as' body' .ready)=>match ex false body ⟨s1.n,s1.fr,s1.h.set id (.loop n' fr' ps' as' body' .busy)⟩ with
   | some (e,s2)=>match s2.h[id]?,yf6 e with
    | some (.loop n2 fr2 ps2 as2 body2 .busy),some (st,b) =>
     let h2:=s2.h.set id (.loop n2 fr2 ps2 as2 body2 st)
     if h.length≤s2.h.length then
      if yc9 h.length (h2.take h.length) then some (b,h2.take h.length) else if yc9 s2.h.length h2 then some (b,h2) else none
     else none
    | _,_=>none
   | none=>none
  | _=>none
 | _=>none
def ym6 (ex:ys8) (f:FuncId) (args:List AV):Option AV :=
 match P.funcs[f]? with
 | some fn=>match fn.body with
  | some code => if (fn.name == "runtime.NumGoroutine") = false ∧ args.length ≤ fn.ntmps ∧ AV.rfL args = true ∧ AV.tlL args = true then
    match ex true code ⟨fn.ntmps,numF 0 args,[]⟩ with
    | some (.normal,s) | some (.ret,s)=>(resA P s fn.results.toList).bind fun x=>(frzV P 1 s.h x).bind fun (r,_)=>if r.rf then some r else none
    | _=>none
   else none
  | none=>none
 | none=>none
def opX (kn:KnF) (ex:ys8) (draw:Bool) (o:Oper) (s:St):Option St :=
 match o.op with
 | .call c=>match c.callee with
  | .value fo=>match zt9 s c.callee with
   | some (f,l1,l2)=>if c.args.size≤c.argTypes.size then
     (evOpts P s (c.args.toList.zip c.argTypes.toList)).bind fun xs =>
      if draw then
       (if AV.flatL xs&&AV.rfL (AV.dpL (l1++xs++l2)) then (match kn f (AV.dpL (l1++xs++l2)) with | some r=>some r | none=>ym6 P ex f (AV.nlL (l1++xs++l2))).bind fun r=>s.put o.dst (r.norm (site o)) else none)
      else match (prep P s (site o) l1 (c.args.toList.zip c.argTypes.toList) l2).bind fun x=>(kn f x.1).map fun r=>(r,x.2) with
      | some (r,h')=>(⟨s.n,s.fr,h'⟩:St).put o.dst (r.norm (site o))
      | none=>(kw6 P ex f (l1++xs++l2) s.h).bind fun (r,h')=>(⟨s.n,yj8 (AV.toksL (l1++xs++l2)++uf8 s.h) s.fr,h'⟩:St).put o.dst r
     else none
   | none=>if draw then none else match s.ev fo with
     | some (.yld id)=>match s.h[id]? with
      | some (.loop n fr ps as body .ready)=>(evOpts P s (c.args.toList.zip c.argTypes.toList)).bind fun xs =>
        if c.args.size≤c.argTypes.size∧xs.length=ps.length∧(ps.all fun p=>decide (p < n))=true then
         (yldX ex id n (setF fr ps (AV.weakL xs)) as body s.h).bind fun (b,h')=>(⟨s.n,yj8 (uf8 s.h) s.fr,h'⟩:St).put o.dst (.v (.bool b))
        else none
      | _=>none
     | _=>none
  | _=>if draw&&!kh9 P s o then none else evOp P o s
 | .convert _ _ _=>if draw then evOp P o s else match jq8 P s o with
  | some s'=>some s'
  | none=>evOp P o s
 | _=>evOp P o s
def opsX (kn : KnF) (ex : ys8) (draw : Bool) (ops : List Oper) : List Oper → St → Option St
 | [],s=>some s
 | o :: l,s=>(match xg9 ops s o with
  | some true=>match opX P kn ex draw o s with
   | some s'=>some s'
   | none=>if draw then none else if xg9 ops (frzO P s o) o=some true then opX P kn ex draw o (frzO P s o) else none
  | some false=>s.put o.dst (.v undef)
  | none=>none).bind (opsX kn ex draw ops l)
def xn5 (s:St) (h:List AObj):Option (Exit × St) :=
 match h[s.h.length]? with
 | some (.loop _ _ _ _ _ .ready)=>some (.normal,⟨s.n,s.fr,h.set s.h.length .dead⟩)
 | some (.loop _ _ _ _ _ (.done .ret))=>some (.ret,⟨s.n,s.fr,h.set s.h.length .dead⟩)
 | some (.loop _ _ _ _ _ (.done (.exit id)))=>some (.exit id,⟨s.n,s.fr,h.set s.h.length .dead⟩)
 | some (.loop _ _ _ _ _ (.done (.goto id)))=>some (.goto id,⟨s.n,s.fr,h.set s.h.length .dead⟩)
 | _=>none
def exec (kn : KnF) : Nat → ys8
 | 0,_,_,_=>none
 | n+1,top,c,s=>match c with
  | .skip=>some (.normal,s)
  | .label _=>some (.normal,s)
  | .scope x=>match exec kn n top x s with
   | some (.goto _,_)=>none
   | r=>r
  | .ret=>some (.ret,s)
  | .exit id=>some (.exit id,s)
  | .seq x y=>match exec kn n top x s with
   | some (.normal,s1)=>exec kn n top y s1
   | r=>r
  | .cond o x y=>match s.ev o with
   | some (.v (.bool true))=>exec kn n top x s
   | some (.v (.bool false))=>exec kn n top y s
   | _=>none
  | .block id x=>match exec kn n top x s with
   | some (.exit i,s1)=>if i=id then some (.normal,s1) else some (.exit i,s1)
   | r=>r
  | .loop body=>match exec kn n top body s with
   | some (.normal,s1)=>exec kn n top (.loop body) s1
   | r=>r
  | .region _ ops draw=>if draw&&!yk6 ops then none else match opsX P kn (exec kn n) draw ops.toList ops.toList s with
   | some s'=>some (.normal,s')
   | none=>if draw then (opsX P kn (exec kn n) draw ops.toList ops.toList (ops.toList.foldl (frzO P) s)).map fun s'=>(.normal,s') else none
  | .rangeFunc g ps as body => if top then match zt9 s (.value g) with
    | some (f,l1,l2)=>(kw6 P (exec kn n) f (l1++[.yld s.h.length]++l2) (s.h++[.loop s.n (qp7 s.fr) ps.toList as body .ready])).bind fun (_,h') =>
      xn5 ⟨s.n,yj8 (AV.toksL (l1++[.yld s.h.length]++l2)++uf8 (s.h++[.loop s.n (qp7 s.fr) ps.toList as body .ready])) s.fr,s.h⟩ h'
    | none=>none
   else none
  | _=>none
end
section
variable {P : Program}
theorem xq8 {ex : ys8} (hex : ∀ top kf c s e s' Q, ex top c s = some (e, s') → Q e s' → Wt top kf P c Q s) {f : FuncId} {args : List AV} {h h' : List AObj} {r : AV} (hc : kw6 P ex f args h = some (r, h')) :
  wf9 P f args h fun r1 h1=>r1=r∧h1=h':=by
 unfold kw6 at hc
 split at hc
 ·rename_i fn hf
  split at hc
  ·rename_i code hb
   split at hc
   ·rename_i hn
    have fin : ∀ e s, (e = Exit.normal ∨ e = .ret) → ex true code ⟨fn.ntmps, numF 0 args, h⟩ = some (e, s) →
      (if h.length≤s.h.length then (resA P s fn.results.toList).bind fun x =>
      if x.under h.length&&yc9 h.length (s.h.take h.length) then some (x,s.h.take h.length) else if x.under s.h.length&&yc9 s.h.length s.h then some (x,s.h) else none else none)=some (r,h') →
      wf9 P f args h fun r1 h1=>r1=r∧h1=h':=by
     intro e s he hr hc
     split at hc
     ·rename_i hle
      obtain ⟨x,hx,hc⟩:=Option.bind_eq_some_iff.1 hc
      split at hc
      ·rename_i hu
       simp only [Option.some.injEq,Prod.mk.injEq] at hc
       obtain ⟨rfl,rfl⟩:=hc
       simp only [Bool.and_eq_true] at hu
       exact zv9 hf hb hn.1 hn.2 rfl (hex _ _ _ _ _ _ _ hr ⟨he,x,x,s.h,h.length,hx,.inl ⟨rfl,rfl⟩,Nat.le_refl _,hle,hu.1,hu.2,rfl,rfl⟩)
      ·split at hc
       ·rename_i hu
        simp only [Option.some.injEq,Prod.mk.injEq] at hc
        obtain ⟨rfl,rfl⟩:=hc
        simp only [Bool.and_eq_true] at hu
        exact zv9 hf hb hn.1 hn.2 rfl (hex _ _ _ _ _ _ _ hr ⟨he,x,x,s.h,s.h.length,hx,.inl ⟨rfl,rfl⟩,hle,Nat.le_refl _,hu.1,by rw [List.take_length];exact hu.2,by rw [List.take_length];exact ⟨rfl,rfl⟩⟩)
       ·cases hc
     ·cases hc
    split at hc
    ·rename_i s hr;exact fin _ s (.inl rfl) hr hc
    ·rename_i s hr;exact fin _ s (.inr rfl) hr hc
    ·cases hc
   ·cases hc
  ·cases hc
 ·cases hc
theorem xk7 {ex : ys8} (hex : ∀ top kf c s e s' Q, ex top c s = some (e, s') → Q e s' → Wt top kf P c Q s) {id n : Nat} {fr : List (Nat × AV)} {as body : Code} {h h' : List AObj} {b : Bool} (hc : yldX ex id n fr as body h = some (b, h')) :
  jc6 P id h.length n fr as body h fun b1 h1=>b1=b∧h1=h':=by
 unfold yldX at hc
 split at hc
 ·rename_i s1 h1
  split at hc
  ·rename_i n1 fr1 ps1 as1 body1 ho1
   split at hc
   ·rename_i e s2 h2
    split at hc
    ·rename_i n2 fr2 ps2 as2 body2 st b' ho2 hends
     dsimp only at hc
     split at hc
     ·rename_i hle
      refine hex _ _ _ _ _ _ _ h1 ⟨rfl,n1,fr1,ps1,as1,body1,ho1,?_⟩
      split at hc
      ·rename_i hu
       cases hc
       exact hex _ _ _ _ _ _ _ h2 ⟨n2,fr2,ps2,as2,body2,st,b,h.length,ho2,hends,Nat.le_refl _,hle,hu,rfl,rfl⟩
      ·split at hc
       ·rename_i hu
        cases hc
        refine hex _ _ _ _ _ _ _ h2 ⟨n2,fr2,ps2,as2,body2,st,b,s2.h.length,ho2,hends,hle,Nat.le_refl _,?_,rfl,?_⟩
        ·rw [List.take_of_length_le (by rw [List.length_set];exact Nat.le_refl _)];exact hu
        ·rw [List.take_of_length_le (by rw [List.length_set];exact Nat.le_refl _)]
       ·cases hc
     ·cases hc
    ·cases hc
   ·cases hc
  ·cases hc
 ·cases hc
theorem xw8 {ex:ys8} (hex:∀ top kf c s e s' Q,ex top c s=some (e,s')→Q e s'→Wt top kf P c Q s) {f:FuncId} {args:List AV} {r:AV} (hc:ym6 P ex f args=some r):Sound P f args r:=by
 unfold ym6 at hc
 split at hc
 ·rename_i fn hf
  split at hc
  ·rename_i code hb
   split at hc
   ·rename_i hn
    have fin : ∀ e s, (e = Exit.normal ∨ e = .ret) → ex true code ⟨fn.ntmps, numF 0 args, []⟩ = some (e, s) →
      ((resA P s fn.results.toList).bind fun x=>(frzV P 1 s.h x).bind fun (r,_)=>if r.rf then some r else none)=some r→Sound P f args r:=by
     intro e s he hr hc
     obtain ⟨x,hx,hc⟩:=Option.bind_eq_some_iff.1 hc
     obtain ⟨⟨y,h1⟩,hy,hc⟩:=Option.bind_eq_some_iff.1 hc
     dsimp only at hc
     split at hc
     ·rename_i hrf
      cases hc
      exact zh9 hf hb hn.1 hn.2.1 hn.2.2.1 hn.2.2.2 rfl (hex _ _ _ _ _ _ _ hr ⟨he,x,h1,hx,hy,hrf⟩)
     ·cases hc
    split at hc
    ·rename_i s hr;exact fin _ s (.inl rfl) hr hc
    ·rename_i s hr;exact fin _ s (.inr rfl) hr hc
    ·cases hc
   ·cases hc
  ·cases hc
 ·cases hc
theorem qw8 {kn : KnF} (hkn : KnOk P kn) {ex : ys8} (hex : ∀ top kf c s e s' Q, ex top c s = some (e, s') → Q e s' → Wt top kf P c Q s) {o : Oper} {s s' : St} {K : St → Prop} (h : opX P kn ex false o s = some s') (hk : K s') :
  step5 P o s K:=by
 unfold opX at h
 split at h
 ·rename_i c ho
  split at h
  ·rename_i fo hfo
   split at h
   ·rename_i f l1 l2 hcal
    split at h
    ·rename_i hsz
     obtain ⟨xs,hxs,h⟩:=Option.bind_eq_some_iff.1 h
     simp only [Bool.false_eq_true,if_false] at h
     split at h
     ·rename_i r h' hpr
      obtain ⟨x,hx,hpr⟩:=Option.bind_eq_some_iff.1 hpr
      obtain ⟨r',hr',he⟩:=Option.map_eq_some_iff.1 hpr
      cases he
      refine .inr (.inl ?_)
      unfold kt6
      rw [ho]
      dsimp only
      rw [hcal]
      unfold prep at hx
      obtain ⟨xs,hxs,hx⟩:=Option.bind_eq_some_iff.1 hx
      obtain ⟨⟨ys,h1⟩,hys,hx⟩:=Option.bind_eq_some_iff.1 hx
      dsimp only at hx
      split at hx
      ·cases hx
       exact ⟨ys,_,r,s',by rw [hxs];exact hys,hsz,(hkn _ _ _ hr').ofDp,h,hk⟩
      ·cases hx
     obtain ⟨⟨r,h'⟩,hr,h⟩:=Option.bind_eq_some_iff.1 h
     refine .inr (.inr (.inl ?_))
     unfold xj5
     rw [ho]
     dsimp only
     rw [hcal]
     refine ⟨xs,hxs,hsz,(xq8 hex hr).mono ?_⟩
     rintro r1 h1 ⟨rfl,rfl⟩
     exact ⟨s',h,hk⟩
    ·cases h
   ·simp only [Bool.false_eq_true, if_false] at h
    split at h
    ·rename_i id hev
     split at h
     ·rename_i n fr ps as body hob
      obtain ⟨xs,hxs,h⟩:=Option.bind_eq_some_iff.1 h
      split at h
      ·rename_i hcond
       obtain ⟨⟨b,h'⟩,hy,h⟩:=Option.bind_eq_some_iff.1 h
       refine .inr (.inr (.inr (.inl ?_)))
       unfold yw7
       rw [ho]
       dsimp only
       rw [hfo]
       refine ⟨id,n,fr,ps,as,body,xs,hev,hob,hxs,hcond.1,hcond.2.1,hcond.2.2,jd8 ?_ (xk7 hex hy)⟩
       rintro b1 h1 ⟨rfl,rfl⟩
       exact ⟨s',h,hk⟩
      ·cases h
     ·cases h
    ·cases h
  ·simp only [Bool.false_and,Bool.false_eq_true,if_false] at h
   exact .inl ⟨s',h,hk⟩
 ·rename_i ho
  simp only [Bool.false_eq_true,if_false] at h
  split at h
  ·rename_i s1 h1
   cases h
   refine .inr (.inr (.inr (.inr ?_)))
   unfold ql8
   rw [ho]
   exact ⟨_,h1,hk⟩
  ·exact .inl ⟨s',h,hk⟩
 ·exact .inl ⟨s',h,hk⟩
theorem kb7 {kn : KnF} (hkn : KnOk P kn) {ex : ys8} (hex : ∀ top kf c s e s' Q, ex top c s = some (e, s') → Q e s' → Wt top kf P c Q s) {o : Oper} {s s' : St} {K : St → Prop} (h : opX P kn ex true o s = some s') (hk : K s') :
  (∃ s',(if kh9 P s o then evOp P o s else none)=some s'∧K s')∨(dcls o=3∧xs6 P o s K):=by
 unfold opX at h
 split at h
 ·rename_i c ho
  split at h
  ·rename_i fo hfo
   split at h
   ·rename_i f l1 l2 hcal
    split at h
    ·rename_i hsz
     obtain ⟨xs,hxs,h⟩:=Option.bind_eq_some_iff.1 h
     simp only [if_true] at h
     split at h
     ·rename_i hfl
      obtain ⟨r,hr,h⟩:=Option.bind_eq_some_iff.1 h
      simp only [Bool.and_eq_true] at hfl
      refine .inr ⟨by simp [dcls,ho,hfo],?_⟩
      unfold xs6
      rw [ho]
      dsimp only
      rw [hcal]
      refine ⟨xs,r,s',hxs,hfl.1,hfl.2,hsz,?_,h,hk⟩
      split at hr
      ·rename_i r' hr'
       cases hr
       exact (hkn _ _ _ hr').ofDp
      ·exact xw8 hex hr
     ·cases h
    ·cases h
   ·simp only [if_true] at h;cases h
  ·simp only [Bool.true_and, Bool.not_eq_true'] at h
   split at h
   ·cases h
   ·rename_i hn
    exact .inl ⟨s',by rw [if_pos (by simpa using hn)];exact h,hk⟩
 ·rename_i ho
  simp only [if_true] at h
  refine .inl ⟨s',?_,hk⟩
  have:kh9 P s o=true:=by unfold kh9;rw [ho]
  rw [if_pos this];exact h
 ·rename_i hno _
  refine .inl ⟨s',?_,hk⟩
  have:kh9 P s o=true:=by
   unfold kh9
   split
   ·rename_i c ho;exact absurd ho (hno c)
   ·rfl
  rw [if_pos this];exact h
theorem qq8 {kn : KnF} (hkn : KnOk P kn) {ex : ys8} (hex : ∀ top kf c s e s' Q, ex top c s = some (e, s') → Q e s' → Wt top kf P c Q s) {ops : List Oper} : ∀ {l : List Oper} {s s' : St} {K : St → Prop}, opsX P kn ex false ops l s = some s' → K s' → runA P ops l s K
 | [],s,s',K,h,hk=>by simp only [opsX,Option.some.injEq] at h;subst h;exact hk
 | o :: l,s,s',K,h,hk=>by
  simp only [opsX] at h
  obtain ⟨s1,h1,h2⟩:=Option.bind_eq_some_iff.1 h
  have rest:=qq8 hkn hex (K:=K) h2 hk
  simp only [runA,xp8]
  cases hg:xg9 ops s o with
  | none=>rw [hg] at h1;cases h1
  | some b =>
   rw [hg] at h1
   cases b with
   | true =>
    dsimp only at h1
    split at h1
    ·rename_i s' ho
     cases h1
     rcases qw8 (K:=fun s'=>runA P ops l s' K) hkn hex ho rest with h | h | h | h | h
     ·exact .inl h
     ·exact .inr (.inl h)
     ·exact .inr (.inr (.inl h))
     ·exact .inr (.inr (.inr (.inl h)))
     ·exact .inr (.inr (.inr (.inr (.inl h))))
    ·simp only [Bool.false_eq_true, if_false] at h1
     split at h1
     ·rename_i hg2
      refine .inr (.inr (.inr (.inr (.inr ((ut6 o).mono ?_)))))
      rintro _ rfl
      exact ⟨hg2,qw8 (K:=fun s'=>runA P ops l s' K) hkn hex h1 rest⟩
     ·cases h1
   | false=>exact ⟨s1,h1,rest⟩
theorem zh8 {kn : KnF} (hkn : KnOk P kn) {ex : ys8} (hex : ∀ top kf c s e s' Q, ex top c s = some (e, s') → Q e s' → Wt top kf P c Q s) {ops : List Oper} : ∀ {l : List Oper} {s s' : St} {K : St → Prop}, opsX P kn ex true ops l s = some s' → K s' → runD P ops l s K
 | [],s,s',K,h,hk=>by simp only [opsX,Option.some.injEq] at h;subst h;exact hk
 | o :: l,s,s',K,h,hk=>by
  simp only [opsX] at h
  obtain ⟨s1,h1,h2⟩:=Option.bind_eq_some_iff.1 h
  have rest:=zh8 hkn hex (K:=K) h2 hk
  simp only [runD,wd8]
  cases hg:xg9 ops s o with
  | none=>rw [hg] at h1;cases h1
  | some b =>
   rw [hg] at h1
   cases b with
   | true =>
    dsimp only at h1
    split at h1
    ·rename_i s' ho
     cases h1
     exact kb7 (K:=fun s'=>runD P ops l s' K) hkn hex ho rest
    ·simp at h1
   | false=>exact ⟨s1,h1,rest⟩
theorem wn7 {kn:KnF} (hkn:KnOk P kn) (hm:P.follows .mixedOrders=true) (n:Nat):∀ (top:Bool) (kf:Nat) (c:Code) (s:St) (e:Exit) (s':St) (Q:Exit→St→Prop),exec P kn n top c s=some (e,s')→Q e s'→Wt top kf P c Q s:=by
 induction n using Nat.strongRecOn with
 | _ n ihs =>
 intro top kf c s e s' Q h hq
 cases n with
 | zero=>cases h
 | succ n =>
  have ih:=ihs n (Nat.lt_succ_self n)
  cases c
  case loop body =>
   refine zl9 (fun k s=>k≤n+1∧exec P kn k top (.loop body) s=some (e,s')) (k:=n+1) ⟨Nat.le_refl _,h⟩ ?_
   rintro k s2 ⟨hk,h2⟩
   cases k with
   | zero=>cases h2
   | succ k =>
    have ihk:=ihs k (by omega)
    simp only [exec] at h2
    split at h2
    ·rename_i s1 h1
     exact ihk top kf body s2 _ _ _ h1 ⟨k,Nat.lt_succ_self k,by omega,h2⟩
    ·rename_i hne
     refine ihk top kf body s2 _ _ _ h2 ?_
     cases e with
     | normal=>exact absurd h2 (hne s')
     | _=>exact hq
  all_goals simp only [exec] at h
  case skip=>cases h;exact yk9 hq
  case label l=>cases h;exact jq4 hq
  case scope x =>
   refine km4 ?_
   split at h
   ·cases h
   ·rename_i hne
    refine ih top kf x s _ _ _ h ?_
    cases e with
    | goto l=>exact absurd h (hne l s')
    | _=>exact hq
  case ret=>cases h;exact yn9 hq
  case exit id=>cases h;exact zj9 hq
  case seq x y =>
   refine yl9 ?_
   split at h
   ·rename_i s1 h1
    exact ih top kf x s _ _ _ h1 (ih top kf y s1 _ _ _ h hq)
   ·rename_i hne
    refine ih top kf x s _ _ _ h ?_
    cases e with
    | normal=>exact absurd h (hne s')
    | _=>exact hq
  case cond o x y =>
   split at h
   ·rename_i ho;exact yp9 ho (fun _=>ih top kf x s _ _ _ h hq) (fun h=>(by cases h))
   ·rename_i ho;exact yp9 ho (fun h=>(by cases h)) (fun _=>ih top kf y s _ _ _ h hq)
   ·cases h
  case block id x =>
   refine ys9 ?_
   split at h
   ·rename_i i s1 h1
    refine ih top kf x s _ _ _ h1 ?_
    simp only [qp8]
    split at h
    ·rename_i hi;cases h;rw [if_pos hi];exact hq
    ·rename_i hi;cases h;rw [if_neg hi];exact hq
   ·rename_i hne
    refine ih top kf x s _ _ _ h ?_
    cases e with
    | exit i=>exact absurd h (hne i s')
    | _=>exact hq
  case region id ops draw =>
   split at h
   ·cases h
   ·rename_i hd
    split at h
    ·rename_i s1 h1
     cases h
     cases draw with
     | false=>exact xj7 (qq8 hkn ih h1 hq)
     | true=>exact yp7 hm (by simpa using hd) (zh8 hkn ih h1 hq)
    ·split at h
     ·rename_i hdr
      obtain ⟨s1,h1,h2⟩:=Option.map_eq_some_iff.1 h
      cases h2
      subst hdr
      refine W_pre ((kh7 ops.toList s).mono ?_)
      rintro _ rfl
      exact yp7 hm (by simpa using hd) (zh8 hkn ih h1 hq)
     ·cases h
  case rangeFunc g ps as body =>
   split at h
   ·rename_i htop
    subst htop
    split at h
    ·rename_i f l1 l2 hcal
     obtain ⟨⟨r,h'⟩,hx,h⟩:=Option.bind_eq_some_iff.1 h
     refine jj9 hcal (xq8 ih hx) ?_
     rintro _ _ ⟨rfl,rfl⟩
     dsimp only at h
     unfold xn5 at h
     split at h <;> cases h <;> (rename_i ho;exact ⟨_,_,_,_,_,_,ho,hq⟩)
    ·cases h
   ·cases h
  all_goals cases h
theorem sound_execK {kn:KnF} (hkn:KnOk P kn) (hm:P.follows .mixedOrders=true) (n:Nat) {f:FuncId} {args:List AV} {r:AV} (h:ym6 P (exec P kn n) f args=some r):Sound P f args r:=xw8 (wn7 hkn hm n) h
def kn0:KnF:=fun _ _=>none
theorem kn0_ok:KnOk P kn0:=fun _ _ _ h=>by cases h
theorem zg9 (hm:P.follows .mixedOrders=true) (n:Nat) {f:FuncId} {args:List AV} {r:AV} (h:ym6 P (exec P kn0 n) f args=some r):Sound P f args r:=sound_execK kn0_ok hm n h
end
end Go.AM
set_option linter.unusedSimpArgs false
namespace Go.AM
open Go.RowKit Go.ChangeShapes Go.WideShapes Go.ChangeAt Go.Deep
def isSt (P:Program) (t:TypeId):Bool :=
 match P.underlying t with
 | some (.struct _)=>true
 | _=>false
def tiles (P : Program) : Nat → List Field → Option Nat
 | off,[]=>some off
 | off,f :: fs=>if f.offset=off then tiles P (off+P.cellsOf f.type) fs else none
def km8 (P : Program) : Nat → TypeId → Bool
 | 0,_=>false
 | n+1,t=>match P.underlying t with
  | some .bool=>true
  | some (.int _)=>true
  | some .string=>true
  | some (.slice e)=>km8 P n e&&decide (0 < P.cellsOf e)&&(isSt P e || P.cellsOf e == 1)
  | some (.struct fs)=>(fs.toList.all fun f=>km8 P n f.type)&&tiles P 0 fs.toList == some (P.cellsOf t)
  | _=>false
def TyC (P : Program) : Nat → TypeId → List AV → Prop
 | 0,_,_=>False
 | n+1,t,xs=>match P.underlying t with
  | some .bool=>∃ b,xs=[.v (.bool b)]
  | some (.int k)=>∃ m,xs=[.v (.int k m)]∧k.min≤m∧m≤k.max
  | some .string=>∃ s:ByteArray,xs=[.v (.string s)]∧s.size≤maxLen
  | some (.slice e) => ∃ o l, xs = [.lst o (P.cellsOf e) l] ∧ (l.length ≤ maxLen ∧ l.length * P.bytesOf e ≤ 140737488351232) ∧ (o = .nil ∨ o = .any) ∧ (o = .nil → l = []) ∧
    ∀ x∈l,(isSt P e=true∧∃ ys,x=.agg ys∧TyC P n e ys)∨(isSt P e=false∧TyC P n e [x])
  | some (.struct fs)=>xs.length=P.cellsOf t∧∀ f∈fs.toList,TyC P n f.type ((xs.drop f.offset).take (P.cellsOf f.type))
  | _=>False
def TyV (P:Program) (n:Nat) (t:TypeId) (x:AV):Prop:=(isSt P t=true∧∃ ys,x=.agg ys∧TyC P n t ys)∨(isSt P t=false∧TyC P n t [x])
def xf4 (P : Program) (n : Nat) : List TypeId → List AV → Prop
 | [],[]=>True
 | t :: ts,x :: xs=>TyV P n t x∧xf4 P n ts xs
 | _,_=>False
def un5 (W:World):Ctx where
 base b:=W.heap.size≤b
 pm b:=match W.heap[b]? with
  | some (.cells cs _ _)=>cs.size
  | _=>0
 ow _:=0
 no:=0
 ob _:=0
section
variable {H : Type} {enc : TypeId × Value → H} {P : Program} {W : World}
theorem ys4 {a:Addr} {u:Value} (h:W.cell? a=some u):(un5 W).prot a:=by
 unfold World.cell? at h
 unfold Ctx.prot un5
 dsimp only
 cases hb:W.heap[a.block]? with
 | none=>simp [hb] at h
 | some o =>
  cases o with
  | cells cs t fr =>
   simp only [hb] at h ⊢
   split at h
   ·cases h
   ·exact (Array.getElem?_eq_some_iff.1 h).1
  | _=>simp [hb] at h
structure LRep (W:World) (xs:List AV) (cs:List Value):Prop where
 len:xs.length=cs.length
 rep:∀ (j:Nat) (y:AV),xs[j]?=some y→∃ u:Value,cs[j]?=some u∧Rep (un5 W) W y u∧u.oneCell'=true
 rf:AV.rfL xs=true
 tl:AV.tlL xs=true
 one:∀ y∈xs,y.cells=[y]∧y.one=true
theorem rfL_mk {xs:List AV} (h:∀ x∈xs,x.rf=true):AV.rfL xs=true:=jf8.2 h
theorem vd8 {xs:List AV}:AV.tlL xs=true ↔ ∀ x∈xs,x.tl=true:=by
 induction xs with
 | nil=>simp [AV.tlL]
 | cons x xs ih=>simp [AV.tlL,ih]
theorem xs5 {base:Nat} {a:Addr} {n:Nat} {cs:List Value} (h:W.cells? base a n=some cs):cs.length=n∧∀ k,k < n→∃ u,cs[k]?=some u∧W.cell? (a.add k)=some u:=by
 unfold World.cells? at h
 split at h
 ·have hl:=mapM_some_length h
  simp at hl
  refine ⟨hl,fun k hk=>?_⟩
  have:=mapM_some_get h k k (by simp [hk])
  have hk':k < cs.length:=by omega
  exact ⟨cs[k],by simp [hk'],by rw [this];simp [hk']⟩
 ·cases h
theorem LRep.append {xs ys:List AV} {cs ds:List Value} (h:LRep W xs cs) (k:LRep W ys ds):LRep W (xs++ys) (cs++ds) where
 len:=by simp [h.len,k.len]
 rep j y hj:=by
  rcases Nat.lt_or_ge j xs.length with hlt | hge
  ·rw [List.getElem?_append_left hlt] at hj
   obtain ⟨u,h1,h2⟩:=h.rep j y hj
   exact ⟨u,by rw [List.getElem?_append_left (by rw [← h.len];exact hlt)];exact h1,h2⟩
  ·rw [List.getElem?_append_right hge] at hj
   obtain ⟨u,h1,h2⟩:=k.rep _ y hj
   exact ⟨u,by rw [List.getElem?_append_right (by rw [← h.len];exact hge),← h.len];exact h1,h2⟩
 rf:=by rw [xb6,h.rf,k.rf];rfl
 tl:=vd8.2 fun x hx=>by
  rcases List.mem_append.1 hx with h1 | h1
  ·exact vd8.1 h.tl x h1
  ·exact vd8.1 k.tl x h1
 one y hy:=by
  rcases List.mem_append.1 hy with h1 | h1
  ·exact h.one y h1
  ·exact k.one y h1
theorem qc5 : ∀ (fs : List Field) (off N : Nat), tiles P off fs = some N → off ≤ N
 | [],off,N,h=>by simp [tiles] at h;omega
 | f :: fs,off,N,h=>by
  simp only [tiles] at h
  split at h
  ·have:=qc5 fs _ _ h;omega
  ·cases h
theorem kv7 {n : Nat} {cs : List Value} (ih : ∀ (fuel : Nat) (t : TypeId) (cs : List Value) (x : DataW H × List MemPlace), km8 P n t = true → DataW.trod enc P W 0 (fun _ => true) true fuel t cs = some x → (∀ m ∈ x.1.weights P t, m ≤ reachBytes) → ∃ xs, TyC P n t xs ∧ LRep W xs cs) :
  ∀ (fl : List Field) (off : Nat), tiles P off fl = some cs.length →
   (∀ f∈fl,km8 P n f.type=true∧∃ (k:Nat) (y:DataW H × List MemPlace),DataW.trod enc P W 0 (fun _=>true) true k f.type ((cs.drop f.offset).take (P.cellsOf f.type))=some y∧∀ m∈y.1.weights P f.type,m≤reachBytes) →
   ∃ xs,LRep W xs (cs.drop off)∧∀ f∈fl,off≤f.offset∧TyC P n f.type ((xs.drop (f.offset - off)).take (P.cellsOf f.type))
 | [],off,h,_=>by
  simp [tiles] at h
  refine ⟨[],?_,by simp⟩
  rw [List.drop_eq_nil_of_le (by omega)]
  exact ⟨rfl,by simp,rfl,rfl,by simp⟩
 | f :: fl,off,h,hf=>by
  simp only [tiles] at h
  split at h
  ·rename_i ho
   have hle:=qc5 _ _ _ h
   obtain ⟨xs',h1,h2⟩:=kv7 ih fl _ h (fun g hg=>hf g (List.mem_cons_of_mem _ hg))
   obtain ⟨hp,k,y,hy,hyw⟩:=hf f List.mem_cons_self
   obtain ⟨ys,h3,h4⟩:=ih k f.type _ y hp hy hyw
   rw [ho] at h4
   have hly:ys.length=P.cellsOf f.type:=by rw [h4.len,List.length_take,List.length_drop];omega
   refine ⟨ys++xs',?_,?_⟩
   ·have:=h4.append h1
    rwa [← List.drop_drop,List.take_append_drop] at this
   ·intro g hg
    rcases List.mem_cons.1 hg with rfl | hg
    ·refine ⟨by omega,?_⟩
     rw [ho,Nat.sub_self,List.drop_zero,List.take_append_of_le_length (by omega),List.take_of_length_le (by omega)]
     exact h3
    ·obtain ⟨h5,h6⟩:=h2 g hg
     refine ⟨by omega,?_⟩
     rw [List.drop_append,List.drop_eq_nil_of_le (by omega),List.nil_append,hly,show g.offset - off - P.cellsOf f.type=g.offset - (off+P.cellsOf f.type) by omega]
     exact h6
  ·cases h
theorem kb8 {e : TypeId} : ∀ {l : List (DataW H)} {d : DataW H}, d ∈ l → ∀ n ∈ d.weights P e, n ∈ DataW.weightsAll P e l
 | [],_,h=>by cases h
 | x :: l,d,h=>fun n hn=>by
  rcases List.mem_cons.1 h with rfl | h
  ·exact List.mem_append_left _ hn
  ·exact List.mem_append_right _ (kb8 h n hn)
theorem vp5 : ∀ (n fuel : Nat) (t : TypeId) (cs : List Value) (x : DataW H × List MemPlace), km8 P n t = true → DataW.trod enc P W 0 (fun _ => true) true fuel t cs = some x → (∀ m ∈ x.1.weights P t, m ≤ reachBytes) →
  ∃ xs,TyC P n t xs∧LRep W xs cs
 | 0,_,_,_,_,h,_,_=>by cases h
 | n+1,fuel,t,cs,x,hp,h,hwt=>by
  simp only [km8] at hp
  cases hu:P.underlying t with
  | none=>rw [hu] at hp;cases hp
  | some dd =>
   rw [hu] at hp
   cases dd <;> simp only [] at hp <;> first | (cases hp;done) | skip
   case bool =>
    obtain ⟨b,rfl,_⟩:=DataW.trod_bool hu h
    exact ⟨[.v (.bool b)],by simp only [TyC,hu];exact ⟨b,rfl⟩,rfl,fun j y hj=>by
     match j,hj with
     | 0,hj=>simp at hj;subst hj;exact ⟨_,rfl,.v _,rfl⟩,rfl,rfl,by simp [AV.cells,AV.one]⟩
   case int k =>
    obtain ⟨m,rfl,_,hw⟩:=DataW.trod_int hu h
    simp only [Lit.wf,Bool.and_eq_true,decide_eq_true_eq] at hw
    exact ⟨[.v (.int k m)],by simp only [TyC,hu];exact ⟨m,rfl,hw.1,hw.2⟩,rfl,fun j y hj=>by
     match j,hj with
     | 0,hj=>simp at hj;subst hj;exact ⟨_,rfl,.v _,rfl⟩,rfl,rfl,by simp [AV.cells,AV.one]⟩
   case string =>
    obtain ⟨s,rfl,_,hw⟩:=DataW.trod_string hu h
    exact ⟨[.v (.string s)],by simp only [TyC,hu];exact ⟨s,rfl,hw⟩,rfl,fun j y hj=>by
     match j,hj with
     | 0,hj=>simp at hj;subst hj;exact ⟨_,rfl,.v _,rfl⟩,rfl,rfl,by simp [AV.cells,AV.one]⟩
   case struct fs =>
    simp only [Bool.and_eq_true,List.all_eq_true,beq_iff_eq] at hp
    obtain ⟨ys,m,_,hxe,hl,hlen,hf⟩:=DataW.trod_struct hu h
    obtain ⟨xs,h1,h2⟩:=kv7 (fun fuel t cs x h1 h2 h3=>vp5 n fuel t cs x h1 h2 h3) fs.toList 0 (by rw [hl];exact hp.2) (fun f hf'=>by
     refine ⟨hp.1 f hf',m,?_⟩
     obtain ⟨i,hi⟩:=List.mem_iff_getElem?.1 hf'
     have hi':fs[i]?=some f:=by simpa using hi
     have hlt:i < ys.length:=by rw [hlen];exact (Array.getElem?_eq_some_iff.1 hi').1
     refine ⟨ys[i],by rw [hf i f hi'];simp [hlt],fun m hm=>hwt m ?_⟩
     rw [hxe]
     simp only [DataW.weights,hu]
     exact DataW.weights_mem_each (j:=i) (t:=f.type) (d:=ys[i].1) (by simp [hi']) (by simp [hlt]) m hm)
    rw [List.drop_zero] at h1
    exact ⟨xs,by simp only [TyC,hu];exact ⟨by rw [h1.len,hl],fun f hf'=>(h2 f hf').2⟩,h1⟩
   case slice e =>
    simp only [Bool.and_eq_true,decide_eq_true_eq,Bool.or_eq_true,beq_iff_eq] at hp
    obtain ⟨⟨hpe,hce⟩,hst⟩:=hp
    rcases open_slice hu h with ⟨rfl,_⟩ | ⟨a,len,cap,m,k,D,Pl,rfl,_,hlc,hcm,hm,hxe,hel⟩
    ·exact ⟨[.lst .nil (P.cellsOf e) []],by simp only [TyC,hu];exact ⟨.nil,[],rfl,⟨Nat.zero_le _,by simp⟩,.inl rfl,fun _=>rfl,by simp⟩,rfl,fun j y hj=>by
      match j,hj with
      | 0,hj=>simp at hj;subst hj;exact ⟨_,rfl,.lst (fun _=>undef) rfl (Nat.zero_le _) (Nat.zero_le _) (by simp) (by simp) rfl (fun _=>⟨rfl,rfl⟩) rfl (by simp) (by simp),rfl⟩,rfl,rfl,by simp [AV.cells,AV.one]⟩
    ·have hel':∀ i,i < len→∃ cs' ys,W.cells? 0 (a.add (i * P.cellsOf e)) (P.cellsOf e)=some cs'∧TyC P n e ys∧LRep W ys cs':=fun i hi=>by
      obtain ⟨cs',h1,h2⟩:=hel i (by simp at hm;omega)
      obtain ⟨ys,h3,h4⟩:=vp5 n k e cs' _ hpe h2 (fun m hm'=>hwt m (by
       rw [hxe]
       simp only [DataW.weights,hu]
       refine List.mem_cons_of_mem _ (List.mem_append_left _ (kb8 (d:=D i) ?_ m hm'))
       exact List.mem_map.2 ⟨i,List.mem_range.2 hi,rfl⟩))
      exact ⟨cs',ys,h1,h3,h4⟩
     have hY:∃ Y:Nat→List AV,∀ i,i < len→∃ cs',W.cells? 0 (a.add (i * P.cellsOf e)) (P.cellsOf e)=some cs'∧TyC P n e (Y i)∧LRep W (Y i) cs':=by
      refine ⟨fun i=>if hi:i < len then Classical.choose (Classical.choose_spec (hel' i hi)) else [],fun i hi=>?_⟩
      obtain ⟨h1,h2,h3⟩:=Classical.choose_spec (Classical.choose_spec (hel' i hi))
      exact ⟨_,h1,by simp only [dif_pos hi];exact h2,by simp only [dif_pos hi];exact h3⟩
     obtain ⟨Y,hY⟩:=hY
     let wr:List AV→AV:=fun ys=>if isSt P e then .agg ys else ys.headD .any
     have hYl:∀ i,i < len→(Y i).length=P.cellsOf e:=fun i hi=>by
      obtain ⟨cs',h1,_,h3⟩:=hY i hi
      rw [h3.len,(xs5 h1).1]
     have hwr:∀ i,i < len→(wr (Y i)).cells=Y i∧(wr (Y i)).rf=true:=fun i hi=>by
      obtain ⟨cs',h1,_,h3⟩:=hY i hi
      simp only [wr]
      split
      ·exact ⟨rfl,h3.rf⟩
      ·rename_i hns
       have h1c:P.cellsOf e=1:=by rcases hst with h | h;exact absurd h hns;exact h
       have:=hYl i hi
       rw [h1c] at this
       match hYi:Y i,this with
       | [y],_ =>
        simp only [List.headD_cons]
        exact ⟨(h3.one y (by rw [hYi];simp)).1,jf8.1 h3.rf y (by rw [hYi];simp)⟩
     have hmem:∀ x∈(List.range len).map fun i=>wr (Y i),∃ i,i < len∧x=wr (Y i):=fun x hx=>by
      obtain ⟨i,hi,rfl⟩:=List.mem_map.1 hx
      exact ⟨i,by simpa using hi,rfl⟩
     have hcell:∀ i j,i < len→j < P.cellsOf e→∃ u,W.cell? (a.add (i * P.cellsOf e+j))=some u∧u.oneCell'=true∧∀ y,(Y i)[j]?=some y→Rep (un5 W) W y u:=fun i j hi hj=>by
      obtain ⟨cs',h1,_,h3⟩:=hY i hi
      obtain ⟨h4,h5⟩:=xs5 h1
      obtain ⟨u,h6,h7⟩:=h5 j hj
      rw [zs6] at h7
      have hjl:j < (Y i).length:=by rw [hYl i hi];exact hj
      obtain ⟨u',h8,h9,h10⟩:=h3.rep j (Y i)[j] (by simp [hjl])
      rw [h6] at h8
      cases h8
      refine ⟨u,h7,h10,fun y hy=>?_⟩
      simp [hjl] at hy
      subst hy
      exact h9
     let U:Nat→Value:=fun k=>(W.cell? (a.add k)).getD undef
     have hby:((List.range len).map fun i=>wr (Y i)).length * P.bytesOf e≤140737488351232:=by
      have h0:=hwt ((((List.range len).map D).length+((List.range (m - len)).map fun j=>D (len+j)).length) * P.bytesOf e) (by
       rw [hxe]
       simp only [DataW.weights,hu]
       exact List.mem_cons_self)
      have h1:reachBytes=140737488351232:=rfl
      rw [h1] at h0
      refine Nat.le_trans (Nat.mul_le_mul_right _ ?_) h0
      simp
     refine ⟨[.lst .any (P.cellsOf e) ((List.range len).map fun i=>wr (Y i))],?_,rfl,fun j y hj=>?_,?_,rfl,by simp [AV.cells,AV.one]⟩
     ·simp only [TyC, hu]
      refine ⟨.any,_,rfl,⟨by simp;omega,hby⟩,.inr rfl,fun h=>(by cases h),fun x hx=>?_⟩
      obtain ⟨i,hi,rfl⟩:=hmem x hx
      obtain ⟨cs',h1,h2,h3⟩:=hY i hi
      by_cases hs:isSt P e=true
      ·exact .inl ⟨hs,Y i,by simp [wr,hs],h2⟩
      ·refine .inr ⟨by simpa using hs,?_⟩
       have h1c:P.cellsOf e=1:=by rcases hst with h | h;exact absurd h hs;exact h
       have:=hYl i hi
       rw [h1c] at this
       match hYi:Y i,this with
       | [y],_=>rw [hYi] at h2;simpa [wr,hs] using h2
     ·match j,hj with
      | 0,hj =>
       simp at hj
       subst hj
       refine ⟨_,rfl,.lst U (by simp) hlc hcm (fun _=>hce) ?_ ?_ (by simp) trivial ?_ ?_,rfl⟩
       ·intro x hx
        obtain ⟨i,hi,rfl⟩:=hmem x hx
        rw [(hwr i hi).1,hYl i hi]
       ·refine rfL_mk fun x hx=>?_
        obtain ⟨i,hi,rfl⟩:=hmem x hx
        exact (hwr i hi).2
       ·intro ad k' had hk
        cases had
        have hq:k' / P.cellsOf e < len:=Nat.div_lt_of_lt_mul (by rw [Nat.mul_comm];exact hk)
        have hr:k' % P.cellsOf e < P.cellsOf e:=Nat.mod_lt _ hce
        have hk':k' / P.cellsOf e * P.cellsOf e+k' % P.cellsOf e=k':=by rw [Nat.mul_comm];exact Nat.div_add_mod k' _
        obtain ⟨u,h1,h2,_⟩:=hcell _ _ hq hr
        rw [hk'] at h1
        have hU:U k'=u:=by simp only [U,h1];rfl
        rw [hU]
        exact ⟨h1,ys4 h1,h2⟩
       ·intro i j' x y hi hj'
        simp only [List.getElem?_map,Option.map_eq_some_iff] at hi
        obtain ⟨i',hi',rfl⟩:=hi
        have:i'=i∧i < len:=by
         have:=List.getElem?_eq_some_iff.1 hi'
         obtain ⟨h1,h2⟩:=this
         simp at h1 h2
         exact ⟨h2.symm,h1⟩
        obtain ⟨rfl,hil⟩:=this
        rw [(hwr i' hil).1] at hj'
        have hjl:j' < P.cellsOf e:=by rw [← hYl i' hil];exact (List.getElem?_eq_some_iff.1 hj').1
        obtain ⟨u,h1,_,h3⟩:=hcell i' j' hil hjl
        have hU:U (i' * P.cellsOf e+j')=u:=by simp only [U,h1];rfl
        rw [hU]
        exact h3 y hj'
     ·simp only [AV.rfL,AV.rf,Bool.and_true]
theorem yv3 {n : Nat} {t : TypeId} {v : Value} {d : DataW H} {ps : List MemPlace} {b0 : Nat} (hp : km8 P n t = true) (hval : Value.okWide P W .any b0 t v) (h : DataW.Trod enc P W 0 (fun _ => true) true t v d ps) (hwt : ∀ m ∈ d.weights P t, m ≤ reachBytes) :
  ∃ x,TyV P n t x∧Rep (un5 W) W x v∧x.rf=true∧x.tl=true:=by
 obtain ⟨fuel,hf⟩:=h
 obtain ⟨xs,h1,h2⟩:=vp5 n fuel t _ _ hp hf hwt
 cases n with
 | zero=>cases hp
 | succ n =>
  by_cases hs:isSt P t=true
  ·have hv:∃ cs,v=.agg cs:=by
    unfold isSt at hs
    split at hs
    ·rename_i fs hu
     unfold Value.okWide at hval
     rw [hu] at hval
     obtain ⟨cs,rfl,_⟩:=hval
     exact ⟨cs,rfl⟩
    ·cases hs
   obtain ⟨cs,rfl⟩:=hv
   refine ⟨.agg xs,.inl ⟨hs,xs,rfl,h1⟩,.agg (by simpa [Value.cells] using h2.len) (fun j y hj=>?_),h2.rf,h2.tl⟩
   obtain ⟨u,h3,h4,_⟩:=h2.rep j y hj
   have:cs.getD j undef=u:=by
    have:cs[j]?=some u:=by simpa [Value.cells] using h3
    simp [this]
   rw [this];exact h4
  ·have hs' : isSt P t = false := by simpa using hs
   have hcv:v.cells=#[v]:=by
    simp only [km8] at hp
    cases hu:P.underlying t with
    | none=>rw [hu] at hp;cases hp
    | some dd =>
     rw [hu] at hp
     cases dd <;> simp only [] at hp <;> first | (cases hp;done) | skip
     ·obtain ⟨b,rfl⟩:=okWide_bool hu hval;rfl
     ·obtain ⟨b,rfl⟩:=okWide_int hu hval;rfl
     ·obtain ⟨b,rfl⟩:=okWide_string hu hval;rfl
     ·obtain ⟨a,l,c,rfl⟩:=okWide_slice hu hval;rfl
     ·simp [isSt,hu] at hs
   have hlen:xs.length=1:=by rw [h2.len,hcv];rfl
   match xs,hlen with
   | [x],_ =>
    refine ⟨x,.inr ⟨hs',h1⟩,?_,?_,?_⟩
    ·obtain ⟨u,h3,h4,_⟩:=h2.rep 0 x rfl
     rw [hcv] at h3
     simp at h3
     subst h3
     exact h4
    ·have:=h2.rf;simpa [AV.rfL] using this
    ·have:=h2.tl;simpa [AV.tlL] using this
theorem yr5 {n b0 : Nat} : ∀ {ts : List TypeId} {vs : List Value} {ds : List (DataW H)} {ps : List MemPlace}, (∀ t ∈ ts, km8 P n t = true) →
  (∀ (j:Nat) t v,ts[j]?=some t→vs[j]?=some v→Value.okWide P W .any b0 t v)→DataW.TrodAll enc P W 0 (fun _=>true) true ts vs ds ps→(∀ m∈DataW.weightsEach P ts ds,m≤reachBytes) →
  ∃ xs,xf4 P n ts xs∧RepL P (un5 W) W xs vs∧AV.rfL xs=true∧AV.tlL xs=true
 | [],[],[],_,_,_,_,_=>⟨[],trivial,.nil,rfl,rfl⟩
 | [],[],_ :: _,_,_,_,h,_=>h.elim
 | [],_ :: _,_,_,_,_,h,_=>by cases ‹List (DataW H)› <;> exact h.elim
 | _ :: _,[],_,_,_,_,h,_=>by cases ‹List (DataW H)› <;> exact h.elim
 | _ :: _,_ :: _,[],_,_,_,h,_=>h.elim
 | t :: ts,v :: vs,d :: ds,ps,hp,hv,h,hwt=>by
  obtain ⟨p,q,h1,h2,_⟩:=h
  obtain ⟨x,k1,k2,k3,k4⟩:=yv3 (hp t List.mem_cons_self) (hv 0 t v rfl rfl) h1 (fun m hm=>hwt m (List.mem_append_left _ hm))
  obtain ⟨xs,g1,g2,g3,g4⟩:=yr5 (fun t ht=>hp t (List.mem_cons_of_mem _ ht)) (fun j t v ht hv'=>hv (j+1) t v (by simpa using ht) (by simpa using hv')) h2 (fun m hm=>hwt m (List.mem_append_right _ hm))
  exact ⟨x :: xs,⟨k1,g1⟩,.cons k2 (.none k4) g2,by simp only [AV.rfL,k3,g3,Bool.and_self],by simp only [AV.tlL,k4,g4,Bool.and_self]⟩
theorem yh7 (hl : laidOutB P = true) {W' : World} (hb : Below W.heap.size W W') : ∀ {ts : List TypeId} {vs : List Value} {ds : List (DataW H)} {ps : List MemPlace}, (∀ t ∈ ts, P.readableRec t = true ∧ t < P.types.size) →
  DataW.TrodAll enc P W 0 (fun _=>true) true ts vs ds ps→(∀ x∈ps,x.block < W.heap.size)→DataW.TrodAll enc P W' 0 (fun b=>decide (b < W.heap.size)) true ts vs ds ps
 | [],[],[],_,_,h,_=>h
 | [],[],_ :: _,_,_,h,_=>h.elim
 | [],_ :: _,_,_,_,h,_=>by cases ‹List (DataW H)› <;> exact h.elim
 | _ :: _,[],_,_,_,h,_=>by cases ‹List (DataW H)› <;> exact h.elim
 | _ :: _,_ :: _,[],_,_,h,_=>h.elim
 | t :: ts,v :: vs,d :: ds,ps,hp,h,hlt=>by
  obtain ⟨p,q,h1,h2,rfl⟩:=h
  exact ⟨p, q, Below.trod hl (hp t List.mem_cons_self).1 (hp t List.mem_cons_self).2 h1 hb (fun x hx => hlt x (List.mem_append_left _ hx)),
   yh7 hl hb (fun t ht=>hp t (List.mem_cons_of_mem _ ht)) h2 (fun x hx=>hlt x (List.mem_append_right _ hx)),rfl⟩
theorem yn5:Good Fence.wide:=⟨fun _=>trivial,rfl,rfl⟩
theorem yk5 {f : FuncId} {fn : Func} {s : ChangeSpec} {n : Nat} {t : TypeId} (hl : laidOutB P = true) (hts : ∀ t ∈ fn.params.toList, km8 P n t = true ∧ P.readableRec t = true ∧ t < P.types.size)
  (hvars:s.vars=[]) (hres:fn.resultTypes=#[t]) (ht:P.underlying t=some .bool)
  (hs:∀ (H:Type) (ds:List (DataW H)),ds.length=fn.params.size→s.fn H ds={ results:=[.lit (.bool true)],args:=ds })
  (hsound:∀ xs,xf4 P n fn.params.toList xs→Sound P f xs (.v (.bool true)))
  (base:Nat) (args:Array Value) (ds gs:List (DataW H)) (before:List MemPlace)
  (hval:∀ (j:Nat) t v,fn.params[j]?=some t→args[j]?=some v→Value.okWide P W .any base t v)
  (hW:DataW.Whole enc P fn.params.toList s.vars false W args.toList ds gs before)
  (hsz:(DataW.weightsEach P (fn.params.toList++s.plain.varTypes P) (ds++gs)).all (·≤reachBytes)=true) :
  Calls P f args W fun e W'=>∃ v,e=.returned v∧s.post enc P fn false true false false W args v W':=by
 have hlt:=hW.lt
 obtain ⟨p,q,hA,hV,hpq,hfz,hnd⟩:=hW
 rw [hvars] at hV
 obtain ⟨rfl,rfl⟩:=trodVars_none hV
 rw [List.append_nil] at hpq
 subst hpq
 have hwt:∀ m∈DataW.weightsEach P fn.params.toList ds,m≤reachBytes:=by
  have hvt:s.plain.varTypes P=[]:=by simp [DataSpec.varTypes,ChangeSpec.plain,hvars]
  rw [hvt,List.append_nil,List.append_nil] at hsz
  intro m hm
  simpa using List.all_eq_true.1 hsz m hm
 obtain ⟨xs,k1,k2,k3,k4⟩:=yr5 (n:=n) (b0:=base) (fun t ht=>(hts t ht).1) (fun j t v h1 h2=>hval j t v (by simpa using h1) (by simpa using h2)) hA hwt
 have hcall:=(hsound xs k1).2 Fence.wide 0 (un5 W) W args.toList 1 yn5 rfl (by decide) (fun b h=>h) k2
 rw [← callsIn_wide (n:=0)]
 rw [show args.toList.toArray=args by simp] at hcall
 refine CallsIn.mono hcall ?_
 rintro e W' ⟨u,c',rfl,hp,hr,_⟩
 have hu:u=.bool true:=hr.v_inv
 subst hu
 have hlenD:ds.length=fn.params.size:=by
  have:∀ {ts:List TypeId} {vs:List Value} {ds:List (DataW H)} {ps:List MemPlace},DataW.TrodAll enc P W 0 (fun _=>true) true ts vs ds ps→ds.length=ts.length:=by
   intro ts
   induction ts with
   | nil=>intro vs ds ps h;cases vs <;> cases ds <;> first | rfl | exact h.elim
   | cons t ts ih =>
    intro vs ds ps h
    cases vs <;> cases ds <;> first | exact h.elim | skip
    obtain ⟨p,q,_,h2,_⟩:=h
    simp [ih h2]
  simpa using this hA
 have hfn:=hs H ds hlenD
 have hbel:Below W.heap.size W W':=⟨hp.os,hp.tape,hp.output,hp.size,hp.block⟩
 refine ⟨_,rfl,ds,[],before,[],before,[],⟨before,[],hA,by rw [hvars];simp [DataW.TrodVars],by simp,hfz,hnd⟩,?_,?_,?_,?_,fun h=>(by cases h)⟩
 ·rw [List.append_nil,hfn,hres]
  simp only [Value.resultList]
  exact trodAll_mk1 (shut_bool ht true)
 ·rw [List.append_nil,hfn]
  exact yh7 hl hbel (fun t ht=>(hts t ht).2) hA hlt
 ·rw [List.append_nil,hfn,hvars]
  simp [DataW.TrodVars]
 ·exact hbel.frame _
theorem vq6 {n : Nat} {t e : TypeId} {x : AV} (hu : P.underlying t = some (.slice e)) (he : P.underlying e = some (.int .u8)) (hc : P.cellsOf e = 1) (h : TyV P (n + 2) t x) :
  ∃ (o:Fl) (l:List UInt8),x=.lst o 1 (l.map fun b:UInt8=>AV.v (.int .u8 b.toNat))∧l.length≤maxLen∧l.length * P.bytesOf e≤140737488351232:=by
 have hs:isSt P t=false:=by simp [isSt,hu]
 have hse:isSt P e=false:=by simp [isSt,he]
 rcases h with ⟨h1,_⟩ | ⟨_,h⟩
 ·rw [hs] at h1;cases h1
 ·simp only [TyC, hu] at h
  obtain ⟨o,l,hl,hmax,_,_,hx⟩:=h
  simp only [List.cons.injEq,and_true] at hl
  subst hl
  rw [hc]
  have:∀ l:List AV,(∀ x∈l,(isSt P e=true∧∃ ys,x=.agg ys∧TyC P (n+1) e ys)∨(isSt P e=false∧TyC P (n+1) e [x]))→∃ m:List UInt8,l=m.map fun b:UInt8=>AV.v (.int .u8 b.toNat):=by
   intro l
   induction l with
   | nil=>exact fun _=>⟨[],rfl⟩
   | cons y l ih =>
    intro hx
    obtain ⟨m,rfl⟩:=ih fun x hx'=>hx x (List.mem_cons_of_mem _ hx')
    rcases hx y List.mem_cons_self with ⟨h1,_⟩ | ⟨_,h1⟩
    ·rw [hse] at h1;cases h1
    ·simp only [TyC,he] at h1
     obtain ⟨k,hk,h2,h3⟩:=h1
     simp only [List.cons.injEq,and_true] at hk
     subst hk
     simp [IntKind.min,IntKind.max,IntKind.signed,IntKind.bits] at h2 h3
     refine ⟨UInt8.ofNat k.toNat :: m,?_⟩
     simp only [List.map_cons,List.cons.injEq,AV.v.injEq,Value.int.injEq,true_and,and_true]
     rw [UInt8.toNat_ofNat'];omega
  obtain ⟨m,rfl⟩:=this l hx
  exact ⟨o,m,rfl,by simpa using hmax.1,by simpa using hmax.2⟩
theorem ty_u8 {n:Nat} {t:TypeId} {x:AV} (hu:P.underlying t=some (.int .u8)) (h:TyV P (n+1) t x):∃ b:UInt8,x=.v (.int .u8 b.toNat):=by
 rcases h with ⟨h1,_⟩ | ⟨_,h⟩
 ·simp [isSt,hu] at h1
 ·simp only [TyC,hu] at h
  obtain ⟨k,hk,h2,h3⟩:=h
  simp only [List.cons.injEq,and_true] at hk
  subst hk
  simp [IntKind.min,IntKind.max,IntKind.signed,IntKind.bits] at h2 h3
  exact ⟨UInt8.ofNat k.toNat,by rw [UInt8.toNat_ofNat'];congr 2;omega⟩
end
end Go.AM
set_option linter.unusedSimpArgs false
namespace Go.AM
open Go.RowKit
attribute [simp] jw8 ev1D kh9 AV.flat AV.flatL
section
variable {P : Program} {top : Bool} {kf : Nat}
def js7 (ks:List Nat) (s:St):St:=⟨s.n,km9 ks s.fr,s.h⟩
@[simp] theorem keepS_mk (ks:List Nat) (n:Nat) (fr:List (Nat × AV)) (h:List AObj):js7 ks ⟨n,fr,h⟩=⟨n,km9 ks fr,h⟩:=rfl
theorem zq8 {o:Oper} {s:St} {K K':St→Prop} (hk:∀ s,K s→K' s) (h:step5 P o s K):step5 P o s K':=by
 rcases h with ⟨s',h1,h2⟩ | h | h | h | h
 ·exact .inl ⟨s',h1,hk _ h2⟩
 ·refine .inr (.inl ?_)
  unfold kt6 at *
  split
  ·rename_i c ho
   rw [ho] at h
   dsimp only at h
   split
   ·rename_i hc
    rw [hc] at h
    obtain ⟨a,b,c,d,e1,e2,e3,e4,e5⟩:=h
    exact ⟨a,b,c,d,e1,e2,e3,e4,hk _ e5⟩
   ·rename_i hc;rw [hc] at h;exact h
  ·rename_i hno;split at h <;> first | exact absurd (by assumption) (hno _) | exact h
 ·refine .inr (.inr (.inl ?_))
  unfold xj5 at *
  split
  ·rename_i c ho
   rw [ho] at h
   dsimp only at h
   split
   ·rename_i hc
    rw [hc] at h
    obtain ⟨a,e1,e2,e3⟩:=h
    exact ⟨a,e1,e2,e3.mono fun _ _ ⟨s1,k1,k2⟩=>⟨s1,k1,hk _ k2⟩⟩
   ·rename_i hc;rw [hc] at h;exact h
  ·rename_i hno;split at h <;> first | exact absurd (by assumption) (hno _) | exact h
 ·exact .inr (.inr (.inr (.inl (zb4 hk h))))
 ·exact .inr (.inr (.inr (.inr (zm4 hk h))))
theorem zs8 {ops:List Oper} {o:Oper} {s:St} {K:St→Prop} (hg:xg9 ops s o=some true) (h:step5 P o s K):xp8 P ops o s K:=by
 unfold xp8
 rw [hg]
 rcases h with h | h | h | h | h
 ·exact .inl h
 ·exact .inr (.inl h)
 ·exact .inr (.inr (.inl h))
 ·exact .inr (.inr (.inr (.inl h)))
 ·exact .inr (.inr (.inr (.inr (.inl h))))
theorem xl6 {ops:List Oper} {o:Oper} {s:St} {K K':St→Prop} (hk:∀ s,K s→K' s) (h:xp8 P ops o s K):xp8 P ops o s K':=by
 by_cases hg:xg9 ops s o=some true
 ·unfold xp8 at h
  rw [hg] at h
  rcases h with h | h | h | h | h | h
  ·exact zs8 hg (zq8 hk (.inl h))
  ·exact zs8 hg (zq8 hk (.inr (.inl h)))
  ·exact zs8 hg (zq8 hk (.inr (.inr (.inl h))))
  ·exact zs8 hg (zq8 hk (.inr (.inr (.inr (.inl h)))))
  ·exact zs8 hg (zq8 hk (.inr (.inr (.inr (.inr h)))))
  ·unfold xp8
   rw [hg]
   exact .inr (.inr (.inr (.inr (.inr (h.mono fun s1 ⟨h1,h2⟩=>⟨h1,zq8 hk h2⟩)))))
 ·unfold xp8 at *
  split
  ·rename_i hg2;exact absurd hg2 hg
  ·rename_i hg2;rw [hg2] at h;obtain ⟨s',h1,h2⟩:=h;exact ⟨s',h1,hk _ h2⟩
  ·rename_i hg2;rw [hg2] at h;exact h
theorem jk6 {ops : List Oper} : ∀ {l : List Oper} {s : St} {K K' : St → Prop}, (∀ s, K s → K' s) → runA P ops l s K → runA P ops l s K'
 | [],_,_,_,hk,h=>hk _ h
 | _ :: _,_,_,_,hk,h=>xl6 (fun _ h=>jk6 hk h) h
theorem jm5 {ops:List Oper} {o:Oper} {s:St} {K K':St→Prop} (hk:∀ s,K s→K' s) (h:wd8 P ops o s K):wd8 P ops o s K':=by
 unfold wd8 at *
 split
 ·rename_i hg
  rw [hg] at h
  rcases h with ⟨s',h1,h2⟩ | ⟨h3,h⟩
  ·exact .inl ⟨s',h1,hk _ h2⟩
  ·refine .inr ⟨h3, ?_⟩
   unfold xs6 at *
   split
   ·rename_i c ho
    rw [ho] at h
    dsimp only at h
    split
    ·rename_i hc
     rw [hc] at h
     obtain ⟨a,b,c,e1,e2,e3,e4,e5,e6,e7⟩:=h
     exact ⟨a,b,c,e1,e2,e3,e4,e5,e6,hk _ e7⟩
    ·rename_i hc;rw [hc] at h;exact h
   ·rename_i hno;split at h <;> first | exact absurd (by assumption) (hno _) | exact h
 ·rename_i hg;rw [hg] at h;obtain ⟨s',h1,h2⟩:=h;exact ⟨s',h1,hk _ h2⟩
 ·rename_i hg;rw [hg] at h;exact h
theorem kw7 {ops : List Oper} : ∀ {l : List Oper} {s : St} {K K' : St → Prop}, (∀ s, K s → K' s) → runD P ops l s K → runD P ops l s K'
 | [],_,_,_,hk,h=>hk _ h
 | _ :: _,_,_,_,hk,h=>jm5 (fun _ h=>kw7 hk h) h
theorem zs9 {code:Code} {Q:Exit→St→Prop} {s:St} (ks:List Nat) (h:Wt top kf P code Q (js7 ks s)):Wt top kf P code Q s:=W_keep ks h
theorem W_dvK {id : Nat} {ops : Array Oper} {y : Code} {Q : Exit → St → Prop} {s s' : St} (ks : List Nat) (hm : P.follows .mixedOrders = true) (hd : yk6 ops = true)
  (h:(jw8 P ops.toList ops.toList s).map (js7 ks)=some s') (hq:Wt top kf P y Q s'):Wt top kf P (.seq (.region id ops true) y) Q s:=by
 obtain ⟨s1,h1,rfl⟩:=Option.map_eq_some_iff.1 h
 exact yl9 (W_dv hm hd h1 (zs9 ks hq))
theorem W_dvE {id : Nat} {ops : Array Oper} {Q : Exit → St → Prop} {s s' : St} (ks : List Nat) (hm : P.follows .mixedOrders = true) (hd : yk6 ops = true)
  (h:(jw8 P ops.toList ops.toList s).map (js7 ks)=some s') (hq:Q .normal s'):Wt top kf P (.region id ops true) Q s:=by
 obtain ⟨s1,h1,rfl⟩:=Option.map_eq_some_iff.1 h
 exact wb9 ks (W_dv hm hd h1 hq)
theorem W_rK {id:Nat} {ops:Array Oper} {y:Code} {Q:Exit→St→Prop} {s:St} (ks:List Nat) (h:runA P ops.toList ops.toList s fun s'=>Wt top kf P y Q (js7 ks s')):Wt top kf P (.seq (.region id ops false) y) Q s :=
 yl9 (xj7 (jk6 (fun _ h=>zs9 ks h) h))
theorem W_rE {id:Nat} {ops:Array Oper} {Q:Exit→St→Prop} {s:St} (ks:List Nat) (h:runA P ops.toList ops.toList s fun s'=>Q .normal (js7 ks s')):Wt top kf P (.region id ops false) Q s :=
 wb9 ks (xj7 h)
theorem jh9 {id : Nat} {ops : Array Oper} {y : Code} {Q : Exit → St → Prop} {s : St} (ks : List Nat) (hm : P.follows .mixedOrders = true) (hd : yk6 ops = true) (h : runD P ops.toList ops.toList s fun s' => Wt top kf P y Q (js7 ks s')) :
  Wt top kf P (.seq (.region id ops true) y) Q s :=
 yl9 (yp7 hm hd (kw7 (fun _ h=>zs9 ks h) h))
theorem qt9 {id : Nat} {ops : Array Oper} {Q : Exit → St → Prop} {s : St} (ks : List Nat) (hm : P.follows .mixedOrders = true) (hd : yk6 ops = true) (h : runD P ops.toList ops.toList s fun s' => Q .normal (js7 ks s')) :
  Wt top kf P (.region id ops true) Q s:=wb9 ks (yp7 hm hd h)
theorem yq9 {ops l l2:List Oper} {s s':St} {K:St→Prop} (k:Nat) (h:jv8 P ops (l.take k) s=some s') (hl:l.drop k=l2) (rest:runA P ops l2 s' K):runA P ops l s K:=by
 subst hl
 have:=zf5 h rest
 rwa [List.take_append_drop] at this
theorem yw9 {ops l:List Oper} {s s':St} {K:St→Prop} (h:jv8 P ops l s=some s') (hk:K s'):runA P ops l s K:=by
 have:=yq9 (P:=P) (ops:=ops) (l:=l) (K:=K) (l2:=[]) l.length (by rw [List.take_length];exact h) (by simp) hk
 exact this
def kr6 (P:Program) (s:St) (o:Oper):Option (FuncId × List AV × List AObj) :=
 match o.op with
 | .call c=>match zt9 s c.callee with
  | some (f,l1,l2)=>if c.args.size≤c.argTypes.size then (prep P s (site o) l1 (c.args.toList.zip c.argTypes.toList) l2).map fun x=>(f,x.1,x.2) else none
  | none=>none
 | _=>none
theorem yd9 {ops l : List Oper} {o : Oper} {s s' : St} {K : St → Prop} {f : FuncId} {args : List AV} {h' : List AObj} {r : AV} (hg : xg9 ops s o = some true) (hc : kr6 P s o = some (f, args, h')) (hS : Sound P f args r)
  (hput:(⟨s.n,s.fr,h'⟩:St).put o.dst (r.norm (site o))=some s') (rest:runA P ops l s' K):runA P ops (o :: l) s K:=by
 simp only [runA,xp8]
 rw [hg]
 refine .inr (.inl ?_)
 unfold kr6 at hc
 unfold kt6
 split at hc
 ·rename_i c ho
  split at hc
  ·rename_i f' l1 l2 hcal
   split at hc
   ·rename_i hsz
    obtain ⟨x,hx,he⟩:=Option.map_eq_some_iff.1 hc
    cases he
    rw [ho]
    dsimp only
    rw [hcal]
    unfold prep at hx
    obtain ⟨xs,hxs,hx⟩:=Option.bind_eq_some_iff.1 hx
    obtain ⟨⟨ys,h1⟩,hys,hx⟩:=Option.bind_eq_some_iff.1 hx
    dsimp only at hx
    split at hx
    ·cases hx
     exact ⟨ys,_,r,s',by rw [hxs];exact hys,hsz,hS.ofDp,hput,rest⟩
    ·cases hx
   ·cases hc
  ·cases hc
 ·cases hc
def yb9 (P:Program) (s:St) (o:Oper):Option (FuncId × List AV) :=
 match o.op with
 | .call c=>match zt9 s c.callee with
  | some (f,l1,l2)=>if c.args.size≤c.argTypes.size then (evOpts P s (c.args.toList.zip c.argTypes.toList)).map fun xs=>(f,l1++xs++l2) else none
  | none=>none
 | _=>none
theorem zr9 {ops l : List Oper} {o : Oper} {s : St} {K : St → Prop} {f : FuncId} {args : List AV} (hg : xg9 ops s o = some true) (hc : yb9 P s o = some (f, args))
  (hS:wf9 P f args s.h fun r h'=>∃ s',(⟨s.n,yj8 (AV.toksL args++uf8 s.h) s.fr,h'⟩:St).put o.dst r=some s'∧runA P ops l s' K):runA P ops (o :: l) s K:=by
 simp only [runA,xp8]
 rw [hg]
 refine .inr (.inr (.inl ?_))
 unfold yb9 at hc
 unfold xj5
 split at hc
 ·rename_i c ho
  split at hc
  ·rename_i f' l1 l2 hcal
   split at hc
   ·rename_i hsz
    obtain ⟨x,hx,he⟩:=Option.map_eq_some_iff.1 hc
    cases he
    rw [ho]
    dsimp only
    rw [hcal]
    exact ⟨_,hx,hsz,hS⟩
   ·cases hc
  ·cases hc
 ·cases hc
theorem zw7 {ops l:List Oper} {o:Oper} {s:St} {K:St→Prop} (hg:xg9 ops s o=some true) (h:ql8 P o s fun s'=>runA P ops l s' K):runA P ops (o :: l) s K:=by
 simp only [runA,xp8]
 rw [hg]
 exact .inr (.inr (.inr (.inr (.inl h))))
theorem jj6 {ops l:List Oper} {o:Oper} {s:St} {K:St→Prop} (hg:xg9 ops s o=some true) (h:yw7 P o s fun s'=>runA P ops l s' K):runA P ops (o :: l) s K:=by
 simp only [runA,xp8]
 rw [hg]
 exact .inr (.inr (.inr (.inl h)))
theorem yr9 {ops l l2:List Oper} {s s':St} {K:St→Prop} (k:Nat) (h:jw8 P ops (l.take k) s=some s') (hl:l.drop k=l2) (rest:runD P ops l2 s' K):runD P ops l s K:=by
 subst hl
 have:=jc8 h rest
 rwa [List.take_append_drop] at this
theorem ym9 {ops l:List Oper} {s s':St} {K:St→Prop} (h:jw8 P ops l s=some s') (hk:K s'):runD P ops l s K:=by
 have:=yr9 (P:=P) (ops:=ops) (l:=l) (K:=K) (l2:=[]) l.length (by rw [List.take_length];exact h) (by simp) hk
 exact this
def zw6 (P:Program) (s:St) (o:Oper):Option (FuncId × List AV) :=
 match o.op with
 | .call c=>match c.callee with
  | .value _=>match zt9 s c.callee with
   | some (f,l1,l2)=>if c.args.size≤c.argTypes.size then (evOpts P s (c.args.toList.zip c.argTypes.toList)).bind fun xs=>if AV.flatL xs&&AV.rfL (AV.dpL (l1++xs++l2)) then some (f,AV.dpL (l1++xs++l2)) else none else none
   | none=>none
  | _=>none
 | _=>none
theorem zw9 {ops l : List Oper} {o : Oper} {s s' : St} {K : St → Prop} {f : FuncId} {args : List AV} {r : AV} (hg : xg9 ops s o = some true) (hc : zw6 P s o = some (f, args)) (hS : Sound P f args r)
  (hput:s.put o.dst (r.norm (site o))=some s') (rest:runD P ops l s' K):runD P ops (o :: l) s K:=by
 simp only [runD,wd8]
 rw [hg]
 unfold zw6 at hc
 split at hc
 ·rename_i c ho
  split at hc
  ·rename_i fo hfo
   split at hc
   ·rename_i f' l1 l2 hcal
    split at hc
    ·rename_i hsz
     obtain ⟨xs,hxs,hc⟩:=Option.bind_eq_some_iff.1 hc
     split at hc
     ·rename_i hfl
      cases hc
      simp only [Bool.and_eq_true] at hfl
      refine .inr ⟨by simp [dcls,ho,hfo],?_⟩
      unfold xs6
      rw [ho]
      dsimp only
      rw [hcal]
      exact ⟨xs,r,s',hxs,hfl.1,hfl.2,hsz,hS.ofDp,hput,rest⟩
     ·cases hc
    ·cases hc
   ·cases hc
  ·cases hc
 ·cases hc
theorem jg8 {s:St} {rs:List ResultVar} {k:Nat} {Q:AV→List AObj→Prop} {x:AV} (hx:resA P s rs=some x) (hk:k≤s.h.length) (hu:x.under s.h.length=true∧yc9 s.h.length s.h=true) (hq:Q x s.h):retW P rs k Q .ret s :=
 ⟨.inr rfl,x,x,s.h,s.h.length,hx,.inl ⟨rfl,rfl⟩,hk,Nat.le_refl _,hu.1,by rw [List.take_length];exact hu.2,by rw [List.take_length];exact hq⟩
theorem xd9 {s:St} {rs:List ResultVar} {k:Nat} {Q:AV→List AObj→Prop} {x:AV} (m:Nat) (hx:resA P s rs=some x) (hk:k≤m) (hm:m≤s.h.length) (hu:x.under m=true∧yc9 m (s.h.take m)=true) (hq:Q x (s.h.take m)):retW P rs k Q .ret s :=
 ⟨.inr rfl,x,x,s.h,m,hx,.inl ⟨rfl,rfl⟩,hk,hm,hu.1,hu.2,hq⟩
theorem Sound.dp {f:FuncId} {xs:List AV} {r:AV} (h:Sound P f (AV.dpL xs) r):Sound P f xs r :=
 ⟨h.1,fun F n c w vals T h1 h2 h3 h4 h5=>h.2 F n c w vals T h1 h2 h3 h4 h5.dpL⟩
theorem Sound.weak {f:FuncId} {xs:List AV} {r:AV} (h:Sound P f (AV.weakL xs) r):Sound P f xs r :=
 ⟨h.1,fun F n c w vals T h1 h2 h3 h4 h5=>h.2 F n c w vals T h1 h2 h3 h4 h5.weakL⟩
attribute [simp] kr6 yb9 zw6 prep
@[simp] theorem underL_byL (m:Nat) (l:List UInt8):AV.underL m (byL l)=true:=by induction l <;> simp_all [byL,AV.underL,AV.under]
@[simp] theorem ww7 (l:List UInt8):AV.rfL (byL l)=true:=by induction l <;> simp_all [byL,AV.rfL,AV.rf]
@[simp] theorem tlL_byL (l:List UInt8):AV.tlL (byL l)=true:=by induction l <;> simp_all [byL,AV.tlL,AV.tl]
@[simp] theorem wb8 (l:List UInt8):AV.koneL (byL l)=true:=by induction l <;> simp_all [byL,AV.koneL,AV.kone]
@[simp] theorem wp4 (l:List UInt8):AV.toksL (byL l)=[]:=by induction l <;> simp_all [byL,AV.toksL,AV.toks]
@[simp] theorem killL_byL (T:Nat) (l:List UInt8):AV.killL T (byL l)=byL l:=killL_tl _ (tlL_byL l)
@[simp] theorem uc5 (l:List UInt8):AV.dpL (byL l)=byL l:=by induction l <;> simp_all [byL,AV.dpL,AV.dp]
@[simp] theorem jv9 (l:List UInt8):AV.weakL (byL l)=byL l:=by induction l <;> simp_all [byL,AV.weakL,AV.weak]
@[simp] theorem xb8 (l:List UInt8):catK 1 (byL l)=some (byL l):=by induction l <;> simp_all [byL,catK,AV.cellsK,AV.kone]
@[simp] theorem kl9 (n:Nat) (l:List UInt8) (h:n≤l.length):chunk false 1 n (byL l)=byL (l.take n):=by
 induction n generalizing l with
 | zero=>simp [chunk]
 | succ n ih =>
  cases l with
  | nil=>simp at h
  | cons b l=>simp only [chunk,vp9,List.headD_cons,List.drop_succ_cons,List.drop_zero,List.take_succ_cons,Bool.false_eq_true,if_false];rw [ih l (by simpa using h)]
theorem yg9 {K:St→Prop} {Q:Exit→St→Prop} {s:St} (h:Q .ret s):yj9 K Q .ret s:=h
theorem yh9 {id:Nat} {Q:Exit→St→Prop} {s:St} (h:Q .ret s):qp8 id Q .ret s:=h
end
end Go.AM
namespace Go.AM
open Go.RowKit
variable {P : Program}
mutual
def AV.plain : AV → AV
 | .lst _ s xs=>.lst .any s xs
 | .agg xs=>.agg (AV.plainL xs)
 | .tup xs=>.tup (AV.plainL xs)
 | x=>x
def AV.plainL : List AV → List AV
 | []=>[]
 | x :: xs=>AV.plain x :: AV.plainL xs
end
theorem xm6 (xs:List AV) (j:Nat):(AV.plainL xs)[j]?=(xs[j]?).map AV.plain:=by
 induction xs generalizing j with
 | nil=>simp [AV.plainL]
 | cons x xs ih=>cases j <;> simp [AV.plainL,ih]
theorem zd7 (xs:List AV):(AV.plainL xs).length=xs.length:=by
 induction xs <;> simp_all [AV.plainL]
theorem Rep.plain {c:Ctx} {w:World} {x:AV} {u:Value} (h:Rep c w x u):Rep c w x.plain u:=by
 induction h with
 | lst u hn hcap hmax hs hsz hrf hz hnil hc hr _=>exact .lst u hn hcap hmax hs hsz hrf hz trivial hc hr
 | agg h _ ih =>
  refine .agg (by rw [zd7];exact h) fun j y hj=>?_
  rw [xm6] at hj
  obtain ⟨x,hx,rfl⟩:=Option.map_eq_some_iff.1 hj
  exact ih j x hx
 | tup h _ ih =>
  refine .tup (by rw [zd7];exact h) fun j y hj=>?_
  rw [xm6] at hj
  obtain ⟨x,hx,rfl⟩:=Option.map_eq_some_iff.1 hj
  exact ih j x hx
 | any u=>exact .any u
 | v x=>exact .v x
 | ro u hrf hc hr=>exact .ro u hrf hc hr
 | loc h=>exact .loc h
 | arr h h1 h2=>exact .arr h h1 h2
 | fn h1 h2 r1 r2=>exact .fn h1 h2 r1 r2
 | mp h=>exact .mp h
 | yld h=>exact .yld h
mutual
theorem yl7 : (x : AV) → x.plain.tl = true
 | .lst _ _ _=>rfl
 | .agg xs=>tl_plainL xs
 | .tup xs=>tl_plainL xs
 | .any=>rfl
 | .v _=>rfl
 | .ro _=>rfl
 | .loc _ _=>rfl
 | .arr _ _ _ _=>rfl
 | .fn _ _ _=>rfl
 | .mp _=>rfl
 | .yld _=>rfl
theorem tl_plainL : (xs : List AV) → AV.tlL (AV.plainL xs) = true
 | []=>rfl
 | x :: xs=>by simp only [AV.plainL,AV.tlL,yl7 x,tl_plainL xs,Bool.and_self]
end
mutual
theorem wp7 (T : Nat) : (x : AV) → (x.norm T).plain = x.plain
 | .lst (.tip _ _) _ _=>rfl
 | .lst .any _ _=>rfl
 | .lst .nil _ _=>rfl
 | .lst .ex _ _=>rfl
 | .agg xs=>by simp only [AV.norm,AV.plain,plain_normL T xs]
 | .tup xs=>by simp only [AV.norm,AV.plain,plain_normL T xs]
 | .any=>rfl
 | .v _=>rfl
 | .ro _=>rfl
 | .loc _ _=>rfl
 | .arr _ _ _ _=>rfl
 | .fn _ _ _=>rfl
 | .mp _=>rfl
 | .yld _=>rfl
theorem plain_normL (T : Nat) : (xs : List AV) → AV.plainL (AV.normL T xs) = AV.plainL xs
 | []=>rfl
 | x :: xs=>by simp only [AV.normL,AV.plainL,wp7 T x,plain_normL T xs]
end
theorem Sound.weakR {f:FuncId} {xs:List AV} {r:AV} (h:Sound P f xs r):Sound P f xs r.plain :=
 ⟨h.1,fun F n c w vals T h1 h2 h3 h4 h5=>(h.2 F n c w vals T h1 h2 h3 h4 h5).mono fun e w' hh=>by
  obtain ⟨u,c',he,hx,hr,ho⟩:=hh
  have hr':=hr.plain
  rw [wp7] at hr'
  exact ⟨u,c',he,hx,hr'.norm h3,.none (wd7 T _ (yl7 r))⟩⟩
attribute [simp] AV.plain AV.plainL
def flds (P:Program) (t:TypeId):Option (List (TypeId × Nat × Nat)) :=
 match P.underlying t with
 | some (.struct fs)=>some (fs.toList.map fun f=>(f.type,f.offset,P.cellsOf f.type))
 | _=>none
theorem xv4 {n m : Nat} {t : TypeId} {x : AV} {l : List (TypeId × Nat × Nat)} (hf : flds P t = some l) (hc : P.cellsOf t = m) (h : TyV P (n + 1) t x) :
  ∃ ys,x=.agg ys∧ys.length=m∧∀ p∈l,TyC P n p.1 ((ys.drop p.2.1).take p.2.2):=by
 unfold flds at hf
 split at hf
 ·rename_i fs hu
  cases hf
  have hs:isSt P t=true:=by simp [isSt,hu]
  rcases h with ⟨_,ys,rfl,h⟩ | ⟨h1,_⟩
  ·simp only [TyC,hu] at h
   refine ⟨ys,rfl,by rw [h.1,hc],fun p hp=>?_⟩
   obtain ⟨f,hf,rfl⟩:=List.mem_map.1 hp
   exact h.2 f hf
  ·rw [hs] at h1;cases h1
 ·cases hf
theorem ty_int {n:Nat} {t:TypeId} {x:AV} {k:IntKind} (hu:P.underlying t=some (.int k)) (h:TyV P (n+1) t x):∃ m:Int,x=.v (.int k m)∧k.min≤m∧m≤k.max:=by
 rcases h with ⟨h1,_⟩ | ⟨_,h⟩
 ·simp [isSt,hu] at h1
 ·simp only [TyC,hu] at h
  obtain ⟨m,hk,h2⟩:=h
  simp only [List.cons.injEq,and_true] at hk
  exact ⟨m,hk,h2⟩
def retN (P:Program) (rs:List ResultVar) (r:AV) (e:Exit) (s:St):Prop:=∃ r0,retQ P rs r0 e s∧((∀ T,r0.norm T=r.norm T)∨r0.plain=r)
theorem vm9 {f : FuncId} {fn : Func} {code : Code} {args : List AV} {r : AV} (hf : P.funcs[f]? = some fn) (hb : fn.body = some code) (hn : (fn.name == "runtime.NumGoroutine") = false)
  (hlen:args.length≤fn.ntmps) (hrf:AV.rfL args=true) (htl:AV.tlL args=true) {rs:List ResultVar} (hrs:fn.results.toList=rs) (h:W P code (retN P rs r) ⟨fn.ntmps,numF 0 args,[]⟩):Sound P f args r:=by
 subst hrs
 refine ⟨⟨fn,hf,hn,by rw [hb];rfl⟩,?_⟩
 intro F n c w vals T hF hro hT hbase hargs
 let c0:Ctx:={ c with base:=fun b=>w.heap.size≤b,no:=0 }
 have hargs0:RepL P c0 w args vals:=RepL.enter (c:=c) (c':=c0) rfl hargs hrf htl
 have hl:args.length=vals.length:=hargs.length
 refine callsIn_of_wp_marks hf hb (hF.1 f) ?_ hro
 have hs0:SimSt P c0 w ⟨fn.ntmps,numF 0 args,[]⟩ { tmps:=vals.toArray++Array.replicate (fn.ntmps - vals.toArray.size) undef,defers:=[] }:=by
  refine ⟨by simp;omega,fun _ h=>h,?_,⟨rfl,fun i hi=>absurd hi (Nat.not_lt_zero _),fun i j hi=>absurd hi (Nat.not_lt_zero _),by simp⟩,⟨[],rfl,.nil,by simp⟩⟩
  intro i x hx
  obtain ⟨h1,h2⟩:=kp8 args 0 i x hx
  obtain ⟨u,hu,hr,ho⟩:=hargs0.get (by simpa using h2)
  have hi:i < vals.length:=(List.getElem?_eq_some_iff.1 hu).1
  exact ⟨u,by rw [Array.getElem?_append_left (by simpa using hi)];simpa using hu,hr,ho⟩
 refine wpIn_mono (h F n c0 w _ (hF.top hro (Nat.zero_le _) true) hs0) ?_
 rintro e a' w' ⟨s',c',⟨r0,⟨he,x,h',hres,hfr,hrr⟩,hnorm⟩,hs',hext⟩
 have key:LeavesInM F n P fn a'.tmps (fun e w'=>∃ u c',e=.returned u∧PExt c w c' w'∧Rep c' w' (r.norm T) u∧Own P (c'.rebase fun b=>w.heap.size≤b) w' (r.norm T) u) a'.defers .returning w':=by
  obtain ⟨rs,hd,hnd,hrs⟩:=hs'.dfr
  obtain ⟨w2,hsh,hleave⟩:=xn7 (F:=F) (n:=n) (fn:=fn) (tmps:=a'.tmps) (R:=fun e w'=>∃ u c',e=.returned u∧PExt c w c' w'∧Rep c' w' (r.norm T) u∧Own P (c'.rebase fun b=>w.heap.size≤b) w' (r.norm T) u) rs w' hnd hrs
  rw [hd]
  refine hleave ?_
  have hs2:=hs'.recell hsh
  obtain ⟨v,hrun,hrep,hown⟩:=wh8 hs2 hres
  obtain ⟨c3,e3,k3,s3,r3,o3⟩:=zw8 (by decide) x s' c' r0 h' v hs2 hfr hrep hown
  have hb':c'.base=(fun b=>w.heap.size≤b):=hext.base
  have hb3:c3.base=(fun b=>w.heap.size≤b):=by rw [e3.base,hb']
  let cF:Ctx:={ c with pm:=c3.pm,ow:=fun b=>if b < w.heap.size then c.ow b else T }
  refine ⟨v,hrun,v,cF,rfl,⟨rfl,rfl,rfl,by rw [hsh.os];exact hext.os,by rw [hsh.tape];exact hext.tape,by rw [hsh.output];exact hext.output,by rw [hsh.size];exact hext.size,?_,?_,?_⟩,?_,?_⟩
  ·intro b hlt
   rw [hsh.below b (by rw [hb'];simpa using hlt)]
   exact hext.below b (by simpa [c0] using hlt)
  ·intro b hlt
   have h1:c3.pm b=c'.pm b:=e3.pmb b (by rw [hb'];simpa using hlt)
   have h2:c'.pm b=c.pm b:=hext.pmb b (by simpa [c0] using hlt)
   exact h1.trans h2
  ·intro b hlt
   simp only [cF,if_pos hlt]
  ·rcases hnorm with hnorm | rfl
   ·rw [← hnorm T]
    exact (Rep.recast (c:=c3) (c':=cF) (fun a ha=>ha) r3 hrr).norm hT
   ·exact (Rep.recast (c:=c3) (c':=cF) (fun a ha=>ha) r3 hrr).plain.norm hT
  ·rcases hnorm with hnorm | rfl
   rotate_left
   ·exact .none (wd7 T _ (yl7 r0))
   rw [← hnorm T]
   refine Own.recast (c:=c3) (c':=cF.rebase fun b=>w.heap.size≤b) hT ?_ rfl ?_ o3
   ·rw [hb3];exact fun _ h=>h
   ·intro g hg
    rw [hb3] at hg
    simp only [cF,Ctx.rebase,if_neg (show ¬ g < w.heap.size by omega)]
 rcases he with rfl | rfl
 ·exact key
 ·exact key
def inL (l:List Int):List AV:=l.map fun b=>.v (.int .i64 b)
@[simp] theorem inL_nil:inL []=[]:=rfl
end Go.AM
set_option linter.unusedSimpArgs false
namespace Go.AM
open Go.RowKit
variable {P : Program}
namespace AV
mutual
theorem under_le {m n : Nat} (h : m ≤ n) : (x : AV) → x.under m = true → x.under n = true
 | .loc _ _,k=>by simp only [AV.under,decide_eq_true_eq] at k ⊢;omega
 | .arr _ _ _ _,k=>by simp only [AV.under,decide_eq_true_eq] at k ⊢;omega
 | .mp _,k=>by simp only [AV.under,decide_eq_true_eq] at k ⊢;omega
 | .yld _,k=>by simp only [AV.under,decide_eq_true_eq] at k ⊢;omega
 | .fn _ a b,k=>by simp only [AV.under,Bool.and_eq_true] at k ⊢;exact ⟨underL_le h a k.1,underL_le h b k.2⟩
 | .agg xs,k=>underL_le h xs k
 | .tup xs,k=>underL_le h xs k
 | .any,_=>rfl
 | .v _,_=>rfl
 | .lst _ _ _,_=>rfl
 | .ro _,_=>rfl
theorem underL_le {m n : Nat} (h : m ≤ n) : (xs : List AV) → AV.underL m xs = true → AV.underL n xs = true
 | [],_=>rfl
 | x :: xs,k=>by
  simp only [AV.underL,Bool.and_eq_true] at k ⊢
  exact ⟨under_le h x k.1,underL_le h xs k.2⟩
end
end AV
theorem qf8 {m n : Nat} (h : m ≤ n) : (xs : List (Value × AV)) → wt9 m xs = true → wt9 n xs = true
 | [],_=>rfl
 | (_,x) :: xs,k=>by
  simp only [wt9,Bool.and_eq_true] at k ⊢
  exact ⟨AV.under_le h x k.1,qf8 h xs k.2⟩
theorem wd6 {m n : Nat} (h : m ≤ n) : (xs : List (Nat × AV)) → yv9 m xs = true → yv9 n xs = true
 | [],_=>rfl
 | (_,x) :: xs,k=>by
  simp only [yv9,Bool.and_eq_true] at k ⊢
  exact ⟨AV.under_le h x k.1,wd6 h xs k.2⟩
theorem AObj.under_le {m n:Nat} (h:m≤n) (o:AObj) (k:o.under m=true):o.under n=true:=by
 cases o with
 | cells _ cs=>exact AV.underL_le h cs k
 | froz _ cs=>exact AV.underL_le h cs k
 | map es=>exact qf8 h es k
 | loop _ fr _ _ _ _=>exact wd6 h fr k
 | dead=>rfl
theorem yf7 {m n : Nat} (h : m ≤ n) : (xs : List AObj) → yc9 m xs = true → yc9 n xs = true
 | [],_=>rfl
 | x :: xs,k=>by
  simp only [yc9,Bool.and_eq_true] at k ⊢
  exact ⟨AObj.under_le h x k.1,yf7 h xs k.2⟩
theorem yg7 (m:Nat) (a b:List AObj):yc9 m (a++b)=(yc9 m a&&yc9 m b):=by
 induction a with
 | nil=>simp [yc9]
 | cons x a ih=>simp [yc9,ih,Bool.and_assoc]
theorem yw4 {ops l : List Oper} {o : Oper} {s : St} {K : St → Prop} {cl : Call} {xo yo : Operand} {t t' e sz by_ n s0 : Nat} {ag : Bool} {z : AV} {k kn : IntKind} {x0 : List AV} (hg : xg9 ops s o = some true)
  (ho:o.op=.call cl) (hc:cl.callee=.builtin .append) (ha:cl.args.toList=[xo,yo]) (hty:cl.argTypes.toList=[t,t']) (h1:s.evT P t xo=some (.lst .nil s0 x0)) (h2:s.ev yo=some (.v (.int k (n:Nat))))
  (hsl:slI P t=some (e,ag,sz)) (htn:P.underlying t'=some (.int kn)) (hap:apI P e=some (sz,by_)) (hz:zA P e=some z) (hside:z.cells.length=sz∧0 < sz∧0 < by_) (hn:0 < n) (hb:n * by_≤140737488355328)
  (rest:∀ cap',n≤cap'→cap'≤maxLen→∃ s',({ s with h:=s.h++[.cells e (repC cap' z.cells)] }:St).put o.dst (.arr s.h.length 0 n cap')=some s'∧runA P ops l s' K):runA P ops (o :: l) s K:=by
 refine zw7 hg ?_
 unfold ql8
 rw [ho]
 dsimp only
 rw [hc,ha,hty]
 exact .inr (.inl ⟨e,ag,sz,by_,z,kn,k,n,s0,x0,h1,hsl,htn,hap,hz,hside.1,hside.2.1,hside.2.2,h2,hn,hb,rest⟩)
theorem yq3 {ops l : List Oper} {o : Oper} {s : St} {K : St → Prop} {cl : Call} {xo yo : Operand} {t e sz by_ s0 : Nat} {ag : Bool} {z : AV} {oy : Fl} {x0 ys yc : List AV} (hg : xg9 ops s o = some true)
  (ho:o.op=.call cl) (hc:cl.callee=.builtin .append) (ha:cl.args.toList=[xo,yo]) (hty:cl.argTypes.toList=[t,t]) (h1:s.evT P t xo=some (.lst .nil s0 x0)) (h2:s.evT P t yo=some (.lst oy sz ys))
  (hsl:slI P t=some (e,ag,sz)) (hap:apI P e=some (sz,by_)) (hz:zA P e=some z) (hside:z.cells.length=sz∧0 < sz∧0 < by_) (hcat:catK sz ys=some yc) (hne:ys≠[])
  (hb:ys.length * by_≤140737488355328)
  (rest:∀ cap',ys.length≤cap'→cap'≤maxLen→∃ s',({ s with h:=s.h++[.cells e (AV.weakL yc++repC (cap' - ys.length) z.cells)] }:St).put o.dst (.arr s.h.length 0 ys.length cap')=some s'∧runA P ops l s' K):runA P ops (o :: l) s K:=by
 refine zw7 hg ?_
 unfold ql8
 rw [ho]
 dsimp only
 rw [hc,ha,hty]
 exact .inr (.inr ⟨rfl,e,ag,sz,by_,z,s0,x0,ys.length,AV.weakL yc,h1,hsl,hap,hz,hside.1,hside.2.1,hside.2.2,by unfold srcA;rw [h2];simp [hcat],List.length_pos_iff.2 hne,hb,rest⟩)
theorem vq4 {ops l : List Oper} {o : Oper} {s : St} {K : St → Prop} {cl : Call} {xo yo : Operand} {t e sz by_ s0 m : Nat} {ag : Bool} {z : AV} {x0 yc : List AV} (hg : xg9 ops s o = some true)
  (ho:o.op=.call cl) (hc:cl.callee=.builtin .append) (ha:cl.args.toList=[xo,yo]) (hty:cl.argTypes.toList=[t,t]) (h1:s.evT P t xo=some (.lst .nil s0 x0)) (h2:srcA P s t yo sz=some (m,yc))
  (hsl:slI P t=some (e,ag,sz)) (hap:apI P e=some (sz,by_)) (hz:zA P e=some z) (hside:z.cells.length=sz∧0 < sz∧0 < by_) (hne:0 < m)
  (hb:m * by_≤140737488355328)
  (rest:∀ cap',m≤cap'→cap'≤maxLen→∃ s',({ s with h:=s.h++[.cells e (yc++repC (cap' - m) z.cells)] }:St).put o.dst (.arr s.h.length 0 m cap')=some s'∧runA P ops l s' K):runA P ops (o :: l) s K:=by
 refine zw7 hg ?_
 unfold ql8
 rw [ho]
 dsimp only
 rw [hc,ha,hty]
 exact .inr (.inr ⟨rfl,e,ag,sz,by_,z,s0,x0,m,yc,h1,hsl,hap,hz,hside.1,hside.2.1,hside.2.2,h2,hne,hb,rest⟩)
theorem jl6 {ops l : List Oper} {o : Oper} {s : St} {K : St → Prop} {cl : Call} {xo yo : Operand} {t e sz by_ id len cap m : Nat} {ag : Bool} {z : AV} {cs yc : List AV} (hg : xg9 ops s o = some true)
  (ho:o.op=.call cl) (hc:cl.callee=.builtin .append) (ha:cl.args.toList=[xo,yo]) (hty:cl.argTypes.toList=[t,t]) (h1:s.evT P t xo=some (.arr id 0 len cap)) (h2:srcA P s t yo sz=some (m,yc))
  (hsl:slI P t=some (e,ag,sz)) (hap:apI P e=some (sz,by_)) (hz:zA P e=some z) (hside:z.cells.length=sz∧0 < sz∧0 < by_) (hobj:s.h[id]?=some (.cells e cs)) (hcs:cs.length=cap * sz)
  (hb:(len+m) * by_≤140737488355328)
  (rest:∀ s1 x1,appQ0 s e sz id len cap m yc cs z.cells s1 x1→∃ s',s1.put o.dst x1=some s'∧runA P ops l s' K):runA P ops (o :: l) s K:=by
 refine zw7 hg ?_
 unfold ql8
 rw [ho]
 dsimp only
 rw [hc,ha,hty]
 exact .inl ⟨rfl,e,ag,sz,by_,z,id,len,cap,cs,m,yc,hsl,hap,hz,hside.1,hside.2.1,hside.2.2,h1,hobj,hcs,h2,hb,rest⟩
theorem vc6 {ops l : List Oper} {o : Oper} {s : St} {K : St → Prop} {cl : Call} {xo yo : Operand} {t e sz by_ id len cap : Nat} {ag : Bool} {z : AV} {oy : Fl} {cs ys yc : List AV} (hg : xg9 ops s o = some true)
  (ho:o.op=.call cl) (hc:cl.callee=.builtin .append) (ha:cl.args.toList=[xo,yo]) (hty:cl.argTypes.toList=[t,t]) (h1:s.evT P t xo=some (.arr id 0 len cap)) (h2:s.evT P t yo=some (.lst oy sz ys))
  (hsl:slI P t=some (e,ag,sz)) (hap:apI P e=some (sz,by_)) (hz:zA P e=some z) (hside:z.cells.length=sz∧0 < sz∧0 < by_) (hobj:s.h[id]?=some (.cells e cs)) (hcs:cs.length=cap * sz) (hcat:catK sz ys=some yc)
  (hb:(len+ys.length) * by_≤140737488355328)
  (rest:∀ s1 x1,appQ s e sz id len cap ys.length yc cs z.cells s1 x1→∃ s',s1.put o.dst x1=some s'∧runA P ops l s' K):runA P ops (o :: l) s K:=by
 refine zw7 hg ?_
 unfold ql8
 rw [ho]
 dsimp only
 rw [hc,ha,hty]
 exact .inl ⟨rfl,e,ag,sz,by_,z,id,len,cap,cs,ys.length,AV.weakL yc,hsl,hap,hz,hside.1,hside.2.1,hside.2.2,h1,hobj,hcs,by unfold srcA;rw [h2];simp [hcat],hb,rest⟩
theorem zd8 {ops l : List Oper} {o : Oper} {s : St} {K : St → Prop} {cl : Call} {xo yo : Operand} {t t' e sz id off len cap : Nat} {ag : Bool} {oy : Fl} {cs ys yc : List AV} (hg : xg9 ops s o = some true)
  (ho:o.op=.call cl) (hc:cl.callee=.builtin .copy) (ha:cl.args.toList=[xo,yo]) (hty:cl.argTypes.toList=[t,t']) (h1:s.evT P t xo=some (.arr id off len cap)) (h2:s.evT P t' yo=some (.lst oy sz ys))
  (hsl:slI P t=some (e,ag,sz)) (hsz:0 < sz) (hobj:s.h[id]?=some (.cells e cs)) (hcs:off+len * sz≤cs.length) (hcat:catK sz (ys.take len)=some yc)
  (rest:∃ s',({ s with h:=s.h.set id (.cells e (yf9 cs off (AV.weakL yc))) }:St).put o.dst (.v (goInt (min ys.length len:Nat)))=some s'∧runA P ops l s' K):runA P ops (o :: l) s K:=by
 refine zw7 hg ?_
 unfold ql8
 rw [ho]
 dsimp only
 rw [hc,ha,hty]
 exact ⟨e,ag,sz,id,off,len,cap,cs,oy,ys,yc,hsl,hsz,h1,hobj,hcs,h2,hcat,rest⟩
theorem W_rsK {top : Bool} {kf : Nat} {id : Nat} {ops : Array Oper} {y : Code} {Q : Exit → St → Prop} {s : St} (pre : Nat) (ks : List Nat) (hm : P.follows .mixedOrders = true) (hd : zk3 ops pre = true)
  (h:runD P ops.toList (ops.toList.take pre) s fun s'=>runA P ops.toList (ops.toList.drop pre) s' fun s2=>Wt top kf P y Q (js7 ks s2)):Wt top kf P (.seq (.region id ops true) y) Q s :=
 yl9 (wb9 ks (jw4 pre hm hd h))
theorem yt7 {top : Bool} {kf : Nat} {id : Nat} {ops : Array Oper} {Q : Exit → St → Prop} {s : St} (pre : Nat) (ks : List Nat) (hm : P.follows .mixedOrders = true) (hd : zk3 ops pre = true)
  (h:runD P ops.toList (ops.toList.take pre) s fun s'=>runA P ops.toList (ops.toList.drop pre) s' fun s2=>Q .normal (js7 ks s2)):Wt top kf P (.region id ops true) Q s :=
 wb9 ks (jw4 pre hm hd h)
theorem wt7 (n:Nat):repC n [AV.v (.int .u8 0)]=byL (List.replicate n 0):=by
 induction n with
 | zero=>rfl
 | succ n ih=>simp only [repC,ih,List.replicate_succ,vp9];rfl
theorem jp6 (B b:List UInt8) (off:Nat):yf9 (byL B) off (byL b)=byL (B.take off++b++B.drop (off+b.length)):=by
 simp only [yf9,vp8,wc9,xf9,wd9]
theorem um5 (n:Nat) (l:List UInt8) (h:n≤l.length):chunk false 1 n (byL l)=byL (l.take n):=kl9 n l h
def bbL (L:List (List UInt8)):List AV:=L.map fun b=>.lst .any 1 (byL b)
@[simp] theorem wn6 (L:List (List UInt8)):(bbL L).length=L.length:=by simp [bbL]
@[simp] theorem bbL_nil:bbL []=[]:=rfl
theorem qq9 (b:List UInt8) (L:List (List UInt8)):bbL (b :: L)=.lst .any 1 (byL b) :: bbL L:=rfl
theorem wv9 (L M:List (List UInt8)):bbL (L++M)=bbL L++bbL M:=by simp [bbL]
theorem jp5 (L:List (List UInt8)) (n:Nat):bbL (L.take n)=(bbL L).take n:=by simp [bbL]
theorem js5 (L:List (List UInt8)) (n:Nat):bbL (L.drop n)=(bbL L).drop n:=by simp [bbL]
theorem qp5 (L:List (List UInt8)) (i:Nat):(bbL L)[i]?=(L[i]?).map fun b=>.lst .any 1 (byL b):=by simp [bbL]
@[simp] theorem bbL_getElem (L:List (List UInt8)) (i:Nat) (h:i < (bbL L).length):(bbL L)[i]=.lst .any 1 (byL (L[i]'(by simpa using h))):=by simp [bbL]
@[simp] theorem rfL_bbL (L:List (List UInt8)):AV.rfL (bbL L)=true:=by induction L <;> simp_all [bbL,AV.rfL,AV.rf]
@[simp] theorem koneL_bbL (L:List (List UInt8)):AV.koneL (bbL L)=true:=by induction L <;> simp_all [bbL,AV.koneL,AV.kone]
@[simp] theorem dpL_bbL (L:List (List UInt8)):AV.dpL (bbL L)=bbL L:=by induction L <;> simp_all [bbL,AV.dpL,AV.dp]
@[simp] theorem xj4 (L:List (List UInt8)):AV.weakL (bbL L)=bbL L:=by induction L <;> simp_all [bbL,AV.weakL,AV.weak]
def kl4 : AV → Option UInt8
 | .v (.int .u8 n)=>if 0≤n∧n < 256 then some (UInt8.ofNat n.toNat) else none
 | _=>none
theorem kk4 {x:AV} {b:UInt8} (h:kl4 x=some b):x=.v (.int .u8 b.toNat):=by
 unfold kl4 at h
 split at h
 ·split at h
  ·rename_i n hn
   cases h
   congr 2
   rw [UInt8.toNat_ofNat'];omega
  ·cases h
 ·cases h
def bytesOf : List AV → Option (List UInt8)
 | []=>some []
 | x :: xs=>(kl4 x).bind fun b=>(bytesOf xs).map fun l=>b :: l
theorem zr8 : ∀ {xs : List AV} {l : List UInt8}, bytesOf xs = some l → xs = byL l
 | [],l,h=>by simp only [bytesOf,Option.some.injEq] at h;subst h;rfl
 | x :: xs,l,h=>by
  simp only [bytesOf] at h
  obtain ⟨b,hb,h⟩:=Option.bind_eq_some_iff.1 h
  obtain ⟨l',hl,rfl⟩:=Option.map_eq_some_iff.1 h
  rw [vp9,kk4 hb,zr8 hl]
end Go.AM
namespace Go.AM
open Go.RowKit
set_option linter.unusedSimpArgs false
def AV.shal : AV → Bool
 | .v _=>true
 | .any=>true
 | .lst _ _ []=>true
 | _=>false
def AV.shalL (xs:List AV):Bool:=xs.all AV.shal
def AV.sl : AV → Bool
 | .v (.slice _ _ _)=>true
 | .v _=>false
 | .lst _ _ _=>true
 | .arr _ _ _ _=>true
 | .any=>true
 | _=>false
def AV.isL : AV → Bool
 | .lst _ _ _=>true
 | _=>false
mutual
def AV.deep : AV → Bool
 | .lst _ _ xs=>(xs.isEmpty || xs.any fun x=>x.cells.any fun y=>!y.sl)&&AV.deepL xs
 | .agg xs=>AV.deepL xs
 | .tup xs=>AV.deepL xs
 | .v _=>true
 | .any=>true
 | _=>false
def AV.deepL : List AV → Bool
 | []=>true
 | x :: xs=>AV.deep x&&AV.deepL xs
end
def AV.thwL (xs:List AV):Bool:=AV.shalL xs || (xs.all AV.isL&&AV.deepL xs)
theorem wd4 {xs:List AV} (h:AV.shalL xs=true):AV.thwL xs=true:=by simp [AV.thwL,h]
theorem qh8 {xs:List AV} (h:AV.deepL xs=true) {j:Nat} {y:AV} (hy:xs[j]?=some y):y.deep=true:=by
 induction xs generalizing j with
 | nil=>simp at hy
 | cons x xs ih =>
  simp only [AV.deepL,Bool.and_eq_true] at h
  cases j with
  | zero=>simp at hy;subst hy;exact h.1
  | succ j=>exact ih h.2 (by simpa using hy)
theorem zg4 {x y:AV} (h:x.deep=true) {j:Nat} (hy:x.cells[j]?=some y):y.deep=true:=by
 have one:x.cells=[x]→y.deep=true:=by
  intro e
  rw [e] at hy
  cases j with
  | zero=>simp at hy;subst hy;exact h
  | succ j=>simp at hy
 cases x with
 | agg xs=>exact qh8 (by simpa [AV.deep] using h) hy
 | _=>exact one rfl
section
variable {P : Program} {c c' : Ctx} {w w' : World}
theorem jl4 {x:AV} {u:Value} (h:Rep c w x u) (hs:x.shal=true):Rep c' w' x u:=by
 cases h with
 | any u=>exact .any u
 | v=>exact .v _
 | @lst o s xs a n cap u hn hcap hmax hs0 hsz hrf hz hnil hc hr =>
  cases xs with
  | nil =>
   refine .lst u hn hcap hmax hs0 hsz hrf hz hnil (fun ad k _ hk=>?_) (fun i j x y hi _=>by simp at hi)
   subst hn
   simp at hk
  | cons x l=>simp [AV.shal] at hs
 | _=>simp [AV.shal] at hs
theorem kv4 (ad:Addr) (k:Nat):(ad.add k).block=ad.block:=by unfold Addr.add;split <;> rfl
theorem zl3 {g:Nat} (hg:∀ ad u,ad.block=g→w.cell? ad=some u→c.prot ad→∃ a n k,u=.slice a n k) (hp:∀ ad,ad.block≠g→c.prot ad→c'.prot ad) {x:AV} {u:Value} (h:Rep c w x u) (hx:x.deep=true):Rep c' w x u:=by
 induction h with
 | any u=>exact .any u
 | v x=>exact .v x
 | @lst o s xs a n cap u hn hcap hmax hs hsz hrf hz hnil hc hr ih =>
  simp only [AV.deep,Bool.and_eq_true,Bool.or_eq_true] at hx
  refine .lst u hn hcap hmax hs hsz hrf hz hnil (fun ad k ha hk=>?_) (fun i j x y hi hj=>ih i j x y hi hj (zg4 (qh8 hx.2 hi) hj))
  obtain ⟨h1,h2,h3⟩:=hc ad k ha hk
  refine ⟨h1,hp _ ?_ h2,h3⟩
  intro hb
  have hb':ad.block=g:=by
   have:(ad.add k).block=ad.block:=kv4 ad k
   rw [this] at hb;exact hb
  rcases hx.1 with he | he
  ·have:xs=[]:=by simpa using he
   subst this
   subst hn
   simp at hk
  ·obtain ⟨x, hxm, he⟩ := List.any_eq_true.1 he
   obtain ⟨y,hym,he⟩:=List.any_eq_true.1 he
   obtain ⟨i,hi,rfl⟩:=List.mem_iff_getElem.1 hxm
   obtain ⟨j,hj,rfl⟩:=List.mem_iff_getElem.1 hym
   have hxi:xs[i]?=some xs[i]:=List.getElem?_eq_getElem hi
   have hyj:xs[i].cells[j]?=some xs[i].cells[j]:=List.getElem?_eq_getElem hj
   have hsl:=hsz _ hxm
   have hk2:i * s+j < n * s:=by
    rw [hsl] at hj
    have:(i+1) * s≤n * s:=Nat.mul_le_mul_right _ (by omega)
    rw [Nat.add_mul] at this
    omega
   obtain ⟨k1,k2,_⟩:=hc ad (i * s+j) ha hk2
   obtain ⟨a',nn,kk,hu⟩:=hg _ _ ((kv4 ad _).trans hb') k1 k2
   have hrep:=hr i j _ _ hxi hyj
   rw [hu] at hrep
   generalize xs[i].cells[j]=y at hrep he
   cases hrep with
   | any u=>simp [AV.sl] at he
   | v x=>simp [AV.sl] at he
   | lst=>simp [AV.sl] at he
   | arr=>simp [AV.sl] at he
 | agg h _ ih=>exact .agg h fun j y hj=>ih j y hj (qh8 (by simpa [AV.deep] using hx) hj)
 | tup h _ ih=>exact .tup h fun j y hj=>ih j y hj (qh8 (by simpa [AV.deep] using hx) hj)
 | _=>simp [AV.deep] at hx
theorem wf4 {h : List AObj} {e T sz : Nat} {xs fl : List AV} {c1 : Ctx} {w1 : World} {u : Value} (hh : HSim P c w h) (hb : ∀ b, w.heap.size ≤ b → c.base b) (hp : PExt c w c1 w1)
  (hr:Rep c1 w1 (.lst (.tip e T) sz xs) u) (ho:Own P (c1.rebase fun b=>w.heap.size≤b) w1 (.lst (.tip e T) sz xs) u) (hcat:catK sz xs=some fl) (hfl:AV.thwL fl=true) :
  (u=.slice none 0 0∧xs=[]∧HSim P c1 w1 h∧Ext c w c1 w1) ∨
  ∃ cap c',xs.length≤cap∧cap≤maxLen∧Ext c w c' w1∧HSim P c' w1 (h++[.cells e (AV.weakL fl++List.replicate ((cap - xs.length) * sz) .any)])∧Rep c' w1 (.arr h.length 0 xs.length cap) u:=by
 have he1:=hp.ext hb
 have hk1:=hp.keeps
 have hold:∀ i o,h[i]?=some o→c.ob i < w.heap.size:=fun i o hi=>hh.lt i (by rw [hh.no];exact (List.getElem?_eq_some_iff.1 hi).1)
 have hsame:∀ i o,h[i]?=some o→w1.heap[c.ob i]?=w.heap[c.ob i]?∧c1.pm (c.ob i)=c.pm (c.ob i)∧c1.ow (c.ob i)=c.ow (c.ob i):=fun i o hi =>
  ⟨hp.block _ (hold i o hi),hp.pm _ (hold i o hi),hp.ow _ (hold i o hi)⟩
 obtain ⟨a,n,cap,ux,rfl,hn,hcap,hmax,hs0,hsx,hrx,hzx,hnil,hcx,hrr⟩:=wg9 hr
 cases ho with
 | none h0=>simp [AV.tl] at h0
 | tip hT hse hat =>
  rcases hat with ⟨rfl,rfl,rfl⟩ | ⟨g,cur,rfl,hg,hheap,hsize,hpm,how,hone⟩
  ·refine .inl ⟨rfl,List.eq_nil_of_length_eq_zero hn,⟨by rw [hp.no];exact hh.no,fun i hi=>?_,?_,fun i o hi=>?_⟩,he1⟩
   ·rw [hp.ob];rw [hp.no] at hi;exact Nat.lt_of_lt_of_le (hh.lt i hi) hp.size
   ·rw [hp.ob,hp.no];exact hh.inj
   ·exact wj9.mono (T:=none) he1 hk1 (by rw [hh.no];exact (List.getElem?_eq_some_iff.1 hi).1) (hh.obj i o hi) fun _=>hsame i o hi
  ·rw [← hse] at hsize hpm
   have hg':w.heap.size≤g:=hg
   let c2:Ctx:=c1.newO g
   have hno2:c2.no=h.length+1:=by simp only [c2,Ctx.newO];rw [hp.no,hh.no]
   have hob2:∀ i,i < h.length→c2.ob i=c.ob i:=fun i hi=>by
    simp only [c2,Ctx.newO];rw [hp.no,hh.no,if_neg (by omega),hp.ob]
   have hobn:c2.ob h.length=g:=by simp only [c2,Ctx.newO];rw [hp.no,hh.no,if_pos rfl]
   have hpm2:∀ b,b≠g→c2.pm b=c1.pm b:=fun b hb=>by simp only [c2,Ctx.newO,Ctx.setB];rw [if_neg hb]
   have how2:∀ b,b≠g→c2.ow b=c1.ow b:=fun b hb=>by simp only [c2,Ctx.newO,Ctx.setB];rw [if_neg hb]
   have hne:∀ b,b < w.heap.size→b≠g:=fun b hb e=>by omega
   have hbase2:c2.base=c.base:=hp.base
   have he2 : Ext c w c2 w1 := {
    base:=hbase2,os:=he1.os,tape:=he1.tape,output:=he1.output,size:=he1.size,below:=he1.below,cell:=he1.cell
    pm:=fun b hb'=>by rw [hpm2 b (hne b hb')];exact he1.pm b hb'
    pmb:=fun b hb'=>by
     have:b≠g:=fun e=>hb' (by rw [e];exact hb g hg')
     rw [hpm2 b this];exact he1.pmb b hb'
    owb:=fun b hb'=>by
     have:b≠g:=fun e=>hb' (by rw [e];exact hb g hg')
     rw [how2 b this];exact he1.owb b hb'
    no:=by rw [hno2,hh.no];omega
    ob:=fun id hid=>hob2 id (by rw [← hh.no];exact hid)
    dfr:=he1.dfr }
   have hk2:Keeps c w c2 w1 none:=by
    intro b cu e0 hbb hbc hbo
    obtain ⟨k1,k2,k3⟩:=hk1 b cu e0 hbb hbc hbo
    have:b≠g:=hne b (uq7 hbc)
    exact ⟨k1,by rw [hpm2 b this];exact k2,by rw [how2 b this];exact k3⟩
   have hfll:fl.length=n * sz:=by rw [kt9 hcat,hn]
   have hrow:∀ j z,fl[j]?=some z→Rep c1 w1 z (ux j):=by
    intro j z hz
    have hjl:j < n * sz:=by rw [← hfll];exact (List.getElem?_eq_some_iff.1 hz).1
    have hsz0:0 < sz:=by
     rcases Nat.eq_zero_or_pos sz with e | e
     ·rw [e] at hjl;omega
     ·exact e
    obtain ⟨x,k1,k2,k3⟩:=qt7 hsz0 hcat hz
    have:=hrr _ _ _ _ k1 k2
    rwa [show j / sz * sz+j % sz=j by rw [Nat.mul_comm];exact Nat.div_add_mod j sz] at this
   have hmv:∀ (z:AV) (v:Value),z∈fl→Rep c1 w1 z v→Rep c2 w1 z v:=by
    intro z v hzm hrz
    simp only [AV.thwL,Bool.or_eq_true,Bool.and_eq_true] at hfl
    rcases hfl with hfl | ⟨hisl,hdp⟩
    ·exact jl4 hrz (List.all_eq_true.1 hfl z hzm)
    ·obtain ⟨i, hi, rfl⟩ := List.mem_iff_getElem.1 hzm
     refine zl3 (g:=g) (fun ad u hb' hc' hpr=>?_) (fun ad hb' hpr=>?_) hrz (qh8 hdp (List.getElem?_eq_getElem hi))
     ·have hof:ad.off < n * sz:=by
       have:ad.off < c1.pm ad.block:=hpr
       rw [hb'] at this
       have e:c1.pm g=n * sz:=hpm
       rw [e] at this;exact this
      have hz2:fl[ad.off]?=some (fl[ad.off]'(by rw [hfll];exact hof)):=List.getElem?_eq_getElem _
      have hl:=List.all_eq_true.1 hisl _ (List.mem_of_getElem? hz2)
      have hr2:=hrow _ _ hz2
      have hc2:=(hcx _ _ rfl hof).1
      rw [kn9,Nat.zero_add] at hc2
      obtain ⟨ab,ao,asb⟩:=ad
      simp only at hb' hof hc2
      subst hb'
      have hcu:u=ux ao:=by
       cases asb with
       | none=>rw [hc'] at hc2;exact Option.some.inj hc2
       | some s=>simp only [World.cell?,hheap] at hc';simp at hc'
      rw [hcu]
      generalize fl[ao]'(by rw [hfll];exact hof)=y at hl hr2
      cases y with
      | lst o s xs=>obtain ⟨a,n,cap,ux,h0,_⟩:=wg9 hr2;exact ⟨_,_,_,h0⟩
      | _=>simp [AV.isL] at hl
     ·show ad.off < c2.pm ad.block
      rw [hpm2 _ hb'];exact hpr
   refine .inr ⟨cap,c2,by omega,hmax,he2,⟨by rw [hno2];simp,?_,?_,?_⟩,?_⟩
   ·intro i hi
    rw [hno2] at hi
    rcases Nat.lt_or_ge i h.length with hlt | hge
    ·rw [hob2 i hlt];exact Nat.lt_of_lt_of_le (hh.lt i (by rw [hh.no];exact hlt)) hp.size
    ·have:i=h.length:=by omega
     subst this;rw [hobn];exact uq7 hheap
   ·intro i j hi hj hij
    rw [hno2] at hi hj
    rcases Nat.lt_or_ge i h.length with h1 | h1 <;> rcases Nat.lt_or_ge j h.length with h2 | h2
    ·rw [hob2 i h1,hob2 j h2];exact hh.inj i j (by rw [hh.no];exact h1) (by rw [hh.no];exact h2) hij
    ·have:j=h.length:=by omega
     subst this;rw [hob2 i h1,hobn];exact hne _ (hh.lt i (by rw [hh.no];exact h1))
    ·have:i=h.length:=by omega
     subst this;rw [hob2 j h2,hobn];exact Ne.symm (hne _ (hh.lt j (by rw [hh.no];exact h2)))
    ·omega
   ·intro i o hi
    rcases Nat.lt_or_ge i h.length with h1 | h1
    ·rw [List.getElem?_append_left h1] at hi
     refine wj9.mono (T:=none) he2 hk2 (by rw [hh.no];exact h1) (hh.obj i o hi) fun _=>?_
     obtain ⟨s1,s2,s3⟩:=hsame i o hi
     have:=hne _ (hold i o hi)
     exact ⟨s1,by rw [hpm2 _ this];exact s2,by rw [how2 _ this];exact s3⟩
    ·rw [List.getElem?_append_right h1] at hi
     have hi0:i=h.length:=by
      have:=(List.getElem?_eq_some_iff.1 hi).1
      simp at this
      omega
     subst hi0
     simp at hi
     subst hi
     refine ⟨by rw [hobn,hbase2];exact hb g hg',by rw [hobn];simp [c2,Ctx.newO,Ctx.setB],by rw [hobn];simp [c2,Ctx.newO,Ctx.setB],cur,by rw [hobn];exact hheap,?_,?_⟩
     ·rw [List.length_append,xc9,List.length_replicate,hfll,hsize,hn,← Nat.add_mul]
      congr 1
      omega
     ·intro j y hj
      have hjs:j < cur.size:=by
       have:=(List.getElem?_eq_some_iff.1 hj).1
       rw [List.length_append,xc9,List.length_replicate,hfll,hn,← Nat.add_mul] at this
       rw [hsize]
       have e:n+(cap - n)=cap:=by omega
       rw [e] at this
       exact this
      have h1c:(cur.getD j undef).oneCell'=true:=by
       rw [Array.getD_eq_getD_getElem?,Array.getElem?_eq_getElem hjs,Option.getD_some]
       exact hone _ (Array.getElem_mem hjs)
      rcases Nat.lt_or_ge j (AV.weakL fl).length with hlt | hge
      ·rw [List.getElem?_append_left hlt, qv9] at hj
       obtain ⟨z,hz,rfl⟩:=Option.map_eq_some_iff.1 hj
       have hjl:j < n * sz:=by rw [xc9,hfll] at hlt;exact hlt
       have hsz0:0 < sz:=by
        rcases Nat.eq_zero_or_pos sz with e | e
        ·rw [e] at hjl;omega
        ·exact e
       obtain ⟨x,k1,k2,k3⟩:=qt7 hsz0 hcat hz
       have hrz:Rep c1 w1 z (ux j):=by
        have:=hrr _ _ _ _ k1 k2
        rwa [show j / sz * sz+j % sz=j by rw [Nat.mul_comm];exact Nat.div_add_mod j sz] at this
       have e1:=(hcx _ j rfl hjl).1
       rw [kn9,Nat.zero_add] at e1
       simp only [World.cell?,hheap] at e1
       have e2:cur.getD j undef=ux j:=by
        rw [Array.getD_eq_getD_getElem?]
        simp at e1
        rw [e1];rfl
       rw [e2] at h1c ⊢
       exact ⟨(hmv z (ux j) (List.mem_of_getElem? hz) hrz).weak,.none (qd7 z),h1c⟩
      ·rw [List.getElem?_append_right hge] at hj
       have:=(List.mem_replicate.1 (List.mem_of_getElem? hj)).2
       subst this
       exact ⟨.any _,.none rfl,h1c⟩
   ·have:=Rep.arr (c:=c2) (w:=w1) (id:=h.length) (off:=0) (len:=xs.length) (cap:=cap) (by rw [hno2];omega) (by omega) hmax
    rw [hobn] at this
    rw [← hn]
    exact this
theorem zn4 {f : FuncId} {args : List AV} {h : List AObj} {e T sz : Nat} {xs fl : List AV} {Q : AV → List AObj → Prop} (hS : Sound P f (AV.dpL args) (.lst (.tip e T) sz xs)) (hcat : catK sz xs = some fl) (hfl : AV.thwL fl = true)
  (h0:xs=[]→Q (.lst .nil sz []) h) (h1:∀ cap,xs.length≤cap→cap≤maxLen→Q (.arr h.length 0 xs.length cap) (h++[.cells e (AV.weakL fl++List.replicate ((cap - xs.length) * sz) .any)])):wf9 P f args h Q:=by
 refine ⟨hS.1,fun F n c w vals hF hro hb _ hh ra=>CallsIn.mono (hS.2 F n c w vals 1 hF hro rfl hb ra.dpL) ?_⟩
 rintro _ w1 ⟨u,c1,rfl,hp,hr,ho⟩
 rcases wf4 (T:=1) hh hb hp hr ho hcat hfl with ⟨rfl,rfl,k1,k2⟩ | ⟨cap,c',k1,k2,k3,k4,k5⟩
 ·exact ⟨_,c1,_,_,rfl,h0 rfl,k2,k1,.lst (fun _=>undef) rfl (Nat.le_refl _) (Nat.zero_le _) (by simp) (by simp) rfl (fun _=>⟨rfl,rfl⟩) rfl (by simp) (by simp),.none rfl⟩
 ·exact ⟨_,c',_,_,rfl,h1 cap k1 k2,k3,k4,k5,.none rfl⟩
mutual
theorem kw4 (T : Nat) : (x : AV) → (x.norm T).dp = x.dp
 | .lst (.tip _ _) _ _=>rfl
 | .lst .any _ _=>rfl
 | .lst .nil _ _=>rfl
 | .lst .ex _ _=>rfl
 | .agg xs=>by simp only [AV.norm,AV.dp,dp_normL T xs]
 | .tup xs=>by simp only [AV.norm,AV.dp,dp_normL T xs]
 | .any=>rfl
 | .v _=>rfl
 | .ro _=>rfl
 | .loc _ _=>rfl
 | .arr _ _ _ _=>rfl
 | .fn _ _ _=>rfl
 | .mp _=>rfl
 | .yld _=>rfl
theorem dp_normL (T : Nat) : (xs : List AV) → AV.dpL (AV.normL T xs) = AV.dpL xs
 | []=>rfl
 | x :: xs=>by simp only [AV.normL,AV.dpL,kw4 T x,dp_normL T xs]
end
def AV.Le (P:Program) (x y:AV):Prop:=∀ (c:Ctx) (w:World) (u:Value) (T:Nat),T % 2=1→Rep c w (x.norm T) u→Own P c w (x.norm T) u→Rep c w (y.norm T) u∧Own P c w (y.norm T) u
theorem AV.Le.norm {x y:AV} (h:∀ T,x.norm T=y.norm T):AV.Le P x y:=fun _ _ _ T _ h1 h2=>by rw [← h T];exact ⟨h1,h2⟩
theorem AV.Le.plain (x:AV):AV.Le P x x.plain:=fun _ _ _ T hT h1 _=>by
 have h:=h1.plain
 rw [wp7] at h
 exact ⟨h.norm hT,.none (wd7 T _ (yl7 x))⟩
theorem AV.Le.dp (x:AV):AV.Le P x x.dp:=fun _ _ _ T hT h1 _=>by
 have h:=h1.dp
 rw [kw4] at h
 exact ⟨h.norm hT,.none (wd7 T _ (AV.tl_dp x))⟩
theorem AV.Le.nil {e T0 s:Nat} (hs:s=P.cellsOf e):AV.Le P (.lst .nil s []) (.lst (.tip e T0) s []):=fun c w u T hT h1 _=>by
 simp only [AV.norm] at h1 ⊢
 obtain ⟨a,n,cap,ux,rfl,hn,hcap,hmax,hs0,hsx,hrx,hzx,hnil,hcx,hrr⟩:=wg9 h1
 have ha:a=none:=hnil
 subst ha
 obtain ⟨rfl,rfl⟩:=hzx rfl
 exact ⟨.lst ux rfl (Nat.le_refl _) hmax (by simp) (by simp) rfl (fun _=>⟨rfl,rfl⟩) (fun _=>rfl) (by simp) (by simp),.tip (by omega) hs (.inl ⟨rfl,rfl,rfl⟩)⟩
theorem AV.Le.tup {xs ys:List AV} (hl:xs.length=ys.length) (h:∀ (j:Nat) (x y:AV),xs[j]?=some x→ys[j]?=some y→AV.Le P x y):AV.Le P (.tup xs) (.tup ys):=fun c w u T hT h1 h2=>by
 simp only [AV.norm] at h1 h2 ⊢
 obtain ⟨us,rfl,hul,hrr⟩:=vt6 h1
 have hoo:=up6 h2
 have hln:∀ l:List AV,(AV.normL T l).length=l.length:=fun l=>by induction l <;> simp_all [AV.normL]
 have key:∀ j y,(AV.normL T ys)[j]?=some y→Rep c w y (us.getD j undef)∧Own P c w y (us.getD j undef):=by
  intro j y hj
  rw [jm9] at hj
  obtain ⟨y0,hy,rfl⟩:=Option.map_eq_some_iff.1 hj
  have hjl:j < xs.length:=by rw [hl];exact (List.getElem?_eq_some_iff.1 hy).1
  have hx:xs[j]?=some xs[j]:=List.getElem?_eq_getElem hjl
  have hxn:(AV.normL T xs)[j]?=some (xs[j].norm T):=by rw [jm9,hx];rfl
  exact h j _ _ hx hy c w _ T hT (hrr j _ hxn) (hoo j _ hxn)
 exact ⟨.tup (by rw [hln,← hl,← hul,hln]) fun j y hj=>(key j y hj).1,.tup fun j y hj=>(key j y hj).2⟩
def retU (P:Program) (rs:List ResultVar) (r:AV) (e:Exit) (s:St):Prop:=∃ r0,retQ P rs r0 e s∧AV.Le P r0 r
theorem uh9 {f : FuncId} {fn : Func} {code : Code} {args : List AV} {r : AV} (hf : P.funcs[f]? = some fn) (hb : fn.body = some code) (hn : (fn.name == "runtime.NumGoroutine") = false)
  (hlen:args.length≤fn.ntmps) (hrf:AV.rfL args=true) (htl:AV.tlL args=true) {rs:List ResultVar} (hrs:fn.results.toList=rs) (h:W P code (retU P rs r) ⟨fn.ntmps,numF 0 args,[]⟩):Sound P f args r:=by
 subst hrs
 refine ⟨⟨fn,hf,hn,by rw [hb];rfl⟩,?_⟩
 intro F n c w vals T hF hro hT hbase hargs
 let c0:Ctx:={ c with base:=fun b=>w.heap.size≤b,no:=0 }
 have hargs0:RepL P c0 w args vals:=RepL.enter (c:=c) (c':=c0) rfl hargs hrf htl
 have hl:args.length=vals.length:=hargs.length
 refine callsIn_of_wp_marks hf hb (hF.1 f) ?_ hro
 have hs0:SimSt P c0 w ⟨fn.ntmps,numF 0 args,[]⟩ { tmps:=vals.toArray++Array.replicate (fn.ntmps - vals.toArray.size) undef,defers:=[] }:=by
  refine ⟨by simp;omega,fun _ h=>h,?_,⟨rfl,fun i hi=>absurd hi (Nat.not_lt_zero _),fun i j hi=>absurd hi (Nat.not_lt_zero _),by simp⟩,⟨[],rfl,.nil,by simp⟩⟩
  intro i x hx
  obtain ⟨h1,h2⟩:=kp8 args 0 i x hx
  obtain ⟨u,hu,hr,ho⟩:=hargs0.get (by simpa using h2)
  have hi:i < vals.length:=(List.getElem?_eq_some_iff.1 hu).1
  exact ⟨u,by rw [Array.getElem?_append_left (by simpa using hi)];simpa using hu,hr,ho⟩
 refine wpIn_mono (h F n c0 w _ (hF.top hro (Nat.zero_le _) true) hs0) ?_
 rintro e a' w' ⟨s',c',⟨r0,⟨he,x,h',hres,hfr,hrr⟩,hnorm⟩,hs',hext⟩
 have key:LeavesInM F n P fn a'.tmps (fun e w'=>∃ u c',e=.returned u∧PExt c w c' w'∧Rep c' w' (r.norm T) u∧Own P (c'.rebase fun b=>w.heap.size≤b) w' (r.norm T) u) a'.defers .returning w':=by
  obtain ⟨rs,hd,hnd,hrs⟩:=hs'.dfr
  obtain ⟨w2,hsh,hleave⟩:=xn7 (F:=F) (n:=n) (fn:=fn) (tmps:=a'.tmps) (R:=fun e w'=>∃ u c',e=.returned u∧PExt c w c' w'∧Rep c' w' (r.norm T) u∧Own P (c'.rebase fun b=>w.heap.size≤b) w' (r.norm T) u) rs w' hnd hrs
  rw [hd]
  refine hleave ?_
  have hs2:=hs'.recell hsh
  obtain ⟨v,hrun,hrep,hown⟩:=wh8 hs2 hres
  obtain ⟨c3,e3,k3,s3,r3,o3⟩:=zw8 (by decide) x s' c' r0 h' v hs2 hfr hrep hown
  have hb':c'.base=(fun b=>w.heap.size≤b):=hext.base
  have hb3:c3.base=(fun b=>w.heap.size≤b):=by rw [e3.base,hb']
  let cF:Ctx:={ c with pm:=c3.pm,ow:=fun b=>if b < w.heap.size then c.ow b else T }
  have hfin:Rep (cF.rebase fun b=>w.heap.size≤b) w2 (r.norm T) v∧Own P (cF.rebase fun b=>w.heap.size≤b) w2 (r.norm T) v:=by
   refine hnorm _ w2 v T hT ?_ ?_
   ·exact ((Rep.recast (c:=c3) (c':=cF) (fun a ha=>ha) r3 hrr).norm hT).rebase _
   ·refine Own.recast (c := c3) (c' := cF.rebase fun b => w.heap.size ≤ b) hT ?_ rfl ?_ o3
    ·rw [hb3];exact fun _ h=>h
    ·intro g hg
     rw [hb3] at hg
     simp only [cF,Ctx.rebase,if_neg (show ¬ g < w.heap.size by omega)]
  refine ⟨v,hrun,v,cF,rfl,⟨rfl,rfl,rfl,by rw [hsh.os];exact hext.os,by rw [hsh.tape];exact hext.tape,by rw [hsh.output];exact hext.output,by rw [hsh.size];exact hext.size,?_,?_,?_⟩,?_,?_⟩
  ·intro b hlt
   rw [hsh.below b (by rw [hb'];simpa using hlt)]
   exact hext.below b (by simpa [c0] using hlt)
  ·intro b hlt
   have h1:c3.pm b=c'.pm b:=e3.pmb b (by rw [hb'];simpa using hlt)
   have h2:c'.pm b=c.pm b:=hext.pmb b (by simpa [c0] using hlt)
   exact h1.trans h2
  ·intro b hlt
   simp only [cF,if_pos hlt]
  ·exact (hfin.1.rebase cF.base)
  ·exact hfin.2
 rcases he with rfl | rfl
 ·exact key
 ·exact key
end
end Go.AM
namespace Go.AM
open Go.RowKit
set_option linter.unusedSimpArgs false
section
variable {P : Program} {c c' : Ctx} {w : World}
end
end Go.AM
namespace Go.AM
open Go.RowKit
set_option linter.unusedSimpArgs false
section
variable {P : Program} {top : Bool} {kf : Nat}
theorem xf6 {code : Code} {Q : Exit → St → Prop} {s : St} (i : Nat) {id off len cap tk : Nat} {x : AV} {h' : List AObj} (hg : getF s.fr i = some (.arr id off len cap)) (htk : tk % 2 = 1)
  (hf:vc9 P s.h tk id off len cap=some (x,h')) (h:Wt top kf P code Q ⟨s.n,putF s.fr i x,h'⟩):Wt top kf P code Q s:=by
 intro F n c w a hF hs
 obtain ⟨u,hu,hr,_⟩:=hs.fr i _ hg
 obtain ⟨c',he,hk,hs',hr',ho'⟩:=yw8 hs htk hf hr
 have hs2:SimSt P c' w ⟨s.n,putF s.fr i x,h'⟩ a:=by
  refine ⟨hs'.n,hs'.base,fun j y hy=>?_,hs'.h,hs'.dfr⟩
  simp only at hy
  rw [zk8] at hy
  split at hy
  ·rename_i hj
   subst hj
   cases hy
   exact ⟨u,hu,hr',ho'⟩
  ·exact hs'.fr j y hy
 have he':=he.toK hF.2.2
 refine wpIn_mono (h F n c' w a (hF.next he') hs2) ?_
 rintro e a' w' ⟨s',c2,q,k1,k2⟩
 exact ⟨s',c2,q,k1,he'.trans k2⟩
theorem ym5 {h h':List AObj} {tk id off len cap:Nat} {x:AV} (hf:vc9 P h tk id off len cap=some (x,h')) {b:Nat} (hb:b≠id):h'[b]?=h[b]?:=by
 unfold vc9 at hf
 split at hf
 ·split at hf
  ·simp only at hf
   split at hf
   ·cases hf
    exact List.getElem?_set_ne (by omega)
   ·split at hf
    ·cases hf
     exact List.getElem?_set_ne (by omega)
    ·cases hf
  ·cases hf
 ·split at hf
  ·split at hf
   ·cases hf;rfl
   ·cases hf
  ·cases hf
 ·cases hf
theorem W_frzP {code : Code} {Q : Exit → St → Prop} {s : St} (b j : Nat) {ty id off len cap tk : Nat} {cs : List AV} {x : AV} {h' : List AObj} (hb : s.h[b]? = some (.cells ty cs)) (hg : cs[j]? = some (.arr id off len cap)) (hbi : b ≠ id) (htk : tk % 2 = 1)
  (hf:vc9 P s.h tk id off len cap=some (x,h')) (h:Wt top kf P code Q ⟨s.n,s.fr,h'.set b (.cells ty (cs.set j x.plain))⟩):Wt top kf P code Q s:=by
 intro F n c w a hF hs
 obtain ⟨_,_,_,cur0,hcur0,_,hcc⟩:=hs.h.obj b _ hb
 obtain ⟨hr,_,_⟩:=hcc j _ hg
 obtain ⟨c',he,hk,hs',hr',ho'⟩:=yw8 hs htk hf hr
 have hb':h'[b]?=some (.cells ty cs):=by rw [ym5 hf hbi];exact hb
 have hob:=hs'.h.obj b _ hb'
 have hbl:b < h'.length:=(List.getElem?_eq_some_iff.1 hb').1
 have hcb:c'.ob b=c.ob b:=he.ob b (by rw [hs.h.no];exact (List.getElem?_eq_some_iff.1 hb).1)
 obtain ⟨o1,o2,o3,cur,hcur,hlen,hcell⟩:=hob
 have hsame:cur0=cur:=by
  rw [hcb,hcur0] at hcur
  cases hcur
  rfl
 subst hsame
 have hs2:SimSt P c' w ⟨s.n,s.fr,h'.set b (.cells ty (cs.set j x.plain))⟩ a:=by
  refine ⟨hs'.n,hs'.base,hs'.fr,⟨by simp only [List.length_set];exact hs'.h.no,hs'.h.lt,hs'.h.inj,fun i o hi=>?_⟩,hs'.dfr⟩
  simp only at hi
  rw [List.getElem?_set] at hi
  split at hi
  ·rename_i hbi2
   subst hbi2
   cases hi
   refine ⟨o1,o2,o3,cur0,hcur,by rw [List.length_set];exact hlen,fun k y hy=>?_⟩
   rw [List.getElem?_set] at hy
   split at hy
   ·rename_i hjk
    subst hjk
    split at hy
    ·cases hy
     exact ⟨hr'.plain,.none (yl7 x),(hcell j _ hg).2.2⟩
    ·cases hy
   ·exact hcell k y hy
  ·exact hs'.h.obj i o hi
 have he':=he.toK hF.2.2
 refine wpIn_mono (h F n c' w a (hF.next he') hs2) ?_
 rintro e a' w' ⟨s',c2,q,k1,k2⟩
 exact ⟨s',c2,q,k1,he'.trans k2⟩
theorem um7 {c:Ctx} {w:World} {s:St} {a:Act} (hs:SimSt P c w s a) (i:Nat) {x:AV} {u:Value} (hu:a.tmps[i]?=some u) (hr:Rep c w x u) (ho:Own P c w x u):SimSt P c w ⟨s.n,putF s.fr i x,s.h⟩ a:=by
 refine ⟨hs.n,hs.base,fun j y hy=>?_,hs.h,hs.dfr⟩
 simp only at hy
 rw [zk8] at hy
 split at hy
 ·rename_i hj
  subst hj
  cases hy
  exact ⟨u,hu,hr,ho⟩
 ·exact hs.fr j y hy
theorem km6 {c : Ctx} {w : World} {s : St} {a : Act} {tk id len cap ty sz : Nat} {ag : Bool} {cs : List AV} {u : Value} (hs : SimSt P c w s a) (htk : tk % 2 = 1) (hobj : s.h[id]? = some (.cells ty cs)) (hty : tyI P ty = some (ag, sz)) (hsz : 0 < sz) (hag : ag = true ∨ sz = 1)
  (hfull:cap * sz=cs.length) (hk:AV.koneL (cs.take (len * sz))=true) (hrf:AV.rfL (cs.take (len * sz))=true) (hr:Rep c w (.arr id 0 len cap) u) :
  ∃ c',Ext c w c' w∧Keeps c w c' w none∧SimSt P c' w { s with h:=s.h.set id (.froz ty (AV.weakL (cs.take (len * sz)))) } a∧Rep c' w (.lst (.tip ty tk) sz (chunk ag sz len (AV.weakL (cs.take (len * sz))))) u∧Own P c' w (.lst (.tip ty tk) sz (chunk ag sz len (AV.weakL (cs.take (len * sz))))) u:=by
 cases hr with
 | arr hid hlen hmax =>
   obtain ⟨hbase,hpm,how,cur,hcur,hl,hcs⟩:=hs.h.obj id _ hobj
   have hle:0+len * sz≤cs.length:=by rw [← hfull,Nat.zero_add];exact Nat.mul_le_mul_right _ hlen
   rw [← Nat.zero_add (len * sz)] at hk hrf ⊢
   let c1:Ctx:=c.setB (c.ob id) (0+len * sz) tk
   have hlt:=hs.h.lt id hid
   have he : Ext c w c1 w := {
    base:=rfl,os:=rfl,tape:=rfl,output:=rfl,size:=Nat.le_refl _,below:=fun _ _=>rfl,cell:=fun _ _ _ h=>h
    pm:=fun k _=>by
     simp only [c1,Ctx.setB]
     split
     ·rename_i hh;subst hh;rw [hpm];exact Nat.zero_le _
     ·exact Nat.le_refl _
    pmb:=fun k hk=>by simp only [c1,Ctx.setB];rw [if_neg (fun e=>hk (by rw [e];exact hbase))]
    owb:=fun k hk=>by simp only [c1,Ctx.setB];rw [if_neg (fun e=>hk (by rw [e];exact hbase))]
    no:=Nat.le_refl _
    ob:=fun _ _=>rfl
    dfr:=fun _ h=>h }
   have hkp:Keeps c w c1 w none:=by
    intro g cur0 e0 _ hg hne
    have hgn:g≠c.ob id:=by intro hh;subst hh;rw [how] at hne;exact hne rfl
    exact ⟨hg,by simp only [c1,Ctx.setB];rw [if_neg hgn],by simp only [c1,Ctx.setB];rw [if_neg hgn]⟩
   have hcell:∀ j y,(AV.weakL (cs.take (0+len * sz)))[j]?=some y→∃ u,w.cell? ⟨c1.ob id,j,none⟩=some u∧c1.prot ⟨c1.ob id,j,none⟩∧u.oneCell'=true∧Rep c1 w y u:=by
    intro j y hj
    rw [qv9] at hj
    obtain ⟨z,hz,rfl⟩:=Option.map_eq_some_iff.1 hj
    have hjm:j < 0+len * sz:=by
     have:=(List.getElem?_eq_some_iff.1 hz).1
     simp at this;omega
    rw [List.getElem?_take,if_pos hjm] at hz
    have hjl:=(List.getElem?_eq_some_iff.1 hz).1
    obtain ⟨r1,_,r3⟩:=hcs j z hz
    refine ⟨cur.getD j undef,?_,?_,r3,(r1.mono he).weak⟩
    ·show w.cell? ⟨c.ob id,j,none⟩=_
     simp only [World.cell?,hcur,Option.isSome_none,Bool.false_eq_true,if_false]
     rw [Array.getD_eq_getD_getElem?,Array.getElem?_eq_getElem (by omega)]
     rfl
    ·show j < (if c.ob id=c.ob id then _ else _)
     rw [if_pos rfl];exact hjm
   have hfin:SimSt P c1 w { s with h:=s.h.set id (.froz ty (AV.weakL (cs.take (0+len * sz)))) } a:=by
    refine ⟨hs.n,hs.base,hs.fr.mono (T:=none) he hkp,⟨by rw [List.length_set];exact hs.h.no,hs.h.lt,hs.h.inj,?_⟩,hs.dfr.mono he⟩
    intro i o ho
    rw [List.getElem?_set] at ho
    split at ho
    ·rename_i hi
     subst hi
     split at ho
     ·cases ho;exact hcell
     ·cases ho
    ·rename_i hi
     have hi':i < c.no:=by rw [hs.h.no];exact (List.getElem?_eq_some_iff.1 ho).1
     refine wj9.mono (P:=P) (T:=none) he hkp hi' (hs.h.obj i o ho) (fun _=>⟨rfl,?_,?_⟩) <;> simp only [c1,Ctx.setB] <;> rw [if_neg (hs.h.inj i id hi' hid (Ne.symm hi))]
   have hlt2:(AV.weakL (cs.take (0+len * sz))).length=0+len * sz:=by rw [xc9,List.length_take];omega
   have hrep:=un8 (c:=c1) (w:=w) (id:=id) (off:=0) (len:=len) (cap:=cap) (o:=.tip ty tk) hsz hag (by rw [hlt2];exact Nat.le_refl _) (by rw [wc8];exact hk) (weakL_rf _ hrf) hcell (fun h=>by omega) hlen hmax
   rw [List.drop_zero] at hrep
   refine ⟨c1,he,hkp,hfin,hrep,.tip (by omega) (qn9 hty).symm (.inr ⟨c.ob id,cur,rfl,hbase,hcur,?_,?_,?_,?_⟩)⟩
   ·rw [qn9 hty,hfull,hl]
   ·simp only [c1,Ctx.setB];rw [if_pos trivial,qn9 hty,Nat.zero_add]
   ·simp only [c1,Ctx.setB];rw [if_pos trivial]
   ·intro v hv
    obtain ⟨j,hj,rfl⟩:=Array.mem_iff_getElem.1 hv
    have hj2:j < cs.length:=by rw [hl];exact hj
    have:=(hcs j _ (List.getElem?_eq_getElem hj2)).2.2
    rwa [Array.getD_eq_getD_getElem?,Array.getElem?_eq_getElem hj] at this
theorem W_tip {code : Code} {Q : Exit → St → Prop} {s : St} (i : Nat) {id len cap tk ty sz : Nat} {ag : Bool} {cs : List AV} (hg : getF s.fr i = some (.arr id 0 len cap)) (htk : tk % 2 = 1) (hobj : s.h[id]? = some (.cells ty cs)) (hty : tyI P ty = some (ag, sz)) (hsz : 0 < sz) (hag : ag = true ∨ sz = 1)
  (hfull:cap * sz=cs.length) (hk:AV.koneL (cs.take (len * sz))=true) (hrf:AV.rfL (cs.take (len * sz))=true)
  (h:Wt top kf P code Q ⟨s.n,putF s.fr i (.lst (.tip ty tk) sz (chunk ag sz len (AV.weakL (cs.take (len * sz))))),s.h.set id (.froz ty (AV.weakL (cs.take (len * sz))))⟩):Wt top kf P code Q s:=by
 intro F n c w a hF hs
 obtain ⟨u,hu,hr,_⟩:=hs.fr i _ hg
 obtain ⟨c',he,hk2,hs',hr',ho'⟩:=km6 hs htk hobj hty hsz hag hfull hk hrf hr
 have hs2:=um7 hs' i hu hr' ho'
 have he':=he.toK hF.2.2
 refine wpIn_mono (h F n c' w a (hF.next he') hs2) ?_
 rintro e a' w' ⟨s',c2,q,k1,k2⟩
 exact ⟨s',c2,q,k1,he'.trans k2⟩
theorem xd4 {code : Code} {Q : Exit → St → Prop} {s : St} (i : Nat) {sz : Nat} (hg : getF s.fr i = some (.lst .any sz [])) (h1 : Wt top kf P code Q ⟨s.n, putF s.fr i (.lst .nil sz []), s.h⟩)
  (h2:∀ ad cap,cap≤maxLen→Wt top kf P code Q ⟨s.n,putF s.fr i (.v (.slice (some ad) 0 cap)),s.h⟩):Wt top kf P code Q s:=by
 intro F n c w a hF hs
 obtain ⟨u,hu,hr,_⟩:=hs.fr i _ hg
 obtain ⟨aa,n0,cap,ux,rfl,hn,hcap,hmax,hs0,hsx,hrx,hzx,hnil,hcx,hrr⟩:=wg9 hr
 have hn0:n0=0:=by simpa using hn.symm
 subst hn0
 cases aa with
 | none =>
  obtain ⟨_,hc0⟩:=hzx rfl
  subst hc0
  exact h1 F n c w a hF (um7 hs i hu (.lst (fun _=>undef) rfl (Nat.le_refl _) (Nat.zero_le _) (by simp) (by simp) rfl (fun _=>⟨rfl,rfl⟩) rfl (by simp) (by simp)) (.none rfl))
 | some ad=>exact h2 ad cap hmax F n c w a hF (um7 hs i hu (.v _) (.none rfl))
theorem W_unnil {code:Code} {Q:Exit→St→Prop} {s:St} (i sz:Nat) {ad:Addr} {cap:Nat} (hg:getF s.fr i=some (.v (.slice (some ad) 0 cap))) (hc:cap≤maxLen) (h:Wt top kf P code Q ⟨s.n,putF s.fr i (.lst .any sz []),s.h⟩):Wt top kf P code Q s:=by
 intro F n c w a hF hs
 obtain ⟨u,hu,hr,_⟩:=hs.fr i _ hg
 cases hr with
 | v=>exact h F n c w a hF (um7 hs i hu (.lst (fun _=>undef) rfl (Nat.zero_le _) hc (by simp) (by simp) rfl (fun e=>by cases e) trivial (by simp) (by simp)) (.none rfl))
end
theorem ws9 {c1 c2:Code} {Q:Exit→St→Prop} {s:St} {top:Bool} {kf:Nat} {P:Program} (K:St→Prop) (h1:Wt top kf P c1 (yj9 K fun _ _=>False) s) (h2:∀ s,K s→Wt top kf P c2 Q s):Wt top kf P (.seq c1 c2) Q s:=by
 refine yl9 (h1.mono fun e s h=>?_)
 cases e with
 | normal=>exact h2 s h
 | _=>exact h.elim
theorem xh9 {c1 c2:Code} {Q:Exit→St→Prop} {s:St} {top:Bool} {kf:Nat} {P:Program} (K:St→Prop) (h1:Wt top kf P c1 (yj9 K Q) s) (h2:∀ s,K s→Wt top kf P c2 Q s):Wt top kf P (.seq c1 c2) Q s:=by
 refine yl9 (h1.mono fun e s h=>?_)
 cases e with
 | normal=>exact h2 s h
 | _=>exact h
end Go.AM
namespace Go.AM
open Go.RowKit
set_option linter.unusedSimpArgs false
section
variable {P : Program} {top : Bool} {kf : Nat}
theorem Rep.maxLen {c:Ctx} {w:World} {o:Fl} {s:Nat} {xs:List AV} {u:Value} (h:Rep c w (.lst o s xs) u):xs.length≤maxLen:=by
 obtain ⟨_,n,cap,_,_,h1,h2,h3,_⟩:=wg9 h
 omega
def FrOk : List (Nat × AV) → List (Nat × AV) → Prop
 | [],_=>True
 | (i,x) :: l,fr=>getF fr i=some x∧FrOk l fr
theorem FrOk.get {l fr:List (Nat × AV)} (h:FrOk l fr) {i:Nat} {x:AV} (hx:getF l i=some x):getF fr i=some x:=by
 induction l with
 | nil=>simp [getF] at hx
 | cons p l ih =>
  obtain ⟨j,y⟩:=p
  simp only [getF] at hx
  split at hx
  ·rename_i e;cases hx;subst e;exact h.1
  ·exact ih h.2 hx
def AtS (n:Nat) (l:List (Nat × AV)) (H:List AObj) (s:St):Prop:=s.n=n∧s.h=H∧FrOk l s.fr
theorem W_at {code:Code} {Q:Exit→St→Prop} {s:St} {n:Nat} {l:List (Nat × AV)} {H:List AObj} (h:AtS n l H s) (hw:Wt top kf P code Q ⟨n,l,H⟩):Wt top kf P code Q s:=by
 obtain ⟨sn,fr,sh⟩:=s
 obtain ⟨h1,h2,h3⟩:=h
 simp only at h1 h2 h3
 subst h1 h2
 exact W_conv (t:=⟨sn,l,sh⟩) (fun c w a hs=>⟨hs.n,hs.base,fun i x hx=>hs.fr i x (h3.get hx),hs.h,hs.dfr⟩) hw
end
end Go.AM
namespace Go.AM
open Go.RowKit
set_option linter.unusedSimpArgs false
class Enc (α:Type) where
 enc:α→AV
 sz:Nat
 pos:0 < sz
 ck:∀ x,(enc x).cellsK=some (enc x).cells
 len:∀ x,(enc x).cells.length=sz
 rf:∀ x,(enc x).rf=true
 dp:∀ x,(enc x).dp=enc x
 weak:∀ x,(enc x).weak=enc x
section
variable {α : Type} [Enc α]
def encs (l:List α):List AV:=l.map Enc.enc
@[simp] theorem encs_nil:encs ([]:List α)=[]:=rfl
theorem qc4 (b:α) (L:List α):encs (b :: L)=Enc.enc b :: encs L:=rfl
@[simp] theorem dpL_encs (L:List α):AV.dpL (encs L)=encs L:=by
 induction L with
 | nil=>rfl
 | cons x L ih=>simp [qc4,AV.dpL,Enc.dp,ih]
end
@[simp] theorem rf_lst (o:Fl) (s:Nat) (xs:List AV):AV.rf (.lst o s xs)=true:=rfl
instance:Enc Int:=⟨fun n=>.v (.int .i64 n),1,Nat.one_pos,fun _=>by simp,fun _=>rfl,fun _=>rfl,fun _=>rfl,fun _=>rfl⟩
instance:Enc UInt8:=⟨fun b=>.v (.int .u8 b.toNat),1,Nat.one_pos,fun _=>by simp,fun _=>rfl,fun _=>rfl,fun _=>rfl,fun _=>rfl⟩
instance:Enc Bool:=⟨fun b=>.v (.bool b),1,Nat.one_pos,fun _=>by simp,fun _=>rfl,fun _=>rfl,fun _=>rfl,fun _=>rfl⟩
instance {α:Type} [Enc α]:Enc (List α):=⟨fun l=>.lst .any (Enc.sz α) (encs l),1,Nat.one_pos,fun _=>by simp,fun _=>rfl,fun _=>rfl,fun l=>by simp [AV.dp],fun _=>rfl⟩
@[simp] theorem enc_list {α:Type} [Enc α] (l:List α):Enc.enc l=.lst .any (Enc.sz α) (encs l):=rfl
@[simp] theorem enc_int (n:Int):Enc.enc n=.v (.int .i64 n):=rfl
@[simp] theorem enc_u8 (b:UInt8):Enc.enc b=.v (.int .u8 b.toNat):=rfl
@[simp] theorem enc_bool (b:Bool):Enc.enc b=.v (.bool b):=rfl
@[simp] theorem sz_u8:Enc.sz UInt8=1:=rfl
@[simp] theorem sz_int:Enc.sz Int=1:=rfl
@[simp] theorem sz_bool:Enc.sz Bool=1:=rfl
@[simp] theorem sz_list {α:Type} [Enc α]:Enc.sz (List α)=1:=rfl
@[simp] theorem encs_byL (l:List UInt8):encs l=byL l:=rfl
@[simp] theorem encs_bbL (l:List (List UInt8)):encs l=bbL l:=rfl
structure Str where
 b:List UInt8
deriving DecidableEq
instance:Enc Str:=⟨fun s=>.v (.string ⟨s.b.toArray⟩),1,Nat.one_pos,fun _=>by simp,fun _=>rfl,fun _=>rfl,fun _=>rfl,fun _=>rfl⟩
@[simp] theorem enc_str (s:Str):Enc.enc s=.v (.string ⟨s.b.toArray⟩):=rfl
@[simp] theorem sz_str:Enc.sz Str=1:=rfl
end Go.AM
