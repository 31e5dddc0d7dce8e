/- Parts of the walk: C24XL C24XM C24XN C24XO C24WG C24WH C24WI C24WJ C24XA C24XP R22T. -/
import Derived.Test.YthjcnajpcphcpaaGreatG12
namespace Go.AM
open Go.RowKit Go.Proofs
set_option linter.unusedSimpArgs false
set_option linter.unusedVariables false
set_option maxHeartbeats 8000000
set_option maxRecDepth 20000
noncomputable def rtC:Code:=sq2 (sq2 (sq2 (Tryz.f15.body.getD .skip)))
theorem rt_names {d : Dcb} {rs : List (List UInt8)} {ms : List ME} {n : Int} (hl : ms.length ≤ 1000000000) (hm : ∀ m ∈ ms, m.name.length ≤ 1000000000)
  {Q:Exit→St→Prop} (hbad:ms.all (fun m=>symM m.name)=false→Q .ret ⟨125,[(4,.lst .nil 1 []),(5,.v (.int .i64 5))],[.cells 42 (zh9 d rs ms)]⟩)
  (hQ:ms.all (fun m=>symM m.name)=true→Q .normal ⟨125,[(1,.v (.int .i64 n)),(2,.loc 0 0)],[.cells 42 (zh9 d rs ms)]⟩) :
  Wt true 0 Tryz.prog (sq1 rtC) Q ⟨125,[(1,.v (.int .i64 n)),(2,.loc 0 0)],[.cells 42 (zh9 d rs ms)]⟩:=by
 unfold zh9 at *
 refine yr9 [1,2,6] (by simp;rfl) ?_
 refine yl9 ?_
 refine zj9 (fun k s => ∃ i : Nat, k = ms.length - i ∧ i ≤ ms.length ∧ (ms.take i).all (fun m => symM m.name) = true ∧
  s=⟨125,[(1,.v (.int .i64 n)),(2,.loc 0 0),(6,.v (.int .i64 (i:Nat)))],[.cells 42 [.v (.int .i64 d.org),.v (.int .i64 d.fmt),.v (.bool d.blk),.v (.bool d.asa),.v (.int .i64 d.lrecl),.v (.int .i64 d.size),.v (.int .i64 d.klen),.v (.int .i64 d.kpos),.lst .any 1 (bbL rs),.lst .any 2 (meL ms)]]⟩) (k:=ms.length) ⟨0,rfl,by omega,by simp,by simp⟩ ?_
 rintro k s ⟨i,rfl,hi,hall,rfl⟩
 refine yh9 ?_
 by_cases c:i < ms.length
 ·have ci : (i : Int) < ms.length := by omega
  obtain ⟨m,hmi⟩:∃ m,ms[i]?=some m:=⟨_,List.getElem?_eq_getElem c⟩
  have hme:ms[i]'c=m:=(List.getElem?_eq_some_iff.1 hmi).2
  have wi:=w64 (n:=(i:Int)+1) (by omega) (by omega)
  have hv:=rname_sound m.name (by have:=hm m (List.mem_of_getElem? hmi);omega)
  unfold strB at hv
  have hat:=all_take hmi
  rw [hall,Bool.true_and] at hat
  refine yr9 [1,2,6,30] (by simp [c,ci];rfl) ?_
  refine yt9 (t:=true) (by simp [c,ci]) (fun h=>?_) (fun h=>by simp at h)
  refine ym9 [1,2,6] ?_
  refine yg9 ?_
  repeat (first | refine on_norm ?_ | refine in_norm ?_)
  refine yh9 ?_
  refine yl9 ?_
  refine W_rK [1,2,6,40] ?_
  refine yq9 6 (by simp [zf9,c,ci,hme,meA,strB];rfl) rfl ?_
  refine yf9 (by simp) (by first | (simp;done) | (simp;rfl)) hv (by simp;rfl) ?_
  refine yw9 (by simp;rfl) ?_
  cases hs:symM m.name with
  | false =>
   refine yt9 (t:=true) rfl (fun h=>?_) (fun h=>by simp at h)
   refine yr9 [4,5] (by simp;rfl) ?_
   refine yj9 ?_
   repeat (first | refine yp9 ?_ | refine ys9 ?_)
   refine hbad ?_
   rw [List.all_eq_false]
   exact ⟨m,List.mem_of_getElem? hmi,by simp [hs]⟩
  | true =>
   rw [hs] at hat
   refine yt9 (t:=false) rfl (fun h=>by simp at h) (fun h=>?_)
   refine ym9 [1,2,6] ?_
   refine yg9 ?_
   repeat (first | refine on_norm ?_ | refine in_norm ?_)
   refine zr9 [1,2,6] (by simp [wi,zf9];rfl) ?_
   exact ⟨_,by omega,i+1,rfl,by omega,hat,by simp⟩
 ·have hie:i=ms.length:=by omega
  subst hie
  rw [List.take_length] at hall
  refine yr9 [1,2,30] (by simp;rfl) ?_
  refine yt9 (t:=false) (by simp) (fun h=>by simp at h) (fun h=>?_)
  refine ym9 [1,2] ?_
  refine zs9 ?_
  exact hQ hall
def ndp (ms:List ME) (i:Nat):Prop:=∀ (a b:Nat) x y,a < b→b < i→ms[a]?=some x→ms[b]?=some y→x.name≠y.name
theorem ndp_nodup {ms:List ME} (h:ndp ms ms.length):(ms.map (·.name)).Nodup:=by
 refine List.pairwise_iff_getElem.2 fun i j hi hj hij heq=>?_
 simp only [List.length_map] at hi hj
 rw [List.getElem_map,List.getElem_map] at heq
 exact h i j _ _ hij hj (List.getElem?_eq_getElem hi) (List.getElem?_eq_getElem hj) heq
theorem dup_nodup {ms:List ME} {a b:Nat} {x y:ME} (hab:a < b) (hx:ms[a]?=some x) (hy:ms[b]?=some y) (hn:x.name=y.name):¬ (ms.map (·.name)).Nodup:=by
 intro h
 obtain ⟨ha,hx⟩:=List.getElem?_eq_some_iff.1 hx
 obtain ⟨hb,hy⟩:=List.getElem?_eq_some_iff.1 hy
 refine List.pairwise_iff_getElem.1 h a b (by simpa using ha) (by simpa using hb) hab ?_
 rw [List.getElem_map,List.getElem_map,hx,hy]
 exact hn
theorem rt_dup {d : Dcb} {rs : List (List UInt8)} {ms : List ME} {n : Int} (hl : ms.length ≤ 1000000000)
  {Q:Exit→St→Prop} (hbad:¬ (ms.map (·.name)).Nodup→Q .ret ⟨125,[(4,.lst .nil 1 []),(5,.v (.int .i64 4))],[.cells 42 (zh9 d rs ms)]⟩)
  (hQ:(ms.map (·.name)).Nodup→Q .normal ⟨125,[(1,.v (.int .i64 n)),(2,.loc 0 0)],[.cells 42 (zh9 d rs ms)]⟩) :
  Wt true 0 Tryz.prog (sq1 (sq2 rtC)) Q ⟨125,[(1,.v (.int .i64 n)),(2,.loc 0 0)],[.cells 42 (zh9 d rs ms)]⟩:=by
 unfold zh9 at *
 refine yr9 [1,2,7] (by simp;rfl) ?_
 refine yl9 ?_
 refine zj9 (fun k s => ∃ i : Nat, k = ms.length - i ∧ i ≤ ms.length ∧ ndp ms i ∧
  s=⟨125,[(1,.v (.int .i64 n)),(2,.loc 0 0),(7,.v (.int .i64 (i:Nat)))],[.cells 42 [.v (.int .i64 d.org),.v (.int .i64 d.fmt),.v (.bool d.blk),.v (.bool d.asa),.v (.int .i64 d.lrecl),.v (.int .i64 d.size),.v (.int .i64 d.klen),.v (.int .i64 d.kpos),.lst .any 1 (bbL rs),.lst .any 2 (meL ms)]]⟩) (k:=ms.length) ⟨0,rfl,by omega,fun a b x y h1 h2=>by omega,by simp⟩ ?_
 rintro k s ⟨i,rfl,hi,hnd,rfl⟩
 refine yh9 ?_
 by_cases c:i < ms.length
 ·have ci : (i : Int) < ms.length := by omega
  obtain ⟨m,hmi⟩:∃ m,ms[i]?=some m:=⟨_,List.getElem?_eq_getElem c⟩
  have hme:ms[i]'c=m:=(List.getElem?_eq_some_iff.1 hmi).2
  have wi:=w64 (n:=(i:Int)+1) (by omega) (by omega)
  refine yr9 [1,2,7,45] (by simp [c,ci];rfl) ?_
  refine yt9 (t:=true) (by simp [c,ci]) (fun h=>?_) (fun h=>by simp at h)
  refine ym9 [1,2,7] ?_
  refine yg9 ?_
  repeat (first | refine on_norm ?_ | refine in_norm ?_)
  refine yh9 ?_
  refine yl9 ?_
  refine yr9 [1,2,7,8] (by simp [zf9];rfl) ?_
  refine yl9 ?_
  refine zj9 (fun k s => ∃ j : Nat, k = i - j ∧ j ≤ i ∧ (∀ (a : Nat) x, a < j → ms[a]? = some x → x.name ≠ m.name) ∧
   s=⟨125,[(1,.v (.int .i64 n)),(2,.loc 0 0),(7,.v (.int .i64 (i:Nat))),(8,.v (.int .i64 (j:Nat)))],[.cells 42 [.v (.int .i64 d.org),.v (.int .i64 d.fmt),.v (.bool d.blk),.v (.bool d.asa),.v (.int .i64 d.lrecl),.v (.int .i64 d.size),.v (.int .i64 d.klen),.v (.int .i64 d.kpos),.lst .any 1 (bbL rs),.lst .any 2 (meL ms)]]⟩) (k:=i) ⟨0,rfl,by omega,fun a x h=>by omega,by simp⟩ ?_
  rintro k s ⟨j,rfl,hj,hnj,rfl⟩
  refine yh9 ?_
  by_cases cj:j < i
  ·have cji : (j : Int) < i := by omega
   have cjm:j < ms.length:=by omega
   have cjmi:(j:Int) < ms.length:=by omega
   obtain ⟨q,hqj⟩:∃ q,ms[j]?=some q:=⟨_,List.getElem?_eq_getElem cjm⟩
   have hqe:ms[j]'cjm=q:=(List.getElem?_eq_some_iff.1 hqj).2
   have wj:=w64 (n:=(j:Int)+1) (by omega) (by omega)
   refine yr9 [1,2,7,8,50] (by simp [cj,cji];rfl) ?_
   refine yt9 (t:=true) (by simp [cj,cji]) (fun h=>?_) (fun h=>by simp at h)
   refine ym9 [1,2,7,8] ?_
   refine yg9 ?_
   repeat (first | refine on_norm ?_ | refine in_norm ?_)
   refine yh9 ?_
   refine yl9 ?_
   by_cases hn:m.name=q.name
   ·refine wk9 [1,2,7,8,65] mx (by decide +kernel) ?_
    refine yd9 6 (by simp [zf9,c,ci,hme,meA,strB];rfl) rfl ?_
    refine yd9 6 (by simp [cjm,cjmi,hqe,meA,strB];rfl) rfl ?_
    refine yb9 (by simp [hn];rfl) ?_
    refine yt9 (t:=true) (by simp) (fun h=>?_) (fun h=>by simp at h)
    refine yr9 [4,5] (by simp;rfl) ?_
    refine yj9 ?_
    repeat (first | refine yp9 ?_ | refine ys9 ?_)
    exact hbad (dup_nodup cj hqj hmi hn.symm)
   ·have hnb : ¬ strB m.name = strB q.name := fun h => hn (by simpa [strB] using h)
    simp only [strB,AV.v.injEq,Value.string.injEq] at hnb
    refine wk9 [1,2,7,8,65] mx (by decide +kernel) ?_
    refine yd9 6 (by simp [zf9,c,ci,hme,meA,strB];rfl) rfl ?_
    refine yd9 6 (by simp [cjm,cjmi,hqe,meA,strB];rfl) rfl ?_
    refine yb9 (by simp [hn,hnb];rfl) ?_
    refine yt9 (t:=false) (by simp [hn,hnb]) (fun h=>by simp at h) (fun h=>?_)
    refine ym9 [1,2,7,8] ?_
    refine yg9 ?_
    repeat (first | refine on_norm ?_ | refine in_norm ?_)
    refine zr9 [1,2,7,8] (by simp [zf9,wj];rfl) ?_
    refine ⟨_,by omega,j+1,rfl,by omega,fun a x ha hxa=>?_,by simp⟩
    by_cases haj:a < j
    ·exact hnj a x haj hxa
    ·have:a=j:=by omega
     subst this
     rw [hqj] at hxa
     rw [← Option.some.inj hxa]
     exact fun h=>hn h.symm
  ·have hje : j = i := by omega
   subst hje
   refine yr9 [1,2,7,50] (by simp;rfl) ?_
   refine yt9 (t:=false) (by simp) (fun h=>by simp at h) (fun h=>?_)
   refine ym9 [1,2,7] ?_
   refine zs9 ?_
   refine zr9 [1,2,7] (by simp [zf9,wi];rfl) ?_
   refine ⟨_,by omega,j+1,rfl,by omega,fun a b x y h1 h2 h3 h4=>?_,by simp⟩
   by_cases hb:b < j
   ·exact hnd a b x y h1 hb h3 h4
   ·have:b=j:=by omega
    subst this
    rw [hmi] at h4
    rw [← Option.some.inj h4]
    exact hnj a x (by omega) h3
 ·have hie:i=ms.length:=by omega
  subst hie
  refine yr9 [1,2,45] (by simp;rfl) ?_
  refine yt9 (t:=false) (by simp) (fun h=>by simp at h) (fun h=>?_)
  refine ym9 [1,2] ?_
  refine zs9 ?_
  exact hQ (ndp_nodup hnd)
end Go.AM
namespace Go.AM
open Go.RowKit Go.Proofs
set_option linter.unusedSimpArgs false
set_option linter.unusedVariables false
set_option maxHeartbeats 8000000
set_option maxRecDepth 20000
structure RkS (C:List AV) (H:List AObj) (idT cap:Nat) (T:List (List Rec)) (cs:List AV):Prop where
 shut:yn9 H.length H=true
 c0:H[0]?=some (.cells 42 C)
 obj:H[idT]?=some (.cells 80 cs)
 rc:RC T cap cs
 kl:AV.killL 29 cs=cs
 cap:cap≤maxLen
noncomputable def rtT:Code:=sq2 (sq2 (sq2 (sq2 (sq2 (sq2 rtC)))))
noncomputable def rtX:Code:=bkC (sq1 (sq2 (lpC (bkC (sq2 (sq1 rtT))))))
def rtSt (idT cap n N:Nat) (T:List (List Rec)) (l:List RE) (i:Nat) (H:List AObj):St:=⟨125,[(1,.v (.int .i64 (n:Nat))),(2,.loc 0 0),(9,.arr idT 0 T.length cap),(10,.v (.int .i64 (N:Nat))),(11,.lst .any 3 (seL (l.map nmE))),(12,.v (.int .i64 (i:Nat)))],H⟩
theorem rt_step {d : Dcb} {rs : List (List UInt8)} {ms : List ME} {n N : Nat} {H : List AObj} {l : List RE} {idT cap : Nat} {T : List (List Rec)} {cs : List AV} {i : Nat} {m : ME}
  (ts:RkS (zh9 d rs ms) H idT cap T cs) (hn:n≤1000) (hN1:N≤1000) (hTv:∀ t∈T,vtrk t=true) (hTl:T.length≤40000000) (hNT:N≤T.length) (hord:ordE l=true) (h8:∀ x∈l,x.key.length=8) (hl:l.length≤1100000)
  (hmi:ms[i]?=some m) (hs:symM m.name=true) (hrl:m.recs.length≤1100000) (hrr:∀ r∈m.recs,r.length≤1000000000)
  {Q:Exit→St→Prop} (hbad:∀ H',(zg9 d m.recs).2≠0→Q .ret ⟨125,[(4,.lst .nil 1 []),(5,.v (.int .i64 (zg9 d m.recs).2))],H'⟩)
  (hQ : (zg9 d m.recs).2 = 0 → ∀ H' idT' cap' cs', RkS (zh9 d rs ms) H' idT' cap' (wrE N T (zg9 d m.recs).1).1 cs' →
   Q .normal (rtSt idT' cap' n N (wrE N T (zg9 d m.recs).1).1 (insE l ⟨padK m.name,(wrE N T (zg9 d m.recs).1).2.1,(wrE N T (zg9 d m.recs).1).2.2.toNat⟩) i H')) :
  Wt true 0 Tryz.prog rtX Q (rtSt idT cap n N T l i H):=by
 have him:i < ms.length:=(List.getElem?_eq_some_iff.1 hmi).1
 have himi:(i:Int) < ms.length:=by omega
 have hme:ms[i]'him=m:=(List.getElem?_eq_some_iff.1 hmi).2
 have hblk:=rblock_sound d m.recs hrl hrr
 have hwp:=wl8 N T (zg9 d m.recs).1 hNT
 obtain ⟨p,hpe⟩:∃ p,zg9 d m.recs=p:=⟨_,rfl⟩
 rw [hpe] at hblk hbad hQ hwp
 unfold resB at hblk
 have hc0:=ts.c0
 unfold zh9 at hc0
 unfold rtSt
 refine wk9 [1,2,9,10,11,12,13,14] mx (by decide +kernel) ?_
 refine yd9 4 (by simp [hc0];rfl) rfl ?_
 refine yd9 4 (by simp [him,himi,hme,meA];rfl) rfl ?_
 refine yv9 (by simp) (by first | (simp;done) | (simp;rfl)) hblk (by simp;rfl) ?_
 refine yb9 (by simp;rfl) ?_
 refine yh9 ?_
 by_cases c:p.2=0
 ·have c2 : (p.2 != 0) = false := by simpa using c
  refine yr9 [1,2,9,10,11,12,13,96] (by simp [c,c2];rfl) ?_
  refine yt9 (t:=false) rfl (fun h=>by simp at h) (fun _=>?_)
  refine ym9 [1,2,9,10,11,12,13] ?_
  refine yg9 ?_
  repeat (first | refine on_norm ?_ | refine in_norm ?_)
  refine xp7 13 (sz:=1) (xs:=bbL p.1) (o:=.tip 90 185) rfl ?_
  refine yr9 [1,2,9,10,11,12,13,15] (by simp [zf9,uh9,getF,putF];rfl) ?_
  obtain ⟨h,hh⟩:∃ h,H.length=h:=⟨_,rfl⟩
  rw [hh]
  have hp0:zg9 d m.recs=(p.1,0):=by rw [hpe,← c]
  obtain ⟨hb1,hb2,hb3,hb4⟩:=yc7 hp0
  obtain ⟨H2,hH2⟩:∃ H2,H++[AObj.cells 51 [.v (.string ⟨#[]⟩),.v (.int .i64 0),.v (.int .i64 0)]]=H2:=⟨_,rfl⟩
  rw [hH2]
  have hTi:=(List.getElem?_eq_some_iff.1 ts.obj).1
  have h0l:=(List.getElem?_eq_some_iff.1 ts.c0).1
  have hl2:H2.length=h+1:=by rw [← hH2,← hh];simp
  have hs2:yn9 H2.length H2=true:=by
   rw [hl2,← hH2,zm9,xc9 (by omega) _ ts.shut]
   simp [yn9,AObj.under,AV.under,AV.underL]
  have ho2:H2[idT]?=some (.cells 80 cs):=by rw [← hH2,List.getElem?_append_left hTi];exact ts.obj
  have hc2:H2[0]?=some (.cells 42 (zh9 d rs ms)):=by rw [← hH2,List.getElem?_append_left h0l];exact ts.c0
  have hb2':H2[h]?=some (.cells 51 [.v (.string ⟨#[]⟩),.v (.int .i64 0),.v (.int .i64 0)]):=by rw [← hH2,← hh];simp
  have hw:=append_callW T N p.1 hTv (fun b hb=>(hb4 b hb).2) (by omega) (by omega) (by omega) H2 hs2 idT cap cs ho2 ts.rc ts.kl ts.cap
  obtain ⟨W,hW⟩:∃ W,wrE N T p.1=W:=⟨_,rfl⟩
  rw [hW] at hw hwp hQ
  obtain ⟨rn,hrn⟩:∃ rn:Nat,W.2.2=(rn:Int):=⟨W.2.2.toNat,by have:=hwp.2.2.1;omega⟩
  rw [hrn] at hw hQ
  rw [show ((rn:Nat):Int).toNat=rn by simp] at hQ
  have hokl:∀ x∈l,okN x:=fun x hx=>⟨h8 x hx,(ud8.1 hord).1 x hx⟩
  have hx8:(padK m.name).length=8:=um9 (vp9 hs).2.2
  have hoke:okN ⟨padK m.name,W.2.1,rn⟩:=⟨hx8,by show symM (nmM (padK m.name))=true;rw [jg8 hs];exact hs⟩
  have hins:=yr6 (l.map nmE) (nmE ⟨padK m.name,W.2.1,rn⟩) (by simp;omega) (fun e he=>by
   obtain ⟨x,hx,rfl⟩:=List.mem_map.1 he
   exact (hokl x hx).2) hoke.2
  rw [insGo_eq hoke l [] hokl (pw_ord hord),List.nil_append] at hins
  have hnmE:nmE ⟨padK m.name,W.2.1,rn⟩=⟨m.name,W.2.1,rn⟩:=by unfold nmE;rw [jg8 hs]
  rw [hnmE] at hins
  simp only [seA,strB] at hins
  refine W_rK [1,2,9,10,11,12,15] ?_
  refine yq9 3 (by simp;rfl) rfl ?_
  refine xs9 (f:=49) (args:=[.arr idT 0 T.length cap,.v (.int .i64 (N:Nat)),.lst .any 1 (bbL p.1)]) (by simp) (by simp [xj9,zc9]) (hw.mono ?_)
  rintro r h' ⟨id',cap',cs',ws,rfl⟩
  have hTne:∀ (j:Nat) o,H2[j]?=some o→(∀ cs,o≠.cells 80 cs)→j≠idT:=by
   intro j o ho hn hj
   rw [hj,ho2] at ho
   exact hn cs (Option.some.inj ho).symm
  have hbx':h'[h]?=some (.cells 51 [.v (.string ⟨#[]⟩),.v (.int .i64 0),.v (.int .i64 0)]):=ws.old h _ (hTne _ _ hb2' (by simp)) hb2' (fun T=>by simp [AObj.kill,AV.killL,AV.kill])
  have hc':h'[0]?=some (.cells 42 (zh9 d rs ms)):=ws.old 0 _ (hTne _ _ hc2 (by simp)) hc2 (fun T=>by simp [zh9,AObj.kill,AV.killL,AV.kill])
  have hhl:h < h'.length:=(List.getElem?_eq_some_iff.1 hbx').1
  have hid':h≠id':=by
   intro hc
   have h1:=ws.obj
   rw [← hc,hbx'] at h1
   cases h1
  refine ⟨_,by simp;rfl,?_⟩
  refine yw9 (by simp [hbx',yk9];rfl) ?_
  have hset1:∀ o,(h'.set h o)[h]?=some o:=fun o=>by rw [List.getElem?_set_self hhl]
  have hset0:∀ o,(h'.set h o)[0]?=some (.cells 42 (zh9 d rs ms)):=fun o=>by rw [List.getElem?_set_ne (by omega)];exact hc'
  obtain ⟨H3,hH3⟩:∃ H3,h'.set h (.cells 51 [.v (.string ⟨#[]⟩),.v (.int .i64 (W.2.1:Nat)),.v (.int .i64 (rn:Nat))])=H3:=⟨_,rfl⟩
  have hb3:=hset1 (.cells 51 [.v (.string ⟨#[]⟩),.v (.int .i64 (W.2.1:Nat)),.v (.int .i64 (rn:Nat))])
  have hc3:=hset0 (.cells 51 [.v (.string ⟨#[]⟩),.v (.int .i64 (W.2.1:Nat)),.v (.int .i64 (rn:Nat))])
  rw [hH3] at hb3 hc3
  unfold zh9 at hc3
  refine (show Wt true 0 Tryz.prog _ _ ⟨125,[(1,.v (.int .i64 (n:Nat))),(2,.loc 0 0),(9,.arr id' 0 W.1.length cap'),(10,.v (.int .i64 (N:Nat))),(11,.lst .any 3 (seL (l.map nmE))),(12,.v (.int .i64 (i:Nat))),(15,.loc h 0)],h'.set h (.cells 51 [.v (.string ⟨#[]⟩),.v (.int .i64 (W.2.1:Nat)),.v (.int .i64 (rn:Nat))])⟩ from ?_)
  rw [hH3]
  refine yr9 [1,2,9,10,11,12,15] (by simp [hc3,hb3,him,himi,hme,meA,strB,yk9];rfl) ?_
  have hb4':(H3.set h (.cells 51 [.v (.string ⟨m.name.toArray⟩),.v (.int .i64 (W.2.1:Nat)),.v (.int .i64 (rn:Nat))]))[h]?=some (.cells 51 [.v (.string ⟨m.name.toArray⟩),.v (.int .i64 (W.2.1:Nat)),.v (.int .i64 (rn:Nat))]):=by
   rw [List.getElem?_set_self (by rw [← hH3,List.length_set];exact hhl)]
  have ts4:RkS (zh9 d rs ms) (H3.set h (.cells 51 [.v (.string ⟨m.name.toArray⟩),.v (.int .i64 (W.2.1:Nat)),.v (.int .i64 (rn:Nat))])) id' cap' W.1 cs':=by
   rw [← hH3,List.set_set]
   refine ⟨?_,?_,?_,ws.rc,ws.kl,ws.cap⟩
   ·rw [List.length_set];exact wc9 ws.shut (by simp [AObj.under,AV.under,AV.underL])
   ·rw [List.getElem?_set_ne (by omega)];exact hc'
   ·rw [List.getElem?_set_ne hid'];exact ws.obj
  obtain ⟨H4,hH4⟩:∃ H4,H3.set h (.cells 51 [.v (.string ⟨m.name.toArray⟩),.v (.int .i64 (W.2.1:Nat)),.v (.int .i64 (rn:Nat))])=H4:=⟨_,rfl⟩
  rw [hH4] at hb4' ts4 ⊢
  refine W_rE [1,2,9,10,11,12] ?_
  refine yq9 2 (by simp [hb4'];rfl) rfl ?_
  refine yf9 (by simp) (by first | (simp;done) | (simp;rfl)) hins (by simp;rfl) ?_
  refine yw9 (by simp;rfl) ?_
  exact hQ c _ id' cap' cs' ts4
 ·have c2:(p.2 != 0)=true:=by simpa using c
  refine yr9 [1,2,9,10,11,12,13,14,96] (by simp [c,c2];rfl) ?_
  refine yt9 (t:=true) rfl (fun h=>?_) (fun h=>by simp at h)
  refine yr9 [4,5] (by simp;rfl) ?_
  refine yj9 ?_
  repeat (first | refine yp9 ?_ | refine ys9 ?_)
  exact hbad _ c
end Go.AM
namespace Go.AM
open Go.RowKit Go.Proofs
set_option linter.unusedSimpArgs false
set_option linter.unusedVariables false
set_option maxHeartbeats 8000000
set_option maxRecDepth 20000
theorem kw9 {H:List AObj} {e:Int}:retU Tryz.prog [.tmp 4,.tmp 5] (resT ([],e)) .ret ⟨125,[(4,.lst .nil 1 []),(5,.v (.int .i64 e))],H⟩ :=
 ⟨.tup [.lst .nil 1 [],.v (.int .i64 e)],by simp [retQ],.tup2 (.nil (by decide +kernel)) (.refl _)⟩
theorem rt_store {d : Dcb} {rs : List (List UInt8)} {ms : List ME} {n N : Nat} {cap0 : Nat} {cs0 : List AV} (hN : (n + 5) / 6 = N) (hn : n ≤ 64) (hml : ms.length ≤ 1344) (hs : ∀ m ∈ ms, symM m.name = true)
  (hr:∀ m∈ms,m.recs.length≤1100000∧∀ r∈m.recs,r.length≤1000000000) (hrc:RC (layG [] n) cap0 cs0) (hkl:AV.killL 29 cs0=cs0) (hcm:cap0≤maxLen) :
  Wt true 0 Tryz.prog rtT (retU Tryz.prog [.tmp 4,.tmp 5] (resT (ptrR N n (stM d N ms [] [])))) ⟨125,[(1,.v (.int .i64 (n:Nat))),(2,.loc 0 0),(9,.arr 1 0 N cap0),(10,.v (.int .i64 (N:Nat))),(11,.lst .any 3 [])],[.cells 42 (zh9 d rs ms),.cells 80 cs0]⟩:=by
 obtain ⟨R,hR⟩:∃ R,stM d N ms [] []=R:=⟨_,rfl⟩
 rw [hR]
 have hF:(layG [] n).length=N:=by rw [vh9,hN]
 have hFv:∀ t∈layG [] n,vtrk t=true:=lay_valid (by simp) n
 have ts0:RkS (zh9 d rs ms) [.cells 42 (zh9 d rs ms),.cells 80 cs0] 1 cap0 (layG [] n) cs0:=by
  refine ⟨?_,rfl,rfl,hrc,hkl,hcm⟩
  simp [yn9,AObj.under,zh9,AV.underL,AV.under,hrc.under]
 obtain ⟨F,hFe⟩:∃ F,layG [] n=F:=⟨_,rfl⟩
 rw [hFe] at ts0 hF hFv
 refine yh9 ?_
 refine yr9 [1,2,9,10,11,12] (by simp;rfl) ?_
 refine yl9 ?_
 refine zj9 (fun k s => ∃ (i : Nat) (H : List AObj) (l : List RE) (u : List (List Rec)) (idT cap : Nat) (cs : List AV), k = ms.length - i ∧ i ≤ ms.length ∧ RkS (zh9 d rs ms) H idT cap (F ++ u) cs ∧ stM d N (ms.drop i) u l = R ∧
  ordE l=true∧(∀ x∈l,x.key.length=8∧x.trk < N+u.length∧x.rn < 256)∧l.length≤i∧(∀ t∈u,vtrk t=true)∧u.length≤4100 * i∧s=rtSt idT cap n N (F++u) l i H) (k:=ms.length)
  ⟨0,_,[],[],1,cap0,_,rfl,by omega,by rw [List.append_nil];exact ts0,hR,rfl,by simp,by simp,by simp,by simp,by simp [rtSt,hF,seL]⟩ ?_
 rintro k s ⟨i,H,l,u,idT,cap,cs,rfl,hi,ts,hgo,hord,hl8,hll,huv,hul,rfl⟩
 have hTv:∀ t∈F++u,vtrk t=true:=fun t ht=>by
  rcases List.mem_append.1 ht with h | h
  ·exact hFv t h
  ·exact huv t h
 have hc0:=ts.c0
 unfold zh9 at hc0
 refine yh9 ?_
 by_cases c:i < ms.length
 ·have ci : (i : Int) < ms.length := by omega
  obtain ⟨m,hmi⟩:∃ m,ms[i]?=some m:=⟨_,List.getElem?_eq_getElem c⟩
  have hmm:=List.mem_of_getElem? hmi
  have hme:ms[i]'c=m:=(List.getElem?_eq_some_iff.1 hmi).2
  have wi:=w64 (n:=(i:Int)+1) (by omega) (by omega)
  have hdr:ms.drop i=m :: ms.drop (i+1):=by rw [List.drop_eq_getElem_cons c,hme]
  rw [hdr,stM] at hgo
  have hstep:=fun Q=>rt_step (n:=n) (N:=N) (Q:=Q) ts (by omega) (by omega) hTv (by rw [List.length_append];omega) (by rw [List.length_append];omega) hord (fun x hx=>(hl8 x hx).1) (by omega) hmi (hs m hmm) (hr m hmm).1 (hr m hmm).2
  rw [wrE_F hF] at hstep
  obtain ⟨T,hTe⟩:∃ T,F++u=T:=⟨_,rfl⟩
  rw [hTe] at hstep ⊢
  unfold rtSt at hstep ⊢
  refine yr9 [1,2,9,10,11,12,80] (by simp [hc0,c,ci];rfl) ?_
  refine yt9 (t:=true) (by simp [c,ci]) (fun h=>?_) (fun h=>by simp at h)
  refine ym9 [1,2,9,10,11,12] ?_
  refine yg9 ?_
  repeat (first | refine on_norm ?_ | refine in_norm ?_)
  refine yh9 ?_
  refine yl9 ?_
  refine hstep _ (fun H' hbad=>?_) fun hok H' idT' cap' cs' ts'=>?_
  ·rw [if_neg hbad] at hgo
   subst hgo
   exact kw9
  ·rw [if_pos hok] at hgo
   have hb:=yc7 (d:=d) (l:=m.recs) (bs:=(zg9 d m.recs).1) (by rw [← hok])
   have hsy:=hs m hmm
   have hwp:=wl8 0 u (zg9 d m.recs).1 (by omega)
   have hwl:=wrE_len 0 u (zg9 d m.recs).1
   obtain ⟨_,hwx⟩:=wrE_ext 0 u (zg9 d m.recs).1
   have hwge:=hwx.len
   obtain ⟨W,hW⟩:∃ W,wrE 0 u (zg9 d m.recs).1=W:=⟨_,rfl⟩
   have hwv:∀ t∈W.1,vtrk t=true:=by rw [← hW];exact yn7 0 huv fun b hb'=>(hb.2.2.2 b hb').2
   rw [hW] at hgo ts' hwl hwp hwge ⊢
   dsimp only at ts' ⊢
   have hx8:(padK m.name).length=8:=um9 (vp9 hsy).2.2
   have hil:=ins_len (l:=l) ⟨padK m.name,N+W.2.1,W.2.2.toNat⟩
   repeat (first | refine on_norm ?_ | refine in_norm ?_)
   refine zr9 [1,2,9,10,11,12] (by simp [wi];rfl) ?_
   refine ⟨_,by omega,i+1,H',_,W.1,idT',cap',cs',rfl,by omega,ts',hgo,ord_ins hord (by show symM (nmM (padK m.name))=true;rw [jg8 hsy];exact hsy),?_,?_,hwv,by omega,by simp [rtSt]⟩
   ·intro x hx
    rcases (mem_ins (pw_ord hord) _ x).1 hx with rfl | ⟨hx,_⟩
    ·exact ⟨hx8,by show N+W.2.1 < _;omega,by show W.2.2.toNat < _;omega⟩
    ·have:=hl8 x hx;exact ⟨this.1,by omega,this.2.2⟩
   ·rw [hil];split <;> omega
 ·have hie : i = ms.length := by omega
  subst hie
  rw [List.drop_length,stM] at hgo
  subst hgo
  have hFl:(F++u).length=N+u.length:=by rw [List.length_append,hF]
  have hdrop:(F++u).drop N=u:=by rw [← hF,List.drop_left]
  have hll2:(layG l n).length=N:=by rw [vh9,hN]
  obtain ⟨T,hTe⟩:∃ T,F++u=T:=⟨_,rfl⟩
  rw [hTe] at hFl hdrop ts ⊢
  unfold rtSt
  refine yr9 [1,9,10,11,80] (by simp [hc0];rfl) ?_
  refine yt9 (t:=false) (by simp) (fun h=>by simp at h) (fun h=>?_)
  refine ym9 [1,9,10,11] ?_
  refine zs9 ?_
  refine (show Wt true 0 Tryz.prog (sq2 rtT) _ ⟨125,[(1,.v (.int .i64 (n:Nat))),(9,.arr idT 0 T.length cap),(10,.v (.int .i64 (N:Nat))),(11,.lst .any 3 (seL (l.map nmE)))],H⟩ from ?_)
  refine yh9 ?_
  by_cases c5:512 < N+u.length
  ·have c5n:512 < T.length:=by rw [hFl];exact c5
   have c5i:(512:Int) < (T.length:Nat):=by omega
   refine yr9 [1,9,117] (by simp [c5i,c5n];rfl) ?_
   refine yt9 (t:=true) (by simp [c5i,c5n]) (fun h=>?_) (fun h=>by simp at h)
   refine yr9 [4,5] (by simp;rfl) ?_
   refine yj9 ?_
   repeat (first | refine yp9 ?_ | refine ys9 ?_)
   rw [show ptrR N n (.ok (u,l))=([],200) from by show (if 512 < N+u.length then _ else _)=_;rw [if_pos c5]]
   exact kw9
  ·have c5n:¬ 512 < T.length:=by rw [hFl];exact c5
   have c5i:¬ (512:Int) < (T.length:Nat):=by omega
   rw [show ptrR N n (.ok (u,l))=(layG l n++u,0) from by show (if 512 < N+u.length then _ else _)=_;rw [if_neg c5]]
   have hdir:=rdirT_sound l n (fun x hx=>(hl8 x hx).1) (ud8.1 hord).1 (fun x hx=>⟨by have:=(hl8 x hx).2.1;omega,(hl8 x hx).2.2⟩) (by omega) (by omega)
   refine yr9 [1,9,10,11,117] (by simp [c5i,c5n];rfl) ?_
   refine yt9 (t:=false) (by simp [c5i,c5n]) (fun h=>by simp at h) (fun h=>?_)
   refine ym9 [1,9,10,11] ?_
   refine yg9 ?_
   repeat (first | refine on_norm ?_ | refine in_norm ?_)
   refine W_dpB idT (ty:=80) (cs:=cs) ts.obj ?_
   have hobj:(H.set idT (.cells 80 (AV.dpL cs)))[idT]?=some (.cells 80 (AV.dpL cs)):=by rw [List.getElem?_set_self (List.getElem?_eq_some_iff.1 ts.obj).1]
   obtain ⟨H1,hH1⟩:∃ H1,H.set idT (.cells 80 (AV.dpL cs))=H1:=⟨_,rfl⟩
   rw [hH1] at hobj
   refine (show Wt true 0 Tryz.prog (sq2 (sq2 rtT)) _ ⟨125,[(1,.v (.int .i64 (n:Nat))),(9,.arr idT 0 T.length cap),(10,.v (.int .i64 (N:Nat))),(11,.lst .any 3 (seL (l.map nmE)))],H.set idT (.cells 80 (AV.dpL cs))⟩ from ?_)
   rw [hH1]
   obtain ⟨o,H2,ho,hfz⟩:=frz_rc ts.rc hobj 1
   refine W_frz 9 (tk:=1) rfl rfl hfz ?_
   refine xp7 9 (sz:=1) (xs:=arL T) (o:=o) rfl ?_
   have hNT:N≤T.length:=by omega
   have hNTi:(N:Int)≤(T.length:Nat):=by omega
   have hda:(arL T).drop N=arL u:=by rw [← arL_drop,hdrop]
   have hul2:u.length≤512:=by omega
   obtain ⟨Y,hY⟩:∃ Y,layG l n=Y:=⟨_,rfl⟩
   rw [hY] at hdir hll2 ⊢
   have b1:(Y.length+u.length) * 24≤140737488355328:=by omega
   have b2:24 * (Y.length+u.length)≤140737488355328:=by omega
   have b3:(N+u.length) * 24≤140737488355328:=by omega
   have b4:24 * (N+u.length)≤140737488355328:=by omega
   refine wk9 [4,5] mx (by decide +kernel) ?_
   refine yd9 2 (by simp [zf9,putF,getF,uh9];rfl) rfl ?_
   refine yv9 (by simp) (by first | (simp;done) | (simp;rfl)) hdir (by simp;rfl) ?_
   refine yd9 3 (by simp [hNT,hNTi,hda];rfl) rfl ?_
   refine yb9 (by simp [catK,AV.cellsK,AV.kone,AV.koneL,b1,b2,b3,b4,hll2];rfl) ?_
   refine yj9 ?_
   repeat (first | refine yp9 ?_ | refine ys9 ?_)
   rw [← wp6]
   exact ⟨_,by simp [retQ];exact ⟨rfl,by simp⟩,.norm fun T=>by simp [resT]⟩
theorem vf6 (d : Dcb) (rs : List (List UInt8)) (ms : List ME) (dir : Int) (hl : ms.length ≤ 1000000000) (hm : ∀ m ∈ ms, m.name.length ≤ 1000000000 ∧ m.recs.length ≤ 1100000 ∧ ∀ r ∈ m.recs, r.length ≤ 1000000000) :
  Sound Tryz.prog 15 [.agg (zh9 d rs ms),.v (.int .i64 dir)] (resT (ptrM d ms dir)):=by
 refine xw9 Tryz.func15 rfl (by decide +kernel) (by simp [Tryz.f15]) (by simp [AV.rfL,AV.rf,zh9]) (by simp [AV.tlL,AV.tl,zh9]) (rs:=[.tmp 4,.tmp 5]) rfl ?_
 rw [show Tryz.f15.ntmps=125 from rfl]
 have hpart:=rfine_sound d
 simp only [dcbA] at hpart
 unfold ptrM
 have hcc:∀ C,C=zh9 d rs ms→Calm1 C:=fun C hC=>by
  subst hC
  exact ⟨fun T=>by simp [zh9,AV.killL,AV.kill],fun i j=>by
   have h1:∀ l:List (List UInt8),AV.swL i j (bbL l)=bbL l:=fun l=>by induction l <;> simp_all [wh9,AV.swL,AV.sw]
   simp [zh9,AV.swL,AV.sw],fun m=>by simp [zh9,AV.underL,AV.under]⟩
 have hnames:=fun (n:Int) Q=>rt_names (d:=d) (rs:=rs) (n:=n) (Q:=Q) hl fun m hm'=>(hm m hm').1
 have hdups:=fun (n:Int) Q=>rt_dup (d:=d) (rs:=rs) (ms:=ms) (n:=n) (Q:=Q) hl
 have hcalm:=hcc _ rfl
 unfold zh9 at hnames hdups
 unfold zh9
 refine yr9 [1,2] (by simp;rfl) ?_
 refine yh9 ?_
 by_cases c1:dir < 1∨64 < dir
 ·rw [if_pos c1]
  rcases c1 with c | c
  ·refine yr9 [1,2,21] (by simp [c];rfl) ?_
   refine yt9 (t:=true) rfl (fun h=>?_) (fun h=>by simp at h)
   refine yr9 [4,5] (by simp;rfl) ?_
   refine yj9 ?_
   exact kw9
  ·have c':¬ dir < 1:=by omega
   refine yr9 [1,2,21] (by simp [c,c'];rfl) ?_
   refine yt9 (t:=true) (by simp [c]) (fun h=>?_) (fun h=>by simp at h)
   refine yr9 [4,5] (by simp;rfl) ?_
   refine yj9 ?_
   exact kw9
 rw [if_neg c1]
 obtain ⟨n,rfl⟩:∃ n:Nat,dir=(n:Int):=⟨dir.toNat,by omega⟩
 have c2:¬ (n:Int) < 1:=by omega
 have c3:¬ (64:Int) < n:=by omega
 have c2n:¬ n < 1:=by omega
 have c3n:¬ 64 < n:=by omega
 refine yr9 [1,2,21] (by simp [c2,c3,c2n,c3n];rfl) ?_
 refine yt9 (t:=false) (by simp [c3,c3n]) (fun h=>by simp at h) (fun h=>?_)
 refine ym9 [1,2] ?_
 refine yg9 ?_
 repeat (first | refine on_norm ?_ | refine in_norm ?_)
 refine yh9 ?_
 refine W_rK [1,2,25] ?_
 refine yq9 2 (by simp;rfl) rfl ?_
 refine yf9 (by simp) (by first | (simp;done) | (simp;rfl)) hpart (by simp;rfl) ?_
 refine yw9 (by simp;rfl) ?_
 cases hp:wp7 d with
 | false =>
  rw [if_pos rfl]
  refine yt9 (t:=true) rfl (fun h=>?_) (fun h=>by simp at h)
  refine yr9 [4,5] (by simp;rfl) ?_
  refine yj9 ?_
  repeat (first | refine yp9 ?_ | refine ys9 ?_)
  exact kw9
 | true =>
 rw [if_neg (by simp)]
 refine yt9 (t:=false) rfl (fun h=>by simp at h) (fun h=>?_)
 refine ym9 [1,2] ?_
 refine yg9 ?_
 repeat (first | refine on_norm ?_ | refine in_norm ?_)
 refine jk7 (fun s=>ms.all (fun m=>symM m.name)=true∧s=⟨125,[(1,.v (.int .i64 (n:Nat))),(2,.loc 0 0)],[.cells 42 (zh9 d rs ms)]⟩) ?_ ?_
 ·refine hnames _ _ (fun hb => ?_) fun hall => ?_
  ·rw [if_pos hb]
   exact kw9
  ·exact ⟨hall,rfl⟩
 rintro _ ⟨hall,rfl⟩
 rw [if_neg (by simp [hall])]
 unfold zh9
 obtain ⟨K,hK⟩:∃ K,um8 (ms.map (·.name))=K:=⟨_,rfl⟩
 have hKl:=qm7 (ms.map (·.name))
 have hKf:=xt6 (ms.map (·.name))
 rw [List.length_map] at hKl hKf
 rw [hK] at hKl hKf ⊢
 refine jk7 (fun s=>(ms.map (·.name)).Nodup∧s=⟨125,[(1,.v (.int .i64 (n:Nat))),(2,.loc 0 0)],[.cells 42 (zh9 d rs ms)]⟩) ?_ ?_
 ·refine hdups _ _ (fun hb => ?_) fun hnd => ?_
  ·have:K.length < ms.length:=by
    rcases Nat.lt_or_ge K.length ms.length with h | h
    ·exact h
    ·exact absurd (hKf.1 (by omega)) hb
   rw [if_pos this]
   exact kw9
  ·exact ⟨hnd,rfl⟩
 rintro _ ⟨hnd,rfl⟩
 have hKe:K.length=ms.length:=hKf.2 hnd
 rw [if_neg (by omega),hKe]
 unfold zh9
 have w21:IntKind.i64.wrap (21 * (n:Int))=21 * (n:Int):=w64 (by omega) (by omega)
 refine yh9 ?_
 by_cases c5:21 * (n:Int) < ms.length
 ·rw [if_pos c5]
  have c5n:21 * n < ms.length:=by omega
  refine yr9 [1,2,71] (by simp [w21,c5,c5n];rfl) ?_
  refine yt9 (t:=true) (by simp [c5,c5n]) (fun h=>?_) (fun h=>by simp at h)
  refine yr9 [4,5] (by simp;rfl) ?_
  refine yj9 ?_
  repeat (first | refine yp9 ?_ | refine ys9 ?_)
  exact kw9
 rw [if_neg c5]
 have c5n:¬ 21 * n < ms.length:=by omega
 refine yr9 [1,2,71] (by simp [w21,c5,c5n];rfl) ?_
 refine yt9 (t:=false) (by simp [c5,c5n]) (fun h=>by simp at h) (fun h=>?_)
 refine ym9 [1,2] ?_
 refine yg9 ?_
 repeat (first | refine on_norm ?_ | refine in_norm ?_)
 rw [show ((n:Nat):Int).toNat=n by simp]
 have hdir:=rdir_callW hcalm [] n (by omega) (by simp) (by simp) (by simp) (by simp) (by omega)
 obtain ⟨N,hN⟩:∃ N,(n+5) / 6=N:=⟨_,rfl⟩
 rw [hN] at hdir ⊢
 rw [List.map_nil,show seL []=[] from rfl] at hdir
 unfold zh9 at hdir
 have hms:ms.length≤1344:=by omega
 refine W_rK [1,2,9] ?_
 refine yq9 1 (by simp [zf9];rfl) rfl ?_
 refine xs9 (f:=47) (args:=[.lst .nil 3 [],.v (.int .i64 (n:Nat))]) (by simp) (by simp [xj9,zc9]) (ww9.dpArgs (hdir.mono ?_))
 rintro r h' ⟨cap,cs,rfl,hcm,hrc,hkl,rfl⟩
 refine ⟨_,by simp;rfl,?_⟩
 refine yw9 (by simp;rfl) ?_
 refine yr9 [1,2,9,10] (by simp;rfl) ?_
 refine yr9 [1,2,9,10,11] (by simp;rfl) ?_
 refine xp7 11 (sz:=3) (xs:=[]) (o:=.nil) rfl ?_
 have hst:=rt_store (d:=d) (rs:=rs) hN (by omega) hms (fun m hm'=>by
  rw [List.all_eq_true] at hall
  exact hall m hm') (fun m hm'=>(hm m hm').2) hrc hkl hcm
 unfold zh9 at hst
 exact hst
end Go.AM
namespace Go.AM
open Go.RowKit Go.Proofs
set_option linter.unusedSimpArgs false
set_option linter.unusedVariables false
set_option maxHeartbeats 2000000
structure StOk (N:Nat) (u:List (List Rec)) (l:List RE):Prop where
 uv:∀ t∈u,vtrk t=true
 uo:dirT u=[]
 ord:ordE l=true
 l8:∀ x∈l,x.key.length=8∧N≤x.trk∧x.trk < N+u.length∧1≤x.rn∧x.rn < 256
theorem ordP {l:List RE} (h:ordE l=true):l.Pairwise ltE:=(ud8.1 h).2
theorem StOk.step {N : Nat} {u : List (List Rec)} {l : List RE} (h : StOk N u l) {d : Dcb} {m : ME} (hs : symM m.name = true) (hb : (zg9 d m.recs).2 = 0) :
  StOk N (wrE 0 u (zg9 d m.recs).1).1 (insE l ⟨padK m.name,N+(wrE 0 u (zg9 d m.recs).1).2.1,(wrE 0 u (zg9 d m.recs).1).2.2.toNat⟩):=by
 have hbl:=yc7 (d:=d) (l:=m.recs) (bs:=(zg9 d m.recs).1) (by rw [← hb])
 have hwp:=wl8 0 u (zg9 d m.recs).1 (by omega)
 obtain ⟨_,hwx⟩:=wrE_ext 0 u (zg9 d m.recs).1
 have hge:=hwx.len
 have hx8:(padK m.name).length=8:=um9 (vp9 hs).2.2
 refine ⟨yn7 0 h.uv fun b hb'=>(hbl.2.2.2 b hb').2,wrE_open h.uo,ord_ins h.ord (by show symM (nmM (padK m.name))=true;rw [jg8 hs];exact hs),fun x hx=>?_⟩
 rcases (mem_ins (ordP h.ord) _ x).1 hx with rfl | ⟨hx,_⟩
 ·exact ⟨hx8,by show N≤N+_;omega,by show N+_ < _;omega,by show 1≤Int.toNat _;omega,by show Int.toNat _ < _;omega⟩
 ·have:=h.l8 x hx;exact ⟨this.1,this.2.1,by omega,this.2.2.2⟩
theorem stM_ok {d : Dcb} {N : Nat} : ∀ (ms : List ME) (u : List (List Rec)) (l : List RE) {u' : List (List Rec)} {l' : List RE}, StOk N u l → (∀ m ∈ ms, symM m.name = true) → stM d N ms u l = .ok (u', l') → StOk N u' l'
 | [],u,l,u',l',h,_,he=>by
  rw [stM] at he
  cases he
  exact h
 | m :: ms,u,l,u',l',h,hs,he=>by
  rw [stM] at he
  split at he
  ·rename_i hb
   exact stM_ok ms _ _ (h.step (hs m List.mem_cons_self) hb) (fun x hx=>hs x (List.mem_cons_of_mem _ hx)) he
  ·cases he
theorem stM_err {d : Dcb} {N : Nat} : ∀ (ms : List ME) (u : List (List Rec)) (l : List RE) {e : Int}, stM d N ms u l = .error e → e ≠ 0
 | [],u,l,e,he=>by rw [stM] at he;cases he
 | m :: ms,u,l,e,he=>by
  rw [stM] at he
  split at he
  ·exact stM_err ms _ _ he
  ·rename_i hb
   cases he
   exact hb
theorem StOk.nil (N:Nat):StOk N [] []:=⟨by simp,rfl,rfl,by simp⟩
theorem ptrM_ok {d : Dcb} {ms : List ME} {dir : Int} {t : List (List Rec)} (h : ptrM d ms dir = (t, 0)) : ∃ (n : Nat) (u : List (List Rec)) (l : List RE), dir = n ∧ 1 ≤ n ∧ n ≤ 64 ∧ wp7 d = true ∧ (∀ m ∈ ms, symM m.name = true) ∧ (ms.map (·.name)).Nodup ∧ ms.length ≤ 21 * n ∧
  stM d ((n+5) / 6) ms [] []=.ok (u,l)∧StOk ((n+5) / 6) u l∧(n+5) / 6+u.length≤512∧t=layG l n++u:=by
 unfold ptrM at h
 split at h
 ·cases h
 ·rename_i c1
  split at h
  ·cases h
  ·rename_i c2
   split at h
   ·cases h
   ·rename_i c3
    split at h
    ·cases h
    ·rename_i c4
     split at h
     ·cases h
     ·rename_i c5
      obtain ⟨n,rfl⟩:∃ n:Nat,dir=(n:Int):=⟨dir.toNat,by omega⟩
      rw [show ((n:Nat):Int).toNat=n by simp] at h
      have hs:∀ m∈ms,symM m.name=true:=fun m hm=>by
       have:ms.all (fun m=>symM m.name)=true:=by simpa using c3
       exact List.all_eq_true.1 this m hm
      have hKl:=qm7 (ms.map (·.name))
      have hKf:=xt6 (ms.map (·.name))
      rw [List.length_map] at hKl hKf
      have hnd:=hKf.1 (by omega)
      cases hst:stM d ((n+5) / 6) ms [] [] with
      | error e =>
       rw [hst] at h
       have h':(([]:List (List Rec)),e)=(t,0):=h
       have he:=stM_err ms [] [] hst
       exact absurd (congrArg Prod.snd h') he
      | ok p =>
       obtain ⟨u,l⟩:=p
       rw [hst] at h
       have hok:=stM_ok ms [] [] (StOk.nil _) hs hst
       have h':(if 512 < (n+5) / 6+u.length then (([]:List (List Rec)),(200:Int)) else (layG l n++u,0))=(t,0):=h
       split at h'
       ·cases h'
       ·rename_i c6
        cases h'
        exact ⟨n,u,l,rfl,by omega,by omega,by simpa using c2,hs,hnd,by omega,hst,hok,by omega,rfl⟩
theorem ptrM_nil {d:Dcb} {ms:List ME} {dir:Int} (h:(ptrM d ms dir).2≠0):(ptrM d ms dir).1=[]:=by
 unfold ptrM at h ⊢
 repeat' (split;rfl)
 rename_i c1 c2 c3 c4 c5
 rw [if_neg c1,if_neg c2,if_neg c3,if_neg c4,if_neg c5] at h
 cases hst:stM d ((dir.toNat+5) / 6) ms [] [] with
 | error e=>rfl
 | ok p =>
  obtain ⟨u,l⟩:=p
  rw [hst] at h
  have h':(if 512 < (dir.toNat+5) / 6+u.length then (([]:List (List Rec)),(200:Int)) else (layG l dir.toNat++u,0)).2≠0:=h
  show (if 512 < (dir.toNat+5) / 6+u.length then (([]:List (List Rec)),(200:Int)) else (layG l dir.toNat++u,0)).1=[]
  split at h'
  ·rename_i c6;rw [if_pos c6]
  ·exact absurd rfl h'
theorem ptrM_bd (d:Dcb) (ms:List ME) (dir:Int):(ptrM d ms dir).1.length≤512∧∀ t∈(ptrM d ms dir).1,vtrk t=true:=by
 by_cases h:(ptrM d ms dir).2=0
 ·obtain ⟨n,u,l,_,_,_,_,_,_,_,_,hok,hl,ht⟩:=ptrM_ok (t:=(ptrM d ms dir).1) (by rw [← h])
  rw [ht]
  refine ⟨by rw [List.length_append,vh9];exact hl,fun t hm=>?_⟩
  rcases List.mem_append.1 hm with hm | hm
  ·exact lay_valid (fun e he=>(hok.l8 e he).1) n t hm
  ·exact hok.uv t hm
 ·rw [ptrM_nil h];simp
end Go.AM
namespace Go.AM
open Go.RowKit Go.Proofs
set_option linter.unusedSimpArgs false
set_option linter.unusedVariables false
set_option maxHeartbeats 8000000
set_option maxRecDepth 20000
def mg : List Rec → List (List UInt8) → Nat × List (List UInt8)
 | [],o=>(0,o)
 | r :: l,o=>if r.bad=true∨r.key≠[] then (2,o) else if r.data=[] then (1,o) else mg l (o++[r.data])
theorem mg_seq : ∀ (l : List Rec) (o : List (List UInt8)), (seqL l).map (o ++ ·) = if (mg l o).1 = 1 then some (mg l o).2 else none
 | [],o=>by simp [seqL,mg]
 | r :: l,o=>by
  rw [seqL,mg]
  by_cases h1:r.bad=true∨r.key≠[]
  ·rw [if_pos h1,if_pos h1];simp
  ·rw [if_neg h1, if_neg h1]
   by_cases h2:r.data=[]
   ·rw [if_pos h2,if_pos h2];simp
   ·rw [if_neg h2,if_neg h2,← mg_seq l (o++[r.data])]
    cases seqL l <;> simp
def qv8 (t:List (List Rec)) (p:Nat) (n:Int):List Rec:=if p < t.length then (match kf9 (t.getD p []) n with | none=>[] | some k=>fromE t p k) else []
theorem seqE_rest (t:List (List Rec)) (p:Nat) (n:Int):seqE t p n=if (mg (qv8 t p n) []).1=1 then some (mg (qv8 t p n) []).2 else none:=by
 have h:=mg_seq (qv8 t p n) []
 have e:(seqL (qv8 t p n)).map (([]:List (List UInt8))++·)=seqL (qv8 t p n):=by cases seqL (qv8 t p n) <;> simp
 rw [e] at h
 rw [← h]
 unfold seqE qv8
 split
 ·split <;> simp_all [seqL]
 ·rfl
def memM (d:Dcb) (t:List (List Rec)) (p n:Nat):List (List UInt8) × Int:=match seqE t p n with | some bs=>unbM d bs | none=>([],5)
theorem rest_len (t:List (List Rec)) (p:Nat) (n:Int):(qv8 t p n).length≤t.flatten.length:=by
 unfold qv8
 split
 ·rename_i hp
  split
  ·simp
  ·rename_i k hk
   have hk2:=findT_lt hk
   rw [from_flat hp (by omega),List.length_drop]
   omega
 ·simp
theorem recs24_callW (t:List (List Rec)) (p n:Nat) (h:List AObj) (hh:yn9 (h.length+2) h=true):ww9 Tryz.prog 70 [.lst .any 1 (arL t),.agg [.v (.int .i64 (p:Nat)),.v (.int .i64 (n:Nat))]] h fun r h'=>r=.fn (.func 107) [] [.loc (h.length+1) 0,.loc h.length 0]∧h'=h++[.cells 24 [.lst .any 1 (arL t)],.cells 55 [.v (.int .i64 (p:Nat)),.v (.int .i64 (n:Nat))]]:=by
 refine zd9 Tryz.func70 rfl (by decide +kernel) (by simp [Tryz.f70]) (rs:=[.tmp 4]) rfl ?_
 rw [show Tryz.f70.ntmps=6 from rfl]
 refine yr9 [2,3] (by simp;rfl) ?_
 refine yr9 [4] (by simp;rfl) ?_
 refine yj9 ?_
 repeat (first | refine yp9 ?_ | refine ys9 ?_)
 refine ⟨.inr rfl,.fn (.func 107) [] [.loc (h.length+1) 0,.loc h.length 0],.fn (.func 107) [] [.loc (h.length+1) 0,.loc h.length 0],h++[.cells 24 [.lst .any 1 (arL t)],.cells 55 [.v (.int .i64 (p:Nat)),.v (.int .i64 (n:Nat))]],h.length+2,by simp,.inl ⟨rfl,by simp⟩,by omega,by simp,by simp [AV.under,AV.underL],?_,rfl,?_⟩
 ·rw [List.take_of_length_le (by simp),zm9,hh]
  simp [yn9,zk9,AObj.under,AV.under,AV.underL]
 ·rw [List.take_of_length_le (by simp)]
def outM (x:AV) (O:List (List UInt8)):Prop:=(O=[]∧x=.lst .nil 1 [])∨x=.lst (.tip 90 71) 1 (bbL O)
theorem zk6 {x:AV} {O:List (List UInt8)} (h:outM x O) (m:Nat):x.under m=true:=by
 rcases h with ⟨_,rfl⟩ | rfl <;> simp [AV.under,AV.underL]
noncomputable abbrev mbL (s:LSt):AObj:=.loop 36 [(3,.loc 0 0),(6,.loc 2 0),(7,.loc 3 0),(8,.loc 4 0),(12,.fn (.func 107) [] [.loc 6 0,.loc 5 0])] [13] (rfA Tryz.f32) (rfB Tryz.f32) s
abbrev mbH (d:Dcb) (t:List (List Rec)) (p n:Nat) (rA:AV) (rE:Int) (x:AV) (X:List AObj):List AObj :=
 [.cells 23 (dcbC d),.cells 55 [.v (.int .i64 (p:Nat)),.v (.int .i64 (n:Nat))],.cells 25 [rA],.cells 30 [.v (.int .i64 rE)],.cells 25 [x],.cells 24 [.lst .any 1 (arL t)],.cells 55 [.v (.int .i64 (p:Nat)),.v (.int .i64 (n:Nat))]]++X
end Go.AM
namespace Go.AM
open Go.RowKit Go.Proofs
set_option linter.unusedSimpArgs false
set_option linter.unusedVariables false
set_option maxHeartbeats 8000000
set_option maxRecDepth 20000
def mbQ (d:Dcb) (t:List (List Rec)) (p n:Nat) (h':List AObj):Prop :=
 ∃ o x st rA rE, outM x o ∧ mg (qv8 t p n) [] = (st, o) ∧ st < 3 ∧ (st = 1 → rA = .lst (.tip 90 57) 1 (bbL (unbM d o).1) ∧ rE = (unbM d o).2) ∧ (st ≠ 1 → rA = .lst .nil 1 [] ∧ rE = 0) ∧
  h'=mbH d t p n rA rE x [mbL (if st=0 then .ready else if st=1 then .done .ret else .done (.exit 0))]
theorem mb_in (d : Dcb) (t : List (List Rec)) (p n : Nat) (hl : t.length ≤ 100000000) (ht : ∀ l ∈ t, l.length ≤ 100000000) (hf : t.flatten.length ≤ 1800000) (hd : ∀ l ∈ t, ∀ r ∈ l, r.data.length ≤ 1000000000) (hp : p ≤ 1000000000) :
  ww9 Tryz.prog 107 [.yld 7,.loc 6 0,.loc 5 0] (mbH d t p n (.lst .nil 1 []) 0 (.lst .nil 1 []) [mbL .ready]) fun _ h'=>mbQ d t p n h':=by
 refine zd9 Tryz.func107 rfl (by decide +kernel) (by simp [Tryz.f107]) (rs:=[]) rfl ?_
 rw [show Tryz.f107.ntmps=52 from rfl]
 have done : ∀ (e : Exit) (fr : List (Nat × AV)) (X : List AObj) (o : List (List UInt8)) (x : AV) (st : Nat) (rA : AV) (rE : Int), (e = .normal ∨ e = .ret) → outM x o → mg (qv8 t p n) [] = (st, o) → st < 3 → (st = 1 → rA = .lst (.tip 90 57) 1 (bbL (unbM d o).1) ∧ rE = (unbM d o).2) → (st ≠ 1 → rA = .lst .nil 1 [] ∧ rE = 0) →
   retW Tryz.prog [] 8 (fun _ h'=>mbQ d t p n h') e ⟨52,fr,mbH d t p n rA rE x ([mbL (if st=0 then .ready else if st=1 then .done .ret else .done (.exit 0))]++X)⟩:=by
  intro e fr X o x st rA rE he hx hm h3 h1 h2
  have hrA:rA.under 8=true:=by
   by_cases hst:st=1
   ·rw [(h1 hst).1];simp [AV.under,AV.underL]
   ·rw [(h2 hst).1];simp [AV.under,AV.underL]
  refine ⟨he,.tup [],.tup [],_,8,rfl,.inl ⟨rfl,rfl⟩,by simp,by simp,rfl,?_,?_⟩
  ·simp [yn9,zk9,AObj.under,AV.under,AV.underL,zk6 hx,hrA,dcbC]
  ·exact ⟨o,x,st,rA,rE,hx,hm,h3,h1,h2,by simp⟩
 refine yh9 ?_
 by_cases cp:p < t.length
 ·have cpi : ¬ (t.length : Int) ≤ p := by omega
  have cpn:¬ t.length≤p:=by omega
  have cpi2:(p:Int) < t.length:=by omega
  obtain ⟨l,hlp⟩:∃ l,t[p]?=some l:=⟨_,List.getElem?_eq_getElem cp⟩
  have hlp2:t[p]'cp=l:=(List.getElem?_eq_some_iff.1 hlp).2
  have hgd:t.getD p []=l:=by rw [List.getD_eq_getElem?_getD,hlp];rfl
  have hfind:=tfind_sound l (n:Int) (ht l (List.mem_of_getElem? hlp))
  have hR:qv8 t p n=match kf9 l n with | none=>[] | some k=>fromE t p k:=by unfold qv8;rw [if_pos cp,hgd];try (cases kf9 l (n:Int) <;> rfl)
  refine yr9 [0,1,2,13] (by simp [mbH,cpi,cpn];rfl) ?_
  refine yt9 (t:=false) (by simp [cpi,cpn]) (fun h=>by simp at h) (fun h=>?_)
  refine ym9 [0,1,2] ?_
  refine yg9 ?_
  repeat (first | refine on_norm ?_ | refine in_norm ?_)
  refine wk9 [0,1,2,4,5] mx (by decide +kernel) ?_
  refine yd9 4 (by simp [mbH,zf9,cp,cpi2];rfl) rfl ?_
  refine yd9 3 (by simp [cp,cpi2,hlp2];rfl) rfl ?_
  refine yv9 (by simp) (by first | (simp;done) | (simp;rfl)) hfind (by simp;rfl) ?_
  refine yb9 (by simp;rfl) ?_
  refine yr9 [0,2,4,5,6] (by simp [mbH];rfl) ?_
  refine yl9 ?_
  obtain ⟨R,hRe⟩:∃ R,qv8 t p n=R:=⟨_,rfl⟩
  have hRl:=rest_len t p n
  rw [hRe] at done hR hRl
  refine zj9 (fun q s => ∃ (k i : Nat) (o : List (List UInt8)) (x : AV), q = t.length - k ∧ k ≤ t.length ∧ (k < t.length → i ≤ (t.getD k []).length) ∧ mg R [] = mg (if (kf9 l n).isSome then (t.getD k []).drop i ++ (t.drop (k + 1)).flatten else []) o ∧ outM x o ∧ (∀ b ∈ o, b.length ≤ 1000000000) ∧
   o.length+(if (kf9 l n).isSome then (t.getD k []).drop i++(t.drop (k+1)).flatten else []).length≤1800000 ∧
   s=⟨52,[(0,.yld 7),(2,.loc 5 0),(4,.v (.int .i64 (i:Nat))),(5,.v (.bool (kf9 l n).isSome)),(6,.v (.int .i64 (k:Nat)))],mbH d t p n (.lst .nil 1 []) 0 x [mbL .ready]⟩) (k:=t.length - p) ⟨p,(kf9 l n).getD 0,[],_,rfl,by omega,?_,?_,.inl ⟨rfl,rfl⟩,by simp,?_,by simp [mbH]⟩ ?_
  ·intro _
   cases hfd:kf9 l n with
   | none=>simp
   | some k=>rw [hgd];have:=findT_lt hfd;simp;omega
  ·cases hfd:kf9 l n with
   | none=>rw [hfd] at hR;rw [hR];simp
   | some k=>rw [hfd] at hR;rw [hR];simp [fromE]
  ·cases hfd:kf9 l n with
   | none=>simp
   | some k =>
    rw [hfd] at hR
    have:R.length=((t.getD p []).drop k++(t.drop (p+1)).flatten).length:=by rw [hR];rfl
    simp only [Option.isSome_some,if_true,Option.getD_some,List.length_nil]
    omega
  rintro q s ⟨k,i,o,x,rfl,hk,hik,hmg,hx,hob,hol,rfl⟩
  have wk:=w64 (n:=(k:Int)+1) (by omega) (by omega)
  refine yh9 ?_
  cases hfd:(kf9 l n).isSome with
  | false =>
   rw [hfd] at hmg
   refine yr9 [0,2,4,5,6,33] (by simp [mbH];rfl) ?_
   refine yt9 (t:=false) (by simp) (fun h=>by simp at h) (fun h=>?_)
   refine zs9 ?_
   exact done _ _ [] o x 0 _ _ (.inl rfl) hx (by rw [hmg];rfl) (by omega) (by simp) (by simp)
  | true =>
  rw [hfd] at hmg hol
  simp only [if_true] at hmg hol
  by_cases ck:k < t.length
  ·have cki : (k : Int) < t.length := by omega
   obtain ⟨m,hm⟩:∃ m,t[k]?=some m:=⟨_,List.getElem?_eq_getElem ck⟩
   have hm2:t[k]'ck=m:=(List.getElem?_eq_some_iff.1 hm).2
   have hgm:t.getD k []=m:=by rw [List.getD_eq_getElem?_getD,hm];rfl
   have hmm:=List.mem_of_getElem? hm
   have hml:=ht m hmm
   rw [hgm] at hmg hol
   have hik2:=hik ck
   rw [hgm] at hik2
   have hik3:(i:Int)≤m.length:=by omega
   refine yr9 [0,2,4,5,6,33] (by simp [mbH,ck,cki];rfl) ?_
   refine yt9 (t:=true) (by simp [ck,cki]) (fun h=>?_) (fun h=>by simp at h)
   refine ym9 [0,2,4,5,6] ?_
   refine yg9 ?_
   repeat (first | refine on_norm ?_ | refine in_norm ?_)
   refine yh9 ?_
   refine yl9 ?_
   refine yh9 ?_
   have hdl:(trL m).drop i=trL (m.drop i):=(trL_drop m i).symm
   obtain ⟨L,hL⟩:∃ L,m.drop i=L:=⟨_,rfl⟩
   have hLl:L.length=m.length - i:=by rw [← hL,List.length_drop]
   have hLm:∀ r∈L,r∈m:=fun r hr=>by rw [← hL] at hr;exact List.mem_of_mem_drop hr
   rw [hL] at hdl hmg hol
   refine yr9 [0,2,5,6,41,42,43] (by simp [mbH,zf9,ck,cki,hm2,hik2,hik3,hdl];rfl) ?_
   refine yl9 ?_
   obtain ⟨rest,hrest⟩:∃ rest,(t.drop (k+1)).flatten=rest:=⟨_,rfl⟩
   rw [hrest] at hmg hol
   refine zj9 (fun q s => ∃ (j : Nat) (o : List (List UInt8)) (x : AV), q = L.length - j ∧ j ≤ L.length ∧ mg R [] = mg (L.drop j ++ rest) o ∧ outM x o ∧ (∀ b ∈ o, b.length ≤ 1000000000) ∧ o.length + (L.drop j ++ rest).length ≤ 1800000 ∧
    s=⟨52,[(0,.yld 7),(2,.loc 5 0),(5,.v (.bool true)),(6,.v (.int .i64 (k:Nat))),(41,.lst .any 4 (trL L)),(42,.v (.int .i64 (L.length:Nat))),(43,.v (.int .i64 (j:Nat)))],mbH d t p n (.lst .nil 1 []) 0 x [mbL .ready]⟩) (k:=L.length) ⟨0,o,x,rfl,by omega,by rw [List.drop_zero];exact hmg,hx,hob,by rw [List.drop_zero];exact hol,by simp [mbH]⟩ ?_
   rintro q s ⟨j,o',x',rfl,hj,hmg',hx',hob',hol',rfl⟩
   by_cases cj:j < L.length
   ·have cji : (j : Int) < L.length := by omega
    obtain ⟨r,hr⟩:∃ r,L[j]?=some r:=⟨_,List.getElem?_eq_getElem cj⟩
    have hr2:L[j]'cj=r:=(List.getElem?_eq_some_iff.1 hr).2
    have hrd:=hd m hmm r (hLm r (List.mem_of_getElem? hr))
    have wj:=w64 (n:=(j:Int)+1) (by omega) (by omega)
    have hdj:L.drop j=r :: L.drop (j+1):=by rw [List.drop_eq_getElem_cons cj,hr2]
    rw [hdj,List.cons_append,mg] at hmg'
    rw [hdj,List.cons_append,List.length_cons] at hol'
    refine yr9 [0,2,5,6,41,42,43,44] (by simp [cj,cji];rfl) ?_
    refine yh9 ?_
    refine yt9 (t:=true) (by simp [cj,cji]) (fun h=>?_) (fun h=>by simp at h)
    refine ym9 [0,2,5,6,41,42,43] ?_
    refine yg9 ?_
    repeat (first | refine on_norm ?_ | refine in_norm ?_)
    refine yh9 ?_
    refine yl9 ?_
    refine yr9 [0,2,5,6,41,42,43,8] (by simp [zf9,cj,cji,hr2,yk9];rfl) ?_
    refine W_rK [0,2,5,6,41,42,43,50] ?_
    refine yq9 2 (by simp;rfl) rfl ?_
    refine runA_y (by simp) ?_
    unfold wg7
    dsimp only
    refine ⟨7,36,_,_,_,_,[recA r],by simp,rfl,by simp,by simp,by simp,by simp,?_⟩
    refine (show Wt _ _ _ _ _ _ from ?_)
    refine zr9 [3,6,7,8,9] (by simp [setF,yk9];rfl) ?_
    refine ⟨rfl,_,_,_,_,_,rfl,?_⟩
    refine yl9 ?_
    refine yh9 ?_
    have hxu:=fun m=>zk6 hx' m
    obtain ⟨BD,hBD⟩:∃ BD,decide (r.bad=true∨r.key≠[])=BD:=⟨_,rfl⟩
    refine vs9 (fun s=>s=⟨36,[(3,.loc 0 0),(6,.loc 2 0),(7,.loc 3 0),(8,.loc 4 0),(9,.loc 9 0),(21,.v (.bool BD))],mbH d t p n (.lst .nil 1 []) 0 x' [mbL .busy,.cells 100 (recC r),.cells 100 (recC r)]⟩) ?_ ?_
    ·by_cases e1 : r.bad = true
     ·have hk:BD=true:=by rw [← hBD];simp [e1]
      refine zr9 [3,6,7,8,9,21] (by simp [e1];rfl) ?_
      refine (show _=_ from ?_)
      rw [hk]
      simp [mbH,recC,e1]
     ·have e1' : r.bad = false := by simpa using e1
      by_cases e2:r.key=[]
      ·have hk:BD=false:=by rw [← hBD];simp [e1',e2]
       refine zr9 [3,6,7,8,9,21] (by simp [e1',e2];rfl) ?_
       refine (show _=_ from ?_)
       rw [hk]
       simp [mbH,recC,e1',e2]
      ·have e2':0 < r.key.length:=List.length_pos_iff.2 e2
       have hk:BD=true:=by rw [← hBD];simp [e2]
       refine zr9 [3,6,7,8,9,21] (by simp [e1',e2'];rfl) ?_
       refine (show _=_ from ?_)
       rw [hk]
       simp [mbH,recC,e1']
    rintro _ rfl
    by_cases e4:r.bad=true∨r.key≠[]
    ·rw [if_pos e4] at hmg'
     have hk:BD=true:=by rw [← hBD];exact decide_eq_true e4
     rw [hk]
     refine yt9 rfl (fun h=>?_) (fun h=>by simp at h)
     refine zs9 ?_
     refine ⟨36,_,_,_,_,.done (.exit 0),false,9,rfl,rfl,by simp,by simp,?_,?_⟩
     ·simp [mbH,yn9,zk9,AObj.under,AV.under,AV.underL,hxu,recC,dcbC]
     refine ⟨_,by simp;rfl,?_⟩
     refine yw9 (by simp;rfl) ?_
     refine yt9 rfl (fun h=>?_) (fun h=>by simp at h)
     refine yj9 ?_
     repeat (first | refine yp9 ?_ | refine ys9 ?_)
     exact done _ _ [_] o' x' 2 _ _ (.inr rfl) hx' hmg' (by omega) (by simp) (by simp)
    ·rw [if_neg e4] at hmg'
     have hk:BD=false:=by rw [← hBD];exact decide_eq_false e4
     rw [hk]
     refine yt9 rfl (fun h=>by simp at h) (fun h=>?_)
     refine ym9 [3,6,7,8,9] ?_
     refine yg9 ?_
     repeat (first | refine on_norm ?_ | refine in_norm ?_)
     refine yh9 ?_
     by_cases e5:r.data=[]
     ·rw [if_pos e5] at hmg'
      have hub:=unb_sound d o' (by omega) hob'
      refine yh9 ?_
      refine zr9 [3,6,7,8,25] (by simp [mbH,zf9,recC,e5];rfl) ?_
      refine yt9 rfl (fun h=>?_) (fun h=>by simp at h)
      simp only [dcbA] at hub
      obtain ⟨U,hU⟩:∃ U,unbM d o'=U:=⟨_,rfl⟩
      rw [hU] at hub
      unfold resB at hub
      rcases hx' with ⟨h0,rfl⟩ | rfl
      all_goals
       refine W_rK [] ?_
       refine yq9 2 (by simp [dcbC];rfl) rfl ?_
       refine yf9 (by simp) (by first | (simp;done) | (simp [h0];rfl) | (simp;rfl)) hub (by simp;rfl) ?_
       refine yw9 (by simp [yk9];rfl) ?_
       refine yj9 ?_
       repeat (first | refine yp9 ?_ | refine ys9 ?_)
       refine ⟨36,_,_,_,_,.done .ret,false,9,rfl,rfl,by simp,by simp,?_,?_⟩
       ·simp [mbH,yn9,zk9,AObj.under,AV.under,AV.underL,recC,dcbC]
       refine ⟨_,by simp;rfl,?_⟩
       refine yw9 (by simp;rfl) ?_
       refine yt9 rfl (fun h=>?_) (fun h=>by simp at h)
       refine yj9 ?_
       repeat (first | refine yp9 ?_ | refine ys9 ?_)
       exact done _ _ [_] o' _ 1 (.lst (.tip 90 57) 1 (bbL U.1)) U.2 (.inr rfl) (by first | exact .inl ⟨h0,rfl⟩ | exact .inr rfl) hmg' (by omega) (fun _=>by rw [hU];exact ⟨rfl,rfl⟩) (by simp)
     ·rw [if_neg e5] at hmg'
      have e5':(r.data.length == 0)=false:=by simpa using e5
      have e5i:((r.data.length:Int) == 0)=false:=by
       have:=List.length_pos_iff.2 e5
       simp;omega
      refine yh9 ?_
      refine zr9 [3,6,7,8,9,25] (by simp [mbH,zf9,recC,e5i];rfl) ?_
      refine yt9 (t:=false) rfl (fun h=>by simp at h) (fun h=>?_)
      refine ym9 [3,6,7,8,9] ?_
      refine yg9 ?_
      repeat (first | refine on_norm ?_ | refine in_norm ?_)
      have bo:(o'.length+1) * 24≤140737488355328:=by omega
      have bo':24 * (o'.length+1)≤140737488355328:=by omega
      have hsn:bbL o'++[AV.lst .any 1 (byL r.data)]=bbL (o'++[r.data]):=by rw [uv9];rfl
      have hobn:∀ b∈o'++[r.data],b.length≤1000000000:=fun b hb=>by
       rcases List.mem_append.1 hb with hb | hb
       ·exact hob' b hb
       ·rw [List.mem_singleton.1 hb];exact hrd
      rcases hx' with ⟨h0,rfl⟩ | rfl
      ·subst h0
       refine zr9 [3] (by simp [mbH,zf9,recC,yk9,catK,AV.cellsK,AV.kone,AV.koneL];rfl) ?_
       refine ⟨36,_,_,_,_,.ready,true,9,rfl,rfl,by simp,by simp,?_,?_⟩
       ·simp [yn9,zk9,AObj.under,AV.under,AV.underL,dcbC]
       refine ⟨_,by simp;rfl,?_⟩
       refine yw9 (by simp;rfl) ?_
       refine yt9 rfl (fun h=>by simp at h) (fun h=>?_)
       refine ym9 [0,2,5,6,41,42,43] ?_
       refine vd9 8 (by simp) (by simp) (by simp [zf9,uh9,zk9,AV.under,AV.underL]) (by simp [zf9,yn9,zk9,AObj.under,AV.under,AV.underL,dcbC]) ?_
       refine yg9 ?_
       repeat (first | refine on_norm ?_ | refine in_norm ?_)
       refine zr9 [0,2,5,6,41,42,43] (by simp [zf9,wj];rfl) ?_
       refine ⟨_,by omega,j+1,[r.data],_,rfl,by omega,hmg',.inr rfl,hobn,by simp at hol' ⊢;omega,?_⟩
       simp [mbH,wh9]
      ·refine zr9 [3] (by simp [mbH,zf9,recC,yk9,catK,AV.cellsK,AV.kone,AV.koneL,bo,bo',hsn];rfl) ?_
       refine ⟨36,_,_,_,_,.ready,true,9,rfl,rfl,by simp,by simp,?_,?_⟩
       ·simp [yn9,zk9,AObj.under,AV.under,AV.underL,dcbC]
       refine ⟨_,by simp;rfl,?_⟩
       refine yw9 (by simp;rfl) ?_
       refine yt9 rfl (fun h=>by simp at h) (fun h=>?_)
       refine ym9 [0,2,5,6,41,42,43] ?_
       refine vd9 8 (by simp) (by simp) (by simp [zf9,uh9,zk9,AV.under,AV.underL]) (by simp [zf9,yn9,zk9,AObj.under,AV.under,AV.underL,dcbC]) ?_
       refine yg9 ?_
       repeat (first | refine on_norm ?_ | refine in_norm ?_)
       refine zr9 [0,2,5,6,41,42,43] (by simp [zf9,wj];rfl) ?_
       refine ⟨_,by omega,j+1,o'++[r.data],_,rfl,by omega,hmg',.inr rfl,hobn,by simp at hol' ⊢;omega,?_⟩
       simp [mbH,dcbC,AV.killL,AV.kill]
   ·have hje : j = L.length := by omega
    subst hje
    rw [List.drop_length,List.nil_append] at hmg' hol'
    have hnx:rest=(t.getD (k+1) []).drop 0++(t.drop (k+1+1)).flatten:=by
     rw [← hrest,List.drop_zero]
     rcases Nat.lt_or_ge (k+1) t.length with h | h
     ·rw [List.drop_eq_getElem_cons h,List.flatten_cons,List.getD_eq_getElem?_getD,List.getElem?_eq_getElem h];rfl
     ·rw [List.drop_eq_nil_of_le h,List.drop_eq_nil_of_le (by omega),List.getD_eq_getElem?_getD,List.getElem?_eq_none h];rfl
    refine yr9 [0,2,5,6,44] (by simp;rfl) ?_
    refine yh9 ?_
    refine yt9 (t:=false) (by simp) (fun h=>by simp at h) (fun h=>?_)
    refine ym9 [0,2,5,6] ?_
    refine zs9 ?_
    refine zr9 [0,2,5,6,4] (by simp [zf9];rfl) ?_
    repeat (first | refine on_norm ?_ | refine in_norm ?_)
    refine W_perm (fr':=[(0,.yld 7),(2,.loc 5 0),(4,.v (.int .i64 (0:Nat))),(5,.v (.bool true)),(6,.v (.int .i64 (k:Nat)))]) (fun i=>?_) ?_
    ·by_cases h0:i=0
     ·subst h0;rfl
     by_cases h2:i=2
     ·subst h2;rfl
     by_cases h4:i=4
     ·subst h4;rfl
     by_cases h5:i=5
     ·subst h5;rfl
     by_cases h6:i=6
     ·subst h6;rfl
     simp [getF,h0,h2,h4,h5,h6,eq_comm]
    refine zr9 [0,2,4,5,6] (by simp [wk];rfl) ?_
    refine ⟨_,by omega,k+1,0,o',x',rfl,by omega,by simp,?_,hx',hob',?_,?_⟩
    rotate_left 2
    ·simp [mbH]
    ·rw [if_pos rfl,← hnx];exact hmg'
    ·rw [if_pos rfl,← hnx];exact hol'
  ·have cki:¬ (k:Int) < t.length:=by omega
   have hke:k=t.length:=by omega
   refine yr9 [0,2,4,5,6,33] (by simp [mbH,ck,cki];rfl) ?_
   refine yt9 (t:=false) (by simp [ck,cki]) (fun h=>by simp at h) (fun h=>?_)
   refine zs9 ?_
   refine done _ _ [] o x 0 _ _ (.inl rfl) hx ?_ (by omega) (by simp) (by simp)
   have e1:t.getD k []=[]:=by rw [List.getD_eq_getElem?_getD,List.getElem?_eq_none (by omega)];rfl
   have e2:t.drop (k+1)=[]:=List.drop_eq_nil_of_le (by omega)
   rw [hmg,e1,e2]
   simp [mg]
 ·have cpi:(t.length:Int)≤p:=by omega
  have cpn:t.length≤p:=by omega
  refine yr9 [0,1,2,13] (by simp [mbH,cpi,cpn];rfl) ?_
  refine yt9 (t:=true) (by simp [cpi,cpn]) (fun h=>?_) (fun h=>by simp at h)
  refine yj9 ?_
  repeat (first | refine yp9 ?_ | refine ys9 ?_)
  refine done _ _ [] [] _ 0 _ _ (.inr rfl) (.inl ⟨rfl,rfl⟩) ?_ (by omega) (by simp) (by simp)
  unfold qv8
  rw [if_neg cp]
  rfl
end Go.AM
namespace Go.AM
open Go.RowKit Go.Proofs
set_option linter.unusedSimpArgs false
set_option linter.unusedVariables false
set_option maxHeartbeats 8000000
set_option maxRecDepth 20000
theorem member_sound (d : Dcb) (t : List (List Rec)) (p n : Nat) (hl : t.length ≤ 100000000) (ht : ∀ l ∈ t, l.length ≤ 100000000) (hf : t.flatten.length ≤ 1800000) (hd : ∀ l ∈ t, ∀ r ∈ l, r.data.length ≤ 1000000000) (hp : p ≤ 1000000000) :
  Sound Tryz.prog 32 [dcbA d,.lst .any 1 (arL t),.agg [.v (.int .i64 (p:Nat)),.v (.int .i64 (n:Nat))]] (resB (memM d t p n)):=by
 refine xw9 Tryz.func32 rfl (by decide +kernel) (by simp [Tryz.f32]) (by simp [AV.rfL,AV.rf]) (by simp [AV.tlL,AV.tl]) (rs:=[.cell 6 25,.cell 7 30]) rfl ?_
 rw [show Tryz.f32.ntmps=36 from rfl]
 have hin:=mb_in d t p n hl ht hf hd hp
 refine yr9 [1,3,5,6,7] (by simp;rfl) ?_
 refine yr9 [1,3,5,6,7,8] (by simp;rfl) ?_
 refine yh9 ?_
 refine W_rK [3,6,7,8,12] ?_
 refine yq9 2 (by simp;rfl) rfl ?_
 refine xs9 (f:=70) (args:=[.lst .any 1 (arL t),.agg [.v (.int .i64 (p:Nat)),.v (.int .i64 (n:Nat))]]) (by simp) (by simp) ((recs24_callW t p n _ (by simp [yn9,zk9,AObj.under,AV.under,AV.underL])).mono ?_)
 rintro r h' ⟨rfl,rfl⟩
 refine ⟨_,by simp;rfl,?_⟩
 refine yw9 (by simp;rfl) ?_
 refine yl9 ?_
 refine ws8 (Qc:=fun _ h'=>mbQ d t p n h') rfl ?_ ?_
 ·exact hin
 rintro _ _ ⟨o,x,st,rA,rE,hx,hm,h3,h1,h2,rfl⟩
 have hseq:=seqE_rest t p n
 rw [hm] at hseq
 dsimp only at hseq
 refine ⟨36,_,_,_,_,_,rfl,?_⟩
 obtain rfl | rfl | rfl:st=0∨st=1∨st=2:=by omega
 ·obtain ⟨rfl,rfl⟩:=h2 (by omega)
  rw [if_neg (by omega)] at hseq
  have hme:memM d t p n=([],5):=by unfold memM;rw [hseq]
  rw [hme]
  refine (show Wt true 0 Tryz.prog _ _ _ from ?_)
  refine ym9 [3,6,7,8] ?_
  refine yr9 [6,7] (by simp [zf9,yk9];rfl) ?_
  refine yj9 ?_
  repeat (first | refine yp9 ?_ | refine ys9 ?_)
  exact ⟨.tup [.lst .nil 1 [],.v (.int .i64 5)],by simp [retQ],.tup2 (.nil (by decide +kernel)) (.refl _)⟩
 ·obtain ⟨rfl,rfl⟩:=h1 rfl
  rw [if_pos rfl] at hseq
  have hme:memM d t p n=unbM d o:=by unfold memM;rw [hseq]
  rw [hme]
  refine (show retU _ _ _ .ret _ from ?_)
  exact ⟨_,by simp [retQ];exact ⟨rfl,by simp⟩,.norm fun T=>by simp [resB]⟩
 ·obtain ⟨rfl,rfl⟩:=h2 (by omega)
  rw [if_neg (by omega)] at hseq
  have hme:memM d t p n=([],5):=by unfold memM;rw [hseq]
  rw [hme]
  refine (show Wt true 0 Tryz.prog _ _ _ from ?_)
  refine ym9 [3,6,7,8] ?_
  refine yr9 [6,7] (by simp [zf9,yk9];rfl) ?_
  refine yj9 ?_
  repeat (first | refine yp9 ?_ | refine ys9 ?_)
  exact ⟨.tup [.lst .nil 1 [],.v (.int .i64 5)],by simp [retQ],.tup2 (.nil (by decide +kernel)) (.refl _)⟩
end Go.AM
namespace Go.AM
open Go.RowKit Go.Proofs
set_option linter.unusedSimpArgs false
set_option linter.unusedVariables false
set_option maxHeartbeats 8000000
set_option maxRecDepth 20000
def rdM (d:Dcb) (t:List (List Rec)) (s:List UInt8):List (List UInt8) × Int :=
 if (zg7 t).isNone=true∨wp7 d=false then ([],5) else match findM t s with | none=>([],3) | some e=>memM d t e.trk e.rn
theorem vk6 {n:Nat} {H:List AObj} {e:Int}:retU Tryz.prog [.tmp 6,.tmp 7] (resB ([],e)) .ret ⟨n,[(6,.lst .nil 1 []),(7,.v (.int .i64 e))],H⟩ :=
 ⟨.tup [.lst .nil 1 [],.v (.int .i64 e)],by simp [retQ],.tup2 (.nil (by decide +kernel)) (.refl _)⟩
theorem findR_findM {t:List (List Rec)} {L:List RE} {n:Nat} (he:zg7 t=some (L,n)) (s:List UInt8):(yr7 L s).2=(findM t s).isSome∧∀ e,findM t s=some e→L[(yr7 L s).1]?=some e:=by
 obtain ⟨hLl,hn,h8,hpw⟩:=vb6 he
 rw [findM,he,yr7]
 simp only
 split
 ·rw [find_pos hpw]
  unfold fndE
  cases h0:L[posE L (padK s)]? with
  | none=>simp
  | some e =>
   by_cases hk:e.key == padK s
   ·simp only [hk,if_true]
    exact ⟨rfl,fun e' he'=>he'⟩
   ·simp [hk]
 ·simp
theorem Read_sound (d:Dcb) {t:List (List Rec)} (ht:TIn t) (hf:t.flatten.length≤1800000) (s:List UInt8) (hs:s.length≤1000000000):Sound Tryz.prog 8 [dcbA d,.lst .any 1 (arL t),strB s] (resB (rdM d t s)):=by
 refine xw9 Tryz.func8 rfl (by decide +kernel) (by simp [Tryz.f8]) (by simp [AV.rfL,AV.rf,strB]) (by simp [AV.tlL,AV.tl,strB]) (rs:=[.tmp 6,.tmp 7]) rfl ?_
 rw [show Tryz.f8.ntmps=43 from rfl]
 have hr:=ul7 ht
 have hpart:=zj6 d
 simp only [dcbA] at hpart
 obtain ⟨S,hS⟩:∃ S,strB s=S:=⟨_,rfl⟩
 have hSv:∃ u,S=.v u:=⟨_,hS.symm⟩
 refine yr9 [1,2,3] (by simp [strB];rfl) ?_
 cases he:zg7 t with
 | none =>
  rw [zf6 he] at hr
  obtain ⟨p,hp⟩:∃ p,kr9 t=p:=⟨_,rfl⟩
  rw [hp] at hr
  have hm:rdM d t s=([],5):=by unfold rdM;rw [if_pos (.inl (by rw [he];rfl))]
  rw [hm]
  refine W_rK [1,2,3,8,9] ?_
  refine yq9 1 (by simp;rfl) rfl ?_
  refine yf9 (by simp) (by first | (simp;done) | (simp;rfl)) hr (by simp;rfl) ?_
  refine yw9 (by simp [yk9];rfl) ?_
  refine yh9 ?_
  refine W_rK [1,2,3,8,23] ?_
  refine yw9 (by simp;rfl) ?_
  refine yt9 (t:=true) rfl (fun h=>?_) (fun h=>by simp at h)
  refine yr9 [6,7] (by simp;rfl) ?_
  refine yj9 ?_
  repeat (first | refine yp9 ?_ | refine ys9 ?_)
  exact vk6
 | some p =>
  obtain ⟨L,n⟩:=p
  rw [zd6 he] at hr
  obtain ⟨hLl,hn,h8,hpw⟩:=vb6 he
  have hok:=(read_inv he).ok
  have hfd:=xk6 L n s hs hpw h8 (by omega)
  rw [hS] at hfd
  obtain ⟨u,rfl⟩:=hSv
  obtain ⟨r1,r2⟩:=findR_findM he s
  rw [r1] at hfd
  obtain ⟨i,hi⟩:∃ i,(yr7 L s).1=i:=⟨_,rfl⟩
  rw [hi] at hfd r2
  have hSu:AV.v (.string ⟨s.toArray⟩)=.v u:=hS
  rw [hSu]
  refine W_rK [1,2,3,8,9] ?_
  refine yq9 1 (by simp;rfl) rfl ?_
  refine yf9 (by simp) (by first | (simp;done) | (simp;rfl)) hr (by simp;rfl) ?_
  refine yw9 (by simp [yk9];rfl) ?_
  refine yh9 ?_
  refine W_rK [1,2,3,8,23] ?_
  refine yq9 4 (by simp;rfl) rfl ?_
  refine yf9 (by simp) (by first | (simp;done) | (simp;rfl)) hpart (by simp;rfl) ?_
  refine yw9 (by simp;rfl) ?_
  cases hp:wp7 d with
  | false =>
   have hm:rdM d t s=([],5):=by unfold rdM;rw [if_pos (.inr hp)]
   rw [hm]
   refine yt9 (t:=true) rfl (fun h=>?_) (fun h=>by simp at h)
   refine yr9 [6,7] (by simp;rfl) ?_
   refine yj9 ?_
   repeat (first | refine yp9 ?_ | refine ys9 ?_)
   exact vk6
  | true =>
   have hm0:rdM d t s=match findM t s with | none=>([],3) | some e=>memM d t e.trk e.rn:=by
    unfold rdM
    rw [if_neg (by rw [he,hp];simp)]
   refine yt9 (t:=false) rfl (fun h=>by simp at h) (fun h=>?_)
   refine ym9 [1,2,3,8] ?_
   refine yg9 ?_
   repeat (first | refine on_norm ?_ | refine in_norm ?_)
   refine W_rK [1,3,8,10,11] ?_
   refine yq9 2 (by simp [zf9];rfl) rfl ?_
   refine yf9 (by simp) (by first | (simp;done) | (simp;rfl)) hfd (by simp;rfl) ?_
   refine yw9 (by simp;rfl) ?_
   refine yh9 ?_
   cases hmf:findM t s with
   | none =>
    rw [hmf] at hm0
    rw [hm0]
    refine yr9 [1,3,8,10,31] (by simp [hmf];rfl) ?_
    refine yt9 (t:=true) rfl (fun h=>?_) (fun h=>by simp at h)
    refine yr9 [6,7] (by simp;rfl) ?_
    refine yj9 ?_
    repeat (first | refine yp9 ?_ | refine ys9 ?_)
    exact vk6
   | some e =>
    rw [hmf] at hm0
    rw [hm0]
    have hge:=r2 e hmf
    obtain ⟨hil,hge2⟩:=List.getElem?_eq_some_iff.1 hge
    have hili:(i:Int) < (L.length:Nat):=by omega
    have hem:=List.mem_of_getElem? hge
    have he8:=h8 e hem
    have hdr:List.drop 8 (reC e)=[.v (.int .i64 (e.trk:Nat)),.v (.int .i64 (e.rn:Nat))]:=by rw [reC,List.drop_left' (by simp [he8])]
    have hmem:=member_sound d t e.trk e.rn ht.n ht.rows hf (fun l hl r hr=>(ht.d l hl r hr).2) (by have:=(hok e hem).2.1;omega)
    simp only [dcbA,resB] at hmem
    refine yr9 [1,3,8,10,31] (by simp [hmf];rfl) ?_
    refine yt9 (t:=false) rfl (fun h=>by simp at h) (fun h=>?_)
    refine ym9 [1,3,8,10] ?_
    refine yg9 ?_
    repeat (first | refine on_norm ?_ | refine in_norm ?_)
    refine wk9 [6,7] mx (by decide +kernel) ?_
    refine yd9 4 (by simp [zf9];rfl) rfl ?_
    refine yd9 4 (by simp [hil,hili,hge2,reA,hdr,xr9 he8];rfl) rfl ?_
    refine yv9 (by simp) (by first | (simp;done) | (simp;rfl)) hmem (by simp;rfl) ?_
    refine yb9 (by simp;rfl) ?_
    refine yj9 ?_
    repeat (first | refine yp9 ?_ | refine ys9 ?_)
    exact ⟨_,by simp [retQ];exact ⟨rfl,by simp⟩,.norm fun T=>by simp [resB]⟩
end Go.AM
namespace Go.AM
open Go.RowKit Go.Proofs
set_option linter.unusedSimpArgs false
set_option linter.unusedVariables false
set_option maxHeartbeats 8000000
set_option maxRecDepth 100000
def recOf : AV → Option Rec
 | .agg [.v (.int .i64 R),.lst .any 1 k,.lst .any 1 d,.v (.bool b)]=>(bytesOf k).bind fun k'=>(bytesOf d).map fun d'=>⟨R,k',d',b⟩
 | _=>none
theorem recOf_eq {x:AV} {r:Rec} (h:recOf x=some r):x=recA r:=by
 unfold recOf at h
 split at h
 ·rename_i R k d b
  obtain ⟨k',h1,h⟩:=Option.bind_eq_some_iff.1 h
  obtain ⟨d',h2,rfl⟩:=Option.map_eq_some_iff.1 h
  rw [ub8 h1,ub8 h2]
  rfl
 ·cases h
def trOf : List AV → Option (List Rec)
 | []=>some []
 | x :: xs=>(recOf x).bind fun r=>(trOf xs).map fun l=>r :: l
theorem trOf_eq : ∀ {xs : List AV} {l : List Rec}, trOf xs = some l → xs = trL l
 | [],l,h=>by simp only [trOf,Option.some.injEq] at h;subst h;rfl
 | x :: xs,l,h=>by
  simp only [trOf] at h
  obtain ⟨b,hb,h⟩:=Option.bind_eq_some_iff.1 h
  obtain ⟨l',hl,rfl⟩:=Option.map_eq_some_iff.1 h
  rw [xh8,recOf_eq hb,trOf_eq hl]
def arOf : List AV → Option (List (List Rec))
 | []=>some []
 | .lst .any 4 x :: xs=>(trOf x).bind fun b=>(arOf xs).map fun l=>b :: l
 | _=>none
theorem arOf_eq : ∀ {xs : List AV} {l : List (List Rec)}, arOf xs = some l → xs = arL l
 | [],l,h=>by simp only [arOf,Option.some.injEq] at h;subst h;rfl
 | x :: xs,l,h=>by
  unfold arOf at h
  split at h
  ·rename_i h1;cases h1
  ·rename_i y ys h1
   cases h1
   obtain ⟨b,hb,h⟩:=Option.bind_eq_some_iff.1 h
   obtain ⟨l',hl,rfl⟩:=Option.map_eq_some_iff.1 h
   rw [arL_cons,trOf_eq hb,arOf_eq hl]
  ·cases h
def dcbOf : AV → Option Dcb
 | .agg [.v (.int .i64 a),.v (.int .i64 b),.v (.bool c),.v (.bool d),.v (.int .i64 e),.v (.int .i64 f),.v (.int .i64 g),.v (.int .i64 h)]=>some ⟨a,b,c,d,e,f,g,h⟩
 | _=>none
theorem dcbOf_eq {x:AV} {d:Dcb} (h:dcbOf x=some d):x=dcbA d:=by
 unfold dcbOf at h
 split at h
 ·cases h;rfl
 ·cases h
def strOf : AV → Option (List UInt8)
 | .v (.string s)=>some s.data.toList
 | _=>none
theorem vw6 {x:AV} {s:List UInt8} (h:strOf x=some s):x=strB s:=by
 unfold strOf at h
 split at h
 ·cases h;simp [strB]
 ·cases h
def zq6 : List AV → Option (List (List UInt8))
 | []=>some []
 | x :: xs=>(strOf x).bind fun r=>(zq6 xs).map fun l=>r :: l
theorem uq7 : ∀ {xs : List AV} {l : List (List UInt8)}, zq6 xs = some l → xs = strL l
 | [],l,h=>by simp only [zq6,Option.some.injEq] at h;subst h;rfl
 | x :: xs,l,h=>by
  simp only [zq6] at h
  obtain ⟨b,hb,h⟩:=Option.bind_eq_some_iff.1 h
  obtain ⟨l',hl,rfl⟩:=Option.map_eq_some_iff.1 h
  rw [vw6 hb,uq7 hl]
  rfl
def meOf : AV → Option ME
 | .agg [s,.lst .any 1 b]=>(strOf s).bind fun n=>(bbOf b).map fun l=>⟨n,l⟩
 | _=>none
theorem meOf_eq {x:AV} {m:ME} (h:meOf x=some m):x=meA m:=by
 unfold meOf at h
 split at h
 ·obtain ⟨n,hn,h⟩:=Option.bind_eq_some_iff.1 h
  obtain ⟨l,hl,rfl⟩:=Option.map_eq_some_iff.1 h
  rw [vw6 hn,bbOf_eq hl]
  rfl
 ·cases h
def mesOf : List AV → Option (List ME)
 | []=>some []
 | x :: xs=>(meOf x).bind fun r=>(mesOf xs).map fun l=>r :: l
theorem mesOf_eq : ∀ {xs : List AV} {l : List ME}, mesOf xs = some l → xs = meL l
 | [],l,h=>by simp only [mesOf,Option.some.injEq] at h;subst h;rfl
 | x :: xs,l,h=>by
  simp only [mesOf] at h
  obtain ⟨b,hb,h⟩:=Option.bind_eq_some_iff.1 h
  obtain ⟨l',hl,rfl⟩:=Option.map_eq_some_iff.1 h
  rw [meOf_eq hb,mesOf_eq hl]
  rfl
def bbSm (l:List (List UInt8)):Bool:=decide (l.length≤1000)&&l.all fun t=>decide (t.length≤1000)
theorem bbSm_spec {l:List (List UInt8)} (h:bbSm l=true):l.length≤1000∧∀ t∈l,t.length≤1000:=by
 simpa [bbSm] using h
def arSm (a:List (List Rec)):Bool:=decide (a.length≤1000)&&decide (a.flatten.length≤1000)&&a.all fun t=>t.all fun r=>decide (r.key.length≤1000)&&decide (r.data.length≤1000)
theorem dirT_sub (t:List (List Rec)):(dirT t).flatten.length≤t.flatten.length:=by
 conv=>rhs;rw [yh7 t]
 rw [List.flatten_append,List.length_append]
 omega
theorem mem_flat_len {t:List (List Rec)} {l:List Rec} (h:l∈t):l.length≤t.flatten.length:=by
 obtain ⟨a,b,rfl⟩:=List.append_of_mem h
 simp
 omega
theorem arSm_spec {a:List (List Rec)} (h:arSm a=true):TIn a∧a.flatten.length≤1000:=by
 simp only [arSm,Bool.and_eq_true,List.all_eq_true,decide_eq_true_eq] at h
 obtain ⟨⟨h1,h2⟩,h3⟩:=h
 refine ⟨⟨by omega,fun l hl=>?_,?_,fun l hl r hr=>?_⟩,h2⟩
 ·have:=mem_flat_len hl;omega
 ·have:=dirT_sub a;omega
 ·have:=h3 l hl r hr;omega
def mesSm (l:List ME):Bool:=decide (l.length≤1000)&&l.all fun m=>decide (m.name.length≤1000)&&bbSm m.recs
theorem mesSm_spec {l:List ME} (h:mesSm l=true):l.length≤1000∧∀ m∈l,m.name.length≤1000∧m.recs.length≤1000∧∀ r∈m.recs,r.length≤1000:=by
 simp only [mesSm,Bool.and_eq_true,List.all_eq_true,decide_eq_true_eq] at h
 exact ⟨h.1,fun m hm=>⟨(h.2 m hm).1,bbSm_spec (h.2 m hm).2⟩⟩
def cmOf : AV → Option (Dcb × List ME)
 | .agg [a,b,c,d,e,f,g,h,.lst .any 1 [],.lst .any 2 m]=>(dcbOf (.agg [a,b,c,d,e,f,g,h])).bind fun x=>(mesOf m).map fun y=>(x,y)
 | _=>none
theorem cmOf_eq {x:AV} {d:Dcb} {ms:List ME} (h:cmOf x=some (d,ms)):x=.agg (zh9 d [] ms):=by
 unfold cmOf at h
 split at h
 ·obtain ⟨d',hd,h⟩:=Option.bind_eq_some_iff.1 h
  obtain ⟨m',hm,h⟩:=Option.map_eq_some_iff.1 h
  cases h
  have h1:=dcbOf_eq hd
  simp only [dcbA,AV.agg.injEq,List.cons.injEq] at h1
  obtain ⟨rfl,rfl,rfl,rfl,rfl,rfl,rfl,rfl,_⟩:=h1
  rw [mesOf_eq hm]
  rfl
 ·cases h
def kn24:KnF:=fun f args =>
 if f=14 then match args with
  | [x,.v (.int .i64 n)]=>(cmOf x).bind fun c=>if mesSm c.2=true then some (resT (ptrM c.1 c.2 n)) else none
  | _=>none
 else if f=18 then match args with
  | [.lst .any 1 a]=>(arOf a).bind fun A=>if arSm A=true then some (.tup [.lst (.tip 9 1) 1 (strL (zb6 A).1),.v (.int .i64 (zb6 A).2)]) else none
  | _=>none
 else if f=8 then match args with
  | [x,.lst .any 1 a,y]=>(dcbOf x).bind fun d=>(arOf a).bind fun A=>(strOf y).bind fun s=>if arSm A=true∧s.length≤1000 then some (resB (rdM d A s)) else none
  | _=>none
 else if f=22 then match args with
  | [.lst .any 1 a,.lst .any 1 b]=>(zq6 a).bind fun A=>(zq6 b).bind fun B=>if A.length≤1000 then some (.v (.bool (decide (A=B)))) else none
  | _=>none
 else if f=10 then match args with
  | [.lst .any 1 a,.lst .any 1 b]=>(bbOf a).bind fun A=>(bbOf b).bind fun B=>if bbSm A=true then some (.v (.bool (decide (A=B)))) else none
  | _=>none
 else none
theorem kn24_ok:KnOk Tryz.prog kn24:=by
 intro f args r h
 unfold kn24 at h
 split at h
 ·rename_i hf
  subst hf
  split at h
  ·rename_i x n
   obtain ⟨⟨d,ms⟩,hd,h⟩:=Option.bind_eq_some_iff.1 h
   split at h
   ·rename_i hc
    cases h
    obtain ⟨h1,h2⟩:=mesSm_spec hc
    dsimp only at h1 h2 ⊢
    rw [cmOf_eq hd]
    exact jt8 d [] ms n (by omega) fun m hm=>⟨by have:=(h2 m hm).1;omega,by have:=(h2 m hm).2.1;omega,fun r hr=>by have:=(h2 m hm).2.2 r hr;omega⟩
   ·cases h
  ·cases h
 split at h
 ·rename_i hf
  subst hf
  split at h
  ·rename_i a
   obtain ⟨A,hA,h⟩:=Option.bind_eq_some_iff.1 h
   split at h
   ·rename_i hc
    cases h
    rw [arOf_eq hA]
    exact Names_sound (arSm_spec hc).1
   ·cases h
  ·cases h
 split at h
 ·rename_i hf
  subst hf
  split at h
  ·rename_i x a y
   obtain ⟨d,hd,h⟩:=Option.bind_eq_some_iff.1 h
   obtain ⟨A,hA,h⟩:=Option.bind_eq_some_iff.1 h
   obtain ⟨s,hs,h⟩:=Option.bind_eq_some_iff.1 h
   split at h
   ·rename_i hc
    cases h
    obtain ⟨h1,h2⟩:=arSm_spec hc.1
    rw [dcbOf_eq hd,arOf_eq hA,vw6 hs]
    exact Read_sound d h1 (by omega) s (by omega)
   ·cases h
  ·cases h
 split at h
 ·rename_i hf
  subst hf
  split at h
  ·rename_i a b
   obtain ⟨A,hA,h⟩:=Option.bind_eq_some_iff.1 h
   obtain ⟨B,hB,h⟩:=Option.bind_eq_some_iff.1 h
   split at h
   ·cases h
    rw [uq7 hA,uq7 hB]
    exact ud7 A B (by omega)
   ·cases h
  ·cases h
 split at h
 ·rename_i hf
  subst hf
  split at h
  ·rename_i a b
   obtain ⟨A,hA,h⟩:=Option.bind_eq_some_iff.1 h
   obtain ⟨B,hB,h⟩:=Option.bind_eq_some_iff.1 h
   split at h
   ·rename_i hc
    cases h
    obtain ⟨h1,h2⟩:=bbSm_spec hc
    rw [bbOf_eq hA,bbOf_eq hB]
    exact srecs_sound A B (by omega) fun x hx=>by have:=h2 x hx;omega
   ·cases h
  ·cases h
 ·cases h
theorem wh6:Sound Tryz.prog 13 [] (.v (.bool true)):=xl8 kn24_ok mx 300 (by kernel_rfl)
end Go.AM
namespace Go.AM
open Go.RowKit Go.Proofs
set_option linter.unusedSimpArgs false
set_option linter.unusedVariables false
set_option maxHeartbeats 8000000
set_option maxRecDepth 20000
@[simp] theorem dpL_me4 (L:List ME):AV.dpL (meL L)=meL L:=by induction L <;> simp_all [meL,meA,AV.dpL,AV.dp,strB]
theorem qq7 (d : Dcb) (rs : List (List UInt8)) (ms : List ME) (dir : Int) (hl : ms.length ≤ 1000000000) (hm : ∀ m ∈ ms, m.name.length ≤ 1000000000 ∧ m.recs.length ≤ 1100000 ∧ ∀ r ∈ m.recs, r.length ≤ 1000000000) :
  Sound Tryz.prog 4 [.agg (zh9 d rs ms),.v (.int .i64 dir)] (.v (.bool true)):=by
 have h1:=jt8 d rs ms dir hl hm
 have h2:=vf6 d rs ms dir hl hm
 obtain ⟨b1,b2⟩:=ptrM_bd d ms dir
 have h3:=sameTs_sound (ptrM d ms dir).1 (ptrM d ms dir).1 (by omega) (fun t ht=>by have:=(vn8 (b2 t ht)).1;omega)
 rw [decide_eq_true rfl] at h3
 obtain ⟨P,hP⟩:∃ P,ptrM d ms dir=P:=⟨_,rfl⟩
 rw [hP] at h1 h2 h3
 simp only [resT,zh9] at h1 h2
 refine yc9 Tryz.func4 rfl (by decide +kernel) (by simp [Tryz.f4]) (by simp [AV.rfL,AV.rf,zh9]) (by simp [AV.tlL,AV.tl,zh9]) (rs:=[.tmp 4]) rfl ?_
 rw [show Tryz.f4.ntmps=32 from rfl]
 unfold zh9
 refine yr9 [1,2] (by simp;rfl) ?_
 refine W_rK [1,2,5,6] ?_
 refine yq9 2 (by simp;rfl) rfl ?_
 refine yf9 (by simp) (by first | (simp;done) | (simp;rfl)) h1 (by simp;rfl) ?_
 refine yw9 (by simp;rfl) ?_
 refine W_rK [5,6,7,8] ?_
 refine yq9 2 (by simp;rfl) rfl ?_
 refine yf9 (by simp) (by first | (simp;done) | (simp;rfl)) h2 (by simp;rfl) ?_
 refine yw9 (by simp;rfl) ?_
 refine W_rK [4] ?_
 refine yq9 6 (by simp;rfl) rfl ?_
 refine yf9 (by simp) (by first | (simp;done) | (simp;rfl)) h3 (by simp;rfl) ?_
 refine yq9 2 (by simp;rfl) rfl ?_
 refine yf9 (by simp) (by first | (simp;done) | (simp;rfl)) wh6 (by simp;rfl) ?_
 refine yw9 (by simp;rfl) ?_
 refine yj9 ?_
 repeat (first | refine yp9 ?_ | refine ys9 ?_)
 simp [retQ]
end Go.AM
namespace Go.AM
open Go.RowKit Go.Proofs
set_option linter.unusedSimpArgs false
set_option linter.unusedVariables false
set_option maxHeartbeats 1000000
set_option maxRecDepth 20000
section
variable {P : Program}
theorem ty_slice {n:Nat} {t e:TypeId} {x:AV} (hu:P.underlying t=some (.slice e)) (h:TyV P (n+1) t x):∃ o l,x=.lst o (P.cellsOf e) l∧l.length≤maxLen∧l.length * P.bytesOf e≤140737488351232∧∀ y∈l,TyV P n e y:=by
 rcases h with ⟨h1,_⟩ | ⟨_,h⟩
 ·simp [isSt,hu] at h1
 ·simp only [TyC,hu] at h
  obtain ⟨o,l,hl,hmax,_,_,hx⟩:=h
  simp only [List.cons.injEq,and_true] at hl
  exact ⟨o,l,hl,hmax.1,hmax.2,hx⟩
theorem xr7 {β : Type} {F : β → AV} {Q : β → Prop} : ∀ {l : List AV}, (∀ y ∈ l, ∃ b, y.dp = F b ∧ Q b) → ∃ bs : List β, AV.dpL l = bs.map F ∧ bs.length = l.length ∧ ∀ b ∈ bs, Q b
 | [],_=>⟨[],rfl,rfl,by simp⟩
 | y :: l,h=>by
  obtain ⟨b,h1,h2⟩:=h y (by simp)
  obtain ⟨bs,k1,k2,k3⟩:=xr7 (l:=l) fun y hy=>h y (by simp [hy])
  refine ⟨b :: bs,by simp [AV.dpL,h1,k1],by simp [k2],fun c hc=>?_⟩
  rcases List.mem_cons.1 hc with rfl | hc
  ·exact h2
  ·exact k3 c hc
end
theorem un_3:Tryz.prog.underlying 3=some (.int .i64):=by kernel_rfl
theorem un_4:Tryz.prog.underlying 4=some .bool:=by kernel_rfl
theorem un_5:Tryz.prog.underlying 5=some (.int .u8):=by kernel_rfl
theorem un_24:Tryz.prog.underlying 25=some (.slice 90):=by kernel_rfl
theorem un_47:Tryz.prog.underlying 90=some (.slice 5):=by kernel_rfl
theorem ce5:Tryz.prog.cellsOf 5=1:=by kernel_rfl
theorem ce47:Tryz.prog.cellsOf 90=1:=by kernel_rfl
theorem ce23:Tryz.prog.cellsOf 23=8:=by kernel_rfl
theorem fl23:flds Tryz.prog 23=some [(3,0,1),(3,1,1),(4,2,1),(4,3,1),(3,4,1),(3,5,1),(3,6,1),(3,7,1)]:=by kernel_rfl
theorem min64:IntKind.i64.min=-9223372036854775808:=by decide +kernel
theorem max64:IntKind.i64.max=9223372036854775807:=by decide +kernel
def dcbOk (d:Dcb):Prop:=∀ x∈[d.org,d.fmt,d.lrecl,d.size,d.klen,d.kpos],-9223372036854775808≤x∧x≤9223372036854775807
theorem ty_dcb {n:Nat} {x:AV} (h:TyV Tryz.prog (n+3) 23 x):∃ d:Dcb,x.dp=dcbA d∧dcbOk d:=by
 obtain ⟨ys,rfl,hl,hf⟩:=vb7 fl23 ce23 h
 match ys,hl,hf with
 | [a,b,c,d,e,f,g,i],_,hf =>
  obtain ⟨m0,rfl,p0,q0⟩:=vn7 un_3 (wg8 (by kernel_rfl) (hf (3,0,1) (by simp)))
  obtain ⟨m1,rfl,p1,q1⟩:=vn7 un_3 (wg8 (by kernel_rfl) (hf (3,1,1) (by simp)))
  obtain ⟨b2,rfl⟩:=ty_bool un_4 (wg8 (by kernel_rfl) (hf (4,2,1) (by simp)))
  obtain ⟨b3,rfl⟩:=ty_bool un_4 (wg8 (by kernel_rfl) (hf (4,3,1) (by simp)))
  obtain ⟨m4,rfl,p4,q4⟩:=vn7 un_3 (wg8 (by kernel_rfl) (hf (3,4,1) (by simp)))
  obtain ⟨m5,rfl,p5,q5⟩:=vn7 un_3 (wg8 (by kernel_rfl) (hf (3,5,1) (by simp)))
  obtain ⟨m6,rfl,p6,q6⟩:=vn7 un_3 (wg8 (by kernel_rfl) (hf (3,6,1) (by simp)))
  obtain ⟨m7,rfl,p7,q7⟩:=vn7 un_3 (wg8 (by kernel_rfl) (hf (3,7,1) (by simp)))
  rw [min64] at p0 p1 p4 p5 p6 p7
  rw [max64] at q0 q1 q4 q5 q6 q7
  refine ⟨⟨m0,m1,b2,b3,m4,m5,m6,m7⟩,by simp [AV.dp,AV.dpL],?_⟩
  intro x hx
  simp at hx
  rcases hx with rfl | rfl | rfl | rfl | rfl | rfl
  ·exact ⟨p0,q0⟩
  ·exact ⟨p1,q1⟩
  ·exact ⟨p4,q4⟩
  ·exact ⟨p5,q5⟩
  ·exact ⟨p6,q6⟩
  ·exact ⟨p7,q7⟩
theorem ty_recs {n:Nat} {x:AV} (h:TyV Tryz.prog (n+3) 25 x):∃ l:List (List UInt8),x.dp=.lst .any 1 (bbL l)∧l.length≤maxLen∧∀ b∈l,b.length≤maxLen:=by
 obtain ⟨o,l,rfl,hl,_,hy⟩:=ty_slice un_24 h
 obtain ⟨bs,h1,h2,h3⟩:=xr7 (F:=fun b=>AV.lst .any 1 (byL b)) (Q:=fun b=>b.length≤maxLen) (l:=l) fun y hm=>by
  obtain ⟨o,b,rfl,hb,_⟩:=ty_bytes un_47 un_5 ce5 (hy y hm)
  have e:AV.dpL (b.map fun b:UInt8=>AV.v (.int .u8 b.toNat))=byL b:=dpL_byL b
  exact ⟨b,by simp only [AV.dp,e],hb⟩
 exact ⟨bs,by simp only [AV.dp,h1,ce47];rfl,by rw [h2];exact hl,h3⟩
end Go.AM
