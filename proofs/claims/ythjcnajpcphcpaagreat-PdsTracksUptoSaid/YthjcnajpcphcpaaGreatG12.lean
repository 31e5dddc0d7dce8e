/- Parts of the walk: C24XJ C24XK C24UK C24UL C24VG C24VH C24VI C24VJ C24VK. -/
import Derived.Test.YthjcnajpcphcpaaGreatG11
namespace Go.AM
open Go.RowKit Go.Proofs
set_option linter.unusedSimpArgs false
set_option linter.unusedVariables false
set_option maxHeartbeats 8000000
set_option maxRecDepth 20000
def notB (e x:SE):Bool:=!Op.bytesLess (padK e.name) (padK x.name)
def jb8 (x : SE) : List SE → Bool → List SE → List SE
 | [],d,o=>if d=true then o else o++[x]
 | e :: l,d,o=>jb8 x l (d || notB e x) ((if (!d&&notB e x)=true then o++[x] else o)++(if e.name=x.name then [] else [e]))
def outI (y:AV) (O:List SE):Prop:=(O=[]∧y=.lst .nil 3 [])∨y=.lst (.tip 51 61) 3 (seL O)
theorem yr6 (L:List SE) (x:SE) (hl:L.length≤100000000) (hs:∀ e∈L,symM e.name=true) (hx:symM x.name=true):Sound Tryz.prog 50 [.lst .any 3 (seL L),seA x] (.lst .any 3 (seL (jb8 x L false []))):=by
 refine vk9 Tryz.func50 rfl (by decide +kernel) (by simp [Tryz.f50]) (by simp [AV.rfL,AV.rf,seA,strB]) (by simp [AV.tlL,AV.tl,seA,strB]) (rs:=[.tmp 4]) rfl ?_
 rw [show Tryz.f50.ntmps=53 from rfl]
 obtain ⟨R,hR⟩:∃ R,jb8 x L false []=R:=⟨_,rfl⟩
 rw [hR]
 have hsx:∀ O:List SE,seL O++[AV.agg [.v (.string ⟨x.name.toArray⟩),.v (.int .i64 (x.trk:Nat)),.v (.int .i64 (x.rn:Nat))]]=seL (O++[x]):=fun O=>by rw [seL_app];rfl
 have hsx0:[AV.agg [.v (.string ⟨x.name.toArray⟩),.v (.int .i64 (x.trk:Nat)),.v (.int .i64 (x.rn:Nat))]]=seL [x]:=rfl
 refine yr9 [0,3] (by simp [seA,strB];rfl) ?_
 refine yr9 [0,3,5] (by simp;rfl) ?_
 refine yr9 [0,3,5,6] (by simp;rfl) ?_
 refine yh9 ?_
 refine yr9 [0,3,5,6,7] (by simp;rfl) ?_
 refine yl9 ?_
 refine zj9 (fun k σ => ∃ (i : Nat) (d : Bool) (o : List SE) (y : AV), k = L.length - i ∧ i ≤ L.length ∧ jb8 x (L.drop i) d o = R ∧ outI y o ∧ o.length ≤ 2 * i ∧
  σ=⟨53,[(0,.lst .any 3 (seL L)),(3,.loc 0 0),(5,y),(6,.v (.bool d)),(7,.v (.int .i64 (i:Nat)))],[.cells 51 [.v (.string ⟨x.name.toArray⟩),.v (.int .i64 (x.trk:Nat)),.v (.int .i64 (x.rn:Nat))]]⟩) (k:=L.length) ⟨0,false,[],_,rfl,by omega,hR,.inl ⟨rfl,rfl⟩,by simp,by simp⟩ ?_
 rintro k σ ⟨i,d,o,y,rfl,hi,hgo,hy,hol,rfl⟩
 refine yh9 ?_
 by_cases c:i < L.length
 ·have ci : (i : Int) < L.length := by omega
  obtain ⟨e,he⟩:∃ e,L[i]?=some e:=⟨_,List.getElem?_eq_getElem c⟩
  have he2:L[i]'c=e:=(List.getElem?_eq_some_iff.1 he).2
  have hes:=hs e (List.mem_of_getElem? he)
  have wi:=w64 (n:=(i:Int)+1) (by omega) (by omega)
  have hdr:L.drop i=e :: L.drop (i+1):=by rw [List.drop_eq_getElem_cons c,he2]
  rw [hdr,jb8] at hgo
  have hbf:=before_sound e.name x.name hes hx
  unfold strB at hbf
  have hse:∀ O:List SE,seL O++[AV.agg [.v (.string ⟨e.name.toArray⟩),.v (.int .i64 (e.trk:Nat)),.v (.int .i64 (e.rn:Nat))]]=seL (O++[e]):=fun O=>by rw [seL_app];rfl
  have hse0:[AV.agg [.v (.string ⟨e.name.toArray⟩),.v (.int .i64 (e.trk:Nat)),.v (.int .i64 (e.rn:Nat))]]=seL [e]:=rfl
  refine yr9 [0,3,5,6,7,11] (by simp [c,ci];rfl) ?_
  refine yt9 (t:=true) (by simp [c,ci]) (fun h=>?_) (fun h=>by simp at h)
  refine ym9 [0,3,5,6,7] ?_
  refine yg9 ?_
  repeat (first | refine on_norm ?_ | refine in_norm ?_)
  refine yh9 ?_
  refine yl9 ?_
  obtain ⟨o1,ho1⟩:∃ o1,(if (!d&&notB e x)=true then o++[x] else o)=o1:=⟨_,rfl⟩
  rw [ho1] at hgo
  have ho1l:o1.length≤o.length+1:=by rw [← ho1];split <;> simp
  refine vs9 (fun s=>∃ y1,outI y1 o1∧s=⟨53,[(0,.lst .any 3 (seL L)),(3,.loc 0 0),(5,y1),(6,.v (.bool (d || notB e x))),(7,.v (.int .i64 (i:Nat)))],[.cells 51 [.v (.string ⟨x.name.toArray⟩),.v (.int .i64 (x.trk:Nat)),.v (.int .i64 (x.rn:Nat))]]⟩) ?_ ?_
  ·cases d with
   | true =>
    have h1:o1=o:=by rw [← ho1];simp
    refine wk9 [0,3,5,6,7,26] mx (by decide +kernel) ?_
    refine yd9 6 (by simp [zf9];rfl) rfl ?_
    refine yb9 (by simp;rfl) ?_
    refine yt9 (t:=false) rfl (fun h=>by simp at h) (fun h=>?_)
    refine ym9 [0,3,5,6,7] ?_
    refine yg9 ?_
    exact ⟨y,by rw [h1];exact hy,by simp [zf9]⟩
   | false =>
    simp only [Bool.not_false,Bool.true_and] at ho1
    cases hb:Op.bytesLess (padK e.name) (padK x.name) with
    | true =>
     rw [hb] at hbf
     have hn:notB e x=false:=by simp [notB,hb]
     rw [hn] at ho1 ⊢
     have h1:o1=o:=by rw [← ho1];simp
     refine wk9 [0,3,5,6,7,26] mx (by decide +kernel) ?_
     refine yd9 6 (by simp [zf9,c,ci,he2];rfl) rfl ?_
     refine yd9 4 (by simp [c,ci,he2,seA,strB];rfl) rfl ?_
     refine yv9 (by simp) (by first | (simp;done) | (simp;rfl)) hbf (by simp;rfl) ?_
     refine yb9 (by simp;rfl) ?_
     refine yt9 (t:=false) rfl (fun h=>by simp at h) (fun h=>?_)
     refine ym9 [0,3,5,6,7] ?_
     refine yg9 ?_
     exact ⟨y,by rw [h1];exact hy,by simp [zf9]⟩
    | false =>
     rw [hb] at hbf
     have hn:notB e x=true:=by simp [notB,hb]
     rw [hn] at ho1 ⊢
     have h1:o1=o++[x]:=by rw [← ho1];simp
     have b1:(o.length+1) * 32≤140737488355328:=by omega
     have b2:32 * (o.length+1)≤140737488355328:=by omega
     refine wk9 [0,3,5,6,7,26] mx (by decide +kernel) ?_
     refine yd9 6 (by simp [zf9,c,ci,he2];rfl) rfl ?_
     refine yd9 4 (by simp [c,ci,he2,seA,strB];rfl) rfl ?_
     refine yv9 (by simp) (by first | (simp;done) | (simp;rfl)) hbf (by simp;rfl) ?_
     refine yb9 (by simp;rfl) ?_
     refine yt9 (t:=true) rfl (fun h=>?_) (fun h=>by simp at h)
     rcases hy with ⟨h0,rfl⟩ | rfl
     ·subst h0
      refine yr9 [0,3,5,6,7] (by simp [catK,AV.cellsK,AV.kone,AV.koneL,hsx0];rfl) ?_
      refine zr9 [0,3,5,6,7] (by simp;rfl) ?_
      exact ⟨_,.inr rfl,by rw [h1];simp⟩
     ·refine yr9 [0,3,5,6,7] (by simp [catK,AV.cellsK,AV.kone,AV.koneL,hsx,b1,b2];rfl) ?_
      refine zr9 [0,3,5,6,7] (by simp;rfl) ?_
      exact ⟨_,.inr rfl,by rw [h1];simp⟩
  rintro _ ⟨y1,hy1,rfl⟩
  obtain ⟨d1,hd1⟩:∃ d1,(d || notB e x)=d1:=⟨_,rfl⟩
  rw [hd1] at hgo ⊢
  have b1:(o1.length+1) * 32≤140737488355328:=by omega
  have b2:32 * (o1.length+1)≤140737488355328:=by omega
  have step : ∀ (y2 : AV) (o2 : List SE), jb8 x (L.drop (i + 1)) d1 o2 = R → outI y2 o2 → o2.length ≤ 2 * (i + 1) →
    ∃ (i' : Nat) (d : Bool) (o : List SE) (y : AV), L.length - (i + 1) = L.length - i' ∧ i' ≤ L.length ∧ jb8 x (L.drop i') d o = R ∧ outI y o ∧ o.length ≤ 2 * i' ∧
     (⟨53,[(0,.lst .any 3 (seL L)),(3,.loc 0 0),(5,y2),(6,.v (.bool d1)),(7,.v (.int .i64 ((i:Int)+1)))],[.cells 51 [.v (.string ⟨x.name.toArray⟩),.v (.int .i64 (x.trk:Nat)),.v (.int .i64 (x.rn:Nat))]]⟩:St)=⟨53,[(0,.lst .any 3 (seL L)),(3,.loc 0 0),(5,y),(6,.v (.bool d)),(7,.v (.int .i64 (i':Nat)))],[.cells 51 [.v (.string ⟨x.name.toArray⟩),.v (.int .i64 (x.trk:Nat)),.v (.int .i64 (x.rn:Nat))]]⟩ :=
   fun y2 o2 h1 h2 h3=>⟨i+1,d1,o2,y2,rfl,by omega,h1,h2,h3,by simp⟩
  by_cases hn:e.name=x.name
  ·rw [if_pos hn,List.append_nil] at hgo
   refine wk9 [0,3,5,6,7,38] mx (by decide +kernel) ?_
   refine yd9 5 (by simp [c,ci,he2,seA,strB];rfl) rfl ?_
   refine yb9 (by simp [hn];rfl) ?_
   refine yt9 (t:=false) (by simp) (fun h=>by simp at h) (fun h=>?_)
   refine ym9 [0,3,5,6,7] ?_
   refine yg9 ?_
   repeat (first | refine on_norm ?_ | refine in_norm ?_)
   refine zr9 [0,3,5,6,7] (by simp [zf9,wi];rfl) ?_
   obtain ⟨i',d',o',y',q1,q2⟩:=step y1 o1 hgo hy1 (by omega)
   exact ⟨L.length - (i+1),by omega,i',d',o',y',q1,q2⟩
  ·rw [if_neg hn] at hgo
   have hnb:¬ strB e.name=strB x.name:=fun h=>hn (by simpa [strB] using h)
   simp only [strB,AV.v.injEq,Value.string.injEq] at hnb
   refine wk9 [0,3,5,6,7,38] mx (by decide +kernel) ?_
   refine yd9 5 (by simp [c,ci,he2,seA,strB];rfl) rfl ?_
   refine yb9 (by simp [hn,hnb];rfl) ?_
   refine yt9 (t:=true) (by simp [hn,hnb]) (fun h=>?_) (fun h=>by simp at h)
   rcases hy1 with ⟨h0,rfl⟩ | rfl
   ·subst h0
    refine zr9 [0,3,5,6,7] (by simp [zf9,c,ci,he2,seA,strB,catK,AV.cellsK,AV.kone,AV.koneL,hse0];rfl) ?_
    repeat (first | refine on_norm ?_ | refine in_norm ?_)
    refine W_tok 5 51 91 61 rfl rfl ?_
    refine zr9 [0,3,5,6,7] (by simp [zf9,wi,putF,qn7,getF,AV.kill];rfl) ?_
    obtain ⟨i',d',o',y',q1,q2⟩:=step (.lst (.tip 51 61) 3 (seL [e])) [e] hgo (.inr rfl) (by simp;omega)
    exact ⟨L.length - (i+1),by omega,i',d',o',y',q1,q2⟩
   ·refine zr9 [0,3,5,6,7] (by simp [zf9,c,ci,he2,seA,strB,catK,AV.cellsK,AV.kone,AV.koneL,hse,b1,b2];rfl) ?_
    repeat (first | refine on_norm ?_ | refine in_norm ?_)
    refine zr9 [0,3,5,6,7] (by simp [zf9,wi];rfl) ?_
    obtain ⟨i',d',o',y',q1,q2⟩:=step (.lst (.tip 51 61) 3 (seL (o1++[e]))) (o1++[e]) hgo (.inr rfl) (by simp;omega)
    exact ⟨L.length - (i+1),by omega,i',d',o',y',q1,q2⟩
 ·have hie : i = L.length := by omega
  subst hie
  rw [List.drop_length,jb8] at hgo
  refine yr9 [3,5,6,11] (by simp;rfl) ?_
  refine yt9 (t:=false) (by simp) (fun h=>by simp at h) (fun h=>?_)
  refine ym9 [3,5,6] ?_
  refine zs9 ?_
  refine yh9 ?_
  have b1:(o.length+1) * 32≤140737488355328:=by omega
  have b2:32 * (o.length+1)≤140737488355328:=by omega
  cases d with
  | true =>
   rw [if_pos rfl] at hgo
   subst hgo
   refine yr9 [3,5,47] (by simp [zf9];rfl) ?_
   refine yt9 (t:=false) rfl (fun h=>by simp at h) (fun h=>?_)
   refine ym9 [5] ?_
   refine yg9 ?_
   repeat (first | refine on_norm ?_ | refine in_norm ?_)
   rcases hy with ⟨h0,rfl⟩ | rfl
   ·subst h0
    refine yr9 [4] (by simp [zf9];rfl) ?_
    refine yj9 ?_
    repeat (first | refine yp9 ?_ | refine ys9 ?_)
    exact ⟨_,by simp [retQ];exact ⟨rfl,by simp [AV.rf,AV.rfL]⟩,.inr (by simp [AV.plain,seL])⟩
   ·refine yr9 [4] (by simp [zf9];rfl) ?_
    refine yj9 ?_
    repeat (first | refine yp9 ?_ | refine ys9 ?_)
    exact ⟨_,by simp [retQ];exact ⟨rfl,by simp [AV.rf,AV.rfL]⟩,.inr (by simp [AV.plain])⟩
  | false =>
   rw [if_neg (by simp)] at hgo
   subst hgo
   refine yr9 [3,5,47] (by simp [zf9];rfl) ?_
   refine yt9 (t:=true) rfl (fun h=>?_) (fun h=>by simp at h)
   rcases hy with ⟨h0,rfl⟩ | rfl
   ·subst h0
    refine zr9 [5] (by simp [catK,AV.cellsK,AV.kone,AV.koneL,hsx0];rfl) ?_
    repeat (first | refine on_norm ?_ | refine in_norm ?_)
    refine yr9 [4] (by simp;rfl) ?_
    refine yj9 ?_
    repeat (first | refine yp9 ?_ | refine ys9 ?_)
    exact ⟨_,by simp [retQ];exact ⟨rfl,by simp [AV.rf,AV.rfL]⟩,.inr (by simp [AV.plain])⟩
   ·refine zr9 [5] (by simp [catK,AV.cellsK,AV.kone,AV.koneL,hsx,b1,b2];rfl) ?_
    repeat (first | refine on_norm ?_ | refine in_norm ?_)
    refine yr9 [4] (by simp;rfl) ?_
    refine yj9 ?_
    repeat (first | refine yp9 ?_ | refine ys9 ?_)
    exact ⟨_,by simp [retQ];exact ⟨rfl,by simp [AV.rf,AV.rfL]⟩,.inr (by simp [AV.plain])⟩
def okN (e:RE):Prop:=e.key.length=8∧symM (nmM e.key)=true
theorem nm_key {a b:RE} (ha:okN a) (hb:okN b) (h:(nmE a).name=(nmE b).name):a.key=b.key:=by
 have h1:=qt7 ha.1 ha.2
 have h2:=qt7 hb.1 hb.2
 rw [← h1,← h2]
 exact congrArg padK h
theorem notB_nm {a b:RE} (ha:okN a) (hb:okN b):notB (nmE a) (nmE b)=!Op.bytesLess a.key b.key:=by
 show (!Op.bytesLess (padK (nmM a.key)) (padK (nmM b.key)))=_
 rw [qt7 ha.1 ha.2,qt7 hb.1 hb.2]
theorem zc7 {e : RE} (he : okN e) : ∀ (L : List RE) (o : List SE), (∀ x ∈ L, okN x) → (∀ x ∈ L, Op.bytesLess e.key x.key = true) → jb8 (nmE e) (L.map nmE) true o = o ++ L.map nmE
 | [],o,_,_=>by simp [jb8]
 | x :: L,o,h1,h2=>by
  have hx:=h1 x List.mem_cons_self
  have hlt:=h2 x List.mem_cons_self
  have hne:¬ (nmE x).name=(nmE e).name:=fun h=>by
   rw [nm_key hx he h,ug9] at hlt
   cases hlt
  rw [List.map_cons,jb8,Bool.true_or,if_neg hne]
  simp only [Bool.not_true,Bool.false_and,Bool.false_eq_true,if_false]
  rw [zc7 he L _ (fun y hy=>h1 y (List.mem_cons_of_mem _ hy)) (fun y hy=>h2 y (List.mem_cons_of_mem _ hy)),List.append_assoc]
  rfl
theorem insGo_eq {e : RE} (he : okN e) : ∀ (L : List RE) (o : List SE), (∀ x ∈ L, okN x) → L.Pairwise ltE → jb8 (nmE e) (L.map nmE) false o = o ++ (insE L e).map nmE
 | [],o,_,_=>by simp [jb8,insE,posE,fndE]
 | x :: L,o,h1,h2=>by
  have hx:=h1 x List.mem_cons_self
  have h1':∀ y∈L,okN y:=fun y hy=>h1 y (List.mem_cons_of_mem _ hy)
  rw [List.pairwise_cons] at h2
  obtain ⟨hp1,hp2⟩:=h2
  rw [List.map_cons,jb8,notB_nm hx he]
  cases hlt:Op.bytesLess x.key e.key with
  | true =>
   have hne:¬ (nmE x).name=(nmE e).name:=fun h=>by
    rw [nm_key hx he h,ug9] at hlt
    cases hlt
   rw [if_neg hne]
   simp only [Bool.not_true,Bool.or_false,Bool.and_false,Bool.false_eq_true,if_false]
   rw [insGo_eq he L _ h1' hp2]
   have hpos:posE (x :: L) e.key=posE L e.key+1:=by
    unfold posE
    rw [List.takeWhile_cons,hlt]
    rfl
   have hfnd:fndE (x :: L) e.key=fndE L e.key:=by
    unfold fndE
    rw [hpos,List.getElem?_cons_succ]
   unfold insE
   rw [hpos,hfnd,Nat.add_right_comm,List.take_succ_cons,List.drop_succ_cons]
   simp
  | false =>
   have hpos:posE (x :: L) e.key=0:=by
    unfold posE
    rw [List.takeWhile_cons,hlt]
    rfl
   simp only [Bool.not_false,Bool.or_true,Bool.and_true,if_true]
   by_cases hk:x.key=e.key
   ·have hn : (nmE x).name = (nmE e).name := by show nmM x.key = nmM e.key; rw [hk]
    have hfnd:fndE (x :: L) e.key=true:=by
     unfold fndE
     rw [hpos]
     simp [hk]
    rw [if_pos hn,List.append_nil,zc7 he L _ h1' (fun y hy=>by rw [← hk];exact hp1 y hy)]
    unfold insE
    rw [hpos,hfnd]
    simp
   ·have hn : ¬ (nmE x).name = (nmE e).name := fun h => hk (nm_key hx he h)
    have hgt:Op.bytesLess e.key x.key=true:=uf6 hlt hk
    have hfnd:fndE (x :: L) e.key=false:=by
     unfold fndE
     rw [hpos]
     simp [hk]
    rw [if_neg hn,zc7 he L _ h1' (fun y hy=>vc9 hgt (hp1 y hy))]
    unfold insE
    rw [hpos,hfnd]
    simp
set_option maxRecDepth 20000
theorem sbytes_sound (a b:List UInt8) (hl:a.length≤1000000000):Sound Tryz.prog 42 [.lst .any 1 (byL a),.lst .any 1 (byL b)] (.v (.bool (decide (a=b)))):=by
 refine yc9 Tryz.func42 rfl (by decide +kernel) (by simp [Tryz.f42]) (by simp [AV.rfL,AV.rf]) (by simp [AV.tlL,AV.tl]) (rs:=[.tmp 4]) rfl ?_
 rw [show Tryz.f42.ntmps=26 from rfl]
 refine yr9 [0,1,4] (by simp;rfl) ?_
 refine yh9 ?_
 by_cases c:a.length=b.length
 ·have ci : (a.length : Int) = b.length := by omega
  refine yr9 [0,1,10] (by simp [c,ci];rfl) ?_
  refine yt9 (t:=false) (by simp [c,ci]) (fun h=>by simp at h) (fun h=>?_)
  refine yg9 ?_
  repeat (first | refine on_norm ?_ | refine in_norm ?_)
  refine yh9 ?_
  refine yr9 [0,1,5] (by simp;rfl) ?_
  refine yl9 ?_
  refine zj9 (fun q σ=>∃ i:Nat,q=a.length - i∧i≤a.length∧a.take i=b.take i∧σ=⟨26,[(0,.lst .any 1 (byL a)),(1,.lst .any 1 (byL b)),(5,.v (.int .i64 (i:Nat)))],[]⟩) (k:=a.length) ⟨0,rfl,by omega,by simp,by simp⟩ ?_
  rintro q σ ⟨i,rfl,hi,hab,rfl⟩
  refine yh9 ?_
  by_cases hi2:i < a.length
  ·have hj2 : i < b.length := by omega
   have hi2':(i:Int) < a.length:=by omega
   have hj2':(i:Int) < b.length:=by omega
   obtain ⟨r,hr⟩:∃ r,a[i]?=some r:=⟨_,List.getElem?_eq_getElem hi2⟩
   obtain ⟨q,hq⟩:∃ q,b[i]?=some q:=⟨_,List.getElem?_eq_getElem hj2⟩
   have hr2:a[i]'hi2=r:=by rw [List.getElem?_eq_getElem hi2] at hr;exact Option.some.inj hr
   have hq2:b[i]'hj2=q:=by rw [List.getElem?_eq_getElem hj2] at hq;exact Option.some.inj hq
   have wi:=w64 (n:=(i:Int)+1) (by omega) (by omega)
   refine yr9 [0,1,5,14] (by simp [hi2,hi2'];rfl) ?_
   refine yt9 (t:=true) (by simp [hi2,hi2']) (fun h=>?_) (fun h=>by simp at h)
   refine yg9 ?_
   repeat (first | refine on_norm ?_ | refine in_norm ?_)
   refine yh9 ?_
   refine yl9 ?_
   by_cases e:r=q
   ·subst e
    refine W_dvK [0,1,5,25] mx (by decide +kernel) (by simp [hi2,hi2',hj2,hj2',hr2,hq2,hr,hq];rfl) ?_
    refine yt9 (t:=false) (by simp) (fun h=>by simp at h) (fun h=>?_)
    refine yg9 ?_
    repeat (first | refine on_norm ?_ | refine in_norm ?_)
    refine zr9 [0,1,5] (by simp [wi];rfl) ?_
    exact ⟨_,by omega,i+1,rfl,by omega,vg9 hr hq hab,by simp⟩
   ·have hne:¬ a=b:=fun he=>e (by rw [he,hq] at hr;exact (Option.some.inj hr).symm)
    have hnb:¬ r.toNat=q.toNat:=fun h=>e (UInt8.toNat_inj.1 h)
    have hnbi:¬ (r.toNat:Int)=(q.toNat:Int):=by omega
    have hnbB:((r.toNat:Int) != (q.toNat:Int))=true:=by simp;omega
    refine W_dvK [25] mx (by decide +kernel) (by simp [hi2,hi2',hj2,hj2',hr2,hq2,hr,hq,hnb,hnbi,hnbB,e];rfl) ?_
    refine yt9 (t:=true) (by simp [hnb,hnbi,hnbB,e]) (fun h=>?_) (fun h=>by simp at h)
    refine yr9 [4] (by simp;rfl) ?_
    refine yj9 ?_
    repeat (first | refine yp9 ?_ | refine ys9 ?_)
    simp [retQ,hne]
  ·have hie : i = a.length := by omega
   have heq:a=b:=by
    have h1:=hab
    rw [hie,List.take_length,c,List.take_length] at h1
    exact h1
   refine yr9 [14] (by simp [hie];rfl) ?_
   refine yt9 (t:=false) (by simp [hie]) (fun h=>by simp at h) (fun h=>?_)
   refine zs9 ?_
   repeat (first | refine on_exit ?_ | refine in_exit ?_)
   refine yr9 [4] (by simp;rfl) ?_
   refine yj9 ?_
   repeat (first | refine yp9 ?_ | refine ys9 ?_)
   simp [retQ,heq]
 ·have ci:¬ (a.length:Int)=b.length:=by omega
  have hne:a≠b:=fun h=>c (by rw [h])
  refine yr9 [10] (by simp [c,ci];rfl) ?_
  refine yt9 (t:=true) (by simp [c,ci]) (fun h=>?_) (fun h=>by simp at h)
  refine yr9 [4] (by simp;rfl) ?_
  refine yj9 ?_
  repeat (first | refine yp9 ?_ | refine ys9 ?_)
  simp [retQ,hne]
theorem srecs_sound (a b:List (List UInt8)) (hl:a.length≤1000000000) (hr0:∀ x∈a,x.length≤1000000000):Sound Tryz.prog 10 [.lst .any 1 (bbL a),.lst .any 1 (bbL b)] (.v (.bool (decide (a=b)))):=by
 refine yc9 Tryz.func10 rfl (by decide +kernel) (by simp [Tryz.f10]) (by simp [AV.rfL,AV.rf]) (by simp [AV.tlL,AV.tl]) (rs:=[.tmp 4]) rfl ?_
 rw [show Tryz.f10.ntmps=27 from rfl]
 refine yr9 [0,1,4] (by simp;rfl) ?_
 refine yh9 ?_
 by_cases c:a.length=b.length
 ·have ci : (a.length : Int) = b.length := by omega
  refine yr9 [0,1,10] (by simp [c,ci];rfl) ?_
  refine yt9 (t:=false) (by simp [c,ci]) (fun h=>by simp at h) (fun h=>?_)
  refine yg9 ?_
  repeat (first | refine on_norm ?_ | refine in_norm ?_)
  refine yh9 ?_
  refine yr9 [0,1,5] (by simp;rfl) ?_
  refine yl9 ?_
  refine zj9 (fun q σ=>∃ i:Nat,q=a.length - i∧i≤a.length∧a.take i=b.take i∧σ=⟨27,[(0,.lst .any 1 (bbL a)),(1,.lst .any 1 (bbL b)),(5,.v (.int .i64 (i:Nat)))],[]⟩) (k:=a.length) ⟨0,rfl,by omega,by simp,by simp⟩ ?_
  rintro q σ ⟨i,rfl,hi,hab,rfl⟩
  refine yh9 ?_
  by_cases hi2:i < a.length
  ·have hj2 : i < b.length := by omega
   have hi2':(i:Int) < a.length:=by omega
   have hj2':(i:Int) < b.length:=by omega
   obtain ⟨r,hr⟩:∃ r,a[i]?=some r:=⟨_,List.getElem?_eq_getElem hi2⟩
   obtain ⟨q,hq⟩:∃ q,b[i]?=some q:=⟨_,List.getElem?_eq_getElem hj2⟩
   have hr2:a[i]'hi2=r:=by rw [List.getElem?_eq_getElem hi2] at hr;exact Option.some.inj hr
   have hq2:b[i]'hj2=q:=by rw [List.getElem?_eq_getElem hj2] at hq;exact Option.some.inj hq
   have wi:=w64 (n:=(i:Int)+1) (by omega) (by omega)
   refine yr9 [0,1,5,14] (by simp [hi2,hi2'];rfl) ?_
   refine yt9 (t:=true) (by simp [hi2,hi2']) (fun h=>?_) (fun h=>by simp at h)
   refine yg9 ?_
   repeat (first | refine on_norm ?_ | refine in_norm ?_)
   refine yh9 ?_
   refine yl9 ?_
   have hsb:=sbytes_sound r q (hr0 r (List.mem_of_getElem? hr))
   by_cases e:r=q
   ·rw [decide_eq_true e] at hsb
    refine wk9 [0,1,5,26] mx (by decide +kernel) ?_
    refine yd9 8 (by simp [hi2,hi2',hj2,hj2',hr2,hq2];rfl) rfl ?_
    refine yv9 (by simp) (by first | (simp;done) | (simp;rfl)) hsb (by simp;rfl) ?_
    refine yb9 (by simp;rfl) ?_
    refine yt9 (t:=false) (by simp) (fun h=>by simp at h) (fun h=>?_)
    refine yg9 ?_
    repeat (first | refine on_norm ?_ | refine in_norm ?_)
    refine zr9 [0,1,5] (by simp [wi];rfl) ?_
    subst e
    exact ⟨_,by omega,i+1,rfl,by omega,vg9 hr hq hab,by simp⟩
   ·have hne:¬ a=b:=fun he=>e (by rw [he,hq] at hr;exact (Option.some.inj hr).symm)
    rw [decide_eq_false e] at hsb
    refine wk9 [26] mx (by decide +kernel) ?_
    refine yd9 8 (by simp [hi2,hi2',hj2,hj2',hr2,hq2];rfl) rfl ?_
    refine yv9 (by simp) (by first | (simp;done) | (simp;rfl)) hsb (by simp;rfl) ?_
    refine yb9 (by simp;rfl) ?_
    refine yt9 (t:=true) (by simp) (fun h=>?_) (fun h=>by simp at h)
    refine yr9 [4] (by simp;rfl) ?_
    refine yj9 ?_
    repeat (first | refine yp9 ?_ | refine ys9 ?_)
    simp [retQ,hne]
  ·have hie : i = a.length := by omega
   have heq:a=b:=by
    have h1:=hab
    rw [hie,List.take_length,c,List.take_length] at h1
    exact h1
   refine yr9 [14] (by simp [hie];rfl) ?_
   refine yt9 (t:=false) (by simp [hie]) (fun h=>by simp at h) (fun h=>?_)
   refine zs9 ?_
   repeat (first | refine on_exit ?_ | refine in_exit ?_)
   refine yr9 [4] (by simp;rfl) ?_
   refine yj9 ?_
   repeat (first | refine yp9 ?_ | refine ys9 ?_)
   simp [retQ,heq]
 ·have ci:¬ (a.length:Int)=b.length:=by omega
  have hne:a≠b:=fun h=>c (by rw [h])
  refine yr9 [10] (by simp [c,ci];rfl) ?_
  refine yt9 (t:=true) (by simp [c,ci]) (fun h=>?_) (fun h=>by simp at h)
  refine yr9 [4] (by simp;rfl) ?_
  refine yj9 ?_
  repeat (first | refine yp9 ?_ | refine ys9 ?_)
  simp [retQ,hne]
set_option maxRecDepth 20000
structure ME where
 name:List UInt8
 recs:List (List UInt8)
 deriving DecidableEq
def meA (m:ME):AV:=.agg [strB m.name,.lst .any 1 (bbL m.recs)]
def meL (l:List ME):List AV:=l.map meA
@[simp] theorem meL_length (L:List ME):(meL L).length=L.length:=by simp [meL]
@[simp] theorem meL_getElem (L:List ME) (i:Nat) (h:i < (meL L).length):(meL L)[i]=meA (L[i]'(by simpa using h)):=by simp [meL]
def addN (acc:List (List UInt8)) (s:List UInt8):List (List UInt8):=if s∈acc then acc else acc++[s]
def um8 (l:List (List UInt8)):List (List UInt8):=l.foldl addN []
def namE (l:List (List UInt8)):List (Value × AV):=l.map fun s=>(.string ⟨s.toArray⟩,.v (.bool true))
@[simp] theorem namE_length (l:List (List UInt8)):(namE l).length=l.length:=by simp [namE]
theorem ba_beq24 (a b:List UInt8):((ByteArray.mk a.toArray) == (ByteArray.mk b.toArray))=(a == b):=by
 rw [Bool.eq_iff_iff,MapKept.bytes_beq]
 simp
theorem mset_nam (s : List UInt8) : ∀ l : List (List UInt8), mset .string (.string ⟨s.toArray⟩) (.v (.bool true)) (namE l) = some (namE (addN l s))
 | []=>rfl
 | t :: l=>by
  have ih:=mset_nam s l
  simp only [namE,List.map_cons,mset,Instr.sameNow,ba_beq24]
  by_cases h:s=t
  ·simp [h,addN]
  ·rw [show (s == t)=false by simpa using h]
   show Option.map _ (mset _ _ _ (namE l))=_
   rw [ih]
   unfold addN
   by_cases h2:s∈l
   ·rw [if_pos h2,if_pos (List.mem_cons_of_mem _ h2)];rfl
   ·rw [if_neg h2,if_neg (by simp [h,h2])];rfl
theorem addN_len (l:List (List UInt8)) (s:List UInt8):(addN l s).length≤l.length+1:=by
 unfold addN
 split <;> simp
theorem addN_nodup {l:List (List UInt8)} (h:l.Nodup) (s:List UInt8):(addN l s).Nodup:=by
 unfold addN
 split
 ·exact h
 ·rename_i hs
  rw [List.nodup_append]
  exact ⟨h,by simp,fun a ha b hb=>by rw [List.mem_singleton.1 hb];exact fun e=>hs (e ▸ ha)⟩
theorem ks7 : ∀ (l acc : List (List UInt8)), (l.foldl addN acc).length ≤ acc.length + l.length
 | [],acc=>by simp
 | s :: l,acc=>by
  have h1:=ks7 l (addN acc s)
  have h2:=addN_len acc s
  simp
  omega
theorem xh6 : ∀ (l acc : List (List UInt8)), acc.Nodup → ((l.foldl addN acc).length = acc.length + l.length ↔ (acc ++ l).Nodup)
 | [],acc,h=>by simpa using h
 | s :: l,acc,h=>by
  have ih:=xh6 l (addN acc s) (addN_nodup h s)
  have h1:=ks7 l (addN acc s)
  simp only [List.foldl_cons,List.length_cons]
  by_cases hs:s∈acc
  ·have e:addN acc s=acc:=by unfold addN;rw [if_pos hs]
   rw [e] at h1 ⊢
   refine ⟨fun h=>by omega,fun h=>?_⟩
   rw [List.nodup_append] at h
   exact absurd rfl (h.2.2 s hs s List.mem_cons_self)
  ·have e:addN acc s=acc++[s]:=by unfold addN;rw [if_neg hs]
   rw [e] at ih h1 ⊢
   rw [List.append_assoc,List.singleton_append] at ih
   rw [← ih,List.length_append,List.length_singleton]
   omega
theorem xt6 (l:List (List UInt8)):(um8 l).length=l.length ↔ l.Nodup:=by
 have:=xh6 l [] List.nodup_nil
 simpa [um8] using this
theorem qm7 (l:List (List UInt8)):(um8 l).length≤l.length:=by
 have:=ks7 l []
 simpa [um8] using this
def stM (d : Dcb) (D : Nat) : List ME → List (List Rec) → List RE → Except Int (List (List Rec) × List RE)
 | [],u,l=>.ok (u,l)
 | m :: ms, u, l => if (zg9 d m.recs).2 = 0 then
   stM d D ms (wrE 0 u (zg9 d m.recs).1).1 (insE l ⟨padK m.name,D+(wrE 0 u (zg9 d m.recs).1).2.1,(wrE 0 u (zg9 d m.recs).1).2.2.toNat⟩)
  else .error (zg9 d m.recs).2
def ptrR (D n : Nat) : Except Int (List (List Rec) × List RE) → List (List Rec) × Int
 | .error e=>([],e)
 | .ok (u,l)=>if 512 < D+u.length then ([],200) else (layG l n++u,0)
def ptrM (d:Dcb) (ms:List ME) (dir:Int):List (List Rec) × Int :=
 if dir < 1∨64 < dir then ([],1)
 else if wp7 d=false then ([],5)
 else if ms.all (fun m=>symM m.name)=false then ([],5)
 else if (um8 (ms.map (·.name))).length < ms.length then ([],4)
 else if 21 * dir < (um8 (ms.map (·.name))).length then ([],7)
 else ptrR ((dir.toNat+5) / 6) dir.toNat (stM d ((dir.toNat+5) / 6) ms [] [])
theorem frz_rc {H : List AObj} {id cap : Nat} {A : List (List Rec)} {cs : List AV} (hrc : RC A cap cs) (hid : H[id]? = some (.cells 80 (AV.dpL cs))) (tk : Nat) :
  ∃ o h',(o=.any∨o=.tip 80 tk)∧ws9 Tryz.prog H tk id 0 A.length cap=some (.lst o 1 (arL A),h'):=by
 have hcl:=hrc.len
 have hce:=hrc.le
 have hfin:=hrc.fin
 have hdl:=wf9 cs
 obtain ⟨D,hD⟩:∃ D,AV.dpL cs=D:=⟨_,rfl⟩
 rw [hD] at hfin hdl hid
 have hDl:D.length=cap:=by omega
 have hch:chunk false 1 A.length (arL A)=arL A:=by
  have:=chunk1 (arL A)
  rw [wt6] at this
  exact this
 have hwl:(AV.weakL D).length=cap:=by
  have:∀ xs:List AV,(AV.weakL xs).length=xs.length:=fun xs=>by induction xs <;> simp_all [AV.weakL]
  rw [this,hDl]
 have hck:chunk false 1 A.length (AV.weakL D)=arL A:=by
  rw [wq6 _ _ (by omega),← weakL_take24,hfin,weakL_arL]
 unfold ws9
 rw [hid]
 by_cases hk:AV.koneL D=true∧AV.rfL D=true
 ·by_cases hmc : A.length = cap
  ·rw [hmc] at hck
   exact ⟨.tip 80 tk,_,.inr rfl,by simp [hck,hDl,hk,hmc];rfl⟩
  ·exact ⟨.any,_,.inl rfl,by simp [hfin,hck,hDl,hce,hk,hmc];rfl⟩
 ·exact ⟨.any,_,.inl rfl,by simp [hfin,hch,hDl,hce,hk];rfl⟩
theorem qp6 : ∀ (l : List RE), (∀ e ∈ l, e.key.length = 8) → ∀ rest, chunk true 10 l.length (reCs l ++ rest) = reL l
 | [],_,_=>rfl
 | e :: l,h,rest=>by
  have h1:=xr9 (h e List.mem_cons_self)
  rw [List.length_cons,chunk,vr8,List.append_assoc,if_pos rfl,List.take_left' h1,List.drop_left' h1,qp6 l fun x hx=>h x (List.mem_cons_of_mem _ hx)]
  rfl
theorem vl7 : ∀ {cs : List AV}, vals cs → AV.weakL cs = cs
 | [],_=>rfl
 | x :: cs,h=>by
  rcases h x List.mem_cons_self with ⟨v,rfl⟩ | rfl <;> simp only [AV.weakL,AV.weak,vl7 fun y hy=>h y (List.mem_cons_of_mem _ hy)]
theorem wc6 : ∀ {cs : List AV}, vals cs → AV.rfL cs = true
 | [],_=>rfl
 | x :: cs,h=>by
  rcases h x List.mem_cons_self with ⟨v,rfl⟩ | rfl <;> simp only [AV.rfL,AV.rf,wc6 fun y hy=>h y (List.mem_cons_of_mem _ hy),Bool.and_self]
theorem xw6 : ∀ (l : List RE), AV.koneL (reCs l) = true
 | []=>rfl
 | e :: l=>by
  rw [vr8]
  have:∀ a b:List AV,AV.koneL a=true→AV.koneL b=true→AV.koneL (a++b)=true:=by
   intro a
   induction a with
   | nil=>intro b _ h;exact h
   | cons x a ih =>
    intro b h1 h2
    simp only [AV.koneL,Bool.and_eq_true,List.cons_append] at h1 ⊢
    exact ⟨h1.1,ih b h1.2 h2⟩
  exact this _ _ (koneL_reC e) (xw6 l)
theorem frz_ent {H : List AObj} {id cap : Nat} {l : List RE} {cs : List AV} (hE : EntC cs cap l) (h8 : ∀ e ∈ l, e.key.length = 8) (hid : H[id]? = some (.cells 78 cs)) (tk : Nat) :
  ∃ o h',ws9 Tryz.prog H tk id 0 l.length cap=some (.lst o 10 (reL l),h')∧(o=.any∨o=.tip 78 tk):=by
 have hcl:=hE.len
 have hn:=hE.n
 have hc:=hE.c
 have hv:=hE.v
 have hch:chunk true 10 l.length cs=reL l:=by
  have:=qp6 l h8 (cs.drop (l.length * 10))
  rwa [← hc,List.take_append_drop] at this
 have hch2:chunk true 10 l.length (reCs l)=reL l:=by
  have:=qp6 l h8 []
  rwa [List.append_nil] at this
 unfold ws9
 rw [hid]
 have hw:=vl7 hv
 have hwr:=vl7 (vals_reCs l)
 have hmul:l.length * 10≤cap * 10:=by omega
 by_cases hk:AV.koneL cs=true
 ·by_cases hmc : l.length = cap
  ·have hch3:chunk true 10 cap cs=reL l:=by rw [← hmc];exact hch
   exact ⟨.tip 78 tk,H.set id (.froz 78 cs),by simp [hch3,hch,hw,hk,wc6 hv,hcl,hmc],.inr rfl⟩
  ·exact ⟨.any,_,by simp [hch,hw,hk,wc6 hv,hcl,hmc,hn,hmul];rfl,.inl rfl⟩
 ·exact ⟨.any,_,by simp [hch2,hwr,hw,hk,hc,wc6 (vals_reCs l),xw6,hcl,hn,hmul];rfl,.inl rfl⟩
set_option maxRecDepth 20000
def zh9 (d:Dcb) (rs:List (List UInt8)) (ms:List ME):List AV:=[.v (.int .i64 d.org),.v (.int .i64 d.fmt),.v (.bool d.blk),.v (.bool d.asa),.v (.int .i64 d.lrecl),.v (.int .i64 d.size),.v (.int .i64 d.klen),.v (.int .i64 d.kpos),.lst .any 1 (bbL rs),.lst .any 2 (meL ms)]
def EntO (H:List AObj) (e:AV) (l:List RE):Prop:=(e=.lst .nil 10 []∧l=[])∨∃ idE capE csE,e=.arr idE 0 l.length capE∧H[idE]?=some (.cells 78 csE)∧EntC csE capE l
structure TkS (C:List AV) (n:Nat) (H:List AObj) (e:AV) (idT cap:Nat) (T:List (List Rec)) (cs:List AV):Prop where
 shut:yn9 H.length H=true
 c0:H[0]?=some (.cells 42 C)
 d2:H[2]?=some (.cells 70 [e,.v (.int .i64 (n:Nat))])
 obj:H[idT]?=some (.cells 80 cs)
 rc:RC T cap cs
 kl:AV.killL 29 cs=cs
 cap:cap≤maxLen
theorem TkS.lt {C:List AV} {n:Nat} {H:List AObj} {e:AV} {idT cap:Nat} {T:List (List Rec)} {cs:List AV} (h:TkS C n H e idT cap T cs):2 < H.length:=(List.getElem?_eq_some_iff.1 h.d2).1
theorem TkS.app {C:List AV} {n:Nat} {H:List AObj} {e:AV} {idT cap:Nat} {T:List (List Rec)} {cs:List AV} (h:TkS C n H e idT cap T cs) (X:List AObj) (hX:yn9 (H.length+X.length) X=true):TkS C n (H++X) e idT cap T cs where
 shut:=by rw [zm9,List.length_append,xc9 (by omega) _ h.shut,hX];rfl
 c0:=by rw [List.getElem?_append_left (by have:=h.lt;omega)];exact h.c0
 d2:=by rw [List.getElem?_append_left h.lt];exact h.d2
 obj:=by rw [List.getElem?_append_left (List.getElem?_eq_some_iff.1 h.obj).1];exact h.obj
 rc:=h.rc
 kl:=h.kl
 cap:=h.cap
theorem TkS.setE {C : List AV} {n : Nat} {H : List AObj} {e : AV} {idT cap : Nat} {T : List (List Rec)} {cs : List AV} (h : TkS C n H e idT cap T cs) {j : Nat} {o : AObj} (h0 : j ≠ 0) (h2 : j ≠ 2) (ht : j ≠ idT) (ho : o.under H.length = true) :
  TkS C n (H.set j o) e idT cap T cs where
 shut:=by rw [List.length_set];exact wc9 h.shut ho
 c0:=by rw [List.getElem?_set_ne h0];exact h.c0
 d2:=by rw [List.getElem?_set_ne h2];exact h.d2
 obj:=by rw [List.getElem?_set_ne ht];exact h.obj
 rc:=h.rc
 kl:=h.kl
 cap:=h.cap
theorem TkS.fin {C:List AV} {n:Nat} {H:List AObj} {e e':AV} {idT cap:Nat} {T:List (List Rec)} {cs:List AV} (h:TkS C n H e idT cap T cs) (he:e'.under H.length=true):TkS C n (H.set 2 (.cells 70 [e',.v (.int .i64 (n:Nat))])) e' idT cap T cs where
 shut:=by
  rw [List.length_set]
  refine wc9 h.shut ?_
  show AV.underL _ [e',_]=true
  simp only [AV.underL,he,AV.under,Bool.and_self]
 c0:=by rw [List.getElem?_set_ne (by decide)];exact h.c0
 d2:=by rw [List.getElem?_set_self h.lt]
 obj:=by
  rw [List.getElem?_set_ne]
  ·exact h.obj
  ·intro hc
   have h1:=h.obj
   rw [← hc,h.d2] at h1
   cases h1
 rc:=h.rc
 kl:=h.kl
 cap:=h.cap
theorem insE_nil (x:RE):insE [] x=[x]:=by simp [insE,posE,fndE]
theorem xr6 {T : Nat} : ∀ {cs : List AV}, vals cs → AV.killL T cs = cs
 | [],_=>rfl
 | x :: cs,h=>by
  rcases h x List.mem_cons_self with ⟨v,rfl⟩ | rfl <;> simp only [AV.killL,AV.kill,xr6 fun y hy=>h y (List.mem_cons_of_mem _ hy)]
theorem under6 {M:Nat} {g0 g1 g2 g3 g4:AObj} {cs:List AV} (hg:∀ o∈[g0,g1,g2,g3,g4],o.under M=true) (hv:vals cs):yn9 M [g0,g1,g2,g3,g4,.cells 78 cs]=true:=by
 have hc:(AObj.cells 78 cs).under M=true:=wd9 hv
 simp only [yn9,hg g0 (by simp),hg g1 (by simp),hg g2 (by simp),hg g3 (by simp),hg g4 (by simp),hc,Bool.and_self]
noncomputable def tkX:Code:=bkC (sq1 (sq2 (sq2 (lpC (bkC (sq2 (sq1 (sq2 (sq2 (sq2 (sq2 (sq2 (sq2 (sq2 (sq2 (Tryz.f14.body.getD .skip))))))))))))))))
def tkSt (idT cap n:Nat) (T:List (List Rec)) (ms:List ME) (i:Nat) (H:List AObj):St:=⟨102,[(2,.loc 0 0),(9,.loc 2 0),(10,.arr idT 0 T.length cap),(61,.lst .any 2 (meL ms)),(62,.v (.int .i64 (ms.length:Nat))),(63,.v (.int .i64 (i:Nat)))],H⟩
theorem tk_step {d : Dcb} {rs : List (List UInt8)} {ms : List ME} {n N : Nat} {H : List AObj} {e : AV} {l : List RE} {idT cap : Nat} {T : List (List Rec)} {cs : List AV} {i : Nat} {m : ME}
  (ts:TkS (zh9 d rs ms) n H e idT cap T cs) (he:EntO H e l) (hN:(n+5) / 6=N) (hn:n≤1000) (hTv:∀ t∈T,vtrk t=true) (hTl:T.length≤40000000) (hNT:N≤T.length) (hp:l.Pairwise ltE) (h8:∀ x∈l,x.key.length=8) (hl:l.length≤1100000)
  (hmi:ms[i]?=some m) (hs:symM m.name=true) (hrl:m.recs.length≤1100000) (hrr:∀ r∈m.recs,r.length≤1000000000)
  {Q:Exit→St→Prop} (hbad:∀ H',(zg9 d m.recs).2≠0→Q .ret ⟨102,[(4,.lst .nil 1 []),(5,.v (.int .i64 (zg9 d m.recs).2))],H'⟩)
  (hQ : (zg9 d m.recs).2 = 0 → ∀ H' e' idT' cap' cs', TkS (zh9 d rs ms) n H' e' idT' cap' (wrE N T (zg9 d m.recs).1).1 cs' → EntO H' e' (insE l ⟨padK m.name, (wrE N T (zg9 d m.recs).1).2.1, (wrE N T (zg9 d m.recs).1).2.2.toNat⟩) →
   Q .normal (tkSt idT' cap' n (wrE N T (zg9 d m.recs).1).1 ms i H')) :
  Wt true 0 Tryz.prog tkX Q (tkSt idT cap n T ms i H):=by
 have him:i < ms.length:=(List.getElem?_eq_some_iff.1 hmi).1
 have himi:(i:Int) < ms.length:=by omega
 have hme:ms[i]'him=m:=(List.getElem?_eq_some_iff.1 hmi).2
 have hblk:=block_sound d m.recs hrl hrr
 have hwp:=wl8 N T (zg9 d m.recs).1 hNT
 obtain ⟨p,hpe⟩:∃ p,zg9 d m.recs=p:=⟨_,rfl⟩
 rw [hpe] at hblk hbad hQ hwp
 unfold resB at hblk
 have hc0:=ts.c0
 unfold zh9 at hc0
 unfold tkSt
 refine yr9 [2,9,10,61,62,63,12] (by simp [him,himi,hme,meA,strB,yk9];rfl) ?_
 obtain ⟨h,hh⟩:∃ h,H.length=h:=⟨_,rfl⟩
 rw [hh]
 have hlt:=ts.lt
 obtain ⟨H1,hH1⟩:∃ H1,H++[AObj.cells 27 [.v (.string ⟨m.name.toArray⟩),.lst .any 1 (bbL m.recs)]]=H1:=⟨_,rfl⟩
 rw [hH1]
 have hkeep1:∀ (j:Nat) o,H[j]?=some o→H1[j]?=some o:=fun j o ho=>by
  rw [← hH1,List.getElem?_append_left (List.getElem?_eq_some_iff.1 ho).1];exact ho
 have hl1:H1.length=h+1:=by rw [← hH1,← hh];simp
 have hm1:H1[h]?=some (.cells 27 [.v (.string ⟨m.name.toArray⟩),.lst .any 1 (bbL m.recs)]):=by rw [← hH1,← hh];simp
 have hc1:=hkeep1 _ _ ts.c0
 unfold zh9 at hc1
 have hd1:=hkeep1 _ _ ts.d2
 refine W_rK [2,9,10,61,62,63,12,13,14] ?_
 refine yq9 4 (by simp [hc1,hm1];rfl) rfl ?_
 refine yf9 (by simp) (by first | (simp;done) | (simp;rfl)) hblk (by simp;rfl) ?_
 refine yw9 (by simp;rfl) ?_
 refine yh9 ?_
 by_cases c:p.2=0
 ·have c2 : (p.2 != 0) = false := by simpa using c
  refine yr9 [2,9,10,61,62,63,12,13,76] (by simp [c,c2];rfl) ?_
  refine yt9 (t:=false) rfl (fun h=>by simp at h) (fun _=>?_)
  refine ym9 [2,9,10,61,62,63,12,13] ?_
  refine yg9 ?_
  repeat (first | refine on_norm ?_ | refine in_norm ?_)
  refine xp7 13 (sz:=1) (xs:=bbL p.1) (o:=.tip 90 145) rfl ?_
  refine yr9 [2,9,10,61,62,63,12,13,15] (by simp [zf9,uh9,getF,putF];rfl) ?_
  rw [hl1]
  have hp0:zg9 d m.recs=(p.1,0):=by rw [hpe,← c]
  obtain ⟨hb1,hb2,hb3,hb4⟩:=yc7 hp0
  obtain ⟨H2,hH2⟩:∃ H2,H1++[AObj.cells 55 [.v (.int .i64 0),.v (.int .i64 0)]]=H2:=⟨_,rfl⟩
  rw [hH2]
  have hX:H++[AObj.cells 27 [.v (.string ⟨m.name.toArray⟩),.lst .any 1 (bbL m.recs)],.cells 55 [.v (.int .i64 0),.v (.int .i64 0)]]=H2:=by rw [← hH2,← hH1];simp
  have ts2:=ts.app [AObj.cells 27 [.v (.string ⟨m.name.toArray⟩),.lst .any 1 (bbL m.recs)],.cells 55 [.v (.int .i64 0),.v (.int .i64 0)]] (by simp [yn9,AObj.under,AV.under,AV.underL])
  rw [hX] at ts2
  have hm2:H2[h]?=some (.cells 27 [.v (.string ⟨m.name.toArray⟩),.lst .any 1 (bbL m.recs)]):=by rw [← hX,← hh];simp
  have hb2':H2[h+1]?=some (.cells 55 [.v (.int .i64 0),.v (.int .i64 0)]):=by rw [← hX,← hh];simp
  have hl2:H2.length=h+2:=by rw [← hX,← hh];simp
  have hTi:=(List.getElem?_eq_some_iff.1 ts.obj).1
  have he2:EntO H2 e l:=by
   rcases he with he | ⟨idE,capE,csE,h1,h2,h3⟩
   ·exact .inl he
   ·exact .inr ⟨idE,capE,csE,h1,by rw [← hX,List.getElem?_append_left (List.getElem?_eq_some_iff.1 h2).1];exact h2,h3⟩
  have hw:=write_callW T N p.1 hTv (fun b hb=>(hb4 b hb).2) (by omega) (by omega) (by omega) H2 ts2.shut idT cap cs ts2.obj ts2.rc ts2.kl ts2.cap
  obtain ⟨W,hW⟩:∃ W,wrE N T p.1=W:=⟨_,rfl⟩
  rw [hW] at hw hwp hQ
  obtain ⟨rn,hrn⟩:∃ rn:Nat,W.2.2=(rn:Int):=⟨W.2.2.toNat,by have:=hwp.2.2.1;omega⟩
  rw [hrn] at hw hQ
  rw [show ((rn:Nat):Int).toNat=rn by simp] at hQ
  refine vs9 (fun s => ∃ H3 idT' cap' cs', TkS (zh9 d rs ms) n H3 e idT' cap' W.1 cs' ∧ EntO H3 e l ∧ H3[h]? = some (.cells 27 [.v (.string ⟨m.name.toArray⟩), .lst .any 1 (bbL m.recs)]) ∧ H3[h + 1]? = some (.cells 55 [.v (.int .i64 (W.2.1 : Nat)), .v (.int .i64 (rn : Nat))]) ∧
   s=⟨102,[(2,.loc 0 0),(9,.loc 2 0),(10,.arr idT' 0 W.1.length cap'),(61,.lst .any 2 (meL ms)),(62,.v (.int .i64 (ms.length:Nat))),(63,.v (.int .i64 (i:Nat))),(12,.loc h 0),(15,.loc (h+1) 0)],H3⟩) ?_ ?_
  ·have fin : ∀ h' id' cap' cs', WS H2 idT h' id' cap' W.1 cs' → ∃ H3 idT' cap'' cs'', TkS (zh9 d rs ms) n H3 e idT' cap'' W.1 cs'' ∧ EntO H3 e l ∧ H3[h]? = some (.cells 27 [.v (.string ⟨m.name.toArray⟩), .lst .any 1 (bbL m.recs)]) ∧ H3[h + 1]? = some (.cells 55 [.v (.int .i64 (W.2.1 : Nat)), .v (.int .i64 (rn : Nat))]) ∧
     (⟨102,[(2,.loc 0 0),(9,.loc 2 0),(10,.arr id' 0 W.1.length cap'),(61,.lst .any 2 (meL ms)),(62,.v (.int .i64 (ms.length:Nat))),(63,.v (.int .i64 (i:Nat))),(12,.loc h 0),(15,.loc (h+1) 0)],h'.set (h+1) (.cells 55 [.v (.int .i64 (W.2.1:Nat)),.v (.int .i64 (rn:Nat))])⟩:St)=⟨102,[(2,.loc 0 0),(9,.loc 2 0),(10,.arr idT' 0 W.1.length cap''),(61,.lst .any 2 (meL ms)),(62,.v (.int .i64 (ms.length:Nat))),(63,.v (.int .i64 (i:Nat))),(12,.loc h 0),(15,.loc (h+1) 0)],H3⟩:=by
    intro h' id' cap' cs' ws
    have hTne:∀ (j:Nat) o,H2[j]?=some o→(∀ cs,o≠.cells 80 cs)→j≠idT:=by
     intro j o ho hn hj
     rw [hj,ts2.obj] at ho
     exact hn cs (Option.some.inj ho).symm
    have hwl:=ws.len
    have ht1:TkS (zh9 d rs ms) n h' e id' cap' W.1 cs':=by
     refine ⟨ws.shut,ws.old 0 _ (hTne 0 _ ts2.c0 (by simp)) ts2.c0 fun T=>?_,ws.old 2 _ (hTne 2 _ ts2.d2 (by simp)) ts2.d2 fun T=>?_,ws.obj,ws.rc,ws.kl,ws.cap⟩
     ·simp [zh9,AObj.kill,AV.killL,AV.kill]
     ·rcases he with ⟨rfl,_⟩ | ⟨idE,capE,csE,rfl,_,_⟩ <;> simp [AObj.kill,AV.killL,AV.kill]
    have hid':h+1≠id':=by
     intro hc
     have h1:=ws.obj
     rw [← hc,ws.old (h+1) _ (hTne _ _ hb2' (by simp)) hb2' (fun T=>by simp [AObj.kill,AV.killL,AV.kill])] at h1
     cases h1
    refine ⟨_,id',cap',cs',ht1.setE (by omega) (by omega) hid' (by simp [AObj.under,AV.under,AV.underL]),?_,?_,?_,rfl⟩
    ·rcases he2 with he2 | ⟨idE, capE, csE, h1, h2, h3⟩
     ·exact .inl he2
     ·refine .inr ⟨idE,capE,csE,h1,?_,h3⟩
      have hne:h+1≠idE:=by intro hc;rw [← hc,hb2'] at h2;cases h2
      rw [List.getElem?_set_ne hne]
      exact ws.old idE _ (hTne _ _ h2 (by simp)) h2 (fun T=>by simp only [AObj.kill,xr6 h3.v])
    ·rw [List.getElem?_set_ne (by omega)]
     exact ws.old h _ (hTne _ _ hm2 (by simp)) hm2 (fun T=>by simp [AObj.kill,AV.killL,AV.kill])
    ·rw [List.getElem?_set_self (by omega)]
   have hbx:∀ h' id' cap' cs',WS H2 idT h' id' cap' W.1 cs'→h'[h+1]?=some (.cells 55 [.v (.int .i64 0),.v (.int .i64 0)]):=by
    intro h' id' cap' cs' ws
    refine ws.old (h+1) _ ?_ hb2' (fun T=>by simp [AObj.kill,AV.killL,AV.kill])
    intro hj
    rw [hj,ts2.obj] at hb2'
    cases hb2'
   have hdd:=ts2.d2
   rcases he2 with ⟨rfl,rfl⟩ | ⟨idE,capE,csE,rfl,hEo,hEc⟩
   ·have htr:=ud9 [] n (by omega)
    rw [hN] at htr
    refine W_rE [2,9,10,61,62,63,12,15] ?_
    refine yq9 2 (by simp [hdd];rfl) rfl ?_
    refine yf9 (by simp) (by first | (simp;done) | (simp;rfl)) htr (by simp;rfl) ?_
    refine yq9 1 (by simp;rfl) rfl ?_
    refine xs9 (f:=36) (args:=[.arr idT 0 T.length cap,.v (.int .i64 (N:Nat)),.lst .any 1 (bbL p.1)]) (by simp) (by simp [xj9,zc9]) (hw.mono ?_)
    rintro r h' ⟨id',cap',cs',ws,rfl⟩
    have hbx':=hbx _ _ _ _ ws
    refine ⟨_,by simp;rfl,?_⟩
    refine yw9 (by simp [hbx',yk9];rfl) ?_
    exact fin _ _ _ _ ws
   ·have htr:=tracks_callW n (by omega) H2 ts2.shut idE l.length capE
    rw [hN] at htr
    refine W_rE [2,9,10,61,62,63,12,15] ?_
    refine yq9 2 (by simp [hdd];rfl) rfl ?_
    refine xs9 (f:=38) (args:=[.agg [.arr idE 0 l.length capE,.v (.int .i64 (n:Nat))]]) (by simp) (by simp [xj9,zc9]) (htr.mono ?_)
    rintro r h' ⟨rfl,rfl⟩
    refine ⟨_,by simp;rfl,?_⟩
    refine yq9 1 (by simp;rfl) rfl ?_
    refine xs9 (f:=36) (args:=[.arr idT 0 T.length cap,.v (.int .i64 (N:Nat)),.lst .any 1 (bbL p.1)]) (by simp) (by simp [xj9,zc9]) (hw.mono ?_)
    rintro r h' ⟨id',cap',cs',ws,rfl⟩
    have hbx':=hbx _ _ _ _ ws
    refine ⟨_,by simp;rfl,?_⟩
    refine yw9 (by simp [hbx',yk9];rfl) ?_
    exact fin _ _ _ _ ws
  rintro _ ⟨H3,idT',cap',cs',ts3,he3,hm3,hp3,rfl⟩
  have hdd:=ts3.d2
  have hs3:=ts3.shut
  have hl3:=ts3.lt
  have close : ∀ H4 e', TkS (zh9 d rs ms) n H4 e idT' cap' W.1 cs' → e'.under H4.length = true → EntO H4 e' (insE l ⟨padK m.name, W.2.1, rn⟩) →
    Q .normal ⟨102,[(2,.loc 0 0),(9,.loc 2 0),(10,.arr idT' 0 W.1.length cap'),(61,.lst .any 2 (meL ms)),(62,.v (.int .i64 (ms.length:Nat))),(63,.v (.int .i64 (i:Nat)))],H4.set 2 (.cells 70 [e',.v (.int .i64 (n:Nat))])⟩:=by
   intro H4 e' ts4 hu he4
   refine hQ c _ e' idT' cap' cs' (ts4.fin hu) ?_
   rcases he4 with he4 | ⟨idE,capE,csE,h1,h2,h3⟩
   ·exact .inl he4
   ·refine .inr ⟨idE, capE, csE, h1, ?_, h3⟩
    rw [List.getElem?_set_ne]
    ·exact h2
    ·intro hc
     rw [← hc,ts4.d2] at h2
     cases h2
  rcases he3 with ⟨rfl,rfl⟩ | ⟨idE,capE,csE,rfl,hEo,hEc⟩
  ·have hwi:=jl7 n W.2.1 rn m.name hs H3 hs3
   refine W_rE [2,9,10,61,62,63] ?_
   refine yq9 4 (by simp [hdd,hm3,hp3];rfl) rfl ?_
   refine xs9 (f:=39) (args:=[.agg [.lst .nil 10 [],.v (.int .i64 (n:Nat))],strB m.name,.agg [.v (.int .i64 (W.2.1:Nat)),.v (.int .i64 (rn:Nat))]]) (by simp) (by simp [xj9,zc9];rfl) (hwi.mono ?_)
   rintro r h' ⟨cap2,cs2,hE2,g0,g1,g2,g3,g4,hg,rfl,rfl⟩
   have ts4:=ts3.app [g0,g1,g2,g3,g4,.cells 78 cs2] (under6 hg hE2.v)
   have hd4:=ts4.d2
   have hE4:(H3++[g0,g1,g2,g3,g4,AObj.cells 78 cs2])[H3.length+5]?=some (.cells 78 cs2):=by simp
   obtain ⟨H4,hH4⟩:∃ H4,H3++[g0,g1,g2,g3,g4,AObj.cells 78 cs2]=H4:=⟨_,rfl⟩
   have hl4:H4.length=H3.length+6:=by rw [← hH4];simp
   rw [hH4] at ts4 hd4 hE4 ⊢
   refine ⟨_,by simp;rfl,?_⟩
   refine yw9 (by simp [hd4,yk9];rfl) ?_
   refine close H4 (.arr (H3.length+5) 0 1 cap2) ts4 (by simp [AV.under];omega) ?_
   rw [insE_nil]
   exact .inr ⟨_,cap2,cs2,rfl,hE4,hE2⟩
  ·have hwi := with_callW l n W.2.1 rn m.name hs hp h8 (by omega) H3 hs3 idE capE csE hEo hEc
   refine W_rE [2,9,10,61,62,63] ?_
   refine yq9 4 (by simp [hdd,hm3,hp3];rfl) rfl ?_
   refine xs9 (f:=39) (args:=[.agg [.arr idE 0 l.length capE,.v (.int .i64 (n:Nat))],strB m.name,.agg [.v (.int .i64 (W.2.1:Nat)),.v (.int .i64 (rn:Nat))]]) (by simp) (by simp [xj9,zc9];rfl) (hwi.mono ?_)
   rintro r h' ⟨cap2,cs2,hE2,⟨rfl,rfl⟩ | ⟨g0,g1,g2,g3,g4,hg,rfl,rfl⟩⟩
   ·have hEl:=(List.getElem?_eq_some_iff.1 hEo).1
    have n0:idE≠0:=by intro hc;rw [hc,ts3.c0] at hEo;cases hEo
    have n2:idE≠2:=by intro hc;rw [hc,ts3.d2] at hEo;cases hEo
    have nt:idE≠idT':=by intro hc;rw [hc,ts3.obj] at hEo;cases hEo
    have ts4:=ts3.setE (o:=.cells 78 cs2) n0 n2 nt (by simp [AObj.under,wd9 hE2.v])
    have hd4:=ts4.d2
    have hE4:(H3.set idE (.cells 78 cs2))[idE]?=some (.cells 78 cs2):=by rw [List.getElem?_set_self hEl]
    obtain ⟨H4,hH4⟩:∃ H4,H3.set idE (.cells 78 cs2)=H4:=⟨_,rfl⟩
    have hl4:H4.length=H3.length:=by rw [← hH4];simp
    rw [hH4] at ts4 hd4 hE4 ⊢
    refine ⟨_,by simp;rfl,?_⟩
    refine yw9 (by simp [hd4,yk9];rfl) ?_
    refine close H4 (.arr idE 0 _ cap2) ts4 (by simp [AV.under];omega) ?_
    exact .inr ⟨idE,cap2,cs2,rfl,hE4,hE2⟩
   ·have ts4:=ts3.app [g0,g1,g2,g3,g4,.cells 78 cs2] (under6 hg hE2.v)
    have hd4:=ts4.d2
    have hE4:(H3++[g0,g1,g2,g3,g4,AObj.cells 78 cs2])[H3.length+5]?=some (.cells 78 cs2):=by simp
    obtain ⟨H4,hH4⟩:∃ H4,H3++[g0,g1,g2,g3,g4,AObj.cells 78 cs2]=H4:=⟨_,rfl⟩
    have hl4:H4.length=H3.length+6:=by rw [← hH4];simp
    rw [hH4] at ts4 hd4 hE4 ⊢
    refine ⟨_,by simp;rfl,?_⟩
    refine yw9 (by simp [hd4,yk9];rfl) ?_
    refine close H4 (.arr (H3.length+5) 0 _ cap2) ts4 (by simp [AV.under];omega) ?_
    exact .inr ⟨_,cap2,cs2,rfl,hE4,hE2⟩
 ·have c2:(p.2 != 0)=true:=by simpa using c
  refine yr9 [2,9,10,61,62,63,12,13,14,76] (by simp [c,c2];rfl) ?_
  refine yt9 (t:=true) rfl (fun h=>?_) (fun h=>by simp at h)
  refine yr9 [4,5] (by simp;rfl) ?_
  refine yj9 ?_
  repeat (first | refine yp9 ?_ | refine ys9 ?_)
  exact hbad _ c
set_option maxRecDepth 20000
theorem vq8 {H:List AObj} {e:Int}:retU Tryz.prog [.tmp 4,.tmp 5] (resT ([],e)) .ret ⟨102,[(4,.lst .nil 1 []),(5,.v (.int .i64 e))],H⟩ :=
 ⟨.tup [.lst .nil 1 [],.v (.int .i64 e)],by simp [retQ],.tup2 (.nil (by decide +kernel)) (.refl _)⟩
theorem all_take {ms:List ME} {i:Nat} {m:ME} (h:ms[i]?=some m):(ms.take (i+1)).all (fun m=>symM m.name)=((ms.take i).all (fun m=>symM m.name)&&symM m.name):=by
 rw [List.take_add_one,h]
 simp [List.all_append]
theorem keysN_take {ms:List ME} {i:Nat} {m:ME} (h:ms[i]?=some m):um8 ((ms.map (·.name)).take (i+1))=addN (um8 ((ms.map (·.name)).take i)) m.name:=by
 rw [List.take_add_one,List.getElem?_map,h]
 simp [um8,List.foldl_append]
noncomputable def tkN:Code:=sq2 (sq2 (sq2 (sq2 (Tryz.f14.body.getD .skip))))
theorem tk_names {d : Dcb} {rs : List (List UInt8)} {ms : List ME} {n : Int} (hl : ms.length ≤ 1000000000) (hm : ∀ m ∈ ms, m.name.length ≤ 1000000000)
  {Q:Exit→St→Prop} (hbad:∀ H',ms.all (fun m=>symM m.name)=false→Q .ret ⟨102,[(4,.lst .nil 1 []),(5,.v (.int .i64 5))],H'⟩)
  (hQ:ms.all (fun m=>symM m.name)=true→Q .normal ⟨102,[(1,.v (.int .i64 n)),(2,.loc 0 0),(6,.mp 1)],[.cells 42 (zh9 d rs ms),.map (namE (um8 (ms.map (·.name))))]⟩) :
  Wt true 0 Tryz.prog (sq1 tkN) Q ⟨102,[(1,.v (.int .i64 n)),(2,.loc 0 0),(6,.mp 1)],[.cells 42 (zh9 d rs ms),.map []]⟩:=by
 unfold zh9
 refine yr9 [1,2,6,28,29,30] (by simp;rfl) ?_
 refine yl9 ?_
 refine zj9 (fun k s => ∃ i : Nat, k = ms.length - i ∧ i ≤ ms.length ∧ (ms.take i).all (fun m => symM m.name) = true ∧
  s=⟨102,[(1,.v (.int .i64 n)),(2,.loc 0 0),(6,.mp 1),(28,.lst .any 2 (meL ms)),(29,.v (.int .i64 (ms.length:Nat))),(30,.v (.int .i64 (i:Nat)))],[.cells 42 (zh9 d rs ms),.map (namE (um8 ((ms.map (·.name)).take i)))]⟩) (k:=ms.length) ⟨0,rfl,by omega,by simp,by simp [zh9];rfl⟩ ?_
 rintro k s ⟨i,rfl,hi,hall,rfl⟩
 by_cases c:i < ms.length
 ·have ci : (i : Int) < ms.length := by omega
  obtain ⟨m,hmi⟩:∃ m,ms[i]?=some m:=⟨_,List.getElem?_eq_getElem c⟩
  have hme:ms[i]'c=m:=(List.getElem?_eq_some_iff.1 hmi).2
  have wi:=w64 (n:=(i:Int)+1) (by omega) (by omega)
  have hv:=yb8 m.name (by have:=hm m (List.mem_of_getElem? hmi);omega)
  unfold strB at hv
  have hat:=all_take hmi
  rw [hall,Bool.true_and] at hat
  have hkt:=keysN_take hmi
  refine yr9 [1,2,6,28,29,30,31] (by simp [c,ci];rfl) ?_
  refine yh9 ?_
  refine yt9 (t:=true) (by simp [c,ci]) (fun h=>?_) (fun h=>by simp at h)
  refine yg9 ?_
  refine yh9 ?_
  refine yl9 ?_
  refine yr9 [1,2,6,28,29,30,8] (by simp [c,ci,hme,meA,strB,yk9];rfl) ?_
  refine yh9 ?_
  refine W_rK [1,2,6,28,29,30,8,37] ?_
  refine yq9 2 (by simp;rfl) rfl ?_
  refine yf9 (by simp) (by first | (simp;done) | (simp;rfl)) hv (by simp;rfl) ?_
  refine yw9 (by simp;rfl) ?_
  cases hs:symM m.name with
  | false =>
   refine yt9 (t:=true) rfl (fun h=>?_) (fun h=>by simp at h)
   refine yr9 [4,5] (by simp;rfl) ?_
   refine yj9 ?_
   repeat (first | refine yp9 ?_ | refine ys9 ?_)
   refine hbad _ ?_
   rw [List.all_eq_false]
   exact ⟨m,List.mem_of_getElem? hmi,by simp [hs]⟩
  | true =>
   rw [hs] at hat
   have hset:=mset_nam m.name (um8 ((ms.map (·.name)).take i))
   obtain ⟨L0,hL0⟩:∃ L0,um8 ((ms.map (·.name)).take i)=L0:=⟨_,rfl⟩
   rw [hL0] at hset hkt
   refine yt9 (t:=false) rfl (fun h=>by simp at h) (fun h=>?_)
   refine ym9 [1,2,6,28,29,30,8] ?_
   refine yg9 ?_
   repeat (first | refine on_norm ?_ | refine in_norm ?_)
   rw [hL0]
   refine W_rE [1,2,6,28,29,30] ?_
   refine yw9 (by simp [yr8,xs6,hset,AV.weak];rfl) ?_
   repeat (first | refine on_norm ?_ | refine in_norm ?_)
   have hent:∀ l,xt9 2 (namE l)=true:=fun l=>by induction l <;> simp_all [namE,xt9,AV.under]
   refine vd9 2 (by omega) (by simp) (by simp [zf9,uh9,zk9,AV.under,AV.underL]) (by simp [zf9,yn9,AObj.under,zh9,AV.underL,AV.under,hent]) ?_
   refine zr9 [1,2,6,28,29,30] (by simp [wi,zf9];rfl) ?_
   refine ⟨_,by omega,i+1,rfl,by omega,hat,?_⟩
   rw [hkt]
   simp [zh9]
 ·have hie:i=ms.length:=by omega
  subst hie
  rw [List.take_length] at hall
  refine yr9 [1,2,6,31] (by simp;rfl) ?_
  refine yh9 ?_
  refine yt9 (t:=false) (by simp) (fun h=>by simp at h) (fun h=>?_)
  refine ym9 [1,2,6] ?_
  refine zs9 ?_
  have hfin:(ms.map (·.name)).take ms.length=ms.map (·.name):=List.take_of_length_le (by simp)
  refine (show Q .normal (zf9 [1,2,6] _) from ?_)
  simp only [hfin]
  exact hQ hall
set_option maxRecDepth 20000
noncomputable def tkT:Code:=sq2 (sq2 (sq2 (sq2 tkN)))
theorem pw_ord {l:List RE} (h:ordE l=true):l.Pairwise ltE:=(ud8.1 h).2
theorem wrE_F {F u:List (List Rec)} {N:Nat} (hF:F.length=N) (bs:List (List UInt8)):wrE N (F++u) bs=(F++(wrE 0 u bs).1,(N+(wrE 0 u bs).2.1,(wrE 0 u bs).2.2)):=by
 rw [← hF];exact wrE_front F u bs
theorem tk_store {d : Dcb} {rs : List (List UInt8)} {ms : List ME} {n N : Nat} {L : List (Value × AV)} (hN : (n + 5) / 6 = N) (hn : n ≤ 64) (hml : ms.length ≤ 1344) (hs : ∀ m ∈ ms, symM m.name = true)
  (hr:∀ m∈ms,m.recs.length≤1100000∧∀ r∈m.recs,r.length≤1000000000) (hL:xt9 4 L=true) :
  Wt true 0 Tryz.prog tkT (retU Tryz.prog [.tmp 4,.tmp 5] (resT (ptrR N n (stM d N ms [] [])))) ⟨102,[(2,.loc 0 0),(9,.loc 2 0),(10,.arr 3 0 N N)],[.cells 42 (zh9 d rs ms),.map L,.cells 70 [.lst .nil 10 [],.v (.int .i64 (n:Nat))],.cells 80 (List.replicate N (.lst .nil 4 []))]⟩:=by
 obtain ⟨R,hR⟩:∃ R,stM d N ms [] []=R:=⟨_,rfl⟩
 rw [hR]
 have ts0:TkS (zh9 d rs ms) n [.cells 42 (zh9 d rs ms),.map L,.cells 70 [.lst .nil 10 [],.v (.int .i64 (n:Nat))],.cells 80 (List.replicate N (.lst .nil 4 []))] (.lst .nil 10 []) 3 N (List.replicate N []) (List.replicate N (.lst .nil 4 [])):=by
  have hrc:RC (List.replicate N []) N (List.replicate N (.lst .nil 4 [])):=by
   have hnl:=us6
   refine ⟨by simp,by simp,fun j t hj=>?_,fun t ht=>?_,fun j h1 h2=>by simp at h1;omega⟩
   ·rw [List.getElem?_replicate] at hj
    split at hj
    ·cases hj
     exact ⟨.lst .nil 4 [],by rw [List.getElem?_replicate,if_pos (by assumption)],.inr hnl⟩
    ·cases hj
   ·have:=List.mem_of_getLast? ht
    obtain ⟨h0,rfl⟩:=List.mem_replicate.1 this
    refine ⟨.lst .nil 4 [],?_,hnl⟩
    rw [List.length_replicate,List.getElem?_replicate,if_pos (by omega)]
  refine ⟨?_,rfl,rfl,rfl,hrc,?_,by simp only [maxLen];omega⟩
  ·have hru:∀ k,AV.underL 4 (List.replicate k (.lst .nil 4 []))=true:=fun k=>by induction k <;> simp_all [List.replicate_succ,AV.underL,AV.under]
   simp [yn9,AObj.under,zh9,AV.underL,AV.under,hL,hru]
  ·have:∀ k,AV.killL 29 (List.replicate k (.lst .nil 4 []))=List.replicate k (.lst .nil 4 []):=fun k=>by induction k <;> simp_all [List.replicate_succ,AV.killL,AV.kill]
   exact this N
 have hF:(List.replicate N ([]:List Rec)).length=N:=by simp
 have hFv:∀ t∈List.replicate N ([]:List Rec),vtrk t=true:=fun t ht=>by rw [(List.mem_replicate.1 ht).2];exact vtrk_nil
 obtain ⟨F,hFe⟩:∃ F,List.replicate N ([]:List Rec)=F:=⟨_,rfl⟩
 rw [hFe] at ts0 hF hFv
 refine yh9 ?_
 have hc0:=ts0.c0
 refine yr9 [2,9,10,61,62,63] (by simp [zh9];rfl) ?_
 refine yl9 ?_
 refine zj9 (fun k s => ∃ (i : Nat) (H : List AObj) (e : AV) (l : List RE) (u : List (List Rec)) (idT cap : Nat) (cs : List AV), k = ms.length - i ∧ i ≤ ms.length ∧ TkS (zh9 d rs ms) n H e idT cap (F ++ u) cs ∧ EntO H e l ∧ stM d N (ms.drop i) u l = R ∧
  ordE l=true∧(∀ x∈l,x.key.length=8∧x.trk < 1000000000∧x.rn < 1000000000)∧l.length≤i∧(∀ t∈u,vtrk t=true)∧u.length≤4100 * i∧s=tkSt idT cap n (F++u) ms i H) (k:=ms.length)
  ⟨0,_,_,[],[],3,N,_,rfl,by omega,by rw [List.append_nil];exact ts0,.inl ⟨rfl,rfl⟩,hR,rfl,by simp,by simp,by simp,by simp,by simp [tkSt,zh9,hF]⟩ ?_
 rintro k s ⟨i,H,e,l,u,idT,cap,cs,rfl,hi,ts,he,hgo,hord,hl8,hll,huv,hul,rfl⟩
 have hTv:∀ t∈F++u,vtrk t=true:=fun t ht=>by
  rcases List.mem_append.1 ht with h | h
  ·exact hFv t h
  ·exact huv t h
 by_cases c:i < ms.length
 ·have ci : (i : Int) < ms.length := by omega
  obtain ⟨m,hmi⟩:∃ m,ms[i]?=some m:=⟨_,List.getElem?_eq_getElem c⟩
  have hmm:=List.mem_of_getElem? hmi
  have hme:ms[i]'c=m:=(List.getElem?_eq_some_iff.1 hmi).2
  have wi:=w64 (n:=(i:Int)+1) (by omega) (by omega)
  have hdr:ms.drop i=m :: ms.drop (i+1):=by rw [List.drop_eq_getElem_cons c,hme]
  rw [hdr,stM] at hgo
  have hstep:=fun Q=>tk_step (Q:=Q) ts he hN (by omega) hTv (by rw [List.length_append];omega) (by rw [List.length_append];omega) (pw_ord hord) (fun x hx=>(hl8 x hx).1) (by omega) hmi (hs m hmm) (hr m hmm).1 (hr m hmm).2
  rw [wrE_F hF] at hstep
  obtain ⟨T,hTe⟩:∃ T,F++u=T:=⟨_,rfl⟩
  rw [hTe] at hstep ⊢
  unfold tkSt at hstep ⊢
  refine yr9 [2,9,10,61,62,63,64] (by simp [c,ci];rfl) ?_
  refine yh9 ?_
  refine yt9 (t:=true) (by simp [c,ci]) (fun h=>?_) (fun h=>by simp at h)
  refine ym9 [2,9,10,61,62,63] ?_
  refine yg9 ?_
  refine yh9 ?_
  refine yl9 ?_
  refine hstep _ (fun H' hbad=>?_) fun hok H' e' idT' cap' cs' ts' he'=>?_
  ·rw [if_neg hbad] at hgo
   subst hgo
   exact vq8
  ·rw [if_pos hok] at hgo
   have hb:=yc7 (d:=d) (l:=m.recs) (bs:=(zg9 d m.recs).1) (by rw [← hok])
   have hsy:=hs m hmm
   have hwp:=wl8 0 u (zg9 d m.recs).1 (by omega)
   have hwl:=wrE_len 0 u (zg9 d m.recs).1
   obtain ⟨W,hW⟩:∃ W,wrE 0 u (zg9 d m.recs).1=W:=⟨_,rfl⟩
   have hwv:∀ t∈W.1,vtrk t=true:=by rw [← hW];exact yn7 0 huv fun b hb'=>(hb.2.2.2 b hb').2
   rw [hW] at hgo ts' he' hwl hwp ⊢
   dsimp only at ts' he' ⊢
   have hx8:(padK m.name).length=8:=um9 (vp9 hsy).2.2
   have hil:=ins_len (l:=l) ⟨padK m.name,N+W.2.1,W.2.2.toNat⟩
   repeat (first | refine on_norm ?_ | refine in_norm ?_)
   refine zr9 [2,9,10,61,62,63] (by simp [wi];rfl) ?_
   refine ⟨_,by omega,i+1,H',e',_,W.1,idT',cap',cs',rfl,by omega,ts',he',hgo,ord_ins hord (by show symM (nmM (padK m.name))=true;rw [jg8 hsy];exact hsy),?_,?_,hwv,by omega,by simp [tkSt]⟩
   ·intro x hx
    rcases (mem_ins (pw_ord hord) _ x).1 hx with rfl | ⟨hx,_⟩
    ·exact ⟨hx8,by show N+W.2.1 < _;omega,by show W.2.2.toNat < _;omega⟩
    ·exact hl8 x hx
   ·rw [hil];split <;> omega
 ·have hie : i = ms.length := by omega
  subst hie
  rw [List.drop_length,stM] at hgo
  subst hgo
  have hlay:=lay_sound l n (fun x hx=>(hl8 x hx).1) (fun x hx=>(hl8 x hx).2) (by omega) (by omega)
  have htr:=ud9 l n (by omega)
  rw [hN] at htr
  have hFl:(F++u).length=N+u.length:=by rw [List.length_append,hF]
  have hdrop:(F++u).drop N=u:=by rw [← hF,List.drop_left]
  have hll2:(layG l n).length=N:=by rw [vh9,hN]
  obtain ⟨T,hTe⟩:∃ T,F++u=T:=⟨_,rfl⟩
  rw [hTe] at hFl hdrop ts ⊢
  unfold tkSt
  refine yr9 [2,9,10,64] (by simp;rfl) ?_
  refine yh9 ?_
  refine yt9 (t:=false) (by simp) (fun h=>by simp at h) (fun h=>?_)
  refine ym9 [2,9,10] ?_
  refine zs9 ?_
  refine (show Wt true 0 Tryz.prog (sq2 tkT) _ ⟨102,[(2,.loc 0 0),(9,.loc 2 0),(10,.arr idT 0 T.length cap)],H⟩ from ?_)
  refine yh9 ?_
  by_cases c5:512 < N+u.length
  ·have c5n:512 < T.length:=by rw [hFl];exact c5
   have c5i:(512:Int) < (T.length:Nat):=by omega
   refine yr9 [9,10,94] (by simp [c5i,c5n];rfl) ?_
   refine yt9 (t:=true) (by simp [c5i,c5n]) (fun h=>?_) (fun h=>by simp at h)
   refine yr9 [4,5] (by simp;rfl) ?_
   refine yj9 ?_
   repeat (first | refine yp9 ?_ | refine ys9 ?_)
   rw [show ptrR N n (.ok (u,l))=([],200) from by show (if 512 < N+u.length then _ else _)=_;rw [if_pos c5]]
   exact vq8
  ·have c5n : ¬ 512 < T.length := by rw [hFl]; exact c5
   have c5i:¬ (512:Int) < (T.length:Nat):=by omega
   rw [show ptrR N n (.ok (u,l))=(layG l n++u,0) from by show (if 512 < N+u.length then _ else _)=_;rw [if_neg c5]]
   refine yr9 [9,10,94] (by simp [c5i,c5n];rfl) ?_
   refine yt9 (t:=false) (by simp [c5i,c5n]) (fun h=>by simp at h) (fun h=>?_)
   refine ym9 [9,10] ?_
   refine yg9 ?_
   repeat (first | refine on_norm ?_ | refine in_norm ?_)
   refine W_dpB idT (ty:=80) (cs:=cs) ts.obj ?_
   have hobj:(H.set idT (.cells 80 (AV.dpL cs)))[idT]?=some (.cells 80 (AV.dpL cs)):=by rw [List.getElem?_set_self (List.getElem?_eq_some_iff.1 ts.obj).1]
   have hd2:(H.set idT (.cells 80 (AV.dpL cs)))[2]?=some (.cells 70 [e,.v (.int .i64 (n:Nat))]):=by
    rw [List.getElem?_set_ne]
    ·exact ts.d2
    ·intro hc
     have h1:=ts.obj
     rw [hc,ts.d2] at h1
     cases h1
   have he1:EntO (H.set idT (.cells 80 (AV.dpL cs))) e l:=by
    rcases he with he | ⟨idE,capE,csE,h1,h2,h3⟩
    ·exact .inl he
    ·refine .inr ⟨idE, capE, csE, h1, ?_, h3⟩
     rw [List.getElem?_set_ne]
     ·exact h2
     ·intro hc
      rw [← hc,ts.obj] at h2
      cases h2
   obtain ⟨H1,hH1⟩:∃ H1,H.set idT (.cells 80 (AV.dpL cs))=H1:=⟨_,rfl⟩
   rw [hH1] at hobj hd2 he1
   refine (show Wt true 0 Tryz.prog (sq2 (sq2 tkT)) _ ⟨102,[(9,.loc 2 0),(10,.arr idT 0 T.length cap)],H.set idT (.cells 80 (AV.dpL cs))⟩ from ?_)
   rw [hH1]
   obtain ⟨o,H2,ho,hfz⟩:=frz_rc ts.rc hobj 1
   have hd3:H2[2]?=some (.cells 70 [e,.v (.int .i64 (n:Nat))]):=by
    rw [zw8 hfz]
    ·exact hd2
    ·intro hc
     rw [← hc,hd2] at hobj
     cases hobj
   have he2:EntO H2 e l:=by
    rcases he1 with he | ⟨idE,capE,csE,h1,h2,h3⟩
    ·exact .inl he
    ·refine .inr ⟨idE, capE, csE, h1, ?_, h3⟩
     rw [zw8 hfz]
     ·exact h2
     ·intro hc
      rw [hc,hobj] at h2
      cases h2
   refine W_frz 10 (tk:=1) rfl rfl hfz ?_
   refine xp7 10 (sz:=1) (xs:=arL T) (o:=o) rfl ?_
   have hlast : ∀ H3, (∃ x, H3[2]? = some (.cells 70 [x, .v (.int .i64 (n : Nat))]) ∧ (x = .lst .nil 10 [] ∧ l = [] ∨ x = .lst .any 10 (reL l))) →
     Wt true 0 Tryz.prog (sq2 (sq2 tkT)) (retU Tryz.prog [.tmp 4,.tmp 5] (resT (layG l n++u,0))) ⟨102,[(9,.loc 2 0),(10,.lst .any 1 (arL T))],H3⟩:=by
    have hNT:N≤T.length:=by omega
    have hNTi:(N:Int)≤(T.length:Nat):=by omega
    have hda:(arL T).drop N=arL u:=by rw [← arL_drop,hdrop]
    have hul2:u.length≤512:=by omega
    obtain ⟨Y,hY⟩:∃ Y,layG l n=Y:=⟨_,rfl⟩
    rw [hY] at hlay hll2 ⊢
    have b1:(Y.length+u.length) * 24≤140737488355328:=by omega
    have b2:24 * (Y.length+u.length)≤140737488355328:=by omega
    have b3:(N+u.length) * 24≤140737488355328:=by omega
    have b4:24 * (N+u.length)≤140737488355328:=by omega
    rintro H3 ⟨x,hx2,⟨rfl,rfl⟩ | rfl⟩
    all_goals
     refine wk9 [4,5] mx (by decide +kernel) ?_
     refine yd9 1 (by simp [hx2];rfl) rfl ?_
     refine yv9 (by simp) (by first | (simp;done) | (simp;rfl)) hlay (by simp;rfl) ?_
     refine yd9 2 (by simp [hx2];rfl) rfl ?_
     refine yv9 (by simp) (by first | (simp;done) | (simp;rfl)) htr (by simp;rfl) ?_
     refine yd9 1 (by simp [hNT,hNTi,hda];rfl) rfl ?_
     refine yb9 (by simp [catK,AV.cellsK,AV.kone,AV.koneL,b1,b2,b3,b4,hll2];rfl) ?_
     refine yj9 ?_
     repeat (first | refine yp9 ?_ | refine ys9 ?_)
     rw [← wp6]
     exact ⟨_,by simp [retQ];exact ⟨rfl,by simp⟩,.norm fun T=>by simp [resT]⟩
   rcases he2 with ⟨rfl,rfl⟩ | ⟨idE,capE,csE,rfl,hEo,hEc⟩
   ·exact hlast _ ⟨_,hd3,.inl ⟨rfl,rfl⟩⟩
   ·have hEi : 2 ≠ idE := by intro hc; rw [← hc, hd3] at hEo; cases hEo
    obtain ⟨o2,H3,hfz2,ho2⟩:=frz_ent hEc (fun x hx=>(hl8 x hx).1) hEo 1
    have hd4:H3[2]?=some (.cells 70 [.arr idE 0 l.length capE,.v (.int .i64 (n:Nat))]):=by rw [zw8 hfz2 hEi];exact hd3
    refine W_frzP 2 0 (tk:=1) hd3 rfl hEi rfl hfz2 ?_
    exact hlast _ ⟨.lst .any 10 (reL l),by
     rw [List.getElem?_set_self (List.getElem?_eq_some_iff.1 hd4).1]
     rcases ho2 with rfl | rfl <;> simp [AV.plain],.inr rfl⟩
set_option maxRecDepth 20000
theorem jt8 (d : Dcb) (rs : List (List UInt8)) (ms : List ME) (dir : Int) (hl : ms.length ≤ 1000000000) (hm : ∀ m ∈ ms, m.name.length ≤ 1000000000 ∧ m.recs.length ≤ 1100000 ∧ ∀ r ∈ m.recs, r.length ≤ 1000000000) :
  Sound Tryz.prog 14 [.agg (zh9 d rs ms),.v (.int .i64 dir)] (resT (ptrM d ms dir)):=by
 refine xw9 Tryz.func14 rfl (by decide +kernel) (by simp [Tryz.f14]) (by simp [AV.rfL,AV.rf,zh9]) (by simp [AV.tlL,AV.tl,zh9]) (rs:=[.tmp 4,.tmp 5]) rfl ?_
 rw [show Tryz.f14.ntmps=102 from rfl]
 have hpart:=zj6 d
 simp only [dcbA] at hpart
 unfold ptrM
 unfold zh9
 refine yr9 [1,2] (by simp;rfl) ?_
 refine yh9 ?_
 by_cases c1:dir < 1∨64 < dir
 ·rw [if_pos c1]
  rcases c1 with c | c
  ·refine yr9 [1,2,21] (by simp [c];rfl) ?_
   refine yt9 (t:=true) rfl (fun h=>?_) (fun h=>by simp at h)
   refine yr9 [4,5] (by simp;rfl) ?_
   refine yj9 ?_
   exact vq8
  ·have c':¬ dir < 1:=by omega
   refine yr9 [1,2,21] (by simp [c,c'];rfl) ?_
   refine yt9 (t:=true) (by simp [c]) (fun h=>?_) (fun h=>by simp at h)
   refine yr9 [4,5] (by simp;rfl) ?_
   refine yj9 ?_
   exact vq8
 rw [if_neg c1]
 obtain ⟨n,rfl⟩:∃ n:Nat,dir=(n:Int):=⟨dir.toNat,by omega⟩
 have c2:¬ (n:Int) < 1:=by omega
 have c3:¬ (64:Int) < n:=by omega
 have c2n:¬ n < 1:=by omega
 have c3n:¬ 64 < n:=by omega
 refine yr9 [1,2,21] (by simp [c2,c3,c2n,c3n];rfl) ?_
 refine yt9 (t:=false) (by simp [c3,c3n]) (fun h=>by simp at h) (fun h=>?_)
 refine ym9 [1,2] ?_
 refine yg9 ?_
 repeat (first | refine on_norm ?_ | refine in_norm ?_)
 refine yh9 ?_
 refine W_rK [1,2,25] ?_
 refine yq9 2 (by simp;rfl) rfl ?_
 refine yf9 (by simp) (by first | (simp;done) | (simp;rfl)) hpart (by simp;rfl) ?_
 refine yw9 (by simp;rfl) ?_
 cases hp:wp7 d with
 | false =>
  rw [if_pos rfl]
  refine yt9 (t:=true) rfl (fun h=>?_) (fun h=>by simp at h)
  refine yr9 [4,5] (by simp;rfl) ?_
  refine yj9 ?_
  repeat (first | refine yp9 ?_ | refine ys9 ?_)
  exact vq8
 | true =>
 rw [if_neg (by simp)]
 refine yt9 (t:=false) rfl (fun h=>by simp at h) (fun h=>?_)
 refine ym9 [1,2] ?_
 refine yg9 ?_
 repeat (first | refine on_norm ?_ | refine in_norm ?_)
 refine yr9 [1,2,6] (by simp [zf9];rfl) ?_
 refine jk7 (fun s=>ms.all (fun m=>symM m.name)=true∧s=⟨102,[(1,.v (.int .i64 (n:Nat))),(2,.loc 0 0),(6,.mp 1)],[.cells 42 (zh9 d rs ms),.map (namE (um8 (ms.map (·.name))))]⟩) ?_ ?_
 ·have hn := fun Q => tk_names (d := d) (rs := rs) (n := (n : Int)) (Q := Q) hl fun m hm' => (hm m hm').1
  unfold zh9 at hn
  refine hn _ (fun H' hb=>?_) fun hall=>?_
  ·rw [if_pos hb]
   exact vq8
  ·refine ⟨hall,?_⟩
   simp [zh9]
 rintro _ ⟨hall,rfl⟩
 rw [if_neg (by simp [hall])]
 obtain ⟨K,hK⟩:∃ K,um8 (ms.map (·.name))=K:=⟨_,rfl⟩
 have hKl:=qm7 (ms.map (·.name))
 rw [List.length_map] at hKl
 rw [hK] at hKl ⊢
 refine yr9 [1,2,6,9] (by simp [yk9];rfl) ?_
 refine yh9 ?_
 refine yl9 ?_
 refine W_rGK [1,2,6,9,44] ?_
 refine kk9 1 _ _ ?_
 refine yw9 (by simp;rfl) ?_
 refine qt8 rfl ?_
 refine xs7 (k:=45) (t:=93) (m:=.mp 1) (d:=.string) (e:=4) (es:=namE K) rfl rfl rfl rfl (by simp) (by simp) (by simp [mapOf]) ?_
 refine ⟨_,by simp;rfl,?_⟩
 by_cases c4:K.length < ms.length
 ·rw [if_pos c4]
  have c4i:(K.length:Int) < ms.length:=by omega
  refine kk9 5 _ _ ?_
  refine yw9 (by simp [zh9,c4,c4i];rfl) ?_
  refine yt9 (t:=true) (by simp [c4,c4i,runG,zf9]) (fun h=>?_) (fun h=>by simp at h)
  refine yr9 [4,5] (by simp;rfl) ?_
  refine yj9 ?_
  repeat (first | refine yp9 ?_ | refine ys9 ?_)
  exact vq8
 rw [if_neg c4]
 have c4i:¬ (K.length:Int) < ms.length:=by omega
 refine kk9 5 _ _ ?_
 refine yw9 (by simp [zh9,c4,c4i];rfl) ?_
 refine yt9 (t:=false) (by simp [c4,c4i,runG,zf9]) (fun h=>by simp at h) (fun h=>?_)
 have w21:IntKind.i64.wrap (21 * (n:Int))=21 * (n:Int):=w64 (by omega) (by omega)
 refine W_rGK [1,2,9,51] ?_
 refine kk9 1 _ _ ?_
 refine yw9 (by simp [runG,zf9];rfl) ?_
 refine qt8 rfl ?_
 refine xs7 (k:=52) (t:=93) (m:=.mp 1) (d:=.string) (e:=4) (es:=namE K) rfl rfl rfl rfl (by simp) (by simp) (by simp [mapOf]) ?_
 refine ⟨_,by simp;rfl,?_⟩
 by_cases c5:21 * (n:Int) < K.length
 ·rw [if_pos c5]
  have c5n:21 * n < K.length:=by omega
  refine kk9 4 _ _ ?_
  refine yw9 (by simp [w21,c5,c5n];rfl) ?_
  refine yt9 (t:=true) (by simp [c5,c5n,runG,zf9]) (fun h=>?_) (fun h=>by simp at h)
  refine yr9 [4,5] (by simp;rfl) ?_
  refine yj9 ?_
  repeat (first | refine yp9 ?_ | refine ys9 ?_)
  exact vq8
 rw [if_neg c5]
 have c5n:¬ 21 * n < K.length:=by omega
 refine kk9 4 _ _ ?_
 refine yw9 (by simp [w21,c5,c5n];rfl) ?_
 refine yt9 (t:=false) (by simp [c5,c5n,runG,zf9]) (fun h=>by simp at h) (fun h=>?_)
 refine ym9 [2,9] ?_
 refine yg9 ?_
 repeat (first | refine on_norm ?_ | refine in_norm ?_)
 rw [show ((n:Nat):Int).toNat=n by simp]
 have htr:=ud9 [] n (by omega)
 obtain ⟨N,hN⟩:∃ N,(n+5) / 6=N:=⟨_,rfl⟩
 rw [hN] at htr ⊢
 have hN1:N≤1000:=by omega
 have hN2:(N:Int)≤9223372036854775807:=by omega
 have hN3:N * 24≤281474976710656:=by omega
 have hms:ms.length≤1344:=by omega
 have hst:=tk_store (d:=d) (rs:=rs) (L:=namE K) hN (by omega) hms (fun m hm'=>by
  rw [List.all_eq_true] at hall
  exact hall m hm') (fun m hm'=>(hm m hm').2) (by
  have:∀ l,xt9 4 (namE l)=true:=fun l=>by induction l <;> simp_all [namE,xt9,AV.under]
  exact this K)
 unfold zh9 at hst
 refine W_rK [2,9,10] ?_
 refine yq9 1 (by simp [runG,zf9];rfl) rfl ?_
 refine yf9 (by simp) (by first | (simp;done) | (simp;rfl)) htr (by simp;rfl) ?_
 refine yw9 (by simp [hN1,hN2,hN3,show 24 * (N:Int)≤281474976710656 by omega,show 24 * N≤281474976710656 by omega];rfl) ?_
 rw [vr9]
 exact hst
end Go.AM
