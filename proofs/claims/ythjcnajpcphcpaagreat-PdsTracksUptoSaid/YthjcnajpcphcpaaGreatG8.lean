/- Parts of the walk: C24I C24J C24M C24MA C24MB C24N C24O. -/
import Derived.Test.YthjcnajpcphcpaaGreatG7
namespace Go.AM
open Go.RowKit Go.Proofs
set_option linter.unusedSimpArgs false
set_option linter.unusedVariables false
set_option maxHeartbeats 8000000
set_option maxRecDepth 20000
def okFt (f:Fl) (t:List Rec):Prop:=f=.ex∨(∃ U,U % 2=1∧f=.tip 100 U)∨(f=.nil∧t=[])
def okLt (x:AV) (t:List Rec):Prop:=∃ f,x=.lst f 4 (trL t)∧okFt f t
def okAt (x:AV) (t:List Rec):Prop:=x=.lst .any 4 (trL t)∨okLt x t
theorem okAt.kill {x:AV} {t:List Rec} (h:okAt x t) (T:Nat):okAt (x.kill T) t:=by
 rcases h with rfl | ⟨f,rfl,rfl | ⟨U,hU,rfl⟩ | ⟨rfl,rfl⟩⟩
 ·exact .inl rfl
 ·exact .inr ⟨.ex,rfl,.inl rfl⟩
 ·by_cases e:U=T
  ·subst e;exact .inl (by simp [AV.kill,hU])
  ·exact .inr ⟨.tip 100 U,by simp [AV.kill,e],.inr (.inl ⟨U,hU,rfl⟩)⟩
 ·exact .inr ⟨.nil,rfl,.inr (.inr ⟨rfl,rfl⟩)⟩
theorem okAt.under {x:AV} {t:List Rec} (h:okAt x t) (m:Nat):x.under m=true:=by
 rcases h with rfl | ⟨f,rfl,_⟩ <;> simp [AV.under]
theorem okAt.dp {x:AV} {t:List Rec} (h:okAt x t):x.dp=.lst .any 4 (trL t):=by
 rcases h with rfl | ⟨f,rfl,_⟩ <;> simp [AV.dp]
structure RC (A:List (List Rec)) (cap:Nat) (cs:List AV):Prop where
 len:cs.length=cap
 le:A.length≤cap
 old:∀ (j:Nat) (t:List Rec),A[j]?=some t→∃ x:AV,cs[j]?=some x∧okAt x t
 cur:∀ t,A.getLast?=some t→∃ x:AV,cs[A.length - 1]?=some x∧okLt x t
 rest:∀ j:Nat,A.length≤j→j < cap→cs[j]?=some (.lst .nil 4 [])
theorem RC.ce {A:List (List Rec)} {cap:Nat} {cs:List AV} (h:RC A cap cs):∀ x∈cs,∃ t,okAt x t:=by
 intro x hx
 obtain ⟨j,hj,rfl⟩:=List.mem_iff_getElem.1 hx
 rcases Nat.lt_or_ge j A.length with h1 | h1
 ·obtain ⟨y,h2,h3⟩:=h.old j _ (List.getElem?_eq_getElem h1)
  rw [List.getElem?_eq_getElem hj] at h2
  cases h2
  exact ⟨_,h3⟩
 ·have h2:=h.rest j h1 (by rw [← h.len];exact hj)
  rw [List.getElem?_eq_getElem hj] at h2
  have h3:=Option.some.inj h2
  exact ⟨[],.inr ⟨.nil,by rw [h3];rfl,.inr (.inr ⟨rfl,rfl⟩)⟩⟩
theorem RC.under {A:List (List Rec)} {cap:Nat} {cs:List AV} (h:RC A cap cs) (m:Nat):AV.underL m cs=true:=by
 have:∀ xs:List AV,(∀ x∈xs,∃ t,okAt x t)→AV.underL m xs=true:=by
  intro xs
  induction xs with
  | nil=>intro _;rfl
  | cons x xs ih =>
   intro hx
   obtain ⟨t,ht⟩:=hx x List.mem_cons_self
   simp only [AV.underL,ht.under m,ih fun y hy=>hx y (List.mem_cons_of_mem _ hy),Bool.and_self]
 exact this cs h.ce
theorem jn9 (T:Nat):∀ xs:List AV,(AV.killL T xs).length=xs.length:=fun xs=>by induction xs <;> simp_all [AV.killL]
theorem kr8 {A:List (List Rec)} (h:A≠[]) (t':List Rec):(A.dropLast++[t']).length=A.length:=by
 rw [List.length_append,List.length_dropLast,List.length_singleton]
 have:=List.length_pos_iff.2 h
 omega
theorem RC.grow {A:List (List Rec)} {t':List Rec} {cap T:Nat} {cs:List AV} (h:RC A cap cs) (hA:A≠[]) {x:AV} (hx:okLt x t'):RC (A.dropLast++[t']) cap (yk9 (AV.killL T cs) (A.length - 1) [x]):=by
 have hp:=List.length_pos_iff.2 hA
 have hle:A.length - 1+([x]:List AV).length≤(AV.killL T cs).length:=by rw [jn9,h.len];have:=h.le;simp;omega
 have hl:=kr8 hA t'
 refine ⟨by rw [zp9 _ _ _ hle,jn9,h.len],by rw [hl];exact h.le,fun j t hj=>?_,fun t ht=>?_,fun j h1 h2=>?_⟩
 ·have hjl := (List.getElem?_eq_some_iff.1 hj).1
  rw [hl] at hjl
  by_cases e:j=A.length - 1
  ·rw [List.getElem?_append_right (by rw [List.length_dropLast];omega),List.length_dropLast,e,Nat.sub_self] at hj
   simp at hj
   subst hj
   rw [wv9 _ _ _ hle,if_pos ⟨by omega,by simp;omega⟩,e,Nat.sub_self]
   exact ⟨x,rfl,.inr hx⟩
  ·rw [List.getElem?_append_left (by rw [List.length_dropLast];omega),List.getElem?_dropLast,if_pos (by omega)] at hj
   rw [wv9 _ _ _ hle,if_neg (by simp;omega),xb9]
   obtain ⟨y,k1,k2⟩:=h.old j t hj
   exact ⟨_,by rw [k1];rfl,k2.kill T⟩
 ·rw [List.getLast?_append] at ht
  simp at ht
  subst ht
  rw [hl,wv9 _ _ _ hle,if_pos ⟨Nat.le_refl _,by simp⟩,Nat.sub_self]
  exact ⟨x,rfl,hx⟩
 ·rw [hl] at h1
  rw [wv9 _ _ _ hle,if_neg (by simp;omega),xb9,h.rest j h1 h2]
  rfl
theorem RC.next {A:List (List Rec)} {t':List Rec} {cap:Nat} {cs:List AV} (h:RC A cap cs) (hc:A.length+1≤cap) {x:AV} (hx:okLt x t'):RC (A++[t']) cap (yk9 cs A.length [x]):=by
 have hle:A.length+([x]:List AV).length≤cs.length:=by rw [h.len];simpa using hc
 refine ⟨by rw [zp9 _ _ _ hle,h.len],by simpa using hc,fun j t hj=>?_,fun t ht=>?_,fun j h1 h2=>?_⟩
 ·have hjl := (List.getElem?_eq_some_iff.1 hj).1
  simp at hjl
  rcases Nat.lt_or_ge j A.length with h1 | h1
  ·rw [List.getElem?_append_left h1] at hj
   rw [wv9 _ _ _ hle,if_neg (by omega)]
   exact h.old j t hj
  ·have:j=A.length:=by omega
   subst this
   rw [List.getElem?_append_right h1,Nat.sub_self] at hj
   simp at hj
   subst hj
   rw [wv9 _ _ _ hle,if_pos ⟨Nat.le_refl _,by simp⟩,Nat.sub_self]
   exact ⟨x,rfl,.inr hx⟩
 ·rw [List.getLast?_append] at ht
  simp at ht
  subst ht
  rw [List.length_append,List.length_singleton,Nat.add_sub_cancel,wv9 _ _ _ hle,if_pos ⟨Nat.le_refl _,by simp⟩,Nat.sub_self]
  exact ⟨x,rfl,hx⟩
 ·rw [List.length_append,List.length_singleton] at h1
  rw [wv9 _ _ _ hle,if_neg (by simp;omega)]
  exact h.rest j (by omega) h2
theorem RC.move {A : List (List Rec)} {t' : List Rec} {cap cap' : Nat} {cs : List AV} (h : RC A cap cs) (hc : A.length + 1 ≤ cap') {x : AV} (hx : okLt x t') :
  RC (A++[t']) cap' (cs.take A.length++[x]++List.replicate (cap' - (A.length+1)) (.lst .nil 4 [])):=by
 have ht:(cs.take A.length).length=A.length:=by rw [List.length_take,h.len];have:=h.le;omega
 refine ⟨by simp [ht];omega,by simpa using hc,fun j t hj=>?_,fun t hl=>?_,fun j h1 h2=>?_⟩
 ·have hjl := (List.getElem?_eq_some_iff.1 hj).1
  simp at hjl
  rcases Nat.lt_or_ge j A.length with h1 | h1
  ·rw [List.getElem?_append_left h1] at hj
   rw [List.append_assoc,List.getElem?_append_left (by omega),List.getElem?_take,if_pos (by omega)]
   exact h.old j t hj
  ·have:j=A.length:=by omega
   subst this
   rw [List.getElem?_append_right h1,Nat.sub_self] at hj
   simp at hj
   subst hj
   rw [List.append_assoc,List.getElem?_append_right (by omega),ht,Nat.sub_self]
   exact ⟨x,rfl,.inr hx⟩
 ·rw [List.getLast?_append] at hl
  simp at hl
  subst hl
  rw [List.length_append,List.length_singleton,Nat.add_sub_cancel,List.append_assoc,List.getElem?_append_right (by omega),ht,Nat.sub_self]
  exact ⟨x,rfl,hx⟩
 ·simp at h1
  rw [List.append_assoc,List.getElem?_append_right (by omega),ht,List.getElem?_append_right (by simp;omega),List.getElem?_replicate]
  rw [if_pos (by simp;omega)]
theorem RC.fin {A:List (List Rec)} {cap:Nat} {cs:List AV} (h:RC A cap cs):(AV.dpL cs).take A.length=arL A:=by
 apply List.ext_getElem?
 intro j
 have hdp:∀ (xs:List AV) (j:Nat),(AV.dpL xs)[j]?=(xs[j]?).map AV.dp:=by
  intro xs
  induction xs with
  | nil=>intro j;simp [AV.dpL]
  | cons x xs ih=>intro j;cases j <;> simp [AV.dpL,ih]
 rw [List.getElem?_take,hdp]
 split
 ·rename_i hj
  obtain ⟨x,h1,h2⟩:=h.old j _ (List.getElem?_eq_getElem hj)
  rw [h1,arL,List.getElem?_map,List.getElem?_eq_getElem hj]
  exact congrArg some h2.dp
 ·rename_i hj
  rw [List.getElem?_eq_none]
  simpa using hj
theorem RC.nils (cap:Nat):RC [] cap (List.replicate cap (.lst .nil 4 [])):=by
 refine ⟨by simp,by simp,by simp,by simp,fun j _ h=>?_⟩
 rw [List.getElem?_replicate,if_pos h]
theorem killL_ok {cs:List AV} (h:∀ x∈cs,∃ t,okAt x t):AV.killL 0 cs=cs:=by
 induction cs with
 | nil=>rfl
 | cons x cs ih =>
  simp only [AV.killL,ih (fun y hy=>h y (List.mem_cons_of_mem _ hy))]
  congr 1
  obtain ⟨t,rfl | ⟨f,rfl,rfl | ⟨U,hU,rfl⟩ | ⟨rfl,rfl⟩⟩⟩:=h x List.mem_cons_self
  ·rfl
  ·rfl
  ·have:¬ U=0:=by omega
   simp [AV.kill,this]
  ·rfl
theorem RC.grow0 {A:List (List Rec)} {t':List Rec} {cap:Nat} {cs:List AV} (h:RC A cap cs) (hA:A≠[]) {x:AV} (hx:okLt x t'):RC (A.dropLast++[t']) cap (yk9 cs (A.length - 1) [x]):=by
 have:=h.grow (T:=0) hA hx
 rwa [killL_ok h.ce] at this
theorem RC.last {A:List (List Rec)} {cap:Nat} {cs:List AV} (h:RC A cap cs) (hA:A≠[]):∃ x:AV,cs[A.length - 1]?=some x∧okLt x (zv9 A):=by
 refine h.cur _ ?_
 unfold zv9
 rw [List.getLast?_eq_some_getLast hA]
 rfl
theorem xm8 (l:List RE) {i:Nat} (h:i % 6=0):layG l (i+1)=layG l i++[[blkE l i]]:=by
 unfold layG
 rw [show (i+1+5) / 6=(i+5) / 6+1 by omega,List.range_succ (n:=(i+5) / 6),List.map_append]
 congr 1
 ·apply List.map_congr_left
  intro j hj
  rw [List.mem_range] at hj
  congr 1
  rw [List.range_succ,List.drop_append_of_le_length (by simp;omega),List.take_append_of_le_length (by simp;omega)]
 ·simp only [List.map_cons,List.map_nil]
  rw [show (i+5) / 6=i / 6 by omega,show 6 * (i / 6)=i by omega,List.range_succ,List.drop_append_of_le_length (by simp),List.drop_eq_nil_of_le (by simp)]
  rfl
theorem ql7 (l:List RE) {i:Nat} (h:i % 6≠0):layG l (i+1)=(layG l i).dropLast++[zv9 (layG l i)++[blkE l i]]:=by
 obtain ⟨q,hq⟩:∃ q,i / 6=q:=⟨_,rfl⟩
 have e1:(i+5) / 6=q+1:=by omega
 have e2:(i+1+5) / 6=q+1:=by omega
 have hu:∀ n,(n+5) / 6=q+1→layG l n=((List.range q).map fun j=>(((List.range n).drop (6 * j)).take 6).map (blkE l))++[(((List.range n).drop (6 * q)).take 6).map (blkE l)]:=by
  intro n hn
  unfold layG
  rw [hn,List.range_succ (n:=q),List.map_append]
  rfl
 rw [hu (i+1) e2,hu i e1,List.dropLast_concat]
 unfold zv9
 rw [List.getLast?_append]
 simp only [List.getLast?_singleton,Option.some_or,Option.getD_some]
 congr 1
 ·apply List.map_congr_left
  intro j hj
  rw [List.mem_range] at hj
  congr 1
  rw [List.range_succ,List.drop_append_of_le_length (by simp;omega),List.take_append_of_le_length (by simp;omega)]
 ·congr 1
  rw [List.range_succ,List.drop_append_of_le_length (by simp;omega),List.take_of_length_le (by simp;omega),List.take_of_length_le (by simp;omega)]
  simp
set_option maxRecDepth 20000
theorem wv8 (t:List Rec) (r:Rec):trL t++[recA r]=trL (t++[r]):=by simp [zq7,xh8]
theorem vr9 (a:AV) (n:Nat):repC n [a]=List.replicate n a:=by
 induction n with
 | zero=>rfl
 | succ n ih=>rw [repC,ih];rfl
theorem lay_sound (l:List RE) (n:Nat) (h8:∀ e∈l,e.key.length=8) (hs:∀ e∈l,e.trk < 1000000000∧e.rn < 1000000000) (hl:l.length≤1000000000) (hn:n≤1000):Sound Tryz.prog 41 [.agg [.lst .any 10 (reL l),.v (.int .i64 (n:Nat))]] (.lst (.tip 80 1) 1 (arL (layG l n))):=by
 refine xw9 Tryz.func41 rfl (by decide +kernel) (by simp [Tryz.f41]) (by simp [AV.rfL,AV.rf]) (by simp [AV.tlL,AV.tl]) (rs:=[.tmp 2]) rfl ?_
 rw [show Tryz.f41.ntmps=29 from rfl]
 have htr:=ud9 l n (by omega)
 obtain ⟨N,hN⟩:∃ N,(n+5) / 6=N:=⟨_,rfl⟩
 rw [hN] at htr
 have hN1:N≤1000:=by omega
 have hN2:(N:Int)≤9223372036854775807:=by omega
 have hN3:N * 24≤281474976710656:=by omega
 refine yr9 [1] (by simp;rfl) ?_
 refine W_rK [1,3] ?_
 refine yq9 1 (by simp;rfl) rfl ?_
 refine yf9 (by simp) (by first | (simp;done) | (simp;rfl)) htr (by simp;rfl) ?_
 refine yw9 (by simp [hN1,hN2,hN3,show 24 * (N:Int)≤281474976710656 by omega,show 24 * N≤281474976710656 by omega];rfl) ?_
 rw [vr9]
 refine yh9 ?_
 refine yr9 [1,3,9,10] (by simp;rfl) ?_
 refine yl9 ?_
 refine zj9 (fun q s=>∃ (i:Nat) (cs:List AV),q=n - i∧i≤n∧RC (layG l i) N cs∧s=⟨29,[(1,.loc 0 0),(3,.arr 1 0 N N),(9,.v (.int .i64 (n:Nat))),(10,.v (.int .i64 (i:Nat)))],[.cells 70 [.lst .any 10 (reL l),.v (.int .i64 (n:Nat))],.cells 80 cs]⟩) (k:=n) ⟨0,_,rfl,by omega,RC.nils N,by simp⟩ ?_
 rintro q s ⟨i,cs,rfl,hi,hrc,rfl⟩
 have hlay:=vh9 l i
 by_cases c:i < n
 ·have ci : (i : Int) < n := by omega
  have wi:=w64 (n:=(i:Int)+1) (by omega) (by omega)
  obtain ⟨x,hx⟩:∃ x,i / 6=x:=⟨_,rfl⟩
  have wq:Int.tdiv (i:Int) 6=(x:Nat):=by rw [Int.tdiv_eq_ediv_of_nonneg (by omega)];omega
  have wx:IntKind.i64.wrap (x:Nat)=(x:Nat):=w64 (by omega) (by omega)
  have hxN:x < N:=by omega
  have hxNi:(x:Int) < N:=by omega
  have hcl:=hrc.len
  have hblk:=block24_sound l n i h8 hs hl (by omega)
  obtain ⟨B,hB⟩:∃ B,blkE l i=B:=⟨_,rfl⟩
  rw [hB] at hblk
  simp only [recA] at hblk
  have hle1:x+1≤cs.length:=by omega
  refine yr9 [1,3,9,10,11] (by simp [c,ci];rfl) ?_
  refine yh9 ?_
  refine yt9 (t:=true) (by simp [c,ci]) (fun h=>?_) (fun h=>by simp at h)
  refine yg9 ?_
  refine yh9 ?_
  refine yl9 ?_
  refine yr9 [1,3,9,10,4] (by simp;rfl) ?_
  by_cases h6:i % 6=0
  ·have hxl:(layG l i).length=x:=by omega
   have hcx:cs[x]?=some (.lst .nil 4 []):=hrc.rest x (by omega) hxN
   have hnew:=hrc.next (t':=[B]) (x:=.lst (.tip 100 51) 4 (trL [B])) (by omega) ⟨_,rfl,.inr (.inl ⟨51,by decide,rfl⟩)⟩
   rw [hxl,← hB,← xm8 l h6,hB] at hnew
   refine qh9 [1,3,9,10] mx (by decide +kernel) ?_
   refine yd9 5 (by simp [wq,wx,hxN,hxNi];rfl) rfl ?_
   refine yd9 5 (by simp [wq,wx,hxN,hxNi,hcx];rfl) rfl ?_
   refine yv9 (by simp) (by first | (simp;done) | (simp;rfl)) hblk (by simp;rfl) ?_
   refine yb9 (by simp [wq,wx,hxN,hxNi,hcx,hle1,catK,AV.cellsK,AV.kone,AV.koneL];rfl) ?_
   refine zr9 [1,3,9,10] (by simp [wi];rfl) ?_
   exact ⟨_,by omega,i+1,_,rfl,by omega,hnew,by simp [xh8]⟩
  ·have hne:layG l i≠[]:=by
    intro h
    rw [h] at hlay
    simp at hlay
    omega
   have hxl:(layG l i).length - 1=x:=by omega
   obtain ⟨y,hcx,f,rfl,hf⟩:=hrc.last hne
   rw [hxl] at hcx
   obtain ⟨now,hnow⟩:∃ now,zv9 (layG l i)=now:=⟨_,rfl⟩
   have hnl:now.length≤6:=by
    rw [← hnow]
    unfold zv9
    rw [List.getLast?_eq_some_getLast hne]
    obtain ⟨j,hj,e⟩:=List.mem_map.1 (List.getLast_mem hne)
    simp only [Option.getD_some]
    rw [← e,List.length_map,List.length_take]
    omega
   rw [hnow] at hcx hf
   have b3:(now.length+1) * 64≤140737488355328:=by omega
   have b4:64 * (now.length+1)≤140737488355328:=by omega
   have hmore:=ql7 l h6
   rw [hnow,hB] at hmore
   have hsn:trL now++[AV.agg [.v (.int .i64 B.R),.lst .any 1 (byL B.key),.lst .any 1 (byL B.data),.v (.bool B.bad)]]=trL (now++[B]):=wv8 now B
   rcases hf with rfl | ⟨U,hU,rfl⟩ | ⟨rfl,h0⟩
   ·have hnew:=hrc.grow0 hne (t':=now++[B]) (x:=.lst (.tip 100 51) 4 (trL (now++[B]))) ⟨_,rfl,.inr (.inl ⟨51,by decide,rfl⟩)⟩
    rw [hxl,← hmore] at hnew
    refine qh9 [1,3,9,10] mx (by decide +kernel) ?_
    refine yd9 5 (by simp [wq,wx,hxN,hxNi];rfl) rfl ?_
    refine yd9 5 (by simp [wq,wx,hxN,hxNi,hcx];rfl) rfl ?_
    refine yv9 (by simp) (by first | (simp;done) | (simp;rfl)) hblk (by simp;rfl) ?_
    refine yb9 (by simp [wq,wx,hxN,hxNi,hcx,hle1,catK,AV.cellsK,AV.kone,AV.koneL,b3,b4,hsn];rfl) ?_
    refine zr9 [1,3,9,10] (by simp [wi];rfl) ?_
    exact ⟨_,by omega,i+1,_,rfl,by omega,hnew,by simp⟩
   ·have hnew:=hrc.grow (T:=U) hne (t':=now++[B]) (x:=.lst (.tip 100 U) 4 (trL (now++[B]))) ⟨_,rfl,.inr (.inl ⟨U,hU,rfl⟩)⟩
    rw [hxl,← hmore] at hnew
    have hkl:=jn9 U cs
    have hle2:x+1≤(AV.killL U cs).length:=by omega
    refine qh9 [1,3,9,10] mx (by decide +kernel) ?_
    refine yd9 5 (by simp [wq,wx,hxN,hxNi];rfl) rfl ?_
    refine yd9 5 (by simp [wq,wx,hxN,hxNi,hcx];rfl) rfl ?_
    refine yv9 (by simp) (by first | (simp;done) | (simp;rfl)) hblk (by simp;rfl) ?_
    refine yb9 (by simp [wq,wx,hxN,hxNi,hcx,hle1,hle2,catK,AV.cellsK,AV.kone,AV.koneL,b3,b4,hsn,AObj.kill];rfl) ?_
    refine zr9 [1,3,9,10] (by simp [wi];rfl) ?_
    exact ⟨_,by omega,i+1,_,rfl,by omega,hnew,by simp [hU]⟩
   ·subst h0
    have hnew:=hrc.grow0 hne (t':=[B]) (x:=.lst (.tip 100 51) 4 (trL [B])) ⟨_,rfl,.inr (.inl ⟨51,by decide,rfl⟩)⟩
    rw [List.nil_append] at hmore
    rw [hxl,← hmore] at hnew
    refine qh9 [1,3,9,10] mx (by decide +kernel) ?_
    refine yd9 5 (by simp [wq,wx,hxN,hxNi];rfl) rfl ?_
    refine yd9 5 (by simp [wq,wx,hxN,hxNi,hcx];rfl) rfl ?_
    refine yv9 (by simp) (by first | (simp;done) | (simp;rfl)) hblk (by simp;rfl) ?_
    refine yb9 (by simp [wq,wx,hxN,hxNi,hcx,hle1,catK,AV.cellsK,AV.kone,AV.koneL];rfl) ?_
    refine zr9 [1,3,9,10] (by simp [wi];rfl) ?_
    exact ⟨_,by omega,i+1,_,rfl,by omega,hnew,by simp [xh8]⟩
 have hie:i=n:=by omega
 subst hie
 rw [hN] at hlay
 refine yr9 [3,11] (by simp;rfl) ?_
 refine yh9 ?_
 refine yt9 rfl (fun h=>by simp at h) (fun h=>?_)
 refine zs9 ?_
 refine yr9 [2] (by simp;rfl) ?_
 refine W_dpB 1 (ty:=80) (cs:=cs) rfl ?_
 have hfin:=hrc.fin
 have hcl:=hrc.len
 have hdl:=wf9 cs
 rw [hlay,List.take_of_length_le (by omega)] at hfin
 rw [hfin]
 obtain ⟨A,hA⟩:∃ A,layG l i=A:=⟨_,rfl⟩
 rw [hA] at hlay ⊢
 subst hlay
 refine yj9 ?_
 repeat (first | refine yp9 ?_ | refine ys9 ?_)
 have hch:chunk false 1 A.length (arL A)=arL A:=by
  have:=chunk1 (arL A)
  simpa using this
 exact ⟨.lst (.tip 80 1) 1 (arL A),by simp [retQ,ws9,frzV,hch],.refl _⟩
set_option maxRecDepth 20000
def kt9 (t:List (List Rec)):Bool:=decide (∀ r∈(dirT t).flatten,r.data.length=256)&&(decide (1≤(dirT t).flatten.length)&&(decide ((dirT t).flatten.length≤64)&&(decide (((dirT t).flatten.length+5) / 6=(dirT t).length)&&ordE (rawE (dirT t).flatten))))
def kr9 (t:List (List Rec)):List RE × Nat × Bool:=if kt9 t then (rawE (dirT t).flatten,(dirT t).flatten.length,decide (layG (rawE (dirT t).flatten) (dirT t).flatten.length=dirT t)) else ([],0,false)
theorem AV.Le.agg {P:Program} {xs ys:List AV} (hl:xs.length=ys.length) (h:∀ (j:Nat) (x y:AV),xs[j]?=some x→ys[j]?=some y→AV.Le P x y):AV.Le P (.agg xs) (.agg ys):=fun c w u T hT h1 h2=>by
 simp only [AV.norm] at h1 h2 ⊢
 obtain ⟨us,rfl,hul,hrr⟩:=xt7 h1
 have hoo:=qp7 h2
 have hln:∀ l:List AV,(AV.normL T l).length=l.length:=fun l=>by induction l <;> simp_all [AV.normL]
 have key:∀ j y,(AV.normL T ys)[j]?=some y→Rep c w y (us.getD j undef)∧Own P c w y (us.getD j undef):=by
  intro j y hj
  rw [kp9] at hj
  obtain ⟨y0,hy,rfl⟩:=Option.map_eq_some_iff.1 hj
  have hjl:j < xs.length:=by rw [hl];exact (List.getElem?_eq_some_iff.1 hy).1
  have hx:xs[j]?=some xs[j]:=List.getElem?_eq_getElem hjl
  have hxn:(AV.normL T xs)[j]?=some (xs[j].norm T):=by rw [kp9,hx];rfl
  exact h j _ _ hx hy c w _ T hT (hrr j _ hxn) (hoo j _ hxn)
 exact ⟨.agg (by rw [hln,← hl,← hul,hln]) fun j y hj=>(key j y hj).1,.agg fun j y hj=>(key j y hj).2⟩
theorem Le_bad:AV.Le Tryz.prog (.tup [.agg [.lst .nil 10 [],.v (.int .i64 0)],.v (.bool false)]) (.tup [.agg [.lst (.tip 78 1) 10 (reL []),.v (.int .i64 ((0:Nat):Int))],.v (.bool false)]):=by
 refine AV.Le.tup2 (AV.Le.agg rfl fun j x y hx hy=>?_) (.refl _)
 match j with
 | 0=>simp at hx hy;subst hx hy;exact AV.Le.nil (by decide +kernel)
 | 1=>simp at hx hy;subst hx hy;exact .refl _
 | j+2=>simp at hx
def sq1 : Code → Code
 | .seq a _=>a
 | c=>c
def sq2 : Code → Code
 | .seq _ b=>b
 | c=>c
def bkC : Code → Code
 | .block _ b=>b
 | c=>c
def lpC : Code → Code
 | .loop b=>b
 | c=>c
noncomputable def readC:Code:=Tryz.f29.body.getD .skip
noncomputable def readX:Code:=lpC (bkC (sq2 (sq1 (sq2 (sq2 (sq2 readC))))))
noncomputable def readB:Code:=bkC (sq1 (sq2 (sq2 readX)))
noncomputable def readL:Code:=lpC (bkC (sq2 (sq1 (sq2 (sq2 readB)))))
noncomputable def readE4:Code:=sq2 (sq2 (sq2 (sq2 (sq2 (bkC (sq1 (sq2 (sq2 readL))))))))
noncomputable def readY:Code:=sq2 (sq2 (sq2 (sq2 readC)))
def OE (fl:Fl) (L:List RE):Prop:=(fl=.nil∧L=[])∨fl=.tip 78 177
theorem zq9 {fl:Fl} {L:List RE} (h:OE fl L) (T s:Nat) (xs:List AV) (h1:T≠177):(AV.lst fl s xs).kill T=.lst fl s xs:=by
 rcases h with ⟨rfl,_⟩ | rfl
 ·simp [AV.kill]
 ·simp [AV.kill,h1.symm]
theorem uv7 (a b:List Rec):rawE (a++b)=rawE a++rawE b:=by simp [rawE]
theorem dirT_take {t:List (List Rec)} {i:Nat} (hi:i≤t.length) (hk:∀ l∈t.take i,ks9 l=true) (hx:∀ l,t[i]?=some l→ks9 l=false):dirT t=t.take i:=by
 conv=>lhs;rw [← List.take_append_drop i t]
 rw [dirT,kb9 _ _ _ hk]
 have:(t.drop i).takeWhile ks9=[]:=by
  cases h:t.drop i with
  | nil=>rfl
  | cons x r =>
   have h0:t[i]?=some x:=by
    have:=congrArg (·[0]?) h
    simpa using this
   rw [List.takeWhile_cons,hx x h0]
   rfl
 rw [this,List.append_nil]
theorem dirT_has {t:List (List Rec)} {i:Nat} (hk:∀ l∈t.take i,ks9 l=true):∃ r,dirT t=t.take i++r:=by
 refine ⟨(t.drop i).takeWhile ks9,?_⟩
 conv=>lhs;rw [← List.take_append_drop i t]
 rw [dirT,kb9 _ _ _ hk]
theorem or16 (a b:UInt8):IntKind.i64.wrap (((IntKind.i64.wrap ((a.toNat:Int) * 2 ^ min 8 IntKind.i64.bits) % 2 ^ IntKind.i64.bits).toNat ||| b.toNat % 2 ^ IntKind.i64.bits:Nat):Int)=((256 * a.toNat+b.toNat:Nat):Int):=by
 have ha:=a.toNat_lt
 have hb:=b.toNat_lt
 have e1:(2:Int) ^ min 8 IntKind.i64.bits=256:=rfl
 have e2:(2:Int) ^ IntKind.i64.bits=18446744073709551616:=rfl
 have e3:(2:Nat) ^ IntKind.i64.bits=18446744073709551616:=rfl
 rw [e1,e2,e3,w64 (n:=(a.toNat:Int) * 256) (by omega) (by omega)]
 have h1:((a.toNat:Int) * 256 % 18446744073709551616).toNat=256 * a.toNat:=by omega
 have h2:b.toNat % 18446744073709551616=b.toNat:=by omega
 rw [h1,h2]
 have:=Nat.shiftLeft_add_eq_or_of_lt (i:=8) hb a.toNat
 rw [Nat.shiftLeft_eq] at this
 rw [show 256 * a.toNat=a.toNat * 2 ^ 8 by omega,← this,w64 (by omega) (by omega)]
theorem read_ents {t : List (List Rec)} {l : List Rec} {r : Rec} {D : List UInt8} (hDl : D.length = 256) {M : List RE} {fl : Fl} (hfl : OE fl M) (hMl : M.length ≤ 21 * 40000000) {i j k : Nat} {u : Int} (hlim : min u 256 = (limE D : Nat)) (hu0 : 0 ≤ u) (hu1 : u ≤ 4294967295) {Q : Exit → St → Prop}
  (hQ:∀ fl N,M++(List.range ((limE D - 2) / 12)).map (fun i=>qq6 D (2+12 * i))=N→OE fl N→Q .normal ⟨121,[(0,.lst .any 1 (arL t)),(2,.loc 0 0),(3,.v (.bool false)),(4,.loc 1 0),(5,.v (.int .i64 (i:Nat))),(14,.lst .any 1 (arL t)),(15,.v (.int .i64 (t.length:Nat))),(16,.v (.int .i64 (i:Nat))),(23,.lst .any 4 (trL l)),(24,.v (.int .i64 (l.length:Nat))),(25,.v (.int .i64 (j:Nat)))],[.cells 70 [.lst .nil 10 [],.v (.int .i64 0)],.cells 70 [.lst fl 10 (reL N),.v (.int .i64 (k:Nat))],.cells 100 [.v (.int .i64 r.R),.lst .any 1 (byL r.key),.lst .any 1 (byL D),.v (.bool r.bad)]]⟩) :
  Wt true 0 Tryz.prog readE4 Q ⟨121,[(0,.lst .any 1 (arL t)),(2,.loc 0 0),(3,.v (.bool false)),(4,.loc 1 0),(5,.v (.int .i64 (i:Nat))),(14,.lst .any 1 (arL t)),(15,.v (.int .i64 (t.length:Nat))),(16,.v (.int .i64 (i:Nat))),(23,.lst .any 4 (trL l)),(24,.v (.int .i64 (l.length:Nat))),(25,.v (.int .i64 (j:Nat))),(9,.loc 2 0),(10,.v (.int .u32 u)),(12,.v (.int .i64 2))],[.cells 70 [.lst .nil 10 [],.v (.int .i64 0)],.cells 70 [.lst fl 10 (reL M),.v (.int .i64 (k:Nat))],.cells 100 [.v (.int .i64 r.R),.lst .any 1 (byL r.key),.lst .any 1 (byL D),.v (.bool r.bad)]]⟩:=by
 have hlim2:limE D≤256:=by rw [limE,hDl];exact Nat.min_le_right _ _
 have wu:IntKind.i64.wrap u=u:=w64 (by omega) (by omega)
 refine yl9 ?_
 refine zj9 (fun q σ=>∃ m a:Nat,q=(limE D - 2) / 12 - m∧a=2+12 * m∧m≤(limE D - 2) / 12∧∃ fl N,M++(List.range m).map (fun i=>qq6 D (2+12 * i))=N∧OE fl N∧σ=⟨121,[(0,.lst .any 1 (arL t)),(2,.loc 0 0),(3,.v (.bool false)),(4,.loc 1 0),(5,.v (.int .i64 (i:Nat))),(14,.lst .any 1 (arL t)),(15,.v (.int .i64 (t.length:Nat))),(16,.v (.int .i64 (i:Nat))),(23,.lst .any 4 (trL l)),(24,.v (.int .i64 (l.length:Nat))),(25,.v (.int .i64 (j:Nat))),(9,.loc 2 0),(10,.v (.int .u32 u)),(12,.v (.int .i64 (a:Nat)))],[.cells 70 [.lst .nil 10 [],.v (.int .i64 0)],.cells 70 [.lst fl 10 (reL (N)),.v (.int .i64 (k:Nat))],.cells 100 [.v (.int .i64 r.R),.lst .any 1 (byL r.key),.lst .any 1 (byL D),.v (.bool r.bad)]]⟩) (k:=(limE D - 2) / 12) ⟨0,2,by omega,by omega,by omega,fl,M,by simp,hfl,by simp⟩ ?_
 clear hfl
 rintro q σ ⟨m,a,rfl,ha,hm,fl,N,hN,hfl,rfl⟩
 have w12:=w64 (n:=(a:Int)+12) (by omega) (by omega)
 have hlim3:(if 256 < u then (256:Int) else u)=(limE D:Nat):=by rw [← hlim];split <;> omega
 by_cases cm:m < (limE D - 2) / 12
 ·have cmi : (a : Int) + 12 ≤ (limE D : Nat) := by omega
  have cmn:a+12≤limE D:=by omega
  have ha0:(0:Int)≤(a:Int):=by omega
  have ha256:(a:Int)≤256:=by omega
  have ha256n:a≤D.length:=by omega
  have ha256m:a≤256:=by omega
  have w8:=w64 (n:=(a:Int)+8) (by omega) (by omega)
  have w9:=w64 (n:=(a:Int)+9) (by omega) (by omega)
  have w10:=w64 (n:=(a:Int)+10) (by omega) (by omega)
  refine yh9 ?_
  refine yr9 [0,2,3,4,5,14,15,16,23,24,25,9,10,12,49] (by simp [↓zq9 hfl,cmi,cmn,w12,wu,hlim3];rfl) ?_
  refine yt9 (t:=true) (by simp [cmi,cmn]) (fun h=>?_) (fun h=>by simp at h)
  refine yg9 ?_
  repeat (first | refine on_norm ?_ | refine in_norm ?_)
  refine yh9 ?_
  refine yl9 ?_
  refine yr9 [0,2,3,4,5,14,15,16,23,24,25,9,10,12,13] (by simp [↓zq9 hfl];rfl) ?_
  refine W_rsK 6 [0,2,3,4,5,14,15,16,23,24,25,9,10,12,13] mx (by decide +kernel) ?_
  refine yd9 6 (by simp [↓zq9 hfl,maxLen,hDl,ha256n,ha256m,ha0,ha256];rfl) rfl ?_
  obtain ⟨K,hK⟩:∃ K,(D.drop a).take 8=K:=⟨_,rfl⟩
  have hKl:K.length=8:=by rw [← hK,List.length_take,List.length_drop];omega
  refine zp7 (t:=90) (t':=90) (e:=5) (e2:=78) (sz:=1) (id:=3) (off:=0) (len:=8) (cap:=8) (ag:=false) (oy:=.any) (cs:=byL (List.replicate 8 0)++[.v (.int .i64 0),.v (.int .i64 0)]) (ys:=List.drop a (byL D)) (yc:=byL K) (by simp) rfl rfl rfl rfl (by simp) (by simp) s90 (by omega) (by simp [byL,List.replicate]) (by simp) (by rw [← zt8,← qs9,hK];exact qt9 _) ?_
  refine ⟨_,by simp;rfl,?_⟩
  refine yw9 (by simp;rfl) ?_
  obtain ⟨x8,b8⟩:∃ x,D[a+8]?=some x:=⟨_,List.getElem?_eq_getElem (by omega)⟩
  obtain ⟨x9,b9⟩:∃ x,D[a+9]?=some x:=⟨_,List.getElem?_eq_getElem (by omega)⟩
  obtain ⟨x10,b10⟩:∃ x,D[a+10]?=some x:=⟨_,List.getElem?_eq_getElem (by omega)⟩
  have g8:(byL D)[a+8]?=some (.v (.int .u8 x8.toNat)):=by simp [byL,b8]
  have g9:(byL D)[a+9]?=some (.v (.int .u8 x9.toNat)):=by simp [byL,b9]
  have g10:(byL D)[a+10]?=some (.v (.int .u8 x10.toNat)):=by simp [byL,b10]
  have p8:(0:Int)≤(a:Int)+8:=by omega
  have p9:(0:Int)≤(a:Int)+9:=by omega
  have p10:(0:Int)≤(a:Int)+10:=by omega
  have t8:((a:Int)+8).toNat=a+8:=by omega
  have t9:((a:Int)+9).toNat=a+9:=by omega
  have t10:((a:Int)+10).toNat=a+10:=by omega
  have u8:=x8.toNat_lt
  have u9:=x9.toNat_lt
  have u10:=x10.toNat_lt
  have v8:=w64 (n:=(x8.toNat:Int)) (by omega) (by omega)
  have v9:=w64 (n:=(x9.toNat:Int)) (by omega) (by omega)
  have v10:=w64 (n:=(x10.toNat:Int)) (by omega) (by omega)
  have hE:qq6 D a=⟨K,256 * x8.toNat+x9.toNat,x10.toNat⟩:=by
   rw [qq6,hK,List.getD_eq_getElem?_getD,b8,List.getD_eq_getElem?_getD,b9,List.getD_eq_getElem?_getD,b10]
   rfl
  refine W_rsK 25 [0,2,3,4,5,14,15,16,23,24,25,9,10,12,13] mx (by decide +kernel) ?_
  refine yd9 8 (by simp [↓zq9 hfl,hDl,w8,p8,t8,g8,v8];rfl) rfl ?_
  refine yd9 8 (by simp [↓zq9 hfl,hDl,w9,p9,t9,g9,v9];rfl) rfl ?_
  refine yb9 (by simp [↓zq9 hfl,hDl,w10,p10,t10,g10,v10];rfl) ?_
  have hkl8:(byL K).length=8:=by simp [hKl]
  refine yw9 (by simp [yk9,or16 x8 x9,hkl8,hKl];rfl) ?_
  have hrc:byL K++AV.v (Value.int IntKind.i64 (256 * ↑x8.toNat+↑x9.toNat)) :: AV.v (Value.int IntKind.i64 ↑x10.toNat) :: List.drop 10 (byL K++[AV.v (Value.int IntKind.i64 0),AV.v (Value.int IntKind.i64 0)])=reC (qq6 D a):=by
   rw [hE];simp [reC,hKl]
  rw [hrc]
  obtain ⟨E,hEE⟩:∃ E,qq6 D a=E:=⟨_,rfl⟩
  have hE8:E.key.length=8:=by rw [← hEE,hE];exact hKl
  rw [hEE]
  have htk10:List.take 10 (reC E)=reC E:=List.take_of_length_le (by rw [xr9 hE8];omega)
  have hNn:N++[E]=M++(List.range (m+1)).map (fun i=>qq6 D (2+12 * i)):=by rw [← hN,List.range_succ,List.map_append,List.append_assoc,List.map_singleton,← ha,hEE]
  have hNlen:N.length≤21 * 40000000+21:=by
   rw [← hN,List.length_append,List.length_map,List.length_range]
   omega
  have hrs:reL N++[AV.agg (reC E)]=reL (N++[E]):=by simp [reL,reA]
  rcases hfl with ⟨rfl,rfl⟩ | rfl
  ·refine zr9 [0,2,3,4,5,14,15,16,23,24,25,9,10,12] (by simp [hE8,htk10,xr9 hE8,catK,AV.cellsK,AV.kone,AV.koneL,yk9];rfl) ?_
   repeat (first | refine on_norm ?_ | refine in_norm ?_)
   refine vd9 3 (Nat.zero_le _) (by simp) (by simp [zk9,AV.under,AV.underL]) (by simp [yn9,AObj.under,AV.under,AV.underL,reC]) ?_
   refine zr9 [0,2,3,4,5,14,15,16,23,24,25,9,10,12] (by simp [w12];rfl) ?_
   exact ⟨_,by omega,m+1,a+12,rfl,by omega,by omega,.tip 78 177,[E],hNn.symm,.inr rfl,by simp [reL,reA]⟩
  ·have b3:(N.length+1) * 24≤140737488355328:=by omega
   have b4:24 * (N.length+1)≤140737488355328:=by omega
   refine zr9 [0,2,3,4,5,14,15,16,23,24,25,9,10,12] (by simp [hE8,htk10,xr9 hE8,catK,AV.cellsK,AV.kone,AV.koneL,yk9,b3,b4,hrs];rfl) ?_
   repeat (first | refine on_norm ?_ | refine in_norm ?_)
   refine vd9 3 (Nat.zero_le _) (by simp) (by simp [zk9,AV.under,AV.underL]) (by simp [yn9,AObj.under,AV.under,AV.underL,reC,reL]) ?_
   refine zr9 [0,2,3,4,5,14,15,16,23,24,25,9,10,12] (by simp [w12];rfl) ?_
   exact ⟨_,by omega,m+1,a+12,rfl,by omega,by omega,.tip 78 177,N++[E],hNn.symm,.inr rfl,by simp⟩
 ·have hmK:m=(limE D - 2) / 12:=by omega
  have ncmi:¬ (a:Int)+12≤(limE D:Nat):=by omega
  have ncmn:¬ a+12≤limE D:=by omega
  refine yh9 ?_
  refine yr9 [0,2,3,4,5,14,15,16,23,24,25,49] (by simp [↓zq9 hfl,ncmi,ncmn,w12,wu,hlim3];rfl) ?_
  refine yt9 (t:=false) (by simp [ncmi,ncmn]) (fun h=>by simp at h) (fun h=>?_)
  refine ym9 [0,2,3,4,5,14,15,16,23,24,25] ?_
  refine zs9 ?_
  repeat (first | refine on_exit ?_ | refine in_exit ?_)
  subst hmK
  exact hQ fl N hN hfl
set_option maxRecDepth 20000
noncomputable def badC:Code:=match sq2 (sq1 readY) with | .cond _ a _=>a | c=>c
theorem wv7 {t : List (List Rec)} {L : List RE} {fl : Fl} (hfl : OE fl L) (hbad : kt9 t = false) {n q : Nat} {K : St → Prop} :
  Wt true 0 Tryz.prog badC (zw9 K (retU Tryz.prog [.cell 2 70,.tmp 3] (.tup [.agg [.lst (.tip 78 1) 10 (reL (kr9 t).1),.v (.int .i64 ((kr9 t).2.1:Nat))],.v (.bool (kr9 t).2.2)]))) ⟨121,[(0,.lst .any 1 (arL t)),(2,.loc 0 0),(3,.v (.bool false)),(4,.loc 1 0),(5,.v (.int .i64 (q:Nat))),(112,.v (.bool true))],[.cells 70 [.lst .nil 10 [],.v (.int .i64 0)],.cells 70 [.lst fl 10 (reL L),.v (.int .i64 (n:Nat))]]⟩:=by
 refine yr9 [2,3] (by simp [↓zq9 hfl,yk9];rfl) ?_
 refine yj9 ?_
 repeat (first | refine yp9 ?_ | refine ys9 ?_)
 exact ⟨.tup [.agg [.lst .nil 10 [],.v (.int .i64 0)],.v (.bool false)],by simp [retQ],by rw [kr9,hbad];exact Le_bad⟩
theorem read_good {t : List (List Rec)} {L : List RE} (hLok : ∀ e ∈ L, okE e) {n q : Nat} (hLn : L.length ≤ 1000000000) (hn : n ≤ 64) (hTl : q ≤ t.length) {fl : Fl} (hfl : OE fl L) (hgood : kt9 t = true)
  (hP:kr9 t=if kt9 t then (L,n,decide (layG L n=t.take q)) else ([],0,false)) :
  Wt true 0 Tryz.prog (sq2 readY) (retU Tryz.prog [.cell 2 70,.tmp 3] (.tup [.agg [.lst (.tip 78 1) 10 (reL (kr9 t).1),.v (.int .i64 ((kr9 t).2.1:Nat))],.v (.bool (kr9 t).2.2)])) ⟨121,[(0,.lst .any 1 (arL t)),(2,.loc 0 0),(3,.v (.bool false)),(4,.loc 1 0),(5,.v (.int .i64 (q:Nat)))],[.cells 70 [.lst .nil 10 [],.v (.int .i64 0)],.cells 70 [.lst fl 10 (reL L),.v (.int .i64 (n:Nat))]]⟩:=by
 have h8:∀ e∈L,e.key.length=8:=fun e he=>(hLok e he).1
 have hlay:=lay_sound L n h8 (fun e he=>by have:=hLok e he;exact ⟨by have:=this.2.1;omega,by have:=this.2.2;omega⟩) (by omega) (by omega)
 have heq:=eqTs_sound (layG L n) (t.take q) (by rw [vh9];omega) (fun x hx=>by
  obtain ⟨j,hj,rfl⟩:=List.mem_map.1 hx
  rw [List.length_map,List.length_take]
  omega)
 have hqi:(q:Int)≤t.length:=by omega
 rw [hP,hgood]
 obtain ⟨G,hG⟩:∃ G,layG L n=G:=⟨_,rfl⟩
 rw [hG] at hlay heq ⊢
 refine W_rsK 7 [2,3] mx (by decide +kernel) ?_
 refine yd9 2 (by simp [↓zq9 hfl];rfl) rfl ?_
 refine yv9 (by simp) (by first | (simp;done) | (simp;rfl)) hlay (by simp [↓zq9 hfl];rfl) ?_
 refine yd9 3 (by simp [↓zq9 hfl,hTl,hqi];rfl) rfl ?_
 refine yv9 (by simp) (by first | (simp [← arL_take];done) | (simp [← arL_take];rfl)) heq (by simp [↓zq9 hfl];rfl) ?_
 refine yb9 (by simp;rfl) ?_
 refine yw9 (by simp [↓zq9 hfl,yk9];rfl) ?_
 refine yj9 ?_
 repeat (first | refine yp9 ?_ | refine ys9 ?_)
 refine ⟨.tup [.agg [.lst fl 10 (reL L),.v (.int .i64 (n:Nat))],.v (.bool (decide (G=t.take q)))],by rcases hfl with ⟨rfl,_⟩ | rfl <;> simp [retQ,AV.rf,AV.rfL],AV.Le.tup2 (AV.Le.agg rfl fun j x y hx hy=>?_) (.refl _)⟩
 match j with
 | 0 =>
  simp at hx hy;subst hx hy
  rcases hfl with ⟨rfl,h0⟩ | rfl
  ·rw [h0];exact AV.Le.nil (by decide +kernel)
  ·exact AV.Le.norm fun T=>rfl
 | 1=>simp at hx hy;subst hx hy;exact .refl _
 | j+2=>simp at hx
theorem read_tail (t:List (List Rec)) (hl:t.length≤100000000) (hf:(dirT t).flatten.length≤40000000) (h256:∀ r∈(dirT t).flatten,r.data.length=256) {fl:Fl} (hfl:OE fl (rawE (dirT t).flatten)):Wt true 0 Tryz.prog readY (retU Tryz.prog [.cell 2 70,.tmp 3] (.tup [.agg [.lst (.tip 78 1) 10 (reL (kr9 t).1),.v (.int .i64 ((kr9 t).2.1:Nat))],.v (.bool (kr9 t).2.2)])) ⟨121,[(0,.lst .any 1 (arL t)),(2,.loc 0 0),(3,.v (.bool false)),(4,.loc 1 0),(5,.v (.int .i64 ((dirT t).length:Nat)))],[.cells 70 [.lst .nil 10 [],.v (.int .i64 0)],.cells 70 [.lst fl 10 (reL (rawE (dirT t).flatten)),.v (.int .i64 ((dirT t).flatten.length:Nat))]]⟩:=by
 have hT:dirT t=t.take (dirT t).length:=by
  have:=congrArg (List.take (dirT t).length) (yh7 t)
  rw [List.take_left'] at this
  ·exact this.symm
  ·rfl
 have hTl:(dirT t).length≤t.length:=by
  have:=congrArg List.length (yh7 t)
  rw [List.length_append] at this
  omega
 have hLl:=jr8 h256
 have hro:kt9 t=(decide (1≤(dirT t).flatten.length)&&(decide ((dirT t).flatten.length≤64)&&(decide (((dirT t).flatten.length+5) / 6=(dirT t).length)&&ordE (rawE (dirT t).flatten)))):=by rw [kt9,decide_eq_true h256,Bool.true_and]
 have hLok:∀ e∈rawE (dirT t).flatten,okE e:=rawE_ok
 have hP:kr9 t=if kt9 t then (rawE (dirT t).flatten,(dirT t).flatten.length,decide (layG (rawE (dirT t).flatten) (dirT t).flatten.length=t.take (dirT t).length)) else ([],0,false):=by rw [kr9,← hT]
 clear h256
 obtain ⟨L,hL⟩:∃ L,rawE (dirT t).flatten=L:=⟨_,rfl⟩
 obtain ⟨n,hn⟩:∃ n,(dirT t).flatten.length=n:=⟨_,rfl⟩
 obtain ⟨T,hTT⟩:∃ T,(dirT t).length=T:=⟨_,rfl⟩
 rw [hL,hn,hTT] at hP hro
 rw [hL] at hfl hLl hLok
 rw [hL,hn,hTT]
 rw [hn] at hf hLl
 rw [hTT] at hTl
 clear hT
 have h8:∀ e∈L,e.key.length=8:=fun e he=>(hLok e he).1
 refine yh9 ?_
 by_cases c1:n=0
 ·subst c1
  have hbad:kt9 t=false:=by rw [hro];rfl
  refine W_rK [0,2,3,4,5,112] ?_
  refine yq9 4 (by simp [↓zq9 hfl];rfl) rfl ?_
  refine yq9 5 (by simp [↓zq9 hfl];rfl) rfl ?_
  refine yq9 6 (by simp [↓zq9 hfl];rfl) rfl ?_
  refine yw9 (by simp [↓zq9 hfl];rfl) ?_
  refine yt9 rfl (fun h=>?_) (fun h=>by simp at h)
  exact wv7 hfl hbad
 have d1:¬ (n:Int) < 1:=by omega
 have d1n:¬ n < 1:=by omega
 by_cases c2:64 < n
 ·have d2:(64:Int) < (n:Int):=by omega
  have hbad:kt9 t=false:=by rw [hro,decide_eq_false (p:=n≤64) (by omega),Bool.false_and,Bool.and_false]
  refine W_rK [0,2,3,4,5,112] ?_
  refine yq9 4 (by simp [↓zq9 hfl,c1,d1,d1n,c2,d2];rfl) rfl ?_
  refine yq9 5 (by simp [↓zq9 hfl,c1,d1,d1n,c2,d2];rfl) rfl ?_
  refine yq9 6 (by simp [↓zq9 hfl,c1,d1,d1n,c2,d2];rfl) rfl ?_
  refine yw9 (by simp [↓zq9 hfl,c1,d1,d1n,c2,d2];rfl) ?_
  refine yt9 rfl (fun h=>?_) (fun h=>by simp at h)
  exact wv7 hfl hbad
 have d2:¬ (64:Int) < (n:Int):=by omega
 have htr:=ud9 L n (by omega)
 obtain ⟨q,hq⟩:∃ q,(n+5) / 6=q:=⟨_,rfl⟩
 rw [hq] at htr
 by_cases c3:q=T
 ·subst c3
  have hor:=ut6 L n h8 (by omega)
  cases ho:ordE L with
  | false =>
   rw [ho] at hor
   have hbad:kt9 t=false:=by rw [hro,ho,Bool.and_false,Bool.and_false,Bool.and_false]
   refine W_rK [0,2,3,4,5,112] ?_
   refine yq9 4 (by simp [↓zq9 hfl,c1,d1,d1n,c2,d2];rfl) rfl ?_
   refine yq9 5 (by simp [↓zq9 hfl,c1,d1,d1n,c2,d2];rfl) rfl ?_
   refine yq9 1 (by simp [↓zq9 hfl,c1,d1,d1n,c2,d2];rfl) rfl ?_
   refine yf9 (by simp) (by first | (simp;done) | (simp;rfl)) htr (by simp [↓zq9 hfl];rfl) ?_
   refine yq9 5 (by simp [↓zq9 hfl];rfl) rfl ?_
   refine yf9 (by simp) (by first | (simp;done) | (simp;rfl)) hor (by simp [↓zq9 hfl];rfl) ?_
   refine yw9 (by simp [↓zq9 hfl];rfl) ?_
   refine yt9 rfl (fun h=>?_) (fun h=>by simp at h)
   exact wv7 hfl hbad
  | true =>
   rw [ho] at hor
   have hgood:kt9 t=true:=by rw [hro,ho,hq,decide_eq_true (p:=1≤n) (by omega),decide_eq_true (p:=n≤64) (by omega),decide_eq_true rfl];rfl
   refine W_rK [0,2,3,4,5,112] ?_
   refine yq9 4 (by simp [↓zq9 hfl,c1,d1,d1n,c2,d2];rfl) rfl ?_
   refine yq9 5 (by simp [↓zq9 hfl,c1,d1,d1n,c2,d2];rfl) rfl ?_
   refine yq9 1 (by simp [↓zq9 hfl,c1,d1,d1n,c2,d2];rfl) rfl ?_
   refine yf9 (by simp) (by first | (simp;done) | (simp;rfl)) htr (by simp [↓zq9 hfl];rfl) ?_
   refine yq9 5 (by simp [↓zq9 hfl];rfl) rfl ?_
   refine yf9 (by simp) (by first | (simp;done) | (simp;rfl)) hor (by simp [↓zq9 hfl];rfl) ?_
   refine yw9 (by simp [↓zq9 hfl];rfl) ?_
   refine yt9 rfl (fun h=>by simp at h) (fun h=>?_)
   refine yg9 ?_
   repeat (first | refine on_norm ?_ | refine in_norm ?_)
   refine ym9 [0,2,3,4,5] ?_
   exact read_good hLok (by omega) (by omega) hTl hfl hgood hP
 ·have d3:¬ (q:Int)=(T:Int):=by omega
  have d4:((q:Int) != (T:Int))=true:=by simp;omega
  have hbad:kt9 t=false:=by rw [hro,hq,decide_eq_false c3,Bool.false_and,Bool.and_false,Bool.and_false]
  refine W_rK [0,2,3,4,5,112] ?_
  refine yq9 4 (by simp [↓zq9 hfl,c1,d1,d1n,c2,d2];rfl) rfl ?_
  refine yq9 5 (by simp [↓zq9 hfl,c1,d1,d1n,c2,d2];rfl) rfl ?_
  refine yq9 1 (by simp [↓zq9 hfl,c1,d1,d1n,c2,d2];rfl) rfl ?_
  refine yf9 (by simp) (by first | (simp;done) | (simp;rfl)) htr (by simp [↓zq9 hfl];rfl) ?_
  refine yq9 4 (by simp [↓zq9 hfl,c3,d3,d4];rfl) rfl ?_
  refine yw9 (by simp [↓zq9 hfl,c3,d3,d4];rfl) ?_
  refine yt9 rfl (fun h=>?_) (fun h=>by simp at h)
  exact wv7 hfl hbad
set_option maxRecDepth 20000
theorem read_sound (t:List (List Rec)) (hl:t.length≤100000000) (ht:∀ r∈t,r.length≤100000000) (hf:(dirT t).flatten.length≤40000000) (hd:∀ l∈t,∀ r∈l,r.data.length≤1000000000):Sound Tryz.prog 29 [.lst .any 1 (arL t)] (.tup [.agg [.lst (.tip 78 1) 10 (reL (kr9 t).1),.v (.int .i64 ((kr9 t).2.1:Nat))],.v (.bool (kr9 t).2.2)]):=by
 refine xw9 Tryz.func29 rfl (by decide +kernel) (by simp [Tryz.f29]) (by simp [AV.rfL,AV.rf]) (by simp [AV.tlL,AV.tl]) (rs:=[.cell 2 70,.tmp 3]) rfl ?_
 rw [show Tryz.f29.ntmps=121 from rfl]
 refine yr9 [0,2,3] (by simp;rfl) ?_
 refine yr9 [0,2,3,4] (by simp;rfl) ?_
 refine yr9 [0,2,3,4,5] (by simp;rfl) ?_
 refine jk7 (fun σ=>(∀ r∈(dirT t).flatten,r.data.length=256)∧∃ fl,OE fl (rawE (dirT t).flatten)∧σ=⟨121,[(0,.lst .any 1 (arL t)),(2,.loc 0 0),(3,.v (.bool false)),(4,.loc 1 0),(5,.v (.int .i64 ((dirT t).length:Nat)))],[.cells 70 [.lst .nil 10 [],.v (.int .i64 0)],.cells 70 [.lst fl 10 (reL (rawE (dirT t).flatten)),.v (.int .i64 ((dirT t).flatten.length:Nat))]]⟩) ?_ ?_
 ·refine yr9 [0, 2, 3, 4, 5, 14, 15, 16] (by simp; rfl) ?_
  refine yl9 ?_
  refine zj9 (fun q σ=>∃ i:Nat,q=t.length - i∧i≤t.length∧(∀ l∈t.take i,ks9 l=true)∧(∀ r∈(t.take i).flatten,r.data.length=256)∧∃ fl L n,rawE (t.take i).flatten=L∧(t.take i).flatten.length=n∧OE fl L∧σ=⟨121,[(0,.lst .any 1 (arL t)),(2,.loc 0 0),(3,.v (.bool false)),(4,.loc 1 0),(5,.v (.int .i64 (i:Nat))),(14,.lst .any 1 (arL t)),(15,.v (.int .i64 (t.length:Nat))),(16,.v (.int .i64 (i:Nat)))],[.cells 70 [.lst .nil 10 [],.v (.int .i64 0)],.cells 70 [.lst fl 10 (reL (L)),.v (.int .i64 (n:Nat))]]⟩) (k:=t.length) ⟨0,rfl,by omega,by simp,by simp,.nil,[],0,rfl,rfl,.inl ⟨rfl,rfl⟩,by simp⟩ ?_
  rintro q σ ⟨i,rfl,hi,hk,h256,fl,L,n,hL,hn,hfl,rfl⟩
  by_cases c:i < t.length
  ·have ci : (i : Int) < t.length := by omega
   have wi:=w64 (n:=(i:Int)+1) (by omega) (by omega)
   obtain ⟨l,hli⟩:∃ l,t[i]?=some l:=⟨_,List.getElem?_eq_getElem c⟩
   have hgl:t[i]'c=l:=by rw [List.getElem?_eq_getElem c] at hli;exact Option.some.inj hli
   have hlm:=List.mem_of_getElem? hli
   have hll:=ht l hlm
   have hky:=keyed_sound l (by omega)
   refine yr9 [0,2,3,4,5,14,15,16,17] (by simp [↓zq9 hfl,c,ci];rfl) ?_
   refine yh9 ?_
   refine yt9 rfl (fun h=>?_) (fun h=>by simp at h)
   refine yg9 ?_
   refine yh9 ?_
   refine yl9 ?_
   refine yr9 [0,2,3,4,5,14,15,16,7] (by simp [↓zq9 hfl,c,ci,hgl,yk9];rfl) ?_
   refine yh9 ?_
   obtain ⟨KY,hKY⟩:∃ K,ks9 l=K:=⟨_,rfl⟩
   rw [hKY] at hky
   cases KY with
   | false =>
    refine W_rK [0,2,3,4,5,14,15,16,7,22] ?_
    refine yq9 1 (by simp [↓zq9 hfl];rfl) rfl ?_
    refine yf9 (by simp) (by first | (simp;done) | (simp;rfl)) hky (by simp [↓zq9 hfl];rfl) ?_
    refine yw9 (by simp [↓zq9 hfl];rfl) ?_
    refine yt9 rfl (fun h=>?_) (fun h=>by simp at h)
    have hdt:=dirT_take (by omega) hk (fun l' hl'=>by rw [hli] at hl';obtain rfl:=Option.some.inj hl';exact hKY)
    rw [hdt]
    refine ym9 [0,2,3,4,5] ?_
    refine zs9 ?_
    repeat (first | refine on_exit ?_ | refine in_exit ?_)
    exact ⟨h256,fl,hL.symm ▸ hfl,by rw [hL,hn];simp [Nat.min_eq_left hi]⟩
   | true =>
   refine W_rK [0,2,3,4,5,14,15,16,7,22] ?_
   refine yq9 1 (by simp [↓zq9 hfl];rfl) rfl ?_
   refine yf9 (by simp) (by first | (simp;done) | (simp;rfl)) hky (by simp [↓zq9 hfl];rfl) ?_
   refine yw9 (by simp [↓zq9 hfl];rfl) ?_
   refine yt9 rfl (fun h=>by simp at h) (fun h=>?_)
   refine yg9 ?_
   repeat (first | refine on_norm ?_ | refine in_norm ?_)
   have htk1:t.take (i+1)=t.take i++[l]:=by rw [List.take_add_one,hli];rfl
   have hk1:∀ x∈t.take (i+1),ks9 x=true:=by
    intro x hx
    rw [htk1,List.mem_append,List.mem_singleton] at hx
    rcases hx with hx | rfl
    ·exact hk x hx
    ·exact hKY
   obtain ⟨rr,hrr⟩:=dirT_has hk1
   have hfl1:(t.take (i+1)).flatten=(t.take i).flatten++l:=by rw [htk1];simp
   have hnl:n+l.length≤40000000:=by
    have h1:=congrArg (fun x=>x.flatten.length) hrr
    simp only [List.flatten_append,List.length_append,hfl1] at h1
    omega
   have hmem:∀ r∈l,r∈(dirT t).flatten:=by
    intro r hr
    rw [hrr,List.flatten_append,hfl1]
    simp [hr]
   refine jk7 (fun σ=>(∀ r∈l,r.data.length=256)∧∃ fl,OE fl (L++rawE l)∧σ=⟨121,[(0,.lst .any 1 (arL t)),(2,.loc 0 0),(3,.v (.bool false)),(4,.loc 1 0),(5,.v (.int .i64 (i:Nat))),(14,.lst .any 1 (arL t)),(15,.v (.int .i64 (t.length:Nat))),(16,.v (.int .i64 (i:Nat)))],[.cells 70 [.lst .nil 10 [],.v (.int .i64 0)],.cells 70 [.lst fl 10 (reL (L++rawE l)),.v (.int .i64 (n+l.length:Nat))]]⟩) ?_ ?_
   ·refine yr9 [0, 2, 3, 4, 5, 14, 15, 16, 23, 24, 25] (by simp [↓zq9 hfl]; rfl) ?_
    refine yl9 ?_
    refine zj9 (fun q σ=>∃ j:Nat,q=l.length - j∧j≤l.length∧(∀ r∈l.take j,r.data.length=256)∧∃ fl M,L++rawE (l.take j)=M∧OE fl M∧σ=⟨121,[(0,.lst .any 1 (arL t)),(2,.loc 0 0),(3,.v (.bool false)),(4,.loc 1 0),(5,.v (.int .i64 (i:Nat))),(14,.lst .any 1 (arL t)),(15,.v (.int .i64 (t.length:Nat))),(16,.v (.int .i64 (i:Nat))),(23,.lst .any 4 (trL l)),(24,.v (.int .i64 (l.length:Nat))),(25,.v (.int .i64 (j:Nat)))],[.cells 70 [.lst .nil 10 [],.v (.int .i64 0)],.cells 70 [.lst fl 10 (reL (M)),.v (.int .i64 (n+j:Nat))]]⟩) (k:=l.length) ⟨0,rfl,by omega,by simp,fl,L,by simp [rawE],hfl,by simp⟩ ?_
    clear hfl
    rintro q σ ⟨j,rfl,hj,h256j,fl,M,hM,hfl,rfl⟩
    by_cases cj:j < l.length
    ·have cji : (j : Int) < l.length := by omega
     have wj:=w64 (n:=(j:Int)+1) (by omega) (by omega)
     have wn:=w64 (n:=(n:Int)+(j:Int)+1) (by omega) (by omega)
     obtain ⟨r,hr⟩:∃ r,l[j]?=some r:=⟨_,List.getElem?_eq_getElem cj⟩
     have hgr:l[j]'cj=r:=by rw [List.getElem?_eq_getElem cj] at hr;exact Option.some.inj hr
     have hrm:=List.mem_of_getElem? hr
     have hrd:=hd l hlm r hrm
     refine yr9 [0,2,3,4,5,14,15,16,23,24,25,26] (by simp [↓zq9 hfl,cj,cji];rfl) ?_
     refine yh9 ?_
     refine yt9 (t:=true) (by simp [cj,cji]) (fun h=>?_) (fun h=>by simp at h)
     refine yg9 ?_
     refine yh9 ?_
     refine yl9 ?_
     refine yr9 [0,2,3,4,5,14,15,16,23,24,25,9] (by simp [↓zq9 hfl,cj,cji,hgr,yk9];rfl) ?_
     refine yh9 ?_
     by_cases h256r:r.data.length=256
     ·have h256i : (r.data.length : Int) = 256 := by omega
      refine yr9 [0,2,3,4,5,14,15,16,23,24,25,9,32] (by simp [↓zq9 hfl,h256r,h256i];rfl) ?_
      refine yt9 (t:=false) (by simp [h256r,h256i]) (fun h=>by simp at h) (fun h=>?_)
      refine yg9 ?_
      repeat (first | refine on_norm ?_ | refine in_norm ?_)
      refine yr9 [0,2,3,4,5,14,15,16,23,24,25,9] (by simp [↓zq9 hfl,wn,yk9];rfl) ?_
      have hha:=half_sound r.data (by omega) (by omega)
      have hmin:=halfX_min (r.data.getD 0 0) (r.data.getD 1 0)
      obtain ⟨u,hu⟩:∃ u,halfX (r.data.getD 0 0).toNat (r.data.getD 1 0).toNat=u:=⟨_,rfl⟩
      rw [hu] at hha hmin
      obtain ⟨hm1,hu0,hu1⟩:=hmin
      refine W_rK [0,2,3,4,5,14,15,16,23,24,25,9,10] ?_
      refine yq9 2 (by simp [↓zq9 hfl];rfl) rfl ?_
      refine yf9 (by simp) (by first | (simp;done) | (simp;rfl)) hha (by simp [↓zq9 hfl];rfl) ?_
      refine yw9 (by simp [↓zq9 hfl];rfl) ?_
      obtain ⟨D,hD⟩:∃ D,r.data=D:=⟨_,rfl⟩
      have hDl:D.length=256:=by rw [← hD];exact h256r
      have hlim:min u 256=(limE D:Nat):=by rw [hm1,limE,hDl,hD]
      have hlim2:limE D≤256:=by rw [limE,hDl];exact Nat.min_le_right _ _
      have wu:IntKind.i64.wrap u=u:=w64 (by omega) (by omega)
      rw [hD]
      refine yr9 [0,2,3,4,5,14,15,16,23,24,25,9,10,12] (by simp [↓zq9 hfl];rfl) ?_
      have hNb:M.length≤21 * 40000000:=by
       rw [← hM,List.length_append,← hL]
       have z1:=jr8 h256
       have z2:=jr8 h256j
       rw [List.length_take] at z2
       omega
      rw [show (↑n+↑j+1:Int)=((n+j+1:Nat):Int) by omega] at *
      refine read_ents hDl hfl hNb hlim hu0 hu1 fun fl N hN hfl=>?_
      have hNf:L++rawE (l.take (j+1))=N:=by
       rw [List.take_add_one,hr,Option.toList_some,uv7,← List.append_assoc,hM,← hN]
       simp only [rawE,List.map_cons,List.map_nil,List.flatten_cons,List.flatten_nil,List.append_nil,hD,entsE]
      repeat (first | refine on_norm ?_ | refine in_norm ?_)
      refine vd9 2 (Nat.zero_le _) (by simp) (by simp [zk9,AV.under,AV.underL]) (by simp [yn9,AObj.under,AV.under,AV.underL,reL]) ?_
      refine zr9 [0,2,3,4,5,14,15,16,23,24,25] (by simp [↓zq9 hfl,wj];rfl) ?_
      refine ⟨_,by omega,j+1,rfl,by omega,?_,fl,N,hNf,hfl,by simp [Int.add_assoc]⟩
      intro x hx
      rw [List.take_add_one,hr,Option.toList_some,List.mem_append,List.mem_singleton] at hx
      rcases hx with hx | rfl
      ·exact h256j x hx
      ·exact h256r
     ·have h256i : ¬ (r.data.length : Int) = 256 := by omega
      have hbad:kt9 t=false:=by
       rw [kt9,decide_eq_false (fun h=>h256r (h r (hmem r hrm)))]
       rfl
      refine yr9 [0,2,3,4,5,14,15,16,23,24,25,9,32] (by simp [↓zq9 hfl,h256r,h256i];rfl) ?_
      refine yt9 (t:=true) (by simp [h256r,h256i]) (fun h=>?_) (fun h=>by simp at h)
      refine yr9 [2,3] (by simp [↓zq9 hfl,yk9];rfl) ?_
      refine yj9 ?_
      repeat (first | refine yp9 ?_ | refine ys9 ?_)
      exact ⟨.tup [.agg [.lst .nil 10 [],.v (.int .i64 0)],.v (.bool false)],by simp [retQ],by rw [kr9,hbad];exact Le_bad⟩
    ·have hje:j=l.length:=by omega
     subst hje
     have ncj:¬ (l.length:Int) < l.length:=by omega
     refine yr9 [0,2,3,4,5,14,15,16,26] (by simp [↓zq9 hfl];rfl) ?_
     refine yh9 ?_
     refine yt9 rfl (fun h=>by simp at h) (fun h=>?_)
     refine ym9 [0,2,3,4,5,14,15,16] ?_
     refine zs9 ?_
     repeat (first | refine on_exit ?_ | refine in_exit ?_)
     rw [List.take_length] at hM h256j
     exact ⟨h256j,fl,hM.symm ▸ hfl,by rw [hM];simp⟩
   ·clear hfl
    rintro σ ⟨h256l,fl,hfl,rfl⟩
    obtain ⟨M,hM⟩:∃ M,L++rawE l=M:=⟨_,rfl⟩
    rw [hM] at hfl ⊢
    refine zr9 [0,2,3,4,5,14,15,16] (by simp [↓zq9 hfl,wi];rfl) ?_
    repeat (first | refine on_norm ?_ | refine in_norm ?_)
    refine zr9 [0,2,3,4,5,14,15,16] (by simp [↓zq9 hfl,wi];rfl) ?_
    refine ⟨_,by omega,i+1,rfl,by omega,hk1,?_,fl,M,n+l.length,by rw [hfl1,uv7,hL,hM],by rw [hfl1,List.length_append,hn],hfl,by simp⟩
    intro r hr
    rw [hfl1,List.mem_append] at hr
    rcases hr with hr | hr
    ·exact h256 r hr
    ·exact h256l r hr
  ·have hie:i=t.length:=by omega
   have hdt:=dirT_take (i:=i) (by omega) hk (fun l' hl'=>by rw [List.getElem?_eq_none (by omega)] at hl';cases hl')
   refine yr9 [0,2,3,4,5,17] (by simp [↓zq9 hfl,hie];rfl) ?_
   refine yh9 ?_
   refine yt9 (t:=false) (by simp [hie]) (fun h=>by simp at h) (fun h=>?_)
   rw [hdt]
   refine ym9 [0,2,3,4,5] ?_
   refine zs9 ?_
   repeat (first | refine on_exit ?_ | refine in_exit ?_)
   exact ⟨h256,fl,hL.symm ▸ hfl,by rw [hL,hn];simp [hie]⟩
 ·rintro σ ⟨h256,fl,hfl,rfl⟩
  exact read_tail t hl hf h256 hfl
set_option maxRecDepth 20000
def kq7 (cs:List AV) (n i:Nat) (x:List AV):List AV:=cs.take (i * 10)++(x++(cs.take (n * 10)).drop (i * 10))
def vals (cs:List AV):Prop:=∀ y∈cs,(∃ v,y=AV.v v)∨y=.any
theorem vals_nil:vals []:=by intro y h;simp at h
theorem xg8 {a b:List AV} (ha:vals a) (hb:vals b):vals (a++b):=by
 intro y h
 rcases List.mem_append.1 h with h | h
 ·exact ha y h
 ·exact hb y h
theorem wc8 {a:List AV} (ha:vals a) (n:Nat):vals (a.take n):=fun y h=>ha y (List.mem_of_mem_take h)
theorem vc7 {a:List AV} (ha:vals a) (n:Nat):vals (a.drop n):=fun y h=>ha y (List.mem_of_mem_drop h)
theorem vt9 (e:RE):vals (reC e):=by
 intro y h
 rw [reC_v] at h
 obtain ⟨v,_,rfl⟩:=List.mem_map.1 h
 exact .inl ⟨v,rfl⟩
theorem uq8 {a b:List AV} (ha:vals a) (hb:vals b) (o:Nat):vals (yk9 a o b):=by
 unfold yk9
 exact xg8 (xg8 (wc8 ha _) hb) (vc7 ha _)
theorem wd9 {m : Nat} : ∀ {a : List AV}, vals a → AV.underL m a = true
 | [],_=>rfl
 | y :: a,h=>by
  rcases h y List.mem_cons_self with ⟨v,rfl⟩ | rfl <;> simp [AV.underL,AV.under,wd9 (fun z hz=>h z (List.mem_cons_of_mem _ hz))]
theorem kl8 {zs : List AV} (h : vals zs) : ∀ n : Nat, vals (repC n zs)
 | 0=>by simp [repC,vals_nil]
 | n+1=>by rw [repC];exact xg8 h (kl8 h n)
def zc78:List AV:=byL (List.replicate 8 0)++[.v (.int .i64 0),.v (.int .i64 0)]
theorem vk7:vals zc78:=vt9 ⟨List.replicate 8 0,0,0⟩
theorem wc9 {m : Nat} : ∀ {H : List AObj} {i : Nat} {o : AObj}, yn9 m H = true → o.under m = true → yn9 m (H.set i o) = true
 | [],_,_,_,_=>rfl
 | x :: H,0,o,h,ho=>by
  simp only [yn9,Bool.and_eq_true,List.set_cons_zero] at h ⊢
  exact ⟨ho,h.2⟩
 | x :: H,i+1,o,h,ho=>by
  simp only [yn9,Bool.and_eq_true,List.set_cons_succ] at h ⊢
  exact ⟨h.1,wc9 h.2 ho⟩
theorem ins_drop (cs:List AV) (n i:Nat) (hin:i≤n):(cs.take (n * 10)).drop (i * 10)=(cs.drop (i * 10)).take ((n - i) * 10):=by
 rw [List.drop_take,Nat.sub_mul]
theorem seg_ins1 (cs : List AV) {n i : Nat} {X Y : List AV} (hin : i ≤ n) (hl : (n + 1) * 10 ≤ cs.length) (hX : X.length = 10) (hY : Y = (cs.drop (i * 10)).take ((n - i) * 10)) :
  (yk9 (yk9 cs ((i+1) * 10) Y) (i * 10) X).take ((n+1) * 10)=kq7 cs n i X:=by
 have hYl:Y.length=(n - i) * 10:=by rw [hY,List.length_take,List.length_drop];omega
 have h1:(yk9 cs ((i+1) * 10) Y).take (i * 10)=cs.take (i * 10):=by
  rw [yk9,List.append_assoc,List.take_append_of_le_length (by rw [List.length_take];omega),List.take_take,Nat.min_eq_left (by omega)]
 have h2:(yk9 cs ((i+1) * 10) Y).drop (i * 10+X.length)=Y++cs.drop ((i+1) * 10+Y.length):=by
  rw [yk9,List.append_assoc,hX,List.drop_left' (by rw [List.length_take];omega)]
 rw [show yk9 (yk9 cs ((i + 1) * 10) Y) (i * 10) X = (yk9 cs ((i + 1) * 10) Y).take (i * 10) ++ X ++ (yk9 cs ((i + 1) * 10) Y).drop (i * 10 + X.length) from rfl, h1, h2, ← List.append_assoc,
  List.take_left' (by rw [List.length_append,List.length_append,List.length_take,hX,hYl];omega),kq7,ins_drop cs n i hin,← hY,List.append_assoc]
theorem seg_ins2 (cs Z : List AV) {n i : Nat} {X Y : List AV} (hin : i ≤ n) (hl : n * 10 ≤ cs.length) (hX : X.length = 10) (hY : Y = (cs.drop (i * 10)).take ((n - i) * 10)) :
  (yk9 (yk9 (cs.take (i * 10)++Z) (i * 10) X) ((i+1) * 10) Y).take ((n+1) * 10)=kq7 cs n i X:=by
 have hYl:Y.length=(n - i) * 10:=by rw [hY,List.length_take,List.length_drop];omega
 have hA:(cs.take (i * 10)).length=i * 10:=by rw [List.length_take];omega
 have h1:(yk9 (cs.take (i * 10)++Z) (i * 10) X).take ((i+1) * 10)=cs.take (i * 10)++X:=by
  rw [yk9,List.take_left' (l₁:=cs.take (i * 10)) hA,List.take_left' (by rw [List.length_append,hA,hX];omega)]
 rw [show yk9 (yk9 (cs.take (i * 10) ++ Z) (i * 10) X) ((i + 1) * 10) Y = (yk9 (cs.take (i * 10) ++ Z) (i * 10) X).take ((i + 1) * 10) ++ Y ++ (yk9 (cs.take (i * 10) ++ Z) (i * 10) X).drop ((i + 1) * 10 + Y.length) from rfl, h1,
  List.take_left' (by rw [List.length_append,List.length_append,hA,hX,hYl];omega),kq7,ins_drop cs n i hin,← hY,List.append_assoc]
theorem sl78:slI Tryz.prog 68=some (78,true,10):=by kernel_rfl
theorem ap78:apI Tryz.prog 78=some (10,24):=by kernel_rfl
theorem zz78:zA Tryz.prog 78=some (.agg zc78):=by kernel_rfl
def InsQ (H:List AObj) (id n i:Nat) (x:RE) (cs:List AV) (r:AV) (h':List AObj):Prop :=
 ∃ cap' cs', n + 1 ≤ cap' ∧ cap' ≤ maxLen ∧ cs'.length = cap' * 10 ∧ vals cs' ∧ cs'.take ((n + 1) * 10) = kq7 cs n i (reC x) ∧
  ((r=.arr id 0 (n+1) cap'∧h'=H.set id (.cells 78 cs'))∨(r=.arr H.length 0 (n+1) cap'∧h'=H++[.cells 78 cs']))
theorem ins_set {H : List AObj} (hh : yn9 H.length H = true) {id n i cap : Nat} {x : RE} {cs cs' : List AV} {e : Exit} (he : e = .normal ∨ e = .ret) {fr : List (Nat × AV)} (h6 : getF fr 6 = some (.arr id 0 (n + 1) cap)) (hid : id < H.length)
  (h1:n+1≤cap) (h2:cap≤maxLen) (h3:cs'.length=cap * 10) (h4:vals cs') (h5:cs'.take ((n+1) * 10)=kq7 cs n i (reC x)) :
  retW Tryz.prog [.tmp 6] H.length (InsQ H id n i x cs) e ⟨95,fr,H.set id (.cells 78 cs')⟩:=by
 refine ⟨he,.arr id 0 (n+1) cap,.arr id 0 (n+1) cap,H.set id (.cells 78 cs'),H.length,by simp [resA,h6],.inl ⟨rfl,rfl⟩,Nat.le_refl _,by simp,by simp [AV.under,hid],?_,⟨cap,cs',h1,h2,h3,h4,h5,.inl ⟨rfl,?_⟩⟩⟩
 ·rw [List.take_of_length_le (by simp)]
  exact wc9 hh (wd9 h4)
 ·rw [List.take_of_length_le (by simp)]
theorem ins_new {H : List AObj} (hh : yn9 H.length H = true) {id n i cap : Nat} {x : RE} {cs cs' : List AV} {e : Exit} (he : e = .normal ∨ e = .ret) {fr : List (Nat × AV)} (h6 : getF fr 6 = some (.arr H.length 0 (n + 1) cap))
  (h1:n+1≤cap) (h2:cap≤maxLen) (h3:cs'.length=cap * 10) (h4:vals cs') (h5:cs'.take ((n+1) * 10)=kq7 cs n i (reC x)) :
  retW Tryz.prog [.tmp 6] H.length (InsQ H id n i x cs) e ⟨95,fr,H++[.cells 78 cs']⟩:=by
 refine ⟨he,.arr H.length 0 (n+1) cap,.arr H.length 0 (n+1) cap,H++[.cells 78 cs'],H.length+1,by simp [resA,h6],.inl ⟨rfl,rfl⟩,by omega,by simp,by simp [AV.under],?_,⟨cap,cs',h1,h2,h3,h4,h5,.inr ⟨rfl,?_⟩⟩⟩
 ·rw [List.take_of_length_le (by simp),zm9,xc9 (by omega) _ hh]
  simp only [yn9,Bool.and_true,Bool.true_and]
  exact wd9 h4
 ·rw [List.take_of_length_le (by simp)]
theorem insert_callW (x : RE) (hx : x.key.length = 8) (cs : List AV) (i n cap : Nat) (hi : i ≤ n) (hn : n ≤ cap) (hcap : cap ≤ maxLen) (hcs : cs.length = cap * 10) (hv : vals cs) (hb : n ≤ 1000000000)
  (H:List AObj) (hh:yn9 H.length H=true) (id vid:Nat) (h1:H[id]?=some (.cells 78 cs)) (h2:H[vid]?=some (.cells 78 (reC x))) (hne:id≠vid) :
  ww9 Tryz.prog 82 [.arr id 0 n cap,.v (.int .i64 (i:Nat)),.arr vid 0 1 1] H (InsQ H id n i x cs):=by
 have hid:id < H.length:=(List.getElem?_eq_some_iff.1 h1).1
 have hvid:vid < H.length:=(List.getElem?_eq_some_iff.1 h2).1
 have hxl:(reC x).length=10:=xr9 hx
 have htx:(reC x).take 10=reC x:=List.take_of_length_le (by omega)
 have w1:=w64 (n:=(n:Int)+1) (by omega) (by omega)
 have w2:=w64 (n:=(i:Int)+1) (by omega) (by omega)
 have hmL:maxLen=9223372036854775807:=rfl
 refine zd9 Tryz.func82 rfl (by decide +kernel) (by simp [Tryz.f82]) (rs:=[.tmp 6]) rfl ?_
 rw [show Tryz.f82.ntmps=95 from rfl]
 have hii:(i:Int)≤(n:Int):=by omega
 have hic:i≤cap:=by omega
 have hici:(i:Int)≤(cap:Int):=by omega
 refine yr9 [0,1,2,6] (by simp;rfl) ?_
 refine yr9 [0,1,2,6] (by simp [hi,hii,hic,hici];rfl) ?_
 refine yr9 [0,1,2,6,7] (by simp;rfl) ?_
 refine yh9 ?_
 refine W_cF [0,1,2,7,16] (by simp;rfl) rfl ?_
 refine yg9 ?_
 refine yr9 [0,1,2,7,8] (by simp;rfl) ?_
 refine yh9 ?_
 by_cases hin:i=n
 ·subst hin
  have hd0:(cs.take (i * 10)).drop (i * 10)=[]:=List.drop_eq_nil_of_le (by rw [List.length_take];omega)
  refine W_cT [0,1,2,7,8,22] (by simp;rfl) rfl ?_
  refine W_rK [6] ?_
  refine yq9 2 (by simp;rfl) rfl ?_
  refine un9 (t:=68) (e:=78) (sz:=10) (by_:=24) (id:=id) (len:=i) (cap:=cap) (m:=1) (cs:=cs) (yc:=reC x) (by simp) rfl rfl rfl rfl (by simp) (by simp [srcA,h2,hxl,htx]) sl78 ap78 zz78 ⟨rfl,by omega,by omega⟩ (by simp [h1]) hcs (by omega) ?_
  rintro s1 x1 (⟨hr,rfl,rfl⟩ | ⟨hr,cap',hc1,hc2,rfl,rfl⟩)
  ·refine ⟨_,by simp;rfl,?_⟩
   refine yw9 (by simp;rfl) ?_
   refine yj9 ?_
   repeat (first | refine yp9 ?_ | refine ys9 ?_)
   have hfit:i * 10+(reC x).length≤cs.length:=by omega
   refine ins_set hh (.inr rfl) (by simp) hid hr hcap (by rw [zp9 _ _ _ hfit,hcs]) (uq8 hv (vt9 x) _) ?_
   rw [yk9,kq7,hd0,List.append_nil,List.append_assoc,← List.append_assoc (cs.take (i * 10)),List.take_left' (by rw [List.length_append,List.length_take,hxl];omega)]
  ·refine ⟨_, by simp; rfl, ?_⟩
   refine yw9 (by simp;rfl) ?_
   refine yj9 ?_
   repeat (first | refine yp9 ?_ | refine ys9 ?_)
   refine ins_new hh (.inr rfl) (by simp) hc1 hc2 ?_ (xg8 (wc8 hv _) (xg8 (vt9 x) (kl8 vk7 _))) ?_
   ·rw [List.length_append,List.length_append,List.length_take,hxl,qv9,show zc78.length=10 from rfl]
    omega
   ·rw [kq7,hd0,List.append_nil,← List.append_assoc,List.take_left' (by rw [List.length_append,List.length_take,hxl];omega)]
 ·have hinI : ¬ (i : Int) = (n : Int) := by omega
  have hinB:((i:Int) == (n:Int))=false:=by simp;omega
  refine yr9 [0,1,2,7,8,22] (by simp [hin,hinI,hinB];rfl) ?_
  refine yt9 (t:=false) (by simp [hin,hinI,hinB]) (fun h=>by simp at h) (fun h=>?_)
  refine yg9 ?_
  repeat (first | refine on_norm ?_ | refine in_norm ?_)
  refine yh9 ?_
  by_cases hroom:n+1≤cap
  ·have c1 : ¬ cap < n + 1 := by omega
   have c2:¬ (cap:Int) < (n:Int)+1:=by omega
   have c3:(n:Int)+1≤(cap:Int):=by omega
   refine yr9 [0,1,2,7,8,31] (by simp [w1,c1,c2,c3,hroom];rfl) ?_
   refine yt9 (t:=false) (by simp [c1,c2]) (fun h=>by simp at h) (fun h=>?_)
   refine yg9 ?_
   repeat (first | refine on_norm ?_ | refine in_norm ?_)
   refine yr9 [0,1,2,7,8] (by simp [w1,c1,c2,c3,hroom];rfl) ?_
   refine yh9 ?_
   refine W_rGK [0,1,2,7,8,68] ?_
   refine kk9 6 _ _ ?_
   have e1:i+1≤n+1:=by omega
   have p1:(0:Int)≤(i:Int)+1:=by omega
   have q1:¬ cap=i+1:=by omega
   have q2:¬ cap=i:=by omega
   have e3:i≤n+1:=by omega
   have e4:(i:Int)≤(n:Int)+1:=by omega
   have e2:(i:Int)+1≤(n:Int)+1:=by omega
   refine yw9 (by simp [w2,e1,e2,hi,hii];rfl) ?_
   refine qt8 rfl ?_
   refine jc7 (f:=114) (fn:=Tryz.f114) (k1:=61) (k2:=66) (tS:=68) (tR:=4) (id1:=vid) (id2:=id) rfl (by simp) rfl Tryz.func114 (by decide +kernel) (by kernel_rfl) (by kernel_rfl) (by kernel_rfl) sl78 rfl rfl (Ne.symm hne) h2 h1 (by intro h;rw [h] at hcs;simp at hcs;omega) ?_
   refine ⟨_,by simp;rfl,?_⟩
   refine kk9 1 _ _ ?_
   refine yw9 (by simp;rfl) ?_
   refine yt9 rfl (fun h=>?_) (fun h=>by simp at h)
   refine W_rsGK 8 [0,1,2,7] mx (by decide +kernel) ?_
   refine yb9 (by simp [w2,e1,e2,hi,hii,p1,q1,q2,e3,e4];rfl) ?_
   refine qt8 rfl ?_
   refine jk9 (t:=68) (t':=68) (e:=78) (e2:=78) (sz:=10) (id:=id) (off:=(i+1) * 10) (len:=n+1 - (i+1)) (cap:=cap - (i+1)) (m:=n+1 - i) (ag:=true) (cs:=cs) (yc:=(cs.drop (i * 10)).take ((n+1 - i) * 10)) rfl rfl rfl rfl (by simp) (by
    have:i * 10+(n+1 - i) * 10≤cs.length:=by omega
    simp [srcA,h1,this]) sl78 (by omega) (by simp [h1]) (by omega) ?_
   obtain ⟨Y,hY⟩:∃ Y,(cs.drop (i * 10)).take ((n - i) * 10)=Y:=⟨_,rfl⟩
   have hYl:Y.length=(n - i) * 10:=by rw [← hY,List.length_take,List.length_drop];omega
   have hY2:((cs.drop (i * 10)).take ((n+1 - i) * 10)).take (min (n+1 - i) (n+1 - (i+1)) * 10)=Y:=by
    rw [List.take_take,← hY]
    congr 1
    omega
   rw [hY2]
   have hvY:vals Y:=by rw [← hY];exact wc8 (vc7 hv _) _
   have hfit1:(i+1) * 10+Y.length≤cs.length:=by omega
   refine ⟨_,by simp;rfl,?_⟩
   refine W_rGK [0,1,2,7] ?_
   refine kk9 4 _ _ ?_
   refine yw9 (by simp [hi,hii,e3,e4,q2];rfl) ?_
   refine qt8 rfl ?_
   refine jk9 (t:=68) (t':=68) (e:=78) (e2:=78) (sz:=10) (id:=id) (off:=i * 10) (len:=n+1 - i) (cap:=cap - i) (m:=1) (ag:=true) (cs:=yk9 cs ((i+1) * 10) Y) (yc:=reC x) rfl rfl rfl rfl (by simp) (by
    simp [srcA,List.getElem?_set,hne,h2,hxl,htx]) sl78 (by omega) (by simp [List.getElem?_set,hid]) (by rw [zp9 _ _ _ hfit1];omega) ?_
   have hx2:(reC x).take (min 1 (n+1 - i) * 10)=reC x:=by rw [Nat.min_eq_left (by omega)];exact htx
   rw [hx2]
   refine ⟨_,by simp;rfl,?_⟩
   refine yr9 [6] (by simp;rfl) ?_
   refine yj9 ?_
   repeat (first | refine yp9 ?_ | refine ys9 ?_)
   have hfit2:i * 10+(reC x).length≤(yk9 cs ((i+1) * 10) Y).length:=by rw [zp9 _ _ _ hfit1];omega
   exact ins_set hh (.inr rfl) (by simp) hid hroom hcap (by rw [zp9 _ _ _ hfit2,zp9 _ _ _ hfit1,hcs]) (uq8 (uq8 hv hvY _) (vt9 x) _) (seg_ins1 cs hi (by omega) hxl hY.symm)
  ·have hnc : n = cap := by omega
   have c1:cap < n+1:=by omega
   have c2:(cap:Int) < (n:Int)+1:=by omega
   have w3:=w64 (n:=(n:Int)+1 - (i:Int)) (by omega) (by omega)
   refine yr9 [0,1,2,7,8,31] (by simp [w1,c1,c2];rfl) ?_
   refine yt9 (t:=true) (by simp [c1,c2]) (fun h=>?_) (fun h=>by simp at h)
   refine W_rGK [0,1,2,7,8,9] ?_
   refine kk9 8 _ _ ?_
   refine yw9 (by simp [w1,w3,hi,hii,hic,hici];rfl) ?_
   refine qt8 rfl ?_
   have hz:i+(n+1 - i)=n+1:=by omega
   refine stepW_appZ (kn:=.i64) (k1:=34) (k2:=39) (t:=68) (tn:=3) (e:=78) (sz:=10) (by_:=24) (id:=id) (len:=i) (cap:=cap) (n:=n+1 - i) (cs:=cs) rfl rfl rfl rfl (by simp) (by simp;omega) sl78 (by kernel_rfl) ap78 zz78 ⟨rfl,by omega,by omega⟩ (by simp [h1]) (by omega) (by omega) (by omega) (by omega) ?_
   intro cap' hc1 hc2
   rw [hz] at hc1 ⊢
   obtain ⟨Z,hZ⟩:∃ Z,repC (cap' - i) (AV.agg zc78).cells=Z:=⟨_,rfl⟩
   have hZl:Z.length=(cap' - i) * 10:=by rw [← hZ,qv9];rfl
   have hvZ:vals Z:=by rw [← hZ];exact kl8 vk7 _
   rw [hZ]
   refine ⟨_,by simp;rfl,?_⟩
   refine kk9 1 _ _ ?_
   refine yw9 (by simp;rfl) ?_
   have q1:¬ cap'=i+1:=by omega
   have q2:¬ cap'=i:=by omega
   have e3:i≤n+1:=by omega
   have e4:(i:Int)≤(n:Int)+1:=by omega
   refine W_rGK [0,1,2,7,8,9] ?_
   refine kk9 4 _ _ ?_
   refine yw9 (by simp [e3,e4,q2];rfl) ?_
   refine qt8 rfl ?_
   have hA:(cs.take (i * 10)).length=i * 10:=by rw [List.length_take];omega
   have hA0:(cs.take (i * 10)++Z).length=cap' * 10:=by rw [List.length_append,hA,hZl];omega
   refine jk9 (t:=68) (t':=68) (e:=78) (e2:=78) (sz:=10) (id:=H.length) (off:=i * 10) (len:=n+1 - i) (cap:=cap' - i) (m:=1) (ag:=true) (cs:=cs.take (i * 10)++Z) (yc:=reC x) rfl rfl rfl rfl (by simp) (by
    simp [srcA,List.getElem?_append_left hvid,h2,hxl,htx]) sl78 (by omega) (by simp) (by rw [hA0];omega) ?_
   have hx2:(reC x).take (min 1 (n+1 - i) * 10)=reC x:=by rw [Nat.min_eq_left (by omega)];exact htx
   rw [hx2]
   have hfit1:i * 10+(reC x).length≤(cs.take (i * 10)++Z).length:=by rw [hA0];omega
   have hset:∀ (o o':AObj),(H++[o]).set H.length o'=H++[o']:=by intro o o';simp
   refine ⟨_,by simp;rfl,?_⟩
   have p1:(0:Int)≤(i:Int)+1:=by omega
   have e5:i+1≤n+1:=by omega
   have e6:(i:Int)+1≤(n:Int)+1:=by omega
   refine W_rsGK 8 [6,9] mx (by decide +kernel) ?_
   have q3:¬ cap=i:=by omega
   refine yb9 (by simp [w2,e3,e4,e5,e6,p1,q1,q3,hi,hii];rfl) ?_
   refine qt8 rfl ?_
   obtain ⟨Y,hY⟩:∃ Y,(cs.drop (i * 10)).take ((n - i) * 10)=Y:=⟨_,rfl⟩
   have hYl:Y.length=(n - i) * 10:=by rw [← hY,List.length_take,List.length_drop];omega
   have hvY:vals Y:=by rw [← hY];exact wc8 (vc7 hv _) _
   have hl1:(yk9 (cs.take (i * 10)++Z) (i * 10) (reC x)).length=cap' * 10:=by rw [zp9 _ _ _ hfit1,hA0]
   refine jk9 (t:=68) (t':=68) (e:=78) (e2:=78) (sz:=10) (id:=H.length) (off:=(i+1) * 10) (len:=n+1 - (i+1)) (cap:=cap' - (i+1)) (m:=n - i) (ag:=true) (cs:=yk9 (cs.take (i * 10)++Z) (i * 10) (reC x)) (yc:=Y) rfl rfl rfl rfl (by simp) (by
    have:i * 10+(n - i) * 10≤cs.length:=by omega
    simp [srcA,List.getElem?_append_left hid,h1,this,hY]) sl78 (by omega) (by simp) (by rw [hl1];omega) ?_
   have hY2:Y.take (min (n - i) (n+1 - (i+1)) * 10)=Y:=List.take_of_length_le (by rw [hYl];omega)
   rw [hY2]
   have hfit2:(i+1) * 10+Y.length≤(yk9 (cs.take (i * 10)++Z) (i * 10) (reC x)).length:=by rw [hl1];omega
   refine ⟨_,by simp;rfl,?_⟩
   refine yr9 [6] (by simp;rfl) ?_
   refine yj9 ?_
   repeat (first | refine yp9 ?_ | refine ys9 ?_)
   refine ins_new hh (.inr rfl) (by simp) hc1 hc2 (by rw [zp9 _ _ _ hfit2,hl1]) (uq8 (uq8 (xg8 (wc8 hv _) hvZ) (vt9 x) _) hvY _) (seg_ins2 cs Z hi (by omega) hxl hY.symm)
set_option maxRecDepth 20000
def InsN (H:List AObj) (x:RE) (r:AV) (h':List AObj):Prop :=
 ∃ cap' cs',1≤cap'∧cap'≤maxLen∧cs'.length=cap' * 10∧vals cs'∧cs'.take 10=reC x∧r=.arr H.length 0 1 cap'∧h'=H++[.cells 78 cs']
theorem ws7 (x : RE) (hx : x.key.length = 8) (H : List AObj) (hh : yn9 H.length H = true) (vid : Nat) (h2 : H[vid]? = some (.cells 78 (reC x))) :
  ww9 Tryz.prog 82 [.lst .nil 10 [],.v (.int .i64 0),.arr vid 0 1 1] H (InsN H x):=by
 have hxl:(reC x).length=10:=xr9 hx
 have htx:(reC x).take 10=reC x:=List.take_of_length_le (by omega)
 refine zd9 Tryz.func82 rfl (by decide +kernel) (by simp [Tryz.f82]) (rs:=[.tmp 6]) rfl ?_
 rw [show Tryz.f82.ntmps=95 from rfl]
 iterate 2 refine yr9 [0,1,2,6] (by simp;rfl) ?_
 refine yr9 [0,1,2,6,7] (by simp;rfl) ?_
 refine yh9 ?_
 refine W_cF [0,1,2,7,16] (by simp;rfl) rfl ?_
 refine yg9 ?_
 refine yr9 [0,1,2,7,8] (by simp;rfl) ?_
 refine yh9 ?_
 refine W_cT [0,1,2,7,8,22] (by simp;rfl) rfl ?_
 refine W_rK [6] ?_
 refine yq9 2 (by simp;rfl) rfl ?_
 refine ug7 (t:=68) (e:=78) (sz:=10) (by_:=24) (s0:=10) (x0:=[]) (m:=1) (yc:=reC x) (by simp) rfl rfl rfl rfl (by simp) (by simp [srcA,h2,hxl,htx]) sl78 ap78 zz78 ⟨rfl,by omega,by omega⟩ (by omega) (by omega) ?_
 intro cap' hc1 hc2
 obtain ⟨Z,hZ⟩:∃ Z,repC (cap' - 1) (AV.agg zc78).cells=Z:=⟨_,rfl⟩
 have hZl:Z.length=(cap' - 1) * 10:=by rw [← hZ,qv9];rfl
 have hvZ:vals Z:=by rw [← hZ];exact kl8 vk7 _
 rw [hZ]
 refine ⟨_,by simp;rfl,?_⟩
 refine yw9 (by simp;rfl) ?_
 refine yj9 ?_
 repeat (first | refine yp9 ?_ | refine ys9 ?_)
 have hvv:vals (reC x++Z):=xg8 (vt9 x) hvZ
 refine ⟨.inr rfl,.arr H.length 0 1 cap',.arr H.length 0 1 cap',H++[.cells 78 (reC x++Z)],H.length+1,by simp,.inl ⟨rfl,by simp⟩,by omega,by simp,by simp [AV.under],?_,⟨cap',reC x++Z,hc1,hc2,by rw [List.length_append,hxl,hZl];omega,hvv,List.take_left' hxl,rfl,?_⟩⟩
 ·rw [List.take_of_length_le (by simp),zm9,xc9 (by omega) _ hh]
  simp only [yn9,Bool.and_true,Bool.true_and]
  exact wd9 hvv
 ·rw [List.take_of_length_le (by simp)]
end Go.AM
