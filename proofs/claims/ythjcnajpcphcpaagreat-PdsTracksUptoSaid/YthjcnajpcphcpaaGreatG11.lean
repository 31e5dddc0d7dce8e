/- Parts of the walk: C24VF C24WE C24WF C24XI C24UE C24UF C24UG C24UH C24UI C24UJ. -/
import Derived.Test.YthjcnajpcphcpaaGreatG10
namespace Go.AM
open Go.RowKit Go.Proofs
set_option linter.unusedSimpArgs false
set_option linter.unusedVariables false
set_option maxHeartbeats 8000000
set_option maxRecDepth 20000
theorem wrL_take {dir:Nat} {A:List (List Rec)} {B:List (List UInt8)} {i:Nat} {b:List UInt8} (h:B[i]?=some b):wrL dir A (B.take (i+1))=(wr1 dir (wrL dir A (B.take i)) b).1:=by
 rw [List.take_add_one,h,← wrL_snoc]
 rfl
theorem vtrk_nil:vtrk []=true:=by simp [vtrk,vgo,xm9]
theorem write_callW (A : List (List Rec)) (dir : Nat) (bs : List (List UInt8)) (hA : ∀ t ∈ A, vtrk t = true) (hbs : ∀ b ∈ bs, b.length ≤ 1024) (hl : A.length ≤ 50000000) (hd : dir ≤ 50000000) (hn : bs.length ≤ 100000)
  (H:List AObj) (hh:yn9 H.length H=true) (id cap:Nat) (cs:List AV) (hid:H[id]?=some (.cells 80 cs)) (hrc:RC A cap cs) (hkl:AV.killL 29 cs=cs) (hcap:cap≤maxLen) :
  ww9 Tryz.prog 36 [.arr id 0 A.length cap,.v (.int .i64 (dir:Nat)),.lst .any 1 (bbL bs)] H (WrQ H id (.agg [.v (.int .i64 ((wrE dir A bs).2.1:Nat)),.v (.int .i64 (wrE dir A bs).2.2)]) (wrE dir A bs).1):=by
 have hidl:id < H.length:=(List.getElem?_eq_some_iff.1 hid).1
 have hcl:=rclone_sound bs (by omega)
 refine zd9 Tryz.func36 rfl (by decide +kernel) (by simp [Tryz.f36]) (rs:=[.tmp 6,.cell 7 55]) rfl ?_
 rw [show Tryz.f36.ntmps=91 from rfl]
 refine yr9 [0,1,2,7] (by simp;rfl) ?_
 refine yr9 [0,1,2,7,8] (by simp;rfl) ?_
 refine yh9 ?_
 refine W_rK [0,1,7,8,16,17,18] ?_
 refine yq9 1 (by simp;rfl) rfl ?_
 refine yf9 (by simp) (by first | (simp;done) | (simp;rfl)) hcl (by simp;rfl) ?_
 have b1:(bs.length+1) * 24≤140737488355328:=by omega
 have b2:24 * (bs.length+1)≤140737488355328:=by omega
 refine yw9 (by simp [catK,AV.cellsK,AV.kone,AV.koneL,b1,b2];rfl) ?_
 have hB:bbL bs++[AV.lst .any 1 []]=bbL (bs++[[]]):=by rw [uv9];rfl
 have hBl:(bs++[[]]).length=bs.length+1:=by simp
 rw [hB,show ((bs.length:Int)+1)=((bs++[[]]).length:Nat) by rw [hBl];omega]
 have hpl2:(wrE dir A bs).2=(wr1 dir A (bs.headD [])).2:=rfl
 have hfin:(wrE dir A bs).1=wrL dir A (bs++[[]]):=rfl
 have hB0:∀ b,(bs++[[]])[0]?=some b→b=bs.headD []:=by
  intro b h
  cases bs with
  | nil=>simp at h;rw [← h];rfl
  | cons x l=>simp at h;rw [← h];rfl
 have hBb:∀ b∈bs++[[]],b.length≤1024:=by
  intro b hb
  rcases List.mem_append.1 hb with h | h
  ·exact hbs b h
  ·rw [List.mem_singleton.1 h];simp
 obtain ⟨P2,hP2⟩:∃ P2,(wrE dir A bs).2=P2:=⟨_,rfl⟩
 rw [hfin,hP2]
 rw [hpl2] at hP2
 obtain ⟨B,hBe⟩:∃ B,bs++[[]]=B:=⟨_,rfl⟩
 rw [hBe] at hB0 hBb hBl ⊢
 have ws0:WS (H++[boxP 0 0,boxP 0 0]) id (H++[boxP 0 0,boxP 0 0]) id cap A cs:=by
  refine ⟨Nat.le_refl _,fun j o _ h _=>h,?_,by rw [List.getElem?_append_left hidl];exact hid,hrc,hkl,.inl rfl,hcap⟩
  rw [List.length_append,zm9,xc9 (by omega) _ hh]
  simp [yn9,boxP,AObj.under,AV.under,AV.underL]
 have ws1:=ws0.killU 29 hkl
 rw [List.map_append] at ws1
 refine xp7 16 (sz:=1) (xs:=bbL B) (o:=.tip 90 29) rfl ?_
 refine yl9 ?_
 refine zj9 (fun q s => ∃ (i : Nat) (Hc : List AObj) (id' cap' : Nat) (cs' : List AV), q = B.length - i ∧ i ≤ B.length ∧ WS (H ++ [boxP 0 0, boxP (if i = 0 then 0 else P2.1) (if i = 0 then 0 else P2.2)]) id Hc id' cap' (wrL dir A (B.take i)) cs' ∧
  s=wrS H.length id' cap' B.length i dir (wrL dir A (B.take i)) (bbL B) Hc) (k:=B.length) ⟨0,_,id,cap,cs,rfl,by omega,ws1,by simp [wrS,zf9,uh9,putF,wrL,boxP,AObj.kill,AV.killL,AV.kill,getF]⟩ ?_
 rintro q s ⟨i,Hc,id',cap',cs',rfl,hi,ws,rfl⟩
 have hTl:=wf6 dir (B.take i) A
 rw [List.length_take] at hTl
 have hTv:∀ t∈wrL dir A (B.take i),vtrk t=true:=vb8 dir hA fun b hb=>hBb b (List.mem_of_mem_take hb)
 by_cases c:i < B.length
 ·have ci : (i : Int) < B.length := by omega
  have wi:=w64 (n:=(i:Int)+1) (by omega) (by omega)
  obtain ⟨b,hb⟩:∃ b,B[i]?=some b:=⟨_,List.getElem?_eq_getElem c⟩
  have hnext:=wrL_take (dir:=dir) (A:=A) hb
  have hstep:=fun Q=>wr_step (n:=B.length) (dir:=dir) (Q:=Q) ws hidl (by omega) hTv (by omega) (hBb b (List.mem_of_getElem? hb)) hb (by omega)
  unfold wrS at hstep ⊢
  refine yr9 [0,1,7,8,16,17,18,19] (by simp [c,ci];rfl) ?_
  refine yh9 ?_
  refine yt9 (t:=true) (by simp [c,ci]) (fun h=>?_) (fun h=>by simp at h)
  refine yg9 ?_
  refine yh9 ?_
  refine yl9 ?_
  refine ym9 [0,1,7,8,16,17,18] ?_
  refine hstep _ fun Hc' id2 cap2 cs2 ws2=>?_
  repeat (first | refine on_norm ?_ | refine in_norm ?_)
  refine zr9 [0,1,7,8,16,17,18] (by simp [wi];rfl) ?_
  refine ⟨_,by omega,i+1,Hc',id2,cap2,cs2,rfl,by omega,?_,?_⟩
  ·rw [hnext, if_neg (by omega), if_neg (by omega)]
   by_cases i0:i=0
   ·subst i0
    rw [if_pos rfl,hB0 b hb,show wrL dir A (B.take 0)=A from rfl,hP2] at ws2
    rw [hB0 b hb]
    exact ws2
   ·rw [if_neg i0,if_neg i0,if_neg i0] at ws2
    exact ws2
  ·rw [hnext]
   simp [wrS]
 ·have hie : i = B.length := by omega
  subst hie
  rw [List.take_length] at ws
  rw [if_neg (by omega),if_neg (by omega)] at ws
  unfold wrS
  rw [List.take_length]
  obtain ⟨A',hA'⟩:∃ A',wrL dir A B=A':=⟨_,rfl⟩
  rw [hA'] at ws ⊢
  refine yr9 [0,7,8,19] (by simp;rfl) ?_
  refine yh9 ?_
  refine yt9 (t:=false) (by simp) (fun h=>by simp at h) (fun h=>?_)
  refine zs9 ?_
  repeat (first | refine on_exit ?_ | refine in_exit ?_)
  have hlen:=ws.len
  simp only [List.length_append,List.length_cons,List.length_nil] at hlen
  have hb7:Hc[H.length]?=some (.cells 55 [.v (.int .i64 (0:Nat)),.v (.int .i64 0)]):=ws.old H.length _ (by omega) (by simp [boxP]) (fun T=>by simp [AObj.kill,AV.killL,AV.kill])
  have hb8:Hc[H.length+1]?=some (.cells 55 [.v (.int .i64 (P2.1:Nat)),.v (.int .i64 P2.2)]):=ws.old (H.length+1) _ (by omega) (by simp [boxP]) (fun T=>by simp [AObj.kill,AV.killL,AV.kill])
  have h7l:H.length < Hc.length:=by omega
  refine W_dvK [6,7] mx (by decide +kernel) (by simp [hb7,hb8,yk9];rfl) ?_
  have ws3:=ws.setb (j:=H.length) (o:=boxP P2.1 P2.2) (by omega) (by simp) (by simp [boxP,AObj.under,AV.under,AV.underL])
  have hset:(H++[boxP 0 0,boxP P2.1 P2.2]).set H.length (boxP P2.1 P2.2)=H++[boxP P2.1 P2.2,boxP P2.1 P2.2]:=by simp
  rw [hset] at ws3
  have ws4:WS H id (Hc.set H.length (boxP P2.1 P2.2)) id' cap' A' cs':=ws3.base (by simp) fun j o hj=>by
   rw [List.getElem?_append_left (List.getElem?_eq_some_iff.1 hj).1];exact hj
  refine yj9 ?_
  repeat (first | refine yp9 ?_ | refine ys9 ?_)
  have hil:=ws4.lt
  refine ⟨.inr rfl,.tup [.arr id' 0 A'.length cap',.agg [.v (.int .i64 (P2.1:Nat)),.v (.int .i64 P2.2)]],.tup [.arr id' 0 A'.length cap',.agg [.v (.int .i64 (P2.1:Nat)),.v (.int .i64 P2.2)]],Hc.set H.length (boxP P2.1 P2.2),(Hc.set H.length (boxP P2.1 P2.2)).length,?_,.inl ⟨rfl,rfl⟩,by simpa using Nat.le_of_lt h7l,Nat.le_refl _,?_,?_,?_⟩
  ·simp [boxP,h7l]
  ·simp [AV.under,AV.underL]
   simpa using hil
  ·rw [List.take_length];exact ws4.shut
  ·rw [List.take_length]
   exact ⟨id',cap',cs',ws4,rfl⟩
set_option maxRecDepth 20000
def boxA (R:Int) (b:List UInt8):AObj:=.cells 100 [.v (.int .i64 R),.lst .any 1 [],.lst .any 1 (byL b),.v (.bool false)]
def waS (N:Nat) (id' cap' i dir:Nat) (T:List (List Rec)) (L:List AV) (Hc:List AObj):St:=⟨91,[(0,.arr id' 0 T.length cap'),(1,.v (.int .i64 (dir:Nat))),(2,.lst .any 1 L),(7,.loc N 0),(8,.loc (N+1) 0),(9,.v (.int .i64 (i:Nat)))],Hc⟩
theorem wa_step {H : List AObj} {id : Nat} {Hc : List AObj} {id' cap' : Nat} {T : List (List Rec)} {cs : List AV} {p0 : Nat} {r0 : Int} {i dir : Nat} {b : List UInt8} {B : List (List UInt8)}
  (ws:WS (H++[boxQ 0 0,boxQ p0 r0]) id Hc id' cap' T cs) (hid:id < H.length) (hT:T.length≤100000000) (hTv:∀ t∈T,vtrk t=true) (hd:dir≤100000000) (hb:b.length≤1024) (hBi:(B++[[]])[i]?=some b) (hi:i≤1000000)
  {Q:Exit→St→Prop} (hQ:∀ Hc' id2 cap2 cs2,WS (H++[boxQ 0 0,if i=0 then boxQ (wr1 dir T b).2.1 (wr1 dir T b).2.2 else boxQ p0 r0]) id Hc' id2 cap2 (wr1 dir T b).1 cs2→Q .normal (waS H.length id2 cap2 i dir (wr1 dir T b).1 (bbL B) Hc')) :
  Wt true H.length Tryz.prog waX Q (waS H.length id' cap' i dir T (bbL B) Hc):=by
 have hlen:=ws.len
 simp only [List.length_append,List.length_cons,List.length_nil] at hlen
 have hob:=ws.obj
 have hidlt:=ws.lt
 obtain ⟨m,hm⟩:∃ m,Hc.length=m:=⟨_,rfl⟩
 have ws1:∀ R,WS (H++[boxQ 0 0,boxQ p0 r0]) id (Hc++[boxA R b]) id' cap' T cs:=fun R=>ws.push (by simp [boxA,AObj.under,AV.under,AV.underL])
 have hm1:∀ R,(Hc++[boxA R b])[m]?=some (.cells 100 [.v (.int .i64 R),.lst .any 1 [],.lst .any 1 (byL b),.v (.bool false)]):=fun R=>by rw [← hm];simp [boxA]
 unfold waS
 refine yr9 [0,1,2,7,8,9,10] (by simp;rfl) ?_
 rw [hm]
 refine W_dpB m (ty:=100) (cs:=[.v (.int .i64 0),.lst .nil 1 [],.lst .nil 1 [],.v (.bool false)]) (by rw [← hm];simp) ?_
 have hdp:(Hc++[AObj.cells 100 [.v (.int .i64 0),.lst .nil 1 [],.lst .nil 1 [],.v (.bool false)]]).set m (.cells 100 (AV.dpL [.v (.int .i64 0),.lst .nil 1 [],.lst .nil 1 [],.v (.bool false)]))=Hc++[boxA 0 []]:=by
  rw [← hm];simp [boxA,AV.dpL,AV.dp]
 dsimp only
 rw [hdp]
 refine vs9 (fun s=>s=⟨91,[(0,.arr id' 0 T.length cap'),(1,.v (.int .i64 (dir:Nat))),(2,.lst .any 1 (bbL B)),(7,.loc H.length 0),(8,.loc (H.length+1) 0),(9,.v (.int .i64 (i:Nat))),(10,.loc m 0)],Hc++[boxA 0 b]⟩) ?_ ?_
 ·by_cases c : i < B.length
  ·have ci:(i:Int) < B.length:=by omega
   rw [List.getElem?_append_left c] at hBi
   have hBe:B[i]'c=b:=(List.getElem?_eq_some_iff.1 hBi).2
   refine yr9 [0,1,2,7,8,9,10,21] (by simp [c,ci];rfl) ?_
   refine yt9 (t:=true) (by simp [c,ci]) (fun h=>?_) (fun h=>by simp at h)
   refine zr9 [0,1,2,7,8,9,10] (by simp [c,ci,hBe,← hm,boxA,yk9];rfl) ?_
   refine (show _=_ from ?_)
   simp [boxA,hm]
  ·have ci : ¬ (i : Int) < B.length := by omega
   have hil:i=B.length:=by
    have:=(List.getElem?_eq_some_iff.1 hBi).1
    simp at this
    omega
   rw [hil] at hBi
   simp at hBi
   subst hBi
   refine yr9 [0,1,2,7,8,9,10,21] (by simp [c,ci];rfl) ?_
   refine yt9 (t:=false) (by simp [c,ci]) (fun h=>by simp at h) (fun h=>?_)
   refine ym9 [0,1,2,7,8,9,10] ?_
   refine yg9 ?_
   refine (show _=_ from ?_)
   rfl
 rintro _ rfl
 have wl:IntKind.i64.wrap ((T.length:Int) - 1)=(T.length:Int) - 1:=w64 (by omega) (by omega)
 refine yr9 [0,1,2,7,8,9,10,11] (by simp [wl];rfl) ?_
 by_cases c:dir < T.length
 ·obtain ⟨x, hx⟩ : ∃ x, T.length = x + 1 := ⟨T.length - 1, by omega⟩
  have hne:T≠[]:=by intro h;rw [h] at hx;simp at hx
  have hxi:(T.length:Int) - 1=(x:Nat):=by omega
  have cx:dir≤x:=by omega
  have cxi:(dir:Int)≤x:=by omega
  have cxn:¬ (x:Int) < dir:=by omega
  have h1:x < x+1:=by omega
  have h1i:(x:Int) < (x:Int)+1:=by omega
  obtain ⟨y,hcx,f,rfl,hf⟩:=ws.rc.last hne
  rw [show T.length - 1=x by omega] at hcx
  have hnv:=hTv _ (lastT_mem hne)
  obtain ⟨now,hnow⟩:∃ now,zv9 T=now:=⟨_,rfl⟩
  rw [hnow] at hcx hf hnv
  obtain ⟨hn64,hnr,hnsm⟩:=vn8 hnv
  have hR:=nxR_vtrk hnv
  have hfit:=vh6 now ⟨nxR now,[],b,false⟩ hnsm ⟨by simp,by simp;omega⟩ (by omega)
  simp only [recA,byL_nil] at hfit
  rw [hxi,hx]
  refine vs9 (fun s=>s=⟨91,[(0,.arr id' 0 (x+1) cap'),(1,.v (.int .i64 (dir:Nat))),(2,.lst .any 1 (bbL B)),(7,.loc H.length 0),(8,.loc (H.length+1) 0),(9,.v (.int .i64 (i:Nat))),(10,.loc m 0),(11,.v (.int .i64 (x:Nat)))],Hc++[boxA (nxR now) b]⟩) ?_ ?_
  ·have hm0 := hm1 0
   refine yr9 [0,1,2,7,8,9,10,11,32] (by simp [cxi,cx];rfl) ?_
   refine yt9 (t:=true) rfl (fun h=>?_) (fun h=>by simp at h)
   refine yr9 [0,1,2,7,8,9,10,11] (by simp [hm0,yk9];rfl) ?_
   have hset:(Hc++[boxA 0 b]).set m (.cells 100 [.v (.int .i64 1),.lst .any 1 [],.lst .any 1 (byL b),.v (.bool false)])=Hc++[boxA 1 b]:=by rw [← hm];simp [boxA]
   have hset2:Hc++(([boxA 0 b]:List AObj).set (m - Hc.length) (.cells 100 [.v (.int .i64 1),.lst .any 1 [],.lst .any 1 (byL b),.v (.bool false)]))=Hc++[boxA 1 b]:=by rw [← hm];simp [boxA]
   first | rw [hset] | rw [hset2]
   have hob1:=(ws1 1).obj
   have hm2:=hm1 1
   obtain ⟨H1,hH1⟩:∃ H1,Hc++[boxA 1 b]=H1:=⟨_,rfl⟩
   rw [hH1] at hob1 hm2 ⊢
   by_cases c2:now=[]
   ·subst c2
    have hr1:nxR []=1:=rfl
    refine yr9 [0,1,2,7,8,9,10,11,39] (by simp [cxi,cx,h1,h1i,hob1,hcx];rfl) ?_
    refine yt9 (t:=false) rfl (fun h=>by simp at h) (fun h=>?_)
    refine ym9 [0,1,2,7,8,9,10,11] ?_
    refine yg9 ?_
    refine (show _=_ from ?_)
    rw [hr1,hH1]
    rfl
   ·obtain ⟨y, hy⟩ : ∃ y, now.length = y + 1 := ⟨now.length - 1, by have := List.length_pos_iff.2 c2; omega⟩
    obtain ⟨r,hr⟩:∃ r,now[y]?=some r:=⟨_,List.getElem?_eq_getElem (by omega)⟩
    have hyl:y < now.length:=by omega
    have hr2:now[y]'hyl=r:=(List.getElem?_eq_some_iff.1 hr).2
    have hnx:nxR now=r.R+1:=by
     unfold nxR
     rw [List.getLast?_eq_getElem?,hy,Nat.add_sub_cancel,hr]
    have hrr:=(hnr r (List.mem_of_getElem? hr)).2.2
    have wr:IntKind.i64.wrap (r.R+1)=r.R+1:=w64 (by omega) (by omega)
    have hpos:0 < now.length:=by omega
    have wy:IntKind.i64.wrap (y:Int)=(y:Nat):=w64 (by omega) (by omega)
    have hty:(trL now)[y]?=some (recA r):=by rw [trL_get,hr];rfl
    have hy1:y < y+1:=by omega
    have hy1i:(y:Int) < (y:Int)+1:=by omega
    refine yr9 [0,1,2,7,8,9,10,11,39] (by simp [cxi,cx,h1,h1i,hob1,hcx,hy];rfl) ?_
    refine yt9 (t:=true) (by simp [hy]) (fun h=>?_) (fun h=>by simp at h)
    refine qh9 [0,1,2,7,8,9,10,11] mx (by decide +kernel) ?_
    refine yd9 6 (by simp [h1,h1i,hob1,hcx];rfl) rfl ?_
    refine yd9 4 (by simp [h1,h1i,hob1,hcx,hy,wy];rfl) rfl ?_
    refine yd9 3 (by simp [hy,hyl,hr2,hy1,hy1i,hty];rfl) rfl ?_
    refine yb9 (by simp [wr,hm2,yk9];rfl) ?_
    refine (show _=_ from ?_)
    rw [hnx,← hH1,← hm]
    simp [boxA]
  rintro _ rfl
  have hob1:=(ws1 (nxR now)).obj
  have hm2:=hm1 (nxR now)
  have ws2:=ws1 (nxR now)
  obtain ⟨H1,hH1⟩:∃ H1,Hc++[boxA (nxR now) b]=H1:=⟨_,rfl⟩
  rw [hH1] at hob1 hm2 ws2 ⊢
  refine yh9 ?_
  refine wk9 [0,1,2,7,8,9,10,11,66] mx (by decide +kernel) ?_
  refine yd9 6 (by simp [cxn,cx,cxi];rfl) rfl ?_
  refine yd9 3 (by simp [cxn,h1,h1i,hob1,hcx,hm2];rfl) rfl ?_
  refine yv9 (by simp) (by first | (simp;done) | (simp;rfl)) hfit (by simp;rfl) ?_
  refine yb9 (by simp;rfl) ?_
  cases hfv:yq7 now ⟨nxR now,[],b,false⟩ with
  | true =>
   have hw:=wr1_old (dir:=dir) (T:=T) (b:=b) ⟨c,by rw [hnow];exact hfv⟩
   rw [hnow,show T.length - 1=x by omega] at hw
   rw [hw] at hQ
   refine yt9 (t:=false) rfl (fun h=>by simp at h) (fun h=>?_)
   refine ym9 [0,1,2,7,8,9,10,11] ?_
   refine yg9 ?_
   repeat (first | refine on_norm ?_ | refine in_norm ?_)
   refine wa_put (R:=nxR now) ws2 hid hx hm2 (by rw [hnow];omega) fun Hc' cs2 hws=>?_
   rw [hnow] at hws
   have:=hQ _ _ _ _ hws
   unfold waS at this
   rw [kr8 hne,hx] at this
   exact this
  | false =>
   have hw:=wg6 (dir:=dir) (T:=T) (b:=b) (fun h=>by rw [hnow,hfv] at h;exact absurd h.2 (by simp))
   rw [hw] at hQ
   rw [← hx,← hxi]
   refine yt9 (t:=true) rfl (fun h=>?_) (fun h=>by simp at h)
   refine ym9 [0,1,2,7,8,9,10,11] ?_
   refine wa_new ws2 hid rfl hT hm2 (by omega) fun Hc' id2 cap2 cs2 hws hm3=>?_
   repeat (first | refine on_norm ?_ | refine in_norm ?_)
   refine wa_put (R:=1) hws hid (by simp) hm3 (by simp [zv9]) fun Hc2 cs3 hws3=>?_
   simp only [zv9,List.getLast?_append,List.getLast?_singleton,Option.some_or,Option.getD_some,List.nil_append,List.dropLast_concat] at hws3
   have:=hQ _ _ _ _ hws3
   unfold waS at this
   simpa using this
 ·have cn:¬ (dir:Int)≤(T.length:Int) - 1:=by omega
  have cn2:(T.length:Int) - 1 < dir:=by omega
  have hw:=wg6 (dir:=dir) (T:=T) (b:=b) (fun h=>c h.1)
  rw [hw] at hQ
  have ws2:=ws1 0
  have hm2:=hm1 0
  obtain ⟨H1,hH1⟩:∃ H1,Hc++[boxA 0 b]=H1:=⟨_,rfl⟩
  rw [hH1] at hm2 ws2 ⊢
  refine yh9 ?_
  refine yr9 [0,1,2,7,8,9,10,11,32] (by simp [cn,cn2];rfl) ?_
  refine yt9 (t:=false) rfl (fun h=>by simp at h) (fun h=>?_)
  refine ym9 [0,1,2,7,8,9,10,11] ?_
  refine yg9 ?_
  repeat (first | refine on_norm ?_ | refine in_norm ?_)
  refine yh9 ?_
  refine wk9 [0,1,2,7,8,9,10,11,66] mx (by decide +kernel) ?_
  refine yd9 6 (by simp [cn,cn2];rfl) rfl ?_
  refine yb9 (by simp [cn,cn2];rfl) ?_
  refine yt9 (t:=true) rfl (fun h=>?_) (fun h=>by simp at h)
  refine ym9 [0,1,2,7,8,9,10,11] ?_
  refine wa_new ws2 hid rfl hT hm2 (by omega) fun Hc' id2 cap2 cs2 hws hm3=>?_
  repeat (first | refine on_norm ?_ | refine in_norm ?_)
  refine wa_put (R:=1) hws hid (by simp) hm3 (by simp [zv9]) fun Hc2 cs3 hws3=>?_
  simp only [zv9,List.getLast?_append,List.getLast?_singleton,Option.some_or,Option.getD_some,List.nil_append,List.dropLast_concat] at hws3
  have:=hQ _ _ _ _ hws3
  unfold waS at this
  simpa using this
set_option maxRecDepth 20000
theorem append_callW (A : List (List Rec)) (dir : Nat) (bs : List (List UInt8)) (hA : ∀ t ∈ A, vtrk t = true) (hbs : ∀ b ∈ bs, b.length ≤ 1024) (hl : A.length ≤ 50000000) (hd : dir ≤ 50000000) (hn : bs.length ≤ 100000)
  (H:List AObj) (hh:yn9 H.length H=true) (id cap:Nat) (cs:List AV) (hid:H[id]?=some (.cells 80 cs)) (hrc:RC A cap cs) (hkl:AV.killL 29 cs=cs) (hcap:cap≤maxLen) :
  ww9 Tryz.prog 49 [.arr id 0 A.length cap,.v (.int .i64 (dir:Nat)),.lst .any 1 (bbL bs)] H (WrQ H id (.agg [.v (.string ⟨#[]⟩),.v (.int .i64 ((wrE dir A bs).2.1:Nat)),.v (.int .i64 (wrE dir A bs).2.2)]) (wrE dir A bs).1):=by
 have hidl:id < H.length:=(List.getElem?_eq_some_iff.1 hid).1
 refine zd9 Tryz.func49 rfl (by decide +kernel) (by simp [Tryz.f49]) (rs:=[.tmp 6,.cell 7 51]) rfl ?_
 rw [show Tryz.f49.ntmps=91 from rfl]
 refine yr9 [0,1,2,7] (by simp;rfl) ?_
 refine yr9 [0,1,2,7,8] (by simp;rfl) ?_
 refine yh9 ?_
 refine yr9 [0,1,2,7,8,9] (by simp;rfl) ?_
 have hBl:(bs++[[]]).length=bs.length+1:=by simp
 have hpl2:(wrE dir A bs).2=(wr1 dir A (bs.headD [])).2:=rfl
 have hfin:(wrE dir A bs).1=wrL dir A (bs++[[]]):=rfl
 have hB0:∀ b,(bs++[[]])[0]?=some b→b=bs.headD []:=by
  intro b h
  cases bs with
  | nil=>simp at h;rw [← h];rfl
  | cons x l=>simp at h;rw [← h];rfl
 have hBb:∀ b∈bs++[[]],b.length≤1024:=by
  intro b hb
  rcases List.mem_append.1 hb with h | h
  ·exact hbs b h
  ·rw [List.mem_singleton.1 h];simp
 obtain ⟨P2,hP2⟩:∃ P2,(wrE dir A bs).2=P2:=⟨_,rfl⟩
 rw [hfin,hP2]
 rw [hpl2] at hP2
 obtain ⟨B,hBe⟩:∃ B,bs++[[]]=B:=⟨_,rfl⟩
 rw [hBe] at hB0 hBb hBl ⊢
 have ws0:WS (H++[boxQ 0 0,boxQ 0 0]) id (H++[boxQ 0 0,boxQ 0 0]) id cap A cs:=by
  refine ⟨Nat.le_refl _,fun j o _ h _=>h,?_,by rw [List.getElem?_append_left hidl];exact hid,hrc,hkl,.inl rfl,hcap⟩
  rw [List.length_append,zm9,xc9 (by omega) _ hh]
  simp [yn9,boxQ,AObj.under,AV.under,AV.underL]
 refine yl9 ?_
 refine zj9 (fun q s => ∃ (i : Nat) (Hc : List AObj) (id' cap' : Nat) (cs' : List AV), q = B.length - i ∧ i ≤ B.length ∧ WS (H ++ [boxQ 0 0, boxQ (if i = 0 then 0 else P2.1) (if i = 0 then 0 else P2.2)]) id Hc id' cap' (wrL dir A (B.take i)) cs' ∧
  s=waS H.length id' cap' i dir (wrL dir A (B.take i)) (bbL bs) Hc) (k:=B.length) ⟨0,_,id,cap,cs,rfl,by omega,ws0,by simp [waS,wrL,boxQ]⟩ ?_
 rintro q s ⟨i,Hc,id',cap',cs',rfl,hi,ws,rfl⟩
 have hTl:=wf6 dir (B.take i) A
 rw [List.length_take] at hTl
 have hTv:∀ t∈wrL dir A (B.take i),vtrk t=true:=vb8 dir hA fun b hb=>hBb b (List.mem_of_mem_take hb)
 by_cases c:i < B.length
 ·have ci : (i : Int) < B.length := by omega
  have wi:=w64 (n:=(i:Int)+1) (by omega) (by omega)
  obtain ⟨b,hb⟩:∃ b,B[i]?=some b:=⟨_,List.getElem?_eq_getElem c⟩
  have hnext:=wrL_take (dir:=dir) (A:=A) hb
  have hstep:=fun Q=>wa_step (B:=bs) (dir:=dir) (Q:=Q) ws hidl (by omega) hTv (by omega) (hBb b (List.mem_of_getElem? hb)) (by rw [hBe];exact hb) (by omega)
  unfold waS at hstep ⊢
  have cb:i≤bs.length:=by omega
  have cbi:(i:Int)≤bs.length:=by omega
  refine yh9 ?_
  refine yr9 [0,1,2,7,8,9,15] (by simp [cb,cbi];rfl) ?_
  refine yt9 (t:=true) (by simp [cb,cbi]) (fun h=>?_) (fun h=>by simp at h)
  refine yg9 ?_
  refine yh9 ?_
  refine yl9 ?_
  refine ym9 [0,1,2,7,8,9] ?_
  refine hstep _ fun Hc' id2 cap2 cs2 ws2=>?_
  repeat (first | refine on_norm ?_ | refine in_norm ?_)
  refine zr9 [0,1,2,7,8,9] (by simp [wi];rfl) ?_
  refine ⟨_,by omega,i+1,Hc',id2,cap2,cs2,rfl,by omega,?_,?_⟩
  ·rw [hnext, if_neg (by omega), if_neg (by omega)]
   by_cases i0:i=0
   ·subst i0
    rw [if_pos rfl,hB0 b hb,show wrL dir A (B.take 0)=A from rfl,hP2] at ws2
    rw [hB0 b hb]
    exact ws2
   ·rw [if_neg i0,if_neg i0,if_neg i0] at ws2
    exact ws2
  ·rw [hnext]
   simp [waS]
 ·have hie : i = B.length := by omega
  subst hie
  rw [List.take_length] at ws
  rw [if_neg (by omega),if_neg (by omega)] at ws
  unfold waS
  rw [List.take_length]
  obtain ⟨A',hA'⟩:∃ A',wrL dir A B=A':=⟨_,rfl⟩
  rw [hA'] at ws ⊢
  have cb:¬ B.length≤bs.length:=by omega
  have cbi:¬ (B.length:Int)≤bs.length:=by omega
  refine yh9 ?_
  refine yr9 [0,7,8,15] (by simp [cb,cbi];rfl) ?_
  refine yt9 (t:=false) (by simp [cb,cbi]) (fun h=>by simp at h) (fun h=>?_)
  refine zs9 ?_
  repeat (first | refine on_exit ?_ | refine in_exit ?_)
  have hlen:=ws.len
  simp only [List.length_append,List.length_cons,List.length_nil] at hlen
  have hb7:Hc[H.length]?=some (.cells 51 [.v (.string ⟨#[]⟩),.v (.int .i64 (0:Nat)),.v (.int .i64 0)]):=ws.old H.length _ (by omega) (by simp [boxQ]) (fun T=>by simp [AObj.kill,AV.killL,AV.kill])
  have hb8:Hc[H.length+1]?=some (.cells 51 [.v (.string ⟨#[]⟩),.v (.int .i64 (P2.1:Nat)),.v (.int .i64 P2.2)]):=ws.old (H.length+1) _ (by omega) (by simp [boxQ]) (fun T=>by simp [AObj.kill,AV.killL,AV.kill])
  have h7l:H.length < Hc.length:=by omega
  refine W_dvK [6,7] mx (by decide +kernel) (by simp [hb7,hb8,yk9];rfl) ?_
  have ws3:=ws.setb (j:=H.length) (o:=boxQ P2.1 P2.2) (by omega) (by simp) (by simp [boxQ,AObj.under,AV.under,AV.underL])
  have hset:(H++[boxQ 0 0,boxQ P2.1 P2.2]).set H.length (boxQ P2.1 P2.2)=H++[boxQ P2.1 P2.2,boxQ P2.1 P2.2]:=by simp
  rw [hset] at ws3
  have ws4:WS H id (Hc.set H.length (boxQ P2.1 P2.2)) id' cap' A' cs':=ws3.base (by simp) fun j o hj=>by
   rw [List.getElem?_append_left (List.getElem?_eq_some_iff.1 hj).1];exact hj
  refine yj9 ?_
  repeat (first | refine yp9 ?_ | refine ys9 ?_)
  have hil:=ws4.lt
  refine ⟨.inr rfl,.tup [.arr id' 0 A'.length cap',.agg [.v (.string ⟨#[]⟩),.v (.int .i64 (P2.1:Nat)),.v (.int .i64 P2.2)]],.tup [.arr id' 0 A'.length cap',.agg [.v (.string ⟨#[]⟩),.v (.int .i64 (P2.1:Nat)),.v (.int .i64 P2.2)]],Hc.set H.length (boxQ P2.1 P2.2),(Hc.set H.length (boxQ P2.1 P2.2)).length,?_,.inl ⟨rfl,rfl⟩,by simpa using Nat.le_of_lt h7l,Nat.le_refl _,?_,?_,?_⟩
  ·simp [boxQ,h7l]
  ·simp [AV.under,AV.underL]
   simpa using hil
  ·rw [List.take_length];exact ws4.shut
  ·rw [List.take_length]
   exact ⟨id',cap',cs',ws4,rfl⟩
set_option maxRecDepth 20000
structure Calm1 (C:List AV):Prop where
 kill:∀ T,AV.killL T C=C
 sw:∀ i j,AV.swL i j C=C
 under:∀ m,AV.underL m C=true
theorem jw8 {C : List AV} (hC : Calm1 C) {l : List SE} {n i cap x : Nat} {A : List (List Rec)} {cs : List AV} {B : Rec} (hblk : Sound Tryz.prog 85 [.lst .any 3 (seL l), .v (.int .i64 (i : Nat))] (recA B)) (hrc : RC A cap cs) (hk29 : AV.killL 29 cs = cs) (hne : A ≠ []) (hxl : A.length = x + 1) (hx : i / 6 = x) (hi : i ≤ 1000) (hnl : (zv9 A).length ≤ 6)
  {Q:Exit→St→Prop} (hQ:∀ cs',RC (A.dropLast++[zv9 A++[B]]) cap cs'→AV.killL 29 cs'=cs'→Q .normal ⟨33,[(0,.lst .any 3 (seL l)),(1,.v (.int .i64 (n:Nat))),(5,.arr 1 0 (x+1) cap),(6,.v (.int .i64 (i:Nat)))],[.cells 42 C,.cells 80 cs']⟩) :
  Wt true 1 Tryz.prog (sq2 rdX) Q ⟨33,[(0,.lst .any 3 (seL l)),(1,.v (.int .i64 (n:Nat))),(5,.arr 1 0 (x+1) cap),(6,.v (.int .i64 (i:Nat)))],[.cells 42 C,.cells 80 cs]⟩:=by
 have wq:Int.tdiv (i:Int) 6=(x:Nat):=by rw [Int.tdiv_eq_ediv_of_nonneg (by omega)];omega
 have wx:IntKind.i64.wrap (x:Nat)=(x:Nat):=w64 (by omega) (by omega)
 have hcl:=hrc.len
 have hce:=hrc.le
 simp only [recA] at hblk
 have hle1:x+1≤cs.length:=by omega
 have h1:x < x+1:=by omega
 have h1i:(x:Int) < (x:Int)+1:=by omega
 obtain ⟨y,hcx,f,rfl,hf⟩:=hrc.last hne
 rw [show A.length - 1=x by omega] at hcx
 obtain ⟨now,hnow⟩:∃ now,zv9 A=now:=⟨_,rfl⟩
 rw [hnow] at hcx hf hnl hQ
 have b3:(now.length+1) * 64≤140737488355328:=by omega
 have b4:64 * (now.length+1)≤140737488355328:=by omega
 have hsn:trL now++[AV.agg [.v (.int .i64 B.R),.lst .any 1 (byL B.key),.lst .any 1 (byL B.data),.v (.bool B.bad)]]=trL (now++[B]):=wv8 now B
 have hxx:A.length - 1=x:=by omega
 rcases hf with rfl | ⟨U,hU,rfl⟩ | ⟨rfl,h0⟩
 ·have hnew:=hrc.grow0 hne (t':=now++[B]) (x:=.lst (.tip 100 61) 4 (trL (now++[B]))) ⟨_,rfl,.inr (.inl ⟨61,by decide,rfl⟩)⟩
  rw [hxx] at hnew
  refine qh9 [0,1,5,6] mx (by decide +kernel) ?_
  refine yd9 6 (by simp [wq,wx];rfl) rfl ?_
  refine yd9 4 (by simp [wq,wx,h1,h1i,hcx];rfl) rfl ?_
  refine yv9 (by simp) (by first | (simp;done) | (simp;rfl)) hblk (by simp;rfl) ?_
  refine yb9 (by simp [wq,wx,h1,h1i,hcx,hle1,catK,AV.cellsK,AV.kone,AV.koneL,b3,b4,hsn];rfl) ?_
  exact hQ _ hnew (jb9 hk29 (by simp [AV.killL,AV.kill]) _)
 ·have hU29:¬ U=29:=by
   intro h
   subst h
   have:=congrArg (fun z=>z[x]?) hk29
   simp only [xb9,hcx,Option.map_some] at this
   simp [AV.kill,Fl.wk] at this
  have hnew:=hrc.grow (T:=U) hne (t':=now++[B]) (x:=.lst (.tip 100 U) 4 (trL (now++[B]))) ⟨_,rfl,.inr (.inl ⟨U,hU,rfl⟩)⟩
  rw [hxx] at hnew
  have hkl:=jn9 U cs
  have hle2:x+1≤(AV.killL U cs).length:=by omega
  refine qh9 [0,1,5,6] mx (by decide +kernel) ?_
  refine yd9 6 (by simp [wq,wx];rfl) rfl ?_
  refine yd9 4 (by simp [wq,wx,h1,h1i,hcx];rfl) rfl ?_
  refine yv9 (by simp) (by first | (simp;done) | (simp;rfl)) hblk (by simp;rfl) ?_
  refine yb9 (by simp [wq,wx,h1,h1i,hcx,hle1,hle2,catK,AV.cellsK,AV.kone,AV.koneL,b3,b4,hsn,AObj.kill,hU,hC.kill];rfl) ?_
  exact hQ _ hnew (jb9 (by rw [Go.AM.killL_comm U 29,hk29]) (by simp [AV.killL,AV.kill,hU29]) _)
 ·subst h0
  have hnew:=hrc.grow0 hne (t':=[B]) (x:=.lst (.tip 100 61) 4 (trL [B])) ⟨_,rfl,.inr (.inl ⟨61,by decide,rfl⟩)⟩
  rw [hxx] at hnew
  refine qh9 [0,1,5,6] mx (by decide +kernel) ?_
  refine yd9 6 (by simp [wq,wx];rfl) rfl ?_
  refine yd9 4 (by simp [wq,wx,h1,h1i,hcx];rfl) rfl ?_
  refine yv9 (by simp) (by first | (simp;done) | (simp;rfl)) hblk (by simp;rfl) ?_
  refine yb9 (by simp [wq,wx,h1,h1i,hcx,hle1,catK,AV.cellsK,AV.kone,AV.koneL];rfl) ?_
  exact hQ _ hnew (jb9 hk29 (by simp [AV.killL,AV.kill]) _)
theorem rdir_callW {C : List AV} (hC : Calm1 C) (L : List RE) (n : Nat) (hn1 : 1 ≤ n) (h8 : ∀ e ∈ L, e.key.length = 8) (hs : ∀ e ∈ L, symM (nmM e.key) = true) (hb : ∀ e ∈ L, e.trk < 65536 ∧ e.rn < 256) (hl : L.length ≤ 1000000) (hn : n ≤ 1000) :
  ww9 Tryz.prog 47 [.lst .any 3 (seL (L.map nmE)),.v (.int .i64 (n:Nat))] [.cells 42 C] fun r h'=>∃ cap cs,r=.arr 1 0 ((n+5) / 6) cap∧cap≤maxLen∧RC (layG L n) cap cs∧AV.killL 29 cs=cs∧h'=[.cells 42 C,.cells 80 cs]:=by
 refine zd9 Tryz.func47 rfl (by decide +kernel) (by simp [Tryz.f47]) (rs:=[.tmp 4]) rfl ?_
 rw [show Tryz.f47.ntmps=33 from rfl]
 obtain ⟨l,hlE⟩:∃ l,L.map nmE=l:=⟨_,rfl⟩
 have hcu:=hC.under
 refine (show Wt true 1 _ _ _ _ from ?_)
 refine yr9 [0,1,4] (by simp;rfl) ?_
 refine yr9 [0,1,5] (by simp;rfl) ?_
 refine yh9 ?_
 refine yr9 [0,1,5,6] (by simp;rfl) ?_
 refine yl9 ?_
 rw [hlE]
 refine zj9 (fun z σ => ∃ (i : Nat) (x : AV) (H : List AObj), z = n - i ∧ i ≤ n ∧ ((i = 0 ∧ x = .lst .nil 1 [] ∧ H = [.cells 42 C]) ∨ (0 < i ∧ ∃ cap cs, x = .arr 1 0 ((i + 5) / 6) cap ∧ cap ≤ maxLen ∧ RC (layG L i) cap cs ∧ AV.killL 29 cs = cs ∧ H = [.cells 42 C, .cells 80 cs])) ∧
  σ=⟨33,[(0,.lst .any 3 (seL l)),(1,.v (.int .i64 (n:Nat))),(5,x),(6,.v (.int .i64 (i:Nat)))],H⟩) (k:=n) ⟨0,_,[.cells 42 C],rfl,by omega,.inl ⟨rfl,rfl,rfl⟩,by simp⟩ ?_
 rintro z σ ⟨i,x,H,rfl,hi,hx,rfl⟩
 refine yh9 ?_
 have hlay:=vh9 L i
 by_cases c:i < n
 ·have ci : (i : Int) < n := by omega
  have wi:=w64 (n:=(i:Int)+1) (by omega) (by omega)
  have wr1:Int.tmod (i:Int) 6=((i % 6:Nat):Int):=by rw [Int.tmod_eq_emod_of_nonneg (by omega)];omega
  have wr2:IntKind.i64.wrap ((i % 6:Nat):Int)=((i % 6:Nat):Int):=w64 (by omega) (by omega)
  have hblk:=qp8 L i h8 hs hb hl (by omega)
  obtain ⟨B,hB⟩:∃ B,blkE L i=B:=⟨_,rfl⟩
  rw [hB,hlE] at hblk
  simp only [recA] at hblk
  obtain ⟨r6,hr6⟩:∃ r6,i % 6=r6:=⟨_,rfl⟩
  rw [hr6] at wr1 wr2
  rcases hx with ⟨h0,rfl,rfl⟩ | ⟨h0,cap,cs,rfl,hcm,hrc,hkl,rfl⟩
  ·subst h0
   have hr0:r6=0:=by omega
   subst hr0
   refine yr9 [0,1,5,6,9] (by simp [c,ci];rfl) ?_
   refine yt9 (t:=true) (by simp [c,ci]) (fun h=>?_) (fun h=>by simp at h)
   refine yg9 ?_
   repeat (first | refine on_norm ?_ | refine in_norm ?_)
   refine yh9 ?_
   refine yl9 ?_
   refine yh9 ?_
   refine yr9 [0,1,5,6,14] (by simp [wr1,wr2];rfl) ?_
   refine yt9 (t:=true) (by simp) (fun h=>?_) (fun h=>by simp at h)
   refine W_rE [0,1,5,6] ?_
   refine yq9 1 (by simp;rfl) rfl ?_
   refine kl9 (by simp) ⟨_,by simp [qk9,yf7,catK,AV.cellsK,AV.kone,AV.koneL];rfl,?_⟩
   refine ug7 (t:=24) (e:=80) (sz:=1) (by_:=24) (s0:=1) (x0:=[]) (m:=1) (yc:=[.lst .nil 4 []]) (by simp) rfl rfl rfl rfl (by simp) (by simp [srcA]) s24 a80 z80 (by simp) (by omega) (by omega) ?_
   intro cap' hc1 hc2
   refine ⟨_,by simp;rfl,?_⟩
   refine yw9 (by simp;rfl) ?_
   have hrc1:RC [[]] cap' ([.lst .nil 4 []]++repC (cap' - 1) (AV.lst .nil 4 []).cells):=by
    have:=RC.move (RC.nils 0) (t':=[]) (cap':=cap') (x:=.lst .nil 4 []) (by simpa using hc1) ⟨.nil,rfl,.inr (.inr ⟨rfl,rfl⟩)⟩
    simpa [AV.cells,vr9] using this
   have hrn:∀ k,AV.killL 29 (List.replicate k (.lst .nil 4 []))=List.replicate k (.lst .nil 4 []):=fun k=>by induction k <;> simp_all [AV.killL,AV.kill,List.replicate_succ]
   have hkl1:AV.killL 29 ([.lst .nil 4 []]++repC (cap' - 1) (AV.lst .nil 4 []).cells)=[.lst .nil 4 []]++repC (cap' - 1) (AV.lst .nil 4 []).cells:=by
    simp only [AV.cells,vr9,List.cons_append,List.nil_append,AV.killL,hrn]
    rfl
   simp only [AV.cells,List.cons_append,List.nil_append] at hrc1 hkl1 ⊢
   obtain ⟨cs,hcs⟩:∃ cs,AV.lst .nil 4 [] :: repC (cap' - 1) [AV.lst .nil 4 []]=cs:=⟨_,rfl⟩
   rw [hcs] at hrc1 hkl1 ⊢
   repeat (first | refine on_norm ?_ | refine in_norm ?_)
   refine ym9 [0,1,5,6] ?_
   refine W_swap 1 2 (by omega) (by omega) (by simp [zf9]) (by simp [zf9]) ?_
   have hst:∀ bs:AObj,swSt 1 2 (⟨33,[(0,.lst .any 3 (seL l)),(1,.v (.int .i64 (n:Nat))),(5,.arr 2 0 1 cap'),(6,.v (.int .i64 (0:Nat)))],[.cells 42 C,bs,.cells 80 cs]⟩:St)=⟨33,[(0,.lst .any 3 (seL l)),(1,.v (.int .i64 (n:Nat))),(5,.arr 1 0 1 cap'),(6,.v (.int .i64 (0:Nat)))],[.cells 42 C,.cells 80 cs,bs.sw 1 2]⟩:=by
    intro bs
    simp [swSt,AV.sw,sw,AObj.sw,swL_ok _ _ hrc1.ce,hC.sw]
   refine (show Wt true 1 Tryz.prog _ _ (swSt 1 2 (⟨33,[(0,.lst .any 3 (seL l)),(1,.v (.int .i64 (n:Nat))),(5,.arr 2 0 1 cap'),(6,.v (.int .i64 (0:Nat)))],[.cells 42 C,_,.cells 80 cs]⟩:St)) from ?_)
   rw [hst]
   refine vd9 2 (by simp) (by simp) (by simp [zk9,AV.under,AV.underL]) (by simp [yn9,AObj.under,hrc1.under,hcu]) ?_
   refine jw8 hC (x:=0) hblk hrc1 hkl1 (by simp) rfl rfl (by omega) (by simp [zv9]) fun cs' hcs' hkl'=>?_
   repeat (first | refine on_norm ?_ | refine in_norm ?_)
   refine zr9 [0,1,5,6] (by simp [show IntKind.i64.wrap 1=1 from by decide];rfl) ?_
   refine ⟨_,by omega,0+1,_,_,rfl,by omega,.inr ⟨by omega,cap',cs',rfl,hc2,?_,hkl',rfl⟩,by simp⟩
   rw [xm8 L (i:=0) rfl,hB]
   simpa [zv9,layG] using hcs'
  ·have hcl := hrc.len
   have hce:=hrc.le
   rw [hlay] at hce
   have hAne:layG L i≠[]:=by intro h;rw [h] at hlay;simp at hlay;omega
   have hlast:(zv9 (layG L i)).length≤6:=by
    unfold zv9
    rw [List.getLast?_eq_some_getLast hAne]
    obtain ⟨j,hj,e⟩:=List.mem_map.1 (List.getLast_mem hAne)
    simp only [Option.getD_some]
    rw [← e,List.length_map,List.length_take]
    omega
   refine yr9 [0,1,5,6,9] (by simp [c,ci];rfl) ?_
   refine yt9 (t:=true) (by simp [c,ci]) (fun h=>?_) (fun h=>by simp at h)
   refine yg9 ?_
   repeat (first | refine on_norm ?_ | refine in_norm ?_)
   refine yh9 ?_
   refine yl9 ?_
   refine yh9 ?_
   by_cases h6:r6=0
   ·subst h6
    obtain ⟨m,hm⟩:∃ m,(i+5) / 6=m:=⟨_,rfl⟩
    rw [hm] at hlay hce ⊢
    refine yr9 [0,1,5,6,14] (by simp [wr1,wr2];rfl) ?_
    refine yt9 (t:=true) (by simp) (fun h=>?_) (fun h=>by simp at h)
    refine W_rE [0,1,5,6] ?_
    refine yq9 1 (by simp;rfl) rfl ?_
    refine kl9 (by simp) ⟨_,by simp [qk9,yf7,catK,AV.cellsK,AV.kone,AV.koneL];rfl,?_⟩
    refine un9 (t:=24) (e:=80) (sz:=1) (by_:=24) (id:=1) (len:=m) (cap:=cap) (m:=1) (cs:=cs) (yc:=[.lst .nil 4 []]) (by simp) rfl rfl rfl rfl (by simp) (by simp [srcA]) s24 a80 z80 (by simp) (by simp) (by omega) (by omega) ?_
    have hnil:okLt (AV.lst .nil 4 []) []:=⟨.nil,rfl,.inr (.inr ⟨rfl,rfl⟩)⟩
    rintro s1 x1 (⟨hr,rfl,rfl⟩ | ⟨hr,cap',hc1,hc2,rfl,rfl⟩)
    ·have hrc1:=hrc.next (t':=[]) (by omega) hnil
     have hkl1:AV.killL 29 (yk9 cs m [AV.lst .nil 4 []])=yk9 cs m [AV.lst .nil 4 []]:=jb9 hkl (by simp [AV.killL,AV.kill]) _
     rw [hlay] at hrc1
     refine ⟨_,by simp;rfl,?_⟩
     refine yw9 (by simp;rfl) ?_
     repeat (first | refine on_norm ?_ | refine in_norm ?_)
     refine ym9 [0,1,5,6] ?_
     obtain ⟨cs1,hcs1⟩:∃ cs1,yk9 cs m [AV.lst .nil 4 []]=cs1:=⟨_,rfl⟩
     rw [hcs1] at hrc1 hkl1 ⊢
     refine vd9 2 (by simp) (by simp [zf9]) (by simp [zf9,uh9,zk9,AV.under,AV.underL]) (by simp [zf9,yn9,AObj.under,hrc1.under,hcu]) ?_
     refine jw8 hC (x:=m) hblk hrc1 hkl1 (by simp) (by simp [hlay]) (by omega) (by omega) (by simp [zv9]) fun cs' hcs' hkl'=>?_
     repeat (first | refine on_norm ?_ | refine in_norm ?_)
     refine zr9 [0,1,5,6] (by simp [wi];rfl) ?_
     refine ⟨_,by omega,i+1,_,_,rfl,by omega,.inr ⟨by omega,cap,cs',by rw [show (i+1+5) / 6=m+1 by omega],hcm,?_,hkl',rfl⟩,by simp⟩
     rw [xm8 L (by omega),hB]
     simpa [zv9] using hcs'
    ·have hrc1 := hrc.move (t' := []) (cap' := cap') (by omega) hnil
     have hrn:∀ k,AV.killL 29 (List.replicate k (.lst .nil 4 []))=List.replicate k (.lst .nil 4 []):=fun k=>by induction k <;> simp_all [AV.killL,AV.kill,List.replicate_succ]
     have hkl1:AV.killL 29 (List.take m cs++AV.lst .nil 4 [] :: repC (cap' - (m+1)) [AV.lst .nil 4 []])=List.take m cs++AV.lst .nil 4 [] :: repC (cap' - (m+1)) [AV.lst .nil 4 []]:=by
      rw [jq9,zl7,hkl,vr9]
      simp only [AV.killL,hrn]
      rfl
     rw [hlay] at hrc1
     refine ⟨_,by simp;rfl,?_⟩
     refine yw9 (by simp;rfl) ?_
     repeat (first | refine on_norm ?_ | refine in_norm ?_)
     refine ym9 [0,1,5,6] ?_
     rw [← vr9] at hrc1
     simp only [Nat.mul_one,List.append_assoc,List.cons_append,List.nil_append,AV.cells] at hrc1 ⊢
     obtain ⟨cs1,hcs1⟩:∃ cs1,List.take m cs++AV.lst .nil 4 [] :: repC (cap' - (m+1)) [AV.lst .nil 4 []]=cs1:=⟨_,rfl⟩
     rw [hcs1] at hrc1 hkl1 ⊢
     refine W_swap 1 3 (by omega) (by omega) (by simp [zf9]) (by simp [zf9]) ?_
     have hst:∀ ys bs:AObj,swSt 1 3 (⟨33,[(0,.lst .any 3 (seL l)),(1,.v (.int .i64 (n:Nat))),(5,.arr 3 0 (m+1) cap'),(6,.v (.int .i64 (i:Nat)))],[.cells 42 C,ys,bs,.cells 80 cs1]⟩:St)=⟨33,[(0,.lst .any 3 (seL l)),(1,.v (.int .i64 (n:Nat))),(5,.arr 1 0 (m+1) cap'),(6,.v (.int .i64 (i:Nat)))],[.cells 42 C,.cells 80 cs1,bs.sw 1 3,ys.sw 1 3]⟩:=by
      intro ys bs
      simp [swSt,AV.sw,sw,AObj.sw,swL_ok _ _ hrc1.ce,hC.sw]
     refine (show Wt true 1 Tryz.prog _ _ (swSt 1 3 (⟨33,[(0,.lst .any 3 (seL l)),(1,.v (.int .i64 (n:Nat))),(5,.arr 3 0 (m+1) cap'),(6,.v (.int .i64 (i:Nat)))],[.cells 42 C,_,_,.cells 80 cs1]⟩:St)) from ?_)
     rw [hst]
     refine vd9 2 (by simp) (by simp) (by simp [zk9,AV.under,AV.underL]) (by simp [yn9,AObj.under,hrc1.under,hcu]) ?_
     refine jw8 hC (x:=m) hblk hrc1 hkl1 (by simp) (by simp [hlay]) (by omega) (by omega) (by simp [zv9]) fun cs' hcs' hkl'=>?_
     repeat (first | refine on_norm ?_ | refine in_norm ?_)
     refine zr9 [0,1,5,6] (by simp [wi];rfl) ?_
     refine ⟨_,by omega,i+1,_,_,rfl,by omega,.inr ⟨by omega,cap',cs',by rw [show (i+1+5) / 6=m+1 by omega],hc2,?_,hkl',rfl⟩,by simp⟩
     rw [xm8 L (by omega),hB]
     simpa [zv9] using hcs'
   ·have h6B:((r6:Int) == 0)=false:=by simp;omega
    have h6I:¬ (r6:Int)=0:=by omega
    obtain ⟨m,hm⟩:∃ m,i / 6=m:=⟨_,rfl⟩
    have hm1:(i+5) / 6=m+1:=by omega
    rw [hm1] at hlay hce ⊢
    refine yr9 [0,1,5,6,14] (by simp [wr1,wr2,h6,h6I,h6B];rfl) ?_
    refine yt9 (t:=false) (by simp [h6,h6I,h6B]) (fun h=>by simp at h) (fun h=>?_)
    refine ym9 [0,1,5,6] ?_
    refine yg9 ?_
    repeat (first | refine on_norm ?_ | refine in_norm ?_)
    refine jw8 hC (x:=m) hblk hrc hkl hAne hlay hm (by omega) hlast fun cs' hcs' hkl'=>?_
    repeat (first | refine on_norm ?_ | refine in_norm ?_)
    refine zr9 [0,1,5,6] (by simp [wi];rfl) ?_
    refine ⟨_,by omega,i+1,_,_,rfl,by omega,.inr ⟨by omega,cap,cs',by rw [show (i+1+5) / 6=m+1 by omega],hcm,?_,hkl',rfl⟩,by simp⟩
    rw [ql7 L (by omega),hB]
    exact hcs'
 ·rcases hx with ⟨h0, rfl, rfl⟩ | ⟨h0, cap, cs, rfl, hcm, hrc, hkl, rfl⟩
  ·omega
  ·have hie:i=n:=by omega
   subst hie
   refine yr9 [5,9] (by simp;rfl) ?_
   refine yt9 (t:=false) (by simp) (fun h=>by simp at h) (fun h=>?_)
   refine ym9 [5] ?_
   refine zs9 ?_
   repeat (first | refine on_exit ?_ | refine in_exit ?_)
   refine yr9 [4] (by simp [zf9];rfl) ?_
   refine yj9 ?_
   repeat (first | refine yp9 ?_ | refine ys9 ?_)
   refine ⟨.inr rfl,.arr 1 0 ((i+5) / 6) cap,.arr 1 0 ((i+5) / 6) cap,_,2,by simp,.inl ⟨rfl,rfl⟩,by simp,by simp,by simp [AV.under],?_,cap,cs,rfl,hcm,hrc,hkl,by simp⟩
   simp [yn9,AObj.under,hrc.under,hcu]
set_option maxRecDepth 20000
set_option maxRecDepth 20000
set_option maxRecDepth 20000
@[simp] theorem strL_getElem (L:List (List UInt8)) (i:Nat) (h:i < (strL L).length):(strL L)[i]=strB (L[i]'(by simpa using h)):=by simp [strL]
theorem strB_ne {a b:List UInt8} (h:strB a=strB b):a=b:=by
 simp only [strB,AV.v.injEq,Value.string.injEq] at h
 have:=congrArg (fun x:ByteArray=>x.data.toList) h
 simpa using this
theorem ud7 (a b:List (List UInt8)) (hl:a.length≤1000000000):Sound Tryz.prog 22 [.lst .any 1 (strL a),.lst .any 1 (strL b)] (.v (.bool (decide (a=b)))):=by
 refine yc9 Tryz.func22 rfl (by decide +kernel) (by simp [Tryz.f22]) (by simp [AV.rfL,AV.rf]) (by simp [AV.tlL,AV.tl]) (rs:=[.tmp 4]) rfl ?_
 rw [show Tryz.f22.ntmps=26 from rfl]
 refine yr9 [0,1,4] (by simp;rfl) ?_
 refine yh9 ?_
 by_cases c:a.length=b.length
 ·have ci : (a.length : Int) = b.length := by omega
  refine yr9 [0,1,10] (by simp [c,ci];rfl) ?_
  refine yt9 (t:=false) (by simp [c,ci]) (fun h=>by simp at h) (fun h=>?_)
  refine yg9 ?_
  repeat (first | refine on_norm ?_ | refine in_norm ?_)
  refine yh9 ?_
  refine yr9 [0,1,5] (by simp;rfl) ?_
  refine yl9 ?_
  refine zj9 (fun q σ=>∃ i:Nat,q=a.length - i∧i≤a.length∧a.take i=b.take i∧σ=⟨26,[(0,.lst .any 1 (strL a)),(1,.lst .any 1 (strL b)),(5,.v (.int .i64 (i:Nat)))],[]⟩) (k:=a.length) ⟨0,rfl,by omega,by simp,by simp⟩ ?_
  rintro q σ ⟨i,rfl,hi,hab,rfl⟩
  refine yh9 ?_
  by_cases hi2:i < a.length
  ·have hj2 : i < b.length := by omega
   have hi2':(i:Int) < a.length:=by omega
   have hj2':(i:Int) < b.length:=by omega
   obtain ⟨r,hr⟩:∃ r,a[i]?=some r:=⟨_,List.getElem?_eq_getElem hi2⟩
   obtain ⟨q,hq⟩:∃ q,b[i]?=some q:=⟨_,List.getElem?_eq_getElem hj2⟩
   have hr2:a[i]'hi2=r:=by rw [List.getElem?_eq_getElem hi2] at hr;exact Option.some.inj hr
   have hq2:b[i]'hj2=q:=by rw [List.getElem?_eq_getElem hj2] at hq;exact Option.some.inj hq
   have wi:=w64 (n:=(i:Int)+1) (by omega) (by omega)
   refine yr9 [0,1,5,14] (by simp [hi2,hi2'];rfl) ?_
   refine yt9 (t:=true) (by simp [hi2,hi2']) (fun h=>?_) (fun h=>by simp at h)
   refine yg9 ?_
   repeat (first | refine on_norm ?_ | refine in_norm ?_)
   refine yh9 ?_
   refine yl9 ?_
   by_cases e:r=q
   ·subst e
    refine W_dvK [0,1,5,25] mx (by decide +kernel) (by simp [hi2,hi2',hj2,hj2',hr2,hq2,strB];rfl) ?_
    refine yt9 (t:=false) (by simp) (fun h=>by simp at h) (fun h=>?_)
    refine yg9 ?_
    repeat (first | refine on_norm ?_ | refine in_norm ?_)
    refine zr9 [0,1,5] (by simp [wi];rfl) ?_
    exact ⟨_,by omega,i+1,rfl,by omega,vg9 hr hq hab,by simp⟩
   ·have hne:¬ a=b:=fun he=>e (by rw [he,hq] at hr;exact (Option.some.inj hr).symm)
    have hnb:¬ strB r=strB q:=fun h=>e (strB_ne h)
    simp only [strB,AV.v.injEq,Value.string.injEq] at hnb
    refine W_dvK [25] mx (by decide +kernel) (by simp [hi2,hi2',hj2,hj2',hr2,hq2,strB,hnb,e];rfl) ?_
    refine yt9 (t:=true) (by simp [hnb,e]) (fun h=>?_) (fun h=>by simp at h)
    refine yr9 [4] (by simp;rfl) ?_
    refine yj9 ?_
    repeat (first | refine yp9 ?_ | refine ys9 ?_)
    simp [retQ,hne]
  ·have hie : i = a.length := by omega
   have heq:a=b:=by
    have h1:=hab
    rw [hie,List.take_length,c,List.take_length] at h1
    exact h1
   refine yr9 [14] (by simp [hie];rfl) ?_
   refine yt9 (t:=false) (by simp [hie]) (fun h=>by simp at h) (fun h=>?_)
   refine zs9 ?_
   repeat (first | refine on_exit ?_ | refine in_exit ?_)
   refine yr9 [4] (by simp;rfl) ?_
   refine yj9 ?_
   repeat (first | refine yp9 ?_ | refine ys9 ?_)
   simp [retQ,heq]
 ·have ci:¬ (a.length:Int)=b.length:=by omega
  have hne:a≠b:=fun h=>c (by rw [h])
  refine yr9 [10] (by simp [c,ci];rfl) ?_
  refine yt9 (t:=true) (by simp [c,ci]) (fun h=>?_) (fun h=>by simp at h)
  refine yr9 [4] (by simp;rfl) ?_
  refine yj9 ?_
  repeat (first | refine yp9 ?_ | refine ys9 ?_)
  simp [retQ,hne]
set_option maxRecDepth 20000
end Go.AM
