/- Parts of the walk: C24VB C24VC C24VD C24VE C24VF C24UE C24UF C24UG C24UH C24UI C24UJ C24UK. -/
import Derived.Test.YthjcnajpcphcpaaGreatG10
namespace Go.AM
open Go.RowKit Go.Proofs
set_option linter.unusedSimpArgs false
set_option linter.unusedVariables false
set_option maxHeartbeats 2000000
mutual
theorem under_kill {m T : Nat} : (x : AV) → x.under m = true → (x.kill T).under m = true
 | .lst (.tip e U) s xs,h=>by by_cases hu:U=T <;> simp [AV.kill,hu,AV.under]
 | .lst .any s xs,_ | .lst .nil s xs,_ | .lst .ex s xs,_=>by simp [AV.kill,AV.under]
 | .agg xs,h | .tup xs,h=>by
  simp only [AV.under] at h
  simp only [AV.kill,AV.under]
  exact underL_kill xs h
 | .any,h | .v _,h | .ro _,h | .loc _ _,h | .arr _ _ _ _,h | .fn _ _ _,h | .mp _,h | .yld _,h=>by simp only [AV.kill];exact h
theorem underL_kill {m T : Nat} : (xs : List AV) → AV.underL m xs = true → AV.underL m (AV.killL T xs) = true
 | [],_=>rfl
 | x :: xs,h=>by
  simp only [AV.underL,Bool.and_eq_true] at h
  simp only [AV.killL,AV.underL,under_kill x h.1,underL_kill xs h.2,Bool.and_self]
end
theorem ounder_kill {m T:Nat} (o:AObj) (h:o.under m=true):(o.kill T).under m=true:=by
 cases o with
 | cells ty cs=>exact underL_kill cs h
 | _=>exact h
theorem qk8 {m T : Nat} : ∀ (H : List AObj), yn9 m H = true → yn9 m (H.map (AObj.kill T)) = true
 | [],_=>rfl
 | o :: H,h=>by
  simp only [yn9,Bool.and_eq_true] at h
  simp only [List.map_cons,yn9,ounder_kill o h.1,qk8 H h.2,Bool.and_self]
theorem RC.nil (x:AV):(AV.lst .nil 4 [])=.lst .nil 4 (trL []):=rfl
theorem uj6:okLt (AV.lst .nil 4 []) []:=⟨.nil,rfl,.inr (.inr ⟨rfl,rfl⟩)⟩
theorem kf7 {T:Nat} {cs xs:List AV} (h:AV.killL T cs=cs) (hx:AV.killL T xs=xs) (o:Nat):AV.killL T (yk9 cs o xs)=yk9 cs o xs:=by
 apply List.ext_getElem?
 intro j
 rw [wh9]
 unfold yk9
 have e1:∀ (l:List AV) (j:Nat),AV.killL T l=l→(l[j]?).map (AV.kill T)=l[j]?:=by
  intro l j hl
  have:=congrArg (fun z=>z[j]?) hl
  rwa [wh9] at this
 simp only [List.getElem?_append,List.getElem?_take,List.getElem?_drop]
 split
 ·split
  ·split
   ·exact e1 cs _ h
   ·rfl
  ·exact e1 xs _ hx
 ·exact e1 cs _ h
theorem wf8 {T : Nat} : ∀ (xs ys : List AV), AV.killL T (xs ++ ys) = AV.killL T xs ++ AV.killL T ys
 | [],ys=>rfl
 | x :: xs,ys=>by rw [List.cons_append,AV.killL,AV.killL,wf8 xs ys,List.cons_append]
theorem xv6 {T : Nat} : ∀ (xs : List AV) (n : Nat), AV.killL T (xs.take n) = (AV.killL T xs).take n
 | [],n=>by simp [AV.killL]
 | x :: xs,0=>by simp [AV.killL]
 | x :: xs,n+1=>by simp [AV.killL,xv6 xs n]
structure WS (H0:List AObj) (id0:Nat) (H:List AObj) (id cap:Nat) (A:List (List Rec)) (cs:List AV):Prop where
 len:H0.length≤H.length
 old:∀ (j:Nat) o,j≠id0→H0[j]?=some o→(∀ T,o.kill T=o)→H[j]?=some o
 shut:yn9 H.length H=true
 obj:H[id]?=some (.cells 80 cs)
 rc:RC A cap cs
 kl:AV.killL 29 cs=cs
 idn:id=id0∨H0.length≤id
 cap:cap≤maxLen
theorem under_rc {A:List (List Rec)} {cap:Nat} {cs:List AV} (h:RC A cap cs) (m:Nat):(AObj.cells 80 cs).under m=true:=h.under m
namespace WS
variable {H0 : List AObj} {id0 : Nat} {H : List AObj} {id cap : Nat} {A : List (List Rec)} {cs : List AV}
theorem lt (h:WS H0 id0 H id cap A cs):id < H.length:=(List.getElem?_eq_some_iff.1 h.obj).1
theorem push (h:WS H0 id0 H id cap A cs) {o:AObj} (ho:o.under (H.length+1)=true):WS H0 id0 (H++[o]) id cap A cs where
 len:=by rw [List.length_append];have:=h.len;omega
 old j p hj h0 hk:=by
  have h1:=h.old j p hj h0 hk
  rw [List.getElem?_append_left (List.getElem?_eq_some_iff.1 h1).1]
  exact h1
 shut:=by
  have:=shut_push h.shut ho
  rwa [List.length_append]
 obj:=by rw [List.getElem?_append_left h.lt];exact h.obj
 rc:=h.rc
 kl:=h.kl
 idn:=h.idn
 cap:=h.cap
theorem setj (h:WS H0 id0 H id cap A cs) {j:Nat} {o:AObj} (hj:j≠id) (hl:H0.length≤j) (ho:o.under H.length=true):WS H0 id0 (H.set j o) id cap A cs where
 len:=by rw [List.length_set];exact h.len
 old i p hi h0 hk:=by
  have h1:=(List.getElem?_eq_some_iff.1 h0).1
  rw [List.getElem?_set_ne (by omega)]
  exact h.old i p hi h0 hk
 shut:=by rw [List.length_set];exact vs9 h.shut ho
 obj:=by rw [List.getElem?_set_ne hj];exact h.obj
 rc:=h.rc
 kl:=h.kl
 idn:=h.idn
 cap:=h.cap
theorem setb (h:WS H0 id0 H id cap A cs) {j:Nat} {o:AObj} (hj:j≠id0) (hl:j < H0.length) (ho:o.under H.length=true):WS (H0.set j o) id0 (H.set j o) id cap A cs where
 len:=by rw [List.length_set,List.length_set];exact h.len
 old i p hi h0 hk:=by
  by_cases e:i=j
  ·subst e
   rw [List.getElem?_set_self hl] at h0
   rw [List.getElem?_set_self (by have:=h.len;omega)]
   exact h0
  ·rw [List.getElem?_set_ne (Ne.symm e)] at h0 ⊢
   exact h.old i p hi h0 hk
 shut:=by rw [List.length_set];exact vs9 h.shut ho
 obj:=by
  rw [List.getElem?_set_ne]
  ·exact h.obj
  ·rcases h.idn with e | e
   ·rw [e];exact hj
   ·omega
 rc:=h.rc
 kl:=h.kl
 idn:=by rw [List.length_set];exact h.idn
 cap:=h.cap
theorem seto (h:WS H0 id0 H id cap A cs) {A':List (List Rec)} {cap':Nat} {cs':List AV} (hc:cap'≤maxLen) (hr:RC A' cap' cs') (hk:AV.killL 29 cs'=cs'):WS H0 id0 (H.set id (.cells 80 cs')) id cap' A' cs' where
 len:=by rw [List.length_set];exact h.len
 old i p hi h0 hk:=by
  have h1:=(List.getElem?_eq_some_iff.1 h0).1
  rw [List.getElem?_set_ne]
  ·exact h.old i p hi h0 hk
  ·rcases h.idn with e | e
   ·rw [e];exact Ne.symm hi
   ·omega
 shut:=by rw [List.length_set];exact vs9 h.shut (hr.under _)
 obj:=by rw [List.getElem?_set_self h.lt]
 rc:=hr
 kl:=hk
 idn:=h.idn
 cap:=hc
theorem kill (h : WS H0 id0 H id cap A cs) (U : Nat) {A' : List (List Rec)} {cap' : Nat} {cs' : List AV} (hc : cap' ≤ maxLen) (hr : RC A' cap' cs') (hk : AV.killL 29 cs' = cs') :
  WS H0 id0 ((H.map (AObj.kill U)).set id (.cells 80 cs')) id cap' A' cs' where
 len:=by rw [List.length_set,List.length_map];exact h.len
 old i p hi h0 hk:=by
  have h1:=(List.getElem?_eq_some_iff.1 h0).1
  rw [List.getElem?_set_ne]
  ·rw [List.getElem?_map,h.old i p hi h0 hk,Option.map_some,hk U]
  ·rcases h.idn with e | e
   ·rw [e];exact Ne.symm hi
   ·omega
 shut:=by
  rw [List.length_set,List.length_map]
  exact vs9 (qk8 H h.shut) (hr.under _)
 obj:=by rw [List.getElem?_set_self (by rw [List.length_map];exact h.lt)]
 rc:=hr
 kl:=hk
 idn:=h.idn
 cap:=hc
theorem killU (h:WS H0 id0 H id cap A cs) (U:Nat) (hk:AV.killL U cs=cs):WS H0 id0 (H.map (AObj.kill U)) id cap A cs where
 len:=by rw [List.length_map];exact h.len
 old i p hi h0 hk:=by rw [List.getElem?_map,h.old i p hi h0 hk,Option.map_some,hk U]
 shut:=by
  rw [List.length_map]
  exact qk8 H h.shut
 obj:=by
  rw [List.getElem?_map,h.obj,Option.map_some,AObj.kill,hk]
 rc:=h.rc
 kl:=h.kl
 idn:=h.idn
 cap:=h.cap
theorem base {H1:List AObj} (h:WS H1 id0 H id cap A cs) (hl:H0.length≤H1.length) (hp:∀ (j:Nat) o,H0[j]?=some o→H1[j]?=some o):WS H0 id0 H id cap A cs where
 len:=Nat.le_trans hl h.len
 old j o hj h0 hk:=h.old j o hj (hp j o h0) hk
 shut:=h.shut
 obj:=h.obj
 rc:=h.rc
 kl:=h.kl
 idn:=by rcases h.idn with e | e;exact .inl e;exact .inr (Nat.le_trans hl e)
 cap:=h.cap
theorem next (h:WS H0 id0 H id cap A cs) (hc:A.length+1≤cap):WS H0 id0 (H.set id (.cells 80 (yk9 cs A.length [.lst .nil 4 []]))) id cap (A++[[]]) (yk9 cs A.length [.lst .nil 4 []]) :=
 h.seto h.cap (h.rc.next hc uj6) (kf7 h.kl (by simp [AV.killL,AV.kill]) _)
theorem move (h : WS H0 id0 H id cap A cs) {cap' : Nat} (hc : A.length + 1 ≤ cap') (hm : cap' ≤ maxLen) :
  WS H0 id0 (H++[.cells 80 (cs.take A.length++[.lst .nil 4 []]++List.replicate (cap' - (A.length+1)) (.lst .nil 4 []))]) H.length cap' (A++[[]]) (cs.take A.length++[.lst .nil 4 []]++List.replicate (cap' - (A.length+1)) (.lst .nil 4 [])):=by
 have hr:=h.rc.move (t':=[]) hc uj6
 have h1:=h.push (o:=.cells 80 (cs.take A.length++[.lst .nil 4 []]++List.replicate (cap' - (A.length+1)) (.lst .nil 4 []))) (under_rc hr _)
 refine ⟨h1.len,h1.old,h1.shut,by simp,hr,?_,.inr h.len,hm⟩
 rw [wf8,wf8,xv6,h.kl]
 have:∀ n,AV.killL 29 (List.replicate n (.lst .nil 4 []))=List.replicate n (.lst .nil 4 []):=fun n=>by induction n <;> simp_all [AV.killL,AV.kill,List.replicate_succ]
 rw [this]
 rfl
theorem put0 (h : WS H0 id0 H id cap A cs) (hA : A ≠ []) {x : AV} {t' : List Rec} (hx : okLt x t') (hk : x.kill 29 = x) :
  WS H0 id0 (H.set id (.cells 80 (yk9 cs (A.length - 1) [x]))) id cap (A.dropLast++[t']) (yk9 cs (A.length - 1) [x]) :=
 h.seto h.cap (h.rc.grow0 hA hx) (kf7 h.kl (by simp [AV.killL,hk]) _)
theorem putk (h : WS H0 id0 H id cap A cs) (hA : A ≠ []) {x : AV} {t' : List Rec} (U : Nat) (hx : okLt x t') (hk : x.kill 29 = x) :
  WS H0 id0 ((H.map (AObj.kill U)).set id (.cells 80 (yk9 (AV.killL U cs) (A.length - 1) [x]))) id cap (A.dropLast++[t']) (yk9 (AV.killL U cs) (A.length - 1) [x]) :=
 h.kill U h.cap (h.rc.grow hA hx) (kf7 (by rw [killL_comm,h.kl]) (by simp [AV.killL,hk]) _)
end WS
def WrQ (H:List AObj) (id:Nat) (pl:AV) (A:List (List Rec)) (r:AV) (h':List AObj):Prop :=
 ∃ id' cap' cs',WS H id h' id' cap' A cs'∧r=.tup [.arr id' 0 A.length cap',pl]
end Go.AM
namespace Go.AM
open Go.RowKit Go.Proofs
set_option linter.unusedSimpArgs false
set_option linter.unusedVariables false
set_option maxHeartbeats 8000000
set_option maxRecDepth 20000
noncomputable def wrX:Code:=bkC (sq1 (sq2 (sq2 (lpC (bkC (sq2 (sq1 (sq2 (sq2 (Tryz.f36.body.getD .skip))))))))))
noncomputable def wrR:Code:=sq2 (sq2 (sq2 (sq2 (sq2 wrX))))
def boxP (p:Nat) (r:Int):AObj:=.cells 55 [.v (.int .i64 (p:Nat)),.v (.int .i64 r)]
theorem wr_put {H : List AObj} {id : Nat} {Hc : List AObj} {id' cap' : Nat} {T : List (List Rec)} {cs : List AV} {p0 x m i dir n : Nat} {r0 R : Int} {b : List UInt8} {L : List AV}
  (ws:WS (H++[boxP 0 0,boxP p0 r0]) id Hc id' cap' T cs) (hid:id < H.length) (hx:T.length=x+1) (hm:Hc[m]?=some (.cells 100 [.v (.int .i64 R),.lst .nil 1 [],.lst .any 1 (byL b),.v (.bool false)])) (hlast:(xc9 T).length≤1000)
  {Q : Exit → St → Prop} (hQ : ∀ Hc' cs2, WS (H ++ [boxP 0 0, if i = 0 then boxP x R else boxP p0 r0]) id Hc' id' cap' (T.dropLast ++ [xc9 T ++ [⟨R, [], b, false⟩]]) cs2 →
   Q .normal ⟨91,[(0,.arr id' 0 (x+1) cap'),(1,.v (.int .i64 (dir:Nat))),(7,.loc H.length 0),(8,.loc (H.length+1) 0),(16,.lst .any 1 L),(17,.v (.int .i64 (n:Nat))),(18,.v (.int .i64 (i:Nat)))],Hc'⟩) :
  Wt true H.length Tryz.prog wrR Q ⟨91,[(0,.arr id' 0 (x+1) cap'),(1,.v (.int .i64 (dir:Nat))),(7,.loc H.length 0),(8,.loc (H.length+1) 0),(16,.lst .any 1 L),(17,.v (.int .i64 (n:Nat))),(18,.v (.int .i64 (i:Nat))),(9,.v (.int .i64 (i:Nat))),(11,.v (.int .i64 (x:Nat))),(12,.loc m 0)],Hc⟩:=by
 have hne:T≠[]:=by intro h;rw [h] at hx;simp at hx
 have hcl:=ws.rc.len
 have hce:=ws.rc.le
 have hob:=ws.obj
 have hlen:=ws.len
 simp only [List.length_append,List.length_cons,List.length_nil] at hlen
 have hmid:m≠id':=by
  intro h
  rw [h,hob] at hm
  cases hm
 have hmlt:m < Hc.length:=(List.getElem?_eq_some_iff.1 hm).1
 have hidlt:=ws.lt
 have hle1:x+1≤cs.length:=by omega
 have h1:x < x+1:=by omega
 have h1i:(x:Int) < (x:Int)+1:=by omega
 obtain ⟨y,hcx,f,rfl,hf⟩:=ws.rc.last hne
 rw [show T.length - 1=x by omega] at hcx
 obtain ⟨now,hnow⟩:∃ now,xc9 T=now:=⟨_,rfl⟩
 rw [hnow] at hcx hf hlast hQ
 have b3:(now.length+1) * 64≤140737488355328:=by omega
 have b4:64 * (now.length+1)≤140737488355328:=by omega
 have hsn:trL now++[AV.agg [.v (.int .i64 R),.lst .any 1 [],.lst .any 1 (byL b),.v (.bool false)]]=trL (now++[⟨R,[],b,false⟩]):=us7 now ⟨R,[],b,false⟩
 have hxx:T.length - 1=x:=by omega
 have tail : ∀ Hc2 cs2, WS (H ++ [boxP 0 0, boxP p0 r0]) id Hc2 id' cap' (T.dropLast ++ [now ++ [⟨R, [], b, false⟩]]) cs2 → Hc2[m]? = some (.cells 100 [.v (.int .i64 R), .lst .nil 1 [], .lst .any 1 (byL b), .v (.bool false)]) →
   Wt true H.length Tryz.prog (sq2 wrR) Q ⟨91,[(0,.arr id' 0 (x+1) cap'),(1,.v (.int .i64 (dir:Nat))),(7,.loc H.length 0),(8,.loc (H.length+1) 0),(16,.lst .any 1 L),(17,.v (.int .i64 (n:Nat))),(18,.v (.int .i64 (i:Nat))),(9,.v (.int .i64 (i:Nat))),(11,.v (.int .i64 (x:Nat))),(12,.loc m 0)],Hc2⟩:=by
  intro Hc2 cs2 ws2 hm2
  have hl2:=ws2.len
  simp only [List.length_append,List.length_cons,List.length_nil] at hl2
  by_cases i0:i=0
  ·subst i0
   refine W_cT [0,1,7,8,16,17,18,11,12,83] (by simp;rfl) rfl ?_
   have hb8:Hc2[H.length+1]?=some (.cells 55 [.v (.int .i64 (p0:Nat)),.v (.int .i64 r0)]):=ws2.old (H.length+1) _ (by omega) (by simp [boxP]) (fun T=>by simp [AObj.kill,AV.killL,AV.kill])
   refine zr9 [0,1,7,8,16,17,18] (by simp [hm2,hb8,yk9];rfl) ?_
   have ws3:=ws2.setb (j:=H.length+1) (o:=boxP x R) (by omega) (by simp) (by simp [boxP,AObj.under,AV.under,AV.underL])
   have hset:(H++[boxP 0 0,boxP p0 r0]).set (H.length+1) (boxP x R)=H++[boxP 0 0,boxP x R]:=by simp
   rw [hset] at ws3
   exact hQ _ _ ws3
  ·have i0':((i:Int) == 0)=false:=by simp;omega
   refine yr9 [0,1,7,8,16,17,18,11,12,83] (by simp [i0,i0'];rfl) ?_
   refine yt9 (t:=false) rfl (fun h=>by simp at h) (fun h=>?_)
   refine ym9 [0,1,7,8,16,17,18] ?_
   refine yg9 ?_
   rw [if_neg i0] at hQ
   exact hQ _ _ ws2
 rcases hf with rfl | ⟨U,hU,rfl⟩ | ⟨rfl,h0⟩
 ·have hnew:=ws.put0 hne (t':=now++[⟨R,[],b,false⟩]) (x:=.lst (.tip 100 161) 4 (trL (now++[⟨R,[],b,false⟩]))) ⟨_,rfl,.inr (.inl ⟨161,by decide,rfl⟩)⟩ (by simp [AV.kill])
  rw [hxx] at hnew
  refine wr9 [0,1,7,8,16,17,18,9,11,12] mx (by decide +kernel) ?_
  refine yd9 6 (by simp [h1,h1i,hob,hcx];rfl) rfl ?_
  refine yd9 2 (by simp [hm];rfl) rfl ?_
  refine yb9 (by simp [h1,h1i,hob,hcx,hle1,catK,AV.cellsK,AV.kone,AV.koneL,b3,b4,hsn];rfl) ?_
  exact tail _ _ hnew (by rw [List.getElem?_set_ne (Ne.symm hmid)];exact hm)
 ·have hU29:¬ U=29:=by
   intro h
   subst h
   have:=congrArg (fun z=>z[x]?) ws.kl
   simp only [wh9,hcx,Option.map_some] at this
   simp [AV.kill,Fl.wk] at this
  have hnew:=ws.putk hne (t':=now++[⟨R,[],b,false⟩]) U (x:=.lst (.tip 100 U) 4 (trL (now++[⟨R,[],b,false⟩]))) ⟨_,rfl,.inr (.inl ⟨U,hU,rfl⟩)⟩ (by simp [AV.kill,hU29])
  rw [hxx] at hnew
  have hkl:=vb8 U cs
  have hle2:x+1≤(AV.killL U cs).length:=by omega
  refine wr9 [0,1,7,8,16,17,18,9,11,12] mx (by decide +kernel) ?_
  refine yd9 6 (by simp [h1,h1i,hob,hcx];rfl) rfl ?_
  refine yd9 2 (by simp [hm];rfl) rfl ?_
  refine yb9 (by simp [h1,h1i,hob,hcx,hle1,hle2,catK,AV.cellsK,AV.kone,AV.koneL,b3,b4,hsn,AObj.kill,hU];rfl) ?_
  exact tail _ _ hnew (by rw [List.getElem?_set_ne (Ne.symm hmid),List.getElem?_map,hm];rfl)
 ·subst h0
  have hnew:=ws.put0 hne (t':=[⟨R,[],b,false⟩]) (x:=.lst (.tip 100 161) 4 (trL [⟨R,[],b,false⟩])) ⟨_,rfl,.inr (.inl ⟨161,by decide,rfl⟩)⟩ (by simp [AV.kill])
  rw [hxx] at hnew
  refine wr9 [0,1,7,8,16,17,18,9,11,12] mx (by decide +kernel) ?_
  refine yd9 6 (by simp [h1,h1i,hob,hcx];rfl) rfl ?_
  refine yd9 2 (by simp [hm];rfl) rfl ?_
  refine yb9 (by simp [h1,h1i,hob,hcx,hle1,catK,AV.cellsK,AV.kone,AV.koneL];rfl) ?_
  exact tail _ _ hnew (by rw [List.getElem?_set_ne (Ne.symm hmid)];exact hm)
end Go.AM
namespace Go.AM
open Go.RowKit Go.Proofs
set_option linter.unusedSimpArgs false
set_option linter.unusedVariables false
set_option maxHeartbeats 8000000
set_option maxRecDepth 20000
theorem wr1_new {dir:Nat} {T:List (List Rec)} {b:List UInt8} (h:¬ (dir < T.length∧wc7 (xc9 T) ⟨nxR (xc9 T),[],b,false⟩=true)):wr1 dir T b=(T++[[⟨1,[],b,false⟩]],(T.length,1)):=by
 unfold wr1;rw [if_neg h]
theorem wr1_old {dir:Nat} {T:List (List Rec)} {b:List UInt8} (h:dir < T.length∧wc7 (xc9 T) ⟨nxR (xc9 T),[],b,false⟩=true):wr1 dir T b=(T.dropLast++[xc9 T++[⟨nxR (xc9 T),[],b,false⟩]],(T.length - 1,nxR (xc9 T))):=by
 unfold wr1;rw [if_pos h]
noncomputable def wrB:Code:=sq2 (sq2 (sq2 (sq2 wrX)))
noncomputable def wrN:Code:=match sq2 (sq1 wrB) with | .cond _ a _=>a | c=>c
theorem wr_new {H : List AObj} {id : Nat} {Hc : List AObj} {id' cap' : Nat} {T : List (List Rec)} {cs : List AV} {p0 : Nat} {r0 : Int} {m i dir n : Nat} {R : Int} {b : List UInt8} {L : List AV} {li : Int}
  (ws:WS (H++[boxP 0 0,boxP p0 r0]) id Hc id' cap' T cs) (hid:id < H.length) (hli:li=(T.length:Int) - 1) (hT:T.length≤100000000) (hm:Hc[m]?=some (.cells 100 [.v (.int .i64 R),.lst .nil 1 [],.lst .any 1 (byL b),.v (.bool false)]))
  (hm2:H.length+2≤m) {Q:Exit→St→Prop}
  (hQ : ∀ Hc' id2 cap2 cs2, WS (H ++ [boxP 0 0, boxP p0 r0]) id Hc' id2 cap2 (T ++ [[]]) cs2 → Hc'[m]? = some (.cells 100 [.v (.int .i64 1), .lst .nil 1 [], .lst .any 1 (byL b), .v (.bool false)]) →
   Q .normal ⟨91,[(0,.arr id2 0 (T.length+1) cap2),(1,.v (.int .i64 (dir:Nat))),(7,.loc H.length 0),(8,.loc (H.length+1) 0),(16,.lst .any 1 L),(17,.v (.int .i64 (n:Nat))),(18,.v (.int .i64 (i:Nat))),(9,.v (.int .i64 (i:Nat))),(11,.v (.int .i64 (T.length:Nat))),(12,.loc m 0)],Hc'⟩) :
  Wt true H.length Tryz.prog wrN Q ⟨91,[(0,.arr id' 0 T.length cap'),(1,.v (.int .i64 (dir:Nat))),(7,.loc H.length 0),(8,.loc (H.length+1) 0),(16,.lst .any 1 L),(17,.v (.int .i64 (n:Nat))),(18,.v (.int .i64 (i:Nat))),(9,.v (.int .i64 (i:Nat))),(11,.v (.int .i64 li)),(12,.loc m 0)],Hc⟩:=by
 have hob:=ws.obj
 have hcl:=ws.rc.len
 have hmid:m≠id':=by
  intro h
  rw [h,hob] at hm
  cases hm
 have hmlt:m < Hc.length:=(List.getElem?_eq_some_iff.1 hm).1
 have wl:IntKind.i64.wrap (li+1)=(T.length:Nat):=by rw [hli,show (T.length:Int) - 1+1=T.length by omega];exact w64 (by omega) (by omega)
 have ws1:=ws.setj (j:=m) (o:=.cells 100 [.v (.int .i64 1),.lst .nil 1 [],.lst .any 1 (byL b),.v (.bool false)]) hmid (by simpa using hm2) (by simp [AObj.under,AV.under,AV.underL])
 refine yr9 [0,1,7,8,16,17,18,9,11,12] (by simp [hm,yk9];rfl) ?_
 obtain ⟨H1,hH1⟩:∃ H1,Hc.set m (.cells 100 [.v (.int .i64 1),.lst .nil 1 [],.lst .any 1 (byL b),.v (.bool false)])=H1:=⟨_,rfl⟩
 have hm1:H1[m]?=some (.cells 100 [.v (.int .i64 1),.lst .nil 1 [],.lst .any 1 (byL b),.v (.bool false)]):=by rw [← hH1,List.getElem?_set_self hmlt]
 rw [hH1] at ws1 ⊢
 have hob1:=ws1.obj
 have hidlt:=ws1.lt
 refine W_rK [0,1,7,8,16,17,18,9,11,12] ?_
 refine yq9 1 (by simp;rfl) rfl ?_
 refine xw8 (by simp) ⟨_,by simp [ys8,jd7,catK,AV.cellsK,AV.kone,AV.koneL];rfl,?_⟩
 have ws2:=ws1.push (o:=.cells 80 [.lst .nil 4 []]) (by simp [AObj.under,AV.under,AV.underL])
 obtain ⟨H2,hH2⟩:∃ H2,H1++[AObj.cells 80 [.lst .nil 4 []]]=H2:=⟨_,rfl⟩
 have hl2:H2.length=H1.length+1:=by rw [← hH2];simp
 have hob3:H2[H1.length]?=some (.cells 80 [.lst .nil 4 []]):=by rw [← hH2];simp
 have hm3:H2[m]?=some (.cells 100 [.v (.int .i64 1),.lst .nil 1 [],.lst .any 1 (byL b),.v (.bool false)]):=by
  rw [← hH2,List.getElem?_append_left (List.getElem?_eq_some_iff.1 hm1).1];exact hm1
 have hmlt2:m < H2.length:=(List.getElem?_eq_some_iff.1 hm3).1
 rw [hH2] at ws2 ⊢
 have hob2:=ws2.obj
 refine jb9 (t:=24) (e:=80) (sz:=1) (by_:=24) (id:=id') (len:=T.length) (cap:=cap') (m:=1) (cs:=cs) (yc:=[.lst .nil 4 []]) (by simp) rfl rfl rfl rfl (by simp) (by simp [srcA,hob3]) s24 a80 z80 (by simp) (by simp [hob2]) (by omega) (by omega) ?_
 rintro s1 x1 (⟨hr,rfl,rfl⟩ | ⟨hr,cap2,hc1,hc2,rfl,rfl⟩)
 ·have ws3:=ws2.next (by omega)
  refine ⟨_,by simp;rfl,?_⟩
  refine yw9 (by simp;rfl) ?_
  refine zr9 [0,1,7,8,16,17,18,9,11,12] (by simp [wl];rfl) ?_
  exact hQ _ _ _ _ ws3 (by rw [List.getElem?_set_ne (Ne.symm hmid)];exact hm3)
 ·have ws3:=ws2.move (cap':=cap2) (by omega) hc2
  refine ⟨_,by simp;rfl,?_⟩
  refine yw9 (by simp;rfl) ?_
  refine zr9 [0,1,7,8,16,17,18,9,11,12] (by simp [wl];rfl) ?_
  simp only [List.append_assoc,List.cons_append,List.nil_append] at ws3
  simp only [xr8]
  exact hQ _ _ _ _ ws3 (by rw [List.getElem?_append_left hmlt2];exact hm3)
end Go.AM
namespace Go.AM
open Go.RowKit Go.Proofs
set_option linter.unusedSimpArgs false
set_option linter.unusedVariables false
set_option maxHeartbeats 8000000
set_option maxRecDepth 20000
def boxR (R:Int) (b:List UInt8):AObj:=.cells 100 [.v (.int .i64 R),.lst .nil 1 [],.lst .any 1 (byL b),.v (.bool false)]
def wrS (N:Nat) (id' cap' n i dir:Nat) (T:List (List Rec)) (L:List AV) (Hc:List AObj):St:=⟨91,[(0,.arr id' 0 T.length cap'),(1,.v (.int .i64 (dir:Nat))),(7,.loc N 0),(8,.loc (N+1) 0),(16,.lst .any 1 L),(17,.v (.int .i64 (n:Nat))),(18,.v (.int .i64 (i:Nat)))],Hc⟩
theorem wr_step {H : List AObj} {id : Nat} {Hc : List AObj} {id' cap' : Nat} {T : List (List Rec)} {cs : List AV} {p0 : Nat} {r0 : Int} {i dir n : Nat} {b : List UInt8} {B : List (List UInt8)}
  (ws:WS (H++[boxP 0 0,boxP p0 r0]) id Hc id' cap' T cs) (hid:id < H.length) (hT:T.length≤100000000) (hTv:∀ t∈T,vtrk t=true) (hd:dir≤100000000) (hb:b.length≤1024) (hBi:B[i]?=some b) (hi:i≤1000000)
  {Q:Exit→St→Prop} (hQ:∀ Hc' id2 cap2 cs2,WS (H++[boxP 0 0,if i=0 then boxP (wr1 dir T b).2.1 (wr1 dir T b).2.2 else boxP p0 r0]) id Hc' id2 cap2 (wr1 dir T b).1 cs2→Q .normal (wrS H.length id2 cap2 n i dir (wr1 dir T b).1 (bbL B) Hc')) :
  Wt true H.length Tryz.prog wrX Q (wrS H.length id' cap' n i dir T (bbL B) Hc):=by
 have hiB:i < B.length:=(List.getElem?_eq_some_iff.1 hBi).1
 have hBe:B[i]'hiB=b:=(List.getElem?_eq_some_iff.1 hBi).2
 have hiBi:(i:Int) < B.length:=by omega
 have hlen:=ws.len
 simp only [List.length_append,List.length_cons,List.length_nil] at hlen
 have hob:=ws.obj
 have hidlt:=ws.lt
 obtain ⟨m,hm⟩:∃ m,Hc.length=m:=⟨_,rfl⟩
 have ws1:∀ R,WS (H++[boxP 0 0,boxP p0 r0]) id (Hc++[boxR R b]) id' cap' T cs:=fun R=>ws.push (by simp [boxR,AObj.under,AV.under,AV.underL])
 have hm1:∀ R,(Hc++[boxR R b])[m]?=some (.cells 100 [.v (.int .i64 R),.lst .nil 1 [],.lst .any 1 (byL b),.v (.bool false)]):=fun R=>by rw [← hm];simp [boxR]
 unfold wrS
 refine yr9 [0,1,7,8,16,17,18,9,10] (by simp [hiB,hiBi,hBe];rfl) ?_
 have wl:IntKind.i64.wrap ((T.length:Int) - 1)=(T.length:Int) - 1:=w64 (by omega) (by omega)
 refine yr9 [0,1,7,8,16,17,18,9,10,11] (by simp [wl];rfl) ?_
 refine yr9 [0,1,7,8,16,17,18,9,11,12] (by simp [yk9];rfl) ?_
 rw [hm]
 by_cases c:dir < T.length
 ·obtain ⟨x, hx⟩ : ∃ x, T.length = x + 1 := ⟨T.length - 1, by omega⟩
  have hne:T≠[]:=by intro h;rw [h] at hx;simp at hx
  have hxi:(T.length:Int) - 1=(x:Nat):=by omega
  have cx:dir≤x:=by omega
  have cxi:(dir:Int)≤x:=by omega
  have cxn:¬ (x:Int) < dir:=by omega
  have h1:x < x+1:=by omega
  have h1i:(x:Int) < (x:Int)+1:=by omega
  obtain ⟨y,hcx,f,rfl,hf⟩:=ws.rc.last hne
  rw [show T.length - 1=x by omega] at hcx
  have hnv:=hTv _ (lastT_mem hne)
  obtain ⟨now,hnow⟩:∃ now,xc9 T=now:=⟨_,rfl⟩
  rw [hnow] at hcx hf hnv
  obtain ⟨hn64,hnr,hnsm⟩:=zh6 hnv
  have hR:=nxR_vtrk hnv
  have hfit:=fits15_sound now ⟨nxR now,[],b,false⟩ hnsm ⟨by simp,by simp;omega⟩
  simp only [recA,byL_nil] at hfit
  rw [hxi,hx]
  refine vm9 (fun s=>s=⟨91,[(0,.arr id' 0 (x+1) cap'),(1,.v (.int .i64 (dir:Nat))),(7,.loc H.length 0),(8,.loc (H.length+1) 0),(16,.lst .any 1 (bbL B)),(17,.v (.int .i64 (n:Nat))),(18,.v (.int .i64 (i:Nat))),(9,.v (.int .i64 (i:Nat))),(11,.v (.int .i64 (x:Nat))),(12,.loc m 0)],Hc++[boxR (nxR now) b]⟩) ?_ ?_
  ·have hob1 := (ws1 1).obj
   have hm2:=hm1 1
   obtain ⟨H1,hH1⟩:∃ H1,Hc++[boxR 1 b]=H1:=⟨_,rfl⟩
   rw [hH1] at hob1 hm2
   rw [show Hc++[AObj.cells 100 [.v (.int .i64 1),.lst .nil 1 [],.lst .any 1 (byL b),.v (.bool false)]]=H1 from hH1]
   by_cases c2:now=[]
   ·subst c2
    have hr1:nxR []=1:=rfl
    refine yr9 [0,1,7,8,16,17,18,9,11,12,38] (by simp [cxi,cx,h1,h1i,hob1,hcx];rfl) ?_
    refine yt9 (t:=false) rfl (fun h=>by simp at h) (fun h=>?_)
    refine ym9 [0,1,7,8,16,17,18,9,11,12] ?_
    refine yg9 ?_
    refine (show _=_ from ?_)
    rw [hr1,hH1]
    rfl
   ·obtain ⟨y, hy⟩ : ∃ y, now.length = y + 1 := ⟨now.length - 1, by have := List.length_pos_iff.2 c2; omega⟩
    obtain ⟨r,hr⟩:∃ r,now[y]?=some r:=⟨_,List.getElem?_eq_getElem (by omega)⟩
    have hyl:y < now.length:=by omega
    have hr2:now[y]'hyl=r:=(List.getElem?_eq_some_iff.1 hr).2
    have hnx:nxR now=r.R+1:=by
     unfold nxR
     rw [List.getLast?_eq_getElem?,hy,Nat.add_sub_cancel,hr]
    have hrr:=(hnr r (List.mem_of_getElem? hr)).2.2
    have wr:IntKind.i64.wrap (r.R+1)=r.R+1:=w64 (by omega) (by omega)
    have hpos:0 < now.length:=by omega
    have wy:IntKind.i64.wrap (y:Int)=(y:Nat):=w64 (by omega) (by omega)
    have hty:(trL now)[y]?=some (recA r):=by rw [trL_get,hr];rfl
    have hy1:y < y+1:=by omega
    have hy1i:(y:Int) < (y:Int)+1:=by omega
    refine yr9 [0,1,7,8,16,17,18,9,11,12,38] (by simp [cxi,cx,h1,h1i,hob1,hcx,hy];rfl) ?_
    refine yt9 (t:=true) (by simp [hy]) (fun h=>?_) (fun h=>by simp at h)
    refine yc8 [0,1,7,8,16,17,18,9,11,12] mx (by decide +kernel) ?_
    refine yd9 6 (by simp [h1,h1i,hob1,hcx];rfl) rfl ?_
    refine yd9 4 (by simp [h1,h1i,hob1,hcx,hy,wy];rfl) rfl ?_
    refine yd9 3 (by simp [hy,hyl,hr2,hy1,hy1i,hty];rfl) rfl ?_
    refine yb9 (by simp [wr,hm2,yk9];rfl) ?_
    refine (show _=_ from ?_)
    rw [hnx,← hH1,← hm]
    simp [boxR]
  rintro _ rfl
  have hob1:=(ws1 (nxR now)).obj
  have hm2:=hm1 (nxR now)
  have ws2:=ws1 (nxR now)
  obtain ⟨H1,hH1⟩:∃ H1,Hc++[boxR (nxR now) b]=H1:=⟨_,rfl⟩
  rw [hH1] at hob1 hm2 ws2 ⊢
  refine yh9 ?_
  refine wr9 [0,1,7,8,16,17,18,9,11,12,65] mx (by decide +kernel) ?_
  refine yd9 6 (by simp [cxn,cx,cxi];rfl) rfl ?_
  refine yd9 3 (by simp [cxn,h1,h1i,hob1,hcx,hm2];rfl) rfl ?_
  refine yv9 (by simp) (by first | (simp;done) | (simp;rfl)) hfit (by simp;rfl) ?_
  refine yb9 (by simp;rfl) ?_
  cases hfv:wc7 now ⟨nxR now,[],b,false⟩ with
  | true =>
   have hw:=wr1_old (dir:=dir) (T:=T) (b:=b) ⟨c,by rw [hnow];exact hfv⟩
   rw [hnow,show T.length - 1=x by omega] at hw
   rw [hw] at hQ
   refine yt9 (t:=false) rfl (fun h=>by simp at h) (fun h=>?_)
   refine ym9 [0,1,7,8,16,17,18,9,11,12] ?_
   refine yg9 ?_
   repeat (first | refine on_norm ?_ | refine in_norm ?_)
   refine wr_put (R:=nxR now) ws2 hid hx hm2 (by rw [hnow];omega) fun Hc' cs2 hws=>?_
   rw [hnow] at hws
   have:=hQ _ _ _ _ hws
   unfold wrS at this
   rw [kj7 hne,hx] at this
   exact this
  | false =>
   have hw:=wr1_new (dir:=dir) (T:=T) (b:=b) (fun h=>by rw [hnow,hfv] at h;exact absurd h.2 (by simp))
   rw [hw] at hQ
   rw [← hx,← hxi]
   refine yt9 (t:=true) rfl (fun h=>?_) (fun h=>by simp at h)
   refine ym9 [0,1,7,8,16,17,18,9,11,12] ?_
   refine wr_new ws2 hid rfl hT hm2 (by omega) fun Hc' id2 cap2 cs2 hws hm3=>?_
   repeat (first | refine on_norm ?_ | refine in_norm ?_)
   refine wr_put (R:=1) hws hid (by simp) hm3 (by simp [xc9]) fun Hc2 cs3 hws3=>?_
   simp only [xc9,List.getLast?_append,List.getLast?_singleton,Option.some_or,Option.getD_some,List.nil_append,List.dropLast_concat] at hws3
   have:=hQ _ _ _ _ hws3
   unfold wrS at this
   simpa using this
 ·have cn:¬ (dir:Int)≤(T.length:Int) - 1:=by omega
  have cn2:(T.length:Int) - 1 < dir:=by omega
  have hw:=wr1_new (dir:=dir) (T:=T) (b:=b) (fun h=>c h.1)
  rw [hw] at hQ
  have ws2:=ws1 1
  have hm2:=hm1 1
  obtain ⟨H1,hH1⟩:∃ H1,Hc++[boxR 1 b]=H1:=⟨_,rfl⟩
  rw [hH1] at hm2 ws2
  rw [show Hc++[AObj.cells 100 [.v (.int .i64 1),.lst .nil 1 [],.lst .any 1 (byL b),.v (.bool false)]]=H1 from hH1]
  refine yh9 ?_
  refine yr9 [0,1,7,8,16,17,18,9,11,12,38] (by simp [cn,cn2];rfl) ?_
  refine yt9 (t:=false) rfl (fun h=>by simp at h) (fun h=>?_)
  refine ym9 [0,1,7,8,16,17,18,9,11,12] ?_
  refine yg9 ?_
  repeat (first | refine on_norm ?_ | refine in_norm ?_)
  refine yh9 ?_
  refine wr9 [0,1,7,8,16,17,18,9,11,12,65] mx (by decide +kernel) ?_
  refine yd9 6 (by simp [cn,cn2];rfl) rfl ?_
  refine yb9 (by simp [cn,cn2];rfl) ?_
  refine yt9 (t:=true) rfl (fun h=>?_) (fun h=>by simp at h)
  refine ym9 [0,1,7,8,16,17,18,9,11,12] ?_
  refine wr_new ws2 hid rfl hT hm2 (by omega) fun Hc' id2 cap2 cs2 hws hm3=>?_
  repeat (first | refine on_norm ?_ | refine in_norm ?_)
  refine wr_put (R:=1) hws hid (by simp) hm3 (by simp [xc9]) fun Hc2 cs3 hws3=>?_
  simp only [xc9,List.getLast?_append,List.getLast?_singleton,Option.some_or,Option.getD_some,List.nil_append,List.dropLast_concat] at hws3
  have:=hQ _ _ _ _ hws3
  unfold wrS at this
  simpa using this
end Go.AM
namespace Go.AM
open Go.RowKit Go.Proofs
set_option linter.unusedSimpArgs false
set_option linter.unusedVariables false
set_option maxHeartbeats 8000000
set_option maxRecDepth 20000
theorem wrL_take {dir:Nat} {A:List (List Rec)} {B:List (List UInt8)} {i:Nat} {b:List UInt8} (h:B[i]?=some b):wrL dir A (B.take (i+1))=(wr1 dir (wrL dir A (B.take i)) b).1:=by
 rw [List.take_add_one,h,← wrL_snoc]
 rfl
theorem vtrk_nil:vtrk []=true:=by simp [vtrk,vgo,vj9]
theorem write_callW (A : List (List Rec)) (dir : Nat) (bs : List (List UInt8)) (hA : ∀ t ∈ A, vtrk t = true) (hbs : ∀ b ∈ bs, b.length ≤ 1024) (hl : A.length ≤ 50000000) (hd : dir ≤ 50000000) (hn : bs.length ≤ 100000)
  (H:List AObj) (hh:yn9 H.length H=true) (id cap:Nat) (cs:List AV) (hid:H[id]?=some (.cells 80 cs)) (hrc:RC A cap cs) (hkl:AV.killL 29 cs=cs) (hcap:cap≤maxLen) :
  wp9 Tryz.prog 36 [.arr id 0 A.length cap,.v (.int .i64 (dir:Nat)),.lst .any 1 (bbL bs)] H (WrQ H id (.agg [.v (.int .i64 ((wrE dir A bs).2.1:Nat)),.v (.int .i64 (wrE dir A bs).2.2)]) (wrE dir A bs).1):=by
 have hidl:id < H.length:=(List.getElem?_eq_some_iff.1 hid).1
 have hcl:=rclone_sound bs (by omega)
 refine zh9 Tryz.func36 rfl (by decide +kernel) (by simp [Tryz.f36]) (rs:=[.tmp 6,.cell 7 55]) rfl ?_
 rw [show Tryz.f36.ntmps=91 from rfl]
 refine yr9 [0,1,2,7] (by simp;rfl) ?_
 refine yr9 [0,1,2,7,8] (by simp;rfl) ?_
 refine yh9 ?_
 refine W_rK [0,1,7,8,16,17,18] ?_
 refine yq9 1 (by simp;rfl) rfl ?_
 refine yf9 (by simp) (by first | (simp;done) | (simp;rfl)) hcl (by simp;rfl) ?_
 have b1:(bs.length+1) * 24≤140737488355328:=by omega
 have b2:24 * (bs.length+1)≤140737488355328:=by omega
 refine yw9 (by simp [catK,AV.cellsK,AV.kone,AV.koneL,b1,b2];rfl) ?_
 have hB:bbL bs++[AV.lst .any 1 []]=bbL (bs++[[]]):=by rw [uv9];rfl
 have hBl:(bs++[[]]).length=bs.length+1:=by simp
 rw [hB,show ((bs.length:Int)+1)=((bs++[[]]).length:Nat) by rw [hBl];omega]
 have hpl2:(wrE dir A bs).2=(wr1 dir A (bs.headD [])).2:=rfl
 have hfin:(wrE dir A bs).1=wrL dir A (bs++[[]]):=rfl
 have hB0:∀ b,(bs++[[]])[0]?=some b→b=bs.headD []:=by
  intro b h
  cases bs with
  | nil=>simp at h;rw [← h];rfl
  | cons x l=>simp at h;rw [← h];rfl
 have hBb:∀ b∈bs++[[]],b.length≤1024:=by
  intro b hb
  rcases List.mem_append.1 hb with h | h
  ·exact hbs b h
  ·rw [List.mem_singleton.1 h];simp
 obtain ⟨P2,hP2⟩:∃ P2,(wrE dir A bs).2=P2:=⟨_,rfl⟩
 rw [hfin,hP2]
 rw [hpl2] at hP2
 obtain ⟨B,hBe⟩:∃ B,bs++[[]]=B:=⟨_,rfl⟩
 rw [hBe] at hB0 hBb hBl ⊢
 have ws0:WS (H++[boxP 0 0,boxP 0 0]) id (H++[boxP 0 0,boxP 0 0]) id cap A cs:=by
  refine ⟨Nat.le_refl _,fun j o _ h _=>h,?_,by rw [List.getElem?_append_left hidl];exact hid,hrc,hkl,.inl rfl,hcap⟩
  rw [List.length_append,xt9,wg9 (by omega) _ hh]
  simp [yn9,boxP,AObj.under,AV.under,AV.underL]
 have ws1:=ws0.killU 29 hkl
 rw [List.map_append] at ws1
 refine W_any 16 (sz:=1) (xs:=bbL B) (o:=.tip 90 29) rfl ?_
 refine yl9 ?_
 refine zf9 (fun q s => ∃ (i : Nat) (Hc : List AObj) (id' cap' : Nat) (cs' : List AV), q = B.length - i ∧ i ≤ B.length ∧ WS (H ++ [boxP 0 0, boxP (if i = 0 then 0 else P2.1) (if i = 0 then 0 else P2.2)]) id Hc id' cap' (wrL dir A (B.take i)) cs' ∧
  s=wrS H.length id' cap' B.length i dir (wrL dir A (B.take i)) (bbL B) Hc) (k:=B.length) ⟨0,_,id,cap,cs,rfl,by omega,ws1,by simp [wrS,zg9,ud9,putF,wrL,boxP,AObj.kill,AV.killL,AV.kill,getF]⟩ ?_
 rintro q s ⟨i,Hc,id',cap',cs',rfl,hi,ws,rfl⟩
 have hTl:=wrL_len dir (B.take i) A
 rw [List.length_take] at hTl
 have hTv:∀ t∈wrL dir A (B.take i),vtrk t=true:=zr7 dir hA fun b hb=>hBb b (List.mem_of_mem_take hb)
 by_cases c:i < B.length
 ·have ci : (i : Int) < B.length := by omega
  have wi:=w64 (n:=(i:Int)+1) (by omega) (by omega)
  obtain ⟨b,hb⟩:∃ b,B[i]?=some b:=⟨_,List.getElem?_eq_getElem c⟩
  have hnext:=wrL_take (dir:=dir) (A:=A) hb
  have hstep:=fun Q=>wr_step (n:=B.length) (dir:=dir) (Q:=Q) ws hidl (by omega) hTv (by omega) (hBb b (List.mem_of_getElem? hb)) hb (by omega)
  unfold wrS at hstep ⊢
  refine yr9 [0,1,7,8,16,17,18,19] (by simp [c,ci];rfl) ?_
  refine yh9 ?_
  refine yt9 (t:=true) (by simp [c,ci]) (fun h=>?_) (fun h=>by simp at h)
  refine yg9 ?_
  refine yh9 ?_
  refine yl9 ?_
  refine ym9 [0,1,7,8,16,17,18] ?_
  refine hstep _ fun Hc' id2 cap2 cs2 ws2=>?_
  repeat (first | refine on_norm ?_ | refine in_norm ?_)
  refine zr9 [0,1,7,8,16,17,18] (by simp [wi];rfl) ?_
  refine ⟨_,by omega,i+1,Hc',id2,cap2,cs2,rfl,by omega,?_,?_⟩
  ·rw [hnext, if_neg (by omega), if_neg (by omega)]
   by_cases i0:i=0
   ·subst i0
    rw [if_pos rfl,hB0 b hb,show wrL dir A (B.take 0)=A from rfl,hP2] at ws2
    rw [hB0 b hb]
    exact ws2
   ·rw [if_neg i0,if_neg i0,if_neg i0] at ws2
    exact ws2
  ·rw [hnext]
   simp [wrS]
 ·have hie : i = B.length := by omega
  subst hie
  rw [List.take_length] at ws
  rw [if_neg (by omega),if_neg (by omega)] at ws
  unfold wrS
  rw [List.take_length]
  obtain ⟨A',hA'⟩:∃ A',wrL dir A B=A':=⟨_,rfl⟩
  rw [hA'] at ws ⊢
  refine yr9 [0,7,8,19] (by simp;rfl) ?_
  refine yh9 ?_
  refine yt9 (t:=false) (by simp) (fun h=>by simp at h) (fun h=>?_)
  refine zs9 ?_
  repeat (first | refine on_exit ?_ | refine in_exit ?_)
  have hlen:=ws.len
  simp only [List.length_append,List.length_cons,List.length_nil] at hlen
  have hb7:Hc[H.length]?=some (.cells 55 [.v (.int .i64 (0:Nat)),.v (.int .i64 0)]):=ws.old H.length _ (by omega) (by simp [boxP]) (fun T=>by simp [AObj.kill,AV.killL,AV.kill])
  have hb8:Hc[H.length+1]?=some (.cells 55 [.v (.int .i64 (P2.1:Nat)),.v (.int .i64 P2.2)]):=ws.old (H.length+1) _ (by omega) (by simp [boxP]) (fun T=>by simp [AObj.kill,AV.killL,AV.kill])
  have h7l:H.length < Hc.length:=by omega
  refine W_dvK [6,7] mx (by decide +kernel) (by simp [hb7,hb8,yk9];rfl) ?_
  have ws3:=ws.setb (j:=H.length) (o:=boxP P2.1 P2.2) (by omega) (by simp) (by simp [boxP,AObj.under,AV.under,AV.underL])
  have hset:(H++[boxP 0 0,boxP P2.1 P2.2]).set H.length (boxP P2.1 P2.2)=H++[boxP P2.1 P2.2,boxP P2.1 P2.2]:=by simp
  rw [hset] at ws3
  have ws4:WS H id (Hc.set H.length (boxP P2.1 P2.2)) id' cap' A' cs':=ws3.base (by simp) fun j o hj=>by
   rw [List.getElem?_append_left (List.getElem?_eq_some_iff.1 hj).1];exact hj
  refine yj9 ?_
  repeat (first | refine yp9 ?_ | refine ys9 ?_)
  have hil:=ws4.lt
  refine ⟨.inr rfl,.tup [.arr id' 0 A'.length cap',.agg [.v (.int .i64 (P2.1:Nat)),.v (.int .i64 P2.2)]],.tup [.arr id' 0 A'.length cap',.agg [.v (.int .i64 (P2.1:Nat)),.v (.int .i64 P2.2)]],Hc.set H.length (boxP P2.1 P2.2),(Hc.set H.length (boxP P2.1 P2.2)).length,?_,.inl ⟨rfl,rfl⟩,by simpa using Nat.le_of_lt h7l,Nat.le_refl _,?_,?_,?_⟩
  ·simp [boxP,h7l]
  ·simp [AV.under,AV.underL]
   simpa using hil
  ·rw [List.take_length];exact ws4.shut
  ·rw [List.take_length]
   exact ⟨id',cap',cs',ws4,rfl⟩
end Go.AM
namespace Go.AM
open Go.RowKit Go.Proofs
set_option linter.unusedSimpArgs false
set_option linter.unusedVariables false
set_option maxHeartbeats 8000000
set_option maxRecDepth 20000
noncomputable def ofC:Code:=Tryz.f17.body.getD .skip
noncomputable def ofR:Code:=bkC (sq2 (lpC (bkC (sq1 (sq2 (sq2 (sq2 ofC)))))))
noncomputable def ofT:Code:=sq2 (sq2 (sq2 (sq2 ofC)))
def seF (fo:Fl) (N:List SE):Prop:=(fo=.nil∧N=[])∨fo=.tip 51 97
theorem zt9 {fo:Fl} {N:List SE} (h:seF fo N) (T s:Nat) (xs:List AV) (h1:T≠97):(AV.lst fo s xs).kill T=.lst fo s xs:=by
 rcases h with ⟨rfl,_⟩ | rfl
 ·simp [AV.kill]
 ·simp [AV.kill,h1.symm]
def ofS (t:List (List Rec)) (n i:Nat) (fo:Fl) (N:List SE):St:=⟨76,[(0,.lst .any 1 (arL t)),(4,.lst fo 3 (seL N)),(5,.v (.int .i64 (n:Nat))),(6,.v (.int .i64 (i:Nat)))],[]⟩
theorem of_track {t : List (List Rec)} {n i : Nat} {fo : Fl} {N : List SE} (hfo : seF fo N) {l : List Rec} (hli : t[i]? = some l) (htl : t.length ≤ 100000000) (hll : l.length ≤ 100000000) (hd : ∀ r ∈ l, r.data.length ≤ 1000000000) (hn : n + l.length ≤ 1000000000) (hN : N.length + ((l.map fun r => zk8 r.data).flatten).length ≤ 1000000000000)
  {Q:Exit→St→Prop} (hbad:(∃ r∈l,r.data.length < 2)→Q .ret ⟨76,[(2,.lst .nil 3 []),(3,.v (.int .i64 0))],[]⟩)
  (hQ:(∀ r∈l,2≤r.data.length)→∀ fo,seF fo (N++(rawE l).map nmE)→Q .normal (ofS t (n+l.length) (i+1) fo (N++(rawE l).map nmE))):Wt true 0 Tryz.prog ofR Q (ofS t n i fo N):=by
 obtain ⟨c,hgl⟩:=List.getElem?_eq_some_iff.1 hli
 have ci:(i:Int) < t.length:=by omega
 unfold ofS
 refine wf7 (fun σ=>(∀ r∈l,2≤r.data.length)∧∃ fo,seF fo (N++(rawE l).map nmE)∧σ=ofS t (n+l.length) i fo (N++(rawE l).map nmE)) ?_ ?_
 ·refine yr9 [0, 4, 5, 6, 7] (by simp [↓zt9 hfo]; rfl) ?_
  refine yl9 ?_
  refine zf9 (fun q σ=>∃ (j:Nat) (fo:Fl) (M:List SE),q=l.length - j∧j≤l.length∧(∀ r∈l.take j,2≤r.data.length)∧N++(rawE (l.take j)).map nmE=M∧seF fo M∧σ=⟨76,[(0,.lst .any 1 (arL t)),(4,.lst fo 3 (seL M)),(5,.v (.int .i64 (n+j:Nat))),(6,.v (.int .i64 (i:Nat))),(7,.v (.int .i64 (j:Nat)))],[]⟩) (k:=l.length) ⟨0,fo,N,rfl,by omega,by simp,by simp [rawE],hfo,by simp⟩ ?_
  clear hfo
  rintro q σ ⟨j,fo,M,rfl,hj,h2,hM,hfo,rfl⟩
  refine yh9 ?_
  by_cases cj:j < l.length
  ·have cji : (j : Int) < l.length := by omega
   have wj:=w64 (n:=(j:Int)+1) (by omega) (by omega)
   have wn:=w64 (n:=(n:Int)+(j:Int)+1) (by omega) (by omega)
   obtain ⟨r,hr⟩:∃ r,l[j]?=some r:=⟨_,List.getElem?_eq_getElem cj⟩
   have hgr:l[j]'cj=r:=by rw [List.getElem?_eq_getElem cj] at hr;exact Option.some.inj hr
   have hrm:=List.mem_of_getElem? hr
   refine yr9 [0,4,5,6,7,25] (by simp [↓zt9 hfo,c,ci,hgl,cj,cji];rfl) ?_
   refine yt9 (t:=true) (by simp [cj,cji]) (fun h=>?_) (fun h=>by simp at h)
   refine yg9 ?_
   repeat (first | refine on_norm ?_ | refine in_norm ?_)
   refine yh9 ?_
   refine yl9 ?_
   refine yh9 ?_
   by_cases c2:r.data.length < 2
   ·have c2i:(r.data.length:Int) < 2:=by omega
    refine yr9 [37] (by simp [↓zt9 hfo,c,ci,hgl,cj,cji,hgr,c2,c2i];rfl) ?_
    refine yt9 (t:=true) (by simp [c2,c2i]) (fun h=>?_) (fun h=>by simp at h)
    refine yr9 [2,3] (by simp;rfl) ?_
    refine yj9 ?_
    repeat (first | refine yp9 ?_ | refine ys9 ?_)
    exact hbad ⟨r,hrm,c2⟩
   ·have c2i : ¬ (r.data.length : Int) < 2 := by omega
    have hen:=yg6 r.data (hd r hrm)
    refine yr9 [0,4,5,6,7,37] (by simp [↓zt9 hfo,c,ci,hgl,cj,cji,hgr,c2,c2i];rfl) ?_
    refine yt9 (t:=false) (by simp [c2,c2i]) (fun h=>by simp at h) (fun h=>?_)
    refine yg9 ?_
    repeat (first | refine on_norm ?_ | refine in_norm ?_)
    obtain ⟨E,hE⟩:∃ E,(zk8 r.data).map nmE=E:=⟨_,rfl⟩
    rw [hE] at hen
    have hjl:l.take (j+1)=l.take j++[r]:=by rw [List.take_add_one,hr];rfl
    have hM2:N++(rawE (l.take (j+1))).map nmE=M++E:=by
     rw [hjl,ql9,List.map_append,← List.append_assoc,hM,← hE]
     simp [rawE]
    have hEl:E.length≤1000000000:=by
     rw [← hE,List.length_map,zk8,List.length_map,List.length_range]
     have:=hd r hrm
     have:=Nat.min_le_right (256 * (r.data.getD 0 0).toNat+(r.data.getD 1 0).toNat) r.data.length
     unfold limE
     omega
    have hMl:M.length≤1000000000000:=by
     rw [← hM,List.length_append,List.length_map]
     have h1:(rawE (l.take j)).length≤((l.map fun r=>zk8 r.data).flatten).length:=by
      have h2:rawE l=rawE (l.take j)++rawE (l.drop j):=by rw [← ql9,List.take_append_drop]
      have h3:(rawE l).length=((l.map fun r=>zk8 r.data).flatten).length:=rfl
      rw [← h3,h2,List.length_append]
      omega
     omega
    have b3:(M.length+E.length) * 32≤140737488355328:=by omega
    have b4:32 * (M.length+E.length)≤140737488355328:=by omega
    have b5:E.length * 32≤140737488355328:=by omega
    have b6:32 * E.length≤140737488355328:=by omega
    have hsl:seL M++seL E=seL (M++E):=(seL_app M E).symm
    have hres:∀ fo2,seF fo2 (M++E)→∃ y,y < l.length - j∧∃ (j':Nat) (fo':Fl) (M':List SE),y=l.length - j'∧j'≤l.length∧(∀ r∈l.take j',2≤r.data.length)∧N++(rawE (l.take j')).map nmE=M'∧seF fo' M'∧(⟨76,[(0,.lst .any 1 (arL t)),(4,.lst fo2 3 (seL (M++E))),(5,.v (.int .i64 ((n:Int)+(j:Int)+1))),(6,.v (.int .i64 (i:Nat))),(7,.v (.int .i64 ((j:Int)+1)))],[]⟩:St)=⟨76,[(0,.lst .any 1 (arL t)),(4,.lst fo' 3 (seL M')),(5,.v (.int .i64 (n+j':Nat))),(6,.v (.int .i64 (i:Nat))),(7,.v (.int .i64 (j':Nat)))],[]⟩:=by
     intro fo2 h
     refine ⟨_,by omega,j+1,fo2,M++E,rfl,by omega,?_,hM2,h,by simp [Int.add_assoc]⟩
     intro x hx
     rw [hjl,List.mem_append,List.mem_singleton] at hx
     rcases hx with hx | rfl
     ·exact h2 x hx
     ·omega
    refine W_rK [0,4,5,6,7] ?_
    refine yq9 9 (by simp [↓zt9 hfo,c,ci,hgl,cj,cji,hgr];rfl) rfl ?_
    refine yf9 (by simp) (by first | (simp;done) | (simp;rfl)) hen (by simp [↓zt9 hfo];rfl) ?_
    rcases hfo with ⟨rfl,hM0⟩ | rfl
    ·subst hM0
     cases E with
     | nil =>
      refine yw9 (by simp [seL];rfl) ?_
      refine zr9 [0,4,5,6,7] (by simp [wn];rfl) ?_
      repeat (first | refine on_norm ?_ | refine in_norm ?_)
      refine zr9 [0,4,5,6,7] (by simp [wj];rfl) ?_
      exact hres (.tip 51 97) (.inr rfl)
     | cons x E =>
      have hsx:seL (x :: E)=seA x :: seL E:=rfl
      rw [List.length_cons] at b5 b6
      refine yw9 (by simp [hsx,b5,b6,show seL []=[] from rfl];rfl) ?_
      refine zr9 [0,4,5,6,7] (by simp [wn];rfl) ?_
      repeat (first | refine on_norm ?_ | refine in_norm ?_)
      refine zr9 [0,4,5,6,7] (by simp [wj];rfl) ?_
      exact hres (.tip 51 97) (.inr rfl)
    ·refine yw9 (by simp [b3,b4,hsl];rfl) ?_
     refine zr9 [0,4,5,6,7] (by simp [wn];rfl) ?_
     repeat (first | refine on_norm ?_ | refine in_norm ?_)
     refine zr9 [0,4,5,6,7] (by simp [wj];rfl) ?_
     exact hres _ (.inr rfl)
  ·have hje:j=l.length:=by omega
   subst hje
   rw [List.take_length] at h2 hM
   refine yr9 [0,4,5,6,25] (by simp [↓zt9 hfo,c,ci,hgl];rfl) ?_
   refine yt9 (t:=false) (by simp) (fun h=>by simp at h) (fun h=>?_)
   refine ym9 [0,4,5,6] ?_
   refine zs9 ?_
   repeat (first | refine on_exit ?_ | refine in_exit ?_)
   rw [hM]
   exact ⟨h2,fo,hfo,rfl⟩
 ·rintro σ ⟨h2,fo,hfo,rfl⟩
  have wi:=w64 (n:=(i:Int)+1) (by omega) (by omega)
  have hfin:=hQ h2 fo hfo
  obtain ⟨M,hM⟩:∃ M,N++(rawE l).map nmE=M:=⟨_,rfl⟩
  rw [hM] at hfo hfin ⊢
  refine zr9 [0,4,5,6] (by simp [ofS,↓zt9 hfo,wi];rfl) ?_
  exact hfin
end Go.AM
namespace Go.AM
open Go.RowKit Go.Proofs
set_option linter.unusedSimpArgs false
set_option linter.unusedVariables false
set_option maxHeartbeats 2000000
def ofM (t:List (List Rec)):List SE × Nat:=match uq9 t with | some (L,n)=>(L.map nmE,n) | none=>([],0)
def ofOk (t:List (List Rec)):Prop:=(∀ r∈(dirT t).flatten,2≤r.data.length)∧1≤(dirT t).flatten.length∧(dirT t).flatten.length≤64∧ordS ((rawE (dirT t).flatten).map nmE)=true∧layG (rawE (dirT t).flatten) (dirT t).flatten.length=dirT t
theorem lay_data {L:List RE} (h8:∀ e∈L,e.key.length=8) {n:Nat}:∀ r∈(layG L n).flatten,r.data.length=256:=by
 intro r hr
 rw [layG_flat] at hr
 obtain ⟨j,_,rfl⟩:=List.mem_map.1 hr
 exact dataE_len (fun x hx=>h8 x (jk8 hx)) (ql7 L j)
theorem ofM_ok {t:List (List Rec)} (h:ofOk t):ofM t=((rawE (dirT t).flatten).map nmE,(dirT t).flatten.length):=by
 obtain ⟨c1,c2,c3,c4,c5⟩:=h
 have h8:∀ e∈rawE (dirT t).flatten,e.key.length=8:=fun e he=>(zv7 e he).1
 rw [ordS_nm h8] at c4
 have hd:=lay_data h8 (n:=(dirT t).flatten.length)
 have hl:=qc9 (rawE (dirT t).flatten) (dirT t).flatten.length
 rw [c5] at hd hl
 rw [ofM,uq9,if_pos ⟨hd,c2,c3,hl.symm,c4,c5⟩]
theorem ofM_no {t:List (List Rec)} (h:¬ ofOk t):ofM t=([],0):=by
 rw [ofM]
 cases hr:uq9 t with
 | none=>rfl
 | some p =>
  obtain ⟨L,n⟩:=p
  exfalso
  apply h
  unfold uq9 at hr
  split at hr
  ·rename_i hc
   obtain ⟨c1,c2,c3,c4,c5,c6⟩:=hc
   have h8:∀ e∈rawE (dirT t).flatten,e.key.length=8:=fun e he=>(zv7 e he).1
   exact ⟨fun r hr=>by rw [c1 r hr];omega,c2,c3,by rw [ordS_nm h8];exact c5,c6⟩
  ·cases hr
end Go.AM
namespace Go.AM
open Go.RowKit Go.Proofs
set_option linter.unusedSimpArgs false
set_option linter.unusedVariables false
set_option maxHeartbeats 8000000
set_option maxRecDepth 20000
theorem of_tail {t : List (List Rec)} (ht : TIn t) (hraw : (rawE (dirT t).flatten).length ≤ 1000000) (h2 : ∀ r ∈ (dirT t).flatten, 2 ≤ r.data.length) {fo : Fl} (hfo : seF fo ((rawE (dirT t).flatten).map nmE)) :
  Wt true 0 Tryz.prog ofT (retN Tryz.prog [.tmp 2,.tmp 3] (.tup [.lst .any 3 (seL (ofM t).1),.v (.int .i64 ((ofM t).2:Nat))])) (ofS t (dirT t).flatten.length (dirT t).length fo ((rawE (dirT t).flatten).map nmE)):=by
 have h8:∀ e∈rawE (dirT t).flatten,e.key.length=8:=fun e he=>(zv7 e he).1
 have hok:ofOk t ↔ 1≤(dirT t).flatten.length∧(dirT t).flatten.length≤64∧ordS ((rawE (dirT t).flatten).map nmE)=true∧layG (rawE (dirT t).flatten) (dirT t).flatten.length=t.take (dirT t).length:=by
  have hT:t.take (dirT t).length=dirT t:=by
   have:=congrArg (List.take (dirT t).length) (jt9 t)
   rw [List.take_left'] at this
   ·exact this
   ·rfl
  rw [hT,ofOk]
  exact ⟨fun h=>⟨h.2.1,h.2.2.1,h.2.2.2.1,h.2.2.2.2⟩,fun h=>⟨h2,h⟩⟩
 have hokE:=fun h=>ofM_ok (t:=t) (hok.2 h)
 have hTl:(dirT t).length≤t.length:=by
  have:=congrArg List.length (jt9 t)
  rw [List.length_append] at this
  omega
 have hsy:ordS ((rawE (dirT t).flatten).map nmE)=true→∀ e∈rawE (dirT t).flatten,symM (nmM e.key)=true:=fun h e he=>by
  rw [ordS_nm h8] at h
  exact (ul8.1 h).1 e he
 have hbd:∀ e∈rawE (dirT t).flatten,e.trk < 65536∧e.rn < 256:=fun e he=>(zv7 e he).2
 have hf:=ht.f
 have hln:=ht.n
 obtain ⟨L,hL⟩:∃ L,rawE (dirT t).flatten=L:=⟨_,rfl⟩
 obtain ⟨n,hn⟩:∃ n,(dirT t).flatten.length=n:=⟨_,rfl⟩
 obtain ⟨T,hTT⟩:∃ T,(dirT t).length=T:=⟨_,rfl⟩
 rw [hL] at hraw hfo h8 hok hokE hsy hbd ⊢
 rw [hn] at hf hok hokE ⊢
 rw [hTT] at hTl hok hokE ⊢
 have hNl:∀ e∈L.map nmE,e.name.length≤1000000000:=by
  intro e he
  obtain ⟨x,hx,rfl⟩:=List.mem_map.1 he
  have h1:(kh9 x.key).length≤x.key.length:=by
   obtain ⟨k,hk⟩:=uf8 x.key
   have:=congrArg List.length hk
   rw [List.length_append] at this
   omega
  have:=h8 x hx
  show (nmM x.key).length≤_
  rw [nmM,decM,List.length_map]
  omega
 unfold ofS
 refine yh9 ?_
 by_cases c1:n=0
 ·subst c1
  have hno:¬ ofOk t:=fun h=>by have:=(hok.1 h).1;omega
  refine wr9 [0,4,5,6,73] mx (by decide +kernel) ?_
  refine yd9 3 (by simp [↓zt9 hfo];rfl) rfl ?_
  refine yd9 4 (by simp [↓zt9 hfo];rfl) rfl ?_
  refine yd9 5 (by simp [↓zt9 hfo];rfl) rfl ?_
  refine yb9 (by simp [↓zt9 hfo];rfl) ?_
  refine yt9 (t:=true) (by simp) (fun h=>?_) (fun h=>by simp at h)
  refine yr9 [2,3] (by simp;rfl) ?_
  refine yj9 ?_
  repeat (first | refine yp9 ?_ | refine ys9 ?_)
  rw [ofM_no hno]
  exact ⟨.tup [.lst .nil 3 [],.v (.int .i64 0)],by simp [retQ],.inr (by simp [AV.plain,AV.plainL,seL])⟩
 have d1:¬ (n:Int) < 1:=by omega
 have d1n:¬ n < 1:=by omega
 by_cases c2:64 < n
 ·have d2:(64:Int) < (n:Int):=by omega
  have hno:¬ ofOk t:=fun h=>by have:=(hok.1 h).2.1;omega
  refine wr9 [0,4,5,6,73] mx (by decide +kernel) ?_
  refine yd9 3 (by simp [↓zt9 hfo,c1,d1,d1n];rfl) rfl ?_
  refine yd9 4 (by simp [↓zt9 hfo,c2,d2];rfl) rfl ?_
  refine yd9 5 (by simp [↓zt9 hfo];rfl) rfl ?_
  refine yb9 (by simp [↓zt9 hfo];rfl) ?_
  refine yt9 (t:=true) (by simp) (fun h=>?_) (fun h=>by simp at h)
  refine yr9 [2,3] (by simp;rfl) ?_
  refine yj9 ?_
  repeat (first | refine yp9 ?_ | refine ys9 ?_)
  rw [ofM_no hno]
  exact ⟨.tup [.lst .nil 3 [],.v (.int .i64 0)],by simp [retQ],.inr (by simp [AV.plain,AV.plainL,seL])⟩
 have d2:¬ (64:Int) < (n:Int):=by omega
 have hor:=yf6 (L.map nmE) (by rw [List.length_map];omega) hNl
 cases ho:ordS (L.map nmE) with
 | false =>
  rw [ho] at hor
  have hno:¬ ofOk t:=fun h=>by have:=(hok.1 h).2.2.1;rw [ho] at this;cases this
  refine wr9 [0,4,5,6,73] mx (by decide +kernel) ?_
  refine yd9 3 (by simp [↓zt9 hfo,c1,d1,d1n];rfl) rfl ?_
  refine yd9 4 (by simp [↓zt9 hfo,c2,d2];rfl) rfl ?_
  refine yd9 1 (by simp [↓zt9 hfo];rfl) rfl ?_
  refine yv9 (by simp) (by first | (simp;done) | (simp;rfl)) hor (by simp [↓zt9 hfo];rfl) ?_
  refine yd9 5 (by simp [↓zt9 hfo];rfl) rfl ?_
  refine yb9 (by simp [↓zt9 hfo];rfl) ?_
  refine yt9 (t:=true) (by simp) (fun h=>?_) (fun h=>by simp at h)
  refine yr9 [2,3] (by simp;rfl) ?_
  refine yj9 ?_
  repeat (first | refine yp9 ?_ | refine ys9 ?_)
  rw [ofM_no hno]
  exact ⟨.tup [.lst .nil 3 [],.v (.int .i64 0)],by simp [retQ],.inr (by simp [AV.plain,AV.plainL,seL])⟩
 | true =>
  rw [ho] at hor
  have hdi:=rdir_sound L n h8 (hsy ho) hbd hraw (by omega)
  have hst:=sameTs_sound (layG L n) (t.take T) (by rw [qc9];omega) (fun x hx=>by
   obtain ⟨j,hj,rfl⟩:=List.mem_map.1 hx
   rw [List.length_map,List.length_take]
   omega)
  have hTi:(T:Int)≤t.length:=by omega
  obtain ⟨G,hG⟩:∃ G,layG L n=G:=⟨_,rfl⟩
  rw [hG] at hdi hst hok hokE
  by_cases hGT:G=t.take T
  ·rw [decide_eq_true hGT] at hst
   rw [hokE ⟨by omega,by omega,ho,hGT⟩]
   refine wr9 [0,4,5,6,73] mx (by decide +kernel) ?_
   refine yd9 3 (by simp [↓zt9 hfo,c1,d1,d1n];rfl) rfl ?_
   refine yd9 4 (by simp [↓zt9 hfo,c2,d2];rfl) rfl ?_
   refine yd9 1 (by simp [↓zt9 hfo];rfl) rfl ?_
   refine yv9 (by simp) (by first | (simp;done) | (simp;rfl)) hor (by simp [↓zt9 hfo];rfl) ?_
   refine yd9 5 (by simp [↓zt9 hfo];rfl) rfl ?_
   refine yv9 (by simp) (by first | (simp;done) | (simp;rfl)) hdi (by simp [↓zt9 hfo];rfl) ?_
   refine yd9 3 (by simp [↓zt9 hfo,hTl,hTi];rfl) rfl ?_
   refine yv9 (by simp) (by first | (simp [← qt8];done) | (simp [← qt8];rfl)) hst (by simp [↓zt9 hfo];rfl) ?_
   refine yb9 (by simp [↓zt9 hfo];rfl) ?_
   refine yt9 (t:=false) (by simp) (fun h=>by simp at h) (fun h=>?_)
   refine yg9 ?_
   repeat (first | refine on_norm ?_ | refine in_norm ?_)
   refine yr9 [2,3] (by simp [↓zt9 hfo];rfl) ?_
   refine yj9 ?_
   repeat (first | refine yp9 ?_ | refine ys9 ?_)
   exact ⟨.tup [.lst fo 3 (seL (L.map nmE)),.v (.int .i64 (n:Nat))],by rcases hfo with ⟨rfl,_⟩ | rfl <;> simp [retQ,AV.rf,AV.rfL],.inr (by simp [AV.plain,AV.plainL])⟩
  ·rw [decide_eq_false hGT] at hst
   have hno:¬ ofOk t:=fun h=>hGT (hok.1 h).2.2.2
   refine wr9 [0,4,5,6,73] mx (by decide +kernel) ?_
   refine yd9 3 (by simp [↓zt9 hfo,c1,d1,d1n];rfl) rfl ?_
   refine yd9 4 (by simp [↓zt9 hfo,c2,d2];rfl) rfl ?_
   refine yd9 1 (by simp [↓zt9 hfo];rfl) rfl ?_
   refine yv9 (by simp) (by first | (simp;done) | (simp;rfl)) hor (by simp [↓zt9 hfo];rfl) ?_
   refine yd9 5 (by simp [↓zt9 hfo];rfl) rfl ?_
   refine yv9 (by simp) (by first | (simp;done) | (simp;rfl)) hdi (by simp [↓zt9 hfo];rfl) ?_
   refine yd9 3 (by simp [↓zt9 hfo,hTl,hTi];rfl) rfl ?_
   refine yv9 (by simp) (by first | (simp [← qt8];done) | (simp [← qt8];rfl)) hst (by simp [↓zt9 hfo];rfl) ?_
   refine yb9 (by simp [↓zt9 hfo];rfl) ?_
   refine yt9 (t:=true) (by simp) (fun h=>?_) (fun h=>by simp at h)
   refine yr9 [2,3] (by simp;rfl) ?_
   refine yj9 ?_
   repeat (first | refine yp9 ?_ | refine ys9 ?_)
   rw [ofM_no hno]
   exact ⟨.tup [.lst .nil 3 [],.v (.int .i64 0)],by simp [retQ],.inr (by simp [AV.plain,AV.plainL,seL])⟩
theorem qq7 (t:List (List Rec)) (ht:TIn t) (hraw:(rawE (dirT t).flatten).length≤1000000):Sound Tryz.prog 17 [.lst .any 1 (arL t)] (.tup [.lst .any 3 (seL (ofM t).1),.v (.int .i64 ((ofM t).2:Nat))]):=by
 refine vd9 Tryz.func17 rfl (by decide +kernel) (by simp [Tryz.f17]) (by simp [AV.rfL,AV.rf]) (by simp [AV.tlL,AV.tl]) (rs:=[.tmp 2,.tmp 3]) rfl ?_
 rw [show Tryz.f17.ntmps=76 from rfl]
 have hl:=ht.n
 refine yr9 [0] (by simp;rfl) ?_
 refine yr9 [0,4] (by simp;rfl) ?_
 refine yr9 [0,4,5,6] (by simp;rfl) ?_
 refine wf7 (fun σ=>(∀ r∈(dirT t).flatten,2≤r.data.length)∧∃ fo,seF fo ((rawE (dirT t).flatten).map nmE)∧σ=ofS t (dirT t).flatten.length (dirT t).length fo ((rawE (dirT t).flatten).map nmE)) ?_ ?_
 ·refine yl9 ?_
  refine zf9 (fun q σ=>∃ (i n:Nat) (fo:Fl) (N:List SE),q=t.length - i∧i≤t.length∧(∀ l∈t.take i,us9 l=true)∧(∀ r∈(t.take i).flatten,2≤r.data.length)∧(t.take i).flatten.length=n∧(rawE (t.take i).flatten).map nmE=N∧seF fo N∧σ=ofS t n i fo N) (k:=t.length) ⟨0,0,.nil,[],rfl,by omega,by simp,by simp,rfl,rfl,.inl ⟨rfl,rfl⟩,by simp [ofS,seL]⟩ ?_
  rintro q σ ⟨i,n,fo,N,rfl,hi,hk,h2,hn,hN,hfo,rfl⟩
  refine yh9 ?_
  by_cases c:i < t.length
  ·have ci : (i : Int) < t.length := by omega
   obtain ⟨l,hli⟩:∃ l,t[i]?=some l:=⟨_,List.getElem?_eq_getElem c⟩
   have hgl:t[i]'c=l:=by rw [List.getElem?_eq_getElem c] at hli;exact Option.some.inj hli
   have hlm:=List.mem_of_getElem? hli
   have hll:=ht.rows l hlm
   have hky:=rkeyed_sound l hll
   obtain ⟨KY,hKY⟩:∃ K,us9 l=K:=⟨_,rfl⟩
   rw [hKY] at hky
   refine W_rK [0,4,5,6,18] ?_
   refine yq9 5 (by simp [ofS,↓zt9 hfo,c,ci];rfl) rfl ?_
   refine yq9 4 (by simp [↓zt9 hfo,c,ci,hgl];rfl) rfl ?_
   refine yf9 (by simp) (by first | (simp;done) | (simp;rfl)) hky (by simp [↓zt9 hfo];rfl) ?_
   refine yw9 (by simp [↓zt9 hfo];rfl) ?_
   cases KY with
   | false =>
    have hdt:=yk7 (by omega) hk (fun l' hl'=>by rw [hli] at hl';obtain rfl:=Option.some.inj hl';exact hKY)
    refine yt9 (t:=false) (by simp) (fun h=>by simp at h) (fun h=>?_)
    rw [hdt]
    refine ym9 [0,4,5,6] ?_
    refine zs9 ?_
    repeat (first | refine on_exit ?_ | refine in_exit ?_)
    exact ⟨h2,fo,hN.symm ▸ hfo,by rw [hN,hn];simp [ofS,zg9,ud9,Nat.min_eq_left hi]⟩
   | true =>
    refine yt9 (t:=true) (by simp) (fun h=>?_) (fun h=>by simp at h)
    refine yg9 ?_
    repeat (first | refine on_norm ?_ | refine in_norm ?_)
    refine ym9 [0,4,5,6] ?_
    have htk1:t.take (i+1)=t.take i++[l]:=by rw [List.take_add_one,hli];rfl
    have hk1:∀ x∈t.take (i+1),us9 x=true:=by
     intro x hx
     rw [htk1,List.mem_append,List.mem_singleton] at hx
     rcases hx with hx | rfl
     ·exact hk x hx
     ·exact hKY
    obtain ⟨rr,hrr⟩:=dirT_has hk1
    have hfl1:(t.take (i+1)).flatten=(t.take i).flatten++l:=by rw [htk1];simp
    have hfll:(dirT t).flatten=(t.take i).flatten++(l++rr.flatten):=by rw [hrr,List.flatten_append,hfl1,List.append_assoc]
    have hnl:n+l.length≤40000000:=by
     have h1:=congrArg List.length hfll
     have:=ht.f
     simp only [List.length_append] at h1
     omega
    have hrl:N.length+((l.map fun r=>zk8 r.data).flatten).length≤1000000:=by
     have h1:=congrArg (fun x=>(rawE x).length) hfll
     simp only [ql9,List.length_append] at h1
     have h3:(rawE l).length=((l.map fun r=>zk8 r.data).flatten).length:=rfl
     rw [← hN,List.length_map,← h3]
     omega
    refine yl9 ?_
    refine of_track hfo hli hl hll (fun r hr=>(ht.d l hlm r hr).2) (by omega) (by omega) (fun hb=>?_) (fun hl2 fo' hfo'=>?_)
    ·repeat (first | refine yp9 ?_ | refine ys9 ?_)
     obtain ⟨r,hr,hr2⟩:=hb
     have hno:ofM t=([],0):=ofM_no fun h=>absurd (h.1 r (by rw [hfll];simp [hr])) (by omega)
     rw [hno]
     exact ⟨.tup [.lst .nil 3 [],.v (.int .i64 0)],by simp [retQ],.inr (by simp [AV.plain,AV.plainL,seL])⟩
    ·repeat (first | refine on_norm ?_ | refine in_norm ?_)
     refine ⟨_,by omega,i+1,n+l.length,fo',_,rfl,by omega,hk1,?_,by rw [hfl1,List.length_append,hn],by rw [hfl1,ql9,List.map_append,hN],hfo',rfl⟩
     intro r hr
     rw [hfl1,List.mem_append] at hr
     rcases hr with hr | hr
     ·exact h2 r hr
     ·exact hl2 r hr
  ·have hie:i=t.length:=by omega
   have hdt:=yk7 (i:=i) (by omega) hk (fun l' hl'=>by rw [List.getElem?_eq_none (by omega)] at hl';cases hl')
   refine W_rK [0,4,5,6,18] ?_
   refine yq9 5 (by simp [ofS,↓zt9 hfo,hie];rfl) rfl ?_
   refine yq9 4 (by simp [↓zt9 hfo];rfl) rfl ?_
   refine yw9 (by simp [↓zt9 hfo];rfl) ?_
   refine yt9 (t:=false) (by simp) (fun h=>by simp at h) (fun h=>?_)
   rw [hdt]
   refine ym9 [0,4,5,6] ?_
   refine zs9 ?_
   repeat (first | refine on_exit ?_ | refine in_exit ?_)
   exact ⟨h2,fo,hN.symm ▸ hfo,by rw [hN,hn];simp [ofS,zg9,ud9,hie]⟩
 ·rintro σ ⟨h2,fo,hfo,rfl⟩
  exact of_tail ht hraw h2 hfo
end Go.AM
namespace Go.AM
open Go.RowKit Go.Proofs
set_option linter.unusedSimpArgs false
set_option linter.unusedVariables false
set_option maxHeartbeats 8000000
set_option maxRecDepth 20000
@[simp] theorem strL_getElem (L:List (List UInt8)) (i:Nat) (h:i < (strL L).length):(strL L)[i]=strB (L[i]'(by simpa using h)):=by simp [strL]
theorem strB_ne {a b:List UInt8} (h:strB a=strB b):a=b:=by
 simp only [strB,AV.v.injEq,Value.string.injEq] at h
 have:=congrArg (fun x:ByteArray=>x.data.toList) h
 simpa using this
theorem ub7 (a b:List (List UInt8)) (hl:a.length≤1000000000):Sound Tryz.prog 22 [.lst .any 1 (strL a),.lst .any 1 (strL b)] (.v (.bool (decide (a=b)))):=by
 refine yc9 Tryz.func22 rfl (by decide +kernel) (by simp [Tryz.f22]) (by simp [AV.rfL,AV.rf]) (by simp [AV.tlL,AV.tl]) (rs:=[.tmp 4]) rfl ?_
 rw [show Tryz.f22.ntmps=26 from rfl]
 refine yr9 [0,1,4] (by simp;rfl) ?_
 refine yh9 ?_
 by_cases c:a.length=b.length
 ·have ci : (a.length : Int) = b.length := by omega
  refine yr9 [0,1,10] (by simp [c,ci];rfl) ?_
  refine yt9 (t:=false) (by simp [c,ci]) (fun h=>by simp at h) (fun h=>?_)
  refine yg9 ?_
  repeat (first | refine on_norm ?_ | refine in_norm ?_)
  refine yh9 ?_
  refine yr9 [0,1,5] (by simp;rfl) ?_
  refine yl9 ?_
  refine zf9 (fun q σ=>∃ i:Nat,q=a.length - i∧i≤a.length∧a.take i=b.take i∧σ=⟨26,[(0,.lst .any 1 (strL a)),(1,.lst .any 1 (strL b)),(5,.v (.int .i64 (i:Nat)))],[]⟩) (k:=a.length) ⟨0,rfl,by omega,by simp,by simp⟩ ?_
  rintro q σ ⟨i,rfl,hi,hab,rfl⟩
  refine yh9 ?_
  by_cases hi2:i < a.length
  ·have hj2 : i < b.length := by omega
   have hi2':(i:Int) < a.length:=by omega
   have hj2':(i:Int) < b.length:=by omega
   obtain ⟨r,hr⟩:∃ r,a[i]?=some r:=⟨_,List.getElem?_eq_getElem hi2⟩
   obtain ⟨q,hq⟩:∃ q,b[i]?=some q:=⟨_,List.getElem?_eq_getElem hj2⟩
   have hr2:a[i]'hi2=r:=by rw [List.getElem?_eq_getElem hi2] at hr;exact Option.some.inj hr
   have hq2:b[i]'hj2=q:=by rw [List.getElem?_eq_getElem hj2] at hq;exact Option.some.inj hq
   have wi:=w64 (n:=(i:Int)+1) (by omega) (by omega)
   refine yr9 [0,1,5,14] (by simp [hi2,hi2'];rfl) ?_
   refine yt9 (t:=true) (by simp [hi2,hi2']) (fun h=>?_) (fun h=>by simp at h)
   refine yg9 ?_
   repeat (first | refine on_norm ?_ | refine in_norm ?_)
   refine yh9 ?_
   refine yl9 ?_
   by_cases e:r=q
   ·subst e
    refine W_dvK [0,1,5,25] mx (by decide +kernel) (by simp [hi2,hi2',hj2,hj2',hr2,hq2,strB];rfl) ?_
    refine yt9 (t:=false) (by simp) (fun h=>by simp at h) (fun h=>?_)
    refine yg9 ?_
    repeat (first | refine on_norm ?_ | refine in_norm ?_)
    refine zr9 [0,1,5] (by simp [wi];rfl) ?_
    exact ⟨_,by omega,i+1,rfl,by omega,wb9 hr hq hab,by simp⟩
   ·have hne:¬ a=b:=fun he=>e (by rw [he,hq] at hr;exact (Option.some.inj hr).symm)
    have hnb:¬ strB r=strB q:=fun h=>e (strB_ne h)
    simp only [strB,AV.v.injEq,Value.string.injEq] at hnb
    refine W_dvK [25] mx (by decide +kernel) (by simp [hi2,hi2',hj2,hj2',hr2,hq2,strB,hnb,e];rfl) ?_
    refine yt9 (t:=true) (by simp [hnb,e]) (fun h=>?_) (fun h=>by simp at h)
    refine yr9 [4] (by simp;rfl) ?_
    refine yj9 ?_
    repeat (first | refine yp9 ?_ | refine ys9 ?_)
    simp [retQ,hne]
  ·have hie : i = a.length := by omega
   have heq:a=b:=by
    have h1:=hab
    rw [hie,List.take_length,c,List.take_length] at h1
    exact h1
   refine yr9 [14] (by simp [hie];rfl) ?_
   refine yt9 (t:=false) (by simp [hie]) (fun h=>by simp at h) (fun h=>?_)
   refine zs9 ?_
   repeat (first | refine on_exit ?_ | refine in_exit ?_)
   refine yr9 [4] (by simp;rfl) ?_
   refine yj9 ?_
   repeat (first | refine yp9 ?_ | refine ys9 ?_)
   simp [retQ,heq]
 ·have ci:¬ (a.length:Int)=b.length:=by omega
  have hne:a≠b:=fun h=>c (by rw [h])
  refine yr9 [10] (by simp [c,ci];rfl) ?_
  refine yt9 (t:=true) (by simp [c,ci]) (fun h=>?_) (fun h=>by simp at h)
  refine yr9 [4] (by simp;rfl) ?_
  refine yj9 ?_
  repeat (first | refine yp9 ?_ | refine ys9 ?_)
  simp [retQ,hne]
end Go.AM
namespace Go.AM
open Go.RowKit Go.Proofs
set_option linter.unusedSimpArgs false
set_option linter.unusedVariables false
set_option maxHeartbeats 8000000
set_option maxRecDepth 20000
def xt6 (t:List (List Rec)) (s:List UInt8):Option SE:=(ofM t).1.find? fun e=>e.name == s
def seO (o:Option SE):AV:=match o with | some e=>seA e | none=>.agg [.v (.string ⟨#[]⟩),.v (.int .i64 0),.v (.int .i64 0)]
theorem find_not {l:List SE} {s:List UInt8} (h:∀ e∈l,¬ e.name=s):(l.find? fun e=>e.name == s)=none:=by
 rw [List.find?_eq_none]
 intro e he
 simpa using h e he
theorem find_at {l:List SE} {s:List UInt8} {i:Nat} {e:SE} (hi:l[i]?=some e) (he:e.name=s) (h:∀ (j:Nat) d,j < i→l[j]?=some d→¬ d.name=s):(l.find? fun e=>e.name == s)=some e:=by
 rw [List.find?_eq_some_iff_getElem]
 obtain ⟨hl,hg⟩:=List.getElem?_eq_some_iff.1 hi
 refine ⟨by simpa using he,i,hl,hg,fun j hj=>?_⟩
 have:=h j _ hj (List.getElem?_eq_getElem (by omega))
 simpa using this
theorem rFind_sound (t:List (List Rec)) (ht:TIn t) (hraw:(rawE (dirT t).flatten).length≤1000000) (s:List UInt8) (hl:(ofM t).1.length≤1000000):Sound Tryz.prog 20 [.lst .any 1 (arL t),strB s] (.tup [seO (xt6 t s),.v (.bool (xt6 t s).isSome)]):=by
 refine yc9 Tryz.func20 rfl (by decide +kernel) (by simp [Tryz.f20]) (by simp [AV.rfL,AV.rf,strB]) (by simp [AV.tlL,AV.tl,strB]) (rs:=[.cell 4 51,.tmp 5]) rfl ?_
 rw [show Tryz.f20.ntmps=32 from rfl]
 have hof:=qq7 t ht hraw
 obtain ⟨l,hlE⟩:∃ l,(ofM t).1=l:=⟨_,rfl⟩
 obtain ⟨n,hnE⟩:∃ n,(ofM t).2=n:=⟨_,rfl⟩
 rw [hlE,hnE] at hof
 rw [hlE] at hl
 have hF:xt6 t s=l.find? fun e=>e.name == s:=by rw [xt6,hlE]
 rw [hF]
 simp only [strB]
 refine yr9 [0,1,4,5] (by simp;rfl) ?_
 refine W_rK [1,4,5,6] ?_
 refine yq9 1 (by simp;rfl) rfl ?_
 refine yf9 (by simp) (by first | (simp;done) | (simp;rfl)) hof (by simp;rfl) ?_
 refine yw9 (by simp;rfl) ?_
 refine yh9 ?_
 refine yr9 [1,4,5,6,8] (by simp;rfl) ?_
 refine yl9 ?_
 refine zf9 (fun q σ=>∃ i:Nat,q=l.length - i∧i≤l.length∧(∀ (j:Nat) d,j < i→l[j]?=some d→¬ d.name=s)∧σ=⟨32,[(1,.v (.string ⟨s.toArray⟩)),(4,.loc 0 0),(5,.v (.bool false)),(6,.lst .any 3 (seL l)),(8,.v (.int .i64 (i:Nat)))],[.cells 51 [.v (.string ⟨#[]⟩),.v (.int .i64 0),.v (.int .i64 0)]]⟩) (k:=l.length) ⟨0,rfl,by omega,by intro j d hj;omega,by simp⟩ ?_
 rintro q σ ⟨i,rfl,hi,hall,rfl⟩
 refine yh9 ?_
 by_cases c:i < l.length
 ·have ci : (i : Int) < l.length := by omega
  have wi:=w64 (n:=(i:Int)+1) (by omega) (by omega)
  obtain ⟨e,he⟩:∃ e,l[i]?=some e:=⟨_,List.getElem?_eq_getElem c⟩
  have hge:l[i]'c=e:=by rw [List.getElem?_eq_getElem c] at he;exact Option.some.inj he
  refine yr9 [1,4,5,6,8,17] (by simp [c,ci];rfl) ?_
  refine yt9 (t:=true) (by simp [c,ci]) (fun h=>?_) (fun h=>by simp at h)
  refine yg9 ?_
  repeat (first | refine on_norm ?_ | refine in_norm ?_)
  refine yh9 ?_
  refine yl9 ?_
  by_cases hn:e.name=s
  ·have hfd:=find_at he hn hall
   refine yr9 [4,5,6,8,26] (by simp [c,ci,hge,seA,strB,hn];rfl) ?_
   refine yt9 (t:=true) (by simp) (fun h=>?_) (fun h=>by simp at h)
   refine yr9 [4,5] (by simp [c,ci,hge,seA,strB,yk9];rfl) ?_
   refine yj9 ?_
   repeat (first | refine yp9 ?_ | refine ys9 ?_)
   rw [hfd]
   simp [retQ,seO,seA,strB]
  ·have hnb : ¬ strB e.name = strB s := fun h => hn (strB_ne h)
   simp only [strB,AV.v.injEq,Value.string.injEq] at hnb
   refine yr9 [1,4,5,6,8,26] (by simp [c,ci,hge,seA,strB,hn,hnb];rfl) ?_
   refine yt9 (t:=false) (by simp [hn,hnb]) (fun h=>by simp at h) (fun h=>?_)
   refine yg9 ?_
   repeat (first | refine on_norm ?_ | refine in_norm ?_)
   refine zr9 [1,4,5,6,8] (by simp [wi];rfl) ?_
   refine ⟨_,by omega,i+1,rfl,by omega,fun j d hj hd=>?_,by simp⟩
   by_cases hj2:j < i
   ·exact hall j d hj2 hd
   ·have:j=i:=by omega
    subst this
    rw [he] at hd
    rw [← Option.some.inj hd]
    exact hn
 ·have hie : i = l.length := by omega
  have hfd:=find_not (l:=l) (s:=s) (fun e he=>by
   obtain ⟨j,hj,rfl⟩:=List.mem_iff_getElem.1 he
   exact hall j _ (by omega) (List.getElem?_eq_getElem hj))
  refine yr9 [4,17] (by simp [hie];rfl) ?_
  refine yt9 (t:=false) (by simp [hie]) (fun h=>by simp at h) (fun h=>?_)
  refine ym9 [4] ?_
  refine zs9 ?_
  repeat (first | refine on_exit ?_ | refine in_exit ?_)
  refine yr9 [4,5] (by simp [yk9];rfl) ?_
  refine yj9 ?_
  repeat (first | refine yp9 ?_ | refine ys9 ?_)
  rw [hfd]
  simp [retQ,seO]
end Go.AM
namespace Go.AM
open Go.RowKit Go.Proofs
set_option linter.unusedSimpArgs false
set_option linter.unusedVariables false
theorem find_same {L:List RE} (h8:∀ e∈L,e.key.length=8) (hs:∀ e∈L,symM (nmM e.key)=true) (s:List UInt8):((L.map nmE).find? fun e=>e.name == s)=(if symM s=true then (ym6 L (padK s)).map nmE else none):=by
 induction L with
 | nil=>split <;> rfl
 | cons e L ih =>
  have h1:=h8 e List.mem_cons_self
  have h2:=hs e List.mem_cons_self
  have ih:=ih (fun x hx=>h8 x (List.mem_cons_of_mem _ hx)) (fun x hx=>hs x (List.mem_cons_of_mem _ hx))
  have hpk:=us6 h1 h2
  rw [List.map_cons,List.find?_cons]
  by_cases hn:(nmE e).name=s
  ·have hn2:nmM e.key=s:=hn
   have hsy:symM s=true:=by rw [← hn2];exact h2
   have hk:e.key=padK s:=by rw [← hn2,hpk]
   rw [if_pos hsy]
   simp only [hn,beq_self_eq_true,ym6,List.find?_cons,hk,Option.map_some]
  ·rw [show ((nmE e).name == s) = false by simpa using hn]
   simp only
   rw [ih]
   by_cases hsy:symM s=true
   ·have hk:¬ e.key=padK s:=fun h=>hn (by show nmM e.key=s;rw [h,nmM_padK hsy])
    rw [if_pos hsy,if_pos hsy,ym6,ym6,List.find?_cons,show (e.key == padK s)=false by simpa using hk]
   ·rw [if_neg hsy,if_neg hsy]
theorem rfindM_eq (t:List (List Rec)) (s:List UInt8):xt6 t s=(ys7 t s).map nmE:=by
 rw [xt6,ofM,ys7]
 cases hr:uq9 t with
 | none=>rfl
 | some p =>
  obtain ⟨L,n⟩:=p
  have ho:=zw8 hr
  have:=find_same (L:=L) (fun e he=>(ho.ok e he).1) (ul8.1 ho.ord).1 s
  simp only
  rw [this]
  split <;> rfl
end Go.AM
namespace Go.AM
open Go.RowKit Go.Proofs
set_option linter.unusedSimpArgs false
set_option linter.unusedVariables false
set_option maxHeartbeats 8000000
set_option maxRecDepth 20000
theorem sbytes_sound (a b:List UInt8) (hl:a.length≤1000000000):Sound Tryz.prog 42 [.lst .any 1 (byL a),.lst .any 1 (byL b)] (.v (.bool (decide (a=b)))):=by
 refine yc9 Tryz.func42 rfl (by decide +kernel) (by simp [Tryz.f42]) (by simp [AV.rfL,AV.rf]) (by simp [AV.tlL,AV.tl]) (rs:=[.tmp 4]) rfl ?_
 rw [show Tryz.f42.ntmps=26 from rfl]
 refine yr9 [0,1,4] (by simp;rfl) ?_
 refine yh9 ?_
 by_cases c:a.length=b.length
 ·have ci : (a.length : Int) = b.length := by omega
  refine yr9 [0,1,10] (by simp [c,ci];rfl) ?_
  refine yt9 (t:=false) (by simp [c,ci]) (fun h=>by simp at h) (fun h=>?_)
  refine yg9 ?_
  repeat (first | refine on_norm ?_ | refine in_norm ?_)
  refine yh9 ?_
  refine yr9 [0,1,5] (by simp;rfl) ?_
  refine yl9 ?_
  refine zf9 (fun q σ=>∃ i:Nat,q=a.length - i∧i≤a.length∧a.take i=b.take i∧σ=⟨26,[(0,.lst .any 1 (byL a)),(1,.lst .any 1 (byL b)),(5,.v (.int .i64 (i:Nat)))],[]⟩) (k:=a.length) ⟨0,rfl,by omega,by simp,by simp⟩ ?_
  rintro q σ ⟨i,rfl,hi,hab,rfl⟩
  refine yh9 ?_
  by_cases hi2:i < a.length
  ·have hj2 : i < b.length := by omega
   have hi2':(i:Int) < a.length:=by omega
   have hj2':(i:Int) < b.length:=by omega
   obtain ⟨r,hr⟩:∃ r,a[i]?=some r:=⟨_,List.getElem?_eq_getElem hi2⟩
   obtain ⟨q,hq⟩:∃ q,b[i]?=some q:=⟨_,List.getElem?_eq_getElem hj2⟩
   have hr2:a[i]'hi2=r:=by rw [List.getElem?_eq_getElem hi2] at hr;exact Option.some.inj hr
   have hq2:b[i]'hj2=q:=by rw [List.getElem?_eq_getElem hj2] at hq;exact Option.some.inj hq
   have wi:=w64 (n:=(i:Int)+1) (by omega) (by omega)
   refine yr9 [0,1,5,14] (by simp [hi2,hi2'];rfl) ?_
   refine yt9 (t:=true) (by simp [hi2,hi2']) (fun h=>?_) (fun h=>by simp at h)
   refine yg9 ?_
   repeat (first | refine on_norm ?_ | refine in_norm ?_)
   refine yh9 ?_
   refine yl9 ?_
   by_cases e:r=q
   ·subst e
    refine W_dvK [0,1,5,25] mx (by decide +kernel) (by simp [hi2,hi2',hj2,hj2',hr2,hq2,hr,hq];rfl) ?_
    refine yt9 (t:=false) (by simp) (fun h=>by simp at h) (fun h=>?_)
    refine yg9 ?_
    repeat (first | refine on_norm ?_ | refine in_norm ?_)
    refine zr9 [0,1,5] (by simp [wi];rfl) ?_
    exact ⟨_,by omega,i+1,rfl,by omega,wb9 hr hq hab,by simp⟩
   ·have hne:¬ a=b:=fun he=>e (by rw [he,hq] at hr;exact (Option.some.inj hr).symm)
    have hnb:¬ r.toNat=q.toNat:=fun h=>e (UInt8.toNat_inj.1 h)
    have hnbi:¬ (r.toNat:Int)=(q.toNat:Int):=by omega
    have hnbB:((r.toNat:Int) != (q.toNat:Int))=true:=by simp;omega
    refine W_dvK [25] mx (by decide +kernel) (by simp [hi2,hi2',hj2,hj2',hr2,hq2,hr,hq,hnb,hnbi,hnbB,e];rfl) ?_
    refine yt9 (t:=true) (by simp [hnb,hnbi,hnbB,e]) (fun h=>?_) (fun h=>by simp at h)
    refine yr9 [4] (by simp;rfl) ?_
    refine yj9 ?_
    repeat (first | refine yp9 ?_ | refine ys9 ?_)
    simp [retQ,hne]
  ·have hie : i = a.length := by omega
   have heq:a=b:=by
    have h1:=hab
    rw [hie,List.take_length,c,List.take_length] at h1
    exact h1
   refine yr9 [14] (by simp [hie];rfl) ?_
   refine yt9 (t:=false) (by simp [hie]) (fun h=>by simp at h) (fun h=>?_)
   refine zs9 ?_
   repeat (first | refine on_exit ?_ | refine in_exit ?_)
   refine yr9 [4] (by simp;rfl) ?_
   refine yj9 ?_
   repeat (first | refine yp9 ?_ | refine ys9 ?_)
   simp [retQ,heq]
 ·have ci:¬ (a.length:Int)=b.length:=by omega
  have hne:a≠b:=fun h=>c (by rw [h])
  refine yr9 [10] (by simp [c,ci];rfl) ?_
  refine yt9 (t:=true) (by simp [c,ci]) (fun h=>?_) (fun h=>by simp at h)
  refine yr9 [4] (by simp;rfl) ?_
  refine yj9 ?_
  repeat (first | refine yp9 ?_ | refine ys9 ?_)
  simp [retQ,hne]
theorem qc8 (a b:List (List UInt8)) (hl:a.length≤1000000000) (hr0:∀ x∈a,x.length≤1000000000):Sound Tryz.prog 10 [.lst .any 1 (bbL a),.lst .any 1 (bbL b)] (.v (.bool (decide (a=b)))):=by
 refine yc9 Tryz.func10 rfl (by decide +kernel) (by simp [Tryz.f10]) (by simp [AV.rfL,AV.rf]) (by simp [AV.tlL,AV.tl]) (rs:=[.tmp 4]) rfl ?_
 rw [show Tryz.f10.ntmps=27 from rfl]
 refine yr9 [0,1,4] (by simp;rfl) ?_
 refine yh9 ?_
 by_cases c:a.length=b.length
 ·have ci : (a.length : Int) = b.length := by omega
  refine yr9 [0,1,10] (by simp [c,ci];rfl) ?_
  refine yt9 (t:=false) (by simp [c,ci]) (fun h=>by simp at h) (fun h=>?_)
  refine yg9 ?_
  repeat (first | refine on_norm ?_ | refine in_norm ?_)
  refine yh9 ?_
  refine yr9 [0,1,5] (by simp;rfl) ?_
  refine yl9 ?_
  refine zf9 (fun q σ=>∃ i:Nat,q=a.length - i∧i≤a.length∧a.take i=b.take i∧σ=⟨27,[(0,.lst .any 1 (bbL a)),(1,.lst .any 1 (bbL b)),(5,.v (.int .i64 (i:Nat)))],[]⟩) (k:=a.length) ⟨0,rfl,by omega,by simp,by simp⟩ ?_
  rintro q σ ⟨i,rfl,hi,hab,rfl⟩
  refine yh9 ?_
  by_cases hi2:i < a.length
  ·have hj2 : i < b.length := by omega
   have hi2':(i:Int) < a.length:=by omega
   have hj2':(i:Int) < b.length:=by omega
   obtain ⟨r,hr⟩:∃ r,a[i]?=some r:=⟨_,List.getElem?_eq_getElem hi2⟩
   obtain ⟨q,hq⟩:∃ q,b[i]?=some q:=⟨_,List.getElem?_eq_getElem hj2⟩
   have hr2:a[i]'hi2=r:=by rw [List.getElem?_eq_getElem hi2] at hr;exact Option.some.inj hr
   have hq2:b[i]'hj2=q:=by rw [List.getElem?_eq_getElem hj2] at hq;exact Option.some.inj hq
   have wi:=w64 (n:=(i:Int)+1) (by omega) (by omega)
   refine yr9 [0,1,5,14] (by simp [hi2,hi2'];rfl) ?_
   refine yt9 (t:=true) (by simp [hi2,hi2']) (fun h=>?_) (fun h=>by simp at h)
   refine yg9 ?_
   repeat (first | refine on_norm ?_ | refine in_norm ?_)
   refine yh9 ?_
   refine yl9 ?_
   have hsb:=sbytes_sound r q (hr0 r (List.mem_of_getElem? hr))
   by_cases e:r=q
   ·rw [decide_eq_true e] at hsb
    refine wr9 [0,1,5,26] mx (by decide +kernel) ?_
    refine yd9 8 (by simp [hi2,hi2',hj2,hj2',hr2,hq2];rfl) rfl ?_
    refine yv9 (by simp) (by first | (simp;done) | (simp;rfl)) hsb (by simp;rfl) ?_
    refine yb9 (by simp;rfl) ?_
    refine yt9 (t:=false) (by simp) (fun h=>by simp at h) (fun h=>?_)
    refine yg9 ?_
    repeat (first | refine on_norm ?_ | refine in_norm ?_)
    refine zr9 [0,1,5] (by simp [wi];rfl) ?_
    subst e
    exact ⟨_,by omega,i+1,rfl,by omega,wb9 hr hq hab,by simp⟩
   ·have hne:¬ a=b:=fun he=>e (by rw [he,hq] at hr;exact (Option.some.inj hr).symm)
    rw [decide_eq_false e] at hsb
    refine wr9 [26] mx (by decide +kernel) ?_
    refine yd9 8 (by simp [hi2,hi2',hj2,hj2',hr2,hq2];rfl) rfl ?_
    refine yv9 (by simp) (by first | (simp;done) | (simp;rfl)) hsb (by simp;rfl) ?_
    refine yb9 (by simp;rfl) ?_
    refine yt9 (t:=true) (by simp) (fun h=>?_) (fun h=>by simp at h)
    refine yr9 [4] (by simp;rfl) ?_
    refine yj9 ?_
    repeat (first | refine yp9 ?_ | refine ys9 ?_)
    simp [retQ,hne]
  ·have hie : i = a.length := by omega
   have heq:a=b:=by
    have h1:=hab
    rw [hie,List.take_length,c,List.take_length] at h1
    exact h1
   refine yr9 [14] (by simp [hie];rfl) ?_
   refine yt9 (t:=false) (by simp [hie]) (fun h=>by simp at h) (fun h=>?_)
   refine zs9 ?_
   repeat (first | refine on_exit ?_ | refine in_exit ?_)
   refine yr9 [4] (by simp;rfl) ?_
   refine yj9 ?_
   repeat (first | refine yp9 ?_ | refine ys9 ?_)
   simp [retQ,heq]
 ·have ci:¬ (a.length:Int)=b.length:=by omega
  have hne:a≠b:=fun h=>c (by rw [h])
  refine yr9 [10] (by simp [c,ci];rfl) ?_
  refine yt9 (t:=true) (by simp [c,ci]) (fun h=>?_) (fun h=>by simp at h)
  refine yr9 [4] (by simp;rfl) ?_
  refine yj9 ?_
  repeat (first | refine yp9 ?_ | refine ys9 ?_)
  simp [retQ,hne]
end Go.AM
