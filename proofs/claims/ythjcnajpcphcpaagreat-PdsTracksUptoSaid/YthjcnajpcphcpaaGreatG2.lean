/- Parts of the walk: R22C R22D R22E R22G R22H R22I R22J R22PA. -/
import Derived.Test.YthjcnajpcphcpaaGreatG1
namespace Go.AM
open Go.RowKit Go.Proofs
set_option linter.unusedSimpArgs false
set_option linter.unusedVariables false
set_option maxHeartbeats 8000000
set_option maxRecDepth 20000
def yc6 (rest:List AObj) (x:AV) (B:List UInt8):Prop :=
 (B=[]∧x=.lst .nil 1 [])∨(B≠[]∧∃ (j cap:Nat) (Bf:List UInt8),x=.arr (j+3) 0 B.length cap∧rest[j]?=some (.cells 5 (byL Bf))∧Bf.length=cap∧Bf.take B.length=B∧cap≤maxLen)
def outOk (x:AV) (O:List (List UInt8)):Prop:=(O=[]∧x=.lst .nil 1 [])∨x=.lst (.tip 90 35) 1 (bbL O)
def dcbC (d:Dcb):List AV:=[.v (.int .i64 d.org),.v (.int .i64 d.fmt),.v (.bool d.blk),.v (.bool d.asa),.v (.int .i64 d.lrecl),.v (.int .i64 d.size),.v (.int .i64 d.klen),.v (.int .i64 d.kpos)]
def zl9 (d:Dcb) (x y:AV) (rest:List AObj):List AObj:=.cells 23 (dcbC d) :: .cells 25 [x] :: .cells 90 [y] :: rest
def datO (o:AObj):Prop:=∃ Bf,o=.cells 5 (byL Bf)∨o=.froz 5 (byL Bf)
def zk8 (rest:List AObj):Prop:=∀ o∈rest,datO o
theorem ur7 {rest:List AObj} (h:zk8 rest) (j:Nat) {o:AObj} (ho:datO o):zk8 (rest.set j o):=by
 intro x hx
 rcases List.mem_or_eq_of_mem_set hx with h1 | h1
 ·exact h x h1
 ·rw [h1];exact ho
theorem zt6 {rest:List AObj} (h:zk8 rest) {o:AObj} (ho:datO o):zk8 (rest++[o]):=by
 intro x hx
 rcases List.mem_append.1 hx with h1 | h1
 ·exact h x h1
 ·rw [List.mem_singleton.1 h1];exact ho
theorem shutR_kill {rest:List AObj} (h:zk8 rest) (T:Nat):rest.map (AObj.kill T)=rest:=by
 have:rest.map (AObj.kill T)=rest.map id:=List.map_congr_left fun o ho=>by
  obtain ⟨Bf,rfl | rfl⟩:=h o ho
  ·simp [AObj.kill]
  ·rfl
 rw [this,List.map_id]
theorem shutR_under {rest:List AObj} (h:zk8 rest) (m:Nat):yn9 m rest=true:=by
 induction rest with
 | nil=>rfl
 | cons o l ih =>
  have h1:o.under m=true:=by
   obtain ⟨Bf,rfl | rfl⟩:=h o (by simp) <;> simp [AObj.under]
  simp only [yn9,h1,ih fun x hx=>h x (by simp [hx]),Bool.and_self]
theorem vv7 {d:Dcb} {x y:AV} {rest:List AObj} {O:List (List UInt8)} {m:Nat} (hx:outOk x O) (hm:m=rest.length+3) (hy:y.under m=true) (hr:zk8 rest):yn9 m (zl9 d x y rest)=true:=by
 subst hm
 unfold zl9 dcbC
 have:x.under (rest.length+3)=true:=by
  rcases hx with ⟨_,rfl⟩ | rfl <;> simp [AV.under,AV.underL]
 simp only [yn9,AObj.under,AV.underL,AV.under,this,hy,Bool.and_true,Bool.true_and]
 exact shutR_under hr _
def qd8 (d:Dcb) (B:List UInt8):List UInt8:=if d.fmt == 2 then desc B.length++B.drop 4 else B
def uw9 (d:Dcb) (O:List (List UInt8)) (B:List UInt8):List (List UInt8):=if B=[] then O else O++[qd8 d B]
theorem kf7 (d : Dcb) (O : List (List UInt8)) (B : List UInt8) (x y : AV) (rest : List AObj) (hx : outOk x O) (hy : yc6 rest y B) (hs : zk8 rest) (hO : O.length ≤ 1100000) (hB : B.length ≤ 1000000000) (h4 : (d.fmt == 2) = true → B = [] ∨ 4 ≤ B.length) :
  ww9 Tryz.prog 75 [.loc 2 0,.loc 0 0,.loc 1 0] (zl9 d x y rest) fun r h'=>r=.tup []∧∃ x' rest',outOk x' (uw9 d O B)∧zk8 rest'∧h'=zl9 d x' (.lst .nil 1 []) rest':=by
 refine zd9 Tryz.func75 rfl (by decide +kernel) (by simp [Tryz.f75]) (rs:=[]) rfl ?_
 rw [show Tryz.f75.ntmps=18 from rfl]
 have hl:(zl9 d x y rest).length=rest.length+3:=by simp [zl9]
 rw [hl]
 refine yh9 ?_
 rcases hy with ⟨rfl,rfl⟩ | ⟨hne,j,cap,Bf,rfl,hj,hcap,htk,hmx⟩
 ·refine W_cT [0,1,2,5] (by simp [zl9,dcbC];rfl) rfl ?_
  refine yj9 ?_
  repeat (first | refine yp9 ?_ | refine ys9 ?_)
  refine ⟨.inr rfl,.tup [],.tup [],zl9 d x (.lst .nil 1 []) rest,rest.length+3,rfl,.inl ⟨rfl,rfl⟩,by omega,by simp [zl9],rfl,?_,rfl,x,rest,by simpa [uw9] using hx,hs,by rw [List.take_of_length_le (by simp [zl9])]⟩
  rw [List.take_of_length_le (by simp [zl9])]
  exact vv7 hx rfl rfl hs
 have hBl:B.length≠0:=fun e=>hne (List.eq_nil_of_length_eq_zero e)
 have hBi:((B.length:Int) == 0)=false:=beq_eq_false_iff_ne.2 (by omega)
 have hle:B.length≤cap:=by rw [← htk,List.length_take];omega
 refine W_cF [0,1,2,5] (by simp [zl9,dcbC,hBi,hne];rfl) rfl ?_
 refine yg9 ?_
 have hfl:∃ Bf1 rest1,rest1[j]?=some (.cells 5 (byL Bf1))∧Bf1.length=cap∧Bf1.take B.length=qd8 d B∧zk8 rest1∧rest1.length=rest.length∧(rest1,Bf1)=(if d.fmt == 2 then (rest.set j (.cells 5 (byL (desc B.length++Bf.drop 4))),desc B.length++Bf.drop 4) else (rest,Bf)):=by
  unfold qd8
  rcases Bool.eq_false_or_eq_true (d.fmt == 2) with h1 | h1
  ·have h5:=(h4 h1).resolve_left hne
   rw [h1]
   have hjl:=(List.getElem?_eq_some_iff.1 hj).1
   refine ⟨_,_,by rw [List.getElem?_set_self hjl],?_,?_,ur7 hs j ⟨_,.inl rfl⟩,by simp,rfl⟩
   ·simp;omega
   ·rw [if_pos rfl,List.take_append,desc_length,List.take_of_length_le (show (desc B.length).length≤B.length by simp;omega),← List.drop_take,htk]
  ·rw [h1]
   exact ⟨Bf,rest,hj,hcap,by simpa using htk,hs,rfl,rfl⟩
 obtain ⟨Bf1,rest1,g1,g2,g3,g4,g5,hif⟩:=hfl
 refine vs9 (fun s=>s=⟨18,[(0,.loc 2 0),(2,.loc 1 0)],zl9 d x (.arr (j+3) 0 B.length cap) rest1⟩) ?_ ?_
 ·rcases Bool.eq_false_or_eq_true (d.fmt == 2) with h1 | h1
  ·have h5:=(h4 h1).resolve_left hne
   rw [h1] at hif
   simp only [if_true,Prod.mk.injEq] at hif
   obtain ⟨rfl,rfl⟩:=hif
   refine W_cT [0,2,8] (by simp [zl9,dcbC,h1];rfl) rfl ?_
   refine W_rsE 4 [0,2] mx (by decide +kernel) ?_
   refine yd9 3 (by simp [zl9,dcbC];rfl) rfl ?_
   refine yv9 (by simp) (by first | (simp;done) | (simp;rfl)) (xn6 B.length) (by simp;rfl) ?_
   refine km8 (t:=90) (t':=90) (e:=5) (sz:=1) (id:=j+3) (off:=0) (len:=B.length) (cap:=cap) (ag:=false) (oy:=.any) (cs:=byL Bf) (ys:=byL (desc B.length)) (yc:=byL (desc B.length)) (by simp) rfl rfl rfl rfl (by simp) (by simp) s90 (by omega) (by simp [zl9,hj]) (by simp;omega) (by rw [List.take_of_length_le (by simp;omega)];exact qt9 _) ?_
   refine ⟨_,by simp;rfl,?_⟩
   simp [runA,zw9,zl9,dcbC,xf7]
  ·rw [h1] at hif
   simp only [Bool.false_eq_true,if_false,Prod.mk.injEq] at hif
   obtain ⟨rfl,rfl⟩:=hif
   refine W_cF [0,2,8] (by simp [zl9,dcbC,h1];rfl) rfl ?_
   refine ym9 [0,2] (yg9 ?_)
   simp [zw9,zl9,dcbC]
 rintro _ rfl
 have hfz:∃ o,ws9 Tryz.prog (zl9 d x (.arr (j+3) 0 B.length cap) rest1) 1 (j+3) 0 B.length cap=some (.lst o 1 (byL (qd8 d B)),zl9 d x (.arr (j+3) 0 B.length cap) (rest1.set j (.froz 5 (byL Bf1)))):=by
  have e1:(zl9 d x (.arr (j+3) 0 B.length cap) rest1)[j+3]?=some (.cells 5 (byL Bf1)):=by simp [zl9,g1]
  have e2:tyI Tryz.prog 5=some (false,1):=by simp
  have e3:chunk false 1 B.length (byL Bf1)=byL (qd8 d B):=by rw [yk7 _ _ (by omega),g3]
  have e4:(zl9 d x (.arr (j+3) 0 B.length cap) rest1).set (j+3) (.froz 5 (byL Bf1))=zl9 d x (.arr (j+3) 0 B.length cap) (rest1.set j (.froz 5 (byL Bf1))):=by simp [zl9]
  refine ⟨if 0=0∧B.length=cap∧cap * 1=(byL Bf1).length then .tip 5 1 else .any,?_⟩
  simp only [ws9,e1,e2]
  rw [if_pos ⟨by omega,.inr trivial,by simp;omega,qc7 _,rfL_byL _⟩,jh9,List.drop_zero,e3,e4]
 obtain ⟨o,hfz⟩:=hfz
 refine W_frzP 2 0 (cs:=[.arr (j+3) 0 B.length cap]) rfl rfl (by omega) (by decide) hfz ?_
 have hjl:j < rest1.length:=(List.getElem?_eq_some_iff.1 g1).1
 have hs2:=ur7 g4 j (o:=.froz 5 (byL Bf1)) ⟨_,.inr rfl⟩
 obtain ⟨rest2,hr2⟩:∃ rest2,rest1.set j (.froz 5 (byL Bf1))=rest2:=⟨_,rfl⟩
 have hr2l:rest2.length=rest.length:=by rw [← hr2,List.length_set];exact g5
 rw [hr2] at hs2 ⊢
 have hfin:∀ x',outOk x' (uw9 d O B)→retW Tryz.prog [] (rest.length+3) (fun r h'=>r=.tup []∧∃ x' rest',outOk x' (uw9 d O B)∧zk8 rest'∧h'=zl9 d x' (.lst .nil 1 []) rest') .normal ⟨18,[],zl9 d x' (.lst .nil 1 []) rest2⟩:=by
  intro x' hx'
  refine ⟨.inl rfl,.tup [],.tup [],zl9 d x' (.lst .nil 1 []) rest2,rest2.length+3,rfl,.inl ⟨rfl,rfl⟩,by omega,by simp [zl9],rfl,?_,rfl,x',rest2,hx',hs2,by rw [List.take_of_length_le (by simp [zl9])]⟩
  rw [List.take_of_length_le (by simp [zl9])]
  exact vv7 hx' rfl rfl hs2
 have b1:(O.length+1) * 24≤140737488355328:=by omega
 have b2:24 * (O.length+1)≤140737488355328:=by omega
 have hfm:uw9 d O B=O++[qd8 d B]:=by unfold uw9;rw [if_neg hne]
 rw [hfm] at hfin ⊢
 rcases hx with ⟨rfl,rfl⟩ | rfl
 ·refine yr9 [0] (by simp [zl9,dcbC,AV.plain,catK,AV.cellsK,AV.kone,AV.koneL];rfl) ?_
  refine zr9 [] (by simp;rfl) ?_
  have:=hfin (.lst (.tip 90 35) 1 (bbL [qd8 d B])) (.inr rfl)
  simpa [zl9,dcbC,wh9,yk9] using this
 ·refine yr9 [0] (by simp [zl9,dcbC,AV.plain,catK,AV.cellsK,AV.kone,AV.koneL,b1,b2,shutR_kill hs2];rfl) ?_
  refine zr9 [] (by simp;rfl) ?_
  have:=hfin (.lst (.tip 90 35) 1 (bbL (O++[qd8 d B]))) (.inr rfl)
  simpa [zl9,dcbC,uv9,wh9,yk9] using this
set_option maxRecDepth 20000
theorem yc6.arr {rest:List AObj} {x:AV} {B:List UInt8} (h:yc6 rest x B) (hne:B≠[]):∃ id cap,x=.arr id 0 B.length cap:=by
 rcases h with ⟨h0,_⟩ | ⟨_,j,cap,Bf,rfl,_⟩
 ·exact absurd h0 hne
 ·exact ⟨_,_,rfl⟩
theorem len_book (d:Dcb) (x y:AV) (rest:List AObj):(zl9 d x y rest).length=rest.length+3:=by simp [zl9]
theorem z5c:(AV.v (.int .u8 0)).cells=[AV.v (.int .u8 0)]:=rfl
theorem blk_app {d : Dcb} {x y0 x1 : AV} {rest : List AObj} {B ys Bf : List UInt8} {j cap : Nat} {s s1 : St} (hh : s.h = zl9 d x y0 rest) (hr : zk8 rest) (hj : rest[j]? = some (.cells 5 (byL Bf))) (hcap : Bf.length = cap) (htk : Bf.take B.length = B) (hmx : cap ≤ maxLen) (hne : B ≠ [])
  (h:appQ s 5 1 (j+3) B.length cap (byL ys).length (byL ys) (byL Bf) (AV.v (.int .u8 0)).cells s1 x1):∃ rest',s1=⟨s.n,s.fr,zl9 d x y0 rest'⟩∧yc6 rest' x1 (B++ys)∧zk8 rest':=by
 have hle:B.length≤cap:=by rw [← htk,List.length_take];omega
 have hne2:B++ys≠[]:=by simp [hne]
 unfold appQ at h
 rw [wq9,jh9,Nat.mul_one,z5c] at h
 rcases h with ⟨h1,rfl,rfl⟩ | ⟨h1,cap',h2,h3,rfl,rfl⟩
 ·refine ⟨rest.set j (.cells 5 (byL (Bf.take B.length ++ ys ++ Bf.drop (B.length + ys.length)))), ?_, .inr ⟨hne2, j, cap, Bf.take B.length ++ ys ++ Bf.drop (B.length + ys.length), by rw [List.length_append], ?_, ?_, ?_, hmx⟩, ur7 hr j ⟨_, .inl rfl⟩⟩
  ·rw [hh,xf7]
   simp [zl9]
  ·exact List.getElem?_set_self (List.getElem?_eq_some_iff.1 hj).1
  ·simp;omega
  ·rw [htk,List.length_append,← List.length_append,List.take_left]
 ·refine ⟨rest ++ [.cells 5 (byL (B ++ ys ++ List.replicate (cap' - (B.length + ys.length)) 0))], ?_, .inr ⟨hne2, rest.length, cap', B ++ ys ++ List.replicate (cap' - (B.length + ys.length)) 0, by rw [hh, len_book, List.length_append], ?_, ?_, ?_, h3⟩, zt6 hr ⟨_, .inl rfl⟩⟩
  ·rw [hh,← qs9,htk,js9,← xp9,← xp9]
   simp [zl9]
  ·simp
  ·simp;omega
  ·rw [List.take_left]
theorem blk_new {rest : List AObj} {ys : List UInt8} {cap : Nat} (hr : zk8 rest) (hne : ys ≠ []) (h1 : ys.length ≤ cap) (hm : cap ≤ maxLen) :
  yc6 (rest++[.cells 5 (byL (ys++List.replicate (cap - ys.length) 0))]) (.arr (rest.length+3) 0 ys.length cap) ys∧zk8 (rest++[.cells 5 (byL (ys++List.replicate (cap - ys.length) 0))]) :=
 ⟨.inr ⟨hne,rest.length,cap,ys++List.replicate (cap - ys.length) 0,rfl,by simp,by simp;omega,List.take_left,hm⟩,zt6 hr ⟨_,.inl rfl⟩⟩
def zh8 (d:Dcb) (B:List UInt8):List UInt8:=if d.fmt == 2 then (if B=[] then [0,0,0,0] else B) else B
def qq8 (d:Dcb) (B r:List UInt8):List UInt8:=if d.fmt == 2 then zh8 d B++desc (r.length+4) else B
def kt8 (d:Dcb) (B r:List UInt8):Bool:=!d.blk || decide (d.size < (B.length+lenM d r:Nat))
def goB (d : Dcb) : List (List UInt8) → List (List UInt8) → List UInt8 → Option (List (List UInt8) × List UInt8)
 | [],O,B=>some (O,B)
 | r :: l,O,B=>if vv9 d r.length=false then none else
   if kt8 d B r=true then goB d l (uw9 d O B) (qq8 d [] r++r) else goB d l O (qq8 d B r++r)
def finB (d : Dcb) : Option (List (List UInt8) × List UInt8) → List (List UInt8) × Int
 | none=>([],220)
 | some p=>(uw9 d p.1 p.2,0)
def zg9 (d:Dcb) (l:List (List UInt8)):List (List UInt8) × Int :=
 if zn9 d=0 then if 4096 < l.length then ([],2) else finB d (goB d l [] []) else ([],zn9 d)
def resB (p:List (List UInt8) × Int):AV:=.tup [.lst (.tip 90 1) 1 (bbL p.1),.v (.int .i64 p.2)]
theorem ys8 {d:Dcb} (h:zn9 d=0):1≤d.org∧d.org≤3∧1≤d.size∧d.size≤1024∧wp9 d=true∧jv8 d=true:=by
 unfold zn9 at h
 split at h
 ·cases h
 split at h
 ·cases h
 split at h
 ·cases h
 split at h
 ·cases h
 split at h
 ·cases h
 split at h
 ·cases h
 rename_i h1 h2 h3 h4 h5 h6
 exact ⟨by omega,by omega,by omega,by omega,by simpa using h5,by simpa using h6⟩
theorem zm6 {d:Dcb} (h1:1≤d.size) (h2:d.size≤1024) (h:wp9 d=true):(d.fmt=1∧1≤d.lrecl∧d.lrecl≤d.size)∨(d.fmt=2∧4 < d.lrecl∧d.lrecl≤d.size - 4)∨(d.fmt=3∧d.lrecl=0∧d.blk=false):=by
 unfold wp9 at h
 split at h
 ·rename_i e
  left
  have e:d.fmt=1:=by simpa using e
  split at h
  ·cases h
  ·split at h
   ·cases h
   ·exact ⟨e,by omega,by omega⟩
 ·split at h
  ·rename_i e
   right;left
   have e:d.fmt=2:=by simpa using e
   split at h
   ·have:=of_decide_eq_true h
    rw [w64 (by omega) (by omega)] at this
    exact ⟨e,by omega,this⟩
   ·cases h
  ·split at h
   ·rename_i e
    right;right
    have e:d.fmt=3:=by simpa using e
    split at h
    ·rename_i e2
     exact ⟨e,by simpa using e2,by simpa using h⟩
    ·cases h
   ·cases h
theorem jf9 {d:Dcb} {n:Int} (hc:zn9 d=0) (h:vv9 d n=true):1≤n∧n≤1024∧(d.fmt=2→n≤d.lrecl - 4∧n+8≤d.size)∧n≤d.size:=by
 obtain ⟨_,_,c3,c4,c5,_⟩:=ys8 hc
 have hl:=zm6 c3 c4 c5
 unfold vv9 at h
 split at h
 ·rename_i e
  have e:d.fmt=1:=by simpa using e
  have:n=d.lrecl:=by simpa using h
  refine ⟨by omega,by omega,fun e2=>by omega,by omega⟩
 ·split at h
  ·rename_i e0 e
   have e:d.fmt=2:=by simpa using e
   split at h
   ·have:=of_decide_eq_true h
    rw [w64 (by omega) (by omega)] at this
    exact ⟨by omega,by omega,fun _=>⟨this,by omega⟩,by omega⟩
   ·cases h
  ·rename_i e0 e
   have e:¬ d.fmt=2:=by simpa using e
   split at h
   ·have:=of_decide_eq_true h
    exact ⟨by omega,by omega,fun e2=>absurd e2 e,this⟩
   ·cases h
set_option maxRecDepth 20000
def ub9 (l:List (List UInt8)) (i:Nat):List (Nat × AV):=[(2,.loc 0 0),(7,.loc 1 0),(8,.loc 2 0),(9,.fn (.func 75) [] [.loc 2 0,.loc 0 0,.loc 1 0]),(21,.lst .any 1 (bbL l)),(22,.v (.int .i64 (l.length:Nat))),(23,.v (.int .i64 (i:Nat)))]
theorem block_sound (d:Dcb) (l:List (List UInt8)) (hl:l.length≤1100000) (hr:∀ r∈l,r.length≤1000000000):Sound Tryz.prog 35 [dcbA d,.lst .any 1 (bbL l)] (resB (zg9 d l)):=by
 refine xw9 Tryz.func35 rfl (by decide +kernel) (by simp [Tryz.f35]) rfl rfl (rs:=[.tmp 4,.tmp 5]) rfl ?_
 rw [show Tryz.f35.ntmps=68 from rfl]
 refine yr9 [1,2] (by simp;rfl) ?_
 refine yh9 ?_
 refine W_rK [1,2,6] ?_
 refine yq9 1 (by simp;rfl) rfl ?_
 refine yf9 (by simp) (by first | (simp;done) | (simp;rfl)) (kg8 d) (by simp;rfl) ?_
 refine yw9 (by simp;rfl) ?_
 by_cases hc:zn9 d=0
 rotate_left
 ·have hcn:(zn9 d != 0)=true:=by simpa using hc
  refine W_cT [1,2,6,15] (by simp [hcn];rfl) rfl ?_
  refine yr9 [4,5] (by simp;rfl) ?_
  refine yj9 ?_
  repeat (first | refine yp9 ?_ | refine ys9 ?_)
  have e:zg9 d l=([],zn9 d):=by unfold zg9;rw [if_neg hc]
  rw [e]
  exact ⟨.tup [.lst .nil 1 [],.v (.int .i64 (zn9 d))],by simp [retQ],.tup2 (.nil (by decide +kernel)) (.refl _)⟩
 have hcn:(zn9 d != 0)=false:=by simpa using hc
 refine W_cF [1,2,6,15] (by simp [hcn];rfl) rfl ?_
 refine yg9 ?_
 refine yh9 ?_
 by_cases h4:4096 < l.length
 ·have h4i:(4096:Int) < l.length:=by omega
  refine W_cT [1,2,19] (by simp [h4i];rfl) rfl ?_
  refine yr9 [4,5] (by simp;rfl) ?_
  refine yj9 ?_
  repeat (first | refine yp9 ?_ | refine ys9 ?_)
  have e:zg9 d l=([],2):=by unfold zg9;rw [if_pos hc,if_pos h4]
  rw [e]
  exact ⟨.tup [.lst .nil 1 [],.v (.int .i64 2)],by simp [retQ],.tup2 (.nil (by decide +kernel)) (.refl _)⟩
 have h4i:¬ (4096:Int) < l.length:=by omega
 have hbm:zg9 d l=finB d (goB d l [] []):=by unfold zg9;rw [if_pos hc,if_neg h4]
 refine W_cF [1,2,19] (by simp [h4i];rfl) rfl ?_
 refine yg9 ?_
 refine yr9 [1,2,7] (by simp;rfl) ?_
 refine yr9 [1,2,7,8] (by simp;rfl) ?_
 refine yr9 [1,2,7,8,9] (by simp;rfl) ?_
 refine yh9 ?_
 refine yr9 [2,7,8,9,21,22,23] (by simp;rfl) ?_
 refine yl9 ?_
 obtain ⟨c1,c2,c3,c4,c5,c6⟩:=ys8 hc
 refine zj9 (fun k s => ∃ (i : Nat) (O : List (List UInt8)) (B : List UInt8) (x y : AV) (rest : List AObj), k = l.length - i ∧ i ≤ l.length ∧ goB d l [] [] = goB d (l.drop i) O B ∧ outOk x O ∧ yc6 rest y B ∧ zk8 rest ∧ O.length ≤ i ∧ B.length ≤ 1040 ∧
   ((d.fmt == 2)=true→B=[]∨4≤B.length)∧s=⟨68,ub9 l i,zl9 d x y rest⟩)
  (k:=l.length) ⟨0,[],[],.lst .nil 1 [],.lst .nil 1 [],[],rfl,by omega,rfl,.inl ⟨rfl,rfl⟩,.inl ⟨rfl,rfl⟩,(fun _ h=>by cases h),by simp,by simp,fun _=>.inl rfl,by simp [ub9,zl9,dcbC]⟩ ?_
 rintro k s ⟨i,O,B,x,y,rest,rfl,hi,hgo,hx,hy,hs,hO,hB,hB4,rfl⟩
 by_cases a:i < l.length
 rotate_left
 ·refine yr9 [2, 7, 8, 9, 21, 22, 23, 24] (by simp [ub9, a]; rfl) ?_
  refine yh9 ?_
  refine yt9 rfl (fun h=>by simp at h) (fun h=>?_)
  refine zs9 ?_
  have hie:i=l.length:=by omega
  subst hie
  rw [List.drop_length,goB] at hgo
  rw [hgo] at hbm
  simp only [finB] at hbm
  refine W_rK [7] ?_
  refine yq9 1 (by simp;rfl) rfl ?_
  refine xs9 (by simp) (by first | (simp;done) | (simp;exact ⟨rfl,rfl⟩)) ((kf7 d O B x y rest hx hy hs (by omega) (by omega) hB4).mono ?_)
  rintro r h' ⟨rfl,x',rest',hx',hs',rfl⟩
  refine ⟨_,by simp;rfl,?_⟩
  refine yw9 (by simp;rfl) ?_
  rw [hbm]
  rcases hx' with ⟨h0,rfl⟩ | rfl
  ·rw [h0]
   refine yr9 [4,5] (by simp [zl9,dcbC];rfl) ?_
   refine yj9 ?_
   repeat (first | refine yp9 ?_ | refine ys9 ?_)
   exact ⟨.tup [.lst .nil 1 [],.v (.int .i64 0)],by simp [retQ],.tup2 (.nil (by decide +kernel)) (.refl _)⟩
  ·refine yr9 [4,5] (by simp [zl9,dcbC];rfl) ?_
   refine yj9 ?_
   repeat (first | refine yp9 ?_ | refine ys9 ?_)
   exact ⟨.tup [.lst (.tip 90 35) 1 (bbL (uw9 d O B)),.v (.int .i64 0)],by simp [retQ],.norm fun T=>by simp [resB]⟩
 have ai:(i:Int) < l.length:=by omega
 obtain ⟨r,hri⟩:∃ r,l[i]?=some r:=⟨_,List.getElem?_eq_getElem a⟩
 have hr2:l[i]'a=r:=by rw [List.getElem?_eq_getElem a] at hri;exact Option.some.inj hri
 have hrl:=hr r (List.mem_of_getElem? hri)
 rw [List.drop_eq_getElem_cons a,hr2,goB] at hgo
 refine yr9 [2,7,8,9,21,22,23,24] (by simp [ub9,a];rfl) ?_
 refine yh9 ?_
 refine yt9 rfl (fun h=>?_) (fun h=>by simp at h)
 refine yg9 ?_
 refine yh9 ?_
 refine yl9 ?_
 refine yr9 [2,7,8,9,21,22,23,11] (by simp [a,ai,hr2];rfl) ?_
 refine yh9 ?_
 refine W_rK [2,7,8,9,21,22,23,11,31] ?_
 refine yq9 3 (by simp [zl9,dcbC];rfl) rfl ?_
 refine yf9 (by simp) (by first | (simp;done) | (simp;rfl)) (xj6 d r.length) (by simp;rfl) ?_
 rcases Bool.eq_false_or_eq_true (vv9 d r.length) with hf | hf
 rotate_left
 ·rw [if_pos hf] at hgo
  rw [hgo] at hbm
  simp only [finB] at hbm
  refine yw9 (by simp [hf];rfl) ?_
  refine yt9 rfl (fun h=>?_) (fun h=>by simp at h)
  refine yr9 [4,5] (by simp;rfl) ?_
  refine yj9 ?_
  repeat (first | refine yp9 ?_ | refine ys9 ?_)
  rw [hbm]
  exact ⟨.tup [.lst .nil 1 [],.v (.int .i64 220)],by simp [retQ],.tup2 (.nil (by decide +kernel)) (.refl _)⟩
 rw [if_neg (by rw [hf];simp)] at hgo
 obtain ⟨f1,f2,f3,f4⟩:=jf9 hc hf
 refine yw9 (by simp [hf];rfl) ?_
 refine yt9 rfl (fun h=>by simp at h) (fun h=>?_)
 refine yg9 ?_
 obtain ⟨OB,hOB⟩:∃ OB:List (List UInt8) × List UInt8,OB=(if kt8 d B r=true then (uw9 d O B,[]) else (O,B)):=⟨_,rfl⟩
 have hgo1:goB d l [] []=goB d (l.drop (i+1)) OB.1 (qq8 d OB.2 r++r):=by
  rw [hgo,hOB]
  split <;> rfl
 have hO1:OB.1.length≤i+1∧OB.2.length≤1040∧((d.fmt == 2)=true→OB.2=[]∨4≤OB.2.length)∧OB.2.length+r.length≤1032∧((d.fmt == 2)=true→OB.2=[]∨OB.2.length+r.length+4≤1024):=by
  rw [hOB]
  split
  ·refine ⟨?_,by simp,fun _=>.inl rfl,by simp;omega,fun _=>.inl rfl⟩
   simp only [uw9]
   split
   ·omega
   ·simp;omega
  ·rename_i hfu
   unfold kt8 at hfu
   simp only [Bool.or_eq_true,not_or,decide_eq_true_eq] at hfu
   have h2:(B.length+lenM d r:Nat)≤d.size:=by omega
   refine ⟨by simp;omega,hB,hB4,?_,fun h1=>.inr ?_⟩
   ·simp only;unfold lenM at h2;split at h2 <;> omega
   ·simp only;unfold lenM at h2;rw [if_pos h1] at h2;omega
 refine vs9 (fun s=>∃ x1 y1 rest1,outOk x1 OB.1∧yc6 rest1 y1 OB.2∧zk8 rest1∧s=⟨68,ub9 l i++[(11,.lst .any 1 (byL r))],zl9 d x1 y1 rest1⟩) ?_ ?_
 ·refine vs9 (fun s => s = ⟨68, ub9 l i ++ [(11, .lst .any 1 (byL r)), (45, .v (.bool (kt8 d B r)))], zl9 d x y rest⟩) ?_ ?_
  ·have hln := len_sound d r (by omega)
   have wl:IntKind.i64.wrap ((B.length:Int)+(lenM d r:Nat))=((B.length+lenM d r:Nat):Int):=by
    have:lenM d r≤1100:=by unfold lenM;split <;> omega
    rw [w64 (by omega) (by omega)];omega
   rcases Bool.eq_false_or_eq_true d.blk with hb | hb
   ·have hfu : kt8 d B r = decide (d.size < (B.length + lenM d r : Nat)) := by simp [kt8, hb]
    simp only [dcbA,hb] at hln
    rw [hfu]
    obtain ⟨N,hN⟩:∃ N,B.length+lenM d r=N:=⟨_,rfl⟩
    rw [hN] at wl ⊢
    rcases hy with ⟨rfl,rfl⟩ | ⟨hne,j,cap,Bf,rfl,hj,hcap,htk,hmx⟩
    ·refine qh9 [2,7,8,9,21,22,23,11,45] mx (by decide +kernel) ?_
     refine yd9 8 (by simp [zl9,dcbC,hb];rfl) rfl ?_
     refine yv9 (by simp) (by first | (simp;done) | (simp;rfl)) hln (by simp;rfl) ?_
     simp at wl
     refine yb9 (by simp [wl];rfl) ?_
     simp [zw9,zl9,dcbC,ub9,hb]
    ·refine qh9 [2,7,8,9,21,22,23,11,45] mx (by decide +kernel) ?_
     refine yd9 8 (by simp [zl9,dcbC,hb];rfl) rfl ?_
     refine yv9 (by simp) (by first | (simp;done) | (simp;rfl)) hln (by simp;rfl) ?_
     refine yb9 (by simp [wl];rfl) ?_
     simp [zw9,zl9,dcbC,ub9,hb]
   ·have hfu:kt8 d B r=true:=by simp [kt8,hb]
    rw [hfu]
    refine qh9 [2,7,8,9,21,22,23,11,45] mx (by decide +kernel) ?_
    refine yd9 6 (by simp [zl9,dcbC,hb];rfl) rfl ?_
    refine yb9 (by simp;rfl) ?_
    simp [zw9,zl9,dcbC,ub9,hb]
  rintro _ rfl
  rcases Bool.eq_false_or_eq_true (kt8 d B r) with hfu | hfu
  ·rw [hfu] at hOB ⊢
   refine yt9 rfl (fun h=>?_) (fun h=>by simp at h)
   refine W_rE [2,7,8,9,21,22,23,11] ?_
   refine yq9 1 (by simp [ub9];rfl) rfl ?_
   refine xs9 (by simp) (by first | (simp;done) | (simp;exact ⟨rfl,rfl⟩)) ((kf7 d O B x y rest hx hy hs (by omega) (by omega) hB4).mono ?_)
   rintro _ h' ⟨rfl,x',rest',hx',hs',rfl⟩
   refine ⟨_,by simp;rfl,?_⟩
   rw [hOB]
   refine ⟨x',.lst .nil 1 [],rest',hx',.inl ⟨rfl,rfl⟩,hs',by simp [ub9]⟩
  ·rw [hfu] at hOB ⊢
   refine yt9 rfl (fun h=>by simp at h) (fun h=>?_)
   refine ym9 [2,7,8,9,21,22,23,11] (yg9 ?_)
   rw [hOB]
   exact ⟨x,y,rest,hx,hy,hs,by simp [ub9]⟩
 rintro _ ⟨x1,y1,rest1,hx1,hy1,hs1,rfl⟩
 clear hx hy hs hO hB hB4 hgo hOB
 obtain ⟨O1,B1⟩:=OB
 obtain ⟨e1,e2,e3,e4,e5⟩:=hO1
 simp only at hx1 hy1 e1 e2 e3 e4 e5 hgo1
 have hdl:(byL (desc (r.length+4))).length=4:=by simp
 refine vs9 (fun s=>∃ y2 rest2,yc6 rest2 y2 (qq8 d B1 r)∧zk8 rest2∧s=⟨68,ub9 l i++[(11,.lst .any 1 (byL r))],zl9 d x1 y2 rest2⟩) ?_ ?_
 ·rcases Bool.eq_false_or_eq_true (d.fmt == 2) with h1 | h1
  ·refine W_cT [2, 7, 8, 9, 21, 22, 23, 11, 50] (by simp [zl9, dcbC, ub9, h1]; rfl) rfl ?_
   have hhd:qq8 d B1 r=zh8 d B1++desc (r.length+4):=by unfold qq8;rw [if_pos h1]
   rw [hhd]
   refine vs9 (fun s=>∃ y2 rest2,zh8 d B1≠[]∧yc6 rest2 y2 (zh8 d B1)∧zk8 rest2∧s=⟨68,ub9 l i++[(11,.lst .any 1 (byL r))],zl9 d x1 y2 rest2⟩) ?_ ?_
   ·rcases hy1 with ⟨rfl, rfl⟩ | ⟨hne, j, cap, Bf, rfl, hj, hcap, htk, hmx⟩
    ·have hst:zh8 d []=[0,0,0,0]:=by unfold zh8;rw [if_pos h1,if_pos rfl]
     rw [hst]
     refine W_cT [2,7,8,9,21,22,23,11,53] (by simp [zl9,dcbC,ub9];rfl) rfl ?_
     refine zr9 [2,7,8,9,21,22,23,11] (by simp [yk9];rfl) ?_
     obtain ⟨n1,n2⟩:=blk_new (ys:=[0,0,0,0]) (cap:=4) hs1 (by simp) (by simp) (by decide)
     exact ⟨_,_,by simp,n1,n2,by simp [ub9,zl9,dcbC,js9]⟩
    ·have hst:zh8 d B1=B1:=by unfold zh8;rw [if_pos h1,if_neg hne]
     rw [hst]
     have hBi:((B1.length:Int) == 0)=false:=beq_eq_false_iff_ne.2 (by have:B1.length≠0:=fun e=>hne (List.eq_nil_of_length_eq_zero e);omega)
     refine W_cF [2,7,8,9,21,22,23,11,53] (by simp [zl9,dcbC,ub9,hBi,hne];rfl) rfl ?_
     refine ym9 [2,7,8,9,21,22,23,11] (yg9 ?_)
     exact ⟨_,rest1,hne,.inr ⟨hne,j,cap,Bf,rfl,hj,hcap,htk,hmx⟩,hs1,by simp [ub9,zl9,dcbC]⟩
   rintro _ ⟨y2,rest2,hne,hy2,hs2,rfl⟩
   obtain ⟨S,hS⟩:∃ S,zh8 d B1=S:=⟨_,rfl⟩
   have hSl:S.length≤1040:=by
    rw [← hS];unfold zh8;rw [if_pos h1];split
    ·simp
    ·exact e2
   rw [hS] at hne hy2 ⊢
   rcases hy2 with ⟨h0,_⟩ | ⟨_,j,cap,Bf,rfl,hj,hcap,htk,hmx⟩
   ·exact absurd h0 hne
   have wr:IntKind.i64.wrap ((r.length:Int)+4)=((r.length+4:Nat):Int):=by rw [w64 (by omega) (by omega)];omega
   have hds:=xn6 (r.length+4)
   obtain ⟨rl,hrlq⟩:∃ rl,r.length+4=rl:=⟨_,rfl⟩
   rw [hrlq] at wr hds hdl ⊢
   refine W_rsE 5 [2,7,8,9,21,22,23,11] mx (by decide +kernel) ?_
   refine yd9 4 (by simp [zl9,dcbC,ub9,wr];rfl) rfl ?_
   refine yv9 (by simp) (by first | (simp;done) | (simp;rfl)) hds (by simp;rfl) ?_
   refine vd6 (id:=j+3) (len:=S.length) (cap:=cap) (oy:=.any) (ys:=byL (desc rl)) (cs:=byL Bf) (by simp) rfl rfl rfl rfl (by simp) (by simp) s90 a5 z5 (by simp) (by simp [hj]) (by simp [hcap]) (qt9 _) (by rw [hdl];omega) ?_
   intro s1 x1' happ
   obtain ⟨rest3,rfl,hb3,hs3⟩:=blk_app (d:=d) (x:=x1) (y0:=.arr (j+3) 0 S.length cap) rfl hs2 hj hcap htk hmx hne happ
   obtain ⟨id',cap',rfl⟩:=hb3.arr (by simp [hne])
   refine ⟨_,by simp;rfl,?_⟩
   refine yw9 (by simp [zl9,yk9];rfl) ?_
   exact ⟨_,rest3,hb3,hs3,by simp [ub9,zl9,dcbC]⟩
  ·refine W_cF [2,7,8,9,21,22,23,11,50] (by simp [zl9,dcbC,ub9,h1];rfl) rfl ?_
   have hhd:qq8 d B1 r=B1:=by unfold qq8;rw [h1];rfl
   rw [hhd]
   refine ym9 [2,7,8,9,21,22,23,11] (yg9 ?_)
   exact ⟨y1,rest1,hy1,hs1,by simp [ub9,zl9,dcbC]⟩
 rintro _ ⟨y2,rest2,hy2,hs2,rfl⟩
 have hrne:r≠[]:=fun e=>by rw [e] at f1;simp at f1
 obtain ⟨H,hH⟩:∃ H,qq8 d B1 r=H:=⟨_,rfl⟩
 have hHl:H.length≤1100:=by
  rw [← hH];unfold qq8 zh8
  split
  ·split <;> simp <;> omega
  ·omega
 have hHr:H.length+r.length≤1040:=by
  rw [← hH];unfold qq8 zh8
  rcases Bool.eq_false_or_eq_true (d.fmt == 2) with h1 | h1
  ·have h2:d.fmt=2:=by simpa using h1
   have:=(f3 h2).2
   rw [if_pos h1,if_pos h1]
   split
   ·simp;omega
   ·rename_i hn;have:=(e5 h1).resolve_left hn;simp;omega
  ·rw [h1];simp;omega
 have hH4:(d.fmt == 2)=true→4≤H.length:=by
  intro h1
  rw [← hH];unfold qq8
  rw [if_pos h1]
  simp
 rw [hH] at hy2 hgo1
 have wi:IntKind.i64.wrap ((i:Int)+1)=((i+1:Nat):Int):=by rw [w64 (by omega) (by omega)];omega
 refine W_lastC (fun s=>∃ y3 rest3,yc6 rest3 y3 (H++r)∧zk8 rest3∧s=⟨68,ub9 l i,zl9 d x1 y3 rest3⟩) ?_ ?_
 ·have hrl2 : (byL r).length = r.length := by simp
  rcases hy2 with ⟨h0,rfl⟩ | ⟨hne,j,cap,Bf,rfl,hj,hcap,htk,hmx⟩
  ·rw [h0,List.nil_append]
   refine W_rE [2,7,8,9,21,22,23] ?_
   refine yq9 2 (by simp [zl9,dcbC,ub9];rfl) rfl ?_
   refine vs6 (s0:=1) (x0:=[]) (oy:=.any) (ys:=byL r) (by simp) rfl rfl rfl rfl (by simp) (by simp) s90 a5 z5 (by simp) (qt9 _) (by intro e;exact hrne (by cases r with | nil=>rfl | cons b l=>simp [byL] at e)) (by rw [hrl2];omega) ?_
   intro cap' hc1 hc2
   rw [hrl2] at hc1
   refine ⟨_,by simp;rfl,?_⟩
   refine yw9 (by simp [yk9];rfl) ?_
   obtain ⟨n1,n2⟩:=blk_new (ys:=r) (cap:=cap') hs2 hrne hc1 hc2
   exact ⟨_,_,n1,n2,by simp [ub9,zl9,dcbC,js9,xp9]⟩
  ·refine W_rE [2,7,8,9,21,22,23] ?_
   refine yq9 2 (by simp [zl9,dcbC,ub9];rfl) rfl ?_
   refine vd6 (id:=j+3) (len:=H.length) (cap:=cap) (oy:=.any) (ys:=byL r) (cs:=byL Bf) (by simp) rfl rfl rfl rfl (by simp) (by simp) s90 a5 z5 (by simp) (by simp [hj]) (by simp [hcap]) (qt9 _) (by rw [hrl2];omega) ?_
   intro s1 x1' happ
   obtain ⟨rest3,rfl,hb3,hs3⟩:=blk_app (d:=d) (x:=x1) (y0:=.arr (j+3) 0 H.length cap) rfl hs2 hj hcap htk hmx hne happ
   obtain ⟨id',cap',rfl⟩:=hb3.arr (by simp [hne])
   refine ⟨_,by simp;rfl,?_⟩
   refine yw9 (by simp [zl9,yk9];rfl) ?_
   exact ⟨_,rest3,hb3,hs3,by simp [ub9,zl9,dcbC]⟩
 rintro _ ⟨y3,rest3,hy3,hs3,rfl⟩
 refine zr9 [2,7,8,9,21,22,23] (by simp [ub9,wi];rfl) ?_
 exact ⟨_,by omega,i+1,O1,H++r,x1,y3,rest3,rfl,by omega,hgo1,hx1,hy3,hs3,e1,by simp;omega,fun h1=>.inr (by have:=hH4 h1;simp;omega),by simp [ub9]⟩
set_option maxRecDepth 20000
theorem bits_or (a b k:Nat) (ha:a % 2 ^ k=0) (hb:b < 2 ^ k) (h:a+b < 2 ^ 63):wh7 .or .i64 (a:Int) (b:Int)=some (.v (.int .i64 ((a+b:Nat):Int))):=by
 have e:(BitVec.ofInt 64 (a:Int) ||| BitVec.ofInt 64 (b:Int)).toNat=a+b:=by
  rw [BitVec.ofInt_natCast,BitVec.ofInt_natCast,BitVec.toNat_or,BitVec.toNat_ofNat,BitVec.toNat_ofNat,Nat.mod_eq_of_lt (by omega),Nat.mod_eq_of_lt (by omega)]
  obtain ⟨q,hq⟩:=Nat.dvd_of_mod_eq_zero ha
  rw [hq]
  exact (Nat.two_pow_add_eq_or_of_lt hb q).symm
 have:=w64 (n:=((a+b:Nat):Int)) (by omega) (by omega)
 rw [← e] at this ⊢
 unfold wh7
 exact congrArg (fun z=>some (AV.v (.int .i64 z))) this
def descd (b:List UInt8):Int:=match b with
 | b0 :: b1 :: b2 :: b3 :: _=>if b2=0 then if b3=0 then ((b0.toNat * 256+b1.toNat:Nat):Int) else -1 else -1
 | _=>-1
theorem u8z {b:UInt8} (h:b≠0):((b.toNat:Int) != 0)=true:=by
 have:b.toNat≠0:=fun e=>h (UInt8.toNat_inj.1 (by simpa using e))
 simp;omega
theorem kf8 (b:List UInt8):Sound Tryz.prog 131 [.lst .any 1 (byL b)] (.v (.int .i64 (descd b))):=by
 refine yc9 Tryz.func131 rfl (by decide +kernel) (by simp [Tryz.f131]) rfl rfl (rs:=[.tmp 2]) rfl ?_
 rw [show Tryz.f131.ntmps=28 from rfl]
 refine yr9 [0] (by simp;rfl) ?_
 refine yh9 ?_
 by_cases h4:b.length < 4
 ·have hd:descd b=-1:=by
   match b,h4 with
   | [],_=>rfl
   | [_],_=>rfl
   | [_,_],_=>rfl
   | [_,_,_],_=>rfl
   | _ :: _ :: _ :: _ :: _,h=>simp at h;omega
  have h4i:(b.length:Int) < 4:=by omega
  refine W_rK [0,17] ?_
  refine yq9 6 (by simp [h4i];rfl) rfl ?_
  refine yq9 6 (by simp;rfl) rfl ?_
  refine yw9 (by simp;rfl) ?_
  refine yt9 rfl (fun h=>?_) (fun h=>by simp at h)
  refine yr9 [2] (by simp;rfl) ?_
  refine yj9 ?_
  repeat (first | refine yp9 ?_ | refine ys9 ?_)
  simp [retQ,hd]
 match b,h4 with
 | [],h=>exact absurd (by simp) h
 | [_],h=>exact absurd (by simp) h
 | [_,_],h=>exact absurd (by simp) h
 | [_,_,_],h=>exact absurd (by simp) h
 | b0 :: b1 :: b2 :: b3 :: l,h4 =>
  have h4i:¬ ((l.length:Int)+1+1+1+1 < 4):=by omega
  by_cases h2:b2=0
  rotate_left
  ·have hz:=u8z h2
   refine W_rK [0,17] ?_
   refine yq9 6 (by simp [xd9,h4i];rfl) rfl ?_
   refine yq9 6 (by simp [hz];rfl) rfl ?_
   refine yw9 (by simp;rfl) ?_
   refine yt9 rfl (fun h=>?_) (fun h=>by simp at h)
   refine yr9 [2] (by simp;rfl) ?_
   refine yj9 ?_
   repeat (first | refine yp9 ?_ | refine ys9 ?_)
   simp [retQ,descd,h2]
  subst h2
  by_cases h3:b3=0
  rotate_left
  ·have hz:=u8z h3
   refine W_rK [0,17] ?_
   refine yq9 6 (by simp [xd9,h4i];rfl) rfl ?_
   refine yq9 6 (by simp;rfl) rfl ?_
   refine yw9 (by simp [hz];rfl) ?_
   refine yt9 rfl (fun h=>?_) (fun h=>by simp at h)
   refine yr9 [2] (by simp;rfl) ?_
   refine yj9 ?_
   repeat (first | refine yp9 ?_ | refine ys9 ?_)
   simp [retQ,descd,h3]
  subst h3
  have h0:=b0.toNat_lt
  have h1:=b1.toNat_lt
  have c0:IntKind.i64.wrap ((b0.toNat:Int))=b0.toNat:=w64 (by omega) (by omega)
  have c1:IntKind.i64.wrap ((b1.toNat:Int))=b1.toNat:=w64 (by omega) (by omega)
  have s0:IntKind.i64.wrap ((b0.toNat:Int) * 2 ^ min 8 IntKind.i64.bits)=((b0.toNat * 256:Nat):Int):=by
   rw [show min 8 IntKind.i64.bits=8 from rfl,w64 (by omega) (by omega)];omega
  have r1:=bits_or (b0.toNat * 256) b1.toNat 8 (by omega) (by omega) (by omega)
  refine W_rK [0,17] ?_
  refine yq9 6 (by simp [xd9,h4i];rfl) rfl ?_
  refine yq9 6 (by simp;rfl) rfl ?_
  refine yw9 (by simp;rfl) ?_
  refine yt9 rfl (fun h=>by simp at h) (fun h=>?_)
  refine yg9 ?_
  refine wk9 [2] mx (by decide +kernel) ?_
  refine yd9 5 (by simp [xd9,c0,s0,-Int.natCast_mul,-Int.natCast_add];rfl) rfl ?_
  refine yb9 (by simp [xd9,c1,r1,-Int.natCast_mul,-Int.natCast_add];rfl) ?_
  refine yj9 ?_
  repeat (first | refine yp9 ?_ | refine ys9 ?_)
  simp [retQ,descd]
set_option maxRecDepth 20000
def inertO (o:AObj):Prop:=(∀ T,o.kill T=o)∧∀ m,o.under m=true
def zq8 (h:List AObj):Prop:=∀ o∈h,inertO o
theorem inertR_under {h:List AObj} (hh:zq8 h) (m:Nat):yn9 m h=true:=by
 induction h with
 | nil=>rfl
 | cons o l ih=>simp only [yn9,(hh o (by simp)).2 m,ih fun x hx=>hh x (by simp [hx]),Bool.and_self]
theorem kq8 {h:List AObj} (hh:zq8 h) {o:AObj} (ho:inertO o):zq8 (h++[o]):=by
 intro x hx
 rcases List.mem_append.1 hx with h1 | h1
 ·exact hh x h1
 ·rw [List.mem_singleton.1 h1];exact ho
theorem inertR_set {h:List AObj} (hh:zq8 h) (j:Nat) {o:AObj} (ho:inertO o):zq8 (h.set j o):=by
 intro x hx
 rcases List.mem_or_eq_of_mem_set hx with h1 | h1
 ·exact hh x h1
 ·rw [h1];exact ho
def nils (n:Nat):List AV:=List.replicate n (.lst .nil 1 [])
theorem killL_nils (T n:Nat):AV.killL T (nils n)=nils n:=by induction n <;> simp_all [nils,List.replicate_succ,AV.killL,AV.kill]
theorem underL_nils (m n:Nat):AV.underL m (nils n)=true:=by induction n <;> simp_all [nils,List.replicate_succ,AV.underL,AV.under]
theorem repC_nils (n:Nat):repC n [AV.lst .nil 1 []]=nils n:=by
 induction n with
 | zero=>rfl
 | succ n ih=>simp [repC,nils,List.replicate_succ] at *;exact ih
theorem killL_app (T:Nat) (a b:List AV):AV.killL T (a++b)=AV.killL T a++AV.killL T b:=by induction a <;> simp_all [AV.killL]
theorem underL_app (m:Nat) (a b:List AV):AV.underL m (a++b)=(AV.underL m a&&AV.underL m b):=by induction a <;> simp_all [AV.underL,Bool.and_assoc]
theorem koneL_app (a b:List AV):AV.koneL (a++b)=(AV.koneL a&&AV.koneL b):=by induction a <;> simp_all [AV.koneL,Bool.and_assoc]
def yk8 (O:List (List UInt8)) (cap:Nat):List AV:=bbL O++nils (cap - O.length)
theorem zf7 (O:List (List UInt8)) (cap:Nat):inertO (.cells 90 (yk8 O cap)) :=
 ⟨fun T=>by simp only [AObj.kill,yk8,killL_app,killL_bbL,killL_nils],fun m=>by simp only [AObj.under,yk8,underL_app,underL_bbL,underL_nils,Bool.and_self]⟩
theorem dcb_inert (d:Dcb):inertO (.cells 23 (dcbC d)):=⟨fun T=>by simp [AObj.kill,dcbC,AV.killL,AV.kill],fun m=>by simp [AObj.under,dcbC,AV.underL,AV.under]⟩
def yv8 (F:List Nat) (h:List AObj) (x:AV) (O:List (List UInt8)):Prop :=
 (O=[]∧x=.lst .nil 1 [])∨(O≠[]∧∃ id cap,id ∉ F∧x=.arr id 0 O.length cap∧h[id]?=some (.cells 90 (yk8 O cap))∧O.length≤cap∧cap≤maxLen)
theorem recs_new {F : List Nat} {h : List AObj} {c : List UInt8} {cap : Nat} (hF : ∀ i ∈ F, i < h.length) (h1 : 1 ≤ cap) (hm : cap ≤ maxLen) :
  yv8 F (h++[.cells 90 (yk8 [c] cap)]) (.arr h.length 0 1 cap) [c] :=
 .inr ⟨by simp,h.length,cap,fun hh=>absurd (hF _ hh) (Nat.lt_irrefl _),rfl,by simp,by simpa using h1,hm⟩
theorem recs_app {F : List Nat} {s s1 : St} {id cap : Nat} {O : List (List UInt8)} {c : List UInt8} {x1 : AV} (hh : zq8 s.h) (hF : ∀ i ∈ F, i < s.h.length) (hid : id ∉ F) (hne : O ≠ []) (hj : s.h[id]? = some (.cells 90 (yk8 O cap))) (hle : O.length ≤ cap) (hm : cap ≤ maxLen)
  (h:appQ s 90 1 id O.length cap 1 [.lst .any 1 (byL c)] (yk8 O cap) (AV.lst .nil 1 []).cells s1 x1) :
  ∃ H',s1=⟨s.n,s.fr,H'⟩∧zq8 H'∧yv8 F H' x1 (O++[c])∧(∀ i∈F,H'[i]?=s.h[i]?)∧s.h.length≤H'.length:=by
 have hne2:O++[c]≠[]:=by simp
 have hwk:AV.weakL [AV.lst .any 1 (byL c)]=[AV.lst .any 1 (byL c)]:=by simp [AV.weakL,AV.weak,Fl.wk]
 unfold appQ at h
 rw [hwk,Nat.mul_one] at h
 have hlen:(yk8 O cap).length=cap:=by simp [yk8,nils];omega
 rcases h with ⟨h1,rfl,rfl⟩ | ⟨h1,cap',h2,h3,rfl,rfl⟩
 ·have e:yk9 (yk8 O cap) O.length [.lst .any 1 (byL c)]=yk8 (O++[c]) cap:=by
   unfold yk9 yk8
   have hb:(bbL O).length=O.length:=by simp
   rw [show (bbL O++nils (cap - O.length)).take O.length=bbL O by rw [← hb,List.take_left]]
   rw [List.drop_append,hb,List.drop_eq_nil_of_le (by simp),uv9]
   simp only [List.nil_append,List.length_singleton]
   have:(nils (cap - O.length)).drop (O.length+1 - O.length)=nils (cap - (O++[c]).length):=by
    simp only [nils,List.drop_replicate,List.length_append,List.length_singleton]
    congr 1
    omega
   rw [this]
   rfl
  rw [e]
  refine ⟨_,rfl,inertR_set hh _ (zf7 _ _),.inr ⟨hne2,id,cap,hid,by simp,?_,by simp;omega,hm⟩,fun i hi=>?_,by simp⟩
  ·exact List.getElem?_set_self (List.getElem?_eq_some_iff.1 hj).1
  ·exact List.getElem?_set_ne (show id≠i from fun e=>hid (by rw [e];exact hi))
 ·have e:(yk8 O cap).take O.length++[.lst .any 1 (byL c)]++repC (cap' - (O.length+1)) (AV.lst .nil 1 []).cells=yk8 (O++[c]) cap':=by
   unfold yk8
   have hb:(bbL O).length=O.length:=by simp
   rw [show (bbL O++nils (cap - O.length)).take O.length=bbL O by rw [← hb,List.take_left],show (AV.lst .nil 1 []).cells=[AV.lst .nil 1 []] from rfl,repC_nils,uv9]
   simp [wh9]
  rw [e]
  refine ⟨_,rfl,kq8 hh (zf7 _ _),.inr ⟨hne2,s.h.length,cap',fun hh2=>absurd (hF _ hh2) (Nat.lt_irrefl _),by simp,by simp,by simp;omega,h3⟩,fun i hi=>?_,by simp⟩
  exact List.getElem?_append_left (hF i hi)
def cutN (d:Dcb) (b:List UInt8):Int:=if d.fmt == 1 then d.lrecl else if d.fmt == 2 then descd b - 4 else b.length
def cutB (d:Dcb) (b:List UInt8):List UInt8:=if d.fmt == 2 then b.drop 4 else b
def kh9 (d : Dcb) : Nat → List UInt8 → List (List UInt8) → List (List UInt8) × Bool
 | 0,_,O=>(O,true)
 | k+1,b,O=>if b=[] then (O,true) else
   if cutN d b < 0∨((cutB d b).length:Int) < cutN d b∨vv9 d (cutN d b)=false then (O,false)
   else kh9 d k ((cutB d b).drop (cutN d b).toNat) (O++[(cutB d b).take (cutN d b).toNat])
def uq9 (d:Dcb) (b:List UInt8) (O:List (List UInt8)):List (List UInt8) × Bool :=
 if d.size < b.length then (O,false) else
 if d.fmt == 2 then (if descd b=b.length then kh9 d b.length (b.drop 4) O else (O,false)) else kh9 d b.length b O
theorem descd_len {b:List UInt8} (h:0≤descd b):4≤b.length:=by
 match b,h with
 | [],h=>simp [descd] at h
 | [_],h=>simp [descd] at h
 | [_,_],h=>simp [descd] at h
 | [_,_,_],h=>simp [descd] at h
 | _ :: _ :: _ :: _ :: _,_=>simp
theorem descd_rng (b:List UInt8):-1≤descd b∧descd b≤65535:=by
 match b with
 | []=>simp [descd]
 | [_]=>simp [descd]
 | [_,_]=>simp [descd]
 | [_,_,_]=>simp [descd]
 | b0 :: b1 :: _ :: _ :: _ =>
  have:=b0.toNat_lt
  have:=b1.toNat_lt
  simp only [descd]
  split
  ·split
   ·omega
   ·omega
  ·omega
set_option maxRecDepth 20000
def splitQ (h:List AObj) (p:List (List UInt8) × Bool) (r:AV) (h':List AObj):Prop :=
 ∃ x',r=.tup [x',.v (.bool p.2)]∧yv8 [0] h' x' p.1∧zq8 h'∧h'[0]?=h[0]?∧h.length≤h'.length
theorem recs_under {F:List Nat} {h:List AObj} {x:AV} {O:List (List UInt8)} (hx:yv8 F h x O):x.under h.length=true:=by
 rcases hx with ⟨_,rfl⟩ | ⟨_,id,cap,_,rfl,hj,_⟩
 ·simp [AV.under]
 ·simp only [AV.under,decide_eq_true_eq]
  exact (List.getElem?_eq_some_iff.1 hj).1
theorem recs_sub {F G:List Nat} {h:List AObj} {x:AV} {O:List (List UInt8)} (hx:yv8 F h x O) (hs:∀ i∈G,i∈F):yv8 G h x O:=by
 rcases hx with h0 | ⟨h1,id,cap,h2,h3⟩
 ·exact .inl h0
 ·exact .inr ⟨h1,id,cap,fun hh=>h2 (hs _ hh),h3⟩
theorem split_callW (d : Dcb) (b : List UInt8) (O : List (List UInt8)) (x : AV) (hp : List AObj) (hd : zn9 d = 0) (hb : b.length ≤ 1000000000) (hO : O.length ≤ 1950000000) (hh : zq8 hp) (h0 : 0 < hp.length) (hx : yv8 [0] hp x O) :
  ww9 Tryz.prog 109 [dcbA d,.lst .any 1 (byL b),x] hp (splitQ hp (uq9 d b O)):=by
 refine zd9 Tryz.func109 rfl (by decide +kernel) (by simp [Tryz.f109]) (rs:=[.tmp 6,.tmp 7]) rfl ?_
 rw [show Tryz.f109.ntmps=69 from rfl]
 have hret : ∀ (H : List AObj) (x' : AV) (O' : List (List UInt8)) (ok : Bool), uq9 d b O = (O', ok) → zq8 H → yv8 [0] H x' O' → H[0]? = hp[0]? → hp.length ≤ H.length →
   retW Tryz.prog [.tmp 6,.tmp 7] hp.length (splitQ hp (uq9 d b O)) .ret ⟨69,[(6,x'),(7,.v (.bool ok))],H⟩:=by
  intro H x' O' ok hsp h1 h2 h3 h4
  refine ⟨.inr rfl,.tup [x',.v (.bool ok)],.tup [x',.v (.bool ok)],H,H.length,by simp [resA,resL],.inl ⟨rfl,rfl⟩,h4,Nat.le_refl _,?_,?_,?_⟩
  ·simp only [AV.under,AV.underL,recs_under h2,Bool.and_true]
  ·rw [List.take_length];exact inertR_under h1 _
  ·rw [List.take_length,hsp]
   exact ⟨x',rfl,h2,h1,h3,h4⟩
 obtain ⟨c1,c2,c3,c4,c5,c6⟩:=ys8 hd
 have hlf:=zm6 c3 c4 c5
 obtain ⟨H0,hH0⟩:∃ H0,hp++[AObj.cells 23 (dcbC d)]=H0:=⟨_,rfl⟩
 have hH0l:H0.length=hp.length+1:=by rw [← hH0];simp
 have hi0:zq8 H0:=by rw [← hH0];exact kq8 hh (dcb_inert d)
 have hg0:H0[hp.length]?=some (.cells 23 (dcbC d)):=by rw [← hH0];simp
 have h00:H0[0]?=hp[0]?:=by rw [← hH0];exact List.getElem?_append_left h0
 have hx0:yv8 [0,hp.length] H0 x O:=by
  rcases hx with h1 | ⟨h1,id,cap,h2,h3,h4,h5⟩
  ·exact .inl h1
  ·have hid:=(List.getElem?_eq_some_iff.1 h4).1
   refine .inr ⟨h1,id,cap,?_,h3,?_,h5⟩
   ·simp at h2 ⊢;omega
   ·rw [← hH0];rw [List.getElem?_append_left hid];exact h4
 have hx00:yv8 [0] H0 x O:=recs_sub hx0 (by simp)
 refine vs9 (fun s=>s=⟨69,[(1,.lst .any 1 (byL b)),(2,x),(3,.loc hp.length 0)],H0⟩) ?_ ?_
 ·refine zr9 [1,2,3] (by simp;rfl) ?_
  simp [zw9,← hH0,dcbC]
 rintro _ rfl
 refine yh9 ?_
 by_cases a1:d.size < b.length
 ·have hsp:uq9 d b O=(O,false):=by unfold uq9;rw [if_pos a1]
  refine W_cT [1,2,3,13] (by simp [hg0,dcbC,a1];rfl) rfl ?_
  refine yr9 [6,7] (by simp;rfl) ?_
  refine yj9 ?_
  repeat (first | refine yp9 ?_ | refine ys9 ?_)
  exact hret H0 x O false hsp hi0 hx00 h00 (by omega)
 refine W_cF [1,2,3,13] (by simp [hg0,dcbC,a1];rfl) rfl ?_
 refine yg9 ?_
 refine jk7 (fun s=>∃ b1,uq9 d b O=kh9 d b.length b1 O∧b1.length≤b.length∧s=⟨69,[(1,.lst .any 1 (byL b1)),(2,x),(3,.loc hp.length 0)],H0⟩) ?_ ?_
 ·rcases Bool.eq_false_or_eq_true (d.fmt == 2) with h1 | h1
  ·refine W_cT [1, 2, 3, 17] (by simp [hg0, dcbC, h1]; rfl) rfl ?_
   refine yh9 ?_
   by_cases a2:descd b=b.length
   ·have h4:4≤b.length:=descd_len (by omega)
    have hsp:uq9 d b O=kh9 d b.length (b.drop 4) O:=by unfold uq9;rw [if_neg a1,if_pos h1,if_pos a2]
    refine W_rK [1,2,3,22] ?_
    refine yq9 1 (by simp;rfl) rfl ?_
    refine yf9 (by simp) (by first | (simp;done) | (simp;rfl)) (kf8 b) (by simp;rfl) ?_
    refine yw9 (by simp [a2];rfl) ?_
    refine yt9 rfl (fun h=>by simp at h) (fun h=>?_)
    refine yg9 ?_
    have h4i:(4:Int)≤b.length:=by omega
    refine zr9 [1,2,3] (by simp [h4,h4i,← zt8];rfl) ?_
    exact ⟨_,hsp,by simp,by simp⟩
   ·have hsp:uq9 d b O=(O,false):=by unfold uq9;rw [if_neg a1,if_pos h1,if_neg a2]
    have a2':(descd b != (b.length:Int))=true:=by simpa using a2
    refine W_rK [1,2,3,22] ?_
    refine yq9 1 (by simp;rfl) rfl ?_
    refine yf9 (by simp) (by first | (simp;done) | (simp;rfl)) (kf8 b) (by simp;rfl) ?_
    refine yw9 (by simp [a2'];rfl) ?_
    refine yt9 rfl (fun h=>?_) (fun h=>by simp at h)
    refine yr9 [6,7] (by simp;rfl) ?_
    refine yj9 ?_
    repeat (first | refine yp9 ?_ | refine ys9 ?_)
    exact hret H0 x O false hsp hi0 hx00 h00 (by omega)
  ·have hsp:uq9 d b O=kh9 d b.length b O:=by unfold uq9;rw [if_neg a1,h1];rfl
   refine W_cF [1,2,3,17] (by simp [hg0,dcbC,h1];rfl) rfl ?_
   refine ym9 [1,2,3] (yg9 ?_)
   exact ⟨_,hsp,Nat.le_refl _,by simp⟩
 rintro _ ⟨b1,hsp,hb1,rfl⟩
 refine yh9 ?_
 refine yl9 ?_
 refine zj9 (fun k s => ∃ (b2 : List UInt8) (O2 : List (List UInt8)) (x2 : AV) (H : List AObj), b2.length ≤ k ∧ b2.length ≤ b.length ∧ uq9 d b O = kh9 d k b2 O2 ∧ O2.length + k ≤ O.length + b.length ∧ yv8 [0, hp.length] H x2 O2 ∧ zq8 H ∧ H[0]? = hp[0]? ∧ H[hp.length]? = some (.cells 23 (dcbC d)) ∧ hp.length < H.length ∧
   s=⟨69,[(1,.lst .any 1 (byL b2)),(2,x2),(3,.loc hp.length 0)],H⟩) (k:=b.length) ⟨b1,O,x,H0,hb1,hb1,hsp,Nat.le_refl _,hx0,hi0,h00,hg0,by omega,by simp⟩ ?_
 clear hsp hb1 hx0 hi0 h00 hg0 hx00 hH0l hH0
 rintro k s ⟨b2,O2,x2,H,hk,hb2,hsp,hOl,hx2,hiH,hH00,hg,hHl,rfl⟩
 have hx20:yv8 [0] H x2 O2:=recs_sub hx2 (by simp)
 refine yh9 ?_
 by_cases e:b2=[]
 ·subst e
  have hsp2:uq9 d b O=(O2,true):=by
   rw [hsp]
   cases k with
   | zero=>rfl
   | succ k=>rw [kh9,if_pos rfl]
  refine W_cF [1,2,3,28] (by simp;rfl) rfl ?_
  refine zs9 ?_
  refine yr9 [6,7] (by simp;rfl) ?_
  refine yj9 ?_
  repeat (first | refine yp9 ?_ | refine ys9 ?_)
  exact hret H x2 O2 true hsp2 hiH hx20 hH00 (by omega)
 have hlen:b2.length≠0:=fun h=>e (List.eq_nil_of_length_eq_zero h)
 have hleni:(0:Int) < b2.length:=by omega
 have hlenn:0 < b2.length:=by omega
 obtain ⟨k,rfl⟩:∃ m,k=m+1:=⟨k - 1,by omega⟩
 rw [kh9,if_neg e] at hsp
 refine W_cT [1,2,3,28] (by simp [hleni,hlenn];rfl) rfl ?_
 refine yg9 ?_
 refine yl9 ?_
 refine yr9 [1,2,3,8] (by simp;rfl) ?_
 have hrg:=descd_rng b2
 refine jk7 (fun s=>¬ cutN d b2 < 0∧(cutB d b2).length≤b2.length∧s=⟨69,[(1,.lst .any 1 (byL (cutB d b2))),(2,x2),(3,.loc hp.length 0),(8,.v (.int .i64 (cutN d b2)))],H⟩) ?_ ?_
 ·rcases hlf with ⟨e1, e2, e3⟩ | ⟨e1, e2, e3⟩ | ⟨e1, e2, e3⟩
  ·have hN:cutN d b2=d.lrecl:=by unfold cutN;rw [if_pos (by simpa using e1)]
   have hB:cutB d b2=b2:=by unfold cutB;rw [e1];rfl
   rw [hN,hB]
   have e1b:(d.fmt == 1)=true:=by simpa using e1
   refine yr9 [1,2,3,8,32] (by simp [hg,dcbC];rfl) ?_
   refine yl9 ?_
   refine W_cT [1,2,3,8,32,33] (by simp [e1b];rfl) rfl ?_
   refine zr9 [1,2,3,8] (by simp [hg,dcbC];rfl) ?_
   exact ⟨by omega,Nat.le_refl _,by simp⟩
  ·have hN : cutN d b2 = descd b2 - 4 := by unfold cutN; rw [e1]; rfl
   have hB:cutB d b2=b2.drop 4:=by unfold cutB;rw [e1];rfl
   have e1b:(d.fmt == 1)=false:=by rw [e1];rfl
   have e2b:(d.fmt == 2)=true:=by simpa using e1
   have wd:IntKind.i64.wrap (descd b2 - 4)=descd b2 - 4:=w64 (by omega) (by omega)
   refine yr9 [1,2,3,8,32] (by simp [hg,dcbC];rfl) ?_
   refine yl9 ?_
   refine W_cF [1,2,3,8,32,33] (by simp [e1b];rfl) rfl ?_
   refine W_cT [1,2,3,8,37] (by simp [e2b];rfl) rfl ?_
   refine W_rK [1,2,3,8] ?_
   refine yq9 1 (by simp;rfl) rfl ?_
   refine yf9 (by simp) (by first | (simp;done) | (simp;rfl)) (kf8 b2) (by simp;rfl) ?_
   refine yw9 (by simp [wd];rfl) ?_
   refine yh9 ?_
   by_cases z:descd b2 - 4 < 0
   ·have hsp2:uq9 d b O=(O2,false):=by rw [hsp,if_pos (.inl (by rw [hN];exact z))]
    refine W_cT [1,2,3,8,43] (by simp [z];rfl) rfl ?_
    refine yr9 [6,7] (by simp;rfl) ?_
    refine yj9 ?_
    repeat (first | refine yp9 ?_ | refine ys9 ?_)
    exact hret H x2 O2 false hsp2 hiH hx20 hH00 (by omega)
   have h4:4≤b2.length:=descd_len (by omega)
   have h4i:(4:Int)≤b2.length:=by omega
   refine W_cF [1,2,3,8,43] (by simp [z];rfl) rfl ?_
   refine yg9 ?_
   refine zr9 [1,2,3,8] (by simp [h4,h4i,← zt8];rfl) ?_
   rw [hN,hB]
   exact ⟨z,by simp,by simp⟩
  ·have hN:cutN d b2=b2.length:=by unfold cutN;rw [e1];rfl
   have hB:cutB d b2=b2:=by unfold cutB;rw [e1];rfl
   have e1b:(d.fmt == 1)=false:=by rw [e1];rfl
   have e2b:(d.fmt == 2)=false:=by rw [e1];rfl
   rw [hN,hB]
   refine yr9 [1,2,3,8,32] (by simp [hg,dcbC];rfl) ?_
   refine yl9 ?_
   refine W_cF [1,2,3,8,32,33] (by simp [e1b];rfl) rfl ?_
   refine W_cF [1,2,3,8,37] (by simp [e2b];rfl) rfl ?_
   refine ym9 [1,2,3,8] (yg9 ?_)
   exact ⟨by omega,Nat.le_refl _,by simp⟩
 rintro _ ⟨hN0,hBl,rfl⟩
 obtain ⟨n,hn⟩:∃ n:Nat,cutN d b2=n:=⟨(cutN d b2).toNat,by omega⟩
 obtain ⟨B,hB⟩:∃ B,cutB d b2=B:=⟨_,rfl⟩
 rw [hn,hB] at hsp ⊢
 rw [hB] at hBl
 refine yh9 ?_
 by_cases a3:B.length < n
 ·have a3i:(B.length:Int) < n:=by omega
  have hsp2:uq9 d b O=(O2,false):=by rw [hsp,if_pos (.inr (.inl a3i))]
  refine W_rK [1,2,3,8,56] ?_
  refine yq9 7 (by simp [a3,a3i];rfl) rfl ?_
  refine yw9 (by simp;rfl) ?_
  refine yt9 rfl (fun h=>?_) (fun h=>by simp at h)
  refine yr9 [6,7] (by simp;rfl) ?_
  refine yj9 ?_
  repeat (first | refine yp9 ?_ | refine ys9 ?_)
  exact hret H x2 O2 false hsp2 hiH hx20 hH00 (by omega)
 have a3i:¬ (B.length:Int) < n:=by omega
 refine W_rK [1,2,3,8,56] ?_
 refine yq9 7 (by simp [a3,a3i,hg,dcbC];rfl) rfl ?_
 refine yf9 (by simp) (by first | (simp;done) | (simp;rfl)) (xj6 d n) (by simp;rfl) ?_
 rcases Bool.eq_false_or_eq_true (vv9 d n) with hf | hf
 rotate_left
 ·have hsp2:uq9 d b O=(O2,false):=by rw [hsp,if_pos (.inr (.inr hf))]
  refine yw9 (by simp [hf];rfl) ?_
  refine yt9 rfl (fun h=>?_) (fun h=>by simp at h)
  refine yr9 [6,7] (by simp;rfl) ?_
  refine yj9 ?_
  repeat (first | refine yp9 ?_ | refine ys9 ?_)
  exact hret H x2 O2 false hsp2 hiH hx20 hH00 (by omega)
 obtain ⟨f1,f2,f3,f4⟩:=jf9 hd hf
 rw [if_neg (by rintro (h1 | h1 | h1);exact absurd h1 (by omega);exact a3i h1;rw [hf] at h1;cases h1),Int.toNat_natCast] at hsp
 refine yw9 (by simp [hf];rfl) ?_
 refine yt9 rfl (fun h=>by simp at h) (fun h=>?_)
 refine yg9 ?_
 have hnB:n≤B.length:=by omega
 have hnBi:(n:Int)≤B.length:=by omega
 have hcl:=jw7 (B.take n) (by simp;omega)
 obtain ⟨c,hc⟩:∃ c,B.take n=c:=⟨_,rfl⟩
 rw [hc] at hcl hsp
 have hOl2:O2.length≤2000000000:=by omega
 have hdl:(B.drop n).length+1≤b2.length:=by simp;omega
 have hFl:∀ i∈[0,hp.length],i < H.length:=by
  intro i hi
  simp at hi
  rcases hi with rfl | rfl <;> omega
 refine vs9 (fun s=>∃ x3 H3,yv8 [0,hp.length] H3 x3 (O2++[c])∧zq8 H3∧H3[0]?=hp[0]?∧H3[hp.length]?=some (.cells 23 (dcbC d))∧hp.length < H3.length∧s=⟨69,[(1,.lst .any 1 (byL B)),(2,x3),(3,.loc hp.length 0),(8,.v (.int .i64 n))],H3⟩) ?_ ?_
 ·rcases hx2 with ⟨g1, rfl⟩ | ⟨g1, id, cap, g2, rfl, g4, g5, g6⟩
  ·rw [g1, List.nil_append]
   refine W_rE [1,2,3,8] ?_
   refine yq9 4 (by simp [hnB,hnBi,← qs9,hc];rfl) rfl ?_
   refine yf9 (by simp) (by first | (simp;done) | (simp;rfl)) hcl (by simp;rfl) ?_
   refine yq9 1 (by simp;rfl) rfl ?_
   refine vs6 (s0:=1) (x0:=[]) (oy:=.tip 90 254) (ys:=[.lst .any 1 (byL c)]) (by simp) rfl rfl rfl rfl (by simp) (by simp) s25 a90 z90 (by simp) (by simp [catK,AV.cellsK,AV.kone,AV.koneL];rfl) (by simp) (by simp) ?_
   intro cap' hc1 hc2
   refine ⟨_,by simp;rfl,?_⟩
   refine yw9 (by simp;rfl) ?_
   have hrc:AV.weakL [AV.lst Fl.any 1 (byL c)]++repC (cap' - [AV.lst Fl.any 1 (byL c)].length) (AV.lst .nil 1 []).cells=yk8 [c] cap':=by
    rw [show (AV.lst .nil 1 []).cells=[AV.lst .nil 1 []] from rfl,repC_nils]
    simp [yk8,wh9,AV.weakL,AV.weak,Fl.wk]
   have hn:=recs_new (F:=[0,hp.length]) (h:=H) (c:=c) (cap:=cap') hFl (by simpa using hc1) hc2
   refine ⟨_,_,hn,kq8 hiH (zf7 _ _),?_,?_,by simp;omega,by rw [← hrc];simp⟩
   ·rw [List.getElem?_append_left (by omega)];exact hH00
   ·rw [List.getElem?_append_left hHl];exact hg
  ·refine W_rE [1, 2, 3, 8] ?_
   refine yq9 4 (by simp [hnB,hnBi,← qs9,hc];rfl) rfl ?_
   refine yf9 (by simp) (by first | (simp;done) | (simp;rfl)) hcl (by simp;rfl) ?_
   refine yq9 1 (by simp;rfl) rfl ?_
   refine vd6 (id:=id) (len:=O2.length) (cap:=cap) (oy:=.tip 90 254) (ys:=[.lst .any 1 (byL c)]) (cs:=yk8 O2 cap) (by simp) rfl rfl rfl rfl (by simp) (by simp) s25 a90 z90 (by simp) (by simp [g4]) (by simp [yk8,nils];omega) (by simp [catK,AV.cellsK,AV.kone,AV.koneL];rfl) (by simp;omega) ?_
   intro s1 x1' happ
   obtain ⟨H',rfl,j1,j2,j3,j4⟩:=recs_app (F:=[0,hp.length]) (c:=c) hiH (fun i hi=>hFl i hi) g2 g1 g4 g5 g6 happ
   have hx1:∃ id' cap',x1'=.arr id' 0 (O2++[c]).length cap':=by
    rcases j2 with ⟨z,_⟩ | ⟨_,id',cap',_,z,_⟩
    ·simp at z
    ·exact ⟨id',cap',z⟩
   obtain ⟨id',cap',rfl⟩:=hx1
   refine ⟨_,by simp;rfl,?_⟩
   refine yw9 (by simp;rfl) ?_
   refine ⟨_,H',j2,j1,(j3 0 (by simp)).trans hH00,(j3 hp.length (by simp)).trans hg,Nat.lt_of_lt_of_le hHl j4,by simp⟩
 rintro _ ⟨x3,H3,k1,k2,k3,k4,k5,rfl⟩
 refine zr9 [1,2,3] (by simp [hnB,hnBi,← zt8];rfl) ?_
 refine ⟨_,Nat.lt_succ_self k,B.drop n,O2++[c],x3,H3,by omega,by omega,hsp,by simp;omega,k1,k2,k3,k4,k5,by simp⟩
set_option maxRecDepth 20000
def qh8 (d:Dcb) (n:Nat) (p:List (List UInt8) × Bool):Bool:=!p.2 || (p.1.length == n || (!d.blk&&decide (n+1 < p.1.length)))
def unbGo (d : Dcb) : List (List UInt8) → List (List UInt8) → Option (List (List UInt8))
 | [],O=>some O
 | b :: l,O=>if qh8 d O.length (uq9 d b O)=true then none else unbGo d l (uq9 d b O).1
def finU : Option (List (List UInt8)) → List (List UInt8) × Int
 | none=>([],220)
 | some O=>if 4096 < O.length then ([],2) else (O,0)
def unbM (d:Dcb) (l:List (List UInt8)):List (List UInt8) × Int:=if zn9 d=0 then finU (unbGo d l []) else ([],zn9 d)
theorem qk8 (d : Dcb) : ∀ (k : Nat) (b : List UInt8) (O : List (List UInt8)), (kh9 d k b O).1.length ≤ O.length + k
 | 0,b,O=>by simp [kh9]
 | k+1,b,O=>by
  rw [kh9]
  split
  ·simp
  ·split
   ·simp
   ·have:=qk8 d k ((cutB d b).drop (cutN d b).toNat) (O++[(cutB d b).take (cutN d b).toNat])
    simp at this
    omega
theorem splitM_len {d:Dcb} (hc:zn9 d=0) (b:List UInt8) (O:List (List UInt8)):(uq9 d b O).1.length≤O.length+1024:=by
 obtain ⟨_,_,_,c4,_,_⟩:=ys8 hc
 unfold uq9
 split
 ·simp
 ·rename_i h
  have hl:b.length≤1024:=by omega
  split
  ·split
   ·have:=qk8 d b.length (b.drop 4) O;omega
   ·simp
  ·have:=qk8 d b.length b O;omega
theorem chunk1 : ∀ (l : List AV), chunk false 1 l.length l = l
 | []=>rfl
 | x :: l=>by simp only [chunk,List.length_cons,List.headD_cons,List.drop_succ_cons,List.drop_zero,Bool.false_eq_true,if_false];rw [chunk1 l]
theorem uj7 (O:List (List UInt8)) (cap:Nat):(yk8 O cap).take (O.length * 1)=bbL O:=by
 have hb:(bbL O).length=O.length:=by simp
 rw [Nat.mul_one,yk8,← hb,List.take_left]
theorem unb_sound (d:Dcb) (l:List (List UInt8)) (hl:l.length≤1900000) (hr:∀ r∈l,r.length≤1000000000):Sound Tryz.prog 71 [dcbA d,.lst .any 1 (bbL l)] (resB (unbM d l)):=by
 refine xw9 Tryz.func71 rfl (by decide +kernel) (by simp [Tryz.f71]) rfl rfl (rs:=[.tmp 4,.tmp 5]) rfl ?_
 rw [show Tryz.f71.ntmps=57 from rfl]
 refine yr9 [1,2] (by simp;rfl) ?_
 refine yh9 ?_
 refine W_rK [1,2,6] ?_
 refine yq9 1 (by simp;rfl) rfl ?_
 refine yf9 (by simp) (by first | (simp;done) | (simp;rfl)) (kg8 d) (by simp;rfl) ?_
 refine yw9 (by simp;rfl) ?_
 by_cases hc:zn9 d=0
 rotate_left
 ·have hcn:(zn9 d != 0)=true:=by simpa using hc
  refine W_cT [1,2,6,15] (by simp [hcn];rfl) rfl ?_
  refine yr9 [4,5] (by simp;rfl) ?_
  refine yj9 ?_
  repeat (first | refine yp9 ?_ | refine ys9 ?_)
  have e:unbM d l=([],zn9 d):=by unfold unbM;rw [if_neg hc]
  rw [e]
  exact ⟨.tup [.lst .nil 1 [],.v (.int .i64 (zn9 d))],by simp [retQ],.tup2 (.nil (by decide +kernel)) (.refl _)⟩
 have hcn:(zn9 d != 0)=false:=by simpa using hc
 have hbm:unbM d l=finU (unbGo d l []):=by unfold unbM;rw [if_pos hc]
 refine W_cF [1,2,6,15] (by simp [hcn];rfl) rfl ?_
 refine yg9 ?_
 refine yr9 [1,2,7] (by simp;rfl) ?_
 refine yh9 ?_
 refine yr9 [2,7,17,18,19] (by simp;rfl) ?_
 refine yl9 ?_
 refine zj9 (fun k s => ∃ (i : Nat) (O : List (List UInt8)) (x : AV) (H : List AObj), k = l.length - i ∧ i ≤ l.length ∧ unbGo d l [] = unbGo d (l.drop i) O ∧ O.length ≤ 1024 * i ∧ yv8 [0] H x O ∧ zq8 H ∧ H[0]? = some (.cells 23 (dcbC d)) ∧
   s=⟨57,[(2,.loc 0 0),(7,x),(17,.lst .any 1 (bbL l)),(18,.v (.int .i64 (l.length:Nat))),(19,.v (.int .i64 (i:Nat)))],H⟩)
  (k:=l.length) ⟨0,[],.lst .nil 1 [],[.cells 23 (dcbC d)],rfl,by omega,rfl,by simp,.inl ⟨rfl,rfl⟩,(fun o ho=>by rw [List.mem_singleton.1 ho];exact dcb_inert d),rfl,by simp [dcbC]⟩ ?_
 rintro k s ⟨i,O,x,H,rfl,hi,hgo,hOl,hx,hiH,hH0,rfl⟩
 by_cases a:i < l.length
 rotate_left
 ·refine yr9 [2, 7, 17, 18, 19, 20] (by simp [a]; rfl) ?_
  refine yh9 ?_
  refine yt9 rfl (fun h=>by simp at h) (fun h=>?_)
  refine zs9 ?_
  have hie:i=l.length:=by omega
  subst hie
  rw [List.drop_length,unbGo] at hgo
  rw [hgo] at hbm
  simp only [finU] at hbm
  refine yh9 ?_
  by_cases z:4096 < O.length
  ·have zi : (4096 : Int) < O.length := by omega
   rw [if_pos z] at hbm
   refine vs9 (fun s=>∃ H,s=⟨57,[(7,x),(55,.v (.bool true))],H⟩) ?_ ?_
   ·rcases hx with ⟨g1, rfl⟩ | ⟨g1, id, cap, g2, rfl, g4, g5, g6⟩
    ·rw [g1] at z;simp at z
    ·refine zr9 [7,55] (by simp [zi,z];rfl) ?_
     exact ⟨_,by simp;rfl⟩
   rintro _ ⟨H,rfl⟩
   refine yt9 rfl (fun h=>?_) (fun h=>by simp at h)
   refine yr9 [4,5] (by simp;rfl) ?_
   refine yj9 ?_
   repeat (first | refine yp9 ?_ | refine ys9 ?_)
   rw [hbm]
   exact ⟨.tup [.lst .nil 1 [],.v (.int .i64 2)],by simp [retQ],.tup2 (.nil (by decide +kernel)) (.refl _)⟩
  have zi:¬ (4096:Int) < O.length:=by omega
  rw [if_neg z] at hbm
  rw [hbm]
  rcases hx with ⟨g1,rfl⟩ | ⟨g1,id,cap,g2,rfl,g4,g5,g6⟩
  ·rw [g1]
   refine W_cF [7,55] (by simp;rfl) rfl ?_
   refine yg9 ?_
   refine yr9 [4,5] (by simp;rfl) ?_
   refine yj9 ?_
   repeat (first | refine yp9 ?_ | refine ys9 ?_)
   exact ⟨.tup [.lst .nil 1 [],.v (.int .i64 0)],by simp [retQ],.tup2 (.nil (by decide +kernel)) (.refl _)⟩
  ·refine W_cF [7, 55] (by simp [zi, z]; rfl) rfl ?_
   refine yg9 ?_
   refine ym9 [7] ?_
   refine W_tip 7 (tk:=1) (ty:=90) (sz:=1) (ag:=false) rfl (by decide) g4 (by simp) (by omega) (.inr rfl) (by simp [yk8,nils];omega) (by rw [uj7];simp) (by rw [uj7];simp) ?_
   have hch:chunk false 1 O.length (bbL O)=bbL O:=by
    have:=chunk1 (bbL O)
    rwa [bbL_length] at this
   rw [uj7,weakL_bbL,hch]
   refine yr9 [4,5] (by simp [putF];rfl) ?_
   refine yj9 ?_
   repeat (first | refine yp9 ?_ | refine ys9 ?_)
   exact ⟨.tup [.lst (.tip 90 1) 1 (bbL O),.v (.int .i64 0)],by simp [retQ],.refl _⟩
 have ai:(i:Int) < l.length:=by omega
 obtain ⟨b,hbi⟩:∃ b,l[i]?=some b:=⟨_,List.getElem?_eq_getElem a⟩
 have hb2:l[i]'a=b:=by rw [List.getElem?_eq_getElem a] at hbi;exact Option.some.inj hbi
 have hbl:=hr b (List.mem_of_getElem? hbi)
 rw [List.drop_eq_getElem_cons a,hb2,unbGo] at hgo
 refine yr9 [2,7,17,18,19,20] (by simp [a];rfl) ?_
 refine yh9 ?_
 refine yt9 rfl (fun h=>?_) (fun h=>by simp at h)
 refine yg9 ?_
 refine yh9 ?_
 refine yl9 ?_
 refine yr9 [2,7,17,18,19,9] (by simp [a,ai,hb2];rfl) ?_
 refine vs9 (fun s=>s=⟨57,[(2,.loc 0 0),(7,x),(17,.lst .any 1 (bbL l)),(18,.v (.int .i64 (l.length:Nat))),(19,.v (.int .i64 (i:Nat))),(9,.lst .any 1 (byL b)),(10,.v (.int .i64 (O.length:Nat)))],H⟩) ?_ ?_
 ·rcases hx with ⟨g1, rfl⟩ | ⟨g1, id, cap, g2, rfl, g4, g5, g6⟩
  ·rw [g1]
   refine zr9 [2,7,17,18,19,9,10] (by simp;rfl) ?_
   simp [zw9]
  ·refine zr9 [2,7,17,18,19,9,10] (by simp;rfl) ?_
   simp [zw9]
 rintro _ rfl
 refine yr9 [2,7,17,18,19,9,10] (by simp;rfl) ?_
 have h0:0 < H.length:=(List.getElem?_eq_some_iff.1 hH0).1
 have hsc:=split_callW d b O x H hc hbl (by omega) hiH h0 hx
 have hspl:=splitM_len hc b O
 obtain ⟨p,hp⟩:∃ p,uq9 d b O=p:=⟨_,rfl⟩
 rw [hp] at hsc hgo hspl
 obtain ⟨O2,ok⟩:=p
 simp only at hgo hspl
 refine W_rK [2,7,17,18,19,10,11] ?_
 refine yq9 3 (by simp [hH0,dcbC];rfl) rfl ?_
 refine xs9 (f:=109) (args:=[dcbA d,.lst .any 1 (byL b),x]) (by simp) (by simp) (hsc.mono ?_)
 rintro r h' ⟨x2,rfl,hx2,hi2,h02,hl2⟩
 have h0':h'[0]?=some (.cells 23 (dcbC d)):=h02.trans hH0
 simp only at hx2
 refine ⟨_,by simp;rfl,?_⟩
 refine yw9 (by simp;rfl) ?_
 refine W_lastK (fun s=>qh8 d O.length (O2,ok)=false∧s=⟨57,[(2,.loc 0 0),(7,x2),(17,.lst .any 1 (bbL l)),(18,.v (.int .i64 (l.length:Nat))),(19,.v (.int .i64 (i:Nat)))],h'⟩) ?_ ?_
 ·have hfail:qh8 d O.length (O2,ok)=true→unbM d l=([],220):=by
   intro h
   rw [hbm,hgo,if_pos h];rfl
  cases ok with
  | false =>
   have hst:qh8 d O.length (O2,false)=true:=rfl
   refine W_rK [2,7,17,18,19,51] ?_
   iterate 2 refine yq9 6 (by simp;rfl) rfl ?_
   refine yw9 (by simp;rfl) ?_
   refine yt9 rfl (fun h=>?_) (fun h=>by simp at h)
   refine yr9 [4,5] (by simp;rfl) ?_
   refine yj9 ?_
   repeat (first | refine yp9 ?_ | refine ys9 ?_)
   rw [hfail hst]
   exact ⟨.tup [.lst .nil 1 [],.v (.int .i64 220)],by simp [retQ],.tup2 (.nil (by decide +kernel)) (.refl _)⟩
  | true =>
   have hst:qh8 d O.length (O2,true)=(O2.length == O.length || (!d.blk&&decide (O.length+1 < O2.length))):=rfl
   obtain ⟨n2,hn2⟩:∃ n2,O2.length=n2:=⟨_,rfl⟩
   rw [hn2] at hst hspl
   refine vs9 (fun s=>s=⟨57,[(2,.loc 0 0),(7,x2),(17,.lst .any 1 (bbL l)),(18,.v (.int .i64 (l.length:Nat))),(19,.v (.int .i64 (i:Nat))),(51,.v (.bool (qh8 d O.length (O2,true))))],h'⟩) ?_ ?_
   ·have w1 : IntKind.i64.wrap ((O.length : Int) + 1) = ((O.length + 1 : Nat) : Int) := by rw [w64 (by omega) (by omega)]; omega
    rw [hst]
    obtain ⟨m,hm⟩:∃ m,O.length=m:=⟨_,rfl⟩
    rw [hm] at w1 ⊢
    have e0:((n2:Int) == (m:Int))=(n2 == m):=by rw [Bool.eq_iff_iff];simp;omega
    have e3:decide (((m+1:Nat):Int) < (n2:Int))=decide (m+1 < n2):=by rw [Bool.eq_iff_iff];simp;omega
    rcases hx2 with ⟨g1,rfl⟩ | ⟨g1,id,cap,g2,rfl,g4,g5,g6⟩
    ·have n0 : n2 = 0 := by rw [← hn2, g1]; rfl
     subst n0
     have e4:(((0:Nat):Int) == (m:Int))=(0 == m):=e0
     rcases Bool.eq_false_or_eq_true (0 == m) with q | q
     ·simp only [q,Bool.true_or] at e4 ⊢
      simp at e4
      refine W_rE [2,7,17,18,19,51] ?_
      refine yq9 6 (by simp;rfl) rfl ?_
      refine yq9 6 (by simp [← e4];rfl) rfl ?_
      refine yw9 (by simp;rfl) ?_
      simp [zw9]
     ·have q' : ¬ 0 = m := by simpa using q
      have q2:((0:Int) == (m:Int))=false:=by simp;omega
      have q3:¬ m+1 < 0:=by omega
      simp only [q,Bool.false_or,decide_eq_false q3,Bool.and_false]
      rcases Bool.eq_false_or_eq_true d.blk with hb | hb
      ·refine W_rE [2,7,17,18,19,51] ?_
       refine yq9 6 (by simp;rfl) rfl ?_
       refine yq9 6 (by simp [q2,h0',dcbC];rfl) rfl ?_
       refine yw9 (by simp [hb];rfl) ?_
       simp [zw9]
      ·have q5:¬ ((m:Int)+1 < 0):=by omega
       refine W_rE [2,7,17,18,19,51] ?_
       refine yq9 6 (by simp;rfl) rfl ?_
       refine yq9 6 (by simp [q2,h0',dcbC];rfl) rfl ?_
       refine yw9 (by simp [hb,w1,q5];rfl) ?_
       simp [zw9]
    ·rw [hn2]
     rcases Bool.eq_false_or_eq_true (n2 == m) with q | q
     ·rw [q] at e0
      simp only [q,Bool.true_or]
      refine W_rE [2,7,17,18,19,51] ?_
      refine yq9 6 (by simp;rfl) rfl ?_
      refine yq9 6 (by simp [e0];rfl) rfl ?_
      refine yw9 (by simp;rfl) ?_
      simp [zw9]
     ·rw [q] at e0
      simp only [q,Bool.false_or]
      rcases Bool.eq_false_or_eq_true d.blk with hb | hb
      ·refine W_rE [2,7,17,18,19,51] ?_
       refine yq9 6 (by simp;rfl) rfl ?_
       refine yq9 6 (by simp [e0,h0',dcbC];rfl) rfl ?_
       refine yw9 (by simp [hb];rfl) ?_
       simp [zw9,hb]
      ·rw [hb,← e3]
       obtain ⟨m1,hm1⟩:∃ m1,m+1=m1:=⟨_,rfl⟩
       rw [hm1] at w1 ⊢
       refine W_rE [2,7,17,18,19,51] ?_
       refine yq9 6 (by simp;rfl) rfl ?_
       refine yq9 6 (by simp [e0,h0',dcbC];rfl) rfl ?_
       refine yw9 (by simp [hb,w1];rfl) ?_
       simp [zw9]
   rintro _ rfl
   rcases Bool.eq_false_or_eq_true (qh8 d O.length (O2,true)) with q | q
   ·rw [q]
    refine yt9 rfl (fun h=>?_) (fun h=>by simp at h)
    refine yr9 [4,5] (by simp;rfl) ?_
    refine yj9 ?_
    repeat (first | refine yp9 ?_ | refine ys9 ?_)
    rw [hfail q]
    exact ⟨.tup [.lst .nil 1 [],.v (.int .i64 220)],by simp [retQ],.tup2 (.nil (by decide +kernel)) (.refl _)⟩
   ·rw [q]
    refine yt9 rfl (fun h=>by simp at h) (fun h=>?_)
    refine ym9 [2,7,17,18,19] (yg9 ?_)
    exact ⟨rfl,by simp⟩
 rintro _ ⟨hst,rfl⟩
 rw [hst] at hgo
 simp only [Bool.false_eq_true,if_false] at hgo
 refine zr9 [2,7,17,18,19] (by simp [w64 (n:=(i:Int)+1) (by omega) (by omega)];rfl) ?_
 exact ⟨_,by omega,i+1,O2,x2,h',rfl,by omega,hgo,by omega,hx2,hi2,h0',by simp⟩
set_option maxRecDepth 20000
def item (d:Dcb) (r:List UInt8):List UInt8:=if d.fmt == 2 then desc (r.length+4)++r else r
def body (d:Dcb) (g:List (List UInt8)):List UInt8:=(g.map (item d)).flatten
def enc (d:Dcb) (g:List (List UInt8)):List UInt8:=if d.fmt == 2 then desc ((body d g).length+4)++body d g else body d g
def raw (d:Dcb) (g:List (List UInt8)):List UInt8:=if g=[] then [] else if d.fmt == 2 then [0,0,0,0]++body d g else body d g
theorem xt8 (d:Dcb) (g:List (List UInt8)) (r:List UInt8):body d (g++[r])=body d g++item d r:=by simp [body]
theorem body_cons (d:Dcb) (g:List (List UInt8)) (r:List UInt8):body d (r :: g)=item d r++body d g:=by simp [body]
theorem uj8 (d:Dcb) (r:List UInt8):(item d r).length=lenM d r:=by unfold item lenM;split <;> simp;omega
structure GroupOk (d:Dcb) (g:List (List UInt8)):Prop where
 ne:g≠[]
 fit:∀ r∈g,vv9 d r.length=true
 len:((enc d g).length:Int)≤d.size
 one:d.blk=false→g.length=1
theorem raw_len {d:Dcb} {g:List (List UInt8)} (h:g≠[]):(raw d g).length=(enc d g).length:=by
 unfold raw enc
 rw [if_neg h]
 split
 ·simp;omega
 ·rfl
theorem body_pos {d:Dcb} (hc:zn9 d=0) {g:List (List UInt8)} (h:g≠[]) (hf:∀ r∈g,vv9 d r.length=true):0 < (body d g).length:=by
 cases g with
 | nil=>exact absurd rfl h
 | cons r g =>
  have:=jf9 hc (hf r (by simp))
  rw [body_cons,List.length_append,uj8]
  unfold lenM
  split <;> omega
theorem raw_ne {d:Dcb} (hc:zn9 d=0) {g:List (List UInt8)} (h:g≠[]) (hf:∀ r∈g,vv9 d r.length=true):raw d g≠[]:=by
 intro e
 have h1:=body_pos hc h hf
 have h2:(raw d g).length=0:=by rw [e];rfl
 unfold raw at h2
 rw [if_neg h] at h2
 split at h2
 ·simp at h2
 ·omega
theorem jn8 {d:Dcb} {g:List (List UInt8)} (h:g≠[]):qd8 d (raw d g)=enc d g:=by
 unfold qd8 raw enc
 rw [if_neg h]
 split
 ·have e:([0,0,0,0]++body d g).length=(body d g).length+4:=by simp
  rw [e]
  rfl
 ·rfl
theorem vr7 {d:Dcb} (hc:zn9 d=0) {g:List (List UInt8)} (r:List UInt8) (hf:∀ r∈g,vv9 d r.length=true):qq8 d (raw d g) r++r=raw d (g++[r]):=by
 have hne:g++[r]≠[]:=by simp
 unfold qq8 zh8
 rcases Bool.eq_false_or_eq_true (d.fmt == 2) with h1 | h1
 ·rw [if_pos h1, if_pos h1]
  by_cases hg:g=[]
  ·subst hg
   simp [raw,body,item,h1]
  ·rw [if_neg (raw_ne hc hg hf)]
   unfold raw
   rw [if_neg hg,if_neg hne,if_pos h1,if_pos h1,xt8]
   simp [item,h1]
 ·rw [h1]
  unfold raw
  rw [if_neg hne,h1,xt8]
  have hi:item d r=r:=by unfold item;rw [h1];rfl
  rw [hi]
  by_cases hg:g=[]
  ·subst hg;simp [body]
  ·rw [if_neg hg];simp
def FullI (d:Dcb) (gs:List (List (List UInt8))):Prop:=∀ (i:Nat) (a b:List (List UInt8)),gs[i]?=some a→gs[i+1]?=some b→∃ r rest,b=r :: rest∧kt8 d (raw d a) r=true
theorem full_snoc {d:Dcb} {gs:List (List (List UInt8))} {x:List (List UInt8)} (h:FullI d gs) (hx:∀ a,gs[gs.length - 1]?=some a→gs≠[]→∃ r rest,x=r :: rest∧kt8 d (raw d a) r=true):FullI d (gs++[x]):=by
 intro i a b ha hb
 have hlt:=(List.getElem?_eq_some_iff.1 hb).1
 simp at hlt
 rcases Nat.lt_or_ge (i+1) gs.length with h1 | h1
 ·rw [List.getElem?_append_left (by omega)] at ha
  rw [List.getElem?_append_left h1] at hb
  exact h i a b ha hb
 ·have hi:i+1=gs.length:=by omega
  rw [List.getElem?_append_left (by omega)] at ha
  rw [List.getElem?_append_right (by omega),hi,Nat.sub_self] at hb
  simp at hb
  subst hb
  exact hx a (by rw [show gs.length - 1=i by omega];exact ha) (by intro e;rw [e] at hi;simp at hi)
theorem full_init {d:Dcb} {gs:List (List (List UInt8))} {x:List (List UInt8)} (h:FullI d (gs++[x])):FullI d gs:=by
 intro i a b ha hb
 have h1:=(List.getElem?_eq_some_iff.1 ha).1
 have h2:=(List.getElem?_eq_some_iff.1 hb).1
 exact h i a b (by rw [List.getElem?_append_left h1];exact ha) (by rw [List.getElem?_append_left h2];exact hb)
theorem one_ok {d:Dcb} (hc:zn9 d=0) {r:List UInt8} (hf:vv9 d r.length=true):GroupOk d [r]:=by
 have:=jf9 hc hf
 refine ⟨by simp,by simpa using hf,?_,fun _=>rfl⟩
 unfold enc
 rcases Bool.eq_false_or_eq_true (d.fmt == 2) with h1 | h1
 ·rw [if_pos h1]
  have h2:d.fmt=2:=by simpa using h1
  have:=(this.2.2.1 h2).2
  simp [body,item,h1]
  omega
 ·rw [h1]
  simp [body,item,h1]
  omega
structure Groups (d:Dcb) (gs:List (List (List UInt8))) (g:List (List UInt8)):Prop where
 ok:∀ x∈gs,GroupOk d x
 cur:g≠[]→GroupOk d g
 first:g=[]→gs=[]
 full:FullI d (if g=[] then gs else gs++[g])
theorem uk8 {d : Dcb} (hc : zn9 d = 0) : ∀ (l : List (List UInt8)) (gs : List (List (List UInt8))) (g : List (List UInt8)) (p : List (List UInt8) × List UInt8), Groups d gs g →
  goB d l (gs.map (enc d)) (raw d g)=some p→∃ gs' g',Groups d gs' g'∧p=(gs'.map (enc d),raw d g')∧gs'.flatten++g'=gs.flatten++g++l∧(∀ r∈l,vv9 d r.length=true)
 | [],gs,g,p,hG,h=>by
  rw [goB] at h
  cases h
  exact ⟨gs,g,hG,rfl,by simp,by simp⟩
 | r :: l,gs,g,p,hG,h=>by
  rw [goB] at h
  split at h
  ·cases h
  rename_i hf
  have hf:vv9 d r.length=true:=by simpa using hf
  have hgf:∀ r∈g,vv9 d r.length=true:=fun x hx=>(hG.cur (fun e=>by rw [e] at hx;cases hx)).fit x hx
  split at h
  ·rename_i hfu
   have e2:qq8 d [] r++r=raw d [r]:=by
    have:=vr7 hc (g:=[]) r (by simp)
    simpa [raw] using this
   rw [e2] at h
   by_cases hg:g=[]
   ·subst hg
    have hgs:=hG.first rfl
    subst hgs
    have e1:uw9 d (([]:List (List (List UInt8))).map (enc d)) (raw d [])=([]:List (List (List UInt8))).map (enc d):=by unfold uw9;rw [if_pos (by simp [raw])]
    rw [e1] at h
    obtain ⟨gs',g',k1,k2,k3,k4⟩:=uk8 hc l [] [r] p ⟨by simp,fun _=>one_ok hc hf,by simp,by intro i a b ha hb;simp at hb⟩ h
    exact ⟨gs',g',k1,k2,by simpa using k3,by intro x hx;rcases List.mem_cons.1 hx with rfl | hx;exact hf;exact k4 x hx⟩
   ·have e1 : uw9 d (gs.map (enc d)) (raw d g) = (gs ++ [g]).map (enc d) := by unfold uw9; rw [if_neg (raw_ne hc hg hgf), jn8 hg]; simp
    rw [e1] at h
    have hfull:=hG.full
    rw [if_neg hg] at hfull
    obtain ⟨gs',g',k1,k2,k3,k4⟩:=uk8 hc l (gs++[g]) [r] p ⟨fun x hx=>by
     rcases List.mem_append.1 hx with h1 | h1
     ·exact hG.ok x h1
     ·rw [List.mem_singleton.1 h1];exact hG.cur hg,fun _=>one_ok hc hf,by simp,by
     rw [if_neg (by simp)]
     refine full_snoc hfull fun a ha _=>⟨r,[],rfl,?_⟩
     rw [List.getElem?_append_right (by simp)] at ha
     simp at ha
     rw [← ha]
     exact hfu⟩ h
    exact ⟨gs',g',k1,k2,by simpa using k3,by intro x hx;rcases List.mem_cons.1 hx with rfl | hx;exact hf;exact k4 x hx⟩
  ·rename_i hfu
   rw [vr7 hc r hgf] at h
   have hfu2:d.blk=true∧¬ d.size < ((raw d g).length+lenM d r:Nat):=by
    unfold kt8 at hfu
    simp only [Bool.or_eq_true,not_or,decide_eq_true_eq] at hfu
    exact ⟨by simpa using hfu.1,hfu.2⟩
   have hok:GroupOk d (g++[r]):=by
    by_cases hg:g=[]
    ·subst hg;exact one_ok hc hf
    ·refine ⟨by simp, fun x hx => ?_, ?_, fun hb => by rw [hfu2.1] at hb; cases hb⟩
     ·rcases List.mem_append.1 hx with h1 | h1
      ·exact hgf x h1
      ·rw [List.mem_singleton.1 h1];exact hf
     ·have h3:(enc d (g++[r])).length=(enc d g).length+lenM d r:=by
       unfold enc
       split
       ·simp [xt8,uj8];omega
       ·simp [xt8,uj8]
      rw [h3,← raw_len hg]
      have:=hfu2.2
      omega
   obtain ⟨gs',g',k1,k2,k3,k4⟩:=uk8 hc l gs (g++[r]) p ⟨hG.ok,fun _=>hok,by simp,by
    rw [if_neg (by simp)]
    by_cases hg:g=[]
    ·have:=hG.first hg
     rw [this]
     intro i a b ha hb
     simp at hb
    ·have hfull:=hG.full
     rw [if_neg hg] at hfull
     refine full_snoc (full_init hfull) fun a ha hne=>?_
     have hgl:gs.length≠0:=fun e=>hne (List.eq_nil_of_length_eq_zero e)
     obtain ⟨r0,rest,e,h5⟩:=hfull (gs.length - 1) a g (by rw [List.getElem?_append_left (by omega)];exact ha) (by rw [List.getElem?_append_right (by omega)];simp [show gs.length - 1+1 - gs.length=0 by omega])
     exact ⟨r0,rest++[r],by rw [e];rfl,h5⟩⟩ h
   exact ⟨gs',g',k1,k2,by simpa using k3,by intro x hx;rcases List.mem_cons.1 hx with rfl | hx;exact hf;exact k4 x hx⟩
theorem blockM_groups {d:Dcb} {l bs:List (List UInt8)} (h:zg9 d l=(bs,0)):zn9 d=0∧l.length≤4096∧∃ gs,bs=gs.map (enc d)∧gs.flatten=l∧(∀ x∈gs,GroupOk d x)∧FullI d gs:=by
 unfold zg9 at h
 split at h
 ·rename_i hc
  split at h
  ·cases h
  ·rename_i hl
   refine ⟨hc,by omega,?_⟩
   obtain ⟨q,hq⟩:∃ q,goB d l [] []=q:=⟨_,rfl⟩
   rw [hq] at h
   cases q with
   | none=>cases h
   | some p =>
    obtain ⟨gs',g',k1,k2,k3,_⟩:=uk8 hc l [] [] p ⟨by simp,by simp,by simp,by intro i a b ha hb;simp at hb⟩ (by simpa [raw] using hq)
    subst k2
    simp only [finB,Prod.mk.injEq,and_true] at h
    simp at k3
    by_cases hg:g'=[]
    ·have:=k1.first hg
     subst hg
     subst this
     refine ⟨[],?_,by simpa using k3,by simp,by intro i a b ha hb;simp at hb⟩
     rw [← h]
     simp [uw9,raw]
    ·have hgf := (k1.cur hg).fit
     refine ⟨gs'++[g'],?_,by simpa using k3,fun x hx=>?_,?_⟩
     ·rw [← h]
      unfold uw9
      rw [if_neg (raw_ne hc hg hgf),jn8 hg]
      simp
     ·rcases List.mem_append.1 hx with h1 | h1
      ·exact k1.ok x h1
      ·rw [List.mem_singleton.1 h1];exact k1.cur hg
     ·have:=k1.full
      rwa [if_neg hg] at this
 ·rename_i hc
  exact absurd (Prod.mk.inj h).2 hc
end Go.AM
