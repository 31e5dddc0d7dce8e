/- Parts of the walk: Z31RG Z31ME Z31OL Z31MD Z31OJ. -/
import Derived.Test.YtlhaljblcimnbaaGreatG11
namespace Go.AM
open Go.RowKit Go.Proofs
set_option linter.unusedSimpArgs false
set_option linter.unusedVariables false
set_option maxHeartbeats 8000000
def spM (t:List (List UInt8)) (a b:Nat) (c:UInt8):List (List UInt8) :=
 if t=[] then [] else
  match b % 8 with
  | 0=>t.take (a % t.length)++t.drop (a % t.length+1)
  | 1=>t++[t.getD (a % t.length) []]
  | 2=>t.set (a % t.length) ((t.getD (a % t.length) []).take (b / 8 % ((t.getD (a % t.length) []).length+1)))
  | 3=>if a % t.length+1 < t.length then (t.set (a % t.length) (t.getD (a % t.length+1) [])).set (a % t.length+1) (t.getD (a % t.length) []) else t
  | _=>if t.getD (a % t.length) []=[] then t else t.set (a % t.length) ((t.getD (a % t.length) []).set (b / 8 % (t.getD (a % t.length) []).length) c)
theorem wu16 {n:Int} (h1:0≤n) (h2:n≤65535):IntKind.u16.wrap n=n:=by
 simp [IntKind.wrap,IntKind.signed,IntKind.bits];omega
theorem xw4 (t:List (List UInt8)) (n:Nat):bbL (t.take n)=(bbL t).take n:=by simp [bbL]
theorem xr4 (t:List (List UInt8)) (n:Nat):bbL (t.drop n)=(bbL t).drop n:=by simp [bbL]
theorem xl5 (t:List (List UInt8)) (n:Nat):(bbL t)[n]?=(t[n]?).map fun l=>.lst .any 1 (byL l):=by simp [bbL]
theorem yb7 (t : List (List UInt8)) (A B : Nat) (c : UInt8) (hA2 : A < 65536) (hB2 : B < 65536) (ht : t.length ≤ 1000000) (hs : ∀ l ∈ t, l.length ≤ 1000000) :
  Sound Tryz.prog 7 [.lst .any 1 (bbL t),.v (.int .u16 (A:Nat)),.v (.int .u16 (B:Nat)),.v (.int .u8 c.toNat)] (.lst (.tip 23 1) 1 (bbL (spM t A B c))):=by
 refine uh9 Tryz.func7 rfl (by decide +kernel) (by simp [Tryz.f7]) rfl rfl (rs:=[.tmp 8]) rfl ?_
 rw [show Tryz.f7.ntmps=123 from rfl]
 obtain ⟨i0,hi0⟩:∃ i0,A % t.length=i0:=⟨_,rfl⟩
 obtain ⟨one,hone⟩:∃ one,t.getD i0 []=one:=⟨_,rfl⟩
 obtain ⟨th,hth⟩:∃ th,(decide (4≤B % 8)&&decide (one≠[]))=th:=⟨_,rfl⟩
 refine yt9 [0,1,2,3] (by simp;rfl) ?_
 refine yt9 [0,1,2,3,9] (by simp;rfl) ?_
 refine xh9 (fun σ=>∃ (x:AV) (H:List AObj),((t=[]∧x=.lst .nil 1 []∧H=[])∨(0 < t.length∧OutL th i0 one t x H))∧σ=⟨123,[(1,.v (.int .u16 (A:Nat))),(2,.v (.int .u16 (B:Nat))),(3,.v (.int .u8 c.toNat)),(9,x)],H⟩) ?_ ?_
 ·refine yt9 [1, 2, 3, 9, 13, 14, 15] (by simp; rfl) ?_
  refine ys9 ?_
  refine zl9 (fun k s => ∃ (i : Nat) (x : AV) (H : List AObj), k = t.length - i ∧ i ≤ t.length ∧ ((i = 0 ∧ x = .lst .nil 1 [] ∧ H = []) ∨ (0 < i ∧ OutL th i0 one (t.take i) x H)) ∧
   s=⟨123,[(1,.v (.int .u16 (A:Nat))),(2,.v (.int .u16 (B:Nat))),(3,.v (.int .u8 c.toNat)),(9,x),(13,.lst .any 1 (bbL t)),(14,.v (.int .i64 (t.length:Nat))),(15,.v (.int .i64 (i:Nat)))],H⟩) (k:=t.length) ⟨0,_,_,rfl,by omega,.inl ⟨rfl,rfl,rfl⟩,by simp⟩ ?_
  rintro k s ⟨i,x,H,rfl,hi,hx,rfl⟩
  by_cases cc:i < t.length
  rotate_left
  ·have hin : i = t.length := by omega
   refine yt9 [1,2,3,9,16] (by simp [cc];rfl) ?_
   refine yl9 ?_
   refine yp9 rfl (fun h=>by simp at h) (fun h=>?_)
   refine zs9 [1,2,3,9] ?_
   refine zj9 ?_
   refine ⟨x,H,?_,by simp⟩
   rcases hx with ⟨h0,h1,h2⟩ | ⟨h0,h1⟩
   ·exact .inl ⟨List.eq_nil_of_length_eq_zero (by omega),h1,h2⟩
   ·rw [hin,List.take_length] at h1
    exact .inr ⟨by omega,h1⟩
  have ci:(i:Int) < t.length:=by omega
  obtain ⟨l,hli⟩:∃ l,t[i]?=some l:=⟨_,List.getElem?_eq_getElem cc⟩
  have hl2:t[i]'cc=l:=by rw [List.getElem?_eq_getElem cc] at hli;exact Option.some.inj hli
  have hls:=hs l (List.mem_of_getElem? hli)
  have wi:=w64 (n:=(i:Int)+1) (by omega) (by omega)
  have htl:(t.take i).length=i:=by simp;omega
  have htk:t.take (i+1)=t.take i++[l]:=by rw [List.take_add_one,hli];rfl
  have bi:(i+1) * 24≤140737488355328:=by omega
  have bl:l.length≤140737488355328:=by omega
  refine yt9 [1,2,3,9,13,14,15,16] (by simp [cc];rfl) ?_
  refine yl9 ?_
  refine yp9 rfl (fun h=>?_) (fun h=>by simp at h)
  refine yk9 ?_
  refine yl9 ?_
  refine ys9 ?_
  refine yt9 [1,2,3,9,13,14,15,11] (by simp [cc,ci,hl2];rfl) ?_
  by_cases hti:th=true∧i0=i
  ·have hol : one = l := by rw [← hone, hti.2, List.getD_eq_getElem?_getD, hli]; rfl
   have hne:l≠[]:=by
    have:=hti.1
    rw [← hth] at this
    simp only [Bool.and_eq_true,decide_eq_true_eq] at this
    rw [← hol];exact this.2
   have hlp:0 < l.length:=List.length_pos_iff.2 hne
   refine wb9 [1,2,3,9,13,14,15] (xm5 ?_)
   refine ym7 3 _ _ ?_
   refine yq9 2 (by simp;rfl) rfl ?_
   refine yw9 (by simp;rfl) ?_
   refine jh6 rfl ?_
   refine jn5 (t:=23) (e:=5) (sz:=1) (by_:=1) (s0:=1) (fl:=.tip 5 82) (m:=l.length) (yc:=byL l) rfl rfl rfl rfl (by simp) rfl s23 a5 z5 (by simp) (by simp [srcA]) hlp (by omega) ?_
   intro cq h2 h3
   refine ⟨_,by simp;rfl,?_⟩
   refine ym7 3 _ _ ?_
   have hrep:byL l++repC (cq - l.length) [.v (.int .u8 0)]=byL (l++List.replicate (cq - l.length) 0):=by
    rw [wc9]
    congr 1
    exact wt7 _
   have hq2:∀ X,(H++[.cells 5 (byL (l++List.replicate (cq - l.length) 0))]++X)[H.length]?=some (AObj.cells 5 (byL (l++List.replicate (cq - l.length) 0))):=fun X=>by
    rw [List.append_assoc,List.getElem?_append_right (Nat.le_refl _)];simp
   rw [hrep]
   rcases hx with ⟨rfl,rfl,rfl⟩ | ⟨hi1,id,cap,cs,rfl,hid,hcl,hjc,htc,hb1,hb2⟩
   ·refine zw7 (by simp) ⟨_, by simp [jq8, qf4, catK, AV.cellsK, AV.kone, AV.koneL, AV.tlL, AV.tl]; rfl, ?_⟩
    refine vq4 (t:=22) (e:=23) (sz:=1) (by_:=24) (m:=1) (s0:=1) (x0:=[]) (yc:=[.arr 0 0 l.length cq]) (by simp) rfl rfl rfl rfl (by simp) (by simp [srcA]) s22 a23 z23 (by simp) (by omega) (by omega) ?_
    intro cap' h1 h2'
    have h1':1≤cap':=h1
    refine ⟨_,by simp;rfl,?_⟩
    refine yw9 (by simp;rfl) ?_
    refine zq9 [1,2,3,9,13,14,15] (by simp [show IntKind.i64.wrap 1=1 from rfl];rfl) ?_
    refine ⟨_,by omega,1,.arr 2 0 1 cap',[.cells 5 (byL (l++List.replicate (cq - l.length) 0)),.cells 23 [.arr 0 0 l.length cq],.cells 23 (.arr 0 0 l.length cq :: repC (cap' - 1) [.lst .nil 1 []])],rfl,by omega,.inr ⟨by omega,?_⟩,by simp⟩
    rw [htk]
    exact OutL.push (one := one) (cs := []) (H := []) htl (fun h => by omega) (fun _ => by simp [bbL]) (id' := 2) (by simp; rfl) (by simp [js9]; omega) (by omega) (y := .arr 0 0 l.length cq) (by simp) (by simp [AV.tlL, AV.tl, vp6 (z := .lst .nil 1 []) rfl]) (fun q c h => by simp at h)
     (.inr ⟨hti.1,hti.2,0,cq,List.replicate (cq - l.length) 0,by rw [hol],by rw [hol];simp,by rw [hol];exact h2,by rw [hol];simp⟩)
   ·rw [htl] at hjc hb1 hb2 ⊢
    have hlt:id < H.length:=(List.getElem?_eq_some_iff.1 hid).1
    have hid2:∀ X,(H++X)[id]?=some (AObj.cells 23 cs):=fun X=>by rw [List.getElem?_append_left hlt];exact hid
    refine zw7 (by simp) ⟨_,by simp [jq8,qf4,catK,AV.cellsK,AV.kone,AV.koneL,AV.tlL,AV.tl];rfl,?_⟩
    refine jl6 (t:=22) (e:=23) (sz:=1) (by_:=24) (id:=id) (len:=i) (cap:=cap) (m:=1) (cs:=cs) (yc:=[.arr H.length 0 l.length cq]) (by simp) rfl rfl rfl rfl (by simp) (by simp [srcA]) s22 a23 z23 (by simp) (by simp [hid2]) (by omega) (by omega) ?_
    intro s1 x1 hq
    obtain ⟨id',cap',cs',h',rfl,rfl,k1,k2,k3,k4,k5,k6⟩:=zt6 (y:=.arr H.length 0 l.length cq) (by simp [hid2]) hcl hjc htc rfl hq
    refine ⟨_,by simp;rfl,?_⟩
    refine yw9 (by simp;rfl) ?_
    refine zq9 [1,2,3,9,13,14,15] (by simp [wi];rfl) ?_
    refine ⟨_,by omega,i+1,.arr id' 0 (i+1) cap',h',rfl,by omega,.inr ⟨by omega,?_⟩,by simp⟩
    rw [htk]
    refine OutL.push (cs:=cs) (H:=H) htl hb1 hb2 k1 k2 k3 (y:=.arr H.length 0 l.length cq) k4 k6 (fun q c hqc=>k5 q _ ?_) ?_
    ·have hql:=(List.getElem?_eq_some_iff.1 hqc).1
     simp only [List.append_assoc]
     rw [List.getElem?_append_left hql];exact hqc
    ·exact .inr ⟨hti.1,hti.2,H.length,cq,List.replicate (cq - l.length) 0,by rw [hol],k5 _ _ (by rw [hol];simp),by rw [hol];exact h2,by rw [hol];simp⟩
  ·refine W_rE [1, 2, 3, 9, 13, 14, 15] ?_
   refine yq9 5 (by simp [bl];rfl) rfl ?_
   rcases hx with ⟨rfl,rfl,rfl⟩ | ⟨hi1,id,cap,cs,rfl,hid,hcl,hjc,htc,hb1,hb2⟩
   ·refine yq3 (t := 22) (e := 23) (sz := 1) (by_ := 24) (s0 := 1) (x0 := []) (ys := [.lst .any 1 (byL l)]) (yc := [.lst .any 1 (byL l)]) (by simp) rfl rfl rfl rfl (by simp) (by simp; rfl) s22 a23 z23 (by simp) (by simp [catK, AV.cellsK, AV.kone, AV.koneL]) (by simp) (by simp) ?_
    intro cap' h1 h2
    have h1':1≤cap':=h1
    refine ⟨_,by simp;rfl,?_⟩
    refine yw9 (by simp;rfl) ?_
    refine zq9 [1,2,3,9,13,14,15] (by simp [show IntKind.i64.wrap 1=1 from rfl];rfl) ?_
    refine ⟨_,by omega,1,.arr 0 0 1 cap',[.cells 23 (.lst .any 1 (byL l) :: repC (cap' - 1) [.lst .nil 1 []])],rfl,by omega,.inr ⟨by omega,?_⟩,by simp⟩
    rw [htk]
    exact OutL.push (one := one) (cs := []) (H := []) htl (fun h => by omega) (fun _ => by simp [bbL]) (id' := 0) (by simp; rfl) (by simp [js9]; omega) (by omega) (y := .lst .any 1 (byL l)) (by simp) (by simp [AV.tlL, AV.tl, vp6 (z := .lst .nil 1 []) rfl]) (fun q c h => by simp at h)
     (.inl ⟨rfl,hti⟩)
   ·rw [htl] at hjc hb1 hb2 ⊢
    refine vc6 (t:=22) (e:=23) (sz:=1) (by_:=24) (id:=id) (len:=i) (cap:=cap) (ys:=[.lst .any 1 (byL l)]) (cs:=cs) (yc:=[.lst .any 1 (byL l)]) (by simp) rfl rfl rfl rfl (by simp) (by simp;rfl) s22 a23 z23 (by simp) (by simp [hid,killL_tl _ htc]) (by omega) (by simp [catK,AV.cellsK,AV.kone,AV.koneL]) (by simp;omega) ?_
    intro s1 x1 hq
    obtain ⟨id',cap',cs',h',rfl,rfl,k1,k2,k3,k4,k5,k6⟩:=zt6 (y:=.lst .any 1 (byL l)) (by simp [hid,killL_tl _ htc]) hcl hjc htc rfl hq
    refine ⟨_,by simp;rfl,?_⟩
    refine yw9 (by simp;rfl) ?_
    refine zq9 [1,2,3,9,13,14,15] (by simp [wi];rfl) ?_
    refine ⟨_,by omega,i+1,.arr id' 0 (i+1) cap',h',rfl,by omega,.inr ⟨by omega,?_⟩,by simp⟩
    rw [htk]
    exact OutL.push (cs:=cs) (H:=H) htl hb1 hb2 k1 k2 k3 (y:=.lst .any 1 (byL l)) k4 k6 (fun q c h=>k5 q _ (by simp [h])) (.inl ⟨rfl,hti⟩)
 ·rintro s ⟨x, H, hx, rfl⟩
  have hrem0:((A:Int)).tmod (t.length:Int)=((A % t.length:Nat):Int):=rfl
  rcases hx with ⟨rfl,rfl,rfl⟩ | ⟨hi1,id,cap,cs,rfl,hid,hcl,hjc,htc,hb1,hb2⟩
  ·refine yl9 ?_
   refine W_cT [1,2,3,9,28] (by simp;rfl) rfl ?_
   refine yt9 [8] (by simp;rfl) ?_
   refine yn9 ?_
   repeat (first | refine yg9 ?_ | refine yh9 ?_)
   exact ⟨.lst .nil 1 [],by simp [retQ],by rw [show spM [] A B c=[] from rfl];exact .nil (by decide +kernel)⟩
  have hn0:((t.length:Int) == 0)=false:=by simp;intro h;rw [h] at hi1;simp at hi1
  have hn1:¬ ((t.length:Int)=0):=by omega
  have hn2:¬ t.length=0:=by omega
  have hn3:¬ t=[]:=fun h=>by rw [h] at hi1;simp at hi1
  have hi0l:i0 < t.length:=by rw [← hi0];exact Nat.mod_lt _ hi1
  have hi0i:(i0:Int) < t.length:=by omega
  have hrem:((A:Int)).tmod (t.length:Int)=(i0:Nat):=by rw [← hi0];rfl
  have wA:IntKind.i64.wrap (A:Int)=A:=w64 (by omega) (by omega)
  have wi1:=w64 (n:=(i0:Int)+1) (by omega) (by omega)
  have hone':t[i0]?=some one:=by rw [← hone,List.getD_eq_getElem?_getD,List.getElem?_eq_getElem hi0l];rfl
  have hos:=hs one (List.mem_of_getElem? hone')
  have hil:i0 < cs.length:=by omega
  have hsp0:spM t A B c=match B % 8 with
   | 0=>t.take i0++t.drop (i0+1)
   | 1=>t++[one]
   | 2=>t.set i0 (one.take (B / 8 % (one.length+1)))
   | 3=>if i0+1 < t.length then (t.set i0 (t.getD (i0+1) [])).set (i0+1) one else t
   | _=>if one=[] then t else t.set i0 (one.set (B / 8 % one.length) c):=by unfold spM;rw [if_neg hn3,hi0,hone]
  refine yl9 ?_
  refine W_cF [1,2,3,9,28] (by simp [hn0,hn2];rfl) rfl ?_
  refine yk9 ?_
  refine yt9 [2,3,9,12] (by simp [wA,hn1,hn2,hrem];rfl) ?_
  refine yl9 ?_
  have hmod:((B:Int)).tmod 8=((B % 8:Nat):Int):=rfl
  obtain ⟨m,hm⟩:∃ m,B % 8=m:=⟨_,rfl⟩
  have hm8:m < 8:=by omega
  rw [hm] at hmod hsp0
  refine yt9 [2,3,9,12,36] (by simp [hmod];rfl) ?_
  refine ys9 ?_
  have hquo:((B:Int)).tdiv 8=((B / 8:Nat):Int):=rfl
  have wq:IntKind.u16.wrap ((B / 8:Nat):Int)=((B / 8:Nat):Int):=wu16 (by omega) (by omega)
  have wq2:IntKind.i64.wrap ((B / 8:Nat):Int)=((B / 8:Nat):Int):=w64 (by omega) (by omega)
  by_cases hth1:th=true
  ·have hthd := hth1
   rw [← hth] at hthd
   simp only [Bool.and_eq_true,decide_eq_true_eq] at hthd
   obtain ⟨hB4,hone1⟩:=hthd
   rw [hm] at hB4
   obtain ⟨q,cq,z,hq,hq1,hq2,htk⟩:=hb1 ⟨hth1,hi0l⟩
   have hcg:cs[i0]?=some (.arr q 0 one.length cq):=by
    have:(cs.take t.length)[i0]?=cs[i0]?:=by rw [List.getElem?_take,if_pos hi0l]
    rw [← this,htk,List.getElem?_set_self (by simpa using hi0l)]
   have hcg2:cs[i0]'hil=.arr q 0 one.length cq:=by rw [List.getElem?_eq_getElem hil] at hcg;exact Option.some.inj hcg
   have hql:q < H.length:=(List.getElem?_eq_some_iff.1 hq).1
   have hiq:id≠q:=by
    intro e
    rw [e,hq] at hid
    simp at hid
   have hol:0 < one.length:=List.length_pos_iff.2 hone1
   have hol2:(0:Int) < one.length:=by omega
   obtain ⟨k,hk⟩:∃ k,B / 8 % one.length=k:=⟨_,rfl⟩
   have hkl:k < one.length:=by rw [← hk];exact Nat.mod_lt _ hol
   have hki:(k:Int) < one.length:=by omega
   have hrem2:(((B / 8:Nat):Int)).tmod (one.length:Int)=(k:Nat):=by rw [← hk];rfl
   have ho1:¬ ((one.length:Int)=0):=by omega
   have hkz:k < one.length+z.length:=by omega
   have hkz':k+1≤one.length+z.length:=by omega
   have hks:yf9 (byL (one++z)) k [.v (.int .u8 c.toNat)]=byL ((one++z).set k c):=by
    rw [ur9 _ _ _ (by simp;omega),kc4]
   have hBt:((one++z).set k c).take one.length=one.set k c:=by
    rw [List.set_append_left _ _ hkl,List.take_append_of_le_length (by simp),List.take_of_length_le (by simp)]
   have hsp:spM t A B c=t.set i0 (one.set k c):=by
    rw [hsp0]
    have:m=4∨m=5∨m=6∨m=7:=by omega
    rcases this with rfl | rfl | rfl | rfl <;> (simp only [if_neg hone1,hk])
   rw [hsp]
   have hmm:m=4∨m=5∨m=6∨m=7:=by omega
   rcases hmm with rfl | rfl | rfl | rfl
   ·refine W_cF [2,3,9,12,36,58] (by simp;rfl) rfl ?_
    refine W_cF [2,3,9,12,36,68] (by simp;rfl) rfl ?_
    refine W_cF [2,3,9,12,36,79] (by simp;rfl) rfl ?_
    refine W_cF [2,3,9,12,99] (by simp;rfl) rfl ?_
    refine W_cT [2,3,9,12,42] (by simp [hi0i,hi0l,hid,hcg,hcg2,hil,hol,hol2];rfl) rfl ?_
    refine qt9 [9] mx (by decide +kernel) ?_
    iterate 2 refine yr9 6 (by simp [hquo,wq,wq2,hi0i,hi0l,hid,hcg,hcg2,hil,-Int.natCast_ediv];rfl) rfl ?_
    refine ym9 (by simp [hquo,wq,wq2,hrem2,ho1,hone1,hki,hkl,hq,hkz,hkz',-Int.natCast_ediv];rfl) ?_
    refine jf5 (B:=(one++z).set k c) (t:=t) (i0:=i0) (id:=id) (cs:=cs) (cap:=cap) (q:=q) (cq:=cq) (k:=one.length) (sl:=9) rfl (by rw [List.getElem?_set_ne hiq.symm];exact hid) (by rw [hks];exact List.getElem?_set_self hql) hcl hi0l hcg htk (by simp) (fun H'=>?_)
    rw [hBt]
    refine yt9 [8] (by simp [putF];rfl) ?_
    refine yn9 ?_
    repeat (first | refine yg9 ?_ | refine yh9 ?_)
    exact ⟨_,by simp [retQ];exact ⟨rfl,by simp⟩,.norm fun T=>by simp⟩
   ·refine W_cF [2,3,9,12,36,58] (by simp;rfl) rfl ?_
    refine W_cF [2,3,9,12,36,68] (by simp;rfl) rfl ?_
    refine W_cF [2,3,9,12,36,79] (by simp;rfl) rfl ?_
    refine W_cF [2,3,9,12,99] (by simp;rfl) rfl ?_
    refine W_cT [2,3,9,12,42] (by simp [hi0i,hi0l,hid,hcg,hcg2,hil,hol,hol2];rfl) rfl ?_
    refine qt9 [9] mx (by decide +kernel) ?_
    iterate 2 refine yr9 6 (by simp [hquo,wq,wq2,hi0i,hi0l,hid,hcg,hcg2,hil,-Int.natCast_ediv];rfl) rfl ?_
    refine ym9 (by simp [hquo,wq,wq2,hrem2,ho1,hone1,hki,hkl,hq,hkz,hkz',-Int.natCast_ediv];rfl) ?_
    refine jf5 (B:=(one++z).set k c) (t:=t) (i0:=i0) (id:=id) (cs:=cs) (cap:=cap) (q:=q) (cq:=cq) (k:=one.length) (sl:=9) rfl (by rw [List.getElem?_set_ne hiq.symm];exact hid) (by rw [hks];exact List.getElem?_set_self hql) hcl hi0l hcg htk (by simp) (fun H'=>?_)
    rw [hBt]
    refine yt9 [8] (by simp [putF];rfl) ?_
    refine yn9 ?_
    repeat (first | refine yg9 ?_ | refine yh9 ?_)
    exact ⟨_,by simp [retQ];exact ⟨rfl,by simp⟩,.norm fun T=>by simp⟩
   ·refine W_cF [2,3,9,12,36,58] (by simp;rfl) rfl ?_
    refine W_cF [2,3,9,12,36,68] (by simp;rfl) rfl ?_
    refine W_cF [2,3,9,12,36,79] (by simp;rfl) rfl ?_
    refine W_cF [2,3,9,12,99] (by simp;rfl) rfl ?_
    refine W_cT [2,3,9,12,42] (by simp [hi0i,hi0l,hid,hcg,hcg2,hil,hol,hol2];rfl) rfl ?_
    refine qt9 [9] mx (by decide +kernel) ?_
    iterate 2 refine yr9 6 (by simp [hquo,wq,wq2,hi0i,hi0l,hid,hcg,hcg2,hil,-Int.natCast_ediv];rfl) rfl ?_
    refine ym9 (by simp [hquo,wq,wq2,hrem2,ho1,hone1,hki,hkl,hq,hkz,hkz',-Int.natCast_ediv];rfl) ?_
    refine jf5 (B:=(one++z).set k c) (t:=t) (i0:=i0) (id:=id) (cs:=cs) (cap:=cap) (q:=q) (cq:=cq) (k:=one.length) (sl:=9) rfl (by rw [List.getElem?_set_ne hiq.symm];exact hid) (by rw [hks];exact List.getElem?_set_self hql) hcl hi0l hcg htk (by simp) (fun H'=>?_)
    rw [hBt]
    refine yt9 [8] (by simp [putF];rfl) ?_
    refine yn9 ?_
    repeat (first | refine yg9 ?_ | refine yh9 ?_)
    exact ⟨_,by simp [retQ];exact ⟨rfl,by simp⟩,.norm fun T=>by simp⟩
   ·refine W_cF [2,3,9,12,36,58] (by simp;rfl) rfl ?_
    refine W_cF [2,3,9,12,36,68] (by simp;rfl) rfl ?_
    refine W_cF [2,3,9,12,36,79] (by simp;rfl) rfl ?_
    refine W_cF [2,3,9,12,99] (by simp;rfl) rfl ?_
    refine W_cT [2,3,9,12,42] (by simp [hi0i,hi0l,hid,hcg,hcg2,hil,hol,hol2];rfl) rfl ?_
    refine qt9 [9] mx (by decide +kernel) ?_
    iterate 2 refine yr9 6 (by simp [hquo,wq,wq2,hi0i,hi0l,hid,hcg,hcg2,hil,-Int.natCast_ediv];rfl) rfl ?_
    refine ym9 (by simp [hquo,wq,wq2,hrem2,ho1,hone1,hki,hkl,hq,hkz,hkz',-Int.natCast_ediv];rfl) ?_
    refine jf5 (B:=(one++z).set k c) (t:=t) (i0:=i0) (id:=id) (cs:=cs) (cap:=cap) (q:=q) (cq:=cq) (k:=one.length) (sl:=9) rfl (by rw [List.getElem?_set_ne hiq.symm];exact hid) (by rw [hks];exact List.getElem?_set_self hql) hcl hi0l hcg htk (by simp) (fun H'=>?_)
    rw [hBt]
    refine yt9 [8] (by simp [putF];rfl) ?_
    refine yn9 ?_
    repeat (first | refine yg9 ?_ | refine yh9 ?_)
    exact ⟨_,by simp [retQ];exact ⟨rfl,by simp⟩,.norm fun T=>by simp⟩
  ·have hthf : ¬ (th = true ∧ i0 < t.length) := fun h => hth1 h.1
   have htk:=hb2 hthf
   have hcg:cs[i0]?=some (.lst .any 1 (byL one)):=by
    have:(cs.take t.length)[i0]?=cs[i0]?:=by rw [List.getElem?_take,if_pos hi0l]
    rw [← this,htk,xl5,hone']
    rfl
   have hcg2:cs[i0]'hil=.lst .any 1 (byL one):=by rw [List.getElem?_eq_getElem hil] at hcg;exact Option.some.inj hcg
   have hmm:m=0∨m=1∨m=2∨m=3∨(4≤m∧one=[]):=by
    by_cases e:one=[]
    ·by_cases h4:4≤m
     ·exact .inr (.inr (.inr (.inr ⟨h4,e⟩)))
     ·omega
    ·have:¬ 4≤B % 8:=fun h=>hth1 (by rw [← hth];simp [h,e])
     omega
   rcases hmm with rfl | rfl | rfl | rfl | ⟨h4,hone1⟩
   ·rw [show spM t A B c = t.take i0 ++ t.drop (i0 + 1) by rw [hsp0]; rfl]
    refine W_cT [2,3,9,12,36,58] (by simp;rfl) rfl ?_
    have hic1:(i0:Int)≤cap:=by omega
    have hic2:(i0:Int)+1≤t.length:=by omega
    have hic3:((i0:Int)+1).toNat=i0+1:=by omega
    have hicN:i0≤cap:=by omega
    have hicM:i0+1≤t.length:=by omega
    have hic4:¬ cap=0:=by omega
    have hic5:(0:Int)≤(i0:Int)+1:=by omega
    refine W_rsK 7 [8] mx (by decide +kernel) ?_
    refine yr9 6 (by simp [hic1,hicN,hic4,wi1];rfl) rfl ?_
    refine ym9 (by simp [wi1,hic2,hicM,hic3,hic5];rfl) ?_
    refine jl6 (t:=22) (e:=23) (sz:=1) (by_:=24) (id:=id) (len:=i0) (cap:=cap) (m:=t.length - (i0+1)) (cs:=cs) (yc:=(cs.drop (i0+1)).take (t.length - (i0+1))) (by simp) rfl rfl rfl rfl (by simp) ?_ s22 a23 z23 (by simp) (by simp [hid]) (by omega) (by omega) ?_
    ·by_cases e : cap = i0 + 1
     ·have hz:t.length - (i0+1)=0:=by omega
      simp [srcA,hid,e,hz]
     ·simp [srcA,hid,e];omega
    intro s1 x1 hq
    rcases hq with ⟨h1,rfl,rfl⟩ | ⟨h1,_⟩
    rotate_left
    ·omega
    have hU:(t.take i0++t.drop (i0+1)).length=i0+(t.length - (i0+1)):=by simp;omega
    have hy:(cs.drop (i0+1)).take (t.length - (i0+1))=bbL (t.drop (i0+1)):=by rw [← List.drop_take,htk,← js5]
    have hy2:cs.take i0=bbL (t.take i0):=by
     have:(cs.take t.length).take i0=cs.take i0:=by rw [List.take_take];congr 1;omega
     rw [← this,htk,← jp5]
    have hyl:((cs.drop (i0+1)).take (t.length - (i0+1))).length=t.length - (i0+1):=by simp;omega
    refine ⟨_,by simp;rfl,?_⟩
    refine yw9 (by simp;rfl) ?_
    refine jr8 (sl:=8) (id:=id) (U:=t.take i0++t.drop (i0+1)) (cap:=cap) (cs:=yf9 cs (i0 * 1) ((cs.drop (i0+1)).take (t.length - (i0+1)))) (by rw [hU];simp) (by simp [(List.getElem?_eq_some_iff.1 hid).1]) (by rw [xs9 _ _ _ (by rw [hyl];omega)];exact hcl) ?_ (fun H'=>?_)
    ·rw [hU,hy,Nat.mul_one]
     unfold yf9
     rw [hy2,← wv9,List.take_append_of_le_length (by rw [wn6,hU];omega),List.take_of_length_le (by rw [wn6,hU];omega)]
    refine yn9 ?_
    repeat (first | refine yg9 ?_ | refine yh9 ?_)
    exact ⟨_,by simp [retQ];exact ⟨rfl,by simp⟩,.norm fun T=>by simp⟩
   ·rw [show spM t A B c=t++[one] by rw [hsp0];rfl]
    refine W_cF [2,3,9,12,36,58] (by simp;rfl) rfl ?_
    refine W_cT [2,3,9,12,36,68] (by simp;rfl) rfl ?_
    have bt:(t.length+1) * 24≤140737488355328:=by omega
    have bl:one.length≤140737488355328:=by omega
    refine W_rK [8] ?_
    refine yq9 6 (by simp [hi0i,hi0l,hid,hcg,hcg2,hil,bl];rfl) rfl ?_
    refine yq9 2 (by simp [bl];rfl) rfl ?_
    refine vc6 (t:=22) (e:=23) (sz:=1) (by_:=24) (id:=id) (len:=t.length) (cap:=cap) (ys:=[.lst .any 1 (byL one)]) (cs:=cs) (yc:=[.lst .any 1 (byL one)]) (by simp) rfl rfl rfl rfl (by simp) (by simp;rfl) s22 a23 z23 (by simp) (by simp [hid,killL_tl _ htc]) (by omega) (by simp [catK,AV.cellsK,AV.kone,AV.koneL]) (by simp;omega) ?_
    intro s1 x1 hq
    obtain ⟨id',cap',cs',h',rfl,rfl,k1,k2,k3,k4,k5,k6⟩:=zt6 (y:=.lst .any 1 (byL one)) (by simp [hid,killL_tl _ htc]) hcl hjc htc rfl hq
    refine ⟨_,by simp;rfl,?_⟩
    refine yw9 (by simp;rfl) ?_
    refine jr8 (sl:=8) (U:=t++[one]) (cap:=cap') (cs:=cs') (by simp) k1 k2 (by rw [List.length_append,List.length_singleton,k4,htk,wv9];rfl) (fun H'=>?_)
    refine yn9 ?_
    repeat (first | refine yg9 ?_ | refine yh9 ?_)
    exact ⟨_,by simp [retQ];exact ⟨rfl,by simp⟩,.norm fun T=>by simp⟩
   ·obtain ⟨k,hk⟩:∃ k,B / 8 % (one.length+1)=k:=⟨_,rfl⟩
    rw [show spM t A B c=t.set i0 (one.take k) by rw [hsp0,← hk];rfl]
    have hkl:k≤one.length:=by have:=Nat.mod_lt (B / 8) (show 0 < one.length+1 by omega);omega
    have hki:(k:Int)≤one.length:=by omega
    have wl1:=w64 (n:=(one.length:Int)+1) (by omega) (by omega)
    have hrem2:(((B / 8:Nat):Int)).tmod ((one.length:Int)+1)=(k:Nat):=by rw [← hk];rfl
    have ho1:¬ ((one.length:Int)+1=0):=by omega
    have hil1:i0+1≤cs.length:=hil
    refine W_cF [2,3,9,12,36,58] (by simp;rfl) rfl ?_
    refine W_cF [2,3,9,12,36,68] (by simp;rfl) rfl ?_
    refine W_cT [2,3,9,12,36,79] (by simp;rfl) rfl ?_
    refine qt9 [9] mx (by decide +kernel) ?_
    refine yr9 6 (by simp [hi0i,hi0l,hid,hcg,hcg2,hil];rfl) rfl ?_
    refine yr9 6 (by simp [hquo,wq,wq2,hi0i,hi0l,hid,hcg,hcg2,hil,-Int.natCast_ediv];rfl) rfl ?_
    refine ym9 (by simp [hil1,hquo,wq,wq2,wl1,hrem2,ho1,hki,hkl,hi0i,hi0l,hid,hcg,hcg2,hil,← xf9,-Int.natCast_ediv];rfl) ?_
    refine jr8 (sl:=9) (id:=id) (U:=t.set i0 (one.take k)) (cap:=cap) (cs:=cs.set i0 (.lst .any 1 (byL (one.take k)))) (by simp) (by rw [← ur9 cs i0 _ hil];exact List.getElem?_set_self (List.getElem?_eq_some_iff.1 hid).1) (by simpa using hcl) (by rw [List.length_set,List.take_set,htk,kd6]) (fun H'=>?_)
    refine yt9 [8] (by simp [putF];rfl) ?_
    refine yn9 ?_
    repeat (first | refine yg9 ?_ | refine yh9 ?_)
    exact ⟨_,by simp [retQ];exact ⟨rfl,by simp⟩,.norm fun T=>by simp⟩
   ·refine W_cF [2, 3, 9, 12, 36, 58] (by simp; rfl) rfl ?_
    refine W_cF [2,3,9,12,36,68] (by simp;rfl) rfl ?_
    refine W_cF [2,3,9,12,36,79] (by simp;rfl) rfl ?_
    refine W_cT [2,3,9,12,99] (by simp;rfl) rfl ?_
    by_cases e1:i0+1 < t.length
    ·rw [show spM t A B c = (t.set i0 (t.getD (i0 + 1) [])).set (i0 + 1) one by rw [hsp0]; exact if_pos e1]
     have e2:(i0:Int)+1 < t.length:=by omega
     have e0:(0:Int)≤(i0:Int)+1:=by omega
     have e3:((i0:Int)+1).toNat=i0+1:=by omega
     obtain ⟨two,htwo⟩:∃ two,t[i0+1]?=some two:=⟨_,List.getElem?_eq_getElem e1⟩
     rw [show t.getD (i0+1) []=two by rw [List.getD_eq_getElem?_getD,htwo];rfl]
     have e4:i0+1 < cs.length:=by omega
     have hcg3:cs[i0+1]?=some (.lst .any 1 (byL two)):=by
      have:(cs.take t.length)[i0+1]?=cs[i0+1]?:=by rw [List.getElem?_take,if_pos e1]
      rw [← this,htk,xl5,htwo]
      rfl
     have hcg4:cs[i0+1]'e4=.lst .any 1 (byL two):=by rw [List.getElem?_eq_getElem e4] at hcg3;exact Option.some.inj hcg3
     have hset:∀ x,(H.set id x)[id]?=some x:=fun x=>List.getElem?_set_self (List.getElem?_eq_some_iff.1 hid).1
     have hil1:i0+1≤cs.length:=hil
     have e5:i0+1+1≤cs.length:=e4
     have hsl:∀ y,(yf9 cs i0 [y]).length=cs.length:=fun y=>xs9 _ _ _ (by simp;omega)
     refine W_cT [9,12,105] (by simp [wi1,e1,e2];rfl) rfl ?_
     refine qt9 [9] mx (by decide +kernel) ?_
     refine yr9 6 (by simp [wi1];rfl) rfl ?_
     refine yr9 6 (by simp [wi1,e0,e1,e2,e3,hid,hcg3,hcg4,e4];rfl) rfl ?_
     refine ym9 (by simp [wi1,e0,e1,e2,e3,e4,e5,hsl,hil1,hi0i,hi0l,hid,hset,hcg,hcg2,hil];rfl) ?_
     refine jr8 (sl:=9) (id:=id) (U:=(t.set i0 two).set (i0+1) one) (cap:=cap) (cs:=(cs.set i0 (.lst .any 1 (byL two))).set (i0+1) (.lst .any 1 (byL one))) (by simp) ?_ (by simpa using hcl) ?_ (fun H'=>?_)
     ·rw [← ur9 (cs.set i0 (.lst .any 1 (byL two))) (i0+1) _ (by simpa using e4),← ur9 cs i0 _ hil]
      simp [(List.getElem?_eq_some_iff.1 hid).1]
     ·rw [List.length_set,List.length_set,List.take_set,List.take_set,htk,kd6,kd6]
     refine yt9 [8] (by simp [putF];rfl) ?_
     refine yn9 ?_
     repeat (first | refine yg9 ?_ | refine yh9 ?_)
     exact ⟨_,by simp [retQ];exact ⟨rfl,by simp⟩,.norm fun T=>by simp⟩
    ·rw [show spM t A B c=t by rw [hsp0];exact if_neg e1]
     have e2:¬ ((i0:Int)+1 < t.length):=by omega
     refine W_cF [9,12,105] (by simp [wi1,e1,e2];rfl) rfl ?_
     refine yk9 ?_
     refine jr8 (sl:=9) (cs:=cs) (cap:=cap) rfl hid hcl htk (fun H'=>?_)
     refine yt9 [8] (by simp [putF];rfl) ?_
     refine yn9 ?_
     repeat (first | refine yg9 ?_ | refine yh9 ?_)
     exact ⟨_,by simp [retQ];exact ⟨rfl,by simp⟩,.norm fun T=>by simp⟩
   ·have hmm : m = 4 ∨ m = 5 ∨ m = 6 ∨ m = 7 := by omega
    rcases hmm with rfl | rfl | rfl | rfl
    ·rw [show spM t A B c=t by rw [hsp0];exact if_pos hone1]
     refine W_cF [2,3,9,12,36,58] (by simp;rfl) rfl ?_
     refine W_cF [2,3,9,12,36,68] (by simp;rfl) rfl ?_
     refine W_cF [2,3,9,12,36,79] (by simp;rfl) rfl ?_
     refine W_cF [2,3,9,12,99] (by simp;rfl) rfl ?_
     refine W_cF [2,3,9,12,42] (by simp [hi0i,hi0l,hid,hcg,hcg2,hil,hone1];rfl) rfl ?_
     refine yk9 ?_
     refine jr8 (sl:=9) (cs:=cs) (cap:=cap) rfl hid hcl htk (fun H'=>?_)
     refine yt9 [8] (by simp [putF];rfl) ?_
     refine yn9 ?_
     repeat (first | refine yg9 ?_ | refine yh9 ?_)
     exact ⟨_,by simp [retQ];exact ⟨rfl,by simp⟩,.norm fun T=>by simp⟩
    ·rw [show spM t A B c=t by rw [hsp0];exact if_pos hone1]
     refine W_cF [2,3,9,12,36,58] (by simp;rfl) rfl ?_
     refine W_cF [2,3,9,12,36,68] (by simp;rfl) rfl ?_
     refine W_cF [2,3,9,12,36,79] (by simp;rfl) rfl ?_
     refine W_cF [2,3,9,12,99] (by simp;rfl) rfl ?_
     refine W_cF [2,3,9,12,42] (by simp [hi0i,hi0l,hid,hcg,hcg2,hil,hone1];rfl) rfl ?_
     refine yk9 ?_
     refine jr8 (sl:=9) (cs:=cs) (cap:=cap) rfl hid hcl htk (fun H'=>?_)
     refine yt9 [8] (by simp [putF];rfl) ?_
     refine yn9 ?_
     repeat (first | refine yg9 ?_ | refine yh9 ?_)
     exact ⟨_,by simp [retQ];exact ⟨rfl,by simp⟩,.norm fun T=>by simp⟩
    ·rw [show spM t A B c=t by rw [hsp0];exact if_pos hone1]
     refine W_cF [2,3,9,12,36,58] (by simp;rfl) rfl ?_
     refine W_cF [2,3,9,12,36,68] (by simp;rfl) rfl ?_
     refine W_cF [2,3,9,12,36,79] (by simp;rfl) rfl ?_
     refine W_cF [2,3,9,12,99] (by simp;rfl) rfl ?_
     refine W_cF [2,3,9,12,42] (by simp [hi0i,hi0l,hid,hcg,hcg2,hil,hone1];rfl) rfl ?_
     refine yk9 ?_
     refine jr8 (sl:=9) (cs:=cs) (cap:=cap) rfl hid hcl htk (fun H'=>?_)
     refine yt9 [8] (by simp [putF];rfl) ?_
     refine yn9 ?_
     repeat (first | refine yg9 ?_ | refine yh9 ?_)
     exact ⟨_,by simp [retQ];exact ⟨rfl,by simp⟩,.norm fun T=>by simp⟩
    ·rw [show spM t A B c=t by rw [hsp0];exact if_pos hone1]
     refine W_cF [2,3,9,12,36,58] (by simp;rfl) rfl ?_
     refine W_cF [2,3,9,12,36,68] (by simp;rfl) rfl ?_
     refine W_cF [2,3,9,12,36,79] (by simp;rfl) rfl ?_
     refine W_cF [2,3,9,12,99] (by simp;rfl) rfl ?_
     refine W_cF [2,3,9,12,42] (by simp [hi0i,hi0l,hid,hcg,hcg2,hil,hone1];rfl) rfl ?_
     refine yk9 ?_
     refine jr8 (sl:=9) (cs:=cs) (cap:=cap) rfl hid hcl htk (fun H'=>?_)
     refine yt9 [8] (by simp [putF];rfl) ?_
     refine yn9 ?_
     repeat (first | refine yg9 ?_ | refine yh9 ?_)
     exact ⟨_,by simp [retQ];exact ⟨rfl,by simp⟩,.norm fun T=>by simp⟩
def isS (b:List UInt8):Bool:=decide (4≤b.length)&&decide (decM (sbM b 1 3)=vw9)
def rgo : List (List UInt8) → List (List UInt8) → List OMod → Option (List OMod)
 | [],cur,acc=>if cur=[] then some acc else none
 | b :: r,cur,acc=>if isS b=true then (if (dcD false (cur++[b])).2=true then rgo r [] (acc++[(dcD false (cur++[b])).1]) else none) else rgo r (cur++[b]) acc
def rdcs (L:List (List UInt8)):List OMod × Bool:=match rgo L [] [] with
 | none=>([],false)
 | some l=>(l,true)
theorem isE_isS {b:List UInt8} (h:isE b=true):isS b=true:=by
 have he:decM endL=vw9:=by decide +kernel
 unfold isE at h
 simp only [Bool.and_eq_true,decide_eq_true_eq] at h
 unfold isS
 simp only [Bool.and_eq_true,decide_eq_true_eq]
 exact ⟨by omega,by rw [h.2,he]⟩
theorem kr4:∀ n:Nat,n < 256→(dec1 (UInt8.ofNat n)=69→n=197)∧(dec1 (UInt8.ofNat n)=78→n=213)∧(dec1 (UInt8.ofNat n)=68→n=196):=by decide +kernel
theorem dec_end {l:List UInt8} (h:decM l=vw9):l=endL:=by
 rw [ql4]
 unfold decM vw9 at h
 have hk:∀ (b:UInt8) (n:Nat),b.toNat=n→n < 256→b=UInt8.ofNat n:=fun b n h1 h2=>by rw [← h1,UInt8.ofNat_toNat]
 cases l with
 | nil=>cases h
 | cons a l =>
  cases l with
  | nil=>simp at h
  | cons b l =>
   cases l with
   | nil=>simp at h
   | cons c l =>
    cases l with
    | cons d l=>simp at h
    | nil =>
     simp only [List.map_cons,List.map_nil,List.cons.injEq,and_true] at h
     obtain ⟨h1,h2,h3⟩:=h
     have e1:=(kr4 a.toNat a.toNat_lt).1 (by rw [UInt8.ofNat_toNat];exact h1)
     have e2:=(kr4 b.toNat b.toNat_lt).2.1 (by rw [UInt8.ofNat_toNat];exact h2)
     have e3:=(kr4 c.toNat c.toNat_lt).2.2 (by rw [UInt8.ofNat_toNat];exact h3)
     rw [hk a _ e1 (by decide),hk b _ e2 (by decide),hk c _ e3 (by decide)]
     decide
theorem isS_isE {b:List UInt8} (h:isS b=true) (h80:b.length=80):isE b=true:=by
 unfold isS at h
 simp only [Bool.and_eq_true,decide_eq_true_eq] at h
 unfold isE
 simp only [Bool.and_eq_true,decide_eq_true_eq]
 exact ⟨by omega,dec_end h.2⟩
theorem un4 (p : Bool) (x : List UInt8) (hx : x.length ≠ 80) : ∀ (L : List (List UInt8)) (s : OMod × Int), x ∈ L → goD p L s = none
 | [],s,h=>by simp at h
 | b :: L,s,h=>by
  rw [goD]
  split
  ·rename_i h80
   have hm:x∈L:=by
    rcases List.mem_cons.1 h with e | e
    ·rw [e] at hx;exact absurd h80 hx
    ·exact e
   split
   ·rfl
   ·exact un4 p x hx L _ hm
  ·rfl
theorem kp4 (p:Bool) (x:List UInt8) (hx:x.length≠80) (L:List (List UInt8)) (h:x∈L):(dcD p L).2=false:=by
 rw [dcD,un4 p x hx L _ h]
theorem kt7 : ∀ (A : List (List UInt8)) (R cur : List (List UInt8)) (acc : List OMod), (∀ b ∈ A, isS b = false) → rgo (A ++ R) cur acc = rgo R (cur ++ A) acc
 | [],R,cur,acc,h=>by simp
 | a :: A,R,cur,acc,h=>by
  rw [List.cons_append,rgo,if_neg (by rw [h a (by simp)];simp),kt7 A R (cur++[a]) acc fun b hb=>h b (by simp [hb]),List.append_assoc]
  rfl
theorem zq5 : ∀ L : List (List UInt8), (∀ b ∈ L, isS b = false) ∨ ∃ A x R, L = A ++ x :: R ∧ isS x = true ∧ ∀ b ∈ A, isS b = false
 | []=>.inl (by simp)
 | b :: L=>by
  cases hb:isS b with
  | true=>exact .inr ⟨[],b,L,rfl,hb,by simp⟩
  | false =>
   rcases zq5 L with h | ⟨A,x,R,h1,h2,h3⟩
   ·refine .inl fun y hy=>?_
    rcases List.mem_cons.1 hy with e | e
    ·rw [e];exact hb
    ·exact h y e
   ·refine .inr ⟨b :: A,x,R,by rw [h1];rfl,h2,fun y hy=>?_⟩
    rcases List.mem_cons.1 hy with e | e
    ·rw [e];exact hb
    ·exact h3 y e
theorem vs5 {b:List UInt8} (h:isS b=false):isE b=false:=by
 cases he:isE b with
 | false=>rfl
 | true=>rw [isE_isS he] at h;cases h
theorem kh5 (p : List UInt8 → Bool) (R : List (List UInt8)) : ∀ (A : List (List UInt8)) (i : Nat), (∀ b ∈ A, p b = false) → ixL p i (A ++ R) = ixL p (i + A.length) R
 | [],i,h=>rfl
 | a :: A,i,h=>by
  rw [List.cons_append,ixL,if_neg (by rw [h a (by simp)];simp),kh5 p R A (i+1) fun b hb=>h b (by simp [hb]),List.length_cons]
  congr 1
  omega
theorem ixL_ge (p : List UInt8 → Bool) : ∀ (R : List (List UInt8)) (i : Nat), ixL p i R = -1 ∨ (i : Int) ≤ ixL p i R
 | [],i=>.inl rfl
 | b :: R,i=>by
  rw [ixL]
  split
  ·exact .inr (Int.le_refl _)
  ·rcases ixL_ge p R (i+1) with h | h
   ·exact .inl h
   ·right;omega
theorem rgo_eq : ∀ (f : Nat) (L : List (List UInt8)) (acc : List OMod), L.length ≤ f → dcsG f L acc = rgo L [] acc
 | 0,L,acc,h=>by
  have:L=[]:=List.length_eq_zero_iff.1 (by omega)
  subst this
  rfl
 | f+1,L,acc,h=>by
  rw [dcsG]
  by_cases hL:L=[]
  ·subst hL;rfl
  rw [if_neg hL]
  rcases zq5 L with hn | ⟨A,x,R,rfl,hx,hA⟩
  ·have h1:=kt7 L [] [] acc hn
   rw [List.append_nil,List.nil_append,rgo,if_neg hL] at h1
   rw [h1,kg5 isE L 0 fun b hb=>vs5 (hn b hb)]
   rw [show ((-1:Int)+1).toNat=0 from rfl,List.take_zero,ub5]
   simp
  ·have h1 := kt7 A (x :: R) [] acc hA
   rw [List.nil_append,rgo,if_pos hx] at h1
   rw [h1]
   simp only [List.length_append,List.length_cons] at h
   by_cases h80:x.length=80
   ·have hix:ixL isE 0 (A++x :: R)=((A.length:Nat):Int):=by rw [ug4 isE x R (isS_isE hx h80) A 0 fun b hb=>vs5 (hA b hb),Nat.zero_add]
    have hm:(ixL isE 0 (A++x :: R)+1).toNat=(A++[x]).length:=by rw [hix,List.length_append,List.length_singleton];omega
    have hsp:A++x :: R=(A++[x])++R:=by simp
    rw [hm,hsp,List.take_left' rfl,List.drop_left' rfl,km5 true false]
    split
    ·exact rgo_eq f R _ (by omega)
    ·rfl
   ·rw [kp4 false x h80 (A ++ [x]) (by simp)]
    simp only [Bool.false_eq_true,if_false]
    rw [if_neg]
    have hf:=kh5 isE (x :: R) A 0 fun b hb=>vs5 (hA b hb)
    rw [Nat.zero_add] at hf
    rcases ixL_ge isE (x :: R) A.length with hg | hg
    ·rw [hf,hg,show ((-1:Int)+1).toNat=0 from rfl,List.take_zero,ub5]
     simp
    ·rw [kp4 true x h80]
     ·simp
     ·rw [hf]
      obtain ⟨m,hm⟩:∃ m,(ixL isE A.length (x :: R)+1).toNat=A.length+1+m:=⟨(ixL isE A.length (x :: R)+1).toNat - (A.length+1),by omega⟩
      rw [hm,show A++x :: R=(A++[x])++R by simp,List.take_append]
      apply List.mem_append_left
      rw [List.take_of_length_le (by simp)]
      simp
theorem rdcs_eq (L:List (List UInt8)):rdcs L=dcsP L:=by
 unfold rdcs dcsP
 rw [rgo_eq L.length L [] (Nat.le_refl _)]
 cases rgo L [] [] <;> rfl
theorem xr6 (L:List (List UInt8)) (s i:Nat) (h:s≤i) (b:List UInt8) (hb:L[i]?=some b):(L.drop s).take (i+1 - s)=(L.drop s).take (i - s)++[b]:=by
 rw [show i+1 - s=i - s+1 by omega,List.take_add_one,List.getElem?_drop,show s+(i - s)=i by omega,hb]
 rfl
theorem kv8 (L : List (List UInt8)) (hL : L.length ≤ 100000) :
  Sound Tryz.prog 19 [.lst .any 1 (bbL L)] (.tup [.lst .any 4 (obL (rdcs L).1),.v (.bool (rdcs L).2)]):=by
 refine uh9 Tryz.func19 rfl (by decide +kernel) (by simp [Tryz.f19]) rfl rfl (rs:=[.tmp 2,.tmp 3]) rfl ?_
 rw [show Tryz.f19.ntmps=52 from rfl]
 refine yt9 [0] (by simp;rfl) ?_
 refine yt9 [0,4] (by simp;rfl) ?_
 refine yt9 [0,4,5] (by simp;rfl) ?_
 refine yl9 ?_
 refine yt9 [0,4,5,6] (by simp;rfl) ?_
 refine ys9 ?_
 refine zl9 (fun k s => ∃ (i st : Nat) (acc : List OMod) (x : AV), k = L.length - i ∧ i ≤ L.length ∧ st ≤ i ∧ acc.length ≤ i ∧ rgo (L.drop i) ((L.drop st).take (i - st)) acc = rgo L [] [] ∧ (x = .lst .nil 4 [] ∧ acc = [] ∨ x = .lst (.tip 33 89) 4 (obL acc)) ∧
  s=⟨52,[(0,.lst .any 1 (bbL L)),(4,x),(5,.v (.int .i64 (st:Nat))),(6,.v (.int .i64 (i:Nat)))],[]⟩) (k:=L.length) ⟨0,0,[],_,rfl,by omega,by omega,by simp,rfl,.inl ⟨rfl,rfl⟩,by simp⟩ ?_
 rintro k s ⟨i,st,acc,x,rfl,hi,hst,hal,hgo,hx,rfl⟩
 refine yl9 ?_
 by_cases c:i < L.length
 rotate_left
 ·have hiL : i = L.length := by omega
  subst hiL
  rw [List.drop_length,rgo] at hgo
  refine W_cF [0,4,5,12] (by simp;rfl) rfl ?_
  refine zj9 ?_
  refine yl9 ?_
  by_cases cs:st < L.length
  ·have csi:(st:Int) < L.length:=by omega
   rw [if_neg (by intro e;have:=congrArg List.length e;simp at this;omega)] at hgo
   have hd:rdcs L=([],false):=by rw [rdcs,← hgo]
   rw [hd]
   refine yt9 [4,50] (by simp [cs,csi];rfl) ?_
   refine yp9 (t:=true) (by simp [cs,csi]) (fun h=>?_) (fun h=>by simp at h)
   refine yt9 [2,3] (by simp;rfl) ?_
   refine yn9 ?_
   repeat (first | refine yg9 ?_ | refine yh9 ?_)
   exact ul9 (r0:=.tup _) (by simp [retQ];exact ⟨rfl,by simp⟩) (by simp [AV.plain,AV.plainL,obL])
  have csi:¬ (st:Int) < L.length:=by omega
  rw [if_pos (by rw [show L.length - st=0 by omega];rfl)] at hgo
  have hd:rdcs L=(acc,true):=by rw [rdcs,← hgo]
  rw [hd]
  refine yt9 [4,50] (by simp [cs,csi];rfl) ?_
  refine yp9 (t:=false) (by simp [cs,csi]) (fun h=>by simp at h) (fun h=>?_)
  refine yk9 ?_
  rcases hx with ⟨rfl,rfl⟩ | rfl
  ·refine yt9 [2,3] (by simp;rfl) ?_
   refine yn9 ?_
   repeat (first | refine yg9 ?_ | refine yh9 ?_)
   exact ul9 (r0:=.tup _) (by simp [retQ];exact ⟨rfl,by simp⟩) (by simp [AV.plain,AV.plainL,obL])
  ·refine yt9 [2,3] (by simp;rfl) ?_
   refine yn9 ?_
   repeat (first | refine yg9 ?_ | refine yh9 ?_)
   exact ul9 (r0:=.tup _) (by simp [retQ];exact ⟨rfl,by simp⟩) (by simp [AV.plain,AV.plainL])
 have ci:(i:Int) < L.length:=by omega
 obtain ⟨b,hb⟩:∃ b,L[i]?=some b:=⟨_,List.getElem?_eq_getElem c⟩
 have hb2:L[i]'c=b:=by rw [List.getElem?_eq_getElem c] at hb;exact Option.some.inj hb
 have hdr:L.drop i=b :: L.drop (i+1):=by rw [List.drop_eq_getElem_cons c,hb2]
 have wi:=w64 (n:=(i:Int)+1) (by omega) (by omega)
 have hcur:=xr6 L st i hst b hb
 rw [hdr,rgo,← hcur] at hgo
 obtain ⟨C,hC⟩:∃ C,(L.drop st).take (i+1 - st)=C:=⟨_,rfl⟩
 rw [hC] at hgo
 have hCl:C.length≤100000:=by rw [← hC,List.length_take,List.length_drop];omega
 refine W_cT [0,4,5,6,12] (by simp [c,ci];rfl) rfl ?_
 refine yk9 ?_
 refine yl9 ?_
 refine ys9 ?_
 refine yl9 ?_
 by_cases h4:b.length < 4
 ·have h4i:(b.length:Int) < 4:=by omega
  have hS:isS b=false:=by unfold isS;rw [decide_eq_false (by omega)];rfl
  rw [if_neg (by rw [hS];simp)] at hgo
  refine W_rK [0,4,5,6,29] ?_
  refine yq9 7 (by simp [c,ci,hb2,h4,h4i];rfl) rfl ?_
  refine yq9 8 (by simp [c,ci,hb2,h4,h4i];rfl) rfl ?_
  refine yw9 (by simp;rfl) ?_
  refine yp9 rfl (fun h=>?_) (fun h=>by simp at h)
  refine zj9 ?_
  refine zq9 [0,4,5,6] (by simp [wi];rfl) ?_
  exact ⟨_,by omega,i+1,st,acc,x,rfl,by omega,by omega,by omega,by rw [hC];exact hgo,hx,by simp⟩
 have h4i:¬ (b.length:Int) < 4:=by omega
 have h4':4≤b.length:=by omega
 have h4'i:(4:Int)≤b.length:=by omega
 obtain ⟨A,hA⟩:∃ A,sbM b 1 3=A:=⟨_,rfl⟩
 have eA:(List.take 4 (byL b)).tail=byL A:=by rw [← hA,sbM,← List.drop_one,← xf9,← wd9,List.drop_take]
 have hdc:=yl8 A (by rw [← hA,yg8 _ _ _ (by omega)];omega)
 obtain ⟨nm,hnm⟩:∃ s,decM A=s:=⟨_,rfl⟩
 rw [hnm] at hdc
 refine W_rK [0,4,5,6,29] ?_
 refine yq9 7 (by simp [c,ci,hb2,h4,h4i];rfl) rfl ?_
 refine yq9 5 (by simp [c,ci,hb2,h4',h4'i,eA];rfl) rfl ?_
 refine yd9 (by simp) (by first | (simp;done) | (simp;rfl)) hdc (by simp;rfl) ?_
 by_cases t4:nm=vw9
 rotate_left
 ·have hS:isS b=false:=by unfold isS;rw [decide_eq_false (p:=decM (sbM b 1 3)=vw9) (by rw [hA,hnm];exact t4),Bool.and_false]
  rw [if_neg (by rw [hS];simp)] at hgo
  have t4b:(nm != [69,78,68])=true:=by rw [bne,vc8];simpa [vw9] using t4
  have t4c:(nm == [69,78,68])=false:=by rw [vc8];simpa [vw9] using t4
  refine yw9 (by simp [strB,t4b,t4c];rfl) ?_
  refine yp9 (t:=true) (by simp [t4b,t4c]) (fun h=>?_) (fun h=>by simp at h)
  refine zj9 ?_
  refine zq9 [0,4,5,6] (by simp [wi];rfl) ?_
  exact ⟨_,by omega,i+1,st,acc,x,rfl,by omega,by omega,by omega,by rw [hC];exact hgo,hx,by simp⟩
 have hS:isS b=true:=by unfold isS;rw [decide_eq_true h4',decide_eq_true (by rw [hA,hnm];exact t4)];rfl
 have t4c:(nm == [69,78,68])=true:=by rw [vc8];simpa [vw9] using t4
 have t4b:(nm != [69,78,68])=false:=by rw [bne,t4c];rfl
 rw [if_pos hS] at hgo
 refine yw9 (by simp [strB,t4b,t4c];rfl) ?_
 refine yp9 (t:=false) (by simp [t4b,t4c]) (fun h=>by simp at h) (fun h=>?_)
 refine yk9 ?_
 have hdo:=zg8 C hCl
 obtain ⟨o,ho⟩:∃ o,(dcD false C).1=o:=⟨_,rfl⟩
 rw [ho] at hdo hgo
 have e1:List.drop st (List.take (i+1) (bbL L))=bbL C:=by rw [← xw4,← xr4,List.drop_take,hC]
 have s1:st≤i+1:=by omega
 have s1i:(st:Int)≤(i:Int)+1:=by omega
 have s2:i+1≤L.length:=by omega
 have s2i:(i:Int)+1≤L.length:=by omega
 have s3:((i:Int)+1).toNat=i+1:=by omega
 have s4:(0:Int)≤(i:Int)+1:=by omega
 refine W_rK [0,4,5,6,7,8] ?_
 refine yq9 5 (by simp [wi,s1,s1i,s2,s2i,s3,s4,e1];rfl) rfl ?_
 refine yd9 (by simp) (by simp;rfl) hdo (by simp;rfl) ?_
 refine yw9 (by simp [yf9];rfl) ?_
 refine yl9 ?_
 cases hok:(dcD false C).2 with
 | false =>
  rw [hok] at hgo
  simp only [Bool.false_eq_true,if_neg,not_false_eq_true] at hgo
  have hd:rdcs L=([],false):=by rw [rdcs,← hgo]
  rw [hd]
  refine W_cT [0,4,5,6,7,40] (by simp;rfl) rfl ?_
  refine yt9 [2,3] (by simp;rfl) ?_
  refine yn9 ?_
  repeat (first | refine yg9 ?_ | refine yh9 ?_)
  exact ul9 (r0:=.tup _) (by simp [retQ];exact ⟨rfl,by simp⟩) (by simp [AV.plain,AV.plainL,obL])
 | true =>
  rw [hok] at hgo
  simp only [if_pos] at hgo
  have hby:(acc.length+1) * 88≤140737488355328:=by omega
  have hsn:obL (acc++[o])=obL acc++[obA o]:=by rw [uq4,vn4]
  refine W_cF [0,4,5,6,7,40] (by simp;rfl) rfl ?_
  refine yk9 ?_
  have hg':rgo (L.drop (i+1)) ((L.drop (i+1)).take (i+1 - (i+1))) (acc++[o])=rgo L [] []:=by rw [Nat.sub_self,List.take_zero];exact hgo
  rcases hx with ⟨rfl,rfl⟩ | rfl
  ·refine yt9 [0,4,5,6] (by simp [hby,vm4,catK,AV.cellsK,AV.kone,AV.koneL,AV.weak,AV.weakL,strB];rfl) ?_
   refine xp9 0 (Nat.zero_le _) (by simp) (by simp [yv9,AV.under,AV.underL,strB]) (by simp [yc9,AObj.under,AV.under,AV.underL]) ?_
   iterate 2 refine zq9 [0,4,5,6] (by simp [wi];rfl) ?_
   exact ⟨_,by omega,i+1,i+1,[]++[o],_,rfl,by omega,by omega,by simp,hg',.inr rfl,by simp [obL,strB]⟩
  ·refine yt9 [0,4,5,6] (by simp [hby,catK,AV.cellsK,AV.kone,AV.koneL,AV.weak,AV.weakL,strB];rfl) ?_
   refine xp9 0 (Nat.zero_le _) (by simp) (by simp [yv9,AV.under,AV.underL,strB]) (by simp [yc9,AObj.under,AV.under,AV.underL]) ?_
   iterate 2 refine zq9 [0,4,5,6] (by simp [wi];rfl) ?_
   exact ⟨_,by omega,i+1,i+1,acc++[o],_,rfl,by omega,by omega,by simp;omega,hg',.inr rfl,by simp [hsn,strB]⟩
theorem AV.Le.agg {P:Program} {xs ys:List AV} (hl:xs.length=ys.length) (h:∀ (j:Nat) (x y:AV),xs[j]?=some x→ys[j]?=some y→AV.Le P x y):AV.Le P (.agg xs) (.agg ys):=fun c w u T hT h1 h2=>by
 simp only [AV.norm] at h1 h2 ⊢
 obtain ⟨us,rfl,hul,hrr⟩:=yr7 h1
 have hoo:=kl7 h2
 have hln:∀ l:List AV,(AV.normL T l).length=l.length:=fun l=>by induction l <;> simp_all [AV.normL]
 have key:∀ j y,(AV.normL T ys)[j]?=some y→Rep c w y (us.getD j undef)∧Own P c w y (us.getD j undef):=by
  intro j y hj
  rw [jm9] at hj
  obtain ⟨y0,hy,rfl⟩:=Option.map_eq_some_iff.1 hj
  have hjl:j < xs.length:=by rw [hl];exact (List.getElem?_eq_some_iff.1 hy).1
  have hx:xs[j]?=some xs[j]:=List.getElem?_eq_getElem hjl
  have hxn:(AV.normL T xs)[j]?=some (xs[j].norm T):=by rw [jm9,hx];rfl
  exact h j _ _ hx hy c w _ T hT (hrr j _ hxn) (hoo j _ hxn)
 exact ⟨.agg (by rw [hln,← hl,← hul,hln]) fun j y hj=>(key j y hj).1,.agg fun j y hj=>(key j y hj).2⟩
structure OSn (o:OMod):Prop where
 i:OIn o
 e:o.esd.length≤1000
 t:o.txt.length≤1000
 r:o.rld.length≤1000
 d:∀ t∈o.txt,t.data.length≤1000
 n:∀ x∈o.esd,x.name.length≤1000
 en:o.entry.length≤1000
 e0:o.esd≠[]
def ordS:Ord:=[0,1,2,3,4,5,6,7,8,9].foldr Ord.one (.two 10 11 (.one 11 (.one 12 (.one 13 .done))) (.one 10 (.one 12 (.one 13 .done))))
def ro9 (k:Nat):Bool:=k == 9 || k == 6 || k == 4 || k == 1
theorem swL_byL (i j:Nat) (l:List UInt8):AV.swL i j (byL l)=byL l:=by induction l <;> simp_all [byL,AV.swL,AV.sw]
theorem frz_ob {h:List AObj} (id:Nat) (o:OMod) (hid:h[id]?=some (.cells 33 (obC o))):vc9 Tryz.prog h 1 id 0 1 1=some (.lst (.tip 33 1) 4 [obA o],h.set id (.froz 33 (obC o))):=by
 unfold vc9
 rw [hid]
 simp [obC,strB,AV.koneL,AV.kone,AV.rfL,AV.rf,chunk,AV.weakL,AV.weak]
theorem qk4 (x:Esd):esEq x x=true:=by simp [esEq]
theorem vl4 (x:Rld):rdEq x x=true:=by simp [rdEq]
theorem ud8 (o:OMod) (h1:o.esd.length≤1000000) (h2:o.txt.length≤1000000) (h3:o.rld.length≤1000000):Sound Tryz.prog 20 [obA o,obA o] (.v (.bool true)):=by
 refine zh9 Tryz.func20 rfl (by decide +kernel) (by simp [Tryz.f20]) (by simp [AV.rfL,AV.rf,strB]) (by simp [AV.tlL,AV.tl,strB]) (rs:=[.tmp 4]) rfl ?_
 rw [show Tryz.f20.ntmps=116 from rfl]
 refine yt9 [2,3] (by simp;rfl) ?_
 refine (show Wt true 0 Tryz.prog _ _ ⟨116,[(2,.loc 0 0),(3,.loc 1 0)],[.cells 33 (obC o),.cells 33 (obC o)]⟩ from ?_)
 refine W_roB 2 (tk:=1) (x:=obA o) rfl (by decide) (frz_ob 0 o rfl) (by simp [AV.rf,AV.rfL,strB]) ?_
 refine W_roB 3 (tk:=1) (x:=obA o) rfl (by decide) (frz_ob 1 o rfl) (by simp [AV.rf,AV.rfL,strB]) ?_
 refine xp9 0 (by simp) (by simp) (by simp [yv9,putF,AV.under,AV.underL,strB]) (by simp [yc9]) ?_
 refine (show Wt true 0 Tryz.prog _ _ ⟨116,[(2,.ro (obA o)),(3,.ro (obA o))],[]⟩ from ?_)
 refine yl9 ?_
 refine W_rK [2,3,41] ?_
 iterate 3 refine yq9 8 (by simp [obC];rfl) rfl ?_
 refine yw9 (by simp [obC,strB];rfl) ?_
 refine yp9 rfl (fun h=>by simp at h) (fun h=>?_)
 refine yk9 ?_
 refine xh9 (fun σ=>σ=⟨116,[(2,.ro (obA o)),(3,.ro (obA o))],[]⟩) ?_ ?_
 ·refine yt9 [2, 3, 5] (by simp [obC]; rfl) ?_
  refine ys9 ?_
  refine zl9 (fun k σ=>∃ i:Nat,k=o.esd.length - i∧i≤o.esd.length∧σ=⟨116,[(2,.ro (obA o)),(3,.ro (obA o)),(5,.v (.int .i64 (i:Nat)))],[]⟩) (k:=o.esd.length) ⟨0,rfl,by omega,by simp [obC,strB]⟩ ?_
  rintro k σ ⟨i,rfl,hi,rfl⟩
  refine yl9 ?_
  by_cases c:i < o.esd.length
  ·have ci : (i : Int) < o.esd.length := by omega
   obtain ⟨x,hs⟩:∃ x,o.esd[i]?=some x:=⟨_,List.getElem?_eq_getElem c⟩
   have hx2:o.esd[i]'c=x:=by rw [List.getElem?_eq_getElem c] at hs;exact Option.some.inj hs
   have wi:=w64 (n:=(i:Int)+1) (by omega) (by omega)
   refine yt9 [2,3,5,46] (by simp [obC,c,ci];rfl) ?_
   refine yp9 (t:=true) (by simp [c,ci]) (fun h=>?_) (fun h=>by simp at h)
   refine yk9 ?_
   refine yl9 ?_
   refine ys9 ?_
   refine ws9 (fun σ=>σ=⟨116,[(2,.ro (obA o)),(3,.ro (obA o)),(5,.v (.int .i64 (i:Nat))),(59,.v (.bool false))],[]⟩) ?_ ?_
   ·refine wb9 [2,3,5,59] (us8 10 mx (by decide +kernel) ?_)
    refine yr9 5 (by simp [obC,c,ci,hx2];rfl) rfl ?_
    refine ym9 (by simp [obC,c,ci,hx2];rfl) ?_
    refine vs8 [10] (by decide +kernel) (by simp) ?_
    intro j hj
    simp only [List.mem_cons,List.not_mem_nil,or_false] at hj
    subst hj
    refine ⟨_,rfl,?_⟩
    refine .inr ⟨rfl,?_⟩
    refine xg8 (t:=50) (k1:=53) (k2:=58) (us:=esV x) (vs:=esV x) (fs:=fs78) rfl (by simp [esV,strB]) (by simp [esV,strB]) (by kernel_rfl) (by kernel_rfl) (by kernel_rfl) rfl (es_ok x x) ?_
    rw [es_eq,qk4]
    refine ⟨_,by simp;rfl,?_⟩
    refine qm9 (by decide +kernel) ?_
    simp [yj9,km9,obC,strB]
   rintro _ rfl
   refine yp9 (t:=false) (by simp) (fun h=>by simp at h) (fun h=>?_)
   refine yk9 ?_
   refine zq9 [2,3,5] (by simp [wi];rfl) ?_
   exact ⟨_,by omega,i+1,rfl,by omega,by simp [obC,strB]⟩
  have ci:¬ (i:Int) < o.esd.length:=by omega
  refine yt9 [2,3,46] (by simp [obC,c,ci];rfl) ?_
  refine yp9 (t:=false) (by simp [c,ci]) (fun h=>by simp at h) (fun h=>?_)
  refine zs9 [2,3] ?_
  refine zj9 ?_
  simp [yj9,qp8,obC,strB]
 rintro _ rfl
 refine xh9 (fun σ=>σ=⟨116,[(2,.ro (obA o)),(3,.ro (obA o))],[]⟩) ?_ ?_
 ·refine yt9 [2, 3, 6] (by simp [obC]; rfl) ?_
  refine ys9 ?_
  refine zl9 (fun k σ=>∃ i:Nat,k=o.txt.length - i∧i≤o.txt.length∧σ=⟨116,[(2,.ro (obA o)),(3,.ro (obA o)),(6,.v (.int .i64 (i:Nat)))],[]⟩) (k:=o.txt.length) ⟨0,rfl,by omega,by simp [obC,strB]⟩ ?_
  rintro k σ ⟨i,rfl,hi,rfl⟩
  refine yl9 ?_
  by_cases c:i < o.txt.length
  ·have ci : (i : Int) < o.txt.length := by omega
   obtain ⟨x,hs⟩:∃ x,o.txt[i]?=some x:=⟨_,List.getElem?_eq_getElem c⟩
   have hx2:o.txt[i]'c=x:=by rw [List.getElem?_eq_getElem c] at hs;exact Option.some.inj hs
   have wi:=w64 (n:=(i:Int)+1) (by omega) (by omega)
   refine yt9 [2,3,6,64] (by simp [obC,c,ci];rfl) ?_
   refine yp9 (t:=true) (by simp [c,ci]) (fun h=>?_) (fun h=>by simp at h)
   refine yk9 ?_
   refine yl9 ?_
   refine ys9 ?_
   refine xh9 (fun σ=>AtS 116 [(2,.ro (obA o)),(3,.ro (obA o)),(6,.v (.int .i64 (i:Nat))),(7,.loc 0 0),(8,.loc 1 0)] [.cells 42 (txC x),.cells 42 (txC x)] σ) ?_ ?_
   ·refine wb9 [2,3,6,7,8] (W_ord ro9 ordS mx (by decide +kernel) ?_)
    refine xw7 _ _ _ (by simp [evO,ordS,ro9,roAt,yf9,strB,obC,c,ci,hx2];rfl) ?_
    intro s' hs'
    simp only [List.mem_append,List.mem_singleton,List.mem_cons,List.not_mem_nil,or_false] at hs'
    rcases hs' with rfl | rfl
    ·exact ⟨_,Seen.refl _ _,rfl,by simp [txC,obC,yf9,strB],by simp [FrOk,getF,km9,strB]⟩
    ·exact ⟨swSt 0 1 _,Seen.sw (by simp) (by simp) (by simp) (by simp),rfl,by simp [swSt,txC,obC,yf9,strB,AObj.sw,AV.swL,AV.sw,swL_byL],by simp [FrOk,getF,km9,swSt,AV.sw,sw,strB]⟩
   rintro σ hσ
   refine W_at hσ ?_
   refine W_rK [2,3,6,97] ?_
   iterate 3 refine yq9 6 (by simp [txC];rfl) rfl ?_
   refine yw9 (by simp;rfl) ?_
   refine yp9 (t:=false) (by simp) (fun h=>by simp at h) (fun h=>?_)
   refine yk9 ?_
   refine xp9 0 (by simp) (by simp) (by simp [yv9,AV.under,AV.underL]) (by simp [yc9,AObj.under,AV.under,AV.underL,strB]) ?_
   refine zq9 [2,3,6] (by simp [wi];rfl) ?_
   exact ⟨_,by omega,i+1,rfl,by omega,by simp [obC,strB]⟩
  have ci:¬ (i:Int) < o.txt.length:=by omega
  refine yt9 [2,3,64] (by simp [obC,c,ci];rfl) ?_
  refine yp9 (t:=false) (by simp [c,ci]) (fun h=>by simp at h) (fun h=>?_)
  refine zs9 [2,3] ?_
  refine zj9 ?_
  simp [yj9,qp8,obC,strB]
 rintro _ rfl
 refine xh9 (fun σ=>σ=⟨116,[],[]⟩) ?_ ?_
 ·refine yt9 [2, 3, 9] (by simp [obC]; rfl) ?_
  refine ys9 ?_
  refine zl9 (fun k σ=>∃ i:Nat,k=o.rld.length - i∧i≤o.rld.length∧σ=⟨116,[(2,.ro (obA o)),(3,.ro (obA o)),(9,.v (.int .i64 (i:Nat)))],[]⟩) (k:=o.rld.length) ⟨0,rfl,by omega,by simp [obC,strB]⟩ ?_
  rintro k σ ⟨i,rfl,hi,rfl⟩
  refine yl9 ?_
  by_cases c:i < o.rld.length
  ·have ci : (i : Int) < o.rld.length := by omega
   obtain ⟨x,hs⟩:∃ x,o.rld[i]?=some x:=⟨_,List.getElem?_eq_getElem c⟩
   have hx2:o.rld[i]'c=x:=by rw [List.getElem?_eq_getElem c] at hs;exact Option.some.inj hs
   have wi:=w64 (n:=(i:Int)+1) (by omega) (by omega)
   refine yt9 [2,3,9,102] (by simp [obC,c,ci];rfl) ?_
   refine yp9 (t:=true) (by simp [c,ci]) (fun h=>?_) (fun h=>by simp at h)
   refine yk9 ?_
   refine yl9 ?_
   refine ys9 ?_
   refine ws9 (fun σ=>σ=⟨116,[(2,.ro (obA o)),(3,.ro (obA o)),(9,.v (.int .i64 (i:Nat))),(115,.v (.bool false))],[]⟩) ?_ ?_
   ·refine wb9 [2,3,9,115] (us8 10 mx (by decide +kernel) ?_)
    refine yr9 5 (by simp [obC,c,ci,hx2];rfl) rfl ?_
    refine ym9 (by simp [obC,c,ci,hx2];rfl) ?_
    refine vs8 [10] (by decide +kernel) (by simp) ?_
    intro j hj
    simp only [List.mem_cons,List.not_mem_nil,or_false] at hj
    subst hj
    refine ⟨_,rfl,?_⟩
    refine .inr ⟨rfl,?_⟩
    refine xg8 (t:=46) (k1:=109) (k2:=114) (us:=rdV x) (vs:=rdV x) (fs:=fs80) rfl (by simp [rdV,strB]) (by simp [rdV,strB]) (by kernel_rfl) (by kernel_rfl) (by kernel_rfl) rfl (rd_ok x x) ?_
    rw [rd_eq,vl4]
    refine ⟨_,by simp;rfl,?_⟩
    refine qm9 (by decide +kernel) ?_
    simp [yj9,km9,obC,strB]
   rintro _ rfl
   refine yp9 (t:=false) (by simp) (fun h=>by simp at h) (fun h=>?_)
   refine yk9 ?_
   refine zq9 [2,3,9] (by simp [wi];rfl) ?_
   exact ⟨_,by omega,i+1,rfl,by omega,by simp [obC,strB]⟩
  have ci:¬ (i:Int) < o.rld.length:=by omega
  refine yt9 [2,3,102] (by simp [obC,c,ci];rfl) ?_
  refine yp9 (t:=false) (by simp [c,ci]) (fun h=>by simp at h) (fun h=>?_)
  refine zs9 [] ?_
  refine zj9 ?_
  simp [yj9,qp8,obC,strB]
 rintro _ rfl
 refine yt9 [4] (by simp;rfl) ?_
 refine yn9 ?_
 repeat (first | refine yg9 ?_ | refine yh9 ?_)
 simp [retQ]
set_option maxRecDepth 100000
def syAll:List UInt8:=[65,66,67,68,69,70,71,72,73,74,75,76,77,78,79,80,81,82,83,84,85,86,87,88,89,90,48,49,50,51,52,53,54,55,56,57,64,35,36]
def symG (i:Nat):List UInt8:=(match i % 4 with | 0=>[83] | 1=>[64,88] | 2=>[76,79,78,71,69,82] | _=>[36])++([syAll.getD (i / 39 % 39) 0]++[syAll.getD (i % 39) 0])
theorem sy0:Sound Tryz.prog 14 [.v (.int .i64 0)] (strB (symG 0)):=zg9 mx 300 (by kernel_rfl)
theorem sy1:Sound Tryz.prog 14 [.v (.int .i64 1)] (strB (symG 1)):=zg9 mx 300 (by kernel_rfl)
theorem sy2:Sound Tryz.prog 14 [.v (.int .i64 2)] (strB (symG 2)):=zg9 mx 300 (by kernel_rfl)
theorem sy3:Sound Tryz.prog 14 [.v (.int .i64 3)] (strB (symG 3)):=zg9 mx 300 (by kernel_rfl)
theorem sy4:Sound Tryz.prog 14 [.v (.int .i64 4)] (strB (symG 4)):=zg9 mx 300 (by kernel_rfl)
theorem sy5:Sound Tryz.prog 14 [.v (.int .i64 5)] (strB (symG 5)):=zg9 mx 300 (by kernel_rfl)
theorem sy6:Sound Tryz.prog 14 [.v (.int .i64 6)] (strB (symG 6)):=zg9 mx 300 (by kernel_rfl)
theorem sy7:Sound Tryz.prog 14 [.v (.int .i64 7)] (strB (symG 7)):=zg9 mx 300 (by kernel_rfl)
theorem sy8:Sound Tryz.prog 14 [.v (.int .i64 8)] (strB (symG 8)):=zg9 mx 300 (by kernel_rfl)
theorem sy9:Sound Tryz.prog 14 [.v (.int .i64 9)] (strB (symG 9)):=zg9 mx 300 (by kernel_rfl)
theorem sy10:Sound Tryz.prog 14 [.v (.int .i64 10)] (strB (symG 10)):=zg9 mx 300 (by kernel_rfl)
theorem sy11:Sound Tryz.prog 14 [.v (.int .i64 11)] (strB (symG 11)):=zg9 mx 300 (by kernel_rfl)
theorem sy12:Sound Tryz.prog 14 [.v (.int .i64 12)] (strB (symG 12)):=zg9 mx 300 (by kernel_rfl)
theorem sy13:Sound Tryz.prog 14 [.v (.int .i64 13)] (strB (symG 13)):=zg9 mx 300 (by kernel_rfl)
theorem sy14:Sound Tryz.prog 14 [.v (.int .i64 14)] (strB (symG 14)):=zg9 mx 300 (by kernel_rfl)
theorem sy15:Sound Tryz.prog 14 [.v (.int .i64 15)] (strB (symG 15)):=zg9 mx 300 (by kernel_rfl)
theorem sy16:Sound Tryz.prog 14 [.v (.int .i64 16)] (strB (symG 16)):=zg9 mx 300 (by kernel_rfl)
theorem sy17:Sound Tryz.prog 14 [.v (.int .i64 17)] (strB (symG 17)):=zg9 mx 300 (by kernel_rfl)
theorem sy18:Sound Tryz.prog 14 [.v (.int .i64 18)] (strB (symG 18)):=zg9 mx 300 (by kernel_rfl)
theorem sy19:Sound Tryz.prog 14 [.v (.int .i64 19)] (strB (symG 19)):=zg9 mx 300 (by kernel_rfl)
theorem sy20:Sound Tryz.prog 14 [.v (.int .i64 20)] (strB (symG 20)):=zg9 mx 300 (by kernel_rfl)
theorem sy21:Sound Tryz.prog 14 [.v (.int .i64 21)] (strB (symG 21)):=zg9 mx 300 (by kernel_rfl)
theorem sy22:Sound Tryz.prog 14 [.v (.int .i64 22)] (strB (symG 22)):=zg9 mx 300 (by kernel_rfl)
theorem sy23:Sound Tryz.prog 14 [.v (.int .i64 23)] (strB (symG 23)):=zg9 mx 300 (by kernel_rfl)
theorem sy24:Sound Tryz.prog 14 [.v (.int .i64 24)] (strB (symG 24)):=zg9 mx 300 (by kernel_rfl)
theorem sy25:Sound Tryz.prog 14 [.v (.int .i64 25)] (strB (symG 25)):=zg9 mx 300 (by kernel_rfl)
theorem sy26:Sound Tryz.prog 14 [.v (.int .i64 26)] (strB (symG 26)):=zg9 mx 300 (by kernel_rfl)
theorem sy27:Sound Tryz.prog 14 [.v (.int .i64 27)] (strB (symG 27)):=zg9 mx 300 (by kernel_rfl)
theorem sy28:Sound Tryz.prog 14 [.v (.int .i64 28)] (strB (symG 28)):=zg9 mx 300 (by kernel_rfl)
theorem sy29:Sound Tryz.prog 14 [.v (.int .i64 29)] (strB (symG 29)):=zg9 mx 300 (by kernel_rfl)
theorem sy30:Sound Tryz.prog 14 [.v (.int .i64 30)] (strB (symG 30)):=zg9 mx 300 (by kernel_rfl)
theorem sy31:Sound Tryz.prog 14 [.v (.int .i64 31)] (strB (symG 31)):=zg9 mx 300 (by kernel_rfl)
theorem sy32:Sound Tryz.prog 14 [.v (.int .i64 32)] (strB (symG 32)):=zg9 mx 300 (by kernel_rfl)
theorem sy33:Sound Tryz.prog 14 [.v (.int .i64 33)] (strB (symG 33)):=zg9 mx 300 (by kernel_rfl)
theorem sy34:Sound Tryz.prog 14 [.v (.int .i64 34)] (strB (symG 34)):=zg9 mx 300 (by kernel_rfl)
theorem sy35:Sound Tryz.prog 14 [.v (.int .i64 35)] (strB (symG 35)):=zg9 mx 300 (by kernel_rfl)
theorem sy36:Sound Tryz.prog 14 [.v (.int .i64 36)] (strB (symG 36)):=zg9 mx 300 (by kernel_rfl)
theorem sy37:Sound Tryz.prog 14 [.v (.int .i64 37)] (strB (symG 37)):=zg9 mx 300 (by kernel_rfl)
theorem sy38:Sound Tryz.prog 14 [.v (.int .i64 38)] (strB (symG 38)):=zg9 mx 300 (by kernel_rfl)
theorem sy39:Sound Tryz.prog 14 [.v (.int .i64 39)] (strB (symG 39)):=zg9 mx 300 (by kernel_rfl)
theorem kn8 (i:Nat) (h:i < 40):Sound Tryz.prog 14 [.v (.int .i64 (i:Nat))] (strB (symG i)):=by
 match i,h with
 | 0,_=>exact sy0
 | 1,_=>exact sy1
 | 2,_=>exact sy2
 | 3,_=>exact sy3
 | 4,_=>exact sy4
 | 5,_=>exact sy5
 | 6,_=>exact sy6
 | 7,_=>exact sy7
 | 8,_=>exact sy8
 | 9,_=>exact sy9
 | 10,_=>exact sy10
 | 11,_=>exact sy11
 | 12,_=>exact sy12
 | 13,_=>exact sy13
 | 14,_=>exact sy14
 | 15,_=>exact sy15
 | 16,_=>exact sy16
 | 17,_=>exact sy17
 | 18,_=>exact sy18
 | 19,_=>exact sy19
 | 20,_=>exact sy20
 | 21,_=>exact sy21
 | 22,_=>exact sy22
 | 23,_=>exact sy23
 | 24,_=>exact sy24
 | 25,_=>exact sy25
 | 26,_=>exact sy26
 | 27,_=>exact sy27
 | 28,_=>exact sy28
 | 29,_=>exact sy29
 | 30,_=>exact sy30
 | 31,_=>exact sy31
 | 32,_=>exact sy32
 | 33,_=>exact sy33
 | 34,_=>exact sy34
 | 35,_=>exact sy35
 | 36,_=>exact sy36
 | 37,_=>exact sy37
 | 38,_=>exact sy38
 | 39,_=>exact sy39
 | n+40,h=>omega
end Go.AM
