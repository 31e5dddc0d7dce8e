/- Parts of the walk: Z31H Z31I Z31J Z38A Z31K Z31L Z31M. -/
import Derived.Test.YtlhaljblcimnbaaGreatG1
namespace Go.AM
open Go.RowKit Go.Proofs
set_option linter.unusedSimpArgs false
set_option linter.unusedVariables false
set_option maxHeartbeats 8000000
def cdM (b:UInt8):UInt8 × Bool:=if b.toNat < 32∨126 < b.toNat then (0,false) else (qd9.getD (b.toNat - 32) 0,true)
theorem qg6 (b:UInt8):Sound Tryz.prog 98 [.v (.int .u8 b.toNat)] (.tup [.v (.int .u8 (cdM b).1.toNat),.v (.bool (cdM b).2)]):=by
 refine zh9 Tryz.func98 rfl (by decide +kernel) (by simp [Tryz.f98]) rfl rfl (rs:=[.tmp 2,.tmp 3]) rfl ?_
 rw [show Tryz.f98.ntmps=13 from rfl]
 refine yt9 [0] (by simp;rfl) ?_
 refine yl9 ?_
 have hlt:=b.toNat_lt
 by_cases h1:b.toNat < 32
 ·have h1':(b.toNat:Int) < 32:=by omega
  refine W_cT [0,9] (by simp [h1,h1'];rfl) rfl ?_
  refine yt9 [2,3] (by simp;rfl) ?_
  refine yn9 ?_
  repeat (first | refine yg9 ?_ | refine yh9 ?_)
  simp [retQ,cdM,h1]
 have h1':¬ (b.toNat:Int) < 32:=by omega
 by_cases h2:126 < b.toNat
 ·have h2':(126:Int) < b.toNat:=by omega
  refine W_cT [0,9] (by simp [h1,h1',h2,h2'];rfl) rfl ?_
  refine yt9 [2,3] (by simp;rfl) ?_
  refine yn9 ?_
  repeat (first | refine yg9 ?_ | refine yh9 ?_)
  simp [retQ,cdM,h2]
 have h2':¬ (126:Int) < b.toNat:=by omega
 have w1:IntKind.u8.wrap ((b.toNat:Int) - 32)=((b.toNat - 32:Nat):Int):=by
  simp only [IntKind.wrap_u8]
  omega
 refine W_cF [0,9] (by simp [h1,h1',h2,h2'];rfl) rfl ?_
 refine yk9 ?_
 obtain ⟨k,hk⟩:∃ k,b.toNat - 32=k:=⟨_,rfl⟩
 have hk95:k < qd9.length:=by show k < 95;omega
 have hg:qd9[k]?=some (qd9.getD k 0):=by
  rw [List.getD_eq_getElem?_getD,List.getElem?_eq_getElem hk95];rfl
 have hM:cdM b=(qd9.getD k 0,true):=by rw [cdM,if_neg (by omega),hk]
 rw [hk] at w1
 rw [hM]
 obtain ⟨cd,hcd⟩:∃ cd,qd9.getD k 0=cd:=⟨_,rfl⟩
 rw [hcd] at hg ⊢
 have hg':=hg
 simp only [qd9] at hg'
 refine yt9 [2,3] (by simp [w1,-List.append_eq];rw [hg'];rfl) ?_
 refine yn9 ?_
 repeat (first | refine yg9 ?_ | refine yh9 ?_)
 simp [retQ]
def vt7 (l:List UInt8):Bool:=l.all fun b=>(cdM b).2
def enc1 (l:List UInt8):List UInt8:=l.map fun b=>(cdM b).1
def encM (l:List UInt8):List UInt8 × Int:=if vt7 l then (enc1 l,0) else ([],20)
theorem yg6 {l:List UInt8} {i:Nat} {b:UInt8} (h:l[i]?=some b) (hb:(cdM b).2=false):vt7 l=false:=by
 rw [vt7,List.all_eq_false]
 exact ⟨b,List.mem_of_getElem? h,by simp [hb]⟩
theorem kt8 (n:Nat):repC n [AV.v (.int .u8 0)]=byL (List.replicate n 0):=by
 induction n with
 | zero=>rfl
 | succ n ih=>simp only [repC,ih,List.replicate_succ,vp9];rfl
theorem zt5 (l:List UInt8) (hl:l.length≤1000000):Sound Tryz.prog 89 [strB l,.v (.int .i64 (l.length:Nat))] (.tup [.lst .any 1 (byL (encM l).1),.v (.int .i64 (encM l).2)]):=by
 refine vm9 Tryz.func89 rfl (by decide +kernel) (by simp [Tryz.f89]) rfl rfl (rs:=[.tmp 4,.tmp 5]) rfl ?_
 rw [show Tryz.f89.ntmps=39 from rfl]
 simp only [strB]
 have hm1:(l.length:Int)≤140737488355328:=by omega
 refine yt9 [0,1] (by simp;rfl) ?_
 refine yt9 [0,6] (by simp [kt8,show (l.length:Int)≤281474976710656 by omega,show (l.length:Int)≤9223372036854775807 by omega];rfl) ?_
 refine yl9 ?_
 refine yt9 [0,6,13,14] (by simp;rfl) ?_
 refine ys9 ?_
 refine zl9 (fun k s => ∃ (i : Nat), k = l.length - i ∧ i ≤ l.length ∧ vt7 (l.take i) = true ∧
  s=⟨39,[(0,.v (.string ⟨l.toArray⟩)),(6,.arr 0 0 l.length l.length),(13,.v (.int .i64 (l.length:Nat))),(14,.v (.int .i64 (i:Nat)))],[.cells 5 (byL (enc1 (l.take i)++List.replicate (l.length - i) 0))]⟩) (k:=l.length) ⟨0,rfl,by omega,by simp [vt7],by simp [enc1]⟩ ?_
 rintro k s ⟨i,rfl,hi,hok,rfl⟩
 by_cases c:i < l.length
 ·have ci : (i : Int) < l.length := by omega
  obtain ⟨b,hb⟩:∃ b,l[i]?=some b:=⟨_,List.getElem?_eq_getElem c⟩
  have hb2:l[i]'c=b:=by rw [List.getElem?_eq_getElem c] at hb;exact Option.some.inj hb
  have wi:=w64 (n:=(i:Int)+1) (by omega) (by omega)
  have hnl:¬ (l.length:Int)≤i:=by omega
  have hlen:(enc1 (l.take i)).length=i:=by simp [enc1];omega
  have hlen2:i+1≤(enc1 (l.take i)++List.replicate (l.length - i) (0:UInt8)).length:=by simp [hlen];omega
  have hset:∀ (x:UInt8) (y:UInt8),yf9 (yf9 (byL (enc1 (l.take i)++List.replicate (l.length - i) 0)) i [.v (.int .u8 x.toNat)]) i [.v (.int .u8 y.toNat)]=byL (enc1 (l.take i)++[y]++List.replicate (l.length - (i+1)) 0):=by
   intro x y
   obtain ⟨m,hm⟩:∃ m,l.length - i=m+1:=⟨l.length - i - 1,by omega⟩
   have hm2:l.length - (i+1)=m:=by omega
   have hlb:(byL (enc1 (l.take i))).length=i:=by simp [hlen]
   rw [hm,hm2,List.replicate_succ]
   have e1:∀ (z w:UInt8) (r:List UInt8),yf9 (byL (enc1 (l.take i)++z :: r)) i [.v (.int .u8 w.toNat)]=byL (enc1 (l.take i)++w :: r):=by
    intro z w r
    have h1:byL (enc1 (l.take i)++z :: r)=byL (enc1 (l.take i))++(.v (.int .u8 z.toNat) :: byL r):=by simp [byL]
    have h2:byL (enc1 (l.take i)++w :: r)=byL (enc1 (l.take i))++(.v (.int .u8 w.toNat) :: byL r):=by simp [byL]
    rw [h1,h2]
    unfold yf9
    rw [List.take_left' hlb,List.drop_append]
    simp [hlb]
   rw [e1,e1]
   simp
  refine yt9 [0,6,13,14,15] (by simp [c];rfl) ?_
  refine yl9 ?_
  refine yp9 rfl (fun h=>?_) (fun h=>by simp at h)
  refine yk9 ?_
  refine yl9 ?_
  refine ys9 ?_
  refine yt9 [0,6,13,14,7] (by simp;rfl) ?_
  refine yt9 [0,6,13,14,7] (by simp [c,ci,hlen,show i+1≤i+(l.length - i) by omega];rfl) ?_
  refine yl9 ?_
  refine W_cF [0,6,13,14,7,23] (by simp [hnl,show ¬ l.length≤i by omega];rfl) rfl ?_
  refine yk9 ?_
  refine W_rK [0,6,13,14,7,8,9] ?_
  refine yq9 3 (by simp [c,ci,hb,hb2];rfl) rfl ?_
  refine yd9 (by simp) (by first | (simp;done) | (simp;rfl)) (qg6 b) (by simp;rfl) ?_
  refine yw9 (by simp;rfl) ?_
  refine yl9 ?_
  cases hcd:(cdM b).2 with
  | false =>
   have hM:encM l=([],20):=by rw [encM,yg6 hb hcd];rfl
   refine W_cT [0,6,13,14,7,8,32] (by simp [hcd];rfl) rfl ?_
   refine yt9 [4,5] (by simp;rfl) ?_
   refine yn9 ?_
   repeat (first | refine yg9 ?_ | refine yh9 ?_)
   exact ⟨_,by simp [retQ];exact ⟨rfl,by simp⟩,.inr (by simp [hM])⟩
  | true =>
   have htk:vt7 (l.take (i+1))=true:=by
    rw [List.take_add_one,hb,vt7,List.all_append]
    simp only [Option.toList_some,List.all_cons,hcd,List.all_nil,Bool.and_self,Bool.and_true]
    exact hok
   have he:enc1 (l.take (i+1))=enc1 (l.take i)++[(cdM b).1]:=by rw [List.take_add_one,hb];simp [enc1]
   refine W_cF [0,6,13,14,7,8,32] (by simp [hcd];rfl) rfl ?_
   refine yk9 ?_
   refine zq9 [0,6,13,14] (by simp [c,ci,hlen,xs9,show i+1≤i+(l.length - i) by omega];rfl) ?_
   refine zq9 [0,6,13,14] (by simp [wi];rfl) ?_
   refine ⟨_,by omega,i+1,rfl,by omega,htk,?_⟩
   rw [he]
   have:=hset 64 (cdM b).1
   simp at this ⊢
   exact this
 have hie:i=l.length:=by omega
 subst hie
 rw [List.take_length] at hok
 have hM:encM l=(enc1 l,0):=by rw [encM,hok];rfl
 rw [List.take_length,Nat.sub_self,List.replicate_zero,List.append_nil]
 refine yt9 [0,6,13,14,15] (by simp;rfl) ?_
 refine yl9 ?_
 refine yp9 rfl (fun h=>by simp at h) (fun h=>?_)
 refine zj9 ?_
 have hle:(enc1 l).length=l.length:=by simp [enc1]
 refine yt9 [4,5] (by simp;rfl) ?_
 refine yn9 ?_
 repeat (first | refine yg9 ?_ | refine yh9 ?_)
 exact ⟨_,by simp [retQ,vc9,hle];exact ⟨rfl,rfl⟩,.inr (by simp [hM,hle,List.take_of_length_le (Nat.le_of_eq hle)])⟩
theorem zn5 (l:List UInt8) (hl:l.length≤1000000):Sound Tryz.prog 73 [strB l] (.tup [.lst .any 1 (byL (encM l).1),.v (.int .i64 (encM l).2)]):=by
 refine vm9 Tryz.func73 rfl (by decide +kernel) (by simp [Tryz.f73]) rfl rfl (rs:=[.tmp 2,.tmp 3]) rfl ?_
 rw [show Tryz.f73.ntmps=10 from rfl]
 have he:=zt5 l hl
 simp only [strB] at he ⊢
 refine yt9 [0] (by simp;rfl) ?_
 refine W_rK [2,3] ?_
 refine yq9 3 (by simp;rfl) rfl ?_
 refine yd9 (by simp) (by first | (simp;done) | (simp;rfl)) he (by simp;rfl) ?_
 refine yw9 (by simp;rfl) ?_
 refine yn9 ?_
 repeat (first | refine yg9 ?_ | refine yh9 ?_)
 exact ⟨_,by simp [retQ];exact ⟨rfl,by simp⟩,.inr (by simp)⟩
theorem ut8 (l:List UInt8) (hl:l.length≤1000000):Sound Tryz.prog 43 [strB l] (.lst .any 1 (byL (encM l).1)):=by
 refine vm9 Tryz.func43 rfl (by decide +kernel) (by simp [Tryz.f43]) rfl rfl (rs:=[.tmp 2]) rfl ?_
 rw [show Tryz.f43.ntmps=11 from rfl]
 have he:=zn5 l hl
 simp only [strB] at he ⊢
 refine yt9 [0] (by simp;rfl) ?_
 refine W_rK [3] ?_
 refine yq9 1 (by simp;rfl) rfl ?_
 refine yd9 (by simp) (by first | (simp;done) | (simp;rfl)) he (by simp;rfl) ?_
 refine yw9 (by simp;rfl) ?_
 refine yt9 [2] (by simp;rfl) ?_
 refine yn9 ?_
 repeat (first | refine yg9 ?_ | refine yh9 ?_)
 exact ⟨_,by simp [retQ];exact ⟨rfl,by simp⟩,.inr (by simp)⟩
theorem qf7:Sound Tryz.prog 83 [] (.lst (.tip 5 6) 1 (byL qd9)):=zg9 mx 50 (by kernel_rfl)
theorem vr5 (b:UInt8):Sound Tryz.prog 62 [.v (.int .u8 b.toNat)] (.tup [.v (.int .u8 (cdM b).1.toNat),.v (.bool (cdM b).2)]):=by
 refine zh9 Tryz.func62 rfl (by decide +kernel) (by simp [Tryz.f62]) rfl rfl (rs:=[.tmp 2,.tmp 3]) rfl ?_
 rw [show Tryz.f62.ntmps=15 from rfl]
 refine yt9 [0] (by simp;rfl) ?_
 refine yl9 ?_
 have hlt:=b.toNat_lt
 by_cases h1:b.toNat < 32
 ·have h1':(b.toNat:Int) < 32:=by omega
  refine W_cT [0,9] (by simp [h1,h1'];rfl) rfl ?_
  refine yt9 [2,3] (by simp;rfl) ?_
  refine yn9 ?_
  repeat (first | refine yg9 ?_ | refine yh9 ?_)
  simp [retQ,cdM,h1]
 have h1':¬ (b.toNat:Int) < 32:=by omega
 by_cases h2:126 < b.toNat
 ·have h2':(126:Int) < b.toNat:=by omega
  refine W_cT [0,9] (by simp [h1,h1',h2,h2'];rfl) rfl ?_
  refine yt9 [2,3] (by simp;rfl) ?_
  refine yn9 ?_
  repeat (first | refine yg9 ?_ | refine yh9 ?_)
  simp [retQ,cdM,h2]
 have h2':¬ (126:Int) < b.toNat:=by omega
 have w1:IntKind.u8.wrap ((b.toNat:Int) - 32)=((b.toNat - 32:Nat):Int):=by
  simp only [IntKind.wrap_u8]
  omega
 refine W_cF [0,9] (by simp [h1,h1',h2,h2'];rfl) rfl ?_
 refine yk9 ?_
 obtain ⟨k,hk⟩:∃ k,b.toNat - 32=k:=⟨_,rfl⟩
 have hk95:k < qd9.length:=by show k < 95;omega
 have hM:cdM b=(qd9[k],true):=by
  rw [cdM,if_neg (by omega),hk,List.getD_eq_getElem?_getD,List.getElem?_eq_getElem hk95];rfl
 rw [hk] at w1
 rw [hM]
 have hk95':(k:Int) < qd9.length:=by omega
 obtain ⟨L,hL⟩:∃ L,qd9=L:=⟨_,rfl⟩
 have htb:=qf7
 simp only [hL] at htb hk95' ⊢
 have hkL:k < L.length:=by rw [← hL];exact hk95
 obtain ⟨cd,hcd⟩:∃ cd,L[k]'hkL=cd:=⟨_,rfl⟩
 refine W_rK [2,3] ?_
 refine yd9 (by simp) (by first | (simp;done) | (simp;rfl)) htb (by simp;rfl) ?_
 refine yw9 (by simp [w1,hkL,hk95',hcd];rfl) ?_
 refine yn9 ?_
 repeat (first | refine yg9 ?_ | refine yh9 ?_)
 simp [retQ,hcd]
def accB (x:AV) (D:List UInt8):Prop:=(D=[]∧x=.lst .nil 1 [])∨x=.lst (.tip 5 53) 1 (byL D)
theorem zr7 (l:List UInt8) (hl:l.length≤1000000):Sound Tryz.prog 30 [strB l] (.tup [.lst .any 1 (byL (encM l).1),.v (.int .i64 (encM l).2)]):=by
 refine vm9 Tryz.func30 rfl (by decide +kernel) (by simp [Tryz.f30]) rfl rfl (rs:=[.tmp 2,.tmp 3]) rfl ?_
 rw [show Tryz.f30.ntmps=28 from rfl]
 simp only [strB]
 refine yt9 [0] (by simp;rfl) ?_
 refine yt9 [0,4] (by simp;rfl) ?_
 refine yl9 ?_
 refine yt9 [0,4,5] (by simp;rfl) ?_
 refine ys9 ?_
 refine zl9 (fun k s => ∃ (i : Nat) (x : AV), k = l.length - i ∧ i ≤ l.length ∧ vt7 (l.take i) = true ∧ accB x (enc1 (l.take i)) ∧
  s=⟨28,[(0,.v (.string ⟨l.toArray⟩)),(4,x),(5,.v (.int .i64 (i:Nat)))],[]⟩) (k:=l.length) ⟨0,_,rfl,by omega,by simp [vt7],.inl ⟨rfl,rfl⟩,by simp⟩ ?_
 rintro k s ⟨i,x,rfl,hi,hok,hx,rfl⟩
 refine yl9 ?_
 by_cases c:i < l.length
 ·have ci : (i : Int) < l.length := by omega
  obtain ⟨b,hb⟩:∃ b,l[i]?=some b:=⟨_,List.getElem?_eq_getElem c⟩
  have hb2:l[i]'c=b:=by rw [List.getElem?_eq_getElem c] at hb;exact Option.some.inj hb
  have wi:=w64 (n:=(i:Int)+1) (by omega) (by omega)
  have hlen:(enc1 (l.take i)).length=i:=by simp [enc1];omega
  refine W_cT [0,4,5,11] (by simp [c];rfl) rfl ?_
  refine yk9 ?_
  refine yl9 ?_
  refine ys9 ?_
  refine W_rK [0,4,5,6,7] ?_
  refine yq9 3 (by simp [c,ci,hb,hb2];rfl) rfl ?_
  refine yd9 (by simp) (by first | (simp;done) | (simp;rfl)) (vr5 b) (by simp;rfl) ?_
  refine yw9 (by simp;rfl) ?_
  refine yl9 ?_
  cases hcd:(cdM b).2 with
  | false =>
   have hM:encM l=([],20):=by rw [encM,yg6 hb hcd];rfl
   refine W_cT [0,4,5,6,22] (by simp [hcd];rfl) rfl ?_
   refine yt9 [2,3] (by simp;rfl) ?_
   refine yn9 ?_
   repeat (first | refine yg9 ?_ | refine yh9 ?_)
   exact ⟨_,by simp [retQ];exact ⟨rfl,by simp⟩,.inr (by simp [hM])⟩
  | true =>
   have htk:vt7 (l.take (i+1))=true:=by
    rw [List.take_add_one,hb,vt7,List.all_append]
    simp only [Option.toList_some,List.all_cons,hcd,List.all_nil,Bool.and_self,Bool.and_true]
    exact hok
   have he:enc1 (l.take (i+1))=enc1 (l.take i)++[(cdM b).1]:=by rw [List.take_add_one,hb];simp [enc1]
   refine W_cF [0,4,5,6,22] (by simp [hcd];rfl) rfl ?_
   refine yk9 ?_
   have fin : ∃ k', k' < l.length - i ∧ ∃ (i' : Nat) (x : AV), k' = l.length - i' ∧ i' ≤ l.length ∧ vt7 (l.take i') = true ∧ accB x (enc1 (l.take i')) ∧
     (⟨28,[(0,.v (.string ⟨l.toArray⟩)),(4,.lst (.tip 5 53) 1 (byL (enc1 (l.take i)++[(cdM b).1]))),(5,.v (.int .i64 ((i:Int)+1)))],[]⟩:St)=⟨28,[(0,.v (.string ⟨l.toArray⟩)),(4,x),(5,.v (.int .i64 (i':Nat)))],[]⟩ :=
    ⟨_,by omega,i+1,_,rfl,by omega,htk,by rw [he];exact .inr rfl,by simp⟩
   rcases hx with ⟨h0,rfl⟩ | rfl
   ·rw [h0] at fin
    refine zq9 [0,4,5] (by simp [catK,AV.cellsK,AV.kone,AV.koneL];rfl) ?_
    refine zq9 [0,4,5] (by simp [wi];rfl) ?_
    simpa [byL] using fin
   ·refine zq9 [0,4,5] (by simp [catK,AV.cellsK,AV.kone,AV.koneL,hlen,show i+1≤140737488355328 by omega];rfl) ?_
    refine zq9 [0,4,5] (by simp [wi];rfl) ?_
    simpa [byL] using fin
 have hie:i=l.length:=by omega
 subst hie
 rw [List.take_length] at hok hx
 have hM:encM l=(enc1 l,0):=by rw [encM,hok];rfl
 refine W_cF [0,4,5,11] (by simp;rfl) rfl ?_
 refine zj9 ?_
 rcases hx with ⟨h0,rfl⟩ | rfl
 ·refine yt9 [2,3] (by simp;rfl) ?_
  refine yn9 ?_
  repeat (first | refine yg9 ?_ | refine yh9 ?_)
  exact ⟨_,by simp [retQ];exact ⟨rfl,by simp⟩,.inr (by simp [hM,h0])⟩
 ·refine yt9 [2,3] (by simp;rfl) ?_
  refine yn9 ?_
  repeat (first | refine yg9 ?_ | refine yh9 ?_)
  exact ⟨_,by simp [retQ];exact ⟨rfl,by simp⟩,.inr (by simp [hM])⟩
def numM : Nat → Nat → List UInt8
 | 0,_=>[]
 | n+1,v=>numM n (v / 256)++[UInt8.ofNat (v % 256)]
@[simp] theorem zc9 : ∀ (n v : Nat), (numM n v).length = n
 | 0,_=>rfl
 | n+1,v=>by simp [numM,zc9 n]
theorem u8n (n:Nat):IntKind.u8.wrap (n:Int)=((UInt8.ofNat (n % 256)).toNat:Nat):=by
 rw [UInt8.toNat_ofNat']
 simp only [IntKind.wrap_u8]
 omega
theorem shr8 (v:Nat):((v:Int).fdiv (2 ^ min 8 IntKind.i64.bits))=((v / 256:Nat):Int):=by
 have:min 8 IntKind.i64.bits=8:=by decide
 rw [this,Int.fdiv_eq_ediv_of_nonneg _ (by omega)]
 omega
theorem set_num (j:Nat) (tl:List UInt8) (b:UInt8):yf9 (byL (List.replicate (j+1) 0++tl)) j [.v (.int .u8 b.toNat)]=byL (List.replicate j 0++b :: tl):=by
 have h1:byL (List.replicate (j+1) 0++tl)=byL (List.replicate j 0)++(.v (.int .u8 (0:UInt8).toNat) :: byL tl):=by
  rw [List.replicate_succ'];simp [byL]
 have h2:byL (List.replicate j 0++b :: tl)=byL (List.replicate j 0)++(.v (.int .u8 b.toNat) :: byL tl):=by simp [byL]
 have hl:(byL (List.replicate j 0)).length=j:=by simp
 rw [h1,h2]
 unfold yf9
 rw [List.take_left' hl,List.drop_append]
 simp [hl]
theorem qs9 (v n:Nat) (hv:v≤9223372036854775807) (hn:n≤100):Sound Tryz.prog 49 [.v (.int .i64 v),.v (.int .i64 n)] (.lst .any 1 (byL (numM n v))):=by
 refine vm9 Tryz.func49 rfl (by decide +kernel) (by simp [Tryz.f49]) rfl rfl (rs:=[.tmp 4]) rfl ?_
 rw [show Tryz.f49.ntmps=23 from rfl]
 have wn:IntKind.i64.wrap ((n:Int) - 1)=(n:Int) - 1:=w64 (by omega) (by omega)
 refine yt9 [0,1] (by simp;rfl) ?_
 refine yt9 [0,1,5] (by simp [kt8,show (n:Int)≤281474976710656 by omega,show (n:Int)≤9223372036854775807 by omega];rfl) ?_
 refine yl9 ?_
 refine yt9 [0,5,6] (by simp [wn];rfl) ?_
 refine ys9 ?_
 refine zl9 (fun j s => ∃ (w : Nat) (tl : List UInt8), w ≤ 9223372036854775807 ∧ j + tl.length = n ∧ numM n v = numM j w ++ tl ∧
  s=⟨23,[(0,.v (.int .i64 (w:Nat))),(5,.arr 0 0 n n),(6,.v (.int .i64 ((j:Int) - 1)))],[.cells 5 (byL (List.replicate j 0++tl))]⟩) (k:=n) ⟨v,[],hv,by simp,by simp,by simp⟩ ?_
 rintro j s ⟨w,tl,hw,hj,hnum,rfl⟩
 refine yl9 ?_
 cases j with
 | zero =>
  refine W_cF [0,5,6,12] (by simp;rfl) rfl ?_
  refine zj9 ?_
  refine yt9 [4] (by simp;rfl) ?_
  refine yn9 ?_
  repeat (first | refine yg9 ?_ | refine yh9 ?_)
  have htl:tl=numM n v:=by rw [hnum];rfl
  have hle:(numM n v).length=n:=zc9 n v
  subst htl
  exact ⟨_,by simp [retQ,vc9];exact ⟨rfl,rfl⟩,.inr (by simp [List.take_of_length_le (Nat.le_of_eq hle)])⟩
 | succ j =>
  have hjn:j < n:=by omega
  have e1:((j+1:Nat):Int) - 1=(j:Int):=by omega
  have hjI:(j:Int) < n:=by omega
  have wj:IntKind.i64.wrap ((j:Int) - 1)=(j:Int) - 1:=w64 (by omega) (by omega)
  have hlen:j+1≤(List.replicate (j+1) (0:UInt8)++tl).length:=by simp
  rw [e1]
  have hsh:=shr8 w
  have hu:=u8n w
  have hset:=set_num j tl (UInt8.ofNat (w % 256))
  obtain ⟨C,hC⟩:∃ C,byL (List.replicate (j+1) (0:UInt8)++tl)=C:=⟨_,rfl⟩
  have hCl:C.length=j+1+tl.length:=by rw [← hC];simp
  rw [hC] at hset ⊢
  refine W_cT [0,5,6,12] (by simp;rfl) rfl ?_
  refine yk9 ?_
  refine yl9 ?_
  refine ys9 ?_
  refine yt9 [0,5,6] (by simp [hjn,hjI,hu,hCl,show j+1≤j+1+tl.length by omega];rfl) ?_
  refine zq9 [0,5,6] (by simp [hsh,-Int.natCast_ediv];rfl) ?_
  refine zq9 [0,5,6] (by simp [wj];rfl) ?_
  refine ⟨j,by omega,w / 256,UInt8.ofNat (w % 256) :: tl,by omega,by simp;omega,?_,?_⟩
  ·rw [hnum,numM];simp
  ·have q1:(w:Int) / 256=((w / 256:Nat):Int):=by omega
   have q2:(w:Int) % 256=((UInt8.ofNat (w % 256)).toNat:Nat):=by rw [UInt8.toNat_ofNat'];omega
   rw [q1,q2,← hset]
def valM (l:List UInt8):Nat:=l.foldl (fun v b=>v * 256+b.toNat) 0
theorem yd7 (l:List UInt8) (b:UInt8):valM (l++[b])=valM l * 256+b.toNat:=by simp [valM]
theorem xm8 : ∀ (n : Nat) (l : List UInt8), l.length = n → valM l < 256 ^ n
 | 0,l,h=>by
  have:l=[]:=List.length_eq_zero_iff.1 h
  subst this
  simp [valM]
 | n+1,l,h=>by
  have hne:l≠[]:=by intro e;subst e;simp at h
  have hd:=List.dropLast_concat_getLast hne
  have hl:l.dropLast.length=n:=by simp [h]
  have ih:=xm8 n l.dropLast hl
  rw [← hd,yd7,Nat.pow_succ]
  have:=(l.getLast hne).toNat_lt
  omega
theorem shl_or (v:Nat) (b:Nat) (hv:v * 256≤9223372036854775807 - 255) (hb:b < 256):v * 256 ||| b=v * 256+b:=by
 have:v * 256=2 ^ 8 * v:=by omega
 rw [this,Nat.two_pow_add_eq_or_of_lt (by omega)]
theorem orA (a b:Nat) (ha:a < 9223372036854775808) (hb:b < 9223372036854775808) (hab:a ||| b < 9223372036854775808):xh7 .or .i64 (a:Int) (b:Int)=some (.v (.int .i64 ((a ||| b:Nat):Int))):=by
 have h1:∀ n:Nat,n < 9223372036854775808→(BitVec.ofInt IntKind.i64.bits (n:Int)).toNat=n:=by
  intro n hn
  rw [BitVec.toNat_ofInt]
  have:((2:Int) ^ IntKind.i64.bits)=18446744073709551616:=by decide
  show ((n:Int) % ((2 ^ IntKind.i64.bits:Nat):Int)).toNat=n
  have h2:((2 ^ IntKind.i64.bits:Nat):Int)=18446744073709551616:=by decide
  rw [h2]
  omega
 simp only [xh7]
 rw [BitVec.toNat_or,h1 a ha,h1 b hb,w64 (by omega) (by omega)]
theorem kg9 (l:List UInt8) (hl:l.length≤7):Sound Tryz.prog 33 [.lst .any 1 (byL l)] (.v (.int .i64 (valM l:Nat))):=by
 refine zh9 Tryz.func33 rfl (by decide +kernel) (by simp [Tryz.f33]) rfl rfl (rs:=[.tmp 2]) rfl ?_
 rw [show Tryz.f33.ntmps=19 from rfl]
 refine yt9 [0] (by simp;rfl) ?_
 refine yt9 [0,3] (by simp;rfl) ?_
 refine yl9 ?_
 refine yt9 [3,6,7,8] (by simp;rfl) ?_
 refine ys9 ?_
 refine zl9 (fun k s=>∃ (i:Nat),k=l.length - i∧i≤l.length∧s=⟨19,[(3,.v (.int .i64 (valM (l.take i):Nat))),(6,.lst .any 1 (byL l)),(7,.v (.int .i64 (l.length:Nat))),(8,.v (.int .i64 (i:Nat)))],[]⟩) (k:=l.length) ⟨0,rfl,by omega,by simp [valM]⟩ ?_
 rintro k s ⟨i,rfl,hi,rfl⟩
 by_cases c:i < l.length
 ·have ci : (i : Int) < l.length := by omega
  obtain ⟨b,hb⟩:∃ b,l[i]?=some b:=⟨_,List.getElem?_eq_getElem c⟩
  have hb2:l[i]'c=b:=by rw [List.getElem?_eq_getElem c] at hb;exact Option.some.inj hb
  have wi:=w64 (n:=(i:Int)+1) (by omega) (by omega)
  have hv:valM (l.take (i+1))=valM (l.take i) * 256+b.toNat:=by rw [List.take_add_one,hb,Option.toList_some,yd7]
  have hlt:=xm8 i (l.take i) (by simp;omega)
  have hlt2:valM (l.take i) < 256 ^ 6:=Nat.lt_of_lt_of_le hlt (Nat.pow_le_pow_right (by omega) (by omega))
  have hlt3:(256:Nat) ^ 6=281474976710656:=by decide
  obtain ⟨V,hV⟩:∃ V,valM (l.take i)=V:=⟨_,rfl⟩
  rw [hV] at hv hlt2 ⊢
  refine yt9 [3,6,7,8,9] (by simp [c];rfl) ?_
  refine yl9 ?_
  refine yp9 rfl (fun h=>?_) (fun h=>by simp at h)
  refine yk9 ?_
  refine yl9 ?_
  refine ys9 ?_
  refine yt9 [3,6,7,8,5] (by simp [c,ci,hb2];rfl) ?_
  have hbl:=b.toNat_lt
  have s1:IntKind.i64.wrap ((V:Int) * 2 ^ min 8 IntKind.i64.bits)=((V * 256:Nat):Int):=by
   have h8:((2:Int) ^ min 8 IntKind.i64.bits)=256:=by decide
   rw [h8,w64 (by omega) (by omega)]
   omega
  have s2:IntKind.i64.wrap (b.toNat:Int)=(b.toNat:Int):=w64 (by omega) (by omega)
  have s3:V * 256 ||| b.toNat=V * 256+b.toNat:=shl_or V b.toNat (by omega) hbl
  have s4:=orA (V * 256) b.toNat (by omega) (by omega) (by rw [s3];omega)
  rw [s3] at s4
  refine zq9 [3,6,7,8] (by simp [s1,s2,s4,-Int.natCast_mul,-Int.natCast_add];rfl) ?_
  refine zq9 [3,6,7,8] (by simp [wi];rfl) ?_
  exact ⟨_,by omega,i+1,rfl,by omega,by simp [hv]⟩
 have hie:i=l.length:=by omega
 subst hie
 rw [List.take_length]
 refine yt9 [3,6,7,8,9] (by simp;rfl) ?_
 refine yl9 ?_
 refine yp9 rfl (fun h=>by simp at h) (fun h=>?_)
 refine zj9 ?_
 refine yt9 [2] (by simp;rfl) ?_
 refine yn9 ?_
 repeat (first | refine yg9 ?_ | refine yh9 ?_)
 simp [retQ]
theorem u3:Tryz.prog.underlying 3=some (.int .i64):=by kernel_rfl
theorem zq4 (n : Nat) (hn : n ≤ 100000000) : wf9 Tryz.prog 78 [.lst .nil 1 [], .v (.int .i64 n)] [] fun r h' =>
  (n=0∧r=.lst .nil 1 []∧h'=[])∨(0 < n∧∃ cap,n≤cap∧cap≤maxLen∧r=.arr 0 0 0 cap∧h'=[.cells 5 (byL (List.replicate cap 0))]):=by
 refine zv9 Tryz.func78 rfl (by decide +kernel) (by simp [Tryz.f78]) (rs:=[.tmp 4]) rfl ?_
 rw [show Tryz.f78.ntmps=27 from rfl]
 have h0:¬ (n:Int) < 0:=by omega
 have hw0:IntKind.i64.wrap (n:Int)=n:=w64 (by omega) (by omega)
 have hw00:IntKind.i64.wrap 0=0:=rfl
 refine yt9 [0,1] (by simp;rfl) ?_
 refine yl9 ?_
 refine yt9 [0,1,6] (by simp [h0];rfl) ?_
 refine yp9 rfl (fun h=>by cases h) (fun h=>?_)
 refine yk9 ?_
 refine yl9 ?_
 refine yt9 [0,1] (by simp [hw0,hw00];rfl) ?_
 by_cases hp:0 < n
 ·refine yt9 [0, 1, 16] (by simp [hp]; rfl) ?_
  refine yp9 rfl (fun h=>?_) (fun h=>by cases h)
  refine W_rE [0] ?_
  refine yq9 5 (by simp;rfl) rfl ?_
  refine yw4 (n:=n) (by simp) rfl rfl rfl rfl (by simp;exact ⟨rfl,rfl⟩) (by simp;rfl) s23 u3 a5 z5 (by simp) hp (by omega) ?_
  intro cap h1 h2
  refine ⟨_,by simp;rfl,?_⟩
  refine yw9 (by simp;rfl) ?_
  refine yt9 [4] (by simp;rfl) ?_
  refine yn9 ?_
  refine jg8 (by simp;rfl) (by simp) (by simp [wt7]) ?_
  refine .inr ⟨hp,cap,h1,h2,?_,?_⟩
  ·by_cases hc:cap=0
   ·omega
   ·simp [hc]
  ·simp [wt7]
 ·have:n=0:=by omega
  subst this
  refine yt9 [0,1,16] (by simp;rfl) ?_
  refine yp9 rfl (fun h=>by cases h) (fun h=>?_)
  refine yk9 ?_
  refine yt9 [4] (by simp;rfl) ?_
  refine yn9 ?_
  refine jg8 (by simp;rfl) (by simp) (by simp) ?_
  exact .inl ⟨rfl,rfl,rfl⟩
def total (L:List (List UInt8)):Nat:=L.flatten.length
@[simp] theorem total_nil:total []=0:=rfl
theorem xh6 {L:List (List UInt8)} {i:Nat} {b:List UInt8} (h:L[i]?=some b):total (L.take (i+1))=total (L.take i)+b.length:=by
 unfold total;rw [List.take_add_one,h];simp
theorem qt4 {L:List (List UInt8)} {i:Nat} {b:List UInt8} (h:L[i]?=some b):(L.take (i+1)).flatten=(L.take i).flatten++b:=by
 rw [List.take_add_one,h];simp
theorem qj5 (L:List (List UInt8)) (i:Nat):total (L.take i)≤total L:=by
 unfold total
 have:L.flatten=(L.take i).flatten++(L.drop i).flatten:=by rw [← List.flatten_append,List.take_append_drop]
 rw [this,List.length_append];omega
theorem kf9 (L:List (List UInt8)) (hL:total L≤100000000) (hl:L.length≤100000000):Sound Tryz.prog 54 [.lst .any 1 (bbL L)] (.lst .any 1 (byL L.flatten)):=by
 refine vm9 Tryz.func54 rfl (by decide +kernel) (by simp [Tryz.f54]) (by simp [AV.rfL,AV.rf]) rfl (rs:=[.tmp 2]) rfl ?_
 rw [show Tryz.f54.ntmps=36 from rfl]
 refine yt9 [0] (by simp;rfl) ?_
 refine yt9 [0,3] (by simp;rfl) ?_
 refine yl9 ?_
 refine yt9 [0,3,9,10,11] (by simp;rfl) ?_
 refine ys9 ?_
 refine zl9 (fun k s=>∃ i:Nat,k=L.length - i∧i≤L.length∧s=⟨36,[(0,.lst .any 1 (bbL L)),(3,.v (.int .i64 (total (L.take i):Nat))),(9,.lst .any 1 (bbL L)),(10,.v (.int .i64 (L.length:Nat))),(11,.v (.int .i64 (i:Nat)))],[]⟩) (k:=L.length) ⟨0,rfl,by omega,by simp⟩ ?_
 rintro k s ⟨i,rfl,hi,rfl⟩
 by_cases h1:i < L.length
 ·obtain ⟨b,hb⟩:∃ b,L[i]?=some b:=⟨_,List.getElem?_eq_getElem h1⟩
  have hbb:(bbL L)[i]?=some (.lst .any 1 (byL b)):=by rw [qp5,hb];rfl
  have hg:L[i]=b:=(List.getElem?_eq_some_iff.1 hb).2
  have h1':(i:Int) < L.length:=by omega
  have ht:=xh6 hb
  have hle:=qj5 L (i+1)
  have hw:IntKind.i64.wrap ((total (L.take i):Nat)+(b.length:Int))=(total (L.take (i+1)):Nat):=by rw [w64 (by omega) (by omega)];omega
  have hw2:IntKind.i64.wrap ((i:Int)+1)=(i+1:Nat):=w64 (by omega) (by omega)
  have h0:¬ ((total (L.take (i+1)):Nat):Int) < 0:=by omega
  refine yt9 [0,3,9,10,11,12] (by simp [h1,h1'];rfl) ?_
  refine yl9 ?_
  refine yp9 rfl (fun h=>?_) (fun h=>by cases h)
  refine yk9 ?_
  refine yl9 ?_
  refine ys9 ?_
  refine yt9 [0,3,9,10,11,5] (by simp [h1,hbb,hg];rfl) ?_
  refine yt9 [0,3,9,10,11] (by simp [hw];rfl) ?_
  refine yt9 [0,3,9,10,11,20] (by simp [h0];rfl) ?_
  refine yp9 rfl (fun h=>by cases h) (fun h=>?_)
  refine yk9 ?_
  refine zq9 [0,3,9,10,11] (by simp [hw2];rfl) ?_
  exact ⟨_,by omega,i+1,rfl,by omega,rfl⟩
 have hie:i=L.length:=by omega
 subst hie
 rw [List.take_length]
 refine yt9 [0,3,9,10,11,12] (by simp;rfl) ?_
 refine yl9 ?_
 refine yp9 rfl (fun h=>by cases h) (fun h=>?_)
 refine zj9 ?_
 refine W_rK [0,6] ?_
 refine yq9 1 (by simp;rfl) rfl ?_
 refine zr9 (by simp) (by first | (simp;done) | (simp;rfl)) ((zq4 (total L) hL).mono ?_)
 rintro r h' (⟨hz,rfl,rfl⟩ | ⟨hp,cap,hc1,hc2,rfl,rfl⟩)
 ·
  refine ⟨_,by simp;rfl,?_⟩
  refine yw9 (by simp;rfl) ?_
  have hflat:L.flatten=[]:=List.eq_nil_of_length_eq_zero hz
  have hall:∀ i b,L[i]?=some b→b=[]:=fun i b hb=>by
   have:=List.flatten_eq_nil_iff.1 hflat b (List.mem_of_getElem? hb)
   exact this
  rw [hflat]
  refine yl9 ?_
  refine yt9 [6,25,26,27] (by simp;rfl) ?_
  refine ys9 ?_
  refine zl9 (fun k s=>∃ (i:Nat) (fl:Fl),k=L.length - i∧i≤L.length∧(fl=.nil∨fl=.tip 5 67)∧s=⟨36,[(6,.lst fl 1 []),(25,.lst .any 1 (bbL L)),(26,.v (.int .i64 (L.length:Nat))),(27,.v (.int .i64 (i:Nat)))],[]⟩) (k:=L.length) ⟨0,.nil,rfl,by omega,.inl rfl,by simp⟩ ?_
  rintro k s ⟨i,fl,rfl,hi,hfl,rfl⟩
  by_cases h1:i < L.length
  ·obtain ⟨b, hb⟩ : ∃ b, L[i]? = some b := ⟨_, List.getElem?_eq_getElem h1⟩
   have hbb:(bbL L)[i]?=some (.lst .any 1 (byL b)):=by rw [qp5,hb];rfl
   have hg:L[i]=b:=(List.getElem?_eq_some_iff.1 hb).2
   have hbe:=hall i b hb
   subst hbe
   have h1':(i:Int) < L.length:=by omega
   have hw2:IntKind.i64.wrap ((i:Int)+1)=(i+1:Nat):=w64 (by omega) (by omega)
   refine yt9 [6,25,26,27,28] (by simp [h1,h1'];rfl) ?_
   refine yl9 ?_
   refine yp9 rfl (fun h=>?_) (fun h=>by cases h)
   refine yk9 ?_
   refine yl9 ?_
   refine ys9 ?_
   refine yt9 [6,25,26,27,8] (by simp [h1,hbb,hg];rfl) ?_
   rcases hfl with rfl | rfl
   ·refine zq9 [6,25,26,27] (by simp;rfl) ?_
    refine zq9 [6,25,26,27] (by simp [hw2];rfl) ?_
    exact ⟨_,by omega,i+1,_,rfl,by omega,.inr rfl,rfl⟩
   ·refine zq9 [6,25,26,27] (by simp;rfl) ?_
    refine zq9 [6,25,26,27] (by simp [hw2];rfl) ?_
    exact ⟨_,by omega,i+1,_,rfl,by omega,.inr rfl,rfl⟩
  have hie:i=L.length:=by omega
  subst hie
  refine yt9 [6,25,26,27,28] (by simp;rfl) ?_
  refine yl9 ?_
  refine yp9 rfl (fun h=>by cases h) (fun h=>?_)
  refine zj9 ?_
  rcases hfl with rfl | rfl
  all_goals
   refine yt9 [2] (by simp;rfl) ?_
   refine yn9 ?_
   repeat (first | refine yg9 ?_ | refine yh9 ?_)
   exact ⟨_,by simp [retQ];exact ⟨rfl,by simp⟩,.inr rfl⟩
 ·
  refine ⟨_,by simp;rfl,?_⟩
  refine yw9 (by simp;rfl) ?_
  refine yl9 ?_
  refine yt9 [6,25,26,27] (by simp;rfl) ?_
  refine ys9 ?_
  refine zl9 (fun k s => ∃ (i : Nat) (B : List UInt8), k = L.length - i ∧ i ≤ L.length ∧ B.length = cap ∧ B.take (total (L.take i)) = (L.take i).flatten ∧
   s=⟨36,[(6,.arr 0 0 (total (L.take i)) cap),(25,.lst .any 1 (bbL L)),(26,.v (.int .i64 (L.length:Nat))),(27,.v (.int .i64 (i:Nat)))],[.cells 5 (byL B)]⟩) (k:=L.length) ⟨0,List.replicate cap 0,rfl,by omega,by simp,by simp,by simp⟩ ?_
  rintro k s ⟨i,B,rfl,hi,hB,hBt,rfl⟩
  by_cases h1:i < L.length
  ·obtain ⟨b, hb⟩ : ∃ b, L[i]? = some b := ⟨_, List.getElem?_eq_getElem h1⟩
   have hbb:(bbL L)[i]?=some (.lst .any 1 (byL b)):=by rw [qp5,hb];rfl
   have hg:L[i]=b:=(List.getElem?_eq_some_iff.1 hb).2
   have h1':(i:Int) < L.length:=by omega
   have hw2:IntKind.i64.wrap ((i:Int)+1)=(i+1:Nat):=w64 (by omega) (by omega)
   have ht:=xh6 hb
   have hf:=qt4 hb
   have hle:=qj5 L (i+1)
   refine yt9 [6,25,26,27,28] (by simp [h1,h1'];rfl) ?_
   refine yl9 ?_
   refine yp9 rfl (fun h=>?_) (fun h=>by cases h)
   refine yk9 ?_
   refine yl9 ?_
   refine ys9 ?_
   refine yt9 [6,25,26,27,8] (by simp [h1,hbb,hg];rfl) ?_
   refine W_rE [6,25,26,27] ?_
   refine yq9 2 (by simp;rfl) rfl ?_
   refine vc6 (id:=0) (len:=total (L.take i)) (cap:=cap) (oy:=.any) (ys:=byL b) (cs:=byL B) (by simp) rfl rfl rfl rfl (by simp) (by simp) s23 a5 z5 (by simp) (by simp) (by simp [hB]) (xb8 _) (by simp;omega) ?_
   rintro s1 x1 (⟨_,rfl,rfl⟩ | ⟨hbad,_⟩)
   ·refine ⟨_, by simp; rfl, ?_⟩
    refine yw9 (by simp;rfl) ?_
    refine zq9 [6,25,26,27] (by simp [hw2];rfl) ?_
    refine ⟨_,by omega,i+1,B.take (total (L.take i))++b++B.drop (total (L.take i)+b.length),rfl,by omega,?_,?_,?_⟩
    ·simp;omega
    ·rw [ht,hf,← hBt]
     rw [List.take_append_of_le_length (by simp;omega)]
     rw [List.take_of_length_le (by simp;omega)]
    ·rw [← jp6,ht];simp
   ·exfalso
    simp at hbad
    omega
  have hie:i=L.length:=by omega
  subst hie
  rw [List.take_length] at hBt ⊢
  refine yt9 [6,25,26,27,28] (by simp;rfl) ?_
  refine yl9 ?_
  refine yp9 rfl (fun h=>by cases h) (fun h=>?_)
  refine zj9 ?_
  refine yt9 [2] (by simp;rfl) ?_
  refine yn9 ?_
  repeat (first | refine yg9 ?_ | refine yh9 ?_)
  have hc:=um5 (total L) B (by omega)
  rw [hBt] at hc
  exact ⟨_,by simp [retQ,vc9,hB,hc,hc1];exact ⟨rfl,by simp⟩,.inr (by simp [AV.weak])⟩
theorem jb4 (cs ys:List AV) (off:Nat) (y:AV) (h:off+1+ys.length≤cs.length):yf9 (yf9 cs (off+1) ys) off [y]=yf9 cs off (y :: ys):=by
 have h1:(yf9 cs (off+1) ys).length=cs.length:=xs9 _ _ _ h
 apply List.ext_getElem?
 intro j
 rw [uj9 _ _ _ (by rw [h1];simp;omega),uj9 _ _ _ h,uj9 _ _ _ (by simp;omega)]
 simp only [List.length_cons,List.length_nil]
 by_cases c1:j=off
 ·subst c1
  rw [if_pos (by omega),if_pos (by omega)]
  simp
 ·rw [if_neg (by omega)]
  by_cases c2:off+1≤j∧j < off+1+ys.length
  ·rw [if_pos c2,if_pos (by omega)]
   obtain ⟨k,hk⟩:∃ k,j - off=k+1:=⟨j - off - 1,by omega⟩
   rw [hk,List.getElem?_cons_succ]
   congr 1
   omega
  ·rw [if_neg c2,if_neg (by omega)]
theorem wn4 (cs:List AV) (off:Nat) (h:off≤cs.length):yf9 cs off []=cs:=by
 apply List.ext_getElem?
 intro j
 rw [uj9 _ _ _ (by simpa using h),if_neg (by simp)]
theorem vb6 (h : List AObj) (id len cap at' n v : Nat) (cs : List AV) (hid : h[id]? = some (.cells 5 cs)) (hlen : at' + n ≤ len) (hcs : len ≤ cs.length) (hl2 : len ≤ 1000000000) (hv : v ≤ 9223372036854775807) :
  wf9 Tryz.prog 12 [.arr id 0 len cap,.v (.int .i64 (at':Nat)),.v (.int .i64 (n:Nat)),.v (.int .i64 (v:Nat))] h fun r h'=>r=.tup []∧h'=h.set id (.cells 5 (yf9 cs at' (byL (numM n v)))):=by
 refine wv6 Tryz.func12 rfl (by decide +kernel) (by simp [Tryz.f12]) (rs:=[]) rfl ?_
 rw [show Tryz.f12.ntmps=25 from rfl]
 have hidl:id < h.length:=(List.getElem?_eq_some_iff.1 hid).1
 have wn:IntKind.i64.wrap ((n:Int) - 1)=(n:Int) - 1:=w64 (by omega) (by omega)
 refine yt9 [0,1,3,8] (by simp [wn];rfl) ?_
 refine ys9 ?_
 refine zl9 (fun j s => ∃ (w : Nat) (tl : List UInt8), w ≤ 9223372036854775807 ∧ j + tl.length = n ∧ numM n v = numM j w ++ tl ∧
  s=⟨25,[(0,.arr id 0 len cap),(1,.v (.int .i64 (at':Nat))),(3,.v (.int .i64 (w:Nat))),(8,.v (.int .i64 ((j:Int) - 1)))],h.set id (.cells 5 (yf9 cs (at'+j) (byL tl)))⟩) (k:=n) ⟨v,[],hv,by simp,by simp,?_⟩ ?_
 ·have:h.set id (.cells 5 cs)=h:=by
   apply List.ext_getElem?
   intro k
   rw [List.getElem?_set]
   split
   ·rename_i e;subst e;first | rw [hid] | (rw [if_pos hidl,hid])
   ·rfl
  rw [show byL []=[] from rfl,wn4 _ _ (by omega),this]
 rintro j s ⟨w,tl,hw,hj,hnum,rfl⟩
 refine yl9 ?_
 cases j with
 | zero =>
  refine W_cF [0,1,3,8,12] (by simp;rfl) rfl ?_
  refine zj9 ?_
  have htl:tl=numM n v:=by rw [hnum];rfl
  subst htl
  exact ⟨.inl rfl,.tup [],rfl,rfl,by simp⟩
 | succ j =>
  have hjn:j < n:=by omega
  have e1:((j+1:Nat):Int) - 1=(j:Int):=by omega
  have wj:IntKind.i64.wrap ((j:Int) - 1)=(j:Int) - 1:=w64 (by omega) (by omega)
  have wa:IntKind.i64.wrap ((at':Int)+(j:Int))=((at'+j:Nat):Int):=by rw [w64 (by omega) (by omega)];omega
  have ha1:at'+j < len:=by omega
  have ha2:((at'+j:Nat):Int) < len:=by omega
  have q1:(w:Int).tmod 256=((w % 256:Nat):Int):=by rw [Int.tmod_eq_emod_of_nonneg (by omega)];omega
  have q2:(w:Int).tdiv 256=((w / 256:Nat):Int):=by rw [Int.tdiv_eq_ediv_of_nonneg (by omega)];omega
  have q3:IntKind.u8.wrap ((w % 256:Nat):Int)=((UInt8.ofNat (w % 256)).toNat:Nat):=by
   rw [UInt8.toNat_ofNat']
   simp only [IntKind.wrap_u8]
   omega
  have q4:IntKind.i64.wrap ((w % 256:Nat):Int)=((w % 256:Nat):Int):=w64 (by omega) (by omega)
  have q5:IntKind.i64.wrap ((w / 256:Nat):Int)=((w / 256:Nat):Int):=w64 (by omega) (by omega)
  rw [e1]
  have hseg:=jb4 cs (byL tl) (at'+j) (.v (.int .u8 (UInt8.ofNat (w % 256)).toNat)) (by simp;omega)
  rw [show at'+j+1=at'+(j+1) by omega] at hseg
  obtain ⟨C,hC⟩:∃ C,yf9 cs (at'+(j+1)) (byL tl)=C:=⟨_,rfl⟩
  have hCl:C.length=cs.length:=by rw [← hC];exact xs9 _ _ _ (by simp;omega)
  rw [hC] at hseg ⊢
  obtain ⟨H,hH⟩:∃ H,h.set id (.cells 5 C)=H:=⟨_,rfl⟩
  have hHid:H[id]?=some (.cells 5 C):=by rw [← hH];exact List.getElem?_set_self hidl
  have hset:H.set id (.cells 5 (yf9 C (at'+j) [.v (.int .u8 (UInt8.ofNat (w % 256)).toNat)]))=h.set id (.cells 5 (yf9 cs (at'+j) (byL (UInt8.ofNat (w % 256) :: tl)))):=by
   rw [← hH,List.set_set,hseg,vp9]
  rw [hH]
  obtain ⟨W,hW⟩:∃ W,UInt8.ofNat (w % 256)=W:=⟨_,rfl⟩
  obtain ⟨w1,hw1⟩:∃ w1,w % 256=w1:=⟨_,rfl⟩
  obtain ⟨w2,hw2⟩:∃ w2,w / 256=w2:=⟨_,rfl⟩
  obtain ⟨A,hA⟩:∃ A,at'+j=A:=⟨_,rfl⟩
  rw [hW] at hset q3
  rw [hw1] at q1 q3 q4
  rw [hw2] at q2 q5
  rw [hA] at hset wa ha1 ha2
  refine W_cT [0,1,3,8,12] (by simp;rfl) rfl ?_
  refine yk9 ?_
  refine yl9 ?_
  refine ys9 ?_
  refine yt9 [0,1,3,8] (by simp [wa,q1,q4,q3,ha1,ha2,hHid,show A+1≤C.length by omega];rfl) ?_
  refine zq9 [0,1,3,8] (by simp [q2,q5];rfl) ?_
  refine zq9 [0,1,3,8] (by simp [wj];rfl) ?_
  refine ⟨j,by omega,w / 256,W :: tl,by omega,by simp;omega,?_,?_⟩
  ·rw [hnum,numM,hw1,← hW,hw1];simp
  ·rw [hA,hw2,← hset]
@[simp] theorem bytesA_byL (l:List UInt8):qc8 (byL l)=some l:=by
 induction l with
 | nil=>rfl
 | cons b l ih=>rw [vp9];simp [qc8,ih]
theorem ne_nat (n m:Nat):((n:Int) != (m:Int))=!decide (n=m):=by
 rw [Bool.eq_iff_iff];simp;omega
theorem vf7 {α:Type} {a b:List α} {i:Nat} {x:α} (ha:a[i]?=some x) (hb:b[i]?=some x) (h:a.take i=b.take i):a.take (i+1)=b.take (i+1):=by
 rw [List.take_add_one,List.take_add_one,ha,hb,h]
theorem yd6 (a b:List UInt8):Sound Tryz.prog 46 [.lst .any 1 (byL a),.lst .any 1 (byL b)] (.v (.bool (decide (a=b)))):=by
 refine zh9 Tryz.func46 rfl (by decide +kernel) (by simp [Tryz.f46]) rfl rfl (rs:=[.tmp 4]) rfl ?_
 rw [show Tryz.f46.ntmps=10 from rfl]
 refine yt9 [0,1] (by simp;rfl) ?_
 refine yt9 [4] (by simp [strA];rfl) ?_
 refine yn9 ?_
 repeat (first | refine yg9 ?_ | refine yh9 ?_)
 simp [retQ]
 rw [Bool.eq_iff_iff];simp
theorem qm7 (a b:List (List UInt8)) (hl:a.length≤100000000):Sound Tryz.prog 42 [.lst .any 1 (bbL a),.lst .any 1 (bbL b)] (.v (.bool (decide (a=b)))):=by
 refine zh9 Tryz.func42 rfl (by decide +kernel) (by simp [Tryz.f42]) rfl rfl (rs:=[.tmp 4]) rfl ?_
 rw [show Tryz.f42.ntmps=28 from rfl]
 refine yt9 [0,1] (by simp;rfl) ?_
 refine yl9 ?_
 by_cases c:a.length=b.length
 rotate_left
 ·have hne:¬ a=b:=fun e=>c (by rw [e])
  refine W_cT [0,1,10] (by simp [ne_nat,c];rfl) rfl ?_
  refine yt9 [4] (by simp;rfl) ?_
  refine yn9 ?_
  repeat (first | refine yg9 ?_ | refine yh9 ?_)
  simp [retQ,hne]
 refine W_cF [0,1,10] (by simp [c];rfl) rfl ?_
 refine yk9 ?_
 refine yl9 ?_
 refine yt9 [0,1,5] (by simp;rfl) ?_
 refine ys9 ?_
 refine zl9 (fun k s=>∃ i:Nat,k=a.length - i∧i≤a.length∧a.take i=b.take i∧s=⟨28,[(0,.lst .any 1 (bbL a)),(1,.lst .any 1 (bbL b)),(5,.v (.int .i64 i))],[]⟩) (k:=a.length) ⟨0,by simp,by omega,by simp,by simp⟩ ?_
 rintro k s ⟨i,rfl,hi,hab,rfl⟩
 refine yl9 ?_
 refine yt9 [0,1,5,14] (by simp;rfl) ?_
 refine yp9 rfl (fun h=>?_) (fun h=>?_)
 ·refine yk9 ?_
  refine yl9 ?_
  refine ys9 ?_
  have hi2:i < a.length:=by simp at h;omega
  have hj2:i < b.length:=by omega
  have hi2':(i:Int) < a.length:=by omega
  have hj2':(i:Int) < b.length:=by omega
  obtain ⟨r,hr⟩:∃ r,a[i]?=some r:=⟨_,List.getElem?_eq_getElem hi2⟩
  obtain ⟨q,hq⟩:∃ q,b[i]?=some q:=⟨_,List.getElem?_eq_getElem hj2⟩
  have hr2:a[i]'hi2=r:=by rw [List.getElem?_eq_getElem hi2] at hr;exact Option.some.inj hr
  have hq2:b[i]'hj2=q:=by rw [List.getElem?_eq_getElem hj2] at hq;exact Option.some.inj hq
  refine jh9 [0,1,5,27] mx (by decide +kernel) ?_
  refine yr9 5 (by simp [hi2,hi2',hr2];rfl) rfl ?_
  by_cases e:r=q
  ·subst e
   have wi:=w64 (n:=(i:Int)+1) (by omega) (by omega)
   refine ym9 (by simp [hj2,hj2',hq2,strA];rfl) ?_
   refine yp9 rfl (fun h=>by simp at h) (fun h=>?_)
   refine yk9 ?_
   refine zq9 [0,1,5] (by simp [wi];rfl) ?_
   exact ⟨_,by omega,i+1,rfl,by omega,vf7 hr hq hab,by simp⟩
  ·have hne:¬ a=b:=fun he=>e (by rw [he,hq] at hr;exact (Option.some.inj hr).symm)
   have e2:(r == q)=false:=by simpa using e
   refine ym9 (by simp [hj2,hj2',hq2,e2,strA];rfl) ?_
   refine yp9 rfl (fun h=>?_) (fun h=>by simp at h)
   refine yt9 [4] (by simp;rfl) ?_
   refine yn9 ?_
   repeat (first | refine yg9 ?_ | refine yh9 ?_)
   simp [retQ,hne]
 refine zj9 ?_
 have hie:i=a.length:=by simp at h;omega
 have hEq:a=b:=by
  rw [hie,List.take_length] at hab
  rw [hab,c,List.take_length]
 refine yt9 [4] (by simp;rfl) ?_
 refine yn9 ?_
 repeat (first | refine yg9 ?_ | refine yh9 ?_)
 simp [retQ,hEq]
theorem zc5 (a b:List (List UInt8)) (hl:a.length≤100000000):Sound Tryz.prog 66 [.lst .any 1 (bbL a),.lst .any 1 (bbL b),.fn (.func 46) [] []] (.v (.bool (decide (a=b)))):=by
 refine zh9 Tryz.func66 rfl (by decide +kernel) (by simp [Tryz.f66]) rfl rfl (rs:=[.tmp 6]) rfl ?_
 rw [show Tryz.f66.ntmps=32 from rfl]
 refine yt9 [0,1,2] (by simp;rfl) ?_
 refine yl9 ?_
 by_cases c:a.length=b.length
 rotate_left
 ·have hne:¬ a=b:=fun e=>c (by rw [e])
  refine W_cT [0,1,2,14] (by simp [ne_nat,c];rfl) rfl ?_
  refine yt9 [6] (by simp;rfl) ?_
  refine yn9 ?_
  repeat (first | refine yg9 ?_ | refine yh9 ?_)
  simp [retQ,hne]
 refine W_cF [0,1,2,14] (by simp [c];rfl) rfl ?_
 refine yk9 ?_
 refine yl9 ?_
 refine yt9 [1,2,15,16,17] (by simp;rfl) ?_
 refine ys9 ?_
 refine zl9 (fun k s=>∃ i:Nat,k=a.length - i∧i≤a.length∧a.take i=b.take i∧s=⟨32,[(1,.lst .any 1 (bbL b)),(2,.fn (.func 46) [] []),(15,.lst .any 1 (bbL a)),(16,.v (.int .i64 (a.length:Nat))),(17,.v (.int .i64 (i:Nat)))],[]⟩) (k:=a.length) ⟨0,by simp,by omega,by simp,by simp⟩ ?_
 rintro k s ⟨i,rfl,hi,hab,rfl⟩
 by_cases hi2:i < a.length
 ·have hj2 : i < b.length := by omega
  have hi2':(i:Int) < a.length:=by omega
  have hj2':(i:Int) < b.length:=by omega
  obtain ⟨r,hr⟩:∃ r,a[i]?=some r:=⟨_,List.getElem?_eq_getElem hi2⟩
  obtain ⟨q,hq⟩:∃ q,b[i]?=some q:=⟨_,List.getElem?_eq_getElem hj2⟩
  have hr2:a[i]'hi2=r:=by rw [List.getElem?_eq_getElem hi2] at hr;exact Option.some.inj hr
  have hq2:b[i]'hj2=q:=by rw [List.getElem?_eq_getElem hj2] at hq;exact Option.some.inj hq
  have wi:=w64 (n:=(i:Int)+1) (by omega) (by omega)
  refine yt9 [1,2,15,16,17,18] (by simp [hi2];rfl) ?_
  refine yl9 ?_
  refine yp9 rfl (fun h=>?_) (fun h=>by simp at h)
  refine yk9 ?_
  refine yl9 ?_
  refine ys9 ?_
  refine yt9 [1,2,15,16,17,7,8] (by simp [hi2,hi2',hr2];rfl) ?_
  refine yt9 [1,2,15,16,17,8,9] (by simp [hj2,hj2',hq2];rfl) ?_
  refine W_rK [1,2,15,16,17,30] ?_
  refine yq9 3 (by simp;rfl) rfl ?_
  refine yd9 (by simp) (by first | (simp;done) | (simp;rfl)) (yd6 r q) (by simp;rfl) ?_
  by_cases e:r=q
  ·subst e
   refine yw9 (by simp;rfl) ?_
   refine yp9 rfl (fun h=>by simp at h) (fun h=>?_)
   refine yk9 ?_
   refine zq9 [1,2,15,16,17] (by simp [wi];rfl) ?_
   exact ⟨_,by omega,i+1,rfl,by omega,vf7 hr hq hab,by simp⟩
  ·have hne:¬ a=b:=fun he=>e (by rw [he,hq] at hr;exact (Option.some.inj hr).symm)
   refine yw9 (by simp [e];rfl) ?_
   refine yp9 rfl (fun h=>?_) (fun h=>by simp at h)
   refine yt9 [6] (by simp;rfl) ?_
   refine yn9 ?_
   repeat (first | refine yg9 ?_ | refine yh9 ?_)
   simp [retQ,hne]
 refine yt9 [1,2,15,16,17,18] (by simp [hi2];rfl) ?_
 refine yl9 ?_
 refine yp9 rfl (fun h=>by simp at h) (fun h=>?_)
 refine zj9 ?_
 have hie:i=a.length:=by omega
 have hEq:a=b:=by
  rw [hie,List.take_length] at hab
  rw [hab,c,List.take_length]
 refine yt9 [6] (by simp;rfl) ?_
 refine yn9 ?_
 repeat (first | refine yg9 ?_ | refine yh9 ?_)
 simp [retQ,hEq]
theorem jf6 (a b:List (List UInt8)) (hl:a.length≤100000000):Sound Tryz.prog 36 [.lst .any 1 (bbL a),.lst .any 1 (bbL b)] (.v (.bool (decide (a=b)))):=by
 refine zh9 Tryz.func36 rfl (by decide +kernel) (by simp [Tryz.f36]) rfl rfl (rs:=[.tmp 4]) rfl ?_
 rw [show Tryz.f36.ntmps=8 from rfl]
 refine yt9 [0,1] (by simp;rfl) ?_
 refine W_rK [4] ?_
 refine yq9 2 (by simp;rfl) rfl ?_
 refine yd9 (by simp) (by first | (simp;done) | (simp;rfl)) (zc5 a b hl) (by simp;rfl) ?_
 refine yw9 (by simp;rfl) ?_
 refine yn9 ?_
 repeat (first | refine yg9 ?_ | refine yh9 ?_)
 simp [retQ]
theorem ul9 {rs:List ResultVar} {r r0:AV} {e:Exit} {s:St} (h:retQ Tryz.prog rs r0 e s) (hp:r0.plain=r):retU Tryz.prog rs r e s:=⟨r0,h,hp ▸ AV.Le.plain r0⟩
structure Seg where
 par:Int
 org:Int
 frm:Int
 len:Int
structure Rlo where
 at_:Int
 len:Int
 neg:Bool
structure LMod where
 text:List UInt8
 rel:List Rlo
 seg:List Seg
 entry:Int
@[simp] def segA (s:Seg):AV:=.agg [.v (.int .i64 s.par),.v (.int .i64 s.org),.v (.int .i64 s.frm),.v (.int .i64 s.len)]
@[simp] def rloA (r:Rlo):AV:=.agg [.v (.int .i64 r.at_),.v (.int .i64 r.len),.v (.bool r.neg)]
def sgL (l:List Seg):List AV:=l.map segA
def rlL (l:List Rlo):List AV:=l.map rloA
@[simp] theorem sgL_length (l:List Seg):(sgL l).length=l.length:=by simp [sgL]
@[simp] theorem rlL_length (l:List Rlo):(rlL l).length=l.length:=by simp [rlL]
@[simp] theorem sgL_getElem (l:List Seg) (i:Nat) (h:i < (sgL l).length):(sgL l)[i]=segA (l[i]'(by simpa using h)):=by simp [sgL]
@[simp] theorem rlL_getElem (l:List Rlo) (i:Nat) (h:i < (rlL l).length):(rlL l)[i]=rloA (l[i]'(by simpa using h)):=by simp [rlL]
@[simp] theorem dpL_sgL (l:List Seg):AV.dpL (sgL l)=sgL l:=by induction l <;> simp_all [sgL,AV.dpL,AV.dp]
@[simp] theorem dpL_rlL (l:List Rlo):AV.dpL (rlL l)=rlL l:=by induction l <;> simp_all [rlL,AV.dpL,AV.dp]
def lmC (m:LMod):List AV:=[.lst .any 1 (byL m.text),.lst .any 3 (rlL m.rel),.lst .any 4 (sgL m.seg),.v (.int .i64 m.entry)]
@[simp] def lmA (m:LMod):AV:=.agg [.lst .any 1 (byL m.text),.lst .any 3 (rlL m.rel),.lst .any 4 (sgL m.seg),.v (.int .i64 m.entry)]
def paS (l:List Seg) (p:Int):Seg:=(l[p.toNat]?).getD ⟨0,0,0,0⟩
def seg1 (fr:Int) (s:Seg):Bool:=decide (s.len < 0) || (decide (s.org < 0) || (decide (65536 < s.org) || (decide (65536 - s.org < s.len) || !decide (s.frm=fr))))
def seg2 (l:List Seg) (i:Nat) (s:Seg):Bool :=
 if i=0 then !decide (s.par=-1) || (!decide (s.org=0) || decide (s.len < 1))
 else decide (s.par < 0) || (decide ((i:Int)≤s.par) || decide (s.org < (paS l s.par).org+(paS l s.par).len))
def yn7 (l : List Seg) : Nat → List Seg → Int → Option Int
 | _,[],fr=>some fr
 | i,s :: r,fr=>if seg1 fr s=true then none else if seg2 l i s=true then none else yn7 l (i+1) r (fr+s.len)
def segF (m : LMod) : Option Int → Bool
 | none=>false
 | some fr=>decide (1≤m.seg.length)&&(decide (m.seg.length≤64)&&decide (fr=m.text.length))
def segM (m:LMod):Bool:=segF m (yn7 m.seg 0 m.seg 0)
theorem wc5 {fr:Int} {s:Seg} (h:seg1 fr s=false):0≤s.len∧0≤s.org∧s.org≤65536∧s.len≤65536 - s.org∧s.frm=fr:=by
 simp only [seg1,Bool.or_eq_false_iff,decide_eq_false_iff_not,Bool.not_eq_false',decide_eq_true_eq] at h
 obtain ⟨h1,h2,h3,h4,h5⟩:=h
 exact ⟨by omega,by omega,by omega,by omega,h5⟩
theorem qb9 (m:LMod) (hl:m.seg.length≤100000) (ht:m.text.length≤9223372036854775807):Sound Tryz.prog 59 [lmA m] (.v (.bool (segM m))):=by
 refine zh9 Tryz.func59 rfl (by decide +kernel) (by simp [Tryz.f59]) rfl rfl (rs:=[.tmp 2]) rfl ?_
 rw [show Tryz.f59.ntmps=107 from rfl]
 refine yt9 [1] (by simp;rfl) ?_
 refine yt9 [1,3] (by simp;rfl) ?_
 refine yl9 ?_
 refine yt9 [1,3,7,8,9] (by simp;rfl) ?_
 refine ys9 ?_
 obtain ⟨R,hR⟩:∃ R,yn7 m.seg 0 m.seg 0=R:=⟨_,rfl⟩
 have hS:segM m=segF m R:=by rw [segM,hR]
 refine zl9 (fun k σ => ∃ (i : Nat) (fr : Int), k = m.seg.length - i ∧ i ≤ m.seg.length ∧ yn7 m.seg i (m.seg.drop i) fr = R ∧ 0 ≤ fr ∧ fr ≤ 65536 * i ∧ (∀ (j : Nat) (s : Seg), j < i → m.seg[j]? = some s → 0 ≤ s.org ∧ s.org ≤ 65536 ∧ 0 ≤ s.len ∧ s.len ≤ 65536) ∧
  σ=⟨107,[(1,.loc 0 0),(3,.v (.int .i64 fr)),(7,.lst .any 4 (sgL m.seg)),(8,.v (.int .i64 (m.seg.length:Nat))),(9,.v (.int .i64 (i:Nat)))],[.cells 76 (lmC m)]⟩) (k:=m.seg.length) ⟨0,0,rfl,by omega,hR,by omega,by omega,by simp,by simp [lmC]⟩ ?_
 rintro k σ ⟨i,fr,rfl,hi,hgo,hf0,hf1,hall,rfl⟩
 by_cases c:i < m.seg.length
 ·have ci : (i : Int) < m.seg.length := by omega
  obtain ⟨s,hs⟩:∃ s,m.seg[i]?=some s:=⟨_,List.getElem?_eq_getElem c⟩
  have hs2:m.seg[i]'c=s:=by rw [List.getElem?_eq_getElem c] at hs;exact Option.some.inj hs
  have hdr:m.seg.drop i=s :: m.seg.drop (i+1):=by rw [List.drop_eq_getElem_cons c,hs2]
  have wi:=w64 (n:=(i:Int)+1) (by omega) (by omega)
  rw [hdr,yn7] at hgo
  have hret:R=none→∀ (h:List AObj),retQ Tryz.prog [.tmp 2] (.v (.bool (segM m))) .ret ⟨107,[(2,.v (.bool false))],h⟩:=by
   intro hR0 h
   simp [retQ,hS,hR0,segF]
  refine yt9 [1,3,7,8,9,10] (by simp [c];rfl) ?_
  refine yl9 ?_
  refine yp9 rfl (fun h=>?_) (fun h=>by simp at h)
  refine yk9 ?_
  refine yl9 ?_
  refine ys9 ?_
  refine yt9 [1,3,7,8,9,5,4] (by simp [c,ci,hs2,lmC,yf9,AV.weakL,AV.weak,AV.koneL,AV.kone];rfl) ?_
  refine yl9 ?_
  refine ws9 (fun σ=>σ=⟨107,[(1,.loc 0 0),(3,.v (.int .i64 fr)),(7,.lst .any 4 (sgL m.seg)),(8,.v (.int .i64 (m.seg.length:Nat))),(9,.v (.int .i64 (i:Nat))),(5,.loc 1 0),(4,.v (.int .i64 (i:Nat))),(40,.v (.bool (seg1 fr s)))],[.cells 76 (lmC m),.cells 72 [.v (.int .i64 s.par),.v (.int .i64 s.org),.v (.int .i64 s.frm),.v (.int .i64 s.len)]]⟩) ?_ ?_
  ·have e5 : (s.frm != fr) = !decide (s.frm = fr) := by by_cases h : s.frm = fr <;> simp [h]
   by_cases a1:s.len < 0
   ·refine W_rE [1,3,7,8,9,5,4,40] ?_
    iterate 4 refine yq9 6 (by simp [lmC,a1,e5];rfl) rfl ?_
    refine yw9 (by simp [lmC,a1,e5];rfl) ?_
    simp [yj9,lmC,seg1,a1,e5]
   by_cases a2:s.org < 0
   ·refine W_rE [1,3,7,8,9,5,4,40] ?_
    iterate 4 refine yq9 6 (by simp [lmC,a1,a2,e5];rfl) rfl ?_
    refine yw9 (by simp [lmC,a1,a2,e5];rfl) ?_
    simp [yj9,lmC,seg1,a1,a2,e5]
   by_cases a3:65536 < s.org
   ·refine W_rE [1,3,7,8,9,5,4,40] ?_
    iterate 4 refine yq9 6 (by simp [lmC,a1,a2,a3,e5];rfl) rfl ?_
    refine yw9 (by simp [lmC,a1,a2,a3,e5];rfl) ?_
    simp [yj9,lmC,seg1,a1,a2,a3,e5]
   have a3n:¬ 65536 < s.org:=a3
   have w5:IntKind.i64.wrap (65536 - s.org)=65536 - s.org:=w64 (by omega) (by omega)
   by_cases a4:65536 - s.org < s.len
   ·refine W_rE [1,3,7,8,9,5,4,40] ?_
    iterate 4 refine yq9 6 (by simp [lmC,a1,a2,a3n,w5,a4,e5];rfl) rfl ?_
    refine yw9 (by simp [lmC,a1,a2,a3n,w5,a4,e5];rfl) ?_
    simp [yj9,lmC,seg1,a1,a2,a3n,w5,a4,e5]
   refine W_rE [1,3,7,8,9,5,4,40] ?_
   iterate 4 refine yq9 6 (by simp [lmC,a1,a2,a3n,w5,a4,e5];rfl) rfl ?_
   refine yw9 (by simp [lmC,a1,a2,a3n,w5,a4,e5];rfl) ?_
   simp [yj9,lmC,seg1,a1,a2,a3n,w5,a4,e5]
  rintro _ rfl
  by_cases h1:seg1 fr s=true
  ·rw [if_pos h1] at hgo
   rw [h1]
   refine yp9 rfl (fun h=>?_) (fun h=>by simp at h)
   refine yt9 [2] (by simp;rfl) ?_
   refine yn9 ?_
   repeat (first | refine yg9 ?_ | refine yh9 ?_)
   exact hret hgo.symm _
  have h1f:seg1 fr s=false:=by simpa using h1
  obtain ⟨b1,b2,b3,b4,b5⟩:=wc5 h1f
  rw [if_neg h1] at hgo
  rw [h1f]
  refine yp9 rfl (fun h=>by simp at h) (fun h=>?_)
  refine yk9 ?_
  refine xh9 (fun σ=>seg2 m.seg i s=false∧σ=⟨107,[(1,.loc 0 0),(3,.v (.int .i64 fr)),(7,.lst .any 4 (sgL m.seg)),(8,.v (.int .i64 (m.seg.length:Nat))),(9,.v (.int .i64 (i:Nat))),(5,.loc 1 0)],[.cells 76 (lmC m),.cells 72 [.v (.int .i64 s.par),.v (.int .i64 s.org),.v (.int .i64 s.frm),.v (.int .i64 s.len)]]⟩) ?_ ?_
  ·refine yt9 [1, 3, 7, 8, 9, 5, 4, 42] (by simp; rfl) ?_
   by_cases i0:i=0
   ·refine yp9 (by simp [i0]; rfl) (fun h => ?_) (fun h => by simp at h)
    refine ws9 (fun σ=>σ=⟨107,[(1,.loc 0 0),(3,.v (.int .i64 fr)),(7,.lst .any 4 (sgL m.seg)),(8,.v (.int .i64 (m.seg.length:Nat))),(9,.v (.int .i64 (i:Nat))),(5,.loc 1 0),(55,.v (.bool (seg2 m.seg i s)))],[.cells 76 (lmC m),.cells 72 [.v (.int .i64 s.par),.v (.int .i64 s.org),.v (.int .i64 s.frm),.v (.int .i64 s.len)]]⟩) ?_ ?_
    ·have e6 : (s.par != -1) = !decide (s.par = -1) := by by_cases h : s.par = -1 <;> simp [h]
     have e7:(s.org != 0)=!decide (s.org=0):=by by_cases h:s.org=0 <;> simp [h]
     by_cases d1:¬ s.par=-1
     ·refine W_rE [1,3,7,8,9,5,55] ?_
      iterate 2 refine yq9 6 (by simp [lmC,i0,e6,e7,d1];rfl) rfl ?_
      refine yw9 (by simp [lmC,i0,e6,e7,d1];rfl) ?_
      simp [yj9,lmC,seg2,i0,e6,e7,d1]
     have d1p:s.par=-1:=by omega
     by_cases d2:¬ s.org=0
     ·refine W_rE [1,3,7,8,9,5,55] ?_
      iterate 2 refine yq9 6 (by simp [lmC,i0,e6,e7,d1p,d2];rfl) rfl ?_
      refine yw9 (by simp [lmC,i0,e6,e7,d1p,d2];rfl) ?_
      simp [yj9,lmC,seg2,i0,e6,e7,d1p,d2]
     have d2p:s.org=0:=by omega
     by_cases d3:s.len < 1
     ·refine W_rE [1,3,7,8,9,5,55] ?_
      iterate 2 refine yq9 6 (by simp [lmC,i0,e6,e7,d1p,d2p,d3];rfl) rfl ?_
      refine yw9 (by simp [lmC,i0,e6,e7,d1p,d2p,d3];rfl) ?_
      simp [yj9,lmC,seg2,i0,e6,e7,d1p,d2p,d3]
     refine W_rE [1,3,7,8,9,5,55] ?_
     iterate 2 refine yq9 6 (by simp [lmC,i0,e6,e7,d1p,d2p,d3];rfl) rfl ?_
     refine yw9 (by simp [lmC,i0,e6,e7,d1p,d2p,d3];rfl) ?_
     simp [yj9,lmC,seg2,i0,e6,e7,d1p,d2p,d3]
    rintro _ rfl
    by_cases h2:seg2 m.seg i s=true
    ·rw [if_pos h2] at hgo
     rw [h2]
     refine yp9 rfl (fun h=>?_) (fun h=>by simp at h)
     refine yt9 [2] (by simp;rfl) ?_
     refine yn9 ?_
     repeat (first | refine yg9 ?_ | refine yh9 ?_)
     exact hret hgo.symm _
    have h2f:seg2 m.seg i s=false:=by simpa using h2
    rw [h2f]
    refine yp9 rfl (fun h=>by simp at h) (fun h=>?_)
    refine zs9 [1,3,7,8,9,5] ?_
    refine yk9 ?_
    simp [yj9,h2f]
   have i0':¬ (i:Int)=0:=by omega
   refine yp9 (by simp [i0,i0'];rfl) (fun h=>by simp [i0,i0'] at h) (fun h=>?_)
   refine ws9 (fun σ=>σ=⟨107,[(1,.loc 0 0),(3,.v (.int .i64 fr)),(7,.lst .any 4 (sgL m.seg)),(8,.v (.int .i64 (m.seg.length:Nat))),(9,.v (.int .i64 (i:Nat))),(5,.loc 1 0),(84,.v (.bool (seg2 m.seg i s)))],[.cells 76 (lmC m),.cells 72 [.v (.int .i64 s.par),.v (.int .i64 s.org),.v (.int .i64 s.frm),.v (.int .i64 s.len)]]⟩) ?_ ?_
   ·by_cases d1 : s.par < 0
    ·refine qt9 [1,3,7,8,9,5,84] mx (by decide +kernel) ?_
     iterate 4 refine yr9 6 (by simp [lmC,i0,d1];rfl) rfl ?_
     refine ym9 (by simp [lmC,i0,d1];rfl) ?_
     simp [yj9,lmC,seg2,paS,i0,d1]
    by_cases d2:(i:Int)≤s.par
    ·refine qt9 [1,3,7,8,9,5,84] mx (by decide +kernel) ?_
     iterate 4 refine yr9 6 (by simp [lmC,i0,d1,d2];rfl) rfl ?_
     refine ym9 (by simp [lmC,i0,d1,d2];rfl) ?_
     simp [yj9,lmC,seg2,paS,i0,d1,d2]
    obtain ⟨j,hj⟩:∃ j:Nat,s.par=j:=⟨s.par.toNat,by omega⟩
    have hji:j < i:=by omega
    have hnij:¬ i≤j:=by omega
    have hj0:¬ (j:Int) < 0:=by omega
    have hjl:j < m.seg.length:=by omega
    have hjz:(j:Int) < m.seg.length:=by omega
    obtain ⟨p,hjp⟩:∃ p,m.seg[j]?=some p:=⟨_,List.getElem?_eq_getElem hjl⟩
    have hjg:m.seg[j]=p:=by rw [List.getElem?_eq_getElem hjl] at hjp;exact Option.some.inj hjp
    obtain ⟨q1,q2,q3,q4⟩:=hall j p hji hjp
    have w6:IntKind.i64.wrap (p.org+p.len)=p.org+p.len:=w64 (by omega) (by omega)
    by_cases d3:s.org < p.org+p.len
    ·refine qt9 [1,3,7,8,9,5,84] mx (by decide +kernel) ?_
     iterate 4 refine yr9 6 (by simp [lmC,i0,d1,hj,hji,hnij,hj0,hjl,hjz,hjp,hjg,w6,d3];rfl) rfl ?_
     refine ym9 (by simp [lmC,i0,d1,hj,hji,hnij,hj0,hjl,hjz,hjp,hjg,w6,d3];rfl) ?_
     simp [yj9,lmC,seg2,paS,i0,d1,hj,hji,hnij,hj0,hjl,hjz,hjp,hjg,w6,d3]
    refine qt9 [1,3,7,8,9,5,84] mx (by decide +kernel) ?_
    iterate 4 refine yr9 6 (by simp [lmC,i0,d1,hj,hji,hnij,hj0,hjl,hjz,hjp,hjg,w6,d3];rfl) rfl ?_
    refine ym9 (by simp [lmC,i0,d1,hj,hji,hnij,hj0,hjl,hjz,hjp,hjg,w6,d3];rfl) ?_
    simp [yj9,lmC,seg2,paS,i0,d1,hj,hji,hnij,hj0,hjl,hjz,hjp,hjg,w6,d3]
   rintro _ rfl
   by_cases h2:seg2 m.seg i s=true
   ·rw [if_pos h2] at hgo
    rw [h2]
    refine yp9 rfl (fun h=>?_) (fun h=>by simp at h)
    refine yt9 [2] (by simp;rfl) ?_
    refine yn9 ?_
    repeat (first | refine yg9 ?_ | refine yh9 ?_)
    exact hret hgo.symm _
   have h2f:seg2 m.seg i s=false:=by simpa using h2
   rw [h2f]
   refine yp9 rfl (fun h=>by simp at h) (fun h=>?_)
   refine zs9 [1,3,7,8,9,5] ?_
   refine yk9 ?_
   simp [yj9,h2f]
  rintro _ ⟨h2f,rfl⟩
  rw [if_neg (by simp [h2f])] at hgo
  have w7:IntKind.i64.wrap (fr+s.len)=fr+s.len:=w64 (by omega) (by omega)
  refine zq9 [1,3,7,8,9] (by simp [w7,lmC,yf9,AV.weakL,AV.weak,AV.koneL,AV.kone];rfl) ?_
  refine xp9 1 (Nat.zero_le _) (by simp) (by simp [yv9,AV.under,AV.underL]) (by simp [yc9,AObj.under,lmC,AV.under,AV.underL]) ?_
  refine zq9 [1,3,7,8,9] (by simp [wi];rfl) ?_
  refine ⟨_,by omega,i+1,fr+s.len,rfl,by omega,hgo,by omega,by omega,fun j t hj ht=>?_,by simp [lmC]⟩
  by_cases hjj:j < i
  ·exact hall j t hjj ht
  ·have:j=i:=by omega
   subst this
   rw [hs] at ht
   obtain rfl:=Option.some.inj ht
   exact ⟨by omega,by omega,by omega,by omega⟩
 have hie:i=m.seg.length:=by omega
 have hRs:R=some fr:=by rw [← hgo,hie,List.drop_length,yn7]
 rw [hRs] at hS
 refine yt9 [1,3,7,8,9,10] (by simp [c];rfl) ?_
 refine yl9 ?_
 refine yp9 rfl (fun h=>by simp at h) (fun h=>?_)
 refine zj9 ?_
 refine ws9 (fun σ=>σ=⟨107,[(2,.v (.bool (segM m)))],[.cells 76 (lmC m)]⟩) ?_ ?_
 ·by_cases z1 : ¬ 1 ≤ m.seg.length
  ·have z1i:¬ (1:Int)≤m.seg.length:=by omega
   refine W_rE [2] ?_
   iterate 3 refine yq9 6 (by simp [lmC,z1,z1i];rfl) rfl ?_
   refine yw9 (by simp [lmC,z1,z1i];rfl) ?_
   simp [yj9,lmC,hS,segF,z1,z1i]
  have z1p:(1:Int)≤m.seg.length:=by omega
  have z1q:1≤m.seg.length:=by omega
  by_cases z2:¬ m.seg.length≤64
  ·have z2i:¬ (m.seg.length:Int)≤64:=by omega
   refine W_rE [2] ?_
   iterate 3 refine yq9 6 (by simp [lmC,z1p,z1q,z2,z2i];rfl) rfl ?_
   refine yw9 (by simp [lmC,z1p,z1q,z2,z2i];rfl) ?_
   simp [yj9,lmC,hS,segF,z1p,z1q,z2,z2i]
  have z2p:(m.seg.length:Int)≤64:=by omega
  have z2q:m.seg.length≤64:=by omega
  by_cases z3:¬ fr=(m.text.length:Int)
  ·refine W_rE [2] ?_
   iterate 3 refine yq9 6 (by simp [lmC,z1p,z1q,z2p,z2q,z3];rfl) rfl ?_
   refine yw9 (by simp [lmC,z1p,z1q,z2p,z2q,z3];rfl) ?_
   simp [yj9,lmC,hS,segF,z1p,z1q,z2p,z2q,z3]
  have z3p:fr=(m.text.length:Int):=by omega
  refine W_rE [2] ?_
  iterate 3 refine yq9 6 (by simp [lmC,z1p,z1q,z2p,z2q,z3p];rfl) rfl ?_
  refine yw9 (by simp [lmC,z1p,z1q,z2p,z2q,z3p];rfl) ?_
  simp [yj9,lmC,hS,segF,z1p,z1q,z2p,z2q,z3p]
 rintro _ rfl
 refine yn9 ?_
 repeat (first | refine yg9 ?_ | refine yh9 ?_)
 simp [retQ]
end Go.AM
