/- Parts of the walk: R22PB R22PC R22R R22S R22U R22L R23A R23B. -/
import Derived.Test.YthjcnajpcphcpaaGreatG2
namespace Go.AM
open Go.RowKit Go.Proofs
set_option linter.unusedSimpArgs false
set_option linter.unusedVariables false
set_option maxHeartbeats 8000000
set_option maxRecDepth 20000
set_option maxRecDepth 20000
theorem wrap_small {n:Int} (h1:1≤n) (h2:n≤1024):IntKind.i64.wrap (n - 4)=n - 4:=w64 (by omega) (by omega)
theorem keys_eq (d:Dcb):yw7 d=(if d.org == 3 then (d.fmt == 1&&inM d.klen 1 64&&inM d.kpos 0 (IntKind.i64.wrap (d.lrecl - d.klen))) else (d.klen == 0&&d.kpos == 0)):=by
 unfold yw7 inM
 repeat' split
 all_goals first
  | (simp_all;done)
  | (simp_all;omega)
theorem lens_eq {d : Dcb} (h1 : 1 ≤ d.size) (h2 : d.size ≤ 1024) : ww9 d = (if d.fmt == 1 then (if inM d.lrecl 1 d.size = false then false else if d.size == d.lrecl then true else if d.blk then d.size.tmod d.lrecl == 0 else false)
 else if d.fmt == 2 then (if (9:Int)≤d.size then inM d.lrecl 5 (IntKind.i64.wrap (d.size - 4)) else false)
 else if d.fmt == 3 then (if (1:Int)≤d.size then if d.lrecl == 0 then !d.blk else false else false) else false):=by
 have w:=wrap_small h1 h2
 have s1:∀ n:Int,n.tmod n=0:=fun n=>Int.tmod_self
 unfold ww9 inM
 rw [w]
 repeat' split
 all_goals first
  | (simp_all;done)
  | (exfalso;simp_all;omega)
  | (simp_all;omega)
  | skip
theorem vw7 (d:Dcb):wl9 d=decide (zk9 d=0):=by
 unfold wl9 zk9
 rw [← keys_eq]
 by_cases a1:d.org < 1
 ·have:inM d.org 1 3=false:=by unfold inM;rw [if_neg (by omega)]
  simp [a1,this]
 by_cases a2:(3:Int) < d.org
 ·have:inM d.org 1 3=false:=by unfold inM;rw [if_pos (by omega)];simp;omega
  simp [a1,a2,this]
 have a3:inM d.org 1 3=true:=by unfold inM;rw [if_pos (by omega)];simp;omega
 by_cases b1:d.size < 1
 ·rw [if_neg (by rw [a3];simp),if_neg (by omega),if_neg a1,if_neg a2,if_pos b1]
  have e1:inM d.lrecl 1 d.size=false:=by unfold inM;split <;> simp;omega
  have e2:¬ (9:Int)≤d.size:=by omega
  have e3:¬ (1:Int)≤d.size:=by omega
  simp only [e1,if_true,if_neg e2,if_neg e3]
  simp
 by_cases b2:(1024:Int) < d.size
 ·simp [a1,a2,a3,b1,b2]
 have hl:=lens_eq (d:=d) (by omega) (by omega)
 rw [← hl]
 simp only [if_neg a1,if_neg a2,a3,if_neg b1,if_neg b2]
 cases yw7 d <;> cases ww9 d <;> simp
theorem rfits_eq {d:Dcb} (hc:zk9 d=0) (n:Int):qw7 d n=kf9 d n:=by
 unfold qw7 kf9 inM
 rw [vw7,hc]
 simp
def oneM (d:Dcb) (b:List UInt8):List (List UInt8) × Bool:=if (xw9 d b []).2=true then ((xw9 d b []).1,decide ((xw9 d b []).1.length=1) || (d.blk&&decide (1 < (xw9 d b []).1.length))) else ([],false)
def jt8 (d : Dcb) : List (List UInt8) → List (List UInt8) → Option (List (List UInt8))
 | [],O=>some O
 | b :: l,O=>if (oneM d b).2=false then none else jt8 d l (O++(oneM d b).1)
def runbM (d:Dcb) (l:List (List UInt8)):List (List UInt8) × Int:=if wl9 d=false then ([],5) else finU (jt8 d l [])
theorem ym8 (d : Dcb) : ∀ (k : Nat) (b : List UInt8) (O : List (List UInt8)), xj9 d k b O = (O ++ (xj9 d k b []).1, (xj9 d k b []).2)
 | 0,b,O=>by simp [xj9]
 | k+1,b,O=>by
  rw [xj9,xj9]
  split
  ·simp
  ·split
   ·simp
   ·rw [ym8 d k _ (O++_),ym8 d k _ ([]++_)]
    simp
theorem splitM_app2 (d:Dcb) (b:List UInt8) (O:List (List UInt8)):xw9 d b O=(O++(xw9 d b []).1,(xw9 d b []).2):=by
 unfold xw9
 split
 ·simp
 ·split
  ·split
   ·exact ym8 d _ _ O
   ·simp
  ·exact ym8 d _ _ O
theorem runbGo_eq (d : Dcb) : ∀ (l : List (List UInt8)) (O : List (List UInt8)), jt8 d l O = wg7 d l O
 | [],O=>rfl
 | b :: l,O=>by
  rw [jt8,wg7,splitM_app2 d b O]
  rcases hs:xw9 d b [] with ⟨S,ok⟩
  have e:oneM d b=if ok=true then (S,decide (S.length=1) || (d.blk&&decide (1 < S.length))) else ([],false):=by unfold oneM;rw [hs]
  have hst:xn8 d O.length (O++S,ok)=(!ok || (decide (S.length=0) || (!d.blk&&decide (1 < S.length)))):=by
   unfold xn8
   simp only [List.length_append]
   have e1:(O.length+S.length == O.length)=decide (S.length=0):=by rw [Bool.eq_iff_iff];simp
   have e2:decide (O.length+1 < O.length+S.length)=decide (1 < S.length):=by rw [Bool.eq_iff_iff];simp
   rw [e1,e2]
  simp only [hst,e]
  cases ok with
  | false=>simp
  | true =>
   simp only [if_true,Bool.not_true,Bool.false_or]
   have hb:((decide (S.length=1) || (d.blk&&decide (1 < S.length)))=false) ↔ ((decide (S.length=0) || (!d.blk&&decide (1 < S.length)))=true):=by
    generalize S.length=n
    cases d.blk <;> simp <;> omega
   by_cases h:(decide (S.length=1) || (d.blk&&decide (1 < S.length)))=false
   ·rw [if_pos h,if_pos (hb.1 h)]
   ·rw [if_neg h,if_neg (fun h2=>h (hb.2 h2))]
    exact runbGo_eq d l _
theorem check_5 {d:Dcb} (hc:¬ zk9 d=0):zk9 d=5:=by
 unfold zk9 at hc ⊢
 repeat' split
 all_goals first
  | rfl
  | (exfalso;simp_all)
theorem runb_eq (d:Dcb) (l:List (List UInt8)):runbM d l=unbM d l:=by
 unfold runbM unbM
 rw [vw7]
 by_cases hc:zk9 d=0
 ·rw [if_neg (by simp [hc]),if_pos hc,runbGo_eq]
 ·rw [if_pos (by simp [hc]),if_neg hc,check_5 hc]
set_option maxRecDepth 20000
def jn9 (b:List UInt8) (at':Nat) (n:Int):List UInt8 × Bool:=if n < 0 then ([],false) else if (b.length:Int) < at'+n then ([],false) else ((b.drop at').take n.toNat,true)
def resP (p:List UInt8 × Bool):AV:=.tup [.lst (.tip 5 1) 1 (byL p.1),.v (.bool p.2)]
theorem qj7 (b:List UInt8) (at':Nat) (n:Int) (hb:b.length≤1000000000) (ha:at'≤1000000000) (hn:n≤1000000000):Sound Tryz.prog 125 [.lst .any 1 (byL b),.v (.int .i64 at'),.v (.int .i64 n)] (resP (jn9 b at' n)):=by
 refine zn9 Tryz.func125 rfl (by decide +kernel) (by simp [Tryz.f125]) rfl rfl (rs:=[.tmp 6,.tmp 7]) rfl ?_
 rw [show Tryz.f125.ntmps=26 from rfl]
 refine yr9 [0,1,2] (by simp;rfl) ?_
 refine yh9 ?_
 have hnil:retU Tryz.prog [.tmp 6,.tmp 7] (resP ([],false)) .ret ⟨26,[(6,.lst .nil 1 []),(7,.v (.bool false))],[]⟩ :=
  ⟨.tup [.lst .nil 1 [],.v (.bool false)],by simp [retQ],.tup2 (.nil (by decide +kernel)) (.refl _)⟩
 by_cases c1:n < 0
 ·have e:jn9 b at' n=([],false):=by unfold jn9;rw [if_pos c1]
  rw [e]
  refine W_cT [0,1,2,17] (by simp [c1];rfl) rfl ?_
  refine yr9 [6,7] (by simp;rfl) ?_
  refine yj9 ?_
  repeat (first | refine yp9 ?_ | refine ys9 ?_)
  exact hnil
 obtain ⟨k,rfl⟩:=Int.eq_ofNat_of_zero_le (Int.not_lt.1 c1)
 have w1:IntKind.i64.wrap ((at':Int)+(k:Nat))=((at'+k:Nat):Int):=by rw [w64 (by omega) (by omega)];omega
 by_cases c2:b.length < at'+k
 ·have e:jn9 b at' k=([],false):=by unfold jn9;rw [if_neg c1,if_pos (by omega)]
  rw [e]
  refine W_cT [0,1,2,17] (by simp [c1,w1,c2,-Int.natCast_add];rfl) rfl ?_
  refine yr9 [6,7] (by simp;rfl) ?_
  refine yj9 ?_
  repeat (first | refine yp9 ?_ | refine ys9 ?_)
  exact hnil
 have e:jn9 b at' k=((b.drop at').take k,true):=by unfold jn9;rw [if_neg c1,if_neg (by omega)];rfl
 rw [e]
 refine W_cF [0,1,2,17] (by simp [c1,w1,c2,-Int.natCast_add];rfl) rfl ?_
 refine yg9 ?_
 have f1:at'≤at'+k:=by omega
 have f2:at'+k≤b.length:=by omega
 have b1:k≤140737488355328:=by omega
 refine yr9 [6,7] (by simp [w1,f1,f2,b1,-Int.natCast_add,← kw9,← vr9];rfl) ?_
 refine yj9 ?_
 repeat (first | refine yp9 ?_ | refine ys9 ?_)
 exact ⟨_,by simp [retQ];exact ⟨rfl,by simp⟩,.norm fun T=>by simp [resP,List.drop_take]⟩
set_option maxRecDepth 20000
theorem descd_short {b:List UInt8} (h:b.length < 4):descd b=-1:=by
 match b,h with
 | [],_=>rfl
 | [_],_=>rfl
 | [_,_],_=>rfl
 | [_,_,_],_=>rfl
 | _ :: _ :: _ :: _ :: _,h=>simp at h;omega
theorem pieceM_no {b:List UInt8} {at' n:Nat} (h:b.length < at'+n):jn9 b at' n=([],false):=by
 unfold jn9;rw [if_neg (by omega),if_pos (by omega)]
theorem pieceM_ok {b:List UInt8} {at' n:Nat} (h:at'+n≤b.length):jn9 b at' n=((b.drop at').take n,true):=by
 unfold jn9;rw [if_neg (by omega),if_neg (by omega)];rfl
theorem pieceM_neg {b:List UInt8} {at':Nat} {n:Int} (h:n < 0):jn9 b at' n=([],false):=by
 unfold jn9;rw [if_pos h]
theorem xr6 (b:List UInt8) (at':Nat) (hb:b.length≤1000000000) (ha:at'≤1000000000):Sound Tryz.prog 124 [.lst .any 1 (byL b),.v (.int .i64 at')] (.v (.int .i64 (descd (b.drop at')))):=by
 refine yc9 Tryz.func124 rfl (by decide +kernel) (by simp [Tryz.f124]) rfl rfl (rs:=[.tmp 4]) rfl ?_
 rw [show Tryz.f124.ntmps=37 from rfl]
 refine yr9 [0,1] (by simp;rfl) ?_
 have hp:=qj7 b at' 4 hb ha (by omega)
 by_cases c:b.length < at'+4
 ·rw [show (4:Int)=((4:Nat):Int) from rfl,pieceM_no c] at hp
  have hd:descd (b.drop at')=-1:=descd_short (by rw [List.length_drop];omega)
  rw [hd]
  refine W_rK [5,6] ?_
  refine yq9 2 (by simp;rfl) rfl ?_
  refine yf9 (by simp) (by first | (simp;done) | (simp;rfl)) hp (by simp [resP];rfl) ?_
  refine yw9 (by simp [resP];rfl) ?_
  refine yh9 ?_
  refine W_rK [5,26] ?_
  iterate 2 refine yq9 6 (by simp;rfl) rfl ?_
  refine yw9 (by simp;rfl) ?_
  refine yt9 rfl (fun h=>?_) (fun h=>by simp at h)
  refine yr9 [4] (by simp;rfl) ?_
  refine yj9 ?_
  repeat (first | refine yp9 ?_ | refine ys9 ?_)
  simp [retQ]
 rw [show (4:Int)=((4:Nat):Int) from rfl,pieceM_ok (by omega)] at hp
 obtain ⟨d,hd⟩:∃ d,b.drop at'=d:=⟨_,rfl⟩
 have hdl:¬ d.length < 4:=by rw [← hd,List.length_drop];omega
 rw [hd] at hp ⊢
 match d,hdl with
 | [],h=>exact absurd (by simp) h
 | [_],h=>exact absurd (by simp) h
 | [_,_],h=>exact absurd (by simp) h
 | [_,_,_],h=>exact absurd (by simp) h
 | b0 :: b1 :: b2 :: b3 :: l,h4 =>
  simp only [List.take_succ_cons,List.take_zero] at hp
  refine W_rK [5,6] ?_
  refine yq9 2 (by simp;rfl) rfl ?_
  refine yf9 (by simp) (by first | (simp;done) | (simp;rfl)) hp (by simp [resP];rfl) ?_
  refine yw9 (by simp [resP];rfl) ?_
  refine yh9 ?_
  by_cases h2:b2=0
  rotate_left
  ·have hz:=u8z h2
   refine W_rK [5,26] ?_
   refine yq9 6 (by simp [zc9];rfl) rfl ?_
   refine yq9 6 (by simp [hz];rfl) rfl ?_
   refine yw9 (by simp;rfl) ?_
   refine yt9 rfl (fun h=>?_) (fun h=>by simp at h)
   refine yr9 [4] (by simp;rfl) ?_
   refine yj9 ?_
   repeat (first | refine yp9 ?_ | refine ys9 ?_)
   simp [retQ,descd,h2]
  subst h2
  by_cases h3:b3=0
  rotate_left
  ·have hz:=u8z h3
   refine W_rK [5,26] ?_
   refine yq9 6 (by simp [zc9];rfl) rfl ?_
   refine yq9 6 (by simp;rfl) rfl ?_
   refine yw9 (by simp [hz];rfl) ?_
   refine yt9 rfl (fun h=>?_) (fun h=>by simp at h)
   refine yr9 [4] (by simp;rfl) ?_
   refine yj9 ?_
   repeat (first | refine yp9 ?_ | refine ys9 ?_)
   simp [retQ,descd,h3]
  subst h3
  have h0:=b0.toNat_lt
  have h1:=b1.toNat_lt
  have c0:IntKind.i64.wrap ((b0.toNat:Int))=b0.toNat:=w64 (by omega) (by omega)
  have c1:IntKind.i64.wrap ((b1.toNat:Int))=b1.toNat:=w64 (by omega) (by omega)
  have s0:IntKind.i64.wrap (256 * (b0.toNat:Int))=((b0.toNat * 256:Nat):Int):=by rw [w64 (by omega) (by omega)];omega
  have r1:IntKind.i64.wrap (((b0.toNat * 256:Nat):Int)+b1.toNat)=((b0.toNat * 256+b1.toNat:Nat):Int):=by rw [w64 (by omega) (by omega)];omega
  refine W_rK [5,26] ?_
  refine yq9 6 (by simp [zc9];rfl) rfl ?_
  refine yq9 6 (by simp;rfl) rfl ?_
  refine yw9 (by simp;rfl) ?_
  refine yt9 rfl (fun h=>by simp at h) (fun h=>?_)
  refine yg9 ?_
  refine wr9 [4] mx (by decide +kernel) ?_
  refine yd9 5 (by simp [zc9,c0,s0,-Int.natCast_mul,-Int.natCast_add];rfl) rfl ?_
  refine yb9 (by simp [zc9,c1,r1,-Int.natCast_mul,-Int.natCast_add];rfl) ?_
  refine yj9 ?_
  repeat (first | refine yp9 ?_ | refine ys9 ?_)
  simp [retQ,descd]
def resO (p:List (List UInt8) × Bool):AV:=.tup [.lst (.tip 90 1) 1 (bbL p.1),.v (.bool p.2)]
def outR (T:Nat) (x:AV) (O:List (List UInt8)):Prop:=(O=[]∧x=.lst .nil 1 [])∨x=.lst (.tip 90 T) 1 (bbL O)
theorem one_sound (d:Dcb) (b:List UInt8) (hd:zk9 d=0) (hb:b.length≤1000000000):Sound Tryz.prog 94 [dcbA d,.lst .any 1 (byL b)] (resO (oneM d b)):=by
 refine zn9 Tryz.func94 rfl (by decide +kernel) (by simp [Tryz.f94]) rfl rfl (rs:=[.tmp 4,.tmp 5]) rfl ?_
 rw [show Tryz.f94.ntmps=79 from rfl]
 obtain ⟨hc1,hc2,hs1,hs2,hlen,hkey⟩:=qb9 hd
 have hfail:retU Tryz.prog [.tmp 4,.tmp 5] (resO ([],false)) .ret ⟨79,[(4,.lst .nil 1 []),(5,.v (.bool false))],[.cells 23 (dcbC d)]⟩ :=
  ⟨.tup [.lst .nil 1 [],.v (.bool false)],by simp [retQ],.tup2 (.nil (by decide +kernel)) (.refl _)⟩
 refine yr9 [1,2] (by simp;rfl) ?_
 refine yh9 ?_
 by_cases z:d.size < b.length
 ·have e:oneM d b=([],false):=by unfold oneM xw9;rw [if_pos z];simp
  rw [e]
  refine W_cT [1,2,15] (by simp [z];rfl) rfl ?_
  refine yr9 [4,5] (by simp;rfl) ?_
  refine yj9 ?_
  repeat (first | refine yp9 ?_ | refine ys9 ?_)
  exact hfail
 refine W_cF [1,2,15] (by simp [z];rfl) rfl ?_
 refine yg9 ?_
 refine yr9 [1,2,6] (by simp;rfl) ?_
 refine yr9 [1,2,6,7] (by simp;rfl) ?_
 refine wf7 (fun s => ∃ (k at' : Nat), at' ≤ b.length ∧ b.length - at' ≤ k ∧ xw9 d b [] = xj9 d k (b.drop at') [] ∧ (d.fmt ≠ 1 → d.fmt ≠ 2 → at' = 0) ∧
   s=⟨79,[(1,.lst .any 1 (byL b)),(2,.loc 0 0),(6,.lst .nil 1 []),(7,.v (.int .i64 at'))],[.cells 23 (dcbC d)]⟩) ?_ ?_
 ·rcases Bool.eq_false_or_eq_true (d.fmt == 2) with f2 | f2
  ·refine W_cT [1, 2, 6, 7, 18] (by simp [dcbC, f2]; rfl) rfl ?_
   refine yh9 ?_
   have hl:=xr6 b 0 hb (by omega)
   rw [List.drop_zero] at hl
   refine W_rK [1,2,6,23] ?_
   refine yq9 1 (by simp;rfl) rfl ?_
   refine yf9 (by simp) (by first | (simp;done) | (simp;rfl)) hl (by simp;rfl) ?_
   by_cases q:descd b=b.length
   ·refine yw9 (by simp [q];rfl) ?_
    refine yt9 rfl (fun h=>by simp at h) (fun h=>?_)
    refine yg9 ?_
    refine zr9 [1,2,6,7] (by simp;rfl) ?_
    have h4:=yl7 (b:=b) (by omega)
    exact ⟨b.length,4,h4,by omega,by unfold xw9;rw [if_neg z,if_pos f2,if_pos q],fun _ h=>absurd (by simpa using f2) h,by simp [dcbC]⟩
   ·have qn:(descd b != (b.length:Int))=true:=by simpa using q
    refine yw9 (by simp [qn];rfl) ?_
    refine yt9 rfl (fun h=>?_) (fun h=>by simp at h)
    refine yr9 [4,5] (by simp;rfl) ?_
    refine yj9 ?_
    repeat (first | refine yp9 ?_ | refine ys9 ?_)
    have e:oneM d b=([],false):=by unfold oneM xw9;rw [if_neg z,if_pos f2,if_neg q];simp
    rw [e]
    exact hfail
  ·refine W_cF [1,2,6,7,18] (by simp [dcbC,f2];rfl) rfl ?_
   refine ym9 [1,2,6,7] ?_
   refine yg9 ?_
   exact ⟨b.length,0,by omega,by omega,by unfold xw9;rw [if_neg z,f2,List.drop_zero];rfl,fun _ _=>rfl,by simp [dcbC]⟩
 rintro _ ⟨k0,at0,ha0,hk0,hsp,hat0,rfl⟩
 refine yh9 ?_
 refine yl9 ?_
 refine zf9 (fun k s => ∃ (at' : Nat) (O : List (List UInt8)) (x : AV), at' ≤ b.length ∧ b.length - at' ≤ k ∧ xw9 d b [] = xj9 d k (b.drop at') O ∧ outR 125 x O ∧ O.length + (b.length - at') ≤ b.length ∧ (d.fmt ≠ 1 → d.fmt ≠ 2 → at' = 0 ∨ at' = b.length) ∧
   s=⟨79,[(1,.lst .any 1 (byL b)),(2,.loc 0 0),(6,x),(7,.v (.int .i64 at'))],[.cells 23 (dcbC d)]⟩) (k:=k0) ⟨at0,[],_,ha0,hk0,hsp,.inl ⟨rfl,rfl⟩,by simp,fun h1 h2=>.inl (hat0 h1 h2),rfl⟩ ?_
 rintro k s ⟨at',O,x,hat,hk,hgo,hx,hOl,hf3,rfl⟩
 refine yh9 ?_
 by_cases c:at' < b.length
 rotate_left
 ·have hE:xw9 d b []=(O,true):=by
   rw [hgo]
   have:b.drop at'=[]:=List.drop_eq_nil_of_le (by omega)
   rw [this]
   cases k <;> simp [xj9]
  have e:oneM d b=(O,decide (O.length=1) || (d.blk&&decide (1 < O.length))):=by unfold oneM;rw [hE];rfl
  rw [e]
  refine W_cF [1,2,6,7,27] (by simp [c];rfl) rfl ?_
  refine zs9 ?_
  have fin : ∀ (z : AV) (B : Bool) (cs : List AV), B = (decide (O.length = 1) || (d.blk && decide (1 < O.length))) → (z = .lst .nil 1 [] ∧ O = [] ∨ z = .lst (.tip 90 125) 1 (bbL O)) → retU Tryz.prog [.tmp 4, .tmp 5] (resO (O, decide (O.length = 1) || (d.blk && decide (1 < O.length)))) .ret
    ⟨79,[(4,z),(5,.v (.bool B))],[.cells 23 cs]⟩:=by
   rintro z B cs rfl (⟨rfl,rfl⟩ | rfl)
   ·exact ⟨.tup [.lst .nil 1 [],.v (.bool (decide (([]:List (List UInt8)).length=1) || (d.blk&&decide (1 < ([]:List (List UInt8)).length))))],by simp [retQ],.tup2 (.nil (by decide +kernel)) (.refl _)⟩
   ·exact ⟨_,by simp [retQ];exact ⟨rfl,by simp⟩,.norm fun T=>by simp [resO]⟩
  rcases hx with ⟨h0,rfl⟩ | rfl
  ·subst h0
   rcases Bool.eq_false_or_eq_true d.blk with hk2 | hk2
   ·refine W_rK [4,5] ?_
    iterate 2 refine yq9 6 (by simp [dcbC,hk2];rfl) rfl ?_
    refine yw9 (by simp;rfl) ?_
    refine yj9 ?_
    repeat (first | refine yp9 ?_ | refine ys9 ?_)
    refine fin _ _ _ ?_ (.inl ⟨rfl,rfl⟩)
    simp
   ·refine W_rK [4,5] ?_
    iterate 2 refine yq9 6 (by simp [dcbC,hk2];rfl) rfl ?_
    refine yw9 (by simp;rfl) ?_
    refine yj9 ?_
    repeat (first | refine yp9 ?_ | refine ys9 ?_)
    refine fin _ _ _ ?_ (.inl ⟨rfl,rfl⟩)
    simp
  ·by_cases e1 : O.length = 1
   ·refine W_rK [4,5] ?_
    iterate 2 refine yq9 6 (by simp [dcbC,e1];rfl) rfl ?_
    refine yw9 (by simp;rfl) ?_
    refine yj9 ?_
    repeat (first | refine yp9 ?_ | refine ys9 ?_)
    refine fin _ _ _ ?_ (.inr rfl)
    simp [e1]
   have e1b:((O.length:Int) == 1)=false:=by simp;omega
   rcases Bool.eq_false_or_eq_true d.blk with hk2 | hk2
   ·have e2:decide ((1:Int) < (O.length:Int))=decide (1 < O.length):=by rw [Bool.eq_iff_iff];simp;omega
    refine W_rK [4,5] ?_
    iterate 2 refine yq9 6 (by simp [dcbC,e1b,hk2];rfl) rfl ?_
    refine yw9 (by simp;rfl) ?_
    refine yj9 ?_
    repeat (first | refine yp9 ?_ | refine ys9 ?_)
    refine fin _ _ _ ?_ (.inr rfl)
    simp [e1,hk2,e2]
   ·refine W_rK [4,5] ?_
    iterate 2 refine yq9 6 (by simp [dcbC,e1b,hk2];rfl) rfl ?_
    refine yw9 (by simp;rfl) ?_
    refine yj9 ?_
    repeat (first | refine yp9 ?_ | refine ys9 ?_)
    refine fin _ _ _ ?_ (.inr rfl)
    simp [e1,hk2]
 have ci:(at':Int) < b.length:=by omega
 obtain ⟨k,rfl⟩:∃ k',k=k'+1:=⟨k - 1,by omega⟩
 have hne:b.drop at'≠[]:=by
  intro e
  have:=congrArg List.length e
  rw [List.length_drop] at this
  simp at this
  omega
 rw [xj9,if_neg hne] at hgo
 refine W_cT [1,2,6,7,27] (by simp [c];rfl) rfl ?_
 refine yg9 ?_
 refine yl9 ?_
 refine yr9 [1,2,6,7,8] (by simp;rfl) ?_
 have hdl:(b.drop at').length=b.length - at':=List.length_drop
 refine vm9 (fun s => ∃ at2 : Nat, at' ≤ at2 ∧ at2 ≤ at' + 4 ∧ cutB d (b.drop at') = b.drop at2 ∧ (0 ≤ cutN d (b.drop at') → at2 ≤ b.length) ∧ cutN d (b.drop at') ≤ 1000000000 ∧ -1000 ≤ cutN d (b.drop at') ∧ (d.fmt ≠ 1 → d.fmt ≠ 2 → at2 = 0 ∧ cutN d (b.drop at') = b.length) ∧
   s=⟨79,[(1,.lst .any 1 (byL b)),(2,.loc 0 0),(6,x),(7,.v (.int .i64 at2)),(8,.v (.int .i64 (cutN d (b.drop at'))))],[.cells 23 (dcbC d)]⟩) ?_ ?_
 ·refine yr9 [1, 2, 6, 7, 8, 31] (by simp [dcbC]; rfl) ?_
  refine yl9 ?_
  rcases xr7 hs1 hs2 hlen with ⟨f,l1,l2⟩ | ⟨f,l1,l2⟩ | ⟨f,l1,l2⟩
  ·have g1:(d.fmt == 1)=true:=by simp [f]
   have g2:(d.fmt == 2)=false:=by simp [f]
   have hn:cutN d (b.drop at')=d.lrecl:=by unfold cutN;rw [if_pos g1]
   have hB:cutB d (b.drop at')=b.drop at':=by unfold cutB;rw [g2];rfl
   refine W_cT [1,2,6,7,8,31,32] (by simp [g1];rfl) rfl ?_
   refine zr9 [1,2,6,7,8] (by simp [dcbC];rfl) ?_
   exact ⟨at',by omega,by omega,hB,fun _=>by omega,by omega,by omega,fun h=>absurd f h,by rw [hn];simp [dcbC]⟩
  ·have g1:(d.fmt == 1)=false:=by simp [f]
   have g2:(d.fmt == 2)=true:=by simp [f]
   have hn:cutN d (b.drop at')=descd (b.drop at') - 4:=by unfold cutN;rw [g1,if_neg (by simp),if_pos g2]
   have hB:cutB d (b.drop at')=b.drop (at'+4):=by unfold cutB;rw [if_pos g2,List.drop_drop]
   have hr:=descd_rng (b.drop at')
   have w1:IntKind.i64.wrap (descd (b.drop at') - 4)=descd (b.drop at') - 4:=w64 (by omega) (by omega)
   have w2:IntKind.i64.wrap ((at':Int)+4)=((at'+4:Nat):Int):=by rw [w64 (by omega) (by omega)];omega
   refine W_cF [1,2,6,7,8,31,32] (by simp [g1];rfl) rfl ?_
   refine W_cT [1,2,6,7,8,36] (by simp [g2];rfl) rfl ?_
   refine W_rK [1,2,6,7,8] ?_
   refine yq9 2 (by simp;rfl) rfl ?_
   refine yf9 (by simp) (by first | (simp;done) | (simp;rfl)) (xr6 b at' hb (by omega)) (by simp;rfl) ?_
   refine yw9 (by simp [w1];rfl) ?_
   refine zr9 [1,2,6,7,8] (by simp [w2,-Int.natCast_add];rfl) ?_
   refine ⟨at'+4,by omega,by omega,hB,fun h=>?_,by omega,by omega,fun _ h=>absurd f h,by rw [hn];simp [dcbC]⟩
   have:=yl7 (b:=b.drop at') (by omega)
   omega
  ·have g1 : (d.fmt == 1) = false := by simp [f]
   have g2:(d.fmt == 2)=false:=by simp [f]
   have h0:at'=0:=by
    rcases hf3 (by omega) (by omega) with h | h
    ·exact h
    ·omega
   subst h0
   have hn:cutN d (b.drop 0)=b.length:=by unfold cutN;rw [g1,g2];simp
   have hB:cutB d (b.drop 0)=b.drop 0:=by unfold cutB;rw [g2];rfl
   refine W_cF [1,2,6,7,8,31,32] (by simp [g1];rfl) rfl ?_
   refine W_cF [1,2,6,7,8,36] (by simp [g2];rfl) rfl ?_
   refine ym9 [1,2,6,7,8] ?_
   refine yg9 ?_
   exact ⟨0,by omega,by omega,hB,fun _=>by omega,by omega,by omega,fun _ _=>⟨rfl,hn⟩,by rw [hn];simp [dcbC]⟩
 rintro _ ⟨at2,ha1,ha2,hB,hn0,hn1,hn2,hf3',rfl⟩
 obtain ⟨n,hn⟩:∃ n,cutN d (b.drop at')=n:=⟨_,rfl⟩
 rw [hn,hB] at hgo
 rw [hn] at hn0 hn1 hn2 hf3'
 rw [hn]
 have hp:=qj7 b at2 n hb (by omega) hn1
 by_cases bad:n < 0∨((b.drop at2).length:Int) < n
 ·rw [if_pos (by rcases bad with h | h; exact .inl h; exact .inr (.inl h))] at hgo
  have e:oneM d b=([],false):=by unfold oneM;rw [hgo];simp
  rw [e]
  have hq:jn9 b at2 n=([],false):=by
   by_cases h:n < 0
   ·exact pieceM_neg h
   ·have h2:=bad.resolve_left h
    have:=hn0 (by omega)
    rw [List.length_drop] at h2
    unfold jn9
    rw [if_neg h,if_pos (by omega)]
  rw [hq] at hp
  refine W_rK [1,2,6,7,8,9,10] ?_
  refine yq9 3 (by simp;rfl) rfl ?_
  refine yf9 (by simp) (by first | (simp;done) | (simp;rfl)) hp (by simp [resP];rfl) ?_
  refine yw9 (by simp [resP];rfl) ?_
  refine yh9 ?_
  refine W_rK [1,2,6,7,8,9,58] ?_
  refine yq9 5 (by simp;rfl) rfl ?_
  refine yw9 (by simp;rfl) ?_
  refine yt9 rfl (fun h=>?_) (fun h=>by simp at h)
  refine yr9 [4,5] (by simp;rfl) ?_
  refine yj9 ?_
  repeat (first | refine yp9 ?_ | refine ys9 ?_)
  exact hfail
 have hpos:0≤n:=Int.not_lt.1 fun h=>bad (.inl h)
 have hle2:=hn0 hpos
 obtain ⟨m,rfl⟩:=Int.eq_ofNat_of_zero_le hpos
 have hm:at2+m≤b.length:=by
  have h2:¬ ((b.drop at2).length:Int) < (m:Nat):=fun h=>bad (.inr h)
  rw [List.length_drop] at h2
  omega
 rw [pieceM_ok hm] at hp
 obtain ⟨r,hr⟩:∃ r,(b.drop at2).take m=r:=⟨_,rfl⟩
 have hrl:r.length=m:=by rw [← hr,List.length_take,List.length_drop];omega
 rw [hr] at hp
 have hfs:=rfits_sound d r
 rw [rfits_eq hd,hrl] at hfs
 refine W_rK [1,2,6,7,8,9,10] ?_
 refine yq9 3 (by simp;rfl) rfl ?_
 refine yf9 (by simp) (by first | (simp;done) | (simp;rfl)) hp (by simp [resP];rfl) ?_
 refine yw9 (by simp [resP];rfl) ?_
 refine yh9 ?_
 by_cases hfit:kf9 d m=true
 rotate_left
 ·have hfit:kf9 d m=false:=by simpa using hfit
  rw [if_pos (.inr (.inr hfit))] at hgo
  have e:oneM d b=([],false):=by unfold oneM;rw [hgo];simp
  rw [e]
  rw [hfit] at hfs
  refine W_rK [1,2,6,7,8,9,58] ?_
  refine yq9 5 (by simp [dcbC];rfl) rfl ?_
  refine yf9 (by simp) (by first | (simp;done) | (simp;rfl)) hfs (by simp;rfl) ?_
  refine yw9 (by simp;rfl) ?_
  refine yt9 rfl (fun h=>?_) (fun h=>by simp at h)
  refine yr9 [4,5] (by simp;rfl) ?_
  refine yj9 ?_
  repeat (first | refine yp9 ?_ | refine ys9 ?_)
  exact hfail
 have hff:=jg9 hd hfit
 rw [if_neg (by rintro (h | h | h);exact bad (.inl h);exact bad (.inr h);rw [hfit] at h;cases h),Int.toNat_natCast,hr,List.drop_drop] at hgo
 rw [hfit] at hfs
 refine W_rK [1,2,6,7,8,9,58] ?_
 refine yq9 5 (by simp [dcbC];rfl) rfl ?_
 refine yf9 (by simp) (by first | (simp;done) | (simp;rfl)) hfs (by simp;rfl) ?_
 refine yw9 (by simp;rfl) ?_
 refine yt9 rfl (fun h=>by simp at h) (fun h=>?_)
 refine yg9 ?_
 have w3:IntKind.i64.wrap ((at2:Int)+(m:Nat))=((at2+m:Nat):Int):=by rw [w64 (by omega) (by omega)];omega
 have b1:(O.length+1) * 24≤140737488355328:=by omega
 have b2:24 * (O.length+1)≤140737488355328:=by omega
 have hend : ∀ (x2 : AV), outR 125 x2 (O ++ [r]) → ∃ k', k' < k + 1 ∧ ∃ (at' : Nat) (O : List (List UInt8)) (x : AV), at' ≤ b.length ∧ b.length - at' ≤ k' ∧ xw9 d b [] = xj9 d k' (b.drop at') O ∧ outR 125 x O ∧ O.length + (b.length - at') ≤ b.length ∧ (d.fmt ≠ 1 → d.fmt ≠ 2 → at' = 0 ∨ at' = b.length) ∧
   (⟨79,[(1,.lst .any 1 (byL b)),(2,.loc 0 0),(6,x2),(7,.v (.int .i64 (at2+m:Nat)))],[.cells 23 (dcbC d)]⟩:St)=⟨79,[(1,.lst .any 1 (byL b)),(2,.loc 0 0),(6,x),(7,.v (.int .i64 at'))],[.cells 23 (dcbC d)]⟩:=fun x2 h2 =>
  ⟨k,by omega,at2+m,O++[r],x2,hm,by omega,hgo,h2,by simp;omega,fun h1 h2=>by have:=hf3' h1 h2;right;omega,rfl⟩
 rcases hx with ⟨h0,rfl⟩ | rfl
 ·subst h0
  refine yr9 [1,2,6,7,8] (by simp [catK,AV.cellsK,AV.kone,AV.koneL];rfl) ?_
  refine zr9 [1,2,6,7] (by simp [w3,-Int.natCast_add];rfl) ?_
  exact hend _ (.inr (by simp [qp9]))
 ·refine yr9 [1,2,6,7,8] (by simp [catK,AV.cellsK,AV.kone,AV.koneL,b1,b2];rfl) ?_
  refine zr9 [1,2,6,7] (by simp [w3,-Int.natCast_add];rfl) ?_
  exact hend _ (.inr (by simp [uv9,qp9]))
set_option maxRecDepth 20000
theorem oneM_len {d:Dcb} (hc:zk9 d=0) (b:List UInt8):(oneM d b).1.length≤1024:=by
 have:=zm6 hc b []
 unfold oneM
 split
 ·simpa using this
 ·simp
theorem retB {O:List (List UInt8)} {e:Int} {x:AV} {T n:Nat} {cs:List AV} (h:outR T x O):retU Tryz.prog [.tmp 4,.tmp 5] (resB (O,e)) .ret ⟨n,[(4,x),(5,.v (.int .i64 e))],[.cells 23 cs]⟩:=by
 rcases h with ⟨rfl,rfl⟩ | rfl
 ·exact ⟨.tup [.lst .nil 1 [],.v (.int .i64 e)],by simp [retQ],.tup2 (.nil (by decide +kernel)) (.refl _)⟩
 ·exact ⟨_,by simp [retQ];exact ⟨rfl,by simp⟩,.norm fun T=>by simp [resB]⟩
theorem runb_sound (d:Dcb) (l:List (List UInt8)) (hl:l.length≤1900000) (hr:∀ r∈l,r.length≤1000000000):Sound Tryz.prog 57 [dcbA d,.lst .any 1 (bbL l)] (resB (unbM d l)):=by
 rw [← runb_eq]
 refine zn9 Tryz.func57 rfl (by decide +kernel) (by simp [Tryz.f57]) rfl rfl (rs:=[.tmp 4,.tmp 5]) rfl ?_
 rw [show Tryz.f57.ntmps=37 from rfl]
 have hv:=qj8 d
 refine yr9 [1,2] (by simp;rfl) ?_
 refine yh9 ?_
 cases hval:wl9 d with
 | false =>
  rw [hval] at hv
  refine W_rK [1,2,12] ?_
  refine yq9 1 (by simp;rfl) rfl ?_
  refine yf9 (by simp) (by first | (simp;done) | (simp;rfl)) hv (by simp;rfl) ?_
  refine yw9 (by simp;rfl) ?_
  refine yt9 rfl (fun h=>?_) (fun h=>by simp at h)
  refine yr9 [4,5] (by simp;rfl) ?_
  refine yj9 ?_
  repeat (first | refine yp9 ?_ | refine ys9 ?_)
  have e:runbM d l=([],5):=by unfold runbM;rw [if_pos hval]
  rw [e]
  exact retB (T:=1) (.inl ⟨rfl,rfl⟩)
 | true =>
 rw [hval] at hv
 have hc:zk9 d=0:=by rw [vw7] at hval;simpa using hval
 have hbm:runbM d l=finU (jt8 d l []):=by unfold runbM;rw [hval];rfl
 refine W_rK [1,2,12] ?_
 refine yq9 1 (by simp;rfl) rfl ?_
 refine yf9 (by simp) (by first | (simp;done) | (simp;rfl)) hv (by simp;rfl) ?_
 refine yw9 (by simp;rfl) ?_
 refine yt9 rfl (fun h=>by simp at h) (fun h=>?_)
 refine yg9 ?_
 refine yr9 [1,2,6] (by simp;rfl) ?_
 refine yh9 ?_
 refine yr9 [1,2,6,7] (by simp;rfl) ?_
 refine yl9 ?_
 refine zf9 (fun k s => ∃ (i : Nat) (O : List (List UInt8)) (x : AV), k = l.length - i ∧ i ≤ l.length ∧ jt8 d l [] = jt8 d (l.drop i) O ∧ O.length ≤ 1024 * i ∧ outR 65 x O ∧
   s=⟨37,[(1,.lst .any 1 (bbL l)),(2,.loc 0 0),(6,x),(7,.v (.int .i64 i))],[.cells 23 (dcbC d)]⟩) (k:=l.length) ⟨0,[],_,rfl,by omega,rfl,by simp,.inl ⟨rfl,rfl⟩,by simp [dcbC]⟩ ?_
 rintro k s ⟨i,O,x,rfl,hi,hgo,hOl,hx,rfl⟩
 refine yh9 ?_
 by_cases c:i < l.length
 rotate_left
 ·refine W_cF [1, 2, 6, 7, 16] (by simp [c]; rfl) rfl ?_
  refine zs9 ?_
  refine yh9 ?_
  have hie:i=l.length:=by omega
  subst hie
  rw [List.drop_length,jt8] at hgo
  rw [hgo] at hbm
  rw [hbm]
  by_cases z:4096 < O.length
  ·have zi : (4096 : Int) < O.length := by omega
   rw [finU,if_pos z]
   rcases hx with ⟨h0,rfl⟩ | rfl
   ·rw [h0] at z;simp at z
   ·refine W_cT [6,35] (by simp [zi,z];rfl) rfl ?_
    refine yr9 [4,5] (by simp;rfl) ?_
    refine yj9 ?_
    repeat (first | refine yp9 ?_ | refine ys9 ?_)
    exact retB (T:=1) (.inl ⟨rfl,rfl⟩)
  ·have zi : ¬ (4096 : Int) < O.length := by omega
   rw [finU,if_neg z]
   rcases hx with ⟨h0,rfl⟩ | rfl
   ·subst h0
    refine W_cF [6,35] (by simp;rfl) rfl ?_
    refine yg9 ?_
    refine yr9 [4,5] (by simp;rfl) ?_
    refine yj9 ?_
    repeat (first | refine yp9 ?_ | refine ys9 ?_)
    exact retB (T:=1) (.inl ⟨rfl,rfl⟩)
   ·refine W_cF [6,35] (by simp [zi,z];rfl) rfl ?_
    refine yg9 ?_
    refine yr9 [4,5] (by simp;rfl) ?_
    refine yj9 ?_
    repeat (first | refine yp9 ?_ | refine ys9 ?_)
    exact retB (T:=65) (.inr rfl)
 have ci:(i:Int) < l.length:=by omega
 obtain ⟨b,hbi⟩:∃ b,l[i]?=some b:=⟨_,List.getElem?_eq_getElem c⟩
 have hb2:l[i]'c=b:=by rw [List.getElem?_eq_getElem c] at hbi;exact Option.some.inj hbi
 have hbl:=hr b (List.mem_of_getElem? hbi)
 rw [List.drop_eq_getElem_cons c,hb2,jt8] at hgo
 have wi:=w64 (n:=(i:Int)+1) (by omega) (by omega)
 have ho:=one_sound d b hc hbl
 have hol:=oneM_len hc b
 obtain ⟨p,hp⟩:∃ p,oneM d b=p:=⟨_,rfl⟩
 rw [hp] at ho hol hgo
 obtain ⟨S,ok⟩:=p
 simp only at hgo hol
 refine W_cT [1,2,6,7,16] (by simp [c];rfl) rfl ?_
 refine yg9 ?_
 refine yh9 ?_
 refine yl9 ?_
 refine wr9 [1,2,6,7,8,9] mx (by decide +kernel) ?_
 refine yd9 5 (by simp [c,ci,hb2,dcbC];rfl) rfl ?_
 refine yv9 (by simp) (by first | (simp;done) | (simp;rfl)) ho (by simp [resO];rfl) ?_
 refine yb9 (by simp [resO];rfl) ?_
 refine yh9 ?_
 cases ok with
 | false =>
  rw [if_pos rfl] at hgo
  refine W_cT [1,2,6,7,8,29] (by simp;rfl) rfl ?_
  refine yr9 [4,5] (by simp;rfl) ?_
  refine yj9 ?_
  repeat (first | refine yp9 ?_ | refine ys9 ?_)
  rw [hbm,hgo]
  exact retB (T:=1) (.inl ⟨rfl,rfl⟩)
 | true =>
  rw [if_neg (by simp)] at hgo
  refine W_cF [1,2,6,7,8,29] (by simp;rfl) rfl ?_
  refine yg9 ?_
  have b1:(O.length+S.length) * 24≤140737488355328:=by omega
  have b2:S.length * 24≤140737488355328:=by omega
  have hO2:(O++S).length≤1024 * (i+1):=by rw [List.length_append];omega
  rcases hx with ⟨h0,rfl⟩ | rfl
  ·subst h0
   refine zr9 [1,2,6,7] (by simp [b2];rfl) ?_
   refine zr9 [1,2,6,7] (by simp [wi];rfl) ?_
   exact ⟨_,by omega,i+1,S,_,rfl,by omega,hgo,by simpa using hO2,.inr rfl,by simp [dcbC]⟩
  ·refine zr9 [1,2,6,7] (by simp [b1];rfl) ?_
   refine zr9 [1,2,6,7] (by simp [wi];rfl) ?_
   exact ⟨_,by omega,i+1,O++S,_,rfl,by omega,hgo,hO2,.inr rfl,by simp [dcbC,uv9]⟩
theorem W_any {top:Bool} {kf:Nat} {P:Program} {code:Code} {Q:Exit→St→Prop} {s:St} (i:Nat) {o:Fl} {sz:Nat} {xs:List AV} (hg:getF s.fr i=some (.lst o sz xs)) (h:Wt top kf P code Q ⟨s.n,putF s.fr i (.lst .any sz xs),s.h⟩):Wt top kf P code Q s:=by
 refine W_conv (fun c w a hs=>?_) h
 obtain ⟨u,hu,hr,_⟩:=hs.fr i _ hg
 exact jh8 hs i hu (hr.lst_flag fun _=>trivial) (.none rfl)
set_option maxRecDepth 20000
@[simp] theorem bytesA_byL (l:List UInt8):ur8 (byL l)=some l:=by
 induction l with
 | nil=>rfl
 | cons b l ih=>rw [zc9];simp [ur8,ih]
theorem ne_nat (n m:Nat):((n:Int) != (m:Int))=!decide (n=m):=by
 rw [Bool.eq_iff_iff];simp;omega
theorem wb9 {α:Type} {a b:List α} {i:Nat} {x:α} (ha:a[i]?=some x) (hb:b[i]?=some x) (h:a.take i=b.take i):a.take (i+1)=b.take (i+1):=by
 rw [List.take_add_one,List.take_add_one,ha,hb,h]
set_option maxRecDepth 20000
structure Rec where
 R:Int
 key:List UInt8
 data:List UInt8
 bad:Bool
 deriving DecidableEq
@[simp] def recA (r:Rec):AV:=.agg [.v (.int .i64 r.R),.lst .any 1 (byL r.key),.lst .any 1 (byL r.data),.v (.bool r.bad)]
def trL (t:List Rec):List AV:=t.map recA
@[simp] theorem trL_length (L:List Rec):(trL L).length=L.length:=by simp [trL]
@[simp] theorem trL_nil:trL []=[]:=rfl
theorem jq8 (b:Rec) (L:List Rec):trL (b :: L)=recA b :: trL L:=rfl
theorem trL_append (L M:List Rec):trL (L++M)=trL L++trL M:=by simp [trL]
theorem trL_drop (L:List Rec) (n:Nat):trL (L.drop n)=(trL L).drop n:=by simp [trL]
theorem trL_get (L:List Rec) (i:Nat):(trL L)[i]?=(L[i]?).map recA:=by simp [trL]
@[simp] theorem trL_getElem (L:List Rec) (i:Nat) (h:i < (trL L).length):(trL L)[i]=recA (L[i]'(by simpa using h)):=by simp [trL]
@[simp] theorem dpL_trL (L:List Rec):AV.dpL (trL L)=trL L:=by induction L <;> simp_all [trL,AV.dpL,AV.dp]
def arL (a:List (List Rec)):List AV:=a.map fun t=>.lst .any 4 (trL t)
@[simp] theorem wc6 (L:List (List Rec)):(arL L).length=L.length:=by simp [arL]
@[simp] theorem arL_nil:arL []=[]:=rfl
theorem arL_append (L M:List (List Rec)):arL (L++M)=arL L++arL M:=by simp [arL]
theorem qt8 (L:List (List Rec)) (n:Nat):arL (L.take n)=(arL L).take n:=by simp [arL]
theorem arL_drop (L:List (List Rec)) (n:Nat):arL (L.drop n)=(arL L).drop n:=by simp [arL]
@[simp] theorem arL_getElem (L:List (List Rec)) (i:Nat) (h:i < (arL L).length):(arL L)[i]=.lst .any 4 (trL (L[i]'(by simpa using h))):=by simp [arL]
@[simp] theorem rfL_arL (L:List (List Rec)):AV.rfL (arL L)=true:=by induction L <;> simp_all [arL,AV.rfL,AV.rf]
@[simp] theorem weakL_arL (L:List (List Rec)):AV.weakL (arL L)=arL L:=by induction L <;> simp_all [arL,AV.weakL,AV.weak]
@[simp] theorem dpL_arL (L:List (List Rec)):AV.dpL (arL L)=arL L:=by induction L <;> simp_all [arL,AV.dpL,AV.dp]
@[simp] theorem koneL_arL (L:List (List Rec)):AV.koneL (arL L)=true:=by induction L <;> simp_all [arL,AV.koneL,AV.kone]
def yt7 : Code → Option (Code × Code)
 | .rangeFunc _ _ a b=>some (a,b)
 | .seq x y=>match yt7 x with
  | some r=>some r
  | none=>yt7 y
 | .cond _ x y=>match yt7 x with
  | some r=>some r
  | none=>yt7 y
 | .block _ x=>yt7 x
 | .loop x=>yt7 x
 | .scope x=>yt7 x
 | _=>none
def rfA (f:Func):Code:=((f.body.bind yt7).getD (.skip,.skip)).1
def rfB (f:Func):Code:=((f.body.bind yt7).getD (.skip,.skip)).2
def kk9 (r:Rec):Nat:=32+r.data.length+(if r.key=[] then 0 else 16+r.key.length)
def recSm (r:Rec):Prop:=r.key.length≤1000000000∧r.data.length≤1000000000
theorem qd6 {r:Rec} (h:recSm r):kk9 r≤3000000000:=by unfold kk9;obtain ⟨h1,h2⟩:=h;split <;> omega
theorem wh6 (r:Rec) (h:recSm r):Sound Tryz.prog 113 [recA r] (.v (.int .i64 (kk9 r:Nat))):=by
 refine yc9 Tryz.func113 rfl (by decide +kernel) (by simp [Tryz.f113]) rfl rfl (rs:=[.tmp 2]) rfl ?_
 rw [show Tryz.f113.ntmps=20 from rfl]
 obtain ⟨h1,h2⟩:=h
 have w1:IntKind.i64.wrap (32+(r.data.length:Int))=((32+r.data.length:Nat):Int):=by rw [w64 (by omega) (by omega)];omega
 have w2:IntKind.i64.wrap (((32+r.data.length:Nat):Int)+16)=((32+r.data.length+16:Nat):Int):=by rw [w64 (by omega) (by omega)];omega
 have w3:IntKind.i64.wrap (((32+r.data.length+16:Nat):Int)+(r.key.length:Int))=((32+r.data.length+16+r.key.length:Nat):Int):=by rw [w64 (by omega) (by omega)];omega
 refine yr9 [1] (by simp;rfl) ?_
 refine yh9 ?_
 by_cases c:r.key=[]
 ·have hc:kk9 r=32+r.data.length:=by unfold kk9;rw [if_pos c];omega
  rw [hc]
  refine W_cT [1,6] (by simp [c];rfl) rfl ?_
  refine yr9 [2] (by simp [w1,-Int.natCast_add];rfl) ?_
  refine yj9 ?_
  repeat (first | refine yp9 ?_ | refine ys9 ?_)
  simp [retQ]
 ·have hc:kk9 r=32+r.data.length+16+r.key.length:=by unfold kk9;rw [if_neg c];omega
  have hl:r.key.length≠0:=fun e=>c (List.eq_nil_of_length_eq_zero e)
  have hli:((r.key.length:Int) == 0)=false:=beq_eq_false_iff_ne.2 (by omega)
  rw [hc]
  refine W_cF [1,6] (by simp [c,hli,hl];rfl) rfl ?_
  refine yg9 ?_
  refine W_rK [2] ?_
  refine yq9 5 (by simp [w1,w2,-Int.natCast_add];rfl) rfl ?_
  refine yw9 (by simp [w3,-Int.natCast_add];rfl) ?_
  refine yj9 ?_
  repeat (first | refine yp9 ?_ | refine ys9 ?_)
  simp [retQ]
def vrec (r:Rec):Bool:=decide (1≤r.R)&&decide (r.R≤255)&&decide (r.key.length≤255)
theorem zj6 (r:Rec):Sound Tryz.prog 73 [recA r] (.v (.bool (vrec r))):=by
 refine yc9 Tryz.func73 rfl (by decide +kernel) (by simp [Tryz.f73]) rfl rfl (rs:=[.tmp 2]) rfl ?_
 rw [show Tryz.f73.ntmps=17 from rfl]
 refine yr9 [1] (by simp;rfl) ?_
 have e3:decide ((r.key.length:Int)≤255)=decide (r.key.length≤255):=by rw [Bool.eq_iff_iff];simp;omega
 by_cases c1:1≤r.R
 ·by_cases c2 : r.R ≤ 255
  ·have hv:vrec r=decide (r.key.length≤255):=by simp [vrec,c1,c2]
   rw [hv]
   refine W_rK [2] ?_
   refine yq9 6 (by simp [c1];rfl) rfl ?_
   refine yq9 6 (by simp [c2];rfl) rfl ?_
   refine yw9 (by simp [e3];rfl) ?_
   refine yj9 ?_
   repeat (first | refine yp9 ?_ | refine ys9 ?_)
   simp [retQ]
  ·have hv:vrec r=false:=by simp [vrec,c2]
   rw [hv]
   refine W_rK [2] ?_
   refine yq9 6 (by simp [c1];rfl) rfl ?_
   refine yq9 6 (by simp [c2];rfl) rfl ?_
   refine yw9 (by simp;rfl) ?_
   refine yj9 ?_
   repeat (first | refine yp9 ?_ | refine ys9 ?_)
   simp [retQ]
 ·have hv:vrec r=false:=by simp [vrec,c1]
  rw [hv]
  refine W_rK [2] ?_
  refine yq9 6 (by simp [c1];rfl) rfl ?_
  refine yq9 6 (by simp;rfl) rfl ?_
  refine yw9 (by simp;rfl) ?_
  refine yj9 ?_
  repeat (first | refine yp9 ?_ | refine ys9 ?_)
  simp [retQ]
def vj9 (t:List Rec):Nat:=(t.map kk9).sum
def trSm (t:List Rec):Prop:=t.length≤1000000∧∀ r∈t,recSm r
theorem zl6 (t:List Rec) (r:Rec):vj9 (t++[r])=vj9 t+kk9 r:=by simp [vj9]
theorem usedM_le {t:List Rec} (h:∀ r∈t,recSm r):vj9 t≤3000000000 * t.length:=by
 induction t with
 | nil=>simp [vj9]
 | cons r t ih =>
  have h1:=ih fun x hx=>h x (List.mem_cons_of_mem _ hx)
  have h2:=qd6 (h r List.mem_cons_self)
  simp only [vj9,List.map_cons,List.sum_cons,List.length_cons] at h1 ⊢
  omega
theorem add_callW (n s:Int) (rest:List AObj) (hr:yn9 (rest.length+1) rest=true):wp9 Tryz.prog 111 [.v (.int .i64 n),.loc 0 0] (.cells 3 [.v (.int .i64 s)] :: rest) fun r h'=>r=.tup []∧h'=.cells 3 [.v (.int .i64 (IntKind.i64.wrap (s+n)))] :: rest:=by
 refine zh9 Tryz.func111 rfl (by decide +kernel) (by simp [Tryz.f111]) (rs:=[]) rfl ?_
 rw [show Tryz.f111.ntmps=6 from rfl]
 refine zr9 [] (by simp [yk9];rfl) ?_
 refine ⟨.inl rfl,.tup [],.tup [],_,rest.length+1,rfl,.inl ⟨rfl,rfl⟩,by simp,by simp,rfl,?_,rfl,?_⟩
 ·simp [yn9,AObj.under,AV.under,AV.underL] at hr ⊢
  simpa using hr
 ·simp
set_option maxRecDepth 20000
theorem xt9 (m : Nat) : ∀ (a b : List AObj), yn9 m (a ++ b) = (yn9 m a && yn9 m b)
 | [],b=>rfl
 | o :: a,b=>by simp only [List.cons_append,yn9,xt9 m a b,Bool.and_assoc]
theorem costs_callW (t:List Rec) (h:List AObj) (hh:yn9 (h.length+1) h=true):wp9 Tryz.prog 112 [.lst .any 4 (trL t)] h fun r h'=>r=.fn (.func 133) [] [.loc h.length 0]∧h'=h++[.cells 80 [.lst .any 4 (trL t)]]:=by
 refine zh9 Tryz.func112 rfl (by decide +kernel) (by simp [Tryz.f112]) (rs:=[.tmp 2]) rfl ?_
 rw [show Tryz.f112.ntmps=4 from rfl]
 refine yr9 [1] (by simp;rfl) ?_
 refine yr9 [2] (by simp;rfl) ?_
 refine yj9 ?_
 repeat (first | refine yp9 ?_ | refine ys9 ?_)
 refine ⟨.inr rfl,.fn (.func 133) [] [.loc h.length 0],.fn (.func 133) [] [.loc h.length 0],h++[.cells 80 [.lst .any 4 (trL t)]],h.length+1,by simp,.inl ⟨rfl,by simp⟩,by omega,by simp,by simp [AV.under,AV.underL],?_,rfl,?_⟩
 ·rw [List.take_of_length_le (by simp),xt9,hh]
  simp [yn9,AObj.under,AV.under,AV.underL]
 ·rw [List.take_of_length_le (by simp)]
theorem zk6 (t:List Rec) (ht:trSm t):Sound Tryz.prog 74 [.lst .any 4 (trL t)] (.v (.int .i64 (vj9 t:Nat))):=by
 refine yc9 Tryz.func74 rfl (by decide +kernel) (by simp [Tryz.f74]) rfl rfl (rs:=[.tmp 2]) rfl ?_
 rw [show Tryz.f74.ntmps=14 from rfl]
 refine yr9 [0] (by simp;rfl) ?_
 refine yr9 [0,3] (by simp [yk9];rfl) ?_
 refine yr9 [0,3,4] (by simp [yk9];rfl) ?_
 refine yh9 ?_
 refine W_rK [3,4,8] ?_
 refine yq9 1 (by simp;rfl) rfl ?_
 refine xp9 (f:=112) (args:=[.lst .any 4 (trL t)]) (by simp) (by simp) ((costs_callW t _ (by simp [yn9,AObj.under,AV.under,AV.underL])).mono ?_)
 rintro r h' ⟨rfl,rfl⟩
 refine ⟨_,by simp;rfl,?_⟩
 refine yw9 (by simp;rfl) ?_
 refine yl9 ?_
 refine wc8 (Qc:=fun _ h'=>h'=[.cells 3 [.v (.int .i64 (vj9 t:Nat))],.cells 148 [.fn (.func 111) [] [.loc 0 0]],.cells 80 [.lst .any 4 (trL t)],.loop 14 [(3,.loc 0 0),(4,.loc 1 0),(8,.fn (.func 133) [] [.loc 2 0])] [9] (rfA Tryz.f74) (rfB Tryz.f74) .ready]) rfl ?_ ?_
 ·refine zh9 Tryz.func133 rfl (by decide +kernel) (by simp [Tryz.f133]) (rs := []) rfl ?_
  rw [show Tryz.f133.ntmps=17 from rfl]
  refine yr9 [0,5,6,7] (by simp;rfl) ?_
  refine yl9 ?_
  refine zf9 (fun k s => ∃ i : Nat, k = t.length - i ∧ i ≤ t.length ∧ s = ⟨17, [(0, .yld 3), (5, .lst .any 4 (trL t)), (6, .v (.int .i64 (t.length : Nat))), (7, .v (.int .i64 (i : Nat)))],
   [.cells 3 [.v (.int .i64 (vj9 (t.take i):Nat))],.cells 148 [.fn (.func 111) [] [.loc 0 0]],.cells 80 [.lst .any 4 (trL t)],.loop 14 [(3,.loc 0 0),(4,.loc 1 0),(8,.fn (.func 133) [] [.loc 2 0])] [9] (rfA Tryz.f74) (rfB Tryz.f74) .ready]⟩) (k:=t.length) ⟨0,rfl,by omega,?_⟩ ?_
  ·simp [vj9]
   exact ⟨rfl,rfl,rfl⟩
  rintro k s ⟨i,rfl,hi,rfl⟩
  by_cases c:i < t.length
  ·have ci : (i : Int) < t.length := by omega
   obtain ⟨r,hri⟩:∃ r,t[i]?=some r:=⟨_,List.getElem?_eq_getElem c⟩
   have hr2:t[i]'c=r:=by rw [List.getElem?_eq_getElem c] at hri;exact Option.some.inj hri
   have hrs:=ht.2 r (List.mem_of_getElem? hri)
   have wi:=w64 (n:=(i:Int)+1) (by omega) (by have:=ht.1;omega)
   refine yr9 [0,5,6,7,8] (by simp [c];rfl) ?_
   refine yh9 ?_
   refine yt9 rfl (fun h=>?_) (fun h=>by simp at h)
   refine yg9 ?_
   refine yh9 ?_
   refine yl9 ?_
   refine yr9 [0,5,6,7,4] (by simp [c,ci,hr2,yk9];rfl) ?_
   refine W_rK [0,5,6,7,15] ?_
   refine yq9 2 (by simp;rfl) rfl ?_
   refine yf9 (by simp) (by first | (simp;done) | (simp;rfl)) (wh6 r hrs) (by simp;rfl) ?_
   refine runA_y (by simp) ?_
   unfold wn7
   dsimp only
   refine ⟨3,14,_,_,_,_,[.v (.int .i64 (kk9 r:Nat))],by simp,rfl,by simp,by simp,by simp,by simp,?_⟩
   refine (show Wt _ _ _ _ _ _ from ?_)
   refine zr9 [3,4,5] (by simp [setF];rfl) ?_
   refine ⟨rfl,_,_,_,_,_,rfl,?_⟩
   refine yl9 ?_
   refine W_rE [] ?_
   refine yq9 2 (by simp;rfl) rfl ?_
   refine xp9 (f:=111) (args:=[.v (.int .i64 (kk9 r:Nat)),.loc 0 0]) (by simp) (by simp) ((add_callW _ _ _ ?_).mono ?_)
   ·simp [yn9,AObj.under,AV.under,AV.underL]
    rfl
   rintro _ h' ⟨rfl,rfl⟩
   refine ⟨_,by simp;rfl,?_⟩
   refine yw9 (by simp;rfl) ?_
   refine ⟨14,_,_,_,_,.ready,true,5,rfl,rfl,by simp,by simp,?_,?_⟩
   ·simp [yn9,AObj.under,AV.under,AV.underL]
    rfl
   refine ⟨_,by simp;rfl,?_⟩
   refine yw9 (by simp;rfl) ?_
   refine yt9 rfl (fun h=>by simp at h) (fun h=>?_)
   refine ym9 [0,5,6,7] ?_
   refine vp9 4 (by simp) (by simp) rfl (by simp [yn9,AObj.under,AV.under,AV.underL];rfl) ?_
   refine yg9 ?_
   refine zr9 [0,5,6,7] (by simp [wi];rfl) ?_
   have htk:t.take (i+1)=t.take i++[r]:=by rw [List.take_add_one,hri];rfl
   have hle:=usedM_le (t:=t.take i) fun x hx=>ht.2 x (List.mem_of_mem_take hx)
   have hc:=qd6 hrs
   have h6:=ht.1
   have wu:IntKind.i64.wrap ((vj9 (t.take i):Nat)+(kk9 r:Nat):Int)=((vj9 (t.take (i+1)):Nat):Int):=by
    rw [htk,zl6,w64 (by omega) (by rw [List.length_take] at hle;omega)];omega
   refine ⟨_,by omega,i+1,rfl,by omega,?_⟩
   simp [wu]
  ·refine yr9 [0, 5, 6, 7, 8] (by simp [c]; rfl) ?_
   refine yh9 ?_
   refine yt9 rfl (fun h=>by simp at h) (fun h=>?_)
   refine zs9 ?_
   have hie:i=t.length:=by omega
   subst hie
   rw [List.take_length]
   refine ⟨.inl rfl,.tup [],.tup [],_,4,rfl,.inl ⟨rfl,rfl⟩,by simp,by simp,rfl,?_,?_⟩
   ·simp [yn9,AObj.under,AV.under,AV.underL]
    rfl
   ·simp
 ·rintro _ _ rfl
  refine ⟨14,_,_,_,_,.ready,rfl,?_⟩
  refine (show Wt true 0 Tryz.prog _ _ _ from ?_)
  refine yr9 [2] (by simp;rfl) ?_
  refine yj9 ?_
  repeat (first | refine yp9 ?_ | refine ys9 ?_)
  simp [retQ]
end Go.AM
