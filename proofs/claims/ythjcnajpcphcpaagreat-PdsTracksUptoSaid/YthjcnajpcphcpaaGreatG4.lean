/- Parts of the walk: R23C R23D R23E R31A R31B R31C R31D R31N R31H R31O. -/
import Derived.Lib.Strings
import Derived.Lib.Slices
import Derived.Lib.Walk
import Derived.Lib.Bytealg
import Derived.Lib.Builder
import Derived.Shelf.Strings.Builder1
import Derived.Lib.UnsafeStr
import Derived.Test.YthjcnajpcphcpaaGreatG3
namespace Go.AM
open Go.RowKit Go.Proofs
set_option linter.unusedSimpArgs false
set_option linter.unusedVariables false
set_option maxHeartbeats 8000000
set_option maxRecDepth 20000
theorem rrec_sound (r:Rec):Sound Tryz.prog 95 [recA r] (.v (.bool (vrec r))):=by
 refine yc9 Tryz.func95 rfl (by decide +kernel) (by simp [Tryz.f95]) rfl rfl (rs:=[.tmp 2]) rfl ?_
 rw [show Tryz.f95.ntmps=17 from rfl]
 refine yr9 [1] (by simp;rfl) ?_
 have e3:decide ((r.key.length:Int)≤255)=decide (r.key.length≤255):=by rw [Bool.eq_iff_iff];simp;omega
 by_cases c1:1≤r.R
 ·by_cases c2 : r.R ≤ 255
  ·have hv:vrec r=decide (r.key.length≤255):=by simp [vrec,c1,c2]
   rw [hv]
   refine W_rK [2] ?_
   refine yq9 6 (by simp [c1];rfl) rfl ?_
   refine yq9 6 (by simp [c2];rfl) rfl ?_
   refine yw9 (by simp [e3];rfl) ?_
   refine yj9 ?_
   repeat (first | refine yp9 ?_ | refine ys9 ?_)
   simp [retQ]
  ·have hv:vrec r=false:=by simp [vrec,c2]
   rw [hv]
   refine W_rK [2] ?_
   refine yq9 6 (by simp [c1];rfl) rfl ?_
   refine yq9 6 (by simp [c2];rfl) rfl ?_
   refine yw9 (by simp;rfl) ?_
   refine yj9 ?_
   repeat (first | refine yp9 ?_ | refine ys9 ?_)
   simp [retQ]
 ·have hv:vrec r=false:=by simp [vrec,c1]
  rw [hv]
  refine W_rK [2] ?_
  refine yq9 6 (by simp [c1];rfl) rfl ?_
  refine yq9 6 (by simp;rfl) rfl ?_
  refine yw9 (by simp;rfl) ?_
  refine yj9 ?_
  repeat (first | refine yp9 ?_ | refine ys9 ?_)
  simp [retQ]
theorem rcost_sound (r:Rec) (h:recSm r):Sound Tryz.prog 126 [recA r] (.v (.int .i64 (vn9 r:Nat))):=by
 refine yc9 Tryz.func126 rfl (by decide +kernel) (by simp [Tryz.f126]) rfl rfl (rs:=[.tmp 2]) rfl ?_
 rw [show Tryz.f126.ntmps=19 from rfl]
 obtain ⟨h1,h2⟩:=h
 have w1:IntKind.i64.wrap (32+(r.data.length:Int))=((32+r.data.length:Nat):Int):=by rw [w64 (by omega) (by omega)];omega
 have w2:IntKind.i64.wrap (((32+r.data.length:Nat):Int)+16)=((32+r.data.length+16:Nat):Int):=by rw [w64 (by omega) (by omega)];omega
 have w3:IntKind.i64.wrap (((32+r.data.length+16:Nat):Int)+(r.key.length:Int))=((32+r.data.length+16+r.key.length:Nat):Int):=by rw [w64 (by omega) (by omega)];omega
 refine yr9 [1] (by simp;rfl) ?_
 refine yr9 [1,3] (by simp [w1,-Int.natCast_add];rfl) ?_
 refine yh9 ?_
 by_cases c:r.key=[]
 ·have hc:vn9 r=32+r.data.length:=by unfold vn9;rw [if_pos c];omega
  rw [hc]
  refine W_cF [1,3,11] (by simp [c];rfl) rfl ?_
  refine yg9 ?_
  refine yr9 [2] (by simp;rfl) ?_
  refine yj9 ?_
  repeat (first | refine yp9 ?_ | refine ys9 ?_)
  simp [retQ]
 ·have hc:vn9 r=32+r.data.length+16+r.key.length:=by unfold vn9;rw [if_neg c];omega
  have hl:0 < r.key.length:=List.length_pos_iff.2 c
  have hli:(0:Int) < r.key.length:=by omega
  rw [hc]
  refine W_cT [1,3,11] (by simp [c,hli,hl];rfl) rfl ?_
  have w2':IntKind.i64.wrap (32+(r.data.length:Int)+16)=32+(r.data.length:Int)+16:=w64 (by omega) (by omega)
  have w3':IntKind.i64.wrap (32+(r.data.length:Int)+16+(r.key.length:Int))=32+(r.data.length:Int)+16+(r.key.length:Int):=w64 (by omega) (by omega)
  refine zr9 [3] (by simp [w2',w3'];rfl) ?_
  refine yr9 [2] (by simp;rfl) ?_
  refine yj9 ?_
  repeat (first | refine yp9 ?_ | refine ys9 ?_)
  simp [retQ,w2',w3']
theorem rused_sound (t:List Rec) (ht:trSm t):Sound Tryz.prog 96 [.lst .any 4 (trL t)] (.v (.int .i64 (xm9 t:Nat))):=by
 refine yc9 Tryz.func96 rfl (by decide +kernel) (by simp [Tryz.f96]) rfl rfl (rs:=[.tmp 2]) rfl ?_
 rw [show Tryz.f96.ntmps=19 from rfl]
 refine yr9 [0] (by simp;rfl) ?_
 refine yr9 [0,3] (by simp;rfl) ?_
 refine yh9 ?_
 refine yr9 [0,3,4] (by simp;rfl) ?_
 refine yl9 ?_
 refine zj9 (fun k s=>∃ i:Nat,k=t.length - i∧i≤t.length∧s=⟨19,[(0,.lst .any 4 (trL t)),(3,.v (.int .i64 (xm9 (t.take i):Nat))),(4,.v (.int .i64 (i:Nat)))],[]⟩) (k:=t.length) ⟨0,rfl,by omega,by simp [xm9]⟩ ?_
 rintro k s ⟨i,rfl,hi,rfl⟩
 refine yh9 ?_
 by_cases c:i < t.length
 ·have ci : (i : Int) < t.length := by omega
  obtain ⟨r,hri⟩:∃ r,t[i]?=some r:=⟨_,List.getElem?_eq_getElem c⟩
  have hr2:t[i]'c=r:=by rw [List.getElem?_eq_getElem c] at hri;exact Option.some.inj hri
  have hrs:=ht.2 r (List.mem_of_getElem? hri)
  have h6:=ht.1
  have wi:=w64 (n:=(i:Int)+1) (by omega) (by omega)
  have htk:t.take (i+1)=t.take i++[r]:=by rw [List.take_add_one,hri];rfl
  have hle:=wb6 (t:=t.take i) fun x hx=>ht.2 x (List.mem_of_mem_take hx)
  have hc:=vs7 hrs
  have wu:IntKind.i64.wrap ((xm9 (t.take i):Nat)+(vn9 r:Nat):Int)=((xm9 (t.take (i+1)):Nat):Int):=by
   rw [htk,ym7,w64 (by omega) (by rw [List.length_take] at hle;omega)];omega
  refine W_cT [0,3,4,8] (by simp [c];rfl) rfl ?_
  refine yg9 ?_
  refine yh9 ?_
  refine yl9 ?_
  refine W_rE [0,3,4] ?_
  refine yq9 5 (by simp [c,ci,hr2];rfl) rfl ?_
  refine yf9 (by simp) (by first | (simp;done) | (simp;rfl)) (rcost_sound r hrs) (by simp;rfl) ?_
  refine yw9 (by simp [wu];rfl) ?_
  refine zr9 [0,3,4] (by simp [wi];rfl) ?_
  exact ⟨_,by omega,i+1,rfl,by omega,by simp⟩
 ·refine W_cF [0,3,4,8] (by simp [c];rfl) rfl ?_
  refine zs9 ?_
  have hie:i=t.length:=by omega
  subst hie
  rw [List.take_length]
  refine yr9 [2] (by simp;rfl) ?_
  refine yj9 ?_
  repeat (first | refine yp9 ?_ | refine ys9 ?_)
  simp [retQ]
def vgo : Option Int → List Rec → Bool
 | _,[]=>true
 | p,r :: t=>vrec r&&(match p with | none=>true | some x=>decide (x < r.R))&&vgo (some r.R) t
theorem vm8 (p:Option Int) (r:Rec) (t:List Rec):vgo p (r :: t)=(vrec r&&(match p with | none=>true | some x=>decide (x < r.R))&&vgo (some r.R) t):=by cases p <;> rfl
theorem wl6 (p:Option Int):vgo p []=true:=by cases p <;> rfl
def vtrk (t:List Rec):Bool:=vgo none t&&decide (xm9 t≤2048)
def ur9 (t:List Rec) (i:Nat):Option Int:=if i=0 then none else (t[i - 1]?).map (·.R)
def badR (p:Option Int) (r:Rec):Bool:=!(vrec r&&(match p with | none=>true | some x=>decide (x < r.R)))
theorem vgo_step {t:List Rec} {i:Nat} {r:Rec} (h:t[i]?=some r):vgo (ur9 t i) (t.drop i)=(!badR (ur9 t i) r&&vgo (ur9 t (i+1)) (t.drop (i+1))):=by
 have c:=(List.getElem?_eq_some_iff.1 h).1
 have hr2:t[i]'c=r:=by rw [List.getElem?_eq_getElem c] at h;exact Option.some.inj h
 rw [List.drop_eq_getElem_cons c,hr2,vm8]
 have e:ur9 t (i+1)=some r.R:=by simp [ur9,h]
 rw [e]
 unfold badR
 rw [Bool.not_not]
theorem wv6 (t:List Rec) (ht:trSm t):Sound Tryz.prog 34 [.lst .any 4 (trL t)] (.v (.bool (vtrk t))):=by
 refine yc9 Tryz.func34 rfl (by decide +kernel) (by simp [Tryz.f34]) rfl rfl (rs:=[.tmp 2]) rfl ?_
 rw [show Tryz.f34.ntmps=34 from rfl]
 have h6:=ht.1
 refine yr9 [0] (by simp;rfl) ?_
 refine yh9 ?_
 refine yr9 [0,5,6,7] (by simp;rfl) ?_
 refine yl9 ?_
 refine zj9 (fun k s=>∃ i:Nat,k=t.length - i∧i≤t.length∧vgo none t=vgo (ur9 t i) (t.drop i)∧s=⟨34,[(0,.lst .any 4 (trL t)),(5,.lst .any 4 (trL t)),(6,.v (.int .i64 (t.length:Nat))),(7,.v (.int .i64 (i:Nat)))],[]⟩) (k:=t.length) ⟨0,rfl,by omega,rfl,by simp⟩ ?_
 rintro k s ⟨i,rfl,hi,hgo,rfl⟩
 by_cases c:i < t.length
 ·have ci : (i : Int) < t.length := by omega
  obtain ⟨r,hri⟩:∃ r,t[i]?=some r:=⟨_,List.getElem?_eq_getElem c⟩
  have hr2:t[i]'c=r:=by rw [List.getElem?_eq_getElem c] at hri;exact Option.some.inj hri
  have wi:=w64 (n:=(i:Int)+1) (by omega) (by omega)
  have hst:=vgo_step hri
  have hv:=yv6 r
  refine yr9 [0,5,6,7,8] (by simp [c];rfl) ?_
  refine yh9 ?_
  refine yt9 rfl (fun h=>?_) (fun h=>by simp at h)
  refine yg9 ?_
  refine yh9 ?_
  refine yl9 ?_
  refine yr9 [0,5,6,7,3,4] (by simp [c,ci,hr2,yk9];rfl) ?_
  refine vs9 (fun s=>∃ H,s=⟨34,[(0,.lst .any 4 (trL t)),(5,.lst .any 4 (trL t)),(6,.v (.int .i64 (t.length:Nat))),(7,.v (.int .i64 (i:Nat))),(29,.v (.bool (badR (ur9 t i) r)))],H⟩) ?_ ?_
  ·cases hvr:vrec r with
   | false =>
    rw [hvr] at hv
    have hB:badR (ur9 t i) r=true:=by simp [badR,hvr]
    rw [hB]
    refine qh9 [0,5,6,7,29] mx (by decide +kernel) ?_
    refine yd9 1 (by simp;rfl) rfl ?_
    refine yv9 (by simp) (by first | (simp;done) | (simp;rfl)) hv (by simp;rfl) ?_
    iterate 2 refine yd9 6 (by simp;rfl) rfl ?_
    refine yb9 (by simp;rfl) ?_
    exact ⟨_,by simp;rfl⟩
   | true =>
    rw [hvr] at hv
    by_cases z:i=0
    ·subst z
     have hB:badR (ur9 t 0) r=false:=by simp [badR,hvr,ur9]
     rw [hB]
     refine qh9 [0,5,6,7,29] mx (by decide +kernel) ?_
     refine yd9 1 (by simp;rfl) rfl ?_
     refine yv9 (by simp) (by first | (simp;done) | (simp;rfl)) hv (by simp;rfl) ?_
     iterate 2 refine yd9 6 (by simp;rfl) rfl ?_
     refine yb9 (by simp;rfl) ?_
     exact ⟨_,by simp;rfl⟩
    ·obtain ⟨j, rfl⟩ : ∃ j, i = j + 1 := ⟨i - 1, by omega⟩
     obtain ⟨q,hqi⟩:∃ q,t[j]?=some q:=⟨_,List.getElem?_eq_getElem (by omega)⟩
     have hj:j < t.length:=by omega
     have hji:(j:Int) < t.length:=by omega
     have hq2:t[j]'hj=q:=by rw [List.getElem?_eq_getElem hj] at hqi;exact Option.some.inj hqi
     have hB:badR (ur9 t (j+1)) r=decide (r.R≤q.R):=by
      simp only [badR,hvr,ur9,Bool.true_and]
      rw [if_neg (by omega)]
      simp [hqi]
      rw [Bool.eq_iff_iff];simp
     rw [hB]
     have zi:(0:Int) < ((j+1:Nat):Int):=by omega
     have wj':IntKind.i64.wrap (j:Int)=(j:Int):=w64 (by omega) (by omega)
     have wj:IntKind.i64.wrap (((j+1:Nat):Int) - 1)=(j:Int):=by rw [w64 (by omega) (by omega)];omega
     refine qh9 [0,5,6,7,29] mx (by decide +kernel) ?_
     refine yd9 1 (by simp;rfl) rfl ?_
     refine yv9 (by simp) (by first | (simp;done) | (simp;rfl)) hv (by simp;rfl) ?_
     refine yd9 6 (by simp [zi,-Int.natCast_add];rfl) rfl ?_
     refine yd9 6 (by simp [wj,wj',hj,hji,hq2];rfl) rfl ?_
     refine yb9 (by simp;rfl) ?_
     exact ⟨_,by simp;rfl⟩
  rintro _ ⟨H,rfl⟩
  cases hb:badR (ur9 t i) r with
  | true =>
   have hF:vtrk t=false:=by simp [vtrk,hgo,hst,hb]
   rw [hF]
   refine yt9 rfl (fun h=>?_) (fun h=>by simp at h)
   refine yr9 [2] (by simp;rfl) ?_
   refine yj9 ?_
   repeat (first | refine yp9 ?_ | refine ys9 ?_)
   simp [retQ]
  | false =>
   refine yt9 rfl (fun h=>by simp at h) (fun h=>?_)
   refine ym9 [0,5,6,7] ?_
   refine vd9 0 (by omega) (by omega) rfl (by simp [yn9]) ?_
   refine yg9 ?_
   refine zr9 [0,5,6,7] (by simp [wi];rfl) ?_
   exact ⟨_,by omega,i+1,rfl,by omega,by rw [hgo,hst,hb];rfl,by simp⟩
 ·refine yr9 [0,5,6,7,8] (by simp [c];rfl) ?_
  refine yh9 ?_
  refine yt9 rfl (fun h=>by simp at h) (fun h=>?_)
  refine zs9 ?_
  have hie:i=t.length:=by omega
  subst hie
  rw [List.drop_length,wl6] at hgo
  have hT:vtrk t=decide (xm9 t≤2048):=by simp [vtrk,hgo]
  have e3:decide ((xm9 t:Int)≤2048)=decide (xm9 t≤2048):=by rw [Bool.eq_iff_iff];simp;omega
  rw [hT]
  refine W_rK [2] ?_
  refine yq9 1 (by simp;rfl) rfl ?_
  refine yf9 (by simp) (by first | (simp;done) | (simp;rfl)) (yb6 t ht) (by simp;rfl) ?_
  refine yw9 (by simp [e3];rfl) ?_
  refine yj9 ?_
  repeat (first | refine yp9 ?_ | refine ys9 ?_)
  simp [retQ]
set_option maxRecDepth 20000
theorem jb7 (t:List Rec) (ht:trSm t):Sound Tryz.prog 58 [.lst .any 4 (trL t)] (.v (.bool (vtrk t))):=by
 refine yc9 Tryz.func58 rfl (by decide +kernel) (by simp [Tryz.f58]) rfl rfl (rs:=[.tmp 2]) rfl ?_
 rw [show Tryz.f58.ntmps=37 from rfl]
 have h6:=ht.1
 refine yr9 [0] (by simp;rfl) ?_
 refine yh9 ?_
 refine yr9 [0,3] (by simp;rfl) ?_
 refine yl9 ?_
 refine zj9 (fun k s=>∃ i:Nat,k=t.length - i∧i≤t.length∧vgo none t=vgo (ur9 t i) (t.drop i)∧s=⟨37,[(0,.lst .any 4 (trL t)),(3,.v (.int .i64 (i:Nat)))],[]⟩) (k:=t.length) ⟨0,rfl,by omega,rfl,by simp⟩ ?_
 rintro k s ⟨i,rfl,hi,hgo,rfl⟩
 refine yh9 ?_
 by_cases c:i < t.length
 ·have ci : (i : Int) < t.length := by omega
  obtain ⟨r,hri⟩:∃ r,t[i]?=some r:=⟨_,List.getElem?_eq_getElem c⟩
  have hr2:t[i]'c=r:=by rw [List.getElem?_eq_getElem c] at hri;exact Option.some.inj hri
  have wi:=w64 (n:=(i:Int)+1) (by omega) (by omega)
  have hst:=vgo_step hri
  have hv:=rrec_sound r
  refine W_cT [0,3,7] (by simp [c];rfl) rfl ?_
  refine yg9 ?_
  refine yh9 ?_
  refine yl9 ?_
  refine vs9 (fun s=>∃ H,s=⟨37,[(0,.lst .any 4 (trL t)),(3,.v (.int .i64 (i:Nat))),(33,.v (.bool (badR (ur9 t i) r)))],H⟩) ?_ ?_
  ·cases hvr:vrec r with
   | false =>
    rw [hvr] at hv
    have hB:badR (ur9 t i) r=true:=by simp [badR,hvr]
    rw [hB]
    refine qh9 [0,3,33] mx (by decide +kernel) ?_
    refine yd9 4 (by simp [c,ci,hr2];rfl) rfl ?_
    refine yv9 (by simp) (by first | (simp;done) | (simp;rfl)) hv (by simp;rfl) ?_
    iterate 2 refine yd9 6 (by simp;rfl) rfl ?_
    refine yb9 (by simp;rfl) ?_
    exact ⟨_,by simp;rfl⟩
   | true =>
    rw [hvr] at hv
    by_cases z:i=0
    ·subst z
     have hB:badR (ur9 t 0) r=false:=by simp [badR,hvr,ur9]
     rw [hB]
     refine qh9 [0,3,33] mx (by decide +kernel) ?_
     refine yd9 4 (by simp [c,ci,hr2];rfl) rfl ?_
     refine yv9 (by simp) (by first | (simp;done) | (simp;rfl)) hv (by simp;rfl) ?_
     iterate 2 refine yd9 6 (by simp;rfl) rfl ?_
     refine yb9 (by simp;rfl) ?_
     exact ⟨_,by simp;rfl⟩
    ·obtain ⟨j, rfl⟩ : ∃ j, i = j + 1 := ⟨i - 1, by omega⟩
     obtain ⟨q,hqi⟩:∃ q,t[j]?=some q:=⟨_,List.getElem?_eq_getElem (by omega)⟩
     have hj:j < t.length:=by omega
     have hji:(j:Int) < t.length:=by omega
     have hq2:t[j]'hj=q:=by rw [List.getElem?_eq_getElem hj] at hqi;exact Option.some.inj hqi
     have hB:badR (ur9 t (j+1)) r=decide (r.R≤q.R):=by
      simp only [badR,hvr,ur9,Bool.true_and]
      rw [if_neg (by omega)]
      simp [hqi]
      rw [Bool.eq_iff_iff];simp
     rw [hB]
     have zi:(0:Int) < ((j+1:Nat):Int):=by omega
     have zi':(0:Int) < (j:Int)+1:=by omega
     have ci2:(j:Int)+1 < t.length:=by omega
     have tn:((j:Int)+1).toNat=j+1:=by omega
     have nn:(0:Int)≤(j:Int)+1:=by omega
     have wj':IntKind.i64.wrap (j:Int)=(j:Int):=w64 (by omega) (by omega)
     refine qh9 [0,3,33] mx (by decide +kernel) ?_
     refine yd9 4 (by simp [c,ci2,hr2,tn,nn];rfl) rfl ?_
     refine yv9 (by simp) (by first | (simp;done) | (simp;rfl)) hv (by simp;rfl) ?_
     refine yd9 6 (by simp [zi'];rfl) rfl ?_
     refine yd9 6 (by simp [c,ci2,hr2,tn,nn,hri];rfl) rfl ?_
     refine yb9 (by simp [wj',hj,hji,hq2];rfl) ?_
     exact ⟨_,by simp;rfl⟩
  rintro _ ⟨H,rfl⟩
  cases hb:badR (ur9 t i) r with
  | true =>
   have hF:vtrk t=false:=by simp [vtrk,hgo,hst,hb]
   rw [hF]
   refine yt9 rfl (fun h=>?_) (fun h=>by simp at h)
   refine yr9 [2] (by simp;rfl) ?_
   refine yj9 ?_
   repeat (first | refine yp9 ?_ | refine ys9 ?_)
   simp [retQ]
  | false =>
   refine yt9 rfl (fun h=>by simp at h) (fun h=>?_)
   refine ym9 [0,3] ?_
   refine vd9 0 (by omega) (by omega) rfl (by simp [yn9]) ?_
   refine yg9 ?_
   refine zr9 [0,3] (by simp [wi];rfl) ?_
   exact ⟨_,by omega,i+1,rfl,by omega,by rw [hgo,hst,hb];rfl,by simp⟩
 ·refine W_cF [0,3,7] (by simp [c];rfl) rfl ?_
  refine zs9 ?_
  have hie:i=t.length:=by omega
  subst hie
  rw [List.drop_length,wl6] at hgo
  have hT:vtrk t=decide (xm9 t≤2048):=by simp [vtrk,hgo]
  have e3:decide ((xm9 t:Int)≤2048)=decide (xm9 t≤2048):=by rw [Bool.eq_iff_iff];simp;omega
  rw [hT]
  refine W_rK [2] ?_
  refine yq9 1 (by simp;rfl) rfl ?_
  refine yf9 (by simp) (by first | (simp;done) | (simp;rfl)) (rused_sound t ht) (by simp;rfl) ?_
  refine yw9 (by simp [e3];rfl) ?_
  refine yj9 ?_
  repeat (first | refine yp9 ?_ | refine ys9 ?_)
  simp [retQ]
def yq7 (t:List Rec) (r:Rec):Bool:=vtrk t&&!badR (ur9 t t.length) r&&decide (xm9 t+vn9 r≤2048)
theorem fits15_sound (t:List Rec) (r:Rec) (ht:trSm t) (hr:recSm r):Sound Tryz.prog 80 [.lst .any 4 (trL t),recA r] (.v (.bool (yq7 t r))):=by
 refine yc9 Tryz.func80 rfl (by decide +kernel) (by simp [Tryz.f80]) rfl rfl (rs:=[.tmp 4]) rfl ?_
 rw [show Tryz.f80.ntmps=36 from rfl]
 have h6:=ht.1
 have hvt:=wv6 t ht
 have hvr:=yv6 r
 refine yr9 [0,3] (by simp;rfl) ?_
 refine yh9 ?_
 refine vs9 (fun s=>s=⟨36,[(0,.lst .any 4 (trL t)),(3,.loc 0 0),(29,.v (.bool (!vtrk t || badR (ur9 t t.length) r)))],[.cells 100 [.v (.int .i64 r.R),.lst .any 1 (byL r.key),.lst .any 1 (byL r.data),.v (.bool r.bad)]]⟩) ?_ ?_
 ·cases hv1:vtrk t with
  | false =>
   rw [hv1] at hvt
   refine qh9 [0,3,29] mx (by decide +kernel) ?_
   refine yd9 1 (by simp;rfl) rfl ?_
   refine yv9 (by simp) (by first | (simp;done) | (simp;rfl)) hvt (by simp;rfl) ?_
   iterate 3 refine yd9 6 (by simp;rfl) rfl ?_
   refine yb9 (by simp;rfl) ?_
   simp [zw9]
  | true =>
   rw [hv1] at hvt
   cases hv2:vrec r with
   | false =>
    rw [hv2] at hvr
    have hB:badR (ur9 t t.length) r=true:=by simp [badR,hv2]
    refine qh9 [0,3,29] mx (by decide +kernel) ?_
    refine yd9 1 (by simp;rfl) rfl ?_
    refine yv9 (by simp) (by first | (simp;done) | (simp;rfl)) hvt (by simp;rfl) ?_
    refine yd9 3 (by simp;rfl) rfl ?_
    refine yv9 (by simp) (by first | (simp;done) | (simp;rfl)) hvr (by simp;rfl) ?_
    iterate 2 refine yd9 6 (by simp;rfl) rfl ?_
    refine yb9 (by simp;rfl) ?_
    simp [zw9,hB]
   | true =>
    rw [hv2] at hvr
    by_cases z:t=[]
    ·subst z
     have hB:badR (ur9 [] ([]:List Rec).length) r=false:=by simp [badR,hv2,ur9]
     refine qh9 [0,3,29] mx (by decide +kernel) ?_
     refine yd9 1 (by simp;rfl) rfl ?_
     refine yv9 (by simp) (by first | (simp;done) | (simp;rfl)) hvt (by simp;rfl) ?_
     refine yd9 3 (by simp;rfl) rfl ?_
     refine yv9 (by simp) (by first | (simp;done) | (simp;rfl)) hvr (by simp;rfl) ?_
     iterate 2 refine yd9 6 (by simp;rfl) rfl ?_
     refine yb9 (by simp;rfl) ?_
     simp [zw9,hB] at *
    ·have zp : 0 < t.length := List.length_pos_iff.2 z
     obtain ⟨j,hjl⟩:∃ j,t.length=j+1:=⟨t.length - 1,by omega⟩
     obtain ⟨q,hqi⟩:∃ q,t[j]?=some q:=⟨_,List.getElem?_eq_getElem (by omega)⟩
     have hj:j < t.length:=by omega
     have hji:(j:Int) < t.length:=by omega
     have hq2:t[j]'hj=q:=by rw [List.getElem?_eq_getElem hj] at hqi;exact Option.some.inj hqi
     have hB:badR (ur9 t t.length) r=decide (r.R≤q.R):=by
      simp only [badR,hv2,ur9,Bool.true_and,hjl]
      rw [if_neg (by omega)]
      simp [hqi]
      rw [Bool.eq_iff_iff];simp
     have zi:(0:Int) < t.length:=by omega
     have wj:IntKind.i64.wrap ((t.length:Int) - 1)=(j:Int):=by rw [w64 (by omega) (by omega)];omega
     refine qh9 [0,3,29] mx (by decide +kernel) ?_
     refine yd9 1 (by simp;rfl) rfl ?_
     refine yv9 (by simp) (by first | (simp;done) | (simp;rfl)) hvt (by simp;rfl) ?_
     refine yd9 3 (by simp;rfl) rfl ?_
     refine yv9 (by simp) (by first | (simp;done) | (simp;rfl)) hvr (by simp;rfl) ?_
     refine yd9 6 (by simp [zi,zp,z];rfl) rfl ?_
     refine yd9 6 (by simp [wj];rfl) rfl ?_
     refine yb9 (by simp [wj,hj,hji,hq2];rfl) ?_
     simp [zw9,hB]
 rintro _ rfl
 cases hb:(!vtrk t || badR (ur9 t t.length) r) with
 | true =>
  have hF:yq7 t r=false:=by
   unfold yq7
   cases h1:vtrk t <;> cases h2:badR (ur9 t t.length) r <;> simp_all
  rw [hF]
  refine yt9 rfl (fun h=>?_) (fun h=>by simp at h)
  refine yr9 [4] (by simp;rfl) ?_
  refine yj9 ?_
  repeat (first | refine yp9 ?_ | refine ys9 ?_)
  simp [retQ]
 | false =>
  have hT:yq7 t r=decide (xm9 t+vn9 r≤2048):=by
   unfold yq7
   cases h1:vtrk t <;> cases h2:badR (ur9 t t.length) r <;> simp_all
  have hle:=wb6 ht.2
  have hc:=vs7 hr
  have wu:IntKind.i64.wrap ((xm9 t:Int)+(vn9 r:Int))=((xm9 t+vn9 r:Nat):Int):=by rw [w64 (by omega) (by omega)];omega
  have e3:decide (((xm9 t+vn9 r:Nat):Int)≤2048)=decide (xm9 t+vn9 r≤2048):=by rw [Bool.eq_iff_iff];simp;omega
  rw [hT]
  refine yt9 rfl (fun h=>by simp at h) (fun h=>?_)
  refine yg9 ?_
  refine wk9 [4] mx (by decide +kernel) ?_
  refine yd9 1 (by simp;rfl) rfl ?_
  refine yv9 (by simp) (by first | (simp;done) | (simp;rfl)) (yb6 t ht) (by simp;rfl) ?_
  refine yd9 1 (by simp;rfl) rfl ?_
  refine yv9 (by simp) (by first | (simp;done) | (simp;rfl)) (xm6 r hr) (by simp;rfl) ?_
  refine yb9 (by simp [wu,e3,-Int.natCast_add];rfl) ?_
  refine yj9 ?_
  repeat (first | refine yp9 ?_ | refine ys9 ?_)
  simp [retQ]
theorem zc6 (r:Rec) (hr:recSm r):Sound Tryz.prog 127 [recA r] (recA r):=by
 refine vk9 Tryz.func127 rfl (by decide +kernel) (by simp [Tryz.f127]) rfl rfl (rs:=[.cell 2 100]) rfl ?_
 rw [show Tryz.f127.ntmps=14 from rfl]
 obtain ⟨h1,h2⟩:=hr
 have b1:r.key.length≤140737488355328:=by omega
 have b2:r.data.length≤140737488355328:=by omega
 refine yr9 [1,2] (by simp;rfl) ?_
 refine yr9 [1,2] (by simp [b1,yk9];rfl) ?_
 refine yr9 [1,2] (by simp [b2,yk9];rfl) ?_
 refine yr9 [2] (by simp [yk9];rfl) ?_
 refine yj9 ?_
 repeat (first | refine yp9 ?_ | refine ys9 ?_)
 exact ⟨.agg [.v (.int .i64 r.R),.lst (.tip 5 13) 1 (byL r.key),.lst (.tip 5 23) 1 (byL r.data),.v (.bool r.bad)],by simp [retQ],.inr (by simp [AV.plain,AV.plainL])⟩
theorem copyT_sound (t:List Rec) (ht:trSm t):Sound Tryz.prog 97 [.lst .any 4 (trL t)] (.lst (.tip 100 1) 4 (trL t)):=by
 refine xw9 Tryz.func97 rfl (by decide +kernel) (by simp [Tryz.f97]) rfl rfl (rs:=[.tmp 2]) rfl ?_
 rw [show Tryz.f97.ntmps=20 from rfl]
 have h6:=ht.1
 refine yr9 [0] (by simp;rfl) ?_
 refine yr9 [0,3] (by simp;rfl) ?_
 refine yh9 ?_
 refine yr9 [0,3,4] (by simp;rfl) ?_
 refine yl9 ?_
 refine zj9 (fun k s => ∃ (i : Nat) (x : AV), k = t.length - i ∧ i ≤ t.length ∧ ((i = 0 ∧ x = .lst .nil 4 []) ∨ (0 < i ∧ x = .lst (.tip 100 37) 4 (trL (t.take i)))) ∧
  s=⟨20,[(0,.lst .any 4 (trL t)),(3,x),(4,.v (.int .i64 i))],[]⟩) (k:=t.length) ⟨0,_,by simp,by omega,.inl ⟨rfl,rfl⟩,by simp⟩ ?_
 rintro k s ⟨i,x,rfl,hi,hx,rfl⟩
 refine yh9 ?_
 by_cases c:i < t.length
 rotate_left
 ·refine W_cF [0, 3, 4, 8] (by simp [c]; rfl) rfl ?_
  refine zs9 ?_
  have hie:i=t.length:=by omega
  subst hie
  rw [List.take_length] at hx
  refine yr9 [2] (by simp;rfl) ?_
  refine yj9 ?_
  repeat (first | refine yp9 ?_ | refine ys9 ?_)
  rcases hx with ⟨h0,rfl⟩ | ⟨h0,rfl⟩
  ·have:t=[]:=List.eq_nil_of_length_eq_zero h0
   subst this
   exact ⟨.lst .nil 4 [],by simp [retQ],.nil (by decide +kernel)⟩
  ·exact ⟨_,by simp [retQ];exact ⟨rfl,by simp⟩,.norm fun T=>by simp⟩
 have ci:(i:Int) < t.length:=by omega
 obtain ⟨r,hti⟩:∃ r,t[i]?=some r:=⟨_,List.getElem?_eq_getElem c⟩
 have ht2:t[i]'c=r:=by rw [List.getElem?_eq_getElem c] at hti;exact Option.some.inj hti
 have hrs:=ht.2 r (List.mem_of_getElem? hti)
 have wi:=w64 (n:=(i:Int)+1) (by omega) (by omega)
 have htk:t.take (i+1)=t.take i++[r]:=by rw [List.take_add_one,hti];rfl
 have b1:(i+1) * 64≤140737488355328:=by omega
 have b2:64 * (i+1)≤140737488355328:=by omega
 refine W_cT [0,3,4,8] (by simp [c];rfl) rfl ?_
 refine yg9 ?_
 refine yh9 ?_
 refine yl9 ?_
 rcases hx with ⟨h0,rfl⟩ | ⟨h0,rfl⟩
 ·subst h0
  refine W_rE [0,3,4] ?_
  refine yq9 5 (by simp [c,ci,ht2];rfl) rfl ?_
  refine yf9 (by simp) (by first | (simp;done) | (simp;rfl)) (zc6 r hrs) (by simp;rfl) ?_
  refine yw9 (by simp [catK,AV.cellsK,AV.kone,AV.koneL];rfl) ?_
  refine zr9 [0,3,4] (by simp [show IntKind.i64.wrap 1=1 from rfl];rfl) ?_
  exact ⟨_,by omega,1,_,rfl,by omega,.inr ⟨by omega,rfl⟩,by rw [htk];simp [xh8]⟩
 ·refine W_rE [0,3,4] ?_
  refine yq9 5 (by simp [c,ci,ht2];rfl) rfl ?_
  refine yf9 (by simp) (by first | (simp;done) | (simp;rfl)) (zc6 r hrs) (by simp;rfl) ?_
  refine yw9 (by simp [catK,AV.cellsK,AV.kone,AV.koneL,b1,b2,Nat.min_eq_left hi];rfl) ?_
  refine zr9 [0,3,4] (by simp [wi];rfl) ?_
  exact ⟨_,by omega,i+1,_,rfl,by omega,.inr ⟨by omega,rfl⟩,by rw [htk];simp [zq7,xh8]⟩
set_option maxRecDepth 20000
def lastR : Option Int → List Rec → Option Int
 | p,[]=>p
 | _,r :: t=>lastR (some r.R) t
theorem xq6 (q : Rec) : ∀ (t : List Rec) (p : Option Int), lastR p (t ++ [q]) = some q.R
 | [],_=>rfl
 | r :: t,p=>by rw [List.cons_append,lastR];exact xq6 q t _
theorem prevR_last (t:List Rec):ur9 t t.length=lastR none t:=by
 rcases List.eq_nil_or_concat t with rfl | ⟨u,q,rfl⟩
 ·rfl
 ·rw [List.concat_eq_append,xq6]
  simp [ur9]
theorem vgo_snoc (r : Rec) : ∀ (t : List Rec) (p : Option Int), vgo p (t ++ [r]) = (vgo p t && !badR (lastR p t) r)
 | [],p=>by rw [List.nil_append,vm8,wl6,wl6,lastR];cases p <;> simp [badR]
 | q :: t,p=>by rw [List.cons_append,vm8,vm8,vgo_snoc r t,lastR];simp only [Bool.and_assoc]
theorem vj7 (t:List Rec) (r:Rec):vtrk (t++[r])=yq7 t r:=by
 unfold vtrk yq7 vtrk
 rw [vgo_snoc,ym7,prevR_last]
 by_cases h:xm9 t+vn9 r≤2048
 ·have:xm9 t≤2048:=by omega
  simp [h,this]
 ·simp [h]
theorem trL_snoc (t:List Rec) (r:Rec):trL t++[AV.agg [.v (.int .i64 r.R),.lst .any 1 (byL r.key),.lst .any 1 (byL r.data),.v (.bool r.bad)]]=trL (t++[r]):=by simp [zq7,xh8]
theorem vh6 (t:List Rec) (r:Rec) (ht:trSm t) (hr:recSm r) (hl:t.length < 1000000):Sound Tryz.prog 88 [.lst .any 4 (trL t),recA r] (.v (.bool (yq7 t r))):=by
 rw [← vj7]
 refine yc9 Tryz.func88 rfl (by decide +kernel) (by simp [Tryz.f88]) rfl rfl (rs:=[.tmp 4]) rfl ?_
 rw [show Tryz.f88.ntmps=11 from rfl]
 have h2:trSm (t++[r]):=⟨by simp;omega,fun x hx=>by rcases List.mem_append.1 hx with h | h;exact ht.2 x h;rw [List.mem_singleton.1 h];exact hr⟩
 have b1:(t.length+1) * 64≤140737488355328:=by omega
 have b2:64 * (t.length+1)≤140737488355328:=by omega
 have hv:=jb7 (t++[r]) h2
 refine yr9 [0,3] (by simp;rfl) ?_
 refine wk9 [4] mx (by decide +kernel) ?_
 refine yd9 1 (by simp;rfl) rfl ?_
 refine yv9 (by simp) (by first | (simp;done) | (simp;rfl)) (copyT_sound t ht) (by simp;rfl) ?_
 refine yd9 3 (by simp [catK,AV.cellsK,AV.kone,AV.koneL,b1,b2,trL_snoc];rfl) rfl ?_
 refine yv9 (by simp) (by first | (simp;done) | (simp;rfl)) hv (by simp;rfl) ?_
 refine yb9 (by simp;rfl) ?_
 refine yj9 ?_
 repeat (first | refine yp9 ?_ | refine ys9 ?_)
 simp [retQ]
theorem vp6 (a b:Rec):Sound Tryz.prog 90 [recA a,recA b] (.v (.bool (decide (a=b)))):=by
 refine yc9 Tryz.func90 rfl (by decide +kernel) (by simp [Tryz.f90]) rfl rfl (rs:=[.tmp 4]) rfl ?_
 rw [show Tryz.f90.ntmps=35 from rfl]
 refine yr9 [2,3] (by simp;rfl) ?_
 by_cases e1:a.R=b.R
 rotate_left
 ·have hne:¬ a=b:=fun e=>e1 (by rw [e])
  have e1':(a.R == b.R)=false:=by simp [e1]
  refine W_rK [4] ?_
  refine yq9 6 (by simp [e1'];rfl) rfl ?_
  iterate 3 refine yq9 6 (by simp;rfl) rfl ?_
  refine yw9 (by simp;rfl) ?_
  refine yj9 ?_
  repeat (first | refine yp9 ?_ | refine ys9 ?_)
  simp [retQ,hne]
 by_cases e2:a.bad=b.bad
 rotate_left
 ·have hne : ¬ a = b := fun e => e2 (by rw [e])
  have e2x:a.bad=!b.bad:=by
   cases h1:a.bad <;> cases h2:b.bad <;> simp_all
  refine W_rK [4] ?_
  refine yq9 6 (by simp [e1];rfl) rfl ?_
  refine yq9 6 (by simp [e2x];rfl) rfl ?_
  iterate 2 refine yq9 6 (by simp;rfl) rfl ?_
  refine yw9 (by simp;rfl) ?_
  refine yj9 ?_
  repeat (first | refine yp9 ?_ | refine ys9 ?_)
  simp [retQ,hne]
 by_cases e3:a.key=b.key
 rotate_left
 ·have hne:¬ a=b:=fun e=>e3 (by rw [e])
  have e3':(a.key == b.key)=false:=beq_eq_false_iff_ne.2 e3
  refine W_rK [4] ?_
  refine yq9 6 (by simp [e1];rfl) rfl ?_
  refine yq9 6 (by simp [e2];rfl) rfl ?_
  refine yq9 8 (by simp [strA,e3'];rfl) rfl ?_
  refine yq9 6 (by simp;rfl) rfl ?_
  refine yw9 (by simp;rfl) ?_
  refine yj9 ?_
  repeat (first | refine yp9 ?_ | refine ys9 ?_)
  simp [retQ,hne]
 by_cases e4:a.data=b.data
 rotate_left
 ·have hne:¬ a=b:=fun e=>e4 (by rw [e])
  have e4':(a.data == b.data)=false:=beq_eq_false_iff_ne.2 e4
  refine W_rK [4] ?_
  refine yq9 6 (by simp [e1];rfl) rfl ?_
  refine yq9 6 (by simp [e2];rfl) rfl ?_
  refine yq9 8 (by simp [strA,e3];rfl) rfl ?_
  refine yq9 6 (by simp [strA,e4'];rfl) rfl ?_
  refine yw9 (by simp [strA,e4'];rfl) ?_
  refine yj9 ?_
  repeat (first | refine yp9 ?_ | refine ys9 ?_)
  simp [retQ,hne]
 have heq:a=b:=by cases a;cases b;simp_all
 refine W_rK [4] ?_
 refine yq9 6 (by simp [e1];rfl) rfl ?_
 refine yq9 6 (by simp [e2];rfl) rfl ?_
 refine yq9 8 (by simp [strA,e3];rfl) rfl ?_
 refine yq9 6 (by simp [strA,e4];rfl) rfl ?_
 refine yw9 (by simp [strA,e4];rfl) ?_
 refine yj9 ?_
 repeat (first | refine yp9 ?_ | refine ys9 ?_)
 simp [retQ,heq]
set_option maxRecDepth 20000
set_option maxRecDepth 100000 in
theorem calls113 (s:ByteArray) (c:Int) (w:World):Calls Tryz.prog 110 #[.string s,.int .u8 c] w fun e w'=>e=.returned (.int .i64 (Lib.indexByte s.data.toList c.toNat.toUInt8))∧w'=w:=by
 go_enter Tryz.func110,Tryz.ntmps110
 go_wp2
 rw [run_callFunc_extern Tryz.func132 (by kernel_rfl) (by kernel_rfl) (by kernel_rfl) (e:=Extern.BytealgIndexByte.indexByte) (by kernel_rfl),Lib.run_indexByteString]
 simp only [Result.andThen]
 rw [Oper.upon_value]
 go_wp2
 go_ret
 exact ⟨rfl,rfl⟩
theorem ib113_sound (s:ByteArray) (c:Int):Sound Tryz.prog 110 [.v (.string s),.v (.int .u8 c)] (.v (.int .i64 (Lib.indexByte s.data.toList c.toNat.toUInt8))):=by
 refine jv7 (us:=[.string s,.int .u8 c]) ⟨_,Tryz.func110,by decide +kernel,by kernel_rfl⟩ fun w=>(calls113 s c w).mono ?_
 rintro e w' ⟨rfl,rfl⟩
 exact ⟨rfl,0,rfl⟩
theorem ww8 (s:ByteArray) (c:Int):Sound Tryz.prog 72 [.v (.string s),.v (.int .u8 c)] (.v (.int .i64 (Lib.indexByte s.data.toList c.toNat.toUInt8))):=by
 refine yc9 Tryz.func72 rfl (by decide +kernel) (by simp [Tryz.f72]) rfl rfl (rs:=[.tmp 4]) rfl ?_
 rw [show Tryz.f72.ntmps=8 from rfl]
 refine yr9 [0,1] (by simp;rfl) ?_
 refine W_rK [4] ?_
 refine yq9 2 (by simp;rfl) rfl ?_
 refine yf9 (by simp) (by first | (simp;done) | (simp;rfl)) (ib113_sound s c) (by simp;rfl) ?_
 refine yw9 (by simp;rfl) ?_
 refine yj9 ?_
 repeat (first | refine yp9 ?_ | refine ys9 ?_)
 simp [retQ]
def ql9 : List UInt8 := ([64, 90, 127, 123, 91, 108, 80, 125, 77, 93, 92, 78, 107, 96, 75, 97, 240, 241, 242, 243, 244, 245, 246, 247, 248, 249, 122, 94, 76, 126, 110, 111, 124, 193, 194, 195, 196, 197, 198, 199, 200, 201, 209, 210, 211, 212, 213] : List UInt8).append
 [214,215,216,217,226,227,228,229,230,231,232,233,186,224,187,176,109,121,129,130,131,132,133,134,135,136,137,145,146,147,148,149,150,151,152,153,162,163,164,165,166,167,168,169,192,79,208,161]
def chI (b:UInt8):Int:=Lib.indexByte ql9 b
def chM (b:UInt8):UInt8 × Bool:=if chI b < 0 then (0,false) else (UInt8.ofNat (32+(chI b).toNat),true)
theorem chI_bounds (b:UInt8):-1≤chI b∧chI b < 95:=by
 have:∀ n:Nat,n < 256→-1≤chI (UInt8.ofNat n)∧chI (UInt8.ofNat n) < 95:=by decide +kernel
 have h:=this b.toNat b.toNat_lt
 rwa [UInt8.ofNat_toNat] at h
theorem char_sound (b:UInt8):Sound Tryz.prog 140 [.v (.int .u8 b.toNat)] (.tup [.v (.int .u8 (chM b).1.toNat),.v (.bool (chM b).2)]):=by
 refine yc9 Tryz.func140 rfl (by decide +kernel) (by simp [Tryz.f140]) rfl rfl (rs:=[.tmp 2,.tmp 3]) rfl ?_
 rw [show Tryz.f140.ntmps=12 from rfl]
 have hib:=ww8 ⟨ql9.toArray⟩ b.toNat
 have hb:((b.toNat:Int).toNat.toUInt8)=b:=by rw [Int.toNat_natCast];exact UInt8.ofNat_toNat
 rw [hb,show (ByteArray.mk ql9.toArray).data.toList=ql9 from rfl,show Lib.indexByte ql9 b=chI b from rfl] at hib
 obtain ⟨c1,c2⟩:=chI_bounds b
 refine yr9 [0] (by simp;rfl) ?_
 refine W_rK [4] ?_
 refine yq9 1 (by simp;rfl) rfl ?_
 refine yf9 (f:=72) (args:=[.v (.string ⟨ql9.toArray⟩),.v (.int .u8 b.toNat)]) (by simp) (by simp;exact ⟨rfl,rfl⟩) hib (by simp;rfl) ?_
 refine yw9 (by simp;rfl) ?_
 refine yh9 ?_
 by_cases h:chI b < 0
 ·have hM:chM b=(0,false):=by rw [chM,if_pos h]
  refine W_cT [4,8] (by simp [h];rfl) rfl ?_
  refine yr9 [2,3] (by simp;rfl) ?_
  refine yj9 ?_
  repeat (first | refine yp9 ?_ | refine ys9 ?_)
  simp [retQ,hM]
 ·have hM : chM b = (UInt8.ofNat (32 + (chI b).toNat), true) := by rw [chM, if_neg h]
  have w1:IntKind.i64.wrap (32+chI b)=32+chI b:=w64 (by omega) (by omega)
  have w2:IntKind.u8.wrap (32+chI b)=((UInt8.ofNat (32+(chI b).toNat)).toNat:Nat):=by
   rw [UInt8.toNat_ofNat']
   simp only [IntKind.wrap_u8]
   omega
  refine W_cF [4,8] (by simp [h];rfl) rfl ?_
  refine yg9 ?_
  refine yr9 [2,3] (by simp [w1,w2];rfl) ?_
  refine yj9 ?_
  repeat (first | refine yp9 ?_ | refine ys9 ?_)
  simp [retQ,hM]
set_option maxRecDepth 20000
theorem u155:Tryz.prog.underlying 170=some (.pointer 172):=by kernel_rfl
theorem u184:Tryz.prog.underlying 185=some .unsafePointer:=by kernel_rfl
theorem info157:∃ j,Tryz.prog.info? 172=some j∧j.size=2:=Option.map_eq_some_iff.1 (show (Tryz.prog.info? 172).map (·.size)=some 2 by kernel_rfl)
set_option maxRecDepth 100000 in
theorem cc_used (b : Nat) (w : World) (h0 : w.cell? ⟨b, 0, none⟩ = some (.pointer (some ⟨b, 0, none⟩))) :
  Calls Tryz.prog 149 #[.pointer (some ⟨b,0,none⟩)] w fun e w'=>e=.returned (.tuple #[])∧w'=w:=by
 obtain ⟨j,hj,_⟩:=info157
 go_enter Tryz.func149,Tryz.ntmps149
 go_wp2
 rw [Lib.run_neq_ptr_same w _ u155 hj]
 go_wp2
 go_end0
 exact ⟨rfl,rfl⟩
set_option maxRecDepth 100000 in
theorem cc_fresh (b : Nat) (w : World) (h0 : w.cell? ⟨b, 0, none⟩ = some (.pointer none)) (hsh : w.shape? b = some (172, 2)) (hfz : w.frozen? ⟨b, 0, none⟩ = false) :
  Calls Tryz.prog 149 #[.pointer (some ⟨b,0,none⟩)] w fun e w'=>e=.returned (.tuple #[])∧w'=w.setCell ⟨b,0,none⟩ (.pointer (some ⟨b,0,none⟩)):=by
 obtain ⟨j,hj,hjs⟩:=info157
 go_enter Tryz.func149,Tryz.ntmps149
 go_wp2
 rw [Lib.run_to_unsafe w ⟨b,0,none⟩ u155 u184 hj (by rw [hjs];decide) hsh (Nat.zero_lt_succ 1)]
 simp only [Result.andThen]
 rw [Oper.upon_value]
 go_wp2
 rw [run_callFunc_extern Tryz.func151 (by kernel_rfl) (by kernel_rfl) (by kernel_rfl) (e:=Extern.AbiNoEscape.same) (by kernel_rfl)]
 rw [Lib.run_noEscape]
 simp only [Result.andThen]
 rw [Oper.upon_value]
 go_wp2
 rw [Lib.run_from_unsafe w ⟨b,0,none⟩ u184 u155 hj hsh (by kernel_rfl)]
 simp only [Result.andThen]
 rw [Oper.upon_value]
 go_wp2
 go_end0
 exact ⟨rfl,rfl⟩
theorem st155 (b : Nat) (w : World) (h0 : w.cell? ⟨b, 0, none⟩ = some (.pointer none)) (hfz : w.frozen? ⟨b, 0, none⟩ = false) :
  (Instr.storeAt 170 (.pointer (some ⟨b,0,none⟩)) (.pointer (some ⟨b,0,none⟩))).run Tryz.prog w=.ok () (w.setCell ⟨b,0,none⟩ (.pointer (some ⟨b,0,none⟩))):=by
 simp [Instr.storeAt,storeVar,go_sem,h0,hfz]
theorem yj6 {h:List AObj} {id:Nat} {x:AV} (hid:h[id]?=some (.cells 172 [.v (.pointer none),x])):ww9 Tryz.prog 149 [.loc id 0] h fun r h'=>r=.tup []∧h'=h.set id (.cells 172 [.loc id 0,x]):=by
 refine ⟨⟨_,Tryz.func149,by decide +kernel,by kernel_rfl⟩,fun F n c w vals hF hro hb hdf hh ra=>?_⟩
 cases ra with
 | cons hr ho hl =>
 cases hl
 cases hr with
 | loc hno =>
 obtain ⟨hbase,hpm,how,cur,hcur,hlen,hcc⟩:=hh.obj id _ hid
 have hc0:cur.getD 0 undef=.pointer none:=(hcc 0 _ rfl).1.v_inv
 have hsz:cur.size=2:=by rw [← hlen];rfl
 have hcell:w.cell? ⟨c.ob id,0,none⟩=some (.pointer none):=by
  rw [Array.getD_eq_getD_getElem?,Array.getElem?_eq_getElem (by omega)] at hc0
  simp only [World.cell?,hcur,Option.isSome_none,Bool.false_eq_true,if_false]
  rw [Array.getElem?_eq_getElem (by omega)]
  exact congrArg some hc0
 have hsh:w.shape? (c.ob id)=some (172,2):=by simp [World.shape?,hcur,hsz]
 have hfz:w.frozen? ⟨c.ob id,0,none⟩=false:=by simp [World.frozen?,hcur]
 have hs0:SimSt Tryz.prog c w ⟨0,[],h⟩ { tmps:=#[],defers:=[] }:=⟨rfl,hb,fun i x hx=>(by cases hx),hh,⟨[],rfl,.nil,by simp⟩⟩
 obtain ⟨w1,hrun,hext,hsim⟩:=yt7 (t:=170) (addr:=.loc id 0) (x:=.loc id 0) (s':=⟨0,[],h.set id (.cells 172 [.loc id 0,x])⟩) hs0 (by simp [kp8,hid,AV.cellsK,AV.kone,AV.koneL,yk9]) (Rep.loc hno) (Rep.loc hno) (.none rfl)
 rw [st155 _ _ hcell hfz] at hrun
 cases hrun
 refine (wg9 hF (cc_fresh (c.ob id) w hcell hsh hfz)).mono ?_
 rintro e w' ⟨rfl,rfl⟩
 exact ⟨_,c,.tup [],_,rfl,⟨rfl,rfl⟩,hext,hsim.h,.tup rfl (by simp),.none rfl⟩
theorem qs6 {h:List AObj} {id:Nat} {x:AV} (hid:h[id]?=some (.cells 172 [.loc id 0,x])):ww9 Tryz.prog 149 [.loc id 0] h fun r h'=>r=.tup []∧h'=h:=by
 refine ⟨⟨_,Tryz.func149,by decide +kernel,by kernel_rfl⟩,fun F n c w vals hF hro hb hdf hh ra=>?_⟩
 cases ra with
 | cons hr ho hl =>
 cases hl
 cases hr with
 | loc hno =>
 obtain ⟨hbase,hpm,how,cur,hcur,hlen,hcc⟩:=hh.obj id _ hid
 have hsz:cur.size=2:=by rw [← hlen];rfl
 have hc0:cur.getD 0 undef=.pointer (some ⟨c.ob id,0,none⟩):=by
  have:=(hcc 0 _ rfl).1
  generalize cur.getD 0 undef=u0 at this
  cases this
  rfl
 have hcell:w.cell? ⟨c.ob id,0,none⟩=some (.pointer (some ⟨c.ob id,0,none⟩)):=by
  rw [Array.getD_eq_getD_getElem?,Array.getElem?_eq_getElem (by omega)] at hc0
  simp only [World.cell?,hcur,Option.isSome_none,Bool.false_eq_true,if_false]
  rw [Array.getElem?_eq_getElem (by omega)]
  exact congrArg some hc0
 refine (wg9 hF (cc_used (c.ob id) w hcell)).mono ?_
 rintro e w' ⟨rfl,rfl⟩
 exact ⟨_,c,.tup [],_,rfl,⟨rfl,rfl⟩,Ext.refl c _,hh,.tup rfl (by simp),.none rfl⟩
set_option maxRecDepth 20000
def bldX (x:AV) (l:List UInt8):Prop:=(l=[]∧x=.lst .nil 1 [])∨(l≠[]∧x=.lst (.tip 5 29) 1 (byL l))
theorem wb_callW (p x : AV) (l : List UInt8) (c : UInt8) (hp : p = .v (.pointer none) ∨ p = .loc 0 0) (hx : bldX x l) (hl : l.length ≤ 1000000) :
  ww9 Tryz.prog 141 [.loc 0 0,.v (.int .u8 c.toNat)] [.cells 172 [p,x]] fun r h'=>r=.v .nilIface∧∃ x',bldX x' (l++[c])∧h'=[.cells 172 [.loc 0 0,x']]:=by
 refine zd9 Tryz.func141 rfl (by decide +kernel) (by simp [Tryz.f141]) (rs:=[.tmp 4]) rfl ?_
 rw [show Tryz.f141.ntmps=17 from rfl]
 have hcc:ww9 Tryz.prog 149 [.loc 0 0] [.cells 172 [p,x]] fun r h'=>r=.tup []∧h'=[.cells 172 [.loc 0 0,x]]:=by
  rcases hp with rfl | rfl
  ·exact yj6 (id:=0) (x:=x) rfl
  ·exact qs6 (id:=0) (x:=x) rfl
 refine yr9 [0,1] (by simp;rfl) ?_
 refine W_rK [0,1] ?_
 refine yq9 1 (by simp;rfl) rfl ?_
 refine xs9 (f:=149) (args:=[.loc 0 0]) (by simp) (by simp) (hcc.mono ?_)
 rintro r h' ⟨rfl,rfl⟩
 refine ⟨_,by simp;rfl,?_⟩
 refine yw9 (by simp;rfl) ?_
 have fin:∀ x',bldX x' (l++[c])→retW Tryz.prog [.tmp 4] 1 (fun r h'=>r=.v .nilIface∧∃ x',bldX x' (l++[c])∧h'=[.cells 172 [.loc 0 0,x']]) .ret ⟨17,[(4,.v .nilIface)],[.cells 172 [.loc 0 0,x']]⟩:=by
  intro x' h1
  refine ⟨.inr rfl,.v .nilIface,.v .nilIface,_,1,rfl,.inl ⟨rfl,rfl⟩,by simp,by simp,rfl,?_,rfl,x',h1,rfl⟩
  rcases h1 with ⟨h2,rfl⟩ | ⟨h2,rfl⟩ <;> simp [yn9,AObj.under,AV.underL,AV.under]
 rcases hx with ⟨rfl,rfl⟩ | ⟨hne,rfl⟩
 ·refine yr9 [] (by simp [yk9,catK,AV.cellsK,AV.kone,AV.koneL];rfl) ?_
  refine yr9 [4] (by simp;rfl) ?_
  refine yj9 ?_
  repeat (first | refine yp9 ?_ | refine ys9 ?_)
  have:=fin (.lst (.tip 5 29) 1 (byL ([]++[c]))) (.inr ⟨by simp,rfl⟩)
  simpa [byL] using this
 ·refine yr9 [] (by simp [yk9,catK,AV.cellsK,AV.kone,AV.koneL,show l.length+1≤140737488355328 by omega];rfl) ?_
  refine yr9 [4] (by simp;rfl) ?_
  refine yj9 ?_
  repeat (first | refine yp9 ?_ | refine ys9 ?_)
  have:=fin (.lst (.tip 5 29) 1 (byL (l++[c]))) (.inr ⟨by simp,rfl⟩)
  simpa [byL] using this
theorem u177:Tryz.prog.underlying 184=some (.pointer 5):=by kernel_rfl
set_option maxRecDepth 100000 in
theorem str_ne (b g cap : Nat) (p : Value) (cur : Array Value) (l : List UInt8) (w : World) (h0 : l ≠ []) (hbk : w.heap[b]? = some (.cells #[p, .slice (some ⟨g, 0, none⟩) l.length cap] 172 (0, 0))) (hg : w.heap[g]? = some (.cells cur 5 (0, 0)))
  (hc:l.length≤cap) (hcm:cap≤maxLen) (hcs:cur.size=cap) (hcell:∀ (j:Nat) (x:UInt8),l[j]?=some x→w.cell? ⟨g,j,none⟩=some (.int .u8 x.toNat)) :
  Calls Tryz.prog 142 #[.pointer (some ⟨b,0,none⟩)] w fun e w'=>e=.returned (.string ⟨l.toArray⟩)∧w'=w.drew.freeze ⟨g,0,none⟩ l.length:=by
 have hl0:l.length≠0:=by simpa using h0
 have c1:w.drew.cell? ⟨b,1,none⟩=some (.slice (some ⟨g,0,none⟩) l.length cap):=by
  have:w.drew.heap[b]?=some (.cells #[p,.slice (some ⟨g,0,none⟩) l.length cap] 172 (0,0)):=hbk
  rw [Lib.cell_of_heap this];rfl
 have hSD:(Builtin.unsafeSliceData_ #[90] 184 #[.slice (some ⟨g,0,none⟩) l.length cap]).run Tryz.prog w.drew=.ok (.pointer (some ⟨g,0,none⟩)) w.drew :=
  Lib.run_unsafeSliceData_row _ _ _ _ _ _ (by omega)
 have hUS:(Builtin.unsafeString_ #[184,3] 9 #[.pointer (some ⟨g,0,none⟩),.int .i64 l.length]).run Tryz.prog w.drew=.ok (.string ⟨l.toArray⟩) (w.drew.freeze ⟨g,0,none⟩ l.length):=by
  refine Lib.run_unsafeString_row w.drew 184 3 9 5 u177 (by kernel_rfl) g cur.size (by have hg':w.drew.heap[g]?=some (.cells cur 5 (0,0)):=hg;simp [World.shape?,hg']) l h0 (by omega) (by unfold maxLen at hcm;omega) ?_
  intro j x hx
  have hz:(⟨g,0,none⟩:Addr).add j=⟨g,j,none⟩:=by
   simp only [Addr.add,Nat.zero_add]
   split
   ·rename_i h;rw [h]
   ·rfl
  rw [hz]
  exact hcell j x hx
 have mixed:=mx
 go_enter Tryz.func142,Tryz.ntmps142
 go_wp2
 go_region_o
 all_goals (go_wp2;go_ret;exact ⟨rfl,rfl⟩)
set_option maxRecDepth 100000 in
theorem str_nil (b : Nat) (p : Value) (w : World) (hbk : w.heap[b]? = some (.cells #[p, .slice none 0 0] 172 (0, 0))) :
  Calls Tryz.prog 142 #[.pointer (some ⟨b,0,none⟩)] w fun e w'=>e=.returned (.string ⟨#[]⟩)∧w'=w.drew:=by
 have hUS:=Lib.run_unsafeString_none (P:=Tryz.prog) w.drew 184 3 9 none
 have c1:w.drew.cell? ⟨b,1,none⟩=some (.slice none 0 0):=by
  have:w.drew.heap[b]?=some (.cells #[p,.slice none 0 0] 172 (0,0)):=hbk
  rw [Lib.cell_of_heap this];rfl
 have hSD:(Builtin.unsafeSliceData_ #[90] 184 #[.slice none 0 0]).run Tryz.prog w.drew=.ok (.pointer none) w.drew:=rfl
 have mixed:=mx
 go_enter Tryz.func142,Tryz.ntmps142
 go_wp2
 go_region_o
 all_goals (go_wp2;go_ret;exact ⟨rfl,rfl⟩)
theorem str_callW (p x:AV) (l:List UInt8) (hx:bldX x l):ww9 Tryz.prog 142 [.loc 0 0] [.cells 172 [p,x]] fun r h'=>r=.v (.string ⟨l.toArray⟩)∧h'=[.dead]:=by
 refine ⟨⟨_,Tryz.func142,by decide +kernel,by kernel_rfl⟩,fun F n c w vals hF hro hb hdf hh ra=>?_⟩
 cases ra with
 | cons hr ho hl =>
 cases hl
 cases hr with
 | loc hno =>
 obtain ⟨hbase,hpm,how,cur,hcur,hlen,hcc⟩:=hh.obj 0 _ rfl
 have hsz:cur.size=2:=by rw [← hlen];rfl
 obtain ⟨hrv,hov,_⟩:=hcc 1 x rfl
 obtain ⟨v,hv⟩:∃ v,cur.getD 1 undef=v:=⟨_,rfl⟩
 obtain ⟨p0,hp0⟩:∃ v,cur.getD 0 undef=v:=⟨_,rfl⟩
 rw [hv] at hrv hov
 have hcur2:cur=#[p0,v]:=by
  apply Array.ext
  ·simp [hsz]
  ·intro i h1 h2
   have hi:i=0∨i=1:=by omega
   rcases hi with rfl | rfl
   ·simp [Array.getD,hsz] at hp0;simpa using hp0
   ·simp [Array.getD,hsz] at hv;simpa using hv
 rw [hcur2] at hcur
 have hdead:∀ w':World,w.heap.size≤w'.heap.size→HSim Tryz.prog c w' [.dead]:=fun w' hs'=>⟨by rw [hh.no];rfl,fun i hi=>Nat.lt_of_lt_of_le (hh.lt i hi) hs',hh.inj,fun i o hi=>by
  cases i with
  | zero=>simp at hi;subst hi;trivial
  | succ i=>simp at hi⟩
 rcases hx with ⟨rfl,rfl⟩ | ⟨hne,rfl⟩
 ·obtain ⟨a, m, cap, u, rfl, hn, hcap, hmax, _, _, _, hz, hfit, _, _⟩ := xv9 hrv
  have ha:a=none:=by
   simp [Fl.fits] at hfit
   first | exact hfit | exact hfit.1
  obtain ⟨rfl,rfl⟩:=hz ha
  subst ha
  refine (wg9 hF (str_nil (c.ob 0) p0 w hcur)).mono ?_
  rintro e w' ⟨rfl,rfl⟩
  exact ⟨_,c,.v (.string ⟨#[]⟩),_,rfl,⟨rfl,rfl⟩,xl9 c w,hdead _ (Nat.le_refl _),.v _,.none rfl⟩
 ·obtain ⟨a, m, cap, u, rfl, hn, hcap, hmax, _, _, _, hz, hfit, hcell, hrep⟩ := xv9 hrv
  have hm:m=l.length:=by rw [← hn];simp
  have hl0:l.length≠0:=by simpa using hne
  have hca:Tryz.prog.cellsOf 5=1:=by kernel_rfl
  have htip:TipAt Tryz.prog c w 5 29 a m cap:=by
   cases hov with
   | none h=>simp [AV.tl] at h
   | tip hT hs h=>exact h
  rcases htip with ⟨_,h0,_⟩ | ⟨g,cur2,rfl,hgb,hg,hgs,hgpm,_,_⟩
  ·omega
  rw [hca] at hgs hgpm
  subst hm
  have hce:∀ (j:Nat) (x:UInt8),l[j]?=some x→w.cell? ⟨g,j,none⟩=some (.int .u8 x.toNat):=by
   intro j x hj
   have hjl:j < l.length:=(List.getElem?_eq_some_iff.1 hj).1
   have h1:=(hcell _ j rfl (by omega)).1
   have hz:(⟨g,0,none⟩:Addr).add j=⟨g,j,none⟩:=by
    simp only [Addr.add,Nat.zero_add]
    split
    ·rename_i h;rw [h]
    ·rfl
   rw [hz] at h1
   have h2:=hrep j 0 (.v (.int .u8 x.toNat)) (.v (.int .u8 x.toNat)) (by simp [byL,hj]) rfl
   rw [h1]
   have:=h2.v_inv
   rw [Nat.mul_one,Nat.add_zero] at this
   rw [this]
  refine (wg9 hF (str_ne (c.ob 0) g cap p0 cur2 l w hne hcur hg hcap hmax (by omega) hce)).mono ?_
  rintro e w' ⟨rfl,rfl⟩
  have hext:Ext c w.drew c (w.drew.freeze ⟨g,0,none⟩ l.length):=by
   have hgl:g < w.drew.heap.size:=by
    have h3:w.drew.heap[g]?=some (.cells cur2 5 (0,0)):=hg
    exact (Array.getElem?_eq_some_iff.1 h3).1
   unfold World.freeze
   rw [if_neg hl0]
   refine { base:=rfl,os:=rfl,tape:=rfl,output:=rfl,size:=by simp,below:=fun b hb2=>?_,cell:=fun ad v hp hv=>?_,pm:=fun _ _=>Nat.le_refl _,pmb:=fun _ _=>rfl,owb:=fun _ _=>rfl,no:=Nat.le_refl _,ob:=fun _ _=>rfl,dfr:=fun b hb2=>?_ }
   ·have hne2:g≠b:=fun h=>hb2 (h ▸ hgb)
    simp [Array.getElem?_modify,hne2]
   ·by_cases hgb2 : g = ad.block
    ·have h3:w.drew.heap[ad.block]?=some (.cells cur2 5 (0,0)):=hgb2 ▸ hg
     simp only [World.cell?,Array.getElem?_modify,hgb2,if_true,h3] at hv ⊢
     exact hv
    ·simp only [World.cell?,Array.getElem?_modify,hgb2,if_false] at hv ⊢
     exact hv
   ·by_cases hgb2 : g = b
    ·have h3:w.drew.heap[b]?=some (.cells cur2 5 (0,0)):=hgb2 ▸ hg
     rw [h3] at hb2
     cases hb2
    ·simp [Array.getElem?_modify,hgb2,hb2]
  exact ⟨_,c,.v (.string ⟨l.toArray⟩),_,rfl,⟨rfl,rfl⟩,(xl9 c w).trans hext,hdead _ hext.size,.v _,.none rfl⟩
set_option maxRecDepth 20000
def dec1 (b:UInt8):UInt8:=if (chM b).2 then (chM b).1 else 46
def decM (l:List UInt8):List UInt8:=l.map dec1
def strB (l:List UInt8):AV:=.v (.string ⟨l.toArray⟩)
theorem xb7 (l:List UInt8) (hl:l.length≤100000):Sound Tryz.prog 123 [.lst .any 1 (byL l)] (strB (decM l)):=by
 refine yc9 Tryz.func123 rfl (by decide +kernel) (by simp [Tryz.f123]) rfl rfl (rs:=[.tmp 2]) rfl ?_
 rw [show Tryz.f123.ntmps=25 from rfl]
 refine yr9 [0] (by simp;rfl) ?_
 refine yr9 [0,3] (by simp;rfl) ?_
 refine yh9 ?_
 refine yr9 [3,8,9,10] (by simp;rfl) ?_
 refine yl9 ?_
 refine zj9 (fun k s => ∃ (i : Nat) (p x : AV), k = l.length - i ∧ i ≤ l.length ∧ (p = .v (.pointer none) ∨ p = .loc 0 0) ∧ bldX x (decM (l.take i)) ∧
  s=⟨25,[(3,.loc 0 0),(8,.lst .any 1 (byL l)),(9,.v (.int .i64 (l.length:Nat))),(10,.v (.int .i64 (i:Nat)))],[.cells 172 [p,x]]⟩) (k:=l.length) ⟨0,_,_,rfl,by omega,.inl rfl,.inl ⟨rfl,rfl⟩,by simp⟩ ?_
 rintro k s ⟨i,p,x,rfl,hi,hp,hx,rfl⟩
 by_cases c:i < l.length
 ·have ci : (i : Int) < l.length := by omega
  obtain ⟨b,hb⟩:∃ b,l[i]?=some b:=⟨_,List.getElem?_eq_getElem c⟩
  have hb2:l[i]'c=b:=by rw [List.getElem?_eq_getElem c] at hb;exact Option.some.inj hb
  have wi:=w64 (n:=(i:Int)+1) (by omega) (by omega)
  have htk:decM (l.take (i+1))=decM (l.take i)++[dec1 b]:=by
   rw [List.take_add_one,hb];simp [decM]
  have hlen:(decM (l.take i)).length≤1000000:=by simp [decM];omega
  refine yr9 [3,8,9,10,11] (by simp [c];rfl) ?_
  refine yh9 ?_
  refine yt9 rfl (fun h=>?_) (fun h=>by simp at h)
  refine yg9 ?_
  refine yh9 ?_
  refine yl9 ?_
  refine yr9 [3,8,9,10,5] (by simp [c,ci,hb2];rfl) ?_
  refine W_rK [3,8,9,10,6,7] ?_
  refine yq9 1 (by simp;rfl) rfl ?_
  refine yf9 (by simp) (by first | (simp;done) | (simp;rfl)) (char_sound b) (by simp;rfl) ?_
  refine yw9 (by simp;rfl) ?_
  refine yh9 ?_
  have fin : ∀ (h' : List AObj), (∃ x', bldX x' (decM (l.take i) ++ [dec1 b]) ∧ h' = [.cells 172 [.loc 0 0, x']]) →
    ∃ k', k' < l.length - i ∧ ∃ (i' : Nat) (p x : AV), k' = l.length - i' ∧ i' ≤ l.length ∧ (p = .v (.pointer none) ∨ p = .loc 0 0) ∧ bldX x (decM (l.take i')) ∧
     (⟨25,[(3,.loc 0 0),(8,.lst .any 1 (byL l)),(9,.v (.int .i64 (l.length:Nat))),(10,.v (.int .i64 ((i:Int)+1)))],h'⟩:St)=⟨25,[(3,.loc 0 0),(8,.lst .any 1 (byL l)),(9,.v (.int .i64 (l.length:Nat))),(10,.v (.int .i64 (i':Nat)))],[.cells 172 [p,x]]⟩:=by
   rintro h' ⟨x',hx',rfl⟩
   exact ⟨_,by omega,i+1,_,x',rfl,by omega,.inr rfl,by rw [htk];exact hx',by simp⟩
  cases hok:(chM b).2 with
  | false =>
   have hd:dec1 b=46:=by simp [dec1,hok]
   rw [hd] at fin
   refine W_cT [3,8,9,10,6,20] (by simp [hok];rfl) rfl ?_
   refine zr9 [3,8,9,10,6] (by simp;rfl) ?_
   refine W_rE [3,8,9,10] ?_
   refine yq9 1 (by simp;rfl) rfl ?_
   refine xs9 (f:=141) (args:=[.loc 0 0,.v (.int .u8 (46:UInt8).toNat)]) (by simp) (by first | (simp;done) | (simp;rfl)) ((wb_callW p x _ 46 hp hx hlen).mono ?_)
   rintro r h' ⟨rfl,hx'⟩
   refine ⟨_,by simp;rfl,?_⟩
   refine yw9 (by simp;rfl) ?_
   refine zr9 [3,8,9,10] (by simp [wi];rfl) ?_
   exact fin _ hx'
  | true =>
   have hd:dec1 b=(chM b).1:=by simp [dec1,hok]
   rw [hd] at fin
   refine W_cF [3,8,9,10,6,20] (by simp [hok];rfl) rfl ?_
   refine yg9 ?_
   refine W_rE [3,8,9,10] ?_
   refine yq9 1 (by simp;rfl) rfl ?_
   refine xs9 (f:=141) (args:=[.loc 0 0,.v (.int .u8 (chM b).1.toNat)]) (by simp) (by first | (simp;done) | (simp;rfl)) ((wb_callW p x _ (chM b).1 hp hx hlen).mono ?_)
   rintro r h' ⟨rfl,hx'⟩
   refine ⟨_,by simp;rfl,?_⟩
   refine yw9 (by simp;rfl) ?_
   refine zr9 [3,8,9,10] (by simp [wi];rfl) ?_
   exact fin _ hx'
 have hie:i=l.length:=by omega
 subst hie
 rw [List.take_length] at hx
 refine yr9 [3,8,9,10,11] (by simp;rfl) ?_
 refine yh9 ?_
 refine yt9 rfl (fun h=>by simp at h) (fun h=>?_)
 refine zs9 ?_
 refine W_rK [2] ?_
 refine xs9 (f:=142) (args:=[.loc 0 0]) (by simp) (by first | (simp;done) | (simp;rfl)) ((str_callW p x _ hx).mono ?_)
 rintro r h' ⟨rfl,rfl⟩
 refine ⟨_,by simp;rfl,?_⟩
 refine yw9 (by simp;rfl) ?_
 refine yj9 ?_
 repeat (first | refine yp9 ?_ | refine ys9 ?_)
 simp [retQ,strB]
def wh8 (l:List UInt8):List UInt8:=(l.reverse.dropWhile (· == 64)).reverse
theorem trim_drop (l:List UInt8) (n:Nat) (hn:n≤l.length) (h:∀ (j:Nat) (b:UInt8),n≤j→l[j]?=some b→b=64) (hs:n=0∨∃ b,l[n - 1]?=some b∧b≠64):wh8 l=l.take n:=by
 have hsp:l=l.take n++List.replicate (l.length - n) 64:=by
  apply List.ext_getElem?
  intro j
  by_cases hj:j < n
  ·rw [List.getElem?_append_left (by simp;omega),List.getElem?_take,if_pos hj]
  ·rw [List.getElem?_append_right (by simp; omega), List.getElem?_replicate]
   have hlt:(l.take n).length=n:=by simp;omega
   rw [hlt]
   by_cases hj2:j < l.length
   ·rw [if_pos (by omega),List.getElem?_eq_getElem hj2]
    exact congrArg some (h j _ (by omega) (List.getElem?_eq_getElem hj2))
   ·rw [if_neg (by omega),List.getElem?_eq_none (by omega)]
 have hrev:l.reverse=List.replicate (l.length - n) 64++(l.take n).reverse:=by
  conv=>lhs;rw [hsp]
  rw [List.reverse_append,List.reverse_replicate]
 have hdw:∀ (k:Nat) (r:List UInt8),(List.replicate k (64:UInt8)++r).dropWhile (· == 64)=r.dropWhile (· == 64):=by
  intro k r
  induction k with
  | zero=>simp
  | succ k ih=>rw [List.replicate_succ,List.cons_append,List.dropWhile_cons];simp
 unfold wh8
 rw [hrev,hdw]
 rcases hs with rfl | ⟨b,hb,hne⟩
 ·simp
 ·have hn0:0 < n:=by
   rcases Nat.eq_zero_or_pos n with h0 | h0
   ·subst h0
    simp at hb
    have:=h 0 b (Nat.le_refl _) (by simpa using hb)
    exact absurd this hne
   ·exact h0
  have hbl:l[n - 1]'(by omega)=b:=by
   have:=List.getElem?_eq_getElem (l:=l) (i:=n - 1) (by omega)
   rw [this] at hb
   exact Option.some.inj hb
  have:(l.take n).reverse=b :: (l.take (n - 1)).reverse:=by
   have h2:l.take n=l.take (n - 1)++[b]:=by
    have h3:n - 1+1=n:=by omega
    rw [← h3,List.take_add_one]
    rw [Nat.add_sub_cancel,hb]
    rfl
   rw [h2,List.reverse_append]
   rfl
  rw [this,List.dropWhile_cons]
  simp only [beq_iff_eq,hne,if_false]
  rw [← this,List.reverse_reverse]
theorem trim_sound (l:List UInt8) (hl:l.length≤100000):Sound Tryz.prog 92 [.lst .any 1 (byL l)] (strB (decM (wh8 l))):=by
 refine yc9 Tryz.func92 rfl (by decide +kernel) (by simp [Tryz.f92]) rfl rfl (rs:=[.tmp 2]) rfl ?_
 rw [show Tryz.f92.ntmps=22 from rfl]
 refine yr9 [0] (by simp;rfl) ?_
 refine yr9 [0,3] (by simp;rfl) ?_
 refine yh9 ?_
 refine yl9 ?_
 refine zj9 (fun k s=>k≤l.length∧(∀ (j:Nat) (b:UInt8),k≤j→l[j]?=some b→b=64)∧s=⟨22,[(0,.lst .any 1 (byL l)),(3,.v (.int .i64 (k:Nat)))],[]⟩) (k:=l.length) ⟨Nat.le_refl _,fun j b hj hb=>by have:=(List.getElem?_eq_some_iff.1 hb).1;omega,by simp⟩ ?_
 rintro k s ⟨hk,hall,rfl⟩
 refine yh9 ?_
 have done:wh8 l=l.take k→∀ σ,σ=(⟨22,[(0,.lst .any 1 (byL l)),(3,.v (.int .i64 (k:Nat)))],[]⟩:St)→True:=fun _ _ _=>trivial
 by_cases k0:k=0
 ·subst k0
  have hT:wh8 l=[]:=by rw [trim_drop l 0 (by omega) hall (.inl rfl)];rfl
  refine W_cF [0,3,15] (by simp;rfl) rfl ?_
  refine zs9 ?_
  refine W_rK [2] ?_
  refine yq9 3 (by simp [← qs9];rfl) rfl ?_
  refine yf9 (by simp) (by first | (simp;done) | (simp;rfl)) (show Sound Tryz.prog 123 [.lst .any 1 []] (strB (decM [])) from xb7 [] (by simp)) (by simp [strB];rfl) ?_
  refine yw9 (by simp;rfl) ?_
  refine yj9 ?_
  repeat (first | refine yp9 ?_ | refine ys9 ?_)
  simp [retQ,strB,hT]
 have kp:0 < k:=by omega
 have kp':(0:Int) < k:=by omega
 have wk:IntKind.i64.wrap ((k:Int) - 1)=((k - 1:Nat):Int):=by rw [w64 (by omega) (by omega)];omega
 obtain ⟨b,hb⟩:∃ b,l[k - 1]?=some b:=⟨_,List.getElem?_eq_getElem (by omega)⟩
 have hbb:(byL l)[k - 1]?=some (.v (.int .u8 b.toNat)):=by simp [byL,hb]
 have hb2:l[k - 1]'(by omega)=b:=by rw [List.getElem?_eq_getElem (by omega)] at hb;exact Option.some.inj hb
 have hkl:k - 1 < l.length:=by omega
 by_cases h64:b=64
 ·subst h64
  refine W_cT [0,3,15] (by simp [kp,kp',wk,hb2,hkl];rfl) rfl ?_
  refine yg9 ?_
  refine yl9 ?_
  refine zr9 [0,3] (by simp [wk];rfl) ?_
  refine ⟨k - 1,by omega,by omega,fun j b2 hj hb3=>?_,rfl⟩
  by_cases hjk:j=k - 1
  ·subst hjk
   rw [hb] at hb3
   exact (Option.some.inj hb3).symm
  ·exact hall j b2 (by omega) hb3
 ·have hT : wh8 l = l.take k := trim_drop l k hk hall (.inr ⟨b, hb, h64⟩)
  have h64':((b.toNat:Int) == 64)=false:=by
   rw [beq_eq_false_iff_ne]
   intro h
   apply h64
   apply UInt8.toNat_inj.1
   show b.toNat=64
   omega
  refine W_cF [0,3,15] (by simp [kp,kp',wk,hb2,hkl,h64'];rfl) rfl ?_
  refine zs9 ?_
  refine W_rK [2] ?_
  refine yq9 3 (by simp [← qs9,hk];rfl) rfl ?_
  refine yf9 (by simp) (by first | (simp;done) | (simp;rfl)) (xb7 (l.take k) (by simp;omega)) (by simp [strB];rfl) ?_
  refine yw9 (by simp;rfl) ?_
  refine yj9 ?_
  repeat (first | refine yp9 ?_ | refine ys9 ?_)
  simp [retQ,strB,hT]
set_option maxRecDepth 20000
def okC (r:Int):Bool:=decide (65≤r∧r≤90) || decide (48≤r∧r≤57) || decide (r=64) || decide (r=35) || decide (r=36)
@[simp] theorem sz_mk (l:List UInt8):(ByteArray.mk l.toArray).size=l.length:=by simp [ByteArray.size]
@[simp] theorem strA_eqlB (a b:List UInt8):strA .eql ⟨a.toArray⟩ ⟨b.toArray⟩=some (.v (.bool (a == b))):=by simp [strA,Lib.toList_data]
@[simp] theorem strA_neqB (a b:List UInt8):strA .neq ⟨a.toArray⟩ ⟨b.toArray⟩=some (.v (.bool (!(a == b)))):=by simp [strA,Lib.toList_data]
def okB (b:UInt8):Bool:=okC (b.toNat:Nat)
def digB (b:UInt8):Bool:=decide (48≤b.toNat)&&decide (b.toNat≤57)
def symM (l:List UInt8):Bool:=decide (1≤l.length)&&(decide (l.length≤8)&&(!(digB (l.headD 0))&&l.all okB))
set_option maxRecDepth 20000
def cdM (b:UInt8):UInt8 × Bool:=if b.toNat < 32∨126 < b.toNat then (0,false) else (ql9.getD (b.toNat - 32) 0,true)
theorem qt6 (b:UInt8):Sound Tryz.prog 143 [.v (.int .u8 b.toNat)] (.tup [.v (.int .u8 (cdM b).1.toNat),.v (.bool (cdM b).2)]):=by
 refine yc9 Tryz.func143 rfl (by decide +kernel) (by simp [Tryz.f143]) rfl rfl (rs:=[.tmp 2,.tmp 3]) rfl ?_
 rw [show Tryz.f143.ntmps=13 from rfl]
 refine yr9 [0] (by simp;rfl) ?_
 refine yh9 ?_
 have hlt:=b.toNat_lt
 by_cases h1:b.toNat < 32
 ·have h1':(b.toNat:Int) < 32:=by omega
  refine W_cT [0,9] (by simp [h1,h1'];rfl) rfl ?_
  refine yr9 [2,3] (by simp;rfl) ?_
  refine yj9 ?_
  repeat (first | refine yp9 ?_ | refine ys9 ?_)
  simp [retQ,cdM,h1]
 have h1':¬ (b.toNat:Int) < 32:=by omega
 by_cases h2:126 < b.toNat
 ·have h2':(126:Int) < b.toNat:=by omega
  refine W_cT [0,9] (by simp [h1,h1',h2,h2'];rfl) rfl ?_
  refine yr9 [2,3] (by simp;rfl) ?_
  refine yj9 ?_
  repeat (first | refine yp9 ?_ | refine ys9 ?_)
  simp [retQ,cdM,h2]
 have h2':¬ (126:Int) < b.toNat:=by omega
 have w1:IntKind.u8.wrap ((b.toNat:Int) - 32)=((b.toNat - 32:Nat):Int):=by
  simp only [IntKind.wrap_u8]
  omega
 refine W_cF [0,9] (by simp [h1,h1',h2,h2'];rfl) rfl ?_
 refine yg9 ?_
 obtain ⟨k,hk⟩:∃ k,b.toNat - 32=k:=⟨_,rfl⟩
 have hk95:k < ql9.length:=by show k < 95;omega
 have hg:ql9[k]?=some (ql9.getD k 0):=by
  rw [List.getD_eq_getElem?_getD,List.getElem?_eq_getElem hk95];rfl
 have hM:cdM b=(ql9.getD k 0,true):=by rw [cdM,if_neg (by omega),hk]
 rw [hk] at w1
 rw [hM]
 obtain ⟨cd,hcd⟩:∃ cd,ql9.getD k 0=cd:=⟨_,rfl⟩
 rw [hcd] at hg ⊢
 have hg':=hg
 simp only [ql9] at hg'
 refine yr9 [2,3] (by simp [w1,-List.append_eq];rw [hg'];rfl) ?_
 refine yj9 ?_
 repeat (first | refine yp9 ?_ | refine ys9 ?_)
 simp [retQ]
def yg6 (l:List UInt8):Bool:=l.all fun b=>(cdM b).2
def enc1 (l:List UInt8):List UInt8:=l.map fun b=>(cdM b).1
theorem encOk_false {l:List UInt8} {i:Nat} {b:UInt8} (h:l[i]?=some b) (hb:(cdM b).2=false):yg6 l=false:=by
 rw [yg6,List.all_eq_false]
 exact ⟨b,List.mem_of_getElem? h,by simp [hb]⟩
theorem repC_byL31 (n:Nat):repC n [AV.v (.int .u8 0)]=byL (List.replicate n 0):=by
 induction n with
 | zero=>rfl
 | succ n ih=>simp only [repC,ih,List.replicate_succ,xd9];rfl
set_option maxRecDepth 20000
def nmM (l:List UInt8):List UInt8:=decM (wh8 l)
theorem wm7 (b:UInt8) (h:okB b=true):(cdM b).2=true∧(cdM b).1≠64∧dec1 (cdM b).1=b:=by
 have:∀ n:Nat,n < 256→okB (UInt8.ofNat n)=true→(cdM (UInt8.ofNat n)).2=true∧(cdM (UInt8.ofNat n)).1≠64∧dec1 (cdM (UInt8.ofNat n)).1=UInt8.ofNat n:=by decide +kernel
 have hh:=this b.toNat b.toNat_lt
 rw [UInt8.ofNat_toNat] at hh
 exact hh h
theorem trimM_pad (c:List UInt8) (k:Nat) (h:∀ b∈c,b≠64):wh8 (c++List.replicate k 64)=c:=by
 unfold wh8
 rw [List.reverse_append,List.reverse_replicate]
 have h1:∀ (k:Nat) (r:List UInt8),(List.replicate k (64:UInt8)++r).dropWhile (· == 64)=r.dropWhile (· == 64):=by
  intro k r
  induction k with
  | zero=>simp
  | succ k ih=>rw [List.replicate_succ,List.cons_append,List.dropWhile_cons];simp
 rw [h1]
 have h2:c.reverse.dropWhile (· == 64)=c.reverse:=by
  cases e:c.reverse with
  | nil=>rfl
  | cons x r =>
   have hx:x∈c:=by rw [← List.mem_reverse,e];simp
   rw [List.dropWhile_cons,if_neg (by simpa using h x hx)]
 rw [h2,List.reverse_reverse]
theorem yg7 (s:List UInt8):(enc1 s).length=s.length:=by simp [enc1]
theorem nmM_enc {s:List UInt8} (h:s.all okB=true) (k:Nat):nmM (enc1 s++List.replicate k 64)=s:=by
 have h0:=List.all_eq_true.1 h
 rw [nmM,trimM_pad]
 ·unfold decM enc1
  rw [List.map_map]
  conv=>rhs;rw [← List.map_id s]
  apply List.map_congr_left
  intro b hb
  exact (wm7 b (h0 b hb)).2.2
 ·intro b hb
  obtain ⟨a,ha,rfl⟩:=List.mem_map.1 hb
  exact (wm7 a (h0 a ha)).2.1
end Go.AM
