/- Parts of the walk: C24K C24WG C24A C24D. -/
import Derived.Test.YthjcnajpcphcpaaGreatG5
namespace Go.AM
open Go.RowKit Go.Proofs
set_option linter.unusedSimpArgs false
set_option linter.unusedVariables false
set_option maxHeartbeats 8000000
set_option maxRecDepth 20000
theorem dec_and4 {a b:Rec}:decide (a=b)=(decide (a.R=b.R)&&(decide (a.bad=b.bad)&&(decide (a.key=b.key)&&decide (a.data=b.data)))):=by
 obtain ⟨r,k,d,x⟩:=a
 obtain ⟨r',k',d',x'⟩:=b
 rw [Bool.eq_iff_iff]
 simp only [Rec.mk.injEq,decide_eq_true_eq,Bool.and_eq_true]
 constructor
 ·rintro ⟨h1,h2,h3,h4⟩;exact ⟨h1,h4,h2,h3⟩
 ·rintro ⟨h1,h4,h2,h3⟩;exact ⟨h1,h2,h3,h4⟩
theorem sr_sound (a b:Rec):Sound Tryz.prog 101 [recA a,recA b] (.v (.bool (decide (a=b)))):=by
 refine yc9 Tryz.func101 rfl (by decide +kernel) (by simp [Tryz.f101]) rfl rfl (rs:=[.tmp 4]) rfl ?_
 rw [show Tryz.f101.ntmps=31 from rfl]
 rw [dec_and4]
 obtain ⟨aR,ak,ad,ax⟩:=a
 obtain ⟨bR,bk,bd,bx⟩:=b
 simp only
 refine yr9 [2,3] (by simp;rfl) ?_
 cases h1:(aR == bR) with
 | false =>
  have h1':¬ aR=bR:=by simpa using h1
  refine W_rK [4] ?_
  refine yq9 6 (by simp [h1,h1'];rfl) rfl ?_
  iterate 2 refine yq9 7 (by simp;rfl) rfl ?_
  refine yw9 (by simp;rfl) ?_
  refine yj9 ?_
  repeat (first | refine yp9 ?_ | refine ys9 ?_)
  simp [retQ,h1']
 | true =>
 have h1':aR=bR:=by simpa using h1
 subst h1'
 by_cases h2:ax=bx
 rotate_left
 ·cases ax <;> cases bx <;> simp at h2
  all_goals
   refine W_rK [4] ?_
   refine yq9 6 (by simp;rfl) rfl ?_
   iterate 2 refine yq9 7 (by simp;rfl) rfl ?_
   refine yw9 (by simp;rfl) ?_
   refine yj9 ?_
   repeat (first | refine yp9 ?_ | refine ys9 ?_)
   simp [retQ]
 subst h2
 have hk:=jf7 ak bk
 have hd:=jf7 ad bd
 cases h3:decide (ak=bk) with
 | false =>
  rw [h3] at hk
  refine W_rK [4] ?_
  iterate 2 refine yq9 6 (by simp;rfl) rfl ?_
  refine yq9 5 (by simp;rfl) rfl ?_
  refine yf9 (by simp) (by first | (simp;done) | (simp;rfl)) hk (by simp;rfl) ?_
  refine yq9 6 (by simp;rfl) rfl ?_
  refine yw9 (by simp;rfl) ?_
  refine yj9 ?_
  repeat (first | refine yp9 ?_ | refine ys9 ?_)
  simp [retQ]
 | true =>
  rw [h3] at hk
  refine W_rK [4] ?_
  iterate 2 refine yq9 6 (by simp;rfl) rfl ?_
  refine yq9 5 (by simp;rfl) rfl ?_
  refine yf9 (by simp) (by first | (simp;done) | (simp;rfl)) hk (by simp;rfl) ?_
  refine yq9 6 (by simp;rfl) rfl ?_
  refine yf9 (by simp) (by first | (simp;done) | (simp;rfl)) hd (by simp;rfl) ?_
  refine yw9 (by simp;rfl) ?_
  refine yj9 ?_
  repeat (first | refine yp9 ?_ | refine ys9 ?_)
  simp [retQ]
theorem eqT_sound (a b:List (Rec)) (hl:a.length≤100000000):Sound Tryz.prog 100 [.lst .any 4 (trL a),.lst .any 4 (trL b),.fn (.func 101) [] []] (.v (.bool (decide (a=b)))):=by
 refine yc9 Tryz.func100 rfl (by decide +kernel) (by simp [Tryz.f100]) (by simp [AV.rfL,AV.rf]) (by simp [AV.tlL,AV.tl]) (rs:=[.tmp 6]) rfl ?_
 rw [show Tryz.f100.ntmps=32 from rfl]
 refine yr9 [0,1,2] (by simp;rfl) ?_
 refine yh9 ?_
 by_cases c:a.length=b.length
 rotate_left
 ·have hne:¬ a=b:=fun e=>c (by rw [e])
  refine W_cT [0,1,2,14] (by simp [ne_nat,c];rfl) rfl ?_
  refine yr9 [6] (by simp;rfl) ?_
  refine yj9 ?_
  repeat (first | refine yp9 ?_ | refine ys9 ?_)
  simp [retQ,hne]
 refine W_cF [0,1,2,14] (by simp [c];rfl) rfl ?_
 refine yg9 ?_
 refine yh9 ?_
 refine yr9 [1,2,15,16,17] (by simp;rfl) ?_
 refine yl9 ?_
 refine zf9 (fun k s=>∃ i:Nat,k=a.length - i∧i≤a.length∧a.take i=b.take i∧s=⟨32,[(1,.lst .any 4 (trL b)),(2,.fn (.func 101) [] []),(15,.lst .any 4 (trL a)),(16,.v (.int .i64 (a.length:Nat))),(17,.v (.int .i64 (i:Nat)))],[]⟩) (k:=a.length) ⟨0,rfl,by omega,by simp,by simp⟩ ?_
 rintro k s ⟨i,rfl,hi,hab,rfl⟩
 by_cases hi2:i < a.length
 ·have hj2 : i < b.length := by omega
  have hi2':(i:Int) < a.length:=by omega
  have hj2':(i:Int) < b.length:=by omega
  obtain ⟨r,hr⟩:∃ r,a[i]?=some r:=⟨_,List.getElem?_eq_getElem hi2⟩
  obtain ⟨q,hq⟩:∃ q,b[i]?=some q:=⟨_,List.getElem?_eq_getElem hj2⟩
  have hr2:a[i]'hi2=r:=by rw [List.getElem?_eq_getElem hi2] at hr;exact Option.some.inj hr
  have hq2:b[i]'hj2=q:=by rw [List.getElem?_eq_getElem hj2] at hq;exact Option.some.inj hq
  have wi:=w64 (n:=(i:Int)+1) (by omega) (by omega)
  have hcl:=sr_sound r q
  refine yr9 [1,2,15,16,17,18] (by simp [hi2];rfl) ?_
  refine yh9 ?_
  refine yt9 rfl (fun h=>?_) (fun h=>by simp at h)
  refine yg9 ?_
  refine yh9 ?_
  refine yl9 ?_
  refine yr9 [1,2,15,16,17,7,8] (by simp [hi2,hi2',hr2,yk9];rfl) ?_
  refine yr9 [1,2,15,16,17,8,9] (by simp [hj2,hj2',hq2,yk9];rfl) ?_
  refine W_rK [1,2,15,16,17,30] ?_
  refine yq9 3 (by simp;rfl) rfl ?_
  refine yf9 (by simp) (by first | (simp;done) | (simp;rfl)) hcl (by simp;rfl) ?_
  by_cases e:r=q
  ·subst e
   refine yw9 (by simp;rfl) ?_
   refine yt9 (t:=false) (by simp) (fun h=>by simp at h) (fun h=>?_)
   refine yg9 ?_
   refine vp9 0 (by simp) (by simp) (by simp [zj9,AV.under,AV.underL]) (by simp [yn9]) ?_
   refine zr9 [1,2,15,16,17] (by simp [wi];rfl) ?_
   exact ⟨_,by omega,i+1,rfl,by omega,wb9 hr hq hab,by simp⟩
  ·have hne:¬ a=b:=fun he=>e (by rw [he,hq] at hr;exact (Option.some.inj hr).symm)
   refine yw9 (by simp [e];rfl) ?_
   refine yt9 (t:=true) (by simp [e]) (fun h=>?_) (fun h=>by simp at h)
   refine yr9 [6] (by simp;rfl) ?_
   refine yj9 ?_
   repeat (first | refine yp9 ?_ | refine ys9 ?_)
   simp [retQ,hne]
 have hie:i=a.length:=by omega
 have heq:a=b:=by
  have h1:=hab
  rw [hie,List.take_length,c,List.take_length] at h1
  exact h1
 refine yr9 [18] (by simp [hie];rfl) ?_
 refine yh9 ?_
 refine yt9 (t:=false) (by simp [hie]) (fun h=>by simp at h) (fun h=>?_)
 refine zs9 ?_
 refine yr9 [6] (by simp;rfl) ?_
 refine yj9 ?_
 repeat (first | refine yp9 ?_ | refine ys9 ?_)
 simp [retQ,heq]
theorem uv7 (a b:List Rec) (hl:a.length≤100000000):Sound Tryz.prog 65 [.lst .any 4 (trL a),.lst .any 4 (trL b)] (.v (.bool (decide (a=b)))):=by
 refine yc9 Tryz.func65 rfl (by decide +kernel) (by simp [Tryz.f65]) (by simp [AV.rfL,AV.rf]) (by simp [AV.tlL,AV.tl]) (rs:=[.tmp 4]) rfl ?_
 rw [show Tryz.f65.ntmps=8 from rfl]
 refine yr9 [0,1] (by simp;rfl) ?_
 refine W_rK [4] ?_
 refine yq9 2 (by simp;rfl) rfl ?_
 refine yf9 (by simp) (by first | (simp;done) | (simp;rfl)) (eqT_sound a b hl) (by simp;rfl) ?_
 refine yw9 (by simp;rfl) ?_
 refine yj9 ?_
 repeat (first | refine yp9 ?_ | refine ys9 ?_)
 simp [retQ]
theorem eqTs_sound (a b:List (List Rec)) (hl:a.length≤100000000) (ht:∀ t∈a,t.length≤100000000):Sound Tryz.prog 64 [.lst .any 1 (arL a),.lst .any 1 (arL b),.fn (.func 65) [] []] (.v (.bool (decide (a=b)))):=by
 refine yc9 Tryz.func64 rfl (by decide +kernel) (by simp [Tryz.f64]) (by simp [AV.rfL,AV.rf]) (by simp [AV.tlL,AV.tl]) (rs:=[.tmp 6]) rfl ?_
 rw [show Tryz.f64.ntmps=32 from rfl]
 refine yr9 [0,1,2] (by simp;rfl) ?_
 refine yh9 ?_
 by_cases c:a.length=b.length
 rotate_left
 ·have hne:¬ a=b:=fun e=>c (by rw [e])
  refine W_cT [0,1,2,14] (by simp [ne_nat,c];rfl) rfl ?_
  refine yr9 [6] (by simp;rfl) ?_
  refine yj9 ?_
  repeat (first | refine yp9 ?_ | refine ys9 ?_)
  simp [retQ,hne]
 refine W_cF [0,1,2,14] (by simp [c];rfl) rfl ?_
 refine yg9 ?_
 refine yh9 ?_
 refine yr9 [1,2,15,16,17] (by simp;rfl) ?_
 refine yl9 ?_
 refine zf9 (fun k s=>∃ i:Nat,k=a.length - i∧i≤a.length∧a.take i=b.take i∧s=⟨32,[(1,.lst .any 1 (arL b)),(2,.fn (.func 65) [] []),(15,.lst .any 1 (arL a)),(16,.v (.int .i64 (a.length:Nat))),(17,.v (.int .i64 (i:Nat)))],[]⟩) (k:=a.length) ⟨0,rfl,by omega,by simp,by simp⟩ ?_
 rintro k s ⟨i,rfl,hi,hab,rfl⟩
 by_cases hi2:i < a.length
 ·have hj2 : i < b.length := by omega
  have hi2':(i:Int) < a.length:=by omega
  have hj2':(i:Int) < b.length:=by omega
  obtain ⟨r,hr⟩:∃ r,a[i]?=some r:=⟨_,List.getElem?_eq_getElem hi2⟩
  obtain ⟨q,hq⟩:∃ q,b[i]?=some q:=⟨_,List.getElem?_eq_getElem hj2⟩
  have hr2:a[i]'hi2=r:=by rw [List.getElem?_eq_getElem hi2] at hr;exact Option.some.inj hr
  have hq2:b[i]'hj2=q:=by rw [List.getElem?_eq_getElem hj2] at hq;exact Option.some.inj hq
  have wi:=w64 (n:=(i:Int)+1) (by omega) (by omega)
  have hcl:=uv7 r q (ht r (List.mem_of_getElem? hr))
  refine yr9 [1,2,15,16,17,18] (by simp [hi2];rfl) ?_
  refine yh9 ?_
  refine yt9 rfl (fun h=>?_) (fun h=>by simp at h)
  refine yg9 ?_
  refine yh9 ?_
  refine yl9 ?_
  refine yr9 [1,2,15,16,17,7,8] (by simp [hi2,hi2',hr2];rfl) ?_
  refine yr9 [1,2,15,16,17,8,9] (by simp [hj2,hj2',hq2];rfl) ?_
  refine W_rK [1,2,15,16,17,30] ?_
  refine yq9 3 (by simp;rfl) rfl ?_
  refine yf9 (by simp) (by first | (simp;done) | (simp;rfl)) hcl (by simp;rfl) ?_
  by_cases e:r=q
  ·subst e
   refine yw9 (by simp;rfl) ?_
   refine yt9 (t:=false) (by simp) (fun h=>by simp at h) (fun h=>?_)
   refine yg9 ?_
   refine zr9 [1,2,15,16,17] (by simp [wi];rfl) ?_
   exact ⟨_,by omega,i+1,rfl,by omega,wb9 hr hq hab,by simp⟩
  ·have hne:¬ a=b:=fun he=>e (by rw [he,hq] at hr;exact (Option.some.inj hr).symm)
   refine yw9 (by simp [e];rfl) ?_
   refine yt9 (t:=true) (by simp [e]) (fun h=>?_) (fun h=>by simp at h)
   refine yr9 [6] (by simp;rfl) ?_
   refine yj9 ?_
   repeat (first | refine yp9 ?_ | refine ys9 ?_)
   simp [retQ,hne]
 have hie:i=a.length:=by omega
 have heq:a=b:=by
  have h1:=hab
  rw [hie,List.take_length,c,List.take_length] at h1
  exact h1
 refine yr9 [18] (by simp [hie];rfl) ?_
 refine yh9 ?_
 refine yt9 (t:=false) (by simp [hie]) (fun h=>by simp at h) (fun h=>?_)
 refine zs9 ?_
 refine yr9 [6] (by simp;rfl) ?_
 refine yj9 ?_
 repeat (first | refine yp9 ?_ | refine ys9 ?_)
 simp [retQ,heq]
theorem k8_sound (r:Rec):Sound Tryz.prog 61 [recA r] (.v (.bool (decide (r.key.length=8)))):=by
 refine yc9 Tryz.func61 rfl (by decide +kernel) (by simp [Tryz.f61]) rfl rfl (rs:=[.tmp 2]) rfl ?_
 rw [show Tryz.f61.ntmps=7 from rfl]
 refine yr9 [1] (by simp;rfl) ?_
 refine yr9 [2] (by simp;rfl) ?_
 refine yj9 ?_
 repeat (first | refine yp9 ?_ | refine ys9 ?_)
 simp [retQ]
 rw [Bool.eq_iff_iff]
 simp
 omega
theorem rn_sound (r:Rec) (n:Int):Sound Tryz.prog 130 [recA r,.ro (.v (.int .i64 n))] (.v (.bool (r.R == n))):=by
 refine yc9 Tryz.func130 rfl (by decide +kernel) (by simp [Tryz.f130]) rfl rfl (rs:=[.tmp 3]) rfl ?_
 rw [show Tryz.f130.ntmps=8 from rfl]
 refine yr9 [1,2] (by simp;rfl) ?_
 refine yr9 [3] (by simp;rfl) ?_
 refine yj9 ?_
 repeat (first | refine yp9 ?_ | refine ys9 ?_)
 simp [retQ]
theorem idxK_sound (t:List Rec) (hl:t.length≤100000000):Sound Tryz.prog 98 [.lst .any 4 (trL t),.fn (.func 61) [] []] (.v (.int .i64 (match t.findIdx? (fun r:Rec=>decide (r.key.length=8)) with | some i=>((i:Nat):Int) | none=>-1))):=by
 refine yc9 Tryz.func98 rfl (by decide +kernel) (by simp [Tryz.f98]) (by simp [AV.rfL,AV.rf]) (by simp [AV.tlL,AV.tl]) (rs:=[.tmp 4]) rfl ?_
 rw [show Tryz.f98.ntmps=19 from rfl]
 refine yr9 [0,1] (by simp;rfl) ?_
 refine yh9 ?_
 refine yr9 [0,1,7,8] (by simp;rfl) ?_
 refine yl9 ?_
 refine zf9 (fun k s=>∃ i:Nat,k=t.length - i∧i≤t.length∧(∀ r∈t.take i,(fun r:Rec=>decide (r.key.length=8)) r=false)∧s=⟨19,[(0,.lst .any 4 (trL t)),(1,.fn (.func 61) [] []),(7,.v (.int .i64 (t.length:Nat))),(8,.v (.int .i64 (i:Nat)))],[]⟩) (k:=t.length) ⟨0,rfl,by omega,by simp,by simp⟩ ?_
 rintro k s ⟨i,rfl,hi,hab,rfl⟩
 by_cases c:i < t.length
 ·have ci : (i : Int) < t.length := by omega
  obtain ⟨r,hr⟩:∃ r,t[i]?=some r:=⟨_,List.getElem?_eq_getElem c⟩
  have hr2:t[i]'c=r:=by rw [List.getElem?_eq_getElem c] at hr;exact Option.some.inj hr
  have wi:=w64 (n:=(i:Int)+1) (by omega) (by omega)
  have hcl:=k8_sound r
  refine yr9 [0,1,7,8,9] (by simp [c,ci];rfl) ?_
  refine yh9 ?_
  refine yt9 (t:=true) (by simp [c,ci]) (fun h=>?_) (fun h=>by simp at h)
  refine yg9 ?_
  refine yh9 ?_
  refine yl9 ?_
  refine yr9 [0,1,7,8,5] (by simp;rfl) ?_
  refine W_rK [0,1,7,8,5,16] ?_
  refine yq9 5 (by simp [c,ci,hr2];rfl) rfl ?_
  refine yf9 (by simp) (by first | (simp;done) | (simp;rfl)) hcl (by simp;rfl) ?_
  refine yw9 (by simp;rfl) ?_
  cases hb:(fun r:Rec=>decide (r.key.length=8)) r with
  | true =>
   refine yt9 (t:=true) (by simp [hb]) (fun h=>?_) (fun h=>by simp at h)
   refine yr9 [4] (by simp;rfl) ?_
   refine yj9 ?_
   repeat (first | refine yp9 ?_ | refine ys9 ?_)
   have hfi:t.findIdx? (fun r:Rec=>decide (r.key.length=8))=some i:=by
    rw [List.findIdx?_eq_some_iff_getElem]
    refine ⟨c,by rw [hr2];exact hb,fun j hj=>?_⟩
    have h9:=hab t[j] (List.mem_take_iff_getElem.2 ⟨j,by omega,rfl⟩)
    intro h10
    have h11:=h9.symm.trans h10
    cases h11
   rw [hfi]
   simp [retQ]
  | false =>
   refine yt9 (t:=false) (by simp [hb]) (fun h=>by simp at h) (fun h=>?_)
   refine yg9 ?_
   refine zr9 [0,1,7,8] (by simp [wi];rfl) ?_
   refine ⟨_,by omega,i+1,rfl,by omega,fun q hq=>?_,by simp⟩
   rw [List.take_add_one,hr] at hq
   rcases List.mem_append.1 hq with hq | hq
   ·exact hab q hq
   ·rw [List.mem_singleton.1 hq];exact hb
 have hie:i=t.length:=by omega
 refine yr9 [9] (by simp [hie];rfl) ?_
 refine yh9 ?_
 refine yt9 (t:=false) (by simp [hie]) (fun h=>by simp at h) (fun h=>?_)
 refine zs9 ?_
 refine yr9 [4] (by simp;rfl) ?_
 refine yj9 ?_
 repeat (first | refine yp9 ?_ | refine ys9 ?_)
 have hfi:t.findIdx? (fun r:Rec=>decide (r.key.length=8))=none:=by
  rw [List.findIdx?_eq_none_iff]
  intro x hx
  rw [hie,List.take_length] at hab
  exact hab x hx
 rw [hfi]
 simp [retQ]
theorem idxR_sound (t:List Rec) (n:Int) (hl:t.length≤100000000):Sound Tryz.prog 98 [.lst .any 4 (trL t),.fn (.func 130) [] [.ro (.v (.int .i64 n))]] (.v (.int .i64 (match t.findIdx? (fun r:Rec=>r.R == n) with | some i=>((i:Nat):Int) | none=>-1))):=by
 refine yc9 Tryz.func98 rfl (by decide +kernel) (by simp [Tryz.f98]) (by simp [AV.rfL,AV.rf]) (by simp [AV.tlL,AV.tl]) (rs:=[.tmp 4]) rfl ?_
 rw [show Tryz.f98.ntmps=19 from rfl]
 refine yr9 [0,1] (by simp;rfl) ?_
 refine yh9 ?_
 refine yr9 [0,1,7,8] (by simp;rfl) ?_
 refine yl9 ?_
 refine zf9 (fun k s=>∃ i:Nat,k=t.length - i∧i≤t.length∧(∀ r∈t.take i,(fun r:Rec=>r.R == n) r=false)∧s=⟨19,[(0,.lst .any 4 (trL t)),(1,.fn (.func 130) [] [.ro (.v (.int .i64 n))]),(7,.v (.int .i64 (t.length:Nat))),(8,.v (.int .i64 (i:Nat)))],[]⟩) (k:=t.length) ⟨0,rfl,by omega,by simp,by simp⟩ ?_
 rintro k s ⟨i,rfl,hi,hab,rfl⟩
 by_cases c:i < t.length
 ·have ci : (i : Int) < t.length := by omega
  obtain ⟨r,hr⟩:∃ r,t[i]?=some r:=⟨_,List.getElem?_eq_getElem c⟩
  have hr2:t[i]'c=r:=by rw [List.getElem?_eq_getElem c] at hr;exact Option.some.inj hr
  have wi:=w64 (n:=(i:Int)+1) (by omega) (by omega)
  have hcl:=rn_sound r n
  refine yr9 [0,1,7,8,9] (by simp [c,ci];rfl) ?_
  refine yh9 ?_
  refine yt9 (t:=true) (by simp [c,ci]) (fun h=>?_) (fun h=>by simp at h)
  refine yg9 ?_
  refine yh9 ?_
  refine yl9 ?_
  refine yr9 [0,1,7,8,5] (by simp;rfl) ?_
  refine W_rK [0,1,7,8,5,16] ?_
  refine yq9 5 (by simp [c,ci,hr2];rfl) rfl ?_
  refine yf9 (by simp) (by first | (simp;done) | (simp;rfl)) hcl (by simp;rfl) ?_
  refine yw9 (by simp;rfl) ?_
  cases hb:(fun r:Rec=>r.R == n) r with
  | true =>
   refine yt9 (t:=true) (by simp [hb]) (fun h=>?_) (fun h=>by simp at h)
   refine yr9 [4] (by simp;rfl) ?_
   refine yj9 ?_
   repeat (first | refine yp9 ?_ | refine ys9 ?_)
   have hfi:t.findIdx? (fun r:Rec=>r.R == n)=some i:=by
    rw [List.findIdx?_eq_some_iff_getElem]
    refine ⟨c,by rw [hr2];exact hb,fun j hj=>?_⟩
    have h9:=hab t[j] (List.mem_take_iff_getElem.2 ⟨j,by omega,rfl⟩)
    intro h10
    have h11:=h9.symm.trans h10
    cases h11
   rw [hfi]
   simp [retQ]
  | false =>
   refine yt9 (t:=false) (by simp [hb]) (fun h=>by simp at h) (fun h=>?_)
   refine yg9 ?_
   refine zr9 [0,1,7,8] (by simp [wi];rfl) ?_
   refine ⟨_,by omega,i+1,rfl,by omega,fun q hq=>?_,by simp⟩
   rw [List.take_add_one,hr] at hq
   rcases List.mem_append.1 hq with hq | hq
   ·exact hab q hq
   ·rw [List.mem_singleton.1 hq];exact hb
 have hie:i=t.length:=by omega
 refine yr9 [9] (by simp [hie];rfl) ?_
 refine yh9 ?_
 refine yt9 (t:=false) (by simp [hie]) (fun h=>by simp at h) (fun h=>?_)
 refine zs9 ?_
 refine yr9 [4] (by simp;rfl) ?_
 refine yj9 ?_
 repeat (first | refine yp9 ?_ | refine ys9 ?_)
 have hfi:t.findIdx? (fun r:Rec=>r.R == n)=none:=by
  rw [List.findIdx?_eq_none_iff]
  intro x hx
  rw [hie,List.take_length] at hab
  exact hab x hx
 rw [hfi]
 simp [retQ]
theorem keyed_sound (t:List Rec) (hl:t.length≤100000000):Sound Tryz.prog 60 [.lst .any 4 (trL t),.fn (.func 61) [] []] (.v (.bool (us9 t))):=by
 refine yc9 Tryz.func60 rfl (by decide +kernel) (by simp [Tryz.f60]) (by simp [AV.rfL,AV.rf]) (by simp [AV.tlL,AV.tl]) (rs:=[.tmp 4]) rfl ?_
 rw [show Tryz.f60.ntmps=9 from rfl]
 have hx:=idxK_sound t hl
 refine yr9 [0,1] (by simp;rfl) ?_
 refine W_rK [4] ?_
 refine yq9 2 (by simp;rfl) rfl ?_
 refine yf9 (by simp) (by first | (simp;done) | (simp;rfl)) hx (by simp;rfl) ?_
 refine yw9 (by simp;rfl) ?_
 refine yj9 ?_
 repeat (first | refine yp9 ?_ | refine ys9 ?_)
 have hk:us9 t=(t.findIdx? fun r=>decide (r.key.length=8)).isSome:=by
  unfold us9
  cases h:t.findIdx? fun r=>decide (r.key.length=8) with
  | none =>
   rw [List.findIdx?_eq_none_iff] at h
   rw [Option.isSome_none,List.any_eq_false]
   intro x hx
   rw [h x hx]
   decide
  | some i =>
   rw [List.findIdx?_eq_some_iff_getElem] at h
   obtain ⟨h1,h2,_⟩:=h
   rw [Option.isSome_some,List.any_eq_true]
   exact ⟨t[i],List.getElem_mem h1,h2⟩
 rw [hk]
 cases t.findIdx? fun r=>decide (r.key.length=8) with
 | none=>simp [retQ]
 | some i=>simp [retQ]
theorem tfind_sound (t:List Rec) (n:Int) (hl:t.length≤100000000):Sound Tryz.prog 108 [.lst .any 4 (trL t),.v (.int .i64 n)] (.tup [.v (.int .i64 (((vv9 t n).getD 0:Nat):Int)),.v (.bool (vv9 t n).isSome)]):=by
 refine yc9 Tryz.func108 rfl (by decide +kernel) (by simp [Tryz.f108]) (by simp [AV.rfL,AV.rf]) (by simp [AV.tlL,AV.tl]) (rs:=[.tmp 4,.tmp 5]) rfl ?_
 rw [show Tryz.f108.ntmps=14 from rfl]
 have hx:=idxR_sound t n hl
 rw [show (t.findIdx? fun r:Rec=>r.R == n)=vv9 t n from rfl] at hx
 obtain ⟨X,hX⟩:∃ X:Int,(match vv9 t n with | some i=>((i:Nat):Int) | none=>-1)=X:=⟨_,rfl⟩
 rw [hX] at hx
 have h1:(if X < 0 then (0:Int) else X)=(((vv9 t n).getD 0:Nat):Int):=by
  rw [← hX]
  cases vv9 t n with
  | none=>rfl
  | some i=>simp only [Option.getD_some];split <;> omega
 have h2:decide (0≤X)=(vv9 t n).isSome:=by
  rw [← hX]
  cases vv9 t n with
  | none=>rfl
  | some i=>simp
 refine yr9 [0,3] (by simp;rfl) ?_
 refine W_roB 3 (tk:=1) (x:=.v (.int .i64 n)) (o:=.tip 3 1) (s0:=1) (h':=[.froz 3 [.v (.int .i64 n)]]) rfl (by decide) (by simp [wt9,chunk]) rfl ?_
 refine vp9 0 (by simp) (by simp) (by simp [zj9,putF,AV.under,AV.underL]) (by simp [yn9]) ?_
 refine (show Wt true 0 Tryz.prog _ _ ⟨14,[(0,.lst .any 4 (trL t)),(3,.ro (.v (.int .i64 n)))],[]⟩ from ?_)
 refine W_rK [6] ?_
 refine yq9 2 (by simp;rfl) rfl ?_
 refine yf9 (by simp) (by first | (simp;done) | (simp;rfl)) hx (by simp;rfl) ?_
 refine yw9 (by simp;rfl) ?_
 refine yr9 [4,5] (by simp [h1,h2];rfl) ?_
 refine yj9 ?_
 repeat (first | refine yp9 ?_ | refine ys9 ?_)
 simp [retQ,h2]
theorem rfind_sound (t:List Rec) (n:Int) (hl:t.length≤100000000):Sound Tryz.prog 93 [.lst .any 4 (trL t),.v (.int .i64 n)] (.v (.int .i64 (match vv9 t n with | some i=>((i:Nat):Int) | none=>-1))):=by
 refine yc9 Tryz.func93 rfl (by decide +kernel) (by simp [Tryz.f93]) (by simp [AV.rfL,AV.rf]) (by simp [AV.tlL,AV.tl]) (rs:=[.tmp 4]) rfl ?_
 rw [show Tryz.f93.ntmps=20 from rfl]
 refine yr9 [0,1] (by simp;rfl) ?_
 refine yh9 ?_
 refine yr9 [0,1,5] (by simp;rfl) ?_
 refine yl9 ?_
 refine zf9 (fun k s=>∃ i:Nat,k=t.length - i∧i≤t.length∧(∀ r∈t.take i,(r.R == n)=false)∧s=⟨20,[(0,.lst .any 4 (trL t)),(1,.v (.int .i64 n)),(5,.v (.int .i64 (i:Nat)))],[]⟩) (k:=t.length) ⟨0,rfl,by omega,by simp,by simp⟩ ?_
 rintro k s ⟨i,rfl,hi,hab,rfl⟩
 refine yh9 ?_
 by_cases c:i < t.length
 ·have ci : (i : Int) < t.length := by omega
  obtain ⟨r,hr⟩:∃ r,t[i]?=some r:=⟨_,List.getElem?_eq_getElem c⟩
  have hr2:t[i]'c=r:=by rw [List.getElem?_eq_getElem c] at hr;exact Option.some.inj hr
  have wi:=w64 (n:=(i:Int)+1) (by omega) (by omega)
  refine yr9 [0,1,5,9] (by simp [c,ci];rfl) ?_
  refine yt9 (t:=true) (by simp [c,ci]) (fun h=>?_) (fun h=>by simp at h)
  refine yg9 ?_
  refine yh9 ?_
  refine yl9 ?_
  refine yr9 [0,1,5,18] (by simp [c,ci,hr2];rfl) ?_
  cases hb:(r.R == n) with
  | true =>
   refine yt9 rfl (fun h=>?_) (fun h=>by simp at h)
   refine yr9 [4] (by simp;rfl) ?_
   refine yj9 ?_
   repeat (first | refine yp9 ?_ | refine ys9 ?_)
   have hfi:vv9 t n=some i:=by
    unfold vv9
    rw [List.findIdx?_eq_some_iff_getElem]
    refine ⟨c,by rw [hr2];exact hb,fun j hj=>?_⟩
    have:=hab t[j] (List.mem_take_iff_getElem.2 ⟨j,by omega,rfl⟩)
    rw [this]
    decide
   rw [hfi]
   simp [retQ]
  | false =>
   refine yt9 rfl (fun h=>by simp at h) (fun h=>?_)
   refine yg9 ?_
   refine zr9 [0,1,5] (by simp [wi];rfl) ?_
   refine ⟨_,by omega,i+1,rfl,by omega,fun q hq=>?_,by simp⟩
   rw [List.take_add_one,hr] at hq
   rcases List.mem_append.1 hq with hq | hq
   ·exact hab q hq
   ·rw [List.mem_singleton.1 hq];exact hb
 have hie:i=t.length:=by omega
 refine yr9 [9] (by simp [hie];rfl) ?_
 refine yt9 (t:=false) (by simp [hie]) (fun h=>by simp at h) (fun h=>?_)
 refine zs9 ?_
 refine yr9 [4] (by simp;rfl) ?_
 refine yj9 ?_
 repeat (first | refine yp9 ?_ | refine ys9 ?_)
 have hfi:vv9 t n=none:=by
  unfold vv9
  rw [List.findIdx?_eq_none_iff]
  intro x hx
  rw [hie,List.take_length] at hab
  exact hab x hx
 rw [hfi]
 simp [retQ]
set_option maxRecDepth 20000
def mg : List Rec → List (List UInt8) → Nat × List (List UInt8)
 | [],o=>(0,o)
 | r :: l,o=>if r.bad=true∨r.key≠[] then (2,o) else if r.data=[] then (1,o) else mg l (o++[r.data])
theorem mg_seq : ∀ (l : List Rec) (o : List (List UInt8)), (seqL l).map (o ++ ·) = if (mg l o).1 = 1 then some (mg l o).2 else none
 | [],o=>by simp [seqL,mg]
 | r :: l,o=>by
  rw [seqL,mg]
  by_cases h1:r.bad=true∨r.key≠[]
  ·rw [if_pos h1,if_pos h1];simp
  ·rw [if_neg h1, if_neg h1]
   by_cases h2:r.data=[]
   ·rw [if_pos h2,if_pos h2];simp
   ·rw [if_neg h2,if_neg h2,← mg_seq l (o++[r.data])]
    cases seqL l <;> simp
def jq9 (t:List (List Rec)) (p:Nat) (n:Int):List Rec:=if p < t.length then (match vv9 (t.getD p []) n with | none=>[] | some k=>fromE t p k) else []
theorem uc7 (t:List (List Rec)) (p:Nat) (n:Int):seqE t p n=if (mg (jq9 t p n) []).1=1 then some (mg (jq9 t p n) []).2 else none:=by
 have h:=mg_seq (jq9 t p n) []
 have e:(seqL (jq9 t p n)).map (([]:List (List UInt8))++·)=seqL (jq9 t p n):=by cases seqL (jq9 t p n) <;> simp
 rw [e] at h
 rw [← h]
 unfold seqE jq9
 split
 ·split <;> simp_all [seqL]
 ·rfl
def memM (d:Dcb) (t:List (List Rec)) (p n:Nat):List (List UInt8) × Int:=match seqE t p n with | some bs=>unbM d bs | none=>([],5)
theorem vb6 (t:List (List Rec)) (p:Nat) (n:Int):(jq9 t p n).length≤t.flatten.length:=by
 unfold jq9
 split
 ·rename_i hp
  split
  ·simp
  ·rename_i k hk
   have hk2:=qw6 hk
   rw [from_flat hp (by omega),List.length_drop]
   omega
 ·simp
theorem recs24_callW (t:List (List Rec)) (p n:Nat) (h:List AObj) (hh:yn9 (h.length+2) h=true):wp9 Tryz.prog 70 [.lst .any 1 (arL t),.agg [.v (.int .i64 (p:Nat)),.v (.int .i64 (n:Nat))]] h fun r h'=>r=.fn (.func 107) [] [.loc (h.length+1) 0,.loc h.length 0]∧h'=h++[.cells 24 [.lst .any 1 (arL t)],.cells 55 [.v (.int .i64 (p:Nat)),.v (.int .i64 (n:Nat))]]:=by
 refine zh9 Tryz.func70 rfl (by decide +kernel) (by simp [Tryz.f70]) (rs:=[.tmp 4]) rfl ?_
 rw [show Tryz.f70.ntmps=6 from rfl]
 refine yr9 [2,3] (by simp;rfl) ?_
 refine yr9 [4] (by simp;rfl) ?_
 refine yj9 ?_
 repeat (first | refine yp9 ?_ | refine ys9 ?_)
 refine ⟨.inr rfl,.fn (.func 107) [] [.loc (h.length+1) 0,.loc h.length 0],.fn (.func 107) [] [.loc (h.length+1) 0,.loc h.length 0],h++[.cells 24 [.lst .any 1 (arL t)],.cells 55 [.v (.int .i64 (p:Nat)),.v (.int .i64 (n:Nat))]],h.length+2,by simp,.inl ⟨rfl,by simp⟩,by omega,by simp,by simp [AV.under,AV.underL],?_,rfl,?_⟩
 ·rw [List.take_of_length_le (by simp),xt9,hh]
  simp [yn9,zj9,AObj.under,AV.under,AV.underL]
 ·rw [List.take_of_length_le (by simp)]
def outM (x:AV) (O:List (List UInt8)):Prop:=(O=[]∧x=.lst .nil 1 [])∨x=.lst (.tip 90 71) 1 (bbL O)
theorem xf6 {x:AV} {O:List (List UInt8)} (h:outM x O) (m:Nat):x.under m=true:=by
 rcases h with ⟨_,rfl⟩ | rfl <;> simp [AV.under,AV.underL]
noncomputable abbrev mbL (s:LSt):AObj:=.loop 36 [(3,.loc 0 0),(6,.loc 2 0),(7,.loc 3 0),(8,.loc 4 0),(12,.fn (.func 107) [] [.loc 6 0,.loc 5 0])] [13] (rfA Tryz.f32) (rfB Tryz.f32) s
abbrev mbH (d:Dcb) (t:List (List Rec)) (p n:Nat) (rA:AV) (rE:Int) (x:AV) (X:List AObj):List AObj :=
 [.cells 23 (dcbC d),.cells 55 [.v (.int .i64 (p:Nat)),.v (.int .i64 (n:Nat))],.cells 25 [rA],.cells 30 [.v (.int .i64 rE)],.cells 25 [x],.cells 24 [.lst .any 1 (arL t)],.cells 55 [.v (.int .i64 (p:Nat)),.v (.int .i64 (n:Nat))]]++X
theorem ix_dig (b:UInt8):decide (0≤Lib.indexByte [48,49,50,51,52,53,54,55,56,57] b)=digB b:=by
 have:∀ n:Nat,n < 256→decide (0≤Lib.indexByte [48,49,50,51,52,53,54,55,56,57] (UInt8.ofNat n))=digB (UInt8.ofNat n):=by decide +kernel
 have hh:=this b.toNat b.toNat_lt
 rwa [UInt8.ofNat_toNat] at hh
theorem ix_ok (b:UInt8) (h:¬ (65≤b.toNat∧b.toNat≤90)):decide (Lib.indexByte [48,49,50,51,52,53,54,55,56,57,64,35,36] b < 0)=!okB b:=by
 have:∀ n:Nat,n < 256→(65≤n∧n≤90)∨decide (Lib.indexByte [48,49,50,51,52,53,54,55,56,57,64,35,36] (UInt8.ofNat n) < 0)=!okB (UInt8.ofNat n):=by decide +kernel
 have hh:=this b.toNat b.toNat_lt
 rw [UInt8.ofNat_toNat] at hh
 exact hh.resolve_left h
theorem uh9 {l:List UInt8} (h:l.length < 1∨8 < l.length∨digB (l.headD 0)=true∨∃ b∈l,okB b=false):symM l=false:=by
 rw [Bool.eq_false_iff]
 intro hs
 simp only [symM,Bool.and_eq_true,decide_eq_true_eq,Bool.not_eq_true',List.all_eq_true] at hs
 obtain ⟨h1,h2,h3,h4⟩:=hs
 rcases h with h | h | h | ⟨b,hb,h⟩
 ·omega
 ·omega
 ·rw [h] at h3;cases h3
 ·rw [h4 b hb] at h;cases h
theorem symM_true {l:List UInt8} (h1:1≤l.length) (h2:l.length≤8) (h3:digB (l.headD 0)=false) (h4:l.all okB=true):symM l=true:=by
 simp only [symM,h3,h4,Bool.and_true,Bool.not_false,decide_eq_true_eq,Bool.and_eq_true]
 exact ⟨h1,h2⟩
theorem zr8 (l:List UInt8) (hl:l.length≤9223372036854775807):Sound Tryz.prog 33 [strB l] (.v (.bool (symM l))):=by
 refine yc9 Tryz.func33 rfl (by decide +kernel) (by simp [Tryz.f33]) rfl rfl (rs:=[.tmp 2]) rfl ?_
 rw [show Tryz.f33.ntmps=38 from rfl]
 simp only [strB]
 refine yr9 [0] (by simp;rfl) ?_
 refine yh9 ?_
 by_cases n1:1≤l.length
 rotate_left
 ·have h0:l=[]:=List.eq_nil_of_length_eq_zero (by omega)
  subst h0
  refine W_rK [0,17] ?_
  iterate 2 refine yq9 6 (by simp;rfl) rfl ?_
  refine yw9 (by simp;rfl) ?_
  refine yt9 rfl (fun h=>?_) (fun h=>by simp at h)
  refine yr9 [2] (by simp;rfl) ?_
  refine yj9 ?_
  repeat (first | refine yp9 ?_ | refine ys9 ?_)
  simp [retQ,uh9 (l:=[]) (.inl (by simp))]
 have hne:l≠[]:=by intro h;rw [h] at n1;simp at n1
 have hne2:(l == [])=false:=by simpa using hne
 have hpos:0 < l.length:=n1
 obtain ⟨b0,hb0⟩:∃ b,l[0]?=some b:=⟨_,List.getElem?_eq_getElem hpos⟩
 have hb02:l[0]=b0:=by rw [List.getElem?_eq_getElem hpos] at hb0;exact Option.some.inj hb0
 have hhd:l.headD 0=b0:=by rw [List.headD_eq_head?_getD,List.head?_eq_getElem?,hb0];rfl
 by_cases n2:l.length≤8
 rotate_left
 ·have n2a:(8:Int) < (l.length:Nat):=by omega
  have n2b:8 < l.length:=by omega
  refine W_rK [0,17] ?_
  iterate 2 refine yq9 6 (by simp [hne,hne2,n2a,n2b];rfl) rfl ?_
  refine yw9 (by simp [hne,hne2,n2a,n2b];rfl) ?_
  refine yt9 rfl (fun h=>?_) (fun h=>by simp at h)
  refine yr9 [2] (by simp;rfl) ?_
  refine yj9 ?_
  repeat (first | refine yp9 ?_ | refine ys9 ?_)
  simp [retQ,uh9 (.inr (.inl n2b))]
 have n2a:¬ (8:Int) < (l.length:Nat):=by omega
 have n2b:¬ 8 < l.length:=by omega
 refine W_rK [0,17] ?_
 iterate 2 refine yq9 5 (by simp [hne,hne2,n2a,n2b,hpos,hb0,hb02];rfl) rfl ?_
 refine yf9 (by simp) (by first | (simp;done) | (simp;rfl)) (wh8 ⟨#[48,49,50,51,52,53,54,55,56,57]⟩ (b0.toNat:Nat)) (by simp;rfl) ?_
 have hix:=ix_dig b0
 obtain ⟨X,hX⟩:∃ X:Int,Lib.indexByte [48,49,50,51,52,53,54,55,56,57] b0=X:=⟨_,rfl⟩
 rw [hX] at hix
 refine yw9 (by simp [hX];rfl) ?_
 cases hd:digB b0 with
 | true =>
  rw [hd] at hix
  have hx0:0≤X:=by simpa using hix
  refine yt9 (t:=true) (by simp [hx0]) (fun h=>?_) (fun h=>by simp at h)
  refine yr9 [2] (by simp;rfl) ?_
  refine yj9 ?_
  repeat (first | refine yp9 ?_ | refine ys9 ?_)
  have:symM l=false:=uh9 (.inr (.inr (.inl (by rw [hhd];exact hd))))
  simp [retQ,this]
 | false =>
 rw [hd] at hix
 have hx0:¬ 0≤X:=by simpa using hix
 refine yt9 (t:=false) (by simp [hx0]) (fun h=>by simp at h) (fun h=>?_)
 refine yg9 ?_
 refine yh9 ?_
 refine yr9 [0,19,20] (by simp;rfl) ?_
 refine yl9 ?_
 refine zf9 (fun k σ=>∃ i:Nat,k=l.length - i∧i≤l.length∧(l.take i).all okB=true∧σ=⟨38,[(0,.v (.string ⟨l.toArray⟩)),(19,.v (.int .i64 (l.length:Nat))),(20,.v (.int .i64 (i:Nat)))],[]⟩) (k:=l.length) ⟨0,rfl,by omega,by simp,by simp⟩ ?_
 rintro k s ⟨i,rfl,hi,hall,rfl⟩
 by_cases c:i < l.length
 ·have ci : (i : Int) < l.length := by omega
  obtain ⟨b,hb⟩:∃ b,l[i]?=some b:=⟨_,List.getElem?_eq_getElem c⟩
  have hb2:l[i]=b:=by rw [List.getElem?_eq_getElem c] at hb;exact Option.some.inj hb
  have wi:=w64 (n:=(i:Int)+1) (by omega) (by omega)
  have next:okB b=true→(l.take (i+1)).all okB=true:=by
   intro ho
   rw [List.take_add_one,hb]
   simp [ho]
   simpa using hall
  refine yr9 [0,19,20,21] (by simp [c,ci];rfl) ?_
  refine yh9 ?_
  refine yt9 rfl (fun h=>?_) (fun h=>by simp at h)
  refine yg9 ?_
  refine yh9 ?_
  refine yl9 ?_
  refine yr9 [0,19,20,3] (by simp;rfl) ?_
  refine yr9 [0,19,20,4] (by simp [c,ci,hb,hb2];rfl) ?_
  by_cases hL:65≤b.toNat∧b.toNat≤90
  ·obtain ⟨q1,q2⟩:=hL
   have q1a:¬ ((b.toNat:Nat):Int) < 65:=by omega
   have q1b:¬ b.toNat < 65:=by omega
   have q2a:¬ (90:Int) < (b.toNat:Nat):=by omega
   have q2b:¬ 90 < b.toNat:=by omega
   have ho:okB b=true:=by simp [okB,okC,q1,q2];omega
   refine W_rK [0,19,20,36] ?_
   iterate 2 refine yq9 5 (by simp [q1a,q1b,q2a,q2b];rfl) rfl ?_
   refine yw9 (by simp [q1a,q1b,q2a,q2b];rfl) ?_
   refine yt9 rfl (fun h=>by simp at h) (fun h=>?_)
   refine yg9 ?_
   refine zr9 [0,19,20] (by simp [wi];rfl) ?_
   exact ⟨_,by omega,i+1,rfl,by omega,next ho,by simp⟩
  have hix2:=ix_ok b hL
  obtain ⟨Y,hY⟩:∃ Y:Int,Lib.indexByte [48,49,50,51,52,53,54,55,56,57,64,35,36] b=Y:=⟨_,rfl⟩
  rw [hY] at hix2
  refine vm9 (fun σ=>σ=⟨38,[(0,.v (.string ⟨l.toArray⟩)),(19,.v (.int .i64 (l.length:Nat))),(20,.v (.int .i64 (i:Nat))),(36,.v (.bool (decide (Y < 0))))],[]⟩) ?_ ?_
  ·by_cases q1 : 65 ≤ b.toNat
   ·have q2:90 < b.toNat:=by omega
    have q1a:¬ ((b.toNat:Nat):Int) < 65:=by omega
    have q1b:¬ b.toNat < 65:=by omega
    have q2a:(90:Int) < (b.toNat:Nat):=by omega
    refine W_rE [0,19,20,36] ?_
    iterate 2 refine yq9 4 (by simp [q1a,q1b,q2a,q2];rfl) rfl ?_
    refine yf9 (by simp) (by first | (simp;done) | (simp;rfl)) (wh8 ⟨#[48,49,50,51,52,53,54,55,56,57,64,35,36]⟩ (b.toNat:Nat)) (by simp;rfl) ?_
    refine yw9 (by simp [hY];rfl) ?_
    simp [zw9]
   ·have q1a:((b.toNat:Nat):Int) < 65:=by omega
    have q1b:b.toNat < 65:=by omega
    refine W_rE [0,19,20,36] ?_
    iterate 2 refine yq9 4 (by simp [q1a,q1b];rfl) rfl ?_
    refine yf9 (by simp) (by first | (simp;done) | (simp;rfl)) (wh8 ⟨#[48,49,50,51,52,53,54,55,56,57,64,35,36]⟩ (b.toNat:Nat)) (by simp;rfl) ?_
    refine yw9 (by simp [hY];rfl) ?_
    simp [zw9]
  rintro _ rfl
  cases ho:okB b with
  | true =>
   rw [ho] at hix2
   have hy:¬ Y < 0:=by simpa using hix2
   refine yt9 (t:=false) (by simp [hy]) (fun h=>by simp at h) (fun h=>?_)
   refine yg9 ?_
   refine zr9 [0,19,20] (by simp [wi];rfl) ?_
   exact ⟨_,by omega,i+1,rfl,by omega,next ho,by simp⟩
  | false =>
   rw [ho] at hix2
   have hy:Y < 0:=by simpa using hix2
   refine yt9 (t:=true) (by simp [hy]) (fun h=>?_) (fun h=>by simp at h)
   refine yr9 [2] (by simp;rfl) ?_
   refine yj9 ?_
   repeat (first | refine yp9 ?_ | refine ys9 ?_)
   have:symM l=false:=uh9 (.inr (.inr (.inr ⟨b,List.mem_of_getElem? hb,ho⟩)))
   simp [retQ,this]
 have hie:i=l.length:=by omega
 refine yr9 [0,19,20,21] (by simp [c];rfl) ?_
 refine yh9 ?_
 refine yt9 (t:=false) (by simp [hie]) (fun h=>by simp at h) (fun h=>?_)
 refine zs9 ?_
 refine yr9 [2] (by simp;rfl) ?_
 refine yj9 ?_
 repeat (first | refine yp9 ?_ | refine ys9 ?_)
 have ha:l.all okB=true:=by rw [hie,List.take_length] at hall;exact hall
 have:symM l=true:=symM_true n1 n2 (by rw [hhd];exact hd) ha
 simp [retQ,this]
def letB (b:UInt8):Bool:=(decide (65≤b.toNat)&&decide (b.toNat≤90)) || (decide (b.toNat=64) || (decide (b.toNat=35) || decide (b.toNat=36)))
def badN (i:Nat) (b:UInt8) (L:Bool):Bool:=!L&&(decide (i=0) || (decide (b.toNat < 48) || decide (57 < b.toNat)))
theorem badN_eq (i:Nat) (b:UInt8):badN i b (letB b)=(!okB b || (decide (i=0)&&digB b)):=by
 have h:∀ n:Nat,n < 256→∀ z:Bool,(!letB (UInt8.ofNat n)&&(z || (decide ((UInt8.ofNat n).toNat < 48) || decide (57 < (UInt8.ofNat n).toNat))))=(!okB (UInt8.ofNat n) || (z&&digB (UInt8.ofNat n))):=by decide +kernel
 have hh:=h b.toNat b.toNat_lt (decide (i=0))
 rwa [UInt8.ofNat_toNat] at hh
theorem rname_sound (l:List UInt8) (hl:l.length≤9223372036854775807):Sound Tryz.prog 46 [strB l] (.v (.bool (symM l))):=by
 refine yc9 Tryz.func46 rfl (by decide +kernel) (by simp [Tryz.f46]) rfl rfl (rs:=[.tmp 2]) rfl ?_
 rw [show Tryz.f46.ntmps=65 from rfl]
 simp only [strB]
 refine yr9 [0] (by simp;rfl) ?_
 refine yh9 ?_
 refine yr9 [0,3] (by simp;rfl) ?_
 refine yl9 ?_
 refine zf9 (fun k σ=>∃ i:Nat,k=l.length - i∧i≤l.length∧(l.take i).all okB=true∧(0 < i→digB (l.headD 0)=false)∧σ=⟨65,[(0,.v (.string ⟨l.toArray⟩)),(3,.v (.int .i64 (i:Nat)))],[]⟩) (k:=l.length) ⟨0,rfl,by omega,by simp,by omega,by simp⟩ ?_
 rintro k s ⟨i,rfl,hi,hall,hd0,rfl⟩
 refine yh9 ?_
 by_cases c:i < l.length
 ·have ci : (i : Int) < l.length := by omega
  obtain ⟨b,hb⟩:∃ b,l[i]?=some b:=⟨_,List.getElem?_eq_getElem c⟩
  have hb2:l[i]=b:=by rw [List.getElem?_eq_getElem c] at hb;exact Option.some.inj hb
  have wi:=w64 (n:=(i:Int)+1) (by omega) (by omega)
  refine W_cT [0,3,8] (by simp [c,ci];rfl) rfl ?_
  refine yg9 ?_
  refine yh9 ?_
  refine yl9 ?_
  refine vm9 (fun σ=>σ=⟨65,[(0,.v (.string ⟨l.toArray⟩)),(3,.v (.int .i64 (i:Nat))),(4,.v (.bool (letB b)))],[]⟩) ?_ ?_
  ·by_cases p1 : 65 ≤ b.toNat
   ·have p10 : 65 ≤ b.toNat := p1
    have p1a:(65:Int)≤(b.toNat:Nat):=by omega
    have p1b:¬ b.toNat < 65:=by omega
    have p1c:¬ ((b.toNat:Nat):Int) < 65:=by omega
    by_cases p2:b.toNat≤90
    ·have p20:b.toNat≤90:=p2
     have p2a:((b.toNat:Nat):Int)≤90:=by omega
     have p2b:¬ 90 < b.toNat:=by omega
     have p2c:¬ (90:Int) < (b.toNat:Nat):=by omega
     refine W_rE [0,3,4] ?_
     iterate 4 refine yq9 6 (by simp [c,ci,hb,hb2,p10,p1a,p1b,p1c,p20,p2a,p2b,p2c];rfl) rfl ?_
     refine yw9 (by simp [c,ci,hb,hb2,p10,p1a,p1b,p1c,p20,p2a,p2b,p2c];rfl) ?_
     simp [zw9,letB,c,ci,hb,hb2,p10,p1a,p1b,p1c,p20,p2a,p2b,p2c]
    have p20:¬ b.toNat≤90:=p2
    have p2a:¬ ((b.toNat:Nat):Int)≤90:=by omega
    have p2b:90 < b.toNat:=by omega
    have p2c:(90:Int) < (b.toNat:Nat):=by omega
    by_cases p5:b.toNat=64
    ·have p50:b.toNat=64:=p5
     have p5a:((b.toNat:Nat):Int)=64:=by omega
     refine W_rE [0,3,4] ?_
     iterate 4 refine yq9 6 (by simp [c,ci,hb,hb2,p10,p1a,p1b,p1c,p20,p2a,p2b,p2c,p50,p5a];rfl) rfl ?_
     refine yw9 (by simp [c,ci,hb,hb2,p10,p1a,p1b,p1c,p20,p2a,p2b,p2c,p50,p5a];rfl) ?_
     simp [zw9,letB,c,ci,hb,hb2,p10,p1a,p1b,p1c,p20,p2a,p2b,p2c,p50,p5a]
    have p50:¬ b.toNat=64:=p5
    have p5a:¬ ((b.toNat:Nat):Int)=64:=by omega
    have p5b:(((b.toNat:Nat):Int) == 64)=false:=beq_eq_false_iff_ne.2 (by omega)
    by_cases p6:b.toNat=35
    ·have p60:b.toNat=35:=p6
     have p6a:((b.toNat:Nat):Int)=35:=by omega
     refine W_rE [0,3,4] ?_
     iterate 4 refine yq9 6 (by simp [c,ci,hb,hb2,p10,p1a,p1b,p1c,p20,p2a,p2b,p2c,p50,p5a,p5b,p60,p6a];rfl) rfl ?_
     refine yw9 (by simp [c,ci,hb,hb2,p10,p1a,p1b,p1c,p20,p2a,p2b,p2c,p50,p5a,p5b,p60,p6a];rfl) ?_
     simp [zw9,letB,c,ci,hb,hb2,p10,p1a,p1b,p1c,p20,p2a,p2b,p2c,p50,p5a,p5b,p60,p6a]
    have p60:¬ b.toNat=35:=p6
    have p6a:¬ ((b.toNat:Nat):Int)=35:=by omega
    have p6b:(((b.toNat:Nat):Int) == 35)=false:=beq_eq_false_iff_ne.2 (by omega)
    by_cases p7:b.toNat=36
    ·have p70:b.toNat=36:=p7
     have p7a:((b.toNat:Nat):Int)=36:=by omega
     refine W_rE [0,3,4] ?_
     iterate 4 refine yq9 6 (by simp [c,ci,hb,hb2,p10,p1a,p1b,p1c,p20,p2a,p2b,p2c,p50,p5a,p5b,p60,p6a,p6b,p70,p7a];rfl) rfl ?_
     refine yw9 (by simp [c,ci,hb,hb2,p10,p1a,p1b,p1c,p20,p2a,p2b,p2c,p50,p5a,p5b,p60,p6a,p6b,p70,p7a];rfl) ?_
     simp [zw9,letB,c,ci,hb,hb2,p10,p1a,p1b,p1c,p20,p2a,p2b,p2c,p50,p5a,p5b,p60,p6a,p6b,p70,p7a]
    have p70:¬ b.toNat=36:=p7
    have p7a:¬ ((b.toNat:Nat):Int)=36:=by omega
    have p7b:(((b.toNat:Nat):Int) == 36)=false:=beq_eq_false_iff_ne.2 (by omega)
    refine W_rE [0,3,4] ?_
    iterate 4 refine yq9 6 (by simp [c,ci,hb,hb2,p10,p1a,p1b,p1c,p20,p2a,p2b,p2c,p50,p5a,p5b,p60,p6a,p6b,p70,p7a,p7b];rfl) rfl ?_
    refine yw9 (by simp [c,ci,hb,hb2,p10,p1a,p1b,p1c,p20,p2a,p2b,p2c,p50,p5a,p5b,p60,p6a,p6b,p70,p7a,p7b];rfl) ?_
    simp [zw9,letB,c,ci,hb,hb2,p10,p1a,p1b,p1c,p20,p2a,p2b,p2c,p50,p5a,p5b,p60,p6a,p6b,p70,p7a,p7b]
   have p10:¬ 65≤b.toNat:=p1
   have p1a:¬ (65:Int)≤(b.toNat:Nat):=by omega
   have p1b:b.toNat < 65:=by omega
   have p1c:((b.toNat:Nat):Int) < 65:=by omega
   by_cases p5:b.toNat=64
   ·have p50:b.toNat=64:=p5
    have p5a:((b.toNat:Nat):Int)=64:=by omega
    refine W_rE [0,3,4] ?_
    iterate 4 refine yq9 6 (by simp [c,ci,hb,hb2,p10,p1a,p1b,p1c,p50,p5a];rfl) rfl ?_
    refine yw9 (by simp [c,ci,hb,hb2,p10,p1a,p1b,p1c,p50,p5a];rfl) ?_
    simp [zw9,letB,c,ci,hb,hb2,p10,p1a,p1b,p1c,p50,p5a]
   have p50:¬ b.toNat=64:=p5
   have p5a:¬ ((b.toNat:Nat):Int)=64:=by omega
   have p5b:(((b.toNat:Nat):Int) == 64)=false:=beq_eq_false_iff_ne.2 (by omega)
   by_cases p6:b.toNat=35
   ·have p60:b.toNat=35:=p6
    have p6a:((b.toNat:Nat):Int)=35:=by omega
    refine W_rE [0,3,4] ?_
    iterate 4 refine yq9 6 (by simp [c,ci,hb,hb2,p10,p1a,p1b,p1c,p50,p5a,p5b,p60,p6a];rfl) rfl ?_
    refine yw9 (by simp [c,ci,hb,hb2,p10,p1a,p1b,p1c,p50,p5a,p5b,p60,p6a];rfl) ?_
    simp [zw9,letB,c,ci,hb,hb2,p10,p1a,p1b,p1c,p50,p5a,p5b,p60,p6a]
   have p60:¬ b.toNat=35:=p6
   have p6a:¬ ((b.toNat:Nat):Int)=35:=by omega
   have p6b:(((b.toNat:Nat):Int) == 35)=false:=beq_eq_false_iff_ne.2 (by omega)
   by_cases p7:b.toNat=36
   ·have p70:b.toNat=36:=p7
    have p7a:((b.toNat:Nat):Int)=36:=by omega
    refine W_rE [0,3,4] ?_
    iterate 4 refine yq9 6 (by simp [c,ci,hb,hb2,p10,p1a,p1b,p1c,p50,p5a,p5b,p60,p6a,p6b,p70,p7a];rfl) rfl ?_
    refine yw9 (by simp [c,ci,hb,hb2,p10,p1a,p1b,p1c,p50,p5a,p5b,p60,p6a,p6b,p70,p7a];rfl) ?_
    simp [zw9,letB,c,ci,hb,hb2,p10,p1a,p1b,p1c,p50,p5a,p5b,p60,p6a,p6b,p70,p7a]
   have p70:¬ b.toNat=36:=p7
   have p7a:¬ ((b.toNat:Nat):Int)=36:=by omega
   have p7b:(((b.toNat:Nat):Int) == 36)=false:=beq_eq_false_iff_ne.2 (by omega)
   refine W_rE [0,3,4] ?_
   iterate 4 refine yq9 6 (by simp [c,ci,hb,hb2,p10,p1a,p1b,p1c,p50,p5a,p5b,p60,p6a,p6b,p70,p7a,p7b];rfl) rfl ?_
   refine yw9 (by simp [c,ci,hb,hb2,p10,p1a,p1b,p1c,p50,p5a,p5b,p60,p6a,p6b,p70,p7a,p7b];rfl) ?_
   simp [zw9,letB,c,ci,hb,hb2,p10,p1a,p1b,p1c,p50,p5a,p5b,p60,p6a,p6b,p70,p7a,p7b]
  rintro _ rfl
  have hLd:∀ t:Bool,letB b=t→True:=fun _ _=>trivial
  obtain ⟨L,hL⟩:∃ L,letB b=L:=⟨_,rfl⟩
  rw [hL]
  refine vm9 (fun σ=>σ=⟨65,[(0,.v (.string ⟨l.toArray⟩)),(3,.v (.int .i64 (i:Nat))),(56,.v (.bool (badN i b L)))],[]⟩) ?_ ?_
  ·by_cases r1 : L = true
   ·have r1a:L=true:=r1
    refine W_rE [0,3,56] ?_
    iterate 2 refine yq9 6 (by simp [c,ci,hb,hb2,r1a];rfl) rfl ?_
    refine yw9 (by simp [c,ci,hb,hb2,r1a];rfl) ?_
    simp [zw9,badN,c,ci,hb,hb2,r1a]
   have r1a:L=false:=by simpa using r1
   by_cases r2:i=0
   ·have r20:i=0:=r2
    have r2a:((i:Nat):Int)=0:=by omega
    refine W_rE [0,3,56] ?_
    iterate 2 refine yq9 6 (by simp [c,ci,hb,hb2,r1a,r20,r2a];rfl) rfl ?_
    refine yw9 (by simp [c,ci,hb,hb2,r1a,r20,r2a];rfl) ?_
    simp [zw9,badN,c,ci,hb,hb2,r1a,r20,r2a]
   have r20:¬ i=0:=r2
   have r2a:¬ ((i:Nat):Int)=0:=by omega
   have r2b:(((i:Nat):Int) == 0)=false:=beq_eq_false_iff_ne.2 (by omega)
   by_cases r3:b.toNat < 48
   ·have r30:b.toNat < 48:=r3
    have r3a:((b.toNat:Nat):Int) < 48:=by omega
    refine W_rE [0,3,56] ?_
    iterate 2 refine yq9 6 (by simp [c,ci,hb,hb2,r1a,r20,r2a,r2b,r30,r3a];rfl) rfl ?_
    refine yw9 (by simp [c,ci,hb,hb2,r1a,r20,r2a,r2b,r30,r3a];rfl) ?_
    simp [zw9,badN,c,ci,hb,hb2,r1a,r20,r2a,r2b,r30,r3a]
   have r30:¬ b.toNat < 48:=r3
   have r3a:¬ ((b.toNat:Nat):Int) < 48:=by omega
   by_cases r4:57 < b.toNat
   ·have r40:57 < b.toNat:=r4
    have r4a:(57:Int) < (b.toNat:Nat):=by omega
    refine W_rE [0,3,56] ?_
    iterate 2 refine yq9 6 (by simp [c,ci,hb,hb2,r1a,r20,r2a,r2b,r30,r3a,r40,r4a];rfl) rfl ?_
    refine yw9 (by simp [c,ci,hb,hb2,r1a,r20,r2a,r2b,r30,r3a,r40,r4a];rfl) ?_
    simp [zw9,badN,c,ci,hb,hb2,r1a,r20,r2a,r2b,r30,r3a,r40,r4a]
   have r40:¬ 57 < b.toNat:=r4
   have r4a:¬ (57:Int) < (b.toNat:Nat):=by omega
   refine W_rE [0,3,56] ?_
   iterate 2 refine yq9 6 (by simp [c,ci,hb,hb2,r1a,r20,r2a,r2b,r30,r3a,r40,r4a];rfl) rfl ?_
   refine yw9 (by simp [c,ci,hb,hb2,r1a,r20,r2a,r2b,r30,r3a,r40,r4a];rfl) ?_
   simp [zw9,badN,c,ci,hb,hb2,r1a,r20,r2a,r2b,r30,r3a,r40,r4a]
  rintro _ rfl
  have hbad:badN i b L=(!okB b || (decide (i=0)&&digB b)):=by rw [← hL];exact badN_eq i b
  have hhd:i=0→l.headD 0=b:=by
   intro h0
   rw [List.headD_eq_head?_getD,List.head?_eq_getElem?,← h0,hb]
   rfl
  cases hB:badN i b L with
  | true =>
   refine yt9 rfl (fun h=>?_) (fun h=>by simp at h)
   refine yr9 [2] (by simp;rfl) ?_
   refine yj9 ?_
   repeat (first | refine yp9 ?_ | refine ys9 ?_)
   have:symM l=false:=by
    rw [hB] at hbad
    have hb3:=hbad.symm
    simp only [Bool.or_eq_true,Bool.not_eq_true',Bool.and_eq_true,decide_eq_true_eq] at hb3
    rcases hb3 with h1 | ⟨h1,h2⟩
    ·exact uh9 (.inr (.inr (.inr ⟨b,List.mem_of_getElem? hb,h1⟩)))
    ·exact uh9 (.inr (.inr (.inl (by rw [hhd h1];exact h2))))
   simp [retQ,this]
  | false =>
   refine yt9 rfl (fun h=>by simp at h) (fun h=>?_)
   refine yg9 ?_
   refine zr9 [0,3] (by simp [wi];rfl) ?_
   rw [hB] at hbad
   have hb3:=hbad.symm
   simp only [Bool.or_eq_false_iff,Bool.not_eq_false',Bool.and_eq_false_iff,decide_eq_false_iff_not] at hb3
   refine ⟨_,by omega,i+1,rfl,by omega,?_,fun _=>?_,by simp⟩
   ·rw [List.take_add_one,hb]
    simp [hb3.1]
    simpa using hall
   ·by_cases h0 : i = 0
    ·rw [hhd h0]
     rcases hb3.2 with h1 | h1
     ·exact absurd h0 h1
     ·exact h1
    ·exact hd0 (by omega)
 have hie:i=l.length:=by omega
 have ha:l.all okB=true:=by rw [hie,List.take_length] at hall;exact hall
 refine yr9 [0,3,8] (by simp [c];rfl) ?_
 refine yt9 (t:=false) (by simp [hie]) (fun h=>by simp at h) (fun h=>?_)
 refine zs9 ?_
 by_cases n1:1≤l.length
 ·have n10 : 1 ≤ l.length := n1
  have n1a:(1:Int)≤(l.length:Nat):=by omega
  have n1b:¬ l.length < 1:=by omega
  have n1c:¬ ((l.length:Nat):Int) < 1:=by omega
  by_cases n2:l.length≤8
  ·have n20:l.length≤8:=n2
   have n2a:((l.length:Nat):Int)≤8:=by omega
   have n2b:¬ 8 < l.length:=by omega
   have n2c:¬ (8:Int) < (l.length:Nat):=by omega
   refine W_rK [2] ?_
   refine yq9 5 (by simp [n10,n1a,n1b,n1c,n20,n2a,n2b,n2c];rfl) rfl ?_
   refine yw9 (by simp [n10,n1a,n1b,n1c,n20,n2a,n2b,n2c];rfl) ?_
   refine yj9 ?_
   repeat (first | refine yp9 ?_ | refine ys9 ?_)
   have:symM l=true:=symM_true n1 n2 (hd0 (by omega)) ha
   simp [retQ,this]
  have n20:¬ l.length≤8:=n2
  have n2a:¬ ((l.length:Nat):Int)≤8:=by omega
  have n2b:8 < l.length:=by omega
  have n2c:(8:Int) < (l.length:Nat):=by omega
  refine W_rK [2] ?_
  refine yq9 5 (by simp [n10,n1a,n1b,n1c,n20,n2a,n2b,n2c];rfl) rfl ?_
  refine yw9 (by simp [n10,n1a,n1b,n1c,n20,n2a,n2b,n2c];rfl) ?_
  refine yj9 ?_
  repeat (first | refine yp9 ?_ | refine ys9 ?_)
  have:symM l=false:=uh9 (by omega)
  simp [retQ,this]
 have n10:¬ 1≤l.length:=n1
 have n1a:¬ (1:Int)≤(l.length:Nat):=by omega
 have n1b:l.length < 1:=by omega
 have n1c:((l.length:Nat):Int) < 1:=by omega
 refine W_rK [2] ?_
 refine yq9 5 (by simp [n10,n1a,n1b,n1c];rfl) rfl ?_
 refine yw9 (by simp [n10,n1a,n1b,n1c];rfl) ?_
 refine yj9 ?_
 repeat (first | refine yp9 ?_ | refine ys9 ?_)
 have:symM l=false:=uh9 (by omega)
 simp [retQ,this]
set_option maxRecDepth 20000
theorem posE_of {l:List RE} {k:List UInt8} {i:Nat} (hi:i≤l.length) (h1:∀ m e,m < i→l[m]?=some e→Op.bytesLess e.key k=true) (h2:∀ m e,i≤m→l[m]?=some e→Op.bytesLess e.key k=false):posE l k=i:=by
 have e:l=l.take i++l.drop i:=(List.take_append_drop i l).symm
 unfold posE
 rw [e,kn9]
 ·cases hd:l.drop i with
  | nil=>simp [List.length_take];omega
  | cons x r =>
   have hx:l[i]?=some x:=by
    have:=congrArg List.head? hd
    rw [List.head?_drop] at this
    simpa using this
   rw [List.takeWhile_cons,if_neg (by rw [h2 i x (Nat.le_refl _) hx];decide),List.append_nil,List.length_take]
   omega
 ·intro x hx
  obtain ⟨m,hm,rfl⟩:=List.mem_iff_getElem.1 hx
  rw [List.length_take] at hm
  refine h1 m _ (by omega) ?_
  rw [List.getElem_take,List.getElem?_eq_getElem (by omega)]
theorem uw6 {l:List RE} (h:l.Pairwise ltE) {i j:Nat} {a b:RE} (hij:i < j) (ha:l[i]?=some a) (hb:l[j]?=some b):Op.bytesLess a.key b.key=true:=by
 obtain ⟨h1,rfl⟩:=List.getElem?_eq_some_iff.1 ha
 obtain ⟨h2,rfl⟩:=List.getElem?_eq_some_iff.1 hb
 exact List.pairwise_iff_getElem.1 h i j h1 h2 hij
def reCs (l:List RE):List AV:=(l.map reC).flatten
def CellsRE (cs:List AV) (l:List RE):Prop:=∀ i e,l[i]?=some e→i * 10+10≤cs.length∧(cs.drop (i * 10)).take 10=reC e
theorem bs_sound (l:List RE) (k:List UInt8) (hp:l.Pairwise ltE) (h8:∀ e∈l,e.key.length=8) (hk:k.length=8) (hl:l.length≤1000000000):Sound Tryz.prog 67 [.lst .any 10 (reL l),.agg (byL k),.fn (.func 69) [] []] (.tup [.v (.int .i64 (posE l k:Nat)),.v (.bool (fndE l k))]):=by
 refine yc9 Tryz.func67 rfl (by decide +kernel) (by simp [Tryz.f67]) (by simp [AV.rfL,AV.rf]) (by simp [AV.tlL,AV.tl]) (rs:=[.tmp 6,.tmp 7]) rfl ?_
 rw [show Tryz.f67.ntmps=49 from rfl]
 refine yr9 [0,2,4] (by simp [hk];rfl) ?_
 refine yr9 [0,2,4,8] (by simp;rfl) ?_
 refine yr9 [0,2,4,8,9,10] (by simp;rfl) ?_
 refine yh9 ?_
 refine yl9 ?_
 refine zf9 (fun q s => ∃ i j : Nat, q = j - i ∧ i ≤ j ∧ j ≤ l.length ∧ (∀ m e, m < i → l[m]? = some e → Op.bytesLess e.key k = true) ∧ (∀ m e, j ≤ m → l[m]? = some e → Op.bytesLess e.key k = false) ∧
  s=⟨49,[(0,.lst .any 10 (reL l)),(2,.fn (.func 69) [] []),(4,.loc 0 0),(8,.v (.int .i64 (l.length:Nat))),(9,.v (.int .i64 (i:Nat))),(10,.v (.int .i64 (j:Nat)))],[.cells 76 (byL k)]⟩) (k:=l.length) ⟨0,l.length,rfl,by omega,by omega,by intro m e hm;omega,by intro m e hm he;have:=(List.getElem?_eq_some_iff.1 he).1;omega,by simp [hk]⟩ ?_
 rintro q s ⟨i,j,rfl,hij,hj,hlo,hhi,rfl⟩
 refine yh9 ?_
 by_cases c:i < j
 ·have ci : (i : Int) < j := by omega
  obtain ⟨m,hm⟩:∃ m,(i+j) / 2=m:=⟨_,rfl⟩
  have hmi:i≤m:=by omega
  have hmj:m < j:=by omega
  have hml:m < l.length:=by omega
  have hmli:(m:Int) < l.length:=by omega
  obtain ⟨e,he⟩:∃ e,l[m]?=some e:=⟨_,List.getElem?_eq_getElem hml⟩
  have hge:l[m]'hml=e:=by rw [List.getElem?_eq_getElem hml] at he;exact Option.some.inj he
  have h8e:=h8 e (List.mem_of_getElem? he)
  have htk8:List.take 8 (byL k)=byL k:=List.take_of_length_le (by simp [hk])
  have w1:IntKind.i64.wrap ((i:Int)+j)=(i:Int)+j:=w64 (by omega) (by omega)
  have w2:IntKind.u64.wrap ((i:Int)+j)=(i:Int)+j:=by
   simp only [IntKind.wrap_u64]
   omega
  have w3:Int.fdiv ((i:Int)+j) (2 ^ min 1 IntKind.u64.bits)=(m:Nat):=by rw [show (2:Int) ^ min 1 IntKind.u64.bits=2 from rfl,Int.fdiv_eq_ediv_of_nonneg _ (by omega)];omega
  have w4:IntKind.i64.wrap (m:Nat)=(m:Nat):=w64 (by omega) (by omega)
  have w5:IntKind.i64.wrap ((m:Int)+1)=((m+1:Nat):Int):=by rw [w64 (by omega) (by omega)];omega
  refine yr9 [0,2,4,8,9,10,17] (by simp [c,ci];rfl) ?_
  refine yt9 (t:=true) (by simp [c,ci]) (fun h=>?_) (fun h=>by simp at h)
  refine yg9 ?_
  refine yl9 ?_
  refine yr9 [0,2,4,8,9,10,11] (by simp [w1,w2,w3,w4];rfl) ?_
  have hcmp:=qw9 e k h8e hk
  obtain ⟨X,hX⟩:∃ X,Lib.compareBytes e.key k=X:=⟨_,rfl⟩
  rw [hX] at hcmp
  simp only [reA] at hcmp
  have hlX:Op.bytesLess e.key k=decide (X < 0):=by rw [jv8,hX]
  refine wr9 [0,2,4,8,9,10,11,31] mx (by decide +kernel) ?_
  refine yd9 6 (by simp [hml,hmli,hk,reA,h8e,htk8,hge];rfl) rfl ?_
  refine yv9 (by simp) (by first | (simp;done) | (simp;rfl)) hcmp (by simp;rfl) ?_
  refine yb9 (by simp;rfl) ?_
  by_cases hneg:X < 0
  ·have hle:Op.bytesLess e.key k=true:=by rw [hlX];simp [hneg]
   refine yt9 (t:=true) (by simp [hneg]) (fun h=>?_) (fun h=>by simp at h)
   refine zr9 [0,2,4,8,9,10] (by simp [w5];rfl) ?_
   refine ⟨_,by omega,m+1,j,rfl,by omega,hj,fun m2 e2 hm2 he2=>?_,hhi,by simp⟩
   by_cases h2:m2=m
   ·subst h2;rw [he] at he2;cases he2;exact hle
   ·exact ul9 (uw6 hp (by omega) he2 he) hle
  ·have hle : Op.bytesLess e.key k = false := by rw [hlX]; simp [hneg]
   refine yt9 (t:=false) (by simp [hneg]) (fun h=>by simp at h) (fun h=>?_)
   refine zr9 [0,2,4,8,9,10] (by simp;rfl) ?_
   refine ⟨_,by omega,i,m,rfl,by omega,by omega,hlo,fun m2 e2 hm2 he2=>?_,by simp⟩
   by_cases h2:m2=m
   ·subst h2;rw [he] at he2;cases he2;exact hle
   ·cases hb:Op.bytesLess e2.key k with
    | false=>rfl
    | true =>
     have:=ul9 (uw6 hp (show m < m2 by omega) he he2) hb
     rw [hle] at this
     cases this
 have hie:i=j:=by omega
 subst hie
 have hpos:posE l k=i:=posE_of (by omega) hlo hhi
 rw [hpos]
 refine yr9 [0,2,4,8,9,17] (by simp;rfl) ?_
 refine yt9 (t:=false) (by simp) (fun h=>by simp at h) (fun h=>?_)
 refine zs9 ?_
 by_cases c2:i < l.length
 ·have ci : (i : Int) < l.length := by omega
  obtain ⟨e,he⟩:∃ e,l[i]?=some e:=⟨_,List.getElem?_eq_getElem c2⟩
  have hge:l[i]'c2=e:=by rw [List.getElem?_eq_getElem c2] at he;exact Option.some.inj he
  have h8e:=h8 e (List.mem_of_getElem? he)
  have htk8:List.take 8 (byL k)=byL k:=List.take_of_length_le (by simp [hk])
  have hcmp:=qw9 e k h8e hk
  obtain ⟨X,hX⟩:∃ X,Lib.compareBytes e.key k=X:=⟨_,rfl⟩
  rw [hX] at hcmp
  simp only [reA] at hcmp
  have hf:fndE l k=(X == 0):=by
   have h9:=eq_cmp e.key k
   rw [hX,decide_eq_decide] at h9
   unfold fndE
   rw [hpos,he,Bool.eq_iff_iff]
   simp [h9]
  refine wr9 [6,7] mx (by decide +kernel) ?_
  refine yd9 6 (by simp [c2,ci];rfl) rfl ?_
  refine yd9 5 (by simp [c2,ci,hk,reA,h8e,htk8,hge];rfl) rfl ?_
  refine yv9 (by simp) (by first | (simp;done) | (simp;rfl)) hcmp (by simp;rfl) ?_
  refine yb9 (by simp;rfl) ?_
  refine yj9 ?_
  repeat (first | refine yp9 ?_ | refine ys9 ?_)
  simp [retQ,hf]
 ·have ci : ¬ (i : Int) < l.length := by omega
  have hf:fndE l k=false:=by
   unfold fndE
   rw [hpos,List.getElem?_eq_none (by omega)]
  refine wr9 [6,7] mx (by decide +kernel) ?_
  iterate 2 refine yd9 6 (by simp [c2,ci];rfl) rfl ?_
  refine yb9 (by simp;rfl) ?_
  refine yj9 ?_
  repeat (first | refine yp9 ?_ | refine ys9 ?_)
  simp [retQ,hf]
theorem bs_callW (l:List RE) (k:List UInt8) (hp:l.Pairwise ltE) (h8:∀ e∈l,e.key.length=8) (hk:k.length=8) (hl:l.length≤1000000000) (H:List AObj) (id cap:Nat) (cs:List AV) (hid:H[id]?=some (.cells 78 cs)) (hcs:CellsRE cs l) (hh:yn9 H.length H=true):wp9 Tryz.prog 67 [.arr id 0 l.length cap,.agg (byL k),.fn (.func 69) [] []] H fun r h'=>r=.tup [.v (.int .i64 (posE l k:Nat)),.v (.bool (fndE l k))]∧h'=H:=by
 refine zh9 Tryz.func67 rfl (by decide +kernel) (by simp [Tryz.f67]) (rs:=[.tmp 6,.tmp 7]) rfl ?_
 rw [show Tryz.f67.ntmps=49 from rfl]
 have hid1:id < H.length:=(List.getElem?_eq_some_iff.1 hid).1
 have hid2:(H++[AObj.cells 76 (byL k)])[id]?=some (.cells 78 cs):=by rw [List.getElem?_append_left hid1];exact hid
 refine yr9 [0,2,4] (by simp [hk];rfl) ?_
 refine yr9 [0,2,4,8] (by simp;rfl) ?_
 refine yr9 [0,2,4,8,9,10] (by simp;rfl) ?_
 refine yh9 ?_
 refine yl9 ?_
 refine zf9 (fun q s => ∃ i j : Nat, q = j - i ∧ i ≤ j ∧ j ≤ l.length ∧ (∀ m e, m < i → l[m]? = some e → Op.bytesLess e.key k = true) ∧ (∀ m e, j ≤ m → l[m]? = some e → Op.bytesLess e.key k = false) ∧
  s=⟨49,[(0,.arr id 0 l.length cap),(2,.fn (.func 69) [] []),(4,.loc H.length 0),(8,.v (.int .i64 (l.length:Nat))),(9,.v (.int .i64 (i:Nat))),(10,.v (.int .i64 (j:Nat)))],H++[.cells 76 (byL k)]⟩) (k:=l.length) ⟨0,l.length,rfl,by omega,by omega,by intro m e hm;omega,by intro m e hm he;have:=(List.getElem?_eq_some_iff.1 he).1;omega,by simp [hk]⟩ ?_
 rintro q s ⟨i,j,rfl,hij,hj,hlo,hhi,rfl⟩
 refine yh9 ?_
 by_cases c:i < j
 ·have ci : (i : Int) < j := by omega
  obtain ⟨m,hm⟩:∃ m,(i+j) / 2=m:=⟨_,rfl⟩
  have hmi:i≤m:=by omega
  have hmj:m < j:=by omega
  have hml:m < l.length:=by omega
  have hmli:(m:Int) < l.length:=by omega
  obtain ⟨e,he⟩:∃ e,l[m]?=some e:=⟨_,List.getElem?_eq_getElem hml⟩
  have hge:l[m]'hml=e:=by rw [List.getElem?_eq_getElem hml] at he;exact Option.some.inj he
  have h8e:=h8 e (List.mem_of_getElem? he)
  have htk8:List.take 8 (byL k)=byL k:=List.take_of_length_le (by simp [hk])
  have w1:IntKind.i64.wrap ((i:Int)+j)=(i:Int)+j:=w64 (by omega) (by omega)
  have w2:IntKind.u64.wrap ((i:Int)+j)=(i:Int)+j:=by
   simp only [IntKind.wrap_u64]
   omega
  have w3:Int.fdiv ((i:Int)+j) (2 ^ min 1 IntKind.u64.bits)=(m:Nat):=by rw [show (2:Int) ^ min 1 IntKind.u64.bits=2 from rfl,Int.fdiv_eq_ediv_of_nonneg _ (by omega)];omega
  have w4:IntKind.i64.wrap (m:Nat)=(m:Nat):=w64 (by omega) (by omega)
  have w5:IntKind.i64.wrap ((m:Int)+1)=((m+1:Nat):Int):=by rw [w64 (by omega) (by omega)];omega
  obtain ⟨hld1,hld2⟩:=hcs m e he
  refine yr9 [0,2,4,8,9,10,17] (by simp [c,ci];rfl) ?_
  refine yt9 (t:=true) (by simp [c,ci]) (fun h=>?_) (fun h=>by simp at h)
  refine yg9 ?_
  refine yl9 ?_
  refine yr9 [0,2,4,8,9,10,11] (by simp [w1,w2,w3,w4];rfl) ?_
  have hcmp:=qw9 e k h8e hk
  obtain ⟨X,hX⟩:∃ X,Lib.compareBytes e.key k=X:=⟨_,rfl⟩
  rw [hX] at hcmp
  simp only [reA] at hcmp
  have hlX:Op.bytesLess e.key k=decide (X < 0):=by rw [jv8,hX]
  refine wr9 [0,2,4,8,9,10,11,31] mx (by decide +kernel) ?_
  refine yd9 6 (by simp [hml,hmli,hk,reA,h8e,htk8,hld1,hld2,hid2];rfl) rfl ?_
  refine yv9 (by simp) (by first | (simp;done) | (simp;rfl)) hcmp (by simp;rfl) ?_
  refine yb9 (by simp;rfl) ?_
  by_cases hneg:X < 0
  ·have hle:Op.bytesLess e.key k=true:=by rw [hlX];simp [hneg]
   refine yt9 (t:=true) (by simp [hneg]) (fun h=>?_) (fun h=>by simp at h)
   refine zr9 [0,2,4,8,9,10] (by simp [w5];rfl) ?_
   refine ⟨_,by omega,m+1,j,rfl,by omega,hj,fun m2 e2 hm2 he2=>?_,hhi,by simp⟩
   by_cases h2:m2=m
   ·subst h2;rw [he] at he2;cases he2;exact hle
   ·exact ul9 (uw6 hp (by omega) he2 he) hle
  ·have hle : Op.bytesLess e.key k = false := by rw [hlX]; simp [hneg]
   refine yt9 (t:=false) (by simp [hneg]) (fun h=>by simp at h) (fun h=>?_)
   refine zr9 [0,2,4,8,9,10] (by simp;rfl) ?_
   refine ⟨_,by omega,i,m,rfl,by omega,by omega,hlo,fun m2 e2 hm2 he2=>?_,by simp⟩
   by_cases h2:m2=m
   ·subst h2;rw [he] at he2;cases he2;exact hle
   ·cases hb:Op.bytesLess e2.key k with
    | false=>rfl
    | true =>
     have:=ul9 (uw6 hp (show m < m2 by omega) he he2) hb
     rw [hle] at this
     cases this
 have hie:i=j:=by omega
 subst hie
 have hpos:posE l k=i:=posE_of (by omega) hlo hhi
 rw [hpos]
 refine yr9 [0,2,4,8,9,17] (by simp;rfl) ?_
 refine yt9 (t:=false) (by simp) (fun h=>by simp at h) (fun h=>?_)
 refine zs9 ?_
 by_cases c2:i < l.length
 ·have ci : (i : Int) < l.length := by omega
  obtain ⟨e,he⟩:∃ e,l[i]?=some e:=⟨_,List.getElem?_eq_getElem c2⟩
  have hge:l[i]'c2=e:=by rw [List.getElem?_eq_getElem c2] at he;exact Option.some.inj he
  have h8e:=h8 e (List.mem_of_getElem? he)
  have htk8:List.take 8 (byL k)=byL k:=List.take_of_length_le (by simp [hk])
  obtain ⟨hld1,hld2⟩:=hcs i e he
  have hcmp:=qw9 e k h8e hk
  obtain ⟨X,hX⟩:∃ X,Lib.compareBytes e.key k=X:=⟨_,rfl⟩
  rw [hX] at hcmp
  simp only [reA] at hcmp
  have hf:fndE l k=(X == 0):=by
   have h9:=eq_cmp e.key k
   rw [hX,decide_eq_decide] at h9
   unfold fndE
   rw [hpos,he,Bool.eq_iff_iff]
   simp [h9]
  refine wr9 [6,7] mx (by decide +kernel) ?_
  refine yd9 6 (by simp [c2,ci];rfl) rfl ?_
  refine yd9 5 (by simp [c2,ci,hk,reA,h8e,htk8,hld1,hld2,hid2];rfl) rfl ?_
  refine yv9 (by simp) (by first | (simp;done) | (simp;rfl)) hcmp (by simp;rfl) ?_
  refine yb9 (by simp;rfl) ?_
  refine yj9 ?_
  repeat (first | refine yp9 ?_ | refine ys9 ?_)
  simp [retW,hf]
  exact ⟨_,_,.inr ⟨rfl,rfl⟩,H.length,by omega,by simp,by simp [AV.under,AV.underL],by simpa using hh,rfl,by simp⟩
 ·have ci : ¬ (i : Int) < l.length := by omega
  have hf:fndE l k=false:=by
   unfold fndE
   rw [hpos,List.getElem?_eq_none (by omega)]
  refine wr9 [6,7] mx (by decide +kernel) ?_
  iterate 2 refine yd9 6 (by simp [c2,ci];rfl) rfl ?_
  refine yb9 (by simp;rfl) ?_
  refine yj9 ?_
  repeat (first | refine yp9 ?_ | refine ys9 ?_)
  simp [retW,hf]
  exact ⟨_,_,.inr ⟨rfl,rfl⟩,H.length,by omega,by simp,by simp [AV.under,AV.underL],by simpa using hh,rfl,by simp⟩
def yp7 (l:List RE) (s:List UInt8):Nat × Bool:=if symM s then (posE l (padK s),fndE l (padK s)) else (0,false)
theorem wt6 (l:List RE) (n:Nat) (s:List UInt8) (hs:s.length≤1000000000) (hp:l.Pairwise ltE) (h8:∀ e∈l,e.key.length=8) (hl:l.length≤1000000000):Sound Tryz.prog 31 [.agg [.lst .any 10 (reL l),.v (.int .i64 (n:Nat))],strB s] (.tup [.v (.int .i64 ((yp7 l s).1:Nat)),.v (.bool (yp7 l s).2)]):=by
 refine yc9 Tryz.func31 rfl (by decide +kernel) (by simp [Tryz.f31]) (by simp [AV.rfL,AV.rf,strB]) (by simp [AV.tlL,AV.tl,strB]) (rs:=[.tmp 4,.tmp 5]) rfl ?_
 rw [show Tryz.f31.ntmps=16 from rfl]
 have hv:=zr8 s (by omega)
 simp only [strB] at hv ⊢
 refine yr9 [1,2] (by simp;rfl) ?_
 refine yh9 ?_
 refine W_rK [1,2,8] ?_
 refine yq9 1 (by simp;rfl) rfl ?_
 refine yf9 (by simp) (by first | (simp;done) | (simp;rfl)) hv (by simp;rfl) ?_
 refine yw9 (by simp;rfl) ?_
 cases hy:symM s with
 | false =>
  refine yt9 rfl (fun h=>?_) (fun h=>by simp at h)
  refine yr9 [4,5] (by simp;rfl) ?_
  refine yj9 ?_
  repeat (first | refine yp9 ?_ | refine ys9 ?_)
  simp [retQ,yp7,hy]
 | true =>
  have hk:=wg8 s hy
  have hkl:=zt8 (un9 hy).2.2
  have hbs:=bs_sound l (padK s) hp h8 hkl hl
  rw [yp7,hy,if_pos rfl]
  obtain ⟨K,hK⟩:∃ K,padK s=K:=⟨_,rfl⟩
  simp only [strB,hK] at hk hbs ⊢
  refine yt9 rfl (fun h=>by simp at h) (fun h=>?_)
  refine yg9 ?_
  refine wr9 [4,5] mx (by decide +kernel) ?_
  refine yd9 3 (by simp;rfl) rfl ?_
  refine yv9 (by simp) (by first | (simp;done) | (simp;rfl)) hk (by simp;rfl) ?_
  refine yv9 (by simp) (by first | (simp;done) | (simp;rfl)) hbs (by simp;rfl) ?_
  refine yb9 (by simp;rfl) ?_
  refine yj9 ?_
  repeat (first | refine yp9 ?_ | refine ys9 ?_)
  simp [retQ]
theorem find_callW (l : List RE) (n : Nat) (s : List UInt8) (hs : s.length ≤ 1000000000) (hp : l.Pairwise ltE) (h8 : ∀ e ∈ l, e.key.length = 8) (hl : l.length ≤ 1000000000)
  (H:List AObj) (id cap:Nat) (cs:List AV) (hid:H[id]?=some (.cells 78 cs)) (hcs:CellsRE cs l) (hh:yn9 H.length H=true) :
  wp9 Tryz.prog 31 [.agg [.arr id 0 l.length cap,.v (.int .i64 (n:Nat))],strB s] H fun r h'=>r=.tup [.v (.int .i64 ((yp7 l s).1:Nat)),.v (.bool (yp7 l s).2)]∧h'=H:=by
 refine zh9 Tryz.func31 rfl (by decide +kernel) (by simp [Tryz.f31]) (rs:=[.tmp 4,.tmp 5]) rfl ?_
 rw [show Tryz.f31.ntmps=16 from rfl]
 have hid1:id < H.length:=(List.getElem?_eq_some_iff.1 hid).1
 have hv:=zr8 s (by omega)
 simp only [strB] at hv ⊢
 refine yr9 [1,2] (by simp;rfl) ?_
 refine yh9 ?_
 refine W_rK [1,2,8] ?_
 refine yq9 1 (by simp;rfl) rfl ?_
 refine yf9 (by simp) (by first | (simp;done) | (simp;rfl)) hv (by simp;rfl) ?_
 refine yw9 (by simp;rfl) ?_
 cases hy:symM s with
 | false =>
  refine yt9 rfl (fun h=>?_) (fun h=>by simp at h)
  refine yr9 [4,5] (by simp;rfl) ?_
  refine yj9 ?_
  repeat (first | refine yp9 ?_ | refine ys9 ?_)
  simp [retW,yp7,hy]
  exact ⟨_,_,.inr ⟨rfl,rfl⟩,H.length,by omega,by simp,by simp [AV.under,AV.underL],by simpa using hh,rfl,by simp⟩
 | true =>
  have hk:=wg8 s hy
  have hkl:=zt8 (un9 hy).2.2
  have hid2:(H++[AObj.cells 70 [.arr id 0 l.length cap,.v (.int .i64 (n:Nat))]])[id]?=some (.cells 78 cs):=by rw [List.getElem?_append_left hid1];exact hid
  have hbs:=bs_callW l (padK s) hp h8 hkl hl (H++[AObj.cells 70 [.arr id 0 l.length cap,.v (.int .i64 (n:Nat))]]) id cap cs hid2 hcs (by
   rw [xt9]
   simp [yn9,AObj.under,AV.under,AV.underL]
   exact ⟨wg9 (by omega) _ hh,by omega⟩)
  rw [yp7,hy,if_pos rfl]
  obtain ⟨K,hK⟩:∃ K,padK s=K:=⟨_,rfl⟩
  simp only [strB,hK] at hk hbs ⊢
  refine yt9 rfl (fun h=>by simp at h) (fun h=>?_)
  refine yg9 ?_
  refine W_rmK 4 5 [4,5] mx (by decide +kernel) ?_
  refine yd9 3 (by simp;rfl) rfl ?_
  refine yv9 (by simp) (by first | (simp;done) | (simp;rfl)) hk (by simp;rfl) ?_
  refine xp9 (f:=67) (args:=[.arr id 0 l.length cap,.agg (byL K),.fn (.func 69) [] []]) (by simp) (by simp [wq9,xq9]) (hbs.mono ?_)
  rintro r h' ⟨rfl,rfl⟩
  refine ⟨_,by simp;rfl,?_⟩
  refine yb9 (by simp;rfl) ?_
  refine yj9 ?_
  repeat (first | refine yp9 ?_ | refine ys9 ?_)
  simp [retW]
  exact ⟨_,_,.inr ⟨rfl,rfl⟩,H.length,by omega,by simp,by simp [AV.under,AV.underL],by simpa using hh,rfl,by simp⟩
theorem up9 (l:List RE) (n:Nat) (hn:n≤1000000000):Sound Tryz.prog 38 [.agg [.lst .any 10 (reL l),.v (.int .i64 (n:Nat))]] (.v (.int .i64 ((n+5) / 6:Nat))):=by
 refine yc9 Tryz.func38 rfl (by decide +kernel) (by simp [Tryz.f38]) (by simp [AV.rfL,AV.rf]) (by simp [AV.tlL,AV.tl]) (rs:=[.tmp 2]) rfl ?_
 rw [show Tryz.f38.ntmps=8 from rfl]
 have w1:IntKind.i64.wrap ((n:Int)+6)=(n:Int)+6:=w64 (by omega) (by omega)
 have w2:IntKind.i64.wrap ((n:Int)+6 - 1)=((n+5:Nat):Int):=by rw [w64 (by omega) (by omega)];omega
 have w3:Int.tdiv ((n+5:Nat):Int) 6=(((n+5) / 6:Nat):Int):=by rw [Int.tdiv_eq_ediv_of_nonneg (by omega)];omega
 have w4:IntKind.i64.wrap (((n+5) / 6:Nat):Int)=(((n+5) / 6:Nat):Int):=w64 (by omega) (by omega)
 obtain ⟨m,hm⟩:∃ m,n+5=m:=⟨_,rfl⟩
 rw [hm] at w2 w3 w4 ⊢
 obtain ⟨q,hq⟩:∃ q,m / 6=q:=⟨_,rfl⟩
 rw [hq] at w3 w4 ⊢
 refine yr9 [1] (by simp;rfl) ?_
 refine yr9 [2] (by simp [w1,w2,w3,w4];rfl) ?_
 refine yj9 ?_
 repeat (first | refine yp9 ?_ | refine ys9 ?_)
 simp [retQ]
theorem tracks_callW (n:Nat) (hn:n≤1000000000) (H:List AObj) (hh:yn9 H.length H=true) (id len cap:Nat):wp9 Tryz.prog 38 [.agg [.arr id 0 len cap,.v (.int .i64 (n:Nat))]] H fun r h'=>r=.v (.int .i64 ((n+5) / 6:Nat))∧h'=H:=by
 refine zh9 Tryz.func38 rfl (by decide +kernel) (by simp [Tryz.f38]) (rs:=[.tmp 2]) rfl ?_
 rw [show Tryz.f38.ntmps=8 from rfl]
 have w1:IntKind.i64.wrap ((n:Int)+6)=(n:Int)+6:=w64 (by omega) (by omega)
 have w2:IntKind.i64.wrap ((n:Int)+6 - 1)=((n+5:Nat):Int):=by rw [w64 (by omega) (by omega)];omega
 have w3:Int.tdiv ((n+5:Nat):Int) 6=(((n+5) / 6:Nat):Int):=by rw [Int.tdiv_eq_ediv_of_nonneg (by omega)];omega
 have w4:IntKind.i64.wrap (((n+5) / 6:Nat):Int)=(((n+5) / 6:Nat):Int):=w64 (by omega) (by omega)
 obtain ⟨m,hm⟩:∃ m,n+5=m:=⟨_,rfl⟩
 rw [hm] at w2 w3 w4 ⊢
 obtain ⟨q,hq⟩:∃ q,m / 6=q:=⟨_,rfl⟩
 rw [hq] at w3 w4 ⊢
 refine yr9 [1] (by simp;rfl) ?_
 refine yr9 [2] (by simp [w1,w2,w3,w4];rfl) ?_
 refine yj9 ?_
 repeat (first | refine yp9 ?_ | refine ys9 ?_)
 simp [retW]
 exact ⟨_,_,.inr ⟨rfl,rfl⟩,H.length,by omega,by simp,by simp [AV.under,AV.underL],by simpa using hh,rfl,by simp⟩
def vw8 (d:Dcb):Bool:=(d.org == 2)&&(zk9 d == 0)
theorem zb7 (d:Dcb):Sound Tryz.prog 30 [dcbA d] (.v (.bool (vw8 d))):=by
 refine yc9 Tryz.func30 rfl (by decide +kernel) (by simp [Tryz.f30]) rfl rfl (rs:=[.tmp 2]) rfl ?_
 rw [show Tryz.f30.ntmps=11 from rfl]
 have hc:=kh8 d
 refine yr9 [1] (by simp;rfl) ?_
 by_cases h:d.org=2
 ·have h2:(d.org == 2)=true:=by simpa using h
  refine W_rK [2] ?_
  refine yq9 5 (by simp [h2];rfl) rfl ?_
  refine yf9 (by simp) (by first | (simp;done) | (simp;rfl)) hc (by simp;rfl) ?_
  refine yw9 (by simp;rfl) ?_
  refine yj9 ?_
  repeat (first | refine yp9 ?_ | refine ys9 ?_)
  simp [retQ,vw8,h2]
 ·have h2:(d.org == 2)=false:=by simpa using h
  refine yr9 [2] (by simp [h2];rfl) ?_
  refine yj9 ?_
  repeat (first | refine yp9 ?_ | refine ys9 ?_)
  simp [retQ,vw8,h2]
theorem qr7 (d:Dcb):Sound Tryz.prog 45 [dcbA d] (.v (.bool (vw8 d))):=by
 refine yc9 Tryz.func45 rfl (by decide +kernel) (by simp [Tryz.f45]) rfl rfl (rs:=[.tmp 2]) rfl ?_
 rw [show Tryz.f45.ntmps=10 from rfl]
 have hc:=qj8 d
 rw [vw7] at hc
 refine yr9 [1] (by simp;rfl) ?_
 by_cases h:zk9 d=0
 ·rw [decide_eq_true h] at hc
  refine W_rK [2] ?_
  refine yq9 1 (by simp;rfl) rfl ?_
  refine yf9 (by simp) (by first | (simp;done) | (simp;rfl)) hc (by simp;rfl) ?_
  refine yw9 (by simp;rfl) ?_
  refine yj9 ?_
  repeat (first | refine yp9 ?_ | refine ys9 ?_)
  simp [retQ,vw8,h]
 ·rw [decide_eq_false h] at hc
  refine W_rK [2] ?_
  refine yq9 1 (by simp;rfl) rfl ?_
  refine yf9 (by simp) (by first | (simp;done) | (simp;rfl)) hc (by simp;rfl) ?_
  refine yw9 (by simp;rfl) ?_
  refine yj9 ?_
  repeat (first | refine yp9 ?_ | refine ys9 ?_)
  simp [retQ,vw8,h]
end Go.AM
