/- Parts of the walk: C24K C24L R31T C24E C24G C24H. -/
import Derived.Test.YthjcnajpcphcpaaGreatG6
namespace Go.AM
open Go.RowKit Go.Proofs
set_option linter.unusedSimpArgs false
set_option linter.unusedVariables false
set_option maxHeartbeats 8000000
set_option maxRecDepth 20000
theorem dec_and4 {a b:Rec}:decide (a=b)=(decide (a.R=b.R)&&(decide (a.bad=b.bad)&&(decide (a.key=b.key)&&decide (a.data=b.data)))):=by
 obtain ⟨r,k,d,x⟩:=a
 obtain ⟨r',k',d',x'⟩:=b
 rw [Bool.eq_iff_iff]
 simp only [Rec.mk.injEq,decide_eq_true_eq,Bool.and_eq_true]
 constructor
 ·rintro ⟨h1,h2,h3,h4⟩;exact ⟨h1,h4,h2,h3⟩
 ·rintro ⟨h1,h4,h2,h3⟩;exact ⟨h1,h2,h3,h4⟩
theorem sr_sound (a b:Rec):Sound Tryz.prog 101 [recA a,recA b] (.v (.bool (decide (a=b)))):=by
 refine yc9 Tryz.func101 rfl (by decide +kernel) (by simp [Tryz.f101]) rfl rfl (rs:=[.tmp 4]) rfl ?_
 rw [show Tryz.f101.ntmps=31 from rfl]
 rw [dec_and4]
 obtain ⟨aR,ak,ad,ax⟩:=a
 obtain ⟨bR,bk,bd,bx⟩:=b
 simp only
 refine yr9 [2,3] (by simp;rfl) ?_
 cases h1:(aR == bR) with
 | false =>
  have h1':¬ aR=bR:=by simpa using h1
  refine W_rK [4] ?_
  refine yq9 6 (by simp [h1,h1'];rfl) rfl ?_
  iterate 2 refine yq9 7 (by simp;rfl) rfl ?_
  refine yw9 (by simp;rfl) ?_
  refine yj9 ?_
  repeat (first | refine yp9 ?_ | refine ys9 ?_)
  simp [retQ,h1']
 | true =>
 have h1':aR=bR:=by simpa using h1
 subst h1'
 by_cases h2:ax=bx
 rotate_left
 ·cases ax <;> cases bx <;> simp at h2
  all_goals
   refine W_rK [4] ?_
   refine yq9 6 (by simp;rfl) rfl ?_
   iterate 2 refine yq9 7 (by simp;rfl) rfl ?_
   refine yw9 (by simp;rfl) ?_
   refine yj9 ?_
   repeat (first | refine yp9 ?_ | refine ys9 ?_)
   simp [retQ]
 subst h2
 have hk:=kn7 ak bk
 have hd:=kn7 ad bd
 cases h3:decide (ak=bk) with
 | false =>
  rw [h3] at hk
  refine W_rK [4] ?_
  iterate 2 refine yq9 6 (by simp;rfl) rfl ?_
  refine yq9 5 (by simp;rfl) rfl ?_
  refine yf9 (by simp) (by first | (simp;done) | (simp;rfl)) hk (by simp;rfl) ?_
  refine yq9 6 (by simp;rfl) rfl ?_
  refine yw9 (by simp;rfl) ?_
  refine yj9 ?_
  repeat (first | refine yp9 ?_ | refine ys9 ?_)
  simp [retQ]
 | true =>
  rw [h3] at hk
  refine W_rK [4] ?_
  iterate 2 refine yq9 6 (by simp;rfl) rfl ?_
  refine yq9 5 (by simp;rfl) rfl ?_
  refine yf9 (by simp) (by first | (simp;done) | (simp;rfl)) hk (by simp;rfl) ?_
  refine yq9 6 (by simp;rfl) rfl ?_
  refine yf9 (by simp) (by first | (simp;done) | (simp;rfl)) hd (by simp;rfl) ?_
  refine yw9 (by simp;rfl) ?_
  refine yj9 ?_
  repeat (first | refine yp9 ?_ | refine ys9 ?_)
  simp [retQ]
theorem eqT_sound (a b:List (Rec)) (hl:a.length≤100000000):Sound Tryz.prog 100 [.lst .any 4 (trL a),.lst .any 4 (trL b),.fn (.func 101) [] []] (.v (.bool (decide (a=b)))):=by
 refine yc9 Tryz.func100 rfl (by decide +kernel) (by simp [Tryz.f100]) (by simp [AV.rfL,AV.rf]) (by simp [AV.tlL,AV.tl]) (rs:=[.tmp 6]) rfl ?_
 rw [show Tryz.f100.ntmps=32 from rfl]
 refine yr9 [0,1,2] (by simp;rfl) ?_
 refine yh9 ?_
 by_cases c:a.length=b.length
 rotate_left
 ·have hne:¬ a=b:=fun e=>c (by rw [e])
  refine W_cT [0,1,2,14] (by simp [ne_nat,c];rfl) rfl ?_
  refine yr9 [6] (by simp;rfl) ?_
  refine yj9 ?_
  repeat (first | refine yp9 ?_ | refine ys9 ?_)
  simp [retQ,hne]
 refine W_cF [0,1,2,14] (by simp [c];rfl) rfl ?_
 refine yg9 ?_
 refine yh9 ?_
 refine yr9 [1,2,15,16,17] (by simp;rfl) ?_
 refine yl9 ?_
 refine zj9 (fun k s=>∃ i:Nat,k=a.length - i∧i≤a.length∧a.take i=b.take i∧s=⟨32,[(1,.lst .any 4 (trL b)),(2,.fn (.func 101) [] []),(15,.lst .any 4 (trL a)),(16,.v (.int .i64 (a.length:Nat))),(17,.v (.int .i64 (i:Nat)))],[]⟩) (k:=a.length) ⟨0,rfl,by omega,by simp,by simp⟩ ?_
 rintro k s ⟨i,rfl,hi,hab,rfl⟩
 by_cases hi2:i < a.length
 ·have hj2 : i < b.length := by omega
  have hi2':(i:Int) < a.length:=by omega
  have hj2':(i:Int) < b.length:=by omega
  obtain ⟨r,hr⟩:∃ r,a[i]?=some r:=⟨_,List.getElem?_eq_getElem hi2⟩
  obtain ⟨q,hq⟩:∃ q,b[i]?=some q:=⟨_,List.getElem?_eq_getElem hj2⟩
  have hr2:a[i]'hi2=r:=by rw [List.getElem?_eq_getElem hi2] at hr;exact Option.some.inj hr
  have hq2:b[i]'hj2=q:=by rw [List.getElem?_eq_getElem hj2] at hq;exact Option.some.inj hq
  have wi:=w64 (n:=(i:Int)+1) (by omega) (by omega)
  have hcl:=sr_sound r q
  refine yr9 [1,2,15,16,17,18] (by simp [hi2];rfl) ?_
  refine yh9 ?_
  refine yt9 rfl (fun h=>?_) (fun h=>by simp at h)
  refine yg9 ?_
  refine yh9 ?_
  refine yl9 ?_
  refine yr9 [1,2,15,16,17,7,8] (by simp [hi2,hi2',hr2,yk9];rfl) ?_
  refine yr9 [1,2,15,16,17,8,9] (by simp [hj2,hj2',hq2,yk9];rfl) ?_
  refine W_rK [1,2,15,16,17,30] ?_
  refine yq9 3 (by simp;rfl) rfl ?_
  refine yf9 (by simp) (by first | (simp;done) | (simp;rfl)) hcl (by simp;rfl) ?_
  by_cases e:r=q
  ·subst e
   refine yw9 (by simp;rfl) ?_
   refine yt9 (t:=false) (by simp) (fun h=>by simp at h) (fun h=>?_)
   refine yg9 ?_
   refine vd9 0 (by simp) (by simp) (by simp [zk9,AV.under,AV.underL]) (by simp [yn9]) ?_
   refine zr9 [1,2,15,16,17] (by simp [wi];rfl) ?_
   exact ⟨_,by omega,i+1,rfl,by omega,vg9 hr hq hab,by simp⟩
  ·have hne:¬ a=b:=fun he=>e (by rw [he,hq] at hr;exact (Option.some.inj hr).symm)
   refine yw9 (by simp [e];rfl) ?_
   refine yt9 (t:=true) (by simp [e]) (fun h=>?_) (fun h=>by simp at h)
   refine yr9 [6] (by simp;rfl) ?_
   refine yj9 ?_
   repeat (first | refine yp9 ?_ | refine ys9 ?_)
   simp [retQ,hne]
 have hie:i=a.length:=by omega
 have heq:a=b:=by
  have h1:=hab
  rw [hie,List.take_length,c,List.take_length] at h1
  exact h1
 refine yr9 [18] (by simp [hie];rfl) ?_
 refine yh9 ?_
 refine yt9 (t:=false) (by simp [hie]) (fun h=>by simp at h) (fun h=>?_)
 refine zs9 ?_
 refine yr9 [6] (by simp;rfl) ?_
 refine yj9 ?_
 repeat (first | refine yp9 ?_ | refine ys9 ?_)
 simp [retQ,heq]
theorem us7 (a b:List Rec) (hl:a.length≤100000000):Sound Tryz.prog 65 [.lst .any 4 (trL a),.lst .any 4 (trL b)] (.v (.bool (decide (a=b)))):=by
 refine yc9 Tryz.func65 rfl (by decide +kernel) (by simp [Tryz.f65]) (by simp [AV.rfL,AV.rf]) (by simp [AV.tlL,AV.tl]) (rs:=[.tmp 4]) rfl ?_
 rw [show Tryz.f65.ntmps=8 from rfl]
 refine yr9 [0,1] (by simp;rfl) ?_
 refine W_rK [4] ?_
 refine yq9 2 (by simp;rfl) rfl ?_
 refine yf9 (by simp) (by first | (simp;done) | (simp;rfl)) (eqT_sound a b hl) (by simp;rfl) ?_
 refine yw9 (by simp;rfl) ?_
 refine yj9 ?_
 repeat (first | refine yp9 ?_ | refine ys9 ?_)
 simp [retQ]
theorem eqTs_sound (a b:List (List Rec)) (hl:a.length≤100000000) (ht:∀ t∈a,t.length≤100000000):Sound Tryz.prog 64 [.lst .any 1 (arL a),.lst .any 1 (arL b),.fn (.func 65) [] []] (.v (.bool (decide (a=b)))):=by
 refine yc9 Tryz.func64 rfl (by decide +kernel) (by simp [Tryz.f64]) (by simp [AV.rfL,AV.rf]) (by simp [AV.tlL,AV.tl]) (rs:=[.tmp 6]) rfl ?_
 rw [show Tryz.f64.ntmps=32 from rfl]
 refine yr9 [0,1,2] (by simp;rfl) ?_
 refine yh9 ?_
 by_cases c:a.length=b.length
 rotate_left
 ·have hne:¬ a=b:=fun e=>c (by rw [e])
  refine W_cT [0,1,2,14] (by simp [ne_nat,c];rfl) rfl ?_
  refine yr9 [6] (by simp;rfl) ?_
  refine yj9 ?_
  repeat (first | refine yp9 ?_ | refine ys9 ?_)
  simp [retQ,hne]
 refine W_cF [0,1,2,14] (by simp [c];rfl) rfl ?_
 refine yg9 ?_
 refine yh9 ?_
 refine yr9 [1,2,15,16,17] (by simp;rfl) ?_
 refine yl9 ?_
 refine zj9 (fun k s=>∃ i:Nat,k=a.length - i∧i≤a.length∧a.take i=b.take i∧s=⟨32,[(1,.lst .any 1 (arL b)),(2,.fn (.func 65) [] []),(15,.lst .any 1 (arL a)),(16,.v (.int .i64 (a.length:Nat))),(17,.v (.int .i64 (i:Nat)))],[]⟩) (k:=a.length) ⟨0,rfl,by omega,by simp,by simp⟩ ?_
 rintro k s ⟨i,rfl,hi,hab,rfl⟩
 by_cases hi2:i < a.length
 ·have hj2 : i < b.length := by omega
  have hi2':(i:Int) < a.length:=by omega
  have hj2':(i:Int) < b.length:=by omega
  obtain ⟨r,hr⟩:∃ r,a[i]?=some r:=⟨_,List.getElem?_eq_getElem hi2⟩
  obtain ⟨q,hq⟩:∃ q,b[i]?=some q:=⟨_,List.getElem?_eq_getElem hj2⟩
  have hr2:a[i]'hi2=r:=by rw [List.getElem?_eq_getElem hi2] at hr;exact Option.some.inj hr
  have hq2:b[i]'hj2=q:=by rw [List.getElem?_eq_getElem hj2] at hq;exact Option.some.inj hq
  have wi:=w64 (n:=(i:Int)+1) (by omega) (by omega)
  have hcl:=us7 r q (ht r (List.mem_of_getElem? hr))
  refine yr9 [1,2,15,16,17,18] (by simp [hi2];rfl) ?_
  refine yh9 ?_
  refine yt9 rfl (fun h=>?_) (fun h=>by simp at h)
  refine yg9 ?_
  refine yh9 ?_
  refine yl9 ?_
  refine yr9 [1,2,15,16,17,7,8] (by simp [hi2,hi2',hr2];rfl) ?_
  refine yr9 [1,2,15,16,17,8,9] (by simp [hj2,hj2',hq2];rfl) ?_
  refine W_rK [1,2,15,16,17,30] ?_
  refine yq9 3 (by simp;rfl) rfl ?_
  refine yf9 (by simp) (by first | (simp;done) | (simp;rfl)) hcl (by simp;rfl) ?_
  by_cases e:r=q
  ·subst e
   refine yw9 (by simp;rfl) ?_
   refine yt9 (t:=false) (by simp) (fun h=>by simp at h) (fun h=>?_)
   refine yg9 ?_
   refine zr9 [1,2,15,16,17] (by simp [wi];rfl) ?_
   exact ⟨_,by omega,i+1,rfl,by omega,vg9 hr hq hab,by simp⟩
  ·have hne:¬ a=b:=fun he=>e (by rw [he,hq] at hr;exact (Option.some.inj hr).symm)
   refine yw9 (by simp [e];rfl) ?_
   refine yt9 (t:=true) (by simp [e]) (fun h=>?_) (fun h=>by simp at h)
   refine yr9 [6] (by simp;rfl) ?_
   refine yj9 ?_
   repeat (first | refine yp9 ?_ | refine ys9 ?_)
   simp [retQ,hne]
 have hie:i=a.length:=by omega
 have heq:a=b:=by
  have h1:=hab
  rw [hie,List.take_length,c,List.take_length] at h1
  exact h1
 refine yr9 [18] (by simp [hie];rfl) ?_
 refine yh9 ?_
 refine yt9 (t:=false) (by simp [hie]) (fun h=>by simp at h) (fun h=>?_)
 refine zs9 ?_
 refine yr9 [6] (by simp;rfl) ?_
 refine yj9 ?_
 repeat (first | refine yp9 ?_ | refine ys9 ?_)
 simp [retQ,heq]
theorem k8_sound (r:Rec):Sound Tryz.prog 61 [recA r] (.v (.bool (decide (r.key.length=8)))):=by
 refine yc9 Tryz.func61 rfl (by decide +kernel) (by simp [Tryz.f61]) rfl rfl (rs:=[.tmp 2]) rfl ?_
 rw [show Tryz.f61.ntmps=7 from rfl]
 refine yr9 [1] (by simp;rfl) ?_
 refine yr9 [2] (by simp;rfl) ?_
 refine yj9 ?_
 repeat (first | refine yp9 ?_ | refine ys9 ?_)
 simp [retQ]
 rw [Bool.eq_iff_iff]
 simp
 omega
theorem rn_sound (r:Rec) (n:Int):Sound Tryz.prog 130 [recA r,.ro (.v (.int .i64 n))] (.v (.bool (r.R == n))):=by
 refine yc9 Tryz.func130 rfl (by decide +kernel) (by simp [Tryz.f130]) rfl rfl (rs:=[.tmp 3]) rfl ?_
 rw [show Tryz.f130.ntmps=8 from rfl]
 refine yr9 [1,2] (by simp;rfl) ?_
 refine yr9 [3] (by simp;rfl) ?_
 refine yj9 ?_
 repeat (first | refine yp9 ?_ | refine ys9 ?_)
 simp [retQ]
theorem idxK_sound (t:List Rec) (hl:t.length≤100000000):Sound Tryz.prog 98 [.lst .any 4 (trL t),.fn (.func 61) [] []] (.v (.int .i64 (match t.findIdx? (fun r:Rec=>decide (r.key.length=8)) with | some i=>((i:Nat):Int) | none=>-1))):=by
 refine yc9 Tryz.func98 rfl (by decide +kernel) (by simp [Tryz.f98]) (by simp [AV.rfL,AV.rf]) (by simp [AV.tlL,AV.tl]) (rs:=[.tmp 4]) rfl ?_
 rw [show Tryz.f98.ntmps=19 from rfl]
 refine yr9 [0,1] (by simp;rfl) ?_
 refine yh9 ?_
 refine yr9 [0,1,7,8] (by simp;rfl) ?_
 refine yl9 ?_
 refine zj9 (fun k s=>∃ i:Nat,k=t.length - i∧i≤t.length∧(∀ r∈t.take i,(fun r:Rec=>decide (r.key.length=8)) r=false)∧s=⟨19,[(0,.lst .any 4 (trL t)),(1,.fn (.func 61) [] []),(7,.v (.int .i64 (t.length:Nat))),(8,.v (.int .i64 (i:Nat)))],[]⟩) (k:=t.length) ⟨0,rfl,by omega,by simp,by simp⟩ ?_
 rintro k s ⟨i,rfl,hi,hab,rfl⟩
 by_cases c:i < t.length
 ·have ci : (i : Int) < t.length := by omega
  obtain ⟨r,hr⟩:∃ r,t[i]?=some r:=⟨_,List.getElem?_eq_getElem c⟩
  have hr2:t[i]'c=r:=by rw [List.getElem?_eq_getElem c] at hr;exact Option.some.inj hr
  have wi:=w64 (n:=(i:Int)+1) (by omega) (by omega)
  have hcl:=k8_sound r
  refine yr9 [0,1,7,8,9] (by simp [c,ci];rfl) ?_
  refine yh9 ?_
  refine yt9 (t:=true) (by simp [c,ci]) (fun h=>?_) (fun h=>by simp at h)
  refine yg9 ?_
  refine yh9 ?_
  refine yl9 ?_
  refine yr9 [0,1,7,8,5] (by simp;rfl) ?_
  refine W_rK [0,1,7,8,5,16] ?_
  refine yq9 5 (by simp [c,ci,hr2];rfl) rfl ?_
  refine yf9 (by simp) (by first | (simp;done) | (simp;rfl)) hcl (by simp;rfl) ?_
  refine yw9 (by simp;rfl) ?_
  cases hb:(fun r:Rec=>decide (r.key.length=8)) r with
  | true =>
   refine yt9 (t:=true) (by simp [hb]) (fun h=>?_) (fun h=>by simp at h)
   refine yr9 [4] (by simp;rfl) ?_
   refine yj9 ?_
   repeat (first | refine yp9 ?_ | refine ys9 ?_)
   have hfi:t.findIdx? (fun r:Rec=>decide (r.key.length=8))=some i:=by
    rw [List.findIdx?_eq_some_iff_getElem]
    refine ⟨c,by rw [hr2];exact hb,fun j hj=>?_⟩
    have h9:=hab t[j] (List.mem_take_iff_getElem.2 ⟨j,by omega,rfl⟩)
    intro h10
    have h11:=h9.symm.trans h10
    cases h11
   rw [hfi]
   simp [retQ]
  | false =>
   refine yt9 (t:=false) (by simp [hb]) (fun h=>by simp at h) (fun h=>?_)
   refine yg9 ?_
   refine zr9 [0,1,7,8] (by simp [wi];rfl) ?_
   refine ⟨_,by omega,i+1,rfl,by omega,fun q hq=>?_,by simp⟩
   rw [List.take_add_one,hr] at hq
   rcases List.mem_append.1 hq with hq | hq
   ·exact hab q hq
   ·rw [List.mem_singleton.1 hq];exact hb
 have hie:i=t.length:=by omega
 refine yr9 [9] (by simp [hie];rfl) ?_
 refine yh9 ?_
 refine yt9 (t:=false) (by simp [hie]) (fun h=>by simp at h) (fun h=>?_)
 refine zs9 ?_
 refine yr9 [4] (by simp;rfl) ?_
 refine yj9 ?_
 repeat (first | refine yp9 ?_ | refine ys9 ?_)
 have hfi:t.findIdx? (fun r:Rec=>decide (r.key.length=8))=none:=by
  rw [List.findIdx?_eq_none_iff]
  intro x hx
  rw [hie,List.take_length] at hab
  exact hab x hx
 rw [hfi]
 simp [retQ]
theorem idxR_sound (t:List Rec) (n:Int) (hl:t.length≤100000000):Sound Tryz.prog 98 [.lst .any 4 (trL t),.fn (.func 130) [] [.ro (.v (.int .i64 n))]] (.v (.int .i64 (match t.findIdx? (fun r:Rec=>r.R == n) with | some i=>((i:Nat):Int) | none=>-1))):=by
 refine yc9 Tryz.func98 rfl (by decide +kernel) (by simp [Tryz.f98]) (by simp [AV.rfL,AV.rf]) (by simp [AV.tlL,AV.tl]) (rs:=[.tmp 4]) rfl ?_
 rw [show Tryz.f98.ntmps=19 from rfl]
 refine yr9 [0,1] (by simp;rfl) ?_
 refine yh9 ?_
 refine yr9 [0,1,7,8] (by simp;rfl) ?_
 refine yl9 ?_
 refine zj9 (fun k s=>∃ i:Nat,k=t.length - i∧i≤t.length∧(∀ r∈t.take i,(fun r:Rec=>r.R == n) r=false)∧s=⟨19,[(0,.lst .any 4 (trL t)),(1,.fn (.func 130) [] [.ro (.v (.int .i64 n))]),(7,.v (.int .i64 (t.length:Nat))),(8,.v (.int .i64 (i:Nat)))],[]⟩) (k:=t.length) ⟨0,rfl,by omega,by simp,by simp⟩ ?_
 rintro k s ⟨i,rfl,hi,hab,rfl⟩
 by_cases c:i < t.length
 ·have ci : (i : Int) < t.length := by omega
  obtain ⟨r,hr⟩:∃ r,t[i]?=some r:=⟨_,List.getElem?_eq_getElem c⟩
  have hr2:t[i]'c=r:=by rw [List.getElem?_eq_getElem c] at hr;exact Option.some.inj hr
  have wi:=w64 (n:=(i:Int)+1) (by omega) (by omega)
  have hcl:=rn_sound r n
  refine yr9 [0,1,7,8,9] (by simp [c,ci];rfl) ?_
  refine yh9 ?_
  refine yt9 (t:=true) (by simp [c,ci]) (fun h=>?_) (fun h=>by simp at h)
  refine yg9 ?_
  refine yh9 ?_
  refine yl9 ?_
  refine yr9 [0,1,7,8,5] (by simp;rfl) ?_
  refine W_rK [0,1,7,8,5,16] ?_
  refine yq9 5 (by simp [c,ci,hr2];rfl) rfl ?_
  refine yf9 (by simp) (by first | (simp;done) | (simp;rfl)) hcl (by simp;rfl) ?_
  refine yw9 (by simp;rfl) ?_
  cases hb:(fun r:Rec=>r.R == n) r with
  | true =>
   refine yt9 (t:=true) (by simp [hb]) (fun h=>?_) (fun h=>by simp at h)
   refine yr9 [4] (by simp;rfl) ?_
   refine yj9 ?_
   repeat (first | refine yp9 ?_ | refine ys9 ?_)
   have hfi:t.findIdx? (fun r:Rec=>r.R == n)=some i:=by
    rw [List.findIdx?_eq_some_iff_getElem]
    refine ⟨c,by rw [hr2];exact hb,fun j hj=>?_⟩
    have h9:=hab t[j] (List.mem_take_iff_getElem.2 ⟨j,by omega,rfl⟩)
    intro h10
    have h11:=h9.symm.trans h10
    cases h11
   rw [hfi]
   simp [retQ]
  | false =>
   refine yt9 (t:=false) (by simp [hb]) (fun h=>by simp at h) (fun h=>?_)
   refine yg9 ?_
   refine zr9 [0,1,7,8] (by simp [wi];rfl) ?_
   refine ⟨_,by omega,i+1,rfl,by omega,fun q hq=>?_,by simp⟩
   rw [List.take_add_one,hr] at hq
   rcases List.mem_append.1 hq with hq | hq
   ·exact hab q hq
   ·rw [List.mem_singleton.1 hq];exact hb
 have hie:i=t.length:=by omega
 refine yr9 [9] (by simp [hie];rfl) ?_
 refine yh9 ?_
 refine yt9 (t:=false) (by simp [hie]) (fun h=>by simp at h) (fun h=>?_)
 refine zs9 ?_
 refine yr9 [4] (by simp;rfl) ?_
 refine yj9 ?_
 repeat (first | refine yp9 ?_ | refine ys9 ?_)
 have hfi:t.findIdx? (fun r:Rec=>r.R == n)=none:=by
  rw [List.findIdx?_eq_none_iff]
  intro x hx
  rw [hie,List.take_length] at hab
  exact hab x hx
 rw [hfi]
 simp [retQ]
theorem keyed_sound (t:List Rec) (hl:t.length≤100000000):Sound Tryz.prog 60 [.lst .any 4 (trL t),.fn (.func 61) [] []] (.v (.bool (ks9 t))):=by
 refine yc9 Tryz.func60 rfl (by decide +kernel) (by simp [Tryz.f60]) (by simp [AV.rfL,AV.rf]) (by simp [AV.tlL,AV.tl]) (rs:=[.tmp 4]) rfl ?_
 rw [show Tryz.f60.ntmps=9 from rfl]
 have hx:=idxK_sound t hl
 refine yr9 [0,1] (by simp;rfl) ?_
 refine W_rK [4] ?_
 refine yq9 2 (by simp;rfl) rfl ?_
 refine yf9 (by simp) (by first | (simp;done) | (simp;rfl)) hx (by simp;rfl) ?_
 refine yw9 (by simp;rfl) ?_
 refine yj9 ?_
 repeat (first | refine yp9 ?_ | refine ys9 ?_)
 have hk:ks9 t=(t.findIdx? fun r=>decide (r.key.length=8)).isSome:=by
  unfold ks9
  cases h:t.findIdx? fun r=>decide (r.key.length=8) with
  | none =>
   rw [List.findIdx?_eq_none_iff] at h
   rw [Option.isSome_none,List.any_eq_false]
   intro x hx
   rw [h x hx]
   decide
  | some i =>
   rw [List.findIdx?_eq_some_iff_getElem] at h
   obtain ⟨h1,h2,_⟩:=h
   rw [Option.isSome_some,List.any_eq_true]
   exact ⟨t[i],List.getElem_mem h1,h2⟩
 rw [hk]
 cases t.findIdx? fun r=>decide (r.key.length=8) with
 | none=>simp [retQ]
 | some i=>simp [retQ]
theorem tfind_sound (t:List Rec) (n:Int) (hl:t.length≤100000000):Sound Tryz.prog 108 [.lst .any 4 (trL t),.v (.int .i64 n)] (.tup [.v (.int .i64 (((kf9 t n).getD 0:Nat):Int)),.v (.bool (kf9 t n).isSome)]):=by
 refine yc9 Tryz.func108 rfl (by decide +kernel) (by simp [Tryz.f108]) (by simp [AV.rfL,AV.rf]) (by simp [AV.tlL,AV.tl]) (rs:=[.tmp 4,.tmp 5]) rfl ?_
 rw [show Tryz.f108.ntmps=14 from rfl]
 have hx:=idxR_sound t n hl
 rw [show (t.findIdx? fun r:Rec=>r.R == n)=kf9 t n from rfl] at hx
 obtain ⟨X,hX⟩:∃ X:Int,(match kf9 t n with | some i=>((i:Nat):Int) | none=>-1)=X:=⟨_,rfl⟩
 rw [hX] at hx
 have h1:(if X < 0 then (0:Int) else X)=(((kf9 t n).getD 0:Nat):Int):=by
  rw [← hX]
  cases kf9 t n with
  | none=>rfl
  | some i=>simp only [Option.getD_some];split <;> omega
 have h2:decide (0≤X)=(kf9 t n).isSome:=by
  rw [← hX]
  cases kf9 t n with
  | none=>rfl
  | some i=>simp
 refine yr9 [0,3] (by simp;rfl) ?_
 refine W_roB 3 (tk:=1) (x:=.v (.int .i64 n)) (o:=.tip 3 1) (s0:=1) (h':=[.froz 3 [.v (.int .i64 n)]]) rfl (by decide) (by simp [ws9,chunk]) rfl ?_
 refine vd9 0 (by simp) (by simp) (by simp [zk9,putF,AV.under,AV.underL]) (by simp [yn9]) ?_
 refine (show Wt true 0 Tryz.prog _ _ ⟨14,[(0,.lst .any 4 (trL t)),(3,.ro (.v (.int .i64 n)))],[]⟩ from ?_)
 refine W_rK [6] ?_
 refine yq9 2 (by simp;rfl) rfl ?_
 refine yf9 (by simp) (by first | (simp;done) | (simp;rfl)) hx (by simp;rfl) ?_
 refine yw9 (by simp;rfl) ?_
 refine yr9 [4,5] (by simp [h1,h2];rfl) ?_
 refine yj9 ?_
 repeat (first | refine yp9 ?_ | refine ys9 ?_)
 simp [retQ,h2]
set_option maxRecDepth 20000
theorem ogoE_at : ∀ {l : List RE} {p : Option (List UInt8)}, ogoE p l = true ↔ ∀ (i : Nat) e, l[i]? = some e → symM (nmM e.key) = true ∧ (∀ k, (if i = 0 then p else (l[i - 1]?).map (·.key)) = some k → Op.bytesLess k e.key = true)
 | [],p=>by cases p <;> simp [ogoE]
 | x :: l,p=>by
  rw [show ogoE p (x :: l)=(symM (nmM x.key)&&((match p with | none=>true | some k=>Op.bytesLess k x.key)&&ogoE (some x.key) l)) by cases p <;> rfl,Bool.and_eq_true,Bool.and_eq_true,ogoE_at (p:=some x.key)]
  constructor
  ·rintro ⟨h1, h2, h3⟩ i e he
   cases i with
   | zero =>
    simp at he
    subst he
    refine ⟨h1,fun k hk=>?_⟩
    simp at hk
    subst hk
    exact h2
   | succ i =>
    obtain ⟨a,b⟩:=h3 i e (by simpa using he)
    refine ⟨a,fun k hk=>b k ?_⟩
    rw [if_neg (by omega),Nat.add_sub_cancel] at hk
    cases i with
    | zero=>simpa using hk
    | succ i=>rw [if_neg (by omega)];simpa using hk
  ·intro h
   refine ⟨(h 0 x rfl).1,?_,fun i e he=>?_⟩
   ·cases p with
    | none=>rfl
    | some k=>exact (h 0 x rfl).2 k rfl
   ·obtain ⟨a,b⟩:=h (i+1) e (by simpa using he)
    refine ⟨a,fun k hk=>b k ?_⟩
    rw [if_neg (by omega),Nat.add_sub_cancel]
    cases i with
    | zero=>simpa using hk
    | succ i=>rw [if_neg (by omega)] at hk;simpa using hk
theorem ordE_at {l:List RE}:ordE l=true ↔ ∀ (i:Nat) e,l[i]?=some e→symM (nmM e.key)=true∧(∀ d,0 < i→l[i - 1]?=some d→Op.bytesLess d.key e.key=true):=by
 rw [ordE,ogoE_at]
 constructor
 ·intro h i e he
  obtain ⟨a,b⟩:=h i e he
  refine ⟨a,fun d hi hd=>b _ ?_⟩
  rw [if_neg (by omega),hd]
  rfl
 ·intro h i e he
  obtain ⟨a,b⟩:=h i e he
  refine ⟨a,fun k hk=>?_⟩
  by_cases hi:i=0
  ·rw [if_pos hi] at hk;cases hk
  ·rw [if_neg hi] at hk
   obtain ⟨d,hd,rfl⟩:=Option.map_eq_some_iff.1 hk
   exact b d (by omega) hd
theorem ut6 (l:List RE) (n:Nat) (h8:∀ e∈l,e.key.length=8) (hl:l.length≤1000000000):Sound Tryz.prog 63 [.agg [.lst .any 10 (reL l),.v (.int .i64 (n:Nat))]] (.v (.bool (ordE l))):=by
 refine yc9 Tryz.func63 rfl (by decide +kernel) (by simp [Tryz.f63]) (by simp [AV.rfL,AV.rf]) (by simp [AV.tlL,AV.tl]) (rs:=[.tmp 2]) rfl ?_
 rw [show Tryz.f63.ntmps=34 from rfl]
 refine yr9 [1] (by simp;rfl) ?_
 refine yh9 ?_
 refine yr9 [1,6,7,8] (by simp;rfl) ?_
 refine yl9 ?_
 refine zj9 (fun q s => ∃ i : Nat, q = l.length - i ∧ i ≤ l.length ∧ (∀ (m : Nat) e, m < i → l[m]? = some e → symM (nmM e.key) = true ∧ (∀ d, 0 < m → l[m - 1]? = some d → Op.bytesLess d.key e.key = true)) ∧
  s=⟨34,[(1,.loc 0 0),(6,.lst .any 10 (reL l)),(7,.v (.int .i64 (l.length:Nat))),(8,.v (.int .i64 (i:Nat)))],[.cells 70 [.lst .any 10 (reL l),.v (.int .i64 (n:Nat))]]⟩) (k:=l.length) ⟨0,rfl,by omega,by intro m e hm;omega,by simp⟩ ?_
 rintro q s ⟨i,rfl,hi,hall,rfl⟩
 by_cases c:i < l.length
 ·have ci : (i : Int) < l.length := by omega
  have wi:=w64 (n:=(i:Int)+1) (by omega) (by omega)
  obtain ⟨e,he⟩:∃ e,l[i]?=some e:=⟨_,List.getElem?_eq_getElem c⟩
  have hge:l[i]'c=e:=by rw [List.getElem?_eq_getElem c] at he;exact Option.some.inj he
  have he8:=h8 e (List.mem_of_getElem? he)
  have htk:=kb8 he8
  have htk10:List.take 10 (reC e)=reC e:=List.take_of_length_le (by rw [xr9 he8];omega)
  have hnm:=zn6 e he8
  simp only [reA] at hnm
  have hnl:(nmM e.key).length≤8:=by
   have h1:(wh8 e.key).length≤e.key.length:=by
    obtain ⟨k,hk⟩:=ym6 e.key
    have:=congrArg List.length hk
    rw [List.length_append] at this
    omega
   rw [nmM,decM,List.length_map]
   omega
  have hva:=yb8 (nmM e.key) (by omega)
  obtain ⟨V,hV⟩:∃ V,symM (nmM e.key)=V:=⟨_,rfl⟩
  rw [hV] at hva
  obtain ⟨S,hS⟩:∃ S,strB (nmM e.key)=S:=⟨_,rfl⟩
  have hSv:∃ u,S=.v u:=⟨_,hS.symm⟩
  rw [hS] at hnm hva
  obtain ⟨u,rfl⟩:=hSv
  refine yr9 [1,6,7,8,9] (by simp [c,ci];rfl) ?_
  refine yh9 ?_
  refine yt9 (t:=true) (by simp [c,ci]) (fun h=>?_) (fun h=>by simp at h)
  refine yg9 ?_
  refine yh9 ?_
  refine yl9 ?_
  refine yr9 [1,6,7,8,3,4] (by simp [c,ci,hge,reA,he8,yk9];rfl) ?_
  cases V with
  | false =>
   have hbad:ordE l=false:=by
    cases ho:ordE l with
    | false=>rfl
    | true=>rw [((ordE_at.1 ho) i e he).1] at hV;cases hV
   refine wk9 [1,6,7,8,32] mx (by decide +kernel) ?_
   refine yd9 1 (by simp [he8,htk10];rfl) rfl ?_
   refine yv9 (by simp) (by first | (simp [htk10];done) | (simp [htk10];rfl)) hnm (by simp;rfl) ?_
   refine yv9 (by simp) (by first | (simp;done) | (simp;rfl)) hva (by simp;rfl) ?_
   refine yb9 (by simp;rfl) ?_
   refine yt9 rfl (fun h=>?_) (fun h=>by simp at h)
   refine yr9 [2] (by simp;rfl) ?_
   refine yj9 ?_
   repeat (first | refine yp9 ?_ | refine ys9 ?_)
   simp [retQ,hbad]
  | true =>
  by_cases h0:i=0
  ·have hall2:∀ (m:Nat) e,m < 0+1→l[m]?=some e→symM (nmM e.key)=true∧(∀ d,0 < m→l[m - 1]?=some d→Op.bytesLess d.key e.key=true):=by
    intro m x hm hx
    have:m=0:=by omega
    subst this
    rw [← h0,he] at hx
    obtain rfl:=Option.some.inj hx
    exact ⟨hV,fun d hd=>by omega⟩
   subst h0
   refine wk9 [1,6,7,8,32] mx (by decide +kernel) ?_
   refine yd9 1 (by simp [he8,htk10];rfl) rfl ?_
   refine yv9 (by simp) (by first | (simp [htk10];done) | (simp [htk10];rfl)) hnm (by simp;rfl) ?_
   refine yv9 (by simp) (by first | (simp;done) | (simp;rfl)) hva (by simp;rfl) ?_
   refine yb9 (by simp;rfl) ?_
   refine yt9 rfl (fun h=>by simp at h) (fun h=>?_)
   refine yg9 ?_
   refine vd9 1 (by simp) (by simp) (by simp [zk9,AV.under,AV.underL]) (by simp [yn9,AObj.under,AV.under,AV.underL,reC]) ?_
   refine zr9 [1,6,7,8] (by simp [show IntKind.i64.wrap 1=1 from by decide];rfl) ?_
   exact ⟨_,by omega,0+1,rfl,by omega,hall2,by simp⟩
  ·have wd := w64 (n := (i : Int) - 1) (by omega) (by omega)
   have hp0:0 < i:=by omega
   have hp6:(1:Int)≤(i:Int):=by omega
   have hp1:(0:Int) < (i:Int):=by omega
   have hp2:(0:Int)≤(i:Int) - 1:=by omega
   have hp3:(i:Int) - 1 < l.length:=by omega
   have hp4:((i:Int) - 1).toNat=i - 1:=by omega
   have hp5:i - 1 < l.length:=by omega
   obtain ⟨d,hd⟩:∃ d,l[i - 1]?=some d:=⟨_,List.getElem?_eq_getElem hp5⟩
   have hgd:l[i - 1]'hp5=d:=by rw [List.getElem?_eq_getElem hp5] at hd;exact Option.some.inj hd
   have hd8:=h8 d (List.mem_of_getElem? hd)
   have hcs:=qr9 d e.key hd8 he8
   simp only [reA] at hcs
   refine wk9 [1,6,7,8,32] mx (by decide +kernel) ?_
   refine yd9 1 (by simp [he8,htk10];rfl) rfl ?_
   refine yv9 (by simp) (by first | (simp [htk10];done) | (simp [htk10];rfl)) hnm (by simp;rfl) ?_
   refine yv9 (by simp) (by first | (simp;done) | (simp;rfl)) hva (by simp;rfl) ?_
   refine yd9 13 (by simp [hp0,hp1,hp2,hp3,hp4,hp5,hp6,wd,hgd,reA,htk,hd8,he8,xr9];rfl) rfl ?_
   refine yv9 (by simp) (by first | (simp;done) | (simp;rfl)) hcs (by simp;rfl) ?_
   by_cases hcmp:Lib.compareBytes d.key e.key < 0
   ·have hn : ¬ (0 : Int) ≤ Lib.compareBytes d.key e.key := by omega
    have hall2:∀ (m:Nat) e,m < i+1→l[m]?=some e→symM (nmM e.key)=true∧(∀ d,0 < m→l[m - 1]?=some d→Op.bytesLess d.key e.key=true):=by
     intro m x hm hx
     by_cases hm2:m < i
     ·exact hall m x hm2 hx
     ·have:m=i:=by omega
      subst this
      rw [he] at hx
      obtain rfl:=Option.some.inj hx
      exact ⟨hV,fun d2 _ hd2=>by rw [hd] at hd2;obtain rfl:=Option.some.inj hd2;rw [jh8];exact decide_eq_true hcmp⟩
    refine yb9 (by simp [hn];rfl) ?_
    refine yt9 rfl (fun h=>by simp at h) (fun h=>?_)
    refine yg9 ?_
    refine vd9 1 (by simp) (by simp) (by simp [zk9,AV.under,AV.underL]) (by simp [yn9,AObj.under,AV.under,AV.underL,reC]) ?_
    refine zr9 [1,6,7,8] (by simp [wi];rfl) ?_
    exact ⟨_,by omega,i+1,rfl,by omega,hall2,by simp⟩
   ·have hn : (0 : Int) ≤ Lib.compareBytes d.key e.key := by omega
    have hbad:ordE l=false:=by
     cases ho:ordE l with
     | false=>rfl
     | true =>
      have:=((ordE_at.1 ho) i e he).2 d (by omega) hd
      rw [jh8] at this
      exact absurd (of_decide_eq_true this) hcmp
    refine yb9 (by simp [hn];rfl) ?_
    refine yt9 rfl (fun h=>?_) (fun h=>by simp at h)
    refine yr9 [2] (by simp;rfl) ?_
    refine yj9 ?_
    repeat (first | refine yp9 ?_ | refine ys9 ?_)
    simp [retQ,hbad]
 have hie:i=l.length:=by omega
 have hok:ordE l=true:=by
  rw [ordE_at]
  intro m e he
  have hm:m < l.length:=by
   rcases Nat.lt_or_ge m l.length with h | h
   ·exact h
   ·rw [List.getElem?_eq_none h] at he;cases he
  exact hall m e (by omega) he
 have nlt:¬ (i:Int) < l.length:=by omega
 refine yr9 [1,6,7,8,9] (by simp [nlt];rfl) ?_
 refine yh9 ?_
 refine yt9 (t:=false) (by simp [nlt]) (fun h=>by simp at h) (fun h=>?_)
 refine zs9 ?_
 repeat (first | refine on_exit ?_ | refine in_exit ?_)
 refine yr9 [2] (by simp;rfl) ?_
 refine yj9 ?_
 repeat (first | refine yp9 ?_ | refine ys9 ?_)
 simp [retQ,hok]
set_option maxRecDepth 20000
theorem mul8:Sound Tryz.prog 136 [.v (.int .u64 1),.v (.int .u64 8)] (.tup [.v (.int .u64 0),.v (.int .u64 8)]):=zt7 mx 100 (by kernel_rfl)
@[simp] theorem underL_any (m k:Nat):AV.underL m (List.replicate k .any)=true:=by induction k <;> simp_all [List.replicate_succ,AV.underL,AV.under]
@[simp] theorem underL_app31 (m : Nat) : ∀ (a b : List AV), AV.underL m (a ++ b) = (AV.underL m a && AV.underL m b)
 | [],b=>rfl
 | o :: a,b=>by simp only [List.cons_append,AV.underL,underL_app31 m a b,Bool.and_assoc]
def kn9 (l:List UInt8) (k:Nat):List AV:=byL l++List.replicate k .any
theorem room_len (l:List UInt8) (k:Nat):(kn9 l k).length=l.length+k:=by simp [kn9]
theorem room_app (l m:List UInt8) (k:Nat) (h:m.length≤k):yk9 (kn9 l k) l.length (byL m)=kn9 (l++m) (k - m.length):=by
 simp [yk9,kn9,xp9,List.take_append,List.drop_append]
theorem repeat_callW (n : Nat) (hn : n = 8) (H : List AObj) (hh : yn9 (H.length + 1) H = true) :
  ww9 Tryz.prog 117 [.lst .any 1 [.v (.int .u8 255)],.v (.int .i64 n)] H fun r h'=>∃ k,r=.arr H.length 0 n n∧h'=H++[.cells 5 (kn9 (List.replicate n 255) k)]:=by
 refine zd9 Tryz.func117 rfl (by decide +kernel) (by simp [Tryz.f117]) (rs:=[.tmp 4]) rfl ?_
 rw [show Tryz.f117.ntmps=77 from rfl]
 have hmul:Sound Tryz.prog 136 [.v (.int .u64 1),.v (.int .u64 n)] (.tup [.v (.int .u64 0),.v (.int .u64 n)]):=by
  subst hn
  exact mul8
 have hnl:n≤80:=by omega
 have hn0:0 < n:=by omega
 have c1:¬ ((n:Int)=0):=by omega
 have c2:¬ ((n:Int) < 0):=by omega
 have c3:¬ ((8192:Int) < (n:Int)):=by omega
 have c4:¬ ((9223372036854775807:Int) < (n:Int)):=by omega
 have w1:=w64 (n:=(n:Int)) (by omega) (by omega)
 have w2:IntKind.u64.wrap (n:Int)=n:=by
  have h64:∀ k:Nat,k≤80→IntKind.u64.wrap (k:Int)=k:=by decide +kernel
  exact h64 n hnl
 have w3:IntKind.u64.wrap 1=1:=by decide +kernel
 refine yr9 [0,1] (by simp;rfl) ?_
 refine yh9 ?_
 refine yr9 [0,1,13] (by simp [c1];rfl) ?_
 refine yt9 rfl (fun h=>by simp at h <;> omega) (fun h=>?_)
 refine yg9 ?_
 refine yh9 ?_
 refine yr9 [0,1,16] (by simp [c2];rfl) ?_
 refine yt9 rfl (fun h=>by simp at h <;> omega) (fun h=>?_)
 refine yg9 ?_
 refine W_rK [0,5,6] ?_
 refine yq9 5 (by simp [w2,w3];rfl) rfl ?_
 refine yf9 (by simp) (by simp;rfl) hmul (by simp;rfl) ?_
 refine yw9 (by simp;rfl) ?_
 refine yh9 ?_
 refine yr9 [0,6,32] (by simp [c4];rfl) ?_
 refine yt9 rfl (fun h=>by simp at h <;> omega) (fun h=>?_)
 refine yg9 ?_
 refine yr9 [0,7] (by simp [w1];rfl) ?_
 refine yh9 ?_
 refine W_cF [0,7,38] (by simp;rfl) rfl ?_
 refine yg9 ?_
 refine yr9 [0,7,8] (by simp;rfl) ?_
 refine yh9 ?_
 refine yr9 [0,7,8,42] (by simp [c3];rfl) ?_
 refine yt9 rfl (fun h=>by simp at h <;> omega) (fun h=>?_)
 refine yg9 ?_
 refine W_rGK [0,7,8,9] ?_
 refine kk9 1 _ _ ?_
 refine yw9 (by simp;rfl) ?_
 refine qt8 rfl ?_
 refine ww7 (f:=137) (fn:=Tryz.f137) (ps:=#[3]) (k:=53) (n:=n) (t:=90) (e:=5) rfl (by simp) rfl Tryz.func137 (by decide +kernel) (by kernel_rfl) (by kernel_rfl) (by kernel_rfl) (by kernel_rfl) (by simp) (by omega) ?_
 intro cap hcap hmax
 refine ⟨_,by simp;rfl,?_⟩
 refine kk9 2 _ _ ?_
 refine yw9 (by simp;rfl) ?_
 refine qt8 rfl ?_
 refine stepW_slice3 (t:=90) (e:=5) (sz:=1) (ag:=false) (id:=H.length) (off:=0) (len:=n) (cap:=cap) (k1:=54) (k2:=55) (k3:=56) (n:=n) (m:=n) rfl (by simp) (by simp) (by simp) (by simp) hcap (Nat.le_refl _) hn0 ?_
 refine ⟨_,by simp;rfl,?_⟩
 refine kk9 1 _ _ ?_
 refine yw9 (by simp;rfl) ?_
 have hcat:catK 1 ([.v (.int .u8 255)]:List AV)=some [.v (.int .u8 255)]:=by rfl
 refine W_rK [7,8,9,10] ?_
 refine yq9 2 (by simp;rfl) rfl ?_
 refine km8 (t:=90) (t':=90) (e:=5) (sz:=1) (id:=H.length) (off:=0) (len:=n) (cap:=n) (ag:=false) (oy:=.any) (cs:=List.replicate cap .any) (ys:=[.v (.int .u8 255)]) (yc:=[.v (.int .u8 255)]) (by simp) rfl rfl rfl rfl (by simp) (by simp) (by simp) (by omega) (by simp) (by simp;omega) (by rw [List.take_of_length_le (by simp;omega)];exact hcat) ?_
 refine ⟨_,by simp;rfl,?_⟩
 have hone:min 1 n=1:=by omega
 refine yw9 (by simp [hone,goInt];rfl) ?_
 have hstart:yk9 (List.replicate cap AV.any) 0 (AV.weakL [.v (.int .u8 255)])=kn9 (List.replicate 1 255) (cap - 1):=by
  obtain ⟨k,rfl⟩:∃ k,cap=k+1:=⟨cap - 1,by omega⟩
  simp [yk9,kn9,AV.weakL,AV.weak,xd9,List.replicate_succ]
 refine yh9 ?_
 refine yl9 ?_
 refine zj9 (fun k σ=>∃ bp:Nat,k=n - bp∧1≤bp∧bp≤n∧σ=⟨77,[(7,.v (.int .i64 (n:Nat))),(8,.v (.int .i64 (n:Nat))),(9,.arr H.length 0 n n),(10,.v (.int .i64 (bp:Nat)))],H++[.cells 5 (kn9 (List.replicate bp 255) (cap - bp))]⟩) (k:=n - 1) ⟨1,rfl,by omega,by omega,?_⟩ ?_
 ·rw [← hstart]
  simp
 rintro k σ ⟨bp,rfl,hb1,hb2,rfl⟩
 refine yh9 ?_
 by_cases c:bp < n
 ·have ci : (bp : Int) < n := by omega
  have ci2:¬ ((n:Int) < bp):=by omega
  have hle2:(bp:Int)≤n:=by omega
  have hne:¬ n=bp:=by omega
  obtain ⟨m,hm⟩:∃ m,min bp (n - bp)=m:=⟨_,rfl⟩
  have wi:=w64 (n:=(bp:Int)+m) (by omega) (by omega)
  refine yr9 [7,8,9,10,63] (by simp [ci];rfl) ?_
  refine yt9 rfl (fun h=>?_) (fun h=>by simp [c] at h)
  refine yg9 ?_
  refine yl9 ?_
  refine yr9 [7,8,9,10,11] (by simp [ci2];rfl) ?_
  refine jr9 [7,8,9,10] (W_anyT mx ?_)
  refine yh8 0 rfl (by decide +kernel) (xq8 10 rfl rfl rfl) rfl ?_
  refine yh8 1 rfl (by decide +kernel) (xq8 9 rfl rfl rfl) rfl ?_
  refine yh8 2 rfl (by decide +kernel) (xq8 10 rfl rfl rfl) rfl ?_
  refine yh8 3 rfl (by decide +kernel) (gives_arrLo (e:=5) (sz:=1) (ag:=false) (z:=.arr H.length bp (n - bp) (n - bp)) 68 69 rfl rfl (by simp) (by simp) rfl rfl (by simp [zj8,bnd,hle2,hne,hb2])) rfl ?_
  refine yh8 4 rfl (by decide +kernel) (xq8 9 rfl rfl rfl) rfl ?_
  refine yh8 5 rfl (by decide +kernel) (xq8 11 rfl rfl rfl) rfl ?_
  refine yh8 6 rfl (by decide +kernel) (gives_arrHi (e:=5) (sz:=1) (ag:=false) (z:=.arr H.length 0 bp n) 71 72 rfl rfl (by simp) (by simp) rfl rfl (by simp [zj8,bnd,hle2,hb2])) rfl ?_
  refine anyT_allG [7] (by decide +kernel) (by simp) ?_
  intro i hi
  simp only [List.mem_cons,List.not_mem_nil,or_false] at hi
  subst hi
  refine ⟨_,rfl,?_⟩
  refine .inr ⟨rfl,?_⟩
  refine stepW_copy (t:=90) (t':=90) (e:=5) (sz:=1) (id:=H.length) (off:=bp) (len:=n - bp) (cap:=n - bp) (m:=bp) (ag:=false) (cs:=kn9 (List.replicate bp 255) (cap - bp)) (yc:=byL (List.replicate bp 255)) rfl rfl rfl rfl (by simp) (by simp [srcA,kn9]) (by simp) (by omega) (by simp) (by simp [room_len];omega) ?_
  refine ⟨_,by simp;rfl,?_⟩
  refine anyT_all [8] (by decide +kernel) (by simp) ?_
  intro i hi
  simp only [List.mem_cons,List.not_mem_nil,or_false] at hi
  subst hi
  refine ⟨_,rfl,?_⟩
  refine (show runA Tryz.prog _ [_] _ _ from ?_)
  rw [hm]
  refine yw9 (by simp [goInt,wi];rfl) ?_
  refine anyT_all [9] (by decide +kernel) (by simp) ?_
  intro i hi
  simp only [List.mem_cons,List.not_mem_nil,or_false] at hi
  subst hi
  refine ⟨_,rfl,?_⟩
  refine (show runA Tryz.prog _ [_] _ _ from ?_)
  refine yw9 (by simp;rfl) ?_
  refine anyT_done (by decide +kernel) ?_
  refine ⟨n - (bp+m),by omega,bp+m,rfl,by omega,by omega,?_⟩
  have hseg:yk9 (kn9 (List.replicate bp 255) (cap - bp)) bp ((byL (List.replicate bp 255)).take (m * 1))=kn9 (List.replicate (bp+m) 255) (cap - (bp+m)):=by
   have h1:=room_app (List.replicate bp 255) (List.replicate m 255) (cap - bp) (by simp;omega)
   rw [List.length_replicate,List.length_replicate] at h1
   rw [← qs9,List.take_replicate,show min (m * 1) bp=m by omega,h1,List.replicate_append_replicate,Nat.sub_sub]
  rw [← hseg]
  simp [uh9]
 ·have ci : ¬ ((bp : Int) < n) := by omega
  obtain rfl:bp=n:=by omega
  refine W_cF [7,8,9,10,63] (by simp;rfl) rfl ?_
  refine zs9 ?_
  refine yr9 [4] (by simp;rfl) ?_
  refine yj9 ?_
  repeat (first | refine yp9 ?_ | refine ys9 ?_)
  refine ⟨.inr rfl,.arr H.length 0 bp bp,.arr H.length 0 bp bp,H++[.cells 5 (kn9 (List.replicate bp 255) (cap - bp))],H.length+1,by simp,.inl ⟨rfl,by simp⟩,by omega,by simp,by simp [AV.under],?_,⟨cap - bp,rfl,?_⟩⟩
  ·rw [List.take_of_length_le (by simp),zm9,hh]
   simp [yn9,AObj.under,kn9]
  ·rw [List.take_of_length_le (by simp)]
theorem ww9.dpArgs {P:Program} {f:FuncId} {args:List AV} {h:List AObj} {Q:AV→List AObj→Prop} (hc:ww9 P f (AV.dpL args) h Q):ww9 P f args h Q :=
 ⟨hc.1,fun F n c w vals h1 h2 h3 h4 h5 h6=>hc.2 F n c w vals h1 h2 h3 h4 h5 h6.dpL⟩
theorem ww9.ofDp {P:Program} {f:FuncId} {args args':List AV} {h:List AObj} {Q:AV→List AObj→Prop} (hd:AV.dpL args=args') (hc:ww9 P f args' h Q):ww9 P f args h Q:=ww9.dpArgs (hd ▸ hc)
theorem vl6 (T : Nat) (H : List AObj) (hh : yn9 (H.length + 1) H = true) :
  ww9 Tryz.prog 117 [.lst (.tip 5 T) 1 [.v (.int .u8 255)],.v (.int .i64 8)] H fun r h'=>∃ k,r=.arr H.length 0 8 8∧h'=H++[.cells 5 (kn9 (List.replicate 8 255) k)]:=by
 refine ww9.dpArgs ?_
 rw [show AV.dpL [.lst (.tip 5 T) 1 [.v (.int .u8 255)],.v (.int .i64 8)]=[.lst .any 1 [.v (.int .u8 255)],.v (.int .i64 8)] by simp [AV.dpL,AV.dp]]
 exact repeat_callW 8 rfl H hh
set_option maxRecDepth 20000
theorem vg7 (b:List UInt8) (n:Nat) (hb:b.length≤1000000000) (hn:n≤1000):Sound Tryz.prog 99 [.lst .any 1 (byL b),.v (.int .i64 0),.v (.int .i64 (n:Nat))] (.v (.bool (decide (n≤b.length)))):=by
 refine yc9 Tryz.func99 rfl (by decide +kernel) (by simp [Tryz.f99]) rfl rfl (rs:=[.tmp 6]) rfl ?_
 rw [show Tryz.f99.ntmps=17 from rfl]
 have w:=w64 (n:=(b.length:Int) - n) (by omega) (by omega)
 refine yr9 [0,1,2] (by simp;rfl) ?_
 refine yr9 [6] (by simp [w];rfl) ?_
 refine yj9 ?_
 repeat (first | refine yp9 ?_ | refine ys9 ?_)
 simp [retQ]
def halfX (a b:Int):Int:=IntKind.u32.wrap (IntKind.i32.wrap (IntKind.i16.wrap ((BitVec.ofInt IntKind.i16.bits (IntKind.i16.wrap (IntKind.i16.wrap a * 2 ^ min 8 IntKind.i16.bits)) ||| BitVec.ofInt IntKind.i16.bits (IntKind.i16.wrap b)).toNat:Nat)))
theorem kk8 (n:Int):IntKind.i16.wrap n=(n+32768) % 65536 - 32768:=by
 have e:∀ m:Int,(if (2:Int) ^ 15≤m % 65536 then m % 65536 - 65536 else m % 65536)=(m+32768) % 65536 - 32768:=by
  intro m
  rw [show (2:Int) ^ 15=32768 by decide]
  split <;> omega
 have:=e n
 simp [IntKind.wrap,IntKind.bits,IntKind.signed] at this ⊢
 omega
theorem halfX_eq (a b:Nat) (ha:a < 256) (hb:b < 256):halfX (a:Int) (b:Int)=if a < 128 then ((256 * a+b:Nat):Int) else ((256 * a+b:Nat):Int)+4294901760:=by
 have hor:(BitVec.ofInt IntKind.i16.bits (IntKind.i16.wrap (IntKind.i16.wrap (a:Int) * 2 ^ min 8 IntKind.i16.bits)) ||| BitVec.ofInt IntKind.i16.bits (IntKind.i16.wrap (b:Int))).toNat=256 * a+b:=by
  have h1:(BitVec.ofInt IntKind.i16.bits (IntKind.i16.wrap (IntKind.i16.wrap (a:Int) * 2 ^ min 8 IntKind.i16.bits))).toNat=256 * a:=by
   rw [BitVec.toNat_ofInt,show (2:Int) ^ min 8 IntKind.i16.bits=256 from rfl,kk8,kk8]
   show ((_:Int) % ((2 ^ 16:Nat):Int)).toNat=_
   rw [show ((2 ^ 16:Nat):Int)=65536 from rfl]
   omega
  have h2:(BitVec.ofInt IntKind.i16.bits (IntKind.i16.wrap (b:Int))).toNat=b:=by
   rw [BitVec.toNat_ofInt,kk8]
   show ((_:Int) % ((2 ^ 16:Nat):Int)).toNat=_
   rw [show ((2 ^ 16:Nat):Int)=65536 from rfl]
   omega
  rw [BitVec.toNat_or,h1,h2]
  have:=Nat.shiftLeft_add_eq_or_of_lt (i:=8) hb a
  rw [Nat.shiftLeft_eq] at this
  rw [show 256 * a=a * 2 ^ 8 by omega]
  exact this.symm
 rw [halfX,hor,kk8,IntKind.wrap_i32,IntKind.wrap_u32]
 split <;> omega
theorem halfX_min (a b:UInt8):min (halfX a.toNat b.toNat) 256=((min (256 * a.toNat+b.toNat) 256:Nat):Int)∧0≤halfX a.toNat b.toNat∧halfX a.toNat b.toNat≤4294967295:=by
 have ha:=a.toNat_lt
 have hb:=b.toNat_lt
 rw [halfX_eq _ _ (by omega) (by omega)]
 split <;> omega
theorem half_sound (b:List UInt8) (hb:b.length≤1000000000) (h2:2≤b.length):Sound Tryz.prog 62 [.lst .any 1 (byL b),.v (.int .i64 0)] (.tup [.v (.int .u32 (halfX (b.getD 0 0).toNat (b.getD 1 0).toNat)),.v (.bool true)]):=by
 refine yc9 Tryz.func62 rfl (by decide +kernel) (by simp [Tryz.f62]) rfl rfl (rs:=[.tmp 4,.tmp 5]) rfl ?_
 rw [show Tryz.f62.ntmps=25 from rfl]
 have hf:=vg7 b 2 hb (by omega)
 rw [decide_eq_true h2] at hf
 obtain ⟨x,hx⟩:∃ x,b[0]?=some x:=⟨_,List.getElem?_eq_getElem (by omega)⟩
 obtain ⟨y,hy⟩:∃ y,b[1]?=some y:=⟨_,List.getElem?_eq_getElem (by omega)⟩
 have hx1:b[0]'(by omega)=x:=by rw [List.getElem?_eq_getElem (by omega)] at hx;exact Option.some.inj hx
 have hy1:b[1]'(by omega)=y:=by rw [List.getElem?_eq_getElem (by omega)] at hy;exact Option.some.inj hy
 have hx2:b.getD 0 0=x:=by rw [List.getD_eq_getElem?_getD,hx];rfl
 have hy2:b.getD 1 0=y:=by rw [List.getD_eq_getElem?_getD,hy];rfl
 have h0l:0 < b.length:=by omega
 have h1l:1 < b.length:=by omega
 have w1:IntKind.i64.wrap 1=1:=by decide +kernel
 have w2:IntKind.i64.wrap (0+1)=1:=by decide +kernel
 rw [hx2,hy2]
 refine yr9 [0,1] (by simp;rfl) ?_
 refine yh9 ?_
 refine W_rK [0,1,9] ?_
 refine yq9 2 (by simp;rfl) rfl ?_
 refine yf9 (by simp) (by first | (simp;done) | (simp;rfl)) hf (by simp;rfl) ?_
 refine yw9 (by simp;rfl) ?_
 refine yt9 rfl (fun h=>by simp at h) (fun h=>?_)
 refine yg9 ?_
 refine wk9 [4,5] mx (by decide +kernel) ?_
 refine yd9 6 (by simp [h0l,hx,hx1];rfl) rfl ?_
 refine yd9 5 (by simp [h1l,hy,hy1,w1,w2];rfl) rfl ?_
 refine yd9 2 (by simp;rfl) rfl ?_
 refine yb9 (by simp;rfl) ?_
 refine yj9 ?_
 repeat (first | refine yp9 ?_ | refine ys9 ?_)
 simp [retQ,halfX]
theorem put_callW (b f : List UInt8) (hb : b.length = 256) (hf : f.length = 2) (H : List AObj) (hh : yn9 H.length H = true) :
  ww9 Tryz.prog 135 [.lst .any 1 (byL b),.v (.int .i64 0),.lst .any 1 (byL f)] H fun r h'=>∃ k,256+k≤maxLen∧r=.tup [.arr H.length 0 256 (256+k),.v (.bool true)]∧h'=H++[.cells 5 (byL (f++b.drop 2++List.replicate k 0))]:=by
 refine zd9 Tryz.func135 rfl (by decide +kernel) (by simp [Tryz.f135]) (rs:=[.tmp 6,.tmp 7]) rfl ?_
 rw [show Tryz.f135.ntmps=23 from rfl]
 have hfit:=vg7 b 2 (by omega) (by omega)
 rw [decide_eq_true (by omega)] at hfit
 refine yr9 [0,1,2] (by simp;rfl) ?_
 refine yh9 ?_
 refine W_rK [0,1,2,14] ?_
 refine yq9 4 (by simp [hf];rfl) rfl ?_
 refine yf9 (by simp) (by first | (simp;done) | (simp;rfl)) hfit (by simp;rfl) ?_
 refine yw9 (by simp;rfl) ?_
 refine yt9 rfl (fun h=>by simp at h) (fun h=>?_)
 refine yg9 ?_
 refine W_rK [1,2,8] ?_
 refine yq9 1 (by simp;rfl) rfl ?_
 refine vs6 (t:=90) (e:=5) (sz:=1) (by_:=1) (s0:=1) (x0:=[]) (oy:=.any) (ys:=byL b) (by simp) rfl rfl rfl rfl (by simp) (by simp) s90 a5 z5 (by simp) (qt9 _) (by intro e;rw [show b=[] by cases b with | nil=>rfl | cons x l=>simp [byL] at e] at hb;simp at hb) (by simp [hb]) ?_
 intro cap h1 h2
 rw [wq9,hb] at h1
 obtain ⟨k,rfl⟩:∃ k,cap=256+k:=⟨cap - 256,by omega⟩
 refine ⟨_,by simp;rfl,?_⟩
 refine yw9 (by simp;rfl) ?_
 have hz:byL b++repC k [AV.v (.int .u8 0)]=byL (b++List.replicate k 0):=by rw [js9,xp9]
 simp only [hb,Nat.add_sub_cancel_left,AV.cells,wq9,hz]
 refine W_rK [8] ?_
 refine yq9 4 (by simp [show ¬ 256+k=0 by omega];rfl) rfl ?_
 refine km8 (t:=90) (t':=90) (e:=5) (sz:=1) (id:=H.length) (off:=0) (len:=256) (cap:=256+k) (ag:=false) (oy:=.any) (cs:=byL (b++List.replicate k 0)) (ys:=byL f) (yc:=byL f) (by simp) rfl rfl rfl rfl (by simp) (by simp) s90 (by omega) (by simp) (by simp [hb]) (by rw [List.take_of_length_le (by simp [hf])];exact qt9 _) ?_
 have hseg:yk9 (byL (b++List.replicate k 0)) 0 (AV.weakL (byL f))=byL (f++b.drop 2++List.replicate k 0):=by
  rw [jh9]
  unfold yk9
  rw [List.take_zero,List.nil_append,Nat.zero_add,wq9,hf,← zt8,List.drop_append_of_le_length (by omega),← xp9,List.append_assoc]
 rw [hseg]
 refine ⟨_,by simp;rfl,?_⟩
 refine yw9 (by simp;rfl) ?_
 refine yr9 [6,7] (by simp;rfl) ?_
 refine yj9 ?_
 repeat (first | refine yp9 ?_ | refine ys9 ?_)
 refine ⟨.inr rfl,.tup [.arr H.length 0 256 (256+k),.v (.bool true)],.tup [.arr H.length 0 256 (256+k),.v (.bool true)],H++[.cells 5 (byL (f++b.drop 2++List.replicate k 0))],H.length+1,by simp,.inl ⟨rfl,by simp⟩,by omega,by simp,by simp [AV.under,AV.underL],?_,⟨k,h2,rfl,?_⟩⟩
 ·rw [List.take_of_length_le (by simp),zm9,xc9 (by omega) _ hh]
  simp [yn9,AObj.under]
 ·rw [List.take_of_length_le (by simp)]
theorem uq6 (b : List UInt8) (v : Nat) (hb : b.length = 256) (hv : v < 256) (H : List AObj) (hh : yn9 H.length H = true) (fl : Fl) :
  ww9 Tryz.prog 116 [.lst fl 1 (byL b),.v (.int .i64 0),.v (.int .u32 (v:Nat))] H fun r h'=>∃ k,256+k≤maxLen∧r=.tup [.arr H.length 0 256 (256+k),.v (.bool true)]∧h'=H++[.cells 5 (byL ([0,UInt8.ofNat v]++b.drop 2++List.replicate k 0))]:=by
 refine ww9.dpArgs ?_
 rw [show AV.dpL [.lst fl 1 (byL b),.v (.int .i64 0),.v (.int .u32 (v:Nat))]=[.lst .any 1 (byL b),.v (.int .i64 0),.v (.int .u32 (v:Nat))] by simp [AV.dpL,AV.dp]]
 refine zd9 Tryz.func116 rfl (by decide +kernel) (by simp [Tryz.f116]) (rs:=[.tmp 6,.tmp 7]) rfl ?_
 rw [show Tryz.f116.ntmps=19 from rfl]
 have w1:IntKind.u8.wrap (Int.fdiv (v:Int) (2 ^ min 8 IntKind.u32.bits))=0:=by
  rw [show (2:Int) ^ min 8 IntKind.u32.bits=256 from rfl,Int.fdiv_eq_ediv_of_nonneg _ (by omega),IntKind.wrap_u8]
  omega
 have w2:IntKind.u8.wrap (v:Int)=((UInt8.ofNat v).toNat:Nat):=by
  rw [IntKind.wrap_u8,UInt8.toNat_ofNat']
  omega
 have hp:=put_callW b [0,UInt8.ofNat v] hb rfl H hh
 refine yr9 [0,1,2] (by simp;rfl) ?_
 refine W_rK [6,7] ?_
 refine yq9 8 (by simp [w1,w2];rfl) rfl ?_
 refine xs9 (f:=135) (args:=[.lst .any 1 (byL b),.v (.int .i64 0),.lst (.tip 5 62) 1 [.v (.int .u8 0),.v (.int .u8 ((UInt8.ofNat v).toNat:Nat))]]) (by simp) (by simp [xj9,zc9]) ((ww9.ofDp (by simp only [AV.dpL,AV.dp,dpL_byL];rfl) hp).mono ?_)
 rintro r h' ⟨k,hk,rfl,rfl⟩
 refine ⟨_,by simp;rfl,?_⟩
 refine yw9 (by simp;rfl) ?_
 refine yj9 ?_
 repeat (first | refine yp9 ?_ | refine ys9 ?_)
 refine ⟨.inr rfl,.tup [.arr H.length 0 256 (256+k),.v (.bool true)],.tup [.arr H.length 0 256 (256+k),.v (.bool true)],H++[.cells 5 (byL ([0,UInt8.ofNat v]++b.drop 2++List.replicate k 0))],H.length+1,by simp,.inl ⟨rfl,by simp⟩,by omega,by simp,by simp [AV.under,AV.underL],?_,⟨k,hk,rfl,?_⟩⟩
 ·rw [List.take_of_length_le (by simp),zm9,xc9 (by omega) _ hh]
  simp [yn9,AObj.under]
 ·rw [List.take_of_length_le (by simp)]
set_option maxRecDepth 20000
def vm9 (n:Nat):List UInt8:=List.replicate n 0
@[simp] theorem vv8 (n:Nat):(vm9 n).length=n:=by simp [vm9]
theorem frz256 {h:List AObj} {id:Nat} (hid:h[id]?=some (.cells 5 (repC 256 [.v (.int .u8 0)]))):ws9 Tryz.prog h 1 id 0 256 256=some (.lst (.tip 5 1) 1 (byL (vm9 256)),h.set id (.froz 5 (byL (vm9 256)))):=by
 rw [js9] at hid
 have hz:List.replicate 256 (0:UInt8)=vm9 256:=rfl
 rw [hz] at hid
 obtain ⟨Z,hZ⟩:∃ Z,vm9 256=Z:=⟨_,rfl⟩
 have hl:Z.length=256:=by rw [← hZ,vv8]
 rw [hZ] at hid ⊢
 unfold ws9
 rw [hid]
 simp [hl,List.take_of_length_le]
theorem setBL (X A B Z:List UInt8) (h:B.length=A.length):yk9 (byL (X++(A++Z))) X.length (byL B)=byL (X++(B++Z)):=by
 unfold yk9
 rw [← qs9,← zt8,wq9,h,List.take_left,← List.append_assoc X A Z,List.drop_left' (by simp),← xp9,← xp9,List.append_assoc]
theorem ent_put (X Z : List UInt8) (e : RE) (he : e.key.length = 8) (a : Nat) (ha : X.length = a) :
  yk9 (yk9 (yk9 (yk9 (byL (X++(vm9 12++Z))) a (byL e.key)) (a+8) [.v (.int .u8 ((UInt8.ofNat (e.trk / 256)).toNat:Nat))]) (a+9) [.v (.int .u8 ((UInt8.ofNat e.trk).toNat:Nat))]) (a+10) [.v (.int .u8 ((UInt8.ofNat e.rn).toNat:Nat))]=byL (X++(entB e++Z)):=by
 subst ha
 have hz:vm9 12=vm9 8++([0]++([0]++([0]++[0]))):=rfl
 rw [hz,List.append_assoc,setBL X (vm9 8) e.key _ (by rw [he,vv8])]
 have h1:=setBL (X++e.key) [0] [UInt8.ofNat (e.trk / 256)] (([0]++([0]++[0]))++Z) rfl
 have h2:=setBL (X++e.key++[UInt8.ofNat (e.trk / 256)]) [0] [UInt8.ofNat e.trk] (([0]++[0])++Z) rfl
 have h3:=setBL (X++e.key++[UInt8.ofNat (e.trk / 256)]++[UInt8.ofNat e.trk]) [0] [UInt8.ofNat e.rn] ([0]++Z) rfl
 simp only [List.append_assoc,List.length_append,he,List.length_singleton] at h1 h2 h3 ⊢
 simp only [xd9,byL_nil] at h1 h2 h3
 rw [h1,show X.length+9=X.length+(8+1) by omega,h2,show X.length+10=X.length+(8+(1+1)) by omega,h3,entB]
 simp only [List.append_assoc,List.cons_append,List.nil_append]
theorem part_cut (l:List RE) (i F E:Nat) (hF:min (21 * i) l.length=F) (hE:min (F+21) l.length=E):(l.take E).drop F=zh7 l i:=by
 unfold zh7
 rcases Nat.le_total (21 * i) l.length with h | h
 ·have:F=21 * i:=by omega
  subst this
  rw [List.drop_take,show E - 21 * i=min 21 (l.length - 21 * i) by omega]
  rcases Nat.le_total 21 (l.length - 21 * i) with h2 | h2
  ·rw [Nat.min_eq_left h2]
  ·rw [Nat.min_eq_right h2,List.take_of_length_le (by rw [List.length_drop];omega),List.take_of_length_le (by rw [List.length_drop];omega)]
 ·rw [List.drop_eq_nil_of_le (by rw [List.length_take];omega),List.drop_eq_nil_of_le h]
  rfl
def datP (P:List RE) (j k:Nat):List UInt8:=[0,UInt8.ofNat (2+12 * P.length)]++kj9 (P.take j)++vm9 (254 - 12 * j+k)
theorem datP_len {P:List RE} (h8:∀ e∈P,e.key.length=8) (hP:P.length≤21) {j k:Nat} (hj:j≤P.length):(datP P j k).length=256+k:=by
 unfold datP
 rw [List.length_append,List.length_append,xp8 (fun e he=>h8 e (List.mem_of_mem_take he)),List.length_take,vv8]
 simp
 omega
theorem datP_next {P : List RE} (h8 : ∀ e ∈ P, e.key.length = 8) (hP : P.length ≤ 21) {j k : Nat} {e : RE} (he : P[j]? = some e) :
  yk9 (yk9 (yk9 (yk9 (byL (datP P j k)) (2+12 * j) (byL e.key)) (2+12 * j+8) [.v (.int .u8 ((UInt8.ofNat (e.trk / 256)).toNat:Nat))]) (2+12 * j+9) [.v (.int .u8 ((UInt8.ofNat e.trk).toNat:Nat))]) (2+12 * j+10) [.v (.int .u8 ((UInt8.ofNat e.rn).toNat:Nat))]=byL (datP P (j+1) k):=by
 have hj:=(List.getElem?_eq_some_iff.1 he).1
 have hlen:([0,UInt8.ofNat (2+12 * P.length)]++kj9 (P.take j)).length=2+12 * j:=by
  rw [List.length_append,xp8 (fun x hx=>h8 x (List.mem_of_mem_take hx)),List.length_take]
  simp
  omega
 have hz:vm9 (254 - 12 * j+k)=vm9 12++vm9 (254 - 12 * (j+1)+k):=by
  unfold vm9
  rw [List.replicate_append_replicate]
  congr 1
  omega
 have hb:kj9 (P.take (j+1))=kj9 (P.take j)++entB e:=by
  rw [List.take_add_one,he]
  simp [kj9]
 have:=ent_put ([0,UInt8.ofNat (2+12 * P.length)]++kj9 (P.take j)) (vm9 (254 - 12 * (j+1)+k)) e (h8 e (List.mem_of_getElem? he)) (2+12 * j) hlen
 rw [datP,hz,this,datP,hb]
 simp only [List.append_assoc]
theorem frz_by2 {H:List AObj} {q n cq:Nat} {B:List UInt8} (hq:H[q]?=some (.cells 5 (byL B))) (hn:n≤B.length):∃ o,(o=.any∨o=.tip 5 1)∧ws9 Tryz.prog H 1 q 0 n cq=some (.lst o 1 (byL (B.take n)),H.set q (.froz 5 (byL B))):=by
 unfold ws9
 rw [hq]
 simp only [t5]
 rw [if_pos ⟨by omega,.inr trivial,by simpa using hn,by simp,by simp⟩,jh9,List.drop_zero,yk7 _ _ hn]
 refine ⟨_,?_,rfl⟩
 split
 ·exact .inr rfl
 ·exact .inl rfl
theorem frz_room3 {h:List AObj} (id n cap:Nat) (c:List UInt8) (k:Nat) (hid:h[id]?=some (.cells 5 (kn9 c k))) (hc:c.length=n):∃ (o:Fl),(o=.any∨o=.tip 5 1)∧ws9 Tryz.prog h 1 id 0 n cap=some (.lst o 1 (byL c),h.set id (.froz 5 (byL c))):=by
 have e2:tyI Tryz.prog 5=some (false,1):=by simp
 subst hc
 cases k with
 | zero =>
  have e0:kn9 c 0=byL c:=by simp [kn9]
  rw [e0] at hid
  refine ⟨if 0=0∧c.length=cap∧cap * 1=(byL c).length then .tip 5 1 else .any,by split <;> simp,?_⟩
  simp only [ws9,hid,e2]
  rw [if_pos ⟨by omega,.inr trivial,by simp,qc7 _,rfL_byL _⟩,jh9,List.drop_zero,yk7 _ _ (by omega),List.take_of_length_le (by omega)]
 | succ k =>
  have e1:(kn9 c (k+1)).take (0+c.length * 1)=byL c:=by
   rw [kn9,Nat.zero_add,Nat.mul_one,List.take_append_of_le_length (by simp),List.take_of_length_le (by simp)]
  have e3:AV.koneL (kn9 c (k+1))=false:=by
   rw [kn9,koneL_app,List.replicate_succ]
   simp [AV.koneL,AV.kone]
  refine ⟨.any,.inl rfl,?_⟩
  simp only [ws9,hid,e2,e1]
  rw [if_neg (by rw [e3];simp),if_pos ⟨by omega,.inr trivial,by simp [room_len],qc7 _,rfL_byL _⟩,jh9,List.drop_zero,yk7 _ _ (by omega),List.take_of_length_le (by omega)]
set_option maxRecDepth 20000
theorem block24_sound (l:List RE) (n0 i:Nat) (h8:∀ e∈l,e.key.length=8) (hs:∀ e∈l,e.trk < 1000000000∧e.rn < 1000000000) (hl:l.length≤1000000000) (hi:i≤1000000):Sound Tryz.prog 83 [.agg [.lst .any 10 (reL l),.v (.int .i64 (n0:Nat))],.v (.int .i64 (i:Nat))] (recA (blkE l i)):=by
 refine vk9 Tryz.func83 rfl (by decide +kernel) (by simp [Tryz.f83]) (by simp [AV.rfL,AV.rf]) (by simp [AV.tlL,AV.tl]) (rs:=[.cell 4 100]) rfl ?_
 rw [show Tryz.f83.ntmps=97 from rfl]
 obtain ⟨m,hm⟩:∃ m,21 * i=m:=⟨_,rfl⟩
 obtain ⟨F,hF⟩:∃ F,min m l.length=F:=⟨_,rfl⟩
 obtain ⟨E,hE⟩:∃ E,min (F+21) l.length=E:=⟨_,rfl⟩
 obtain ⟨P,hP⟩:∃ P,zh7 l i=P:=⟨_,rfl⟩
 have hcut:=part_cut l i F E (by rw [hm];exact hF) hE
 rw [hP] at hcut
 have hcut2:List.drop F (List.take E (reL l))=reL P:=by rw [← reL_take,← reL_drop,hcut]
 have hP21:P.length≤21:=by rw [← hP];exact qw7 l i
 have hP8:∀ e∈P,e.key.length=8:=fun e he=>h8 e (js8 (n:=i) (by rw [hP];exact he))
 have hPs:∀ e∈P,e.trk < 1000000000∧e.rn < 1000000000:=fun e he=>hs e (js8 (n:=i) (by rw [hP];exact he))
 have hm1:m≤21000000:=by omega
 have w1:IntKind.i64.wrap ((i:Int) * 21)=(m:Nat):=by rw [w64 (by omega) (by omega)];omega
 have hmin1:(if (l.length:Int) < (m:Nat) then (l.length:Int) else (m:Nat))=(F:Nat):=by split <;> omega
 have hmin1b:(if l.length < m then (l.length:Int) else (m:Nat))=(F:Nat):=by split <;> omega
 have w2:IntKind.i64.wrap ((F:Int)+21)=((F+21:Nat):Int):=by rw [w64 (by omega) (by omega)];omega
 have hmin2:(if (l.length:Int) < ((F+21:Nat):Int) then (l.length:Int) else ((F+21:Nat):Int))=(E:Nat):=by split <;> omega
 obtain ⟨F21,hF21⟩:∃ F21,F+21=F21:=⟨_,rfl⟩
 rw [hF21] at w2 hmin2 hE
 have hmin2b:(if l.length < F21 then (l.length:Int) else (F21:Nat))=(E:Nat):=by split <;> omega
 have hFE:F≤E:=by omega
 have hFEi:(F:Int)≤E:=by omega
 have hEl:E≤l.length:=by omega
 have hEli:(E:Int)≤l.length:=by omega
 refine yr9 [1,2,4] (by simp;rfl) ?_
 refine yr9 [1,2,4,5] (by simp [w1,hmin1,hmin1b];rfl) ?_
 refine W_rK [1,2,4,5,6] ?_
 refine yq9 5 (by simp [w2];rfl) rfl ?_
 refine yw9 (by simp [w2,hmin2,hmin2b,hFE,hFEi,hEl,hEli,hcut2];rfl) ?_
 refine yr9 [1,2,4,5,6,7] (by simp;rfl) ?_
 refine W_frz 7 (tk:=1) rfl (by decide) (frz256 (by simp)) ?_
 obtain ⟨Z,hZ⟩:∃ Z,vm9 256=Z:=⟨_,rfl⟩
 have hZl:Z.length=256:=by rw [← hZ,vv8]
 rw [hZ]
 obtain ⟨v,hv⟩:∃ v,2+12 * P.length=v:=⟨_,rfl⟩
 have hv2:v < 256:=by omega
 have w3:IntKind.i64.wrap (12 * (P.length:Int))=12 * (P.length:Int):=w64 (by omega) (by omega)
 have w4:IntKind.i64.wrap (2+12 * (P.length:Int))=(v:Nat):=by rw [w64 (by omega) (by omega)];omega
 have w5:IntKind.u32.wrap (v:Nat)=(v:Nat):=by rw [IntKind.wrap_u32];omega
 obtain ⟨O0,hO0⟩:∃ O0:AObj,AObj.cells 70 [.lst .any 10 (reL l),.v (.int .i64 (n0:Nat))]=O0:=⟨_,rfl⟩
 refine W_rK [1,2,4,5,6,7] ?_
 refine yq9 6 (by simp [w3,w4,w5];rfl) rfl ?_
 refine xs9 (f:=116) (args:=[.lst (.tip 5 1) 1 (byL Z),.v (.int .i64 0),.v (.int .u32 (v:Nat))]) (by simp) (by simp [xj9,zc9]) ((uq6 Z v hZl hv2 _ (by simp [yn9,AObj.under,AV.under,AV.underL]) (.tip 5 1)).mono ?_)
 rintro r h' ⟨k,hk,rfl,rfl⟩
 have hD0:[0,UInt8.ofNat v]++Z.drop 2++List.replicate k 0=datP P 0 k:=by
  rw [← hZ,← hv,datP,List.take_zero]
  have:(vm9 256).drop 2++List.replicate k 0=vm9 (254 - 12 * 0+k):=by
   unfold vm9
   rw [List.drop_replicate,List.replicate_append_replicate]
  rw [List.append_assoc,this]
  simp [kj9]
 rw [hD0]
 refine ⟨_,by simp;rfl,?_⟩
 refine yw9 (by simp;rfl) ?_
 refine yh9 ?_
 refine yr9 [1,2,4,5,6,7,39,40,41] (by simp;rfl) ?_
 refine yl9 ?_
 obtain ⟨O1,hO1⟩:∃ O1:AObj,AObj.cells 100 [.v (.int .i64 0),.lst .nil 1 [],.lst .nil 1 [],.v (.bool false)]=O1:=⟨_,rfl⟩
 obtain ⟨O2,hO2⟩:∃ O2:AObj,AObj.froz 5 (byL Z)=O2:=⟨_,rfl⟩
 have hu0:∀ n,O0.under n=true:=by intro n;rw [← hO0];simp [AObj.under,AV.under,AV.underL]
 have hu1:∀ n,O1.under n=true:=by intro n;rw [← hO1];simp [AObj.under,AV.under,AV.underL]
 have hu2:∀ n,O2.under n=true:=by intro n;rw [← hO2];simp [AObj.under]
 have hu3:∀ n D,(AObj.cells 5 (byL D)).under n=true:=by intro n D;simp [AObj.under]
 refine zj9 (fun q s=>∃ j:Nat,q=P.length - j∧j≤P.length∧s=⟨97,[(1,.v (.int .i64 (i:Nat))),(2,.loc 0 0),(4,.loc 1 0),(5,.v (.int .i64 (F:Nat))),(6,.lst .any 10 (reL P)),(7,.arr 3 0 256 (256+k)),(39,.lst .any 10 (reL P)),(40,.v (.int .i64 (P.length:Nat))),(41,.v (.int .i64 (j:Nat)))],[O0,O1,O2,.cells 5 (byL (datP P j k))]⟩) (k:=P.length) ⟨0,rfl,by omega,by simp [hO0,hO1,hO2]⟩ ?_
 rintro q s ⟨j,rfl,hj,rfl⟩
 have hDl:=datP_len hP8 hP21 (k:=k) hj
 by_cases c:j < P.length
 ·have cj : (j : Int) < P.length := by omega
  obtain ⟨e,he⟩:∃ e,P[j]?=some e:=⟨_,List.getElem?_eq_getElem c⟩
  have hge:P[j]'c=e:=by rw [List.getElem?_eq_getElem c] at he;exact Option.some.inj he
  have he8:=hP8 e (List.mem_of_getElem? he)
  have hes:=hPs e (List.mem_of_getElem? he)
  have hnext:=datP_next hP8 hP21 (k:=k) he
  have hnl:=datP_len hP8 hP21 (j:=j+1) (k:=k) (by omega)
  have wj:=w64 (n:=(j:Int)+1) (by omega) (by omega)
  obtain ⟨a,ha⟩:∃ a,2+12 * j=a:=⟨_,rfl⟩
  have wa1:IntKind.i64.wrap (12 * (j:Int))=12 * (j:Int):=w64 (by omega) (by omega)
  have wa2:IntKind.i64.wrap (2+12 * (j:Int))=(a:Nat):=by rw [w64 (by omega) (by omega)];omega
  have ha1:a+12≤256:=by omega
  have ha2:(a:Int)≤256:=by omega
  have ha3:a≤256:=by omega
  have ha4:¬ 256+k=a:=by omega
  rw [ha] at hnext
  obtain ⟨D,hD⟩:∃ D,datP P j k=D:=⟨_,rfl⟩
  rw [hD] at hDl hnext ⊢
  have htk:=kb8 he8
  have hd8:List.drop 8 (reC e)=[.v (.int .i64 (e.trk:Nat)),.v (.int .i64 (e.rn:Nat))]:=by
   rw [reC,List.drop_append_of_le_length (by simp [he8]),List.drop_eq_nil_of_le (by simp [he8])]
   rfl
  have b1:IntKind.u8.wrap (Int.fdiv (e.trk:Int) (2 ^ min 8 IntKind.i64.bits))=((UInt8.ofNat (e.trk / 256)).toNat:Nat):=by
   rw [show (2:Int) ^ min 8 IntKind.i64.bits=256 from rfl,Int.fdiv_eq_ediv_of_nonneg _ (by omega),IntKind.wrap_u8,UInt8.toNat_ofNat']
   omega
  have b2:IntKind.u8.wrap (e.trk:Int)=((UInt8.ofNat e.trk).toNat:Nat):=by
   rw [IntKind.wrap_u8,UInt8.toNat_ofNat']
   omega
  have b3:IntKind.u8.wrap (e.rn:Int)=((UInt8.ofNat e.rn).toNat:Nat):=by
   rw [IntKind.wrap_u8,UInt8.toNat_ofNat']
   omega
  obtain ⟨B1,hB1⟩:∃ B1:Nat,(UInt8.ofNat (e.trk / 256)).toNat=B1:=⟨_,rfl⟩
  obtain ⟨B2,hB2⟩:∃ B2:Nat,(UInt8.ofNat e.trk).toNat=B2:=⟨_,rfl⟩
  obtain ⟨B3,hB3⟩:∃ B3:Nat,(UInt8.ofNat e.rn).toNat=B3:=⟨_,rfl⟩
  rw [hB1] at b1 hnext
  rw [hB2] at b2 hnext
  rw [hB3] at b3 hnext
  refine yr9 [1,2,4,5,6,7,39,40,41,42] (by simp [c,cj];rfl) ?_
  refine yh9 ?_
  refine yt9 (t:=true) (by simp [c,cj]) (fun h=>?_) (fun h=>by simp at h)
  refine yg9 ?_
  refine yh9 ?_
  refine yl9 ?_
  refine yr9 [1,2,4,5,6,7,39,40,41,8,9] (by simp [c,cj,hge,reA,he8,yk9,List.take_of_length_le];rfl) ?_
  refine W_roB 9 (tk:=1) (x:=reA e) rfl (by decide) (frz_re 4 e he8 rfl) (by simp) ?_
  refine vd9 4 (by simp) (by simp) (by simp [zk9,putF,AV.under,AV.underL]) (by show yn9 4 [O0,O1,O2,AObj.cells 5 (byL D)]=true;simp only [yn9,hu0,hu1,hu2,hu3,Bool.and_self]) ?_
  refine (show Wt true 0 Tryz.prog _ _ ⟨97,[(1,.v (.int .i64 (i:Nat))),(2,.loc 0 0),(4,.loc 1 0),(5,.v (.int .i64 (F:Nat))),(6,.lst .any 10 (reL P)),(7,.arr 3 0 256 (256+k)),(39,.lst .any 10 (reL P)),(40,.v (.int .i64 (P.length:Nat))),(41,.v (.int .i64 (j:Nat))),(9,.ro (reA e)),(8,.v (.int .i64 (j:Nat)))],[O0,O1,O2,.cells 5 (byL D)]⟩ from ?_)
  refine yr9 [1,2,4,5,6,7,39,40,41,9,10] (by simp [wa1,wa2,ha2,ha3,ha4];rfl) ?_
  refine W_rK [1,2,4,5,6,7,39,40,41,9,10] ?_
  refine yq9 3 (by simp [reA,he8,htk,maxLen];rfl) rfl ?_
  refine km8 (t:=90) (t':=90) (e:=5) (sz:=1) (id:=3) (off:=a) (len:=256 - a) (cap:=256+k - a) (ag:=false) (oy:=.any) (cs:=byL D) (ys:=byL e.key) (yc:=byL e.key) (by simp) rfl rfl rfl rfl (by simp) (by simp) s90 (by omega) (by simp) (by simp [hDl];omega) (by rw [List.take_of_length_le (by simp [he8];omega)];exact qt9 _) ?_
  rw [jh9]
  obtain ⟨C1,hC1⟩:∃ C1,yk9 (byL D) a (byL e.key)=C1:=⟨_,rfl⟩
  have hC1l:C1.length=256+k:=by rw [← hC1,zp9 _ _ _ (by simp [he8,hDl];omega),wq9,hDl]
  rw [hC1] at hnext ⊢
  refine ⟨_,by simp;rfl,?_⟩
  refine yw9 (by simp;rfl) ?_
  refine W_rE [1,2,4,5,6,7,39,40,41] ?_
  refine yq9 6 (by simp [reA,he8,hd8];rfl) rfl ?_
  refine yq9 5 (by simp [reA,he8,hd8,b1];rfl) rfl ?_
  refine yq9 5 (by simp [reA,he8,hd8,b2,b3];rfl) rfl ?_
  refine yq9 2 (by simp [hC1l,show (8:Int) < (256 - a:Nat) by omega,show 8 < 256 - a by omega,show a+9≤256+k by omega,show a+8+1≤256+k by omega];rfl) rfl ?_
  obtain ⟨C2,hC2⟩:∃ C2,yk9 C1 (a+8) [.v (.int .u8 (B1:Nat))]=C2:=⟨_,rfl⟩
  have hC2l:C2.length=256+k:=by rw [← hC2,zp9 _ _ _ (by simp [hC1l];omega),hC1l]
  rw [hC2] at hnext
  simp only [hC2]
  refine yq9 2 (by simp [hC2l,show (9:Int) < (256 - a:Nat) by omega,show 9 < 256 - a by omega,show a+10≤256+k by omega,show a+9+1≤256+k by omega];rfl) rfl ?_
  obtain ⟨C3,hC3⟩:∃ C3,yk9 C2 (a+9) [.v (.int .u8 (B2:Nat))]=C3:=⟨_,rfl⟩
  have hC3l:C3.length=256+k:=by rw [← hC3,zp9 _ _ _ (by simp [hC2l];omega),hC2l]
  rw [hC3] at hnext
  simp only [hC3]
  refine yw9 (by simp [hC3l,show (10:Int) < (256 - a:Nat) by omega,show 10 < 256 - a by omega,show a+11≤256+k by omega,show a+10+1≤256+k by omega,hnext];rfl) ?_
  refine zr9 [1,2,4,5,6,7,39,40,41] (by simp [wj];rfl) ?_
  exact ⟨_,by omega,j+1,rfl,by omega,by simp⟩
 have hje:j=P.length:=by omega
 subst hje
 refine yr9 [1,2,4,5,6,7,42] (by simp;rfl) ?_
 refine yh9 ?_
 refine yt9 rfl (fun h=>by simp at h) (fun h=>?_)
 refine zs9 ?_
 have hdat:(datP P P.length k).take 256=dataE P:=by
  unfold datP dataE
  rw [List.take_length,show vm9 (254 - 12 * P.length+k)=List.replicate (254 - 12 * P.length) 0++List.replicate k 0 by unfold vm9;rw [List.replicate_append_replicate],← List.append_assoc,List.take_left' (by
   rw [List.length_append,List.length_append,xp8 hP8]
   simp
   omega)]
 obtain ⟨D,hD⟩:∃ D,datP P P.length k=D:=⟨_,rfl⟩
 rw [hD] at hDl hdat ⊢
 obtain ⟨o7,ho7,hf7⟩:=frz_by2 (H:=[O0,O1,O2,AObj.cells 5 (byL D)]) (q:=3) (n:=256) (cq:=256+k) (B:=D) rfl (by omega)
 refine W_frz 7 (tk:=1) rfl (by decide) hf7 ?_
 rw [hdat]
 obtain ⟨DT,hDT⟩:∃ DT,dataE P=DT:=⟨_,rfl⟩
 rw [hDT]
 refine xp7 7 (o:=o7) (sz:=1) (xs:=byL DT) rfl ?_
 subst hO0
 subst hO1
 subst hO2
 refine (show Wt true 0 Tryz.prog _ _ ⟨97,[(1,.v (.int .i64 (i:Nat))),(2,.loc 0 0),(4,.loc 1 0),(5,.v (.int .i64 (F:Nat))),(6,.lst .any 10 (reL P)),(7,.lst .any 1 (byL DT)),(42,.v (.bool false))],[.cells 70 [.lst .any 10 (reL l),.v (.int .i64 (n0:Nat))],.cells 100 [.v (.int .i64 0),.lst .nil 1 [],.lst .nil 1 [],.v (.bool false)],.froz 5 (byL Z),.froz 5 (byL D)]⟩ from ?_)
 refine W_rK [1,2,4,5,6,7,11] ?_
 refine yq9 1 (by simp;rfl) rfl ?_
 refine xs9 (f:=117) (args:=[.lst (.tip 5 302) 1 [.v (.int .u8 255)],.v (.int .i64 8)]) (by simp) (by simp [xj9,zc9]) ((vl6 302 _ (by simp [yn9,AObj.under,AV.under,AV.underL])).mono ?_)
 rintro r h' ⟨k2,rfl,rfl⟩
 refine ⟨_,by simp;rfl,?_⟩
 refine yw9 (by simp;rfl) ?_
 obtain ⟨o11,ho11,hf11⟩:=frz_room3 (h:=[.cells 70 [.lst .any 10 (reL l),.v (.int .i64 (n0:Nat))],.cells 100 [.v (.int .i64 0),.lst .nil 1 [],.lst .nil 1 [],.v (.bool false)],.froz 5 (byL Z),.froz 5 (byL D),AObj.cells 5 (kn9 [255,255,255,255,255,255,255,255] k2)]) 4 8 8 [255,255,255,255,255,255,255,255] k2 rfl rfl
 refine W_frz 11 (tk:=1) rfl (by decide) hf11 ?_
 refine (show Wt true 0 Tryz.prog _ _ ⟨97,[(1,.v (.int .i64 (i:Nat))),(2,.loc 0 0),(4,.loc 1 0),(5,.v (.int .i64 (F:Nat))),(6,.lst .any 10 (reL P)),(7,.lst .any 1 (byL DT)),(11,.lst o11 1 (byL ffL))],[.cells 70 [.lst .any 10 (reL l),.v (.int .i64 (n0:Nat))],.cells 100 [.v (.int .i64 0),.lst .nil 1 [],.lst .nil 1 [],.v (.bool false)],.froz 5 (byL Z),.froz 5 (byL D),.froz 5 (byL [255,255,255,255,255,255,255,255])]⟩ from ?_)
 refine xp7 11 (o:=o11) (sz:=1) (xs:=byL ffL) rfl ?_
 refine ym9 [1,2,4,5,6,7,11] ?_
 refine vs9 (fun σ=>∃ o,(o=.any∨∃ T,o=.tip 5 T)∧σ=⟨97,[(1,.v (.int .i64 (i:Nat))),(4,.loc 1 0),(7,.lst .any 1 (byL DT)),(11,.lst o 1 (byL (keyE l i)))],[.cells 70 [.lst .any 10 (reL l),.v (.int .i64 (n0:Nat))],.cells 100 [.v (.int .i64 0),.lst .nil 1 [],.lst .nil 1 [],.v (.bool false)],.froz 5 (byL Z),.froz 5 (byL D),.froz 5 (byL [255,255,255,255,255,255,255,255])]⟩) ?_ ?_
 ·by_cases c13 : m + 21 < l.length
  ·have hFm : F = m := by omega
   have c13i:((F21:Nat):Int) < l.length:=by omega
   have c13n:F21 < l.length:=by omega
   have hPl:P.length=21:=by rw [← hP,zh7,List.length_take,List.length_drop];omega
   have hPl1:IntKind.i64.wrap ((P.length:Int) - 1)=20:=by rw [hPl];decide +kernel
   obtain ⟨e,he⟩:∃ e,P[20]?=some e:=⟨_,List.getElem?_eq_getElem (by omega)⟩
   have hge:P[20]'(by omega)=e:=by rw [List.getElem?_eq_getElem (by omega)] at he;exact Option.some.inj he
   have h20:20 < P.length:=by omega
   have he8:=hP8 e (List.mem_of_getElem? he)
   have htk:=kb8 he8
   have hkey:keyE l i=e.key:=by
    unfold keyE
    rw [if_pos (by omega)]
    rw [← hP,zh7,List.getElem?_take,if_pos (by omega),List.getElem?_drop] at he
    rw [List.getD_eq_getElem?_getD,he]
    rfl
   rw [hkey]
   have hcl:=jw7 e.key (by omega)
   refine yr9 [1,2,4,5,6,7,82] (by simp [w2,c13i,c13n];rfl) ?_
   refine yt9 (t:=true) (by simp [c13i,c13n]) (fun h=>?_) (fun h=>by simp at h)
   refine W_rE [1,4,7,11] ?_
   refine yq9 4 (by simp [hPl1];rfl) rfl ?_
   refine yq9 3 (by simp [hPl1,h20,hge,reA,he8,htk,maxLen];rfl) rfl ?_
   refine yf9 (by simp) (by first | (simp;done) | (simp;rfl)) hcl (by simp;rfl) ?_
   refine yw9 (by simp;rfl) ?_
   exact ⟨_,.inr ⟨181,rfl⟩,by simp [uh9]⟩
  ·have c13i : ¬ ((F21 : Nat) : Int) < l.length := by omega
   have c13n:¬ F21 < l.length:=by omega
   have hkey:keyE l i=ffL:=by
    unfold keyE
    rw [if_neg (by omega)]
   rw [hkey]
   refine yr9 [1,2,4,5,6,7,11,82] (by simp [w2,c13i,c13n];rfl) ?_
   refine yt9 (t:=false) (by simp [c13i,c13n]) (fun h=>by simp at h) (fun h=>?_)
   refine ym9 [1,4,7,11] ?_
   refine yg9 ?_
   exact ⟨.any,.inl rfl,by simp [uh9]⟩
 rintro _ ⟨o,ho,rfl⟩
 obtain ⟨K,hK⟩:∃ K,keyE l i=K:=⟨_,rfl⟩
 have wr1:Int.tmod (i:Int) 6=((i % 6:Nat):Int):=by rw [Int.tmod_eq_emod_of_nonneg (by omega)];omega
 have wr2:IntKind.i64.wrap (((i % 6:Nat):Int)+1)=((i % 6+1:Nat):Int):=by rw [w64 (by omega) (by omega)];omega
 obtain ⟨i6,hi6⟩:∃ i6,i % 6=i6:=⟨_,rfl⟩
 rw [hi6] at wr1 wr2
 rw [hK,show blkE l i=⟨((i6+1:Nat):Int),K,DT,false⟩ by rw [blkE,hi6,hK,hP,hDT]]
 refine W_rK [4] ?_
 refine yq9 5 (by simp [wr1,wr2];rfl) rfl ?_
 refine yw9 (by simp [yk9];rfl) ?_
 refine yj9 ?_
 repeat (first | refine yp9 ?_ | refine ys9 ?_)
 rcases ho with rfl | ⟨T,rfl⟩
 all_goals exact ⟨_,by simp [retQ,frzV,frzL];exact ⟨rfl,by simp [AV.rf,AV.rfL]⟩,.inr (by simp [AV.plain,AV.plainL])⟩
end Go.AM
