/- Parts of the walk: Z31MF Z31MG Z31MH. -/
import Derived.Test.YtlhaljblcimnbaaGreatG13
namespace Go.AM
open Go.RowKit Go.Proofs
set_option linter.unusedSimpArgs false
set_option linter.unusedVariables false
set_option maxHeartbeats 8000000
theorem vs7 (L:List (List UInt8)) (hL:L.length≤9223372036854775000) (hb:∀ l∈L,l.length≤9223372036854775000):Sound Tryz.prog 6 [.lst .any 1 (bbL L),.v (.int .i64 20),.v (.int .i64 100)] (.lst .any 1 (bbL (xs8 L 20 100))):=by
 refine uh9 Tryz.func6 rfl (by decide +kernel) (by simp [Tryz.f6]) rfl rfl (rs:=[.tmp 6]) rfl ?_
 rw [show Tryz.f6.ntmps=36 from rfl]
 obtain ⟨N,hN⟩:∃ N,min L.length 20=N:=⟨_,rfl⟩
 refine yt9 [0,1,2] (by simp;rfl) ?_
 refine yt9 [0,1,2,7] (by simp;rfl) ?_
 refine yl9 ?_
 refine yt9 [0,1,2,7,8] (by simp;rfl) ?_
 refine ys9 ?_
 refine zl9 (fun k s => ∃ (i : Nat) (fl : Fl), k = N - i ∧ i ≤ N ∧ ((i = 0 ∧ fl = .nil) ∨ (0 < i ∧ fl = .tip 23 69)) ∧
  s=⟨36,[(0,.lst .any 1 (bbL L)),(1,.v (.int .i64 20)),(2,.v (.int .i64 100)),(7,.lst fl 1 (bbL (xs8 L i 100))),(8,.v (.int .i64 (i:Nat)))],[]⟩) (k:=N) ⟨0,.nil,rfl,by omega,.inl ⟨rfl,rfl⟩,by simp [xs8,bbL]⟩ ?_
 rintro k s ⟨i,fl,rfl,hi,hfl,rfl⟩
 refine yl9 ?_
 by_cases c:i < N
 ·have c1 : i < L.length := by omega
  have ci:(i:Int) < L.length:=by omega
  have c20:(i:Int) < 20:=by omega
  obtain ⟨b,hb'⟩:∃ b,L[i]?=some b:=⟨_,List.getElem?_eq_getElem c1⟩
  have hb2:L[i]'c1=b:=by rw [List.getElem?_eq_getElem c1] at hb';exact Option.some.inj hb'
  have hbl:=hb b (List.mem_of_getElem? hb')
  have wi:=w64 (n:=(i:Int)+1) (by omega) (by omega)
  have hlen:(xs8 L i 100).length=i:=by simp [xs8];omega
  have hsnoc:xs8 L (i+1) 100=xs8 L i 100++[b.take 100]:=by rw [xs8,xs8,List.take_add_one,hb',Option.toList_some,List.map_append];rfl
  obtain ⟨q,hq⟩:∃ q,min b.length 100=q:=⟨_,rfl⟩
  have hmin:(if (100:Int) < (b.length:Nat) then (100:Int) else (b.length:Nat))=(q:Nat):=by split <;> omega
  have hql:q≤b.length:=by omega
  have hqi:(q:Int)≤b.length:=by omega
  have htk:b.take q=b.take 100:=by
   rw [← hq]
   rcases Nat.le_total b.length 100 with h | h
   ·rw [Nat.min_eq_left h,List.take_of_length_le (Nat.le_refl _),List.take_of_length_le h]
   ·rw [Nat.min_eq_right h]
  have hbytes:(i+1) * 24≤140737488355328:=by omega
  refine W_cT [0,1,2,7,8,17] (by simp [ci,c20];rfl) rfl ?_
  refine yk9 ?_
  refine yl9 ?_
  refine ys9 ?_
  have hb4:bbL (xs8 L (i+1) 100)=bbL (xs8 L i 100)++[.lst .any 1 (byL (b.take q))]:=by rw [hsnoc,htk];simp [bbL]
  have hbl2:(bbL (xs8 L i 100)).length=i:=by simp [hlen]
  obtain ⟨O,hO⟩:∃ O,bbL (xs8 L i 100)=O:=⟨_,rfl⟩
  rw [hO] at hbl2 hb4 ⊢
  rcases hfl with ⟨h0,rfl⟩ | ⟨h0,rfl⟩
  ·have hO0:O=[]:=by
    rw [h0] at hbl2
    exact List.eq_nil_of_length_eq_zero hbl2
   rw [hO0] at hb4 ⊢
   refine qt9 [0,1,2,7,8] mx (by decide +kernel) ?_
   refine yr9 6 (by simp [c1,ci,hb2];rfl) rfl ?_
   refine yr9 6 (by simp [c1,ci,hb2,hmin,hql,hqi];rfl) rfl ?_
   refine ym9 (by simp [hql,hqi];rfl) ?_
   refine zq9 [0,1,2,7,8] (by simp [wi];rfl) ?_
   exact ⟨_,by omega,i+1,_,rfl,by omega,.inr ⟨by omega,rfl⟩,by simp [hb4,xf9]⟩
  ·refine qt9 [0,1,2,7,8] mx (by decide +kernel) ?_
   refine yr9 6 (by simp [c1,ci,hb2];rfl) rfl ?_
   refine yr9 6 (by simp [c1,ci,hb2,hmin,hql,hqi];rfl) rfl ?_
   refine ym9 (by simp [hbl2,hbytes,hql,hqi];rfl) ?_
   refine zq9 [0,1,2,7,8] (by simp [wi];rfl) ?_
   exact ⟨_,by omega,i+1,_,rfl,by omega,.inr ⟨by omega,rfl⟩,by simp [hb4,xf9]⟩
 have hiN:i=N:=by omega
 have hres:xs8 L i 100=xs8 L 20 100:=by
  rw [hiN,← hN]
  rcases Nat.le_total L.length 20 with h | h
  ·rw [Nat.min_eq_left h,xs8,xs8,List.take_of_length_le (Nat.le_refl _),List.take_of_length_le h]
  ·rw [Nat.min_eq_right h]
 rw [hres]
 by_cases c1:i < L.length
 ·have ci:(i:Int) < L.length:=by omega
  have c20:¬ (i:Int) < 20:=by omega
  refine W_cF [7,17] (by simp [c1,ci,c20];rfl) rfl ?_
  refine zj9 ?_
  refine yt9 [6] (by simp;rfl) ?_
  refine yn9 ?_
  repeat (first | refine yg9 ?_ | refine yh9 ?_)
  exact ul9 (r0:=.lst fl 1 (bbL (xs8 L 20 100))) ⟨.inr rfl,_,_,by simp;rfl,by simp;rfl,by simp [AV.rf,AV.rfL]⟩ (by rcases hfl with ⟨_,rfl⟩ | ⟨_,rfl⟩ <;> simp [AV.plain])
 ·have ci:¬ (i:Int) < L.length:=by omega
  refine W_cF [7,17] (by simp [c1,ci];rfl) rfl ?_
  refine zj9 ?_
  refine yt9 [6] (by simp;rfl) ?_
  refine yn9 ?_
  repeat (first | refine yg9 ?_ | refine yh9 ?_)
  exact ul9 (r0:=.lst fl 1 (bbL (xs8 L 20 100))) ⟨.inr rfl,_,_,by simp;rfl,by simp;rfl,by simp [AV.rf,AV.rfL]⟩ (by rcases hfl with ⟨_,rfl⟩ | ⟨_,rfl⟩ <;> simp [AV.plain])
theorem vg6 (L M:List (List UInt8)):sumL (L++M)=sumL L+sumL M:=by simp only [sumL,List.map_append,List.sum_append]
theorem jb9 (l:List UInt8) (M:List (List UInt8)):sumL (l :: M)=l.length+sumL M:=by simp [sumL]
theorem jk4:sumL []=0:=rfl
theorem jq6 : ∀ (L : List (List UInt8)) (i : Nat), sumL (L.drop i) ≤ sumL L
 | [],i=>by simp
 | l :: L,0=>by simp
 | l :: L,i+1=>by
  rw [List.drop_succ_cons,jb9]
  have:=jq6 L i
  omega
theorem yv7 : ∀ (L : List (List UInt8)) (i : Nat) (y : List UInt8), sumL (L.set i y) ≤ sumL L + y.length
 | [],i,y=>by simp [sumL]
 | l :: L,0,y=>by
  rw [List.set_cons_zero,jb9,jb9]
  omega
 | l :: L,i+1,y=>by
  rw [List.set_cons_succ,jb9,jb9]
  have:=yv7 L i y
  omega
theorem qv5 : ∀ (L : List (List UInt8)) (l : List UInt8), l ∈ L → l.length ≤ sumL L
 | [],l,h=>by simp at h
 | x :: L,l,h=>by
  rw [jb9]
  rcases List.mem_cons.1 h with rfl | h
  ·omega
  ·have:=qv5 L l h
   omega
theorem kk5 {t:List (List UInt8)} {M:Nat} (h:∀ l∈t,l.length≤M) (i:Nat):(t.getD i []).length≤M:=by
 rw [List.getD_eq_getElem?_getD]
 cases e:t[i]? with
 | none=>simp
 | some l=>exact h l (List.mem_of_getElem? e)
theorem spM_sum {t:List (List UInt8)} {M:Nat} (h:∀ l∈t,l.length≤M) (a b:Nat) (c:UInt8):sumL (spM t a b c)≤sumL t+2 * M:=by
 unfold spM
 split
 ·simp [sumL]
 have hg:=kk5 h (a % t.length)
 split
 ·rw [vg6]
  have h1:sumL t=sumL (t.take (a % t.length))+sumL (t.drop (a % t.length)):=by rw [← vg6,List.take_append_drop]
  have h2:sumL (t.drop (a % t.length+1))≤sumL (t.drop (a % t.length)):=by rw [← List.drop_drop];exact jq6 _ 1
  omega
 ·rw [vg6,jb9,jk4];omega
 ·have:=yv7 t (a % t.length) ((t.getD (a % t.length) []).take (b / 8 % ((t.getD (a % t.length) []).length+1)))
  rw [List.length_take] at this
  omega
 ·split
  ·have h1:=yv7 (t.set (a % t.length) (t.getD (a % t.length+1) [])) (a % t.length+1) (t.getD (a % t.length) [])
   have h2:=yv7 t (a % t.length) (t.getD (a % t.length+1) [])
   have h3:=kk5 h (a % t.length+1)
   omega
  ·omega
 ·split
  ·omega
  ·have:=yv7 t (a % t.length) ((t.getD (a % t.length) []).set (b / 8 % (t.getD (a % t.length) []).length) c)
   rw [List.length_set] at this
   omega
theorem spM_len (t:List (List UInt8)) (a b:Nat) (c:UInt8):(spM t a b c).length≤t.length+1:=by
 unfold spM
 split
 ·simp
 split
 ·simp;omega
 ·simp
 ·simp
 ·split <;> simp
 ·split <;> simp
structure SeedOk (x:SeedM):Prop where
 t:∀ n∈x.txts,n < 65536
 r:∀ n∈x.rlds,n < 65536
 l1:x.esds.length≤9223372036854775000
 l4:x.txts.length≤9223372036854775000
 l2:x.rlds.length≤9223372036854775000
 l3:x.data.length≤9223372036854775000
theorem kq4 (l : List Esd) (h : ∀ x ∈ l, (zm9 x.name).length ≤ 16) : ∀ (f i : Nat), ∀ b ∈ egoE l f i, b.length = 80
 | 0,i,b,hb=>by simp [egoE] at hb
 | f+1,i,b,hb=>by
  rw [egoE] at hb
  split at hb
  ·rcases List.mem_cons.1 hb with rfl | hb
   ·exact (yq7 ((l.drop i).take 3) (by rw [List.length_take];omega) fun x hx=>h x (List.mem_of_mem_drop (List.mem_of_mem_take hx))).1
   ·exact kq4 l h f (i+3) b hb
  ·simp at hb
theorem qn4 (l : List Rld) : ∀ (f i : Nat), ∀ b ∈ egoR l f i, b.length = 80
 | 0,i,b,hb=>by simp [egoR] at hb
 | f+1,i,b,hb=>by
  rw [egoR] at hb
  split at hb
  ·rcases List.mem_cons.1 hb with rfl | hb
   ·exact (jm8 ((l.drop i).take 7) (by rw [List.length_take];omega)).1
   ·exact qn4 l f (i+7) b hb
  ·simp at hb
theorem qv4 {o:OMod} (h:chkM o=true):∀ b∈encO o,b.length=80:=by
 have hD:=jr5 h
 intro b hb
 rw [encO_B] at hb
 rcases List.mem_append.1 hb with hb | hb
 ·unfold encB at hb
  rcases List.mem_append.1 hb with hb | hb
  ·exact kq4 o.esd (fun x hx=>by
    have h1:=qv7 o.esd 1 hD.es x hx
    rw [up8 h1.1,kk8]
    omega) _ _ b hb
  rcases List.mem_append.1 hb with hb | hb
  ·obtain ⟨t,ht,rfl⟩:=List.mem_map.1 hb
   exact (yb6 t (hD.ts t ht)).1
  ·exact qn4 o.rld _ _ b hb
 ·rw [List.mem_singleton.1 hb]
  exact (yn6 o.entry hD.en.1 hD.en.2).1
theorem wl6 {o:OMod} (h:chkM o=true):1≤(encO o).length∧(encO o).length≤6145:=by
 have hO:=wt8 h
 have h1:=xs7 o.esd o.esd.length 0
 have h2:=xp7 o.rld o.rld.length 0
 have h3:=hO.l1
 have h4:=hO.l2
 have h5:=hO.l3
 unfold encO
 simp only [List.length_append,List.length_map,List.length_singleton]
 omega
theorem vw5 : ∀ (R cur : List (List UInt8)) (acc l : List OMod), (∀ o ∈ acc, chkM o = true) → rgo R cur acc = some l → ∀ o ∈ l, chkM o = true
 | [],cur,acc,l,h,hr=>by
  rw [rgo] at hr
  split at hr
  ·cases hr;exact h
  ·cases hr
 | b :: R,cur,acc,l,h,hr=>by
  rw [rgo] at hr
  split at hr
  ·split at hr
   ·rename_i hok
    refine vw5 R [] _ l (fun o ho=>?_) hr
    rcases List.mem_append.1 ho with ho | ho
    ·exact h o ho
    ·rw [List.mem_singleton.1 ho];exact (qt6 hok).1
   ·cases hr
  ·exact vw5 R _ acc l h hr
theorem rdcs_sm (L:List (List UInt8)):∀ o∈(rdcs L).1,o.esd.length≤2048∧o.txt.length≤2048∧o.rld.length≤2048:=by
 intro o ho
 unfold rdcs at ho
 split at ho
 ·simp at ho
 ·rename_i l hl
  have hc:=wt8 (vw5 L [] [] l (by simp) hl o ho)
  exact ⟨hc.l1,hc.l2,hc.l3⟩
theorem dcD_sm (L:List (List UInt8)):(dcD false L).1.esd.length≤2048∧(dcD false L).1.txt.length≤2048∧(dcD false L).1.rld.length≤2048:=by
 cases h:(dcD false L).2 with
 | true =>
  have hc:=wt8 (qt6 h).1
  exact ⟨hc.l1,hc.l2,hc.l3⟩
 | false=>rw [qp6 h];simp [om0]
theorem vq5 : ∀ (R cur : List (List UInt8)) (acc l : List OMod), rgo R cur acc = some l → l.length ≤ acc.length + R.length
 | [],cur,acc,l,hr=>by
  rw [rgo] at hr
  split at hr
  ·cases hr;simp
  ·cases hr
 | b :: R,cur,acc,l,hr=>by
  rw [rgo] at hr
  simp only [List.length_cons]
  split at hr
  ·split at hr
   ·have:=vq5 R [] _ l hr
    simp only [List.length_append,List.length_singleton] at this
    omega
   ·cases hr
  ·have:=vq5 R _ acc l hr
   omega
theorem yg3 (L:List (List UInt8)):(rdcs L).1.length≤L.length:=by
 unfold rdcs
 split
 ·simp
 ·rename_i l hl
  have:=vq5 L [] [] l hl
  simpa using this
theorem vq9 (L:List (List UInt8)) (hL:L.length≤100000) (hb:∀ b∈L,b.length≤140737488355328):Sound Tryz.prog 8 [.lst .any 1 (bbL L)] (.v (.bool true)):=by
 have hd1:=xc8 L (by omega)
 have hd2:=zg8 L hL
 have hd3:=jb8 L hL hb
 have hd4:=kv8 L hL
 rw [km5 true false] at hd1
 rw [← rdcs_eq] at hd3
 have sm1:=dcD_sm L
 have sm2:=rdcs_sm L
 have sml:=yg3 L
 obtain ⟨o,ok,ho⟩:∃ o ok,dcD false L=(o,ok):=⟨_,_,rfl⟩
 obtain ⟨Os,ok2,hos⟩:∃ l ok,rdcs L=(l,ok):=⟨_,_,rfl⟩
 rw [ho] at hd1 hd2 sm1
 rw [hos] at hd3 hd4 sm2 sml
 simp only at hd1 hd2 hd3 hd4 sm1 sm2 sml
 obtain ⟨m1,m2,m3⟩:=sm1
 have hso:=ud8 o (by omega) (by omega) (by omega)
 refine zh9 Tryz.func8 rfl (by decide +kernel) (by simp [Tryz.f8]) rfl rfl (rs:=[.tmp 2]) rfl ?_
 rw [show Tryz.f8.ntmps=87 from rfl]
 refine yt9 [0] (by simp;rfl) ?_
 refine W_rK [0,3,4] ?_
 refine yq9 1 (by simp;rfl) rfl ?_
 refine yd9 (by simp) (by first | (simp;done) | (simp;rfl)) hd1 (by simp;rfl) ?_
 refine yw9 (by simp [yf9,strB];rfl) ?_
 refine W_rK [0,3,4,5,6] ?_
 refine yq9 1 (by simp;rfl) rfl ?_
 refine yd9 (by simp) (by first | (simp;done) | (simp;rfl)) hd2 (by simp;rfl) ?_
 refine yw9 (by simp [yf9,strB];rfl) ?_
 refine W_rK [0,3,4,5,6,7,8] ?_
 refine yq9 1 (by simp;rfl) rfl ?_
 refine yd9 (by simp) (by first | (simp;done) | (simp;rfl)) hd3 (by simp;rfl) ?_
 refine yw9 (by simp;rfl) ?_
 refine W_rK [3,4,5,6,7,8,9,10] ?_
 refine yq9 1 (by simp;rfl) rfl ?_
 refine yd9 (by simp) (by first | (simp;done) | (simp;rfl)) hd4 (by simp;rfl) ?_
 refine yw9 (by simp;rfl) ?_
 refine xh9 (fun σ=>∃ t,σ=⟨87,[(7,.lst .any 4 (obL Os)),(9,.lst .any 4 (obL Os))]++t,[]⟩∧t=[(70,.v (.bool false))]) ?_ ?_
 ·refine W_rK [7, 9, 70] ?_
  cases ok <;> cases ok2
  all_goals
   iterate 4 refine yq9 9 (by simp;rfl) rfl ?_
   refine yd9 (args:=[obA o,obA o]) (by simp) (by simp [strB];rfl) hso (by simp;rfl) ?_
   refine yw9 (by simp;rfl) ?_
   refine yp9 (t:=false) (by simp) (fun h=>by simp at h) (fun h=>?_)
   refine xp9 0 (Nat.zero_le _) (by simp) (by simp [yv9,AV.under,AV.underL,strB]) (by simp [yc9]) ?_
   refine yk9 ?_
   refine ⟨_,?_,rfl⟩
   simp
 rintro _ ⟨t,rfl,rfl⟩
 refine yl9 ?_
 refine yt9 [7,9,72,73] (by simp;rfl) ?_
 refine ys9 ?_
 refine zl9 (fun k s=>∃ i:Nat,k=Os.length - i∧i≤Os.length∧s=⟨87,[(7,.lst .any 4 (obL Os)),(9,.lst .any 4 (obL Os)),(72,.v (.int .i64 (Os.length:Nat))),(73,.v (.int .i64 (i:Nat)))],[]⟩) (k:=Os.length) ⟨0,rfl,by omega,by simp⟩ ?_
 rintro k s ⟨i,rfl,hi,rfl⟩
 by_cases c:i < Os.length
 ·have ci:(i:Int) < Os.length:=by omega
  obtain ⟨x,hs⟩:∃ x,Os[i]?=some x:=⟨_,List.getElem?_eq_getElem c⟩
  have hx2:Os[i]'c=x:=by rw [List.getElem?_eq_getElem c] at hs;exact Option.some.inj hs
  obtain ⟨n1,n2,n3⟩:=sm2 x (List.mem_of_getElem? hs)
  have hsx:=ud8 x (by omega) (by omega) (by omega)
  have wi:=w64 (n:=(i:Int)+1) (by omega) (by omega)
  refine yt9 [7,9,72,73,74] (by simp [c,ci];rfl) ?_
  refine yl9 ?_
  refine yp9 (t:=true) (by simp [c,ci]) (fun h=>?_) (fun h=>by simp at h)
  refine yk9 ?_
  refine yl9 ?_
  refine ys9 ?_
  refine yt9 [7,9,72,73,11] (by simp;rfl) ?_
  refine jh9 [7,9,72,73,85] mx (by decide +kernel) ?_
  refine yr9 8 (by simp [c,ci,hx2];rfl) rfl ?_
  refine zw9 (args:=[obA x,obA x]) (by simp) (by first | (simp [strB];done) | (simp [strB];rfl)) hsx (by simp;rfl) ?_
  refine ym9 (by simp;rfl) ?_
  refine yp9 (t:=false) (by simp) (fun h=>by simp at h) (fun h=>?_)
  refine yk9 ?_
  refine zq9 [7,9,72,73] (by simp [wi];rfl) ?_
  exact ⟨_,by omega,i+1,rfl,by omega,by simp⟩
 have ci:¬ (i:Int) < Os.length:=by omega
 refine yt9 [74] (by simp [c,ci];rfl) ?_
 refine yl9 ?_
 refine yp9 (t:=false) (by simp [c,ci]) (fun h=>by simp at h) (fun h=>?_)
 refine zj9 ?_
 refine yt9 [2] (by simp;rfl) ?_
 refine yn9 ?_
 repeat (first | refine yg9 ?_ | refine yh9 ?_)
 simp [retQ]
end Go.AM
namespace Go.AM
open Go.RowKit Go.Proofs
set_option linter.unusedSimpArgs false
set_option linter.unusedVariables false
set_option maxHeartbeats 8000000
def goodC (X:List (List UInt8)):Prop:=X.length≤100000∧∀ b∈X,b.length≤140737488355328
theorem zj4 (L:List (List UInt8)):goodC (xs8 L 20 100):=by
 unfold goodC xs8
 refine ⟨by simp;omega,fun b hb=>?_⟩
 obtain ⟨x,_,rfl⟩:=List.mem_map.1 hb
 rw [List.length_take]
 omega
theorem wg4 : ∀ (L : List (List UInt8)), (∀ b ∈ L, b.length = 80) → sumL L = 80 * L.length
 | [],h=>rfl
 | b :: L,h=>by
  rw [jb9,wg4 L fun y hy=>h y (by simp [hy]),h b (by simp),List.length_cons]
  omega
theorem qn5 (C:List (List UInt8)) (h80:∀ b∈C,b.length=80) (hC:C.length≤12290) (A B:Nat) (c:UInt8):goodC (spM C A B c):=by
 have s0:=wg4 C h80
 have s1:=spM_sum (M:=80) (fun l hl=>by have:=h80 l hl;omega) A B c (t:=C)
 have s2:=spM_len C A B c
 refine ⟨by omega,fun b hb=>?_⟩
 have:=qv5 _ b hb
 omega
theorem qr5 (L : List (List UInt8)) (hL : L.length ≤ 9223372036854775000) (hb : ∀ l ∈ L, l.length ≤ 9223372036854775000) (x y : SeedM) (hx : SeedOk x) (hy : SeedOk y) (A B : Nat) (hA : A < 65536) (hB : B < 65536) (c : UInt8) :
  Sound Tryz.prog 3 [.lst .any 1 (bbL L),wv5 x,wv5 y,.v (.int .u16 (A:Nat)),.v (.int .u16 (B:Nat)),.v (.int .u8 c.toNat)] (.v (.bool true)):=by
 have hob:=vb7 x hx.t hx.r hx.l1 hx.l4 hx.l2 hx.l3
 have hoy:=vb7 y hy.t hy.r hy.l1 hy.l4 hy.l2 hy.l3
 have hov:=wq6 x
 have hyv:=wq6 y
 obtain ⟨o,ho⟩:∃ o,objM x=o:=⟨_,rfl⟩
 obtain ⟨p,hp⟩:∃ o,objM y=o:=⟨_,rfl⟩
 rw [ho] at hob hov
 rw [hp] at hoy hyv
 have hen:=kw9 o (wt8 hov) (qc6 hov)
 have hep:=kw9 p (wt8 hyv) (qc6 hyv)
 have c1:=wl6 hov
 have c2:=wl6 hyv
 have e1:=qv4 hov
 have e2:=qv4 hyv
 obtain ⟨C,hC⟩:∃ C,encO o=C:=⟨_,rfl⟩
 obtain ⟨D,hD⟩:∃ C,encO p=C:=⟨_,rfl⟩
 rw [hC] at hen c1 e1
 rw [hD] at hep c2 e2
 have e3:∀ b∈C++D,b.length=80:=fun b hb=>by
  rcases List.mem_append.1 hb with h | h
  ·exact e1 b h
  ·exact e2 b h
 have l3:(C++D).length≤12290:=by rw [List.length_append];omega
 have hcut:=vs7 L hL hb
 have hsp1:=yb7 C A B c hA hB (by omega) (fun l hl=>by have:=e1 l hl;omega)
 have hsp2:=yb7 (C++D) A B c hA hB (by omega) (fun l hl=>by have:=e3 l hl;omega)
 obtain ⟨X0,hX0⟩:∃ X,xs8 L 20 100=X:=⟨_,rfl⟩
 obtain ⟨X3,hX3⟩:∃ X,spM C A B c=X:=⟨_,rfl⟩
 obtain ⟨X4,hX4⟩:∃ X,spM (C++D) A B c=X:=⟨_,rfl⟩
 have g0:=zj4 L
 have g3:=qn5 C e1 (by omega) A B c
 have g4:=qn5 (C++D) e3 l3 A B c
 rw [hX0] at hcut g0
 rw [hX3] at hsp1 g3
 rw [hX4] at hsp2 g4
 have hr0:=vq9 X0 g0.1 g0.2
 have hr1:=vq9 C (by omega) (fun b h=>by have:=e1 b h;omega)
 have hr2:=vq9 (C++D) (by omega) (fun b h=>by have:=e3 b h;omega)
 have hr3:=vq9 X3 g3.1 g3.2
 have hr4:=vq9 X4 g4.1 g4.2
 have hr5:=vq9 [] (by simp) (by simp)
 rw [show bbL []=[] from rfl] at hr5
 obtain ⟨CD,hCD⟩:∃ X,C++D=X:=⟨_,rfl⟩
 rw [hCD] at hsp2 hr2
 have happ:bbL C++bbL D=bbL CD:=by rw [← kf6,hCD]
 have hCp:0 < C.length:=by omega
 have hCn:C≠[]:=by intro e;rw [e] at hCp;simp at hCp
 have hDp:0 < D.length:=by omega
 have hDn:D≠[]:=by intro e;rw [e] at hDp;simp at hDp
 have hby:C.length * 24≤140737488355328:=by omega
 have hby2:(C.length+D.length) * 24≤140737488355328:=by omega
 have hbC:(bbL C).length=C.length:=by simp
 have hbD:(bbL D).length=D.length:=by simp
 have hbCn:bbL C≠[]:=by intro e;have:=congrArg List.length e;simp at this;exact hCn this
 have hbDn:bbL D≠[]:=by intro e;have:=congrArg List.length e;simp at this;exact hDn this
 refine zh9 Tryz.func3 rfl (by decide +kernel) (by simp [Tryz.f3]) (by simp [AV.rfL,AV.rf]) (by simp [AV.tlL,AV.tl]) (rs:=[.tmp 12]) rfl ?_
 rw [show Tryz.f3.ntmps=50 from rfl]
 refine yt9 [0,3,4,5,7,8] (by simp;rfl) ?_
 refine (show Wt true 0 Tryz.prog _ _ ⟨50,[(0,.lst .any 1 (bbL L)),(3,.v (.int .u16 (A:Nat))),(4,.v (.int .u16 (B:Nat))),(5,.v (.int .u8 c.toNat)),(7,.loc 0 0),(8,.loc 1 0)],[.cells 26 (zn9 x),.cells 26 (zn9 y)]⟩ from ?_)
 refine W_rK [0,3,4,5,8,13] ?_
 refine yq9 1 (by simp [zn9];rfl) rfl ?_
 refine yd9 (by simp) (by first | (simp;done) | (simp;rfl)) hob (by simp [strB];rfl) ?_
 refine yd9 (by simp) (by first | (simp [strB];done) | (simp [strB];rfl)) hen (by simp;rfl) ?_
 refine yw9 (by simp;rfl) ?_
 refine jh9 [0,3,4,5,13,14] mx (by decide +kernel) ?_
 refine yr9 4 (by simp [zn9,hby,hCp,hCn,hbCn,catK,AV.cellsK,AV.kone,AV.koneL];rfl) rfl ?_
 refine zw9 (by simp) (by first | (simp;done) | (simp;rfl)) hoy (by simp [strB];rfl) ?_
 refine zw9 (by simp) (by first | (simp [strB];done) | (simp [strB];rfl)) hep (by simp;rfl) ?_
 refine ym9 (by simp [hby2,hDp,hDn,hbDn,catK,AV.cellsK,AV.kone,AV.koneL,happ];rfl) ?_
 refine xp9 0 (Nat.zero_le _) (by simp) (by simp [yv9,AV.under,AV.underL]) (by simp [yc9]) ?_
 refine yl9 ?_
 refine W_rK [41,42] ?_
 refine yq9 1 (by simp;rfl) rfl ?_
 refine yd9 (by simp) (by first | (simp;done) | (simp;rfl)) hcut (by simp;rfl) ?_
 refine yq9 6 (by simp;rfl) rfl ?_
 refine yd9 (by simp) (by first | (simp;done) | (simp;rfl)) hsp1 (by simp;rfl) ?_
 refine yq9 4 (by simp;rfl) rfl ?_
 refine yd9 (by simp) (by first | (simp;done) | (simp;rfl)) hsp2 (by simp;rfl) ?_
 refine yw9 (by simp [yf9];rfl) ?_
 refine ys9 ?_
 refine zl9 (fun k s=>∃ i:Nat,k=6 - i∧i≤6∧s=⟨50,[(41,.agg [.lst .any 1 (bbL X0),.lst .any 1 (bbL C),.lst (.tip 23 45) 1 (bbL CD),.lst (.tip 23 71) 1 (bbL X3),.lst (.tip 23 81) 1 (bbL X4),.lst .nil 1 []]),(42,.v (.int .i64 (i:Nat)))],[]⟩) (k:=6) ⟨0,rfl,by omega,by simp⟩ ?_
 rintro k s ⟨i,rfl,hi,rfl⟩
 by_cases q0:i=0
 ·subst q0
  have w0:IntKind.i64.wrap 1=1:=by decide
  refine yt9 [41,42,43] (by simp;rfl) ?_
  refine yl9 ?_
  refine yp9 (t:=true) (by simp) (fun h=>?_) (fun h=>by simp at h)
  refine yk9 ?_
  refine yl9 ?_
  refine ys9 ?_
  refine yt9 [41,42,16] (by simp;rfl) ?_
  refine W_rK [41,42,47] ?_
  refine yq9 1 (by simp;rfl) rfl ?_
  refine yd9 (by simp) (by first | (simp;done) | (simp;rfl)) hr0 (by simp;rfl) ?_
  refine yw9 (by simp;rfl) ?_
  refine yp9 (t:=false) (by simp) (fun h=>by simp at h) (fun h=>?_)
  refine yk9 ?_
  refine zq9 [41,42] (by simp [w0];rfl) ?_
  exact ⟨_,by omega,1,rfl,by omega,by simp⟩
 by_cases q1:i=1
 ·subst q1
  have w1:IntKind.i64.wrap 2=2:=by decide
  refine yt9 [41,42,43] (by simp;rfl) ?_
  refine yl9 ?_
  refine yp9 (t:=true) (by simp) (fun h=>?_) (fun h=>by simp at h)
  refine yk9 ?_
  refine yl9 ?_
  refine ys9 ?_
  refine yt9 [41,42,16] (by simp;rfl) ?_
  refine W_rK [41,42,47] ?_
  refine yq9 1 (by simp;rfl) rfl ?_
  refine yd9 (by simp) (by first | (simp;done) | (simp;rfl)) hr1 (by simp;rfl) ?_
  refine yw9 (by simp;rfl) ?_
  refine yp9 (t:=false) (by simp) (fun h=>by simp at h) (fun h=>?_)
  refine yk9 ?_
  refine zq9 [41,42] (by simp [w1];rfl) ?_
  exact ⟨_,by omega,2,rfl,by omega,by simp⟩
 by_cases q2:i=2
 ·subst q2
  have w2:IntKind.i64.wrap 3=3:=by decide
  refine yt9 [41,42,43] (by simp;rfl) ?_
  refine yl9 ?_
  refine yp9 (t:=true) (by simp) (fun h=>?_) (fun h=>by simp at h)
  refine yk9 ?_
  refine yl9 ?_
  refine ys9 ?_
  refine yt9 [41,42,16] (by simp;rfl) ?_
  refine W_rK [41,42,47] ?_
  refine yq9 1 (by simp;rfl) rfl ?_
  refine yd9 (by simp) (by first | (simp;done) | (simp;rfl)) hr2 (by simp;rfl) ?_
  refine yw9 (by simp;rfl) ?_
  refine yp9 (t:=false) (by simp) (fun h=>by simp at h) (fun h=>?_)
  refine yk9 ?_
  refine zq9 [41,42] (by simp [w2];rfl) ?_
  exact ⟨_,by omega,3,rfl,by omega,by simp⟩
 by_cases q3:i=3
 ·subst q3
  have w3:IntKind.i64.wrap 4=4:=by decide
  refine yt9 [41,42,43] (by simp;rfl) ?_
  refine yl9 ?_
  refine yp9 (t:=true) (by simp) (fun h=>?_) (fun h=>by simp at h)
  refine yk9 ?_
  refine yl9 ?_
  refine ys9 ?_
  refine yt9 [41,42,16] (by simp;rfl) ?_
  refine W_rK [41,42,47] ?_
  refine yq9 1 (by simp;rfl) rfl ?_
  refine yd9 (by simp) (by first | (simp;done) | (simp;rfl)) hr3 (by simp;rfl) ?_
  refine yw9 (by simp;rfl) ?_
  refine yp9 (t:=false) (by simp) (fun h=>by simp at h) (fun h=>?_)
  refine yk9 ?_
  refine zq9 [41,42] (by simp [w3];rfl) ?_
  exact ⟨_,by omega,4,rfl,by omega,by simp⟩
 by_cases q4:i=4
 ·subst q4
  have w4:IntKind.i64.wrap 5=5:=by decide
  refine yt9 [41,42,43] (by simp;rfl) ?_
  refine yl9 ?_
  refine yp9 (t:=true) (by simp) (fun h=>?_) (fun h=>by simp at h)
  refine yk9 ?_
  refine yl9 ?_
  refine ys9 ?_
  refine yt9 [41,42,16] (by simp;rfl) ?_
  refine W_rK [41,42,47] ?_
  refine yq9 1 (by simp;rfl) rfl ?_
  refine yd9 (by simp) (by first | (simp;done) | (simp;rfl)) hr4 (by simp;rfl) ?_
  refine yw9 (by simp;rfl) ?_
  refine yp9 (t:=false) (by simp) (fun h=>by simp at h) (fun h=>?_)
  refine yk9 ?_
  refine zq9 [41,42] (by simp [w4];rfl) ?_
  exact ⟨_,by omega,5,rfl,by omega,by simp⟩
 by_cases q5:i=5
 ·subst q5
  have w5:IntKind.i64.wrap 6=6:=by decide
  refine yt9 [41,42,43] (by simp;rfl) ?_
  refine yl9 ?_
  refine yp9 (t:=true) (by simp) (fun h=>?_) (fun h=>by simp at h)
  refine yk9 ?_
  refine yl9 ?_
  refine ys9 ?_
  refine yt9 [41,42,16] (by simp;rfl) ?_
  refine W_rK [41,42,47] ?_
  refine yq9 1 (by simp;rfl) rfl ?_
  refine yd9 (by simp) (by first | (simp;done) | (simp;rfl)) hr5 (by simp;rfl) ?_
  refine yw9 (by simp;rfl) ?_
  refine yp9 (t:=false) (by simp) (fun h=>by simp at h) (fun h=>?_)
  refine yk9 ?_
  refine zq9 [41,42] (by simp [w5];rfl) ?_
  exact ⟨_,by omega,6,rfl,by omega,by simp⟩
 have hi6:i=6:=by omega
 subst hi6
 refine yt9 [43] (by simp;rfl) ?_
 refine yl9 ?_
 refine yp9 (t:=false) (by simp) (fun h=>by simp at h) (fun h=>?_)
 refine zj9 ?_
 refine W_rK [12] ?_
 refine yd9 (by simp) (by first | (simp;done) | (simp;rfl)) wr5 (by simp;rfl) ?_
 refine yw9 (by simp;rfl) ?_
 refine yn9 ?_
 repeat (first | refine yg9 ?_ | refine yh9 ?_)
 simp [retQ]
end Go.AM
namespace Go.AM
open Go.RowKit Go.Proofs
set_option linter.unusedSimpArgs false
set_option linter.unusedVariables false
set_option maxHeartbeats 1000000
structure TF (P:Program):Prop where
 u5:P.underlying 5=some (.int .u8)
 u27:P.underlying 27=some (.int .u16)
 u23:P.underlying 23=some (.slice 5)
 u24:P.underlying 24=some (.slice 27)
 c5:P.cellsOf 5=1
 c27:P.cellsOf 27=1
 c26:P.cellsOf 26=5
 b5:P.bytesOf 5=1
 b27:P.bytesOf 27=2
 f26:flds P 26=some [(23,0,1),(24,1,1),(24,2,1),(5,3,1),(23,4,1)]
theorem tf:TF Tryz.prog:=⟨by kernel_rfl,by kernel_rfl,by kernel_rfl,by kernel_rfl,by kernel_rfl,by kernel_rfl,by kernel_rfl,by kernel_rfl,by kernel_rfl,by kernel_rfl⟩
section
variable {P : Program}
theorem qh5 {n:Nat} {t e:TypeId} {x:AV} (hu:P.underlying t=some (.slice e)) (h:TyV P (n+1) t x):∃ o l,x=.lst o (P.cellsOf e) l∧l.length≤maxLen∧l.length * P.bytesOf e≤140737488351232∧∀ y∈l,TyV P n e y:=by
 rcases h with ⟨h1,_⟩ | ⟨_,h⟩
 ·simp [isSt,hu] at h1
 ·simp only [TyC,hu] at h
  obtain ⟨o,l,hl,hmax,_,_,hx⟩:=h
  simp only [List.cons.injEq,and_true] at hl
  exact ⟨o,l,hl,hmax.1,hmax.2,hx⟩
theorem vp7 {β : Type} {F : β → AV} {Q : β → Prop} : ∀ {l : List AV}, (∀ y ∈ l, ∃ b, y.dp = F b ∧ Q b) → ∃ bs : List β, AV.dpL l = bs.map F ∧ bs.length = l.length ∧ ∀ b ∈ bs, Q b
 | [],_=>⟨[],rfl,rfl,by simp⟩
 | y :: l,h=>by
  obtain ⟨b,h1,h2⟩:=h y (by simp)
  obtain ⟨bs,k1,k2,k3⟩:=vp7 (l:=l) fun y hy=>h y (by simp [hy])
  refine ⟨b :: bs,by simp [AV.dpL,h1,k1],by simp [k2],fun c hc=>?_⟩
  rcases List.mem_cons.1 hc with rfl | hc
  ·exact h2
  ·exact k3 c hc
theorem len5 {α:Type} {l:List α} (h:l.length=5):∃ a b c d e,l=[a,b,c,d,e]:=by
 match l,h with
 | [a,b,c,d,e],_=>exact ⟨a,b,c,d,e,rfl⟩
theorem qr4 {n:Nat} {ys:List AV} {l:List (TypeId × Nat × Nat)} (hf:∀ p∈l,TyC P n p.1 ((ys.drop p.2.1).take p.2.2)) (t:TypeId) (i:Nat) (x:AV) (hm:(t,i,1)∈l) (hx:ys[i]?=some x) (hs:isSt P t=false):TyV P n t x:=by
 have h:=hf _ hm
 simp only at h
 have e:(ys.drop i).take 1=[x]:=by
  obtain ⟨h1,h2⟩:=List.getElem?_eq_some_iff.1 hx
  rw [List.drop_eq_getElem_cons h1,h2];rfl
 rw [e] at h
 exact .inr ⟨hs,h⟩
theorem xc4 {n:Nat} {t:TypeId} {x:AV} (hu:P.underlying t=some (.int .u16)) (h:TyV P (n+1) t x):∃ b:Nat,x=.v (.int .u16 b)∧b < 65536:=by
 obtain ⟨m,rfl,h1,h2⟩:=ty_int hu h
 rw [show IntKind.u16.min=0 from by decide +kernel] at h1
 rw [show IntKind.u16.max=65535 from by decide +kernel] at h2
 obtain ⟨b,rfl⟩:∃ b:Nat,m=b:=⟨m.toNat,by omega⟩
 exact ⟨b,rfl,by omega⟩
theorem xl4 (T:TF P) {n:Nat} {x:AV} (h:TyV P (n+3) 24 x):∃ l:List Nat,x.dp=.lst .any 1 (u16L l)∧l.length≤140737488351232∧∀ n∈l,n < 65536:=by
 obtain ⟨o,l,rfl,_,hl,hy⟩:=qh5 T.u24 h
 rw [T.b27] at hl
 obtain ⟨bs,h1,h2,h3⟩:=vp7 (F:=fun n:Nat=>AV.v (.int .u16 n)) (Q:=fun n=>n < 65536) (l:=l) fun y hm=>by
  obtain ⟨b,rfl,hb⟩:=xc4 T.u27 (hy y hm)
  exact ⟨b,rfl,hb⟩
 exact ⟨bs,by simp only [AV.dp,h1,T.c27];rfl,by rw [h2];omega,h3⟩
theorem xb4 (T:TF P) {n:Nat} {x:AV} (h:TyV P (n+5) 26 x):∃ m:SeedM,x.dp=wv5 m∧(∀ n∈m.txts,n < 65536)∧(∀ n∈m.rlds,n < 65536)∧m.esds.length≤9223372036854775000∧m.txts.length≤9223372036854775000∧m.rlds.length≤9223372036854775000∧m.data.length≤9223372036854775000:=by
 obtain ⟨ys,rfl,hl,hf⟩:=xv4 T.f26 T.c26 h
 obtain ⟨a,b,c,d,e,rfl⟩:=len5 hl
 obtain ⟨o0,t,rfl,_,k0⟩:=vq6 T.u23 T.u5 T.c5 (qr4 hf 23 0 _ (by simp) rfl (by simp [isSt,T.u23]))
 obtain ⟨l1,h1,k1,b1⟩:=xl4 T (n:=n+1) (qr4 hf 24 1 _ (by simp) rfl (by simp [isSt,T.u24]))
 obtain ⟨l2,h2,k2,b2⟩:=xl4 T (n:=n+1) (qr4 hf 24 2 _ (by simp) rfl (by simp [isSt,T.u24]))
 obtain ⟨u,rfl⟩:=ty_u8 T.u5 (qr4 hf 5 3 _ (by simp) rfl (by simp [isSt,T.u5]))
 obtain ⟨o4,t4,rfl,_,k4⟩:=vq6 T.u23 T.u5 T.c5 (qr4 hf 23 4 _ (by simp) rfl (by simp [isSt,T.u23]))
 have e:AV.dpL (t.map fun b:UInt8=>AV.v (.int .u8 b.toNat))=byL t:=uc5 t
 have e4:AV.dpL (t4.map fun b:UInt8=>AV.v (.int .u8 b.toNat))=byL t4:=uc5 t4
 rw [T.b5] at k0 k4
 refine ⟨⟨t,l1,l2,u,t4⟩,?_,b1,b2,by simp only;omega,by simp only;omega,by simp only;omega,by simp only;omega⟩
 simp only [AV.dp,AV.dpL,e,e4,wv5,h1,h2]
theorem ty_bbs (T:TF P) (u22:P.underlying 22=some (.slice 23)) (c23:P.cellsOf 23=1) (b23:P.bytesOf 23=24) {n:Nat} {x:AV} (h:TyV P (n+3) 22 x):∃ L:List (List UInt8),x.dp=.lst .any 1 (bbL L)∧L.length≤9223372036854775000∧∀ l∈L,l.length≤9223372036854775000:=by
 obtain ⟨o,l,rfl,_,hl,hy⟩:=qh5 (n:=n+2) u22 h
 obtain ⟨bs,h1,h2,h3⟩:=vp7 (F:=fun b:List UInt8=>AV.lst .any 1 (byL b)) (Q:=fun b=>b.length≤9223372036854775000) (l:=l) fun y hm=>by
  obtain ⟨o,t,rfl,_,k0⟩:=vq6 T.u23 T.u5 T.c5 (hy y hm)
  rw [T.b5] at k0
  have e:AV.dpL (t.map fun b:UInt8=>AV.v (.int .u8 b.toNat))=byL t:=uc5 t
  exact ⟨t,by simp only [AV.dp,e],by omega⟩
 exact ⟨bs,by simp only [AV.dp,h1,c23];rfl,by rw [b23] at hl;omega,h3⟩
theorem tyAll6 {n:Nat} {a b c d e f:TypeId} {xs:List AV} (h:xf4 P n [a,b,c,d,e,f] xs):∃ x y z w v u,xs=[x,y,z,w,v,u]∧TyV P n a x∧TyV P n b y∧TyV P n c z∧TyV P n d w∧TyV P n e v∧TyV P n f u:=by
 match xs with
 | []=>exact h.elim
 | [_]=>exact h.2.elim
 | [_,_]=>exact h.2.2.elim
 | [_,_,_]=>exact h.2.2.2.elim
 | [_,_,_,_]=>exact h.2.2.2.2.elim
 | [_,_,_,_,_]=>exact h.2.2.2.2.2.elim
 | _ :: _ :: _ :: _ :: _ :: _ :: _ :: _=>exact h.2.2.2.2.2.2.elim
 | [x,y,z,w,v,u]=>exact ⟨x,y,z,w,v,u,rfl,h.1,h.2.1,h.2.2.1,h.2.2.2.1,h.2.2.2.2.1,h.2.2.2.2.2.1⟩
end
theorem kf4 {n:Nat} {xs:List AV} (hx:xf4 Tryz.prog (n+5) [22,26,26,27,27,5] xs):Sound Tryz.prog 3 xs (.v (.bool true)):=by
 obtain ⟨x,y,z,w,v,u,rfl,h1,h2,h3,h4,h5,h6⟩:=tyAll6 hx
 obtain ⟨L,hL,k1,k2⟩:=ty_bbs tf (by kernel_rfl) (by kernel_rfl) (by kernel_rfl) h1
 obtain ⟨s,hs,j1,j2,j3,j4,j5,j6⟩:=xb4 tf h2
 obtain ⟨t,ht,i1,i2,i3,i4,i5,i6⟩:=xb4 tf h3
 obtain ⟨A,rfl,hA⟩:=xc4 tf.u27 h4
 obtain ⟨B,rfl,hB⟩:=xc4 tf.u27 h5
 obtain ⟨c,rfl⟩:=ty_u8 tf.u5 h6
 refine Sound.dp ?_
 have e:AV.dpL [x,y,z,AV.v (.int .u16 A),AV.v (.int .u16 B),AV.v (.int .u8 c.toNat)]=[.lst .any 1 (bbL L),wv5 s,wv5 t,.v (.int .u16 (A:Nat)),.v (.int .u16 (B:Nat)),.v (.int .u8 c.toNat)]:=by simp only [AV.dpL,AV.dp,hL,hs,ht]
 rw [e]
 exact qr5 L k1 k2 s t ⟨j1,j2,j3,j4,j5,j6⟩ ⟨i1,i2,i3,i4,i5,i6⟩ A B hA hB c
end Go.AM
