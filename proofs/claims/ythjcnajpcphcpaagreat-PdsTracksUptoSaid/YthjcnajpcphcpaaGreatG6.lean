/- Parts of the walk: C24B C24C C24A C24D R31L. -/
import Derived.Lib.BytesEntry
import Derived.Test.YthjcnajpcphcpaaGreatG5
namespace Go.AM
open Go.RowKit Go.Proofs
set_option linter.unusedSimpArgs false
set_option linter.unusedVariables false
set_option maxHeartbeats 8000000
set_option maxRecDepth 20000
theorem setB (A:List UInt8) (z x:UInt8) (R:List UInt8):yk9 (byL (A++z :: R)) A.length [.v (.int .u8 x.toNat)]=byL (A++x :: R):=by
 have h1:byL (A++z :: R)=byL A++(.v (.int .u8 z.toNat) :: byL R):=by simp [byL]
 have h2:byL (A++x :: R)=byL A++(.v (.int .u8 x.toNat) :: byL R):=by simp [byL]
 have hlb:(byL A).length=A.length:=by simp
 rw [h1,h2]
 unfold yk9
 rw [List.take_left' hlb,List.drop_append]
 simp [hlb]
theorem padK_get {l:List UInt8} (hl:l.length≤8) (i:Nat) (hi:i < 8):(padK l)[i]?=some (if h:i < l.length then (cdM l[i]).1 else 64):=by
 unfold padK
 by_cases h:i < l.length
 ·rw [List.getElem?_append_left (by rw [yg7];exact h),dif_pos h]
  simp [enc1,h]
 ·rw [List.getElem?_append_right (by rw [yg7];omega),dif_neg h,yg7,List.getElem?_replicate,if_pos (by omega)]
theorem uv6 (l:List UInt8) (hl:l.length≤8) (ho:l.all okB=true):Sound Tryz.prog 128 [strB l,.v (.int .i64 8)] (.tup [.lst .any 1 (byL (padK l)),.v (.int .i64 0)]):=by
 refine vk9 Tryz.func128 rfl (by decide +kernel) (by simp [Tryz.f128]) rfl rfl (rs:=[.tmp 4,.tmp 5]) rfl ?_
 rw [show Tryz.f128.ntmps=39 from rfl]
 simp only [strB]
 obtain ⟨K,hK⟩:∃ K,padK l=K:=⟨_,rfl⟩
 have hKl:K.length=8:=by rw [← hK];exact um9 hl
 refine yr9 [0,1] (by simp;rfl) ?_
 refine yr9 [0,6] (by simp [repC_byL31];rfl) ?_
 refine yh9 ?_
 refine yr9 [0,6,13,14] (by simp;rfl) ?_
 refine yl9 ?_
 refine zj9 (fun k s => ∃ (i : Nat), k = 8 - i ∧ i ≤ 8 ∧
  s=⟨39,[(0,.v (.string ⟨l.toArray⟩)),(6,.arr 0 0 8 8),(13,.v (.int .i64 8)),(14,.v (.int .i64 (i:Nat)))],[.cells 5 (byL (K.take i++List.replicate (8 - i) 0))]⟩) (k:=8) ⟨0,rfl,by omega,by simp⟩ ?_
 rintro k s ⟨i,rfl,hi,rfl⟩
 by_cases c:i < 8
 ·have ci : (i : Int) < 8 := by omega
  have wi:=w64 (n:=(i:Int)+1) (by omega) (by omega)
  have hkt:(K.take i).length=i:=by rw [List.length_take];omega
  have hKi:=padK_get hl i c
  rw [hK] at hKi
  obtain ⟨m8,hm8⟩:∃ m8,8 - (i+1)=m8:=⟨_,rfl⟩
  have hr8:List.replicate (8 - i) (0:UInt8)=0 :: List.replicate (m8) 0:=by
   rw [show 8 - i=m8+1 by omega,List.replicate_succ]
  have hset:∀ z x:UInt8,yk9 (byL (K.take i++z :: List.replicate (m8) 0)) i [.v (.int .u8 x.toNat)]=byL (K.take i++x :: List.replicate (m8) 0):=by
   intro z x
   have:=setB (K.take i) z x (List.replicate (m8) 0)
   rwa [hkt] at this
  have hset64:yk9 (byL (K.take i++(0:UInt8) :: List.replicate (m8) 0)) i [.v (.int .u8 64)]=byL (K.take i++(64:UInt8) :: List.replicate (m8) 0):=hset 0 64
  have hnext:∀ x:UInt8,K[i]?=some x→byL (K.take i++x :: List.replicate (m8) 0)=byL (K.take (i+1)++List.replicate (m8) 0):=by
   intro x hx
   rw [List.take_add_one,hx]
   simp
  have hlen1:∀ x:UInt8,(byL (K.take i++x :: List.replicate (m8) 0)).length=8:=by intro x;simp [hkt];omega
  rw [hr8]
  obtain ⟨Z,hZ⟩:∃ Z,byL (K.take i++(0:UInt8) :: List.replicate (m8) 0)=Z:=⟨_,rfl⟩
  have hZl:Z.length=8:=by rw [← hZ];exact hlen1 0
  rw [hZ] at hset64
  rw [hZ]
  refine yr9 [0,6,13,14,15] (by simp [c,ci];rfl) ?_
  refine yh9 ?_
  refine yt9 (t:=true) (by simp [c,ci]) (fun h=>?_) (fun h=>by simp at h)
  refine yg9 ?_
  refine yh9 ?_
  refine yl9 ?_
  refine yr9 [0,6,13,14,7] (by simp;rfl) ?_
  refine yr9 [0,6,13,14,7] (by simp [c,ci,hZl,hset64,show i≤7 by omega];rfl) ?_
  refine yh9 ?_
  by_cases cl:i < l.length
  ·have hnl:¬ (l.length:Int)≤i:=by omega
   obtain ⟨b,hb⟩:∃ b,l[i]?=some b:=⟨_,List.getElem?_eq_getElem cl⟩
   have hb2:l[i]'cl=b:=by rw [List.getElem?_eq_getElem cl] at hb;exact Option.some.inj hb
   have hbo:=wm7 b (List.all_eq_true.1 ho b (List.mem_of_getElem? hb))
   rw [dif_pos cl,hb2] at hKi
   have hset2:=hset 64 (cdM b).1
   obtain ⟨Y,hY⟩:∃ Y,byL (K.take i++(64:UInt8) :: List.replicate (m8) 0)=Y:=⟨_,rfl⟩
   have hYl:Y.length=8:=by rw [← hY];exact hlen1 64
   rw [hY] at hset2
   rw [hY]
   refine W_cF [0,6,13,14,7,23] (by simp [hnl,show ¬ l.length≤i by omega];rfl) rfl ?_
   refine yg9 ?_
   refine W_rK [0,6,13,14,7,8,9] ?_
   refine yq9 3 (by simp [c,cl,hb,hb2];rfl) rfl ?_
   refine yf9 (by simp) (by first | (simp;done) | (simp;rfl)) (qt6 b) (by simp;rfl) ?_
   refine yw9 (by simp;rfl) ?_
   refine yh9 ?_
   refine W_cF [0,6,13,14,7,8,32] (by simp [hbo.1];rfl) rfl ?_
   refine yg9 ?_
   refine zr9 [0,6,13,14] (by simp [c,ci,hYl,hset2,show i≤7 by omega];rfl) ?_
   refine zr9 [0,6,13,14] (by simp [wi];rfl) ?_
   exact ⟨_,by omega,i+1,rfl,by omega,by rw [hm8,hnext _ hKi];simp⟩
  ·have hnl:(l.length:Int)≤i:=by omega
   rw [dif_neg cl] at hKi
   rw [hnext _ hKi]
   refine yr9 [0,6,13,14,23] (by simp [hnl,show l.length≤i by omega];rfl) ?_
   refine yt9 (t:=true) (by simp [hnl,show l.length≤i by omega]) (fun h=>?_) (fun h=>by simp at h)
   refine zs9 ?_
   refine zr9 [0,6,13,14] (by simp [wi];rfl) ?_
   exact ⟨_,by omega,i+1,rfl,by omega,by rw [hm8];simp⟩
 have hie:i=8:=by omega
 subst hie
 rw [List.take_of_length_le (by omega),Nat.sub_self,List.replicate_zero,List.append_nil]
 refine yr9 [0,6,13,14,15] (by simp;rfl) ?_
 refine yh9 ?_
 refine yt9 rfl (fun h=>by simp at h) (fun h=>?_)
 refine zs9 ?_
 refine yr9 [4,5] (by simp;rfl) ?_
 refine yj9 ?_
 repeat (first | refine yp9 ?_ | refine ys9 ?_)
 exact ⟨_,by simp [retQ,ws9,hKl];exact ⟨rfl,rfl⟩,.inr (by simp [hK,hKl,List.take_of_length_le (Nat.le_of_eq hKl)])⟩
theorem pad_sound (l:List UInt8) (hl:l.length≤8) (ho:l.all okB=true):Sound Tryz.prog 105 [strB l,.v (.int .i64 8)] (.tup [.lst .any 1 (byL (padK l)),.v (.int .i64 0)]):=by
 refine yc9 Tryz.func105 rfl (by decide +kernel) (by simp [Tryz.f105]) rfl rfl (rs:=[.tmp 4,.tmp 5]) rfl ?_
 rw [show Tryz.f105.ntmps=23 from rfl]
 simp only [strB]
 have h8:¬ (8:Int) < (l.length:Nat):=by omega
 have h8b:¬ 8 < l.length:=by omega
 have hx:=uv6 l hl ho
 simp only [strB] at hx
 refine yr9 [0,1] (by simp;rfl) ?_
 refine yh9 ?_
 refine yl9 ?_
 refine W_cF [0,1,6] (by simp;rfl) rfl ?_
 refine yr9 [0,1,13] (by simp [h8,h8b];rfl) ?_
 refine yt9 (t:=false) (by simp [h8,h8b]) (fun h=>by simp at h) (fun h=>?_)
 refine yg9 ?_
 refine W_rK [4,5] ?_
 refine yq9 2 (by simp;rfl) rfl ?_
 refine yf9 (by simp) (by first | (simp;done) | (simp;rfl)) hx (by simp;rfl) ?_
 refine yw9 (by simp;rfl) ?_
 refine yj9 ?_
 repeat (first | refine yp9 ?_ | refine ys9 ?_)
 simp [retQ]
theorem rpad_sound (l:List UInt8) (hp:1≤l.length) (hl:l.length≤8) (ho:l.all okB=true):Sound Tryz.prog 138 [strB l,.v (.int .i64 8)] (.tup [.lst .any 1 (byL (padK l)),.v (.int .i64 0)]):=by
 refine vk9 Tryz.func138 rfl (by decide +kernel) (by simp [Tryz.f138]) rfl rfl (rs:=[.tmp 4,.tmp 5]) rfl ?_
 rw [show Tryz.f138.ntmps=34 from rfl]
 simp only [strB]
 have h8:¬ (8:Int) < (l.length:Nat):=by omega
 have h8b:¬ 8 < l.length:=by omega
 have hek:yg6 l=true:=by
  unfold yg6
  rw [List.all_eq_true] at ho ⊢
  exact fun b hb=>(wm7 b (ho b hb)).1
 obtain ⟨K,hK⟩:∃ K,padK l=K:=⟨_,rfl⟩
 have hKl:K.length=8:=by rw [← hK];exact um9 hl
 have hE:enc1 l=K.take l.length:=by rw [← hK,padK,List.take_left' (yg7 l)]
 have he:=jm7 l (by omega) hp hek
 rw [hE] at he
 simp only [strB] at he
 refine yr9 [0,1] (by simp;rfl) ?_
 refine yh9 ?_
 refine W_cF [0,1,13] (by simp;rfl) rfl ?_
 refine yg9 ?_
 refine yh9 ?_
 refine yr9 [0,1,17] (by simp [h8,h8b];rfl) ?_
 refine yt9 (t:=false) (by simp [h8,h8b]) (fun h=>by simp at h) (fun h=>?_)
 refine yg9 ?_
 refine W_rK [1,6,7] ?_
 refine yq9 1 (by simp;rfl) rfl ?_
 refine yf9 (by simp) (by first | (simp;done) | (simp;rfl)) he (by simp;rfl) ?_
 refine yw9 (by simp;rfl) ?_
 refine yh9 ?_
 refine W_cF [1,6,24] (by simp;rfl) rfl ?_
 refine yg9 ?_
 refine yh9 ?_
 refine ym9 [1,6] ?_
 refine yl9 ?_
 refine zj9 (fun k s=>∃ i:Nat,k=8 - i∧i≤8∧l.length≤i∧s=⟨34,[(1,.v (.int .i64 8)),(6,.lst (.tip 5 41) 1 (byL (K.take i)))],[]⟩) (k:=8 - l.length) ⟨l.length,rfl,hl,Nat.le_refl _,by simp [uh9]⟩ ?_
 rintro k s ⟨i,rfl,hi,hli,rfl⟩
 refine yh9 ?_
 have hlen:(K.take i).length=i:=by rw [List.length_take];omega
 by_cases c:i < 8
 ·have ci : (i : Int) < 8 := by omega
  have hKi:K[i]?=some 64:=by
   rw [← hK,padK_get hl i c,dif_neg (by omega)]
  have hnx:byL (K.take i)++[AV.v (.int .u8 64)]=byL (K.take (i+1)):=by
   rw [List.take_add_one,hKi]
   simp [byL]
  refine yr9 [1,6,29] (by simp [hlen,c,ci];rfl) ?_
  refine yt9 (t:=true) (by simp [hlen,c,ci]) (fun h=>?_) (fun h=>by simp at h)
  refine yg9 ?_
  refine yl9 ?_
  refine zr9 [1,6] (by simp [catK,AV.cellsK,AV.kone,AV.koneL,hlen,show i+1≤140737488355328 by omega,hnx];rfl) ?_
  exact ⟨_,by omega,i+1,rfl,by omega,by omega,rfl⟩
 have hie:i=8:=by omega
 subst hie
 rw [List.take_of_length_le (by omega)] at hlen ⊢
 refine yr9 [1,6,29] (by simp [hlen];rfl) ?_
 refine yt9 (t:=false) (by simp [hlen]) (fun h=>by simp at h) (fun h=>?_)
 refine zs9 ?_
 refine yr9 [4,5] (by simp;rfl) ?_
 refine yj9 ?_
 repeat (first | refine yp9 ?_ | refine ys9 ?_)
 exact ⟨_,by simp [retQ];exact ⟨rfl,by simp⟩,.inr (by simp [hK])⟩
theorem vs8 (l:List UInt8) (hp:1≤l.length) (hl:l.length≤8) (ho:l.all okB=true):Sound Tryz.prog 119 [strB l] (.lst .any 1 (byL (padK l))):=by
 refine vk9 Tryz.func119 rfl (by decide +kernel) (by simp [Tryz.f119]) rfl rfl (rs:=[.tmp 2]) rfl ?_
 rw [show Tryz.f119.ntmps=11 from rfl]
 have hx:=rpad_sound l hp hl ho
 simp only [strB] at hx ⊢
 refine yr9 [0] (by simp;rfl) ?_
 refine W_rK [3] ?_
 refine yq9 1 (by simp;rfl) rfl ?_
 refine yf9 (by simp) (by first | (simp;done) | (simp;rfl)) hx (by simp;rfl) ?_
 refine yw9 (by simp;rfl) ?_
 refine yr9 [2] (by simp;rfl) ?_
 refine yj9 ?_
 repeat (first | refine yp9 ?_ | refine ys9 ?_)
 exact ⟨_,by simp [retQ];exact ⟨rfl,by simp⟩,.inr (by simp)⟩
theorem before_sound (a b:List UInt8) (ha:symM a=true) (hb:symM b=true):Sound Tryz.prog 89 [strB a,strB b] (.v (.bool (Op.bytesLess (padK a) (padK b)))):=by
 refine yc9 Tryz.func89 rfl (by decide +kernel) (by simp [Tryz.f89]) rfl rfl (rs:=[.tmp 4]) rfl ?_
 rw [show Tryz.f89.ntmps=12 from rfl]
 obtain ⟨a1,a2,a3⟩:=vp9 ha
 obtain ⟨b1,b2,b3⟩:=vp9 hb
 have hA:=vs8 a a2 a3 a1
 have hB:=vs8 b b2 b3 b1
 obtain ⟨A,hAe⟩:∃ A,padK a=A:=⟨_,rfl⟩
 obtain ⟨B,hBe⟩:∃ B,padK b=B:=⟨_,rfl⟩
 rw [hAe] at hA ⊢
 rw [hBe] at hB ⊢
 simp only [strB] at hA hB ⊢
 refine yr9 [0,1] (by simp;rfl) ?_
 refine wk9 [4] mx (by decide +kernel) ?_
 refine yd9 1 (by simp;rfl) rfl ?_
 refine yv9 (by simp) (by first | (simp;done) | (simp;rfl)) hA (by simp;rfl) ?_
 refine yd9 2 (by simp;rfl) rfl ?_
 refine yv9 (by simp) (by first | (simp;done) | (simp;rfl)) hB (by simp;rfl) ?_
 refine yb9 (by simp [strA,Lib.toList_data];rfl) ?_
 refine yj9 ?_
 repeat (first | refine yp9 ?_ | refine ys9 ?_)
 simp [retQ]
theorem frzL_byL {P : Program} {tk : Nat} (h : List AObj) : ∀ K : List UInt8, frzL P tk h (byL K) = some (byL K, h)
 | []=>rfl
 | b :: K=>by
  rw [xd9,frzL]
  simp [frzV,frzL_byL h K]
theorem wq8 (l:List UInt8) (hs:symM l=true):Sound Tryz.prog 68 [strB l] (.agg (byL (padK l))):=by
 refine yc9 Tryz.func68 rfl (by decide +kernel) (by simp [Tryz.f68]) rfl rfl (rs:=[.cell 2 76]) rfl ?_
 rw [show Tryz.f68.ntmps=14 from rfl]
 obtain ⟨h1,h2,h3⟩:=vp9 hs
 have hP:=pad_sound l h3 h1
 obtain ⟨K,hK⟩:∃ K,padK l=K:=⟨_,rfl⟩
 have hKl:K.length=8:=by rw [← hK];exact um9 h3
 rw [hK] at hP ⊢
 simp only [strB] at hP ⊢
 refine yr9 [0,2] (by simp;rfl) ?_
 refine W_rK [2,3] ?_
 refine yq9 1 (by simp;rfl) rfl ?_
 refine yf9 (by simp) (by first | (simp;done) | (simp;rfl)) hP (by simp;rfl) ?_
 refine yw9 (by simp;rfl) ?_
 refine W_rK [2] ?_
 refine yq9 2 (by simp [maxLen];rfl) rfl ?_
 refine zp7 (t:=90) (t':=90) (e:=5) (e2:=76) (sz:=1) (id:=0) (off:=0) (len:=8) (cap:=8) (ag:=false) (oy:=.any) (cs:=byL (List.replicate 8 0)) (ys:=byL K) (yc:=byL K) (by simp) rfl rfl rfl rfl (by simp) (by simp) s90 (by omega) (by simp [byL,List.replicate]) (by simp) (by rw [List.take_of_length_le (by simp;omega)];exact qt9 _) ?_
 refine ⟨_,by simp;rfl,?_⟩
 refine yw9 (by simp;rfl) ?_
 refine yr9 [2] (by simp [yk9,hKl];rfl) ?_
 refine yj9 ?_
 repeat (first | refine yp9 ?_ | refine ys9 ?_)
 have hd:List.drop 8 (byL [0,0,0,0,0,0,0,0])=[]:=rfl
 have ht:List.take 8 (byL K)=byL K:=List.take_of_length_le (by simp [hKl])
 simp [retQ,hd,ht,hKl,frzV,frzL_byL]
set_option maxRecDepth 20000
theorem bytesX {P:Program} {c:Ctx} {w:World} {o:Fl} {l:List UInt8} {v:Value} (h:Rep c w (.lst o 1 (byL l)) v):(Extern.Bytes.bytesOf v).run P w=.ok ⟨l.toArray⟩ w:=by
 obtain ⟨a,n,cap,u,rfl,hn,hcap,hmax,hs,hsz,hrf,hz,hnil,hc,hr⟩:=xv9 h
 have hl:l.length=n:=by simpa using hn
 cases a with
 | none =>
  have h0:=(hz rfl).1
  have:l=[]:=List.eq_nil_of_length_eq_zero (by omega)
  subst this
  rfl
 | some ad =>
  have key:=Lib.run_loadBytesX (P:=P) w (l.map fun b=>(b.toNat:Int)) ad .empty (fun j x hj=>by
   rw [List.getElem?_map] at hj
   obtain ⟨b,hb,rfl⟩:=Option.map_eq_some_iff.1 hj
   have hjl:=(List.getElem?_eq_some_iff.1 hb).1
   have h1:=(hc ad j rfl (by omega)).1
   have h2:=hr j 0 (.v (.int .u8 b.toNat)) (.v (.int .u8 b.toNat)) (by simp [byL,hb]) rfl
   rw [Nat.mul_one,Nat.add_zero] at h2
   rw [h1,← h2.v_inv])
  rw [List.length_map,hl] at key
  show (Extern.Bytes.loadBytes ad n .empty).run P w=_
  rw [key]
  congr 1
  apply ByteArray.ext
  simp [Lib.bytesOf]
  conv=>rhs;rw [← List.map_id l]
  apply List.map_congr_left
  intro b _
  simp
theorem jh8 : ∀ a b : List UInt8, Op.bytesLess a b = decide (Lib.compareBytes a b < 0)
 | [],[]=>rfl
 | [],_ :: _=>rfl
 | _ :: _,[]=>rfl
 | x :: a,y :: b=>by
  rw [Op.bytesLess,Lib.compareBytes,jh8 a b]
  by_cases h:x < y
  ·simp [h]
  ·by_cases h2 : y < x
   ·have hne:¬ x=y:=fun e=>h (e ▸ h2)
    simp [h,h2,hne]
   ·have:x=y:=UInt8.le_antisymm (UInt8.not_lt.1 h2) (UInt8.not_lt.1 h)
    simp [this]
theorem eq_cmp : ∀ a b : List UInt8, decide (a = b) = decide (Lib.compareBytes a b = 0)
 | [],[]=>rfl
 | [],_ :: _=>rfl
 | _ :: _,[]=>rfl
 | x :: a,y :: b=>by
  rw [Lib.compareBytes]
  have ih:=eq_cmp a b
  by_cases h:x < y
  ·have hne:¬ x=y:=fun e=>UInt8.lt_irrefl y (e ▸ h)
   simp [h,hne]
  ·by_cases h2 : y < x
   ·have hne:¬ x=y:=fun e=>h (e ▸ h2)
    simp [h,h2,hne]
   ·have:x=y:=UInt8.le_antisymm (UInt8.not_lt.1 h2) (UInt8.not_lt.1 h)
    simp only [this,UInt8.lt_irrefl,if_false]
    rw [← ih]
    simp
set_option maxRecDepth 100000 in
theorem calls106 (u v : Value) (a b : List UInt8) (w : World) (h1 : (Extern.Bytes.bytesOf u).run Tryz.prog w = .ok ⟨a.toArray⟩ w) (h2 : (Extern.Bytes.bytesOf v).run Tryz.prog w = .ok ⟨b.toArray⟩ w) :
  Calls Tryz.prog 106 #[u,v] w fun e w'=>e=.returned (.int .i64 (Lib.compareBytes a b))∧w'=w:=by
 have hrun:(Extern.BytealgCompare.compare #[u,v]).run Tryz.prog w=.ok (.int .i64 (Lib.compareBytes a b)) w:=by
  change Sem.run _ (do pure (goInt (Extern.BytealgCompare.cmp (← Extern.Bytes.bytesOf u) (← Extern.Bytes.bytesOf v)))) w=_
  simp only [Sem.run_bind,Sem.run_pure,h1,h2,Result.andThen]
  rw [Lib.cmp_eq]
  rfl
 go_enter Tryz.func106,Tryz.ntmps106
 go_wp2
 rw [run_callFunc_extern Tryz.func129 (by kernel_rfl) (by kernel_rfl) (by kernel_rfl) (e:=Extern.BytealgCompare.compare) (by kernel_rfl),hrun]
 simp only [Result.andThen]
 rw [Oper.upon_value]
 go_wp2
 go_ret
 exact ⟨rfl,rfl⟩
theorem cmp106_sound (a b:List UInt8):Sound Tryz.prog 106 [.lst .any 1 (byL a),.lst .any 1 (byL b)] (.v (.int .i64 (Lib.compareBytes a b))):=by
 refine ⟨⟨_,Tryz.func106,by decide +kernel,by kernel_rfl⟩,fun F n c w vals T hF hro hT hb ra=>?_⟩
 cases ra with
 | cons h1 _ r1 =>
 cases r1 with
 | cons h2 _ r2 =>
 cases r2
 refine (wg9 hF (calls106 _ _ a b w (bytesX h1) (bytesX h2))).mono ?_
 rintro e w' ⟨rfl,rfl⟩
 exact ⟨_,c,rfl,⟨rfl,rfl,rfl,rfl,rfl,rfl,Nat.le_refl _,fun _ _=>rfl,fun _ _=>rfl,fun _ _=>rfl⟩,.v _,.none rfl⟩
def reC (e:RE):List AV:=byL e.key++[.v (.int .i64 (e.trk:Nat)),.v (.int .i64 (e.rn:Nat))]
def reA (e:RE):AV:=.agg (reC e)
def reL (l:List RE):List AV:=l.map reA
@[simp] theorem reL_length (L:List RE):(reL L).length=L.length:=by simp [reL]
@[simp] theorem reL_nil:reL []=[]:=rfl
theorem reL_take (L:List RE) (n:Nat):reL (L.take n)=(reL L).take n:=by simp [reL]
theorem reL_drop (L:List RE) (n:Nat):reL (L.drop n)=(reL L).drop n:=by simp [reL]
@[simp] theorem reL_getElem (L:List RE) (i:Nat) (h:i < (reL L).length):(reL L)[i]=reA (L[i]'(by simpa using h)):=by simp [reL]
@[simp] theorem reA_rf (e:RE):AV.rf (reA e)=true:=by simp [reA,reC,AV.rf,zs7,AV.rfL]
@[simp] theorem reA_tl (e:RE):AV.tl (reA e)=true:=by
 rw [reA,AV.tl,reC]
 exact vm7.2 fun x hx=>by
  rcases List.mem_append.1 hx with h | h
  ·exact vm7.1 (tlL_byL _) x h
  ·rcases List.mem_cons.1 h with rfl | h
   ·rfl
   ·rw [List.mem_singleton.1 h];rfl
theorem kb8 {e:RE} (h:e.key.length=8):(reC e).take 8=byL e.key:=by
 rw [reC,List.take_append_of_le_length (by simp [h]),List.take_of_length_le (by simp [h])]
@[simp] theorem one_byL (l:List UInt8):oneL (byL l)=true:=by
 rw [oneL,List.all_eq_true]
 intro x hx
 obtain ⟨b,_,rfl⟩:=List.mem_map.1 hx
 rfl
@[simp] theorem xr9 {e:RE} (h:e.key.length=8):(reC e).length=10:=by simp [reC,h]
theorem reC_v (e:RE):reC e=((e.key.map fun b:UInt8=>Value.int .u8 b.toNat)++[Value.int .i64 (e.trk:Nat),Value.int .i64 (e.rn:Nat)]).map AV.v:=by simp [reC,byL]
theorem mv_rf (vs:List Value):AV.rfL (vs.map .v)=true:=by induction vs <;> simp_all [AV.rfL,AV.rf]
theorem mv_tl (vs:List Value):AV.tlL (vs.map .v)=true:=by induction vs <;> simp_all [AV.tlL,AV.tl]
theorem mv_flat (vs:List Value):AV.flatL (vs.map .v)=true:=by induction vs <;> simp_all [AV.flatL,AV.flat]
theorem mv_weak (vs:List Value):AV.weakL (vs.map .v)=vs.map .v:=by induction vs <;> simp_all [AV.weakL,AV.weak]
theorem mv_dp (vs:List Value):AV.dpL (vs.map .v)=vs.map .v:=by induction vs <;> simp_all [AV.dpL,AV.dp]
theorem mv_under (m:Nat) (vs:List Value):AV.underL m (vs.map .v)=true:=by induction vs <;> simp_all [AV.underL,AV.under]
@[simp] theorem flatL_byL (l:List UInt8):AV.flatL (byL l)=true:=by induction l <;> simp_all [byL,AV.flatL,AV.flat]
@[simp] theorem koneL_reC (e:RE):AV.koneL (reC e)=true:=by
 rw [reC,koneL_app];simp [AV.koneL,AV.kone]
@[simp] theorem rfL_reC (e:RE):AV.rfL (reC e)=true:=by rw [reC_v];exact mv_rf _
@[simp] theorem tlL_reC (e:RE):AV.tlL (reC e)=true:=by rw [reC_v];exact mv_tl _
@[simp] theorem flatL_reC (e:RE):AV.flatL (reC e)=true:=by rw [reC_v];exact mv_flat _
@[simp] theorem weakL_reC (e:RE):AV.weakL (reC e)=reC e:=by rw [reC_v];exact mv_weak _
@[simp] theorem dpL_reC (e:RE):AV.dpL (reC e)=reC e:=by rw [reC_v];exact mv_dp _
@[simp] theorem underL_reC (m:Nat) (e:RE):AV.underL m (reC e)=true:=by rw [reC_v];exact mv_under m _
@[simp] theorem killL_reC (T:Nat) (e:RE):AV.killL T (reC e)=reC e:=killL_tl _ (tlL_reC e)
@[simp] theorem killSL_reC (T:List Nat) (e:RE):AV.killSL T (reC e)=reC e:=killSL_tl _ (tlL_reC e)
@[simp] theorem dpL_reL (L:List RE):AV.dpL (reL L)=reL L:=by induction L <;> simp_all [reL,AV.dpL,AV.dp,reA]
theorem frz_re {h:List AObj} (id:Nat) (e:RE) (he:e.key.length=8) (hid:h[id]?=some (.cells 78 (reC e))):ws9 Tryz.prog h 1 id 0 1 1=some (.lst (.tip 78 1) 10 [reA e],h.set id (.froz 78 (reC e))):=by
 unfold ws9
 rw [hid]
 simp [he,chunk,reA,List.take_of_length_le]
theorem frz_key {h:List AObj} (id:Nat) (k:List UInt8) (hk:k.length=8) (hid:h[id]?=some (.cells 76 (byL k))):ws9 Tryz.prog h 1 id 0 1 1=some (.lst (.tip 76 1) 8 [.agg (byL k)],h.set id (.froz 76 (byL k))):=by
 unfold ws9
 rw [hid]
 simp [hk,chunk,List.take_of_length_le]
theorem zn6 (e:RE) (he:e.key.length=8):Sound Tryz.prog 55 [reA e] (strB (nmM e.key)):=by
 refine yc9 Tryz.func55 rfl (by decide +kernel) (by simp [Tryz.f55]) (by simp [AV.rfL]) (by simp [AV.tlL]) (rs:=[.tmp 2]) rfl ?_
 rw [show Tryz.f55.ntmps=6 from rfl]
 have ht:=trim_sound e.key (by omega)
 rw [show decM (wh8 e.key)=nmM e.key from rfl] at ht
 have htk:=kb8 he
 refine yr9 [1] (by simp [reA,he];rfl) ?_
 refine W_roB 1 (tk:=1) (x:=reA e) rfl (by decide) (frz_re 0 e he rfl) (by simp) ?_
 refine vd9 0 (by simp) (by simp) (by simp [zk9,putF,AV.under,AV.underL]) (by simp [yn9]) ?_
 refine W_rK [2] ?_
 refine yq9 2 (by simp [reA,he,htk,maxLen];rfl) rfl ?_
 refine yf9 (by simp) (by first | (simp;done) | (simp;rfl)) ht (by simp [strB];rfl) ?_
 refine yw9 (by simp;rfl) ?_
 refine yj9 ?_
 repeat (first | refine yp9 ?_ | refine ys9 ?_)
 simp [retQ,strB]
theorem qr9 (e:RE) (k:List UInt8) (he:e.key.length=8) (hk:k.length=8):Sound Tryz.prog 69 [reA e,.agg (byL k)] (.v (.int .i64 (Lib.compareBytes e.key k))):=by
 refine yc9 Tryz.func69 rfl (by decide +kernel) (by simp [Tryz.f69]) (by simp [AV.rfL,AV.rf]) (by simp [AV.tlL,AV.tl]) (rs:=[.tmp 4]) rfl ?_
 rw [show Tryz.f69.ntmps=9 from rfl]
 have htk:=kb8 he
 refine yr9 [2,3] (by simp [reA,he,hk];rfl) ?_
 refine (show Wt true 0 Tryz.prog _ _ ⟨9,[(2,.loc 0 0),(3,.loc 1 0)],[.cells 78 (reC e),.cells 76 (byL k)]⟩ from ?_)
 refine W_roB 2 (tk:=1) (x:=reA e) rfl (by decide) (frz_re 0 e he rfl) (by simp) ?_
 refine W_roB 3 (tk:=1) (x:=.agg (byL k)) rfl (by decide) (frz_key 1 k hk rfl) (by simp [AV.rf]) ?_
 refine vd9 0 (by simp) (by simp) (by simp [zk9,putF,AV.under,AV.underL]) (by simp [yn9]) ?_
 refine (show Wt true 0 Tryz.prog _ _ ⟨9,[(2,.ro (reA e)),(3,.ro (.agg (byL k)))],[]⟩ from ?_)
 refine wk9 [4] mx (by decide +kernel) ?_
 refine yd9 3 (by simp [reA,he,hk,htk,maxLen];rfl) rfl ?_
 refine yv9 (by simp) (by first | (simp;done) | (simp;rfl)) (cmp106_sound e.key k) (by simp;rfl) ?_
 refine yb9 (by simp;rfl) ?_
 refine yj9 ?_
 repeat (first | refine yp9 ?_ | refine ys9 ?_)
 simp [retQ]
theorem ix_dig (b:UInt8):decide (0≤Lib.indexByte [48,49,50,51,52,53,54,55,56,57] b)=digB b:=by
 have:∀ n:Nat,n < 256→decide (0≤Lib.indexByte [48,49,50,51,52,53,54,55,56,57] (UInt8.ofNat n))=digB (UInt8.ofNat n):=by decide +kernel
 have hh:=this b.toNat b.toNat_lt
 rwa [UInt8.ofNat_toNat] at hh
theorem ix_ok (b:UInt8) (h:¬ (65≤b.toNat∧b.toNat≤90)):decide (Lib.indexByte [48,49,50,51,52,53,54,55,56,57,64,35,36] b < 0)=!okB b:=by
 have:∀ n:Nat,n < 256→(65≤n∧n≤90)∨decide (Lib.indexByte [48,49,50,51,52,53,54,55,56,57,64,35,36] (UInt8.ofNat n) < 0)=!okB (UInt8.ofNat n):=by decide +kernel
 have hh:=this b.toNat b.toNat_lt
 rw [UInt8.ofNat_toNat] at hh
 exact hh.resolve_left h
theorem uj9 {l:List UInt8} (h:l.length < 1∨8 < l.length∨digB (l.headD 0)=true∨∃ b∈l,okB b=false):symM l=false:=by
 rw [Bool.eq_false_iff]
 intro hs
 simp only [symM,Bool.and_eq_true,decide_eq_true_eq,Bool.not_eq_true',List.all_eq_true] at hs
 obtain ⟨h1,h2,h3,h4⟩:=hs
 rcases h with h | h | h | ⟨b,hb,h⟩
 ·omega
 ·omega
 ·rw [h] at h3;cases h3
 ·rw [h4 b hb] at h;cases h
theorem symM_true {l:List UInt8} (h1:1≤l.length) (h2:l.length≤8) (h3:digB (l.headD 0)=false) (h4:l.all okB=true):symM l=true:=by
 simp only [symM,h3,h4,Bool.and_true,Bool.not_false,decide_eq_true_eq,Bool.and_eq_true]
 exact ⟨h1,h2⟩
theorem yb8 (l:List UInt8) (hl:l.length≤9223372036854775807):Sound Tryz.prog 33 [strB l] (.v (.bool (symM l))):=by
 refine yc9 Tryz.func33 rfl (by decide +kernel) (by simp [Tryz.f33]) rfl rfl (rs:=[.tmp 2]) rfl ?_
 rw [show Tryz.f33.ntmps=38 from rfl]
 simp only [strB]
 refine yr9 [0] (by simp;rfl) ?_
 refine yh9 ?_
 by_cases n1:1≤l.length
 rotate_left
 ·have h0:l=[]:=List.eq_nil_of_length_eq_zero (by omega)
  subst h0
  refine W_rK [0,17] ?_
  iterate 2 refine yq9 6 (by simp;rfl) rfl ?_
  refine yw9 (by simp;rfl) ?_
  refine yt9 rfl (fun h=>?_) (fun h=>by simp at h)
  refine yr9 [2] (by simp;rfl) ?_
  refine yj9 ?_
  repeat (first | refine yp9 ?_ | refine ys9 ?_)
  simp [retQ,uj9 (l:=[]) (.inl (by simp))]
 have hne:l≠[]:=by intro h;rw [h] at n1;simp at n1
 have hne2:(l == [])=false:=by simpa using hne
 have hpos:0 < l.length:=n1
 obtain ⟨b0,hb0⟩:∃ b,l[0]?=some b:=⟨_,List.getElem?_eq_getElem hpos⟩
 have hb02:l[0]=b0:=by rw [List.getElem?_eq_getElem hpos] at hb0;exact Option.some.inj hb0
 have hhd:l.headD 0=b0:=by rw [List.headD_eq_head?_getD,List.head?_eq_getElem?,hb0];rfl
 by_cases n2:l.length≤8
 rotate_left
 ·have n2a:(8:Int) < (l.length:Nat):=by omega
  have n2b:8 < l.length:=by omega
  refine W_rK [0,17] ?_
  iterate 2 refine yq9 6 (by simp [hne,hne2,n2a,n2b];rfl) rfl ?_
  refine yw9 (by simp [hne,hne2,n2a,n2b];rfl) ?_
  refine yt9 rfl (fun h=>?_) (fun h=>by simp at h)
  refine yr9 [2] (by simp;rfl) ?_
  refine yj9 ?_
  repeat (first | refine yp9 ?_ | refine ys9 ?_)
  simp [retQ,uj9 (.inr (.inl n2b))]
 have n2a:¬ (8:Int) < (l.length:Nat):=by omega
 have n2b:¬ 8 < l.length:=by omega
 refine W_rK [0,17] ?_
 iterate 2 refine yq9 5 (by simp [hne,hne2,n2a,n2b,hpos,hb0,hb02];rfl) rfl ?_
 refine yf9 (by simp) (by first | (simp;done) | (simp;rfl)) (ww8 ⟨#[48,49,50,51,52,53,54,55,56,57]⟩ (b0.toNat:Nat)) (by simp;rfl) ?_
 have hix:=ix_dig b0
 obtain ⟨X,hX⟩:∃ X:Int,Lib.indexByte [48,49,50,51,52,53,54,55,56,57] b0=X:=⟨_,rfl⟩
 rw [hX] at hix
 refine yw9 (by simp [hX];rfl) ?_
 cases hd:digB b0 with
 | true =>
  rw [hd] at hix
  have hx0:0≤X:=by simpa using hix
  refine yt9 (t:=true) (by simp [hx0]) (fun h=>?_) (fun h=>by simp at h)
  refine yr9 [2] (by simp;rfl) ?_
  refine yj9 ?_
  repeat (first | refine yp9 ?_ | refine ys9 ?_)
  have:symM l=false:=uj9 (.inr (.inr (.inl (by rw [hhd];exact hd))))
  simp [retQ,this]
 | false =>
 rw [hd] at hix
 have hx0:¬ 0≤X:=by simpa using hix
 refine yt9 (t:=false) (by simp [hx0]) (fun h=>by simp at h) (fun h=>?_)
 refine yg9 ?_
 refine yh9 ?_
 refine yr9 [0,19,20] (by simp;rfl) ?_
 refine yl9 ?_
 refine zj9 (fun k σ=>∃ i:Nat,k=l.length - i∧i≤l.length∧(l.take i).all okB=true∧σ=⟨38,[(0,.v (.string ⟨l.toArray⟩)),(19,.v (.int .i64 (l.length:Nat))),(20,.v (.int .i64 (i:Nat)))],[]⟩) (k:=l.length) ⟨0,rfl,by omega,by simp,by simp⟩ ?_
 rintro k s ⟨i,rfl,hi,hall,rfl⟩
 by_cases c:i < l.length
 ·have ci : (i : Int) < l.length := by omega
  obtain ⟨b,hb⟩:∃ b,l[i]?=some b:=⟨_,List.getElem?_eq_getElem c⟩
  have hb2:l[i]=b:=by rw [List.getElem?_eq_getElem c] at hb;exact Option.some.inj hb
  have wi:=w64 (n:=(i:Int)+1) (by omega) (by omega)
  have next:okB b=true→(l.take (i+1)).all okB=true:=by
   intro ho
   rw [List.take_add_one,hb]
   simp [ho]
   simpa using hall
  refine yr9 [0,19,20,21] (by simp [c,ci];rfl) ?_
  refine yh9 ?_
  refine yt9 rfl (fun h=>?_) (fun h=>by simp at h)
  refine yg9 ?_
  refine yh9 ?_
  refine yl9 ?_
  refine yr9 [0,19,20,3] (by simp;rfl) ?_
  refine yr9 [0,19,20,4] (by simp [c,ci,hb,hb2];rfl) ?_
  by_cases hL:65≤b.toNat∧b.toNat≤90
  ·obtain ⟨q1,q2⟩:=hL
   have q1a:¬ ((b.toNat:Nat):Int) < 65:=by omega
   have q1b:¬ b.toNat < 65:=by omega
   have q2a:¬ (90:Int) < (b.toNat:Nat):=by omega
   have q2b:¬ 90 < b.toNat:=by omega
   have ho:okB b=true:=by simp [okB,okC,q1,q2];omega
   refine W_rK [0,19,20,36] ?_
   iterate 2 refine yq9 5 (by simp [q1a,q1b,q2a,q2b];rfl) rfl ?_
   refine yw9 (by simp [q1a,q1b,q2a,q2b];rfl) ?_
   refine yt9 rfl (fun h=>by simp at h) (fun h=>?_)
   refine yg9 ?_
   refine zr9 [0,19,20] (by simp [wi];rfl) ?_
   exact ⟨_,by omega,i+1,rfl,by omega,next ho,by simp⟩
  have hix2:=ix_ok b hL
  obtain ⟨Y,hY⟩:∃ Y:Int,Lib.indexByte [48,49,50,51,52,53,54,55,56,57,64,35,36] b=Y:=⟨_,rfl⟩
  rw [hY] at hix2
  refine vs9 (fun σ=>σ=⟨38,[(0,.v (.string ⟨l.toArray⟩)),(19,.v (.int .i64 (l.length:Nat))),(20,.v (.int .i64 (i:Nat))),(36,.v (.bool (decide (Y < 0))))],[]⟩) ?_ ?_
  ·by_cases q1 : 65 ≤ b.toNat
   ·have q2:90 < b.toNat:=by omega
    have q1a:¬ ((b.toNat:Nat):Int) < 65:=by omega
    have q1b:¬ b.toNat < 65:=by omega
    have q2a:(90:Int) < (b.toNat:Nat):=by omega
    refine W_rE [0,19,20,36] ?_
    iterate 2 refine yq9 4 (by simp [q1a,q1b,q2a,q2];rfl) rfl ?_
    refine yf9 (by simp) (by first | (simp;done) | (simp;rfl)) (ww8 ⟨#[48,49,50,51,52,53,54,55,56,57,64,35,36]⟩ (b.toNat:Nat)) (by simp;rfl) ?_
    refine yw9 (by simp [hY];rfl) ?_
    simp [zw9]
   ·have q1a:((b.toNat:Nat):Int) < 65:=by omega
    have q1b:b.toNat < 65:=by omega
    refine W_rE [0,19,20,36] ?_
    iterate 2 refine yq9 4 (by simp [q1a,q1b];rfl) rfl ?_
    refine yf9 (by simp) (by first | (simp;done) | (simp;rfl)) (ww8 ⟨#[48,49,50,51,52,53,54,55,56,57,64,35,36]⟩ (b.toNat:Nat)) (by simp;rfl) ?_
    refine yw9 (by simp [hY];rfl) ?_
    simp [zw9]
  rintro _ rfl
  cases ho:okB b with
  | true =>
   rw [ho] at hix2
   have hy:¬ Y < 0:=by simpa using hix2
   refine yt9 (t:=false) (by simp [hy]) (fun h=>by simp at h) (fun h=>?_)
   refine yg9 ?_
   refine zr9 [0,19,20] (by simp [wi];rfl) ?_
   exact ⟨_,by omega,i+1,rfl,by omega,next ho,by simp⟩
  | false =>
   rw [ho] at hix2
   have hy:Y < 0:=by simpa using hix2
   refine yt9 (t:=true) (by simp [hy]) (fun h=>?_) (fun h=>by simp at h)
   refine yr9 [2] (by simp;rfl) ?_
   refine yj9 ?_
   repeat (first | refine yp9 ?_ | refine ys9 ?_)
   have:symM l=false:=uj9 (.inr (.inr (.inr ⟨b,List.mem_of_getElem? hb,ho⟩)))
   simp [retQ,this]
 have hie:i=l.length:=by omega
 refine yr9 [0,19,20,21] (by simp [c];rfl) ?_
 refine yh9 ?_
 refine yt9 (t:=false) (by simp [hie]) (fun h=>by simp at h) (fun h=>?_)
 refine zs9 ?_
 refine yr9 [2] (by simp;rfl) ?_
 refine yj9 ?_
 repeat (first | refine yp9 ?_ | refine ys9 ?_)
 have ha:l.all okB=true:=by rw [hie,List.take_length] at hall;exact hall
 have:symM l=true:=symM_true n1 n2 (by rw [hhd];exact hd) ha
 simp [retQ,this]
def letB (b:UInt8):Bool:=(decide (65≤b.toNat)&&decide (b.toNat≤90)) || (decide (b.toNat=64) || (decide (b.toNat=35) || decide (b.toNat=36)))
def badN (i:Nat) (b:UInt8) (L:Bool):Bool:=!L&&(decide (i=0) || (decide (b.toNat < 48) || decide (57 < b.toNat)))
theorem badN_eq (i:Nat) (b:UInt8):badN i b (letB b)=(!okB b || (decide (i=0)&&digB b)):=by
 have h:∀ n:Nat,n < 256→∀ z:Bool,(!letB (UInt8.ofNat n)&&(z || (decide ((UInt8.ofNat n).toNat < 48) || decide (57 < (UInt8.ofNat n).toNat))))=(!okB (UInt8.ofNat n) || (z&&digB (UInt8.ofNat n))):=by decide +kernel
 have hh:=h b.toNat b.toNat_lt (decide (i=0))
 rwa [UInt8.ofNat_toNat] at hh
theorem rname_sound (l:List UInt8) (hl:l.length≤9223372036854775807):Sound Tryz.prog 46 [strB l] (.v (.bool (symM l))):=by
 refine yc9 Tryz.func46 rfl (by decide +kernel) (by simp [Tryz.f46]) rfl rfl (rs:=[.tmp 2]) rfl ?_
 rw [show Tryz.f46.ntmps=65 from rfl]
 simp only [strB]
 refine yr9 [0] (by simp;rfl) ?_
 refine yh9 ?_
 refine yr9 [0,3] (by simp;rfl) ?_
 refine yl9 ?_
 refine zj9 (fun k σ=>∃ i:Nat,k=l.length - i∧i≤l.length∧(l.take i).all okB=true∧(0 < i→digB (l.headD 0)=false)∧σ=⟨65,[(0,.v (.string ⟨l.toArray⟩)),(3,.v (.int .i64 (i:Nat)))],[]⟩) (k:=l.length) ⟨0,rfl,by omega,by simp,by omega,by simp⟩ ?_
 rintro k s ⟨i,rfl,hi,hall,hd0,rfl⟩
 refine yh9 ?_
 by_cases c:i < l.length
 ·have ci : (i : Int) < l.length := by omega
  obtain ⟨b,hb⟩:∃ b,l[i]?=some b:=⟨_,List.getElem?_eq_getElem c⟩
  have hb2:l[i]=b:=by rw [List.getElem?_eq_getElem c] at hb;exact Option.some.inj hb
  have wi:=w64 (n:=(i:Int)+1) (by omega) (by omega)
  refine W_cT [0,3,8] (by simp [c,ci];rfl) rfl ?_
  refine yg9 ?_
  refine yh9 ?_
  refine yl9 ?_
  refine vs9 (fun σ=>σ=⟨65,[(0,.v (.string ⟨l.toArray⟩)),(3,.v (.int .i64 (i:Nat))),(4,.v (.bool (letB b)))],[]⟩) ?_ ?_
  ·by_cases p1 : 65 ≤ b.toNat
   ·have p10 : 65 ≤ b.toNat := p1
    have p1a:(65:Int)≤(b.toNat:Nat):=by omega
    have p1b:¬ b.toNat < 65:=by omega
    have p1c:¬ ((b.toNat:Nat):Int) < 65:=by omega
    by_cases p2:b.toNat≤90
    ·have p20:b.toNat≤90:=p2
     have p2a:((b.toNat:Nat):Int)≤90:=by omega
     have p2b:¬ 90 < b.toNat:=by omega
     have p2c:¬ (90:Int) < (b.toNat:Nat):=by omega
     refine W_rE [0,3,4] ?_
     iterate 4 refine yq9 6 (by simp [c,ci,hb,hb2,p10,p1a,p1b,p1c,p20,p2a,p2b,p2c];rfl) rfl ?_
     refine yw9 (by simp [c,ci,hb,hb2,p10,p1a,p1b,p1c,p20,p2a,p2b,p2c];rfl) ?_
     simp [zw9,letB,c,ci,hb,hb2,p10,p1a,p1b,p1c,p20,p2a,p2b,p2c]
    have p20:¬ b.toNat≤90:=p2
    have p2a:¬ ((b.toNat:Nat):Int)≤90:=by omega
    have p2b:90 < b.toNat:=by omega
    have p2c:(90:Int) < (b.toNat:Nat):=by omega
    by_cases p5:b.toNat=64
    ·have p50:b.toNat=64:=p5
     have p5a:((b.toNat:Nat):Int)=64:=by omega
     refine W_rE [0,3,4] ?_
     iterate 4 refine yq9 6 (by simp [c,ci,hb,hb2,p10,p1a,p1b,p1c,p20,p2a,p2b,p2c,p50,p5a];rfl) rfl ?_
     refine yw9 (by simp [c,ci,hb,hb2,p10,p1a,p1b,p1c,p20,p2a,p2b,p2c,p50,p5a];rfl) ?_
     simp [zw9,letB,c,ci,hb,hb2,p10,p1a,p1b,p1c,p20,p2a,p2b,p2c,p50,p5a]
    have p50:¬ b.toNat=64:=p5
    have p5a:¬ ((b.toNat:Nat):Int)=64:=by omega
    have p5b:(((b.toNat:Nat):Int) == 64)=false:=beq_eq_false_iff_ne.2 (by omega)
    by_cases p6:b.toNat=35
    ·have p60:b.toNat=35:=p6
     have p6a:((b.toNat:Nat):Int)=35:=by omega
     refine W_rE [0,3,4] ?_
     iterate 4 refine yq9 6 (by simp [c,ci,hb,hb2,p10,p1a,p1b,p1c,p20,p2a,p2b,p2c,p50,p5a,p5b,p60,p6a];rfl) rfl ?_
     refine yw9 (by simp [c,ci,hb,hb2,p10,p1a,p1b,p1c,p20,p2a,p2b,p2c,p50,p5a,p5b,p60,p6a];rfl) ?_
     simp [zw9,letB,c,ci,hb,hb2,p10,p1a,p1b,p1c,p20,p2a,p2b,p2c,p50,p5a,p5b,p60,p6a]
    have p60:¬ b.toNat=35:=p6
    have p6a:¬ ((b.toNat:Nat):Int)=35:=by omega
    have p6b:(((b.toNat:Nat):Int) == 35)=false:=beq_eq_false_iff_ne.2 (by omega)
    by_cases p7:b.toNat=36
    ·have p70:b.toNat=36:=p7
     have p7a:((b.toNat:Nat):Int)=36:=by omega
     refine W_rE [0,3,4] ?_
     iterate 4 refine yq9 6 (by simp [c,ci,hb,hb2,p10,p1a,p1b,p1c,p20,p2a,p2b,p2c,p50,p5a,p5b,p60,p6a,p6b,p70,p7a];rfl) rfl ?_
     refine yw9 (by simp [c,ci,hb,hb2,p10,p1a,p1b,p1c,p20,p2a,p2b,p2c,p50,p5a,p5b,p60,p6a,p6b,p70,p7a];rfl) ?_
     simp [zw9,letB,c,ci,hb,hb2,p10,p1a,p1b,p1c,p20,p2a,p2b,p2c,p50,p5a,p5b,p60,p6a,p6b,p70,p7a]
    have p70:¬ b.toNat=36:=p7
    have p7a:¬ ((b.toNat:Nat):Int)=36:=by omega
    have p7b:(((b.toNat:Nat):Int) == 36)=false:=beq_eq_false_iff_ne.2 (by omega)
    refine W_rE [0,3,4] ?_
    iterate 4 refine yq9 6 (by simp [c,ci,hb,hb2,p10,p1a,p1b,p1c,p20,p2a,p2b,p2c,p50,p5a,p5b,p60,p6a,p6b,p70,p7a,p7b];rfl) rfl ?_
    refine yw9 (by simp [c,ci,hb,hb2,p10,p1a,p1b,p1c,p20,p2a,p2b,p2c,p50,p5a,p5b,p60,p6a,p6b,p70,p7a,p7b];rfl) ?_
    simp [zw9,letB,c,ci,hb,hb2,p10,p1a,p1b,p1c,p20,p2a,p2b,p2c,p50,p5a,p5b,p60,p6a,p6b,p70,p7a,p7b]
   have p10:¬ 65≤b.toNat:=p1
   have p1a:¬ (65:Int)≤(b.toNat:Nat):=by omega
   have p1b:b.toNat < 65:=by omega
   have p1c:((b.toNat:Nat):Int) < 65:=by omega
   by_cases p5:b.toNat=64
   ·have p50:b.toNat=64:=p5
    have p5a:((b.toNat:Nat):Int)=64:=by omega
    refine W_rE [0,3,4] ?_
    iterate 4 refine yq9 6 (by simp [c,ci,hb,hb2,p10,p1a,p1b,p1c,p50,p5a];rfl) rfl ?_
    refine yw9 (by simp [c,ci,hb,hb2,p10,p1a,p1b,p1c,p50,p5a];rfl) ?_
    simp [zw9,letB,c,ci,hb,hb2,p10,p1a,p1b,p1c,p50,p5a]
   have p50:¬ b.toNat=64:=p5
   have p5a:¬ ((b.toNat:Nat):Int)=64:=by omega
   have p5b:(((b.toNat:Nat):Int) == 64)=false:=beq_eq_false_iff_ne.2 (by omega)
   by_cases p6:b.toNat=35
   ·have p60:b.toNat=35:=p6
    have p6a:((b.toNat:Nat):Int)=35:=by omega
    refine W_rE [0,3,4] ?_
    iterate 4 refine yq9 6 (by simp [c,ci,hb,hb2,p10,p1a,p1b,p1c,p50,p5a,p5b,p60,p6a];rfl) rfl ?_
    refine yw9 (by simp [c,ci,hb,hb2,p10,p1a,p1b,p1c,p50,p5a,p5b,p60,p6a];rfl) ?_
    simp [zw9,letB,c,ci,hb,hb2,p10,p1a,p1b,p1c,p50,p5a,p5b,p60,p6a]
   have p60:¬ b.toNat=35:=p6
   have p6a:¬ ((b.toNat:Nat):Int)=35:=by omega
   have p6b:(((b.toNat:Nat):Int) == 35)=false:=beq_eq_false_iff_ne.2 (by omega)
   by_cases p7:b.toNat=36
   ·have p70:b.toNat=36:=p7
    have p7a:((b.toNat:Nat):Int)=36:=by omega
    refine W_rE [0,3,4] ?_
    iterate 4 refine yq9 6 (by simp [c,ci,hb,hb2,p10,p1a,p1b,p1c,p50,p5a,p5b,p60,p6a,p6b,p70,p7a];rfl) rfl ?_
    refine yw9 (by simp [c,ci,hb,hb2,p10,p1a,p1b,p1c,p50,p5a,p5b,p60,p6a,p6b,p70,p7a];rfl) ?_
    simp [zw9,letB,c,ci,hb,hb2,p10,p1a,p1b,p1c,p50,p5a,p5b,p60,p6a,p6b,p70,p7a]
   have p70:¬ b.toNat=36:=p7
   have p7a:¬ ((b.toNat:Nat):Int)=36:=by omega
   have p7b:(((b.toNat:Nat):Int) == 36)=false:=beq_eq_false_iff_ne.2 (by omega)
   refine W_rE [0,3,4] ?_
   iterate 4 refine yq9 6 (by simp [c,ci,hb,hb2,p10,p1a,p1b,p1c,p50,p5a,p5b,p60,p6a,p6b,p70,p7a,p7b];rfl) rfl ?_
   refine yw9 (by simp [c,ci,hb,hb2,p10,p1a,p1b,p1c,p50,p5a,p5b,p60,p6a,p6b,p70,p7a,p7b];rfl) ?_
   simp [zw9,letB,c,ci,hb,hb2,p10,p1a,p1b,p1c,p50,p5a,p5b,p60,p6a,p6b,p70,p7a,p7b]
  rintro _ rfl
  have hLd:∀ t:Bool,letB b=t→True:=fun _ _=>trivial
  obtain ⟨L,hL⟩:∃ L,letB b=L:=⟨_,rfl⟩
  rw [hL]
  refine vs9 (fun σ=>σ=⟨65,[(0,.v (.string ⟨l.toArray⟩)),(3,.v (.int .i64 (i:Nat))),(56,.v (.bool (badN i b L)))],[]⟩) ?_ ?_
  ·by_cases r1 : L = true
   ·have r1a:L=true:=r1
    refine W_rE [0,3,56] ?_
    iterate 2 refine yq9 6 (by simp [c,ci,hb,hb2,r1a];rfl) rfl ?_
    refine yw9 (by simp [c,ci,hb,hb2,r1a];rfl) ?_
    simp [zw9,badN,c,ci,hb,hb2,r1a]
   have r1a:L=false:=by simpa using r1
   by_cases r2:i=0
   ·have r20:i=0:=r2
    have r2a:((i:Nat):Int)=0:=by omega
    refine W_rE [0,3,56] ?_
    iterate 2 refine yq9 6 (by simp [c,ci,hb,hb2,r1a,r20,r2a];rfl) rfl ?_
    refine yw9 (by simp [c,ci,hb,hb2,r1a,r20,r2a];rfl) ?_
    simp [zw9,badN,c,ci,hb,hb2,r1a,r20,r2a]
   have r20:¬ i=0:=r2
   have r2a:¬ ((i:Nat):Int)=0:=by omega
   have r2b:(((i:Nat):Int) == 0)=false:=beq_eq_false_iff_ne.2 (by omega)
   by_cases r3:b.toNat < 48
   ·have r30:b.toNat < 48:=r3
    have r3a:((b.toNat:Nat):Int) < 48:=by omega
    refine W_rE [0,3,56] ?_
    iterate 2 refine yq9 6 (by simp [c,ci,hb,hb2,r1a,r20,r2a,r2b,r30,r3a];rfl) rfl ?_
    refine yw9 (by simp [c,ci,hb,hb2,r1a,r20,r2a,r2b,r30,r3a];rfl) ?_
    simp [zw9,badN,c,ci,hb,hb2,r1a,r20,r2a,r2b,r30,r3a]
   have r30:¬ b.toNat < 48:=r3
   have r3a:¬ ((b.toNat:Nat):Int) < 48:=by omega
   by_cases r4:57 < b.toNat
   ·have r40:57 < b.toNat:=r4
    have r4a:(57:Int) < (b.toNat:Nat):=by omega
    refine W_rE [0,3,56] ?_
    iterate 2 refine yq9 6 (by simp [c,ci,hb,hb2,r1a,r20,r2a,r2b,r30,r3a,r40,r4a];rfl) rfl ?_
    refine yw9 (by simp [c,ci,hb,hb2,r1a,r20,r2a,r2b,r30,r3a,r40,r4a];rfl) ?_
    simp [zw9,badN,c,ci,hb,hb2,r1a,r20,r2a,r2b,r30,r3a,r40,r4a]
   have r40:¬ 57 < b.toNat:=r4
   have r4a:¬ (57:Int) < (b.toNat:Nat):=by omega
   refine W_rE [0,3,56] ?_
   iterate 2 refine yq9 6 (by simp [c,ci,hb,hb2,r1a,r20,r2a,r2b,r30,r3a,r40,r4a];rfl) rfl ?_
   refine yw9 (by simp [c,ci,hb,hb2,r1a,r20,r2a,r2b,r30,r3a,r40,r4a];rfl) ?_
   simp [zw9,badN,c,ci,hb,hb2,r1a,r20,r2a,r2b,r30,r3a,r40,r4a]
  rintro _ rfl
  have hbad:badN i b L=(!okB b || (decide (i=0)&&digB b)):=by rw [← hL];exact badN_eq i b
  have hhd:i=0→l.headD 0=b:=by
   intro h0
   rw [List.headD_eq_head?_getD,List.head?_eq_getElem?,← h0,hb]
   rfl
  cases hB:badN i b L with
  | true =>
   refine yt9 rfl (fun h=>?_) (fun h=>by simp at h)
   refine yr9 [2] (by simp;rfl) ?_
   refine yj9 ?_
   repeat (first | refine yp9 ?_ | refine ys9 ?_)
   have:symM l=false:=by
    rw [hB] at hbad
    have hb3:=hbad.symm
    simp only [Bool.or_eq_true,Bool.not_eq_true',Bool.and_eq_true,decide_eq_true_eq] at hb3
    rcases hb3 with h1 | ⟨h1,h2⟩
    ·exact uj9 (.inr (.inr (.inr ⟨b,List.mem_of_getElem? hb,h1⟩)))
    ·exact uj9 (.inr (.inr (.inl (by rw [hhd h1];exact h2))))
   simp [retQ,this]
  | false =>
   refine yt9 rfl (fun h=>by simp at h) (fun h=>?_)
   refine yg9 ?_
   refine zr9 [0,3] (by simp [wi];rfl) ?_
   rw [hB] at hbad
   have hb3:=hbad.symm
   simp only [Bool.or_eq_false_iff,Bool.not_eq_false',Bool.and_eq_false_iff,decide_eq_false_iff_not] at hb3
   refine ⟨_,by omega,i+1,rfl,by omega,?_,fun _=>?_,by simp⟩
   ·rw [List.take_add_one,hb]
    simp [hb3.1]
    simpa using hall
   ·by_cases h0 : i = 0
    ·rw [hhd h0]
     rcases hb3.2 with h1 | h1
     ·exact absurd h0 h1
     ·exact h1
    ·exact hd0 (by omega)
 have hie:i=l.length:=by omega
 have ha:l.all okB=true:=by rw [hie,List.take_length] at hall;exact hall
 refine yr9 [0,3,8] (by simp [c];rfl) ?_
 refine yt9 (t:=false) (by simp [hie]) (fun h=>by simp at h) (fun h=>?_)
 refine zs9 ?_
 by_cases n1:1≤l.length
 ·have n10 : 1 ≤ l.length := n1
  have n1a:(1:Int)≤(l.length:Nat):=by omega
  have n1b:¬ l.length < 1:=by omega
  have n1c:¬ ((l.length:Nat):Int) < 1:=by omega
  by_cases n2:l.length≤8
  ·have n20:l.length≤8:=n2
   have n2a:((l.length:Nat):Int)≤8:=by omega
   have n2b:¬ 8 < l.length:=by omega
   have n2c:¬ (8:Int) < (l.length:Nat):=by omega
   refine W_rK [2] ?_
   refine yq9 5 (by simp [n10,n1a,n1b,n1c,n20,n2a,n2b,n2c];rfl) rfl ?_
   refine yw9 (by simp [n10,n1a,n1b,n1c,n20,n2a,n2b,n2c];rfl) ?_
   refine yj9 ?_
   repeat (first | refine yp9 ?_ | refine ys9 ?_)
   have:symM l=true:=symM_true n1 n2 (hd0 (by omega)) ha
   simp [retQ,this]
  have n20:¬ l.length≤8:=n2
  have n2a:¬ ((l.length:Nat):Int)≤8:=by omega
  have n2b:8 < l.length:=by omega
  have n2c:(8:Int) < (l.length:Nat):=by omega
  refine W_rK [2] ?_
  refine yq9 5 (by simp [n10,n1a,n1b,n1c,n20,n2a,n2b,n2c];rfl) rfl ?_
  refine yw9 (by simp [n10,n1a,n1b,n1c,n20,n2a,n2b,n2c];rfl) ?_
  refine yj9 ?_
  repeat (first | refine yp9 ?_ | refine ys9 ?_)
  have:symM l=false:=uj9 (by omega)
  simp [retQ,this]
 have n10:¬ 1≤l.length:=n1
 have n1a:¬ (1:Int)≤(l.length:Nat):=by omega
 have n1b:l.length < 1:=by omega
 have n1c:((l.length:Nat):Int) < 1:=by omega
 refine W_rK [2] ?_
 refine yq9 5 (by simp [n10,n1a,n1b,n1c];rfl) rfl ?_
 refine yw9 (by simp [n10,n1a,n1b,n1c];rfl) ?_
 refine yj9 ?_
 repeat (first | refine yp9 ?_ | refine ys9 ?_)
 have:symM l=false:=uj9 (by omega)
 simp [retQ,this]
set_option maxRecDepth 20000
theorem posE_of {l:List RE} {k:List UInt8} {i:Nat} (hi:i≤l.length) (h1:∀ m e,m < i→l[m]?=some e→Op.bytesLess e.key k=true) (h2:∀ m e,i≤m→l[m]?=some e→Op.bytesLess e.key k=false):posE l k=i:=by
 have e:l=l.take i++l.drop i:=(List.take_append_drop i l).symm
 unfold posE
 rw [e,kb9]
 ·cases hd:l.drop i with
  | nil=>simp [List.length_take];omega
  | cons x r =>
   have hx:l[i]?=some x:=by
    have:=congrArg List.head? hd
    rw [List.head?_drop] at this
    simpa using this
   rw [List.takeWhile_cons,if_neg (by rw [h2 i x (Nat.le_refl _) hx];decide),List.append_nil,List.length_take]
   omega
 ·intro x hx
  obtain ⟨m,hm,rfl⟩:=List.mem_iff_getElem.1 hx
  rw [List.length_take] at hm
  refine h1 m _ (by omega) ?_
  rw [List.getElem_take,List.getElem?_eq_getElem (by omega)]
theorem vm6 {l:List RE} (h:l.Pairwise ltE) {i j:Nat} {a b:RE} (hij:i < j) (ha:l[i]?=some a) (hb:l[j]?=some b):Op.bytesLess a.key b.key=true:=by
 obtain ⟨h1,rfl⟩:=List.getElem?_eq_some_iff.1 ha
 obtain ⟨h2,rfl⟩:=List.getElem?_eq_some_iff.1 hb
 exact List.pairwise_iff_getElem.1 h i j h1 h2 hij
def reCs (l:List RE):List AV:=(l.map reC).flatten
def CellsRE (cs:List AV) (l:List RE):Prop:=∀ i e,l[i]?=some e→i * 10+10≤cs.length∧(cs.drop (i * 10)).take 10=reC e
theorem bs_sound (l:List RE) (k:List UInt8) (hp:l.Pairwise ltE) (h8:∀ e∈l,e.key.length=8) (hk:k.length=8) (hl:l.length≤1000000000):Sound Tryz.prog 67 [.lst .any 10 (reL l),.agg (byL k),.fn (.func 69) [] []] (.tup [.v (.int .i64 (posE l k:Nat)),.v (.bool (fndE l k))]):=by
 refine yc9 Tryz.func67 rfl (by decide +kernel) (by simp [Tryz.f67]) (by simp [AV.rfL,AV.rf]) (by simp [AV.tlL,AV.tl]) (rs:=[.tmp 6,.tmp 7]) rfl ?_
 rw [show Tryz.f67.ntmps=49 from rfl]
 refine yr9 [0,2,4] (by simp [hk];rfl) ?_
 refine yr9 [0,2,4,8] (by simp;rfl) ?_
 refine yr9 [0,2,4,8,9,10] (by simp;rfl) ?_
 refine yh9 ?_
 refine yl9 ?_
 refine zj9 (fun q s => ∃ i j : Nat, q = j - i ∧ i ≤ j ∧ j ≤ l.length ∧ (∀ m e, m < i → l[m]? = some e → Op.bytesLess e.key k = true) ∧ (∀ m e, j ≤ m → l[m]? = some e → Op.bytesLess e.key k = false) ∧
  s=⟨49,[(0,.lst .any 10 (reL l)),(2,.fn (.func 69) [] []),(4,.loc 0 0),(8,.v (.int .i64 (l.length:Nat))),(9,.v (.int .i64 (i:Nat))),(10,.v (.int .i64 (j:Nat)))],[.cells 76 (byL k)]⟩) (k:=l.length) ⟨0,l.length,rfl,by omega,by omega,by intro m e hm;omega,by intro m e hm he;have:=(List.getElem?_eq_some_iff.1 he).1;omega,by simp [hk]⟩ ?_
 rintro q s ⟨i,j,rfl,hij,hj,hlo,hhi,rfl⟩
 refine yh9 ?_
 by_cases c:i < j
 ·have ci : (i : Int) < j := by omega
  obtain ⟨m,hm⟩:∃ m,(i+j) / 2=m:=⟨_,rfl⟩
  have hmi:i≤m:=by omega
  have hmj:m < j:=by omega
  have hml:m < l.length:=by omega
  have hmli:(m:Int) < l.length:=by omega
  obtain ⟨e,he⟩:∃ e,l[m]?=some e:=⟨_,List.getElem?_eq_getElem hml⟩
  have hge:l[m]'hml=e:=by rw [List.getElem?_eq_getElem hml] at he;exact Option.some.inj he
  have h8e:=h8 e (List.mem_of_getElem? he)
  have htk8:List.take 8 (byL k)=byL k:=List.take_of_length_le (by simp [hk])
  have w1:IntKind.i64.wrap ((i:Int)+j)=(i:Int)+j:=w64 (by omega) (by omega)
  have w2:IntKind.u64.wrap ((i:Int)+j)=(i:Int)+j:=by
   simp only [IntKind.wrap_u64]
   omega
  have w3:Int.fdiv ((i:Int)+j) (2 ^ min 1 IntKind.u64.bits)=(m:Nat):=by rw [show (2:Int) ^ min 1 IntKind.u64.bits=2 from rfl,Int.fdiv_eq_ediv_of_nonneg _ (by omega)];omega
  have w4:IntKind.i64.wrap (m:Nat)=(m:Nat):=w64 (by omega) (by omega)
  have w5:IntKind.i64.wrap ((m:Int)+1)=((m+1:Nat):Int):=by rw [w64 (by omega) (by omega)];omega
  refine yr9 [0,2,4,8,9,10,17] (by simp [c,ci];rfl) ?_
  refine yt9 (t:=true) (by simp [c,ci]) (fun h=>?_) (fun h=>by simp at h)
  refine yg9 ?_
  refine yl9 ?_
  refine yr9 [0,2,4,8,9,10,11] (by simp [w1,w2,w3,w4];rfl) ?_
  have hcmp:=qr9 e k h8e hk
  obtain ⟨X,hX⟩:∃ X,Lib.compareBytes e.key k=X:=⟨_,rfl⟩
  rw [hX] at hcmp
  simp only [reA] at hcmp
  have hlX:Op.bytesLess e.key k=decide (X < 0):=by rw [jh8,hX]
  refine wk9 [0,2,4,8,9,10,11,31] mx (by decide +kernel) ?_
  refine yd9 6 (by simp [hml,hmli,hk,reA,h8e,htk8,hge];rfl) rfl ?_
  refine yv9 (by simp) (by first | (simp;done) | (simp;rfl)) hcmp (by simp;rfl) ?_
  refine yb9 (by simp;rfl) ?_
  by_cases hneg:X < 0
  ·have hle:Op.bytesLess e.key k=true:=by rw [hlX];simp [hneg]
   refine yt9 (t:=true) (by simp [hneg]) (fun h=>?_) (fun h=>by simp at h)
   refine zr9 [0,2,4,8,9,10] (by simp [w5];rfl) ?_
   refine ⟨_,by omega,m+1,j,rfl,by omega,hj,fun m2 e2 hm2 he2=>?_,hhi,by simp⟩
   by_cases h2:m2=m
   ·subst h2;rw [he] at he2;cases he2;exact hle
   ·exact vc9 (vm6 hp (by omega) he2 he) hle
  ·have hle : Op.bytesLess e.key k = false := by rw [hlX]; simp [hneg]
   refine yt9 (t:=false) (by simp [hneg]) (fun h=>by simp at h) (fun h=>?_)
   refine zr9 [0,2,4,8,9,10] (by simp;rfl) ?_
   refine ⟨_,by omega,i,m,rfl,by omega,by omega,hlo,fun m2 e2 hm2 he2=>?_,by simp⟩
   by_cases h2:m2=m
   ·subst h2;rw [he] at he2;cases he2;exact hle
   ·cases hb:Op.bytesLess e2.key k with
    | false=>rfl
    | true =>
     have:=vc9 (vm6 hp (show m < m2 by omega) he he2) hb
     rw [hle] at this
     cases this
 have hie:i=j:=by omega
 subst hie
 have hpos:posE l k=i:=posE_of (by omega) hlo hhi
 rw [hpos]
 refine yr9 [0,2,4,8,9,17] (by simp;rfl) ?_
 refine yt9 (t:=false) (by simp) (fun h=>by simp at h) (fun h=>?_)
 refine zs9 ?_
 by_cases c2:i < l.length
 ·have ci : (i : Int) < l.length := by omega
  obtain ⟨e,he⟩:∃ e,l[i]?=some e:=⟨_,List.getElem?_eq_getElem c2⟩
  have hge:l[i]'c2=e:=by rw [List.getElem?_eq_getElem c2] at he;exact Option.some.inj he
  have h8e:=h8 e (List.mem_of_getElem? he)
  have htk8:List.take 8 (byL k)=byL k:=List.take_of_length_le (by simp [hk])
  have hcmp:=qr9 e k h8e hk
  obtain ⟨X,hX⟩:∃ X,Lib.compareBytes e.key k=X:=⟨_,rfl⟩
  rw [hX] at hcmp
  simp only [reA] at hcmp
  have hf:fndE l k=(X == 0):=by
   have h9:=eq_cmp e.key k
   rw [hX,decide_eq_decide] at h9
   unfold fndE
   rw [hpos,he,Bool.eq_iff_iff]
   simp [h9]
  refine wk9 [6,7] mx (by decide +kernel) ?_
  refine yd9 6 (by simp [c2,ci];rfl) rfl ?_
  refine yd9 5 (by simp [c2,ci,hk,reA,h8e,htk8,hge];rfl) rfl ?_
  refine yv9 (by simp) (by first | (simp;done) | (simp;rfl)) hcmp (by simp;rfl) ?_
  refine yb9 (by simp;rfl) ?_
  refine yj9 ?_
  repeat (first | refine yp9 ?_ | refine ys9 ?_)
  simp [retQ,hf]
 ·have ci : ¬ (i : Int) < l.length := by omega
  have hf:fndE l k=false:=by
   unfold fndE
   rw [hpos,List.getElem?_eq_none (by omega)]
  refine wk9 [6,7] mx (by decide +kernel) ?_
  iterate 2 refine yd9 6 (by simp [c2,ci];rfl) rfl ?_
  refine yb9 (by simp;rfl) ?_
  refine yj9 ?_
  repeat (first | refine yp9 ?_ | refine ys9 ?_)
  simp [retQ,hf]
theorem bs_callW (l:List RE) (k:List UInt8) (hp:l.Pairwise ltE) (h8:∀ e∈l,e.key.length=8) (hk:k.length=8) (hl:l.length≤1000000000) (H:List AObj) (id cap:Nat) (cs:List AV) (hid:H[id]?=some (.cells 78 cs)) (hcs:CellsRE cs l) (hh:yn9 H.length H=true):ww9 Tryz.prog 67 [.arr id 0 l.length cap,.agg (byL k),.fn (.func 69) [] []] H fun r h'=>r=.tup [.v (.int .i64 (posE l k:Nat)),.v (.bool (fndE l k))]∧h'=H:=by
 refine zd9 Tryz.func67 rfl (by decide +kernel) (by simp [Tryz.f67]) (rs:=[.tmp 6,.tmp 7]) rfl ?_
 rw [show Tryz.f67.ntmps=49 from rfl]
 have hid1:id < H.length:=(List.getElem?_eq_some_iff.1 hid).1
 have hid2:(H++[AObj.cells 76 (byL k)])[id]?=some (.cells 78 cs):=by rw [List.getElem?_append_left hid1];exact hid
 refine yr9 [0,2,4] (by simp [hk];rfl) ?_
 refine yr9 [0,2,4,8] (by simp;rfl) ?_
 refine yr9 [0,2,4,8,9,10] (by simp;rfl) ?_
 refine yh9 ?_
 refine yl9 ?_
 refine zj9 (fun q s => ∃ i j : Nat, q = j - i ∧ i ≤ j ∧ j ≤ l.length ∧ (∀ m e, m < i → l[m]? = some e → Op.bytesLess e.key k = true) ∧ (∀ m e, j ≤ m → l[m]? = some e → Op.bytesLess e.key k = false) ∧
  s=⟨49,[(0,.arr id 0 l.length cap),(2,.fn (.func 69) [] []),(4,.loc H.length 0),(8,.v (.int .i64 (l.length:Nat))),(9,.v (.int .i64 (i:Nat))),(10,.v (.int .i64 (j:Nat)))],H++[.cells 76 (byL k)]⟩) (k:=l.length) ⟨0,l.length,rfl,by omega,by omega,by intro m e hm;omega,by intro m e hm he;have:=(List.getElem?_eq_some_iff.1 he).1;omega,by simp [hk]⟩ ?_
 rintro q s ⟨i,j,rfl,hij,hj,hlo,hhi,rfl⟩
 refine yh9 ?_
 by_cases c:i < j
 ·have ci : (i : Int) < j := by omega
  obtain ⟨m,hm⟩:∃ m,(i+j) / 2=m:=⟨_,rfl⟩
  have hmi:i≤m:=by omega
  have hmj:m < j:=by omega
  have hml:m < l.length:=by omega
  have hmli:(m:Int) < l.length:=by omega
  obtain ⟨e,he⟩:∃ e,l[m]?=some e:=⟨_,List.getElem?_eq_getElem hml⟩
  have hge:l[m]'hml=e:=by rw [List.getElem?_eq_getElem hml] at he;exact Option.some.inj he
  have h8e:=h8 e (List.mem_of_getElem? he)
  have htk8:List.take 8 (byL k)=byL k:=List.take_of_length_le (by simp [hk])
  have w1:IntKind.i64.wrap ((i:Int)+j)=(i:Int)+j:=w64 (by omega) (by omega)
  have w2:IntKind.u64.wrap ((i:Int)+j)=(i:Int)+j:=by
   simp only [IntKind.wrap_u64]
   omega
  have w3:Int.fdiv ((i:Int)+j) (2 ^ min 1 IntKind.u64.bits)=(m:Nat):=by rw [show (2:Int) ^ min 1 IntKind.u64.bits=2 from rfl,Int.fdiv_eq_ediv_of_nonneg _ (by omega)];omega
  have w4:IntKind.i64.wrap (m:Nat)=(m:Nat):=w64 (by omega) (by omega)
  have w5:IntKind.i64.wrap ((m:Int)+1)=((m+1:Nat):Int):=by rw [w64 (by omega) (by omega)];omega
  obtain ⟨hld1,hld2⟩:=hcs m e he
  refine yr9 [0,2,4,8,9,10,17] (by simp [c,ci];rfl) ?_
  refine yt9 (t:=true) (by simp [c,ci]) (fun h=>?_) (fun h=>by simp at h)
  refine yg9 ?_
  refine yl9 ?_
  refine yr9 [0,2,4,8,9,10,11] (by simp [w1,w2,w3,w4];rfl) ?_
  have hcmp:=qr9 e k h8e hk
  obtain ⟨X,hX⟩:∃ X,Lib.compareBytes e.key k=X:=⟨_,rfl⟩
  rw [hX] at hcmp
  simp only [reA] at hcmp
  have hlX:Op.bytesLess e.key k=decide (X < 0):=by rw [jh8,hX]
  refine wk9 [0,2,4,8,9,10,11,31] mx (by decide +kernel) ?_
  refine yd9 6 (by simp [hml,hmli,hk,reA,h8e,htk8,hld1,hld2,hid2];rfl) rfl ?_
  refine yv9 (by simp) (by first | (simp;done) | (simp;rfl)) hcmp (by simp;rfl) ?_
  refine yb9 (by simp;rfl) ?_
  by_cases hneg:X < 0
  ·have hle:Op.bytesLess e.key k=true:=by rw [hlX];simp [hneg]
   refine yt9 (t:=true) (by simp [hneg]) (fun h=>?_) (fun h=>by simp at h)
   refine zr9 [0,2,4,8,9,10] (by simp [w5];rfl) ?_
   refine ⟨_,by omega,m+1,j,rfl,by omega,hj,fun m2 e2 hm2 he2=>?_,hhi,by simp⟩
   by_cases h2:m2=m
   ·subst h2;rw [he] at he2;cases he2;exact hle
   ·exact vc9 (vm6 hp (by omega) he2 he) hle
  ·have hle : Op.bytesLess e.key k = false := by rw [hlX]; simp [hneg]
   refine yt9 (t:=false) (by simp [hneg]) (fun h=>by simp at h) (fun h=>?_)
   refine zr9 [0,2,4,8,9,10] (by simp;rfl) ?_
   refine ⟨_,by omega,i,m,rfl,by omega,by omega,hlo,fun m2 e2 hm2 he2=>?_,by simp⟩
   by_cases h2:m2=m
   ·subst h2;rw [he] at he2;cases he2;exact hle
   ·cases hb:Op.bytesLess e2.key k with
    | false=>rfl
    | true =>
     have:=vc9 (vm6 hp (show m < m2 by omega) he he2) hb
     rw [hle] at this
     cases this
 have hie:i=j:=by omega
 subst hie
 have hpos:posE l k=i:=posE_of (by omega) hlo hhi
 rw [hpos]
 refine yr9 [0,2,4,8,9,17] (by simp;rfl) ?_
 refine yt9 (t:=false) (by simp) (fun h=>by simp at h) (fun h=>?_)
 refine zs9 ?_
 by_cases c2:i < l.length
 ·have ci : (i : Int) < l.length := by omega
  obtain ⟨e,he⟩:∃ e,l[i]?=some e:=⟨_,List.getElem?_eq_getElem c2⟩
  have hge:l[i]'c2=e:=by rw [List.getElem?_eq_getElem c2] at he;exact Option.some.inj he
  have h8e:=h8 e (List.mem_of_getElem? he)
  have htk8:List.take 8 (byL k)=byL k:=List.take_of_length_le (by simp [hk])
  obtain ⟨hld1,hld2⟩:=hcs i e he
  have hcmp:=qr9 e k h8e hk
  obtain ⟨X,hX⟩:∃ X,Lib.compareBytes e.key k=X:=⟨_,rfl⟩
  rw [hX] at hcmp
  simp only [reA] at hcmp
  have hf:fndE l k=(X == 0):=by
   have h9:=eq_cmp e.key k
   rw [hX,decide_eq_decide] at h9
   unfold fndE
   rw [hpos,he,Bool.eq_iff_iff]
   simp [h9]
  refine wk9 [6,7] mx (by decide +kernel) ?_
  refine yd9 6 (by simp [c2,ci];rfl) rfl ?_
  refine yd9 5 (by simp [c2,ci,hk,reA,h8e,htk8,hld1,hld2,hid2];rfl) rfl ?_
  refine yv9 (by simp) (by first | (simp;done) | (simp;rfl)) hcmp (by simp;rfl) ?_
  refine yb9 (by simp;rfl) ?_
  refine yj9 ?_
  repeat (first | refine yp9 ?_ | refine ys9 ?_)
  simp [retW,hf]
  exact ⟨_,_,.inr ⟨rfl,rfl⟩,H.length,by omega,by simp,by simp [AV.under,AV.underL],by simpa using hh,rfl,by simp⟩
 ·have ci : ¬ (i : Int) < l.length := by omega
  have hf:fndE l k=false:=by
   unfold fndE
   rw [hpos,List.getElem?_eq_none (by omega)]
  refine wk9 [6,7] mx (by decide +kernel) ?_
  iterate 2 refine yd9 6 (by simp [c2,ci];rfl) rfl ?_
  refine yb9 (by simp;rfl) ?_
  refine yj9 ?_
  repeat (first | refine yp9 ?_ | refine ys9 ?_)
  simp [retW,hf]
  exact ⟨_,_,.inr ⟨rfl,rfl⟩,H.length,by omega,by simp,by simp [AV.under,AV.underL],by simpa using hh,rfl,by simp⟩
def yr7 (l:List RE) (s:List UInt8):Nat × Bool:=if symM s then (posE l (padK s),fndE l (padK s)) else (0,false)
theorem xk6 (l:List RE) (n:Nat) (s:List UInt8) (hs:s.length≤1000000000) (hp:l.Pairwise ltE) (h8:∀ e∈l,e.key.length=8) (hl:l.length≤1000000000):Sound Tryz.prog 31 [.agg [.lst .any 10 (reL l),.v (.int .i64 (n:Nat))],strB s] (.tup [.v (.int .i64 ((yr7 l s).1:Nat)),.v (.bool (yr7 l s).2)]):=by
 refine yc9 Tryz.func31 rfl (by decide +kernel) (by simp [Tryz.f31]) (by simp [AV.rfL,AV.rf,strB]) (by simp [AV.tlL,AV.tl,strB]) (rs:=[.tmp 4,.tmp 5]) rfl ?_
 rw [show Tryz.f31.ntmps=16 from rfl]
 have hv:=yb8 s (by omega)
 simp only [strB] at hv ⊢
 refine yr9 [1,2] (by simp;rfl) ?_
 refine yh9 ?_
 refine W_rK [1,2,8] ?_
 refine yq9 1 (by simp;rfl) rfl ?_
 refine yf9 (by simp) (by first | (simp;done) | (simp;rfl)) hv (by simp;rfl) ?_
 refine yw9 (by simp;rfl) ?_
 cases hy:symM s with
 | false =>
  refine yt9 rfl (fun h=>?_) (fun h=>by simp at h)
  refine yr9 [4,5] (by simp;rfl) ?_
  refine yj9 ?_
  repeat (first | refine yp9 ?_ | refine ys9 ?_)
  simp [retQ,yr7,hy]
 | true =>
  have hk:=wq8 s hy
  have hkl:=um9 (vp9 hy).2.2
  have hbs:=bs_sound l (padK s) hp h8 hkl hl
  rw [yr7,hy,if_pos rfl]
  obtain ⟨K,hK⟩:∃ K,padK s=K:=⟨_,rfl⟩
  simp only [strB,hK] at hk hbs ⊢
  refine yt9 rfl (fun h=>by simp at h) (fun h=>?_)
  refine yg9 ?_
  refine wk9 [4,5] mx (by decide +kernel) ?_
  refine yd9 3 (by simp;rfl) rfl ?_
  refine yv9 (by simp) (by first | (simp;done) | (simp;rfl)) hk (by simp;rfl) ?_
  refine yv9 (by simp) (by first | (simp;done) | (simp;rfl)) hbs (by simp;rfl) ?_
  refine yb9 (by simp;rfl) ?_
  refine yj9 ?_
  repeat (first | refine yp9 ?_ | refine ys9 ?_)
  simp [retQ]
theorem find_callW (l : List RE) (n : Nat) (s : List UInt8) (hs : s.length ≤ 1000000000) (hp : l.Pairwise ltE) (h8 : ∀ e ∈ l, e.key.length = 8) (hl : l.length ≤ 1000000000)
  (H:List AObj) (id cap:Nat) (cs:List AV) (hid:H[id]?=some (.cells 78 cs)) (hcs:CellsRE cs l) (hh:yn9 H.length H=true) :
  ww9 Tryz.prog 31 [.agg [.arr id 0 l.length cap,.v (.int .i64 (n:Nat))],strB s] H fun r h'=>r=.tup [.v (.int .i64 ((yr7 l s).1:Nat)),.v (.bool (yr7 l s).2)]∧h'=H:=by
 refine zd9 Tryz.func31 rfl (by decide +kernel) (by simp [Tryz.f31]) (rs:=[.tmp 4,.tmp 5]) rfl ?_
 rw [show Tryz.f31.ntmps=16 from rfl]
 have hid1:id < H.length:=(List.getElem?_eq_some_iff.1 hid).1
 have hv:=yb8 s (by omega)
 simp only [strB] at hv ⊢
 refine yr9 [1,2] (by simp;rfl) ?_
 refine yh9 ?_
 refine W_rK [1,2,8] ?_
 refine yq9 1 (by simp;rfl) rfl ?_
 refine yf9 (by simp) (by first | (simp;done) | (simp;rfl)) hv (by simp;rfl) ?_
 refine yw9 (by simp;rfl) ?_
 cases hy:symM s with
 | false =>
  refine yt9 rfl (fun h=>?_) (fun h=>by simp at h)
  refine yr9 [4,5] (by simp;rfl) ?_
  refine yj9 ?_
  repeat (first | refine yp9 ?_ | refine ys9 ?_)
  simp [retW,yr7,hy]
  exact ⟨_,_,.inr ⟨rfl,rfl⟩,H.length,by omega,by simp,by simp [AV.under,AV.underL],by simpa using hh,rfl,by simp⟩
 | true =>
  have hk:=wq8 s hy
  have hkl:=um9 (vp9 hy).2.2
  have hid2:(H++[AObj.cells 70 [.arr id 0 l.length cap,.v (.int .i64 (n:Nat))]])[id]?=some (.cells 78 cs):=by rw [List.getElem?_append_left hid1];exact hid
  have hbs:=bs_callW l (padK s) hp h8 hkl hl (H++[AObj.cells 70 [.arr id 0 l.length cap,.v (.int .i64 (n:Nat))]]) id cap cs hid2 hcs (by
   rw [zm9]
   simp [yn9,AObj.under,AV.under,AV.underL]
   exact ⟨xc9 (by omega) _ hh,by omega⟩)
  rw [yr7,hy,if_pos rfl]
  obtain ⟨K,hK⟩:∃ K,padK s=K:=⟨_,rfl⟩
  simp only [strB,hK] at hk hbs ⊢
  refine yt9 rfl (fun h=>by simp at h) (fun h=>?_)
  refine yg9 ?_
  refine W_rmK 4 5 [4,5] mx (by decide +kernel) ?_
  refine yd9 3 (by simp;rfl) rfl ?_
  refine yv9 (by simp) (by first | (simp;done) | (simp;rfl)) hk (by simp;rfl) ?_
  refine xs9 (f:=67) (args:=[.arr id 0 l.length cap,.agg (byL K),.fn (.func 69) [] []]) (by simp) (by simp [xj9,zc9]) (hbs.mono ?_)
  rintro r h' ⟨rfl,rfl⟩
  refine ⟨_,by simp;rfl,?_⟩
  refine yb9 (by simp;rfl) ?_
  refine yj9 ?_
  repeat (first | refine yp9 ?_ | refine ys9 ?_)
  simp [retW]
  exact ⟨_,_,.inr ⟨rfl,rfl⟩,H.length,by omega,by simp,by simp [AV.under,AV.underL],by simpa using hh,rfl,by simp⟩
theorem ud9 (l:List RE) (n:Nat) (hn:n≤1000000000):Sound Tryz.prog 38 [.agg [.lst .any 10 (reL l),.v (.int .i64 (n:Nat))]] (.v (.int .i64 ((n+5) / 6:Nat))):=by
 refine yc9 Tryz.func38 rfl (by decide +kernel) (by simp [Tryz.f38]) (by simp [AV.rfL,AV.rf]) (by simp [AV.tlL,AV.tl]) (rs:=[.tmp 2]) rfl ?_
 rw [show Tryz.f38.ntmps=8 from rfl]
 have w1:IntKind.i64.wrap ((n:Int)+6)=(n:Int)+6:=w64 (by omega) (by omega)
 have w2:IntKind.i64.wrap ((n:Int)+6 - 1)=((n+5:Nat):Int):=by rw [w64 (by omega) (by omega)];omega
 have w3:Int.tdiv ((n+5:Nat):Int) 6=(((n+5) / 6:Nat):Int):=by rw [Int.tdiv_eq_ediv_of_nonneg (by omega)];omega
 have w4:IntKind.i64.wrap (((n+5) / 6:Nat):Int)=(((n+5) / 6:Nat):Int):=w64 (by omega) (by omega)
 obtain ⟨m,hm⟩:∃ m,n+5=m:=⟨_,rfl⟩
 rw [hm] at w2 w3 w4 ⊢
 obtain ⟨q,hq⟩:∃ q,m / 6=q:=⟨_,rfl⟩
 rw [hq] at w3 w4 ⊢
 refine yr9 [1] (by simp;rfl) ?_
 refine yr9 [2] (by simp [w1,w2,w3,w4];rfl) ?_
 refine yj9 ?_
 repeat (first | refine yp9 ?_ | refine ys9 ?_)
 simp [retQ]
theorem tracks_callW (n:Nat) (hn:n≤1000000000) (H:List AObj) (hh:yn9 H.length H=true) (id len cap:Nat):ww9 Tryz.prog 38 [.agg [.arr id 0 len cap,.v (.int .i64 (n:Nat))]] H fun r h'=>r=.v (.int .i64 ((n+5) / 6:Nat))∧h'=H:=by
 refine zd9 Tryz.func38 rfl (by decide +kernel) (by simp [Tryz.f38]) (rs:=[.tmp 2]) rfl ?_
 rw [show Tryz.f38.ntmps=8 from rfl]
 have w1:IntKind.i64.wrap ((n:Int)+6)=(n:Int)+6:=w64 (by omega) (by omega)
 have w2:IntKind.i64.wrap ((n:Int)+6 - 1)=((n+5:Nat):Int):=by rw [w64 (by omega) (by omega)];omega
 have w3:Int.tdiv ((n+5:Nat):Int) 6=(((n+5) / 6:Nat):Int):=by rw [Int.tdiv_eq_ediv_of_nonneg (by omega)];omega
 have w4:IntKind.i64.wrap (((n+5) / 6:Nat):Int)=(((n+5) / 6:Nat):Int):=w64 (by omega) (by omega)
 obtain ⟨m,hm⟩:∃ m,n+5=m:=⟨_,rfl⟩
 rw [hm] at w2 w3 w4 ⊢
 obtain ⟨q,hq⟩:∃ q,m / 6=q:=⟨_,rfl⟩
 rw [hq] at w3 w4 ⊢
 refine yr9 [1] (by simp;rfl) ?_
 refine yr9 [2] (by simp [w1,w2,w3,w4];rfl) ?_
 refine yj9 ?_
 repeat (first | refine yp9 ?_ | refine ys9 ?_)
 simp [retW]
 exact ⟨_,_,.inr ⟨rfl,rfl⟩,H.length,by omega,by simp,by simp [AV.under,AV.underL],by simpa using hh,rfl,by simp⟩
def wp7 (d:Dcb):Bool:=(d.org == 2)&&(zn9 d == 0)
theorem zj6 (d:Dcb):Sound Tryz.prog 30 [dcbA d] (.v (.bool (wp7 d))):=by
 refine yc9 Tryz.func30 rfl (by decide +kernel) (by simp [Tryz.f30]) rfl rfl (rs:=[.tmp 2]) rfl ?_
 rw [show Tryz.f30.ntmps=11 from rfl]
 have hc:=kg8 d
 refine yr9 [1] (by simp;rfl) ?_
 by_cases h:d.org=2
 ·have h2:(d.org == 2)=true:=by simpa using h
  refine W_rK [2] ?_
  refine yq9 5 (by simp [h2];rfl) rfl ?_
  refine yf9 (by simp) (by first | (simp;done) | (simp;rfl)) hc (by simp;rfl) ?_
  refine yw9 (by simp;rfl) ?_
  refine yj9 ?_
  repeat (first | refine yp9 ?_ | refine ys9 ?_)
  simp [retQ,wp7,h2]
 ·have h2:(d.org == 2)=false:=by simpa using h
  refine yr9 [2] (by simp [h2];rfl) ?_
  refine yj9 ?_
  repeat (first | refine yp9 ?_ | refine ys9 ?_)
  simp [retQ,wp7,h2]
theorem rfine_sound (d:Dcb):Sound Tryz.prog 45 [dcbA d] (.v (.bool (wp7 d))):=by
 refine yc9 Tryz.func45 rfl (by decide +kernel) (by simp [Tryz.f45]) rfl rfl (rs:=[.tmp 2]) rfl ?_
 rw [show Tryz.f45.ntmps=10 from rfl]
 have hc:=qf8 d
 rw [wj7] at hc
 refine yr9 [1] (by simp;rfl) ?_
 by_cases h:zn9 d=0
 ·rw [decide_eq_true h] at hc
  refine W_rK [2] ?_
  refine yq9 1 (by simp;rfl) rfl ?_
  refine yf9 (by simp) (by first | (simp;done) | (simp;rfl)) hc (by simp;rfl) ?_
  refine yw9 (by simp;rfl) ?_
  refine yj9 ?_
  repeat (first | refine yp9 ?_ | refine ys9 ?_)
  simp [retQ,wp7,h]
 ·rw [decide_eq_false h] at hc
  refine W_rK [2] ?_
  refine yq9 1 (by simp;rfl) rfl ?_
  refine yf9 (by simp) (by first | (simp;done) | (simp;rfl)) hc (by simp;rfl) ?_
  refine yw9 (by simp;rfl) ?_
  refine yj9 ?_
  repeat (first | refine yp9 ?_ | refine ys9 ?_)
  simp [retQ,wp7,h]
set_option maxRecDepth 20000
theorem kn7 (a b:List UInt8):Sound Tryz.prog 102 [.lst .any 1 (byL a),.lst .any 1 (byL b)] (.v (.bool (decide (a=b)))):=by
 refine yc9 Tryz.func102 rfl (by decide +kernel) (by simp [Tryz.f102]) rfl rfl (rs:=[.tmp 4]) rfl ?_
 rw [show Tryz.f102.ntmps=10 from rfl]
 refine yr9 [0,1] (by simp;rfl) ?_
 refine yr9 [4] (by simp [strA];rfl) ?_
 refine yj9 ?_
 repeat (first | refine yp9 ?_ | refine ys9 ?_)
 simp [retQ]
 rw [Bool.eq_iff_iff];simp
end Go.AM
