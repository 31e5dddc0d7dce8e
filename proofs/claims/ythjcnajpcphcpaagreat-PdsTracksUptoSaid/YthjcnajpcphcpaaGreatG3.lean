/- Parts of the walk: R22PB R22PC R22R R22S R22U R22L R23A R23B. -/
import Derived.Test.YthjcnajpcphcpaaGreatG2
namespace Go.AM
open Go.RowKit Go.Proofs
set_option linter.unusedSimpArgs false
set_option linter.unusedVariables false
set_option maxHeartbeats 8000000
set_option maxRecDepth 20000
set_option maxRecDepth 20000
theorem wrap_small {n:Int} (h1:1≤n) (h2:n≤1024):IntKind.i64.wrap (n - 4)=n - 4:=w64 (by omega) (by omega)
theorem keys_eq (d:Dcb):jv8 d=(if d.org == 3 then (d.fmt == 1&&inM d.klen 1 64&&inM d.kpos 0 (IntKind.i64.wrap (d.lrecl - d.klen))) else (d.klen == 0&&d.kpos == 0)):=by
 unfold jv8 inM
 repeat' split
 all_goals first
  | (simp_all;done)
  | (simp_all;omega)
theorem lens_eq {d : Dcb} (h1 : 1 ≤ d.size) (h2 : d.size ≤ 1024) : wp9 d = (if d.fmt == 1 then (if inM d.lrecl 1 d.size = false then false else if d.size == d.lrecl then true else if d.blk then d.size.tmod d.lrecl == 0 else false)
 else if d.fmt == 2 then (if (9:Int)≤d.size then inM d.lrecl 5 (IntKind.i64.wrap (d.size - 4)) else false)
 else if d.fmt == 3 then (if (1:Int)≤d.size then if d.lrecl == 0 then !d.blk else false else false) else false):=by
 have w:=wrap_small h1 h2
 have s1:∀ n:Int,n.tmod n=0:=fun n=>Int.tmod_self
 unfold wp9 inM
 rw [w]
 repeat' split
 all_goals first
  | (simp_all;done)
  | (exfalso;simp_all;omega)
  | (simp_all;omega)
  | skip
theorem wj7 (d:Dcb):wl9 d=decide (zn9 d=0):=by
 unfold wl9 zn9
 rw [← keys_eq]
 by_cases a1:d.org < 1
 ·have:inM d.org 1 3=false:=by unfold inM;rw [if_neg (by omega)]
  simp [a1,this]
 by_cases a2:(3:Int) < d.org
 ·have:inM d.org 1 3=false:=by unfold inM;rw [if_pos (by omega)];simp;omega
  simp [a1,a2,this]
 have a3:inM d.org 1 3=true:=by unfold inM;rw [if_pos (by omega)];simp;omega
 by_cases b1:d.size < 1
 ·rw [if_neg (by rw [a3];simp),if_neg (by omega),if_neg a1,if_neg a2,if_pos b1]
  have e1:inM d.lrecl 1 d.size=false:=by unfold inM;split <;> simp;omega
  have e2:¬ (9:Int)≤d.size:=by omega
  have e3:¬ (1:Int)≤d.size:=by omega
  simp only [e1,if_true,if_neg e2,if_neg e3]
  simp
 by_cases b2:(1024:Int) < d.size
 ·simp [a1,a2,a3,b1,b2]
 have hl:=lens_eq (d:=d) (by omega) (by omega)
 rw [← hl]
 simp only [if_neg a1,if_neg a2,a3,if_neg b1,if_neg b2]
 cases jv8 d <;> cases wp9 d <;> simp
theorem wl7 {d:Dcb} (hc:zn9 d=0) (n:Int):xg7 d n=vv9 d n:=by
 unfold xg7 vv9 inM
 rw [wj7,hc]
 simp
def rgoB (d : Dcb) : List (List UInt8) → List (List UInt8) → List (List UInt8) → Option (List (List UInt8) × List (List UInt8))
 | [],O,g=>some (O,g)
 | r :: l,O,g=>if xg7 d r.length=false then none else
   if g≠[]∧(d.blk=false∨d.size < ((enc d (g++[r])).length:Nat)) then rgoB d l (O++[enc d g]) [r] else rgoB d l O (g++[r])
def rfinB (d : Dcb) : Option (List (List UInt8) × List (List UInt8)) → List (List UInt8) × Int
 | none=>([],220)
 | some p=>(if p.2=[] then p.1 else p.1++[enc d p.2],0)
def vt8 (d:Dcb) (l:List (List UInt8)):List (List UInt8) × Int :=
 if wl9 d=false then ([],5) else if 4096 < l.length then ([],2) else rfinB d (rgoB d l [] [])
theorem vn6 (d:Dcb):raw d []=[]:=rfl
theorem enc_snoc_len {d:Dcb} {g:List (List UInt8)} (h:g≠[]) (r:List UInt8):(enc d (g++[r])).length=(raw d g).length+lenM d r:=by
 rw [raw_len h]
 unfold enc
 rw [xt8]
 split
 ·simp [uj8];omega
 ·simp [uj8]
theorem vg6 {d : Dcb} (hc : zn9 d = 0) : ∀ (l O g : List (List UInt8)), (∀ r ∈ g, vv9 d r.length = true) → (rgoB d l O g).map (fun p => (p.1, raw d p.2)) = goB d l O (raw d g)
 | [],O,g,_=>rfl
 | r :: l,O,g,hg=>by
  rw [rgoB,goB,wl7 hc]
  cases hf:vv9 d r.length with
  | false=>simp
  | true =>
   simp only [Bool.true_eq_false,if_false]
   have hg2:∀ x∈g++[r],vv9 d x.length=true:=by
    intro x hx
    rcases List.mem_append.1 hx with h | h
    ·exact hg x h
    ·rw [List.mem_singleton.1 h];exact hf
   have h1:∀ x∈[r],vv9 d x.length=true:=by
    intro x hx
    rw [List.mem_singleton.1 hx];exact hf
   have hr1:qq8 d [] r++r=raw d [r]:=by
    have:=vr7 hc (g:=[]) r (by simp)
    simpa [vn6] using this
   by_cases hn:g=[]
   ·subst hn
    rw [if_neg (by simp),vn6]
    have:=vg6 hc l O ([]++[r]) hg2
    rw [this]
    simp only [List.nil_append]
    rw [← hr1]
    split
    ·simp [uw9]
    ·rfl
   ·have hfl:uw9 d O (raw d g)=O++[enc d g]:=by
     unfold uw9
     rw [if_neg (raw_ne hc hn hg),jn8 hn]
    have hfull:kt8 d (raw d g) r=true ↔ (d.blk=false∨d.size < ((enc d (g++[r])).length:Nat)):=by
     unfold kt8
     rw [enc_snoc_len hn]
     simp
    by_cases hq:kt8 d (raw d g) r=true
    ·rw [if_pos ⟨hn,hfull.1 hq⟩,if_pos hq,hfl,hr1]
     exact vg6 hc l _ [r] h1
    ·rw [if_neg (fun h=>hq (hfull.2 h.2)),if_neg hq,vr7 hc r hg]
     exact vg6 hc l O (g++[r]) hg2
theorem rblock_eq (d:Dcb) (l:List (List UInt8)):vt8 d l=zg9 d l:=by
 unfold vt8 zg9
 rw [wj7]
 by_cases hc:zn9 d=0
 ·rw [if_neg (by simp [hc]), if_pos hc]
  split
  ·rfl
  ·have h := vg6 hc l [] [] (by simp)
   rw [vn6] at h
   rw [← h]
   cases hq:rgoB d l [] [] with
   | none=>rfl
   | some p =>
    obtain ⟨O,g⟩:=p
    simp only [Option.map_some,rfinB,finB]
    by_cases hn:g=[]
    ·subst hn;simp [uw9,vn6]
    ·rw [if_neg hn]
     have hg:∀ r∈g,vv9 d r.length=true:=by
      have:∀ (l O g:List (List UInt8)) (p:List (List UInt8) × List (List UInt8)),(∀ r∈g,vv9 d r.length=true)→rgoB d l O g=some p→∀ r∈p.2,vv9 d r.length=true:=by
       intro l
       induction l with
       | nil=>intro O g p hg h;rw [rgoB] at h;cases h;exact hg
       | cons r l ih =>
        intro O g p hg h
        rw [rgoB,wl7 hc] at h
        cases hf:vv9 d r.length with
        | false=>rw [hf] at h;simp at h
        | true =>
         rw [hf,if_neg (by simp)] at h
         split at h
         ·refine ih _ _ p ?_ h
          intro x hx
          rw [List.mem_singleton.1 hx];exact hf
         ·refine ih _ _ p ?_ h
          intro x hx
          rcases List.mem_append.1 hx with h | h
          ·exact hg x h
          ·rw [List.mem_singleton.1 h];exact hf
      exact this l [] [] (O,g) (by simp) hq
     unfold uw9
     rw [if_neg (raw_ne hc hn hg),jn8 hn]
 ·have:zn9 d=5:=by
   unfold zn9 at hc ⊢
   repeat' split
   all_goals first
    | rfl
    | (exfalso;simp_all)
  rw [if_pos (by simp [hc]),if_neg hc,this]
set_option maxRecDepth 20000
theorem qb8 (n:Nat) (hn:n≤9223372036854775807):Sound Tryz.prog 121 [.v (.int .i64 n)] (.lst (.tip 5 1) 1 (byL (desc n))):=by
 refine xw9 Tryz.func121 rfl (by decide +kernel) (by simp [Tryz.f121]) rfl rfl (rs:=[.tmp 2]) rfl ?_
 rw [show Tryz.f121.ntmps=10 from rfl]
 have q:((n:Int).tdiv 256)=((n / 256:Nat):Int):=by rw [Int.tdiv_eq_ediv_of_nonneg (by omega)];rfl
 have t:((n:Int).tmod 256)=((n % 256:Nat):Int):=by rw [Int.tmod_eq_emod_of_nonneg (by omega)];omega
 have w1:IntKind.i64.wrap ((n / 256:Nat):Int)=((n / 256:Nat):Int):=w64 (by omega) (by omega)
 have h3:=u8w (n / 256)
 have h4:=u8w (n % 256)
 have hm:UInt8.ofNat (n % 256)=UInt8.ofNat n:=by
  apply UInt8.toNat_inj.1
  simp [UInt8.toNat_ofNat']
 rw [hm] at h4
 refine yr9 [0] (by simp;rfl) ?_
 refine W_rK [2] ?_
 refine yq9 3 (by simp [q,w1,h3,-Int.natCast_ediv];rfl) rfl ?_
 refine yq9 3 (by simp [t,h4,-Int.natCast_emod];rfl) rfl ?_
 refine yw9 (by simp;rfl) ?_
 refine yj9 ?_
 repeat (first | refine yp9 ?_ | refine ys9 ?_)
 exact ⟨_,by simp [retQ];exact ⟨rfl,by simp⟩,.norm fun T=>by simp [desc,byL]⟩
theorem enc_eq (d:Dcb) (l:List (List UInt8)):enc d l=if d.fmt == 2 then desc ((body d l).length+4)++body d l else body d l:=rfl
theorem bytes_sound (d:Dcb) (l:List (List UInt8)) (hl:l.length≤1100000) (hr:∀ r∈l,r≠[]∧r.length≤1000000):Sound Tryz.prog 87 [dcbA d,.lst .any 1 (bbL l)] (.lst (.tip 5 1) 1 (byL (enc d l))):=by
 refine xw9 Tryz.func87 rfl (by decide +kernel) (by simp [Tryz.f87]) rfl rfl (rs:=[.tmp 4]) rfl ?_
 rw [show Tryz.f87.ntmps=41 from rfl]
 refine yr9 [1,2] (by simp;rfl) ?_
 refine yr9 [1,2,5] (by simp;rfl) ?_
 refine yh9 ?_
 refine yr9 [1,2,5,6] (by simp;rfl) ?_
 refine yl9 ?_
 refine zj9 (fun k s => ∃ (i : Nat) (x : AV) (T : Nat), k = l.length - i ∧ i ≤ l.length ∧ (body d (l.take i)).length ≤ i * 1000010 ∧ T % 2 = 1 ∧ ((i = 0 ∧ x = .lst .nil 1 []) ∨ x = .lst (.tip 5 T) 1 (byL (body d (l.take i)))) ∧
  s=⟨41,[(1,.lst .any 1 (bbL l)),(2,.loc 0 0),(5,x),(6,.v (.int .i64 i))],[.cells 23 (dcbC d)]⟩) (k:=l.length) ⟨0,_,1,rfl,by omega,by simp [body],rfl,.inl ⟨rfl,rfl⟩,by simp [dcbC]⟩ ?_
 rintro k s ⟨i,x,T,rfl,hi,hbl,hT,hx,rfl⟩
 refine yh9 ?_
 by_cases c:i < l.length
 ·have ci : (i : Int) < l.length := by omega
  obtain ⟨t,hti⟩:∃ t,l[i]?=some t:=⟨_,List.getElem?_eq_getElem c⟩
  have ht2:l[i]'c=t:=by rw [List.getElem?_eq_getElem c] at hti;exact Option.some.inj hti
  obtain ⟨hne,htl⟩:=hr t (List.mem_of_getElem? hti)
  have wi:=w64 (n:=(i:Int)+1) (by omega) (by omega)
  have htk:l.take (i+1)=l.take i++[t]:=by rw [List.take_add_one,hti];rfl
  have hbs:body d (l.take (i+1))=body d (l.take i)++item d t:=by rw [htk,xt8]
  have hil:=uj8 d t
  have hlm:lenM d t≤t.length+4:=by unfold lenM;split <;> omega
  have hmul:(i+1) * 1000010=i * 1000010+1000010:=by omega
  have hbl2:(body d (l.take (i+1))).length≤(i+1) * 1000010:=by rw [hbs,List.length_append];omega
  obtain ⟨B,hB⟩:∃ B,body d (l.take i)=B:=⟨_,rfl⟩
  rw [hB] at hx hbs hbl
  refine W_cT [1,2,5,6,10] (by simp [c];rfl) rfl ?_
  refine yg9 ?_
  refine yh9 ?_
  refine yl9 ?_
  refine yh9 ?_
  have w4:IntKind.i64.wrap ((t.length:Int)+4)=((t.length+4:Nat):Int):=by rw [w64 (by omega) (by omega)];omega
  have b0:t.length≤140737488355328:=by omega
  rcases Bool.eq_false_or_eq_true (d.fmt == 2) with h2 | h2
  ·have hit : item d t = desc (t.length + 4) ++ t := by unfold item; rw [if_pos h2]
   rw [hit] at hbs
   refine W_cT [1,2,5,6,15] (by simp [dcbC,h2];rfl) rfl ?_
   refine W_rE [1,2,5,6] ?_
   refine yq9 7 (by simp [c,ci,ht2,w4,-Int.natCast_add];rfl) rfl ?_
   refine yf9 (by simp) (by first | (simp;done) | (simp;rfl)) (qb8 (t.length+4) (by omega)) (by simp;rfl) ?_
   rcases hx with ⟨h0,rfl⟩ | rfl
   ·subst h0
    have hB0:B=[]:=by rw [← hB];rfl
    subst hB0
    have b1:4+t.length≤140737488355328:=by omega
    refine yw9 (by simp;rfl) ?_
    refine zr9 [1,2,5,6] (by simp only [keepS_mk];simp [c,ci,ht2,b0,b1];rfl) ?_
    refine zr9 [1,2,5,6] (by simp;rfl) ?_
    exact ⟨_,by omega,1,_,49,rfl,by omega,hbl2,rfl,.inr rfl,by rw [hbs];simp [xp9,dcbC,show IntKind.i64.wrap 1=1 from rfl]⟩
   ·have b1:B.length+4≤140737488355328:=by omega
    have b2:B.length+4+t.length≤140737488355328:=by omega
    refine yw9 (by simp [b1];rfl) ?_
    refine zr9 [1,2,5,6] (by simp only [keepS_mk];simp [c,ci,ht2,b0,b2];rfl) ?_
    refine zr9 [1,2,5,6] (by simp [wi];rfl) ?_
    exact ⟨_,by omega,i+1,_,T,rfl,by omega,hbl2,hT,.inr rfl,by rw [hbs];simp [xp9,dcbC,hT]⟩
  ·have hit : item d t = t := by unfold item; rw [h2]; rfl
   rw [hit] at hbs
   refine W_cF [1,2,5,6,15] (by simp [dcbC,h2];rfl) rfl ?_
   refine yg9 ?_
   rcases hx with ⟨h0,rfl⟩ | rfl
   ·subst h0
    have hB0:B=[]:=by rw [← hB];rfl
    subst hB0
    refine zr9 [1,2,5,6] (by simp [c,ci,ht2,b0];rfl) ?_
    refine zr9 [1,2,5,6] (by simp;rfl) ?_
    exact ⟨_,by omega,1,_,61,rfl,by omega,hbl2,rfl,.inr rfl,by rw [hbs];simp [dcbC,show IntKind.i64.wrap 1=1 from rfl]⟩
   ·have b2:B.length+t.length≤140737488355328:=by omega
    refine zr9 [1,2,5,6] (by simp [c,ci,ht2,b0,b2];rfl) ?_
    refine zr9 [1,2,5,6] (by simp [wi];rfl) ?_
    exact ⟨_,by omega,i+1,_,T,rfl,by omega,hbl2,hT,.inr rfl,by rw [hbs];simp [xp9,dcbC,hT]⟩
 have hie:i=l.length:=by omega
 subst hie
 rw [List.take_length] at hx hbl
 refine W_cF [1,2,5,6,10] (by simp;rfl) rfl ?_
 refine zs9 ?_
 refine yh9 ?_
 obtain ⟨B,hB⟩:∃ B,body d l=B:=⟨_,rfl⟩
 have hE:=enc_eq d l
 rw [hB] at hx hbl hE
 rw [hE]
 have w4:IntKind.i64.wrap ((B.length:Int)+4)=((B.length+4:Nat):Int):=by rw [w64 (by omega) (by omega)];omega
 rcases Bool.eq_false_or_eq_true (d.fmt == 2) with h2 | h2
 ·rw [if_pos h2]
  refine W_cT [5,33] (by simp [dcbC,h2];rfl) rfl ?_
  refine W_rK [4] ?_
  have b1:4+B.length≤140737488355328:=by omega
  rcases hx with ⟨h0,rfl⟩ | rfl
  ·have hB0:B=[]:=by rw [← hB,List.eq_nil_of_length_eq_zero h0];rfl
   subst hB0
   refine yq9 3 (by simp [show IntKind.i64.wrap 4=4 from rfl];rfl) rfl ?_
   refine yf9 (by simp) (by first | (simp;done) | (simp;rfl)) (qb8 4 (by omega)) (by simp;rfl) ?_
   refine yw9 (by simp;rfl) ?_
   refine yj9 ?_
   repeat (first | refine yp9 ?_ | refine ys9 ?_)
   exact ⟨_,by simp [retQ];exact ⟨rfl,by simp⟩,.norm fun T=>by simp⟩
  ·refine yq9 3 (by simp [w4,-Int.natCast_add];rfl) rfl ?_
   refine yf9 (by simp) (by first | (simp;done) | (simp;rfl)) (qb8 (B.length+4) (by omega)) (by simp;rfl) ?_
   refine yw9 (by simp [b1];rfl) ?_
   refine yj9 ?_
   repeat (first | refine yp9 ?_ | refine ys9 ?_)
   exact ⟨_,by simp [retQ];exact ⟨rfl,by simp⟩,.norm fun T=>by simp [xp9]⟩
 ·rw [if_neg (by rw [h2]; simp)]
  refine W_cF [5,33] (by simp [dcbC,h2];rfl) rfl ?_
  refine yg9 ?_
  refine yr9 [4] (by simp;rfl) ?_
  refine yj9 ?_
  repeat (first | refine yp9 ?_ | refine ys9 ?_)
  rcases hx with ⟨h0,rfl⟩ | rfl
  ·have hB0:B=[]:=by rw [← hB,List.eq_nil_of_length_eq_zero h0];rfl
   subst hB0
   exact ⟨.lst .nil 1 [],by simp [retQ],.nil (by decide +kernel)⟩
  ·exact ⟨_,by simp [retQ];exact ⟨rfl,by simp⟩,.norm fun T=>by simp⟩
set_option maxRecDepth 20000
def outR (T:Nat) (x:AV) (O:List (List UInt8)):Prop:=(O=[]∧x=.lst .nil 1 [])∨x=.lst (.tip 90 T) 1 (bbL O)
set_option maxRecDepth 20000
theorem retB {O:List (List UInt8)} {e:Int} {x:AV} {T n:Nat} {cs:List AV} (h:outR T x O):retU Tryz.prog [.tmp 4,.tmp 5] (resB (O,e)) .ret ⟨n,[(4,x),(5,.v (.int .i64 e))],[.cells 23 cs]⟩:=by
 rcases h with ⟨rfl,rfl⟩ | rfl
 ·exact ⟨.tup [.lst .nil 1 [],.v (.int .i64 e)],by simp [retQ],.tup2 (.nil (by decide +kernel)) (.refl _)⟩
 ·exact ⟨_,by simp [retQ];exact ⟨rfl,by simp⟩,.norm fun T=>by simp [resB]⟩
theorem xp7 {top:Bool} {kf:Nat} {P:Program} {code:Code} {Q:Exit→St→Prop} {s:St} (i:Nat) {o:Fl} {sz:Nat} {xs:List AV} (hg:getF s.fr i=some (.lst o sz xs)) (h:Wt top kf P code Q ⟨s.n,putF s.fr i (.lst .any sz xs),s.h⟩):Wt top kf P code Q s:=by
 refine W_conv (fun c w a hs=>?_) h
 obtain ⟨u,hu,hr,_⟩:=hs.fr i _ hg
 exact us8 hs i hu (hr.lst_flag fun _=>trivial) (.none rfl)
theorem bbL_snoc (g:List (List UInt8)) (r:List UInt8):bbL g++[AV.lst Fl.any 1 (byL r)]=bbL (g++[r]):=by simp [uv9,wh9]
theorem outR_kill {T U:Nat} (hTU:T≠U) {x:AV} {O:List (List UInt8)} (h:outR T x O):x.kill U=x:=by
 rcases h with ⟨_,rfl⟩ | rfl
 ·rfl
 ·simp [AV.kill,hTU]
def rcond (d:Dcb) (g:List (List UInt8)) (r:List UInt8):Bool:=decide (g≠[]∧(d.blk=false∨d.size < ((enc d (g++[r])).length:Nat)))
theorem rblock_sound (d:Dcb) (l:List (List UInt8)) (hl:l.length≤1100000) (hr:∀ r∈l,r.length≤1000000000):Sound Tryz.prog 48 [dcbA d,.lst .any 1 (bbL l)] (resB (zg9 d l)):=by
 rw [← rblock_eq]
 refine xw9 Tryz.func48 rfl (by decide +kernel) (by simp [Tryz.f48]) rfl rfl (rs:=[.tmp 4,.tmp 5]) rfl ?_
 rw [show Tryz.f48.ntmps=78 from rfl]
 have hv:=qf8 d
 refine yr9 [1,2] (by simp;rfl) ?_
 refine yh9 ?_
 cases hval:wl9 d with
 | false =>
  rw [hval] at hv
  refine W_rK [1,2,12] ?_
  refine yq9 1 (by simp;rfl) rfl ?_
  refine yf9 (by simp) (by first | (simp;done) | (simp;rfl)) hv (by simp;rfl) ?_
  refine yw9 (by simp;rfl) ?_
  refine yt9 rfl (fun h=>?_) (fun h=>by simp at h)
  refine yr9 [4,5] (by simp;rfl) ?_
  refine yj9 ?_
  repeat (first | refine yp9 ?_ | refine ys9 ?_)
  have e:vt8 d l=([],5):=by unfold vt8;rw [if_pos hval]
  rw [e]
  exact retB (T:=1) (.inl ⟨rfl,rfl⟩)
 | true =>
 rw [hval] at hv
 have hc:zn9 d=0:=by rw [wj7] at hval;simpa using hval
 refine W_rK [1,2,12] ?_
 refine yq9 1 (by simp;rfl) rfl ?_
 refine yf9 (by simp) (by first | (simp;done) | (simp;rfl)) hv (by simp;rfl) ?_
 refine yw9 (by simp;rfl) ?_
 refine yt9 rfl (fun h=>by simp at h) (fun h=>?_)
 refine yg9 ?_
 refine yh9 ?_
 by_cases z:4096 < l.length
 ·have zi:(4096:Int) < l.length:=by omega
  refine W_cT [1,2,15] (by simp [z,zi];rfl) rfl ?_
  refine yr9 [4,5] (by simp;rfl) ?_
  refine yj9 ?_
  repeat (first | refine yp9 ?_ | refine ys9 ?_)
  have e:vt8 d l=([],2):=by unfold vt8;rw [if_neg (by simp [hval]),if_pos z]
  rw [e]
  exact retB (T:=1) (.inl ⟨rfl,rfl⟩)
 have zi:¬ (4096:Int) < l.length:=by omega
 have hbm:vt8 d l=rfinB d (rgoB d l [] []):=by unfold vt8;rw [if_neg (by simp [hval]),if_neg z]
 rw [hbm]
 refine W_cF [1,2,15] (by simp [z,zi];rfl) rfl ?_
 refine yg9 ?_
 refine yr9 [1,2,6] (by simp;rfl) ?_
 refine yr9 [1,2,6,7] (by simp;rfl) ?_
 refine xp7 7 rfl ?_
 refine yh9 ?_
 refine yr9 [1,2,6,7,8] (by simp [putF];rfl) ?_
 refine yl9 ?_
 refine zj9 (fun k s => ∃ (i : Nat) (O g : List (List UInt8)) (x : AV), k = l.length - i ∧ i ≤ l.length ∧ rgoB d l [] [] = rgoB d (l.drop i) O g ∧ O.length ≤ i ∧ g.length ≤ i ∧ (∀ r ∈ g, vv9 d r.length = true) ∧ outR 123 x O ∧
   s=⟨78,[(1,.lst .any 1 (bbL l)),(2,.loc 0 0),(6,x),(7,.lst .any 1 (bbL g)),(8,.v (.int .i64 i))],[.cells 23 (dcbC d)]⟩) (k:=l.length) ⟨0,[],[],_,rfl,by omega,rfl,by simp,by simp,by simp,.inl ⟨rfl,rfl⟩,by simp [dcbC]⟩ ?_
 rintro k s ⟨i,O,g,x,rfl,hi,hgo,hOl,hgl,hgf,hx,rfl⟩
 have hxk:=outR_kill (U:=63) (by decide) hx
 have hbytes:∀ g':List (List UInt8),g'.length≤1100000→(∀ r∈g',vv9 d r.length=true)→Sound Tryz.prog 87 [dcbA d,.lst .any 1 (bbL g')] (.lst (.tip 5 1) 1 (byL (enc d g'))):=by
  intro g' h1 h2
  refine bytes_sound d g' h1 fun r hr=>?_
  have:=jf9 hc (h2 r hr)
  exact ⟨by intro e;rw [e] at this;simp at this,by omega⟩
 refine yh9 ?_
 by_cases c:i < l.length
 rotate_left
 ·refine W_cF [1, 2, 6, 7, 8, 19] (by simp [c]; rfl) rfl ?_
  refine zs9 ?_
  refine yh9 ?_
  have hie:i=l.length:=by omega
  subst hie
  rw [List.drop_length,rgoB] at hgo
  rw [hgo,rfinB]
  simp only
  by_cases q:g=[]
  ·subst q
   rw [if_pos rfl]
   refine W_cF [2,6,7,70] (by simp;rfl) rfl ?_
   refine yg9 ?_
   refine yr9 [4,5] (by simp;rfl) ?_
   refine yj9 ?_
   repeat (first | refine yp9 ?_ | refine ys9 ?_)
   exact retB hx
  ·rw [if_neg q]
   have qp:0 < g.length:=List.length_pos_iff.2 q
   have qi:(0:Int) < g.length:=by omega
   refine W_cT [2,6,7,70] (by simp [qp,qi,q];rfl) rfl ?_
   refine W_rE [6] ?_
   refine yq9 3 (by simp [dcbC];rfl) rfl ?_
   refine yf9 (by simp) (by first | (simp;done) | (simp;rfl)) (hbytes g (by omega) hgf) (by simp;rfl) ?_
   have b1:(O.length+1) * 24≤140737488355328:=by omega
   rcases hx with ⟨h0,rfl⟩ | rfl
   ·subst h0
    refine yw9 (by simp [catK,AV.cellsK,AV.kone,AV.koneL];rfl) ?_
    refine yr9 [4,5] (by simp;rfl) ?_
    refine yj9 ?_
    repeat (first | refine yp9 ?_ | refine ys9 ?_)
    exact retB (.inr (by simp [wh9];rfl))
   ·refine yw9 (by simp [catK,AV.cellsK,AV.kone,AV.koneL,b1];rfl) ?_
    refine yr9 [4,5] (by simp;rfl) ?_
    refine yj9 ?_
    repeat (first | refine yp9 ?_ | refine ys9 ?_)
    exact retB (.inr (by simp [uv9,wh9];rfl))
 have ci:(i:Int) < l.length:=by omega
 obtain ⟨r,hri⟩:∃ r,l[i]?=some r:=⟨_,List.getElem?_eq_getElem c⟩
 have hr2:l[i]'c=r:=by rw [List.getElem?_eq_getElem c] at hri;exact Option.some.inj hri
 have hrl:=hr r (List.mem_of_getElem? hri)
 rw [List.drop_eq_getElem_cons c,hr2,rgoB,wl7 hc] at hgo
 have wi:=w64 (n:=(i:Int)+1) (by omega) (by omega)
 have hfs:=rfits_sound d r
 rw [wl7 hc] at hfs
 refine W_cT [1,2,6,7,8,19] (by simp [c];rfl) rfl ?_
 refine yg9 ?_
 refine yh9 ?_
 refine yl9 ?_
 refine yh9 ?_
 cases hf:vv9 d r.length with
 | false =>
  rw [hf] at hfs
  rw [hf,if_pos rfl] at hgo
  refine wk9 [1,2,6,7,8,28] mx (by decide +kernel) ?_
  refine yd9 5 (by simp [c,ci,hr2,dcbC];rfl) rfl ?_
  refine yv9 (by simp) (by first | (simp;done) | (simp;rfl)) hfs (by simp;rfl) ?_
  refine yb9 (by simp;rfl) ?_
  refine yt9 rfl (fun h=>?_) (fun h=>by simp at h)
  refine yr9 [4,5] (by simp;rfl) ?_
  refine yj9 ?_
  repeat (first | refine yp9 ?_ | refine ys9 ?_)
  rw [hgo]
  exact retB (T:=1) (.inl ⟨rfl,rfl⟩)
 | true =>
 rw [hf] at hfs
 rw [hf,if_neg (by simp)] at hgo
 have hff:=jf9 hc hf
 have hgf2:∀ x∈g++[r],vv9 d x.length=true:=by
  intro x hx
  rcases List.mem_append.1 hx with h | h
  ·exact hgf x h
  ·rw [List.mem_singleton.1 h];exact hf
 have hb2:=hbytes (g++[r]) (by simp;omega) hgf2
 refine wk9 [1,2,6,7,8,28] mx (by decide +kernel) ?_
 refine yd9 5 (by simp [c,ci,hr2,dcbC];rfl) rfl ?_
 refine yv9 (by simp) (by first | (simp;done) | (simp;rfl)) hfs (by simp;rfl) ?_
 refine yb9 (by simp;rfl) ?_
 refine yt9 rfl (fun h=>by simp at h) (fun h=>?_)
 refine yg9 ?_
 have b0:g.length * 24≤140737488355328:=by omega
 have b1:(g.length+1) * 24≤140737488355328:=by omega
 have b2:24 * (g.length+1)≤140737488355328:=by omega
 refine yr9 [1,2,6,7,8,9] (by simp;rfl) ?_
 refine yr9 [1,2,6,7,8,9] (by simp [b0];rfl) ?_
 refine yr9 [1,2,6,7,8,9] (by simp [c,ci,hr2,catK,AV.cellsK,AV.kone,AV.koneL,b1,b2,bbL_snoc,hxk];rfl) ?_
 refine xp7 9 rfl ?_
 refine yh9 ?_
 refine vs9 (fun s=>s=⟨78,[(1,.lst .any 1 (bbL l)),(2,.loc 0 0),(6,x),(7,.lst .any 1 (bbL g)),(8,.v (.int .i64 i)),(9,.lst .any 1 (bbL (g++[r]))),(55,.v (.bool (rcond d g r)))],[.cells 23 (dcbC d)]⟩) ?_ ?_
 ·by_cases q : g = []
  ·subst q
   have hB:rcond d [] r=false:=by simp [rcond]
   rw [hB]
   refine qh9 [1,2,6,7,8,9,55] mx (by decide +kernel) ?_
   refine yd9 6 (by simp [putF];rfl) rfl ?_
   refine yd9 6 (by simp;rfl) rfl ?_
   refine yb9 (by simp;rfl) ?_
   simp [zw9,dcbC]
  have qp:0 < g.length:=List.length_pos_iff.2 q
  have qi:(0:Int) < g.length:=by omega
  rcases Bool.eq_false_or_eq_true d.blk with hk | hk
  ·have hb3:=hb2
   simp only [dcbA,hk] at hb3
   refine qh9 [1,2,6,7,8,9,55] mx (by decide +kernel) ?_
   refine yd9 6 (by simp [putF,qp,qi,q,dcbC,hk];rfl) rfl ?_
   refine yd9 4 (by simp [putF,hk];rfl) rfl ?_
   refine yv9 (by simp) (by first | (simp;done) | (simp;rfl)) hb3 (by simp;rfl) ?_
   refine yb9 (by simp;rfl) ?_
   have hB:rcond d g r=decide (d.size < ((enc d (g++[r])).length:Nat)):=by simp [rcond,q,hk]
   rw [hB]
   simp [zw9,dcbC,hk]
  ·have hB:rcond d g r=true:=by simp [rcond,q,hk]
   rw [hB]
   refine qh9 [1,2,6,7,8,9,55] mx (by decide +kernel) ?_
   refine yd9 6 (by simp [putF,qp,qi,q,dcbC,hk];rfl) rfl ?_
   refine yd9 6 (by simp [putF,hk];rfl) rfl ?_
   refine yb9 (by simp;rfl) ?_
   simp [zw9,dcbC,hk]
 rintro _ rfl
 by_cases hq:g≠[]∧(d.blk=false∨d.size < ((enc d (g++[r])).length:Nat))
 ·have hB : rcond d g r = true := by unfold rcond; exact decide_eq_true hq
  rw [hB]
  rw [if_pos hq] at hgo
  refine yt9 rfl (fun h=>?_) (fun h=>by simp at h)
  refine W_rK [1,2,6,8] ?_
  refine yq9 3 (by simp [dcbC];rfl) rfl ?_
  refine yf9 (by simp) (by first | (simp;done) | (simp;rfl)) (hbytes g (by omega) hgf) (by simp;rfl) ?_
  have d1:(O.length+1) * 24≤140737488355328:=by omega
  have d2:24 * (O.length+1)≤140737488355328:=by omega
  rcases hx with ⟨h0,rfl⟩ | rfl
  ·subst h0
   refine yw9 (by simp [catK,AV.cellsK,AV.kone,AV.koneL];rfl) ?_
   refine zr9 [1,2,6,8,9] (by simp [c,ci,hr2,catK,AV.cellsK,AV.kone,AV.koneL];rfl) ?_
   refine zr9 [1,2,6,8,7] (by simp;rfl) ?_
   refine W_at (n:=78) (l:=[(1,.lst .any 1 (bbL l)),(2,.loc 0 0),(6,.lst (.tip 90 123) 1 (bbL [enc d g])),(7,.lst (.tip 90 266) 1 (bbL [r])),(8,.v (.int .i64 i))]) (H:=[.cells 23 (dcbC d)]) (by simp [AtS,FrOk,getF,dcbC,wh9]) ?_
   refine xp7 7 rfl ?_
   refine zr9 [1,2,6,7,8] (by simp [putF,wi];rfl) ?_
   exact ⟨_,by omega,i+1,[enc d g],[r],_,rfl,by omega,hgo,by simp,by simp,fun x hx=>by rw [List.mem_singleton.1 hx];exact hf,.inr rfl,by simp [dcbC,wh9]⟩
  ·refine yw9 (by simp [catK,AV.cellsK,AV.kone,AV.koneL,d1,d2];rfl) ?_
   refine zr9 [1,2,6,8,9] (by simp [c,ci,hr2,catK,AV.cellsK,AV.kone,AV.koneL];rfl) ?_
   refine zr9 [1,2,6,8,7] (by simp;rfl) ?_
   refine W_at (n:=78) (l:=[(1,.lst .any 1 (bbL l)),(2,.loc 0 0),(6,.lst (.tip 90 123) 1 (bbL (O++[enc d g]))),(7,.lst (.tip 90 266) 1 (bbL [r])),(8,.v (.int .i64 i))]) (H:=[.cells 23 (dcbC d)]) (by simp [AtS,FrOk,getF,dcbC,uv9,wh9]) ?_
   refine xp7 7 rfl ?_
   refine zr9 [1,2,6,7,8] (by simp [putF,wi];rfl) ?_
   exact ⟨_,by omega,i+1,O++[enc d g],[r],_,rfl,by omega,hgo,by simp;omega,by simp,fun x hx=>by rw [List.mem_singleton.1 hx];exact hf,.inr rfl,by simp [dcbC,wh9]⟩
 ·have hB:rcond d g r=false:=by unfold rcond;exact decide_eq_false hq
  rw [hB]
  rw [if_neg hq] at hgo
  refine yt9 rfl (fun h=>by simp at h) (fun h=>?_)
  refine yg9 ?_
  refine zr9 [1,2,6,7,8] (by simp;rfl) ?_
  refine zr9 [1,2,6,7,8] (by simp [wi];rfl) ?_
  exact ⟨_,by omega,i+1,O,g++[r],x,rfl,by omega,hgo,by omega,by simp;omega,hgf2,hx,by simp⟩
set_option maxRecDepth 20000
@[simp] theorem bytesA_byL (l:List UInt8):vk8 (byL l)=some l:=by
 induction l with
 | nil=>rfl
 | cons b l ih=>rw [xd9];simp [vk8,ih]
theorem ne_nat (n m:Nat):((n:Int) != (m:Int))=!decide (n=m):=by
 rw [Bool.eq_iff_iff];simp;omega
theorem vg9 {α:Type} {a b:List α} {i:Nat} {x:α} (ha:a[i]?=some x) (hb:b[i]?=some x) (h:a.take i=b.take i):a.take (i+1)=b.take (i+1):=by
 rw [List.take_add_one,List.take_add_one,ha,hb,h]
set_option maxRecDepth 20000
structure Rec where
 R:Int
 key:List UInt8
 data:List UInt8
 bad:Bool
 deriving DecidableEq
@[simp] def recA (r:Rec):AV:=.agg [.v (.int .i64 r.R),.lst .any 1 (byL r.key),.lst .any 1 (byL r.data),.v (.bool r.bad)]
def trL (t:List Rec):List AV:=t.map recA
@[simp] theorem trL_length (L:List Rec):(trL L).length=L.length:=by simp [trL]
@[simp] theorem trL_nil:trL []=[]:=rfl
theorem xh8 (b:Rec) (L:List Rec):trL (b :: L)=recA b :: trL L:=rfl
theorem zq7 (L M:List Rec):trL (L++M)=trL L++trL M:=by simp [trL]
theorem trL_drop (L:List Rec) (n:Nat):trL (L.drop n)=(trL L).drop n:=by simp [trL]
theorem trL_get (L:List Rec) (i:Nat):(trL L)[i]?=(L[i]?).map recA:=by simp [trL]
@[simp] theorem trL_getElem (L:List Rec) (i:Nat) (h:i < (trL L).length):(trL L)[i]=recA (L[i]'(by simpa using h)):=by simp [trL]
@[simp] theorem dpL_trL (L:List Rec):AV.dpL (trL L)=trL L:=by induction L <;> simp_all [trL,AV.dpL,AV.dp]
def arL (a:List (List Rec)):List AV:=a.map fun t=>.lst .any 4 (trL t)
@[simp] theorem wt6 (L:List (List Rec)):(arL L).length=L.length:=by simp [arL]
@[simp] theorem arL_nil:arL []=[]:=rfl
theorem wp6 (L M:List (List Rec)):arL (L++M)=arL L++arL M:=by simp [arL]
theorem arL_take (L:List (List Rec)) (n:Nat):arL (L.take n)=(arL L).take n:=by simp [arL]
theorem arL_drop (L:List (List Rec)) (n:Nat):arL (L.drop n)=(arL L).drop n:=by simp [arL]
@[simp] theorem arL_getElem (L:List (List Rec)) (i:Nat) (h:i < (arL L).length):(arL L)[i]=.lst .any 4 (trL (L[i]'(by simpa using h))):=by simp [arL]
@[simp] theorem rfL_arL (L:List (List Rec)):AV.rfL (arL L)=true:=by induction L <;> simp_all [arL,AV.rfL,AV.rf]
@[simp] theorem weakL_arL (L:List (List Rec)):AV.weakL (arL L)=arL L:=by induction L <;> simp_all [arL,AV.weakL,AV.weak]
@[simp] theorem dpL_arL (L:List (List Rec)):AV.dpL (arL L)=arL L:=by induction L <;> simp_all [arL,AV.dpL,AV.dp]
@[simp] theorem koneL_arL (L:List (List Rec)):AV.koneL (arL L)=true:=by induction L <;> simp_all [arL,AV.koneL,AV.kone]
def yw7 : Code → Option (Code × Code)
 | .rangeFunc _ _ a b=>some (a,b)
 | .seq x y=>match yw7 x with
  | some r=>some r
  | none=>yw7 y
 | .cond _ x y=>match yw7 x with
  | some r=>some r
  | none=>yw7 y
 | .block _ x=>yw7 x
 | .loop x=>yw7 x
 | .scope x=>yw7 x
 | _=>none
def rfA (f:Func):Code:=((f.body.bind yw7).getD (.skip,.skip)).1
def rfB (f:Func):Code:=((f.body.bind yw7).getD (.skip,.skip)).2
def vn9 (r:Rec):Nat:=32+r.data.length+(if r.key=[] then 0 else 16+r.key.length)
def recSm (r:Rec):Prop:=r.key.length≤1000000000∧r.data.length≤1000000000
theorem vs7 {r:Rec} (h:recSm r):vn9 r≤3000000000:=by unfold vn9;obtain ⟨h1,h2⟩:=h;split <;> omega
theorem xm6 (r:Rec) (h:recSm r):Sound Tryz.prog 113 [recA r] (.v (.int .i64 (vn9 r:Nat))):=by
 refine yc9 Tryz.func113 rfl (by decide +kernel) (by simp [Tryz.f113]) rfl rfl (rs:=[.tmp 2]) rfl ?_
 rw [show Tryz.f113.ntmps=20 from rfl]
 obtain ⟨h1,h2⟩:=h
 have w1:IntKind.i64.wrap (32+(r.data.length:Int))=((32+r.data.length:Nat):Int):=by rw [w64 (by omega) (by omega)];omega
 have w2:IntKind.i64.wrap (((32+r.data.length:Nat):Int)+16)=((32+r.data.length+16:Nat):Int):=by rw [w64 (by omega) (by omega)];omega
 have w3:IntKind.i64.wrap (((32+r.data.length+16:Nat):Int)+(r.key.length:Int))=((32+r.data.length+16+r.key.length:Nat):Int):=by rw [w64 (by omega) (by omega)];omega
 refine yr9 [1] (by simp;rfl) ?_
 refine yh9 ?_
 by_cases c:r.key=[]
 ·have hc:vn9 r=32+r.data.length:=by unfold vn9;rw [if_pos c];omega
  rw [hc]
  refine W_cT [1,6] (by simp [c];rfl) rfl ?_
  refine yr9 [2] (by simp [w1,-Int.natCast_add];rfl) ?_
  refine yj9 ?_
  repeat (first | refine yp9 ?_ | refine ys9 ?_)
  simp [retQ]
 ·have hc:vn9 r=32+r.data.length+16+r.key.length:=by unfold vn9;rw [if_neg c];omega
  have hl:r.key.length≠0:=fun e=>c (List.eq_nil_of_length_eq_zero e)
  have hli:((r.key.length:Int) == 0)=false:=beq_eq_false_iff_ne.2 (by omega)
  rw [hc]
  refine W_cF [1,6] (by simp [c,hli,hl];rfl) rfl ?_
  refine yg9 ?_
  refine W_rK [2] ?_
  refine yq9 5 (by simp [w1,w2,-Int.natCast_add];rfl) rfl ?_
  refine yw9 (by simp [w3,-Int.natCast_add];rfl) ?_
  refine yj9 ?_
  repeat (first | refine yp9 ?_ | refine ys9 ?_)
  simp [retQ]
def vrec (r:Rec):Bool:=decide (1≤r.R)&&decide (r.R≤255)&&decide (r.key.length≤255)
theorem yv6 (r:Rec):Sound Tryz.prog 73 [recA r] (.v (.bool (vrec r))):=by
 refine yc9 Tryz.func73 rfl (by decide +kernel) (by simp [Tryz.f73]) rfl rfl (rs:=[.tmp 2]) rfl ?_
 rw [show Tryz.f73.ntmps=17 from rfl]
 refine yr9 [1] (by simp;rfl) ?_
 have e3:decide ((r.key.length:Int)≤255)=decide (r.key.length≤255):=by rw [Bool.eq_iff_iff];simp;omega
 by_cases c1:1≤r.R
 ·by_cases c2 : r.R ≤ 255
  ·have hv:vrec r=decide (r.key.length≤255):=by simp [vrec,c1,c2]
   rw [hv]
   refine W_rK [2] ?_
   refine yq9 6 (by simp [c1];rfl) rfl ?_
   refine yq9 6 (by simp [c2];rfl) rfl ?_
   refine yw9 (by simp [e3];rfl) ?_
   refine yj9 ?_
   repeat (first | refine yp9 ?_ | refine ys9 ?_)
   simp [retQ]
  ·have hv:vrec r=false:=by simp [vrec,c2]
   rw [hv]
   refine W_rK [2] ?_
   refine yq9 6 (by simp [c1];rfl) rfl ?_
   refine yq9 6 (by simp [c2];rfl) rfl ?_
   refine yw9 (by simp;rfl) ?_
   refine yj9 ?_
   repeat (first | refine yp9 ?_ | refine ys9 ?_)
   simp [retQ]
 ·have hv:vrec r=false:=by simp [vrec,c1]
  rw [hv]
  refine W_rK [2] ?_
  refine yq9 6 (by simp [c1];rfl) rfl ?_
  refine yq9 6 (by simp;rfl) rfl ?_
  refine yw9 (by simp;rfl) ?_
  refine yj9 ?_
  repeat (first | refine yp9 ?_ | refine ys9 ?_)
  simp [retQ]
def xm9 (t:List Rec):Nat:=(t.map vn9).sum
def trSm (t:List Rec):Prop:=t.length≤1000000∧∀ r∈t,recSm r
theorem ym7 (t:List Rec) (r:Rec):xm9 (t++[r])=xm9 t+vn9 r:=by simp [xm9]
theorem wb6 {t:List Rec} (h:∀ r∈t,recSm r):xm9 t≤3000000000 * t.length:=by
 induction t with
 | nil=>simp [xm9]
 | cons r t ih =>
  have h1:=ih fun x hx=>h x (List.mem_cons_of_mem _ hx)
  have h2:=vs7 (h r List.mem_cons_self)
  simp only [xm9,List.map_cons,List.sum_cons,List.length_cons] at h1 ⊢
  omega
theorem add_callW (n s:Int) (rest:List AObj) (hr:yn9 (rest.length+1) rest=true):ww9 Tryz.prog 111 [.v (.int .i64 n),.loc 0 0] (.cells 3 [.v (.int .i64 s)] :: rest) fun r h'=>r=.tup []∧h'=.cells 3 [.v (.int .i64 (IntKind.i64.wrap (s+n)))] :: rest:=by
 refine zd9 Tryz.func111 rfl (by decide +kernel) (by simp [Tryz.f111]) (rs:=[]) rfl ?_
 rw [show Tryz.f111.ntmps=6 from rfl]
 refine zr9 [] (by simp [yk9];rfl) ?_
 refine ⟨.inl rfl,.tup [],.tup [],_,rest.length+1,rfl,.inl ⟨rfl,rfl⟩,by simp,by simp,rfl,?_,rfl,?_⟩
 ·simp [yn9,AObj.under,AV.under,AV.underL] at hr ⊢
  simpa using hr
 ·simp
set_option maxRecDepth 20000
theorem zm9 (m : Nat) : ∀ (a b : List AObj), yn9 m (a ++ b) = (yn9 m a && yn9 m b)
 | [],b=>rfl
 | o :: a,b=>by simp only [List.cons_append,yn9,zm9 m a b,Bool.and_assoc]
theorem costs_callW (t:List Rec) (h:List AObj) (hh:yn9 (h.length+1) h=true):ww9 Tryz.prog 112 [.lst .any 4 (trL t)] h fun r h'=>r=.fn (.func 133) [] [.loc h.length 0]∧h'=h++[.cells 80 [.lst .any 4 (trL t)]]:=by
 refine zd9 Tryz.func112 rfl (by decide +kernel) (by simp [Tryz.f112]) (rs:=[.tmp 2]) rfl ?_
 rw [show Tryz.f112.ntmps=4 from rfl]
 refine yr9 [1] (by simp;rfl) ?_
 refine yr9 [2] (by simp;rfl) ?_
 refine yj9 ?_
 repeat (first | refine yp9 ?_ | refine ys9 ?_)
 refine ⟨.inr rfl,.fn (.func 133) [] [.loc h.length 0],.fn (.func 133) [] [.loc h.length 0],h++[.cells 80 [.lst .any 4 (trL t)]],h.length+1,by simp,.inl ⟨rfl,by simp⟩,by omega,by simp,by simp [AV.under,AV.underL],?_,rfl,?_⟩
 ·rw [List.take_of_length_le (by simp),zm9,hh]
  simp [yn9,AObj.under,AV.under,AV.underL]
 ·rw [List.take_of_length_le (by simp)]
theorem yb6 (t:List Rec) (ht:trSm t):Sound Tryz.prog 74 [.lst .any 4 (trL t)] (.v (.int .i64 (xm9 t:Nat))):=by
 refine yc9 Tryz.func74 rfl (by decide +kernel) (by simp [Tryz.f74]) rfl rfl (rs:=[.tmp 2]) rfl ?_
 rw [show Tryz.f74.ntmps=14 from rfl]
 refine yr9 [0] (by simp;rfl) ?_
 refine yr9 [0,3] (by simp [yk9];rfl) ?_
 refine yr9 [0,3,4] (by simp [yk9];rfl) ?_
 refine yh9 ?_
 refine W_rK [3,4,8] ?_
 refine yq9 1 (by simp;rfl) rfl ?_
 refine xs9 (f:=112) (args:=[.lst .any 4 (trL t)]) (by simp) (by simp) ((costs_callW t _ (by simp [yn9,AObj.under,AV.under,AV.underL])).mono ?_)
 rintro r h' ⟨rfl,rfl⟩
 refine ⟨_,by simp;rfl,?_⟩
 refine yw9 (by simp;rfl) ?_
 refine yl9 ?_
 refine ws8 (Qc:=fun _ h'=>h'=[.cells 3 [.v (.int .i64 (xm9 t:Nat))],.cells 148 [.fn (.func 111) [] [.loc 0 0]],.cells 80 [.lst .any 4 (trL t)],.loop 14 [(3,.loc 0 0),(4,.loc 1 0),(8,.fn (.func 133) [] [.loc 2 0])] [9] (rfA Tryz.f74) (rfB Tryz.f74) .ready]) rfl ?_ ?_
 ·refine zd9 Tryz.func133 rfl (by decide +kernel) (by simp [Tryz.f133]) (rs := []) rfl ?_
  rw [show Tryz.f133.ntmps=17 from rfl]
  refine yr9 [0,5,6,7] (by simp;rfl) ?_
  refine yl9 ?_
  refine zj9 (fun k s => ∃ i : Nat, k = t.length - i ∧ i ≤ t.length ∧ s = ⟨17, [(0, .yld 3), (5, .lst .any 4 (trL t)), (6, .v (.int .i64 (t.length : Nat))), (7, .v (.int .i64 (i : Nat)))],
   [.cells 3 [.v (.int .i64 (xm9 (t.take i):Nat))],.cells 148 [.fn (.func 111) [] [.loc 0 0]],.cells 80 [.lst .any 4 (trL t)],.loop 14 [(3,.loc 0 0),(4,.loc 1 0),(8,.fn (.func 133) [] [.loc 2 0])] [9] (rfA Tryz.f74) (rfB Tryz.f74) .ready]⟩) (k:=t.length) ⟨0,rfl,by omega,?_⟩ ?_
  ·simp [xm9]
   exact ⟨rfl,rfl,rfl⟩
  rintro k s ⟨i,rfl,hi,rfl⟩
  by_cases c:i < t.length
  ·have ci : (i : Int) < t.length := by omega
   obtain ⟨r,hri⟩:∃ r,t[i]?=some r:=⟨_,List.getElem?_eq_getElem c⟩
   have hr2:t[i]'c=r:=by rw [List.getElem?_eq_getElem c] at hri;exact Option.some.inj hri
   have hrs:=ht.2 r (List.mem_of_getElem? hri)
   have wi:=w64 (n:=(i:Int)+1) (by omega) (by have:=ht.1;omega)
   refine yr9 [0,5,6,7,8] (by simp [c];rfl) ?_
   refine yh9 ?_
   refine yt9 rfl (fun h=>?_) (fun h=>by simp at h)
   refine yg9 ?_
   refine yh9 ?_
   refine yl9 ?_
   refine yr9 [0,5,6,7,4] (by simp [c,ci,hr2,yk9];rfl) ?_
   refine W_rK [0,5,6,7,15] ?_
   refine yq9 2 (by simp;rfl) rfl ?_
   refine yf9 (by simp) (by first | (simp;done) | (simp;rfl)) (xm6 r hrs) (by simp;rfl) ?_
   refine runA_y (by simp) ?_
   unfold wg7
   dsimp only
   refine ⟨3,14,_,_,_,_,[.v (.int .i64 (vn9 r:Nat))],by simp,rfl,by simp,by simp,by simp,by simp,?_⟩
   refine (show Wt _ _ _ _ _ _ from ?_)
   refine zr9 [3,4,5] (by simp [setF];rfl) ?_
   refine ⟨rfl,_,_,_,_,_,rfl,?_⟩
   refine yl9 ?_
   refine W_rE [] ?_
   refine yq9 2 (by simp;rfl) rfl ?_
   refine xs9 (f:=111) (args:=[.v (.int .i64 (vn9 r:Nat)),.loc 0 0]) (by simp) (by simp) ((add_callW _ _ _ ?_).mono ?_)
   ·simp [yn9,AObj.under,AV.under,AV.underL]
    rfl
   rintro _ h' ⟨rfl,rfl⟩
   refine ⟨_,by simp;rfl,?_⟩
   refine yw9 (by simp;rfl) ?_
   refine ⟨14,_,_,_,_,.ready,true,5,rfl,rfl,by simp,by simp,?_,?_⟩
   ·simp [yn9,AObj.under,AV.under,AV.underL]
    rfl
   refine ⟨_,by simp;rfl,?_⟩
   refine yw9 (by simp;rfl) ?_
   refine yt9 rfl (fun h=>by simp at h) (fun h=>?_)
   refine ym9 [0,5,6,7] ?_
   refine vd9 4 (by simp) (by simp) rfl (by simp [yn9,AObj.under,AV.under,AV.underL];rfl) ?_
   refine yg9 ?_
   refine zr9 [0,5,6,7] (by simp [wi];rfl) ?_
   have htk:t.take (i+1)=t.take i++[r]:=by rw [List.take_add_one,hri];rfl
   have hle:=wb6 (t:=t.take i) fun x hx=>ht.2 x (List.mem_of_mem_take hx)
   have hc:=vs7 hrs
   have h6:=ht.1
   have wu:IntKind.i64.wrap ((xm9 (t.take i):Nat)+(vn9 r:Nat):Int)=((xm9 (t.take (i+1)):Nat):Int):=by
    rw [htk,ym7,w64 (by omega) (by rw [List.length_take] at hle;omega)];omega
   refine ⟨_,by omega,i+1,rfl,by omega,?_⟩
   simp [wu]
  ·refine yr9 [0, 5, 6, 7, 8] (by simp [c]; rfl) ?_
   refine yh9 ?_
   refine yt9 rfl (fun h=>by simp at h) (fun h=>?_)
   refine zs9 ?_
   have hie:i=t.length:=by omega
   subst hie
   rw [List.take_length]
   refine ⟨.inl rfl,.tup [],.tup [],_,4,rfl,.inl ⟨rfl,rfl⟩,by simp,by simp,rfl,?_,?_⟩
   ·simp [yn9,AObj.under,AV.under,AV.underL]
    rfl
   ·simp
 ·rintro _ _ rfl
  refine ⟨14,_,_,_,_,.ready,rfl,?_⟩
  refine (show Wt true 0 Tryz.prog _ _ _ from ?_)
  refine yr9 [2] (by simp;rfl) ?_
  refine yj9 ?_
  repeat (first | refine yp9 ?_ | refine ys9 ?_)
  simp [retQ]
end Go.AM
