/- Parts of the walk: C24L R31T C24E C24G C24H C24I C24J C24M. -/
import Derived.Test.YthjcnajpcphcpaaGreatG6
namespace Go.AM
open Go.RowKit Go.Proofs
set_option linter.unusedSimpArgs false
set_option linter.unusedVariables false
set_option maxHeartbeats 8000000
set_option maxRecDepth 20000
theorem ogoE_at : ∀ {l : List RE} {p : Option (List UInt8)}, ogoE p l = true ↔ ∀ (i : Nat) e, l[i]? = some e → symM (nmM e.key) = true ∧ (∀ k, (if i = 0 then p else (l[i - 1]?).map (·.key)) = some k → Op.bytesLess k e.key = true)
 | [],p=>by cases p <;> simp [ogoE]
 | x :: l,p=>by
  rw [show ogoE p (x :: l)=(symM (nmM x.key)&&((match p with | none=>true | some k=>Op.bytesLess k x.key)&&ogoE (some x.key) l)) by cases p <;> rfl,Bool.and_eq_true,Bool.and_eq_true,ogoE_at (p:=some x.key)]
  constructor
  ·rintro ⟨h1, h2, h3⟩ i e he
   cases i with
   | zero =>
    simp at he
    subst he
    refine ⟨h1,fun k hk=>?_⟩
    simp at hk
    subst hk
    exact h2
   | succ i =>
    obtain ⟨a,b⟩:=h3 i e (by simpa using he)
    refine ⟨a,fun k hk=>b k ?_⟩
    rw [if_neg (by omega),Nat.add_sub_cancel] at hk
    cases i with
    | zero=>simpa using hk
    | succ i=>rw [if_neg (by omega)];simpa using hk
  ·intro h
   refine ⟨(h 0 x rfl).1,?_,fun i e he=>?_⟩
   ·cases p with
    | none=>rfl
    | some k=>exact (h 0 x rfl).2 k rfl
   ·obtain ⟨a,b⟩:=h (i+1) e (by simpa using he)
    refine ⟨a,fun k hk=>b k ?_⟩
    rw [if_neg (by omega),Nat.add_sub_cancel]
    cases i with
    | zero=>simpa using hk
    | succ i=>rw [if_neg (by omega)] at hk;simpa using hk
theorem ug6 {l:List RE}:ordE l=true ↔ ∀ (i:Nat) e,l[i]?=some e→symM (nmM e.key)=true∧(∀ d,0 < i→l[i - 1]?=some d→Op.bytesLess d.key e.key=true):=by
 rw [ordE,ogoE_at]
 constructor
 ·intro h i e he
  obtain ⟨a,b⟩:=h i e he
  refine ⟨a,fun d hi hd=>b _ ?_⟩
  rw [if_neg (by omega),hd]
  rfl
 ·intro h i e he
  obtain ⟨a,b⟩:=h i e he
  refine ⟨a,fun k hk=>?_⟩
  by_cases hi:i=0
  ·rw [if_pos hi] at hk;cases hk
  ·rw [if_neg hi] at hk
   obtain ⟨d,hd,rfl⟩:=Option.map_eq_some_iff.1 hk
   exact b d (by omega) hd
theorem ud6 (l:List RE) (n:Nat) (h8:∀ e∈l,e.key.length=8) (hl:l.length≤1000000000):Sound Tryz.prog 63 [.agg [.lst .any 10 (reL l),.v (.int .i64 (n:Nat))]] (.v (.bool (ordE l))):=by
 refine yc9 Tryz.func63 rfl (by decide +kernel) (by simp [Tryz.f63]) (by simp [AV.rfL,AV.rf]) (by simp [AV.tlL,AV.tl]) (rs:=[.tmp 2]) rfl ?_
 rw [show Tryz.f63.ntmps=34 from rfl]
 refine yr9 [1] (by simp;rfl) ?_
 refine yh9 ?_
 refine yr9 [1,6,7,8] (by simp;rfl) ?_
 refine yl9 ?_
 refine zf9 (fun q s => ∃ i : Nat, q = l.length - i ∧ i ≤ l.length ∧ (∀ (m : Nat) e, m < i → l[m]? = some e → symM (nmM e.key) = true ∧ (∀ d, 0 < m → l[m - 1]? = some d → Op.bytesLess d.key e.key = true)) ∧
  s=⟨34,[(1,.loc 0 0),(6,.lst .any 10 (reL l)),(7,.v (.int .i64 (l.length:Nat))),(8,.v (.int .i64 (i:Nat)))],[.cells 70 [.lst .any 10 (reL l),.v (.int .i64 (n:Nat))]]⟩) (k:=l.length) ⟨0,rfl,by omega,by intro m e hm;omega,by simp⟩ ?_
 rintro q s ⟨i,rfl,hi,hall,rfl⟩
 by_cases c:i < l.length
 ·have ci : (i : Int) < l.length := by omega
  have wi:=w64 (n:=(i:Int)+1) (by omega) (by omega)
  obtain ⟨e,he⟩:∃ e,l[i]?=some e:=⟨_,List.getElem?_eq_getElem c⟩
  have hge:l[i]'c=e:=by rw [List.getElem?_eq_getElem c] at he;exact Option.some.inj he
  have he8:=h8 e (List.mem_of_getElem? he)
  have htk:=jr8 he8
  have htk10:List.take 10 (reC e)=reC e:=List.take_of_length_le (by rw [zm9 he8];omega)
  have hnm:=xw7 e he8
  simp only [reA] at hnm
  have hnl:(nmM e.key).length≤8:=by
   have h1:(kh9 e.key).length≤e.key.length:=by
    obtain ⟨k,hk⟩:=uf8 e.key
    have:=congrArg List.length hk
    rw [List.length_append] at this
    omega
   rw [nmM,decM,List.length_map]
   omega
  have hva:=zr8 (nmM e.key) (by omega)
  obtain ⟨V,hV⟩:∃ V,symM (nmM e.key)=V:=⟨_,rfl⟩
  rw [hV] at hva
  obtain ⟨S,hS⟩:∃ S,strB (nmM e.key)=S:=⟨_,rfl⟩
  have hSv:∃ u,S=.v u:=⟨_,hS.symm⟩
  rw [hS] at hnm hva
  obtain ⟨u,rfl⟩:=hSv
  refine yr9 [1,6,7,8,9] (by simp [c,ci];rfl) ?_
  refine yh9 ?_
  refine yt9 (t:=true) (by simp [c,ci]) (fun h=>?_) (fun h=>by simp at h)
  refine yg9 ?_
  refine yh9 ?_
  refine yl9 ?_
  refine yr9 [1,6,7,8,3,4] (by simp [c,ci,hge,reA,he8,yk9];rfl) ?_
  cases V with
  | false =>
   have hbad:ordE l=false:=by
    cases ho:ordE l with
    | false=>rfl
    | true=>rw [((ug6.1 ho) i e he).1] at hV;cases hV
   refine wr9 [1,6,7,8,32] mx (by decide +kernel) ?_
   refine yd9 1 (by simp [he8,htk10];rfl) rfl ?_
   refine yv9 (by simp) (by first | (simp [htk10];done) | (simp [htk10];rfl)) hnm (by simp;rfl) ?_
   refine yv9 (by simp) (by first | (simp;done) | (simp;rfl)) hva (by simp;rfl) ?_
   refine yb9 (by simp;rfl) ?_
   refine yt9 rfl (fun h=>?_) (fun h=>by simp at h)
   refine yr9 [2] (by simp;rfl) ?_
   refine yj9 ?_
   repeat (first | refine yp9 ?_ | refine ys9 ?_)
   simp [retQ,hbad]
  | true =>
  by_cases h0:i=0
  ·have hall2:∀ (m:Nat) e,m < 0+1→l[m]?=some e→symM (nmM e.key)=true∧(∀ d,0 < m→l[m - 1]?=some d→Op.bytesLess d.key e.key=true):=by
    intro m x hm hx
    have:m=0:=by omega
    subst this
    rw [← h0,he] at hx
    obtain rfl:=Option.some.inj hx
    exact ⟨hV,fun d hd=>by omega⟩
   subst h0
   refine wr9 [1,6,7,8,32] mx (by decide +kernel) ?_
   refine yd9 1 (by simp [he8,htk10];rfl) rfl ?_
   refine yv9 (by simp) (by first | (simp [htk10];done) | (simp [htk10];rfl)) hnm (by simp;rfl) ?_
   refine yv9 (by simp) (by first | (simp;done) | (simp;rfl)) hva (by simp;rfl) ?_
   refine yb9 (by simp;rfl) ?_
   refine yt9 rfl (fun h=>by simp at h) (fun h=>?_)
   refine yg9 ?_
   refine vp9 1 (by simp) (by simp) (by simp [zj9,AV.under,AV.underL]) (by simp [yn9,AObj.under,AV.under,AV.underL,reC]) ?_
   refine zr9 [1,6,7,8] (by simp [show IntKind.i64.wrap 1=1 from by decide];rfl) ?_
   exact ⟨_,by omega,0+1,rfl,by omega,hall2,by simp⟩
  ·have wd := w64 (n := (i : Int) - 1) (by omega) (by omega)
   have hp0:0 < i:=by omega
   have hp6:(1:Int)≤(i:Int):=by omega
   have hp1:(0:Int) < (i:Int):=by omega
   have hp2:(0:Int)≤(i:Int) - 1:=by omega
   have hp3:(i:Int) - 1 < l.length:=by omega
   have hp4:((i:Int) - 1).toNat=i - 1:=by omega
   have hp5:i - 1 < l.length:=by omega
   obtain ⟨d,hd⟩:∃ d,l[i - 1]?=some d:=⟨_,List.getElem?_eq_getElem hp5⟩
   have hgd:l[i - 1]'hp5=d:=by rw [List.getElem?_eq_getElem hp5] at hd;exact Option.some.inj hd
   have hd8:=h8 d (List.mem_of_getElem? hd)
   have hcs:=qw9 d e.key hd8 he8
   simp only [reA] at hcs
   refine wr9 [1,6,7,8,32] mx (by decide +kernel) ?_
   refine yd9 1 (by simp [he8,htk10];rfl) rfl ?_
   refine yv9 (by simp) (by first | (simp [htk10];done) | (simp [htk10];rfl)) hnm (by simp;rfl) ?_
   refine yv9 (by simp) (by first | (simp;done) | (simp;rfl)) hva (by simp;rfl) ?_
   refine yd9 13 (by simp [hp0,hp1,hp2,hp3,hp4,hp5,hp6,wd,hgd,reA,htk,hd8,he8,zm9];rfl) rfl ?_
   refine yv9 (by simp) (by first | (simp;done) | (simp;rfl)) hcs (by simp;rfl) ?_
   by_cases hcmp:Lib.compareBytes d.key e.key < 0
   ·have hn : ¬ (0 : Int) ≤ Lib.compareBytes d.key e.key := by omega
    have hall2:∀ (m:Nat) e,m < i+1→l[m]?=some e→symM (nmM e.key)=true∧(∀ d,0 < m→l[m - 1]?=some d→Op.bytesLess d.key e.key=true):=by
     intro m x hm hx
     by_cases hm2:m < i
     ·exact hall m x hm2 hx
     ·have:m=i:=by omega
      subst this
      rw [he] at hx
      obtain rfl:=Option.some.inj hx
      exact ⟨hV,fun d2 _ hd2=>by rw [hd] at hd2;obtain rfl:=Option.some.inj hd2;rw [jv8];exact decide_eq_true hcmp⟩
    refine yb9 (by simp [hn];rfl) ?_
    refine yt9 rfl (fun h=>by simp at h) (fun h=>?_)
    refine yg9 ?_
    refine vp9 1 (by simp) (by simp) (by simp [zj9,AV.under,AV.underL]) (by simp [yn9,AObj.under,AV.under,AV.underL,reC]) ?_
    refine zr9 [1,6,7,8] (by simp [wi];rfl) ?_
    exact ⟨_,by omega,i+1,rfl,by omega,hall2,by simp⟩
   ·have hn : (0 : Int) ≤ Lib.compareBytes d.key e.key := by omega
    have hbad:ordE l=false:=by
     cases ho:ordE l with
     | false=>rfl
     | true =>
      have:=((ug6.1 ho) i e he).2 d (by omega) hd
      rw [jv8] at this
      exact absurd (of_decide_eq_true this) hcmp
    refine yb9 (by simp [hn];rfl) ?_
    refine yt9 rfl (fun h=>?_) (fun h=>by simp at h)
    refine yr9 [2] (by simp;rfl) ?_
    refine yj9 ?_
    repeat (first | refine yp9 ?_ | refine ys9 ?_)
    simp [retQ,hbad]
 have hie:i=l.length:=by omega
 have hok:ordE l=true:=by
  rw [ug6]
  intro m e he
  have hm:m < l.length:=by
   rcases Nat.lt_or_ge m l.length with h | h
   ·exact h
   ·rw [List.getElem?_eq_none h] at he;cases he
  exact hall m e (by omega) he
 have nlt:¬ (i:Int) < l.length:=by omega
 refine yr9 [1,6,7,8,9] (by simp [nlt];rfl) ?_
 refine yh9 ?_
 refine yt9 (t:=false) (by simp [nlt]) (fun h=>by simp at h) (fun h=>?_)
 refine zs9 ?_
 repeat (first | refine on_exit ?_ | refine in_exit ?_)
 refine yr9 [2] (by simp;rfl) ?_
 refine yj9 ?_
 repeat (first | refine yp9 ?_ | refine ys9 ?_)
 simp [retQ,hok]
set_option maxRecDepth 20000
theorem mul8:Sound Tryz.prog 136 [.v (.int .u64 1),.v (.int .u64 8)] (.tup [.v (.int .u64 0),.v (.int .u64 8)]):=zd7 mx 100 (by kernel_rfl)
@[simp] theorem underL_any (m k:Nat):AV.underL m (List.replicate k .any)=true:=by induction k <;> simp_all [List.replicate_succ,AV.underL,AV.under]
@[simp] theorem underL_app31 (m : Nat) : ∀ (a b : List AV), AV.underL m (a ++ b) = (AV.underL m a && AV.underL m b)
 | [],b=>rfl
 | o :: a,b=>by simp only [List.cons_append,AV.underL,underL_app31 m a b,Bool.and_assoc]
def km9 (l:List UInt8) (k:Nat):List AV:=byL l++List.replicate k .any
theorem room_len (l:List UInt8) (k:Nat):(km9 l k).length=l.length+k:=by simp [km9]
theorem room_app (l m:List UInt8) (k:Nat) (h:m.length≤k):yk9 (km9 l k) l.length (byL m)=km9 (l++m) (k - m.length):=by
 simp [yk9,km9,xb9,List.take_append,List.drop_append]
theorem repeat_callW (n : Nat) (hn : n = 8) (H : List AObj) (hh : yn9 (H.length + 1) H = true) :
  wp9 Tryz.prog 117 [.lst .any 1 [.v (.int .u8 255)],.v (.int .i64 n)] H fun r h'=>∃ k,r=.arr H.length 0 n n∧h'=H++[.cells 5 (km9 (List.replicate n 255) k)]:=by
 refine zh9 Tryz.func117 rfl (by decide +kernel) (by simp [Tryz.f117]) (rs:=[.tmp 4]) rfl ?_
 rw [show Tryz.f117.ntmps=77 from rfl]
 have hmul:Sound Tryz.prog 136 [.v (.int .u64 1),.v (.int .u64 n)] (.tup [.v (.int .u64 0),.v (.int .u64 n)]):=by
  subst hn
  exact mul8
 have hnl:n≤80:=by omega
 have hn0:0 < n:=by omega
 have c1:¬ ((n:Int)=0):=by omega
 have c2:¬ ((n:Int) < 0):=by omega
 have c3:¬ ((8192:Int) < (n:Int)):=by omega
 have c4:¬ ((9223372036854775807:Int) < (n:Int)):=by omega
 have w1:=w64 (n:=(n:Int)) (by omega) (by omega)
 have w2:IntKind.u64.wrap (n:Int)=n:=by
  have h64:∀ k:Nat,k≤80→IntKind.u64.wrap (k:Int)=k:=by decide +kernel
  exact h64 n hnl
 have w3:IntKind.u64.wrap 1=1:=by decide +kernel
 refine yr9 [0,1] (by simp;rfl) ?_
 refine yh9 ?_
 refine yr9 [0,1,13] (by simp [c1];rfl) ?_
 refine yt9 rfl (fun h=>by simp at h <;> omega) (fun h=>?_)
 refine yg9 ?_
 refine yh9 ?_
 refine yr9 [0,1,16] (by simp [c2];rfl) ?_
 refine yt9 rfl (fun h=>by simp at h <;> omega) (fun h=>?_)
 refine yg9 ?_
 refine W_rK [0,5,6] ?_
 refine yq9 5 (by simp [w2,w3];rfl) rfl ?_
 refine yf9 (by simp) (by simp;rfl) hmul (by simp;rfl) ?_
 refine yw9 (by simp;rfl) ?_
 refine yh9 ?_
 refine yr9 [0,6,32] (by simp [c4];rfl) ?_
 refine yt9 rfl (fun h=>by simp at h <;> omega) (fun h=>?_)
 refine yg9 ?_
 refine yr9 [0,7] (by simp [w1];rfl) ?_
 refine yh9 ?_
 refine W_cF [0,7,38] (by simp;rfl) rfl ?_
 refine yg9 ?_
 refine yr9 [0,7,8] (by simp;rfl) ?_
 refine yh9 ?_
 refine yr9 [0,7,8,42] (by simp [c3];rfl) ?_
 refine yt9 rfl (fun h=>by simp at h <;> omega) (fun h=>?_)
 refine yg9 ?_
 refine W_rGK [0,7,8,9] ?_
 refine kc9 1 _ _ ?_
 refine yw9 (by simp;rfl) ?_
 refine qf8 rfl ?_
 refine wh7 (f:=137) (fn:=Tryz.f137) (ps:=#[3]) (k:=53) (n:=n) (t:=90) (e:=5) rfl (by simp) rfl Tryz.func137 (by decide +kernel) (by kernel_rfl) (by kernel_rfl) (by kernel_rfl) (by kernel_rfl) (by simp) (by omega) ?_
 intro cap hcap hmax
 refine ⟨_,by simp;rfl,?_⟩
 refine kc9 2 _ _ ?_
 refine yw9 (by simp;rfl) ?_
 refine qf8 rfl ?_
 refine stepW_slice3 (t:=90) (e:=5) (sz:=1) (ag:=false) (id:=H.length) (off:=0) (len:=n) (cap:=cap) (k1:=54) (k2:=55) (k3:=56) (n:=n) (m:=n) rfl (by simp) (by simp) (by simp) (by simp) hcap (Nat.le_refl _) hn0 ?_
 refine ⟨_,by simp;rfl,?_⟩
 refine kc9 1 _ _ ?_
 refine yw9 (by simp;rfl) ?_
 have hcat:catK 1 ([.v (.int .u8 255)]:List AV)=some [.v (.int .u8 255)]:=by rfl
 refine W_rK [7,8,9,10] ?_
 refine yq9 2 (by simp;rfl) rfl ?_
 refine js8 (t:=90) (t':=90) (e:=5) (sz:=1) (id:=H.length) (off:=0) (len:=n) (cap:=n) (ag:=false) (oy:=.any) (cs:=List.replicate cap .any) (ys:=[.v (.int .u8 255)]) (yc:=[.v (.int .u8 255)]) (by simp) rfl rfl rfl rfl (by simp) (by simp) (by simp) (by omega) (by simp) (by simp;omega) (by rw [List.take_of_length_le (by simp;omega)];exact hcat) ?_
 refine ⟨_,by simp;rfl,?_⟩
 have hone:min 1 n=1:=by omega
 refine yw9 (by simp [hone,goInt];rfl) ?_
 have hstart:yk9 (List.replicate cap AV.any) 0 (AV.weakL [.v (.int .u8 255)])=km9 (List.replicate 1 255) (cap - 1):=by
  obtain ⟨k,rfl⟩:∃ k,cap=k+1:=⟨cap - 1,by omega⟩
  simp [yk9,km9,AV.weakL,AV.weak,zc9,List.replicate_succ]
 refine yh9 ?_
 refine yl9 ?_
 refine zf9 (fun k σ=>∃ bp:Nat,k=n - bp∧1≤bp∧bp≤n∧σ=⟨77,[(7,.v (.int .i64 (n:Nat))),(8,.v (.int .i64 (n:Nat))),(9,.arr H.length 0 n n),(10,.v (.int .i64 (bp:Nat)))],H++[.cells 5 (km9 (List.replicate bp 255) (cap - bp))]⟩) (k:=n - 1) ⟨1,rfl,by omega,by omega,?_⟩ ?_
 ·rw [← hstart]
  simp
 rintro k σ ⟨bp,rfl,hb1,hb2,rfl⟩
 refine yh9 ?_
 by_cases c:bp < n
 ·have ci : (bp : Int) < n := by omega
  have ci2:¬ ((n:Int) < bp):=by omega
  have hle2:(bp:Int)≤n:=by omega
  have hne:¬ n=bp:=by omega
  obtain ⟨m,hm⟩:∃ m,min bp (n - bp)=m:=⟨_,rfl⟩
  have wi:=w64 (n:=(bp:Int)+m) (by omega) (by omega)
  refine yr9 [7,8,9,10,63] (by simp [ci];rfl) ?_
  refine yt9 rfl (fun h=>?_) (fun h=>by simp [c] at h)
  refine yg9 ?_
  refine yl9 ?_
  refine yr9 [7,8,9,10,11] (by simp [ci2];rfl) ?_
  refine kr9 [7,8,9,10] (W_anyT mx ?_)
  refine yl8 0 rfl (by decide +kernel) (xg8 10 rfl rfl rfl) rfl ?_
  refine yl8 1 rfl (by decide +kernel) (xg8 9 rfl rfl rfl) rfl ?_
  refine yl8 2 rfl (by decide +kernel) (xg8 10 rfl rfl rfl) rfl ?_
  refine yl8 3 rfl (by decide +kernel) (gives_arrLo (e:=5) (sz:=1) (ag:=false) (z:=.arr H.length bp (n - bp) (n - bp)) 68 69 rfl rfl (by simp) (by simp) rfl rfl (by simp [zn8,bnd,hle2,hne,hb2])) rfl ?_
  refine yl8 4 rfl (by decide +kernel) (xg8 9 rfl rfl rfl) rfl ?_
  refine yl8 5 rfl (by decide +kernel) (xg8 11 rfl rfl rfl) rfl ?_
  refine yl8 6 rfl (by decide +kernel) (gives_arrHi (e:=5) (sz:=1) (ag:=false) (z:=.arr H.length 0 bp n) 71 72 rfl rfl (by simp) (by simp) rfl rfl (by simp [zn8,bnd,hle2,hb2])) rfl ?_
  refine anyT_allG [7] (by decide +kernel) (by simp) ?_
  intro i hi
  simp only [List.mem_cons,List.not_mem_nil,or_false] at hi
  subst hi
  refine ⟨_,rfl,?_⟩
  refine .inr ⟨rfl,?_⟩
  refine stepW_copy (t:=90) (t':=90) (e:=5) (sz:=1) (id:=H.length) (off:=bp) (len:=n - bp) (cap:=n - bp) (m:=bp) (ag:=false) (cs:=km9 (List.replicate bp 255) (cap - bp)) (yc:=byL (List.replicate bp 255)) rfl rfl rfl rfl (by simp) (by simp [srcA,km9]) (by simp) (by omega) (by simp) (by simp [room_len];omega) ?_
  refine ⟨_,by simp;rfl,?_⟩
  refine anyT_all [8] (by decide +kernel) (by simp) ?_
  intro i hi
  simp only [List.mem_cons,List.not_mem_nil,or_false] at hi
  subst hi
  refine ⟨_,rfl,?_⟩
  refine (show runA Tryz.prog _ [_] _ _ from ?_)
  rw [hm]
  refine yw9 (by simp [goInt,wi];rfl) ?_
  refine anyT_all [9] (by decide +kernel) (by simp) ?_
  intro i hi
  simp only [List.mem_cons,List.not_mem_nil,or_false] at hi
  subst hi
  refine ⟨_,rfl,?_⟩
  refine (show runA Tryz.prog _ [_] _ _ from ?_)
  refine yw9 (by simp;rfl) ?_
  refine anyT_done (by decide +kernel) ?_
  refine ⟨n - (bp+m),by omega,bp+m,rfl,by omega,by omega,?_⟩
  have hseg:yk9 (km9 (List.replicate bp 255) (cap - bp)) bp ((byL (List.replicate bp 255)).take (m * 1))=km9 (List.replicate (bp+m) 255) (cap - (bp+m)):=by
   have h1:=room_app (List.replicate bp 255) (List.replicate m 255) (cap - bp) (by simp;omega)
   rw [List.length_replicate,List.length_replicate] at h1
   rw [← vr9,List.take_replicate,show min (m * 1) bp=m by omega,h1,List.replicate_append_replicate,Nat.sub_sub]
  rw [← hseg]
  simp [ud9]
 ·have ci : ¬ ((bp : Int) < n) := by omega
  obtain rfl:bp=n:=by omega
  refine W_cF [7,8,9,10,63] (by simp;rfl) rfl ?_
  refine zs9 ?_
  refine yr9 [4] (by simp;rfl) ?_
  refine yj9 ?_
  repeat (first | refine yp9 ?_ | refine ys9 ?_)
  refine ⟨.inr rfl,.arr H.length 0 bp bp,.arr H.length 0 bp bp,H++[.cells 5 (km9 (List.replicate bp 255) (cap - bp))],H.length+1,by simp,.inl ⟨rfl,by simp⟩,by omega,by simp,by simp [AV.under],?_,⟨cap - bp,rfl,?_⟩⟩
  ·rw [List.take_of_length_le (by simp),xt9,hh]
   simp [yn9,AObj.under,km9]
  ·rw [List.take_of_length_le (by simp)]
theorem wp9.dpArgs {P:Program} {f:FuncId} {args:List AV} {h:List AObj} {Q:AV→List AObj→Prop} (hc:wp9 P f (AV.dpL args) h Q):wp9 P f args h Q :=
 ⟨hc.1,fun F n c w vals h1 h2 h3 h4 h5 h6=>hc.2 F n c w vals h1 h2 h3 h4 h5 h6.dpL⟩
theorem wp9.ofDp {P:Program} {f:FuncId} {args args':List AV} {h:List AObj} {Q:AV→List AObj→Prop} (hd:AV.dpL args=args') (hc:wp9 P f args' h Q):wp9 P f args h Q:=wp9.dpArgs (hd ▸ hc)
theorem vn6 (T : Nat) (H : List AObj) (hh : yn9 (H.length + 1) H = true) :
  wp9 Tryz.prog 117 [.lst (.tip 5 T) 1 [.v (.int .u8 255)],.v (.int .i64 8)] H fun r h'=>∃ k,r=.arr H.length 0 8 8∧h'=H++[.cells 5 (km9 (List.replicate 8 255) k)]:=by
 refine wp9.dpArgs ?_
 rw [show AV.dpL [.lst (.tip 5 T) 1 [.v (.int .u8 255)],.v (.int .i64 8)]=[.lst .any 1 [.v (.int .u8 255)],.v (.int .i64 8)] by simp [AV.dpL,AV.dp]]
 exact repeat_callW 8 rfl H hh
set_option maxRecDepth 20000
theorem vn7 (b:List UInt8) (n:Nat) (hb:b.length≤1000000000) (hn:n≤1000):Sound Tryz.prog 99 [.lst .any 1 (byL b),.v (.int .i64 0),.v (.int .i64 (n:Nat))] (.v (.bool (decide (n≤b.length)))):=by
 refine yc9 Tryz.func99 rfl (by decide +kernel) (by simp [Tryz.f99]) rfl rfl (rs:=[.tmp 6]) rfl ?_
 rw [show Tryz.f99.ntmps=17 from rfl]
 have w:=w64 (n:=(b.length:Int) - n) (by omega) (by omega)
 refine yr9 [0,1,2] (by simp;rfl) ?_
 refine yr9 [6] (by simp [w];rfl) ?_
 refine yj9 ?_
 repeat (first | refine yp9 ?_ | refine ys9 ?_)
 simp [retQ]
def halfX (a b:Int):Int:=IntKind.u32.wrap (IntKind.i32.wrap (IntKind.i16.wrap ((BitVec.ofInt IntKind.i16.bits (IntKind.i16.wrap (IntKind.i16.wrap a * 2 ^ min 8 IntKind.i16.bits)) ||| BitVec.ofInt IntKind.i16.bits (IntKind.i16.wrap b)).toNat:Nat)))
theorem kc8 (n:Int):IntKind.i16.wrap n=(n+32768) % 65536 - 32768:=by
 have e:∀ m:Int,(if (2:Int) ^ 15≤m % 65536 then m % 65536 - 65536 else m % 65536)=(m+32768) % 65536 - 32768:=by
  intro m
  rw [show (2:Int) ^ 15=32768 by decide]
  split <;> omega
 have:=e n
 simp [IntKind.wrap,IntKind.bits,IntKind.signed] at this ⊢
 omega
theorem halfX_eq (a b:Nat) (ha:a < 256) (hb:b < 256):halfX (a:Int) (b:Int)=if a < 128 then ((256 * a+b:Nat):Int) else ((256 * a+b:Nat):Int)+4294901760:=by
 have hor:(BitVec.ofInt IntKind.i16.bits (IntKind.i16.wrap (IntKind.i16.wrap (a:Int) * 2 ^ min 8 IntKind.i16.bits)) ||| BitVec.ofInt IntKind.i16.bits (IntKind.i16.wrap (b:Int))).toNat=256 * a+b:=by
  have h1:(BitVec.ofInt IntKind.i16.bits (IntKind.i16.wrap (IntKind.i16.wrap (a:Int) * 2 ^ min 8 IntKind.i16.bits))).toNat=256 * a:=by
   rw [BitVec.toNat_ofInt,show (2:Int) ^ min 8 IntKind.i16.bits=256 from rfl,kc8,kc8]
   show ((_:Int) % ((2 ^ 16:Nat):Int)).toNat=_
   rw [show ((2 ^ 16:Nat):Int)=65536 from rfl]
   omega
  have h2:(BitVec.ofInt IntKind.i16.bits (IntKind.i16.wrap (b:Int))).toNat=b:=by
   rw [BitVec.toNat_ofInt,kc8]
   show ((_:Int) % ((2 ^ 16:Nat):Int)).toNat=_
   rw [show ((2 ^ 16:Nat):Int)=65536 from rfl]
   omega
  rw [BitVec.toNat_or,h1,h2]
  have:=Nat.shiftLeft_add_eq_or_of_lt (i:=8) hb a
  rw [Nat.shiftLeft_eq] at this
  rw [show 256 * a=a * 2 ^ 8 by omega]
  exact this.symm
 rw [halfX,hor,kc8,IntKind.wrap_i32,IntKind.wrap_u32]
 split <;> omega
theorem halfX_min (a b:UInt8):min (halfX a.toNat b.toNat) 256=((min (256 * a.toNat+b.toNat) 256:Nat):Int)∧0≤halfX a.toNat b.toNat∧halfX a.toNat b.toNat≤4294967295:=by
 have ha:=a.toNat_lt
 have hb:=b.toNat_lt
 rw [halfX_eq _ _ (by omega) (by omega)]
 split <;> omega
theorem half_sound (b:List UInt8) (hb:b.length≤1000000000) (h2:2≤b.length):Sound Tryz.prog 62 [.lst .any 1 (byL b),.v (.int .i64 0)] (.tup [.v (.int .u32 (halfX (b.getD 0 0).toNat (b.getD 1 0).toNat)),.v (.bool true)]):=by
 refine yc9 Tryz.func62 rfl (by decide +kernel) (by simp [Tryz.f62]) rfl rfl (rs:=[.tmp 4,.tmp 5]) rfl ?_
 rw [show Tryz.f62.ntmps=25 from rfl]
 have hf:=vn7 b 2 hb (by omega)
 rw [decide_eq_true h2] at hf
 obtain ⟨x,hx⟩:∃ x,b[0]?=some x:=⟨_,List.getElem?_eq_getElem (by omega)⟩
 obtain ⟨y,hy⟩:∃ y,b[1]?=some y:=⟨_,List.getElem?_eq_getElem (by omega)⟩
 have hx1:b[0]'(by omega)=x:=by rw [List.getElem?_eq_getElem (by omega)] at hx;exact Option.some.inj hx
 have hy1:b[1]'(by omega)=y:=by rw [List.getElem?_eq_getElem (by omega)] at hy;exact Option.some.inj hy
 have hx2:b.getD 0 0=x:=by rw [List.getD_eq_getElem?_getD,hx];rfl
 have hy2:b.getD 1 0=y:=by rw [List.getD_eq_getElem?_getD,hy];rfl
 have h0l:0 < b.length:=by omega
 have h1l:1 < b.length:=by omega
 have w1:IntKind.i64.wrap 1=1:=by decide +kernel
 have w2:IntKind.i64.wrap (0+1)=1:=by decide +kernel
 rw [hx2,hy2]
 refine yr9 [0,1] (by simp;rfl) ?_
 refine yh9 ?_
 refine W_rK [0,1,9] ?_
 refine yq9 2 (by simp;rfl) rfl ?_
 refine yf9 (by simp) (by first | (simp;done) | (simp;rfl)) hf (by simp;rfl) ?_
 refine yw9 (by simp;rfl) ?_
 refine yt9 rfl (fun h=>by simp at h) (fun h=>?_)
 refine yg9 ?_
 refine wr9 [4,5] mx (by decide +kernel) ?_
 refine yd9 6 (by simp [h0l,hx,hx1];rfl) rfl ?_
 refine yd9 5 (by simp [h1l,hy,hy1,w1,w2];rfl) rfl ?_
 refine yd9 2 (by simp;rfl) rfl ?_
 refine yb9 (by simp;rfl) ?_
 refine yj9 ?_
 repeat (first | refine yp9 ?_ | refine ys9 ?_)
 simp [retQ,halfX]
theorem put_callW (b f : List UInt8) (hb : b.length = 256) (hf : f.length = 2) (H : List AObj) (hh : yn9 H.length H = true) :
  wp9 Tryz.prog 135 [.lst .any 1 (byL b),.v (.int .i64 0),.lst .any 1 (byL f)] H fun r h'=>∃ k,256+k≤maxLen∧r=.tup [.arr H.length 0 256 (256+k),.v (.bool true)]∧h'=H++[.cells 5 (byL (f++b.drop 2++List.replicate k 0))]:=by
 refine zh9 Tryz.func135 rfl (by decide +kernel) (by simp [Tryz.f135]) (rs:=[.tmp 6,.tmp 7]) rfl ?_
 rw [show Tryz.f135.ntmps=23 from rfl]
 have hfit:=vn7 b 2 (by omega) (by omega)
 rw [decide_eq_true (by omega)] at hfit
 refine yr9 [0,1,2] (by simp;rfl) ?_
 refine yh9 ?_
 refine W_rK [0,1,2,14] ?_
 refine yq9 4 (by simp [hf];rfl) rfl ?_
 refine yf9 (by simp) (by first | (simp;done) | (simp;rfl)) hfit (by simp;rfl) ?_
 refine yw9 (by simp;rfl) ?_
 refine yt9 rfl (fun h=>by simp at h) (fun h=>?_)
 refine yg9 ?_
 refine W_rK [1,2,8] ?_
 refine yq9 1 (by simp;rfl) rfl ?_
 refine vl6 (t:=90) (e:=5) (sz:=1) (by_:=1) (s0:=1) (x0:=[]) (oy:=.any) (ys:=byL b) (by simp) rfl rfl rfl rfl (by simp) (by simp) s90 a5 z5 (by simp) (qr9 _) (by intro e;rw [show b=[] by cases b with | nil=>rfl | cons x l=>simp [byL] at e] at hb;simp at hb) (by simp [hb]) ?_
 intro cap h1 h2
 rw [xv9,hb] at h1
 obtain ⟨k,rfl⟩:∃ k,cap=256+k:=⟨cap - 256,by omega⟩
 refine ⟨_,by simp;rfl,?_⟩
 refine yw9 (by simp;rfl) ?_
 have hz:byL b++repC k [AV.v (.int .u8 0)]=byL (b++List.replicate k 0):=by rw [jd9,xb9]
 simp only [hb,Nat.add_sub_cancel_left,AV.cells,xv9,hz]
 refine W_rK [8] ?_
 refine yq9 4 (by simp [show ¬ 256+k=0 by omega];rfl) rfl ?_
 refine js8 (t:=90) (t':=90) (e:=5) (sz:=1) (id:=H.length) (off:=0) (len:=256) (cap:=256+k) (ag:=false) (oy:=.any) (cs:=byL (b++List.replicate k 0)) (ys:=byL f) (yc:=byL f) (by simp) rfl rfl rfl rfl (by simp) (by simp) s90 (by omega) (by simp) (by simp [hb]) (by rw [List.take_of_length_le (by simp [hf])];exact qr9 _) ?_
 have hseg:yk9 (byL (b++List.replicate k 0)) 0 (AV.weakL (byL f))=byL (f++b.drop 2++List.replicate k 0):=by
  rw [jj9]
  unfold yk9
  rw [List.take_zero,List.nil_append,Nat.zero_add,xv9,hf,← kw9,List.drop_append_of_le_length (by omega),← xb9,List.append_assoc]
 rw [hseg]
 refine ⟨_,by simp;rfl,?_⟩
 refine yw9 (by simp;rfl) ?_
 refine yr9 [6,7] (by simp;rfl) ?_
 refine yj9 ?_
 repeat (first | refine yp9 ?_ | refine ys9 ?_)
 refine ⟨.inr rfl,.tup [.arr H.length 0 256 (256+k),.v (.bool true)],.tup [.arr H.length 0 256 (256+k),.v (.bool true)],H++[.cells 5 (byL (f++b.drop 2++List.replicate k 0))],H.length+1,by simp,.inl ⟨rfl,by simp⟩,by omega,by simp,by simp [AV.under,AV.underL],?_,⟨k,h2,rfl,?_⟩⟩
 ·rw [List.take_of_length_le (by simp),xt9,wg9 (by omega) _ hh]
  simp [yn9,AObj.under]
 ·rw [List.take_of_length_le (by simp)]
theorem ur6 (b : List UInt8) (v : Nat) (hb : b.length = 256) (hv : v < 256) (H : List AObj) (hh : yn9 H.length H = true) (fl : Fl) :
  wp9 Tryz.prog 116 [.lst fl 1 (byL b),.v (.int .i64 0),.v (.int .u32 (v:Nat))] H fun r h'=>∃ k,256+k≤maxLen∧r=.tup [.arr H.length 0 256 (256+k),.v (.bool true)]∧h'=H++[.cells 5 (byL ([0,UInt8.ofNat v]++b.drop 2++List.replicate k 0))]:=by
 refine wp9.dpArgs ?_
 rw [show AV.dpL [.lst fl 1 (byL b),.v (.int .i64 0),.v (.int .u32 (v:Nat))]=[.lst .any 1 (byL b),.v (.int .i64 0),.v (.int .u32 (v:Nat))] by simp [AV.dpL,AV.dp]]
 refine zh9 Tryz.func116 rfl (by decide +kernel) (by simp [Tryz.f116]) (rs:=[.tmp 6,.tmp 7]) rfl ?_
 rw [show Tryz.f116.ntmps=19 from rfl]
 have w1:IntKind.u8.wrap (Int.fdiv (v:Int) (2 ^ min 8 IntKind.u32.bits))=0:=by
  rw [show (2:Int) ^ min 8 IntKind.u32.bits=256 from rfl,Int.fdiv_eq_ediv_of_nonneg _ (by omega),IntKind.wrap_u8]
  omega
 have w2:IntKind.u8.wrap (v:Int)=((UInt8.ofNat v).toNat:Nat):=by
  rw [IntKind.wrap_u8,UInt8.toNat_ofNat']
  omega
 have hp:=put_callW b [0,UInt8.ofNat v] hb rfl H hh
 refine yr9 [0,1,2] (by simp;rfl) ?_
 refine W_rK [6,7] ?_
 refine yq9 8 (by simp [w1,w2];rfl) rfl ?_
 refine xp9 (f:=135) (args:=[.lst .any 1 (byL b),.v (.int .i64 0),.lst (.tip 5 62) 1 [.v (.int .u8 0),.v (.int .u8 ((UInt8.ofNat v).toNat:Nat))]]) (by simp) (by simp [wq9,xq9]) ((wp9.ofDp (by simp only [AV.dpL,AV.dp,dpL_byL];rfl) hp).mono ?_)
 rintro r h' ⟨k,hk,rfl,rfl⟩
 refine ⟨_,by simp;rfl,?_⟩
 refine yw9 (by simp;rfl) ?_
 refine yj9 ?_
 repeat (first | refine yp9 ?_ | refine ys9 ?_)
 refine ⟨.inr rfl,.tup [.arr H.length 0 256 (256+k),.v (.bool true)],.tup [.arr H.length 0 256 (256+k),.v (.bool true)],H++[.cells 5 (byL ([0,UInt8.ofNat v]++b.drop 2++List.replicate k 0))],H.length+1,by simp,.inl ⟨rfl,by simp⟩,by omega,by simp,by simp [AV.under,AV.underL],?_,⟨k,hk,rfl,?_⟩⟩
 ·rw [List.take_of_length_le (by simp),xt9,wg9 (by omega) _ hh]
  simp [yn9,AObj.under]
 ·rw [List.take_of_length_le (by simp)]
set_option maxRecDepth 20000
def vn9 (n:Nat):List UInt8:=List.replicate n 0
@[simp] theorem us8 (n:Nat):(vn9 n).length=n:=by simp [vn9]
theorem frz256 {h:List AObj} {id:Nat} (hid:h[id]?=some (.cells 5 (repC 256 [.v (.int .u8 0)]))):wt9 Tryz.prog h 1 id 0 256 256=some (.lst (.tip 5 1) 1 (byL (vn9 256)),h.set id (.froz 5 (byL (vn9 256)))):=by
 rw [jd9] at hid
 have hz:List.replicate 256 (0:UInt8)=vn9 256:=rfl
 rw [hz] at hid
 obtain ⟨Z,hZ⟩:∃ Z,vn9 256=Z:=⟨_,rfl⟩
 have hl:Z.length=256:=by rw [← hZ,us8]
 rw [hZ] at hid ⊢
 unfold wt9
 rw [hid]
 simp [hl,List.take_of_length_le]
theorem setBL (X A B Z:List UInt8) (h:B.length=A.length):yk9 (byL (X++(A++Z))) X.length (byL B)=byL (X++(B++Z)):=by
 unfold yk9
 rw [← vr9,← kw9,xv9,h,List.take_left,← List.append_assoc X A Z,List.drop_left' (by simp),← xb9,← xb9,List.append_assoc]
theorem ent_put (X Z : List UInt8) (e : RE) (he : e.key.length = 8) (a : Nat) (ha : X.length = a) :
  yk9 (yk9 (yk9 (yk9 (byL (X++(vn9 12++Z))) a (byL e.key)) (a+8) [.v (.int .u8 ((UInt8.ofNat (e.trk / 256)).toNat:Nat))]) (a+9) [.v (.int .u8 ((UInt8.ofNat e.trk).toNat:Nat))]) (a+10) [.v (.int .u8 ((UInt8.ofNat e.rn).toNat:Nat))]=byL (X++(entB e++Z)):=by
 subst ha
 have hz:vn9 12=vn9 8++([0]++([0]++([0]++[0]))):=rfl
 rw [hz,List.append_assoc,setBL X (vn9 8) e.key _ (by rw [he,us8])]
 have h1:=setBL (X++e.key) [0] [UInt8.ofNat (e.trk / 256)] (([0]++([0]++[0]))++Z) rfl
 have h2:=setBL (X++e.key++[UInt8.ofNat (e.trk / 256)]) [0] [UInt8.ofNat e.trk] (([0]++[0])++Z) rfl
 have h3:=setBL (X++e.key++[UInt8.ofNat (e.trk / 256)]++[UInt8.ofNat e.trk]) [0] [UInt8.ofNat e.rn] ([0]++Z) rfl
 simp only [List.append_assoc,List.length_append,he,List.length_singleton] at h1 h2 h3 ⊢
 simp only [zc9,byL_nil] at h1 h2 h3
 rw [h1,show X.length+9=X.length+(8+1) by omega,h2,show X.length+10=X.length+(8+(1+1)) by omega,h3,entB]
 simp only [List.append_assoc,List.cons_append,List.nil_append]
theorem part_cut (l:List RE) (i F E:Nat) (hF:min (21 * i) l.length=F) (hE:min (F+21) l.length=E):(l.take E).drop F=zn7 l i:=by
 unfold zn7
 rcases Nat.le_total (21 * i) l.length with h | h
 ·have:F=21 * i:=by omega
  subst this
  rw [List.drop_take,show E - 21 * i=min 21 (l.length - 21 * i) by omega]
  rcases Nat.le_total 21 (l.length - 21 * i) with h2 | h2
  ·rw [Nat.min_eq_left h2]
  ·rw [Nat.min_eq_right h2,List.take_of_length_le (by rw [List.length_drop];omega),List.take_of_length_le (by rw [List.length_drop];omega)]
 ·rw [List.drop_eq_nil_of_le (by rw [List.length_take];omega),List.drop_eq_nil_of_le h]
  rfl
def datP (P:List RE) (j k:Nat):List UInt8:=[0,UInt8.ofNat (2+12 * P.length)]++kl9 (P.take j)++vn9 (254 - 12 * j+k)
theorem datP_len {P:List RE} (h8:∀ e∈P,e.key.length=8) (hP:P.length≤21) {j k:Nat} (hj:j≤P.length):(datP P j k).length=256+k:=by
 unfold datP
 rw [List.length_append,List.length_append,xk8 (fun e he=>h8 e (List.mem_of_mem_take he)),List.length_take,us8]
 simp
 omega
theorem datP_next {P : List RE} (h8 : ∀ e ∈ P, e.key.length = 8) (hP : P.length ≤ 21) {j k : Nat} {e : RE} (he : P[j]? = some e) :
  yk9 (yk9 (yk9 (yk9 (byL (datP P j k)) (2+12 * j) (byL e.key)) (2+12 * j+8) [.v (.int .u8 ((UInt8.ofNat (e.trk / 256)).toNat:Nat))]) (2+12 * j+9) [.v (.int .u8 ((UInt8.ofNat e.trk).toNat:Nat))]) (2+12 * j+10) [.v (.int .u8 ((UInt8.ofNat e.rn).toNat:Nat))]=byL (datP P (j+1) k):=by
 have hj:=(List.getElem?_eq_some_iff.1 he).1
 have hlen:([0,UInt8.ofNat (2+12 * P.length)]++kl9 (P.take j)).length=2+12 * j:=by
  rw [List.length_append,xk8 (fun x hx=>h8 x (List.mem_of_mem_take hx)),List.length_take]
  simp
  omega
 have hz:vn9 (254 - 12 * j+k)=vn9 12++vn9 (254 - 12 * (j+1)+k):=by
  unfold vn9
  rw [List.replicate_append_replicate]
  congr 1
  omega
 have hb:kl9 (P.take (j+1))=kl9 (P.take j)++entB e:=by
  rw [List.take_add_one,he]
  simp [kl9]
 have:=ent_put ([0,UInt8.ofNat (2+12 * P.length)]++kl9 (P.take j)) (vn9 (254 - 12 * (j+1)+k)) e (h8 e (List.mem_of_getElem? he)) (2+12 * j) hlen
 rw [datP,hz,this,datP,hb]
 simp only [List.append_assoc]
theorem frz_by2 {H:List AObj} {q n cq:Nat} {B:List UInt8} (hq:H[q]?=some (.cells 5 (byL B))) (hn:n≤B.length):∃ o,(o=.any∨o=.tip 5 1)∧wt9 Tryz.prog H 1 q 0 n cq=some (.lst o 1 (byL (B.take n)),H.set q (.froz 5 (byL B))):=by
 unfold wt9
 rw [hq]
 simp only [t5]
 rw [if_pos ⟨by omega,.inr trivial,by simpa using hn,by simp,by simp⟩,jj9,List.drop_zero,yb7 _ _ hn]
 refine ⟨_,?_,rfl⟩
 split
 ·exact .inr rfl
 ·exact .inl rfl
theorem frz_room3 {h:List AObj} (id n cap:Nat) (c:List UInt8) (k:Nat) (hid:h[id]?=some (.cells 5 (km9 c k))) (hc:c.length=n):∃ (o:Fl),(o=.any∨o=.tip 5 1)∧wt9 Tryz.prog h 1 id 0 n cap=some (.lst o 1 (byL c),h.set id (.froz 5 (byL c))):=by
 have e2:tyI Tryz.prog 5=some (false,1):=by simp
 subst hc
 cases k with
 | zero =>
  have e0:km9 c 0=byL c:=by simp [km9]
  rw [e0] at hid
  refine ⟨if 0=0∧c.length=cap∧cap * 1=(byL c).length then .tip 5 1 else .any,by split <;> simp,?_⟩
  simp only [wt9,hid,e2]
  rw [if_pos ⟨by omega,.inr trivial,by simp,kp7 _,rfL_byL _⟩,jj9,List.drop_zero,yb7 _ _ (by omega),List.take_of_length_le (by omega)]
 | succ k =>
  have e1:(km9 c (k+1)).take (0+c.length * 1)=byL c:=by
   rw [km9,Nat.zero_add,Nat.mul_one,List.take_append_of_le_length (by simp),List.take_of_length_le (by simp)]
  have e3:AV.koneL (km9 c (k+1))=false:=by
   rw [km9,koneL_app,List.replicate_succ]
   simp [AV.koneL,AV.kone]
  refine ⟨.any,.inl rfl,?_⟩
  simp only [wt9,hid,e2,e1]
  rw [if_neg (by rw [e3];simp),if_pos ⟨by omega,.inr trivial,by simp [room_len],kp7 _,rfL_byL _⟩,jj9,List.drop_zero,yb7 _ _ (by omega),List.take_of_length_le (by omega)]
set_option maxRecDepth 20000
theorem block24_sound (l:List RE) (n0 i:Nat) (h8:∀ e∈l,e.key.length=8) (hs:∀ e∈l,e.trk < 1000000000∧e.rn < 1000000000) (hl:l.length≤1000000000) (hi:i≤1000000):Sound Tryz.prog 83 [.agg [.lst .any 10 (reL l),.v (.int .i64 (n0:Nat))],.v (.int .i64 (i:Nat))] (recA (blkE l i)):=by
 refine vd9 Tryz.func83 rfl (by decide +kernel) (by simp [Tryz.f83]) (by simp [AV.rfL,AV.rf]) (by simp [AV.tlL,AV.tl]) (rs:=[.cell 4 100]) rfl ?_
 rw [show Tryz.f83.ntmps=97 from rfl]
 obtain ⟨m,hm⟩:∃ m,21 * i=m:=⟨_,rfl⟩
 obtain ⟨F,hF⟩:∃ F,min m l.length=F:=⟨_,rfl⟩
 obtain ⟨E,hE⟩:∃ E,min (F+21) l.length=E:=⟨_,rfl⟩
 obtain ⟨P,hP⟩:∃ P,zn7 l i=P:=⟨_,rfl⟩
 have hcut:=part_cut l i F E (by rw [hm];exact hF) hE
 rw [hP] at hcut
 have hcut2:List.drop F (List.take E (reL l))=reL P:=by rw [← reL_take,← reL_drop,hcut]
 have hP21:P.length≤21:=by rw [← hP];exact ql7 l i
 have hP8:∀ e∈P,e.key.length=8:=fun e he=>h8 e (jk8 (n:=i) (by rw [hP];exact he))
 have hPs:∀ e∈P,e.trk < 1000000000∧e.rn < 1000000000:=fun e he=>hs e (jk8 (n:=i) (by rw [hP];exact he))
 have hm1:m≤21000000:=by omega
 have w1:IntKind.i64.wrap ((i:Int) * 21)=(m:Nat):=by rw [w64 (by omega) (by omega)];omega
 have hmin1:(if (l.length:Int) < (m:Nat) then (l.length:Int) else (m:Nat))=(F:Nat):=by split <;> omega
 have hmin1b:(if l.length < m then (l.length:Int) else (m:Nat))=(F:Nat):=by split <;> omega
 have w2:IntKind.i64.wrap ((F:Int)+21)=((F+21:Nat):Int):=by rw [w64 (by omega) (by omega)];omega
 have hmin2:(if (l.length:Int) < ((F+21:Nat):Int) then (l.length:Int) else ((F+21:Nat):Int))=(E:Nat):=by split <;> omega
 obtain ⟨F21,hF21⟩:∃ F21,F+21=F21:=⟨_,rfl⟩
 rw [hF21] at w2 hmin2 hE
 have hmin2b:(if l.length < F21 then (l.length:Int) else (F21:Nat))=(E:Nat):=by split <;> omega
 have hFE:F≤E:=by omega
 have hFEi:(F:Int)≤E:=by omega
 have hEl:E≤l.length:=by omega
 have hEli:(E:Int)≤l.length:=by omega
 refine yr9 [1,2,4] (by simp;rfl) ?_
 refine yr9 [1,2,4,5] (by simp [w1,hmin1,hmin1b];rfl) ?_
 refine W_rK [1,2,4,5,6] ?_
 refine yq9 5 (by simp [w2];rfl) rfl ?_
 refine yw9 (by simp [w2,hmin2,hmin2b,hFE,hFEi,hEl,hEli,hcut2];rfl) ?_
 refine yr9 [1,2,4,5,6,7] (by simp;rfl) ?_
 refine W_frz 7 (tk:=1) rfl (by decide) (frz256 (by simp)) ?_
 obtain ⟨Z,hZ⟩:∃ Z,vn9 256=Z:=⟨_,rfl⟩
 have hZl:Z.length=256:=by rw [← hZ,us8]
 rw [hZ]
 obtain ⟨v,hv⟩:∃ v,2+12 * P.length=v:=⟨_,rfl⟩
 have hv2:v < 256:=by omega
 have w3:IntKind.i64.wrap (12 * (P.length:Int))=12 * (P.length:Int):=w64 (by omega) (by omega)
 have w4:IntKind.i64.wrap (2+12 * (P.length:Int))=(v:Nat):=by rw [w64 (by omega) (by omega)];omega
 have w5:IntKind.u32.wrap (v:Nat)=(v:Nat):=by rw [IntKind.wrap_u32];omega
 obtain ⟨O0,hO0⟩:∃ O0:AObj,AObj.cells 70 [.lst .any 10 (reL l),.v (.int .i64 (n0:Nat))]=O0:=⟨_,rfl⟩
 refine W_rK [1,2,4,5,6,7] ?_
 refine yq9 6 (by simp [w3,w4,w5];rfl) rfl ?_
 refine xp9 (f:=116) (args:=[.lst (.tip 5 1) 1 (byL Z),.v (.int .i64 0),.v (.int .u32 (v:Nat))]) (by simp) (by simp [wq9,xq9]) ((ur6 Z v hZl hv2 _ (by simp [yn9,AObj.under,AV.under,AV.underL]) (.tip 5 1)).mono ?_)
 rintro r h' ⟨k,hk,rfl,rfl⟩
 have hD0:[0,UInt8.ofNat v]++Z.drop 2++List.replicate k 0=datP P 0 k:=by
  rw [← hZ,← hv,datP,List.take_zero]
  have:(vn9 256).drop 2++List.replicate k 0=vn9 (254 - 12 * 0+k):=by
   unfold vn9
   rw [List.drop_replicate,List.replicate_append_replicate]
  rw [List.append_assoc,this]
  simp [kl9]
 rw [hD0]
 refine ⟨_,by simp;rfl,?_⟩
 refine yw9 (by simp;rfl) ?_
 refine yh9 ?_
 refine yr9 [1,2,4,5,6,7,39,40,41] (by simp;rfl) ?_
 refine yl9 ?_
 obtain ⟨O1,hO1⟩:∃ O1:AObj,AObj.cells 100 [.v (.int .i64 0),.lst .nil 1 [],.lst .nil 1 [],.v (.bool false)]=O1:=⟨_,rfl⟩
 obtain ⟨O2,hO2⟩:∃ O2:AObj,AObj.froz 5 (byL Z)=O2:=⟨_,rfl⟩
 have hu0:∀ n,O0.under n=true:=by intro n;rw [← hO0];simp [AObj.under,AV.under,AV.underL]
 have hu1:∀ n,O1.under n=true:=by intro n;rw [← hO1];simp [AObj.under,AV.under,AV.underL]
 have hu2:∀ n,O2.under n=true:=by intro n;rw [← hO2];simp [AObj.under]
 have hu3:∀ n D,(AObj.cells 5 (byL D)).under n=true:=by intro n D;simp [AObj.under]
 refine zf9 (fun q s=>∃ j:Nat,q=P.length - j∧j≤P.length∧s=⟨97,[(1,.v (.int .i64 (i:Nat))),(2,.loc 0 0),(4,.loc 1 0),(5,.v (.int .i64 (F:Nat))),(6,.lst .any 10 (reL P)),(7,.arr 3 0 256 (256+k)),(39,.lst .any 10 (reL P)),(40,.v (.int .i64 (P.length:Nat))),(41,.v (.int .i64 (j:Nat)))],[O0,O1,O2,.cells 5 (byL (datP P j k))]⟩) (k:=P.length) ⟨0,rfl,by omega,by simp [hO0,hO1,hO2]⟩ ?_
 rintro q s ⟨j,rfl,hj,rfl⟩
 have hDl:=datP_len hP8 hP21 (k:=k) hj
 by_cases c:j < P.length
 ·have cj : (j : Int) < P.length := by omega
  obtain ⟨e,he⟩:∃ e,P[j]?=some e:=⟨_,List.getElem?_eq_getElem c⟩
  have hge:P[j]'c=e:=by rw [List.getElem?_eq_getElem c] at he;exact Option.some.inj he
  have he8:=hP8 e (List.mem_of_getElem? he)
  have hes:=hPs e (List.mem_of_getElem? he)
  have hnext:=datP_next hP8 hP21 (k:=k) he
  have hnl:=datP_len hP8 hP21 (j:=j+1) (k:=k) (by omega)
  have wj:=w64 (n:=(j:Int)+1) (by omega) (by omega)
  obtain ⟨a,ha⟩:∃ a,2+12 * j=a:=⟨_,rfl⟩
  have wa1:IntKind.i64.wrap (12 * (j:Int))=12 * (j:Int):=w64 (by omega) (by omega)
  have wa2:IntKind.i64.wrap (2+12 * (j:Int))=(a:Nat):=by rw [w64 (by omega) (by omega)];omega
  have ha1:a+12≤256:=by omega
  have ha2:(a:Int)≤256:=by omega
  have ha3:a≤256:=by omega
  have ha4:¬ 256+k=a:=by omega
  rw [ha] at hnext
  obtain ⟨D,hD⟩:∃ D,datP P j k=D:=⟨_,rfl⟩
  rw [hD] at hDl hnext ⊢
  have htk:=jr8 he8
  have hd8:List.drop 8 (reC e)=[.v (.int .i64 (e.trk:Nat)),.v (.int .i64 (e.rn:Nat))]:=by
   rw [reC,List.drop_append_of_le_length (by simp [he8]),List.drop_eq_nil_of_le (by simp [he8])]
   rfl
  have b1:IntKind.u8.wrap (Int.fdiv (e.trk:Int) (2 ^ min 8 IntKind.i64.bits))=((UInt8.ofNat (e.trk / 256)).toNat:Nat):=by
   rw [show (2:Int) ^ min 8 IntKind.i64.bits=256 from rfl,Int.fdiv_eq_ediv_of_nonneg _ (by omega),IntKind.wrap_u8,UInt8.toNat_ofNat']
   omega
  have b2:IntKind.u8.wrap (e.trk:Int)=((UInt8.ofNat e.trk).toNat:Nat):=by
   rw [IntKind.wrap_u8,UInt8.toNat_ofNat']
   omega
  have b3:IntKind.u8.wrap (e.rn:Int)=((UInt8.ofNat e.rn).toNat:Nat):=by
   rw [IntKind.wrap_u8,UInt8.toNat_ofNat']
   omega
  obtain ⟨B1,hB1⟩:∃ B1:Nat,(UInt8.ofNat (e.trk / 256)).toNat=B1:=⟨_,rfl⟩
  obtain ⟨B2,hB2⟩:∃ B2:Nat,(UInt8.ofNat e.trk).toNat=B2:=⟨_,rfl⟩
  obtain ⟨B3,hB3⟩:∃ B3:Nat,(UInt8.ofNat e.rn).toNat=B3:=⟨_,rfl⟩
  rw [hB1] at b1 hnext
  rw [hB2] at b2 hnext
  rw [hB3] at b3 hnext
  refine yr9 [1,2,4,5,6,7,39,40,41,42] (by simp [c,cj];rfl) ?_
  refine yh9 ?_
  refine yt9 (t:=true) (by simp [c,cj]) (fun h=>?_) (fun h=>by simp at h)
  refine yg9 ?_
  refine yh9 ?_
  refine yl9 ?_
  refine yr9 [1,2,4,5,6,7,39,40,41,8,9] (by simp [c,cj,hge,reA,he8,yk9,List.take_of_length_le];rfl) ?_
  refine W_roB 9 (tk:=1) (x:=reA e) rfl (by decide) (frz_re 4 e he8 rfl) (by simp) ?_
  refine vp9 4 (by simp) (by simp) (by simp [zj9,putF,AV.under,AV.underL]) (by show yn9 4 [O0,O1,O2,AObj.cells 5 (byL D)]=true;simp only [yn9,hu0,hu1,hu2,hu3,Bool.and_self]) ?_
  refine (show Wt true 0 Tryz.prog _ _ ⟨97,[(1,.v (.int .i64 (i:Nat))),(2,.loc 0 0),(4,.loc 1 0),(5,.v (.int .i64 (F:Nat))),(6,.lst .any 10 (reL P)),(7,.arr 3 0 256 (256+k)),(39,.lst .any 10 (reL P)),(40,.v (.int .i64 (P.length:Nat))),(41,.v (.int .i64 (j:Nat))),(9,.ro (reA e)),(8,.v (.int .i64 (j:Nat)))],[O0,O1,O2,.cells 5 (byL D)]⟩ from ?_)
  refine yr9 [1,2,4,5,6,7,39,40,41,9,10] (by simp [wa1,wa2,ha2,ha3,ha4];rfl) ?_
  refine W_rK [1,2,4,5,6,7,39,40,41,9,10] ?_
  refine yq9 3 (by simp [reA,he8,htk,maxLen];rfl) rfl ?_
  refine js8 (t:=90) (t':=90) (e:=5) (sz:=1) (id:=3) (off:=a) (len:=256 - a) (cap:=256+k - a) (ag:=false) (oy:=.any) (cs:=byL D) (ys:=byL e.key) (yc:=byL e.key) (by simp) rfl rfl rfl rfl (by simp) (by simp) s90 (by omega) (by simp) (by simp [hDl];omega) (by rw [List.take_of_length_le (by simp [he8];omega)];exact qr9 _) ?_
  rw [jj9]
  obtain ⟨C1,hC1⟩:∃ C1,yk9 (byL D) a (byL e.key)=C1:=⟨_,rfl⟩
  have hC1l:C1.length=256+k:=by rw [← hC1,zd9 _ _ _ (by simp [he8,hDl];omega),xv9,hDl]
  rw [hC1] at hnext ⊢
  refine ⟨_,by simp;rfl,?_⟩
  refine yw9 (by simp;rfl) ?_
  refine W_rE [1,2,4,5,6,7,39,40,41] ?_
  refine yq9 6 (by simp [reA,he8,hd8];rfl) rfl ?_
  refine yq9 5 (by simp [reA,he8,hd8,b1];rfl) rfl ?_
  refine yq9 5 (by simp [reA,he8,hd8,b2,b3];rfl) rfl ?_
  refine yq9 2 (by simp [hC1l,show (8:Int) < (256 - a:Nat) by omega,show 8 < 256 - a by omega,show a+9≤256+k by omega,show a+8+1≤256+k by omega];rfl) rfl ?_
  obtain ⟨C2,hC2⟩:∃ C2,yk9 C1 (a+8) [.v (.int .u8 (B1:Nat))]=C2:=⟨_,rfl⟩
  have hC2l:C2.length=256+k:=by rw [← hC2,zd9 _ _ _ (by simp [hC1l];omega),hC1l]
  rw [hC2] at hnext
  simp only [hC2]
  refine yq9 2 (by simp [hC2l,show (9:Int) < (256 - a:Nat) by omega,show 9 < 256 - a by omega,show a+10≤256+k by omega,show a+9+1≤256+k by omega];rfl) rfl ?_
  obtain ⟨C3,hC3⟩:∃ C3,yk9 C2 (a+9) [.v (.int .u8 (B2:Nat))]=C3:=⟨_,rfl⟩
  have hC3l:C3.length=256+k:=by rw [← hC3,zd9 _ _ _ (by simp [hC2l];omega),hC2l]
  rw [hC3] at hnext
  simp only [hC3]
  refine yw9 (by simp [hC3l,show (10:Int) < (256 - a:Nat) by omega,show 10 < 256 - a by omega,show a+11≤256+k by omega,show a+10+1≤256+k by omega,hnext];rfl) ?_
  refine zr9 [1,2,4,5,6,7,39,40,41] (by simp [wj];rfl) ?_
  exact ⟨_,by omega,j+1,rfl,by omega,by simp⟩
 have hje:j=P.length:=by omega
 subst hje
 refine yr9 [1,2,4,5,6,7,42] (by simp;rfl) ?_
 refine yh9 ?_
 refine yt9 rfl (fun h=>by simp at h) (fun h=>?_)
 refine zs9 ?_
 have hdat:(datP P P.length k).take 256=dataE P:=by
  unfold datP dataE
  rw [List.take_length,show vn9 (254 - 12 * P.length+k)=List.replicate (254 - 12 * P.length) 0++List.replicate k 0 by unfold vn9;rw [List.replicate_append_replicate],← List.append_assoc,List.take_left' (by
   rw [List.length_append,List.length_append,xk8 hP8]
   simp
   omega)]
 obtain ⟨D,hD⟩:∃ D,datP P P.length k=D:=⟨_,rfl⟩
 rw [hD] at hDl hdat ⊢
 obtain ⟨o7,ho7,hf7⟩:=frz_by2 (H:=[O0,O1,O2,AObj.cells 5 (byL D)]) (q:=3) (n:=256) (cq:=256+k) (B:=D) rfl (by omega)
 refine W_frz 7 (tk:=1) rfl (by decide) hf7 ?_
 rw [hdat]
 obtain ⟨DT,hDT⟩:∃ DT,dataE P=DT:=⟨_,rfl⟩
 rw [hDT]
 refine W_any 7 (o:=o7) (sz:=1) (xs:=byL DT) rfl ?_
 subst hO0
 subst hO1
 subst hO2
 refine (show Wt true 0 Tryz.prog _ _ ⟨97,[(1,.v (.int .i64 (i:Nat))),(2,.loc 0 0),(4,.loc 1 0),(5,.v (.int .i64 (F:Nat))),(6,.lst .any 10 (reL P)),(7,.lst .any 1 (byL DT)),(42,.v (.bool false))],[.cells 70 [.lst .any 10 (reL l),.v (.int .i64 (n0:Nat))],.cells 100 [.v (.int .i64 0),.lst .nil 1 [],.lst .nil 1 [],.v (.bool false)],.froz 5 (byL Z),.froz 5 (byL D)]⟩ from ?_)
 refine W_rK [1,2,4,5,6,7,11] ?_
 refine yq9 1 (by simp;rfl) rfl ?_
 refine xp9 (f:=117) (args:=[.lst (.tip 5 302) 1 [.v (.int .u8 255)],.v (.int .i64 8)]) (by simp) (by simp [wq9,xq9]) ((vn6 302 _ (by simp [yn9,AObj.under,AV.under,AV.underL])).mono ?_)
 rintro r h' ⟨k2,rfl,rfl⟩
 refine ⟨_,by simp;rfl,?_⟩
 refine yw9 (by simp;rfl) ?_
 obtain ⟨o11,ho11,hf11⟩:=frz_room3 (h:=[.cells 70 [.lst .any 10 (reL l),.v (.int .i64 (n0:Nat))],.cells 100 [.v (.int .i64 0),.lst .nil 1 [],.lst .nil 1 [],.v (.bool false)],.froz 5 (byL Z),.froz 5 (byL D),AObj.cells 5 (km9 [255,255,255,255,255,255,255,255] k2)]) 4 8 8 [255,255,255,255,255,255,255,255] k2 rfl rfl
 refine W_frz 11 (tk:=1) rfl (by decide) hf11 ?_
 refine (show Wt true 0 Tryz.prog _ _ ⟨97,[(1,.v (.int .i64 (i:Nat))),(2,.loc 0 0),(4,.loc 1 0),(5,.v (.int .i64 (F:Nat))),(6,.lst .any 10 (reL P)),(7,.lst .any 1 (byL DT)),(11,.lst o11 1 (byL ffL))],[.cells 70 [.lst .any 10 (reL l),.v (.int .i64 (n0:Nat))],.cells 100 [.v (.int .i64 0),.lst .nil 1 [],.lst .nil 1 [],.v (.bool false)],.froz 5 (byL Z),.froz 5 (byL D),.froz 5 (byL [255,255,255,255,255,255,255,255])]⟩ from ?_)
 refine W_any 11 (o:=o11) (sz:=1) (xs:=byL ffL) rfl ?_
 refine ym9 [1,2,4,5,6,7,11] ?_
 refine vm9 (fun σ=>∃ o,(o=.any∨∃ T,o=.tip 5 T)∧σ=⟨97,[(1,.v (.int .i64 (i:Nat))),(4,.loc 1 0),(7,.lst .any 1 (byL DT)),(11,.lst o 1 (byL (keyE l i)))],[.cells 70 [.lst .any 10 (reL l),.v (.int .i64 (n0:Nat))],.cells 100 [.v (.int .i64 0),.lst .nil 1 [],.lst .nil 1 [],.v (.bool false)],.froz 5 (byL Z),.froz 5 (byL D),.froz 5 (byL [255,255,255,255,255,255,255,255])]⟩) ?_ ?_
 ·by_cases c13 : m + 21 < l.length
  ·have hFm : F = m := by omega
   have c13i:((F21:Nat):Int) < l.length:=by omega
   have c13n:F21 < l.length:=by omega
   have hPl:P.length=21:=by rw [← hP,zn7,List.length_take,List.length_drop];omega
   have hPl1:IntKind.i64.wrap ((P.length:Int) - 1)=20:=by rw [hPl];decide +kernel
   obtain ⟨e,he⟩:∃ e,P[20]?=some e:=⟨_,List.getElem?_eq_getElem (by omega)⟩
   have hge:P[20]'(by omega)=e:=by rw [List.getElem?_eq_getElem (by omega)] at he;exact Option.some.inj he
   have h20:20 < P.length:=by omega
   have he8:=hP8 e (List.mem_of_getElem? he)
   have htk:=jr8 he8
   have hkey:keyE l i=e.key:=by
    unfold keyE
    rw [if_pos (by omega)]
    rw [← hP,zn7,List.getElem?_take,if_pos (by omega),List.getElem?_drop] at he
    rw [List.getD_eq_getElem?_getD,he]
    rfl
   rw [hkey]
   have hcl:=jj7 e.key (by omega)
   refine yr9 [1,2,4,5,6,7,82] (by simp [w2,c13i,c13n];rfl) ?_
   refine yt9 (t:=true) (by simp [c13i,c13n]) (fun h=>?_) (fun h=>by simp at h)
   refine W_rE [1,4,7,11] ?_
   refine yq9 4 (by simp [hPl1];rfl) rfl ?_
   refine yq9 3 (by simp [hPl1,h20,hge,reA,he8,htk,maxLen];rfl) rfl ?_
   refine yf9 (by simp) (by first | (simp;done) | (simp;rfl)) hcl (by simp;rfl) ?_
   refine yw9 (by simp;rfl) ?_
   exact ⟨_,.inr ⟨181,rfl⟩,by simp [ud9]⟩
  ·have c13i : ¬ ((F21 : Nat) : Int) < l.length := by omega
   have c13n:¬ F21 < l.length:=by omega
   have hkey:keyE l i=ffL:=by
    unfold keyE
    rw [if_neg (by omega)]
   rw [hkey]
   refine yr9 [1,2,4,5,6,7,11,82] (by simp [w2,c13i,c13n];rfl) ?_
   refine yt9 (t:=false) (by simp [c13i,c13n]) (fun h=>by simp at h) (fun h=>?_)
   refine ym9 [1,4,7,11] ?_
   refine yg9 ?_
   exact ⟨.any,.inl rfl,by simp [ud9]⟩
 rintro _ ⟨o,ho,rfl⟩
 obtain ⟨K,hK⟩:∃ K,keyE l i=K:=⟨_,rfl⟩
 have wr1:Int.tmod (i:Int) 6=((i % 6:Nat):Int):=by rw [Int.tmod_eq_emod_of_nonneg (by omega)];omega
 have wr2:IntKind.i64.wrap (((i % 6:Nat):Int)+1)=((i % 6+1:Nat):Int):=by rw [w64 (by omega) (by omega)];omega
 obtain ⟨i6,hi6⟩:∃ i6,i % 6=i6:=⟨_,rfl⟩
 rw [hi6] at wr1 wr2
 rw [hK,show blkE l i=⟨((i6+1:Nat):Int),K,DT,false⟩ by rw [blkE,hi6,hK,hP,hDT]]
 refine W_rK [4] ?_
 refine yq9 5 (by simp [wr1,wr2];rfl) rfl ?_
 refine yw9 (by simp [yk9];rfl) ?_
 refine yj9 ?_
 repeat (first | refine yp9 ?_ | refine ys9 ?_)
 rcases ho with rfl | ⟨T,rfl⟩
 all_goals exact ⟨_,by simp [retQ,frzV,frzL];exact ⟨rfl,by simp [AV.rf,AV.rfL]⟩,.inr (by simp [AV.plain,AV.plainL])⟩
set_option maxRecDepth 20000
def okFt (f:Fl) (t:List Rec):Prop:=f=.ex∨(∃ U,U % 2=1∧f=.tip 100 U)∨(f=.nil∧t=[])
def okLt (x:AV) (t:List Rec):Prop:=∃ f,x=.lst f 4 (trL t)∧okFt f t
def okAt (x:AV) (t:List Rec):Prop:=x=.lst .any 4 (trL t)∨okLt x t
theorem okAt.kill {x:AV} {t:List Rec} (h:okAt x t) (T:Nat):okAt (x.kill T) t:=by
 rcases h with rfl | ⟨f,rfl,rfl | ⟨U,hU,rfl⟩ | ⟨rfl,rfl⟩⟩
 ·exact .inl rfl
 ·exact .inr ⟨.ex,rfl,.inl rfl⟩
 ·by_cases e:U=T
  ·subst e;exact .inl (by simp [AV.kill,hU])
  ·exact .inr ⟨.tip 100 U,by simp [AV.kill,e],.inr (.inl ⟨U,hU,rfl⟩)⟩
 ·exact .inr ⟨.nil,rfl,.inr (.inr ⟨rfl,rfl⟩)⟩
theorem okAt.under {x:AV} {t:List Rec} (h:okAt x t) (m:Nat):x.under m=true:=by
 rcases h with rfl | ⟨f,rfl,_⟩ <;> simp [AV.under]
theorem okAt.dp {x:AV} {t:List Rec} (h:okAt x t):x.dp=.lst .any 4 (trL t):=by
 rcases h with rfl | ⟨f,rfl,_⟩ <;> simp [AV.dp]
structure RC (A:List (List Rec)) (cap:Nat) (cs:List AV):Prop where
 len:cs.length=cap
 le:A.length≤cap
 old:∀ (j:Nat) (t:List Rec),A[j]?=some t→∃ x:AV,cs[j]?=some x∧okAt x t
 cur:∀ t,A.getLast?=some t→∃ x:AV,cs[A.length - 1]?=some x∧okLt x t
 rest:∀ j:Nat,A.length≤j→j < cap→cs[j]?=some (.lst .nil 4 [])
theorem RC.ce {A:List (List Rec)} {cap:Nat} {cs:List AV} (h:RC A cap cs):∀ x∈cs,∃ t,okAt x t:=by
 intro x hx
 obtain ⟨j,hj,rfl⟩:=List.mem_iff_getElem.1 hx
 rcases Nat.lt_or_ge j A.length with h1 | h1
 ·obtain ⟨y,h2,h3⟩:=h.old j _ (List.getElem?_eq_getElem h1)
  rw [List.getElem?_eq_getElem hj] at h2
  cases h2
  exact ⟨_,h3⟩
 ·have h2:=h.rest j h1 (by rw [← h.len];exact hj)
  rw [List.getElem?_eq_getElem hj] at h2
  have h3:=Option.some.inj h2
  exact ⟨[],.inr ⟨.nil,by rw [h3];rfl,.inr (.inr ⟨rfl,rfl⟩)⟩⟩
theorem RC.under {A:List (List Rec)} {cap:Nat} {cs:List AV} (h:RC A cap cs) (m:Nat):AV.underL m cs=true:=by
 have:∀ xs:List AV,(∀ x∈xs,∃ t,okAt x t)→AV.underL m xs=true:=by
  intro xs
  induction xs with
  | nil=>intro _;rfl
  | cons x xs ih =>
   intro hx
   obtain ⟨t,ht⟩:=hx x List.mem_cons_self
   simp only [AV.underL,ht.under m,ih fun y hy=>hx y (List.mem_cons_of_mem _ hy),Bool.and_self]
 exact this cs h.ce
theorem vb8 (T:Nat):∀ xs:List AV,(AV.killL T xs).length=xs.length:=fun xs=>by induction xs <;> simp_all [AV.killL]
theorem kj7 {A:List (List Rec)} (h:A≠[]) (t':List Rec):(A.dropLast++[t']).length=A.length:=by
 rw [List.length_append,List.length_dropLast,List.length_singleton]
 have:=List.length_pos_iff.2 h
 omega
theorem RC.grow {A:List (List Rec)} {t':List Rec} {cap T:Nat} {cs:List AV} (h:RC A cap cs) (hA:A≠[]) {x:AV} (hx:okLt x t'):RC (A.dropLast++[t']) cap (yk9 (AV.killL T cs) (A.length - 1) [x]):=by
 have hp:=List.length_pos_iff.2 hA
 have hle:A.length - 1+([x]:List AV).length≤(AV.killL T cs).length:=by rw [vb8,h.len];have:=h.le;simp;omega
 have hl:=kj7 hA t'
 refine ⟨by rw [zd9 _ _ _ hle,vb8,h.len],by rw [hl];exact h.le,fun j t hj=>?_,fun t ht=>?_,fun j h1 h2=>?_⟩
 ·have hjl := (List.getElem?_eq_some_iff.1 hj).1
  rw [hl] at hjl
  by_cases e:j=A.length - 1
  ·rw [List.getElem?_append_right (by rw [List.length_dropLast];omega),List.length_dropLast,e,Nat.sub_self] at hj
   simp at hj
   subst hj
   rw [wc9 _ _ _ hle,if_pos ⟨by omega,by simp;omega⟩,e,Nat.sub_self]
   exact ⟨x,rfl,.inr hx⟩
  ·rw [List.getElem?_append_left (by rw [List.length_dropLast];omega),List.getElem?_dropLast,if_pos (by omega)] at hj
   rw [wc9 _ _ _ hle,if_neg (by simp;omega),wh9]
   obtain ⟨y,k1,k2⟩:=h.old j t hj
   exact ⟨_,by rw [k1];rfl,k2.kill T⟩
 ·rw [List.getLast?_append] at ht
  simp at ht
  subst ht
  rw [hl,wc9 _ _ _ hle,if_pos ⟨Nat.le_refl _,by simp⟩,Nat.sub_self]
  exact ⟨x,rfl,hx⟩
 ·rw [hl] at h1
  rw [wc9 _ _ _ hle,if_neg (by simp;omega),wh9,h.rest j h1 h2]
  rfl
theorem RC.next {A:List (List Rec)} {t':List Rec} {cap:Nat} {cs:List AV} (h:RC A cap cs) (hc:A.length+1≤cap) {x:AV} (hx:okLt x t'):RC (A++[t']) cap (yk9 cs A.length [x]):=by
 have hle:A.length+([x]:List AV).length≤cs.length:=by rw [h.len];simpa using hc
 refine ⟨by rw [zd9 _ _ _ hle,h.len],by simpa using hc,fun j t hj=>?_,fun t ht=>?_,fun j h1 h2=>?_⟩
 ·have hjl := (List.getElem?_eq_some_iff.1 hj).1
  simp at hjl
  rcases Nat.lt_or_ge j A.length with h1 | h1
  ·rw [List.getElem?_append_left h1] at hj
   rw [wc9 _ _ _ hle,if_neg (by omega)]
   exact h.old j t hj
  ·have:j=A.length:=by omega
   subst this
   rw [List.getElem?_append_right h1,Nat.sub_self] at hj
   simp at hj
   subst hj
   rw [wc9 _ _ _ hle,if_pos ⟨Nat.le_refl _,by simp⟩,Nat.sub_self]
   exact ⟨x,rfl,.inr hx⟩
 ·rw [List.getLast?_append] at ht
  simp at ht
  subst ht
  rw [List.length_append,List.length_singleton,Nat.add_sub_cancel,wc9 _ _ _ hle,if_pos ⟨Nat.le_refl _,by simp⟩,Nat.sub_self]
  exact ⟨x,rfl,hx⟩
 ·rw [List.length_append,List.length_singleton] at h1
  rw [wc9 _ _ _ hle,if_neg (by simp;omega)]
  exact h.rest j (by omega) h2
theorem RC.move {A : List (List Rec)} {t' : List Rec} {cap cap' : Nat} {cs : List AV} (h : RC A cap cs) (hc : A.length + 1 ≤ cap') {x : AV} (hx : okLt x t') :
  RC (A++[t']) cap' (cs.take A.length++[x]++List.replicate (cap' - (A.length+1)) (.lst .nil 4 [])):=by
 have ht:(cs.take A.length).length=A.length:=by rw [List.length_take,h.len];have:=h.le;omega
 refine ⟨by simp [ht];omega,by simpa using hc,fun j t hj=>?_,fun t hl=>?_,fun j h1 h2=>?_⟩
 ·have hjl := (List.getElem?_eq_some_iff.1 hj).1
  simp at hjl
  rcases Nat.lt_or_ge j A.length with h1 | h1
  ·rw [List.getElem?_append_left h1] at hj
   rw [List.append_assoc,List.getElem?_append_left (by omega),List.getElem?_take,if_pos (by omega)]
   exact h.old j t hj
  ·have:j=A.length:=by omega
   subst this
   rw [List.getElem?_append_right h1,Nat.sub_self] at hj
   simp at hj
   subst hj
   rw [List.append_assoc,List.getElem?_append_right (by omega),ht,Nat.sub_self]
   exact ⟨x,rfl,.inr hx⟩
 ·rw [List.getLast?_append] at hl
  simp at hl
  subst hl
  rw [List.length_append,List.length_singleton,Nat.add_sub_cancel,List.append_assoc,List.getElem?_append_right (by omega),ht,Nat.sub_self]
  exact ⟨x,rfl,hx⟩
 ·simp at h1
  rw [List.append_assoc,List.getElem?_append_right (by omega),ht,List.getElem?_append_right (by simp;omega),List.getElem?_replicate]
  rw [if_pos (by simp;omega)]
theorem RC.fin {A:List (List Rec)} {cap:Nat} {cs:List AV} (h:RC A cap cs):(AV.dpL cs).take A.length=arL A:=by
 apply List.ext_getElem?
 intro j
 have hdp:∀ (xs:List AV) (j:Nat),(AV.dpL xs)[j]?=(xs[j]?).map AV.dp:=by
  intro xs
  induction xs with
  | nil=>intro j;simp [AV.dpL]
  | cons x xs ih=>intro j;cases j <;> simp [AV.dpL,ih]
 rw [List.getElem?_take,hdp]
 split
 ·rename_i hj
  obtain ⟨x,h1,h2⟩:=h.old j _ (List.getElem?_eq_getElem hj)
  rw [h1,arL,List.getElem?_map,List.getElem?_eq_getElem hj]
  exact congrArg some h2.dp
 ·rename_i hj
  rw [List.getElem?_eq_none]
  simpa using hj
theorem RC.nils (cap:Nat):RC [] cap (List.replicate cap (.lst .nil 4 [])):=by
 refine ⟨by simp,by simp,by simp,by simp,fun j _ h=>?_⟩
 rw [List.getElem?_replicate,if_pos h]
theorem killL_ok {cs:List AV} (h:∀ x∈cs,∃ t,okAt x t):AV.killL 0 cs=cs:=by
 induction cs with
 | nil=>rfl
 | cons x cs ih =>
  simp only [AV.killL,ih (fun y hy=>h y (List.mem_cons_of_mem _ hy))]
  congr 1
  obtain ⟨t,rfl | ⟨f,rfl,rfl | ⟨U,hU,rfl⟩ | ⟨rfl,rfl⟩⟩⟩:=h x List.mem_cons_self
  ·rfl
  ·rfl
  ·have:¬ U=0:=by omega
   simp [AV.kill,this]
  ·rfl
theorem RC.grow0 {A:List (List Rec)} {t':List Rec} {cap:Nat} {cs:List AV} (h:RC A cap cs) (hA:A≠[]) {x:AV} (hx:okLt x t'):RC (A.dropLast++[t']) cap (yk9 cs (A.length - 1) [x]):=by
 have:=h.grow (T:=0) hA hx
 rwa [killL_ok h.ce] at this
theorem RC.last {A:List (List Rec)} {cap:Nat} {cs:List AV} (h:RC A cap cs) (hA:A≠[]):∃ x:AV,cs[A.length - 1]?=some x∧okLt x (xc9 A):=by
 refine h.cur _ ?_
 unfold xc9
 rw [List.getLast?_eq_some_getLast hA]
 rfl
theorem vk7 (l:List RE) {i:Nat} (h:i % 6=0):layG l (i+1)=layG l i++[[blkE l i]]:=by
 unfold layG
 rw [show (i+1+5) / 6=(i+5) / 6+1 by omega,List.range_succ (n:=(i+5) / 6),List.map_append]
 congr 1
 ·apply List.map_congr_left
  intro j hj
  rw [List.mem_range] at hj
  congr 1
  rw [List.range_succ,List.drop_append_of_le_length (by simp;omega),List.take_append_of_le_length (by simp;omega)]
 ·simp only [List.map_cons,List.map_nil]
  rw [show (i+5) / 6=i / 6 by omega,show 6 * (i / 6)=i by omega,List.range_succ,List.drop_append_of_le_length (by simp),List.drop_eq_nil_of_le (by simp)]
  rfl
theorem layG_more (l:List RE) {i:Nat} (h:i % 6≠0):layG l (i+1)=(layG l i).dropLast++[xc9 (layG l i)++[blkE l i]]:=by
 obtain ⟨q,hq⟩:∃ q,i / 6=q:=⟨_,rfl⟩
 have e1:(i+5) / 6=q+1:=by omega
 have e2:(i+1+5) / 6=q+1:=by omega
 have hu:∀ n,(n+5) / 6=q+1→layG l n=((List.range q).map fun j=>(((List.range n).drop (6 * j)).take 6).map (blkE l))++[(((List.range n).drop (6 * q)).take 6).map (blkE l)]:=by
  intro n hn
  unfold layG
  rw [hn,List.range_succ (n:=q),List.map_append]
  rfl
 rw [hu (i+1) e2,hu i e1,List.dropLast_concat]
 unfold xc9
 rw [List.getLast?_append]
 simp only [List.getLast?_singleton,Option.some_or,Option.getD_some]
 congr 1
 ·apply List.map_congr_left
  intro j hj
  rw [List.mem_range] at hj
  congr 1
  rw [List.range_succ,List.drop_append_of_le_length (by simp;omega),List.take_append_of_le_length (by simp;omega)]
 ·congr 1
  rw [List.range_succ,List.drop_append_of_le_length (by simp;omega),List.take_of_length_le (by simp;omega),List.take_of_length_le (by simp;omega)]
  simp
set_option maxRecDepth 20000
theorem us7 (t:List Rec) (r:Rec):trL t++[recA r]=trL (t++[r]):=by simp [trL_append,jq8]
theorem xr8 (a:AV) (n:Nat):repC n [a]=List.replicate n a:=by
 induction n with
 | zero=>rfl
 | succ n ih=>rw [repC,ih];rfl
theorem lay_sound (l:List RE) (n:Nat) (h8:∀ e∈l,e.key.length=8) (hs:∀ e∈l,e.trk < 1000000000∧e.rn < 1000000000) (hl:l.length≤1000000000) (hn:n≤1000):Sound Tryz.prog 41 [.agg [.lst .any 10 (reL l),.v (.int .i64 (n:Nat))]] (.lst (.tip 80 1) 1 (arL (layG l n))):=by
 refine zn9 Tryz.func41 rfl (by decide +kernel) (by simp [Tryz.f41]) (by simp [AV.rfL,AV.rf]) (by simp [AV.tlL,AV.tl]) (rs:=[.tmp 2]) rfl ?_
 rw [show Tryz.f41.ntmps=29 from rfl]
 have htr:=up9 l n (by omega)
 obtain ⟨N,hN⟩:∃ N,(n+5) / 6=N:=⟨_,rfl⟩
 rw [hN] at htr
 have hN1:N≤1000:=by omega
 have hN2:(N:Int)≤9223372036854775807:=by omega
 have hN3:N * 24≤281474976710656:=by omega
 refine yr9 [1] (by simp;rfl) ?_
 refine W_rK [1,3] ?_
 refine yq9 1 (by simp;rfl) rfl ?_
 refine yf9 (by simp) (by first | (simp;done) | (simp;rfl)) htr (by simp;rfl) ?_
 refine yw9 (by simp [hN1,hN2,hN3,show 24 * (N:Int)≤281474976710656 by omega,show 24 * N≤281474976710656 by omega];rfl) ?_
 rw [xr8]
 refine yh9 ?_
 refine yr9 [1,3,9,10] (by simp;rfl) ?_
 refine yl9 ?_
 refine zf9 (fun q s=>∃ (i:Nat) (cs:List AV),q=n - i∧i≤n∧RC (layG l i) N cs∧s=⟨29,[(1,.loc 0 0),(3,.arr 1 0 N N),(9,.v (.int .i64 (n:Nat))),(10,.v (.int .i64 (i:Nat)))],[.cells 70 [.lst .any 10 (reL l),.v (.int .i64 (n:Nat))],.cells 80 cs]⟩) (k:=n) ⟨0,_,rfl,by omega,RC.nils N,by simp⟩ ?_
 rintro q s ⟨i,cs,rfl,hi,hrc,rfl⟩
 have hlay:=qc9 l i
 by_cases c:i < n
 ·have ci : (i : Int) < n := by omega
  have wi:=w64 (n:=(i:Int)+1) (by omega) (by omega)
  obtain ⟨x,hx⟩:∃ x,i / 6=x:=⟨_,rfl⟩
  have wq:Int.tdiv (i:Int) 6=(x:Nat):=by rw [Int.tdiv_eq_ediv_of_nonneg (by omega)];omega
  have wx:IntKind.i64.wrap (x:Nat)=(x:Nat):=w64 (by omega) (by omega)
  have hxN:x < N:=by omega
  have hxNi:(x:Int) < N:=by omega
  have hcl:=hrc.len
  have hblk:=block24_sound l n i h8 hs hl (by omega)
  obtain ⟨B,hB⟩:∃ B,blkE l i=B:=⟨_,rfl⟩
  rw [hB] at hblk
  simp only [recA] at hblk
  have hle1:x+1≤cs.length:=by omega
  refine yr9 [1,3,9,10,11] (by simp [c,ci];rfl) ?_
  refine yh9 ?_
  refine yt9 (t:=true) (by simp [c,ci]) (fun h=>?_) (fun h=>by simp at h)
  refine yg9 ?_
  refine yh9 ?_
  refine yl9 ?_
  refine yr9 [1,3,9,10,4] (by simp;rfl) ?_
  by_cases h6:i % 6=0
  ·have hxl:(layG l i).length=x:=by omega
   have hcx:cs[x]?=some (.lst .nil 4 []):=hrc.rest x (by omega) hxN
   have hnew:=hrc.next (t':=[B]) (x:=.lst (.tip 100 51) 4 (trL [B])) (by omega) ⟨_,rfl,.inr (.inl ⟨51,by decide,rfl⟩)⟩
   rw [hxl,← hB,← vk7 l h6,hB] at hnew
   refine yc8 [1,3,9,10] mx (by decide +kernel) ?_
   refine yd9 5 (by simp [wq,wx,hxN,hxNi];rfl) rfl ?_
   refine yd9 5 (by simp [wq,wx,hxN,hxNi,hcx];rfl) rfl ?_
   refine yv9 (by simp) (by first | (simp;done) | (simp;rfl)) hblk (by simp;rfl) ?_
   refine yb9 (by simp [wq,wx,hxN,hxNi,hcx,hle1,catK,AV.cellsK,AV.kone,AV.koneL];rfl) ?_
   refine zr9 [1,3,9,10] (by simp [wi];rfl) ?_
   exact ⟨_,by omega,i+1,_,rfl,by omega,hnew,by simp [jq8]⟩
  ·have hne:layG l i≠[]:=by
    intro h
    rw [h] at hlay
    simp at hlay
    omega
   have hxl:(layG l i).length - 1=x:=by omega
   obtain ⟨y,hcx,f,rfl,hf⟩:=hrc.last hne
   rw [hxl] at hcx
   obtain ⟨now,hnow⟩:∃ now,xc9 (layG l i)=now:=⟨_,rfl⟩
   have hnl:now.length≤6:=by
    rw [← hnow]
    unfold xc9
    rw [List.getLast?_eq_some_getLast hne]
    obtain ⟨j,hj,e⟩:=List.mem_map.1 (List.getLast_mem hne)
    simp only [Option.getD_some]
    rw [← e,List.length_map,List.length_take]
    omega
   rw [hnow] at hcx hf
   have b3:(now.length+1) * 64≤140737488355328:=by omega
   have b4:64 * (now.length+1)≤140737488355328:=by omega
   have hmore:=layG_more l h6
   rw [hnow,hB] at hmore
   have hsn:trL now++[AV.agg [.v (.int .i64 B.R),.lst .any 1 (byL B.key),.lst .any 1 (byL B.data),.v (.bool B.bad)]]=trL (now++[B]):=us7 now B
   rcases hf with rfl | ⟨U,hU,rfl⟩ | ⟨rfl,h0⟩
   ·have hnew:=hrc.grow0 hne (t':=now++[B]) (x:=.lst (.tip 100 51) 4 (trL (now++[B]))) ⟨_,rfl,.inr (.inl ⟨51,by decide,rfl⟩)⟩
    rw [hxl,← hmore] at hnew
    refine yc8 [1,3,9,10] mx (by decide +kernel) ?_
    refine yd9 5 (by simp [wq,wx,hxN,hxNi];rfl) rfl ?_
    refine yd9 5 (by simp [wq,wx,hxN,hxNi,hcx];rfl) rfl ?_
    refine yv9 (by simp) (by first | (simp;done) | (simp;rfl)) hblk (by simp;rfl) ?_
    refine yb9 (by simp [wq,wx,hxN,hxNi,hcx,hle1,catK,AV.cellsK,AV.kone,AV.koneL,b3,b4,hsn];rfl) ?_
    refine zr9 [1,3,9,10] (by simp [wi];rfl) ?_
    exact ⟨_,by omega,i+1,_,rfl,by omega,hnew,by simp⟩
   ·have hnew:=hrc.grow (T:=U) hne (t':=now++[B]) (x:=.lst (.tip 100 U) 4 (trL (now++[B]))) ⟨_,rfl,.inr (.inl ⟨U,hU,rfl⟩)⟩
    rw [hxl,← hmore] at hnew
    have hkl:=vb8 U cs
    have hle2:x+1≤(AV.killL U cs).length:=by omega
    refine yc8 [1,3,9,10] mx (by decide +kernel) ?_
    refine yd9 5 (by simp [wq,wx,hxN,hxNi];rfl) rfl ?_
    refine yd9 5 (by simp [wq,wx,hxN,hxNi,hcx];rfl) rfl ?_
    refine yv9 (by simp) (by first | (simp;done) | (simp;rfl)) hblk (by simp;rfl) ?_
    refine yb9 (by simp [wq,wx,hxN,hxNi,hcx,hle1,hle2,catK,AV.cellsK,AV.kone,AV.koneL,b3,b4,hsn,AObj.kill];rfl) ?_
    refine zr9 [1,3,9,10] (by simp [wi];rfl) ?_
    exact ⟨_,by omega,i+1,_,rfl,by omega,hnew,by simp [hU]⟩
   ·subst h0
    have hnew:=hrc.grow0 hne (t':=[B]) (x:=.lst (.tip 100 51) 4 (trL [B])) ⟨_,rfl,.inr (.inl ⟨51,by decide,rfl⟩)⟩
    rw [List.nil_append] at hmore
    rw [hxl,← hmore] at hnew
    refine yc8 [1,3,9,10] mx (by decide +kernel) ?_
    refine yd9 5 (by simp [wq,wx,hxN,hxNi];rfl) rfl ?_
    refine yd9 5 (by simp [wq,wx,hxN,hxNi,hcx];rfl) rfl ?_
    refine yv9 (by simp) (by first | (simp;done) | (simp;rfl)) hblk (by simp;rfl) ?_
    refine yb9 (by simp [wq,wx,hxN,hxNi,hcx,hle1,catK,AV.cellsK,AV.kone,AV.koneL];rfl) ?_
    refine zr9 [1,3,9,10] (by simp [wi];rfl) ?_
    exact ⟨_,by omega,i+1,_,rfl,by omega,hnew,by simp [jq8]⟩
 have hie:i=n:=by omega
 subst hie
 rw [hN] at hlay
 refine yr9 [3,11] (by simp;rfl) ?_
 refine yh9 ?_
 refine yt9 rfl (fun h=>by simp at h) (fun h=>?_)
 refine zs9 ?_
 refine yr9 [2] (by simp;rfl) ?_
 refine W_dpB 1 (ty:=80) (cs:=cs) rfl ?_
 have hfin:=hrc.fin
 have hcl:=hrc.len
 have hdl:=wd9 cs
 rw [hlay,List.take_of_length_le (by omega)] at hfin
 rw [hfin]
 obtain ⟨A,hA⟩:∃ A,layG l i=A:=⟨_,rfl⟩
 rw [hA] at hlay ⊢
 subst hlay
 refine yj9 ?_
 repeat (first | refine yp9 ?_ | refine ys9 ?_)
 have hch:chunk false 1 A.length (arL A)=arL A:=by
  have:=chunk1 (arL A)
  simpa using this
 exact ⟨.lst (.tip 80 1) 1 (arL A),by simp [retQ,wt9,frzV,hch],.refl _⟩
set_option maxRecDepth 20000
def kt9 (t:List (List Rec)):Bool:=decide (∀ r∈(dirT t).flatten,r.data.length=256)&&(decide (1≤(dirT t).flatten.length)&&(decide ((dirT t).flatten.length≤64)&&(decide (((dirT t).flatten.length+5) / 6=(dirT t).length)&&ordE (rawE (dirT t).flatten))))
def qk9 (t:List (List Rec)):List RE × Nat × Bool:=if kt9 t then (rawE (dirT t).flatten,(dirT t).flatten.length,decide (layG (rawE (dirT t).flatten) (dirT t).flatten.length=dirT t)) else ([],0,false)
theorem AV.Le.agg {P:Program} {xs ys:List AV} (hl:xs.length=ys.length) (h:∀ (j:Nat) (x y:AV),xs[j]?=some x→ys[j]?=some y→AV.Le P x y):AV.Le P (.agg xs) (.agg ys):=fun c w u T hT h1 h2=>by
 simp only [AV.norm] at h1 h2 ⊢
 obtain ⟨us,rfl,hul,hrr⟩:=kj8 h1
 have hoo:=qv7 h2
 have hln:∀ l:List AV,(AV.normL T l).length=l.length:=fun l=>by induction l <;> simp_all [AV.normL]
 have key:∀ j y,(AV.normL T ys)[j]?=some y→Rep c w y (us.getD j undef)∧Own P c w y (us.getD j undef):=by
  intro j y hj
  rw [kp9] at hj
  obtain ⟨y0,hy,rfl⟩:=Option.map_eq_some_iff.1 hj
  have hjl:j < xs.length:=by rw [hl];exact (List.getElem?_eq_some_iff.1 hy).1
  have hx:xs[j]?=some xs[j]:=List.getElem?_eq_getElem hjl
  have hxn:(AV.normL T xs)[j]?=some (xs[j].norm T):=by rw [kp9,hx];rfl
  exact h j _ _ hx hy c w _ T hT (hrr j _ hxn) (hoo j _ hxn)
 exact ⟨.agg (by rw [hln,← hl,← hul,hln]) fun j y hj=>(key j y hj).1,.agg fun j y hj=>(key j y hj).2⟩
theorem Le_bad:AV.Le Tryz.prog (.tup [.agg [.lst .nil 10 [],.v (.int .i64 0)],.v (.bool false)]) (.tup [.agg [.lst (.tip 78 1) 10 (reL []),.v (.int .i64 ((0:Nat):Int))],.v (.bool false)]):=by
 refine AV.Le.tup2 (AV.Le.agg rfl fun j x y hx hy=>?_) (.refl _)
 match j with
 | 0=>simp at hx hy;subst hx hy;exact AV.Le.nil (by decide +kernel)
 | 1=>simp at hx hy;subst hx hy;exact .refl _
 | j+2=>simp at hx
def sq1 : Code → Code
 | .seq a _=>a
 | c=>c
def sq2 : Code → Code
 | .seq _ b=>b
 | c=>c
def bkC : Code → Code
 | .block _ b=>b
 | c=>c
def lpC : Code → Code
 | .loop b=>b
 | c=>c
noncomputable def readC:Code:=Tryz.f29.body.getD .skip
noncomputable def readX:Code:=lpC (bkC (sq2 (sq1 (sq2 (sq2 (sq2 readC))))))
noncomputable def readB:Code:=bkC (sq1 (sq2 (sq2 readX)))
noncomputable def readL:Code:=lpC (bkC (sq2 (sq1 (sq2 (sq2 readB)))))
noncomputable def readE4:Code:=sq2 (sq2 (sq2 (sq2 (sq2 (bkC (sq1 (sq2 (sq2 readL))))))))
noncomputable def readY:Code:=sq2 (sq2 (sq2 (sq2 readC)))
def OE (fl:Fl) (L:List RE):Prop:=(fl=.nil∧L=[])∨fl=.tip 78 177
theorem zq9 {fl:Fl} {L:List RE} (h:OE fl L) (T s:Nat) (xs:List AV) (h1:T≠177):(AV.lst fl s xs).kill T=.lst fl s xs:=by
 rcases h with ⟨rfl,_⟩ | rfl
 ·simp [AV.kill]
 ·simp [AV.kill,h1.symm]
theorem ql9 (a b:List Rec):rawE (a++b)=rawE a++rawE b:=by simp [rawE]
theorem yk7 {t:List (List Rec)} {i:Nat} (hi:i≤t.length) (hk:∀ l∈t.take i,us9 l=true) (hx:∀ l,t[i]?=some l→us9 l=false):dirT t=t.take i:=by
 conv=>lhs;rw [← List.take_append_drop i t]
 rw [dirT,kn9 _ _ _ hk]
 have:(t.drop i).takeWhile us9=[]:=by
  cases h:t.drop i with
  | nil=>rfl
  | cons x r =>
   have h0:t[i]?=some x:=by
    have:=congrArg (·[0]?) h
    simpa using this
   rw [List.takeWhile_cons,hx x h0]
   rfl
 rw [this,List.append_nil]
theorem dirT_has {t:List (List Rec)} {i:Nat} (hk:∀ l∈t.take i,us9 l=true):∃ r,dirT t=t.take i++r:=by
 refine ⟨(t.drop i).takeWhile us9,?_⟩
 conv=>lhs;rw [← List.take_append_drop i t]
 rw [dirT,kn9 _ _ _ hk]
theorem or16 (a b:UInt8):IntKind.i64.wrap (((IntKind.i64.wrap ((a.toNat:Int) * 2 ^ min 8 IntKind.i64.bits) % 2 ^ IntKind.i64.bits).toNat ||| b.toNat % 2 ^ IntKind.i64.bits:Nat):Int)=((256 * a.toNat+b.toNat:Nat):Int):=by
 have ha:=a.toNat_lt
 have hb:=b.toNat_lt
 have e1:(2:Int) ^ min 8 IntKind.i64.bits=256:=rfl
 have e2:(2:Int) ^ IntKind.i64.bits=18446744073709551616:=rfl
 have e3:(2:Nat) ^ IntKind.i64.bits=18446744073709551616:=rfl
 rw [e1,e2,e3,w64 (n:=(a.toNat:Int) * 256) (by omega) (by omega)]
 have h1:((a.toNat:Int) * 256 % 18446744073709551616).toNat=256 * a.toNat:=by omega
 have h2:b.toNat % 18446744073709551616=b.toNat:=by omega
 rw [h1,h2]
 have:=Nat.shiftLeft_add_eq_or_of_lt (i:=8) hb a.toNat
 rw [Nat.shiftLeft_eq] at this
 rw [show 256 * a.toNat=a.toNat * 2 ^ 8 by omega,← this,w64 (by omega) (by omega)]
theorem read_ents {t : List (List Rec)} {l : List Rec} {r : Rec} {D : List UInt8} (hDl : D.length = 256) {M : List RE} {fl : Fl} (hfl : OE fl M) (hMl : M.length ≤ 21 * 40000000) {i j k : Nat} {u : Int} (hlim : min u 256 = (limE D : Nat)) (hu0 : 0 ≤ u) (hu1 : u ≤ 4294967295) {Q : Exit → St → Prop}
  (hQ:∀ fl N,M++(List.range ((limE D - 2) / 12)).map (fun i=>uw8 D (2+12 * i))=N→OE fl N→Q .normal ⟨121,[(0,.lst .any 1 (arL t)),(2,.loc 0 0),(3,.v (.bool false)),(4,.loc 1 0),(5,.v (.int .i64 (i:Nat))),(14,.lst .any 1 (arL t)),(15,.v (.int .i64 (t.length:Nat))),(16,.v (.int .i64 (i:Nat))),(23,.lst .any 4 (trL l)),(24,.v (.int .i64 (l.length:Nat))),(25,.v (.int .i64 (j:Nat)))],[.cells 70 [.lst .nil 10 [],.v (.int .i64 0)],.cells 70 [.lst fl 10 (reL N),.v (.int .i64 (k:Nat))],.cells 100 [.v (.int .i64 r.R),.lst .any 1 (byL r.key),.lst .any 1 (byL D),.v (.bool r.bad)]]⟩) :
  Wt true 0 Tryz.prog readE4 Q ⟨121,[(0,.lst .any 1 (arL t)),(2,.loc 0 0),(3,.v (.bool false)),(4,.loc 1 0),(5,.v (.int .i64 (i:Nat))),(14,.lst .any 1 (arL t)),(15,.v (.int .i64 (t.length:Nat))),(16,.v (.int .i64 (i:Nat))),(23,.lst .any 4 (trL l)),(24,.v (.int .i64 (l.length:Nat))),(25,.v (.int .i64 (j:Nat))),(9,.loc 2 0),(10,.v (.int .u32 u)),(12,.v (.int .i64 2))],[.cells 70 [.lst .nil 10 [],.v (.int .i64 0)],.cells 70 [.lst fl 10 (reL M),.v (.int .i64 (k:Nat))],.cells 100 [.v (.int .i64 r.R),.lst .any 1 (byL r.key),.lst .any 1 (byL D),.v (.bool r.bad)]]⟩:=by
 have hlim2:limE D≤256:=by rw [limE,hDl];exact Nat.min_le_right _ _
 have wu:IntKind.i64.wrap u=u:=w64 (by omega) (by omega)
 refine yl9 ?_
 refine zf9 (fun q σ=>∃ m a:Nat,q=(limE D - 2) / 12 - m∧a=2+12 * m∧m≤(limE D - 2) / 12∧∃ fl N,M++(List.range m).map (fun i=>uw8 D (2+12 * i))=N∧OE fl N∧σ=⟨121,[(0,.lst .any 1 (arL t)),(2,.loc 0 0),(3,.v (.bool false)),(4,.loc 1 0),(5,.v (.int .i64 (i:Nat))),(14,.lst .any 1 (arL t)),(15,.v (.int .i64 (t.length:Nat))),(16,.v (.int .i64 (i:Nat))),(23,.lst .any 4 (trL l)),(24,.v (.int .i64 (l.length:Nat))),(25,.v (.int .i64 (j:Nat))),(9,.loc 2 0),(10,.v (.int .u32 u)),(12,.v (.int .i64 (a:Nat)))],[.cells 70 [.lst .nil 10 [],.v (.int .i64 0)],.cells 70 [.lst fl 10 (reL (N)),.v (.int .i64 (k:Nat))],.cells 100 [.v (.int .i64 r.R),.lst .any 1 (byL r.key),.lst .any 1 (byL D),.v (.bool r.bad)]]⟩) (k:=(limE D - 2) / 12) ⟨0,2,by omega,by omega,by omega,fl,M,by simp,hfl,by simp⟩ ?_
 clear hfl
 rintro q σ ⟨m,a,rfl,ha,hm,fl,N,hN,hfl,rfl⟩
 have w12:=w64 (n:=(a:Int)+12) (by omega) (by omega)
 have hlim3:(if 256 < u then (256:Int) else u)=(limE D:Nat):=by rw [← hlim];split <;> omega
 by_cases cm:m < (limE D - 2) / 12
 ·have cmi : (a : Int) + 12 ≤ (limE D : Nat) := by omega
  have cmn:a+12≤limE D:=by omega
  have ha0:(0:Int)≤(a:Int):=by omega
  have ha256:(a:Int)≤256:=by omega
  have ha256n:a≤D.length:=by omega
  have ha256m:a≤256:=by omega
  have w8:=w64 (n:=(a:Int)+8) (by omega) (by omega)
  have w9:=w64 (n:=(a:Int)+9) (by omega) (by omega)
  have w10:=w64 (n:=(a:Int)+10) (by omega) (by omega)
  refine yh9 ?_
  refine yr9 [0,2,3,4,5,14,15,16,23,24,25,9,10,12,49] (by simp [↓zq9 hfl,cmi,cmn,w12,wu,hlim3];rfl) ?_
  refine yt9 (t:=true) (by simp [cmi,cmn]) (fun h=>?_) (fun h=>by simp at h)
  refine yg9 ?_
  repeat (first | refine on_norm ?_ | refine in_norm ?_)
  refine yh9 ?_
  refine yl9 ?_
  refine yr9 [0,2,3,4,5,14,15,16,23,24,25,9,10,12,13] (by simp [↓zq9 hfl];rfl) ?_
  refine W_rsK 6 [0,2,3,4,5,14,15,16,23,24,25,9,10,12,13] mx (by decide +kernel) ?_
  refine yd9 6 (by simp [↓zq9 hfl,maxLen,hDl,ha256n,ha256m,ha0,ha256];rfl) rfl ?_
  obtain ⟨K,hK⟩:∃ K,(D.drop a).take 8=K:=⟨_,rfl⟩
  have hKl:K.length=8:=by rw [← hK,List.length_take,List.length_drop];omega
  refine zf7 (t:=90) (t':=90) (e:=5) (e2:=78) (sz:=1) (id:=3) (off:=0) (len:=8) (cap:=8) (ag:=false) (oy:=.any) (cs:=byL (List.replicate 8 0)++[.v (.int .i64 0),.v (.int .i64 0)]) (ys:=List.drop a (byL D)) (yc:=byL K) (by simp) rfl rfl rfl rfl (by simp) (by simp) s90 (by omega) (by simp [byL,List.replicate]) (by simp) (by rw [← kw9,← vr9,hK];exact qr9 _) ?_
  refine ⟨_,by simp;rfl,?_⟩
  refine yw9 (by simp;rfl) ?_
  obtain ⟨x8,b8⟩:∃ x,D[a+8]?=some x:=⟨_,List.getElem?_eq_getElem (by omega)⟩
  obtain ⟨x9,b9⟩:∃ x,D[a+9]?=some x:=⟨_,List.getElem?_eq_getElem (by omega)⟩
  obtain ⟨x10,b10⟩:∃ x,D[a+10]?=some x:=⟨_,List.getElem?_eq_getElem (by omega)⟩
  have g8:(byL D)[a+8]?=some (.v (.int .u8 x8.toNat)):=by simp [byL,b8]
  have g9:(byL D)[a+9]?=some (.v (.int .u8 x9.toNat)):=by simp [byL,b9]
  have g10:(byL D)[a+10]?=some (.v (.int .u8 x10.toNat)):=by simp [byL,b10]
  have p8:(0:Int)≤(a:Int)+8:=by omega
  have p9:(0:Int)≤(a:Int)+9:=by omega
  have p10:(0:Int)≤(a:Int)+10:=by omega
  have t8:((a:Int)+8).toNat=a+8:=by omega
  have t9:((a:Int)+9).toNat=a+9:=by omega
  have t10:((a:Int)+10).toNat=a+10:=by omega
  have u8:=x8.toNat_lt
  have u9:=x9.toNat_lt
  have u10:=x10.toNat_lt
  have v8:=w64 (n:=(x8.toNat:Int)) (by omega) (by omega)
  have v9:=w64 (n:=(x9.toNat:Int)) (by omega) (by omega)
  have v10:=w64 (n:=(x10.toNat:Int)) (by omega) (by omega)
  have hE:uw8 D a=⟨K,256 * x8.toNat+x9.toNat,x10.toNat⟩:=by
   rw [uw8,hK,List.getD_eq_getElem?_getD,b8,List.getD_eq_getElem?_getD,b9,List.getD_eq_getElem?_getD,b10]
   rfl
  refine W_rsK 25 [0,2,3,4,5,14,15,16,23,24,25,9,10,12,13] mx (by decide +kernel) ?_
  refine yd9 8 (by simp [↓zq9 hfl,hDl,w8,p8,t8,g8,v8];rfl) rfl ?_
  refine yd9 8 (by simp [↓zq9 hfl,hDl,w9,p9,t9,g9,v9];rfl) rfl ?_
  refine yb9 (by simp [↓zq9 hfl,hDl,w10,p10,t10,g10,v10];rfl) ?_
  have hkl8:(byL K).length=8:=by simp [hKl]
  refine yw9 (by simp [yk9,or16 x8 x9,hkl8,hKl];rfl) ?_
  have hrc:byL K++AV.v (Value.int IntKind.i64 (256 * ↑x8.toNat+↑x9.toNat)) :: AV.v (Value.int IntKind.i64 ↑x10.toNat) :: List.drop 10 (byL K++[AV.v (Value.int IntKind.i64 0),AV.v (Value.int IntKind.i64 0)])=reC (uw8 D a):=by
   rw [hE];simp [reC,hKl]
  rw [hrc]
  obtain ⟨E,hEE⟩:∃ E,uw8 D a=E:=⟨_,rfl⟩
  have hE8:E.key.length=8:=by rw [← hEE,hE];exact hKl
  rw [hEE]
  have htk10:List.take 10 (reC E)=reC E:=List.take_of_length_le (by rw [zm9 hE8];omega)
  have hNn:N++[E]=M++(List.range (m+1)).map (fun i=>uw8 D (2+12 * i)):=by rw [← hN,List.range_succ,List.map_append,List.append_assoc,List.map_singleton,← ha,hEE]
  have hNlen:N.length≤21 * 40000000+21:=by
   rw [← hN,List.length_append,List.length_map,List.length_range]
   omega
  have hrs:reL N++[AV.agg (reC E)]=reL (N++[E]):=by simp [reL,reA]
  rcases hfl with ⟨rfl,rfl⟩ | rfl
  ·refine zr9 [0,2,3,4,5,14,15,16,23,24,25,9,10,12] (by simp [hE8,htk10,zm9 hE8,catK,AV.cellsK,AV.kone,AV.koneL,yk9];rfl) ?_
   repeat (first | refine on_norm ?_ | refine in_norm ?_)
   refine vp9 3 (Nat.zero_le _) (by simp) (by simp [zj9,AV.under,AV.underL]) (by simp [yn9,AObj.under,AV.under,AV.underL,reC]) ?_
   refine zr9 [0,2,3,4,5,14,15,16,23,24,25,9,10,12] (by simp [w12];rfl) ?_
   exact ⟨_,by omega,m+1,a+12,rfl,by omega,by omega,.tip 78 177,[E],hNn.symm,.inr rfl,by simp [reL,reA]⟩
  ·have b3:(N.length+1) * 24≤140737488355328:=by omega
   have b4:24 * (N.length+1)≤140737488355328:=by omega
   refine zr9 [0,2,3,4,5,14,15,16,23,24,25,9,10,12] (by simp [hE8,htk10,zm9 hE8,catK,AV.cellsK,AV.kone,AV.koneL,yk9,b3,b4,hrs];rfl) ?_
   repeat (first | refine on_norm ?_ | refine in_norm ?_)
   refine vp9 3 (Nat.zero_le _) (by simp) (by simp [zj9,AV.under,AV.underL]) (by simp [yn9,AObj.under,AV.under,AV.underL,reC,reL]) ?_
   refine zr9 [0,2,3,4,5,14,15,16,23,24,25,9,10,12] (by simp [w12];rfl) ?_
   exact ⟨_,by omega,m+1,a+12,rfl,by omega,by omega,.tip 78 177,N++[E],hNn.symm,.inr rfl,by simp⟩
 ·have hmK:m=(limE D - 2) / 12:=by omega
  have ncmi:¬ (a:Int)+12≤(limE D:Nat):=by omega
  have ncmn:¬ a+12≤limE D:=by omega
  refine yh9 ?_
  refine yr9 [0,2,3,4,5,14,15,16,23,24,25,49] (by simp [↓zq9 hfl,ncmi,ncmn,w12,wu,hlim3];rfl) ?_
  refine yt9 (t:=false) (by simp [ncmi,ncmn]) (fun h=>by simp at h) (fun h=>?_)
  refine ym9 [0,2,3,4,5,14,15,16,23,24,25] ?_
  refine zs9 ?_
  repeat (first | refine on_exit ?_ | refine in_exit ?_)
  subst hmK
  exact hQ fl N hN hfl
end Go.AM
