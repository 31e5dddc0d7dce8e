/- Parts of the walk: C24Q C24QA C24R C24S R31MA C24T C24TA C24TB. -/
import Derived.Test.YthjcnajpcphcpaaGreatG8
namespace Go.AM
open Go.RowKit Go.Proofs
set_option linter.unusedSimpArgs false
set_option linter.unusedVariables false
set_option maxHeartbeats 8000000
set_option maxRecDepth 20000
theorem jq8 : ∀ {l : List RE}, (∀ e ∈ l, e.key.length = 8) → (reCs l).length = l.length * 10
 | [],_=>rfl
 | e :: l,h=>by
  have h1:(reC e).length=10:=xr9 (h e List.mem_cons_self)
  have h2:=jq8 (fun x hx=>h x (List.mem_cons_of_mem _ hx))
  simp only [reCs,List.map_cons,List.flatten_cons,List.length_append,h1,List.length_cons] at h2 ⊢
  omega
theorem wb7 (a b:List RE):reCs (a++b)=reCs a++reCs b:=by simp [reCs]
theorem vr8 (a:RE) (b:List RE):reCs (a :: b)=reC a++reCs b:=by simp [reCs]
theorem reCs_take {l:List RE} (h:∀ e∈l,e.key.length=8) (i:Nat):(reCs l).take (i * 10)=reCs (l.take i):=by
 rcases Nat.lt_or_ge i l.length with hi | hi
 ·conv=>lhs;rw [← List.take_append_drop i l]
  rw [wb7,List.take_left' (by rw [jq8 (fun e he=>h e (List.mem_of_mem_take he)),List.length_take,Nat.min_eq_left (by omega)])]
 ·rw [List.take_of_length_le (by rw [jq8 h];omega),List.take_of_length_le hi]
theorem uc7 {l:List RE} (h:∀ e∈l,e.key.length=8) (i:Nat):(reCs l).drop (i * 10)=reCs (l.drop i):=by
 rcases Nat.lt_or_ge i l.length with hi | hi
 ·conv=>lhs;rw [← List.take_append_drop i l]
  rw [wb7,List.drop_left' (by rw [jq8 (fun e he=>h e (List.mem_of_mem_take he)),List.length_take,Nat.min_eq_left (by omega)])]
 ·rw [List.drop_eq_nil_of_le (by rw [jq8 h];omega),List.drop_eq_nil_of_le hi]
  rfl
theorem vals_reCs (l:List RE):vals (reCs l):=by
 intro y h
 obtain ⟨x,hx,hy⟩:=List.mem_flatten.1 h
 obtain ⟨e,_,rfl⟩:=List.mem_map.1 hx
 exact vt9 e y hy
structure EntC (cs:List AV) (cap:Nat) (l:List RE):Prop where
 n:l.length≤cap
 mx:cap≤maxLen
 len:cs.length=cap * 10
 v:vals cs
 c:cs.take (l.length * 10)=reCs l
theorem EntC.cells {cs:List AV} {cap:Nat} {l:List RE} (h:EntC cs cap l) (h8:∀ e∈l,e.key.length=8):CellsRE cs l:=by
 intro i e he
 have hi:=(List.getElem?_eq_some_iff.1 he).1
 have h1:=h.n
 have h2:=h.len
 refine ⟨by omega,?_⟩
 have h3:((cs.take (l.length * 10)).drop (i * 10)).take 10=(cs.drop (i * 10)).take 10:=by
  rw [List.drop_take,List.take_take,Nat.min_eq_left (by omega)]
 rw [← h3,h.c,uc7 h8,List.drop_eq_getElem_cons hi,(List.getElem?_eq_some_iff.1 he).2,vr8,List.take_left' (xr9 (h8 e (List.mem_of_getElem? he)))]
theorem EntC.ins {cs cs' : List AV} {cap cap' i : Nat} {l : List RE} {x : RE} (h : EntC cs cap l) (h8 : ∀ e ∈ l, e.key.length = 8) (hi : i ≤ l.length) (h1 : l.length + 1 ≤ cap') (h2 : cap' ≤ maxLen) (h3 : cs'.length = cap' * 10) (h4 : vals cs')
  (h5:cs'.take ((l.length+1) * 10)=kq7 cs l.length i (reC x)):EntC cs' cap' (l.take i++x :: l.drop i):=by
 have hL:(l.take i++x :: l.drop i).length=l.length+1:=by simp;omega
 refine ⟨by rw [hL];exact h1,h2,h3,h4,?_⟩
 rw [hL,h5,kq7,h.c,uc7 h8,wb7,vr8]
 congr 1
 have:cs.take (i * 10)=(cs.take (l.length * 10)).take (i * 10):=by rw [List.take_take,Nat.min_eq_left (by omega)]
 rw [this,h.c,reCs_take h8]
theorem EntC.set {cs:List AV} {cap i:Nat} {l:List RE} {x:RE} (h:EntC cs cap l) (h8:∀ e∈l,e.key.length=8) (hi:i < l.length) (hx:x.key.length=8):EntC (yk9 cs (i * 10) (reC x)) cap (l.take i++x :: l.drop (i+1)):=by
 have hL:(l.take i++x :: l.drop (i+1)).length=l.length:=by simp;omega
 have hn:=h.n
 have hlen:=h.len
 have hxl:(reC x).length=10:=xr9 hx
 have hfit:i * 10+(reC x).length≤cs.length:=by omega
 refine ⟨by rw [hL];exact hn,h.mx,by rw [zp9 _ _ _ hfit];exact hlen,uq8 h.v (vt9 x) _,?_⟩
 have hA:(cs.take (i * 10)).length=i * 10:=by rw [List.length_take];omega
 have e1:cs.take (i * 10)=reCs (l.take i):=by
  have:cs.take (i * 10)=(cs.take (l.length * 10)).take (i * 10):=by rw [List.take_take,Nat.min_eq_left (by omega)]
  rw [this,h.c,reCs_take h8]
 have e2:(cs.drop (i * 10+10)).take ((l.length - (i+1)) * 10)=reCs (l.drop (i+1)):=by
  rw [← uc7 h8,← h.c,List.drop_take,show i * 10+10=(i+1) * 10 by omega]
  congr 1
  omega
 have key:∀ (A X R:List AV),A.length=i * 10→X.length=10→(A++(X++R)).take (l.length * 10)=A++(X++R.take ((l.length - (i+1)) * 10)):=by
  intro A X R h1 h2
  have z1:A.take (l.length * 10)=A:=List.take_of_length_le (by omega)
  have z2:X.take (l.length * 10 - i * 10)=X:=List.take_of_length_le (by omega)
  rw [List.take_append,z1,h1,List.take_append,z2,h2,show l.length * 10 - i * 10 - 10=(l.length - (i+1)) * 10 by omega]
 rw [hL,yk9,hxl,List.append_assoc,key _ _ _ hA hxl,e1,e2,wb7,vr8]
theorem EntC.new {cs:List AV} {cap:Nat} {x:RE} (h1:1≤cap) (h2:cap≤maxLen) (h3:cs.length=cap * 10) (h4:vals cs) (h5:cs.take 10=reC x):EntC cs cap [x]:=⟨h1,h2,h3,h4,by rw [show ([x]:List RE).length * 10=10 from rfl,h5];simp [reCs]⟩
def WithQ (H:List AObj) (id dir:Nat) (l:List RE) (r:AV) (h':List AObj):Prop :=
 ∃ cap' cs', EntC cs' cap' l ∧ ((r = .agg [.arr id 0 l.length cap', .v (.int .i64 (dir : Nat))] ∧ h' = H.set id (.cells 78 cs')) ∨
  (∃ g0 g1 g2 g3 g4,(∀ o∈[g0,g1,g2,g3,g4],o.under (H.length+6)=true)∧r=.agg [.arr (H.length+5) 0 l.length cap',.v (.int .i64 (dir:Nat))]∧h'=H++[g0,g1,g2,g3,g4,.cells 78 cs']))
theorem with_callW (l : List RE) (dir trk rn : Nat) (s : List UInt8) (hs : symM s = true) (hp : l.Pairwise ltE) (h8 : ∀ e ∈ l, e.key.length = 8) (hl : l.length ≤ 100000000)
  (H:List AObj) (hh:yn9 H.length H=true) (id cap:Nat) (cs:List AV) (hid:H[id]?=some (.cells 78 cs)) (hE:EntC cs cap l) :
  ww9 Tryz.prog 39 [.agg [.arr id 0 l.length cap,.v (.int .i64 (dir:Nat))],strB s,.agg [.v (.int .i64 (trk:Nat)),.v (.int .i64 (rn:Nat))]] H (WithQ H id dir (insE l ⟨padK s,trk,rn⟩)):=by
 obtain ⟨ha,h1,h8s⟩:=vp9 hs
 have hkl:(padK s).length=8:=um9 h8s
 have hidl:id < H.length:=(List.getElem?_eq_some_iff.1 hid).1
 obtain ⟨G,hG⟩:∃ G,G=[AObj.cells 70 [.arr id 0 l.length cap,.v (.int .i64 (dir:Nat))],.cells 55 [.v (.int .i64 (trk:Nat)),.v (.int .i64 (rn:Nat))],.cells 70 [.lst .nil 10 [],.v (.int .i64 0)]]:=⟨_,rfl⟩
 have hid2:(H++G)[id]?=some (.cells 78 cs):=by rw [List.getElem?_append_left hidl];exact hid
 have hf:=find_callW l dir s (by omega) hp h8 (by omega) (H++G) id cap cs hid2 (hE.cells h8) (by
  rw [hG,zm9]
  simp [yn9,AObj.under,AV.under,AV.underL]
  exact ⟨xc9 (by omega) _ hh,by omega⟩)
 have hk:=wq8 s hs
 obtain ⟨S,hS⟩:∃ S,strB s=S:=⟨_,rfl⟩
 have hSv:∃ u,S=.v u:=⟨_,hS.symm⟩
 rw [hS] at hf hk ⊢
 obtain ⟨u,rfl⟩:=hSv
 rw [yr7,if_pos hs] at hf
 obtain ⟨x,hx⟩:∃ x:RE,(⟨padK s,trk,rn⟩:RE)=x:=⟨_,rfl⟩
 have hxk:x.key=padK s:=by rw [← hx]
 have hx8:x.key.length=8:=by rw [hxk];exact hkl
 have hxc:byL (padK s)++[.v (.int .i64 (trk:Nat)),.v (.int .i64 (rn:Nat))]=reC x:=by rw [← hx];rfl
 have hpl:=posE_le l (padK s)
 rw [hx,insE,hxk]
 obtain ⟨i,hi⟩:∃ i,posE l (padK s)=i:=⟨_,rfl⟩
 have hfl:fndE l (padK s)=true→i < l.length:=by
  intro h
  rw [fndE,hi] at h
  cases h0:l[i]? with
  | none=>rw [h0] at h;cases h
  | some e=>exact (List.getElem?_eq_some_iff.1 h0).1
 obtain ⟨K,hK⟩:∃ K,padK s=K:=⟨_,rfl⟩
 rw [hK] at hfl hxc hk hkl hi
 rw [hK,hi] at hf hpl ⊢
 obtain ⟨B,hB⟩:∃ B,fndE l K=B:=⟨_,rfl⟩
 rw [hB] at hf hfl ⊢
 refine zd9 Tryz.func39 rfl (by decide +kernel) (by simp [Tryz.f39]) (rs:=[.cell 6 70]) rfl ?_
 rw [show Tryz.f39.ntmps=34 from rfl]
 refine yr9 [1,3,5,6] (by simp;rfl) ?_
 refine W_rK [1,3,5,6,7,8] ?_
 refine yq9 2 (by simp;rfl) rfl ?_
 rw [hG] at hf
 refine xs9 (f:=31) (args:=[.agg [.arr id 0 l.length cap,.v (.int .i64 (dir:Nat))],.v u]) (by simp) (by simp [xj9,zc9]) (hf.mono ?_)
 rintro r h' ⟨rfl,rfl⟩
 refine ⟨_,by simp;rfl,?_⟩
 refine yw9 (by simp;rfl) ?_
 have htx:(reC x).take 10=reC x:=List.take_of_length_le (by rw [xr9 hx8];omega)
 refine W_rsK 5 [1,3,5,6,7,8,9] mx (by decide +kernel) ?_
 refine yd9 1 (by simp;rfl) rfl ?_
 refine yv9 (by simp) (by first | (simp;done) | (simp;rfl)) hk (by simp;rfl) ?_
 have hdd:List.drop 10 (byL K++[AV.v (Value.int IntKind.i64 0),AV.v (Value.int IntKind.i64 0)])=[]:=List.drop_eq_nil_of_le (by simp [hkl])
 refine yd9 2 (by simp [yk9,hkl,hdd,hxc];rfl) rfl ?_
 refine yb9 (by simp;rfl) ?_
 have hxl:(reC x).length=10:=xr9 hx8
 refine yw9 (by simp [yk9,hxl];rfl) ?_
 refine yh9 ?_
 cases B with
 | true =>
  have hil:=hfl rfl
  have hili:(i:Int) < (l.length:Nat):=by omega
  have hlc:=hE.n
  have hcl:=hE.len
  refine W_cT [1,3,5,6,7,8,9,20] (by simp;rfl) rfl ?_
  have hfit:i * 10+(reC x).length≤cs.length:=by omega
  have hfit2:i * 10+10≤cs.length:=by omega
  refine zr9 [3,6] (by simp [hil,hili,List.getElem?_append_left hidl,hid,htx,hxl,List.set_append_left _ _ hidl,hfit2];rfl) ?_
  repeat (first | refine on_norm ?_ | refine in_norm ?_)
  have hL:(l.take i++x :: l.drop (i+1)).length=l.length:=by simp;omega
  have hset:=hE.set h8 hil hx8
  rw [if_pos rfl]
  obtain ⟨C,hC⟩:∃ C,yk9 cs (i * 10) (reC x)=C:=⟨_,rfl⟩
  rw [hC] at hset ⊢
  refine yr9 [6] (by simp [yk9];rfl) ?_
  refine yj9 ?_
  repeat (first | refine yp9 ?_ | refine ys9 ?_)
  refine ⟨.inr rfl,.agg [.arr id 0 l.length cap,.v (.int .i64 (dir:Nat))],_,_,H.length,by simp,.inl ⟨rfl,rfl⟩,Nat.le_refl _,by simp,by simp [AV.under,AV.underL,hidl],?_,⟨cap,_,hset,.inl ⟨by rw [hL],?_⟩⟩⟩
  ·simp only [List.take_left' (show (H.set id (AObj.cells 78 C)).length=H.length by simp)]
   exact wc9 hh (wd9 hset.v)
  ·simp only [List.take_left' (show (H.set id (AObj.cells 78 C)).length=H.length by simp)]
 | false =>
  rw [show (if false=true then 1 else 0:Nat)=0 from rfl,Nat.add_zero]
  refine W_cF [1,3,5,6,7,8,9,20] (by simp;rfl) rfl ?_
  refine W_rE [3,6] ?_
  refine yq9 4 (by simp [htx,hxl];rfl) rfl ?_
  refine kl9 (by simp) ⟨_,by simp [qk9,yf7,catK,AV.cellsK,AV.kone,AV.koneL,hxl];rfl,?_⟩
  obtain ⟨G4,hG4⟩:∃ G4,G4=[AObj.cells 70 [.arr id 0 l.length cap,.v (.int .i64 (dir:Nat))],.cells 55 [.v (.int .i64 (trk:Nat)),.v (.int .i64 (rn:Nat))],.cells 70 [.lst .nil 10 [],.v (.int .i64 0)],.cells 78 (reC x),.cells 78 (reC x)]:=⟨_,rfl⟩
  have hid4:(H++G4)[id]?=some (.cells 78 cs):=by rw [List.getElem?_append_left hidl];exact hid
  have hins:=insert_callW x hx8 cs i l.length cap hpl hE.n hE.mx hE.len hE.v (by omega) (H++G4) (by
   rw [hG4,zm9]
   simp [yn9,AObj.under,AV.under,AV.underL]
   exact ⟨xc9 (by omega) _ hh,by omega⟩) id (H.length+4) hid4 (by rw [hG4];simp) (by omega)
  rw [hG4] at hins
  refine xs9 (f:=82) (args:=[.arr id 0 l.length cap,.v (.int .i64 (i:Nat)),.arr (H.length+4) 0 1 1]) (by simp) (by simp [xj9,zc9]) (hins.mono ?_)
  rintro r h' ⟨cap',cs',g1,g2,g3,g4,g5,(⟨rfl,rfl⟩ | ⟨rfl,rfl⟩)⟩
  ·refine ⟨_, by simp; rfl, ?_⟩
   refine yw9 (by simp [List.set_append_left _ _ hidl,yk9];rfl) ?_
   repeat (first | refine on_norm ?_ | refine in_norm ?_)
   have hent:=hE.ins h8 hpl g1 g2 g3 g4 g5
   have hL:(l.take i++x :: l.drop i).length=l.length+1:=by simp;omega
   refine yr9 [6] (by simp [yk9];rfl) ?_
   refine yj9 ?_
   repeat (first | refine yp9 ?_ | refine ys9 ?_)
   refine ⟨.inr rfl,.agg [.arr id 0 (l.length+1) cap',.v (.int .i64 (dir:Nat))],_,_,H.length,by simp,.inl ⟨rfl,rfl⟩,Nat.le_refl _,by simp,by simp [AV.under,AV.underL,hidl],?_,⟨cap',_,hent,.inl ⟨by rw [hL],?_⟩⟩⟩
   ·simp only [List.take_left' (show (H.set id (AObj.cells 78 cs')).length=H.length by simp)]
    exact wc9 hh (wd9 g4)
   ·simp only [List.take_left' (show (H.set id (AObj.cells 78 cs')).length=H.length by simp)]
  ·refine ⟨_, by simp; rfl, ?_⟩
   refine yw9 (by simp [yk9];rfl) ?_
   repeat (first | refine on_norm ?_ | refine in_norm ?_)
   have hent:=hE.ins h8 hpl g1 g2 g3 g4 g5
   have hL:(l.take i++x :: l.drop i).length=l.length+1:=by simp;omega
   refine yr9 [6] (by simp [yk9];rfl) ?_
   refine yj9 ?_
   repeat (first | refine yp9 ?_ | refine ys9 ?_)
   refine ⟨.inr rfl,.agg [.arr (H.length+5) 0 (l.length+1) cap',.v (.int .i64 (dir:Nat))],_,_,H.length+6,by simp,.inl ⟨rfl,rfl⟩,by omega,by simp,by simp [AV.under,AV.underL],?_,⟨cap',cs',hent,.inr ⟨AObj.cells 70 [.arr (H.length+5) 0 (l.length+1) cap',.v (.int .i64 (dir:Nat))],.cells 55 [.v (.int .i64 (trk:Nat)),.v (.int .i64 (rn:Nat))],AObj.cells 70 [.arr (H.length+5) 0 (l.length+1) cap',.v (.int .i64 (dir:Nat))],.cells 78 (reC x),.cells 78 (reC x),?_,by rw [hL],?_⟩⟩⟩
   ·rw [List.take_of_length_le (by simp),zm9,xc9 (by omega) _ hh]
    simp [yn9,AObj.under,AV.under,AV.underL,wd9 g4]
    try omega
   ·intro o ho
    simp only [List.mem_cons,List.not_mem_nil,or_false] at ho
    rcases ho with rfl | rfl | rfl | rfl | rfl <;> simp [AObj.under,AV.under,AV.underL,wd9 (vt9 x)]
   ·rw [List.take_of_length_le (by simp)]
set_option maxRecDepth 20000
def WithN (H:List AObj) (dir:Nat) (x:RE) (r:AV) (h':List AObj):Prop :=
 ∃ cap' cs',EntC cs' cap' [x]∧∃ g0 g1 g2 g3 g4,(∀ o∈[g0,g1,g2,g3,g4],o.under (H.length+6)=true)∧r=.agg [.arr (H.length+5) 0 1 cap',.v (.int .i64 (dir:Nat))]∧h'=H++[g0,g1,g2,g3,g4,.cells 78 cs']
theorem jl7 (dir trk rn : Nat) (s : List UInt8) (hs : symM s = true) (H : List AObj) (hh : yn9 H.length H = true) :
  ww9 Tryz.prog 39 [.agg [.lst .nil 10 [],.v (.int .i64 (dir:Nat))],strB s,.agg [.v (.int .i64 (trk:Nat)),.v (.int .i64 (rn:Nat))]] H (WithN H dir ⟨padK s,trk,rn⟩):=by
 obtain ⟨ha,h1,h8s⟩:=vp9 hs
 have hkl:(padK s).length=8:=um9 h8s
 have hf:=xk6 [] dir s (by omega) .nil (by simp) (by simp)
 have hk:=wq8 s hs
 obtain ⟨S,hS⟩:∃ S,strB s=S:=⟨_,rfl⟩
 have hSv:∃ u,S=.v u:=⟨_,hS.symm⟩
 rw [hS] at hf hk ⊢
 obtain ⟨u,rfl⟩:=hSv
 rw [yr7,if_pos hs] at hf
 obtain ⟨x,hx⟩:∃ x:RE,(⟨padK s,trk,rn⟩:RE)=x:=⟨_,rfl⟩
 have hxk:x.key=padK s:=by rw [← hx]
 have hx8:x.key.length=8:=by rw [hxk];exact hkl
 have hxc:byL (padK s)++[.v (.int .i64 (trk:Nat)),.v (.int .i64 (rn:Nat))]=reC x:=by rw [← hx];rfl
 rw [hx]
 rw [show posE [] (padK s)=0 from rfl,show fndE [] (padK s)=false from rfl] at hf
 obtain ⟨K,hK⟩:∃ K,padK s=K:=⟨_,rfl⟩
 rw [hK] at hxc hk hkl
 refine zd9 Tryz.func39 rfl (by decide +kernel) (by simp [Tryz.f39]) (rs:=[.cell 6 70]) rfl ?_
 rw [show Tryz.f39.ntmps=34 from rfl]
 refine yr9 [1,3,5,6] (by simp;rfl) ?_
 refine W_rK [1,3,5,6,7,8] ?_
 refine yq9 2 (by simp;rfl) rfl ?_
 refine yf9 (by simp) (by first | (simp;done) | (simp;rfl)) hf (by simp;rfl) ?_
 refine yw9 (by simp;rfl) ?_
 have htx:(reC x).take 10=reC x:=List.take_of_length_le (by rw [xr9 hx8];omega)
 refine W_rsK 5 [1,3,5,6,7,8,9] mx (by decide +kernel) ?_
 refine yd9 1 (by simp;rfl) rfl ?_
 refine yv9 (by simp) (by first | (simp;done) | (simp;rfl)) hk (by simp;rfl) ?_
 have hdd:List.drop 10 (byL K++[AV.v (Value.int IntKind.i64 0),AV.v (Value.int IntKind.i64 0)])=[]:=List.drop_eq_nil_of_le (by simp [hkl])
 refine yd9 2 (by simp [yk9,hkl,hdd,hxc];rfl) rfl ?_
 refine yb9 (by simp;rfl) ?_
 have hxl:(reC x).length=10:=xr9 hx8
 refine yw9 (by simp [yk9,hxl];rfl) ?_
 refine yh9 ?_
 refine W_cF [1,3,5,6,7,8,9,20] (by simp;rfl) rfl ?_
 refine W_rE [3,6] ?_
 refine yq9 4 (by simp [htx,hxl];rfl) rfl ?_
 refine kl9 (by simp) ⟨_,by simp [qk9,yf7,catK,AV.cellsK,AV.kone,AV.koneL,hxl];rfl,?_⟩
 have hins:=ws7 x hx8 (H++[AObj.cells 70 [.lst .nil 10 [],.v (.int .i64 (dir:Nat))],.cells 55 [.v (.int .i64 (trk:Nat)),.v (.int .i64 (rn:Nat))],.cells 70 [.lst .nil 10 [],.v (.int .i64 0)],.cells 78 (reC x),.cells 78 (reC x)]) (by
  rw [zm9]
  simp [yn9,AObj.under,AV.under,AV.underL]
  exact xc9 (by omega) _ hh) (H.length+4) (by simp)
 refine xs9 (f:=82) (args:=[.lst .nil 10 [],.v (.int .i64 0),.arr (H.length+4) 0 1 1]) (by simp) (by simp [xj9,zc9]) (hins.mono ?_)
 rintro r h' ⟨cap',cs',g1,g2,g3,g4,g5,rfl,rfl⟩
 refine ⟨_,by simp;rfl,?_⟩
 refine yw9 (by simp [yk9];rfl) ?_
 repeat (first | refine on_norm ?_ | refine in_norm ?_)
 have hent:=EntC.new g1 g2 g3 g4 g5
 refine yr9 [6] (by simp [yk9];rfl) ?_
 refine yj9 ?_
 repeat (first | refine yp9 ?_ | refine ys9 ?_)
 refine ⟨.inr rfl,.agg [.arr (H.length+5) 0 1 cap',.v (.int .i64 (dir:Nat))],_,_,H.length+6,by simp,.inl ⟨rfl,rfl⟩,by omega,by simp,by simp [AV.under,AV.underL],?_,⟨cap',cs',hent,AObj.cells 70 [.arr (H.length+5) 0 1 cap',.v (.int .i64 (dir:Nat))],.cells 55 [.v (.int .i64 (trk:Nat)),.v (.int .i64 (rn:Nat))],AObj.cells 70 [.arr (H.length+5) 0 1 cap',.v (.int .i64 (dir:Nat))],.cells 78 (reC x),.cells 78 (reC x),?_,rfl,?_⟩⟩
 ·rw [List.take_of_length_le (by simp),zm9,xc9 (by omega) _ hh]
  simp [yn9,AObj.under,AV.under,AV.underL,wd9 g4]
 ·intro o ho
  simp only [List.mem_cons,List.not_mem_nil,or_false] at ho
  rcases ho with rfl | rfl | rfl | rfl | rfl <;> simp [AObj.under,AV.under,AV.underL,wd9 (vt9 x)]
 ·rw [List.take_of_length_le (by simp)]
set_option maxRecDepth 20000
theorem rclone_sound (l:List (List UInt8)) (hl:l.length≤1000000000):Sound Tryz.prog 79 [.lst .any 1 (bbL l)] (.lst (.tip 90 1) 1 (bbL l)):=by
 refine xw9 Tryz.func79 rfl (by decide +kernel) (by simp [Tryz.f79]) rfl rfl (rs:=[.tmp 2]) rfl ?_
 rw [show Tryz.f79.ntmps=8 from rfl]
 have hb:l.length * 24≤140737488355328:=by omega
 have hb2:24 * l.length≤140737488355328:=by omega
 refine yr9 [0] (by simp;rfl) ?_
 refine yh9 ?_
 cases l with
 | cons x l =>
  refine W_cF [0,4] (by simp [wh9];rfl) rfl ?_
  refine yg9 ?_
  rw [← wh9]
  refine yr9 [2] (by simp at hb hb2;simp [hb,hb2];rfl) ?_
  refine yj9 ?_
  repeat (first | refine yp9 ?_ | refine ys9 ?_)
  exact ⟨_,by simp [retQ];exact ⟨rfl,by simp⟩,.norm fun T=>by simp⟩
 | nil =>
  refine ws6 0 (sz:=1) rfl ?_ fun ad cap hc=>?_
  ·refine W_cT [0,4] (by simp [putF];rfl) rfl ?_
   refine yr9 [2] (by simp;rfl) ?_
   refine yj9 ?_
   repeat (first | refine yp9 ?_ | refine ys9 ?_)
   exact ⟨.lst .nil 1 [],by simp [retQ],.nil (by decide +kernel)⟩
  ·refine W_cF [0,4] (by simp [putF];rfl) rfl ?_
   refine yg9 ?_
   refine ym9 [0] ?_
   refine W_unnil 0 1 (by simp;rfl) hc ?_
   refine yr9 [2] (by simp [putF];rfl) ?_
   refine yj9 ?_
   repeat (first | refine yp9 ?_ | refine ys9 ?_)
   exact ⟨_,by simp [retQ];exact ⟨rfl,by simp⟩,.norm fun T=>by simp⟩
set_option maxRecDepth 20000
theorem zd6 {t:List (List Rec)} {L:List RE} {n:Nat} (h:zg7 t=some (L,n)):kr9 t=(L,n,true):=by
 unfold zg7 at h
 split at h
 ·rename_i hc
  obtain ⟨c1,c2,c3,c4,c5,c6⟩:=hc
  simp only [Option.some.injEq,Prod.mk.injEq] at h
  obtain ⟨rfl,rfl⟩:=h
  have hok:kt9 t=true:=by
   rw [kt9,decide_eq_true c1,decide_eq_true c2,decide_eq_true c3,decide_eq_true c4,c5]
   rfl
  rw [kr9,hok,if_pos rfl,decide_eq_true c6]
 ·cases h
theorem zf6 {t:List (List Rec)} (h:zg7 t=none):(kr9 t).2.2=false:=by
 unfold zg7 at h
 split at h
 ·cases h
 ·rename_i hc
  unfold kr9
  split
  ·rename_i hok
   simp only [kt9,Bool.and_eq_true,decide_eq_true_eq] at hok
   obtain ⟨c1,c2,c3,c4,c5⟩:=hok
   exact decide_eq_false fun c6=>hc ⟨c1,c2,c3,c4,c5,c6⟩
  ·rfl
structure TIn (t:List (List Rec)):Prop where
 n:t.length≤100000000
 rows:∀ l∈t,l.length≤100000000
 f:(dirT t).flatten.length≤40000000
 d:∀ l∈t,∀ r∈l,r.key.length≤1000000000∧r.data.length≤1000000000
theorem ul7 {t:List (List Rec)} (ht:TIn t):Sound Tryz.prog 29 [.lst .any 1 (arL t)] (.tup [.agg [.lst .any 10 (reL (kr9 t).1),.v (.int .i64 ((kr9 t).2.1:Nat))],.v (.bool (kr9 t).2.2)]):=by
 have:=(read_sound t ht.n ht.rows ht.f (fun l hl r hr=>(ht.d l hl r hr).2)).weakR
 simpa using this
def findM (t:List (List Rec)) (s:List UInt8):Option RE:=match zg7 t with | some (L,_)=>if symM s then findE L (padK s) else none | none=>none
theorem vb6 {t:List (List Rec)} {L:List RE} {n:Nat} (h:zg7 t=some (L,n)):L.length≤1344∧n≤64∧(∀ e∈L,e.key.length=8)∧L.Pairwise ltE:=by
 have ho:=read_inv h
 have h1:=ho.len
 have h2:=ho.n64
 exact ⟨by omega,h2,fun e he=>(ho.ok e he).1,(ud8.1 ho.ord).2⟩
def strL (L:List (List UInt8)):List AV:=L.map strB
@[simp] theorem strL_length (L:List (List UInt8)):(strL L).length=L.length:=by simp [strL]
theorem vh8 {P : Program} {tk : Nat} (h : List AObj) : ∀ {xs : List AV}, vals xs → frzL P tk h xs = some (xs, h)
 | [],_=>rfl
 | y :: xs,hv=>by
  rw [frzL]
  rcases hv y List.mem_cons_self with ⟨v,rfl⟩ | rfl <;> simp [frzV,vh8 h (fun z hz=>hv z (List.mem_cons_of_mem _ hz))]
def zb6 (t:List (List Rec)):List (List UInt8) × Int:=match zg7 t with | some (L,_)=>(L.map fun e=>nmM e.key,0) | none=>([],5)
theorem Names_sound {t:List (List Rec)} (ht:TIn t):Sound Tryz.prog 18 [.lst .any 1 (arL t)] (.tup [.lst (.tip 9 1) 1 (strL (zb6 t).1),.v (.int .i64 (zb6 t).2)]):=by
 refine xw9 Tryz.func18 rfl (by decide +kernel) (by simp [Tryz.f18]) (by simp [AV.rfL,AV.rf]) (by simp [AV.tlL,AV.tl]) (rs:=[.tmp 2,.tmp 3]) rfl ?_
 rw [show Tryz.f18.ntmps=30 from rfl]
 have hr:=ul7 ht
 refine yr9 [0,2,3] (by simp;rfl) ?_
 cases he:zg7 t with
 | none =>
  rw [zf6 he] at hr
  obtain ⟨p,hp⟩:∃ p,kr9 t=p:=⟨_,rfl⟩
  rw [hp] at hr
  refine W_rK [2,3,4,5] ?_
  refine yq9 1 (by simp;rfl) rfl ?_
  refine yf9 (by simp) (by first | (simp;done) | (simp;rfl)) hr (by simp;rfl) ?_
  refine yw9 (by simp [yk9];rfl) ?_
  refine yh9 ?_
  refine W_cT [15] (by simp;rfl) rfl ?_
  refine yr9 [2,3] (by simp;rfl) ?_
  refine yj9 ?_
  repeat (first | refine yp9 ?_ | refine ys9 ?_)
  exact ⟨.tup [.lst .nil 1 [],.v (.int .i64 5)],by simp [retQ],by rw [zb6,he];exact AV.Le.tup2 (AV.Le.nil (by decide +kernel)) (.refl _)⟩
 | some p =>
  obtain ⟨L,n⟩:=p
  rw [zd6 he] at hr
  obtain ⟨hLl,hn,h8,hpw⟩:=vb6 he
  refine W_rK [4,5] ?_
  refine yq9 1 (by simp;rfl) rfl ?_
  refine yf9 (by simp) (by first | (simp;done) | (simp;rfl)) hr (by simp;rfl) ?_
  refine yw9 (by simp [yk9];rfl) ?_
  refine yh9 ?_
  refine W_cF [4,15] (by simp;rfl) rfl ?_
  refine yg9 ?_
  repeat (first | refine on_norm ?_ | refine in_norm ?_)
  refine yr9 [4,6] (by simp;rfl) ?_
  refine yh9 ?_
  refine yr9 [6,17,18,19] (by simp;rfl) ?_
  refine yl9 ?_
  refine zj9 (fun q σ=>∃ (i:Nat) (fo:Fl),q=L.length - i∧i≤L.length∧((fo=.nil∧i=0)∨fo=.tip 9 55)∧σ=⟨30,[(6,.lst fo 1 (strL ((L.take i).map fun e=>nmM e.key))),(17,.lst .any 10 (reL L)),(18,.v (.int .i64 (L.length:Nat))),(19,.v (.int .i64 (i:Nat)))],[.cells 70 [.lst .any 10 (reL L),.v (.int .i64 (n:Nat))]]⟩) (k:=L.length) ⟨0,.nil,rfl,by omega,.inl ⟨rfl,rfl⟩,by simp [strL]⟩ ?_
  rintro q σ ⟨i,fo,rfl,hi,hfo,rfl⟩
  have hkf:∀ T:Nat,T≠55→∀ xs,(AV.lst fo 1 xs).kill T=.lst fo 1 xs:=by
   intro T hT xs
   rcases hfo with ⟨rfl,_⟩ | rfl
   ·simp [AV.kill]
   ·simp [AV.kill,hT.symm]
  by_cases c:i < L.length
  ·have ci : (i : Int) < L.length := by omega
   have wi:=w64 (n:=(i:Int)+1) (by omega) (by omega)
   obtain ⟨e,hei⟩:∃ e,L[i]?=some e:=⟨_,List.getElem?_eq_getElem c⟩
   have hge:L[i]'c=e:=by rw [List.getElem?_eq_getElem c] at hei;exact Option.some.inj hei
   have he8:=h8 e (List.mem_of_getElem? hei)
   have hnm:=zn6 e he8
   simp only [reA] at hnm
   have htk10:List.take 10 (reC e)=reC e:=List.take_of_length_le (by rw [xr9 he8];omega)
   have htk:(L.take (i+1)).map (fun e=>nmM e.key)=(L.take i).map (fun e=>nmM e.key)++[nmM e.key]:=by rw [List.take_add_one,hei];simp
   have hjl:((L.take i).map (fun e=>nmM e.key)).length=i:=by rw [List.length_map,List.length_take];omega
   obtain ⟨W,hW⟩:∃ W,(L.take i).map (fun e=>nmM e.key)=W:=⟨_,rfl⟩
   rw [hW] at htk hjl ⊢
   have htl:strL W++[strB (nmM e.key)]=strL (W++[nmM e.key]):=by simp [strL]
   rw [← htk] at htl
   obtain ⟨S,hS⟩:∃ S,strB (nmM e.key)=S:=⟨_,rfl⟩
   have hSv:∃ u,S=.v u:=⟨_,hS.symm⟩
   rw [hS] at hnm htl
   obtain ⟨u,rfl⟩:=hSv
   have hu1:u.oneCell'=true:=by have h':=hS;simp only [strB,AV.v.injEq] at h';rw [← h'];rfl
   have b3:(i+1) * 16≤140737488355328:=by omega
   have b4:16 * (i+1)≤140737488355328:=by omega
   refine yr9 [6,17,18,19,20] (by simp [↓hkf,c,ci];rfl) ?_
   refine yh9 ?_
   refine yt9 (t:=true) (by simp [c,ci]) (fun h=>?_) (fun h=>by simp at h)
   refine yg9 ?_
   refine yh9 ?_
   refine yl9 ?_
   refine yr9 [6,17,18,19,8] (by simp [↓hkf,c,ci,hge,reA,he8,yk9,htk10];rfl) ?_
   rcases hfo with ⟨rfl,h0⟩ | rfl
   ·subst h0
    have hW0:W=[]:=List.eq_nil_of_length_eq_zero hjl
    subst hW0
    refine W_rE [6,17,18,19] ?_
    refine yq9 2 (by simp [he8,htk10];rfl) rfl ?_
    refine yf9 (by simp) (by first | (simp [htk10,vh8 _ (vt9 e)];done) | (simp [htk10,vh8 _ (vt9 e)];rfl)) hnm (by simp [strL];rfl) ?_
    refine yw9 (by simp [catK,AV.cellsK,AV.kone,AV.koneL,hu1];rfl) ?_
    repeat (first | refine on_norm ?_ | refine in_norm ?_)
    refine vd9 1 (by simp) (by simp) (by simp [zk9,AV.under,AV.underL]) (by simp [yn9,AObj.under,AV.under,AV.underL]) ?_
    refine zr9 [6,17,18,19] (by simp [show IntKind.i64.wrap 1=1 from by decide];rfl) ?_
    exact ⟨_,by omega,0+1,.tip 9 55,rfl,by omega,.inr rfl,by rw [← htl];simp [strL]⟩
   ·refine W_rE [6,17,18,19] ?_
    refine yq9 2 (by simp [he8,htk10];rfl) rfl ?_
    refine yf9 (by simp) (by first | (simp [htk10,vh8 _ (vt9 e)];done) | (simp [htk10,vh8 _ (vt9 e)];rfl)) hnm (by simp;rfl) ?_
    refine yw9 (by simp [catK,AV.cellsK,AV.kone,AV.koneL,hu1,hjl,b3,b4,htl];rfl) ?_
    repeat (first | refine on_norm ?_ | refine in_norm ?_)
    refine vd9 1 (by simp) (by simp) (by simp [zk9,AV.under,AV.underL]) (by simp [yn9,AObj.under,AV.under,AV.underL]) ?_
    refine zr9 [6,17,18,19] (by simp [wi];rfl) ?_
    exact ⟨_,by omega,i+1,.tip 9 55,rfl,by omega,.inr rfl,by simp⟩
  ·have hie:i=L.length:=by omega
   subst hie
   refine yr9 [6,20] (by simp [↓hkf];rfl) ?_
   refine yh9 ?_
   refine yt9 rfl (fun h=>by simp at h) (fun h=>?_)
   refine zs9 ?_
   repeat (first | refine on_exit ?_ | refine in_exit ?_)
   refine yr9 [2,3] (by simp [↓hkf];rfl) ?_
   refine yj9 ?_
   repeat (first | refine yp9 ?_ | refine ys9 ?_)
   rw [zb6,he]
   refine ⟨.tup [.lst fo 1 (strL (L.map fun e=>nmM e.key)),.v (.int .i64 0)],by rcases hfo with ⟨rfl,_⟩ | rfl <;> simp [retQ,AV.rf,AV.rfL],AV.Le.tup2 ?_ (.refl _)⟩
   rcases hfo with ⟨rfl,h0⟩ | rfl
   ·rw [show L=[] from List.eq_nil_of_length_eq_zero h0];exact AV.Le.nil (by decide +kernel)
   ·exact AV.Le.norm fun T=>by simp [AV.norm]
set_option maxRecDepth 20000
set_option maxRecDepth 20000
structure SE where
 name:List UInt8
 trk:Nat
 rn:Nat
 deriving DecidableEq
def nmE (e:RE):SE:=⟨nmM e.key,e.trk,e.rn⟩
def seA (e:SE):AV:=.agg [strB e.name,.v (.int .i64 (e.trk:Nat)),.v (.int .i64 (e.rn:Nat))]
def seL (l:List SE):List AV:=l.map seA
@[simp] theorem seL_length (L:List SE):(seL L).length=L.length:=by simp [seL]
theorem seL_app (a b:List SE):seL (a++b)=seL a++seL b:=by simp [seL]
@[simp] theorem seL_getElem (L:List SE) (i:Nat) (h:i < (seL L).length):(seL L)[i]=seA (L[i]'(by simpa using h)):=by simp [seL]
@[simp] theorem rfL_seL (L:List SE):AV.rfL (seL L)=true:=by induction L <;> simp_all [seL,seA,AV.rfL,AV.rf,strB]
@[simp] theorem weakL_seL (L:List SE):AV.weakL (seL L)=seL L:=by induction L <;> simp_all [seL,seA,AV.weakL,AV.weak,strB]
@[simp] theorem dpL_seL (L:List SE):AV.dpL (seL L)=seL L:=by induction L <;> simp_all [seL,seA,AV.dpL,AV.dp,strB]
set_option maxRecDepth 20000
set_option maxRecDepth 20000
end Go.AM
