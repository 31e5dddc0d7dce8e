/- An abstract machine for the model: abstract values, and that each operation is sound on them. -/
import Derived.CallsIn
import Derived.MapKept
import Derived.Maps.AppendAt
import Derived.RangeFuncIn
import Derived.RangeFuncRecord
import Derived.WalkKit
import Derived.WalkSpells
set_option linter.unusedVariables false
set_option linter.unusedSimpArgs false
namespace Go.AM
open Go.RowKit
inductive Fl where
 | any | nil | ex | tip (e T:Nat)
def Fl.fits : Fl → {α : Type} → Option α → Nat → Nat → Prop
 | .nil,_,a,_,_=>a=none
 | .ex,_,_,n,cap=>n=cap
 | .tip _ T,_,_,n,cap=>T % 2=0→n=cap
 | .any,_,_,_,_=>True
def Fl.wk : Fl → Fl
 | .ex=>.ex
 | .tip _ T=>if T % 2=0 then .ex else .any
 | _=>.any
theorem Fl.fits_wk {o:Fl} {α:Type} {a:Option α} {n cap:Nat} (h:o.fits a n cap):o.wk.fits a n cap:=by
 cases o with
 | any=>trivial
 | nil=>trivial
 | ex=>exact h
 | tip e T =>
  simp only [Fl.wk]
  split
  ·rename_i hT;exact h hT
  ·trivial
inductive AV where
 | any
 | v (x:Value)
 | lst (o:Fl) (s:Nat) (xs:List AV)
 | ro (x:AV)
 | loc (id off:Nat)
 | arr (id off len cap:Nat)
 | fn (f:Fn) (first captured:List AV)
 | agg (xs:List AV)
 | tup (xs:List AV)
 | mp (id:Nat)
 | yld (id:Nat)
namespace AV
def cells : AV → List AV
 | .agg xs=>xs
 | x=>[x]
mutual
def rf : AV → Bool
 | .loc _ _ | .arr _ _ _ _ | .mp _ | .yld _=>false
 | .fn _ a b=>rfL a&&rfL b
 | .agg xs | .tup xs=>rfL xs
 | _=>true
def rfL : List AV → Bool
 | []=>true
 | x :: xs=>rf x&&rfL xs
end
def one : AV → Bool
 | .agg _ | .tup _=>false
 | _=>true
mutual
def weak : AV → AV
 | .lst o s xs=>.lst o.wk s xs
 | .agg xs=>.agg (weakL xs)
 | .tup xs=>.tup (weakL xs)
 | x=>x
def weakL : List AV → List AV
 | []=>[]
 | x :: xs=>weak x :: weakL xs
end
mutual
def kill (T : Nat) : AV → AV
 | .lst (.tip e U) s xs=>if U=T then .lst (Fl.tip e U).wk s xs else .lst (.tip e U) s xs
 | .agg xs=>.agg (killL T xs)
 | .tup xs=>.tup (killL T xs)
 | x=>x
def killL (T : Nat) : List AV → List AV
 | []=>[]
 | x :: xs=>kill T x :: killL T xs
end
mutual
def norm (T : Nat) : AV → AV
 | .lst (.tip e _) s xs=>.lst (.tip e T) s xs
 | .agg xs=>.agg (normL T xs)
 | .tup xs=>.tup (normL T xs)
 | x=>x
def normL (T : Nat) : List AV → List AV
 | []=>[]
 | x :: xs=>norm T x :: normL T xs
end
end AV
structure Ctx where
 base:Nat→Prop
 pm:Nat→Nat
 ow:Nat→Nat
 no:Nat
 ob:Nat→Nat
def Ctx.prot (c:Ctx) (a:Addr):Prop:=a.off < c.pm a.block
inductive Rep (c : Ctx) (w : World) : AV → Value → Prop
 | any (u:Value):Rep c w .any u
 | v (x:Value):Rep c w (.v x) x
 | lst {o : Fl} {s : Nat} {xs : List AV} {a : Option Addr} {n cap : Nat} (u : Nat → Value) (hn : xs.length = n) (hcap : n ≤ cap) (hmax : cap ≤ maxLen)
   (hs:xs≠[]→0 < s) (hsz:∀ x∈xs,x.cells.length=s) (hrf:AV.rfL xs=true) (hz:a=none→n=0∧cap=0) (hnil:o.fits a n cap)
   (hc:∀ ad k,a=some ad→k < n * s→w.cell? (ad.add k)=some (u k)∧c.prot (ad.add k)∧(u k).oneCell'=true)
   (hr:∀ i j x y,xs[i]?=some x→x.cells[j]?=some y→Rep c w y (u (i * s+j))):Rep c w (.lst o s xs) (.slice a n cap)
 | ro {x : AV} {ad : Addr} (u : Nat → Value) (hrf : x.rf = true)
   (hc:∀ k,k < x.cells.length→w.cell? (ad.add k)=some (u k)∧c.prot (ad.add k)∧(u k).oneCell'=true)
   (hr:∀ j y,x.cells[j]?=some y→Rep c w y (u j)):Rep c w (.ro x) (.pointer (some ad))
 | loc {id off:Nat} (h:id < c.no):Rep c w (.loc id off) (.pointer (some ⟨c.ob id,off,none⟩))
 | arr {id off len cap:Nat} (h:id < c.no) (hlen:len≤cap) (hmax:cap≤maxLen):Rep c w (.arr id off len cap) (.slice (some ⟨c.ob id,off,none⟩) len cap)
 | fn {f : Fn} {l1 l2 : List AV} {v1 v2 : Array Value} (h1 : l1.length = v1.size) (h2 : l2.length = v2.size)
   (r1:∀ j y,l1[j]?=some y→Rep c w y (v1.getD j undef)) (r2:∀ j y,l2[j]?=some y→Rep c w y (v2.getD j undef)):Rep c w (.fn f l1 l2) (.func f v1 v2)
 | agg {xs:List AV} {vs:Array Value} (h:xs.length=vs.size) (r:∀ j y,xs[j]?=some y→Rep c w y (vs.getD j undef)):Rep c w (.agg xs) (.agg vs)
 | tup {xs:List AV} {vs:Array Value} (h:xs.length=vs.size) (r:∀ j y,xs[j]?=some y→Rep c w y (vs.getD j undef)):Rep c w (.tup xs) (.tuple vs)
 | mp {id:Nat} (h:id < c.no):Rep c w (.mp id) (.map (some (c.ob id)))
 | yld {id:Nat} (h:id < c.no):Rep c w (.yld id) (.func (.yield (c.ob id)) #[] #[])
structure Ext (c:Ctx) (w:World) (c':Ctx) (w':World):Prop where
 base:c'.base=c.base
 os:w'.os=w.os
 tape:w'.tape=w.tape
 output:w'.output=w.output
 size:w.heap.size≤w'.heap.size
 below:∀ b,¬ c.base b→w'.heap[b]?=w.heap[b]?
 cell:∀ a u,c.prot a→w.cell? a=some u→w'.cell? a=some u
 pm:∀ b,b < w.heap.size→c.pm b≤c'.pm b
 pmb:∀ b,¬ c.base b→c'.pm b=c.pm b
 owb:∀ b,¬ c.base b→c'.ow b=c.ow b
 no:c.no≤c'.no
 ob:∀ id,id < c.no→c'.ob id=c.ob id
 dfr:∀ b:Nat,w.heap[b]?=some (Go.Obj.deferred (some []))→w'.heap[b]?=some (Go.Obj.deferred (some []))
theorem uf8 {w:World} {a:Addr} {u:Value} (h:w.cell? a=some u):a.block < w.heap.size:=by
 unfold World.cell? at h
 rcases Nat.lt_or_ge a.block w.heap.size with hlt | hge
 ·exact hlt
 ·rw [Array.getElem?_eq_none hge] at h;cases h
theorem Ext.prot {c c':Ctx} {w w':World} (h:Ext c w c' w') {a:Addr} {u:Value} (hp:c.prot a) (hc:w.cell? a=some u):c'.prot a :=
 Nat.lt_of_lt_of_le hp (h.pm _ (uf8 hc))
theorem Ext.refl (c:Ctx) (w:World):Ext c w c w :=
 ⟨rfl,rfl,rfl,rfl,Nat.le_refl _,fun _ _=>rfl,fun _ _ _ h=>h,fun _ _=>Nat.le_refl _,fun _ _=>rfl,fun _ _=>rfl,Nat.le_refl _,fun _ _=>rfl,fun _ h=>h⟩
theorem Ext.trans {c₁ c₂ c₃:Ctx} {w₁ w₂ w₃:World} (h:Ext c₁ w₁ c₂ w₂) (k:Ext c₂ w₂ c₃ w₃):Ext c₁ w₁ c₃ w₃ :=
 ⟨k.base.trans h.base, k.os.trans h.os, k.tape.trans h.tape, k.output.trans h.output, Nat.le_trans h.size k.size,
  fun b hb=>(k.below b (by rw [h.base];exact hb)).trans (h.below b hb),
  fun a u hp hc=>k.cell a u (h.prot hp hc) (h.cell a u hp hc),
  fun b hb=>Nat.le_trans (h.pm b hb) (k.pm b (Nat.lt_of_lt_of_le hb h.size)),
  fun b hb=>(k.pmb b (by rw [h.base];exact hb)).trans (h.pmb b hb),
  fun b hb=>(k.owb b (by rw [h.base];exact hb)).trans (h.owb b hb),
  Nat.le_trans h.no k.no,
  fun id hid=>(k.ob id (Nat.lt_of_lt_of_le hid h.no)).trans (h.ob id hid),
  fun b hb=>k.dfr b (h.dfr b hb)⟩
theorem Rep.mono {c c':Ctx} {w w':World} (he:Ext c w c' w') {x:AV} {u:Value} (h:Rep c w x u):Rep c' w' x u:=by
 induction h with
 | any u=>exact .any u
 | v x=>exact .v x
 | lst u hn hcap hmax hs hsz hrf hz hnil hc _ ih =>
  exact .lst u hn hcap hmax hs hsz hrf hz hnil (fun ad k ha hk=>let ⟨h1,h2,h3⟩:=hc ad k ha hk;⟨he.cell _ _ h2 h1,he.prot h2 h1,h3⟩) ih
 | ro u hrf hc _ ih=>exact .ro u hrf (fun k hk=>let ⟨h1,h2,h3⟩:=hc k hk;⟨he.cell _ _ h2 h1,he.prot h2 h1,h3⟩) ih
 | loc h=>rw [← he.ob _ h];exact .loc (Nat.lt_of_lt_of_le h he.no)
 | arr h h1 h2=>rw [← he.ob _ h];exact .arr (Nat.lt_of_lt_of_le h he.no) h1 h2
 | fn h1 h2 _ _ i1 i2=>exact .fn h1 h2 i1 i2
 | agg h _ ih=>exact .agg h ih
 | tup h _ ih=>exact .tup h ih
 | mp h=>rw [← he.ob _ h];exact .mp (Nat.lt_of_lt_of_le h he.no)
 | yld h=>rw [← he.ob _ h];exact .yld (Nat.lt_of_lt_of_le h he.no)
theorem xc8 {xs:List AV} (h:AV.rfL xs=true) {j:Nat} {y:AV} (hy:xs[j]?=some y):y.rf=true:=by
 induction xs generalizing j with
 | nil=>simp at hy
 | cons x xs ih =>
  simp only [AV.rfL,Bool.and_eq_true] at h
  cases j with
  | zero=>simp at hy;subst hy;exact h.1
  | succ j=>exact ih h.2 (by simpa using hy)
theorem qc8 {xs:List AV}:AV.rfL xs=true ↔ ∀ x∈xs,x.rf=true:=by
 induction xs with
 | nil=>simp [AV.rfL]
 | cons x xs ih=>simp [AV.rfL,ih]
theorem zs7 (xs ys:List AV):AV.rfL (xs++ys)=(AV.rfL xs&&AV.rfL ys):=by
 induction xs with
 | nil=>simp [AV.rfL]
 | cons x xs ih=>simp [AV.rfL,ih,Bool.and_assoc]
theorem wc7 {x:AV} (h:x.rf=true) {j:Nat} {y:AV} (hy:x.cells[j]?=some y):y.rf=true:=by
 cases x with
 | agg xs=>exact xc8 (by simpa [AV.rf] using h) (by simpa [AV.cells] using hy)
 | _=>cases j <;> simp [AV.cells] at hy <;> (subst hy;exact h)
theorem Rep.recast {c c':Ctx} {w:World} (hp:∀ a,c.prot a→c'.prot a) {x:AV} {u:Value} (h:Rep c w x u) (hx:x.rf=true):Rep c' w x u:=by
 induction h with
 | any u=>exact .any u
 | v x=>exact .v x
 | lst u hn hcap hmax hs hsz hrf hz hnil hc _ ih =>
  exact .lst u hn hcap hmax hs hsz hrf hz hnil (fun ad k ha hk => let ⟨h1, h2, h3⟩ := hc ad k ha hk; ⟨h1, hp _ h2, h3⟩)
   (fun i j x y hi hj=>ih i j x y hi hj (wc7 (xc8 hrf hi) hj))
 | ro u hrf hc _ ih=>exact .ro u hrf (fun k hk=>let ⟨h1,h2,h3⟩:=hc k hk;⟨h1,hp _ h2,h3⟩) (fun j y hj=>ih j y hj (wc7 hrf hj))
 | loc h=>simp [AV.rf] at hx
 | arr h h1 h2=>simp [AV.rf] at hx
 | fn h1 h2 _ _ i1 i2 =>
  simp only [AV.rf,Bool.and_eq_true] at hx
  exact .fn h1 h2 (fun j y hj=>i1 j y hj (xc8 hx.1 hj)) (fun j y hj=>i2 j y hj (xc8 hx.2 hj))
 | agg h _ ih=>exact .agg h (fun j y hj=>ih j y hj (xc8 (by simpa [AV.rf] using hx) hj))
 | tup h _ ih=>exact .tup h (fun j y hj=>ih j y hj (xc8 (by simpa [AV.rf] using hx) hj))
 | mp h=>simp [AV.rf] at hx
 | yld h=>simp [AV.rf] at hx
end Go.AM
namespace Go.AM
open Go.RowKit
namespace AV
mutual
def tl : AV → Bool
 | .lst (.tip _ _) _ _=>false
 | .agg xs | .tup xs=>tlL xs
 | _=>true
def tlL : List AV → Bool
 | []=>true
 | x :: xs=>tl x&&tlL xs
end
end AV
section lists
theorem vf9 (xs:List AV) (j:Nat):(AV.weakL xs)[j]?=(xs[j]?).map AV.weak:=by
 induction xs generalizing j with
 | nil=>simp [AV.weakL]
 | cons x xs ih=>cases j <;> simp [AV.weakL,ih]
theorem xb9 (T:Nat) (xs:List AV) (j:Nat):(AV.killL T xs)[j]?=(xs[j]?).map (AV.kill T):=by
 induction xs generalizing j with
 | nil=>simp [AV.killL]
 | cons x xs ih=>cases j <;> simp [AV.killL,ih]
theorem kp9 (T:Nat) (xs:List AV) (j:Nat):(AV.normL T xs)[j]?=(xs[j]?).map (AV.norm T):=by
 induction xs generalizing j with
 | nil=>simp [AV.normL]
 | cons x xs ih=>cases j <;> simp [AV.normL,ih]
theorem xg9 (xs:List AV):(AV.weakL xs).length=xs.length:=by
 induction xs <;> simp_all [AV.weakL]
theorem ym8 (T:Nat) (xs:List AV):(AV.killL T xs).length=xs.length:=by
 induction xs <;> simp_all [AV.killL]
theorem xj7 (T:Nat) (xs:List AV):(AV.normL T xs).length=xs.length:=by
 induction xs <;> simp_all [AV.normL]
theorem qj8 {xs:List AV} (h:AV.tlL xs=true) {j:Nat} {y:AV} (hy:xs[j]?=some y):y.tl=true:=by
 induction xs generalizing j with
 | nil=>simp at hy
 | cons x xs ih =>
  simp only [AV.tlL,Bool.and_eq_true] at h
  cases j with
  | zero=>simp at hy;subst hy;exact h.1
  | succ j=>exact ih h.2 (by simpa using hy)
end lists
section flags
variable {c : Ctx} {w : World}
theorem Rep.lst_flag {o o':Fl} {s:Nat} {xs:List AV} {u:Value} (h:Rep c w (.lst o s xs) u) (ho:∀ {a:Option Addr} {n cap:Nat},o.fits a n cap→o'.fits a n cap):Rep c w (.lst o' s xs) u:=by
 cases h with
 | lst u hn hcap hmax hs hsz hrf hz hnil hc hr=>exact .lst u hn hcap hmax hs hsz hrf hz (ho hnil) hc hr
theorem Rep.weak {x:AV} {u:Value} (h:Rep c w x u):Rep c w x.weak u:=by
 induction h with
 | lst u hn hcap hmax hs hsz hrf hz hnil hc hr _=>exact .lst u hn hcap hmax hs hsz hrf hz (Fl.fits_wk hnil) hc hr
 | agg h _ ih =>
  refine .agg (by rw [xg9];exact h) fun j y hj=>?_
  rw [vf9] at hj
  obtain ⟨x,hx,rfl⟩:=Option.map_eq_some_iff.1 hj
  exact ih j x hx
 | tup h _ ih =>
  refine .tup (by rw [xg9];exact h) fun j y hj=>?_
  rw [vf9] at hj
  obtain ⟨x,hx,rfl⟩:=Option.map_eq_some_iff.1 hj
  exact ih j x hx
 | any u=>exact .any u
 | v x=>exact .v x
 | ro u hrf hc hr=>exact .ro u hrf hc hr
 | loc h=>exact .loc h
 | arr h h1 h2=>exact .arr h h1 h2
 | fn h1 h2 r1 r2=>exact .fn h1 h2 r1 r2
 | mp h=>exact .mp h
 | yld h=>exact .yld h
theorem Rep.kill {T:Nat} {x:AV} {u:Value} (h:Rep c w x u):Rep c w (x.kill T) u:=by
 induction h with
 | @lst o s xs a n cap u hn hcap hmax hs hsz hrf hz hnil hc hr _ =>
  cases o with
  | tip e U =>
   simp only [AV.kill]
   split
   ·exact .lst u hn hcap hmax hs hsz hrf hz (Fl.fits_wk hnil) hc hr
   ·exact .lst u hn hcap hmax hs hsz hrf hz hnil hc hr
  | any=>exact .lst u hn hcap hmax hs hsz hrf hz hnil hc hr
  | ex=>exact .lst u hn hcap hmax hs hsz hrf hz hnil hc hr
  | nil=>exact .lst u hn hcap hmax hs hsz hrf hz hnil hc hr
 | agg h _ ih =>
  refine .agg (by rw [ym8];exact h) fun j y hj=>?_
  rw [xb9] at hj
  obtain ⟨x,hx,rfl⟩:=Option.map_eq_some_iff.1 hj
  exact ih j x hx
 | tup h _ ih =>
  refine .tup (by rw [ym8];exact h) fun j y hj=>?_
  rw [xb9] at hj
  obtain ⟨x,hx,rfl⟩:=Option.map_eq_some_iff.1 hj
  exact ih j x hx
 | any u=>exact .any u
 | v x=>exact .v x
 | ro u hrf hc hr=>exact .ro u hrf hc hr
 | loc h=>exact .loc h
 | arr h h1 h2=>exact .arr h h1 h2
 | fn h1 h2 r1 r2=>exact .fn h1 h2 r1 r2
 | mp h=>exact .mp h
 | yld h=>exact .yld h
theorem Rep.norm {T:Nat} (hT:T % 2=1) {x:AV} {u:Value} (h:Rep c w x u):Rep c w (x.norm T) u:=by
 induction h with
 | @lst o s xs a n cap u hn hcap hmax hs hsz hrf hz hnil hc hr _ =>
  cases o with
  | tip e U=>exact .lst u hn hcap hmax hs hsz hrf hz (fun e=>by omega) hc hr
  | ex=>exact .lst u hn hcap hmax hs hsz hrf hz hnil hc hr
  | any=>exact .lst u hn hcap hmax hs hsz hrf hz hnil hc hr
  | nil=>exact .lst u hn hcap hmax hs hsz hrf hz hnil hc hr
 | agg h _ ih =>
  refine .agg (by rw [xj7];exact h) fun j y hj=>?_
  rw [kp9] at hj
  obtain ⟨x,hx,rfl⟩:=Option.map_eq_some_iff.1 hj
  exact ih j x hx
 | tup h _ ih =>
  refine .tup (by rw [xj7];exact h) fun j y hj=>?_
  rw [kp9] at hj
  obtain ⟨x,hx,rfl⟩:=Option.map_eq_some_iff.1 hj
  exact ih j x hx
 | any u=>exact .any u
 | v x=>exact .v x
 | ro u hrf hc hr=>exact .ro u hrf hc hr
 | loc h=>exact .loc h
 | arr h h1 h2=>exact .arr h h1 h2
 | fn h1 h2 r1 r2=>exact .fn h1 h2 r1 r2
 | mp h=>exact .mp h
 | yld h=>exact .yld h
end flags
def TipAt (P:Program) (c:Ctx) (w:World) (e T:Nat) (a:Option Addr) (n cap:Nat):Prop :=
 (a=none∧n=0∧cap=0) ∨
 ∃ g cur,a=some ⟨g,0,none⟩∧c.base g∧w.heap[g]?=some (.cells cur e (0,0))∧cur.size=cap * P.cellsOf e∧c.pm g=n * P.cellsOf e∧c.ow g=T∧∀ v∈cur,v.oneCell'=true
inductive Own (P : Program) (c : Ctx) (w : World) : AV → Value → Prop
 | none {x:AV} {u:Value} (h:x.tl=true):Own P c w x u
 | tip {e T s : Nat} {xs : List AV} {a : Option Addr} {n cap : Nat} (hT : T ≠ 0) (hs : s = P.cellsOf e) (h : TipAt P c w e T a n cap) :
   Own P c w (.lst (.tip e T) s xs) (.slice a n cap)
 | agg {xs:List AV} {vs:Array Value} (h:∀ j y,xs[j]?=some y→Own P c w y (vs.getD j undef)):Own P c w (.agg xs) (.agg vs)
 | tup {xs:List AV} {vs:Array Value} (h:∀ j y,xs[j]?=some y→Own P c w y (vs.getD j undef)):Own P c w (.tup xs) (.tuple vs)
mutual
theorem vq6 : (x : AV) → x.weak.tl = true
 | .lst o _ _=>by cases o with
  | tip e T=>simp only [AV.weak,Fl.wk];split <;> rfl
  | _=>rfl
 | .agg xs=>tl_weakL xs
 | .tup xs=>tl_weakL xs
 | .any=>rfl
 | .v _=>rfl
 | .ro _=>rfl
 | .loc _ _=>rfl
 | .arr _ _ _ _=>rfl
 | .fn _ _ _=>rfl
 | .mp _=>rfl
 | .yld _=>rfl
theorem tl_weakL : (xs : List AV) → AV.tlL (AV.weakL xs) = true
 | []=>rfl
 | x :: xs=>by simp only [AV.weakL,AV.tlL,vq6 x,tl_weakL xs,Bool.and_self]
end
theorem Own.weak {P:Program} {c:Ctx} {w:World} (x:AV) (u:Value):Own P c w x.weak u:=.none (vq6 x)
mutual
theorem qb7 {T : Nat} : (x : AV) → x.tl = true → (x.kill T) = x
 | .lst (.tip _ _) _ _,h=>by simp [AV.tl] at h
 | .lst .any _ _,_=>rfl
 | .lst .nil _ _,_=>rfl
 | .lst .ex _ _,_=>rfl
 | .agg xs,h=>by simp only [AV.kill,killL_tl xs h]
 | .tup xs,h=>by simp only [AV.kill,killL_tl xs h]
 | .any,_=>rfl
 | .v _,_=>rfl
 | .ro _,_=>rfl
 | .loc _ _,_=>rfl
 | .arr _ _ _ _,_=>rfl
 | .fn _ _ _,_=>rfl
 | .mp _,_=>rfl
 | .yld _,_=>rfl
theorem killL_tl {T : Nat} : (xs : List AV) → AV.tlL xs = true → AV.killL T xs = xs
 | [],_=>rfl
 | x :: xs,h=>by
  simp only [AV.tlL,Bool.and_eq_true] at h
  simp only [AV.killL,qb7 x h.1,killL_tl xs h.2]
end
def Keeps (c:Ctx) (w:World) (c':Ctx) (w':World) (T:Option Nat):Prop :=
 ∀ g cur e, c.base g → w.heap[g]? = some (.cells cur e (0, 0)) → T.getD 0 ≠ c.ow g →
  w'.heap[g]?=some (.cells cur e (0,0))∧c'.pm g=c.pm g∧c'.ow g=c.ow g
theorem Keeps.refl (c:Ctx) (w:World) (T:Option Nat):Keeps c w c w T:=fun _ _ _ _ h _=>⟨h,rfl,rfl⟩
theorem Keeps.trans {c₁ c₂ c₃:Ctx} {w₁ w₂ w₃:World} {T:Option Nat} (hb:c₂.base=c₁.base) (h:Keeps c₁ w₁ c₂ w₂ T) (k:Keeps c₂ w₂ c₃ w₃ T):Keeps c₁ w₁ c₃ w₃ T:=by
 intro g cur e hg hc hT
 obtain ⟨h1,h3,h4⟩:=h g cur e hg hc hT
 obtain ⟨k1,k3,k4⟩:=k g cur e (by rw [hb];exact hg) h1 (by rw [h4];exact hT)
 exact ⟨k1,k3.trans h3,k4.trans h4⟩
def killO : Option Nat → AV → AV
 | some T,x=>x.kill T
 | none,x=>x
theorem Rep.killO {c:Ctx} {w:World} {x:AV} {u:Value} (T:Option Nat) (h:Rep c w x u):Rep c w (killO T x) u:=by
 cases T with
 | none=>exact h
 | some T=>exact h.kill
theorem TipAt.keep {P : Program} {c c' : Ctx} {w w' : World} {T : Option Nat} (hb : c'.base = c.base) (hk : Keeps c w c' w' T) {e U : Nat} {a : Option Addr} {n cap : Nat}
  (h:TipAt P c w e U a n cap) (hT:T.getD 0≠U):TipAt P c' w' e U a n cap:=by
 rcases h with h | ⟨g,cur,h1,h2,h3,h4,h5,h6,h7⟩
 ·exact .inl h
 ·obtain ⟨k1,k3,k4⟩:=hk g cur e h2 h3 (by rw [h6];exact hT)
  exact .inr (⟨g,cur,h1,by rw [hb];exact h2,k1,h4,k3.trans h5,k4.trans h6,h7⟩)
theorem Own.keep {P : Program} {c c' : Ctx} {w w' : World} {T : Option Nat} (hb : c'.base = c.base) (hk : Keeps c w c' w' T) {x : AV} {u : Value} (h : Own P c w x u) :
  Own P c' w' (killO T x) u:=by
 induction h with
 | @none x u h =>
  cases T with
  | none=>exact .none h
  | some T=>simp only [AM.killO,qb7 x h];exact .none h
 | @tip e U s xs a n cap hU hs h =>
  cases T with
  | none=>exact .tip hU hs (h.keep hb hk (Ne.symm hU))
  | some T =>
   simp only [AM.killO,AV.kill]
   split
   ·refine .none ?_
    simp only [Fl.wk];split <;> rfl
   ·rename_i hne
    exact .tip hU hs (h.keep hb hk (fun e=>hne e.symm))
 | @agg xs vs h ih =>
  cases T with
  | none=>exact .agg ih
  | some T =>
   refine .agg fun j y hj=>?_
   rw [xb9] at hj
   obtain ⟨x,hx,rfl⟩:=Option.map_eq_some_iff.1 hj
   exact ih j x hx
 | @tup xs vs h ih =>
  cases T with
  | none=>exact .tup ih
  | some T =>
   refine .tup fun j y hj=>?_
   rw [xb9] at hj
   obtain ⟨x,hx,rfl⟩:=Option.map_eq_some_iff.1 hj
   exact ih j x hx
inductive LSt where
 | ready
 | busy
 | done (jump:Code)
def LSt.ok (r : Go.Loop) : LSt → Prop
 | .ready=>r.state=.ready∧r.pending=none
 | .busy=>r.state=.busy
 | .done j=>r.state=.done∧r.pending=some j
inductive AObj where
 | cells (ty:TypeId) (cs:List AV)
 | froz (ty:TypeId) (cs:List AV)
 | map (es:List (Value × AV))
 | loop (n:Nat) (fr:List (Nat × AV)) (ps:List Tmp) (assign body:Code) (st:LSt)
 | dead
def getF : List (Nat × AV) → Nat → Option AV
 | [],_=>none
 | (j,x) :: l,i=>if i=j then some x else getF l i
def AObj.live : AObj → Bool
 | .cells _ _ | .map _ | .loop _ _ _ _ _ _=>true
 | _=>false
def AObj.kill (T : Nat) : AObj → AObj
 | .cells ty cs=>.cells ty (AV.killL T cs)
 | o=>o
def xn9 (P : Program) (c : Ctx) (w : World) (id : Nat) : AObj → Prop
 | .cells ty cs => c.base (c.ob id) ∧ c.pm (c.ob id) = 0 ∧ c.ow (c.ob id) = 0 ∧ ∃ cur, w.heap[c.ob id]? = some (.cells cur ty (0, 0)) ∧ cs.length = cur.size ∧
   (∀ j y,cs[j]?=some y→Rep c w y (cur.getD j undef)∧Own P c w y (cur.getD j undef)∧(cur.getD j undef).oneCell'=true)
 | .froz _ cs=>∀ j y,cs[j]?=some y→∃ u,w.cell? ⟨c.ob id,j,none⟩=some u∧c.prot ⟨c.ob id,j,none⟩∧u.oneCell'=true∧Rep c w y u
 | .map es => c.base (c.ob id) ∧ c.pm (c.ob id) = 0 ∧ c.ow (c.ob id) = 0 ∧ ∃ cur clock, w.heap[c.ob id]? = some (.map cur clock) ∧ es.length = cur.size ∧
   (∀ (j:Nat) (k:Value) (y:AV),es[j]?=some (k,y)→∃ e,cur[j]?=some e∧e.key=k∧Rep c w y e.val)
 | .loop n fr ps as body st => c.base (c.ob id) ∧ c.pm (c.ob id) = 0 ∧ c.ow (c.ob id) = 0 ∧ ∃ r : Go.Loop, w.heap[c.ob id]? = some (.loop r) ∧ r.tmps.size = n ∧
   (∀ i x,getF fr i=some x→x.tl=true∧∃ u,r.tmps[i]?=some u∧Rep c w x u)∧r.params.toList=ps∧r.assign=as∧r.body=body∧st.ok r
 | .dead=>True
structure HSim (P:Program) (c:Ctx) (w:World) (h:List AObj):Prop where
 no:c.no=h.length
 lt:∀ i,i < c.no→c.ob i < w.heap.size
 inj:∀ i j,i < c.no→j < c.no→i≠j→c.ob i≠c.ob j
 obj:∀ i o,h[i]?=some o→xn9 P c w i o
theorem HSim.live {P : Program} {c : Ctx} {w : World} {h : List AObj} (hh : HSim P c w h) {i : Nat} {o : AObj} (ho : h[i]? = some o) (hl : o.live = true) :
  c.base (c.ob i)∧c.pm (c.ob i)=0∧c.ow (c.ob i)=0:=by
 have:=hh.obj i o ho
 cases o with
 | cells ty cs=>exact ⟨this.1,this.2.1,this.2.2.1⟩
 | map es=>exact ⟨this.1,this.2.1,this.2.2.1⟩
 | loop n fr ps as body st=>exact ⟨this.1,this.2.1,this.2.2.1⟩
 | froz ty cs=>cases hl
 | dead=>cases hl
structure St where
 n:Nat
 fr:List (Nat × AV)
 h:List AObj
def putF : List (Nat × AV) → Nat → AV → List (Nat × AV)
 | [],i,x=>[(i,x)]
 | (j,y) :: l,i,x=>if i=j then (i,x) :: l else (j,y) :: putF l i x
def qn7 (T : Nat) : List (Nat × AV) → List (Nat × AV)
 | []=>[]
 | (j,y) :: l=>(j,y.kill T) :: qn7 T l
def FSim (P:Program) (c:Ctx) (w:World) (fr:List (Nat × AV)) (tmps:Array Value):Prop :=
 ∀ i x,getF fr i=some x→∃ u,tmps[i]?=some u∧Rep c w x u∧Own P c w x u
def mark (r:Nat):Deferred:={ target:=.collected r,args:=#[] }
def DefOk (c:Ctx) (w:World) (ds:List Deferred):Prop :=
 ∃ rs:List Nat,ds=rs.map mark∧rs.Nodup∧∀ r∈rs,c.base r∧w.heap[r]?=some (Go.Obj.deferred (some []))
structure SimSt (P:Program) (c:Ctx) (w:World) (s:St) (a:Act):Prop where
 n:a.tmps.size=s.n
 base:∀ b,w.heap.size≤b→c.base b
 fr:FSim P c w s.fr a.tmps
 h:HSim P c w s.h
 dfr:DefOk c w a.defers
def Good (F:Fence):Prop:=(∀ f,F.fn f)∧F.depth=none∧F.alive=false
def GoodT (top:Bool) (k:Nat) (F:Fence) (c:Ctx):Prop:=Good F∧(top=true→F.round=none)∧k≤c.no
theorem Good.top {F:Fence} {c:Ctx} {k:Nat} (h:Good F) (hr:F.round=none) (hk:k≤c.no) (top:Bool):GoodT top k F c:=⟨h,fun _=>hr,hk⟩
structure ExtK (k:Nat) (c:Ctx) (w:World) (c':Ctx) (w':World):Prop where
 base:c'.base=c.base
 os:w'.os=w.os
 tape:w'.tape=w.tape
 output:w'.output=w.output
 size:w.heap.size≤w'.heap.size
 below:∀ b,¬ c.base b→w'.heap[b]?=w.heap[b]?
 cell:∀ a u,c.prot a→w.cell? a=some u→w'.cell? a=some u
 pm:∀ b,b < w.heap.size→c.pm b≤c'.pm b
 pmb:∀ b,¬ c.base b→c'.pm b=c.pm b
 owb:∀ b,¬ c.base b→c'.ow b=c.ow b
 no:k≤c'.no
 ob:∀ id,id < k→c'.ob id=c.ob id
 dfr:∀ b:Nat,w.heap[b]?=some (Go.Obj.deferred (some []))→w'.heap[b]?=some (Go.Obj.deferred (some []))
theorem Ext.toK {k:Nat} {c c':Ctx} {w w':World} (h:Ext c w c' w') (hk:k≤c.no):ExtK k c w c' w' :=
 ⟨h.base,h.os,h.tape,h.output,h.size,h.below,h.cell,h.pm,h.pmb,h.owb,Nat.le_trans hk h.no,fun id hid=>h.ob id (Nat.lt_of_lt_of_le hid hk),h.dfr⟩
theorem ExtK.toExt {k:Nat} {c c':Ctx} {w w':World} (h:ExtK k c w c' w') (hk:c.no=k):Ext c w c' w' :=
 ⟨h.base,h.os,h.tape,h.output,h.size,h.below,h.cell,h.pm,h.pmb,h.owb,by rw [hk];exact h.no,fun id hid=>h.ob id (by rw [← hk];exact hid),h.dfr⟩
theorem ExtK.prot {k:Nat} {c c':Ctx} {w w':World} (h:ExtK k c w c' w') {a:Addr} {u:Value} (hp:c.prot a) (hc:w.cell? a=some u):c'.prot a :=
 Nat.lt_of_lt_of_le hp (h.pm _ (uf8 hc))
theorem ExtK.refl {k:Nat} {c:Ctx} (hk:k≤c.no) (w:World):ExtK k c w c w:=(Ext.refl c w).toK hk
theorem ExtK.trans {k:Nat} {c₁ c₂ c₃:Ctx} {w₁ w₂ w₃:World} (h:ExtK k c₁ w₁ c₂ w₂) (k':ExtK k c₂ w₂ c₃ w₃):ExtK k c₁ w₁ c₃ w₃ :=
 ⟨k'.base.trans h.base, k'.os.trans h.os, k'.tape.trans h.tape, k'.output.trans h.output, Nat.le_trans h.size k'.size,
  fun b hb=>(k'.below b (by rw [h.base];exact hb)).trans (h.below b hb),
  fun a u hp hc=>k'.cell a u (h.prot hp hc) (h.cell a u hp hc),
  fun b hb=>Nat.le_trans (h.pm b hb) (k'.pm b (Nat.lt_of_lt_of_le hb h.size)),
  fun b hb=>(k'.pmb b (by rw [h.base];exact hb)).trans (h.pmb b hb),
  fun b hb=>(k'.owb b (by rw [h.base];exact hb)).trans (h.owb b hb),
  k'.no,
  fun id hid=>(k'.ob id hid).trans (h.ob id hid),
  fun b hb=>k'.dfr b (h.dfr b hb)⟩
theorem GoodT.next {top:Bool} {k:Nat} {F:Fence} {c c':Ctx} {w w':World} (h:GoodT top k F c) (he:ExtK k c w c' w'):GoodT top k F c':=⟨h.1,h.2.1,he.no⟩
def Wt (top:Bool) (k:Nat) (P:Program) (code:Code) (Q:Exit→St→Prop) (s:St):Prop :=
 ∀ F n c w a,GoodT top k F c→SimSt P c w s a→code.wpIn F n P (fun e a' w'=>∃ s' c',Q e s'∧SimSt P c' w' s' a'∧ExtK k c w c' w') a w
abbrev W:=Wt true 0
theorem Wt.top {P:Program} {code:Code} {Q:Exit→St→Prop} {s:St} {top:Bool} {k:Nat} (h:Wt false k P code Q s):Wt top k P code Q s :=
 fun F n c w a hF hs=>h F n c w a ⟨hF.1,(fun h=>by cases h),hF.2.2⟩ hs
theorem W_conv {P:Program} {code:Code} {Q:Exit→St→Prop} {s t:St} {top:Bool} {k:Nat} (hst:∀ c w a,SimSt P c w s a→SimSt P c w t a) (h:Wt top k P code Q t):Wt top k P code Q s :=
 fun F n c w a hF hs=>h F n c w a hF (hst c w a hs)
section rules
variable {P : Program} {Q : Exit → St → Prop} {s : St} {top : Bool} {kf : Nat}
def zw9 (K : St → Prop) (Q : Exit → St → Prop) : Exit → St → Prop
 | .normal,s=>K s
 | e,s=>Q e s
theorem Wt.mono {code:Code} {Q':Exit→St→Prop} (h:Wt top kf P code Q s) (hq:∀ e s,Q e s→Q' e s):Wt top kf P code Q' s :=
 fun F n c w a hF hs=>wpIn_mono (h F n c w a hF hs) fun _ _ _ ⟨s',c',q,r⟩=>⟨s',c',hq _ _ q,r⟩
theorem yg9 (h:Q .normal s):Wt top kf P .skip Q s:=fun _ _ c w _ hF hs=>wpIn_skip ⟨s,c,h,hs,ExtK.refl hF.2.2 w⟩
theorem zs9 {id:Nat} (h:Q (.exit id) s):Wt top kf P (.exit id) Q s:=fun _ _ c w _ hF hs=>wpIn_exit ⟨s,c,h,hs,ExtK.refl hF.2.2 w⟩
theorem yj9 (h:Q .ret s):Wt top kf P .ret Q s:=fun _ _ c w _ hF hs=>wpIn_ret ⟨s,c,h,hs,ExtK.refl hF.2.2 w⟩
theorem yh9 {x y:Code} (h:Wt top kf P x (zw9 (Wt top kf P y Q) Q) s):Wt top kf P (.seq x y) Q s:=by
 intro F n c w a hF hs
 refine wpIn_seq (wpIn_mono (h F n c w a hF hs) ?_)
 rintro e a₁ w₁ ⟨s₁,c₁,q,hs₁,he₁⟩
 cases e with
 | normal =>
  refine wpIn_mono (q F n c₁ w₁ a₁ (hF.next he₁) hs₁) ?_
  rintro e a₂ w₂ ⟨s₂,c₂,q₂,hs₂,he₂⟩
  exact ⟨s₂,c₂,q₂,hs₂,he₁.trans he₂⟩
 | exit id=>exact ⟨s₁,c₁,q,hs₁,he₁⟩
 | goto l=>exact ⟨s₁,c₁,q,hs₁,he₁⟩
 | ret=>exact ⟨s₁,c₁,q,hs₁,he₁⟩
 | panic ch=>exact ⟨s₁,c₁,q,hs₁,he₁⟩
 | outgrown=>exact ⟨s₁,c₁,q,hs₁,he₁⟩
def inBlk (id : Nat) (Q : Exit → St → Prop) : Exit → St → Prop
 | .exit i,s=>if i=id then Q .normal s else Q (.exit i) s
 | e,s=>Q e s
theorem yl9 {id:Nat} {x:Code} (h:Wt top kf P x (inBlk id Q) s):Wt top kf P (.block id x) Q s:=by
 intro F n c w a hF hs
 refine wpIn_block (wpIn_mono (h F n c w a hF hs) ?_)
 rintro e a₁ w₁ ⟨s₁,c₁,q,hs₁,he₁⟩
 cases e with
 | exit i =>
  simp only [Exit.inBlock]
  simp only [inBlk] at q
  split
  ·rename_i hi;rw [if_pos hi] at q;exact ⟨s₁,c₁,q,hs₁,he₁⟩
  ·rename_i hi;rw [if_neg hi] at q;exact ⟨s₁,c₁,q,hs₁,he₁⟩
 | normal=>exact ⟨s₁,c₁,q,hs₁,he₁⟩
 | goto l=>exact ⟨s₁,c₁,q,hs₁,he₁⟩
 | ret=>exact ⟨s₁,c₁,q,hs₁,he₁⟩
 | panic ch=>exact ⟨s₁,c₁,q,hs₁,he₁⟩
 | outgrown=>exact ⟨s₁,c₁,q,hs₁,he₁⟩
theorem zj9 {body : Code} (I : Nat → St → Prop) {k : Nat} (h₀ : I k s)
  (round:∀ k s,I k s→Wt top kf P body (zw9 (fun s'=>∃ m,m < k∧I m s') Q) s):Wt top kf P (.loop body) Q s:=by
 intro F n c w a hF hs
 let J:Nat→Act→World→Prop:=fun k a' w'=>∃ s' c',I k s'∧SimSt P c' w' s' a'∧ExtK kf c w c' w'
 have hex:∀ a' w',(∃ k,J k a' w')→∃ k,J k a' w'∧∀ m,J m a' w'→k≤m:=by
  intro a' w' ⟨k,hk⟩
  induction k using Nat.strongRecOn with
  | _ k ih =>
   by_cases hm:∃ m,m < k∧J m a' w'
   ·obtain ⟨m,hlt,hJ⟩:=hm
    exact ih m hlt hJ
   ·exact ⟨k,hk,fun m hJ=>Nat.le_of_not_lt fun hlt=>hm ⟨m,hlt,hJ⟩⟩
 let μ:Act→World→Nat:=fun a' w'=>Classical.epsilon fun k=>J k a' w'∧∀ m,J m a' w'→k≤m
 have hμ:∀ a' w',(∃ k,J k a' w')→J (μ a' w') a' w'∧∀ m,J m a' w'→μ a' w'≤m:=fun a' w' h=>Classical.epsilon_spec (hex a' w' h)
 refine wpIn_loop (fun a' w'=>∃ k,J k a' w') μ ⟨k,s,c,h₀,hs,ExtK.refl hF.2.2 w⟩ ?_
 intro a₁ w₁ hJ
 obtain ⟨⟨s₁,c₁,hI,hs₁,he₁⟩,hmin⟩:=hμ a₁ w₁ hJ
 refine wpIn_mono (round _ s₁ hI F n c₁ w₁ a₁ (hF.next he₁) hs₁) ?_
 rintro e a₂ w₂ ⟨s₂,c₂,q,hs₂,he₂⟩
 cases e with
 | normal =>
  obtain ⟨m,hlt,hI₂⟩:=q
  have hJ₂:J m a₂ w₂:=⟨s₂,c₂,hI₂,hs₂,he₁.trans he₂⟩
  exact ⟨⟨m,hJ₂⟩,Nat.lt_of_le_of_lt ((hμ a₂ w₂ ⟨m,hJ₂⟩).2 m hJ₂) hlt⟩
 | exit id=>exact ⟨s₂,c₂,q,hs₂,he₁.trans he₂⟩
 | goto l=>exact ⟨s₂,c₂,q,hs₂,he₁.trans he₂⟩
 | ret=>exact ⟨s₂,c₂,q,hs₂,he₁.trans he₂⟩
 | panic ch=>exact ⟨s₂,c₂,q,hs₂,he₁.trans he₂⟩
 | outgrown=>exact ⟨s₂,c₂,q,hs₂,he₁.trans he₂⟩
def absV : Value → AV
 | .slice none 0 0=>.lst .nil 0 []
 | x=>.v x
def St.ev (s : St) : Operand → Option AV
 | .tmp t=>getF s.fr t
 | .const x=>some (absV x)
 | .func f=>some (.fn (.func f) [] [])
 | .global _=>none
theorem rep_absV (c:Ctx) (w:World) (x:Value):Rep c w (absV x) x:=by
 unfold absV
 split
 ·exact .lst (fun _=>undef) rfl (Nat.le_refl _) (by simp) (by simp) (by simp) rfl (fun _=>⟨rfl,rfl⟩) rfl (by simp) (by simp)
 ·exact .v _
theorem own_absV (P:Program) (c:Ctx) (w:World) (x:Value):Own P c w (absV x) x:=by
 unfold absV
 split <;> exact .none rfl
theorem SimSt.ev {c:Ctx} {w:World} {a:Act} (hs:SimSt P c w s a) {o:Operand} {x:AV} (h:s.ev o=some x):Rep c w x (a.eval o)∧Own P c w x (a.eval o):=by
 cases o with
 | tmp t =>
  obtain ⟨u,hu,hr,ho⟩:=hs.fr t x h
  have:a.eval (.tmp t)=u:=by simp [Act.eval,hu]
  rw [this];exact ⟨hr,ho⟩
 | const y =>
  simp only [St.ev,Option.some.injEq] at h
  subst h
  exact ⟨rep_absV c w y,own_absV P c w y⟩
 | func f =>
  simp only [St.ev,Option.some.injEq] at h
  subst h
  exact ⟨.fn (v1:=#[]) (v2:=#[]) rfl rfl (by simp) (by simp),.none rfl⟩
 | global g=>simp [St.ev] at h
theorem yt9 {x y:Code} {o:Operand} {t:Bool} (ho:s.ev o=some (.v (.bool t))) (ht:t=true→Wt top kf P x Q s) (hf:t=false→Wt top kf P y Q s):Wt top kf P (.cond o x y) Q s:=by
 intro F n c w a hF hs
 have he:a.eval o=.bool t:=by
  have:=(hs.ev ho).1
  generalize a.eval o=u at this
  cases this
  rfl
 exact wpIn_cond_split he (fun h=>ht h F n c w a hF hs) (fun h=>hf h F n c w a hF hs)
end rules
end Go.AM
namespace Go.AM
open Go.RowKit
section types
variable (P : Program)
def tyI (t:TypeId):Option (Bool × Nat) :=
 match P.underlying t,P.info? t with
 | some (.struct _),some i=>some (true,i.size)
 | some (.array _ _),some i=>some (true,i.size)
 | some _,some i=>some (false,i.size)
 | _,_=>none
def slI (t:TypeId):Option (TypeId × Bool × Nat) :=
 match P.underlying t with
 | some (.slice e)=>(tyI P e).map fun x=>(e,x)
 | _=>none
def arI (t:TypeId):Option (Nat × TypeId × Bool × Nat) :=
 match P.underlying t with
 | some (.array n e)=>(tyI P e).map fun x=>(n,e,x)
 | _=>none
def fdI (t:TypeId) (f:Nat):Option (Nat × Bool × Nat) :=
 match P.underlying t with
 | some (.struct fs)=>(fs[f]?).bind fun fd=>(tyI P fd.type).map fun x=>(fd.offset,x)
 | _=>none
inductive Cv where
 | toInt (k:IntKind) | str | b2s | s2b (e:TypeId) | same
def cvI (src dst:TypeId):Option Cv :=
 match P.underlying src,P.underlying dst with
 | some _,some (.int k)=>some (.toInt k)
 | some .string,some .string=>some .str
 | some (.slice e),some .string=>match P.underlying e with
  | some (.int .u8)=>some .b2s
  | _=>none
 | some .string,some (.slice e)=>match P.underlying e with
  | some (.int .u8)=>some (.s2b e)
  | _=>none
 | _,_=>none
inductive Kd where
 | str | sl | arr (n:Nat) | parr (n:Nat) | mp | bool | int | ptr | fn | other
def kdI (t:TypeId):Option Kd :=
 match P.underlying t with
 | some .string=>some .str
 | some (.slice _)=>some .sl
 | some (.array n _)=>some (.arr n)
 | some (.pointer e)=>match P.underlying e with
  | some (.array n _)=>some (.parr n)
  | _=>some .ptr
 | some (.map _ _)=>some .mp
 | some .bool=>some .bool
 | some (.int _)=>some .int
 | some (.func _ _ _)=>some .fn
 | some _=>some .other
 | none=>none
end types
section runs
variable {P : Program} (w : World)
theorem wm6 {t:TypeId} {b:Bool} {n:Nat} (h:tyI P t=some (b,n)):∃ i d,P.info? t=some i∧i.size=n∧P.underlying t=some d∧(match d with | .struct _ | .array _ _=>true | _=>false)=b:=by
 unfold tyI at h
 cases hd:P.underlying t with
 | none=>simp [hd] at h
 | some d =>
  cases hi:P.info? t with
  | none=>cases d <;> simp [hd,hi] at h
  | some i=>cases d <;> simp [hd,hi] at h <;> exact ⟨i,_,rfl,h.2,rfl,by simp [h.1]⟩
theorem zb9 {t:TypeId} {b:Bool} {n:Nat} (h:tyI P t=some (b,n)):(sizeOf t).run P w=.ok n w:=by
 obtain ⟨i,d,hi,hn,_,_⟩:=wm6 h
 simp [sizeOf,typeInfo,hi,hn]
theorem zs8 {t:TypeId} {b:Bool} {n:Nat} (h:tyI P t=some (b,n)):(isAgg t).run P w=.ok b w:=by
 obtain ⟨i,d,hi,hn,hd,hb⟩:=wm6 h
 simp only [isAgg,Sem.run_bind,run_underlying hd,Result.andThen_ok]
 cases d <;> simp_all
theorem us9 {t:TypeId} {b:Bool} {n:Nat} (h:tyI P t=some (b,n)):P.cellsOf t=n:=by
 obtain ⟨i,d,hi,hn,_,_⟩:=wm6 h
 simp [Program.cellsOf,hi,hn]
theorem xf9 {t e:TypeId} {b:Bool} {n:Nat} (h:slI P t=some (e,b,n)):P.underlying t=some (.slice e)∧tyI P e=some (b,n):=by
 unfold slI at h
 split at h
 ·rename_i e' hu
  obtain ⟨x,hx,he⟩:=Option.map_eq_some_iff.1 h
  simp only [Prod.mk.injEq] at he
  obtain ⟨rfl,rfl⟩:=he
  exact ⟨hu,hx⟩
 ·cases h
theorem vl8 {t e:TypeId} {m:Nat} {b:Bool} {n:Nat} (h:arI P t=some (m,e,b,n)):P.underlying t=some (.array m e)∧tyI P e=some (b,n):=by
 unfold arI at h
 split at h
 ·rename_i m' e' hu
  obtain ⟨x,hx,he⟩:=Option.map_eq_some_iff.1 h
  simp only [Prod.mk.injEq] at he
  obtain ⟨rfl,rfl,rfl⟩:=he
  exact ⟨hu,hx⟩
 ·cases h
theorem fdI_field {t : TypeId} {f off : Nat} {b : Bool} {n : Nat} (h : fdI P t f = some (off, b, n)) :
  ∃ fs fd,P.underlying t=some (.struct fs)∧fs[f]?=some fd∧fd.offset=off∧tyI P fd.type=some (b,n):=by
 unfold fdI at h
 split at h
 ·rename_i fs hu
  obtain ⟨fd,hfd,h⟩:=Option.bind_eq_some_iff.1 h
  obtain ⟨x,hx,he⟩:=Option.map_eq_some_iff.1 h
  simp only [Prod.mk.injEq] at he
  obtain ⟨rfl,rfl⟩:=he
  exact ⟨fs,fd,hu,hfd,rfl,hx⟩
 ·cases h
theorem jh7 (a:Addr) (i j:Nat):(a.add i).add j=a.add (i+j):=by
 unfold Addr.add
 by_cases hi:i=0 <;> by_cases hj:j=0 <;> simp [hi,hj,Nat.add_assoc]
theorem qg9 (g o n:Nat):(⟨g,o,none⟩:Addr).add n=⟨g,o+n,none⟩:=by
 unfold Addr.add;split <;> simp_all
theorem run_loads (a:Addr) (u:Nat→Value) (n:Nat) (h:∀ k,k < n→w.cell? (a.add k)=some (u k)):(loadCells a n).run P w=.ok ((Array.range n).map u) w:=by
 have:=run_loadCells (P:=P) w a n u h
 rw [this]
 congr 1
 apply Array.ext'
 simp [Array.toList_range]
end runs
def wh7 (op:BinOp) (k:IntKind) (x y:Int):Option AV :=
 let a:=BitVec.ofInt k.bits x
 let b:=BitVec.ofInt k.bits y
 match op with
 | .and=>some (.v (.int k (k.wrap (a &&& b).toNat)))
 | .or=>some (.v (.int k (k.wrap (a ||| b).toNat)))
 | .xor=>some (.v (.int k (k.wrap (a ^^^ b).toNat)))
 | .andNot=>some (.v (.int k (k.wrap (a &&& ~~~b).toNat)))
 | _=>none
def strA (op:BinOp) (x y:ByteArray):Option AV :=
 match op with
 | .add=>if (x.size+y.size:Int)≤9223372036854775807 then some (.v (.string (x++y))) else none
 | .eql=>some (.v (.bool (x.toList == y.toList)))
 | .neq=>some (.v (.bool !(x.toList == y.toList)))
 | .lss=>some (.v (.bool (Op.bytesLess x.toList y.toList)))
 | .geq=>some (.v (.bool !(Op.bytesLess x.toList y.toList)))
 | .leq=>some (.v (.bool (Op.bytesLess x.toList y.toList || x.toList == y.toList)))
 | .gtr=>some (.v (.bool !(Op.bytesLess x.toList y.toList || x.toList == y.toList)))
 | _=>none
def intA (op:BinOp) (k:IntKind) (a b:Int):Option AV :=
 match op with
 | .add=>some (.v (.int k (k.wrap (a+b))))
 | .sub=>some (.v (.int k (k.wrap (a - b))))
 | .mul=>some (.v (.int k (k.wrap (a * b))))
 | .quo=>if b=0 then none else some (.v (.int k (k.wrap (a.tdiv b))))
 | .rem=>if b=0 then none else some (.v (.int k (a.tmod b)))
 | .shl=>if b < 0 then none else some (.v (.int k (k.wrap (a * 2 ^ (min b.toNat k.bits)))))
 | .shr=>if b < 0 then none else some (.v (.int k (a.fdiv (2 ^ (min b.toNat k.bits)))))
 | .eql=>some (.v (.bool (a == b)))
 | .neq=>some (.v (.bool (a != b)))
 | .lss=>some (.v (.bool (a < b)))
 | .leq=>some (.v (.bool (a≤b)))
 | .gtr=>some (.v (.bool (a > b)))
 | .geq=>some (.v (.bool (a ≥ b)))
 | op=>wh7 op k a b
def nilSl : AV → Option Bool
 | .lst .nil _ _=>some true
 | .lst _ _ (_ :: _)=>some false
 | .arr _ _ _ _=>some false
 | .v (.slice a _ _)=>some a.isNone
 | _=>none
def qh7 : AV → Option Bool
 | .v (.pointer a)=>some a.isNone
 | .ro _=>some false
 | .loc _ _=>some false
 | _=>none
def nilFn : AV → Option Bool
 | .v .nilFunc=>some true
 | .v (.func _ _ _)=>some false
 | .fn _ _ _=>some false
 | _=>none
def eqA (P:Program) (t:TypeId) (x y:AV):Option Bool :=
 match kdI P t with
 | some .bool=>match x,y with
  | .v (.bool a),.v (.bool b)=>some (a == b)
  | _,_=>none
 | some .sl=>match x,y with
  | .lst .nil _ _,y=>nilSl y
  | x,.lst .nil _ _=>nilSl x
  | _,_=>none
 | some .ptr=>match x,y with
  | .v (.pointer none),y=>qh7 y
  | x,.v (.pointer none)=>qh7 x
  | _,_=>none
 | some .fn=>match x,y with
  | .v .nilFunc,y=>nilFn y
  | x,.v .nilFunc=>nilFn x
  | _,_=>none
 | _=>none
def binA (P:Program) (op:BinOp) (t:TypeId) (x y:AV):Option AV :=
 match x,y with
 | .v (.int k a),.v (.int k' b)=>if op=.shl∨op=.shr∨k=k' then intA op k a b else none
 | .v (.string a),.v (.string b)=>strA op a b
 | x,y=>match op with
  | .eql=>(eqA P t x y).map fun b=>.v (.bool b)
  | .neq=>(eqA P t x y).map fun b=>.v (.bool !b)
  | _=>none
def unA (op:UnOp) (x:AV):Option AV :=
 match op,x with
 | .not,.v (.bool b)=>some (.v (.bool !b))
 | .neg,.v (.int k n)=>some (.v (.int k (k.wrap (0 - n))))
 | .xor,.v (.int k n)=>wh7 .xor k (if k.signed then -1 else k.max) n
 | _,_=>none
def vk8 : List AV → Option (List UInt8)
 | []=>some []
 | .v (.int .u8 n) :: l=>(vk8 l).map fun r=>UInt8.ofNat n.toNat :: r
 | _=>none
def cvA (P:Program) (src dst:TypeId) (x:AV):Option AV :=
 match cvI P src dst,x with
 | some (.toInt k),.v (.int _ n)=>some (.v (.int k (k.wrap n)))
 | some .str,.v (.string s)=>some (.v (.string s))
 | some .b2s,.lst _ _ xs=>(vk8 xs).map fun l=>.v (.string ⟨l.toArray⟩)
 | _,_=>none
def lenA (P:Program) (t:TypeId) (x:AV):Option AV :=
 match kdI P t,x with
 | some .str,.v (.string s)=>some (.v (.int .i64 s.size))
 | some .sl,.lst _ _ xs=>some (.v (.int .i64 xs.length))
 | some .sl,.arr _ _ n _=>some (.v (.int .i64 n))
 | some (.arr n),_=>some (.v (.int .i64 n))
 | some (.parr n),_=>some (.v (.int .i64 n))
 | _,_=>none
def capA (P:Program) (t:TypeId) (x:AV):Option AV :=
 match kdI P t,x with
 | some .sl,.lst .nil _ _=>some (.v (.int .i64 0))
 | some .sl,.arr _ _ _ n=>some (.v (.int .i64 n))
 | _,_=>none
def min2A : AV → AV → Option AV
 | .v (.int k x),.v (.int _ y)=>some (.v (.int k (if y < x then y else x)))
 | _,_=>none
def max2A : AV → AV → Option AV
 | .v (.int k x),.v (.int _ y)=>some (.v (.int k (if x < y then y else x)))
 | _,_=>none
def yp6 (f : AV → AV → Option AV) : AV → List AV → Option AV
 | x,[]=>some x
 | x,y :: l=>(f x y).bind fun z=>yp6 f z l
def bnd (lo hi : Nat) : Option AV → Nat → Option Nat
 | none,d=>some d
 | some (.v (.int _ i)),_=>if (lo:Int)≤i∧i≤(hi:Int) then some i.toNat else none
 | some _,_=>none
def Fl.keepNil : Fl → Fl
 | .nil=>.nil
 | _=>.any
def oneL (xs:List AV):Bool:=xs.all fun x=>x.one
def zj8 (P:Program) (t:TypeId) (x:AV) (lo hi:Option AV):Option AV :=
 match kdI P t,x with
 | some .str,.v (.string s)=>(bnd 0 s.size hi s.size).bind fun h=>(bnd 0 h lo 0).bind fun l=>some (.v (.string (s.extract l h)))
 | some .sl,.lst o s xs=>match slI P t with
  | some (_,_,sz)=>if s=sz∧0 < sz then (bnd 0 xs.length hi xs.length).bind fun h=>(bnd 0 h lo 0).bind fun l =>
    some (.lst o.keepNil sz ((xs.take h).drop l)) else none
  | none=>none
 | some .sl,.arr id off len cap=>match slI P t with
  | some (_,_,sz)=>(bnd 0 cap hi len).bind fun h=>(bnd 0 h lo 0).bind fun l=>some (.arr id (if cap=l then off else off+l * sz) (h - l) (cap - l))
  | none=>none
 | some (.arr _),.loc id off=>match arI P t with
  | some (n,_,_,sz)=>if n≤maxLen then (bnd 0 n hi n).bind fun h=>(bnd 0 h lo 0).bind fun l=>some (.arr id (if n=l then off else off+l * sz) (h - l) (n - l)) else none
  | none=>none
 | some (.arr _),.ro (.agg xs)=>match arI P t with
  | some (n,_,false,1)=>if n≤maxLen∧xs.length=n∧0 < n∧lo.isNone∧hi.isNone∧oneL xs=true then some (.lst .any 1 xs) else none
  | _=>none
 | _,_=>none
def uf9 (P:Program) (t:TypeId) (x i:AV):Option AV :=
 match x,i with
 | .lst _ s xs,.v (.int _ i)=>match slI P t with
  | some (_,_,sz)=>if s=sz∧0≤i then (xs[i.toNat]?).map .ro else none
  | none=>none
 | .arr id off len _,.v (.int _ i)=>match slI P t with
  | some (_,_,sz)=>if 0≤i∧i < len then some (.loc id (off+i.toNat * sz)) else none
  | none=>none
 | .loc id off,.v (.int _ i)=>match arI P t with
  | some (n,_,_,sz)=>if 0≤i∧i < n then some (.loc id (off+i.toNat * sz)) else none
  | none=>none
 | _,_=>none
def wk8 (xs:List AV) (off:Nat) (ag:Bool) (sz:Nat):Option AV :=
 if ag then (if off+sz≤xs.length then some (.agg ((xs.drop off).take sz)) else none)
 else (xs[off]?).bind fun y=>if y.one then some y else none
def idxA (P:Program) (t:TypeId) (x i:AV):Option AV :=
 match x,i with
 | .v (.string s),.v (.int _ i)=>match kdI P t with
  | some .str=>if 0≤i then (s.data.toList[i.toNat]?).map fun b=>.v (.int .u8 b.toNat) else none
  | _=>none
 | .agg xs,.v (.int _ i)=>match arI P t with
  | some (n,_,ag,sz)=>if 0≤i∧i < n then wk8 xs (i.toNat * sz) ag sz else none
  | none=>none
 | _,_=>none
def kj7 (P:Program) (t:TypeId) (x:AV) (f:Nat):Option AV :=
 match x with
 | .agg xs=>match fdI P t f with
  | some (off,ag,sz)=>wk8 xs off ag sz
  | none=>none
 | _=>none
def qb9 (P:Program) (t:TypeId) (x:AV) (f:Nat):Option AV :=
 match fdI P t f with
 | some (off,ag,sz)=>if sz=0 then none else
  match x with
  | .ro (.agg xs)=>if ag || sz=1 then (wk8 xs off ag sz).map .ro else none
  | .loc id o=>some (.loc id (o+off))
  | _=>none
 | none=>none
def qn8 (h:List AObj) (id off:Nat) (ag:Bool) (sz:Nat):Option AV :=
 match h[id]? with
 | some (.cells _ cs)=>wk8 cs off ag sz
 | some (.froz _ cs)=>(wk8 cs off ag sz).map AV.weak
 | _=>none
def yw6 (P:Program) (h:List AObj) (t:TypeId) (x:AV):Option AV :=
 match tyI P t with
 | some (ag,sz)=>match x with
  | .ro y => if ag then (match y with | .agg xs => if xs.length = sz then some (AV.weak (.agg xs)) else none | _ => none)
    else if y.one then some y.weak else none
  | .loc id off=>qn8 h id off ag sz
  | _=>none
 | none=>none
def zv8 : AV → Option AV
 | .ro x=>some (.ro x)
 | .loc i o=>some (.loc i o)
 | _=>none
def nilTy (P : Program) (t : TypeId) : AV → AV
 | .lst .nil 0 []=>match slI P t with
  | some (_,_,sz)=>.lst .nil sz []
  | none=>.lst .nil 0 []
 | x=>x
def St.evT (P : Program) (s : St) (t : TypeId) : Operand → Option AV
 | .const x=>some (nilTy P t (absV x))
 | o=>s.ev o
def evAll (s : St) : List Operand → Option (List AV)
 | []=>some []
 | o :: l=>(s.ev o).bind fun x=>(evAll s l).map fun r=>x :: r
def evOpt (s : St) : Option Operand → Option (Option AV)
 | none=>some none
 | some o=>(s.ev o).map some
def zp8 (P:Program) (b:Builtin) (ts:Array TypeId) (xs:List AV):Option AV :=
 match b,xs with
 | .len,[x]=>match ts[0]? with | some t=>lenA P t x | none=>none
 | .cap,[x]=>match ts[0]? with | some t=>capA P t x | none=>none
 | .min,x :: l=>yp6 min2A x l
 | .max,x :: l=>yp6 max2A x l
 | _,_=>none
def wn9 (P:Program) (s:St) (o:Oper):Option AV :=
 match o.op with
 | .move x | .assign x=>s.evT P o.type x
 | .pick c a b=>match s.ev c with
  | some (.v (.bool t))=>if t then s.evT P o.type a else s.evT P o.type b
  | _=>none
 | .binOp op t x y _=>(s.ev x).bind fun a=>(s.ev y).bind fun b=>binA P op t a b
 | .unOp op _ x=>(s.ev x).bind (unA op)
 | .convert src dst x=>(s.ev x).bind (cvA P src dst)
 | .extract t i=>match s.ev t with
  | some (.tup xs)=>xs[i]?
  | _=>none
 | .field t x f=>(s.ev x).bind fun a=>kj7 P t a f
 | .index t x i=>(s.ev x).bind fun a=>(s.ev i).bind fun b=>idxA P t a b
 | .slice t x lo hi none=>(s.ev x).bind fun a=>(evOpt s lo).bind fun l=>(evOpt s hi).bind fun h=>zj8 P t a l h
 | .indexAddr t x i=>(s.ev x).bind fun a=>(s.ev i).bind fun b=>uf9 P t a b
 | .fieldAddr t x f=>(s.ev x).bind fun a=>qb9 P t a f
 | .load t x=>(s.ev x).bind fun a=>yw6 P s.h t a
 | .nilCheck x=>(s.ev x).bind zv8
 | .makeFunc f first captured=>(evAll s first.toList).bind fun l1=>(evAll s captured.toList).map fun l2=>.fn f (AV.weakL l1) (AV.weakL l2)
 | .call c=>match c.callee with
  | .builtin b=>(evAll s c.args.toList).bind (zp8 P b c.argTypes)
  | _=>none
 | _=>none
end Go.AM
namespace Go.AM
open Go.RowKit
section
variable {P : Program} {c : Ctx} {w : World}
theorem Rep.v_inv {x u:Value} (h:Rep c w (.v x) u):u=x:=by cases h;rfl
theorem yg8 {op : BinOp} {k : IntKind} {a b : Int} {z : AV} (h : wh7 op k a b = some z) :
  ∃ r,(Op.intBits op k a b).run P w=.ok r w∧z=.v r:=by
 unfold wh7 at h
 unfold Op.intBits
 cases op <;> first
  | (simp only [Option.some.injEq] at h;subst h;exact ⟨_,rfl,rfl⟩)
  | (simp at h)
theorem intA_sound {op : BinOp} {t : TypeId} {k k' : IntKind} {a b : Int} {z : AV} (hk : op = .shl ∨ op = .shr ∨ k = k') (h : intA op k a b = some z) :
  ∃ r,(binOp op t (.int k a) (.int k' b)).run P w=.ok r w∧z=.v r:=by
 cases op
 case shl =>
  simp only [intA] at h
  split at h
  ·cases h
  ·rename_i hb
   cases h
   exact ⟨_,by simp [binOp,Op.shift,hb],rfl⟩
 case shr =>
  simp only [intA] at h
  split at h
  ·cases h
  ·rename_i hb
   cases h
   exact ⟨_,by simp [binOp,Op.shift,hb],rfl⟩
 all_goals
  have hk:k=k':=(hk.resolve_left (by simp)).resolve_left (by simp)
  subst hk
 case quo =>
  simp only [intA] at h
  split at h
  ·cases h
  ·rename_i hb
   cases h
   exact ⟨_,by simp [binOp,Op.intDiv,hb],rfl⟩
 case rem =>
  simp only [intA] at h
  split at h
  ·cases h
  ·rename_i hb
   cases h
   exact ⟨_,by simp [binOp,Op.intDiv,hb],rfl⟩
 case and=>exact (yg8 (P:=P) (w:=w) (show wh7 .and k a b=some z from h)).imp fun r ⟨h1,h2⟩=>⟨by simpa [binOp] using h1,h2⟩
 case or=>exact (yg8 (P:=P) (w:=w) (show wh7 .or k a b=some z from h)).imp fun r ⟨h1,h2⟩=>⟨by simpa [binOp] using h1,h2⟩
 case xor=>exact (yg8 (P:=P) (w:=w) (show wh7 .xor k a b=some z from h)).imp fun r ⟨h1,h2⟩=>⟨by simpa [binOp] using h1,h2⟩
 case andNot=>exact (yg8 (P:=P) (w:=w) (show wh7 .andNot k a b=some z from h)).imp fun r ⟨h1,h2⟩=>⟨by simpa [binOp] using h1,h2⟩
 all_goals
  simp only [intA,Option.some.injEq] at h
  subst h
  exact ⟨_,by simp [binOp,Op.intArith,Op.intCmp],rfl⟩
theorem strA_sound {op : BinOp} {t : TypeId} {a b : ByteArray} {z : AV} (h : strA op a b = some z) :
  ∃ r,(binOp op t (.string a) (.string b)).run P w=.ok r w∧z=.v r:=by
 cases op
 case add =>
  simp only [strA] at h
  split at h
  ·rename_i hle
   cases h
   refine ⟨_,?_,rfl⟩
   have:¬ ((a.size+b.size:Nat):Int) > IntKind.i64.max:=by
    simp only [IntKind.max,IntKind.signed,IntKind.bits]
    simp;omega
   simp only [binOp,Op.stringOp,if_neg this,Sem.run_pure]
  ·cases h
 all_goals first
  | (simp only [strA,Option.some.injEq] at h;subst h;exact ⟨_,by simp [binOp,Op.stringOp],rfl⟩)
  | (simp [strA] at h)
theorem xb8 {y:AV} {b:Bool} {v:Value} (h:nilSl y=some b) (hr:Rep c w y v):∃ a n m,v=.slice a n m∧a.isNone=b:=by
 unfold nilSl at h
 split at h
 ·cases h;cases hr with
  | lst u hn hcap hmax hs hsz hrf hz hnil hc hr=>exact ⟨_,_,_,rfl,by have:_=none:=hnil;simp [this]⟩
 ·cases h;cases hr with
  | @lst o s xs a n cap u hn hcap hmax hs hsz hrf hz hnil hc hr =>
   refine ⟨_,_,_,rfl,?_⟩
   cases a with
   | none=>have:=(hz rfl).1;simp at hn;omega
   | some a=>simp
 ·cases h;cases hr;exact ⟨_,_,_,rfl,rfl⟩
 ·cases h;cases hr;exact ⟨_,_,_,rfl,rfl⟩
 ·cases h
theorem yn8 {y:AV} {b:Bool} {v:Value} (h:qh7 y=some b) (hr:Rep c w y v):∃ a,v=.pointer a∧a.isNone=b:=by
 unfold qh7 at h
 split at h
 ·cases h;cases hr;exact ⟨_,rfl,rfl⟩
 ·cases h;cases hr;exact ⟨_,rfl,rfl⟩
 ·cases h;cases hr;exact ⟨_,rfl,rfl⟩
 ·cases h
theorem xn8 {y:AV} {b:Bool} {v:Value} (h:nilFn y=some b) (hr:Rep c w y v):(v=.nilFunc∧b=true)∨(∃ f x y,v=.func f x y∧b=false):=by
 unfold nilFn at h
 split at h
 ·cases h;cases hr;exact .inl ⟨rfl,rfl⟩
 ·cases h;cases hr;exact .inr ⟨_,_,_,rfl,rfl⟩
 ·cases h;cases hr;exact .inr ⟨_,_,_,rfl,rfl⟩
 ·cases h
theorem qg7 {s:Nat} {xs:List AV} {u:Value} (h:Rep c w (.lst .nil s xs) u):∃ m,u=.slice none 0 m:=by
 cases h with
 | lst u hn hcap hmax hs hsz hrf hz hnil hc hr=>exact ⟨_,by have h0:_=none:=hnil;rw [h0,(hz h0).1]⟩
theorem wt9 {t : TypeId} {k : Kd} (h : kdI P t = some k) :
  match k with
  | .str=>P.underlying t=some .string
  | .sl=>∃ e,P.underlying t=some (.slice e)
  | .arr n=>∃ e,P.underlying t=some (.array n e)
  | .parr n=>∃ e e',P.underlying t=some (.pointer e)∧P.underlying e=some (.array n e')
  | .mp=>∃ a b,P.underlying t=some (.map a b)
  | .bool=>P.underlying t=some .bool
  | .int=>∃ k,P.underlying t=some (.int k)
  | .ptr=>∃ e,P.underlying t=some (.pointer e)
  | .fn=>∃ a b c,P.underlying t=some (.func a b c)
  | .other=>True:=by
 unfold kdI at h
 cases hu:P.underlying t with
 | none=>simp [hu] at h
 | some d =>
  cases d <;> simp [hu] at h <;> try (subst h;simp)
  rename_i e
  split at h
  ·rename_i n e' he
   cases h
   exact ⟨e,e',rfl,he⟩
  ·cases h
   exact ⟨e,rfl⟩
theorem eqA_in {t:TypeId} {x y:AV} {b:Bool} {u v:Value} (d:Nat) (h:eqA P t x y=some b) (hx:Rep c w x u) (hy:Rep c w y v):(Op.equalIn (d+1) t u v).run P w=.ok b w:=by
 unfold eqA at h
 split at h
 ·rename_i hk
  have hu:=wt9 hk
  split at h
  ·cases hx;cases hy;cases h
   simp [Op.equalIn,run_underlying hu]
  ·cases h
 ·rename_i hk
  obtain ⟨e,hu⟩:=wt9 hk
  split at h
  ·obtain ⟨m,rfl⟩:=qg7 hx
   obtain ⟨a,n,m',rfl,rfl⟩:=xb8 h hy
   simp [Op.equalIn,run_underlying hu]
  ·obtain ⟨m,rfl⟩:=qg7 hy
   obtain ⟨a,n,m',rfl,rfl⟩:=xb8 h hx
   cases a <;> simp [Op.equalIn,run_underlying hu]
  ·cases h
 ·rename_i hk
  obtain ⟨e,hu⟩:=wt9 hk
  split at h
  ·cases hx
   obtain ⟨a,rfl,rfl⟩:=yn8 h hy
   simp [Op.equalIn,run_underlying hu]
  ·cases hy
   obtain ⟨a,rfl,rfl⟩:=yn8 h hx
   cases a <;> simp [Op.equalIn,run_underlying hu]
  ·cases h
 ·rename_i hk
  obtain ⟨e1,e2,e3,hu⟩:=wt9 hk
  split at h
  ·cases hx
   rcases xn8 h hy with ⟨rfl,rfl⟩ | ⟨f,x,y,rfl,rfl⟩ <;> simp [Op.equalIn,run_underlying hu]
  ·cases hy
   rcases xn8 h hx with ⟨rfl,rfl⟩ | ⟨f,x,y,rfl,rfl⟩ <;> simp [Op.equalIn,run_underlying hu]
  ·cases h
 ·cases h
theorem eqA_sound {t:TypeId} {x y:AV} {b:Bool} {u v:Value} (h:eqA P t x y=some b) (hx:Rep c w x u) (hy:Rep c w y v):(Op.equal t u v).run P w=.ok b w :=
 eqA_in 9999 h hx hy
theorem eqA_plain {t : TypeId} {x y : AV} {b : Bool} {u v : Value} (h : eqA P t x y = some b) (hx : Rep c w x u) (hy : Rep c w y v) (op : BinOp) (o₁ o₂ : Operand) :
  (eqGuard op t o₁ o₂ u v).run P w=.ok () w∧(binOp .eql t u v=(do pure (.bool (← Op.equal t u v))))∧(binOp .neq t u v=(do pure (.bool (!(← Op.equal t u v))))):=by
 unfold eqA at h
 have key : (∃ a b, u = .bool a ∧ v = .bool b) ∨ (∃ a n m a' n' m', u = .slice a n m ∧ v = .slice a' n' m') ∨ (∃ a b, u = .pointer a ∧ v = .pointer b) ∨
   ((u=.nilFunc∨∃ f x y,u=.func f x y)∧(v=.nilFunc∨∃ f x y,v=.func f x y)):=by
  split at h
  ·split at h
   ·cases hx;cases hy;exact .inl ⟨_,_,rfl,rfl⟩
   ·cases h
  ·split at h
   ·obtain ⟨m,rfl⟩:=qg7 hx
    obtain ⟨a,n,m',rfl,rfl⟩:=xb8 h hy
    exact .inr (.inl ⟨_,_,_,_,_,_,rfl,rfl⟩)
   ·obtain ⟨m,rfl⟩:=qg7 hy
    obtain ⟨a,n,m',rfl,rfl⟩:=xb8 h hx
    exact .inr (.inl ⟨_,_,_,_,_,_,rfl,rfl⟩)
   ·cases h
  ·split at h
   ·cases hx
    obtain ⟨a,rfl,rfl⟩:=yn8 h hy
    exact .inr (.inr (.inl ⟨_,_,rfl,rfl⟩))
   ·cases hy
    obtain ⟨a,rfl,rfl⟩:=yn8 h hx
    exact .inr (.inr (.inl ⟨_,_,rfl,rfl⟩))
   ·cases h
  ·split at h
   ·cases hx
    rcases xn8 h hy with ⟨rfl,rfl⟩ | ⟨f,x,y,rfl,rfl⟩
    ·exact .inr (.inr (.inr ⟨.inl rfl,.inl rfl⟩))
    ·exact .inr (.inr (.inr ⟨.inl rfl,.inr ⟨_,_,_,rfl⟩⟩))
   ·cases hy
    rcases xn8 h hx with ⟨rfl,rfl⟩ | ⟨f,x,y,rfl,rfl⟩
    ·exact .inr (.inr (.inr ⟨.inl rfl,.inl rfl⟩))
    ·exact .inr (.inr (.inr ⟨.inr ⟨_,_,_,rfl⟩,.inl rfl⟩))
   ·cases h
  ·cases h
 rcases key with ⟨a,b,rfl,rfl⟩ | ⟨a,n,m,a',n',m',rfl,rfl⟩ | ⟨a,b,rfl,rfl⟩ | ⟨rfl | ⟨f,x,y,rfl⟩,rfl | ⟨f',x',y',rfl⟩⟩
 all_goals
  refine ⟨?_,rfl,rfl⟩
  unfold eqGuard
  split <;> simp
theorem guard_int (op:BinOp) (t:TypeId) (o₁ o₂:Operand) (k k':IntKind) (a b:Int):(eqGuard op t o₁ o₂ (.int k a) (.int k' b)).run P w=.ok () w:=by
 unfold eqGuard;split <;> simp
theorem guard_str (op:BinOp) (t:TypeId) (o₁ o₂:Operand) (a b:ByteArray):(eqGuard op t o₁ o₂ (.string a) (.string b)).run P w=.ok () w:=by
 unfold eqGuard;split <;> simp
theorem binA_sound {op : BinOp} {t : TypeId} {x y z : AV} {u v : Value} (o₁ o₂ : Operand) (h : binA P op t x y = some z) (hx : Rep c w x u) (hy : Rep c w y v) :
  ∃ r,(do eqGuard op t o₁ o₂ u v;binOp op t u v).run P w=.ok r w∧z=.v r:=by
 unfold binA at h
 split at h
 ·cases hx; cases hy
  split at h
  ·rename_i hk
   obtain ⟨r,h1,h2⟩:=intA_sound (P:=P) (w:=w) (t:=t) hk h
   refine ⟨r,?_,h2⟩
   simp only [Sem.run_bind,guard_int,Result.andThen_ok,h1]
  ·cases h
 ·cases hx;cases hy
  obtain ⟨r,h1,h2⟩:=strA_sound (P:=P) (w:=w) (t:=t) h
  refine ⟨r,?_,h2⟩
  simp only [Sem.run_bind,guard_str,Result.andThen_ok,h1]
 ·split at h
  ·obtain ⟨b,hb,rfl⟩:=Option.map_eq_some_iff.1 h
   obtain ⟨h1,h2,_⟩:=eqA_plain hb hx hy .eql o₁ o₂
   have h3:=eqA_sound hb hx hy
   exact ⟨_,by simp only [Sem.run_bind,h1,Result.andThen_ok,h2,h3,Sem.run_pure],rfl⟩
  ·obtain ⟨b,hb,rfl⟩:=Option.map_eq_some_iff.1 h
   obtain ⟨h1,_,h2⟩:=eqA_plain hb hx hy .neq o₁ o₂
   have h3:=eqA_sound hb hx hy
   exact ⟨_,by simp only [Sem.run_bind,h1,Result.andThen_ok,h2,h3,Sem.run_pure],rfl⟩
  ·cases h
theorem unA_sound {op:UnOp} {x z:AV} {u:Value} (h:unA op x=some z) (hx:Rep c w x u):∃ r,(Op.unary op u).run P w=.ok r w∧z=.v r:=by
 unfold unA at h
 split at h
 ·cases hx;cases h;exact ⟨_,by simp [Op.unary],rfl⟩
 ·cases hx;cases h;exact ⟨_,by simp [Op.unary,Op.intArith],rfl⟩
 ·cases hx
  obtain ⟨r,h1,h2⟩:=yg8 (P:=P) (w:=w) h
  exact ⟨r,by simpa [Op.unary] using h1,h2⟩
 ·cases h
theorem yj7 {src dst : TypeId} {k : Cv} (h : cvI P src dst = some k) :
  match k with
  | .toInt k=>∃ d,P.underlying src=some d∧P.underlying dst=some (.int k)
  | .str=>P.underlying src=some .string∧P.underlying dst=some .string
  | .b2s=>∃ e,P.underlying src=some (.slice e)∧P.underlying dst=some .string∧P.underlying e=some (.int .u8)
  | .s2b e=>P.underlying src=some .string∧P.underlying dst=some (.slice e)∧P.underlying e=some (.int .u8)
  | .same=>True:=by
 unfold cvI at h
 split at h
 ·cases h;exact ⟨_,by assumption,by assumption⟩
 ·cases h;exact ⟨by assumption,by assumption⟩
 ·split at h
  ·cases h;exact ⟨_,by assumption,by assumption,by assumption⟩
  ·cases h
 ·split at h
  ·cases h;exact ⟨by assumption,by assumption,by assumption⟩
  ·cases h
 ·cases h
theorem capA_sound {t : TypeId} {ts : Array TypeId} {ty : TypeId} {x z : AV} {u : Value} (ht : ts[0]? = some t) (h : capA P t x = some z) (hx : Rep c w x u) :
  ∃ r,(Builtin.cap_ ts ty #[u]).run P w=.ok r w∧z=.v r:=by
 unfold capA at h
 split at h
 ·cases h
  obtain ⟨e,hu⟩:=wt9 (P:=P) (t:=t) (k:=.sl) (by assumption)
  cases hx with
  | lst u hn hcap hmax hs hsz hrf hz hnil hc hr =>
   obtain ⟨h1,h2⟩:=hz hnil
   subst h2
   exact ⟨_,by simp [Builtin.cap_,ht,run_underlying hu,goInt],rfl⟩
 ·cases h
  obtain ⟨e,hu⟩:=wt9 (P:=P) (t:=t) (k:=.sl) (by assumption)
  cases hx
  exact ⟨_,by simp [Builtin.cap_,ht,run_underlying hu,goInt],rfl⟩
 ·cases h
theorem lenA_sound {t : TypeId} {ts : Array TypeId} {ty : TypeId} {x z : AV} {u : Value} (ht : ts[0]? = some t) (h : lenA P t x = some z) (hx : Rep c w x u) :
  ∃ r,(Builtin.len_ ts ty #[u]).run P w=.ok r w∧z=.v r:=by
 unfold lenA at h
 split at h
 ·cases hx;cases h
  have hu:=wt9 (P:=P) (t:=t) (k:=.str) (by assumption)
  exact ⟨_,by simp [Builtin.len_,ht,run_underlying hu,goInt],rfl⟩
 ·cases h
  obtain ⟨e,hu⟩:=wt9 (P:=P) (t:=t) (k:=.sl) (by assumption)
  cases hx with
  | lst u hn hcap hmax hs hsz hrf hz hnil hc hr=>subst hn;exact ⟨_,by simp [Builtin.len_,ht,run_underlying hu,goInt],rfl⟩
 ·cases h
  obtain ⟨e,hu⟩:=wt9 (P:=P) (t:=t) (k:=.sl) (by assumption)
  cases hx
  exact ⟨_,by simp [Builtin.len_,ht,run_underlying hu,goInt],rfl⟩
 ·cases h
  rename_i n hk
  obtain ⟨e,hu⟩:=wt9 (P:=P) (t:=t) (k:=.arr n) hk
  exact ⟨_,by simp [Builtin.len_,ht,run_underlying hu,goInt],rfl⟩
 ·cases h
  rename_i n hk
  obtain ⟨e,e',hu,hu'⟩:=wt9 (P:=P) (t:=t) (k:=.parr n) hk
  exact ⟨_,by simp [Builtin.len_,ht,run_underlying hu,run_underlying hu',goInt],rfl⟩
 ·cases h
end
end Go.AM
namespace Go.AM
open Go.RowKit
section
variable {P : Program} {c : Ctx} {w : World}
theorem bytesA_byte {xs:List AV} {l:List UInt8} (h:vk8 xs=some l):xs.length=l.length∧∀ (j:Nat) (x:AV),xs[j]?=some x→∃ n:Int,x=.v (.int .u8 n)∧l[j]?=some (UInt8.ofNat n.toNat):=by
 induction xs generalizing l with
 | nil=>simp [vk8] at h;subst h;simp
 | cons y ys ih =>
  unfold vk8 at h
  split at h
  ·cases ‹_=[]›
  ·rename_i n l' he
   cases he
   obtain ⟨r,hr,rfl⟩:=Option.map_eq_some_iff.1 h
   obtain ⟨h1,h2⟩:=ih hr
   refine ⟨by simp [h1],fun j x hx=>?_⟩
   cases j with
   | zero=>simp at hx;subst hx;exact ⟨n,rfl,by simp⟩
   | succ j=>simpa using h2 j x (by simpa using hx)
  ·cases h
theorem xv9 {o : Fl} {s : Nat} {xs : List AV} {v : Value} (h : Rep c w (.lst o s xs) v) : ∃ (a : Option Addr) (n cap : Nat) (u : Nat → Value), v = .slice a n cap ∧ xs.length = n ∧ n ≤ cap ∧ cap ≤ maxLen ∧ (xs ≠ [] → 0 < s) ∧ (∀ x ∈ xs, x.cells.length = s) ∧
  AV.rfL xs=true∧(a=none→n=0∧cap=0)∧(o.fits a n cap)∧(∀ ad k,a=some ad→k < n * s→w.cell? (ad.add k)=some (u k)∧c.prot (ad.add k)∧(u k).oneCell'=true) ∧
  (∀ i j x y,xs[i]?=some x→x.cells[j]?=some y→Rep c w y (u (i * s+j))):=by
 cases h with
 | lst u hn hcap hmax hs hsz hrf hz hnil hc hr=>exact ⟨_,_,_,u,rfl,hn,hcap,hmax,hs,hsz,hrf,hz,hnil,hc,hr⟩
theorem foldBytes (P : Program) (w : World) (f : Value → ByteArray → Sem (ForInStep ByteArray)) (l : List UInt8) (us : List Value) (hl : us.length = l.length)
  (hu:∀ (j:Nat) (u:Value),us[j]?=some u→∃ n:Int,u=.int .u8 n∧l[j]?=some (UInt8.ofNat n.toNat))
  (hf:∀ n s,(f (.int .u8 n) s).run P w=.ok (.yield (s.push (UInt8.ofNat n.toNat))) w) (s:ByteArray) :
  (forIn us s f).run P w=.ok ⟨s.data++l.toArray⟩ w:=by
 induction us generalizing l s with
 | nil =>
  cases l with
  | nil=>simp
  | cons b l=>simp at hl
 | cons u us ih =>
  cases l with
  | nil=>simp at hl
  | cons b l =>
   obtain ⟨n,rfl,hb⟩:=hu 0 u rfl
   simp at hb
   rw [List.forIn_cons]
   simp only [Sem.run_bind,hf,Result.andThen_ok]
   rw [ih l (by simpa using hl) (fun j u hj=>by simpa using hu (j+1) u (by simpa using hj))]
   subst hb
   simp [ByteArray.push]
theorem b2s_sound {o:Fl} {s:Nat} {xs:List AV} {l:List UInt8} {v:Value} (h:vk8 xs=some l) (hx:Rep c w (.lst o s xs) v):(Conv.bytesToString v).run P w=.ok (.string ⟨l.toArray⟩) w:=by
 obtain ⟨a,n,cap,u,rfl,hn,hcap,hmax,hs,hsz,hrf,hz,hnil,hc,hr⟩:=xv9 hx
 obtain ⟨hl,hb⟩:=bytesA_byte h
 cases a with
 | none =>
  have hn0:=(hz rfl).1
  have:xs=[]:=List.eq_nil_of_length_eq_zero (by omega)
  subst this
  simp [vk8] at h
  subst h
  simp [Conv.bytesToString]
  rfl
 | some ad =>
  by_cases hxs:xs=[]
  ·subst hxs
   simp [vk8] at h
   subst h
   simp at hn
   subst hn
   simp [Conv.bytesToString,loadCells,loadCellsFrom]
   rfl
  ·obtain ⟨x0, hx0⟩ := List.exists_mem_of_ne_nil xs hxs
   have hs1:s=1:=by
    obtain ⟨j,hj,rfl⟩:=List.mem_iff_getElem.1 hx0
    obtain ⟨m,hm,_⟩:=hb j _ (List.getElem?_eq_getElem hj)
    rw [← hsz _ hx0,hm]
    rfl
   subst hs1
   have hload:=run_loads (P:=P) w ad u n (fun k hk=>(hc ad k rfl (by omega)).1)
   simp only [Conv.bytesToString,Sem.run_bind,hload,Result.andThen_ok]
   rw [← Array.forIn_toList]
   rw [foldBytes P w _ l]
   ·simp
   ·simp [hn,← hl]
   ·intro j x hj
    have hjn:j < n:=by
     have:=(List.getElem?_eq_some_iff.1 hj).1
     simpa using this
    have hx:x=u j:=by
     have:=(List.getElem?_eq_some_iff.1 hj).2
     simpa using this.symm
    subst hx
    have hxj:xs[j]?=some xs[j]:=List.getElem?_eq_getElem (by omega)
    obtain ⟨m,hm,hlm⟩:=hb j _ hxj
    have:=hr j 0 _ _ hxj (by rw [hm];rfl)
    rw [Nat.mul_one,Nat.add_zero] at this
    exact ⟨m,this.v_inv,hlm⟩
   ·intro m s;simp
inductive RepO (c : Ctx) (w : World) : Option AV → Option Value → Prop
 | none:RepO c w none none
 | some {x:AV} {u:Value} (h:Rep c w x u):RepO c w (some x) (some u)
theorem bnd_sound {m : Nat} {x : AV} {u : Value} {d r y : Nat} {code : BoundsCode} (h : bnd 0 m (some x) d = some r) (hx : Rep c w x u) (hy : m ≤ y) :
  (Instr.sliceBound u y code).run P w=.ok r w∧r≤m:=by
 unfold bnd at h
 split at h
 ·rename_i heq;cases heq
 ·rename_i heq
  cases heq
  cases hx
  split at h
  ·rename_i hb
   cases h
   have h1:0≤‹Int›∧‹Int›≤(y:Int):=⟨by simpa using hb.1,by omega⟩
   exact ⟨by simp [Instr.sliceBound,asIntOf,h1],by omega⟩
  ·cases h
 ·cases h
theorem vj9 {m n cap h l : Nat} {hi lo : Option AV} {vh vl : Option Value} (b : Bool) (hh : bnd 0 m hi n = some h) (hl : bnd 0 h lo 0 = some l) (hm : m ≤ cap)
  (rh:RepO c w hi vh) (rl:RepO c w lo vl):(Instr.sliceBounds b n cap vl vh none).run P w=.ok (l,h,cap) w:=by
 have e1:∀ code,(match vh with | some v=>Instr.sliceBound v cap code | none=>(Pure.pure n:Sem Nat)).run P w=.ok h w:=by
  intro code
  cases rh with
  | none=>simp [bnd] at hh;simp [hh]
  | some hx=>exact (bnd_sound hh hx hm).1
 have e2:∀ code,(match vl with | some v=>Instr.sliceBound v h code | none=>(Pure.pure 0:Sem Nat)).run P w=.ok l w:=by
  intro code
  cases rl with
  | none=>simp [bnd] at hl;simp [hl]
  | some hx=>exact (bnd_sound hl hx (Nat.le_refl _)).1
 unfold Instr.sliceBounds
 cases rh with
 | none =>
  have:=e1 .index
  simp only [Sem.run_pure,Result.ok.injEq,and_true] at this
  subst this
  cases rl with
  | none =>
   have:=e2 .index
   simp only [Sem.run_pure,Result.ok.injEq,and_true] at this
   subst this
   simp
  | some hx=>simp [e2]
 | some hx =>
  cases rl with
  | none =>
   have:=e2 .index
   simp only [Sem.run_pure,Result.ok.injEq,and_true] at this
   subst this
   simp only [Sem.run_bind,Sem.run_pure,Result.andThen_ok]
   rw [show (Instr.sliceBound _ cap _).run P w=_ from e1 _]
   simp
  | some hx' =>
   simp only [Sem.run_bind,Sem.run_pure,Result.andThen_ok]
   rw [show (Instr.sliceBound _ cap _).run P w=_ from e1 _]
   simp only [Result.andThen_ok]
   rw [show (Instr.sliceBound _ h _).run P w=_ from e2 _]
   simp
theorem drop_rfL {xs:List AV} (h:AV.rfL xs=true) (l n:Nat):AV.rfL ((xs.take n).drop l)=true :=
 qc8.2 fun x hx=>qc8.1 h x (List.mem_of_mem_take (List.mem_of_mem_drop hx))
theorem ww6 {m d r:Nat} {o:Option AV} (h:bnd 0 m o d=some r) (hd:d≤m):r≤m:=by
 unfold bnd at h
 split at h
 ·cases h;exact hd
 ·split at h
  ·cases h;omega
  ·cases h
 ·cases h
theorem Rep.sub {o : Fl} {xs : List AV} {a : Option Addr} {n cap l h sz : Nat} (hx : Rep c w (.lst o sz xs) (.slice a n cap)) (hh : h ≤ n) (hl : l ≤ h) (hsz0 : 0 < sz) :
  Rep c w (.lst .any sz ((xs.take h).drop l)) (.slice (if cap=l then a else a.map (·.add (l * sz))) (h - l) (cap - l)):=by
 cases hx with
 | @lst _ _ _ _ _ _ u hn hcap hmax hs hsz hrf hz hnil hc hr =>
  refine .lst (fun k=>u (l * sz+k)) (by simp;omega) (by omega) (by omega) (fun _=>hsz0) (fun x hx=>hsz x (List.mem_of_mem_take (List.mem_of_mem_drop hx))) (drop_rfL hrf _ _) ?_ trivial ?_ ?_
  ·intro ha
   split at ha
   ·rename_i he;have:=hz ha;omega
   ·cases a with
    | none=>have:=hz rfl;omega
    | some a=>cases ha
  ·intro ad k ha hk
   have hlh:l < h:=by
    rcases Nat.eq_or_lt_of_le hl with e | e
    ·subst e;simp at hk
    ·exact e
   rw [if_neg (by omega)] at ha
   obtain ⟨ad0,rfl,rfl⟩:=Option.map_eq_some_iff.1 ha
   rw [jh7]
   refine hc ad0 (l * sz+k) rfl ?_
   have:l * sz+(h - l) * sz=h * sz:=by rw [← Nat.add_mul];congr 1;omega
   have h2:h * sz≤n * sz:=Nat.mul_le_mul_right _ hh
   omega
  ·intro i j x y hi hj
   rw [List.getElem?_drop] at hi
   have hi':xs[l+i]?=some x:=by
    rw [List.getElem?_take] at hi
    split at hi
    ·exact hi
    ·cases hi
   have:=hr (l+i) j x y hi' hj
   rw [show l * sz+(i * sz+j)=(l+i) * sz+j by rw [Nat.add_mul];omega]
   exact this
theorem Rep.subN {o : Fl} {xs : List AV} {a : Option Addr} {n cap l h sz : Nat} (hx : Rep c w (.lst o sz xs) (.slice a n cap)) (hh : h ≤ n) (hl : l ≤ h) (hsz0 : 0 < sz) :
  Rep c w (.lst o.keepNil sz ((xs.take h).drop l)) (.slice (if cap=l then a else a.map (·.add (l * sz))) (h - l) (cap - l)):=by
 have h0:=hx.sub hh hl hsz0
 cases o with
 | any=>exact h0
 | ex=>exact h0
 | tip e T=>exact h0
 | nil =>
  have ha:a=none:=by
   cases hx with
   | lst u hn hcap hmax hs hsz hrf hz hnil hc hr=>exact hnil
  subst ha
  cases h0 with
  | lst u hn hcap hmax hs hsz hrf hz hnil hc hr=>exact .lst u hn hcap hmax hs hsz hrf hz (by show (if cap=l then none else _)=none;split <;> rfl) hc hr
theorem Am5one {x:AV} (h:x.one=true):x.cells=[x]:=by
 cases x <;> first | rfl | (simp [AV.one] at h;done)
theorem add_zero' (a:Addr):a.add 0=a:=by unfold Addr.add;rfl
theorem wn8 {t : TypeId} {x z : AV} {u : Value} {lo hi : Option AV} {vl vh : Option Value} (h : zj8 P t x lo hi = some z) (hx : Rep c w x u) (rl : RepO c w lo vl) (rh : RepO c w hi vh) :
  ∃ r,(Instr.sliceAt t u vl vh none).run P w=.ok r w∧Rep c w z r∧z.tl=true:=by
 unfold zj8 at h
 split at h
 ·cases hx
  have hu:=wt9 (P:=P) (t:=t) (k:=.str) (by assumption)
  obtain ⟨hh,h1,h⟩:=Option.bind_eq_some_iff.1 h
  obtain ⟨l,h2,h⟩:=Option.bind_eq_some_iff.1 h
  cases h
  have hb:=vj9 (P:=P) false h1 h2 (Nat.le_refl _) rh rl
  refine ⟨_,?_,.v _,rfl⟩
  simp only [Instr.sliceAt,Sem.run_bind,run_underlying hu,Result.andThen_ok]
  simp only [Instr.slice,Sem.run_bind,run_underlying hu,Result.andThen_ok,Option.isSome_none,Bool.false_eq_true,if_false,Sem.run_pure,hb]
 ·obtain ⟨e, hu⟩ := wt9 (P := P) (t := t) (k := .sl) (by assumption)
  rename_i o s xs _
  split at h
  ·rename_i e' ag sz hsl
   obtain ⟨hu',hty⟩:=xf9 hsl
   split at h
   ·rename_i hs
    obtain ⟨rfl,hs0⟩:=hs
    obtain ⟨hh,h1,h⟩:=Option.bind_eq_some_iff.1 h
    obtain ⟨l,h2,h⟩:=Option.bind_eq_some_iff.1 h
    cases h
    obtain ⟨a,n,cap,u',rfl,hn,hcap,_⟩:=xv9 hx
    rw [hn] at h1
    have hb:=vj9 (P:=P) true h1 h2 hcap rh rl
    have hhc:=ww6 h1 (Nat.le_refl _)
    have hlh:=ww6 h2 (Nat.zero_le _)
    refine ⟨_,?_,hx.subN hhc hlh hs0,by cases o <;> rfl⟩
    simp only [Instr.sliceAt,Sem.run_bind,run_underlying hu',Result.andThen_ok]
    simp only [Instr.slice,Sem.run_bind,run_underlying hu',Result.andThen_ok,hb,zb9 w hty,Sem.run_pure]
   ·cases h
  ·cases h
 ·rename_i id off len cap hk
  obtain ⟨e,hu⟩:=wt9 hk
  split at h
  ·rename_i e' ag sz hsl
   obtain ⟨hu',hty⟩:=xf9 hsl
   obtain ⟨hh,h1,h⟩:=Option.bind_eq_some_iff.1 h
   obtain ⟨l,h2,h⟩:=Option.bind_eq_some_iff.1 h
   cases h
   cases hx with
   | arr hid hlen hmax =>
    have hb:=vj9 (P:=P) true h1 h2 (Nat.le_refl _) rh rl
    have hhc:=ww6 h1 hlen
    have hlh:=ww6 h2 (Nat.zero_le _)
    refine ⟨.slice (if cap=l then some ⟨c.ob id,off,none⟩ else (some ⟨c.ob id,off,none⟩:Option Addr).map (·.add (l * sz))) (hh - l) (cap - l),?_,?_,rfl⟩
    ·simp only [Instr.sliceAt,Sem.run_bind,run_underlying hu',Result.andThen_ok]
     simp only [Instr.slice,Sem.run_bind,run_underlying hu',Result.andThen_ok,hb,zb9 w hty,Sem.run_pure]
    ·split
     ·exact .arr hid (by omega) (by omega)
     ·rw [Option.map_some,qg9];exact .arr hid (by omega) (by omega)
  ·cases h
 ·rename_i id off hk
  split at h
  ·rename_i n e' ag sz har
   obtain ⟨hu',hty⟩:=vl8 har
   split at h
   ·rename_i hmax
    obtain ⟨hh,h1,h⟩:=Option.bind_eq_some_iff.1 h
    obtain ⟨l,h2,h⟩:=Option.bind_eq_some_iff.1 h
    cases h
    cases hx with
    | loc hid =>
     have hb:=vj9 (P:=P) false h1 h2 (Nat.le_refl _) rh rl
     have hhc:=ww6 h1 (Nat.le_refl _)
     have hlh:=ww6 h2 (Nat.zero_le _)
     refine ⟨.slice (some (if n=l then ⟨c.ob id,off,none⟩ else (⟨c.ob id,off,none⟩:Addr).add (l * sz))) (hh - l) (n - l),?_,?_,rfl⟩
     ·simp only [Instr.sliceAt,Instr.sureAddr,Sem.run_bind,run_underlying hu',Result.andThen_ok,Sem.run_pure,hb,zb9 w hty]
     ·split
      ·exact .arr hid (by omega) (by omega)
      ·rw [qg9];exact .arr hid (by omega) (by omega)
   ·cases h
  ·cases h
 ·rename_i xs hk
  split at h
  ·rename_i n e' har
   obtain ⟨hu',hty⟩:=vl8 har
   split at h
   ·rename_i hc0
    obtain ⟨hmax,hlen,hpos,hlo,hhi,hall⟩:=hc0
    cases h
    cases rl with
    | some _=>cases hlo
    | none =>
    cases rh with
    | some _=>cases hhi
    | none =>
    have hcell:∀ x∈xs,x.cells=[x]:=fun x hx=>Am5one (List.all_eq_true.1 hall x hx)
    cases hx with
    | @ro _ ad u hrf hc hr =>
     have hb:(Instr.sliceBounds false n n none none none).run P w=.ok (0,n,n) w:=vj9 (P:=P) (c:=c) (hi:=none) (lo:=none) (m:=n) false rfl rfl (Nat.le_refl _) .none .none
     refine ⟨.slice (some ad) n n,?_,.lst u hlen (Nat.le_refl _) hmax (fun _=>by decide) (fun x hx=>by rw [hcell x hx];rfl) (by simpa [AV.rf] using hrf) (fun h=>by cases h) trivial ?_ ?_,rfl⟩
     ·simp only [Instr.sliceAt,Instr.sureAddr,Sem.run_bind,run_underlying hu',Result.andThen_ok,Sem.run_pure,hb,zb9 w hty]
      simp only [show ¬ n=0 by omega,if_false,Nat.zero_mul,add_zero',Nat.sub_zero]
     ·intro ad' k had hk'
      cases had
      refine hc k ?_
      show k < xs.length
      omega
     ·intro i j x y hi hj
      have hm:=List.mem_of_getElem? hi
      rw [hcell x hm] at hj
      have hj0:j=0:=by
       have:=(List.getElem?_eq_some_iff.1 hj).1
       simp at this
       exact this
      subst hj0
      simp at hj
      subst hj
      rw [Nat.mul_one,Nat.add_zero]
      exact hr i x hi
   ·cases h
  ·cases h
 ·cases h
theorem yt6 {t : TypeId} {x i z : AV} {u v : Value} (h : uf9 P t x i = some z) (hx : Rep c w x u) (hi : Rep c w i v) :
  ∃ r,(Instr.indexAt t u v).run P w=.ok r w∧Rep c w z r∧z.tl=true:=by
 unfold uf9 at h
 split at h
 ·cases hi
  split at h
  ·rename_i o s xs k i _x e ag sz hsl
   obtain ⟨hu,hty⟩:=xf9 hsl
   split at h
   ·rename_i hs
    obtain ⟨rfl,hi0⟩:=hs
    obtain ⟨y,hy,rfl⟩:=Option.map_eq_some_iff.1 h
    obtain ⟨a,n,cap,u',rfl,hn,hcap,hmax,hs,hsz,hrf,hz,hnil,hc,hr⟩:=xv9 hx
    have hin:i.toNat < xs.length:=(List.getElem?_eq_some_iff.1 hy).1
    cases a with
    | none=>have:=(hz rfl).1;omega
    | some ad =>
     have hlt:0≤i∧i < (n:Int):=⟨hi0,by omega⟩
     refine ⟨.pointer (some (ad.add (i.toNat * s))),?_,?_,rfl⟩
     ·simp only [Instr.indexAt,asIntOf,Sem.run_bind,Sem.run_pure,run_underlying hu,Result.andThen_ok]
      simp only [if_pos hlt,Sem.run_bind,zb9 w hty,Result.andThen_ok,Sem.run_pure]
     ·have hy':y∈xs:=List.mem_of_getElem? hy
      refine .ro (fun k=>u' (i.toNat * s+k)) (xc8 hrf hy) (fun k hk=>?_) (fun j y' hj=>hr _ _ _ _ hy hj)
      rw [jh7]
      rw [hsz y hy'] at hk
      refine hc ad _ rfl ?_
      have:(i.toNat+1) * s≤n * s:=Nat.mul_le_mul_right _ (by omega)
      rw [Nat.add_mul] at this
      omega
   ·cases h
  ·cases h
 ·cases hi
  split at h
  ·rename_i id off len cap k i _x e ag sz hsl
   obtain ⟨hu,hty⟩:=xf9 hsl
   split at h
   ·rename_i hlt
    cases h
    cases hx with
    | arr hid hlen hmax =>
     refine ⟨.pointer (some ((⟨c.ob id,off,none⟩:Addr).add (i.toNat * sz))),?_,?_,rfl⟩
     ·simp only [Instr.indexAt,asIntOf,Sem.run_bind,Sem.run_pure,run_underlying hu,Result.andThen_ok]
      simp only [if_pos hlt,Sem.run_bind,zb9 w hty,Result.andThen_ok,Sem.run_pure]
     ·rw [qg9];exact .loc hid
   ·cases h
  ·cases h
 ·cases hi
  split at h
  ·rename_i id off k i _x n e ag sz har
   obtain ⟨hu,hty⟩:=vl8 har
   split at h
   ·rename_i hlt
    cases h
    cases hx with
    | loc hid =>
     refine ⟨.pointer (some ((⟨c.ob id,off,none⟩:Addr).add (i.toNat * sz))),?_,?_,rfl⟩
     ·simp only [Instr.indexAt,asIntOf,Instr.sureAddr,Sem.run_bind,Sem.run_pure,run_underlying hu,Result.andThen_ok]
      simp only [if_pos hlt,Sem.run_bind,zb9 w hty,Result.andThen_ok,Sem.run_pure]
     ·rw [qg9];exact .loc hid
   ·cases h
  ·cases h
 ·cases h
theorem jd8 {xs : List AV} {off sz : Nat} {ag : Bool} {z : AV} {vs : Array Value} {t : TypeId} (hty : tyI P t = some (ag, sz)) (h : wk8 xs off ag sz = some z)
  (hl:xs.length=vs.size) (hr:∀ j y,xs[j]?=some y→Rep c w y (vs.getD j undef)):∃ r,(part t vs off).run P w=.ok r w∧Rep c w z r:=by
 unfold wk8 at h
 split at h
 ·rename_i hag
  subst hag
  split at h
  ·rename_i hle
   cases h
   refine ⟨.agg (vs.extract off (off+sz)),?_,?_⟩
   ·simp [part,zs8 w hty,zb9 w hty]
   ·refine .agg (by simp; omega) fun j y hj => ?_
    rw [List.getElem?_take] at hj
    split at hj
    ·rename_i hj'
     rw [List.getElem?_drop] at hj
     have:=hr _ _ hj
     have hlt:off+j < vs.size:=by rw [← hl];exact (List.getElem?_eq_some_iff.1 hj).1
     rw [Array.getD_eq_getD_getElem?,Array.getElem?_eq_getElem hlt] at this
     rw [Array.getD_eq_getD_getElem?,Array.getElem?_extract_of_lt (by omega)]
     exact this
    ·cases hj
  ·cases h
 ·rename_i hag
  have hag':ag=false:=by simpa using hag
  subst hag'
  obtain ⟨y,hy,h⟩:=Option.bind_eq_some_iff.1 h
  split at h
  ·cases h
   have hlt:off < vs.size:=by rw [← hl];exact (List.getElem?_eq_some_iff.1 hy).1
   refine ⟨vs[off],?_,?_⟩
   ·simp [part,zs8 w hty,hlt]
   ·have:=hr _ _ hy
    rw [Array.getD_eq_getD_getElem?,Array.getElem?_eq_getElem hlt] at this
    exact this
  ·cases h
theorem qr7 {xs : List AV} {off sz : Nat} {ag : Bool} {z : AV} {vs : Array Value} {t : TypeId} {r : Value} (hty : tyI P t = some (ag, sz)) (h : wk8 xs off ag sz = some z)
  (hl:xs.length=vs.size) (ho:∀ j y,xs[j]?=some y→Own P c w y (vs.getD j undef)) (hrun:(part t vs off).run P w=.ok r w):Own P c w z r:=by
 unfold wk8 at h
 split at h
 ·rename_i hag
  subst hag
  split at h
  ·rename_i hle
   cases h
   have:(part t vs off).run P w=.ok (.agg (vs.extract off (off+sz))) w:=by simp [part,zs8 w hty,zb9 w hty]
   rw [this] at hrun
   cases hrun
   refine .agg fun j y hj=>?_
   rw [List.getElem?_take] at hj
   split at hj
   ·rename_i hj'
    rw [List.getElem?_drop] at hj
    have:=ho _ _ hj
    have hlt:off+j < vs.size:=by rw [← hl];exact (List.getElem?_eq_some_iff.1 hj).1
    rw [Array.getD_eq_getD_getElem?,Array.getElem?_eq_getElem hlt] at this
    rw [Array.getD_eq_getD_getElem?,Array.getElem?_extract_of_lt (by omega)]
    exact this
   ·cases hj
  ·cases h
 ·rename_i hag
  have hag':ag=false:=by simpa using hag
  subst hag'
  obtain ⟨y,hy,h⟩:=Option.bind_eq_some_iff.1 h
  split at h
  ·cases h
   have hlt:off < vs.size:=by rw [← hl];exact (List.getElem?_eq_some_iff.1 hy).1
   have:(part t vs off).run P w=.ok vs[off] w:=by simp [part,zs8 w hty,hlt]
   rw [this] at hrun
   cases hrun
   have:=ho _ _ hy
   rw [Array.getD_eq_getD_getElem?,Array.getElem?_eq_getElem hlt] at this
   exact this
  ·cases h
theorem xt7 {xs:List AV} {u:Value} (h:Rep c w (.agg xs) u):∃ vs,u=.agg vs∧xs.length=vs.size∧∀ j y,xs[j]?=some y→Rep c w y (vs.getD j undef):=by
 cases h with
 | agg h r=>exact ⟨_,rfl,h,r⟩
theorem tup_inv {xs:List AV} {u:Value} (h:Rep c w (.tup xs) u):∃ vs,u=.tuple vs∧xs.length=vs.size∧∀ j y,xs[j]?=some y→Rep c w y (vs.getD j undef):=by
 cases h with
 | tup h r=>exact ⟨_,rfl,h,r⟩
theorem qp7 {xs:List AV} {vs:Array Value} (h:Own P c w (.agg xs) (.agg vs)) (j:Nat) (y:AV) (hj:xs[j]?=some y):Own P c w y (vs.getD j undef):=by
 cases h with
 | none h=>exact .none (qj8 (by simpa [AV.tl] using h) hj)
 | agg h=>exact h j y hj
theorem own_tup {xs:List AV} {vs:Array Value} (h:Own P c w (.tup xs) (.tuple vs)) (j:Nat) (y:AV) (hj:xs[j]?=some y):Own P c w y (vs.getD j undef):=by
 cases h with
 | none h=>exact .none (qj8 (by simpa [AV.tl] using h) hj)
 | tup h=>exact h j y hj
theorem idxA_sound {t : TypeId} {x i z : AV} {u v : Value} (h : idxA P t x i = some z) (hx : Rep c w x u) (ho : Own P c w x u) (hi : Rep c w i v) :
  ∃ r,(Instr.index t u v).run P w=.ok r w∧Rep c w z r∧Own P c w z r:=by
 unfold idxA at h
 split at h
 ·cases hx; cases hi
  split at h
  ·rename_i s k i _x hk
   have hu:=wt9 hk
   split at h
   ·rename_i hi0
    obtain ⟨b,hb,rfl⟩:=Option.map_eq_some_iff.1 h
    have hb':s[i.toNat]?=some b:=by
     rw [Array.getElem?_toList] at hb
     exact hb
    exact ⟨_,by simp only [Instr.index,asIntOf,Sem.run_bind,Sem.run_pure,Result.andThen_ok,run_underlying hu,if_pos hi0,hb'],.v _,.none rfl⟩
   ·cases h
  ·cases h
 ·cases hi
  split at h
  ·rename_i xs k i _x n e ag sz har
   obtain ⟨hu,hty⟩:=vl8 har
   split at h
   ·rename_i hlt
    obtain ⟨vs,rfl,hl,hr⟩:=xt7 hx
    obtain ⟨r,h1,h2⟩:=jd8 hty h hl hr
    refine ⟨r,?_,h2,qr7 hty h hl (qp7 ho) h1⟩
    simp only [Instr.index,asIntOf,Sem.run_bind,Sem.run_pure,Result.andThen_ok,run_underlying hu]
    simp only [if_pos hlt,Sem.run_bind,zb9 w hty,Result.andThen_ok,h1]
   ·cases h
  ·cases h
 ·cases h
theorem fieldA_sound {t : TypeId} {x z : AV} {u : Value} {f : Nat} (h : kj7 P t x f = some z) (hx : Rep c w x u) (ho : Own P c w x u) :
  ∃ r,(Instr.field t u f).run P w=.ok r w∧Rep c w z r∧Own P c w z r:=by
 unfold kj7 at h
 split at h
 ·split at h
  ·rename_i xs off ag sz hfd
   obtain ⟨fs,fd,hu,hf,rfl,hty⟩:=fdI_field hfd
   obtain ⟨vs,rfl,hl,hr⟩:=xt7 hx
   obtain ⟨r,h1,h2⟩:=jd8 hty h hl hr
   refine ⟨r,?_,h2,qr7 hty h hl (qp7 ho) h1⟩
   simp [Instr.field,run_underlying hu,hf,asAgg,h1]
  ·cases h
 ·cases h
end
end Go.AM
namespace Go.AM
open Go.RowKit
section
variable {P : Program} {c : Ctx} {w : World}
theorem ro_inv {x : AV} {u : Value} (h : Rep c w (.ro x) u) : ∃ (ad : Addr) (f : Nat → Value), u = .pointer (some ad) ∧ x.rf = true ∧ (∀ k, k < x.cells.length → w.cell? (ad.add k) = some (f k) ∧ c.prot (ad.add k) ∧ (f k).oneCell' = true) ∧
  (∀ j y,x.cells[j]?=some y→Rep c w y (f j)):=by
 cases h with
 | ro f hrf hc hr=>exact ⟨_,f,rfl,hrf,hc,hr⟩
theorem yl7 {x:AV} (h:x.one=true):x.cells=[x]:=by
 cases x <;> simp [AV.one] at h <;> rfl
theorem jn7 {fd:Field} {b:Bool} {n:Nat} (hty:tyI P fd.type=some (b,n)) (hn:n≠0) (a:Addr):(fieldPlace a fd).run P w=.ok (a.add fd.offset) w:=by
 simp [fieldPlace,zb9 w hty,hn]
theorem rf_drop {xs:List AV} (h:AV.rfL xs=true) (l n:Nat):AV.rfL ((xs.drop l).take n)=true :=
 qc8.2 fun x hx=>qc8.1 h x (List.mem_of_mem_drop (List.mem_of_mem_take hx))
theorem wd7 {t : TypeId} {x z : AV} {u : Value} {f : Nat} (h : qb9 P t x f = some z) (hx : Rep c w x u) :
  ∃ r,(Instr.fieldAt t u f).run P w=.ok r w∧Rep c w z r∧z.tl=true:=by
 unfold qb9 at h
 split at h
 ·rename_i off ag sz hfd
  obtain ⟨fs,fd,hu,hf,rfl,hty⟩:=fdI_field hfd
  split at h
  ·cases h
  ·rename_i hsz
   have hrun:∀ ad:Addr,(Instr.fieldAt t (.pointer (some ad)) f).run P w=.ok (.pointer (some (ad.add fd.offset))) w:=by
    intro ad
    simp [Instr.fieldAt,Instr.sureAddr,run_underlying hu,hf,jn7 hty hsz]
   split at h
   ·rename_i xs
    obtain ⟨ad,g,rfl,hrf,hc,hr⟩:=ro_inv hx
    refine ⟨_,hrun ad,?_⟩
    split at h
    ·rename_i hag
     obtain ⟨y,hy,rfl⟩:=Option.map_eq_some_iff.1 h
     unfold wk8 at hy
     split at hy
     ·split at hy
      ·rename_i hle
       cases hy
       refine ⟨.ro (fun k=>g (fd.offset+k)) (rf_drop (by simpa [AV.rf] using hrf) _ _) (fun k hk=>?_) (fun j y' hj=>?_),rfl⟩
       ·rw [jh7]
        simp [AV.cells] at hk
        exact hc _ (by simp [AV.cells];omega)
       ·simp only [AV.cells] at hj
        rw [List.getElem?_take] at hj
        split at hj
        ·rw [List.getElem?_drop] at hj
         exact hr _ _ hj
        ·cases hj
      ·cases hy
     ·rename_i hag'
      have hag1:sz=1:=by simpa [hag'] using hag
      obtain ⟨y',hy',hy⟩:=Option.bind_eq_some_iff.1 hy
      split at hy
      ·rename_i hone
       cases hy
       refine ⟨.ro (fun k=>g (fd.offset+k)) (xc8 (by simpa [AV.rf] using hrf) hy') (fun k hk=>?_) (fun j y2 hj=>?_),rfl⟩
       ·rw [yl7 hone] at hk
        simp at hk
        subst hk
        rw [jh7]
        exact hc _ (by simp [AV.cells];exact (List.getElem?_eq_some_iff.1 hy').1)
       ·rw [yl7 hone] at hj
        cases j with
        | zero=>simp at hj;subst hj;exact hr _ _ hy'
        | succ j=>simp at hj
      ·cases hy
    ·cases h
   ·rename_i id o
    cases h
    cases hx with
    | loc hid=>exact ⟨_,hrun _,by rw [qg9];exact .loc hid,rfl⟩
   ·cases h
 ·cases h
theorem vw9 {t : TypeId} {ag : Bool} {sz : Nat} (hty : tyI P t = some (ag, sz)) {ad : Addr} {g : Nat → Value} (hc : ∀ k, k < (if ag then sz else 1) → w.cell? (ad.add k) = some (g k)) :
  (loadVar t ad).run P w=.ok (if ag then .agg ((Array.range sz).map g) else g 0) w:=by
 cases ag with
 | true =>
  simp only [if_true] at hc ⊢
  simp [loadVar,zs8 w hty,zb9 w hty,run_loads w ad g sz hc]
 | false =>
  have:=hc 0 (by simp)
  simp only [Addr.add,if_true] at this
  simp [loadVar,zs8 w hty,this]
theorem vl9 (sz:Nat) (g:Nat→Value) (j:Nat) (hj:j < sz):((Array.range sz).map g).getD j undef=g j:=by
 rw [Array.getD_eq_getD_getElem?]
 simp [hj]
theorem qk7 {h : List AObj} {t : TypeId} {x z : AV} {u : Value} (hh : HSim P c w h) (he : yw6 P h t x = some z) (hx : Rep c w x u) :
  ∃ r,(Instr.loadAt t u).run P w=.ok r w∧Rep c w z r∧Own P c w z r:=by
 unfold yw6 at he
 split at he
 ·rename_i ag sz hty
  split at he
  ·rename_i y
   obtain ⟨ad,g,rfl,hrf,hc,hr⟩:=ro_inv hx
   split at he
   ·rename_i hag
    subst hag
    split at he
    ·rename_i xs
     split at he
     ·rename_i hl
      cases he
      have hrun:=vw9 (w:=w) hty (ad:=ad) (g:=g) (fun k hk=>(hc k (by simp [AV.cells,hl];simpa using hk)).1)
      refine ⟨_,by simpa [Instr.loadAt,Instr.sureAddr] using hrun,?_,Own.weak (.agg xs) _⟩
      refine Rep.weak (.agg (by simp [hl]) fun j y hj=>?_)
      have hlt:j < sz:=by rw [← hl];exact (List.getElem?_eq_some_iff.1 hj).1
      rw [vl9 _ _ _ hlt]
      exact hr j y hj
     ·cases he
    ·cases he
   ·rename_i hag
    have hag':ag=false:=by simpa using hag
    subst hag'
    split at he
    ·rename_i hone
     cases he
     have hrun:=vw9 (w:=w) hty (ad:=ad) (g:=g) (fun k hk=>(hc k (by rw [yl7 hone];simpa using hk)).1)
     refine ⟨_,by simpa [Instr.loadAt,Instr.sureAddr] using hrun,?_,Own.weak y _⟩
     exact Rep.weak (hr 0 y (by rw [yl7 hone];rfl))
    ·cases he
  ·rename_i id off
   cases hx with
   | loc hid =>
    unfold qn8 at he
    split at he
    ·rename_i ty cs hobj
     obtain ⟨_,_,_,cur,hcur,hl,hcs⟩:=hh.obj id _ hobj
     have hcell:∀ k,k < cur.size→w.cell? ⟨c.ob id,k,none⟩=some (cur.getD k undef):=by
      intro k hk
      simp [World.cell?,hcur,hk]
     have e1:=jd8 (w:=w) (c:=c) hty he hl (fun j y hj=>(hcs j y hj).1)
     obtain ⟨r,h1,h2⟩:=e1
     refine ⟨r,?_,h2,qr7 hty he hl (fun j y hj=>(hcs j y hj).2.1) h1⟩
     rw [← h1]
     unfold wk8 at he
     cases ag with
     | true =>
      simp only [if_true] at he
      split at he
      ·rename_i hle
       have hrun := vw9 (w := w) hty (ad := ⟨c.ob id, off, none⟩) (g := fun k => cur.getD (off + k) undef)
        (fun k hk=>by simp only [if_true] at hk;rw [qg9];exact hcell _ (by omega))
       have e2:(part t cur off).run P w=.ok (.agg (cur.extract off (off+sz))) w:=by simp [part,zs8 w hty,zb9 w hty]
       rw [e2]
       simp only [Instr.loadAt,Instr.sureAddr,Sem.run_bind,Sem.run_pure,Result.andThen_ok,hrun,if_true]
       congr 2
       apply Array.ext
       ·simp;omega
       ·intro i h1 h2
        have h1':i < sz:=by simpa using h1
        have h3:off+i < cur.size:=by omega
        simp [Array.getD,h3]
      ·cases he
     | false =>
      simp only [Bool.false_eq_true,if_false] at he
      obtain ⟨y,hy,_⟩:=Option.bind_eq_some_iff.1 he
      have hlt:off < cur.size:=by rw [← hl];exact (List.getElem?_eq_some_iff.1 hy).1
      have hrun := vw9 (w := w) hty (ad := ⟨c.ob id, off, none⟩) (g := fun k => cur.getD (off + k) undef)
        (fun k hk=>by simp at hk;subst hk;rw [qg9];exact hcell _ (by omega))
      have e2:(part t cur off).run P w=.ok cur[off] w:=by simp [part,zs8 w hty,hlt]
      rw [e2]
      simp only [Instr.loadAt,Instr.sureAddr,Sem.run_bind,Sem.run_pure,Result.andThen_ok,hrun]
      simp [Array.getD,hlt]
    ·rename_i ty cs hobj
     have hcs:=hh.obj id _ hobj
     obtain ⟨z',hz',rfl⟩:=Option.map_eq_some_iff.1 he
     have hex:∀ j:Nat,∃ v,∀ y,cs[j]?=some y→w.cell? ⟨c.ob id,j,none⟩=some v∧Rep c w y v:=by
      intro j
      cases hy:cs[j]? with
      | none=>exact ⟨undef,fun y h=>by cases h⟩
      | some y =>
       obtain ⟨v,h1,_,_,h3⟩:=hcs j y hy
       exact ⟨v,fun y' h=>by cases h;exact ⟨h1,h3⟩⟩
     let g:Nat→Value:=fun j=>(hex j).choose
     have hg:∀ j y,cs[j]?=some y→w.cell? ⟨c.ob id,j,none⟩=some (g j)∧Rep c w y (g j):=fun j=>(hex j).choose_spec
     have hl:cs.length=((Array.range cs.length).map g).size:=by simp
     obtain ⟨r,h1,h2⟩:=jd8 (w:=w) (c:=c) (vs:=(Array.range cs.length).map g) hty hz' hl (fun j y hj=>by
      rw [vl9 _ _ _ (List.getElem?_eq_some_iff.1 hj).1];exact (hg j y hj).2)
     refine ⟨r,?_,h2.weak,Own.weak z' _⟩
     rw [← h1]
     unfold wk8 at hz'
     have hcell:∀ k,k < cs.length→w.cell? ⟨c.ob id,k,none⟩=some (g k):=fun k hk=>(hg k _ (List.getElem?_eq_getElem hk)).1
     cases ag with
     | true =>
      simp only [if_true] at hz'
      split at hz'
      ·rename_i hle
       have hrun := vw9 (w := w) hty (ad := ⟨c.ob id, off, none⟩) (g := fun k => g (off + k))
        (fun k hk=>by simp only [if_true] at hk;rw [qg9];exact hcell _ (by omega))
       have e2:(part t ((Array.range cs.length).map g) off).run P w=.ok (.agg (((Array.range cs.length).map g).extract off (off+sz))) w:=by simp [part,zs8 w hty,zb9 w hty]
       rw [e2]
       simp only [Instr.loadAt,Instr.sureAddr,Sem.run_bind,Sem.run_pure,Result.andThen_ok,hrun,if_true]
       congr 2
       apply Array.ext
       ·simp;omega
       ·intro i h1 h2
        simp
      ·cases hz'
     | false =>
      simp only [Bool.false_eq_true,if_false] at hz'
      obtain ⟨y,hy,_⟩:=Option.bind_eq_some_iff.1 hz'
      have hlt:off < cs.length:=(List.getElem?_eq_some_iff.1 hy).1
      have hrun := vw9 (w := w) hty (ad := ⟨c.ob id, off, none⟩) (g := fun k => g (off + k))
        (fun k hk=>by simp at hk;subst hk;rw [qg9];exact hcell _ (by omega))
      have e2:(part t ((Array.range cs.length).map g) off).run P w=.ok (g off) w:=by simp [part,zs8 w hty,hlt]
      rw [e2]
      simp only [Instr.loadAt,Instr.sureAddr,Sem.run_bind,Sem.run_pure,Result.andThen_ok,hrun]
      simp
    ·cases he
  ·cases he
 ·cases he
end
end Go.AM
namespace Go.AM
open Go.RowKit
section
variable {P : Program} {c : Ctx} {w : World}
theorem nilTy_rep {t:TypeId} {x:AV} {u:Value} (h:Rep c w x u):Rep c w (nilTy P t x) u:=by
 unfold nilTy
 split
 ·split
  ·cases h with
   | lst u hn hcap hmax hs hsz hrf hz hnil hc hr =>
    simp at hn
    subst hn
    exact .lst u rfl hcap hmax (by simp) (by simp) rfl hz hnil (by simp) (by simp)
  ·exact h
 ·exact h
theorem nilTy_own {t:TypeId} {x:AV} {u:Value} (h:Own P c w x u):Own P c w (nilTy P t x) u:=by
 unfold nilTy
 split
 ·split
  ·exact .none rfl
  ·exact h
 ·exact h
theorem SimSt.evT {s:St} {a:Act} (hs:SimSt P c w s a) {t:TypeId} {o:Operand} {x:AV} (h:s.evT P t o=some x):Rep c w x (a.eval o)∧Own P c w x (a.eval o):=by
 unfold St.evT at h
 split at h
 ·rename_i y
  cases h
  exact ⟨nilTy_rep (rep_absV c w y),nilTy_own (own_absV P c w y)⟩
 ·exact hs.ev h
inductive RepL (P : Program) (c : Ctx) (w : World) : List AV → List Value → Prop
 | nil:RepL P c w [] []
 | cons {x:AV} {u:Value} {xs:List AV} {us:List Value} (h:Rep c w x u) (ho:Own P c w x u) (hl:RepL P c w xs us):RepL P c w (x :: xs) (u :: us)
theorem RepL.length {xs:List AV} {us:List Value} (h:RepL P c w xs us):xs.length=us.length:=by
 induction h <;> simp_all
theorem RepL.get {xs:List AV} {us:List Value} (h:RepL P c w xs us) {j:Nat} {y:AV} (hj:xs[j]?=some y):∃ u,us[j]?=some u∧Rep c w y u∧Own P c w y u:=by
 induction h generalizing j with
 | nil=>simp at hj
 | cons h ho hl ih =>
  cases j with
  | zero=>simp at hj;subst hj;exact ⟨_,rfl,h,ho⟩
  | succ j=>simpa using ih (by simpa using hj)
theorem SimSt.evAll {s : St} {a : Act} (hs : SimSt P c w s a) : ∀ {l : List Operand} {xs : List AV}, evAll s l = some xs → RepL P c w xs (l.map a.eval)
 | [],xs,h=>by simp [AM.evAll] at h;subst h;exact .nil
 | o :: l,xs,h=>by
  simp only [AM.evAll] at h
  obtain ⟨x,hx,h⟩:=Option.bind_eq_some_iff.1 h
  obtain ⟨r,hr,rfl⟩:=Option.map_eq_some_iff.1 h
  obtain ⟨h1,h2⟩:=hs.ev hx
  exact .cons h1 h2 (hs.evAll hr)
theorem SimSt.evOpt {s:St} {a:Act} (hs:SimSt P c w s a) {o:Option Operand} {r:Option AV} (h:evOpt s o=some r):RepO c w r (o.map a.eval):=by
 cases o with
 | none=>simp [AM.evOpt] at h;subst h;exact .none
 | some o =>
  simp only [AM.evOpt] at h
  obtain ⟨x,hx,rfl⟩:=Option.map_eq_some_iff.1 h
  exact .some (hs.ev hx).1
theorem cvA_sound {src dst:TypeId} {x z:AV} {u:Value} (h:cvA P src dst x=some z) (hx:Rep c w x u):∃ r,(convert src dst u).run P w=.ok r w∧z=.v r:=by
 unfold cvA at h
 split at h
 ·rename_i k k' n hk
  obtain ⟨d,h1,h2⟩:=yj7 hk
  cases hx
  cases h
  exact ⟨_,by simp [convert,run_underlying h1,run_underlying h2,Conv.intToInt],rfl⟩
 ·rename_i s hk
  obtain ⟨h1,h2⟩:=yj7 hk
  cases hx
  cases h
  exact ⟨_,by simp [convert,run_underlying h1,run_underlying h2],rfl⟩
 ·rename_i o sz xs hk
  obtain ⟨e,h1,h2,h3⟩:=yj7 hk
  obtain ⟨l,hl,rfl⟩:=Option.map_eq_some_iff.1 h
  have:=b2s_sound (P:=P) hl hx
  obtain ⟨a,n,cap,u',rfl,_⟩:=xv9 hx
  exact ⟨_,by simp only [convert,Sem.run_bind,run_underlying h1,run_underlying h2,Result.andThen_ok,run_underlying h3];exact this,rfl⟩
 ·cases h
theorem min2A_sound {x y z:AV} {u v:Value} (h:min2A x y=some z) (hx:Rep c w x u) (hy:Rep c w y v):∃ r,(Builtin.min2 u v).run P w=.ok r w∧z=.v r:=by
 unfold min2A at h
 split at h
 ·cases hx;cases hy;cases h;exact ⟨_,by simp [Builtin.min2],rfl⟩
 ·cases h
theorem max2A_sound {x y z:AV} {u v:Value} (h:max2A x y=some z) (hx:Rep c w x u) (hy:Rep c w y v):∃ r,(Builtin.max2 u v).run P w=.ok r w∧z=.v r:=by
 unfold max2A at h
 split at h
 ·cases hx;cases hy;cases h;exact ⟨_,by simp [Builtin.max2],rfl⟩
 ·cases h
theorem kd7 {f : AV → AV → Option AV} {g : Value → Value → Sem Value} (hf : ∀ {x y z : AV} {u v : Value}, f x y = some z → Rep c w x u → Rep c w y v → ∃ r, (g u v).run P w = .ok r w ∧ z = .v r) :
  ∀ {l:List AV} {us:List Value} {x z:AV} {u:Value},yp6 f x l=some z→Rep c w x u→Own P c w x u→RepL P c w l us→∃ r,(us.foldlM g u).run P w=.ok r w∧Rep c w z r∧Own P c w z r:=by
 intro l us x z u h hx htl hl
 induction hl generalizing x u with
 | nil=>simp [yp6] at h;subst h;exact ⟨u,by simp,hx,htl⟩
 | cons h1 h2 h3 ih =>
  simp only [yp6] at h
  obtain ⟨y',hy',h⟩:=Option.bind_eq_some_iff.1 h
  obtain ⟨r,hr,rfl⟩:=hf hy' hx h1
  obtain ⟨r',hr',h4⟩:=ih h (.v r) (.none rfl)
  exact ⟨r',by simp only [List.foldlM_cons,Sem.run_bind,hr,Result.andThen_ok];exact hr',h4⟩
theorem yl6 {b : Builtin} {ts : Array TypeId} {ty : TypeId} {cs : Array Bool} {xs : List AV} {us : List Value} {z : AV} (h : zp8 P b ts xs = some z) (hx : RepL P c w xs us) :
  ∃ r,(builtin b ts ty cs us.toArray).run P w=.ok (.value r) w∧Rep c w z r∧Own P c w z r:=by
 unfold zp8 at h
 split at h
 ·cases hx with
  | cons h1 h2 h3 =>
   cases h3
   split at h
   ·rename_i t ht
    obtain ⟨r,hr,rfl⟩:=lenA_sound (ty:=ty) ht h h1
    exact ⟨r,by simp [builtin,hr],.v _,.none rfl⟩
   ·cases h
 ·cases hx with
  | cons h1 h2 h3 =>
   cases h3
   split at h
   ·rename_i t ht
    obtain ⟨r,hr,rfl⟩:=capA_sound (ty:=ty) ht h h1
    exact ⟨r,by simp [builtin,hr],.v _,.none rfl⟩
   ·cases h
 ·cases hx with
  | cons h1 h2 h3 =>
   obtain ⟨r,hr,h4⟩:=kd7 (P:=P) (g:=Builtin.min2) (fun h hx hy=>min2A_sound h hx hy) h h1 h2 h3
   exact ⟨r,by simp only [builtin,Builtin.min_,Sem.run_bind,hr,Result.andThen_ok,Sem.run_pure],h4⟩
 ·cases hx with
  | cons h1 h2 h3 =>
   obtain ⟨r,hr,h4⟩:=kd7 (P:=P) (g:=Builtin.max2) (fun h hx hy=>max2A_sound h hx hy) h h1 h2 h3
   exact ⟨r,by simp only [builtin,Builtin.max_,Sem.run_bind,hr,Result.andThen_ok,Sem.run_pure],h4⟩
 ·cases h
theorem qj7 {x z:AV} {u:Value} (h:zv8 x=some z) (hx:Rep c w x u):z=x∧∃ ad,u=.pointer (some ad):=by
 unfold zv8 at h
 split at h
 ·cases h;obtain ⟨ad,_,rfl,_⟩:=ro_inv hx;exact ⟨rfl,ad,rfl⟩
 ·cases h;cases hx;exact ⟨rfl,_,rfl⟩
 ·cases h
theorem RepL.weak {xs:List AV} {us:List Value} (h:RepL P c w xs us):RepL P c w (AV.weakL xs) us:=by
 induction h with
 | nil=>exact .nil
 | cons h ho hl ih=>exact .cons h.weak (Own.weak _ _) ih
theorem RepL.toArray {xs:List AV} {us:List Value} (h:RepL P c w xs us) (j:Nat) (y:AV) (hj:xs[j]?=some y):Rep c w y (us.toArray.getD j undef):=by
 obtain ⟨u,hu,hr,_⟩:=h.get hj
 simpa [Array.getD_eq_getD_getElem?,hu] using hr
theorem evPure_sound {s : St} {a : Act} {o : Oper} {x : AV} (hs : SimSt P c w s a) (h : wn9 P s o = some x) :
  ∃ u,(execOp a.eval o).run P w=.ok (.value u) w∧Rep c w x u∧Own P c w x u:=by
 unfold wn9 at h
 unfold execOp
 split at h
 ·rename_i y ho
  obtain ⟨h1,h2⟩:=hs.evT h
  exact ⟨_,by simp only [ho,Sem.run_pure],h1,h2⟩
 ·rename_i y ho
  obtain ⟨h1,h2⟩:=hs.evT h
  exact ⟨_,by simp only [ho,Sem.run_pure],h1,h2⟩
 ·rename_i co x1 x2 ho
  split at h
  ·rename_i t hc
   have hcv:=(hs.ev hc).1.v_inv
   split at h
   ·rename_i ht
    subst ht
    obtain ⟨h1,h2⟩:=hs.evT h
    exact ⟨_,by simp [ho,hcv,asBool],h1,h2⟩
   ·rename_i ht
    have ht:t=false:=by simpa using ht
    subst ht
    obtain ⟨h1,h2⟩:=hs.evT h
    exact ⟨_,by simp [ho,hcv,asBool],h1,h2⟩
  ·cases h
 ·rename_i op t x y yt ho
  obtain ⟨xa,hxa,h⟩:=Option.bind_eq_some_iff.1 h
  obtain ⟨ya,hya,h⟩:=Option.bind_eq_some_iff.1 h
  obtain ⟨r,hr,rfl⟩:=binA_sound x y h (hs.ev hxa).1 (hs.ev hya).1
  refine ⟨r,?_,.v _,.none rfl⟩
  rw [ho]
  have e:((do eqGuard op t x y (a.eval x) (a.eval y);binOp op t (a.eval x) (a.eval y)) >>= fun r=>(pure (.value r):Sem Next)).run P w=.ok (.value r) w:=by
   rw [Sem.run_bind,hr];simp
  exact e
 ·rename_i op t x ho
  obtain ⟨xa,hxa,h⟩:=Option.bind_eq_some_iff.1 h
  obtain ⟨r,hr,rfl⟩:=unA_sound (P:=P) h (hs.ev hxa).1
  exact ⟨r,by simp [ho,hr],.v _,.none rfl⟩
 ·rename_i src dst x ho
  obtain ⟨xa,hxa,h⟩:=Option.bind_eq_some_iff.1 h
  obtain ⟨r,hr,rfl⟩:=cvA_sound h (hs.ev hxa).1
  exact ⟨r,by simp [ho,hr],.v _,.none rfl⟩
 ·rename_i t i ho
  split at h
  ·rename_i xs hxs
   obtain ⟨h1,h2⟩:=hs.ev hxs
   obtain ⟨vs,hv,hl,hr⟩:=tup_inv h1
   rw [hv] at h2
   have hlt:i < vs.size:=by rw [← hl];exact (List.getElem?_eq_some_iff.1 h).1
   have e:vs.getD i undef=vs[i]:=by simp [Array.getD,hlt]
   refine ⟨vs[i],?_,e ▸ hr i x h,e ▸ own_tup h2 i x h⟩
   simp [ho,hv,Instr.extract,hlt]
  ·cases h
 ·rename_i t x f ho
  obtain ⟨xa,hxa,h⟩:=Option.bind_eq_some_iff.1 h
  obtain ⟨r,hr,h1,h2⟩:=fieldA_sound h (hs.ev hxa).1 (hs.ev hxa).2
  exact ⟨r,by simp [ho,hr],h1,h2⟩
 ·rename_i t x i ho
  obtain ⟨xa,hxa,h⟩:=Option.bind_eq_some_iff.1 h
  obtain ⟨ia,hia,h⟩:=Option.bind_eq_some_iff.1 h
  obtain ⟨r,hr,h1,h2⟩:=idxA_sound h (hs.ev hxa).1 (hs.ev hxa).2 (hs.ev hia).1
  exact ⟨r,by simp [ho,hr],h1,h2⟩
 ·rename_i t x lo hi ho
  obtain ⟨xa,hxa,h⟩:=Option.bind_eq_some_iff.1 h
  obtain ⟨l,hl,h⟩:=Option.bind_eq_some_iff.1 h
  obtain ⟨hh,hhh,h⟩:=Option.bind_eq_some_iff.1 h
  obtain ⟨r,hr,h1,h2⟩:=wn8 h (hs.ev hxa).1 (hs.evOpt hl) (hs.evOpt hhh)
  exact ⟨r,by simp [ho,hr],h1,.none h2⟩
 ·rename_i t x i ho
  obtain ⟨xa,hxa,h⟩:=Option.bind_eq_some_iff.1 h
  obtain ⟨ia,hia,h⟩:=Option.bind_eq_some_iff.1 h
  obtain ⟨r,hr,h1,h2⟩:=yt6 h (hs.ev hxa).1 (hs.ev hia).1
  exact ⟨r,by simp [ho,hr],h1,.none h2⟩
 ·rename_i t x f ho
  obtain ⟨xa,hxa,h⟩:=Option.bind_eq_some_iff.1 h
  obtain ⟨r,hr,h1,h2⟩:=wd7 h (hs.ev hxa).1
  exact ⟨r,by simp [ho,hr],h1,.none h2⟩
 ·rename_i t x ho
  obtain ⟨xa,hxa,h⟩:=Option.bind_eq_some_iff.1 h
  obtain ⟨r,hr,h1,h2⟩:=qk7 hs.h h (hs.ev hxa).1
  exact ⟨r,by simp [ho,hr],h1,h2⟩
 ·rename_i x ho
  obtain ⟨xa,hxa,h⟩:=Option.bind_eq_some_iff.1 h
  obtain ⟨rfl,ad,hu⟩:=qj7 h (hs.ev hxa).1
  refine ⟨.pointer (some ad),by simp [ho,hu],?_,?_⟩
  ·rw [← hu];exact (hs.ev hxa).1
  ·rw [← hu];exact (hs.ev hxa).2
 ·rename_i f first captured ho
  obtain ⟨l1,h1,h⟩:=Option.bind_eq_some_iff.1 h
  obtain ⟨l2,h2,rfl⟩:=Option.map_eq_some_iff.1 h
  have r1:=(hs.evAll h1).weak
  have r2:=(hs.evAll h2).weak
  refine ⟨.func f (first.map a.eval) (captured.map a.eval),by simp [ho,Instr.makeFunc],?_,.none rfl⟩
  refine .fn (by simpa using r1.length) (by simpa using r2.length) (fun j y hj=>?_) (fun j y hj=>?_)
  ·have:=r1.toArray j y hj
   simpa [Array.getD_eq_getD_getElem?] using this
  ·have:=r2.toArray j y hj
   simpa [Array.getD_eq_getD_getElem?] using this
 ·rename_i cc ho
  split at h
  ·rename_i b hb
   obtain ⟨xs,hxs,h⟩:=Option.bind_eq_some_iff.1 h
   obtain ⟨r,hr,h1,h2⟩:=yl6 (ty:=o.type) (cs:=cc.args.map fun | .const _=>true | _=>false) h (hs.evAll hxs)
   refine ⟨r,?_,h1,h2⟩
   simp only [ho,resolve,hb,Sem.run_bind,Sem.run_pure,Result.andThen_ok,invoke]
   have e:cc.args.map a.eval=(cc.args.toList.map a.eval).toArray:=by rw [← Array.toList_map]
   rw [e]
   exact hr
  ·cases h
 ·cases h
end
end Go.AM
namespace Go.AM
open Go.RowKit
section
variable {P : Program} {c c' : Ctx} {w w' : World}
def jc8 : Option Nat → List (Nat × AV) → List (Nat × AV)
 | some T,l=>qn7 T l
 | none,l=>l
def wb9 : Option Nat → List AObj → List AObj
 | some T,l=>l.map (AObj.kill T)
 | none,l=>l
theorem yq8 (T:Nat) (fr:List (Nat × AV)) (i:Nat):getF (qn7 T fr) i=(getF fr i).map (AV.kill T):=by
 induction fr with
 | nil=>rfl
 | cons p l ih =>
  obtain ⟨j,y⟩:=p
  simp only [qn7,getF]
  split
  ·simp
  ·exact ih
theorem zv7 (T:Option Nat) (fr:List (Nat × AV)) (i:Nat):getF (jc8 T fr) i=(getF fr i).map (killO T):=by
 cases T with
 | none=>simp only [jc8];cases getF fr i <;> rfl
 | some T=>exact yq8 T fr i
theorem FSim.mono {T:Option Nat} (he:Ext c w c' w') (hk:Keeps c w c' w' T) {fr:List (Nat × AV)} {tmps:Array Value} (h:FSim P c w fr tmps):FSim P c' w' (jc8 T fr) tmps:=by
 intro i x hx
 rw [zv7] at hx
 obtain ⟨y,hy,rfl⟩:=Option.map_eq_some_iff.1 hx
 obtain ⟨u,hu,h1,h2⟩:=h i y hy
 exact ⟨u,hu,(h1.mono he).killO T,h2.keep he.base hk⟩
theorem killHO_get (T:Option Nat) (h:List AObj) (i:Nat):(wb9 T h)[i]?=(h[i]?).map (match T with | some T=>AObj.kill T | none=>id):=by
 cases T with
 | none=>simp [wb9]
 | some T=>simp [wb9]
theorem xn9.mono {T : Option Nat} (he : Ext c w c' w') (hk : Keeps c w c' w' T) {id : Nat} (hid : id < c.no) {o : AObj} (h : xn9 P c w id o)
  (hu:o.live=true→w'.heap[c.ob id]?=w.heap[c.ob id]?∧c'.pm (c.ob id)=c.pm (c.ob id)∧c'.ow (c.ob id)=c.ow (c.ob id)) :
  xn9 P c' w' id (match T with | some T=>AObj.kill T o | none=>o):=by
 have e:xn9 P c' w' id o→xn9 P c' w' id (match (none:Option Nat) with | some T=>AObj.kill T o | none=>o):=fun h=>h
 cases o with
 | cells ty cs =>
  obtain ⟨h1,h2,h3,cur,h4,h5,h6⟩:=h
  obtain ⟨k1,k2,k3⟩:=hu rfl
  cases T with
  | none =>
   exact ⟨by rw [he.base, he.ob _ hid]; exact h1, by rw [he.ob _ hid, k2]; exact h2, by rw [he.ob _ hid, k3]; exact h3, cur, by rw [he.ob _ hid, k1]; exact h4, h5,
    fun j y hj=>⟨((h6 j y hj).1).mono he,(h6 j y hj).2.1.keep he.base hk,(h6 j y hj).2.2⟩⟩
  | some T =>
   refine ⟨by rw [he.base,he.ob _ hid];exact h1,by rw [he.ob _ hid,k2];exact h2,by rw [he.ob _ hid,k3];exact h3,cur,by rw [he.ob _ hid,k1];exact h4,by rw [ym8];exact h5,?_⟩
   intro j y hj
   rw [xb9] at hj
   obtain ⟨z,hz,rfl⟩:=Option.map_eq_some_iff.1 hj
   exact ⟨((h6 j z hz).1.mono he).kill,(h6 j z hz).2.1.keep he.base hk,(h6 j z hz).2.2⟩
 | froz ty cs =>
  have h':xn9 P c' w' id (.froz ty cs):=by
   intro j y hj
   obtain ⟨u,h1,h2,h3,h4⟩:=h j y hj
   rw [he.ob _ hid]
   exact ⟨u,he.cell _ _ h2 h1,he.prot h2 h1,h3,h4.mono he⟩
  cases T <;> exact h'
 | map es =>
  obtain ⟨h1,h2,h3,cur,clock,h4,h5,h6⟩:=h
  obtain ⟨k1,k2,k3⟩:=hu rfl
  have h':xn9 P c' w' id (.map es) :=
   ⟨by rw [he.base, he.ob _ hid]; exact h1, by rw [he.ob _ hid, k2]; exact h2, by rw [he.ob _ hid, k3]; exact h3, cur, clock, by rw [he.ob _ hid, k1]; exact h4, h5,
    fun j k y hj=>let ⟨e,e1,e2,e3⟩:=h6 j k y hj;⟨e,e1,e2,e3.mono he⟩⟩
  cases T <;> exact h'
 | loop n fr ps as body st =>
  obtain ⟨h1,h2,h3,r,h4,h5,h6,h7⟩:=h
  obtain ⟨k1,k2,k3⟩:=hu rfl
  have h':xn9 P c' w' id (.loop n fr ps as body st) :=
   ⟨by rw [he.base, he.ob _ hid]; exact h1, by rw [he.ob _ hid, k2]; exact h2, by rw [he.ob _ hid, k3]; exact h3, r, by rw [he.ob _ hid, k1]; exact h4, h5,
    fun i x hx=>let ⟨h0,u,e1,e2⟩:=h6 i x hx;⟨h0,u,e1,e2.mono he⟩,h7⟩
  cases T <;> exact h'
 | dead=>cases T <;> trivial
theorem HSim.mono {T : Option Nat} (he : Ext c w c' w') (hk : Keeps c w c' w' T) {h : List AObj} (hh : HSim P c w h) (hno : c'.no = c.no)
  (hu:∀ i o,h[i]?=some o→o.live=true→w'.heap[c.ob i]?=w.heap[c.ob i]?∧c'.pm (c.ob i)=c.pm (c.ob i)∧c'.ow (c.ob i)=c.ow (c.ob i)):HSim P c' w' (wb9 T h):=by
 refine ⟨?_,?_,?_,?_⟩
 ·rw [hno,hh.no];cases T <;> simp [wb9]
 ·intro i hi;rw [hno] at hi;rw [he.ob i hi];exact Nat.lt_of_lt_of_le (hh.lt i hi) he.size
 ·intro i j hi hj hne;rw [hno] at hi hj;rw [he.ob i hi,he.ob j hj];exact hh.inj i j hi hj hne
 ·intro i o ho
  rw [killHO_get] at ho
  obtain ⟨o',ho',rfl⟩:=Option.map_eq_some_iff.1 ho
  have hi:i < c.no:=by rw [hh.no];exact (List.getElem?_eq_some_iff.1 ho').1
  have:=xn9.mono (P:=P) he hk hi (hh.obj i o' ho') (fun e=>hu i o' ho' e)
  cases T <;> exact this
theorem DefOk.mono (he:Ext c w c' w') {ds:List Deferred} (h:DefOk c w ds):DefOk c' w' ds:=by
 obtain ⟨rs,h1,h2,h3⟩:=h
 exact ⟨rs,h1,h2,fun r hr=>⟨by rw [he.base];exact (h3 r hr).1,he.dfr r (h3 r hr).2⟩⟩
theorem SimSt.mono {T : Option Nat} (he : Ext c w c' w') (hk : Keeps c w c' w' T) {s : St} {a : Act} (hs : SimSt P c w s a) (hno : c'.no = c.no)
  (hu:∀ i o,s.h[i]?=some o→o.live=true→w'.heap[c.ob i]?=w.heap[c.ob i]?∧c'.pm (c.ob i)=c.pm (c.ob i)∧c'.ow (c.ob i)=c.ow (c.ob i)) :
  SimSt P c' w' ⟨s.n,jc8 T s.fr,wb9 T s.h⟩ a :=
 ⟨hs.n,fun b hb=>by rw [he.base];exact hs.base b (Nat.le_trans he.size hb),hs.fr.mono he hk,hs.h.mono he hk hno hu,hs.dfr.mono he⟩
def St.put (s:St) (dst:Option Tmp) (x:AV):Option St :=
 match dst with
 | none=>some s
 | some d=>if d < s.n then some { s with fr:=putF s.fr d x } else none
theorem jm9 (fr:List (Nat × AV)) (d:Nat) (x:AV) (i:Nat):getF (putF fr d x) i=if i=d then some x else getF fr i:=by
 induction fr with
 | nil=>simp [putF,getF]
 | cons p l ih =>
  obtain ⟨j,y⟩:=p
  simp only [putF]
  split
  ·rename_i hj
   subst hj
   simp only [getF]
   split <;> rfl
  ·rename_i hj
   simp only [getF,ih]
   split
   ·rename_i hi
    rw [if_neg (by omega)]
   ·rfl
theorem SimSt.put {s s':St} {a:Act} (hs:SimSt P c w s a) {dst:Option Tmp} {x:AV} {u:Value} (h:s.put dst x=some s') (hr:Rep c w x u) (ho:Own P c w x u):SimSt P c w s' (a.put dst u):=by
 unfold St.put at h
 cases dst with
 | none=>cases h;exact hs
 | some d =>
  simp only at h
  split at h
  ·rename_i hd
   cases h
   refine ⟨by simpa [Act.put] using hs.n,hs.base,?_,hs.h,hs.dfr⟩
   intro i y hy
   rw [jm9] at hy
   split at hy
   ·rename_i hi
    subst hi
    cases hy
    exact ⟨u,by simp [Act.put,hs.n,hd],hr,ho⟩
   ·rename_i hi
    obtain ⟨v,h1,h2⟩:=hs.fr i y hy
    refine ⟨v,?_,h2⟩
    simp only [Act.put]
    rw [Array.getElem?_setIfInBounds_ne (by omega)]
    exact h1
  ·cases h
def Ctx.setB (c:Ctx) (b p q:Nat):Ctx:={ c with pm:=fun x=>if x=b then p else c.pm x,ow:=fun x=>if x=b then q else c.ow x }
def Ctx.newO (c:Ctx) (b:Nat):Ctx:={ c.setB b 0 0 with no:=c.no+1,ob:=fun i=>if i=c.no then b else c.ob i }
theorem qf9 (w:World) (o:Go.Obj) (b:Nat) (h:b < w.heap.size):(w.alloc o).heap[b]?=w.heap[b]?:=Below.heap_alloc w o b h
theorem qd9 (w:World) (o:Go.Obj):(w.alloc o).heap[w.heap.size]?=some o:=heap_alloc_new w o
theorem jg9 (w:World) (o:Go.Obj):(w.alloc o).heap.size=w.heap.size+1:=by simp
theorem xd6 {w:World} {b:Nat} {o:Go.Obj} (h:w.heap[b]?=some o):b < w.heap.size:=(Array.getElem?_eq_some_iff.1 h).1
theorem cell_of_heap {w w':World} {a:Addr} (h:w'.heap[a.block]?=w.heap[a.block]?):w'.cell? a=w.cell? a:=by simp [World.cell?,h]
theorem yw8 (c:Ctx) (w:World) (o:Go.Obj) (p q:Nat) (hb:∀ b,w.heap.size≤b→c.base b):Ext c w (c.setB w.heap.size p q) (w.alloc o) where
 base:=rfl
 os:=rfl
 tape:=rfl
 output:=rfl
 size:=by rw [jg9];omega
 below b h:=qf9 w o b (Nat.lt_of_not_le fun hh=>h (hb b hh))
 cell a u _ h:=by rw [cell_of_heap (qf9 w o a.block (uf8 h))];exact h
 pm b h:=by simp only [Ctx.setB];rw [if_neg (by omega)];exact Nat.le_refl _
 pmb b h:=by simp only [Ctx.setB];rw [if_neg (fun e=>h (hb b (by omega)))]
 owb b h:=by simp only [Ctx.setB];rw [if_neg (fun e=>h (hb b (by omega)))]
 no:=Nat.le_refl _
 ob _ _:=rfl
 dfr b h:=by rw [qf9 w o b (xd6 h)];exact h
theorem qm8 (c:Ctx) (w:World) (o:Go.Obj) (p q:Nat):Keeps c w (c.setB w.heap.size p q) (w.alloc o) none:=by
 intro g cur e _ hc _
 have hlt:=xd6 hc
 exact ⟨by rw [qf9 w o g hlt];exact hc,by simp only [Ctx.setB];rw [if_neg (by omega)],by simp only [Ctx.setB];rw [if_neg (by omega)]⟩
theorem SimSt.row {s:St} {a:Act} (hs:SimSt P c w s a) (o:Go.Obj) (p q:Nat):SimSt P (c.setB w.heap.size p q) (w.alloc o) s a:=by
 have:=hs.mono (T:=none) (yw8 c w o p q hs.base) (qm8 c w o p q) rfl (fun i oo hi _=>by
  have hlt:c.ob i < w.heap.size:=hs.h.lt i (by rw [hs.h.no];exact (List.getElem?_eq_some_iff.1 hi).1)
  refine ⟨qf9 w o _ hlt,?_,?_⟩ <;> simp only [Ctx.setB] <;> rw [if_neg (by omega)])
 exact this
theorem kq9 (c:Ctx) (w:World) (o:Go.Obj) (hb:∀ b,w.heap.size≤b→c.base b):Ext c w (c.newO w.heap.size) (w.alloc o) :=
 let h:=yw8 c w o 0 0 hb
 {base := h.base, os := h.os, tape := h.tape, output := h.output, size := h.size, below := h.below, cell := h.cell, pm := h.pm, pmb := h.pmb, owb := h.owb,
  no:=Nat.le_succ _,ob:=fun id hid=>by simp only [Ctx.newO];rw [if_neg (by omega)],dfr:=h.dfr }
theorem uh8 (c:Ctx) (w:World) (o:Go.Obj):Keeps c w (c.newO w.heap.size) (w.alloc o) none:=qm8 c w o 0 0
theorem SimSt.obj {s : St} {a : Act} (hs : SimSt P c w s a) {ty : TypeId} {cs : List AV} {cur : Array Value} (hl : cs.length = cur.size)
  (hc:∀ j y,cs[j]?=some y→Rep c w y (cur.getD j undef)∧Own P c w y (cur.getD j undef)∧(cur.getD j undef).oneCell'=true) :
  SimSt P (c.newO w.heap.size) (w.alloc (.cells cur ty)) { s with h:=s.h++[.cells ty cs] } a:=by
 have he:=kq9 c w (.cells cur ty) hs.base
 have hk:=uh8 c w (.cells cur ty)
 refine ⟨hs.n,fun b hb=>hs.base b (Nat.le_trans he.size hb),hs.fr.mono (T:=none) he hk,?_,hs.dfr.mono he⟩
 have hno:=hs.h.no
 have hobn:(c.newO w.heap.size).ob s.h.length=w.heap.size:=by simp only [Ctx.newO];rw [if_pos hno.symm]
 have hobo:∀ i,i < c.no→(c.newO w.heap.size).ob i=c.ob i:=fun i hi=>he.ob i hi
 refine ⟨by simp [Ctx.newO,hno],?_,?_,?_⟩
 ·intro i hi
  rw [jg9]
  rcases Nat.lt_or_ge i c.no with h | h
  ·rw [hobo i h];exact Nat.lt_succ_of_lt (hs.h.lt i h)
  ·have:i=s.h.length:=by simp only [Ctx.newO] at hi;omega
   subst this;rw [hobn];omega
 ·intro i j hi hj hne
  simp only [Ctx.newO] at hi hj
  rcases Nat.lt_or_ge i c.no with h | h <;> rcases Nat.lt_or_ge j c.no with k | k
  ·rw [hobo i h,hobo j k];exact hs.h.inj i j h k hne
  ·have:j=s.h.length:=by omega
   subst this;rw [hobo i h,hobn];exact Nat.ne_of_lt (hs.h.lt i h)
  ·have:i=s.h.length:=by omega
   subst this;rw [hobo j k,hobn];exact Nat.ne_of_gt (hs.h.lt j k)
  ·omega
 ·intro i o ho
  rcases Nat.lt_or_ge i s.h.length with h | h
  ·rw [List.getElem?_append_left h] at ho
   have hi:i < c.no:=by omega
   refine xn9.mono (P:=P) (T:=none) he hk hi (hs.h.obj i o ho) (fun _=>?_)
   have hlt:=hs.h.lt i hi
   refine ⟨qf9 w _ _ hlt,?_,?_⟩ <;> simp only [Ctx.newO,Ctx.setB] <;> rw [if_neg (by omega)]
  ·rw [List.getElem?_append_right h] at ho
   have hi:i=s.h.length:=by
    have:=(List.getElem?_eq_some_iff.1 ho).1
    simp at this
    omega
   subst hi
   simp at ho
   subst ho
   refine ⟨by rw [hobn];exact hs.base _ (Nat.le_refl _),by rw [hobn];simp [Ctx.newO,Ctx.setB],by rw [hobn];simp [Ctx.newO,Ctx.setB],cur,by rw [hobn];exact qd9 w _,hl,?_⟩
   intro j y hj
   exact ⟨(hc j y hj).1.mono he,(hc j y hj).2.1.keep (T:=none) he.base hk,(hc j y hj).2.2⟩
theorem xl9 (c:Ctx) (w:World):Ext c w c w.drew where
 base:=rfl
 os:=rfl
 tape:=rfl
 output:=rfl
 size:=Nat.le_refl _
 below _ _:=rfl
 cell _ _ _ h:=h
 pm _ _:=Nat.le_refl _
 pmb _ _:=rfl
 owb _ _:=rfl
 no:=Nat.le_refl _
 ob _ _:=rfl
 dfr _ h:=h
theorem zm8 (c:Ctx) (w w':World) (h:w'.heap=w.heap):Keeps c w c w' none:=fun g cur e _ hc _=>⟨by rw [h];exact hc,rfl,rfl⟩
theorem SimSt.drew {s:St} {a:Act} (hs:SimSt P c w s a):SimSt P c w.drew s a :=
 hs.mono (T:=none) (xl9 c w) (zm8 c w _ rfl) rfl (fun _ _ _ _=>⟨rfl,rfl,rfl⟩)
end
end Go.AM
namespace Go.AM
open Go.RowKit
section
variable (P : Program)
def apI (e:TypeId):Option (Nat × Nat) :=
 match P.info? e with
 | some i=>match i.zero with
  | some z=>if z.cells.size=i.size∧(z.cells.toList.all fun v=>v.oneCell')=true then some (i.size,i.bytes) else none
  | none=>none
 | none=>none
end
section
variable {P : Program} {c c' : Ctx} {w w' : World}
theorem un8 {e sz by_:Nat} (h:apI P e=some (sz,by_)):∃ i z,P.info? e=some i∧i.zero=some z∧i.size=sz∧i.bytes=by_∧z.cells.size=sz∧∀ v∈z.cells,v.oneCell'=true:=by
 unfold apI at h
 split at h
 ·rename_i i hi
  split at h
  ·rename_i z hz
   split at h
   ·rename_i hs
    cases h
    exact ⟨i,z,hi,hz,rfl,rfl,hs.1,fun v hv=>List.all_eq_true.1 hs.2 v (Array.mem_toList_iff.2 hv)⟩
   ·cases h
  ·cases h
 ·cases h
def tipA (e sz : Nat) : AV → Option (Option Nat × List AV)
 | .lst .nil _ []=>some (none,[])
 | .lst (.tip e' T) s xs=>if e'=e∧s=sz then some (some T,xs) else none
 | .lst .ex s xs=>if s=sz then some (none,xs) else none
 | _=>none
theorem wm9 (n:Nat) (f:Nat→Value) (j:Nat) (v:Value) (h:((List.range n).map f)[j]?=some v):j < n∧v=f j:=by
 have hj:=(List.getElem?_eq_some_iff.1 h)
 obtain ⟨h1,h2⟩:=hj
 simp at h1 h2
 exact ⟨h1,h2.symm⟩
def exOk : AV → List AV → Bool
 | .lst .ex _ _,ys=>!ys.isEmpty
 | _,_=>true
@[simp] theorem exOk_tip (e T s:Nat) (xs ys:List AV):exOk (.lst (.tip e T) s xs) ys=true:=rfl
@[simp] theorem exOk_nil (s:Nat) (xs ys:List AV):exOk (.lst .nil s xs) ys=true:=rfl
@[simp] theorem exOk_ex (s:Nat) (xs ys:List AV):exOk (.lst .ex s xs) ys=!ys.isEmpty:=rfl
def tokA (src:Option Nat) (tk:Nat):Nat:=match src with
 | some T=>if T % 2=1 then T else tk
 | none=>tk
theorem tokA_odd {src:Option Nat} {tk:Nat} (h:tk % 2=1):tokA src tk % 2=1:=by
 unfold tokA
 split
 ·split
  ·assumption
  ·exact h
 ·exact h
theorem jm8 {e n cap:Nat} {a:Option Addr} {src:Option Nat} {tk:Nat} (h:tk % 2=1):(Fl.tip e (tokA src tk)).fits a n cap:=fun h0=>by
 have:=tokA_odd (src:=src) h
 omega
theorem Rep.of_cells {o : Fl} {sz n m cap : Nat} {xs ys : List AV} {ad : Addr} (u uy : Nat → Value) (ho : ∀ {a : Option Addr}, o.fits a (n + m) cap) (hn : xs.length = n) (hm : ys.length = m) (hcap : n + m ≤ cap) (hmax : cap ≤ maxLen) (hs : 0 < sz)
  (hsx:∀ x∈xs,x.cells.length=sz) (hsy:∀ x∈ys,x.cells.length=sz) (hrx:AV.rfL xs=true) (hry:AV.rfL ys=true)
  (hc:∀ k,k < (n+m) * sz→w.cell? (ad.add k)=some (if k < n * sz then u k else uy (k - n * sz))∧c.prot (ad.add k))
  (h1:∀ k,k < n * sz→(u k).oneCell'=true) (h2:∀ k,k < m * sz→(uy k).oneCell'=true)
  (hx:∀ i j x y,xs[i]?=some x→x.cells[j]?=some y→Rep c w y (u (i * sz+j))) (hy:∀ i j x y,ys[i]?=some x→x.cells[j]?=some y→Rep c w y (uy (i * sz+j))) :
  Rep c w (.lst o sz (xs++ys)) (.slice (some ad) (n+m) cap):=by
 refine .lst (fun k=>if k < n * sz then u k else uy (k - n * sz)) (by simp [hn,hm]) hcap hmax (fun _=>hs) (fun x hx'=>?_) (by rw [zs7,hrx,hry];rfl) (fun e=>by cases e) ho ?_ ?_
 ·rcases List.mem_append.1 hx' with h | h
  ·exact hsx x h
  ·exact hsy x h
 ·intro ad' k e hk
  cases e
  obtain ⟨k1,k2⟩:=hc k hk
  refine ⟨k1,k2,?_⟩
  have e2:(n+m) * sz=n * sz+m * sz:=Nat.add_mul _ _ _
  split
  ·exact h1 k (by assumption)
  ·exact h2 _ (by omega)
 ·intro i j x y hi hj
  have hjs:∀ x:AV,x∈xs++ys→j < x.cells.length→j < sz:=by
   intro x hx' hlt
   rcases List.mem_append.1 hx' with h | h
   ·rw [hsx x h] at hlt;exact hlt
   ·rw [hsy x h] at hlt;exact hlt
  have hjlt:j < sz:=hjs x (List.mem_of_getElem? hi) (List.getElem?_eq_some_iff.1 hj).1
  rcases Nat.lt_or_ge i n with h | h
  ·rw [List.getElem?_append_left (by omega)] at hi
   have:i * sz+j < n * sz:=by
    have:(i+1) * sz≤n * sz:=Nat.mul_le_mul_right _ h
    rw [Nat.add_mul] at this
    omega
   rw [if_pos this]
   exact hx i j x y hi hj
  ·rw [List.getElem?_append_right (by omega),hn] at hi
   have e3:i * sz=n * sz+(i - n) * sz:=by rw [← Nat.add_mul];congr 1;omega
   rw [if_neg (by omega),show i * sz+j - n * sz=(i - n) * sz+j by omega]
   exact hy _ j x y hi hj
theorem zd8 {t ty e : TypeId} {i : TypeInfo} (ht : P.underlying t = some (.slice e)) (hi : P.info? e = some i) (a b : Option Addr) (n cap cc : Nat) (hcap : n ≤ cap) :
  (Builtin.append_ #[t,t] ty #[.slice a n cap,.slice b 0 cc]).run P w=.ok (.slice a n cap) w:=by
 cases a <;> cases b <;>
  simp [Builtin.append_,run_underlying ht,sizeOf,typeInfo,hi,Builtin.lenOf,Builtin.firstCells,loadCells,loadCellsFrom,hcap,storeCells]
theorem zero_one {z:Array Value} (h:∀ v∈z,v.oneCell'=true) {n:Nat} {v:Value} (hv:v∈Builtin.zeroCells z n):v.oneCell'=true:=by
 unfold Builtin.zeroCells at hv
 obtain ⟨k,hk,rfl⟩:=Array.mem_map.1 hv
 have hk:=Array.mem_range.1 hk
 have hz:0 < z.size:=by
  rcases Nat.eq_zero_or_pos z.size with e | e
  ·rw [e] at hk;omega
  ·exact e
 have hm:k % z.size < z.size:=Nat.mod_lt _ hz
 rw [getElem!_pos z _ hm]
 exact h _ (Array.getElem_mem hm)
theorem append_sound {t ty e sz by_ T : Nat} {ag : Bool} {src : Option Nat} {x y : AV} {xs ys : List AV} {oy : Fl} {u v : Value} {s : St} {a : Act} (hs : SimSt P c w s a)
  (hsl:slI P t=some (e,ag,sz)) (hap:apI P e=some (sz,by_)) (hsz:0 < sz) (hby:0 < by_) (hx:tipA e sz x=some (src,xs)) (hy:y=.lst oy sz ys) (hex:exOk x ys=true) (hT1:T % 2=1)
  (hbytes:(xs.length+ys.length) * by_≤140737488355328) (rx:Rep c w x u) (ox:Own P c w x u) (ry:Rep c w y v) :
  ∃ v' w' c', (Builtin.append_ #[t, t] ty #[u, v]).run P w = .ok v' w' ∧ Ext c w c' w' ∧ SimSt P c' w' ⟨s.n, jc8 src s.fr, wb9 src s.h⟩ a ∧
   Rep c' w' (.lst (.tip e (tokA src T)) sz (xs++ys)) v'∧Own P c' w' (.lst (.tip e (tokA src T)) sz (xs++ys)) v':=by
 have hTo:=tokA_odd (src:=src) hT1
 have hT:tokA src T≠0:=by omega
 obtain ⟨ht,hty⟩:=xf9 hsl
 obtain ⟨i,z,hi,hz,hisz,hib,hzs,hzone⟩:=un8 hap
 have hce:P.cellsOf e=sz:=us9 hty
 subst hy
 obtain ⟨b,m,cc,uy,rfl,hm,hmc,hmm,_,hsy,hry,hzy,_,hcy,hryy⟩:=xv9 ry
 have hsrc : ∃ (a0 : Option Addr) (n cap : Nat), u = .slice a0 n cap ∧ xs.length = n ∧ n ≤ cap ∧ cap ≤ maxLen ∧ (∀ x ∈ xs, x.cells.length = sz) ∧ AV.rfL xs = true ∧ (a0 = none → n = 0 ∧ cap = 0) ∧
   (∀ {aa:Option Addr},Rep c w (.lst (.tip e (tokA src T)) sz xs) (.slice a0 n cap)) ∧
   ((a0 = none ∧ n = 0 ∧ cap = 0) ∨ (n = cap ∧ ys ≠ [] ∧ ∃ (ad : Addr) (ux : Nat → Value), a0 = some ad ∧ (∀ k, k < n * sz → w.cell? (ad.add k) = some (ux k) ∧ (ux k).oneCell' = true) ∧
     ∀ (i j:Nat) (x y:AV),xs[i]?=some x→x.cells[j]?=some y→Rep c w y (ux (i * sz+j))) ∨
    ∃ (g T0:Nat) (cur:Array Value) (ux:Nat→Value),a0=some ⟨g,0,none⟩∧src=some T0∧(T0 % 2=0→n=cap)∧c.base g∧w.heap[g]?=some (.cells cur e (0,0))∧cur.size=cap * sz∧c.pm g=n * sz∧c.ow g=T0∧T0≠0∧(∀ v∈cur,v.oneCell'=true) ∧
    (∀ k,k < n * sz→cur[k]?=some (ux k)∧(ux k).oneCell'=true)∧∀ (i j:Nat) (x y:AV),xs[i]?=some x→x.cells[j]?=some y→Rep c w y (ux (i * sz+j))):=by
  unfold tipA at hx
  split at hx
  ·cases hx
   obtain ⟨m0,rfl⟩:=qg7 rx
   obtain ⟨a0,n,cap,ux,hu,hn,hcap,hmax,_,hsx,hrx,hzx,hnil,_,_⟩:=xv9 rx
   cases hu
   have:=hzx rfl
   refine ⟨none,0,m0,rfl,rfl,hcap,hmax,by simp,rfl,fun _=>⟨rfl,this.2⟩,fun {aa}=>?_,.inl ⟨rfl,rfl,this.2⟩⟩
   exact .lst (fun _=>undef) rfl hcap hmax (by simp) (by simp) rfl (fun _=>⟨rfl,this.2⟩) (jm8 hT1) (by simp) (by simp)
  ·rename_i e' T' s' xs'
   split at hx
   ·rename_i he
    obtain ⟨rfl,rfl⟩:=he
    cases hx
    have rx':=rx
    obtain ⟨a0,n,cap,ux,rfl,hn,hcap,hmax,_,hsx,hrx,hzx,hnil,hcx,hrr⟩:=xv9 rx
    refine ⟨a0,n,cap,rfl,hn,hcap,hmax,hsx,hrx,hzx,fun {aa}=>rx'.lst_flag (fun _=>jm8 hT1),?_⟩
    cases ox with
    | none h=>simp [AV.tl] at h
    | tip hT' hs' hat =>
     rcases hat with h | ⟨g,cur,rfl,h2,h3,h4,h5,h6,h7⟩
     ·exact .inl h
     ·rw [hce] at h4 h5
      refine .inr (.inr ⟨g,T',cur,ux,rfl,rfl,hnil,h2,h3,h4,h5,h6,hT',h7,fun k hk=>?_,hrr⟩)
      obtain ⟨k1,_,k3⟩:=hcx _ k rfl hk
      rw [qg9] at k1
      simp only [World.cell?,h3,Nat.zero_add] at k1
      exact ⟨by simpa using k1,k3⟩
   ·cases hx
  ·rename_i s' xs'
   have hyne:ys≠[]:=fun h=>by simp [exOk,h] at hex
   split at hx
   ·rename_i he
    subst he
    cases hx
    have rx':=rx
    obtain ⟨a0,n,cap,ux,rfl,hn,hcap,hmax,_,hsx,hrx,hzx,hnil,hcx,hrr⟩:=xv9 rx
    refine ⟨a0,n,cap,rfl,hn,hcap,hmax,hsx,hrx,hzx,fun {aa}=>rx'.lst_flag (fun _=>jm8 hT1),?_⟩
    cases a0 with
    | none=>exact .inl ⟨rfl,hzx rfl⟩
    | some ad=>exact .inr (.inl ⟨hnil,hyne,ad,ux,rfl,fun k hk=>⟨(hcx ad k rfl hk).1,(hcx ad k rfl hk).2.2⟩,hrr⟩)
   ·cases hx
  ·cases hx
 obtain ⟨a0,n,cap,rfl,hn,hcap,hmax,hsx,hrx,hza,hrepx,hat⟩:=hsrc
 rw [hn,hm] at hbytes
 have hnm:n+m≤140737488355328:=by
  have:(n+m) * 1≤(n+m) * by_:=Nat.mul_le_mul_left _ hby
  omega
 have hnmax:n+m≤maxLen:=by simp only [maxLen];omega
 by_cases hm0:m=0
 ·
  subst hm0
  have hys:ys=[]:=List.eq_nil_of_length_eq_zero hm
  subst hys
  have hk:Keeps c w c w src:=Keeps.refl c w src
  rcases hat with h | ⟨_,h,_⟩ | ⟨g,T0,cur,ux,h1,h2,hev,h3,h4,h5,h6,h7,h8,h9,_⟩
  ·refine ⟨_,w,c,zd8 ht hi a0 b n cap cc hcap,Ext.refl c w,hs.mono (Ext.refl c w) hk rfl (fun _ _ _ _=>⟨rfl,rfl,rfl⟩),?_,?_⟩
   ·rw [List.append_nil];exact hrepx (aa:=none)
   ·rw [List.append_nil];exact .tip hT hce.symm (.inl h)
  ·exact absurd rfl h
  ·
   let c1:Ctx:=c.setB g (c.pm g) (tokA src T)
   have hpm1:c1.pm=c.pm:=by
    funext k
    simp only [c1,Ctx.setB]
    split
    ·rename_i e;rw [e]
    ·rfl
   have how1:∀ k,k≠g→c1.ow k=c.ow k:=fun k hk=>by simp only [c1,Ctx.setB];rw [if_neg hk]
   have he1 : Ext c w c1 w := {
    base:=rfl,os:=rfl,tape:=rfl,output:=rfl,size:=Nat.le_refl _,below:=fun _ _=>rfl,cell:=fun _ _ _ h=>h
    pm:=fun k _=>by rw [hpm1];exact Nat.le_refl _
    pmb:=fun k _=>by rw [hpm1]
    owb:=fun k hk=>how1 k (fun e=>hk (by rw [e];exact h3))
    no:=Nat.le_refl _
    ob:=fun _ _=>rfl
    dfr:=fun _ h=>h }
   have hk1:Keeps c w c1 w src:=by
    intro k cur0 e0 _ hk hne
    have hkg:k≠g:=by
     intro h;subst h;exact hne (by rw [h7,h2];rfl)
    exact ⟨hk,by rw [hpm1],how1 k hkg⟩
   refine ⟨_,w,c1,zd8 ht hi a0 b n cap cc hcap,he1,hs.mono he1 hk1 rfl (fun k oo hk hlv=>?_),?_,?_⟩
   ·obtain ⟨_, _, ho0⟩ := hs.h.live hk hlv
    have hkg:c.ob k≠g:=by
     intro h;rw [h,h7] at ho0;exact h8 ho0
    exact ⟨rfl,by rw [hpm1],how1 _ hkg⟩
   ·rw [List.append_nil];exact (hrepx (aa:=none)).mono he1
   ·rw [List.append_nil]
    refine .tip hT hce.symm (.inr ⟨g,cur,h1,h3,h4,by rw [hce];exact h5,by rw [hce,hpm1];exact h6,?_,h9⟩)
    simp only [c1,Ctx.setB];rw [if_pos trivial]
 ·
  obtain ⟨ad,rfl⟩:∃ ad,b=some ad:=by
   cases b with
   | none=>exact absurd (hzy rfl).1 hm0
   | some ad=>exact ⟨ad,rfl⟩
  have hnewsl:((List.range (m * sz)).map uy).length=m * i.size:=by simp [hisz]
  have hnews:∀ (j:Nat) (v:Value),((List.range (m * sz)).map uy)[j]?=some v→w.cell? (ad.add j)=some v:=by
   intro j v hj
   obtain ⟨h1,rfl⟩:=wm9 _ _ _ _ hj
   exact (hcy ad j rfl h1).1
  have hone:∀ v∈(List.range (m * sz)).map uy,v.oneCell'=true:=by
   intro v hv
   obtain ⟨k,hk,rfl⟩:=List.mem_map.1 hv
   exact (hcy ad k rfl (by simpa using hk)).2.2
  have h2y:∀ k,k < m * sz→(uy k).oneCell'=true:=fun k hk=>(hcy ad k rfl hk).2.2
  have emul:(n+m) * sz=n * sz+m * sz:=Nat.add_mul _ _ _
  have grown : ∀ (us : List Value) (ux : Nat → Value) (cap' : Nat), us = (List.range (n * sz)).map ux → n + m ≤ cap' → cap' ≤ maxLen → (∀ k, k < n * sz → (ux k).oneCell' = true) →
    (∀ i j x y,xs[i]?=some x→x.cells[j]?=some y→Rep c w y (ux (i * sz+j))) →
    let cur':=us.toArray++((List.range (m * sz)).map uy).toArray++Builtin.zeroCells z.cells (cap' - (n+m))
    ∃ c', Ext c w c' (w.drew.alloc (.cells cur' e)) ∧ SimSt P c' (w.drew.alloc (.cells cur' e)) ⟨s.n, jc8 src s.fr, wb9 src s.h⟩ a ∧
     Rep c' (w.drew.alloc (.cells cur' e)) (.lst (.tip e (tokA src T)) sz (xs++ys)) (.slice (some ⟨w.heap.size,0,none⟩) (n+m) cap') ∧
     Own P c' (w.drew.alloc (.cells cur' e)) (.lst (.tip e (tokA src T)) sz (xs++ys)) (.slice (some ⟨w.heap.size,0,none⟩) (n+m) cap'):=by
   intro us ux cap' hus hge hle h1x hrx' cur'
   have hsize:cur'.size=cap' * sz:=by
    simp only [cur',Array.size_append,List.size_toArray,size_zeroCells,hus,List.length_map,List.length_range,hzs]
    rw [← Nat.add_mul,← Nat.add_mul]
    congr 1
    omega
   have hs1:=(hs.drew).row (Go.Obj.cells cur' e) ((n+m) * sz) (tokA src T)
   have he1:=(xl9 c w).trans (yw8 c w.drew (Go.Obj.cells cur' e) ((n+m) * sz) (tokA src T) hs.base)
   have hs2:=hs1.mono (T:=src) (Ext.refl _ _) (Keeps.refl _ _ _) rfl (fun _ _ _ _=>⟨rfl,rfl,rfl⟩)
   refine ⟨_,he1,hs2,?_,?_⟩
   ·refine Rep.of_cells ux uy (jm8 hT1) hn hm hge hle hsz hsx hsy hrx hry ?_ h1x h2y (fun i j x y hi hj => (hrx' i j x y hi hj).mono he1) (fun i j x y hi hj => (hryy i j x y hi hj).mono he1)
    intro k hk
    rw [qg9,Nat.zero_add]
    refine ⟨?_,?_⟩
    ·have hnew : (w.drew.alloc (.cells cur' e)).heap[w.heap.size]? = some (.cells cur' e) := qd9 w.drew _
     simp only [World.cell?,hnew]
     have hk2:k < (us++(List.range (m * sz)).map uy).length:=by simp [hus];omega
     have e1:cur'[k]?=(us++(List.range (m * sz)).map uy)[k]?:=by
      rw [← Array.getElem?_toList]
      simp only [cur',Array.toList_append]
      rw [List.getElem?_append_left (by simpa using hk2)]
     simp only [Option.isSome_none,Bool.false_eq_true,if_false,e1]
     split
     ·rename_i h
      rw [List.getElem?_append_left (by simp [hus];exact h),hus]
      simp [h]
     ·rename_i h
      rw [List.getElem?_append_right (by simp [hus];omega),hus]
      have:k - n * sz < m * sz:=by omega
      simp [this]
    ·simp only [Ctx.prot,Ctx.setB]
     show k < if w.heap.size=w.heap.size then _ else _
     rw [if_pos rfl];exact hk
   ·refine .tip hT hce.symm (.inr ⟨w.heap.size, cur', rfl, hs.base _ (Nat.le_refl _), qd9 w.drew _, by rw [hce]; exact hsize, ?_, ?_, ?_⟩)
    ·show (if w.heap.size=w.heap.size then _ else _)=_
     rw [if_pos rfl,hce]
    ·show (if w.heap.size=w.heap.size then _ else _)=_
     rw [if_pos rfl]
    ·intro v hv
     simp only [cur',Array.mem_append,hus] at hv
     rcases hv with (hv | hv) | hv
     ·rw [List.mem_toArray] at hv
      obtain ⟨k,hk,rfl⟩:=List.mem_map.1 hv
      exact h1x k (List.mem_range.1 hk)
     ·rw [List.mem_toArray] at hv
      exact hone v hv
     ·exact zero_one hzone hv
  rcases hat with ⟨rfl,rfl,rfl⟩ | ⟨hfull,_,ad0,ux,rfl,hcur,hrr⟩ | ⟨g,T0,cur,ux,rfl,hsome,hev,hbg,hg,hcs,hpm,how,hT0,hco,hcur,hrr⟩
  ·
   have hrun:=run_append_nil (P:=P) w t ty e i z ht hi hz ad m cc _ hnewsl hnews (by omega) (by omega) (by rw [hib];simp only [Nat.zero_add] at hbytes;omega)
   obtain ⟨c',h1,h2,h3,h4⟩:=grown [] (fun _=>undef) (grownCap w m 0 e) (by simp) (by simpa using grownCap_ge w m 0 e) (grownCap_le_maxLen w m 0 e (by omega)) (by simp) (fun i j x y hi _=>by
    have:xs=[]:=List.eq_nil_of_length_eq_zero hn
    subst this;simp at hi)
   simp only [Nat.zero_add,Array.empty_append] at h1 h2 h3 h4
   exact ⟨_,_,c',hrun,h1,h2,h3,h4⟩
  ·
   have holds:∀ (j:Nat) (v:Value),((List.range (n * sz)).map ux)[j]?=some v→w.cell? (ad0.add j)=some v:=by
    intro j v hj
    obtain ⟨h1,rfl⟩:=wm9 _ _ _ _ hj
    exact (hcur j h1).1
   have hrun := run_append_grow (P := P) w t ty e i z ht hi hz ad0 n cap ((List.range (n * sz)).map ux) (by simp [hisz]) holds ad m cc _ hnewsl hnews (by omega) (by omega)
    (growslice_fits (by omega) (by rw [hib];exact hbytes))
   obtain ⟨c',h1,h2,h3,h4⟩:=grown _ ux (grownCap w (n+m) cap e) rfl (grownCap_ge w (n+m) cap e) (grownCap_le_maxLen w (n+m) cap e hnmax) (fun k hk=>(hcur k hk).2) hrr
   exact ⟨_,_,c',hrun,h1,h2,h3,h4⟩
  ·by_cases hroom : n + m ≤ cap
   ·
    have hodd:T0 % 2=1:=by
     rcases Nat.mod_two_eq_zero_or_one T0 with h | h
     ·have:=hev h;omega
     ·exact h
    have htok:tokA src T=T0:=by rw [hsome];simp [tokA,hodd]
    have hfit:n * i.size+((List.range (m * sz)).map uy).length≤cur.size:=by
     rw [hcs,hisz];simp only [List.length_map,List.length_range];rw [← emul];exact Nat.mul_le_mul_right _ hroom
    have hrun:=run_append_room (P:=P) w t ty e i ht hi g n cap cur hg ad m cc _ hnewsl hnews hone hroom hfit
    rw [hisz] at hrun
    simp only [List.length_map,List.length_range] at hrun
    generalize hcur':(cur.toList.take (n * sz)++(List.range (m * sz)).map uy++cur.toList.drop (n * sz+m * sz)).toArray=cur' at hrun
    have hnmc:(n+m) * sz≤cur.size:=by rw [hcs];exact Nat.mul_le_mul_right _ hroom
    have hsize:cur'.size=cur.size:=by
     subst hcur'
     simp only [List.size_toArray,List.length_append,List.length_take,List.length_drop,List.length_map,List.length_range,Array.length_toList]
     omega
    have hget:∀ k,k < (n+m) * sz→cur'[k]?=some (if k < n * sz then ux k else uy (k - n * sz)):=by
     intro k hk
     subst hcur'
     rw [List.getElem?_toArray]
     have l1:(cur.toList.take (n * sz)).length=n * sz:=by simp;omega
     rw [List.getElem?_append_left (by simp;omega)]
     split
     ·rename_i h
      rw [List.getElem?_append_left (by rw [l1];exact h),List.getElem?_take,if_pos h,Array.getElem?_toList]
      exact (hcur k h).1
     ·rename_i h
      rw [List.getElem?_append_right (by rw [l1];omega),l1]
      have:k - n * sz < m * sz:=by omega
      simp [this]
    have hgne:∀ k,k≠g→(w.setRow g cur').heap[k]?=w.heap[k]?:=fun k hk=>setRow_other w g k _ hk
    have hgg:=setRow_heap w g cur cur' e (0,0) hg
    have hwsize:(w.setRow g cur').heap.size=w.heap.size:=by simp [World.setRow]
    let c1:Ctx:=c.setB g ((n+m) * sz) (tokA src T)
    have he1 : Ext c w c1 (w.setRow g cur') := {
     base:=rfl,os:=rfl,tape:=rfl,output:=rfl
     size:=by rw [hwsize];exact Nat.le_refl _
     below:=fun k hk=>hgne k (fun e=>hk (by rw [e];exact hbg))
     cell:=fun ad' v hp hv=>by
      by_cases hb:ad'.block=g
      ·have hp' : ad'.off < n * sz := by unfold Ctx.prot at hp; rw [hb, hpm] at hp; exact hp
       have hv':=hv
       simp only [World.cell?,hb,hg] at hv'
       simp only [World.cell?,hb,hgg]
       split at hv'
       ·cases hv'
       ·rename_i hsp
        rw [if_neg hsp,hget _ (by omega),if_pos hp']
        rw [(hcur _ hp').1] at hv'
        exact hv'
      ·rw [cell_of_heap (hgne _ hb)];exact hv
     pm:=fun k _=>by
      simp only [c1,Ctx.setB]
      split
      ·rename_i h;subst h;rw [hpm];exact Nat.mul_le_mul_right _ (Nat.le_add_right _ _)
      ·exact Nat.le_refl _
     pmb:=fun k hk=>by simp only [c1,Ctx.setB];rw [if_neg (fun e=>hk (by rw [e];exact hbg))]
     owb:=fun k hk=>by simp only [c1,Ctx.setB];rw [if_neg (fun e=>hk (by rw [e];exact hbg))]
     no:=Nat.le_refl _
     ob:=fun _ _=>rfl
     dfr:=fun k hk=>by
      by_cases hb:k=g
      ·subst hb;rw [hg] at hk;cases hk
      ·rw [hgne k hb];exact hk }
    have hsrcT:src=some (tokA src T):=by rw [htok];exact hsome
    rw [← htok] at how
    have hk1:Keeps c w c1 (w.setRow g cur') src:=by
     intro k cur0 e0 hbk hk hne
     have hkg:k≠g:=by
      intro h;subst h;exact hne (by rw [how,htok,hsome];rfl)
     exact ⟨by rw [hgne k hkg];exact hk,by simp only [c1,Ctx.setB];rw [if_neg hkg],by simp only [c1,Ctx.setB];rw [if_neg hkg]⟩
    refine ⟨_,_,c1,hrun,he1,hs.mono he1 hk1 rfl (fun k oo hk hlv=>?_),?_,?_⟩
    ·obtain ⟨_, _, ho0⟩ := hs.h.live hk hlv
     have hkg:c.ob k≠g:=by
      intro h;rw [h,how] at ho0;exact hT ho0
     exact ⟨hgne _ hkg,by simp only [c1,Ctx.setB];rw [if_neg hkg],by simp only [c1,Ctx.setB];rw [if_neg hkg]⟩
    ·refine Rep.of_cells ux uy (jm8 hT1) hn hm hroom hmax hsz hsx hsy hrx hry ?_ (fun k hk=>(hcur k hk).2) h2y (fun i j x y hi hj=>(hrr i j x y hi hj).mono he1) (fun i j x y hi hj=>(hryy i j x y hi hj).mono he1)
     intro k hk
     rw [qg9,Nat.zero_add]
     refine ⟨?_,?_⟩
     ·simp only [World.cell?,hgg,Option.isSome_none,Bool.false_eq_true,if_false];exact hget k hk
     ·simp only [Ctx.prot,c1,Ctx.setB];rw [if_pos trivial];exact hk
    ·refine .tip hT hce.symm (.inr ⟨g, cur', rfl, hbg, hgg, by rw [hce, hsize]; exact hcs, ?_, ?_, ?_⟩)
     ·simp only [c1,Ctx.setB];rw [if_pos trivial,hce]
     ·simp only [c1,Ctx.setB];rw [if_pos trivial]
     ·intro v hv
      subst hcur'
      rw [List.mem_toArray] at hv
      rcases List.mem_append.1 hv with hv | hv
      ·rcases List.mem_append.1 hv with hv | hv
       ·exact hco v (Array.mem_toList_iff.1 (List.mem_of_mem_take hv))
       ·exact hone v hv
      ·exact hco v (Array.mem_toList_iff.1 (List.mem_of_mem_drop hv))
   ·
    have holds:∀ (j:Nat) (v:Value),((List.range (n * sz)).map ux)[j]?=some v→w.cell? ((⟨g,0,none⟩:Addr).add j)=some v:=by
     intro j v hj
     obtain ⟨h1,rfl⟩:=wm9 _ _ _ _ hj
     rw [qg9,Nat.zero_add]
     simp only [World.cell?,hg,Option.isSome_none,Bool.false_eq_true,if_false]
     exact (hcur j h1).1
    have hrun := run_append_grow (P := P) w t ty e i z ht hi hz ⟨g, 0, none⟩ n cap ((List.range (n * sz)).map ux) (by simp [hisz]) holds ad m cc _ hnewsl hnews (by omega) (by omega)
     (growslice_fits (by omega) (by rw [hib];exact hbytes))
    obtain ⟨c',h1,h2,h3,h4⟩:=grown _ ux (grownCap w (n+m) cap e) rfl (grownCap_ge w (n+m) cap e) (grownCap_le_maxLen w (n+m) cap e hnmax) (fun k hk=>(hcur k hk).2) hrr
    exact ⟨_,_,c',hrun,h1,h2,h3,h4⟩
end
end Go.AM
namespace Go.AM
open Go.RowKit
namespace AV
def kone : AV → Bool
 | .v x=>x.oneCell'
 | .any | .agg _ | .tup _=>false
 | _=>true
def koneL : List AV → Bool
 | []=>true
 | x :: xs=>kone x&&koneL xs
def cellsK : AV → Option (List AV)
 | .agg xs=>if koneL xs then some xs else none
 | x=>if kone x then some [x] else none
end AV
section
variable (P : Program)
def kw7 : Nat → TypeId → List Nat
 | 0,_=>[]
 | f+1,t=>match P.underlying t with
  | some (.struct fs)=>fs.toList.flatMap fun fd=>kw7 f fd.type
  | some (.array n e)=>(List.replicate n (kw7 f e)).flatten
  | some (.slice e)=>[P.cellsOf e]
  | _=>[0]
def absC (h : Nat) : Value → AV
 | .slice none 0 0=>.lst .nil h []
 | x=>.v x
def absL : List Nat → List Value → List AV
 | _,[]=>[]
 | [],x :: xs=>absC 0 x :: absL [] xs
 | h :: hs,x :: xs=>absC h x :: absL hs xs
def zA (t:TypeId):Option AV :=
 match (P.info? t).bind (·.zero) with
 | some (.agg cs)=>if cs.all (·.oneCell') then some (.agg (absL (kw7 P 50 t) cs.toList)) else none
 | some x=>if x.oneCell' then some (absC ((kw7 P 50 t).headD 0) x) else none
 | none=>none
def ftI (t:TypeId) (f:Nat):TypeId :=
 match P.underlying t with
 | some (.struct fs)=>((fs[f]?).map (·.type)).getD 0
 | _=>0
end
section
variable {P : Program} {c c' : Ctx} {w w' : World}
theorem koneL_mem {xs:List AV} (h:AV.koneL xs=true) {j:Nat} {y:AV} (hy:xs[j]?=some y):y.kone=true:=by
 induction xs generalizing j with
 | nil=>simp at hy
 | cons x xs ih =>
  simp only [AV.koneL,Bool.and_eq_true] at h
  cases j with
  | zero=>simp at hy;subst hy;exact h.1
  | succ j=>exact ih h.2 (by simpa using hy)
theorem kone_val {x:AV} {u:Value} (h:x.kone=true) (hr:Rep c w x u):u.oneCell'=true:=by
 cases hr <;> first | (simp [AV.kone] at h;done) | exact h | rfl
theorem km9 {u:Value} (h:u.oneCell'=true):u.cells=#[u]:=by
 cases u <;> first | rfl | (simp [Value.oneCell'] at h)
theorem zr8 {x : AV} {ys : List AV} {u : Value} (h : x.cellsK = some ys) (hr : Rep c w x u) :
  ys.length=u.cells.size∧∀ j y,ys[j]?=some y→Rep c w y (u.cells.getD j undef)∧(u.cells.getD j undef).oneCell'=true∧(Own P c w x u→Own P c w y (u.cells.getD j undef)):=by
 unfold AV.cellsK at h
 split at h
 ·rename_i xs
  split at h
  ·rename_i hk
   cases h
   obtain ⟨vs,rfl,hl,hrr⟩:=xt7 hr
   exact ⟨hl,fun j y hj=>⟨hrr j y hj,kone_val (koneL_mem hk hj) (hrr j y hj),fun ho=>qp7 ho j y hj⟩⟩
  ·cases h
 ·split at h
  ·rename_i hk
   cases h
   have h1:=kone_val hk hr
   rw [km9 h1]
   refine ⟨rfl,fun j y hj=>?_⟩
   cases j with
   | zero=>simp at hj;subst hj;exact ⟨hr,h1,fun ho=>ho⟩
   | succ j=>simp at hj
  ·cases h
theorem vc6 (h:Nat) (x:Value):Rep c w (absC h x) x:=by
 unfold absC
 split
 ·exact .lst (fun _=>undef) rfl (Nat.le_refl _) (by simp) (by simp) (by simp) rfl (fun _=>⟨rfl,rfl⟩) rfl (by simp) (by simp)
 ·exact .v _
theorem absC_tl (h:Nat) (x:Value):(absC h x).tl=true:=by unfold absC;split <;> rfl
theorem absL_get (hs:List Nat) (xs:List Value) (j:Nat) (y:AV) (h:(absL hs xs)[j]?=some y):∃ k x,xs[j]?=some x∧y=absC k x:=by
 induction xs generalizing hs j with
 | nil=>cases hs <;> simp [absL] at h
 | cons x xs ih =>
  cases hs with
  | nil =>
   cases j with
   | zero=>simp [absL] at h;exact ⟨0,x,rfl,h.symm⟩
   | succ j=>simp only [absL,List.getElem?_cons_succ] at h ⊢;exact ih [] j h
  | cons k hs =>
   cases j with
   | zero=>simp [absL] at h;exact ⟨k,x,rfl,h.symm⟩
   | succ j=>simp only [absL,List.getElem?_cons_succ] at h ⊢;exact ih hs j h
theorem jj7 (hs:List Nat) (xs:List Value):(absL hs xs).length=xs.length:=by
 induction xs generalizing hs with
 | nil=>cases hs <;> rfl
 | cons x xs ih=>cases hs <;> simp [absL,ih]
theorem yl8 {t : TypeId} {z : AV} (h : zA P t = some z) : ∃ i u, P.info? t = some i ∧ i.zero = some u ∧ Rep c w z u ∧ z.tl = true ∧
  (∀ j,j < u.cells.size→(u.cells.getD j undef).oneCell'=true)∧z.cells.length=u.cells.size∧(∀ j y,z.cells[j]?=some y→Rep c w y (u.cells.getD j undef)∧y.tl=true):=by
 unfold zA at h
 cases hi:P.info? t with
 | none=>simp [hi] at h
 | some i =>
  cases hz:i.zero with
  | none=>simp [hi,hz] at h
  | some u =>
   simp only [hi,Option.bind_some,hz] at h
   split at h
   ·rename_i cs he
    simp at he
    subst he
    split at h
    ·rename_i hall
     cases h
     have hcell:∀ j y,(absL (kw7 P 50 t) cs.toList)[j]?=some y→Rep c w y (cs.getD j undef)∧y.tl=true:=by
      intro j y hj
      obtain ⟨k,x,hx,rfl⟩:=absL_get _ _ _ _ hj
      rw [Array.getElem?_toList] at hx
      rw [Array.getD_eq_getD_getElem?,hx]
      exact ⟨vc6 k x,absC_tl k x⟩
     have htl:∀ l:List AV,(∀ (j:Nat) (y:AV),l[j]?=some y→y.tl=true)→AV.tlL l=true:=by
      intro l
      induction l with
      | nil=>intro _;rfl
      | cons x l ih =>
       intro hl
       simp only [AV.tlL,Bool.and_eq_true]
       exact ⟨hl 0 x rfl,ih fun j y hj=>hl (j+1) y hj⟩
     refine ⟨i,_,rfl,hz,.agg (by simp [jj7]) (fun j y hj=>(hcell j y hj).1),htl _ (fun j y hj=>(hcell j y hj).2),?_,by simp [AV.cells,jj7,Value.cells],hcell⟩
     intro j hj
     simp only [Value.cells] at hj ⊢
     rw [Array.getD_eq_getD_getElem?,Array.getElem?_eq_getElem hj]
     exact (Array.all_eq_true.1 hall) j hj
    ·cases h
   ·rename_i x hne he
    simp at he
    subst he
    split at h
    ·rename_i h1
     cases h
     have hc:(absC ((kw7 P 50 t).headD 0) u).cells=[absC ((kw7 P 50 t).headD 0) u]:=by unfold absC;split <;> rfl
     refine ⟨i,u,rfl,hz,vc6 _ _,absC_tl _ _,?_,by rw [hc,km9 h1];rfl,?_⟩
     ·intro j hj
      rw [km9 h1] at hj ⊢
      simp at hj
      subst hj
      exact h1
     ·intro j y hj
      rw [hc] at hj
      rw [km9 h1]
      cases j with
      | zero=>simp at hj;subst hj;exact ⟨vc6 _ _,absC_tl _ _⟩
      | succ j=>simp at hj
    ·cases h
   ·rename_i he;cases he
def yk9 (xs:List AV) (off:Nat) (ys:List AV):List AV:=xs.take off++ys++xs.drop (off+ys.length)
theorem zp9 (xs:List AV) (off:Nat) (ys:List AV) (h:off+ys.length≤xs.length):(yk9 xs off ys).length=xs.length:=by
 simp [yk9];omega
theorem wv9 (xs : List AV) (off : Nat) (ys : List AV) (h : off + ys.length ≤ xs.length) (j : Nat) :
  (yk9 xs off ys)[j]?=if off≤j∧j < off+ys.length then ys[j - off]? else xs[j]?:=by
 have l1:(xs.take off).length=off:=by simp;omega
 unfold yk9
 rw [List.append_assoc]
 split
 ·rename_i hj
  rw [List.getElem?_append_right (by omega),l1,List.getElem?_append_left (by omega)]
 ·rename_i hj
  rcases Nat.lt_or_ge j off with h1 | h1
  ·rw [List.getElem?_append_left (by omega),List.getElem?_take,if_pos h1]
  ·rw [List.getElem?_append_right (by omega),l1,List.getElem?_append_right (by omega),List.getElem?_drop]
   congr 1
   omega
theorem kp7 (off : Nat) : ∀ (l : List Value) (k : Nat) (cs : Array Value), (((l.zipIdx k).foldl (fun cs (x : Value × Nat) => cs.setIfInBounds (off + x.2) x.1) cs).size = cs.size) ∧
  ∀ j, ((l.zipIdx k).foldl (fun cs (x : Value × Nat) => cs.setIfInBounds (off + x.2) x.1) cs).getD j undef =
   if off+k≤j∧j < off+k+l.length∧j < cs.size then l.getD (j - off - k) undef else cs.getD j undef
 | [],k,cs=>by
  refine ⟨rfl,fun j=>?_⟩
  simp only [List.zipIdx_nil,List.foldl_nil,List.length_nil]
  rw [if_neg (by omega)]
 | x :: l,k,cs=>by
  obtain ⟨h1,h2⟩:=kp7 off l (k+1) (cs.setIfInBounds (off+k) x)
  refine ⟨by simp only [List.zipIdx_cons,List.foldl_cons];rw [h1];simp,fun j=>?_⟩
  simp only [List.zipIdx_cons,List.foldl_cons]
  rw [h2 j]
  simp only [Array.size_setIfInBounds,List.length_cons]
  by_cases hj:j=off+k
  ·subst hj
   rw [if_neg (by omega)]
   by_cases hlt:off+k < cs.size
   ·rw [if_pos ⟨by omega,by omega,hlt⟩]
    simp [Array.getD,hlt]
   ·rw [if_neg (by omega)]
    simp [Array.getD,hlt]
  ·have e:(cs.setIfInBounds (off+k) x).getD j undef=cs.getD j undef:=by
    rw [Array.getD_eq_getD_getElem?,Array.getD_eq_getD_getElem?,Array.getElem?_setIfInBounds_ne (by omega)]
   rw [e]
   by_cases hc:off+k≤j∧j < off+k+(l.length+1)∧j < cs.size
   ·rw [if_pos hc,if_pos ⟨by omega,by omega,hc.2.2⟩]
    have:j - off - k=(j - off - (k+1))+1:=by omega
    rw [this]
    simp
   ·rw [if_neg hc,if_neg (by omega)]
def Cells (P:Program) (c:Ctx) (w:World) (xs:List AV) (cs:Array Value):Prop :=
 xs.length=cs.size∧∀ j y,xs[j]?=some y→Rep c w y (cs.getD j undef)∧Own P c w y (cs.getD j undef)∧(cs.getD j undef).oneCell'=true
theorem Cells.set {xs : List AV} {cs : Array Value} (h : Cells P c w xs cs) {off : Nat} {y : AV} {ys : List AV} {v : Value} (hk : y.cellsK = some ys) (hle : off + ys.length ≤ xs.length) (hr : Rep c w y v) (ho : Own P c w y v) :
  Cells P c w (yk9 xs off ys) (v.cells.zipIdx.foldl (fun cs (x:Value × Nat)=>cs.setIfInBounds (off+x.2) x.1) cs):=by
 obtain ⟨h1,h2⟩:=zr8 (P:=P) hk hr
 have hf:=kp7 off v.cells.toList 0 cs
 rw [← Array.toList_zipIdx,Array.foldl_toList] at hf
 obtain ⟨f1,f2⟩:=hf
 refine ⟨by rw [zp9 _ _ _ hle,f1];exact h.1,fun j z hj=>?_⟩
 rw [wv9 _ _ _ hle] at hj
 rw [f2 j]
 simp only [Nat.add_zero,Nat.sub_zero,Array.length_toList]
 split at hj
 ·rename_i hc
  rw [if_pos ⟨hc.1,by omega,by have:=h.1;omega⟩]
  have:=h2 _ _ hj
  have e:v.cells.toList.getD (j - off) undef=v.cells.getD (j - off) undef:=by simp [Array.getD_eq_getD_getElem?,List.getD_eq_getElem?_getD]
  rw [e]
  exact ⟨this.1,this.2.2 ho,this.2.1⟩
 ·rename_i hc
  rw [if_neg (by omega)]
  exact h.2 j z hj
def ys6 (place : Nat → Option (Nat × Nat)) : List AV → List (Nat × AV) → Option (List AV)
 | xs,[]=>some xs
 | xs,(i,y) :: rest=>(place i).bind fun (off,sz)=>(y.cellsK).bind fun ys =>
   if ys.length=sz∧off+sz≤xs.length then ys6 place (yk9 xs off ys) rest else none
inductive RepP (P : Program) (c : Ctx) (w : World) : List (Nat × AV) → List (Nat × Value) → Prop
 | nil:RepP P c w [] []
 | cons {i:Nat} {x:AV} {u:Value} {xs:List (Nat × AV)} {us:List (Nat × Value)} (h:Rep c w x u) (ho:Own P c w x u) (hl:RepP P c w xs us):RepP P c w ((i,x) :: xs) ((i,u) :: us)
theorem ul8 {place : Nat → Option (Nat × Nat)} {ps : List (Nat × AV)} {us : List (Nat × Value)} (hp : RepP P c w ps us) :
  ∀ {xs zs:List AV} {cs:Array Value},Cells P c w xs cs→ys6 place xs ps=some zs→∃ cs',Instr.fill place cs us=some cs'∧Cells P c w zs cs':=by
 induction hp with
 | nil=>intro xs zs cs h he;simp [ys6] at he;subst he;exact ⟨cs,rfl,h⟩
 | cons hr ho hl ih =>
  intro xs zs cs h he
  simp only [ys6] at he
  obtain ⟨⟨off,sz⟩,hpl,he⟩:=Option.bind_eq_some_iff.1 he
  obtain ⟨ys,hys,he⟩:=Option.bind_eq_some_iff.1 he
  split at he
  ·rename_i hc
   obtain ⟨hc1,hc2⟩:=hc
   have hset:=h.set hys (by rw [hc1];exact hc2) hr ho
   obtain ⟨cs',h1,h2⟩:=ih hset he
   have hsz:=(zr8 (P:=P) hys hr).1
   refine ⟨cs',?_,h2⟩
   simp only [Instr.fill,hpl]
   rw [if_neg (by have:=h.1;simp;omega)]
   exact h1
  ·cases he
end
end Go.AM
namespace Go.AM
open Go.RowKit
section
variable (P : Program)
def evParts (s : St) (ty : Nat → TypeId) : List (Nat × Operand) → Option (List (Nat × AV))
 | []=>some []
 | (i,o) :: l=>(s.evT P (ty i) o).bind fun x=>(evParts s ty l).map fun r=>(i,x) :: r
def um7 : List Field → Option (List (Nat × Nat))
 | []=>some []
 | fd :: l=>(tyI P fd.type).bind fun x=>(um7 l).map fun r=>(fd.offset,x.2) :: r
def stI (t:TypeId):Option (List (Nat × Nat)) :=
 match P.underlying t with
 | some (.struct fs)=>um7 P fs.toList
 | _=>none
def yt8 (s:St) (t:TypeId) (parts:List (Nat × Operand)):Option AV :=
 match zA P t with
 | some (.agg zs)=>match stI P t with
  | some l=>(evParts P s (ftI P t) parts).bind fun ps=>(ys6 (fun i=>l[i]?) zs ps).map .agg
  | none=>match arI P t with
   | some (_,e,_,sz)=>(evParts P s (fun _=>e) parts).bind fun ps=>(ys6 (fun i=>some (i * sz,sz)) zs ps).map .agg
   | none=>none
 | _=>none
end
section
variable {P : Program} {c c' : Ctx} {w w' : World}
theorem SimSt.evParts {s : St} {a : Act} (hs : SimSt P c w s a) {ty : Nat → TypeId} : ∀ {l : List (Nat × Operand)} {ps : List (Nat × AV)}, evParts P s ty l = some ps → RepP P c w ps (l.map fun x => (x.1, a.eval x.2))
 | [],ps,h=>by simp [AM.evParts] at h;subst h;exact .nil
 | (i,o) :: l,ps,h=>by
  simp only [AM.evParts] at h
  obtain ⟨x,hx,h⟩:=Option.bind_eq_some_iff.1 h
  obtain ⟨r,hr,rfl⟩:=Option.map_eq_some_iff.1 h
  obtain ⟨h1,h2⟩:=hs.evT hx
  exact .cons h1 h2 (hs.evParts hr)
theorem zp6 (w : World) : ∀ (gs : List Field) (m : List (Nat × Nat)), um7 P gs = some m → (gs.mapM fun f => (do pure (f.offset, ← sizeOf f.type) : Sem (Nat × Nat))).run P w = .ok m w
 | [],m,h=>by simp [um7] at h;subst h;rfl
 | g :: gs,m,h=>by
  simp only [um7] at h
  obtain ⟨⟨b,n⟩,hx,h⟩:=Option.bind_eq_some_iff.1 h
  obtain ⟨r,hr,rfl⟩:=Option.map_eq_some_iff.1 h
  have:=zp6 w gs r hr
  simp only [List.mapM_cons,Sem.run_bind,zb9 w hx,Result.andThen_ok,Sem.run_pure,this]
theorem ut8 {t:TypeId} {i:TypeInfo} {u:Value} (hi:P.info? t=some i) (hz:i.zero=some u) (w:World):(zeroValue t).run P w=.ok u w:=by
 simp [zeroValue,typeInfo,hi,hz]
theorem un6 {s : St} {a : Act} {t : TypeId} {parts : Array (Nat × Operand)} {z : AV} (hs : SimSt P c w s a) (h : yt8 P s t parts.toList = some z) :
  ∃ u,(Instr.build t (parts.map fun (i,x)=>(i,a.eval x))).run P w=.ok u w∧Rep c w z u∧Own P c w z u:=by
 unfold yt8 at h
 split at h
 ·rename_i zs hz
  obtain ⟨i,u,hi,hzz,hr,htl,hone,hlen,hcell⟩:=yl8 (c:=c) (w:=w) hz
  obtain ⟨vs,rfl,hl,hrr⟩:=xt7 hr
  have hC:Cells P c w zs vs:=⟨hl,fun j y hj=>⟨hrr j y hj,.none (hcell j y hj).2,hone j (by simp only [Value.cells];rw [← hl];exact (List.getElem?_eq_some_iff.1 hj).1)⟩⟩
  have hparts:∀ {ty:Nat→TypeId} {ps:List (Nat × AV)},AM.evParts P s ty parts.toList=some ps→RepP P c w ps ((parts.map fun (i,x)=>(i,a.eval x)).toList):=by
   intro ty ps hp
   have:=hs.evParts hp
   rw [Array.toList_map]
   exact this
  split at h
  ·rename_i l hst
   obtain ⟨ps,hps,h⟩:=Option.bind_eq_some_iff.1 h
   obtain ⟨zs',hfill,rfl⟩:=Option.map_eq_some_iff.1 h
   unfold stI at hst
   split at hst
   ·rename_i fs hu
    obtain ⟨cs',h1,h2⟩:=ul8 (hparts hps) hC hfill
    refine ⟨.agg cs',?_,.agg h2.1 (fun j y hj=>(h2.2 j y hj).1),.agg (fun j y hj=>(h2.2 j y hj).2.1)⟩
    have hm:=zp6 w fs.toList l hst
    have hm':(fs.mapM fun f=>(do pure (f.offset,← sizeOf f.type):Sem (Nat × Nat))).run P w=.ok l.toArray w:=by
     rw [Array.mapM_eq_mapM_toList,Sem.run_map,hm];rfl
    simp only [Instr.build,Sem.run_bind,ut8 hi hzz,Result.andThen_ok,Value.cells,run_underlying hu,hm']
    have e:(fun (x:Nat)=>l.toArray[x]?)=fun (i:Nat)=>l[i]?:=by funext i;simp
    rw [e,h1]
    rfl
   ·cases hst
  ·split at h
   ·rename_i n e ag sz har
    obtain ⟨hu,hty⟩:=vl8 har
    obtain ⟨ps,hps,h⟩:=Option.bind_eq_some_iff.1 h
    obtain ⟨zs',hfill,rfl⟩:=Option.map_eq_some_iff.1 h
    obtain ⟨cs',h1,h2⟩:=ul8 (hparts hps) hC hfill
    refine ⟨.agg cs',?_,.agg h2.1 (fun j y hj=>(h2.2 j y hj).1),.agg (fun j y hj=>(h2.2 j y hj).2.1)⟩
    simp only [Instr.build,Sem.run_bind,ut8 hi hzz,Result.andThen_ok,Value.cells,run_underlying hu,zb9 w hty,h1]
    rfl
   ·cases h
 ·cases h
theorem SimSt.newCells {s : St} {a : Act} (hs : SimSt P c w s a) {ty : TypeId} {cs : List AV} {cur : Array Value} (h : Cells P c w cs cur) :
  SimSt P (c.newO w.heap.size) (w.alloc (.cells cur ty)) { s with h:=s.h++[.cells ty cs] } a:=hs.obj h.1 h.2
theorem zs6 {s:St} {a:Act} (hs:SimSt P c w s a) (b off:Nat) (w':World):Rep (c.newO b) w' (.loc s.h.length off) (.pointer (some ⟨b,off,none⟩)):=by
 have h1:s.h.length < (c.newO b).no:=by simp only [Ctx.newO];rw [hs.h.no];omega
 have h2:(c.newO b).ob s.h.length=b:=by simp only [Ctx.newO];rw [if_pos hs.h.no.symm]
 have:=Rep.loc (c:=c.newO b) (w:=w') (off:=off) h1
 rw [h2] at this
 exact this
def evBox (s:St) (o:Oper) (elem:TypeId) (x:AV):Option St :=
 (x.cellsK).bind fun cs=>({ s with h:=s.h++[.cells elem cs] }:St).put o.dst (.loc s.h.length 0)
theorem evBox_sound {s s' : St} {a : Act} {o : Oper} {elem : TypeId} {x : AV} {u : Value} (hs : SimSt P c w s a) (h : evBox s o elem x = some s') (hr : Rep c w x u) (ho : Own P c w x u) :
  ∃ v w' c',(Instr.box elem u).run P w=.ok v w'∧Ext c w c' w'∧SimSt P c' w' s' (a.put o.dst v):=by
 unfold evBox at h
 obtain ⟨cs,hk,h⟩:=Option.bind_eq_some_iff.1 h
 obtain ⟨h1,h2⟩:=zr8 (P:=P) hk hr
 have hC:Cells P c w cs u.cells:=⟨h1,fun j y hj=>⟨(h2 j y hj).1,(h2 j y hj).2.2 ho,(h2 j y hj).2.1⟩⟩
 have hs1:=hs.newCells (ty:=elem) hC
 exact ⟨.pointer (some ⟨w.heap.size,0,none⟩),_,_,by simp [Instr.box,newVar,newRow],kq9 c w _ hs.base,hs1.put h (zs6 hs _ 0 _) (.none rfl)⟩
def xw7 (P:Program) (s:St) (o:Oper) (elem:TypeId):Option St :=
 (zA P elem).bind fun z=>({ s with h:=s.h++[.cells elem z.cells] }:St).put o.dst (.loc s.h.length 0)
theorem um6 {s s' : St} {a : Act} {o : Oper} {elem : TypeId} (hs : SimSt P c w s a) (h : xw7 P s o elem = some s') :
  ∃ v w' c',(Instr.alloc elem true (.tuple #[])).run P w=.ok v w'∧Ext c w c' w'∧SimSt P c' w' s' (a.put o.dst v):=by
 unfold xw7 at h
 obtain ⟨z,hz,h⟩:=Option.bind_eq_some_iff.1 h
 obtain ⟨i,u,hi,hzz,hr,htl,hone,hlen,hcell⟩:=yl8 (c:=c) (w:=w) hz
 have hC:Cells P c w z.cells u.cells:=⟨hlen,fun j y hj=>⟨(hcell j y hj).1,.none (hcell j y hj).2,hone j (by rw [← hlen];exact (List.getElem?_eq_some_iff.1 hj).1)⟩⟩
 have hs1:=hs.newCells (ty:=elem) hC
 exact ⟨.pointer (some ⟨w.heap.size,0,none⟩),_,_,by simp [Instr.alloc,ut8 hi hzz,newVar,newRow],kq9 c w _ hs.base,hs1.put h (zs6 hs _ 0 _) (.none rfl)⟩
theorem SimSt.setObj {s : St} {a : Act} (hs : SimSt P c w s a) {id : Nat} {ty : TypeId} {cs cs' : List AV} {cur cur' : Array Value} (hobj : s.h[id]? = some (.cells ty cs))
  (hcur:w.heap[c.ob id]?=some (.cells cur ty (0,0))) (hsize:cur'.size=cur.size) (hC:Cells P c w cs' cur') :
  Ext c w c (w.setRow (c.ob id) cur')∧SimSt P c (w.setRow (c.ob id) cur') { s with h:=s.h.set id (.cells ty cs') } a:=by
 obtain ⟨hbase,hpm,how,_⟩:=hs.h.obj id _ hobj
 have hid:id < c.no:=by rw [hs.h.no];exact (List.getElem?_eq_some_iff.1 hobj).1
 have hne:∀ k,k≠c.ob id→(w.setRow (c.ob id) cur').heap[k]?=w.heap[k]?:=fun k hk=>setRow_other w _ k _ hk
 have hgg:=setRow_heap w (c.ob id) cur cur' ty (0,0) hcur
 have hws:(w.setRow (c.ob id) cur').heap.size=w.heap.size:=by simp [World.setRow]
 have he : Ext c w c (w.setRow (c.ob id) cur') := {
  base:=rfl,os:=rfl,tape:=rfl,output:=rfl
  size:=by rw [hws];exact Nat.le_refl _
  below:=fun k hk=>hne k (fun e=>hk (by rw [e];exact hbase))
  cell:=fun ad v hp hv=>by
   have hb:ad.block≠c.ob id:=by intro hb;unfold Ctx.prot at hp;rw [hb,hpm] at hp;omega
   rw [cell_of_heap (hne _ hb)];exact hv
  pm:=fun _ _=>Nat.le_refl _
  pmb:=fun _ _=>rfl
  owb:=fun _ _=>rfl
  no:=Nat.le_refl _
  ob:=fun _ _=>rfl
  dfr:=fun k hk=>by
   by_cases hb:k=c.ob id
   ·subst hb;rw [hcur] at hk;cases hk
   ·rw [hne k hb];exact hk }
 have hk:Keeps c w c (w.setRow (c.ob id) cur') none:=by
  intro g cur0 e0 hbk hk hown
  by_cases hb:g=c.ob id
  ·subst hb
   exact absurd (hs.h.live hobj rfl).2.2.symm hown
  ·exact ⟨by rw [hne g hb];exact hk,rfl,rfl⟩
 refine ⟨he,hs.n,by rw [hws];exact hs.base,hs.fr.mono (T:=none) he hk,⟨by rw [List.length_set];exact hs.h.no,fun i hi=>by rw [hws];exact hs.h.lt i hi,hs.h.inj,?_⟩,hs.dfr.mono he⟩
 intro i o ho
 rw [List.getElem?_set] at ho
 split at ho
 ·rename_i hi
  subst hi
  split at ho
  ·cases ho
   refine ⟨hbase,hpm,how,cur',hgg,hC.1,fun j y hj=>?_⟩
   obtain ⟨h1,h2,h3⟩:=hC.2 j y hj
   exact ⟨h1.mono he,h2.keep (T:=none) rfl hk,h3⟩
  ·cases ho
 ·rename_i hi
  have hi':i < c.no:=by rw [hs.h.no];exact (List.getElem?_eq_some_iff.1 ho).1
  exact xn9.mono (P:=P) (T:=none) he hk hi' (hs.h.obj i o ho) (fun _=>⟨hne _ (hs.h.inj i id hi' hid (Ne.symm hi)),rfl,rfl⟩)
def kp8 (P:Program) (s:St) (t:TypeId) (addr x:AV):Option St :=
 match tyI P t,addr with
 | some (_,sz),.loc id off=>match s.h[id]? with
  | some (.cells ty cs)=>(x.cellsK).bind fun ys=>if ys.length=sz∧off+sz≤cs.length then some { s with h:=s.h.set id (.cells ty (yk9 cs off ys)) } else none
  | _=>none
 | _,_=>none
theorem up7 (cur : Array Value) (vs : List Value) (off : Nat) (h : off + vs.length ≤ cur.size) (j : Nat) :
  ((cur.toList.take off++vs++cur.toList.drop (off+vs.length)).toArray).getD j undef=if off≤j∧j < off+vs.length then vs.getD (j - off) undef else cur.getD j undef:=by
 have l1:(cur.toList.take off).length=off:=by simp;omega
 rw [Array.getD_eq_getD_getElem?,List.getElem?_toArray,List.append_assoc]
 split
 ·rename_i hj
  rw [List.getElem?_append_right (by omega),l1,List.getElem?_append_left (by omega),List.getD_eq_getElem?_getD]
 ·rename_i hj
  rw [Array.getD_eq_getD_getElem?,← Array.getElem?_toList]
  rcases Nat.lt_or_ge j off with h1 | h1
  ·rw [List.getElem?_append_left (by omega),List.getElem?_take,if_pos h1]
  ·rw [List.getElem?_append_right (by omega),l1,List.getElem?_append_right (by omega),List.getElem?_drop]
   congr 2
   omega
theorem yt7 {s s' : St} {a : Act} {t : TypeId} {addr x : AV} {u v : Value} (hs : SimSt P c w s a) (h : kp8 P s t addr x = some s') (ha : Rep c w addr u) (hr : Rep c w x v) (ho : Own P c w x v) :
  ∃ w',(Instr.storeAt t u v).run P w=.ok () w'∧Ext c w c w'∧SimSt P c w' s' a:=by
 unfold kp8 at h
 split at h
 ·rename_i ag sz id off hty
  split at h
  ·rename_i ty cs hobj
   obtain ⟨ys,hk,h3⟩:=Option.bind_eq_some_iff.1 h
   clear h
   split at h3
   ·rename_i hc
    obtain ⟨rfl,hc2⟩:=hc
    cases h3
    obtain ⟨_,_,_,cur,hcur,hl,hcs⟩:=hs.h.obj id _ hobj
    obtain ⟨h1,h2⟩:=zr8 (P:=P) hk hr
    cases ha with
    | loc hid =>
     have hvl:v.cells.toList.length=ys.length:=by simp [h1]
     have hst:=run_storeCells_at P (c.ob id) off ty v.cells.toList 0 cur w hcur (by simp;omega) (by
      intro z hz
      obtain ⟨k,hk2,rfl⟩:=List.mem_iff_getElem.1 hz
      have hlt:k < v.cells.size:=by simpa using hk2
      have hky:k < ys.length:=by omega
      have:=(h2 k _ (List.getElem?_eq_getElem hky)).2.1
      rw [Array.getD_eq_getD_getElem?,Array.getElem?_eq_getElem hlt] at this
      simpa using this)
     simp only [Nat.add_zero] at hst
     have hle:off+v.cells.toList.length≤cur.size:=by omega
     have hC:Cells P c w (yk9 cs off ys) (cur.toList.take off++v.cells.toList++cur.toList.drop (off+v.cells.toList.length)).toArray:=by
      refine ⟨?_,fun j y hj=>?_⟩
      ·rw [zp9 _ _ _ hc2]
       simp only [List.size_toArray,List.length_append,List.length_take,List.length_drop,Array.length_toList]
       simp only [Array.length_toList] at hle hvl
       omega
      ·rw [wv9 _ _ _ hc2] at hj
       rw [up7 cur _ off hle j,hvl]
       split at hj
       ·rename_i hcj
        rw [if_pos hcj]
        have:=h2 _ _ hj
        have e:v.cells.toList.getD (j - off) undef=v.cells.getD (j - off) undef:=by simp [Array.getD_eq_getD_getElem?,List.getD_eq_getElem?_getD]
        rw [e]
        exact ⟨this.1,this.2.2 ho,this.2.1⟩
       ·rename_i hcj
        rw [if_neg hcj]
        exact hcs j y hj
     have hsz:((cur.toList.take off++v.cells.toList++cur.toList.drop (off+v.cells.toList.length)).toArray).size=cur.size:=by
      simp only [List.size_toArray,List.length_append,List.length_take,List.length_drop,Array.length_toList]
      simp only [Array.length_toList] at hle
      omega
     obtain ⟨he,hs'⟩:=hs.setObj hobj hcur hsz hC
     refine ⟨_,?_,he,hs'⟩
     have hne:¬ (v.cells.size≠ys.length):=by omega
     simp only [Instr.storeAt,Instr.sureAddr,Sem.run_bind,Sem.run_pure,Result.andThen_ok,storeVar,zb9 w hty,if_neg hne,hst]
   ·cases h3
  ·cases h
 ·cases h
end
end Go.AM
namespace Go.AM
open Go.RowKit
def catK (sz : Nat) : List AV → Option (List AV)
 | []=>some []
 | x :: l=>(x.cellsK).bind fun ys=>if ys.length=sz then (catK sz l).map fun r=>ys++r else none
section
variable {P : Program} {c c' : Ctx} {w w' : World}
theorem qn9 {sz : Nat} : ∀ {l fl : List AV}, catK sz l = some fl → fl.length = l.length * sz
 | [],fl,h=>by simp [catK] at h;subst h;simp
 | x :: l,fl,h=>by
  simp only [catK] at h
  obtain ⟨ys,_,h⟩:=Option.bind_eq_some_iff.1 h
  split at h
  ·rename_i hy
   obtain ⟨r,hr,rfl⟩:=Option.map_eq_some_iff.1 h
   simp [qn9 hr,hy,Nat.add_mul];omega
  ·cases h
theorem wq7 {x:AV} {ys:List AV} (h:x.cellsK=some ys):x.cells=ys:=by
 unfold AV.cellsK at h
 split at h
 ·split at h
  ·cases h;rfl
  ·cases h
 ·rename_i hne
  split at h
  ·cases h
   cases x <;> first | rfl | (simp at *;done)
  ·cases h
theorem catK_get {sz : Nat} : ∀ {l fl : List AV}, catK sz l = some fl → ∀ {i j : Nat} {x y : AV}, l[i]? = some x → x.cells[j]? = some y → x.cells.length = sz ∧ fl[i * sz + j]? = some y
 | [],fl,h,i,j,x,y,hi,hj=>by simp at hi
 | x0 :: l,fl,h,i,j,x,y,hi,hj=>by
  simp only [catK] at h
  obtain ⟨ys,hys,h⟩:=Option.bind_eq_some_iff.1 h
  split at h
  ·rename_i hy
   obtain ⟨r,hr,rfl⟩:=Option.map_eq_some_iff.1 h
   have hc:=wq7 hys
   cases i with
   | zero =>
    simp at hi
    subst hi
    rw [hc] at hj ⊢
    refine ⟨hy,?_⟩
    rw [List.getElem?_append_left (by simpa using (List.getElem?_eq_some_iff.1 hj).1)]
    simpa using hj
   | succ i =>
    have:=catK_get hr (i:=i) (by simpa using hi) hj
    refine ⟨this.1,?_⟩
    rw [List.getElem?_append_right (by rw [hy,Nat.add_mul];omega)]
    rw [show (i+1) * sz+j - ys.length=i * sz+j by rw [hy,Nat.add_mul];omega]
    exact this.2
  ·cases h
theorem catK_all {sz : Nat} : ∀ {l fl : List AV}, catK sz l = some fl → ∀ x ∈ l, x.cells.length = sz
 | [],_,_,x,hx=>by cases hx
 | x0 :: l,fl,h,x,hx=>by
  simp only [catK] at h
  obtain ⟨ys,hys,h⟩:=Option.bind_eq_some_iff.1 h
  split at h
  ·rename_i hy
   obtain ⟨r,hr,rfl⟩:=Option.map_eq_some_iff.1 h
   rcases List.mem_cons.1 hx with rfl | hx
   ·rw [wq7 hys];exact hy
   ·exact catK_all hr x hx
  ·cases h
theorem kg7 {sz : Nat} : ∀ (l : List AV) (fl : List AV) (k : Nat) (pre : List AV), catK sz l = some fl → pre.length = k * sz →
  ys6 (fun i=>some (i * sz,sz)) (pre++List.replicate (l.length * sz) .any) ((List.range' k l.length).zip l)=some (pre++fl)
 | [],fl,k,pre,h,hp=>by simp [catK] at h;subst h;simp [ys6]
 | x :: l,fl,k,pre,h,hp=>by
  simp only [catK] at h
  obtain ⟨ys,hys,h⟩:=Option.bind_eq_some_iff.1 h
  split at h
  ·rename_i hy
   obtain ⟨r,hr,rfl⟩:=Option.map_eq_some_iff.1 h
   have e:yk9 (pre++List.replicate ((x :: l).length * sz) AV.any) (k * sz) ys=(pre++ys)++List.replicate (l.length * sz) .any:=by
    unfold yk9
    rw [List.take_append_of_le_length (by omega),List.take_of_length_le (by omega),List.drop_append,List.drop_of_length_le (by omega)]
    simp only [List.nil_append,List.drop_replicate]
    congr 1
    rw [hp,hy,List.length_cons,Nat.add_mul]
    congr 1
    omega
   have:=kg7 l r (k+1) (pre++ys) hr (by rw [List.length_append,hp,hy,Nat.add_mul];omega)
   simp only [List.length_cons,List.range'_succ,List.zip_cons_cons,ys6,Option.bind_some,hys,hy]
   rw [if_pos ⟨trivial,by simp [hp,Nat.add_mul]⟩]
   rw [show (l.length+1) * sz=(x :: l).length * sz from rfl,e,this,List.append_assoc]
  ·cases h
theorem weakL_append (ys r:List AV):AV.weakL (ys++r)=AV.weakL ys++AV.weakL r:=by
 induction ys with
 | nil=>rfl
 | cons y ys ih=>simp [AV.weakL,ih]
theorem zip_parts (ps:List (Nat × AV)):ps=(ps.map (·.1)).zip (ps.map (·.2)):=by
 induction ps with
 | nil=>rfl
 | cons p ps ih=>simp only [List.map_cons,List.zip_cons_cons];rw [← ih]
mutual
theorem weak_rf : (x : AV) → x.rf = true → x.weak.rf = true
 | .lst _ _ _,_=>rfl
 | .agg xs,h=>by simp only [AV.weak,AV.rf] at h ⊢;exact weakL_rf xs h
 | .tup xs,h=>by simp only [AV.weak,AV.rf] at h ⊢;exact weakL_rf xs h
 | .any,_=>rfl
 | .v _,_=>rfl
 | .ro _,_=>rfl
 | .loc _ _,h=>h
 | .arr _ _ _ _,h=>h
 | .fn _ _ _,h=>h
 | .mp _,h=>h
 | .yld _,h=>h
theorem weakL_rf : (xs : List AV) → AV.rfL xs = true → AV.rfL (AV.weakL xs) = true
 | [],_=>rfl
 | x :: xs,h=>by
  simp only [AV.rfL,Bool.and_eq_true] at h
  simp only [AV.weakL,AV.rfL,weak_rf x h.1,weakL_rf xs h.2,Bool.and_self]
end
theorem zb8 (xs:List AV):AV.koneL (AV.weakL xs)=AV.koneL xs:=by
 induction xs with
 | nil=>rfl
 | cons x xs ih =>
  simp only [AV.weakL,AV.koneL,ih]
  congr 1
  cases x <;> rfl
theorem cellsK_weak {x:AV} {ys:List AV} (h:x.cellsK=some ys):x.weak.cellsK=some (AV.weakL ys):=by
 unfold AV.cellsK at h
 split at h
 ·rename_i xs
  split at h
  ·rename_i hk
   cases h
   simp only [AV.weak,AV.cellsK,zb8,hk,if_true]
  ·cases h
 ·rename_i hne
  split at h
  ·rename_i hk
   cases h
   cases x with
   | v x=>simp only [AV.weak,AV.cellsK,AV.weakL,hk,if_true]
   | any=>simp [AV.kone] at hk
   | agg xs=>simp [AV.kone] at hk
   | tup xs=>simp [AV.kone] at hk
   | _=>rfl
  ·cases h
theorem catK_weak {sz : Nat} : ∀ {l fl : List AV}, catK sz l = some fl → catK sz (AV.weakL l) = some (AV.weakL fl)
 | [],fl,h=>by simp [catK] at h;subst h;rfl
 | x :: l,fl,h=>by
  simp only [catK] at h
  obtain ⟨ys,hys,h⟩:=Option.bind_eq_some_iff.1 h
  split at h
  ·rename_i hy
   obtain ⟨r,hr,rfl⟩:=Option.map_eq_some_iff.1 h
   simp only [AV.weakL,catK,cellsK_weak hys,Option.bind_some,xg9,hy,if_true,catK_weak hr,Option.map_some,weakL_append]
  ·cases h
theorem rep_row {e sz T n cap b : Nat} {xs fl : List AV} {cur : Array Value} (hsz : 0 < sz) (hce : P.cellsOf e = sz) (hT : T ≠ 0) (hex : T % 2 = 0 → n = cap) (hcat : catK sz xs = some fl) (hrf : AV.rfL xs = true) (hn : xs.length = n) (hcap : n ≤ cap) (hmax : cap ≤ maxLen)
  (hb:c.base b) (hheap:w.heap[b]?=some (.cells cur e (0,0))) (hsize:cur.size=cap * sz) (hpm:c.pm b=n * sz) (how:c.ow b=T)
  (hone:∀ v∈cur,v.oneCell'=true) (hcells:∀ j y,fl[j]?=some y→Rep c w y (cur.getD j undef)∧(cur.getD j undef).oneCell'=true) :
  Rep c w (.lst (.tip e T) sz xs) (.slice (some ⟨b,0,none⟩) n cap)∧Own P c w (.lst (.tip e T) sz xs) (.slice (some ⟨b,0,none⟩) n cap):=by
 have hfl:=qn9 hcat
 refine ⟨.lst (fun k=>cur.getD k undef) hn hcap hmax (fun _=>hsz) (catK_all hcat) hrf (fun e=>by cases e) hex ?_ ?_,.tip hT hce.symm (.inr ⟨b,cur,rfl,hb,hheap,by rw [hce];exact hsize,by rw [hce];exact hpm,how,hone⟩)⟩
 ·intro ad k e hk
  cases e
  rw [qg9,Nat.zero_add]
  have hlt:k < cur.size:=by
   have:n * sz≤cap * sz:=Nat.mul_le_mul_right _ hcap
   omega
  have hk2:k < fl.length:=by rw [hfl,hn];exact hk
  refine ⟨?_,by unfold Ctx.prot;rw [hpm];exact hk,(hcells k _ (List.getElem?_eq_getElem hk2)).2⟩
  simp [World.cell?,hheap,hlt,Array.getD]
 ·intro i j x y hi hj
  exact (hcells _ _ (catK_get hcat hi hj).2).1
def xh9 (P:Program) (s:St) (tk:Nat) (t:TypeId) (len:Nat) (parts:List (Nat × Operand)):Option AV :=
 match slI P t with
 | some (e,_,sz)=>match zA P e with
  | some z=>(evParts P s (fun _=>e) parts).bind fun ps=>(catK sz (ps.map (·.2))).bind fun _ =>
    if ps.map (·.1)=List.range len∧AV.rfL (ps.map (·.2))=true∧0 < sz∧z.cells.length=sz∧len * sz≤16777216 then some (.lst (.tip e (2 * tk)) sz (AV.weakL (ps.map (·.2)))) else none
  | none=>none
 | none=>none
theorem yd7 {s : St} {a : Act} {tk : Nat} {t : TypeId} {len : Nat} {parts : Array (Nat × Operand)} {z : AV} (hs : SimSt P c w s a) (htk : tk ≠ 0) (h : xh9 P s tk t len parts.toList = some z) :
  ∃ u w' c',(Instr.buildSlice t len (parts.map fun (i,x)=>(i,a.eval x))).run P w=.ok u w'∧Ext c w c' w'∧SimSt P c' w' s a∧Rep c' w' z u∧Own P c' w' z u:=by
 unfold xh9 at h
 split at h
 ·rename_i e ag sz hsl
  obtain ⟨hu,hty⟩:=xf9 hsl
  split at h
  ·rename_i zz hz
   obtain ⟨ps,hps,h⟩:=Option.bind_eq_some_iff.1 h
   obtain ⟨fl,hcat,h⟩:=Option.bind_eq_some_iff.1 h
   split at h
   ·rename_i hc
    obtain ⟨hidx,hrf,hsz,hzl,hle⟩:=hc
    cases h
    obtain ⟨i,u,hi,hzz,hr,htl,hone,hlen,hcell⟩:=yl8 (c:=c) (w:=w) hz
    have hus:u.cells.size=sz:=by rw [← hlen];exact hzl
    have hpl:ps.length=len:=by have:=congrArg List.length hidx;simpa using this
    have hP:RepP P c w ps ((parts.map fun (i,x)=>(i,a.eval x)).toList):=by
     have:=hs.evParts hps
     rw [Array.toList_map]
     exact this
    have hpz:ps=(List.range' 0 (ps.map (·.2)).length).zip (ps.map (·.2)):=by
     rw [List.length_map,hpl,← List.range_eq_range',← hidx]
     exact zip_parts ps
    have hfill:=kg7 (ps.map (·.2)) fl 0 [] hcat (by simp)
    rw [← hpz,List.nil_append,List.nil_append,List.length_map,hpl] at hfill
    have hzero:Cells P c w (List.replicate (len * sz) .any) ((Array.range (len * sz)).map (fun k=>u.cells[k % u.cells.size]!)):=by
     refine ⟨by simp,fun j y hj=>?_⟩
     have hj':=List.getElem?_eq_some_iff.1 hj
     obtain ⟨hj1,hj2⟩:=hj'
     simp at hj1 hj2
     subst hj2
     refine ⟨.any _,.none rfl,?_⟩
     rw [vl9 _ _ _ hj1]
     have hm:j % u.cells.size < u.cells.size:=Nat.mod_lt _ (by omega)
     have:=hone _ hm
     rw [Array.getD_eq_getD_getElem?,Array.getElem?_eq_getElem hm] at this
     rw [getElem!_pos u.cells _ hm]
     exact this
    obtain ⟨cs',h1,h2⟩:=ul8 hP hzero hfill
    have hsize:cs'.size=len * sz:=by rw [← h2.1,qn9 hcat,List.length_map,hpl]
    have hs1:=hs.row (Go.Obj.cells cs' e) (len * sz) (2 * tk)
    have he1:=yw8 c w (Go.Obj.cells cs' e) (len * sz) (2 * tk) hs.base
    have hmax:len≤maxLen:=by
     have:len * 1≤len * sz:=Nat.mul_le_mul_left _ hsz
     simp only [maxLen];omega
    obtain ⟨r1, r2⟩ := rep_row (P := P) (c := c.setB w.heap.size (len * sz) (2 * tk)) (w := w.alloc (.cells cs' e)) (e := e) (T := 2 * tk) (n := len) (cap := len) (b := w.heap.size) (cur := cs')
     hsz (us9 hty) (by omega) (fun _=>rfl) (catK_weak hcat) (weakL_rf _ hrf) (by rw [xg9,List.length_map,hpl]) (Nat.le_refl _) hmax (hs.base _ (Nat.le_refl _)) (qd9 w _) hsize (by simp [Ctx.setB]) (by simp [Ctx.setB]) (fun v hv=>by
      obtain ⟨j,hj,rfl⟩:=Array.mem_iff_getElem.1 hv
      have hj2:j < fl.length:=by rw [h2.1];exact hj
      have:=(h2.2 j _ (List.getElem?_eq_getElem hj2)).2.2
      rwa [Array.getD_eq_getD_getElem?,Array.getElem?_eq_getElem hj] at this)
     (fun j y hj=>by
      rw [vf9] at hj
      obtain ⟨x,hx,rfl⟩:=Option.map_eq_some_iff.1 hj
      exact ⟨((h2.2 j x hx).1.mono he1).weak,(h2.2 j x hx).2.2⟩)
    refine ⟨_,_,_,?_,he1,hs1,r1,r2⟩
    have hnle':¬ (len * sz > 2 ^ 24):=by simpa using hle
    by_cases h0:len * sz=0
    ·have e1:∀ f:Nat→Value,(Array.range (len * sz)).map f=#[]:=by intro f;rw [h0];simp
     rw [e1] at h1
     simp only [Instr.buildSlice,run_underlying hu,Sem.run_bind,Result.andThen_ok,zb9 w hty,if_neg hnle',Sem.run_pure,if_pos h0,e1,h1]
     rfl
    ·simp only [Instr.buildSlice,run_underlying hu,Sem.run_bind,Result.andThen_ok,zb9 w hty,if_neg hnle',Sem.run_pure,if_neg h0,ut8 hi hzz,h1]
     rfl
   ·cases h
  ·cases h
 ·cases h
end
end Go.AM
namespace Go.AM
open Go.RowKit
section
variable {P : Program} {c c' : Ctx} {w w' : World}
def repC : Nat → List AV → List AV
 | 0,_=>[]
 | n+1,zs=>zs++repC n zs
theorem qv9 (n:Nat) (zs:List AV):(repC n zs).length=n * zs.length:=by
 induction n with
 | zero=>simp [repC]
 | succ n ih=>simp [repC,ih,Nat.add_mul];omega
theorem vv6 (zs : List AV) (hz : 0 < zs.length) : ∀ (n j : Nat) (y : AV), (repC n zs)[j]? = some y → zs[j % zs.length]? = some y
 | 0,j,y,h=>by simp [repC] at h
 | n+1,j,y,h=>by
  simp only [repC] at h
  rcases Nat.lt_or_ge j zs.length with h1 | h1
  ·rw [List.getElem?_append_left h1] at h
   rw [Nat.mod_eq_of_lt h1];exact h
  ·rw [List.getElem?_append_right h1] at h
   have:=vv6 zs hz n _ y h
   rw [Nat.mod_eq_sub_mod h1];exact this
def wr8 (P:Program) (s:St) (tk:Nat) (o:Oper) (t:TypeId) (lenO capO:Operand):Option St :=
 match slI P t with
 | some (e,_,sz)=>match apI P e,zA P e with
  | some (sz', by_), some z => if sz' = sz ∧ 0 < sz ∧ z.cells.length = sz then
    match lenO with
    | .const (.int _ 0)=>match s.ev capO with
     | some (.v (.int _ n))=>if 0≤n∧(by_:Int) * n≤281474976710656∧n≤9223372036854775807 then s.put o.dst (.lst (.tip e tk) sz []) else none
     | _=>none
    | _=>match s.ev lenO,s.ev capO with
     | some (.v (.int _ l)),some (.v (.int _ n))=>if 0≤l∧l≤n∧(by_:Int) * n≤281474976710656∧n≤9223372036854775807 then
       ({ s with h:=s.h++[.cells e (repC n.toNat z.cells)] }:St).put o.dst (.arr s.h.length 0 l.toNat n.toNat) else none
     | _,_=>none
   else none
  | _,_=>none
 | none=>none
theorem zm7 {s s' : St} {a : Act} {tk : Nat} {o : Oper} {t : TypeId} {lenO capO : Operand} (hs : SimSt P c w s a) (htk : tk % 2 = 1) (h : wr8 P s tk o t lenO capO = some s') :
  ∃ u w' c',(Instr.makeSlice t (a.eval lenO) (a.eval capO)).run P w=.ok u w'∧Ext c w c' w'∧SimSt P c' w' s' (a.put o.dst u):=by
 unfold wr8 at h
 split at h
 ·rename_i e ag sz hsl
  obtain ⟨hu,hty⟩:=xf9 hsl
  split at h
  ·rename_i sz' by_ z hap hz
   split at h
   ·rename_i hc
    obtain ⟨rfl,hsz,hzl⟩:=hc
    obtain ⟨i,zv,hi,hzz,hisz,hib,hzs,_⟩:=un8 hap
    obtain ⟨i',u,hi',hzz',hr,htl,hone,hlen,hcell⟩:=yl8 (c:=c) (w:=w) hz
    rw [hi] at hi'
    cases hi'
    rw [hzz] at hzz'
    cases hzz'
    have hmade:∀ n:Nat,(∀ j,j < n * sz'→(madeCells zv.cells (n * i.size)).getD j undef=zv.cells.getD (j % sz') undef):=by
     intro n j hj
     unfold madeCells
     rw [hisz,vl9 _ _ _ hj,hzs]
     have hm:j % sz' < zv.cells.size:=by rw [hzs];exact Nat.mod_lt _ hsz
     rw [Array.getD_eq_getD_getElem?,Array.getElem?_eq_getElem hm,getElem!_pos zv.cells _ hm]
     rfl
    split at h
    ·rename_i k
     split at h
     ·rename_i k' n hcap
      split at h
      ·rename_i hb
       have hcv:=(hs.ev hcap).1.v_inv
       have hrun:=run_make (P:=P) w t e i zv hu hi hzz k k' 0 n (by omega) hb.1 (by rw [hib];exact hb.2.1) hb.2.2
       have hsm:n.toNat≤maxLen:=by simp only [maxLen];omega
       have hs1:=hs.row (Go.Obj.cells (madeCells zv.cells (n.toNat * i.size)) e) 0 tk
       refine ⟨_,_,_,by rw [hcv];exact hrun,yw8 c w _ 0 tk hs.base,hs1.put h ?_ ?_⟩
       ·exact .lst (fun _=>undef) rfl (Nat.zero_le _) hsm (by simp) (by simp) rfl (fun e=>by cases e) (fun e=>by omega) (by simp) (by simp)
       ·refine .tip (by omega) (us9 hty).symm (.inr ⟨w.heap.size, _, rfl, hs.base _ (Nat.le_refl _), qd9 w _, ?_, ?_, ?_, ?_⟩)
        ·rw [size_madeCells,hisz,us9 hty]
        ·simp [Ctx.setB]
        ·simp [Ctx.setB]
        ·intro v hv
         obtain ⟨j,hj,rfl⟩:=Array.mem_iff_getElem.1 hv
         have hj2:j < n.toNat * sz':=by rw [size_madeCells,hisz] at hj;exact hj
         have:=hmade _ j hj2
         rw [Array.getD_eq_getD_getElem?,Array.getElem?_eq_getElem hj,Option.getD_some] at this
         rw [this]
         exact hone _ (by rw [hzs];exact Nat.mod_lt _ hsz)
      ·cases h
     ·cases h
    ·split at h
     ·rename_i k l k' n hl hcap
      split at h
      ·rename_i hb
       obtain ⟨hb1,hb2,hb3,hb4⟩:=hb
       have hlv:=(hs.ev hl).1.v_inv
       have hcv:=(hs.ev hcap).1.v_inv
       have hrun:=run_make (P:=P) w t e i zv hu hi hzz k k' l n hb1 hb2 (by rw [hib];exact hb3) hb4
       have hC:Cells P c w (repC n.toNat z.cells) (madeCells zv.cells (n.toNat * i.size)):=by
        refine ⟨by rw [qv9,size_madeCells,hzl,hisz],fun j y hj=>?_⟩
        have hj2:j < n.toNat * sz':=by
         have:=(List.getElem?_eq_some_iff.1 hj).1
         rw [qv9,hzl] at this
         exact this
        have hg:=vv6 z.cells (by omega) _ _ _ hj
        rw [hzl] at hg
        rw [hmade _ _ hj2]
        exact ⟨(hcell _ _ hg).1,.none (hcell _ _ hg).2,hone _ (by rw [hzs];exact Nat.mod_lt _ hsz)⟩
       have hs1:=hs.newCells (ty:=e) hC
       refine ⟨_,_,_,by rw [hlv,hcv];exact hrun,kq9 c w _ hs.base,hs1.put h ?_ (.none rfl)⟩
       have h1:s.h.length < (c.newO w.heap.size).no:=by simp only [Ctx.newO];rw [hs.h.no];omega
       have h2:(c.newO w.heap.size).ob s.h.length=w.heap.size:=by simp only [Ctx.newO];rw [if_pos hs.h.no.symm]
       have:=Rep.arr (c:=c.newO w.heap.size) (w:=w.alloc (.cells (madeCells zv.cells (n.toNat * i.size)) e)) (off:=0) (len:=l.toNat) (cap:=n.toNat) h1 (by omega) (by simp only [maxLen];omega)
       rw [h2] at this
       exact this
      ·cases h
     ·cases h
   ·cases h
  ·cases h
 ·cases h
def byteV (b:UInt8):AV:=.v (.int .u8 b.toNat)
def evS2b (s:St) (o:Oper) (x:AV):Option St :=
 match x with
 | .v (.string b)=>if b.size≤9223372036854775807 then s.put o.dst (.lst .any 1 (b.data.toList.map byteV)) else none
 | _=>none
theorem evS2b_sound {s s' : St} {a : Act} {o : Oper} {src dst e : TypeId} {x : AV} {u : Value} (hs : SimSt P c w s a) (hcv : cvI P src dst = some (.s2b e)) (h : evS2b s o x = some s') (hx : Rep c w x u) :
  ∃ v w' c',(convert src dst u).run P w=.ok v w'∧Ext c w c' w'∧SimSt P c' w' s' (a.put o.dst v):=by
 obtain ⟨t1,t2,t3⟩:=yj7 hcv
 unfold evS2b at h
 split at h
 ·rename_i b
  cases hx
  split at h
  ·rename_i hle
   have hge:=grownCap_ge w b.size 0 e
   have hcm:=grownCap_le_maxLen w b.size 0 e (by simpa only [maxLen] using hle)
   have hrun:=run_bytes_of_string (P:=P) w src dst e b t1 t2 t3
   generalize hcur:bytesRow b (grownCap w b.size 0 e)=cur at hrun
   have hs1:=(hs.drew).row (Go.Obj.cells cur e (cur.size,cur.size+1)) b.size 0
   have he1:=(xl9 c w).trans (yw8 c w.drew (Go.Obj.cells cur e (cur.size,cur.size+1)) b.size 0 hs.base)
   have hnew:(w.drew.alloc (Go.Obj.cells cur e (cur.size,cur.size+1))).heap[w.heap.size]?=some (.cells cur e (cur.size,cur.size+1)):=qd9 w.drew _
   refine ⟨_,_,_,hrun,he1,hs1.put h ?_ (.none rfl)⟩
   refine .lst (fun k=>.int .u8 ((b.data.toList.getD k 0).toNat:Int)) (by simp) hge hcm (fun _=>by omega) (fun x hx=>?_) ?_ (fun e=>by cases e) trivial ?_ ?_
   ·obtain ⟨y,_,rfl⟩:=List.mem_map.1 hx;rfl
   ·rw [qc8];intro x hx;obtain ⟨y,_,rfl⟩:=List.mem_map.1 hx;rfl
   ·intro ad k he hk
    cases he
    rw [Nat.mul_one] at hk
    rw [qg9,Nat.zero_add]
    refine ⟨?_,by
     show k < if w.heap.size=w.heap.size then _ else _
     rw [if_pos rfl];exact hk,rfl⟩
    simp only [World.cell?,hnew,Option.isSome_none,Bool.false_eq_true,if_false]
    have hk':k < b.data.size:=hk
    have hg:b.data[k]?=some b.data[k]:=Array.getElem?_eq_getElem hk'
    subst hcur
    unfold bytesRow
    rw [Array.getElem?_append_left (by simpa using hk')]
    simp [hg,List.getD_eq_getElem?_getD]
   ·intro i j x y hi hj
    obtain ⟨z,hz,rfl⟩:=Option.map_eq_some_iff.1 (by rw [← List.getElem?_map];exact hi)
    cases j with
    | zero =>
     simp [byteV,AV.cells] at hj
     subst hj
     simp only [Nat.mul_one,Nat.add_zero,List.getD_eq_getElem?_getD,hz,Option.getD_some]
     exact .v _
    | succ j=>simp [byteV,AV.cells] at hj
  ·cases h
 ·cases h
def chunk (ag : Bool) (sz : Nat) : Nat → List AV → List AV
 | 0,_=>[]
 | n+1,cs=>(if ag then AV.agg (cs.take sz) else (cs.headD .any)) :: chunk ag sz n (cs.drop sz)
def ws9 (P:Program) (h:List AObj) (tk id off len cap:Nat):Option (AV × List AObj) :=
 match h[id]? with
 | some (.cells ty cs)=>match tyI P ty with
  | some (ag,sz) =>
   let xs:=chunk ag sz len ((AV.weakL cs).drop off)
   if 0 < sz∧(ag=true∨sz=1)∧off+len * sz≤cs.length∧AV.koneL cs=true∧AV.rfL cs=true then
    some (.lst (if off=0∧len=cap∧cap * sz=cs.length then .tip ty tk else .any) sz xs,h.set id (.froz ty (AV.weakL cs)))
   else if 0 < sz∧(ag=true∨sz=1)∧off+len * sz≤cs.length∧AV.koneL (cs.take (off+len * sz))=true∧AV.rfL (cs.take (off+len * sz))=true then
    some (.lst .any sz (chunk ag sz len ((AV.weakL (cs.take (off+len * sz))).drop off)),h.set id (.froz ty (AV.weakL (cs.take (off+len * sz)))))
   else none
  | none=>none
 | some (.froz ty cs)=>match tyI P ty with
  | some (ag,sz) =>
   if 0 < sz∧(ag=true∨sz=1)∧off+len * sz≤cs.length∧AV.koneL cs=true∧AV.rfL cs=true then
    some (.lst .any sz (chunk ag sz len (cs.drop off)),h)
   else none
  | none=>none
 | _=>none
theorem zn8 : {cs : List AV} → AV.koneL cs = true → (n : Nat) → AV.koneL (cs.drop n) = true
 | [],_,n=>by cases n <;> rfl
 | x :: cs,h,0=>h
 | x :: cs,h,n+1=>by
  simp only [AV.koneL,Bool.and_eq_true] at h
  exact zn8 h.2 n
theorem vj6 : {cs : List AV} → AV.rfL cs = true → (n : Nat) → AV.rfL (cs.drop n) = true
 | [],_,n=>by cases n <;> rfl
 | x :: cs,h,0=>h
 | x :: cs,h,n+1=>by
  simp only [AV.rfL,Bool.and_eq_true] at h
  exact vj6 h.2 n
theorem rfL_take : {cs : List AV} → AV.rfL cs = true → (n : Nat) → AV.rfL (cs.take n) = true
 | [],_,n=>by cases n <;> rfl
 | x :: cs,h,0=>rfl
 | x :: cs,h,n+1=>by
  simp only [AV.rfL,Bool.and_eq_true] at h
  simp only [List.take_succ_cons,AV.rfL,h.1,rfL_take h.2 n,Bool.and_self]
theorem chunk_rf (ag : Bool) (sz : Nat) : ∀ (n : Nat) (cs : List AV), AV.rfL cs = true → AV.rfL (chunk ag sz n cs) = true
 | 0,_,_=>rfl
 | n+1,cs,h=>by
  simp only [chunk,AV.rfL,chunk_rf ag sz n _ (vj6 h sz),Bool.and_true]
  split
  ·simp only [AV.rf];exact rfL_take h sz
  ·cases cs with
   | nil=>rfl
   | cons x cs=>simp only [AV.rfL,Bool.and_eq_true] at h;exact h.1
theorem jr7 (ag : Bool) (sz : Nat) (hag : ag = true ∨ sz = 1) : ∀ (n : Nat) (cs : List AV), n * sz ≤ cs.length → AV.koneL cs = true → ∀ x ∈ chunk ag sz n cs, x.cells.length = sz
 | 0,_,_,_,x,hx=>by simp [chunk] at hx
 | n+1,cs,hl,hk,x,hx=>by
  have hl':sz≤cs.length:=by rw [Nat.add_mul] at hl;omega
  simp only [chunk,List.mem_cons] at hx
  rcases hx with rfl | hx
  ·cases ag with
   | true=>simp [AV.cells];omega
   | false =>
    have h1:sz=1:=by simpa using hag
    subst h1
    cases cs with
    | nil=>simp at hl'
    | cons z cs =>
     simp only [AV.koneL,Bool.and_eq_true] at hk
     simp only [Bool.false_eq_true,if_false,List.headD_cons]
     cases z <;> first | rfl | (simp [AV.kone] at hk)
  ·exact jr7 ag sz hag n (cs.drop sz) (by simp;rw [Nat.add_mul] at hl;omega) (zn8 hk sz) x hx
theorem xn7 (ag : Bool) (sz : Nat) : ∀ (n : Nat) (cs : List AV), (chunk ag sz n cs).length = n
 | 0,_=>rfl
 | n+1,cs=>by simp [chunk,xn7 ag sz n]
theorem chunk_get (ag : Bool) (sz : Nat) (hsz : 0 < sz) (hag : ag = true ∨ sz = 1) : ∀ (n : Nat) (cs : List AV) (i j : Nat) (x y : AV), n * sz ≤ cs.length → AV.koneL cs = true → (chunk ag sz n cs)[i]? = some x → x.cells[j]? = some y →
  x.cells.length=sz∧cs[i * sz+j]?=some y
 | 0,cs,i,j,x,y,_,_,h,_=>by simp [chunk] at h
 | n+1,cs,i,j,x,y,hl,hk,h,hj=>by
  have hl':sz≤cs.length:=by rw [Nat.add_mul] at hl;omega
  cases i with
  | zero =>
   simp only [chunk,List.getElem?_cons_zero,Option.some.injEq] at h
   subst h
   cases ag with
   | true =>
    simp only [if_true,AV.cells] at hj ⊢
    refine ⟨by simp;omega,?_⟩
    rw [List.getElem?_take] at hj
    split at hj
    ·simpa using hj
    ·cases hj
   | false =>
    have h1:sz=1:=by simpa using hag
    subst h1
    cases cs with
    | nil=>simp at hl'
    | cons z cs =>
     simp only [AV.koneL,Bool.and_eq_true] at hk
     simp only [Bool.false_eq_true,if_false,List.headD_cons] at hj ⊢
     have hz1:z.cells=[z]:=by
      cases z <;> first | rfl | (simp [AV.kone] at hk)
     rw [hz1] at hj ⊢
     refine ⟨rfl,?_⟩
     cases j with
     | zero=>simpa using hj
     | succ j=>simp at hj
  | succ i =>
   simp only [chunk,List.getElem?_cons_succ] at h
   have hkd:AV.koneL (cs.drop sz)=true:=zn8 hk sz
   have:=chunk_get ag sz hsz hag n (cs.drop sz) i j x y (by simp;rw [Nat.add_mul] at hl;omega) hkd h hj
   rw [List.getElem?_drop] at this
   exact ⟨this.1,by rw [← this.2];congr 1;rw [Nat.add_mul];omega⟩
theorem vw8 {ag : Bool} {sz id off len cap : Nat} {cs : List AV} {o : Fl} (hsz : 0 < sz) (hag : ag = true ∨ sz = 1) (hle : off + len * sz ≤ cs.length) (hk : AV.koneL cs = true) (hrf : AV.rfL cs = true)
  (hcells:∀ j y,cs[j]?=some y→∃ u,w.cell? ⟨c.ob id,j,none⟩=some u∧c.prot ⟨c.ob id,j,none⟩∧u.oneCell'=true∧Rep c w y u) (ho:∀ {aa:Option Addr},o.fits aa len cap) (hlen:len≤cap) (hmax:cap≤maxLen) :
  Rep c w (.lst o sz (chunk ag sz len (cs.drop off))) (.slice (some ⟨c.ob id,off,none⟩) len cap):=by
 have hle':len * sz≤(cs.drop off).length:=by simp;omega
 have hex:∀ j:Nat,∃ v,∀ y,cs[j]?=some y→w.cell? ⟨c.ob id,j,none⟩=some v∧c.prot ⟨c.ob id,j,none⟩∧v.oneCell'=true∧Rep c w y v:=by
  intro j
  cases hy:cs[j]? with
  | none=>exact ⟨undef,fun y h=>by cases h⟩
  | some y =>
   obtain ⟨v,h1⟩:=hcells j y hy
   exact ⟨v,fun y' h=>by cases h;exact h1⟩
 let g:Nat→Value:=fun j=>(hex j).choose
 have hg:∀ j y,cs[j]?=some y→w.cell? ⟨c.ob id,j,none⟩=some (g j)∧c.prot ⟨c.ob id,j,none⟩∧(g j).oneCell'=true∧Rep c w y (g j):=fun j=>(hex j).choose_spec
 refine .lst (fun k=>g (off+k)) (xn7 ag sz len _) hlen hmax (fun _=>hsz) (jr7 ag sz hag len _ hle' (zn8 hk off)) (chunk_rf ag sz len _ (vj6 hrf off)) (fun e=>by cases e) ho ?_ ?_
 ·intro ad k he hk2
  cases he
  rw [qg9]
  have:=hg (off+k) _ (List.getElem?_eq_getElem (by omega))
  exact ⟨this.1,this.2.1,this.2.2.1⟩
 ·intro i j x y hi hj
  have:=(chunk_get ag sz hsz hag len (cs.drop off) i j x y hle' (zn8 hk off) hi hj).2
  rw [List.getElem?_drop] at this
  exact (hg _ _ this).2.2.2
theorem kd9 {s : St} {a : Act} {tk id off len cap : Nat} {x : AV} {h' : List AObj} {u : Value} (hs : SimSt P c w s a) (htk : tk % 2 = 1) (h : ws9 P s.h tk id off len cap = some (x, h')) (hr : Rep c w (.arr id off len cap) u) :
  ∃ c',Ext c w c' w∧Keeps c w c' w none∧SimSt P c' w { s with h:=h' } a∧Rep c' w x u∧Own P c' w x u:=by
 cases hr with
 | arr hid hlen hmax =>
  unfold ws9 at h
  split at h
  ·rename_i ty cs hobj
   split at h
   ·rename_i ag sz hty
    split at h
    ·rename_i hc
     obtain ⟨hsz,hag,hle,hk,hrf⟩:=hc
     cases h
     obtain ⟨hbase,hpm,how,cur,hcur,hl,hcs⟩:=hs.h.obj id _ hobj
     let c1:Ctx:=c.setB (c.ob id) cs.length tk
     have hlt:=hs.h.lt id hid
     have he : Ext c w c1 w := {
      base:=rfl,os:=rfl,tape:=rfl,output:=rfl,size:=Nat.le_refl _,below:=fun _ _=>rfl,cell:=fun _ _ _ h=>h
      pm:=fun k _=>by
       simp only [c1,Ctx.setB]
       split
       ·rename_i hh;subst hh;rw [hpm];exact Nat.zero_le _
       ·exact Nat.le_refl _
      pmb:=fun k hk=>by simp only [c1,Ctx.setB];rw [if_neg (fun e=>hk (by rw [e];exact hbase))]
      owb:=fun k hk=>by simp only [c1,Ctx.setB];rw [if_neg (fun e=>hk (by rw [e];exact hbase))]
      no:=Nat.le_refl _
      ob:=fun _ _=>rfl
      dfr:=fun _ h=>h }
     have hkp:Keeps c w c1 w none:=by
      intro g cur0 e0 _ hg hne
      have hgn:g≠c.ob id:=by intro hh;subst hh;rw [how] at hne;exact hne rfl
      exact ⟨hg,by simp only [c1,Ctx.setB];rw [if_neg hgn],by simp only [c1,Ctx.setB];rw [if_neg hgn]⟩
     have hcell:∀ j y,(AV.weakL cs)[j]?=some y→∃ u,w.cell? ⟨c1.ob id,j,none⟩=some u∧c1.prot ⟨c1.ob id,j,none⟩∧u.oneCell'=true∧Rep c1 w y u:=by
      intro j y hj
      rw [vf9] at hj
      obtain ⟨z,hz,rfl⟩:=Option.map_eq_some_iff.1 hj
      have hjl:=(List.getElem?_eq_some_iff.1 hz).1
      obtain ⟨r1,_,r3⟩:=hcs j z hz
      refine ⟨cur.getD j undef,?_,?_,r3,(r1.mono he).weak⟩
      ·show w.cell? ⟨c.ob id,j,none⟩=_
       simp only [World.cell?,hcur,Option.isSome_none,Bool.false_eq_true,if_false]
       rw [Array.getD_eq_getD_getElem?,Array.getElem?_eq_getElem (by omega)]
       rfl
      ·show j < (if c.ob id=c.ob id then _ else _)
       rw [if_pos rfl];exact hjl
     have hfin:SimSt P c1 w { s with h:=s.h.set id (.froz ty (AV.weakL cs)) } a:=by
      refine ⟨hs.n,hs.base,hs.fr.mono (T:=none) he hkp,⟨by rw [List.length_set];exact hs.h.no,hs.h.lt,hs.h.inj,?_⟩,hs.dfr.mono he⟩
      intro i o ho
      rw [List.getElem?_set] at ho
      split at ho
      ·rename_i hi
       subst hi
       split at ho
       ·cases ho;exact hcell
       ·cases ho
      ·rename_i hi
       have hi':i < c.no:=by rw [hs.h.no];exact (List.getElem?_eq_some_iff.1 ho).1
       refine xn9.mono (P:=P) (T:=none) he hkp hi' (hs.h.obj i o ho) (fun _=>⟨rfl,?_,?_⟩) <;> simp only [c1,Ctx.setB] <;> rw [if_neg (hs.h.inj i id hi' hid (Ne.symm hi))]
     have hrep := vw8 (c := c1) (w := w) (id := id) (off := off) (len := len) (cap := cap) (o := if off = 0 ∧ len = cap ∧ cap * sz = cs.length then .tip ty tk else .any) hsz hag (by rw [xg9]; exact hle) (by rw [zb8]; exact hk) (weakL_rf _ hrf) hcell
      (fun {aa}=>by
       by_cases hf:off=0∧len=cap∧cap * sz=cs.length
       ·rw [if_pos hf];exact fun _=>hf.2.1
       ·rw [if_neg hf];trivial) hlen hmax
     refine ⟨c1,he,hkp,hfin,hrep,?_⟩
     split
     ·rename_i hfull
      obtain ⟨rfl,rfl,hfull⟩:=hfull
      refine .tip (by omega) (us9 hty).symm (.inr ⟨c.ob id,cur,rfl,hbase,hcur,?_,?_,?_,?_⟩)
      ·rw [us9 hty,hfull,hl]
      ·simp only [c1,Ctx.setB];rw [if_pos trivial,us9 hty,hfull]
      ·simp only [c1,Ctx.setB];rw [if_pos trivial]
      ·intro v hv
       obtain ⟨j,hj,rfl⟩:=Array.mem_iff_getElem.1 hv
       have hj2:j < cs.length:=by rw [hl];exact hj
       have:=(hcs j _ (List.getElem?_eq_getElem hj2)).2.2
       rwa [Array.getD_eq_getD_getElem?,Array.getElem?_eq_getElem hj] at this
     ·exact .none rfl
    ·split at h
     ·rename_i hc
      obtain ⟨hsz,hag,hle,hk,hrf⟩:=hc
      cases h
      obtain ⟨hbase,hpm,how,cur,hcur,hl,hcs⟩:=hs.h.obj id _ hobj
      let c1:Ctx:=c.setB (c.ob id) (off+len * sz) tk
      have hlt:=hs.h.lt id hid
      have he : Ext c w c1 w := {
       base:=rfl,os:=rfl,tape:=rfl,output:=rfl,size:=Nat.le_refl _,below:=fun _ _=>rfl,cell:=fun _ _ _ h=>h
       pm:=fun k _=>by
        simp only [c1,Ctx.setB]
        split
        ·rename_i hh;subst hh;rw [hpm];exact Nat.zero_le _
        ·exact Nat.le_refl _
       pmb:=fun k hk=>by simp only [c1,Ctx.setB];rw [if_neg (fun e=>hk (by rw [e];exact hbase))]
       owb:=fun k hk=>by simp only [c1,Ctx.setB];rw [if_neg (fun e=>hk (by rw [e];exact hbase))]
       no:=Nat.le_refl _
       ob:=fun _ _=>rfl
       dfr:=fun _ h=>h }
      have hkp:Keeps c w c1 w none:=by
       intro g cur0 e0 _ hg hne
       have hgn:g≠c.ob id:=by intro hh;subst hh;rw [how] at hne;exact hne rfl
       exact ⟨hg,by simp only [c1,Ctx.setB];rw [if_neg hgn],by simp only [c1,Ctx.setB];rw [if_neg hgn]⟩
      have hcell:∀ j y,(AV.weakL (cs.take (off+len * sz)))[j]?=some y→∃ u,w.cell? ⟨c1.ob id,j,none⟩=some u∧c1.prot ⟨c1.ob id,j,none⟩∧u.oneCell'=true∧Rep c1 w y u:=by
       intro j y hj
       rw [vf9] at hj
       obtain ⟨z,hz,rfl⟩:=Option.map_eq_some_iff.1 hj
       have hjm:j < off+len * sz:=by
        have:=(List.getElem?_eq_some_iff.1 hz).1
        simp at this;omega
       rw [List.getElem?_take,if_pos hjm] at hz
       have hjl:=(List.getElem?_eq_some_iff.1 hz).1
       obtain ⟨r1,_,r3⟩:=hcs j z hz
       refine ⟨cur.getD j undef,?_,?_,r3,(r1.mono he).weak⟩
       ·show w.cell? ⟨c.ob id,j,none⟩=_
        simp only [World.cell?,hcur,Option.isSome_none,Bool.false_eq_true,if_false]
        rw [Array.getD_eq_getD_getElem?,Array.getElem?_eq_getElem (by omega)]
        rfl
       ·show j < (if c.ob id=c.ob id then _ else _)
        rw [if_pos rfl];exact hjm
      have hfin:SimSt P c1 w { s with h:=s.h.set id (.froz ty (AV.weakL (cs.take (off+len * sz)))) } a:=by
       refine ⟨hs.n,hs.base,hs.fr.mono (T:=none) he hkp,⟨by rw [List.length_set];exact hs.h.no,hs.h.lt,hs.h.inj,?_⟩,hs.dfr.mono he⟩
       intro i o ho
       rw [List.getElem?_set] at ho
       split at ho
       ·rename_i hi
        subst hi
        split at ho
        ·cases ho;exact hcell
        ·cases ho
       ·rename_i hi
        have hi':i < c.no:=by rw [hs.h.no];exact (List.getElem?_eq_some_iff.1 ho).1
        refine xn9.mono (P:=P) (T:=none) he hkp hi' (hs.h.obj i o ho) (fun _=>⟨rfl,?_,?_⟩) <;> simp only [c1,Ctx.setB] <;> rw [if_neg (hs.h.inj i id hi' hid (Ne.symm hi))]
      refine ⟨c1,he,hkp,hfin,?_,.none rfl⟩
      have hlt2:(AV.weakL (cs.take (off+len * sz))).length=off+len * sz:=by rw [xg9,List.length_take];omega
      exact vw8 (c:=c1) (w:=w) (id:=id) (off:=off) (len:=len) (cap:=cap) (o:=.any) hsz hag (by rw [hlt2];exact Nat.le_refl _) (by rw [zb8];exact hk) (weakL_rf _ hrf) hcell trivial hlen hmax
     ·cases h
   ·cases h
  ·rename_i ty cs hobj
   split at h
   ·rename_i ag sz hty
    split at h
    ·rename_i hc
     obtain ⟨hsz,hag,hle,hk,hrf⟩:=hc
     cases h
     exact ⟨c,Ext.refl c w,Keeps.refl _ _ _,hs,vw8 hsz hag hle hk hrf (hs.h.obj id _ hobj) trivial hlen hmax,.none rfl⟩
    ·cases h
   ·cases h
  ·cases h
end
end Go.AM
set_option linter.unusedSimpArgs false
namespace Go.AM
open Go.RowKit
section
variable (P : Program)
def mpI (t:TypeId):Option (TypeDesc × TypeId) :=
 match P.underlying t with
 | some (.map k e)=>match P.underlying k with
  | some (.int q)=>some (.int q,e)
  | some .string=>some (.string,e)
  | some .bool=>some (.bool,e)
  | _=>none
 | _=>none
end
def mfind (d : TypeDesc) (k : Value) : List (Value × AV) → Option (Option AV)
 | []=>some none
 | (k',x) :: l=>match Instr.sameNow d k k' with
  | some true=>some (some x)
  | some false=>mfind d k l
  | none=>none
def mset (d : TypeDesc) (k : Value) (y : AV) : List (Value × AV) → Option (List (Value × AV))
 | []=>some [(k,y)]
 | (k',x) :: l=>match Instr.sameNow d k k' with
  | some true=>some ((k,y) :: l)
  | some false=>(mset d k y l).map fun r=>(k',x) :: r
  | none=>none
def xs6 (d : TypeDesc) : AV → Option Value
 | .v (.int k n)=>match d with
  | .int k'=>if k=k' then some (.int k n) else none
  | _=>none
 | .v (.string s)=>match d with
  | .string=>some (.string s)
  | _=>none
 | .v (.bool b)=>match d with
  | .bool=>some (.bool b)
  | _=>none
 | _=>none
def mapOf (h : List AObj) : AV → Option (List (Value × AV))
 | .mp id=>match h[id]? with
  | some (.map es)=>some es
  | _=>none
 | _=>none
def vt7 (P:Program) (h:List AObj) (t:TypeId) (m k:AV) (ok:Bool):Option AV :=
 (mpI P t).bind fun (d,e)=>(mapOf h m).bind fun es=>(xs6 d k).bind fun kv=>(mfind d kv es).bind fun r =>
  match r with
  | some x=>some (if ok then .tup [x,.v (.bool true)] else x)
  | none=>(zA P e).map fun z=>if ok then .tup [z,.v (.bool false)] else z
def yr8 (P:Program) (s:St) (t:TypeId) (m k x:AV):Option St :=
 match m with
 | .mp id=>match s.h[id]? with
  | some (.map es)=>(mpI P t).bind fun (d,_)=>(xs6 d k).bind fun kv=>(mset d kv x.weak es).map fun es'=>{ s with h:=s.h.set id (.map es') }
  | _=>none
 | _=>none
def kb7 (s:St) (o:Oper):Option St :=
 ({ s with h:=s.h++[.map []] }:St).put o.dst (.mp s.h.length)
section
variable {P : Program} {c c' : Ctx} {w w' : World}
theorem ud6 {t:TypeId} {d:TypeDesc} {e:TypeId} (h:mpI P t=some (d,e)):∃ k,P.underlying t=some (.map k e)∧P.underlying k=some d∧((∃ q,d=.int q)∨d=.string∨d=.bool):=by
 unfold mpI at h
 split at h
 ·rename_i k e' hu
  split at h
  ·rename_i q hk;cases h;exact ⟨k,hu,hk,.inl ⟨q,rfl⟩⟩
  ·rename_i hk;cases h;exact ⟨k,hu,hk,.inr (.inl rfl)⟩
  ·rename_i hk;cases h;exact ⟨k,hu,hk,.inr (.inr rfl)⟩
  ·cases h
 ·cases h
theorem xm7 {k:TypeId} {d:TypeDesc} {v:Value} (b:Bool) (hk:P.underlying k=some d) (hd:(∃ q,d=.int q)∨d=.string∨d=.bool):(Instr.checkKey b 10000 k v).run P w=.ok () w:=by
 unfold Instr.checkKey
 rcases hd with ⟨q,rfl⟩ | rfl | rfl <;> simp only [Sem.run_bind,run_underlying hk,Result.andThen_ok,Sem.run_pure]
theorem xl6 {d : TypeDesc} {k : Value} : ∀ {es : List (Value × AV)} {cur : List MapEntry} {n : Nat} {r : Option AV}, es.length = cur.length →
  (∀ (j:Nat) (k:Value) (y:AV),es[j]?=some (k,y)→∃ e,cur[j]?=some e∧e.key=k∧Rep c w y e.val)→mfind d k es=some r →
  (r=none∧Instr.findNow d k cur n=some none)∨∃ x v i,r=some x∧Instr.findNow d k cur n=some (some (i,v))∧Rep c w x v
 | [],[],n,r,_,_,h=>by simp only [mfind,Option.some.injEq] at h;exact .inl ⟨h.symm,rfl⟩
 | [],_ :: _,_,_,hl,_,_=>by simp at hl
 | _ :: _,[],_,_,hl,_,_=>by simp at hl
 | (k',x) :: es,e :: cur,n,r,hl,hr,h=>by
  obtain ⟨e',h1,h2,h3⟩:=hr 0 k' x rfl
  simp only [List.getElem?_cons_zero,Option.some.injEq] at h1
  subst h1
  simp only [mfind] at h
  simp only [Instr.findNow,h2]
  split at h
  ·rename_i hs
   cases h
   exact .inr ⟨x,e.val,n,rfl,by rw [hs],h3⟩
  ·rename_i hs
   rw [hs]
   exact xl6 (by simpa using hl) (fun j k y hj=>hr (j+1) k y (by simpa using hj)) h
  ·cases h
theorem mapOf_inv {s : St} {a : Act} (hs : SimSt P c w s a) {m : AV} {u : Value} {es : List (Value × AV)} (h : mapOf s.h m = some es) (hr : Rep c w m u) :
  ∃ r cur clock,u=.map (some r)∧w.heap[r]?=some (.map cur clock)∧es.length=cur.size∧(∀ (j:Nat) (k:Value) (y:AV),es[j]?=some (k,y)→∃ e,cur[j]?=some e∧e.key=k∧Rep c w y e.val):=by
 unfold mapOf at h
 split at h
 ·rename_i id
  split at h
  ·rename_i es' ho
   cases h
   obtain ⟨_,_,_,cur,clock,h4,h5,h6⟩:=hs.h.obj id _ ho
   cases hr
   exact ⟨_,cur,clock,rfl,h4,h5,h6⟩
  ·cases h
 ·cases h
theorem xp6 {d:TypeDesc} {k:AV} {kv u:Value} (h:xs6 d k=some kv) (hr:Rep c w k u):u=kv:=by
 unfold xs6 at h
 split at h
 ·split at h
  ·split at h
   ·cases h;exact hr.v_inv
   ·cases h
  ·cases h
 ·split at h
  ·cases h;exact hr.v_inv
  ·cases h
 ·split at h
  ·cases h;exact hr.v_inv
  ·cases h
 ·cases h
theorem yd6 {s : St} {a : Act} {t : TypeId} {m k z : AV} {ok : Bool} {u v : Value} (hs : SimSt P c w s a) (h : vt7 P s.h t m k ok = some z) (hm : Rep c w m u) (hk : Rep c w k v) :
  ∃ r,(Instr.lookup t u v ok).run P w=.ok r w∧Rep c w z r:=by
 unfold vt7 at h
 obtain ⟨⟨d,e⟩,hmp,h⟩:=Option.bind_eq_some_iff.1 h
 obtain ⟨es,hes,h⟩:=Option.bind_eq_some_iff.1 h
 obtain ⟨kv,hkv,h⟩:=Option.bind_eq_some_iff.1 h
 obtain ⟨r,hr,h⟩:=Option.bind_eq_some_iff.1 h
 obtain ⟨kt,ht,hkt,hd⟩:=ud6 hmp
 obtain ⟨b,cur,clock,rfl,hb,hl,hcur⟩:=mapOf_inv hs hes hm
 obtain rfl:=xp6 hkv hk
 have hget:(getObj b).run P w=.ok (.map cur clock) w:=by simp [getObj,Sem.run,hb]
 have hfind:=xl6 (n:=0) (cur:=cur.toList) (by simpa using hl) (fun j k y hj=>let ⟨e,e1,e2⟩:=hcur j k y hj;⟨e,by simpa using e1,e2⟩) hr
 unfold Instr.lookup
 simp only [run_underlying ht,Sem.run_bind,Sem.run_pure,Result.andThen_ok,hget,xm7 _ hkt hd,Instr.findKey,run_underlying hkt]
 rcases hfind with ⟨rfl,hf⟩ | ⟨x,xv,i,rfl,hf,hx⟩
 ·obtain ⟨z', hz', rfl⟩ := Option.map_eq_some_iff.1 h
  obtain ⟨inf,zv,hi,hzz,hrz,_⟩:=yl8 (P:=P) (c:=c) (w:=w) hz'
  simp only [hf,Sem.run_pure,Result.andThen_ok,Sem.run_bind,ut8 hi hzz]
  cases ok with
  | true=>exact ⟨_,rfl,.tup rfl fun j y hj=>by match j,hj with
    | 0,hj=>simp at hj;subst hj;exact hrz
    | 1,hj=>simp at hj;subst hj;exact .v _⟩
  | false=>exact ⟨_,rfl,hrz⟩
 ·cases h
  simp only [hf,Sem.run_pure,Result.andThen_ok,Sem.run_bind]
  cases ok with
  | true=>exact ⟨_,rfl,.tup rfl fun j y hj=>by match j,hj with
    | 0,hj=>simp at hj;subst hj;exact hx
    | 1,hj=>simp at hj;subst hj;exact .v _⟩
  | false=>exact ⟨_,rfl,hx⟩
theorem SimSt.newMap {s:St} {a:Act} (hs:SimSt P c w s a):SimSt P (c.newO w.heap.size) (w.alloc (.map #[] 0)) { s with h:=s.h++[.map []] } a:=by
 have he:=kq9 c w (.map #[] 0) hs.base
 have hk:=uh8 c w (.map #[] 0)
 refine ⟨hs.n,fun b hb=>hs.base b (Nat.le_trans he.size hb),hs.fr.mono (T:=none) he hk,?_,hs.dfr.mono he⟩
 have hno:=hs.h.no
 have hobn:(c.newO w.heap.size).ob s.h.length=w.heap.size:=by simp only [Ctx.newO];rw [if_pos hno.symm]
 have hobo:∀ i,i < c.no→(c.newO w.heap.size).ob i=c.ob i:=fun i hi=>he.ob i hi
 refine ⟨by simp [Ctx.newO,hno],?_,?_,?_⟩
 ·intro i hi
  rw [jg9]
  rcases Nat.lt_or_ge i c.no with h | h
  ·rw [hobo i h];exact Nat.lt_succ_of_lt (hs.h.lt i h)
  ·have:i=s.h.length:=by simp only [Ctx.newO] at hi;omega
   subst this;rw [hobn];omega
 ·intro i j hi hj hne
  simp only [Ctx.newO] at hi hj
  rcases Nat.lt_or_ge i c.no with h | h <;> rcases Nat.lt_or_ge j c.no with k | k
  ·rw [hobo i h,hobo j k];exact hs.h.inj i j h k hne
  ·have:j=s.h.length:=by omega
   subst this;rw [hobo i h,hobn];exact Nat.ne_of_lt (hs.h.lt i h)
  ·have:i=s.h.length:=by omega
   subst this;rw [hobo j k,hobn];exact Nat.ne_of_gt (hs.h.lt j k)
  ·omega
 ·intro i o ho
  rcases Nat.lt_or_ge i s.h.length with h | h
  ·rw [List.getElem?_append_left h] at ho
   have hi:i < c.no:=by omega
   refine xn9.mono (P:=P) (T:=none) he hk hi (hs.h.obj i o ho) (fun _=>?_)
   have hlt:=hs.h.lt i hi
   refine ⟨qf9 w _ _ hlt,?_,?_⟩ <;> simp only [Ctx.newO,Ctx.setB] <;> rw [if_neg (by omega)]
  ·rw [List.getElem?_append_right h] at ho
   have hi:i=s.h.length:=by
    have:=(List.getElem?_eq_some_iff.1 ho).1
    simp at this
    omega
   subst hi
   simp at ho
   subst ho
   exact ⟨by rw [hobn];exact hs.base _ (Nat.le_refl _),by rw [hobn];simp [Ctx.newO,Ctx.setB],by rw [hobn];simp [Ctx.newO,Ctx.setB],#[],0,by rw [hobn];exact qd9 w _,rfl,by simp⟩
theorem kv7 {s s' : St} {a : Act} {o : Oper} {t : TypeId} (hs : SimSt P c w s a) (h : kb7 s o = some s') :
  ∃ v w' c',(Instr.makeMap t none).run P w=.ok v w'∧Ext c w c' w'∧SimSt P c' w' s' (a.put o.dst v):=by
 refine ⟨.map (some w.heap.size),w.alloc (.map #[] 0),c.newO w.heap.size,by simp [Instr.makeMap,go_sem],kq9 c w _ hs.base,hs.newMap.put h ?_ (.none rfl)⟩
 have hno:c.no=s.h.length:=hs.h.no
 have hob:(c.newO w.heap.size).ob s.h.length=w.heap.size:=by simp only [Ctx.newO];rw [if_pos hno.symm]
 have:=Rep.mp (c:=c.newO w.heap.size) (w:=w.alloc (.map #[] 0)) (id:=s.h.length) (by simp [Ctx.newO,hno])
 rw [hob] at this
 exact this
theorem SimSt.setMap {s : St} {a : Act} (hs : SimSt P c w s a) {id : Nat} {es es' : List (Value × AV)} {cur cur' : Array MapEntry} {clock clock' : Nat} (hobj : s.h[id]? = some (.map es))
  (hcur:w.heap[c.ob id]?=some (.map cur clock)) (hC:es'.length=cur'.size∧∀ (j:Nat) (k:Value) (y:AV),es'[j]?=some (k,y)→∃ e,cur'[j]?=some e∧e.key=k∧Rep c w y e.val) :
  Ext c w c (w.putObj (c.ob id) (.map cur' clock'))∧SimSt P c (w.putObj (c.ob id) (.map cur' clock')) { s with h:=s.h.set id (.map es') } a:=by
 obtain ⟨hbase,hpm,how,_⟩:=hs.h.obj id _ hobj
 have hid:id < c.no:=by rw [hs.h.no];exact (List.getElem?_eq_some_iff.1 hobj).1
 have hne:∀ k,k≠c.ob id→(w.putObj (c.ob id) (.map cur' clock')).heap[k]?=w.heap[k]?:=fun k hk=>World.putObj_heap_other hk
 have hgg:(w.putObj (c.ob id) (.map cur' clock')).heap[c.ob id]?=some (.map cur' clock'):=World.putObj_heap_same (hs.h.lt id hid)
 have hws:(w.putObj (c.ob id) (.map cur' clock')).heap.size=w.heap.size:=World.putObj_size
 have he : Ext c w c (w.putObj (c.ob id) (.map cur' clock')) := {
  base:=rfl,os:=rfl,tape:=rfl,output:=rfl
  size:=by rw [hws];exact Nat.le_refl _
  below:=fun k hk=>hne k (fun e=>hk (by rw [e];exact hbase))
  cell:=fun ad v hp hv=>by
   have hb:ad.block≠c.ob id:=by intro hb;unfold Ctx.prot at hp;rw [hb,hpm] at hp;omega
   rw [cell_of_heap (hne _ hb)];exact hv
  pm:=fun _ _=>Nat.le_refl _
  pmb:=fun _ _=>rfl
  owb:=fun _ _=>rfl
  no:=Nat.le_refl _
  ob:=fun _ _=>rfl
  dfr:=fun k hk=>by
   by_cases hb:k=c.ob id
   ·subst hb;rw [hcur] at hk;cases hk
   ·rw [hne k hb];exact hk }
 have hk:Keeps c w c (w.putObj (c.ob id) (.map cur' clock')) none:=by
  intro g cur0 e0 hbk hk _
  by_cases hb:g=c.ob id
  ·subst hb;rw [hcur] at hk;cases hk
  ·exact ⟨by rw [hne g hb];exact hk,rfl,rfl⟩
 refine ⟨he,hs.n,by rw [hws];exact hs.base,hs.fr.mono (T:=none) he hk,⟨by rw [List.length_set];exact hs.h.no,fun i hi=>by rw [hws];exact hs.h.lt i hi,hs.h.inj,?_⟩,hs.dfr.mono he⟩
 intro i o ho
 rw [List.getElem?_set] at ho
 split at ho
 ·rename_i hi
  subst hi
  split at ho
  ·cases ho
   exact ⟨hbase,hpm,how,cur',clock',hgg,hC.1,fun j k y hj=>let ⟨e,e1,e2,e3⟩:=hC.2 j k y hj;⟨e,e1,e2,e3.mono he⟩⟩
  ·cases ho
 ·rename_i hi
  have hi':i < c.no:=by rw [hs.h.no];exact (List.getElem?_eq_some_iff.1 ho).1
  exact xn9.mono (P:=P) (T:=none) he hk hi' (hs.h.obj i o ho) (fun _=>⟨hne _ (hs.h.inj i id hi' hid (Ne.symm hi)),rfl,rfl⟩)
theorem sameNow_bits {d:TypeDesc} {k k':Value} (h:Instr.sameNow d k k'=some true):Instr.sameBits 10000 k' k=true:=by
 unfold Instr.sameNow at h
 split at h
 ·split at h
  ·rename_i hk;subst hk;simp at h;subst h;simp [Instr.sameBits]
  ·cases h
 ·rename_i a b
  have:a=b:=(MapKept.bytes_beq a b).1 (by simpa using h)
  subst this
  simp only [Instr.sameBits]
  exact (MapKept.bytes_beq a a).2 rfl
 ·simp only [Option.some.injEq,beq_iff_eq] at h;subst h;simp [Instr.sameBits]
 ·cases h
theorem mset_spec {d : TypeDesc} {k : Value} {y : AV} {yv : Value} {clock : Nat} (hy : Rep c w y yv) : ∀ {es es' : List (Value × AV)} {cur : List MapEntry} {n : Nat}, es.length = cur.length →
  (∀ (j:Nat) (k:Value) (y:AV),es[j]?=some (k,y)→∃ e,cur[j]?=some e∧e.key=k∧Rep c w y e.val)→mset d k y es=some es' →
  (Instr.findNow d k cur n = some none ∧ es'.length = (cur ++ [({ key := k, val := yv, born := clock } : MapEntry)]).length ∧
    (∀ (j:Nat) (k':Value) (y':AV),es'[j]?=some (k',y')→∃ e,(cur++[({ key:=k,val:=yv,born:=clock }:MapEntry)])[j]?=some e∧e.key=k'∧Rep c w y' e.val)) ∨
  ∃ i v e, Instr.findNow d k cur n = some (some (n + i, v)) ∧ cur[i]? = some e ∧ Instr.sameNow d k e.key = some true ∧ es'.length = cur.length ∧
    (∀ (j:Nat) (k':Value) (y':AV),es'[j]?=some (k',y')→∃ e,(cur.modify i fun e=>{ e with key:=k,val:=yv })[j]?=some e∧e.key=k'∧Rep c w y' e.val)
 | [],es',[],n,_,_,h=>by
  simp only [mset,Option.some.injEq] at h
  subst h
  refine .inl ⟨rfl,rfl,fun j k' y' hj=>?_⟩
  match j,hj with
  | 0,hj=>simp at hj;obtain ⟨rfl,rfl⟩:=hj;exact ⟨_,rfl,rfl,hy⟩
 | [],_,_ :: _,_,hl,_,_=>by simp at hl
 | _ :: _,_,[],_,hl,_,_=>by simp at hl
 | (k0,x) :: es,es',e :: cur,n,hl,hr,h=>by
  obtain ⟨e',h1,h2,h3⟩:=hr 0 k0 x rfl
  simp only [List.getElem?_cons_zero,Option.some.injEq] at h1
  subst h1
  have hr':∀ (j:Nat) (k:Value) (y:AV),es[j]?=some (k,y)→∃ e,cur[j]?=some e∧e.key=k∧Rep c w y e.val:=fun j k y hj=>by simpa using hr (j+1) k y (by simpa using hj)
  simp only [mset] at h
  simp only [Instr.findNow,h2]
  split at h
  ·rename_i hs
   cases h
   refine .inr ⟨0,e.val,e,by rw [hs];rfl,rfl,by rw [h2];exact hs,by simpa using hl,fun j k' y' hj=>?_⟩
   match j,hj with
   | 0,hj=>simp at hj;obtain ⟨rfl,rfl⟩:=hj;exact ⟨_,rfl,rfl,hy⟩
   | j+1,hj=>simpa using hr' j k' y' (by simpa using hj)
  ·rename_i hs
   obtain ⟨r,hr1,rfl⟩:=Option.map_eq_some_iff.1 h
   rw [hs]
   rcases mset_spec hy (n:=n+1) (by simpa using hl) hr' hr1 with ⟨f1,f2,f3⟩ | ⟨i,v,e0,f1,f2,f3,f4,f5⟩
   ·refine .inl ⟨f1,by simpa using f2,fun j k' y' hj=>?_⟩
    match j,hj with
    | 0,hj=>simp at hj;obtain ⟨rfl,rfl⟩:=hj;exact ⟨e,rfl,h2,h3⟩
    | j+1,hj=>simpa using f3 j k' y' (by simpa using hj)
   ·refine .inr ⟨i+1,v,e0,by rw [f1,show n+1+i=n+(i+1) by omega],by simpa using f2,f3,by simpa using f4,fun j k' y' hj=>?_⟩
    match j,hj with
    | 0,hj=>simp at hj;obtain ⟨rfl,rfl⟩:=hj;exact ⟨e,rfl,h2,h3⟩
    | j+1,hj=>simpa using f5 j k' y' (by simpa using hj)
  ·cases h
theorem xw8 {s s' : St} {a : Act} {t : TypeId} {m k x : AV} {u v xv : Value} (hs : SimSt P c w s a) (h : yr8 P s t m k x = some s') (hm : Rep c w m u) (hk : Rep c w k v) (hx : Rep c w x xv) :
  ∃ w',(Instr.mapUpdate t u v xv).run P w=.ok () w'∧Ext c w c w'∧SimSt P c w' s' a:=by
 unfold yr8 at h
 split at h
 ·rename_i id
  split at h
  ·rename_i es ho
   obtain ⟨⟨d,e⟩,hmp,h⟩:=Option.bind_eq_some_iff.1 h
   obtain ⟨kv,hkv,h⟩:=Option.bind_eq_some_iff.1 h
   obtain ⟨es',hes,rfl⟩:=Option.map_eq_some_iff.1 h
   obtain ⟨kt,ht,hkt,hd⟩:=ud6 hmp
   obtain rfl:=xp6 hkv hk
   obtain ⟨_,_,_,cur,clock,h4,h5,h6⟩:=hs.h.obj id _ ho
   cases hm
   have hget:(getObj (c.ob id)).run P w=.ok (.map cur clock) w:=by simp [getObj,Sem.run,h4]
   have hput:∀ o,(setObj (c.ob id) o).run P w=.ok () (w.putObj (c.ob id) o):=fun o=>by simp [setObj,Sem.run,h4,World.putObj]
   unfold Instr.mapUpdate
   simp only [run_underlying ht,Sem.run_bind,Sem.run_pure,Result.andThen_ok,hget,xm7 _ hkt hd,Instr.findKey,run_underlying hkt]
   rcases mset_spec (n:=0) (clock:=clock) hx.weak (cur:=cur.toList) (by simpa using h5) (fun j k y hj=>let ⟨e,e1,e2⟩:=h6 j k y hj;⟨e,by simpa using e1,e2⟩) hes with ⟨f1,f2,f3⟩ | ⟨i,v0,e0,f1,f2,f3,f4,f5⟩
   ·obtain ⟨g1,g2⟩:=hs.setMap (cur':=cur.push { key:=v,val:=xv,born:=clock }) (clock':=clock+1) ho h4 ⟨by simpa using f2,fun j k y hj=>by
     obtain ⟨e,e1,e2⟩:=f3 j k y hj
     exact ⟨e,by rw [← Array.getElem?_toList,Array.toList_push];exact e1,e2⟩⟩
    refine ⟨_,?_,g1,g2⟩
    simp only [f1,Sem.run_pure,Result.andThen_ok,hput]
   ·have hsb : Instr.sameBits 10000 e0.key v = true := sameNow_bits f3
    have hci:cur[i]?=some e0:=by simpa using f2
    obtain ⟨g1,g2⟩:=hs.setMap (cur':=cur.modify i fun e=>{ e with key:=v,val:=xv }) (clock':=clock) ho h4 ⟨by simpa using f4,fun j k y hj=>by
     obtain ⟨e,e1,e2⟩:=f5 j k y hj
     exact ⟨e,by rw [← Array.getElem?_toList,Array.toList_modify];exact e1,e2⟩⟩
    refine ⟨_,?_,g1,g2⟩
    simp only [f1,Sem.run_pure,Result.andThen_ok,Nat.zero_add,hci,Option.map_some,Option.getD_some,Instr.keyThatStays,hsb,if_true,Sem.run_bind,hput]
  ·cases h
 ·cases h
end
end Go.AM
namespace Go.AM
open Go.RowKit
def site (o:Oper):Nat:=match o.dst with
 | some d=>2 * d+1
 | none=>1
theorem ur8 (o:Oper):site o % 2=1:=by unfold site;split <;> omega
theorem site_ne (o:Oper):site o≠0:=by have:=ur8 o;omega
mutual
def frzV (P : Program) (tk : Nat) (h : List AObj) : AV → Option (AV × List AObj)
 | .arr id off len cap=>ws9 P h tk id off len cap
 | .agg xs=>(frzL P tk h xs).map fun (ys,h')=>(.agg ys,h')
 | .tup xs=>(frzL P tk h xs).map fun (ys,h')=>(.tup ys,h')
 | x=>some (x,h)
def frzL (P : Program) (tk : Nat) (h : List AObj) : List AV → Option (List AV × List AObj)
 | []=>some ([],h)
 | x :: xs=>(frzV P tk h x).bind fun (y,h1)=>(frzL P tk h1 xs).map fun (ys,h2)=>(y :: ys,h2)
end
def evOpts (P : Program) (s : St) : List (Operand × TypeId) → Option (List AV)
 | []=>some []
 | (o,t) :: l=>(s.evT P t o).bind fun x=>(evOpts P s l).map fun r=>x :: r
def uc8 (P:Program) (s:St) (tk:Nat) (o:Oper) (xo yo:Operand) (t t':TypeId):Option St :=
 if t'=t then
  match slI P t with
  | some (e,_,sz)=>match apI P e with
   | some (sz',by_)=>(s.evT P t xo).bind fun x=>(s.evT P t yo).bind fun y=>(frzV P tk s.h y).bind fun (y',h') =>
    match tipA e sz x,y' with
    | some (src,xs),.lst _ sy ys =>
     if sy=sz∧sz'=sz∧0 < sz∧0 < by_∧exOk x ys=true∧(xs.length+ys.length) * by_≤140737488355328 then
      (⟨s.n,jc8 src s.fr,wb9 src h'⟩:St).put o.dst (.lst (.tip e (tokA src tk)) sz (xs++ys)) else none
    | _,_=>none
   | none=>none
  | none=>none
 else none
def evOp (P:Program) (o:Oper) (s:St):Option St :=
 match o.op with
 | .alloc e=>xw7 P s o e
 | .box e x=>(s.evT P e x).bind (evBox s o e)
 | .build t ps=>(yt8 P s t ps.toList).bind (s.put o.dst)
 | .buildSlice t len ps=>(xh9 P s (site o) t len ps.toList).bind (s.put o.dst)
 | .makeSlice t l n=>wr8 P s (site o) o t l n
 | .store t x y=>(s.ev x).bind fun a=>(s.evT P t y).bind fun b=>(kp8 P s t a b).bind fun s'=>s'.put o.dst (.v undef)
 | .convert src dst x=>match cvI P src dst with
  | some (.s2b _)=>(s.ev x).bind (evS2b s o)
  | _=>(wn9 P s o).bind (s.put o.dst)
 | .makeMap _ none=>kb7 s o
 | .insert t m k x | .mapUpdate t m k x=>(s.ev m).bind fun m=>(s.ev k).bind fun k=>(s.evT P t x).bind fun x=>(yr8 P s t m k x).bind fun s'=>s'.put o.dst (.v undef)
 | .lookup t m k ok=>(s.ev m).bind fun m=>(s.ev k).bind fun k=>(vt7 P s.h t m k ok).bind (s.put o.dst ·.weak)
 | .call c=>match c.callee,c.args.toList,c.argTypes.toList with
  | .builtin .append,[x,y],[t,t']=>uc8 P s (site o) o x y t t'
  | .builtin _,_,_=>(wn9 P s o).bind (s.put o.dst)
  | _,_,_=>none
 | _=>(wn9 P s o).bind (s.put o.dst)
section
variable {P : Program} {c c' : Ctx} {w w' : World}
theorem SimSt.evOpts {s : St} {a : Act} (hs : SimSt P c w s a) : ∀ {l : List (Operand × TypeId)} {xs : List AV}, evOpts P s l = some xs → RepL P c w xs (l.map fun x => a.eval x.1)
 | [],xs,h=>by simp [AM.evOpts] at h;subst h;exact .nil
 | (o,t) :: l,xs,h=>by
  simp only [AM.evOpts] at h
  obtain ⟨x,hx,h⟩:=Option.bind_eq_some_iff.1 h
  obtain ⟨r,hr,rfl⟩:=Option.map_eq_some_iff.1 h
  obtain ⟨h1,h2⟩:=hs.evT hx
  exact .cons h1 h2 (hs.evOpts hr)
theorem RepL.mono (he:Ext c w c' w') (hk:Keeps c w c' w' none) {xs:List AV} {us:List Value} (h:RepL P c w xs us):RepL P c' w' xs us:=by
 induction h with
 | nil=>exact .nil
 | cons h ho hl ih=>exact .cons (h.mono he) (ho.keep (T:=none) he.base hk) ih
theorem RepL.of_get : ∀ {xs : List AV} {us : List Value}, xs.length = us.length → (∀ (j : Nat) (y : AV) (u : Value), xs[j]? = some y → us[j]? = some u → Rep c w y u ∧ Own P c w y u) → RepL P c w xs us
 | [],[],_,_=>.nil
 | [],_ :: _,h,_=>by simp at h
 | _ :: _,[],h,_=>by simp at h
 | x :: xs,u :: us,h,hg=>.cons (hg 0 x u rfl rfl).1 (hg 0 x u rfl rfl).2 (RepL.of_get (by simpa using h) fun j y v h1 h2=>hg (j+1) y v (by simpa using h1) (by simpa using h2))
theorem RepL.of_arr {xs:List AV} {vs:Array Value} (hl:xs.length=vs.size) (hr:∀ j y,xs[j]?=some y→Rep c w y (vs.getD j undef)) (ho:∀ j y,xs[j]?=some y→Own P c w y (vs.getD j undef)):RepL P c w xs vs.toList:=by
 refine .of_get (by simpa using hl) fun j y u h1 h2=>?_
 have e:vs.getD j undef=u:=by
  rw [Array.getElem?_toList] at h2
  rw [Array.getD_eq_getD_getElem?,h2];rfl
 rw [← e]
 exact ⟨hr j y h1,ho j y h1⟩
theorem RepL.to_arr {xs:List AV} {vs:Array Value} (h:RepL P c w xs vs.toList):xs.length=vs.size∧(∀ j y,xs[j]?=some y→Rep c w y (vs.getD j undef))∧(∀ j y,xs[j]?=some y→Own P c w y (vs.getD j undef)):=by
 have key:∀ j y,xs[j]?=some y→Rep c w y (vs.getD j undef)∧Own P c w y (vs.getD j undef):=by
  intro j y hj
  obtain ⟨u,hu,h1,h2⟩:=h.get hj
  rw [Array.getElem?_toList] at hu
  rw [Array.getD_eq_getD_getElem?,hu]
  exact ⟨h1,h2⟩
 exact ⟨by simpa using h.length,fun j y hj=>(key j y hj).1,fun j y hj=>(key j y hj).2⟩
mutual
theorem jd9 {tk : Nat} (htk : tk % 2 = 1) {a : Act} : (x : AV) → (s : St) → (c : Ctx) → (y : AV) → (h' : List AObj) → (u : Value) → SimSt P c w s a → frzV P tk s.h x = some (y, h') → Rep c w x u → Own P c w x u →
  ∃ c',Ext c w c' w∧Keeps c w c' w none∧SimSt P c' w { s with h:=h' } a∧Rep c' w y u∧Own P c' w y u
 | .arr id off len cap,s,c,y,h',u,hs,h,hr,_=>kd9 hs htk h hr
 | .agg xs,s,c,y,h',u,hs,h,hr,ho=>by
  simp only [frzV] at h
  obtain ⟨⟨ys,h1⟩,hx,he⟩:=Option.map_eq_some_iff.1 h
  cases he
  obtain ⟨vs,rfl,hl,hrr⟩:=xt7 hr
  obtain ⟨c1,e1,k1,s1,r1⟩:=frzL_sound htk xs s c ys h1 vs.toList hs hx (RepL.of_arr hl hrr (qp7 ho))
  obtain ⟨t1,t2,t3⟩:=r1.to_arr
  exact ⟨c1,e1,k1,s1,.agg t1 t2,.agg t3⟩
 | .tup xs,s,c,y,h',u,hs,h,hr,ho=>by
  simp only [frzV] at h
  obtain ⟨⟨ys,h1⟩,hx,he⟩:=Option.map_eq_some_iff.1 h
  cases he
  obtain ⟨vs,rfl,hl,hrr⟩:=tup_inv hr
  obtain ⟨c1,e1,k1,s1,r1⟩:=frzL_sound htk xs s c ys h1 vs.toList hs hx (RepL.of_arr hl hrr (own_tup ho))
  obtain ⟨t1,t2,t3⟩:=r1.to_arr
  exact ⟨c1,e1,k1,s1,.tup t1 t2,.tup t3⟩
 | .any,s,c,y,h',u,hs,h,hr,ho=>by simp only [frzV] at h;cases h;exact ⟨c,Ext.refl c w,Keeps.refl _ _ _,hs,hr,ho⟩
 | .v _,s,c,y,h',u,hs,h,hr,ho=>by simp only [frzV] at h;cases h;exact ⟨c,Ext.refl c w,Keeps.refl _ _ _,hs,hr,ho⟩
 | .lst _ _ _,s,c,y,h',u,hs,h,hr,ho=>by simp only [frzV] at h;cases h;exact ⟨c,Ext.refl c w,Keeps.refl _ _ _,hs,hr,ho⟩
 | .ro _,s,c,y,h',u,hs,h,hr,ho=>by simp only [frzV] at h;cases h;exact ⟨c,Ext.refl c w,Keeps.refl _ _ _,hs,hr,ho⟩
 | .loc _ _,s,c,y,h',u,hs,h,hr,ho=>by simp only [frzV] at h;cases h;exact ⟨c,Ext.refl c w,Keeps.refl _ _ _,hs,hr,ho⟩
 | .fn _ _ _,s,c,y,h',u,hs,h,hr,ho=>by simp only [frzV] at h;cases h;exact ⟨c,Ext.refl c w,Keeps.refl _ _ _,hs,hr,ho⟩
 | .mp _,s,c,y,h',u,hs,h,hr,ho=>by simp only [frzV] at h;cases h;exact ⟨c,Ext.refl c w,Keeps.refl _ _ _,hs,hr,ho⟩
 | .yld _,s,c,y,h',u,hs,h,hr,ho=>by simp only [frzV] at h;cases h;exact ⟨c,Ext.refl c w,Keeps.refl _ _ _,hs,hr,ho⟩
theorem frzL_sound {tk : Nat} (htk : tk % 2 = 1) {a : Act} : (xs : List AV) → (s : St) → (c : Ctx) → (ys : List AV) → (h' : List AObj) → (us : List Value) → SimSt P c w s a → frzL P tk s.h xs = some (ys, h') → RepL P c w xs us →
  ∃ c',Ext c w c' w∧Keeps c w c' w none∧SimSt P c' w { s with h:=h' } a∧RepL P c' w ys us
 | [],s,c,ys,h',us,hs,h,hr=>by
  simp only [frzL] at h
  cases h
  cases hr
  exact ⟨c,Ext.refl c w,Keeps.refl _ _ _,hs,.nil⟩
 | x :: xs,s,c,ys,h',us,hs,h,hr=>by
  simp only [frzL] at h
  obtain ⟨⟨y,h1⟩,hy,h⟩:=Option.bind_eq_some_iff.1 h
  obtain ⟨⟨ys',h2⟩,hys,he⟩:=Option.map_eq_some_iff.1 h
  cases he
  cases hr with
  | cons r1 o1 rl =>
   obtain ⟨c1,e1,k1,s1,r2,o2⟩:=jd9 htk x s c y h1 _ hs hy r1 o1
   obtain ⟨c2,e2,k2,s2,rl2⟩:=frzL_sound htk xs { s with h:=h1 } c1 ys' _ _ s1 hys (rl.mono e1 k1)
   exact ⟨c2,e1.trans e2,k1.trans e1.base k2,s2,.cons (r2.mono e2) (o2.keep (T:=none) e2.base k2) rl2⟩
end
theorem yf6 {s s' : St} {a : Act} {o : Oper} {xo yo : Operand} {t t' : TypeId} {tk : Nat} (hs : SimSt P c w s a) (htk : tk % 2 = 1) (h : uc8 P s tk o xo yo t t' = some s') :
  ∃ v w' c',(Builtin.append_ #[t,t'] o.type #[a.eval xo,a.eval yo]).run P w=.ok v w'∧Ext c w c' w'∧SimSt P c' w' s' (a.put o.dst v):=by
 unfold uc8 at h
 split at h
 ·rename_i htt
  subst htt
  split at h
  ·rename_i e ag sz hsl
   split at h
   ·rename_i sz' by_ hap
    obtain ⟨x,hx,h⟩:=Option.bind_eq_some_iff.1 h
    obtain ⟨y,hy,h⟩:=Option.bind_eq_some_iff.1 h
    obtain ⟨⟨y',h'⟩,hfr,h⟩:=Option.bind_eq_some_iff.1 h
    dsimp only at h
    split at h
    ·rename_i src xs oy sy ys htip
     split at h
     ·rename_i hc
      obtain ⟨rfl,rfl,hsz,hby,hex,hbytes⟩:=hc
      obtain ⟨rx,ox⟩:=hs.evT hx
      obtain ⟨ry,oy'⟩:=hs.evT hy
      obtain ⟨c1,e1,k1,s1,ry1,_⟩:=jd9 htk y s c _ h' _ hs hfr ry oy'
      obtain ⟨v,w2,c2,hrun,e2,s2,r2,o2⟩:=append_sound (ty:=o.type) s1 hsl hap hsz hby htip rfl hex htk hbytes (rx.mono e1) (ox.keep (T:=none) e1.base k1) ry1
      exact ⟨v,w2,c2,hrun,e1.trans e2,s2.put h r2 o2⟩
     ·cases h
    ·cases h
   ·cases h
  ·cases h
 ·cases h
theorem evOp_sound {s s' : St} {a : Act} {o : Oper} (hs : SimSt P c w s a) (h : evOp P o s = some s') :
  ∃ u nx w' c',(execOp a.eval o).run P w=.ok nx w'∧(nx=.value u∨(nx=.skip∧u=undef))∧Ext c w c' w'∧SimSt P c' w' s' (a.put o.dst u):=by
 have pure_case:(wn9 P s o).bind (s.put o.dst)=some s'→∃ u nx w' c',(execOp a.eval o).run P w=.ok nx w'∧(nx=.value u∨(nx=.skip∧u=undef))∧Ext c w c' w'∧SimSt P c' w' s' (a.put o.dst u):=by
  intro h
  obtain ⟨x,hx,h⟩:=Option.bind_eq_some_iff.1 h
  obtain ⟨u,h1,h2,h3⟩:=evPure_sound hs hx
  exact ⟨u,_,w,c,h1,.inl rfl,Ext.refl c w,hs.put h h2 h3⟩
 unfold evOp at h
 split at h
 ·rename_i e ho
  obtain ⟨v,w',c',h1,h2,h3⟩:=um6 hs h
  exact ⟨v,_,w',c',by unfold execOp;simp only [ho,Sem.run_bind,h1,Result.andThen_ok,Sem.run_pure],.inl rfl,h2,h3⟩
 ·rename_i e x ho
  obtain ⟨xa,hxa,h⟩:=Option.bind_eq_some_iff.1 h
  obtain ⟨v,w',c',h1,h2,h3⟩:=evBox_sound (P:=P) hs h (hs.evT hxa).1 (hs.evT hxa).2
  exact ⟨v,_,w',c',by unfold execOp;simp only [ho,Sem.run_bind,h1,Result.andThen_ok,Sem.run_pure],.inl rfl,h2,h3⟩
 ·rename_i t ps ho
  obtain ⟨z,hz,h⟩:=Option.bind_eq_some_iff.1 h
  obtain ⟨u,h1,h2,h3⟩:=un6 hs hz
  exact ⟨u,_,w,c,by unfold execOp;simp only [ho,Sem.run_bind,h1,Result.andThen_ok,Sem.run_pure],.inl rfl,Ext.refl c w,hs.put h h2 h3⟩
 ·rename_i t len ps ho
  obtain ⟨z,hz,h⟩:=Option.bind_eq_some_iff.1 h
  obtain ⟨u,w',c',h1,h2,h3,h4,h5⟩:=yd7 hs (site_ne o) hz
  exact ⟨u,_,w',c',by unfold execOp;simp only [ho,Sem.run_bind,h1,Result.andThen_ok,Sem.run_pure],.inl rfl,h2,h3.put h h4 h5⟩
 ·rename_i t l n ho
  obtain ⟨u,w',c',h1,h2,h3⟩:=zm7 hs (ur8 o) h
  exact ⟨u,_,w',c',by unfold execOp;simp only [ho,Sem.run_bind,h1,Result.andThen_ok,Sem.run_pure],.inl rfl,h2,h3⟩
 ·rename_i t x y ho
  obtain ⟨xa,hxa,h⟩:=Option.bind_eq_some_iff.1 h
  obtain ⟨ya,hya,h⟩:=Option.bind_eq_some_iff.1 h
  obtain ⟨s1,hs1,h⟩:=Option.bind_eq_some_iff.1 h
  obtain ⟨w',h1,h2,h3⟩:=yt7 hs hs1 (hs.ev hxa).1 (hs.evT hya).1 (hs.evT hya).2
  exact ⟨undef,_,w',c,by unfold execOp;simp only [ho,Sem.run_bind,h1,Result.andThen_ok,Sem.run_pure],.inr ⟨rfl,rfl⟩,h2,h3.put h (.v undef) (.none rfl)⟩
 ·rename_i src dst x ho
  split at h
  ·rename_i e hcv
   obtain ⟨xa,hxa,h⟩:=Option.bind_eq_some_iff.1 h
   obtain ⟨v,w',c',h1,h2,h3⟩:=evS2b_sound hs hcv h (hs.ev hxa).1
   exact ⟨v,_,w',c',by unfold execOp;simp only [ho,Sem.run_bind,h1,Result.andThen_ok,Sem.run_pure],.inl rfl,h2,h3⟩
  ·exact pure_case h
 ·rename_i t ho
  obtain ⟨v,w',c',h1,h2,h3⟩:=kv7 (t:=t) hs h
  exact ⟨v,_,w',c',by unfold execOp;simp only [ho,Option.map_none,Sem.run_bind,h1,Result.andThen_ok,Sem.run_pure],.inl rfl,h2,h3⟩
 ·rename_i t m k x ho
  obtain ⟨ma,hma,h⟩:=Option.bind_eq_some_iff.1 h
  obtain ⟨ka,hka,h⟩:=Option.bind_eq_some_iff.1 h
  obtain ⟨xa,hxa,h⟩:=Option.bind_eq_some_iff.1 h
  obtain ⟨s1,hs1,h⟩:=Option.bind_eq_some_iff.1 h
  obtain ⟨w',h1,h2,h3⟩:=xw8 hs hs1 (hs.ev hma).1 (hs.ev hka).1 (hs.evT hxa).1
  exact ⟨undef,_,w',c,by unfold execOp;simp only [ho,Sem.run_bind,h1,Result.andThen_ok,Sem.run_pure],.inr ⟨rfl,rfl⟩,h2,h3.put h (.v undef) (.none rfl)⟩
 ·rename_i t m k x ho
  obtain ⟨ma,hma,h⟩:=Option.bind_eq_some_iff.1 h
  obtain ⟨ka,hka,h⟩:=Option.bind_eq_some_iff.1 h
  obtain ⟨xa,hxa,h⟩:=Option.bind_eq_some_iff.1 h
  obtain ⟨s1,hs1,h⟩:=Option.bind_eq_some_iff.1 h
  obtain ⟨w',h1,h2,h3⟩:=xw8 hs hs1 (hs.ev hma).1 (hs.ev hka).1 (hs.evT hxa).1
  exact ⟨undef,_,w',c,by unfold execOp;simp only [ho,Sem.run_bind,h1,Result.andThen_ok,Sem.run_pure],.inr ⟨rfl,rfl⟩,h2,h3.put h (.v undef) (.none rfl)⟩
 ·rename_i t m k ok ho
  obtain ⟨ma,hma,h⟩:=Option.bind_eq_some_iff.1 h
  obtain ⟨ka,hka,h⟩:=Option.bind_eq_some_iff.1 h
  obtain ⟨za,hza,h⟩:=Option.bind_eq_some_iff.1 h
  obtain ⟨r,h1,h2⟩:=yd6 hs hza (hs.ev hma).1 (hs.ev hka).1
  exact ⟨r,_,w,c,by unfold execOp;simp only [ho,Sem.run_bind,h1,Result.andThen_ok,Sem.run_pure],.inl rfl,Ext.refl c w,hs.put h h2.weak (Own.weak _ _)⟩
 ·rename_i cc ho
  split at h
  ·rename_i x y t t' h1 h2 h3
   obtain ⟨v,w',c',r1,r2,r3⟩:=yf6 hs (ur8 o) h
   have e1:cc.args=#[x,y]:=by apply Array.ext';rw [h2]
   have e2:cc.argTypes=#[t,t']:=by apply Array.ext';rw [h3]
   refine ⟨v,_,w',c',?_,.inl rfl,r2,r3⟩
   unfold execOp
   simp only [ho,resolve,h1,Sem.run_bind,Sem.run_pure,Result.andThen_ok,invoke,builtin,e1,e2]
   simp only [List.map_toArray,List.map_cons,List.map_nil,r1,Result.andThen_ok]
  ·exact pure_case h
  ·cases h
 ·exact pure_case h
end
end Go.AM
