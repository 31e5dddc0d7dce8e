/- The abstract machine: further regions, calls and rules. -/
import Derived.ChangeKeysEq
import Derived.Laws.Externs
import Derived.Laws.StructEq
import Derived.Lib.MakeNoZero
import Derived.Test.YtlhaljblcimnbaaAmC
set_option linter.unusedVariables false
set_option linter.unusedSimpArgs false
namespace Go.AM
section
variable {P : Program}
variable {F : Fence} {n : Nat}
end
end Go.AM
namespace Go.AM
section
variable {P : Program} {c c' : Ctx} {w : World}
theorem RepL.split {xs : List AV} {y : AV} {ys : List AV} {us : List Value} (h : RepL P c w (xs ++ y :: ys) us) : ∃ us1 v us2, us = us1 ++ v :: us2 ∧ RepL P c w xs us1 ∧ Rep c w y v ∧ RepL P c w ys us2 := by
 induction xs generalizing us with
 | nil =>
  cases h with
  | cons h1 h2 h3 => exact ⟨[], _, _, rfl, .nil, h1, h3⟩
 | cons x xs ih =>
  cases h with
  | cons h1 h2 h3 =>
   obtain ⟨us1, v, us2, rfl, k1, k2, k3⟩ := ih h3
   exact ⟨_ :: us1, v, us2, rfl, .cons h1 h2 k1, k2, k3⟩
end
end Go.AM
namespace Go.AM
section
variable {P : Program} {c c' : Ctx} {w : World}
end
end Go.AM
namespace Go.AM
section
variable {P : Program}
end
end Go.AM
namespace Go.AM
section
variable {P : Program} {F : Fence} {n : Nat} {o : Oper} {a : Act} {w : World}
end
def Vw (P : Program) (h : List AObj) (x x1 : AV) : Prop :=
 x1 = x.weak ∨ ∃ id off len cap ty cs ag sz, x = .arr id off len cap ∧ h[id]? = some (.cells ty cs) ∧ tyI P ty = some (ag, sz) ∧ 0 < sz ∧ (ag = true ∨ sz = 1) ∧ off + len * sz ≤ cs.length ∧ AV.koneL (cs.take (off + len * sz)) = true ∧ AV.rfL (cs.take (off + len * sz)) = true ∧
  x1 = .lst .any sz (chunk ag sz len ((AV.weakL (cs.take (off + len * sz))).drop off))
section
variable {P : Program}
end
end Go.AM
namespace Go.AM
section
variable {P : Program}
end
end Go.AM
namespace Go.AM
inductive VwD (P : Program) (h : List AObj) : AV → AV → Prop
 | base {x x1 : AV} (hv : Vw P h x x1) : VwD P h x x1
 | row {id len cap sz : Nat} {ag : Bool} {ty : TypeId} {cs ys : List AV} (zs : Nat → AV) (hid : h[id]? = some (.cells ty cs)) (hsz : 0 < sz) (hag : ag = true ∨ sz = 1) (hle : len * sz ≤ cs.length) (hyl : ys.length = len * sz)
   (hk : AV.koneL ys = true) (hrf : AV.rfL ys = true) (hz : ∀ (k : Nat) (y : AV), ys[k]? = some y → cs[k]? = some (zs k)) (hv : ∀ (k : Nat) (y : AV), ys[k]? = some y → VwD P h (zs k) y) :
   VwD P h (.arr id 0 len cap) (.lst .any sz (chunk ag sz len ys))
section
variable {P : Program}
end
end Go.AM
namespace Go.AM
section
variable {P : Program}
end
end Go.AM
namespace Go.AM
section
variable {P : Program}
def AnyT (kf : Nat) (P : Program) (ops : Array Oper) (Q : Exit → St → Prop) (fuel : Nat) (listed : Array Bool) (s : St) : Prop :=
 ∀ (F : Fence) (n : Nat) (c0 : Ctx) (w0 : World) (c : Ctx) (w : World) (a : Act), Good F → F.round = none → kf ≤ c0.no → Ext c0 w0 c w → SimSt P c w s a →
  wpAnyIn F n P .any ops (fun e a' w' => e = .normal ∧ ∃ s' c', Q e s' ∧ SimSt P c' w' s' a' ∧ ExtK kf c0 w0 c' w') fuel listed a w
theorem W_anyT {kf : Nat} {id : Nat} {ops : Array Oper} {Q : Exit → St → Prop} {s : St} (hm : P.follows .mixedOrders = true) (h : AnyT kf P ops Q ops.size (Array.replicate ops.size false) s) : Wt true kf P (.region id ops true) Q s := by
 intro F n c w a hF hs
 refine wpIn_region_any hm ?_
 exact xm9 (fun e a w h => h.2) _ _ _ _ (h F n c w c w.drew a hF.1 (hF.2.1 rfl) hF.2.2 (xj9 c w) hs.drew)
def Gives (P : Program) (ops : Array Oper) (o : Oper) (s : St) (x : AV) : Prop := ∀ (c : Ctx) (w : World) (a : Act), SimSt P c w s a → ∃ u, YieldsFenced P ops o u a ∧ Rep c w x u ∧ Own P c w x u
def takeB (ops : Array Oper) (listed : Array Bool) (i : Nat) : Bool := Region.noSelect ops && Region.free .any ops listed i && (Region.ready .any ops listed).contains i
theorem zm9 {kf fuel : Nat} {ops : Array Oper} {Q : Exit → St → Prop} {listed : Array Bool} {s s' : St} (i : Nat) {o : Oper} {x : AV} (ho : ops[i]? = some o) (hb : takeB ops listed i = true) (hg : Gives P ops o s x) (hp : s.put o.dst x = some s')
  (h : AnyT kf P ops Q fuel (listed.setIfInBounds i true) s') : AnyT kf P ops Q (fuel + 1) listed s := by
 intro F n c0 w0 c w a hF hro hk he hs
 simp only [takeB, Bool.and_eq_true] at hb
 obtain ⟨u, hy, hr, hown⟩ := hg c w a hs
 exact wpAnyIn_take hro ho hb.1.1 hb.1.2 hb.2 (fun c a w hq => by cases hq.1) hy (h F n c0 w0 c w (a.put o.dst u) hF hro hk he (hs.put hp hr hown))
theorem wj9 {kf fuel : Nat} {ops : Array Oper} {Q : Exit → St → Prop} {listed : Array Bool} {s : St} (rs : List Nat) (hr : Region.ready .any ops listed = rs) (hne : rs ≠ [])
  (h : ∀ i ∈ rs, ∃ o, ops[i]? = some o ∧ xl8 P ops.toList o s fun s' => AnyT kf P ops Q fuel (listed.setIfInBounds i true) s') : AnyT kf P ops Q (fuel + 1) listed s := by
 intro F n c0 w0 c w a hF hro hk he hs
 refine ⟨fun h0 => absurd (hr ▸ h0) hne, fun i hi => ?_⟩
 obtain ⟨o, ho, hst⟩ := h i (hr ▸ hi)
 unfold wpOpIn
 simp only [ho]
 refine zh7 (K' := fun s' => AnyT kf P ops Q fuel (listed.setIfInBounds i true) s') hF hs ho hst ?_
 intro s' a' c' w' hK hs' he'
 exact hK F n c0 w0 c' w' a' hF hro hk (he.trans he') hs'
theorem ym8 {kf : Nat} {ops : Array Oper} {Q : Exit → St → Prop} {listed : Array Bool} {s : St} (hr : Region.ready .any ops listed = []) (h : Q .normal s) : AnyT kf P ops Q 0 listed s := by
 intro F n c0 w0 c w a hF hro hk he hs
 exact ⟨hr, rfl, s, c, h, hs, he.toK hk⟩
theorem wn9 {ops : Array Oper} {o : Oper} {s : St} {x : AV} (k : Nat) (hop : o.op = .move (.tmp k)) (hgd : o.guard = none) (hx : getF s.fr k = some x) : Gives P ops o s x := by
 intro c w a hs
 obtain ⟨u, hu, hr, ho⟩ := hs.fr k x hx
 have hev : a.eval (.tmp k) = u := by simp [Act.eval, hu]
 exact ⟨u, ⟨.inl ⟨by simp [Region.wanted, hgd], fun w => by simp only [execOp, hop, hev]; rfl⟩, fun w => by simp only [Oper.about, hop]⟩, hr, ho⟩
end
end Go.AM
namespace Go.AM
section
variable {P : Program}
theorem xn9 {ops : Array Oper} {o : Oper} {s : St} {xs : List AV} {i : Nat} {z : AV} (k : Nat) (hop : o.op = .extract (.tmp k) i) (hgd : o.guard = none) (hx : getF s.fr k = some (.tup xs)) (hz : xs[i]? = some z) : Gives P ops o s z := by
 intro c w a hs
 obtain ⟨u, hu, hr, ho⟩ := hs.fr k _ hx
 obtain ⟨vs, rfl, hl, hrr⟩ := tup_inv hr
 have hlt : i < vs.size := by rw [← hl]; exact (List.getElem?_eq_some_iff.1 hz).1
 have e : vs.getD i undef = vs[i] := by simp [Array.getD, hlt]
 have hev : a.eval (.tmp k) = .tuple vs := by simp [Act.eval, hu]
 refine ⟨vs[i], ⟨.inl ⟨by simp [Region.wanted, hgd], fun w2 => ?_⟩, fun w => by simp only [Oper.about, hop]⟩, e ▸ hrr i z hz, e ▸ own_tup ho i z hz⟩
 simp only [execOp, hop, hev]
 simp [Instr.extract, hlt]
end
end Go.AM
namespace Go.AM
section
variable {P : Program}
theorem fenced_good {F : Fence} (hF : Good F) (m : Machine) : m.fenced P F := by
 intro g _
 refine ⟨fun h => ?_, .inl (hF.1 _), fun f _ => hF.1 f, fun d hd => ?_⟩
 ·rw [hF.2.2] at h; cases h
 ·rw [hF.2.1] at hd; cases hd
theorem xc9 {F : Fence} {n : Nat} {f : FuncId} {args : Array Value} {w : World} {R : Ending → World → Prop} (hF : Good F) (h : Calls P f args w R) : CallsIn F n P f args w R := by
 refine ⟨hF.1 f, fun cs _ => ?_⟩
 obtain ⟨e, w', fr, r, s, x⟩ := h cs
 refine ⟨e, w', fr, r, ?_, x⟩
 cases e with
 | returned v => exact (StepsIn.of_steps s).mono fun m _ => fenced_good hF m
 | panicked ch => exact (StepsIn.of_steps s).mono fun m _ => fenced_good hF m
 | outgrown => exact s
theorem repL_vs {c : Ctx} {w : World} : ∀ {us vals : List Value}, RepL P c w (us.map .v) vals → vals = us
 | [], _, h => by cases h; rfl
 | u :: us, _, h => by
  cases h with
  | cons h1 h2 h3 => rw [h1.v_inv, repL_vs h3]
theorem sound_of_calls {f : FuncId} {us : List Value} {u : Value} (hc : Callable P f) (h : ∀ w, Calls P f us.toArray w fun e w' => e = .returned u ∧ ∃ n : Nat, w' = { w with drawn := w.drawn + n }) : Sound P f (us.map .v) (.v u) := by
 refine ⟨hc, fun F n c w vals T hF hro hT hb ra => ?_⟩
 rw [repL_vs ra]
 refine (xc9 hF (h w)).mono ?_
 rintro e w' ⟨rfl, k, rfl⟩
 exact ⟨u, c, rfl, ⟨rfl, rfl, rfl, rfl, rfl, rfl, Nat.le_refl _, fun _ _ => rfl, fun _ _ => rfl, fun _ _ => rfl⟩, .v u, .none rfl⟩
end
end Go.AM
namespace Go.AM
section
variable {P : Program}
def StepW (P : Program) (o : Oper) (s : St) (K : St → Prop) : Prop := (∀ c, o.op ≠ .defer c) ∧ ∀ (c : Ctx) (w : World) (a : Act), SimSt P c w s a →
 ∃ u w' c' s', (execOp a.eval o).run P w = .ok (.value u) w' ∧ Ext c w c' w' ∧ SimSt P c' w' s' (a.put o.dst u) ∧ K s'
def stepG (P : Program) (ops : List Oper) (o : Oper) (s : St) (K : St → Prop) : Prop := xl8 P ops o s K ∨ (o.guard = none ∧ StepW P o s K)
def runG (P : Program) (ops : List Oper) : List Oper → St → (St → Prop) → Prop
 | [], s, K => K s
 | o :: l, s, K => stepG P ops o s fun s' => runG P ops l s' K
variable {F : Fence} {n : Nat} {s : St} {a : Act} {o : Oper} {K : Act → World → Prop} {Q : Exit → Act → World → Prop} {c : Ctx} {w : World}
theorem stepG_wp {ops : Array Oper} {i : Nat} {K' : St → Prop} (hF : Good F) (hs : SimSt P c w s a) (ho : ops[i]? = some o) (h : stepG P ops.toList o s K')
  (hk : ∀ s' a' c' w', K' s' → SimSt P c' w' s' a' → Ext c w c' w' → K a' w') :
  if Region.wanted o (yielded ops a.tmps) then o.wpIn F n P a w K Q else (∀ f, o.about P w a.eval = some f → F.fn f) ∧ K (a.put o.dst undef) w := by
 rcases h with h | ⟨hg, hnd, h⟩
 ·exact zh7 hF hs ho h hk
 ·rw [if_pos (by simp [Region.wanted, hg])]
  refine ⟨fun f _ => hF.1 f, ?_⟩
  obtain ⟨u, w', c', s', h1, h2, h3, h4⟩ := h c w a hs
  rw [Oper.semAt_eq _ _ _ hnd, h1]
  exact hk _ _ _ _ h4 h3 h2
theorem runG_wp {ops : Array Oper} (hF : Good F) : ∀ (m k : Nat) (s : St) (c : Ctx) (w : World) (a : Act) (K' : St → Prop), ops.size = k + m → SimSt P c w s a → runG P ops.toList (ops.toList.drop k) s K' →
  wpOpsIn F n P ops (fun e a' w' => ∃ s' c', yp9 K' (fun _ _ => False) e s' ∧ SimSt P c' w' s' a' ∧ Ext c w c' w') (List.range' k m) a w := by
 intro m
 induction m with
 | zero =>
  intro k s c w a K' hk hs h
  have : ops.toList.drop k = [] := by rw [List.drop_eq_nil_iff]; simp; omega
  rw [this] at h
  exact ⟨s, c, h, hs, Ext.refl c w⟩
 | succ m ih =>
  intro k s c w a K' hk hs h
  have hlt : k < ops.toList.length := by simp; omega
  rw [List.drop_eq_getElem_cons hlt] at h
  have ho : ops[k]? = some (ops.toList[k]) := by rw [← Array.getElem?_toList]; exact List.getElem?_eq_getElem hlt
  simp only [List.range'_succ, wpOpsIn, ho]
  refine stepG_wp (K' := fun s' => runG P ops.toList (ops.toList.drop (k + 1)) s' K') hF hs ho h ?_
  intro s' a' c' w' hK hs' he
  have := ih (k + 1) s' c' w' a' K' (by omega) hs' hK
  refine xv8 ?_ _ _ _ this
  rintro e a2 w2 ⟨s2, c2, q, hs2, he2⟩
  exact ⟨s2, c2, q, hs2, he.trans he2⟩
theorem W_regionG {top : Bool} {kf : Nat} {id : Nat} {ops : Array Oper} {Q : Exit → St → Prop} {s : St} (h : runG P ops.toList ops.toList s (fun s' => Q .normal s')) : Wt top kf P (.region id ops false) Q s := by
 intro F n c w a hF hs
 refine wpIn_region ?_
 rw [List.range_eq_range']
 refine xv8 ?_ _ _ _ (runG_wp hF.1 ops.size 0 s c w a _ (by omega) hs (by simpa using h))
 rintro e a2 w2 ⟨s2, c2, q, hs2, he2⟩
 cases e with
 | normal => exact ⟨s2, c2, q, hs2, he2.toK hF.2.2⟩
 | _ => exact q.elim
theorem W_rGK {top : Bool} {kf : Nat} {id : Nat} {ops : Array Oper} {y : Code} {Q : Exit → St → Prop} {s : St} (ks : List Nat) (h : runG P ops.toList ops.toList s fun s3 => Wt top kf P y Q (keepS ks s3)) :
  Wt top kf P (.seq (.region id ops false) y) Q s := yk9 (wk9 ks (W_regionG h))
theorem runG_A {ops : List Oper} {K : St → Prop} : ∀ (m : Nat) (l : List Oper) (s : St), runA P ops (l.take m) s (fun s1 => runG P ops (l.drop m) s1 K) → runG P ops l s K
 | 0, l, s, h => by simpa [runA] using h
 | m + 1, [], s, h => by simpa [runA] using h
 | m + 1, o :: l, s, h => by
  simp only [List.take_succ_cons, List.drop_succ_cons, runA] at h
  refine .inl ?_
  refine stepA_mono ?_ h
  intro s1 h1
  exact runG_A m l s1 h1
theorem runG_W {ops : List Oper} {K : St → Prop} {o : Oper} {l : List Oper} {s : St} (hg : o.guard = none) (h : StepW P o s fun s' => runG P ops l s' K) : runG P ops (o :: l) s K := .inr ⟨hg, h⟩
theorem digits_one : ∀ (n t : Nat) (acc : Array Value), (∀ j, j < acc.size → (acc.getD j undef).oneCell' = true) → ∀ j, j < acc.size + n → ((Extern.BytealgMakeNoZero.digits n t acc).getD j undef).oneCell' = true
 | 0, t, acc, h, j, hj => by rw [Extern.BytealgMakeNoZero.digits]; exact h j (by omega)
 | n + 1, t, acc, h, j, hj => by
  rw [Extern.BytealgMakeNoZero.digits]
  refine digits_one n _ _ (fun i hi => ?_) j (by simp; omega)
  simp only [Array.size_push] at hi
  rw [Array.getD_eq_getD_getElem?, Array.getElem?_push]
  split
  ·rfl
  ·rw [← Array.getD_eq_getD_getElem?]
   exact h i (by omega)
theorem run_makeNoZero' (w : World) (ps : Array TypeId) (t e : TypeId) (ht : P.underlying t = some (.slice e)) (n : Nat) (hn : n ≤ 281474976710656) :
  ∃ cs : Array Value, (Extern.BytealgMakeNoZero.makeNoZero ps #[t] #[.int .i64 n]).run P w = .ok (.slice (some ⟨w.heap.size, 0, none⟩) n cs.size) (w.drew.drew.alloc (.cells cs e)) ∧ n ≤ cs.size ∧ (n ≤ maxLen → cs.size ≤ maxLen) ∧
   ∀ j, j < cs.size → (cs.getD j undef).oneCell' = true := by
 have h1 : ¬ (n : Int) < 0 := by omega
 have h2 : ¬ (281474976710656 : Int) < (n : Int) := by omega
 have key : ∃ tp : Nat, (Extern.BytealgMakeNoZero.makeNoZero ps #[t] #[.int .i64 n]).run P w = .ok (.slice (some ⟨w.heap.size, 0, none⟩) n (grownCap w n 0 e)) (w.drew.drew.alloc (.cells (Extern.BytealgMakeNoZero.digits (grownCap w n 0 e) tp #[]) e)) := by
  apply Exists.intro
  show (underlying t >>= _ : Sem Value).run P w = _
  simp [run_underlying ht, h1, h2, Question.forced, newRow, grownCap]
  rfl
 obtain ⟨tp, key⟩ := key
 refine ⟨Extern.BytealgMakeNoZero.digits (grownCap w n 0 e) tp #[], ?_, ?_, ?_, ?_⟩
 ·rw [key, Lib.size_digits]
  simp
 ·rw [Lib.size_digits]
  simpa using grownCap_ge w n 0 e
 ·intro hm
  rw [Lib.size_digits]
  simpa using grownCap_le_maxLen w n 0 e hm
 ·intro j hj
  rw [Lib.size_digits] at hj
  exact digits_one _ _ _ (fun i hi => by simp at hi) j hj
theorem stepW_makeNoZero {o : Oper} {cl : Call} {s : St} {K : St → Prop} {f : FuncId} {fn : Func} {ps : Array TypeId} {k n : Nat} {t e : TypeId} (ho : o.op = .call cl) (hc : yb9 s cl.callee = some (f, [], [])) (ha : cl.args = #[.tmp k]) (hf : P.funcs[f]? = some fn)
  (hname : (fn.name == "runtime.NumGoroutine") = false) (hb : fn.body.isNone = true) (hn' : Extern.findNext fn = none) (he : Extern.find fn = some (Extern.BytealgMakeNoZero.makeNoZero ps #[t])) (ht : P.underlying t = some (.slice e))
  (hx : getF s.fr k = some (.v (.int .i64 (n : Nat)))) (hn : n ≤ 100000000)
  (hK : ∀ cap, n ≤ cap → cap ≤ maxLen → ∃ s', (⟨s.n, s.fr, s.h ++ [.cells e (List.replicate cap .any)]⟩ : St).put o.dst (.arr s.h.length 0 n cap) = some s' ∧ K s') : StepW P o s K := by
 refine ⟨by simp [ho], fun c w a hs => ?_⟩
 obtain ⟨fo, v1, v2, hfo, hev, rl1, rl2⟩ := zf8 hs hc
 have e1 : v1.toList = [] := List.eq_nil_of_length_eq_zero (by rw [← rl1.length]; rfl)
 have e2 : v2.toList = [] := List.eq_nil_of_length_eq_zero (by rw [← rl2.length]; rfl)
 have hv1 : v1 = #[] := by apply Array.ext'; simpa using e1
 have hv2 : v2 = #[] := by apply Array.ext'; simpa using e2
 obtain ⟨u, hu, hr, _⟩ := hs.fr k _ hx
 have hu2 := hr.v_inv
 subst hu2
 have hak : a.eval (.tmp k) = .int .i64 (n : Nat) := by simp [Act.eval, hu]
 obtain ⟨cs, hrun, hle, hmx, hone⟩ := run_makeNoZero' (P := P) w ps t e ht n (by omega)
 have hmx' := hmx (by simp only [maxLen]; omega)
 obtain ⟨s', hp, hk⟩ := hK cs.size hle hmx'
 have hs2 : SimSt P c w.drew.drew s a := hs.drew.drew
 have hs3 := hs2.obj (ty := e) (cs := List.replicate cs.size .any) (cur := cs) (by simp) (fun j y hj => by
  have := List.getElem?_replicate (n := cs.size) (a := AV.any) (i := j)
  rw [this] at hj
  split at hj
  ·cases hj
   rename_i hj2
   exact ⟨.any _, .none rfl, hone j hj2⟩
  ·cases hj)
 refine ⟨.slice (some ⟨w.heap.size, 0, none⟩) n cs.size, _, _, s', ?_, (xj9 c w).trans ((xj9 c w.drew).trans (yl8 c w.drew.drew (.cells cs e) hs2.base)), hs3.put hp ?_ (.none rfl), hk⟩
 ·unfold execOp
  simp only [ho, resolve, hfo, Sem.run_bind, hev, Deferred.ofValue, Sem.run_pure, Result.andThen_ok, invoke, ha, hv1, hv2]
  rw [show (#[] ++ Array.map a.eval #[Operand.tmp k] ++ #[] : Array Value) = #[.int .i64 (n : Nat)] by simp [hak]]
  rw [run_callFunc_extern hf hname hb hn' he, hrun]
  rfl
 ·have h1 : s.h.length < (c.newO w.heap.size).no := by simp only [Ctx.newO]; rw [hs.h.no]; omega
  have h2 : (c.newO w.heap.size).ob s.h.length = w.heap.size := by simp only [Ctx.newO]; rw [if_pos hs.h.no.symm]
  have := Rep.arr (c := c.newO w.heap.size) (w := w.drew.drew.alloc (.cells cs e)) (off := 0) (len := n) (cap := cs.size) h1 hle hmx'
  rw [h2] at this
  exact this
theorem stepW_slice3 {o : Oper} {s : St} {K : St → Prop} {t e sz id off len cap k1 k2 k3 n m : Nat} {ag : Bool} (ho : o.op = .slice t (.tmp k1) none (some (.tmp k2)) (some (.tmp k3))) (hsl : slI P t = some (e, ag, sz))
  (h1 : getF s.fr k1 = some (.arr id off len cap)) (h2 : getF s.fr k2 = some (.v (.int .i64 (n : Nat)))) (h3 : getF s.fr k3 = some (.v (.int .i64 (m : Nat)))) (hm : m ≤ cap) (hn : n ≤ m) (hm0 : 0 < m)
  (hK : ∃ s', s.put o.dst (.arr id off n m) = some s' ∧ K s') : StepW P o s K := by
 refine ⟨by simp [ho], fun c w a hs => ?_⟩
 obtain ⟨s', hp, hk⟩ := hK
 obtain ⟨u, hu, hr, _⟩ := hs.fr k1 _ h1
 obtain ⟨u2, hu2, hr2, _⟩ := hs.fr k2 _ h2
 obtain ⟨u3, hu3, hr3, _⟩ := hs.fr k3 _ h3
 have q2 := hr2.v_inv
 have q3 := hr3.v_inv
 subst q2 q3
 have e1 : a.eval (.tmp k2) = .int .i64 (n : Nat) := by simp [Act.eval, hu2]
 have e2 : a.eval (.tmp k3) = .int .i64 (m : Nat) := by simp [Act.eval, hu3]
 have e0 : a.eval (.tmp k1) = u := by simp [Act.eval, hu]
 obtain ⟨hu', hty⟩ := xt9 hsl
 cases hr with
 | arr hid hlen hmax =>
  refine ⟨.slice (some ⟨c.ob id, off, none⟩) n m, w, c, s', ?_, Ext.refl c w, hs.put hp (.arr hid hn (by omega)) (.none rfl), hk⟩
  have hsz := zn9 (P := P) (w := w) hty
  simp only [execOp, ho, Option.map_none, Option.map_some, e0, e1, e2]
  have g1 : ¬ (m : Int) ≤ 0 := by omega
  have g2 : max (m : Int) 0 = m := by omega
  simp [Instr.sliceAt, run_underlying hu', Instr.slice, hsz, Instr.sliceBounds, Instr.sliceBound, asIntOf, Sem.run, hm, hn, g1, g2, Addr.add]
theorem copyRow_sound {t t2 ty e sz id off len cap m : Nat} {ag : Bool} {yc cs : List AV} {u v : Value} {s : St} (hs : SimSt P c w s a) (hsl : slI P t = some (e, ag, sz))
  (hsz : 0 < sz) (hobj : s.h[id]? = some (.cells e cs)) (hcs : off + len * sz ≤ cs.length) (rx : Rep c w (.arr id off len cap) u)
  (ry : Row P c w m sz yc v) :
  ∃ w', (Builtin.copy_ #[t, t2] ty #[u, v]).run P w = .ok (goInt (min m len : Nat)) w' ∧ Ext c w c w' ∧ SimSt P c w' { s with h := s.h.set id (.cells e (yf9 cs off (yc.take (min m len * sz)))) } a := by
 obtain ⟨ht, hty⟩ := xt9 hsl
 obtain ⟨hm, b, cc, uy, rfl, hmc, hzy, hcy, hryy⟩ := ry
 have hid : id < c.no := by rw [hs.h.no]; exact (List.getElem?_eq_some_iff.1 hobj).1
 obtain ⟨_, _, _, cur, hcur, hl, hcsr⟩ := hs.h.obj id _ hobj
 have hle : min m len * sz ≤ len * sz := Nat.mul_le_mul_right _ (Nat.min_le_right _ _)
 have hle2 : min m len * sz ≤ m * sz := Nat.mul_le_mul_right _ (Nat.min_le_left _ _)
 have hycl : (yc.take (min m len * sz)).length = min m len * sz := by rw [List.length_take, hm]; omega
 have hfit : off + (yc.take (min m len * sz)).length ≤ cs.length := by rw [hycl]; omega
 cases rx with
 | arr _ hlen hmax =>
  have hfc : (Builtin.firstCells sz (min m len) (.slice b m cc)).run P w = .ok ((List.range (min m len * sz)).map uy).toArray w := by
   cases b with
   | none =>
    have h0 : m = 0 := hzy rfl
    rw [run_firstCells_none]
    simp [h0]
   | some ad => exact run_firstCells_some (P := P) w sz (min m len) ad m cc ((List.range (min m len * sz)).map uy) (by simp) (fun j v hj => by
     obtain ⟨h1, rfl⟩ := wd9 _ _ _ _ hj
     exact (hcy ad j rfl (by omega)).1)
  have hone : ∀ v ∈ (List.range (min m len * sz)).map uy, v.oneCell' = true := by
   intro v hv
   obtain ⟨k, hk, rfl⟩ := List.mem_map.1 hv
   have hk' : k < min m len * sz := by simpa using hk
   cases b with
   | none => have := hzy rfl; simp [this] at hk'
   | some ad => exact (hcy ad k rfl (by omega)).2
  have hnC : ∀ j y, (yc.take (min m len * sz))[j]? = some y → Rep c w y (((List.range (min m len * sz)).map uy).getD j undef) ∧ Own P c w y (((List.range (min m len * sz)).map uy).getD j undef) ∧ (((List.range (min m len * sz)).map uy).getD j undef).oneCell' = true := by
   intro j y hj
   have hjl : j < min m len * sz := by rw [← hycl]; exact (List.getElem?_eq_some_iff.1 hj).1
   have e1 : ((List.range (min m len * sz)).map uy).getD j undef = uy j := by simp [List.getD_eq_getElem?_getD, hjl]
   rw [e1]
   rw [List.getElem?_take, if_pos hjl] at hj
   exact ⟨(hryy j y hj).1, (hryy j y hj).2, hone _ (List.mem_map.2 ⟨j, by simpa using hjl, rfl⟩)⟩
  have hC := cells_seg (P := P) (c := c) (w := w) (cs := cs) (ys := yc.take (min m len * sz)) (cur := cur) (off := off) (news := (List.range (min m len * sz)).map uy) ⟨hl, hcsr⟩ (by simp [hycl]) hfit hnC
  have hst := run_storeCells_at P (c.ob id) off e ((List.range (min m len * sz)).map uy) 0 cur w hcur (by simp; omega) hone
  simp only [Nat.add_zero] at hst
  have hsz2 : ((cur.toList.take off ++ (List.range (min m len * sz)).map uy ++ cur.toList.drop (off + ((List.range (min m len * sz)).map uy).length)).toArray).size = cur.size := by
   have := hC.1
   rw [xv9 _ _ _ hfit] at this
   rw [← this, hl]
  obtain ⟨he, hs'⟩ := hs.setObj hobj hcur hsz2 hC
  refine ⟨_, ?_, he, hs'⟩
  have hlo : (Builtin.lenOf (.slice b m cc)).run P w = .ok m w := rfl
  have h1 : #[t, t2][0]? = some t := rfl
  simp only [Builtin.copy_, Sem.run_bind, run_underlying ht, Result.andThen_ok, hlo, zn9 w hty, Sem.run_pure, List.getElem?_toArray, List.getElem?_cons_zero, List.getElem?_cons_succ]
  have e2 : Nat.min m len = min m len := rfl
  rw [e2, hfc]
  simp only [Result.andThen_ok, hst, Sem.run_bind, Sem.run_pure]
theorem stepW_copy {o : Oper} {cl : Call} {s : St} {K : St → Prop} {xo yo : Operand} {t t' e sz id off len cap m : Nat} {ag : Bool} {cs yc : List AV} (ho : o.op = .call cl) (hc : cl.callee = .builtin .copy) (ha : cl.args.toList = [xo, yo]) (hty : cl.argTypes.toList = [t, t'])
  (h1 : s.evT P t xo = some (.arr id off len cap)) (h2 : srcA P s t' yo sz = some (m, yc)) (hsl : slI P t = some (e, ag, sz)) (hsz : 0 < sz) (hobj : s.h[id]? = some (.cells e cs)) (hcs : off + len * sz ≤ cs.length)
  (hK : ∃ s', ({ s with h := s.h.set id (.cells e (yf9 cs off (yc.take (min m len * sz)))) } : St).put o.dst (.v (goInt (min m len : Nat))) = some s' ∧ K s') : StepW P o s K := by
 refine ⟨by simp [ho], fun c w a hs => ?_⟩
 obtain ⟨s', hp, hk⟩ := hK
 have hargs : cl.args = #[xo, yo] := by rw [← Array.toArray_toList (xs := cl.args), ha]
 have htys : cl.argTypes = #[t, t'] := by rw [← Array.toArray_toList (xs := cl.argTypes), hty]
 have hrun : (execOp a.eval o).run P w = ((Builtin.copy_ #[t, t'] o.type #[a.eval xo, a.eval yo]).run P w).andThen fun v w => .ok (.value v) w := by
  unfold execOp
  simp only [ho, resolve, hc, hargs, htys, invoke, builtin, Sem.run_bind, Sem.run_pure, Result.andThen_ok, List.map_toArray, List.map_cons, List.map_nil]
 obtain ⟨w', r1, r2, r3⟩ := copyRow_sound (ty := o.type) (t2 := t') hs hsl hsz hobj hcs (hs.evT h1).1 (srcA_sound hs hsz h2)
 exact ⟨_, _, _, s', by rw [hrun, r1]; rfl, r2, r3.put hp (.v _) (.none rfl), hk⟩
theorem anyT_allG {kf fuel : Nat} {ops : Array Oper} {Q : Exit → St → Prop} {listed : Array Bool} {s : St} (rs : List Nat) (hr : Region.ready .any ops listed = rs) (hne : rs ≠ [])
  (h : ∀ i ∈ rs, ∃ o, ops[i]? = some o ∧ stepG P ops.toList o s fun s' => AnyT kf P ops Q fuel (listed.setIfInBounds i true) s') : AnyT kf P ops Q (fuel + 1) listed s := by
 intro F n c0 w0 c w a hF hro hk he hs
 refine ⟨fun h0 => absurd (hr ▸ h0) hne, fun i hi => ?_⟩
 obtain ⟨o, ho, hst⟩ := h i (hr ▸ hi)
 unfold wpOpIn
 simp only [ho]
 refine stepG_wp (K' := fun s' => AnyT kf P ops Q fuel (listed.setIfInBounds i true) s') hF hs ho hst ?_
 intro s' a' c' w' hK hs' he'
 exact hK F n c0 w0 c' w' a' hF hro hk (he.trans he') hs'
theorem gives_arrLo {ops : Array Oper} {o : Oper} {s : St} {t e sz id off len cap m : Nat} {ag : Bool} {z : AV} (k1 k2 : Nat) (hop : o.op = .slice t (.tmp k1) (some (.tmp k2)) none none) (hgd : o.guard = none)
  (hsl : slI P t = some (e, ag, sz)) (hk : kdI P t = some .sl) (h1 : getF s.fr k1 = some (.arr id off len cap)) (h2 : getF s.fr k2 = some (.v (.int .i64 (m : Nat)))) (hz : wg8 P t (.arr id off len cap) (some (.v (.int .i64 (m : Nat)))) none = some z) : Gives P ops o s z := by
 intro c w a hs
 obtain ⟨u, hu, hr, ho⟩ := hs.fr k1 _ h1
 obtain ⟨v, hv, hrv, _⟩ := hs.fr k2 _ h2
 have hv' := hrv.v_inv
 subst hv'
 have e1 : a.eval (.tmp k1) = u := by simp [Act.eval, hu]
 have e2 : a.eval (.tmp k2) = .int .i64 (m : Nat) := by simp [Act.eval, hv]
 obtain ⟨r, hrun, hrr, htl⟩ := yg7 hz hr (vl := some (.int .i64 (m : Nat))) (vh := none) (.some (.v _)) .none
 have hall : ∀ w2, (Instr.sliceAt t u (some (.int .i64 (m : Nat))) none none).run P w2 = .ok r w2 := by
  intro w2
  unfold wg8 at hz
  rw [hk] at hz
  simp only [hsl] at hz
  obtain ⟨hh, g1, hz⟩ := Option.bind_eq_some_iff.1 hz
  obtain ⟨l, g2, hz⟩ := Option.bind_eq_some_iff.1 hz
  obtain ⟨hu', hty⟩ := xt9 hsl
  cases hr with
  | arr hid hlen hmax =>
   have hb : ∀ w3 : World, _ := fun w3 => yn8 (P := P) (c := c) (w := w3) true g1 g2 (Nat.le_refl _) .none (.some (.v _))
   simp only [Instr.sliceAt, Sem.run_bind, run_underlying hu', Result.andThen_ok, Instr.slice, hb, zn9 _ hty, Sem.run_pure] at hrun ⊢
   cases hrun
   rfl
 refine ⟨r, ⟨.inl ⟨by simp [Region.wanted, hgd], fun w2 => ?_⟩, fun w => by simp only [Oper.about, hop]⟩, hrr, .none htl⟩
 simp only [execOp, hop, Option.map_none, Option.map_some, e1, e2]
 simp [hall w2]
theorem gives_arrHi {ops : Array Oper} {o : Oper} {s : St} {t e sz id off len cap m : Nat} {ag : Bool} {z : AV} (k1 k2 : Nat) (hop : o.op = .slice t (.tmp k1) none (some (.tmp k2)) none) (hgd : o.guard = none)
  (hsl : slI P t = some (e, ag, sz)) (hk : kdI P t = some .sl) (h1 : getF s.fr k1 = some (.arr id off len cap)) (h2 : getF s.fr k2 = some (.v (.int .i64 (m : Nat)))) (hz : wg8 P t (.arr id off len cap) none (some (.v (.int .i64 (m : Nat)))) = some z) : Gives P ops o s z := by
 intro c w a hs
 obtain ⟨u, hu, hr, ho⟩ := hs.fr k1 _ h1
 obtain ⟨v, hv, hrv, _⟩ := hs.fr k2 _ h2
 have hv' := hrv.v_inv
 subst hv'
 have e1 : a.eval (.tmp k1) = u := by simp [Act.eval, hu]
 have e2 : a.eval (.tmp k2) = .int .i64 (m : Nat) := by simp [Act.eval, hv]
 obtain ⟨r, hrun, hrr, htl⟩ := yg7 hz hr (vl := none) (vh := some (.int .i64 (m : Nat))) .none (.some (.v _))
 have hall : ∀ w2, (Instr.sliceAt t u none (some (.int .i64 (m : Nat))) none).run P w2 = .ok r w2 := by
  intro w2
  unfold wg8 at hz
  rw [hk] at hz
  simp only [hsl] at hz
  obtain ⟨hh, g1, hz⟩ := Option.bind_eq_some_iff.1 hz
  obtain ⟨l, g2, hz⟩ := Option.bind_eq_some_iff.1 hz
  obtain ⟨hu', hty⟩ := xt9 hsl
  cases hr with
  | arr hid hlen hmax =>
   have hb : ∀ w3 : World, _ := fun w3 => yn8 (P := P) (c := c) (w := w3) true g1 g2 (Nat.le_refl _) (.some (.v _)) .none
   simp only [Instr.sliceAt, Sem.run_bind, run_underlying hu', Result.andThen_ok, Instr.slice, hb, zn9 _ hty, Sem.run_pure] at hrun ⊢
   cases hrun
   rfl
 refine ⟨r, ⟨.inl ⟨by simp [Region.wanted, hgd], fun w2 => ?_⟩, fun w => by simp only [Oper.about, hop]⟩, hrr, .none htl⟩
 simp only [execOp, hop, Option.map_none, Option.map_some, e1, e2]
 simp [hall w2]
end
end Go.AM
namespace Go.AM
section
variable {P : Program}
theorem stepW_mapLen {o : Oper} {cl : Call} {s : St} {K : St → Prop} {k t : Nat} {m : AV} {d : TypeDesc} {e : TypeId} {es : List (Value × AV)} (ho : o.op = .call cl) (hc : cl.callee = .builtin .len) (ha : cl.args = #[.tmp k]) (hty : cl.argTypes = #[t])
  (hmp : mpI P t = some (d, e)) (hx : getF s.fr k = some m) (hes : mapOf s.h m = some es) (hK : ∃ s', s.put o.dst (.v (.int .i64 (es.length : Nat))) = some s' ∧ K s') : StepW P o s K := by
 refine ⟨by simp [ho], fun c w a hs => ?_⟩
 obtain ⟨s', hp, hk⟩ := hK
 obtain ⟨u, hu, hr, _⟩ := hs.fr k _ hx
 obtain ⟨kt, hun, _, _⟩ := mpI_spec hmp
 obtain ⟨r, cur, clock, rfl, hb, hl, _⟩ := mapOf_inv hs hes hr
 have hev : a.eval (.tmp k) = .map (some r) := by simp [Act.eval, hu]
 have hres : (resolve a.eval cl o.type).run P w = .ok ⟨.builtin .len cl.argTypes o.type (cl.args.map fun | .const _ => true | _ => false), #[.map (some r)]⟩ w := by
  simp [resolve, hc, ha, hev]
 refine ⟨.int .i64 (es.length : Nat), w, c, s', ?_, Ext.refl c w, hs.put hp (.v _) (.none rfl), hk⟩
 simp only [execOp, ho, Sem.run_bind, hres, Result.andThen_ok, invoke]
 simp [builtin, Builtin.len_, hty, run_underlying hun, goInt, getObj, Sem.run, hb, hl]
end
end Go.AM
namespace Go.AM
section
variable {P : Program}
def drawP (ops : Array Oper) (pre : Nat) : Bool := decide (pre ≤ ops.size) && lexS ops (preL ops pre) pre 0 (Array.replicate ops.size false) && (ops.toList.take pre).all fun o => dcls o != 9
theorem W_drawP {kf : Nat} {id : Nat} {ops : Array Oper} {Q : Exit → St → Prop} {s : St} (pre : Nat) (hm : P.follows .mixedOrders = true) (hd : drawP ops pre = true)
  (h : runD P ops.toList (ops.toList.take pre) s fun s1 => AnyT kf P ops Q (ops.size - pre) (preL ops pre) s1) : Wt true kf P (.region id ops true) Q s := by
 intro F n c w a hF hs
 simp only [drawP, Bool.and_eq_true, decide_eq_true_eq, List.all_eq_true, bne_iff_ne, ne_eq] at hd
 obtain ⟨⟨hle, hlex⟩, h9⟩ := hd
 refine wpIn_region_any hm ?_
 let R : St → Prop := fun s => ∃ t, Eqv s t ∧ AnyT kf P ops Q (ops.size - pre) (preL ops pre) t
 have hR : Closed R := fun s t h ⟨u, h1, h2⟩ => ⟨u, h.symm.trans h1, h2⟩
 have hlen : (ops.toList.take pre).length = pre := by rw [List.length_take]; simp; omega
 have hrunE : runE P ops.toList (ops.toList.take pre) s R := by
  refine yj7 (fun o ho => h9 o ho) ?_
  exact runD_mono (fun s1 h1 => ⟨s1, Eqv.refl s1, h1⟩) h
 have hany := anyS_lex (P := P) hR (fun j hj => by
   rw [Array.getD_eq_getD_getElem?, Array.getElem?_eq_none (by rw [preL_size]; exact hj)]; rfl) (ops.toList.take pre) 0 (Array.replicate ops.size false) s (fun j hj => by
   rw [Nat.zero_add, List.getElem?_take, if_pos (by omega), Array.getElem?_toList]) (fun j oj hj hl => by
   exfalso
   rcases Nat.lt_or_ge j ops.size with h' | h' <;> simp [h'] at hl) (by rw [hlen]; exact hlex) hrunE
 rw [hlen] at hany
 have := anyS_wp (n := n) (c0 := c) (w0 := w) (Qw := fun e a' w' => ∃ s' c', Q e s' ∧ SimSt P c' w' s' a' ∧ ExtK kf c w c' w') hF.1 (ops.size - pre) (R := R) (L := preL ops pre) ?_ pre _ s c w.drew a (xj9 c w) hs.drew hany
 ·have e1 : pre + (ops.size - pre) = ops.size := by omega
  rw [e1] at this
  exact this
 ·rintro s1 c1 w1 a1 he1 hs1 ⟨t, h1, h2⟩
  exact xm9 (fun e a w h => h.2) _ _ _ _ (h2 F n c w c1 w1 a1 hF.1 (hF.2.1 rfl) hF.2.2 he1 (hs1.eqv h1))
end
end Go.AM
set_option linter.unusedSimpArgs false
namespace Go.AM.HX
open Go.RowKit
section
variable (P : Program) (hb : TypeId → Bool)
def callX (ex : zq8) (f : FuncId) (args : List AV) (h : List AObj) : Option (AV × List AObj) :=
 match P.funcs[f]? with
 | some fn => match fn.body with
  | some code => if (fn.name == "runtime.NumGoroutine") = false ∧ args.length ≤ fn.ntmps then
    match ex true code ⟨fn.ntmps, numF 0 args, h⟩ with
    | some (.normal, s) | some (.ret, s) => if h.length ≤ s.h.length then (resA P s fn.results.toList).bind fun x =>
      if x.under h.length && ys9 h.length (s.h.take h.length) then some (x, s.h.take h.length) else if x.under s.h.length && ys9 s.h.length s.h then some (x, s.h) else none else none
    | _ => none
   else none
  | none => none
 | none => none
def yldX (ex : zq8) (id n : Nat) (fr : List (Nat × AV)) (as body : Code) (h : List AObj) : Option (Bool × List AObj) :=
 match ex false as ⟨n, fr, h⟩ with
 | some (.normal, s1) => match s1.h[id]? with
  | some (.loop n' fr' ps' as' body' .ready) => match ex false body ⟨s1.n, s1.fr, s1.h.set id (.loop n' fr' ps' as' body' .busy)⟩ with
   | some (e, s2) => match s2.h[id]?, endsAs e with
    | some (.loop n2 fr2 ps2 as2 body2 .busy), some (st, b) =>
     let h2 := s2.h.set id (.loop n2 fr2 ps2 as2 body2 st)
     if h.length ≤ s2.h.length then
      if ys9 h.length (h2.take h.length) then some (b, h2.take h.length) else if ys9 s2.h.length h2 then some (b, h2) else none
     else none
    | _, _ => none
   | none => none
  | _ => none
 | _ => none
def callP (ex : zq8) (f : FuncId) (args : List AV) : Option AV :=
 match P.funcs[f]? with
 | some fn => match fn.body with
  | some code => if (fn.name == "runtime.NumGoroutine") = false ∧ args.length ≤ fn.ntmps ∧ AV.rfL args = true ∧ AV.tlL args = true then
    match ex true code ⟨fn.ntmps, numF 0 args, []⟩ with
    | some (.normal, s) | some (.ret, s) => (resA P s fn.results.toList).bind fun x => (frzV P 1 s.h x).bind fun (r, _) => if r.rf then some r else none
    | _ => none
   else none
  | none => none
 | none => none
def opX (kn : KnF) (ex : zq8) (draw : Bool) (o : Oper) (s : St) : Option St :=
 match o.op with
 | .call c => match c.callee with
  | .value fo => match yb9 s c.callee with
   | some (f, l1, l2) => if c.args.size ≤ c.argTypes.size then
     (evOpts P s (c.args.toList.zip c.argTypes.toList)).bind fun xs =>
      if draw then
       (if AV.flatL xs && AV.rfL (AV.dpL (l1 ++ xs ++ l2)) then (match kn f (AV.dpL (l1 ++ xs ++ l2)) with | some r => some r | none => callP P ex f (AV.nlL (l1 ++ xs ++ l2))).bind fun r => s.put o.dst (r.norm (site o)) else none)
      else match (prep P s (site o) l1 (c.args.toList.zip c.argTypes.toList) l2).bind fun x => (kn f x.1).map fun r => (r, x.2) with
      | some (r, h') => (⟨s.n, s.fr, h'⟩ : St).put o.dst (r.norm (site o))
      | none => (callX P ex f (l1 ++ xs ++ l2) s.h).bind fun (r, h') => (⟨s.n, zr8 (AV.toksL (l1 ++ xs ++ l2) ++ yq7 s.h) s.fr, h'⟩ : St).put o.dst r
     else none
   | none => if draw then none else match s.ev fo with
     | some (.yld id) => match s.h[id]? with
      | some (.loop n fr ps as body .ready) => (evOpts P s (c.args.toList.zip c.argTypes.toList)).bind fun xs =>
        if c.args.size ≤ c.argTypes.size ∧ xs.length = ps.length ∧ (ps.all fun p => decide (p < n)) = true then
         (yldX ex id n (setF fr ps (AV.weakL xs)) as body s.h).bind fun (b, h') => (⟨s.n, zr8 (yq7 s.h) s.fr, h'⟩ : St).put o.dst (.v (.bool b))
        else none
      | _ => none
     | _ => none
  | _ => if draw && !vc9 P s o then none else evOp P o s
 | .convert _ _ _ => if draw then evOp P o s else match evSame P s o with
  | some s' => some s'
  | none => evOp P o s
 | .buildSlice t _ _ => if draw || !hb t then evOp P o s else match evSame P s o with
  | some s' => some s'
  | none => evOp P o s
 | _ => evOp P o s
def opsX (kn : KnF) (ex : zq8) (draw : Bool) (ops : List Oper) : List Oper → St → Option St
 | [], s => some s
 | o :: l, s => (match zb9 ops s o with
  | some true => match opX P hb kn ex draw o s with
   | some s' => some s'
   | none => if draw then none else if zb9 ops (frzO P s o) o = some true then opX P hb kn ex draw o (frzO P s o) else none
  | some false => s.put o.dst (.v undef)
  | none => none).bind (opsX kn ex draw ops l)
def afterX (s : St) (h : List AObj) : Option (Exit × St) :=
 match h[s.h.length]? with
 | some (.loop _ _ _ _ _ .ready) => some (.normal, ⟨s.n, s.fr, h.set s.h.length .dead⟩)
 | some (.loop _ _ _ _ _ (.done .ret)) => some (.ret, ⟨s.n, s.fr, h.set s.h.length .dead⟩)
 | some (.loop _ _ _ _ _ (.done (.exit id))) => some (.exit id, ⟨s.n, s.fr, h.set s.h.length .dead⟩)
 | some (.loop _ _ _ _ _ (.done (.goto id))) => some (.goto id, ⟨s.n, s.fr, h.set s.h.length .dead⟩)
 | _ => none
def exec (kn : KnF) : Nat → zq8
 | 0, _, _, _ => none
 | n + 1, top, c, s => match c with
  | .skip => some (.normal, s)
  | .label _ => some (.normal, s)
  | .scope x => match exec kn n top x s with
   | some (.goto _, _) => none
   | r => r
  | .ret => some (.ret, s)
  | .exit id => some (.exit id, s)
  | .seq x y => match exec kn n top x s with
   | some (.normal, s1) => exec kn n top y s1
   | r => r
  | .cond o x y => match s.ev o with
   | some (.v (.bool true)) => exec kn n top x s
   | some (.v (.bool false)) => exec kn n top y s
   | _ => none
  | .block id x => match exec kn n top x s with
   | some (.exit i, s1) => if i = id then some (.normal, s1) else some (.exit i, s1)
   | r => r
  | .loop body => match exec kn n top body s with
   | some (.normal, s1) => exec kn n top (.loop body) s1
   | r => r
  | .region _ ops draw => if draw && !drawB ops then none else match opsX P hb kn (exec kn n) draw ops.toList ops.toList s with
   | some s' => some (.normal, s')
   | none => if draw then (opsX P hb kn (exec kn n) draw ops.toList ops.toList (ops.toList.foldl (frzO P) s)).map fun s' => (.normal, s') else none
  | .rangeFunc g ps as body => if top then match yb9 s (.value g) with
    | some (f, l1, l2) => (callX P (exec kn n) f (l1 ++ [.yld s.h.length] ++ l2) (s.h ++ [.loop s.n (weakF s.fr) ps.toList as body .ready])).bind fun (_, h') =>
      afterX ⟨s.n, zr8 (AV.toksL (l1 ++ [.yld s.h.length] ++ l2) ++ yq7 (s.h ++ [.loop s.n (weakF s.fr) ps.toList as body .ready])) s.fr, s.h⟩ h'
    | none => none
   else none
  | _ => none
end
section
variable {P : Program} {hb : TypeId → Bool}
theorem xh8 {ex : zq8} (hex : ∀ top kf c s e s' Q, ex top c s = some (e, s') → Q e s' → Wt top kf P c Q s) {f : FuncId} {args : List AV} {h h' : List AObj} {r : AV} (hc : callX P ex f args h = some (r, h')) :
  xl9 P f args h fun r1 h1 => r1 = r ∧ h1 = h' := by
 unfold callX at hc
 split at hc
 ·rename_i fn hf
  split at hc
  ·rename_i code hb
   split at hc
   ·rename_i hn
    have fin : ∀ e s, (e = Exit.normal ∨ e = .ret) → ex true code ⟨fn.ntmps, numF 0 args, h⟩ = some (e, s) →
      (if h.length ≤ s.h.length then (resA P s fn.results.toList).bind fun x =>
      if x.under h.length && ys9 h.length (s.h.take h.length) then some (x, s.h.take h.length) else if x.under s.h.length && ys9 s.h.length s.h then some (x, s.h) else none else none) = some (r, h') →
      xl9 P f args h fun r1 h1 => r1 = r ∧ h1 = h' := by
     intro e s he hr hc
     split at hc
     ·rename_i hle
      obtain ⟨x, hx, hc⟩ := Option.bind_eq_some_iff.1 hc
      split at hc
      ·rename_i hu
       simp only [Option.some.injEq, Prod.mk.injEq] at hc
       obtain ⟨rfl, rfl⟩ := hc
       simp only [Bool.and_eq_true] at hu
       exact zs9 hf hb hn.1 hn.2 rfl (hex _ _ _ _ _ _ _ hr ⟨he, x, x, s.h, h.length, hx, .inl ⟨rfl, rfl⟩, Nat.le_refl _, hle, hu.1, hu.2, rfl, rfl⟩)
      ·split at hc
       ·rename_i hu
        simp only [Option.some.injEq, Prod.mk.injEq] at hc
        obtain ⟨rfl, rfl⟩ := hc
        simp only [Bool.and_eq_true] at hu
        exact zs9 hf hb hn.1 hn.2 rfl (hex _ _ _ _ _ _ _ hr ⟨he, x, x, s.h, s.h.length, hx, .inl ⟨rfl, rfl⟩, hle, Nat.le_refl _, hu.1, by rw [List.take_length]; exact hu.2, by rw [List.take_length]; exact ⟨rfl, rfl⟩⟩)
       ·cases hc
     ·cases hc
    split at hc
    ·rename_i s hr; exact fin _ s (.inl rfl) hr hc
    ·rename_i s hr; exact fin _ s (.inr rfl) hr hc
    ·cases hc
   ·cases hc
  ·cases hc
 ·cases hc
theorem yldX_sound {ex : zq8} (hex : ∀ top kf c s e s' Q, ex top c s = some (e, s') → Q e s' → Wt top kf P c Q s) {id n : Nat} {fr : List (Nat × AV)} {as body : Code} {h h' : List AObj} {b : Bool} (hc : yldX ex id n fr as body h = some (b, h')) :
  roundA P id h.length n fr as body h fun b1 h1 => b1 = b ∧ h1 = h' := by
 unfold yldX at hc
 split at hc
 ·rename_i s1 h1
  split at hc
  ·rename_i n1 fr1 ps1 as1 body1 ho1
   split at hc
   ·rename_i e s2 h2
    split at hc
    ·rename_i n2 fr2 ps2 as2 body2 st b' ho2 hends
     dsimp only at hc
     split at hc
     ·rename_i hle
      refine hex _ _ _ _ _ _ _ h1 ⟨rfl, n1, fr1, ps1, as1, body1, ho1, ?_⟩
      split at hc
      ·rename_i hu
       cases hc
       exact hex _ _ _ _ _ _ _ h2 ⟨n2, fr2, ps2, as2, body2, st, b, h.length, ho2, hends, Nat.le_refl _, hle, hu, rfl, rfl⟩
      ·split at hc
       ·rename_i hu
        cases hc
        refine hex _ _ _ _ _ _ _ h2 ⟨n2, fr2, ps2, as2, body2, st, b, s2.h.length, ho2, hends, hle, Nat.le_refl _, ?_, rfl, ?_⟩
        ·rw [List.take_of_length_le (by rw [List.length_set]; exact Nat.le_refl _)]; exact hu
        ·rw [List.take_of_length_le (by rw [List.length_set]; exact Nat.le_refl _)]
       ·cases hc
     ·cases hc
    ·cases hc
   ·cases hc
  ·cases hc
 ·cases hc
theorem xj8 {ex : zq8} (hex : ∀ top kf c s e s' Q, ex top c s = some (e, s') → Q e s' → Wt top kf P c Q s) {f : FuncId} {args : List AV} {r : AV} (hc : callP P ex f args = some r) : Sound P f args r := by
 unfold callP at hc
 split at hc
 ·rename_i fn hf
  split at hc
  ·rename_i code hb
   split at hc
   ·rename_i hn
    have fin : ∀ e s, (e = Exit.normal ∨ e = .ret) → ex true code ⟨fn.ntmps, numF 0 args, []⟩ = some (e, s) →
      ((resA P s fn.results.toList).bind fun x => (frzV P 1 s.h x).bind fun (r, _) => if r.rf then some r else none) = some r → Sound P f args r := by
     intro e s he hr hc
     obtain ⟨x, hx, hc⟩ := Option.bind_eq_some_iff.1 hc
     obtain ⟨⟨y, h1⟩, hy, hc⟩ := Option.bind_eq_some_iff.1 hc
     dsimp only at hc
     split at hc
     ·rename_i hrf
      cases hc
      exact zj9 hf hb hn.1 hn.2.1 hn.2.2.1 hn.2.2.2 rfl (hex _ _ _ _ _ _ _ hr ⟨he, x, h1, hx, hy, hrf⟩)
     ·cases hc
    split at hc
    ·rename_i s hr; exact fin _ s (.inl rfl) hr hc
    ·rename_i s hr; exact fin _ s (.inr rfl) hr hc
    ·cases hc
   ·cases hc
  ·cases hc
 ·cases hc
theorem yl7 {kn : KnF} (hkn : KnOk P kn) {ex : zq8} (hex : ∀ top kf c s e s' Q, ex top c s = some (e, s') → Q e s' → Wt top kf P c Q s) {o : Oper} {s s' : St} {K : St → Prop} (h : opX P hb kn ex false o s = some s') (hk : K s') :
  step5 P o s K := by
 unfold opX at h
 split at h
 ·rename_i c ho
  split at h
  ·rename_i fo hfo
   split at h
   ·rename_i f l1 l2 hcal
    split at h
    ·rename_i hsz
     obtain ⟨xs, hxs, h⟩ := Option.bind_eq_some_iff.1 h
     simp only [Bool.false_eq_true, if_false] at h
     split at h
     ·rename_i r h' hpr
      obtain ⟨x, hx, hpr⟩ := Option.bind_eq_some_iff.1 hpr
      obtain ⟨r', hr', he⟩ := Option.map_eq_some_iff.1 hpr
      cases he
      refine .inr (.inl ?_)
      unfold callA
      rw [ho]
      dsimp only
      rw [hcal]
      unfold prep at hx
      obtain ⟨xs, hxs, hx⟩ := Option.bind_eq_some_iff.1 hx
      obtain ⟨⟨ys, h1⟩, hys, hx⟩ := Option.bind_eq_some_iff.1 hx
      dsimp only at hx
      split at hx
      ·cases hx
       exact ⟨ys, _, r, s', by rw [hxs]; exact hys, hsz, (hkn _ _ _ hr').ofDp, h, hk⟩
      ·cases hx
     obtain ⟨⟨r, h'⟩, hr, h⟩ := Option.bind_eq_some_iff.1 h
     refine .inr (.inr (.inl ?_))
     unfold callO
     rw [ho]
     dsimp only
     rw [hcal]
     refine ⟨xs, hxs, hsz, (xh8 hex hr).mono ?_⟩
     rintro r1 h1 ⟨rfl, rfl⟩
     exact ⟨s', h, hk⟩
    ·cases h
   ·simp only [Bool.false_eq_true, if_false] at h
    split at h
    ·rename_i id hev
     split at h
     ·rename_i n fr ps as body hob
      obtain ⟨xs, hxs, h⟩ := Option.bind_eq_some_iff.1 h
      split at h
      ·rename_i hcond
       obtain ⟨⟨b, h'⟩, hy, h⟩ := Option.bind_eq_some_iff.1 h
       refine .inr (.inr (.inr (.inl ?_)))
       unfold callY
       rw [ho]
       dsimp only
       rw [hfo]
       refine ⟨id, n, fr, ps, as, body, xs, hev, hob, hxs, hcond.1, hcond.2.1, hcond.2.2, roundA_mono ?_ (yldX_sound hex hy)⟩
       rintro b1 h1 ⟨rfl, rfl⟩
       exact ⟨s', h, hk⟩
      ·cases h
     ·cases h
    ·cases h
  ·simp only [Bool.false_and, Bool.false_eq_true, if_false] at h
   exact .inl ⟨s', h, hk⟩
 ·rename_i ho
  simp only [Bool.false_eq_true, if_false] at h
  split at h
  ·rename_i s1 h1
   cases h
   refine .inr (.inr (.inr (.inr ?_)))
   unfold callB
   rw [ho]
   exact ⟨_, h1, hk⟩
  ·exact .inl ⟨s', h, hk⟩
 ·rename_i ho
  split at h
  ·exact .inl ⟨s', h, hk⟩
  ·split at h
   ·rename_i s1 h1
    cases h
    refine .inr (.inr (.inr (.inr ?_)))
    unfold callB
    rw [ho]
    exact ⟨_, h1, hk⟩
   ·exact .inl ⟨s', h, hk⟩
 ·exact .inl ⟨s', h, hk⟩
theorem opX_stepD {kn : KnF} (hkn : KnOk P kn) {ex : zq8} (hex : ∀ top kf c s e s' Q, ex top c s = some (e, s') → Q e s' → Wt top kf P c Q s) {o : Oper} {s s' : St} {K : St → Prop} (h : opX P hb kn ex true o s = some s') (hk : K s') :
  (∃ s', (if vc9 P s o then evOp P o s else none) = some s' ∧ K s') ∨ (dcls o = 3 ∧ callD P o s K) := by
 unfold opX at h
 split at h
 ·rename_i c ho
  split at h
  ·rename_i fo hfo
   split at h
   ·rename_i f l1 l2 hcal
    split at h
    ·rename_i hsz
     obtain ⟨xs, hxs, h⟩ := Option.bind_eq_some_iff.1 h
     simp only [if_true] at h
     split at h
     ·rename_i hfl
      obtain ⟨r, hr, h⟩ := Option.bind_eq_some_iff.1 h
      simp only [Bool.and_eq_true] at hfl
      refine .inr ⟨by simp [dcls, ho, hfo], ?_⟩
      unfold callD
      rw [ho]
      dsimp only
      rw [hcal]
      refine ⟨xs, r, s', hxs, hfl.1, hfl.2, hsz, ?_, h, hk⟩
      split at hr
      ·rename_i r' hr'
       cases hr
       exact (hkn _ _ _ hr').ofDp
      ·exact xj8 hex hr
     ·cases h
    ·cases h
   ·simp only [if_true] at h; cases h
  ·simp only [Bool.true_and, Bool.not_eq_true'] at h
   split at h
   ·cases h
   ·rename_i hn
    exact .inl ⟨s', by rw [if_pos (by simpa using hn)]; exact h, hk⟩
 ·rename_i ho
  simp only [if_true] at h
  refine .inl ⟨s', ?_, hk⟩
  have : vc9 P s o = true := by unfold vc9; rw [ho]
  rw [if_pos this]; exact h
 ·rename_i ho
  simp only [Bool.true_or, if_true] at h
  refine .inl ⟨s', ?_, hk⟩
  have : vc9 P s o = true := by unfold vc9; rw [ho]
  rw [if_pos this]; exact h
 ·rename_i hno _ _
  refine .inl ⟨s', ?_, hk⟩
  have : vc9 P s o = true := by
   unfold vc9
   split
   ·rename_i c ho; exact absurd ho (hno c)
   ·rfl
  rw [if_pos this]; exact h
theorem yk7 {kn : KnF} (hkn : KnOk P kn) {ex : zq8} (hex : ∀ top kf c s e s' Q, ex top c s = some (e, s') → Q e s' → Wt top kf P c Q s) {ops : List Oper} : ∀ {l : List Oper} {s s' : St} {K : St → Prop}, opsX P hb kn ex false ops l s = some s' → K s' → runA P ops l s K
 | [], s, s', K, h, hk => by simp only [opsX, Option.some.injEq] at h; subst h; exact hk
 | o :: l, s, s', K, h, hk => by
  simp only [opsX] at h
  obtain ⟨s1, h1, h2⟩ := Option.bind_eq_some_iff.1 h
  have rest := yk7 hkn hex (K := K) h2 hk
  simp only [runA, xl8]
  cases hg : zb9 ops s o with
  | none => rw [hg] at h1; cases h1
  | some b =>
   rw [hg] at h1
   cases b with
   | true =>
    dsimp only at h1
    split at h1
    ·rename_i s' ho
     cases h1
     rcases yl7 (K := fun s' => runA P ops l s' K) hkn hex ho rest with h | h | h | h | h
     ·exact .inl h
     ·exact .inr (.inl h)
     ·exact .inr (.inr (.inl h))
     ·exact .inr (.inr (.inr (.inl h)))
     ·exact .inr (.inr (.inr (.inr (.inl h))))
    ·simp only [Bool.false_eq_true, if_false] at h1
     split at h1
     ·rename_i hg2
      refine .inr (.inr (.inr (.inr (.inr ((pre_frzO o).mono ?_)))))
      rintro _ rfl
      exact ⟨hg2, yl7 (K := fun s' => runA P ops l s' K) hkn hex h1 rest⟩
     ·cases h1
   | false => exact ⟨s1, h1, rest⟩
theorem xq8 {kn : KnF} (hkn : KnOk P kn) {ex : zq8} (hex : ∀ top kf c s e s' Q, ex top c s = some (e, s') → Q e s' → Wt top kf P c Q s) {ops : List Oper} : ∀ {l : List Oper} {s s' : St} {K : St → Prop}, opsX P hb kn ex true ops l s = some s' → K s' → runD P ops l s K
 | [], s, s', K, h, hk => by simp only [opsX, Option.some.injEq] at h; subst h; exact hk
 | o :: l, s, s', K, h, hk => by
  simp only [opsX] at h
  obtain ⟨s1, h1, h2⟩ := Option.bind_eq_some_iff.1 h
  have rest := xq8 hkn hex (K := K) h2 hk
  simp only [runD, stepD]
  cases hg : zb9 ops s o with
  | none => rw [hg] at h1; cases h1
  | some b =>
   rw [hg] at h1
   cases b with
   | true =>
    dsimp only at h1
    split at h1
    ·rename_i s' ho
     cases h1
     exact opX_stepD (K := fun s' => runD P ops l s' K) hkn hex ho rest
    ·simp at h1
   | false => exact ⟨s1, h1, rest⟩
theorem exec_sound {kn : KnF} (hkn : KnOk P kn) (hm : P.follows .mixedOrders = true) (n : Nat) : ∀ (top : Bool) (kf : Nat) (c : Code) (s : St) (e : Exit) (s' : St) (Q : Exit → St → Prop), exec P hb kn n top c s = some (e, s') → Q e s' → Wt top kf P c Q s := by
 induction n using Nat.strongRecOn with
 | _ n ihs =>
 intro top kf c s e s' Q h hq
 cases n with
 | zero => cases h
 | succ n =>
  have ih := ihs n (Nat.lt_succ_self n)
  cases c
  case loop body =>
   refine xs9 (fun k s => k ≤ n + 1 ∧ exec P hb kn k top (.loop body) s = some (e, s')) (k := n + 1) ⟨Nat.le_refl _, h⟩ ?_
   rintro k s2 ⟨hk, h2⟩
   cases k with
   | zero => cases h2
   | succ k =>
    have ihk := ihs k (by omega)
    simp only [exec] at h2
    split at h2
    ·rename_i s1 h1
     exact ihk top kf body s2 _ _ _ h1 ⟨k, Nat.lt_succ_self k, by omega, h2⟩
    ·rename_i hne
     refine ihk top kf body s2 _ _ _ h2 ?_
     cases e with
     | normal => exact absurd h2 (hne s')
     | _ => exact hq
  all_goals simp only [exec] at h
  case skip => cases h; exact yc9 hq
  case label l => cases h; exact W_label hq
  case scope x =>
   refine W_scope ?_
   split at h
   ·cases h
   ·rename_i hne
    refine ih top kf x s _ _ _ h ?_
    cases e with
    | goto l => exact absurd h (hne l s')
    | _ => exact hq
  case ret => cases h; exact zp9 hq
  case exit id => cases h; exact xr9 hq
  case seq x y =>
   refine yk9 ?_
   split at h
   ·rename_i s1 h1
    exact ih top kf x s _ _ _ h1 (ih top kf y s1 _ _ _ h hq)
   ·rename_i hne
    refine ih top kf x s _ _ _ h ?_
    cases e with
    | normal => exact absurd h (hne s')
    | _ => exact hq
  case cond o x y =>
   split at h
   ·rename_i ho; exact yd9 ho (fun _ => ih top kf x s _ _ _ h hq) (fun h => (by cases h))
   ·rename_i ho; exact yd9 ho (fun h => (by cases h)) (fun _ => ih top kf y s _ _ _ h hq)
   ·cases h
  case block id x =>
   refine yg9 ?_
   split at h
   ·rename_i i s1 h1
    refine ih top kf x s _ _ _ h1 ?_
    simp only [inBlk]
    split at h
    ·rename_i hi; cases h; rw [if_pos hi]; exact hq
    ·rename_i hi; cases h; rw [if_neg hi]; exact hq
   ·rename_i hne
    refine ih top kf x s _ _ _ h ?_
    cases e with
    | exit i => exact absurd h (hne i s')
    | _ => exact hq
  case region id ops draw =>
   split at h
   ·cases h
   ·rename_i hd
    split at h
    ·rename_i s1 h1
     cases h
     cases draw with
     | false => exact W_region (yk7 hkn ih h1 hq)
     | true => exact W_drawD hm (by simpa using hd) (xq8 hkn ih h1 hq)
    ·split at h
     ·rename_i hdr
      obtain ⟨s1, h1, h2⟩ := Option.map_eq_some_iff.1 h
      cases h2
      subst hdr
      refine W_pre ((pre_frzOs ops.toList s).mono ?_)
      rintro _ rfl
      exact W_drawD hm (by simpa using hd) (xq8 hkn ih h1 hq)
     ·cases h
  case rangeFunc g ps as body =>
   split at h
   ·rename_i htop
    subst htop
    split at h
    ·rename_i f l1 l2 hcal
     obtain ⟨⟨r, h'⟩, hx, h⟩ := Option.bind_eq_some_iff.1 h
     refine yk8 hcal (xh8 ih hx) ?_
     rintro _ _ ⟨rfl, rfl⟩
     dsimp only at h
     unfold afterX at h
     split at h <;> cases h <;> (rename_i ho; exact ⟨_, _, _, _, _, _, ho, hq⟩)
    ·cases h
   ·cases h
  all_goals cases h
theorem sound_execK {kn : KnF} (hkn : KnOk P kn) (hm : P.follows .mixedOrders = true) (n : Nat) {f : FuncId} {args : List AV} {r : AV} (h : callP P (exec P hb kn n) f args = some r) : Sound P f args r := xj8 (exec_sound hkn hm n) h
theorem sound_exec (hm : P.follows .mixedOrders = true) (n : Nat) {f : FuncId} {args : List AV} {r : AV} (h : callP P (exec P hb kn0 n) f args = some r) : Sound P f args r := sound_execK kn0_ok hm n h
end
end Go.AM.HX
namespace Go.AM
section
variable {P : Program} {s : St} {a : Act} {c : Ctx} {w : World}
theorem copyStr_sound {t t2 ty e id off len cap : Nat} {ag : Bool} {cs : List AV} {u : Value} {b : ByteArray} (hs : SimSt P c w s a) (hsl : slI P t = some (e, ag, 1))
  (hobj : s.h[id]? = some (.cells e cs)) (hcs : off + len ≤ cs.length) (rx : Rep c w (.arr id off len cap) u) :
  ∃ w', (Builtin.copy_ #[t, t2] ty #[u, .string b]).run P w = .ok (goInt (min b.size len : Nat)) w' ∧ Ext c w c w' ∧ SimSt P c w' { s with h := s.h.set id (.cells e (yf9 cs off (byL (b.data.toList.take (min b.size len))))) } a := by
 obtain ⟨ht, hty⟩ := xt9 hsl
 have hid : id < c.no := by rw [hs.h.no]; exact (List.getElem?_eq_some_iff.1 hobj).1
 obtain ⟨_, _, _, cur, hcur, hl, hcsr⟩ := hs.h.obj id _ hobj
 obtain ⟨n, hn⟩ : ∃ n, min b.size len = n := ⟨_, rfl⟩
 have hnb : n ≤ b.size := by omega
 have hnl : n ≤ len := by omega
 obtain ⟨news, hnews⟩ : ∃ news : List Value, (b.data.toList.take n).map (fun x => Value.int .u8 x.toNat) = news := ⟨_, rfl⟩
 have hbl : b.data.toList.length = b.size := by rw [Array.length_toList]; rfl
 have hlen : news.length = n := by rw [← hnews]; simp [hbl]; omega
 have hyl : (byL (b.data.toList.take n)).length = n := by simp [hbl]; omega
 cases rx with
 | arr _ hlen' hmax =>
  have hfc : (Builtin.firstCells 1 n (.string b)).run P w = .ok news.toArray w := by
   rw [← hnews]
   show Result.ok ((b.extract 0 n).data.map fun b => Value.int .u8 b.toNat) w = _
   congr 1
   apply Array.ext'
   rw [ByteArray.data_extract]
   simp [Array.toList_extract, List.extract_eq_take_drop]
  have hget : ∀ j, news.getD j undef = ((b.data.toList.take n)[j]?.map fun x => Value.int .u8 x.toNat).getD undef := by
   intro j
   rw [← hnews, List.getD_eq_getElem?_getD, List.getElem?_map]
  have hone : ∀ v ∈ news, v.oneCell' = true := by
   intro v hv
   rw [← hnews] at hv
   obtain ⟨x, _, rfl⟩ := List.mem_map.1 hv
   rfl
  have hnC : ∀ j y, (byL (b.data.toList.take n))[j]? = some y → Rep c w y (news.getD j undef) ∧ Own P c w y (news.getD j undef) ∧ (news.getD j undef).oneCell' = true := by
   intro j y hj
   rw [byL_get] at hj
   obtain ⟨x, hx, rfl⟩ := Option.map_eq_some_iff.1 hj
   rw [hget, hx]
   exact ⟨.v _, .none rfl, rfl⟩
  have hC := cells_seg (P := P) (c := c) (w := w) (cs := cs) (ys := byL (b.data.toList.take n)) (cur := cur) (off := off) (news := news) ⟨hl, hcsr⟩ (by rw [hlen, hyl]) (by rw [hyl]; omega) hnC
  have hst := run_storeCells_at P (c.ob id) off e news 0 cur w hcur (by rw [hlen]; omega) hone
  simp only [Nat.add_zero] at hst
  have hsz2 : ((cur.toList.take off ++ news ++ cur.toList.drop (off + news.length)).toArray).size = cur.size := by
   have := hC.1
   rw [xv9 _ _ _ (by rw [hyl]; omega)] at this
   rw [← this, hl]
  obtain ⟨he, hs'⟩ := hs.setObj hobj hcur hsz2 hC
  refine ⟨_, ?_, he, by rw [hn]; exact hs'⟩
  have hlo : (Builtin.lenOf (.string b)).run P w = .ok b.size w := rfl
  simp only [Builtin.copy_, Sem.run_bind, run_underlying ht, Result.andThen_ok, hlo, zn9 w hty, Sem.run_pure, List.getElem?_toArray, List.getElem?_cons_zero, List.getElem?_cons_succ]
  have e2 : Nat.min b.size len = n := hn
  rw [e2, hfc, hn]
  simp only [Result.andThen_ok, hst]
theorem stepW_copyS {o : Oper} {cl : Call} {K : St → Prop} {xo yo : Operand} {t t' e id off len cap : Nat} {ag : Bool} {cs : List AV} {b : ByteArray} (ho : o.op = .call cl) (hc : cl.callee = .builtin .copy) (ha : cl.args.toList = [xo, yo]) (hty : cl.argTypes.toList = [t, t'])
  (h1 : s.evT P t xo = some (.arr id off len cap)) (h2 : s.evT P t' yo = some (.v (.string b))) (hsl : slI P t = some (e, ag, 1)) (hobj : s.h[id]? = some (.cells e cs)) (hcs : off + len ≤ cs.length)
  (hK : ∃ s', ({ s with h := s.h.set id (.cells e (yf9 cs off (byL (b.data.toList.take (min b.size len))))) } : St).put o.dst (.v (goInt (min b.size len : Nat))) = some s' ∧ K s') : StepW P o s K := by
 refine ⟨by simp [ho], fun c w a hs => ?_⟩
 obtain ⟨s', hp, hk⟩ := hK
 have hargs : cl.args = #[xo, yo] := by rw [← Array.toArray_toList (xs := cl.args), ha]
 have htys : cl.argTypes = #[t, t'] := by rw [← Array.toArray_toList (xs := cl.argTypes), hty]
 have hb : a.eval yo = .string b := (hs.evT h2).1.v_inv
 have hrun : (execOp a.eval o).run P w = ((Builtin.copy_ #[t, t'] o.type #[a.eval xo, .string b]).run P w).andThen fun v w => .ok (.value v) w := by
  unfold execOp
  simp only [ho, resolve, hc, hargs, htys, invoke, builtin, Sem.run_bind, Sem.run_pure, Result.andThen_ok, List.map_toArray, List.map_cons, List.map_nil, hb]
 obtain ⟨w', r1, r2, r3⟩ := copyStr_sound (ty := o.type) (t2 := t') (b := b) hs hsl hobj hcs (hs.evT h1).1
 exact ⟨_, _, _, s', by rw [hrun, r1]; rfl, r2, r3.put hp (.v _) (.none rfl), hk⟩
end
end Go.AM
namespace Go.AM
section
variable {P : Program} {s : St} {a : Act} {c : Ctx} {w : World}
def pv : Value → Value → Bool
 | .int _ a, .int _ b => a == b
 | .string a, .string b => a.toList == b.toList
 | .bool a, .bool b => a == b
 | _, _ => false
def okV (P : Program) (e : TypeId) (a b : Value) : Bool :=
 match P.underlying e, a, b with
 | some (.int _), .int k _, .int k' _ => decide (k = k')
 | some .string, .string _, .string _ => true
 | some .bool, .bool _, .bool _ => true
 | _, _, _ => false
theorem eqIn_okV (d : Nat) {e : TypeId} {a b : Value} (h : okV P e a b = true) : (Op.equalIn (d + 1) e a b).run P w = .ok (pv a b) w ∧ P.plainKey e = true := by
 unfold okV at h
 split at h
 ·rename_i q k a k' b hu
  have hk : k = k' := by simpa using h
  subst hk
  exact ⟨run_equalIn_int w d e k q a b hu, by simp [Program.plainKey, hu]⟩
 ·rename_i a b hu
  exact ⟨run_equalIn_string w d e a b hu, by simp [Program.plainKey, hu]⟩
 ·rename_i a b hu
  exact ⟨run_equalIn_bool w d e a b hu, by simp [Program.plainKey, hu]⟩
 ·cases h
theorem eqFields_okV (d : Nat) (xs ys : Array Value) : ∀ (fs : List Field), (∀ f ∈ fs, f.name ≠ "_" ∧ f.offset < xs.size ∧ f.offset < ys.size ∧ okV P f.type (xs.getD f.offset undef) (ys.getD f.offset undef) = true) →
  (Op.eqFields (d + 1) xs ys fs).run P w = .ok (fs.all fun f => pv (xs.getD f.offset undef) (ys.getD f.offset undef)) w
 | [], _ => by simp [Op.eqFields]
 | f :: fs, hall => by
  obtain ⟨hn, hx, hy, hok⟩ := hall f (by simp)
  obtain ⟨h1, h2⟩ := eqIn_okV (w := w) d hok
  have ih := eqFields_okV d xs ys fs (fun g hg => hall g (by simp [hg]))
  have p1 := run_part_plain (P := P) w h2 (xs := xs) (off := f.offset) (v := xs.getD f.offset undef) (by simp [Array.getD_eq_getD_getElem?, hx])
  have p2 := run_part_plain (P := P) w h2 (xs := ys) (off := f.offset) (v := ys.getD f.offset undef) (by simp [Array.getD_eq_getD_getElem?, hy])
  simp only [Op.eqFields, hn, ne_eq, not_false_eq_true, if_true, Sem.run_bind, p1, p2, h1, Result.andThen_ok, List.all_cons]
  cases pv (xs.getD f.offset undef) (ys.getD f.offset undef)
  ·simp
  ·simpa using ih
def eqFv (fs : List Field) (us vs : List Value) : Bool := fs.all fun f => pv (us.getD f.offset undef) (vs.getD f.offset undef)
def okF (P : Program) (fs : List Field) (us vs : List Value) : Bool := fs.all fun f => f.name != "_" && (decide (f.offset < us.length) && (decide (f.offset < vs.length) && okV P f.type (us.getD f.offset undef) (vs.getD f.offset undef)))
theorem stepW_neqAgg {o : Oper} {K : St → Prop} {t t' k1 k2 : Nat} {us vs : List Value} {fs : List Field} (ho : o.op = .binOp .neq t (.tmp k1) (.tmp k2) t') (h1 : getF s.fr k1 = some (.agg (us.map .v))) (h2 : getF s.fr k2 = some (.agg (vs.map .v)))
  (hu : P.underlying t = some (.struct (P.fieldsOf t))) (hp : P.stoodInHeld t = false) (hg : P.eqGuardType P.depth t = false) (hfs : (P.fieldsOf t).toList = fs) (hok : okF P fs us vs = true)
  (hK : ∃ s', s.put o.dst (.v (.bool (!eqFv fs us vs))) = some s' ∧ K s') : StepW P o s K := by
 refine ⟨by simp [ho], fun c w a hs => ?_⟩
 obtain ⟨s', hpt, hk⟩ := hK
 have key : ∀ (k : Nat) (ws : List Value), getF s.fr k = some (.agg (ws.map .v)) → a.eval (.tmp k) = .agg ws.toArray := by
  intro k ws h
  obtain ⟨u, hu, hr, _⟩ := hs.fr k _ h
  obtain ⟨xs, rfl, hl, hx⟩ := zs7 hr
  have : xs = ws.toArray := by
   apply Array.ext
   ·simpa using hl.symm
   ·intro i hi1 hi2
    have hi : i < ws.length := by simpa using hi2
    have := (hx i (.v ws[i]) (by simp [hi])).v_inv
    rw [Array.getD_eq_getD_getElem?, Array.getElem?_eq_getElem hi1] at this
    simpa using this
  rw [← this]
  simp [Act.eval, hu]
 have e1 := key k1 us h1
 have e2 := key k2 vs h2
 have hget : ∀ (ws : List Value) (i : Nat), ws.toArray.getD i undef = ws.getD i undef := by
  intro ws i
  rw [Array.getD_eq_getD_getElem?, List.getD_eq_getElem?_getD, List.getElem?_toArray]
 have heq : (Op.equal t (.agg us.toArray) (.agg vs.toArray)).run P w = .ok (eqFv fs us vs) w := by
  show (Op.equalIn (9999 + 1) t _ _).run P w = _
  rw [run_equalIn_struct w 9999 t _ _ hu hp, hfs, eqFields_okV (w := w) 9998 us.toArray vs.toArray fs (fun f hf => by
   have := List.all_eq_true.1 hok f hf
   simp only [Bool.and_eq_true, bne_iff_ne, ne_eq, decide_eq_true_eq] at this
   rw [hget, hget]
   exact ⟨this.1, by simpa using this.2.1, by simpa using this.2.2.1, this.2.2.2⟩)]
  simp only [eqFv, hget]
 refine ⟨.bool (!eqFv fs us vs), w, c, s', ?_, Ext.refl c w, hs.put hpt (.v _) (.none rfl), hk⟩
 have hgd := run_eqGuard_agg (P := P) (w := w) .neq t (.tmp k1) (.tmp k2) us.toArray vs.toArray hg
 have hb : binOp .neq t (.agg us.toArray) (.agg vs.toArray) = (do pure (.bool (!(← Op.equal t (.agg us.toArray) (.agg vs.toArray))))) := rfl
 simp only [execOp, ho, e1, e2, Sem.run_bind, hgd, hb, heq, Result.andThen_ok, Sem.run_pure]
end
end Go.AM
namespace Go.AM
open Go.RowKit
set_option linter.unusedSimpArgs false
section
variable {P : Program} {c c' : Ctx} {w w' : World}
theorem thaw_core2 {h : List AObj} {e T sz : Nat} {xs fl : List AV} {c1 : Ctx} {w1 : World} {u : Value} (hh : HSim P c w h) (hb : ∀ b, w.heap.size ≤ b → c.base b) (hp : PExt c w c1 w1)
  (hr : Rep c1 w1 (.lst (.tip e T) sz xs) u) (ho : Own P (c1.rebase fun b => w.heap.size ≤ b) w1 (.lst (.tip e T) sz xs) u) (hcat : catK sz xs = some fl) (hfl : AV.thwL fl = true) :
  (u = .slice none 0 0 ∧ xs = [] ∧ HSim P c1 w1 h ∧ Ext c w c1 w1) ∨
  ∃ cap c', xs.length ≤ cap ∧ cap ≤ maxLen ∧ Ext c w c' w1 ∧ HSim P c' w1 (h ++ [.cells e (AV.weakL fl ++ List.replicate ((cap - xs.length) * sz) .any)]) ∧ Rep c' w1 (.arr h.length 0 xs.length cap) u ∧ ∃ g cur, w1.heap[g]? = some (.cells cur e (0, 0)) ∧ ∀ b, b ≠ g → c'.pm b = c1.pm b := by
 have he1 := hp.ext hb
 have hk1 := hp.keeps
 have hold : ∀ i o, h[i]? = some o → c.ob i < w.heap.size := fun i o hi => hh.lt i (by rw [hh.no]; exact (List.getElem?_eq_some_iff.1 hi).1)
 have hsame : ∀ i o, h[i]? = some o → w1.heap[c.ob i]? = w.heap[c.ob i]? ∧ c1.pm (c.ob i) = c.pm (c.ob i) ∧ c1.ow (c.ob i) = c.ow (c.ob i) := fun i o hi =>
  ⟨hp.block _ (hold i o hi), hp.pm _ (hold i o hi), hp.ow _ (hold i o hi)⟩
 obtain ⟨a, n, cap, ux, rfl, hn, hcap, hmax, hs0, hsx, hrx, hzx, hnil, hcx, hrr⟩ := xw9 hr
 cases ho with
 | none h0 => simp [AV.tl] at h0
 | tip hT hse hat =>
  rcases hat with ⟨rfl, rfl, rfl⟩ | ⟨g, cur, rfl, hg, hheap, hsize, hpm, how, hone⟩
  ·refine .inl ⟨rfl, List.eq_nil_of_length_eq_zero hn, ⟨by rw [hp.no]; exact hh.no, fun i hi => ?_, ?_, fun i o hi => ?_⟩, he1⟩
   ·rw [hp.ob]; rw [hp.no] at hi; exact Nat.lt_of_lt_of_le (hh.lt i hi) hp.size
   ·rw [hp.ob, hp.no]; exact hh.inj
   ·exact xh9.mono (T := none) he1 hk1 (by rw [hh.no]; exact (List.getElem?_eq_some_iff.1 hi).1) (hh.obj i o hi) fun _ => hsame i o hi
  ·rw [← hse] at hsize hpm
   have hg' : w.heap.size ≤ g := hg
   let c2 : Ctx := c1.newO g
   have hno2 : c2.no = h.length + 1 := by simp only [c2, Ctx.newO]; rw [hp.no, hh.no]
   have hob2 : ∀ i, i < h.length → c2.ob i = c.ob i := fun i hi => by
    simp only [c2, Ctx.newO]; rw [hp.no, hh.no, if_neg (by omega), hp.ob]
   have hobn : c2.ob h.length = g := by simp only [c2, Ctx.newO]; rw [hp.no, hh.no, if_pos rfl]
   have hpm2 : ∀ b, b ≠ g → c2.pm b = c1.pm b := fun b hb => by simp only [c2, Ctx.newO, Ctx.setB]; rw [if_neg hb]
   have how2 : ∀ b, b ≠ g → c2.ow b = c1.ow b := fun b hb => by simp only [c2, Ctx.newO, Ctx.setB]; rw [if_neg hb]
   have hne : ∀ b, b < w.heap.size → b ≠ g := fun b hb e => by omega
   have hbase2 : c2.base = c.base := hp.base
   have he2 : Ext c w c2 w1 := {
    base := hbase2, os := he1.os, tape := he1.tape, output := he1.output, size := he1.size, below := he1.below, cell := he1.cell
    pm := fun b hb' => by rw [hpm2 b (hne b hb')]; exact he1.pm b hb'
    pmb := fun b hb' => by
     have : b ≠ g := fun e => hb' (by rw [e]; exact hb g hg')
     rw [hpm2 b this]; exact he1.pmb b hb'
    owb := fun b hb' => by
     have : b ≠ g := fun e => hb' (by rw [e]; exact hb g hg')
     rw [how2 b this]; exact he1.owb b hb'
    no := by rw [hno2, hh.no]; omega
    ob := fun id hid => hob2 id (by rw [← hh.no]; exact hid)
    dfr := he1.dfr }
   have hk2 : Keeps c w c2 w1 none := by
    intro b cu e0 hbb hbc hbo
    obtain ⟨k1, k2, k3⟩ := hk1 b cu e0 hbb hbc hbo
    have : b ≠ g := hne b (get_lt hbc)
    exact ⟨k1, by rw [hpm2 b this]; exact k2, by rw [how2 b this]; exact k3⟩
   have hfll : fl.length = n * sz := by rw [vd9 hcat, hn]
   have hrow : ∀ j z, fl[j]? = some z → Rep c1 w1 z (ux j) := by
    intro j z hz
    have hjl : j < n * sz := by rw [← hfll]; exact (List.getElem?_eq_some_iff.1 hz).1
    have hsz0 : 0 < sz := by
     rcases Nat.eq_zero_or_pos sz with e | e
     ·rw [e] at hjl; omega
     ·exact e
    obtain ⟨x, k1, k2, k3⟩ := catK_inv hsz0 hcat hz
    have := hrr _ _ _ _ k1 k2
    rwa [show j / sz * sz + j % sz = j by rw [Nat.mul_comm]; exact Nat.div_add_mod j sz] at this
   have hmv : ∀ (z : AV) (v : Value), z ∈ fl → Rep c1 w1 z v → Rep c2 w1 z v := by
    intro z v hzm hrz
    simp only [AV.thwL, Bool.or_eq_true, Bool.and_eq_true] at hfl
    rcases hfl with hfl | ⟨hisl, hdp⟩
    ·exact shal_rep hrz (List.all_eq_true.1 hfl z hzm)
    ·obtain ⟨i, hi, rfl⟩ := List.mem_iff_getElem.1 hzm
     refine deep_rep (g := g) (fun ad u hb' hc' hpr => ?_) (fun ad hb' hpr => ?_) hrz (zq7 hdp (List.getElem?_eq_getElem hi))
     ·have hof : ad.off < n * sz := by
       have : ad.off < c1.pm ad.block := hpr
       rw [hb'] at this
       have e : c1.pm g = n * sz := hpm
       rw [e] at this; exact this
      have hz2 : fl[ad.off]? = some (fl[ad.off]'(by rw [hfll]; exact hof)) := List.getElem?_eq_getElem _
      have hl := List.all_eq_true.1 hisl _ (List.mem_of_getElem? hz2)
      have hr2 := hrow _ _ hz2
      have hc2 := (hcx _ _ rfl hof).1
      rw [vk9, Nat.zero_add] at hc2
      obtain ⟨ab, ao, asb⟩ := ad
      simp only at hb' hof hc2
      subst hb'
      have hcu : u = ux ao := by
       cases asb with
       | none => rw [hc'] at hc2; exact Option.some.inj hc2
       | some s => simp only [World.cell?, hheap] at hc'; simp at hc'
      rw [hcu]
      generalize fl[ao]'(by rw [hfll]; exact hof) = y at hl hr2
      cases y with
      | lst o s xs => obtain ⟨a, n, cap, ux, h0, _⟩ := xw9 hr2; exact ⟨_, _, _, h0⟩
      | _ => simp [AV.isL] at hl
     ·show ad.off < c2.pm ad.block
      rw [hpm2 _ hb']; exact hpr
   refine .inr ⟨cap, c2, by omega, hmax, he2, ⟨by rw [hno2]; simp, ?_, ?_, ?_⟩, ?_, g, cur, hheap, hpm2⟩
   ·intro i hi
    rw [hno2] at hi
    rcases Nat.lt_or_ge i h.length with hlt | hge
    ·rw [hob2 i hlt]; exact Nat.lt_of_lt_of_le (hh.lt i (by rw [hh.no]; exact hlt)) hp.size
    ·have : i = h.length := by omega
     subst this; rw [hobn]; exact get_lt hheap
   ·intro i j hi hj hij
    rw [hno2] at hi hj
    rcases Nat.lt_or_ge i h.length with h1 | h1 <;> rcases Nat.lt_or_ge j h.length with h2 | h2
    ·rw [hob2 i h1, hob2 j h2]; exact hh.inj i j (by rw [hh.no]; exact h1) (by rw [hh.no]; exact h2) hij
    ·have : j = h.length := by omega
     subst this; rw [hob2 i h1, hobn]; exact hne _ (hh.lt i (by rw [hh.no]; exact h1))
    ·have : i = h.length := by omega
     subst this; rw [hob2 j h2, hobn]; exact Ne.symm (hne _ (hh.lt j (by rw [hh.no]; exact h2)))
    ·omega
   ·intro i o hi
    rcases Nat.lt_or_ge i h.length with h1 | h1
    ·rw [List.getElem?_append_left h1] at hi
     refine xh9.mono (T := none) he2 hk2 (by rw [hh.no]; exact h1) (hh.obj i o hi) fun _ => ?_
     obtain ⟨s1, s2, s3⟩ := hsame i o hi
     have := hne _ (hold i o hi)
     exact ⟨s1, by rw [hpm2 _ this]; exact s2, by rw [how2 _ this]; exact s3⟩
    ·rw [List.getElem?_append_right h1] at hi
     have hi0 : i = h.length := by
      have := (List.getElem?_eq_some_iff.1 hi).1
      simp at this
      omega
     subst hi0
     simp at hi
     subst hi
     refine ⟨by rw [hobn, hbase2]; exact hb g hg', by rw [hobn]; simp [c2, Ctx.newO, Ctx.setB], by rw [hobn]; simp [c2, Ctx.newO, Ctx.setB], cur, by rw [hobn]; exact hheap, ?_, ?_⟩
     ·rw [List.length_append, zv9, List.length_replicate, hfll, hsize, hn, ← Nat.add_mul]
      congr 1
      omega
     ·intro j y hj
      have hjs : j < cur.size := by
       have := (List.getElem?_eq_some_iff.1 hj).1
       rw [List.length_append, zv9, List.length_replicate, hfll, hn, ← Nat.add_mul] at this
       rw [hsize]
       have e : n + (cap - n) = cap := by omega
       rw [e] at this
       exact this
      have h1c : (cur.getD j undef).oneCell' = true := by
       rw [Array.getD_eq_getD_getElem?, Array.getElem?_eq_getElem hjs, Option.getD_some]
       exact hone _ (Array.getElem_mem hjs)
      rcases Nat.lt_or_ge j (AV.weakL fl).length with hlt | hge
      ·rw [List.getElem?_append_left hlt, vv9] at hj
       obtain ⟨z, hz, rfl⟩ := Option.map_eq_some_iff.1 hj
       have hjl : j < n * sz := by rw [zv9, hfll] at hlt; exact hlt
       have hsz0 : 0 < sz := by
        rcases Nat.eq_zero_or_pos sz with e | e
        ·rw [e] at hjl; omega
        ·exact e
       obtain ⟨x, k1, k2, k3⟩ := catK_inv hsz0 hcat hz
       have hrz : Rep c1 w1 z (ux j) := by
        have := hrr _ _ _ _ k1 k2
        rwa [show j / sz * sz + j % sz = j by rw [Nat.mul_comm]; exact Nat.div_add_mod j sz] at this
       have e1 := (hcx _ j rfl hjl).1
       rw [vk9, Nat.zero_add] at e1
       simp only [World.cell?, hheap] at e1
       have e2 : cur.getD j undef = ux j := by
        rw [Array.getD_eq_getD_getElem?]
        simp at e1
        rw [e1]; rfl
       rw [e2] at h1c ⊢
       exact ⟨(hmv z (ux j) (List.mem_of_getElem? hz) hrz).weak, .none (tl_weak z), h1c⟩
      ·rw [List.getElem?_append_right hge] at hj
       have := (List.mem_replicate.1 (List.mem_of_getElem? hj)).2
       subst this
       exact ⟨.any _, .none rfl, h1c⟩
   ·have := Rep.arr (c := c2) (w := w1) (id := h.length) (off := 0) (len := xs.length) (cap := cap) (by rw [hno2]; omega) (by omega) hmax
    rw [hobn] at this
    rw [← hn]
    exact this
def cfB : AV → Bool
 | .v _ => true
 | .agg xs => xs.all fun y => match y with | .v _ => true | _ => false
 | _ => false
def okS (e : TypeId) : AV → Bool
 | .v _ => true
 | .lst _ _ [] => true
 | .lst (.tip e' _) _ ys => e' != e && ys.all cfB
 | _ => false
def weakS : AV → AV
 | .lst _ s ys => .lst .any s ys
 | y => y
theorem okS_rep {e : TypeId} {y : AV} {c1 c2 : Ctx} {w1 : World} {u : Value} {b0 : Nat → Prop} (hy : okS e y = true) (hr : Rep c1 w1 (y.norm 1) u) (ho : Own P (c1.rebase b0) w1 (y.norm 1) u)
  (hpm : ∀ b cur e', w1.heap[b]? = some (.cells cur e' (0, 0)) → e' ≠ e → c2.pm b = c1.pm b) : Rep c2 w1 (weakS y) u := by
 cases y with
 | v v =>
  have h2 : Rep c1 w1 (.v v) u := hr
  rw [h2.v_inv]; exact .v _
 | lst o s ys =>
  cases ys with
  | nil =>
   have h1 : ∃ o', (AV.lst o s []).norm 1 = .lst o' s [] := by cases o <;> exact ⟨_, rfl⟩
   obtain ⟨o', h1⟩ := h1
   rw [h1] at hr
   obtain ⟨a, n, cap, ux, rfl, hn, hcap, hmax, hs0, hsx, hrx, hzx, hnil, hcx, hrr⟩ := xw9 hr
   simp at hn
   subst hn
   exact .lst (fun _ => undef) rfl hcap hmax (by simp) (by simp) rfl hzx trivial (by simp) (by simp)
  | cons z ys =>
   cases o with
   | tip e' T =>
    simp only [okS, Bool.and_eq_true, bne_iff_ne, ne_eq] at hy
    have hn1 : (AV.lst (.tip e' T) s (z :: ys)).norm 1 = .lst (.tip e' 1) s (z :: ys) := rfl
    rw [hn1] at hr ho
    obtain ⟨a, n, cap, ux, rfl, hn, hcap, hmax, hs0, hsx, hrx, hzx, hnil, hcx, hrr⟩ := xw9 hr
    cases ho with
    | none h0 => simp [AV.tl] at h0
    | tip hT hse hat =>
     rcases hat with ⟨rfl, rfl, rfl⟩ | ⟨g, cur, rfl, hg, hheap, hsize, hpmg, how, hone⟩
     ·simp at hn
     ·have hp := hpm g cur e' hheap hy.1
      refine .lst ux hn hcap hmax hs0 hsx hrx hzx trivial (fun ad k had hk => ?_) (fun i j x y hx hyc => ?_)
      ·obtain ⟨k1, k2, k3⟩ := hcx ad k had hk
       refine ⟨k1, ?_, k3⟩
       cases had
       have hb : (Addr.add ⟨g, 0, none⟩ k).block = g := by simp [vk9]
       show _ < c2.pm _
       have k2' : (Addr.add ⟨g, 0, none⟩ k).off < c1.pm (Addr.add ⟨g, 0, none⟩ k).block := k2
       rw [hb] at k2' ⊢
       rw [hp]
       exact k2'
      ·have hz := List.all_eq_true.1 hy.2 x (List.mem_of_getElem? hx)
       have h3 := hrr i j x y hx hyc
       cases x with
       | v v =>
        simp [AV.cells] at hyc
        cases j with
        | zero => simp at hyc; subst hyc; rw [h3.v_inv]; exact .v _
        | succ j => simp at hyc
       | agg xs =>
        have hy2 : y ∈ xs := List.mem_of_getElem? hyc
        have hyv := List.all_eq_true.1 hz y hy2
        cases y with
        | v v => rw [h3.v_inv]; exact .v _
        | _ => simp at hyv
       | _ => simp [cfB] at hz
   | _ => simp [okS] at hy
 | _ => simp [okS] at hy
theorem tlL_all : ∀ (xs : List AV), (∀ (j : Nat) (x : AV), xs[j]? = some x → x.tl = true) → AV.tlL xs = true
 | [], _ => rfl
 | x :: xs, h => by
  simp only [AV.tlL, Bool.and_eq_true]
  exact ⟨h 0 x rfl, tlL_all xs fun j y hy => h (j + 1) y (by simpa using hy)⟩
theorem norm_getL (T : Nat) : ∀ (xs : List AV) (j : Nat), (AV.normL T xs)[j]? = (xs[j]?).map (AV.norm T)
 | [], j => by simp [AV.normL]
 | x :: xs, 0 => by simp [AV.normL]
 | x :: xs, j + 1 => by simp [AV.normL, norm_getL T xs j]
theorem callW_thawS {f : FuncId} {args : List AV} {h : List AObj} {e T sz : Nat} {xs fl fs : List AV} {Q : AV → List AObj → Prop} (j0 : Nat) (hS : Sound P f (AV.dpL args) (.agg fs)) (hj0 : fs[j0]? = some (.lst (.tip e T) sz xs))
  (hok : ∀ j y, j ≠ j0 → fs[j]? = some y → okS e y = true) (hcat : catK sz xs = some fl) (hfl : AV.thwL fl = true) (hxs : xs ≠ [])
  (h1 : ∀ cap, xs.length ≤ cap → cap ≤ maxLen → Q (.agg ((fs.map weakS).set j0 (.arr h.length 0 xs.length cap))) (h ++ [.cells e (AV.weakL fl ++ List.replicate ((cap - xs.length) * sz) .any)])) : xl9 P f args h Q := by
 refine ⟨hS.1, fun F n c w vals hF hro hb _ hh ra => CallsIn.mono (hS.2 F n c w vals 1 hF hro rfl hb ra.dpL) ?_⟩
 rintro _ w1 ⟨u, c1, rfl, hp, hr, ho⟩
 simp only [AV.norm] at hr ho
 obtain ⟨us, rfl, hl, hrr⟩ := zs7 hr
 have hoo := own_agg ho
 have hn0 : (AV.normL 1 fs)[j0]? = some (.lst (.tip e 1) sz xs) := by rw [norm_getL, hj0]; rfl
 have hr0 := hrr j0 _ hn0
 have ho0 := hoo j0 _ hn0
 have hjl : j0 < fs.length := (List.getElem?_eq_some_iff.1 hj0).1
 have hln : (AV.normL 1 fs).length = fs.length := by
  have : ∀ l : List AV, (AV.normL 1 l).length = l.length := fun l => by induction l <;> simp_all [AV.normL]
  exact this fs
 rcases thaw_core2 (T := 1) hh hb hp hr0 ho0 hcat hfl with ⟨k0, k1, _⟩ | ⟨cap, c', k1, k2, k3, k4, k5, g, cur, k6, k7⟩
 ·exact absurd k1 hxs
 ·refine ⟨_, c', _, _, rfl, h1 cap k1 k2, k3, k4, .agg (by simp [← hl, hln]) fun j y hj => ?_, .none ?_⟩
  ·rw [List.getElem?_set] at hj
   split at hj
   ·rename_i he
    subst he
    simp [hjl] at hj
    subst hj
    exact k5
   ·rename_i he
    rw [List.getElem?_map] at hj
    obtain ⟨z, hz, rfl⟩ := Option.map_eq_some_iff.1 hj
    have hzn : (AV.normL 1 fs)[j]? = some (z.norm 1) := by rw [norm_getL, hz]; rfl
    refine okS_rep (hok j z (fun h => he h.symm) hz) (hrr j _ hzn) (hoo j _ hzn) fun b cur2 e2 hb2 hne => k7 b fun hbg => ?_
    subst hbg
    rw [k6] at hb2
    cases hb2
    exact hne rfl
  ·have htl : AV.tlL ((fs.map weakS).set j0 (.arr h.length 0 xs.length cap)) = true := by
    refine tlL_all _ fun j x hj => ?_
    rw [List.getElem?_set] at hj
    split at hj
    ·rename_i he
     subst he
     simp [hjl] at hj
     subst hj
     rfl
    ·rename_i he
     rw [List.getElem?_map] at hj
     obtain ⟨z, hz, rfl⟩ := Option.map_eq_some_iff.1 hj
     have := hok j z (fun h => he h.symm) hz
     cases z with
     | v v => rfl
     | lst o s ys => rfl
     | _ => simp [okS] at this
   simpa [AV.tl] using htl
end
end Go.AM
namespace Go.AM
open Go.RowKit
set_option linter.unusedSimpArgs false
section
variable {P : Program}
mutual
theorem kill_comm (T U : Nat) : (x : AV) → (x.kill T).kill U = (x.kill U).kill T
 | .lst (.tip e V) s xs => by
  by_cases h1 : V = T <;> by_cases h2 : V = U <;> by_cases h3 : V % 2 = 0 <;> simp_all [AV.kill, Fl.wk]
 | .lst .any _ _ => rfl
 | .lst .ex _ _ => rfl
 | .lst .nil _ _ => rfl
 | .agg xs => by simp only [AV.kill, killL_comm T U xs]
 | .tup xs => by simp only [AV.kill, killL_comm T U xs]
 | .any => rfl
 | .v _ => rfl
 | .ro _ => rfl
 | .loc _ _ => rfl
 | .arr _ _ _ _ => rfl
 | .fn _ _ _ => rfl
 | .mp _ => rfl
 | .yld _ => rfl
theorem killL_comm (T U : Nat) : (xs : List AV) → AV.killL U (AV.killL T xs) = AV.killL T (AV.killL U xs)
 | [] => rfl
 | x :: xs => by simp only [AV.killL, kill_comm T U x, killL_comm T U xs]
end
abbrev KL := List (Nat × Nat × Nat)
def kofV (kl : KL) (i : Nat) : Option Nat := (kl.find? fun e => e.1 == i).map (·.2.2)
def kbyV (kl : KL) (j : Nat) : Option (Nat × Nat) := (kl.find? fun e => e.2.1 == j).map fun e => (e.1, e.2.2)
def dstAt (ops : Array Oper) (j : Nat) : Option Tmp := (ops[j]?).bind (·.dst)
def valB (ops : Array Oper) (m : Nat) : Bool :=
 decide (m ≤ ops.size) && ((List.range ops.size).all fun i => match ops[i]? with
  | none => true
  | some o =>
   dcls o != 9 && (if i < m then
    ((o.looksAt ops).all fun d => (List.range m).all fun j => dstAt ops j != some d || (decide (j < i) && o.after.any fun e => e.on == j && Region.binds .any e)) &&
    ((List.range m).all fun j => j == i || dstAt ops j != o.dst) && o.dst.isSome && o.after.all fun e => !(Region.binds .any e) || decide (e.on < i)
   else (List.range m).all fun j => o.after.any fun e => e.on == j && Region.binds .any e))
def klB (ops : Array Oper) (m : Nat) (kl : KL) : Bool :=
 kl.all fun e => decide (e.1 < m) && decide (e.2.1 < e.1) && (match ops[e.1]? with
  | none => false
  | some o => o.after.any fun f => f.on == e.2.1 && Region.binds .any f) && ((List.range m).all fun k => k == e.1 || match ops[k]? with
  | none => true
  | some o => (o.looksAt ops).all fun d => dstAt ops e.2.1 != some d) && kl.all fun e' => (e'.1 != e.1 || e' == e) && (e'.2.1 != e.2.1 || e' == e)
theorem zp8 {ops : Array Oper} {m : Nat} {kl : KL} (h : klB ops m kl = true) {i j T : Nat} (he : (i, j, T) ∈ kl) : i < m ∧ j < i ∧ (∀ k o, k < m → k ≠ i → ops[k]? = some o → ∀ d ∈ o.looksAt ops, dstAt ops j ≠ some d) ∧
  kofV kl i = some T ∧ kbyV kl j = some (i, T) := by
 simp only [klB, List.all_eq_true, Bool.and_eq_true, decide_eq_true_eq, List.mem_range, Bool.or_eq_true, beq_iff_eq, bne_iff_ne, ne_eq] at h
 obtain ⟨⟨⟨⟨h1, h2⟩, _⟩, h3⟩, h4⟩ := h _ he
 refine ⟨h1, h2, fun k o hk hne ho d hd => ?_, ?_, ?_⟩
 ·rcases h3 k hk with h5 | h5
  ·exact absurd h5 hne
  ·rw [ho] at h5
   simp only [List.all_eq_true, bne_iff_ne, ne_eq] at h5
   exact h5 d hd
 ·unfold kofV
  cases hf : kl.find? fun e => e.1 == i with
  | none => have := List.find?_eq_none.1 hf _ he; simp at this
  | some e' =>
   have h6 : e'.1 = i := by simpa using List.find?_some hf
   rcases (h4 e' (List.mem_of_find?_eq_some hf)).1 with h7 | h7
   ·exact absurd h6 h7
   ·rw [h7]; rfl
 ·unfold kbyV
  cases hf : kl.find? fun e => e.2.1 == j with
  | none => have := List.find?_eq_none.1 hf _ he; simp at this
  | some e' =>
   have h6 : e'.2.1 = j := by simpa using List.find?_some hf
   rcases (h4 e' (List.mem_of_find?_eq_some hf)).2 with h7 | h7
   ·exact absurd h6 h7
   ·rw [h7]; rfl
theorem waitsK {ops : Array Oper} {m : Nat} {kl : KL} (h : klB ops m kl = true) {i j T : Nat} (he : (i, j, T) ∈ kl) {o : Oper} (ho : ops[i]? = some o) : ∃ e ∈ o.after, e.on = j ∧ Region.binds .any e = true := by
 simp only [klB, List.all_eq_true, Bool.and_eq_true] at h
 have h1 := (h _ he).1.1.2
 rw [ho] at h1
 obtain ⟨e, he, hb⟩ := Array.any_eq_true'.1 h1
 simp only [Bool.and_eq_true, beq_iff_eq] at hb
 exact ⟨e, he, hb.1, hb.2⟩
theorem kofV_mem {kl : KL} {i T : Nat} (h : kofV kl i = some T) : ∃ j, (i, j, T) ∈ kl := by
 unfold kofV at h
 obtain ⟨e, he, rfl⟩ := Option.map_eq_some_iff.1 h
 have h6 : e.1 = i := by simpa using List.find?_some he
 exact ⟨e.2.1, by rw [← h6]; exact List.mem_of_find?_eq_some he⟩
theorem kbyV_mem {kl : KL} {i j T : Nat} (h : kbyV kl j = some (i, T)) : (i, j, T) ∈ kl := by
 unfold kbyV at h
 obtain ⟨e, he, h⟩ := Option.map_eq_some_iff.1 h
 have h6 : e.2.1 = j := by simpa using List.find?_some he
 cases h
 rw [← h6]; exact List.mem_of_find?_eq_some he
def ixV (ops : Array Oper) (m : Nat) (d : Tmp) : Option Nat := (List.range m).find? fun j => dstAt ops j == some d
theorem ixV_some {ops : Array Oper} {m j : Nat} {d : Tmp} (h : ixV ops m d = some j) : j < m ∧ dstAt ops j = some d :=
 ⟨by simpa using List.mem_of_find?_eq_some h, by simpa using List.find?_some h⟩
def struck (kl : KL) (L : Nat → Bool) (j : Nat) (x : AV) : AV := match kbyV kl j with
 | some (i, T) => if L i = true then x.kill T else x
 | none => x
def Fv (s : St) (ops : Array Oper) (m : Nat) (kl : KL) (xs : List AV) (L : Nat → Bool) (d : Tmp) : Option AV :=
 match ixV ops m d with
 | some j => if L j = true then (xs[j]?).map (struck kl L j) else getF s.fr d
 | none => getF s.fr d
structure VSt (s : St) (ops : Array Oper) (m : Nat) (kl : KL) (xs : List AV) (L : Nat → Bool) (t : St) : Prop where
 n : t.n = s.n
 h : t.h = s.h
 fr : ∀ d, getF t.fr d = Fv s ops m kl xs L d
def Clear (s : St) (kl : KL) : Prop := ∀ e ∈ kl, (∀ d x, getF s.fr d = some x → x.kill e.2.2 = x) ∧ s.h.map (AObj.kill e.2.2) = s.h
def runV (P : Program) (ops : Array Oper) (kl : KL) (h0 : List AObj) : Nat → Nat → St → (St → Prop) → Prop
 | 0, _, t, K => K t
 | f + 1, i, t, K => ∃ o x t', ops[i]? = some o ∧ ER P ops.toList o t (x, h0, kofV kl i) ∧ app (x, h0, kofV kl i) o.dst t = some t' ∧ (∀ e ∈ kl, e.2.1 ≠ i → x.kill e.2.2 = x) ∧ runV P ops kl h0 f (i + 1) t' K
theorem wl9 {ops : Array Oper} {m : Nat} (h : valB ops m = true) : m ≤ ops.size ∧ ∀ i o, ops[i]? = some o → dcls o ≠ 9 ∧
  (i < m → (∀ d ∈ o.looksAt ops, ∀ j, j < m → dstAt ops j = some d → j < i ∧ ∃ e ∈ o.after, e.on = j ∧ Region.binds .any e = true) ∧ (∀ j, j < m → j ≠ i → dstAt ops j ≠ o.dst) ∧ o.dst.isSome = true ∧ ∀ e ∈ o.after, Region.binds .any e = true → e.on < i) ∧
  (m ≤ i → ∀ j, j < m → ∃ e ∈ o.after, e.on = j ∧ Region.binds .any e = true) := by
 simp only [valB, Bool.and_eq_true, decide_eq_true_eq, List.all_eq_true, List.mem_range] at h
 refine ⟨h.1, fun i o ho => ?_⟩
 have hi := h.2 i (Array.getElem?_eq_some_iff.1 ho).1
 rw [ho] at hi
 simp only [Bool.and_eq_true, bne_iff_ne, ne_eq] at hi
 refine ⟨hi.1, fun him => ?_, fun hmi j hj => ?_⟩
 ·have h2 := hi.2
  rw [if_pos him] at h2
  simp only [Bool.and_eq_true, List.all_eq_true, List.mem_range, Bool.or_eq_true, bne_iff_ne, ne_eq, decide_eq_true_eq, beq_iff_eq, Array.all_eq_true', Bool.not_eq_true'] at h2
  obtain ⟨⟨⟨a1, a2⟩, a3⟩, a4⟩ := h2
  refine ⟨fun d hd j hj hdj => ?_, fun j hj hne => ?_, a3, fun e he hb => ?_⟩
  ·rcases a1 d hd j hj with h3 | h3
   ·exact absurd hdj h3
   ·refine ⟨h3.1, ?_⟩
    obtain ⟨e, he, hb⟩ := Array.any_eq_true'.1 h3.2
    simp only [Bool.and_eq_true, beq_iff_eq] at hb
    exact ⟨e, he, hb.1, hb.2⟩
  ·rcases a2 j hj with h3 | h3
   ·exact absurd h3 hne
   ·exact h3
  ·rcases a4 e he with h3 | h3
   ·rw [hb] at h3; cases h3
   ·exact h3
 ·have h2 := hi.2
  rw [if_neg (by omega)] at h2
  simp only [List.all_eq_true, List.mem_range] at h2
  obtain ⟨e, he, hb⟩ := Array.any_eq_true'.1 (h2 j hj)
  simp only [Bool.and_eq_true, beq_iff_eq] at hb
  exact ⟨e, he, hb.1, hb.2⟩
variable {s : St} {ops : Array Oper} {m : Nat}
theorem ixV_dst (hv : valB ops m = true) {i : Nat} {o : Oper} {d : Tmp} (ho : ops[i]? = some o) (hi : i < m) (hd : o.dst = some d) : ixV ops m d = some i := by
 have hdi : dstAt ops i = some d := by simp [dstAt, ho, hd]
 cases h : ixV ops m d with
 | none =>
  have := List.find?_eq_none.1 h i (by simpa using hi)
  simp [hdi] at this
 | some j =>
  obtain ⟨h1, h2⟩ := ixV_some h
  by_cases hji : j = i
  ·rw [hji]
  ·exact absurd (h2.trans hd.symm) (((wl9 hv).2 i o ho).2.1 hi |>.2.1 j h1 hji)
theorem VSt.step (hv : valB ops m = true) {kl : KL} (hkl : klB ops m kl = true) (hcl : Clear s kl) {xs : List AV} {L L' : Nat → Bool} {t t' : St} {i : Nat} {o : Oper} {x : AV} (hxs : ∀ k y, xs[k]? = some y → ∀ e ∈ kl, e.2.1 ≠ k → y.kill e.2.2 = y)
  (h : VSt s ops m kl xs L t) (hi0 : L i = false) (hdep : ∀ j T, (j, i, T) ∈ kl → L j = false) (ho : ops[i]? = some o) (hi : i < m) (hx : xs[i]? = some x) (hp : app (x, s.h, kofV kl i) o.dst t = some t') (hL : ∀ j, L' j = (L j || j == i)) : VSt s ops m kl xs L' t' := by
 have hs := ((wl9 hv).2 i o ho).2.1 hi |>.2.2.1
 obtain ⟨d0, hd0⟩ := Option.isSome_iff_exists.1 hs
 have hix := ixV_dst hv ho hi hd0
 obtain ⟨_, p2, p3, p4⟩ := xk9 hp
 refine ⟨p2.trans h.n, p3, fun d => ?_⟩
 rw [p4, hd0]
 split
 ·rename_i he
  cases he
  simp only [Fv, hix, hL, beq_self_eq_true, Bool.or_true, if_true, hx, Option.map_some, struck]
  split
  ·rename_i j T hk
   have hm := kbyV_mem hk
   have hne : (j == i) = false := by have := (zp8 hkl hm).2.1; simp; omega
   rw [hdep j T hm, hne, Bool.or_false, if_neg (by simp)]
  ·rfl
 ·rename_i hne0
  have hne : d0 ≠ d := fun h => hne0 (by rw [h])
  rw [h.fr d]
  unfold Fv
  split
  ·rename_i j hj
   have hji : j ≠ i := by
    rintro rfl
    have := (ixV_some hj).2
    simp [dstAt, ho, hd0] at this
    exact hne this
   rw [hL, show (j == i) = false by simpa using hji, Bool.or_false]
   by_cases hLj : L j = true
   ·rw [if_pos hLj, if_pos hLj]
    cases hy : xs[j]? with
    | none => rfl
    | some y =>
     simp only [Option.map_some, Option.some.injEq]
     cases hk : kofV kl i with
     | none =>
      simp only [killO, struck]
      split
      ·rename_i i' T hk'
       have hii : i' ≠ i := by
        rintro rfl
        have := (zp8 hkl (kbyV_mem hk')).2.2.2.1
        rw [hk] at this; cases this
       rw [hL, show (i' == i) = false by simpa using hii, Bool.or_false]
      ·rfl
     | some T =>
      simp only [killO]
      obtain ⟨j', hm⟩ := kofV_mem hk
      by_cases hjj : j = j'
      ·subst hjj
       simp only [struck, (zp8 hkl hm).2.2.2.2, hi0, hL, beq_self_eq_true, Bool.or_true, if_true]
       rfl
      ·have hyk := hxs j y hy _ hm (Ne.symm hjj)
       simp only at hyk
       simp only [struck]
       split
       ·rename_i i' T' hk'
        have hii : i' ≠ i := by
         rintro rfl
         have hm' := kbyV_mem hk'
         obtain ⟨_, _, _, a, _⟩ := zp8 hkl hm
         obtain ⟨_, _, _, a', _⟩ := zp8 hkl hm'
         simp only [klB, List.all_eq_true, Bool.and_eq_true, Bool.or_eq_true, bne_iff_ne, ne_eq] at hkl
         rcases ((hkl _ hm).2 _ hm').1 with h9 | h9
         ·exact h9 rfl
         ·have h9 : (i', j, T') = (i', j', T) := by simpa using h9
          cases h9
          exact hjj rfl
        rw [hL, show (i' == i) = false by simpa using hii, Bool.or_false]
        split
        ·rw [kill_comm, hyk]
        ·exact hyk
       ·exact hyk
   ·rw [if_neg hLj, if_neg hLj]
    cases hg : getF s.fr d with
    | none => rfl
    | some y =>
     cases hk : kofV kl i with
     | none => rfl
     | some T =>
      obtain ⟨j', hm⟩ := kofV_mem hk
      simp only [Option.map_some, killO, (hcl _ hm).1 d y hg]
  ·cases hg : getF s.fr d with
   | none => rfl
   | some y =>
    cases hk : kofV kl i with
    | none => rfl
    | some T =>
     obtain ⟨j', hm⟩ := kofV_mem hk
     simp only [Option.map_some, killO, (hcl _ hm).1 d y hg]
def Done1 (P : Program) (s : St) (ops : Array Oper) (m : Nat) (kl : KL) (xs : List AV) (j : Nat) : Prop :=
 ∃ o x tj, ops[j]? = some o ∧ xs[j]? = some x ∧ VSt s ops m kl xs (fun k => decide (k < j)) tj ∧ ER P ops.toList o tj (x, s.h, kofV kl j) ∧ ∃ t1, app (x, s.h, kofV kl j) o.dst tj = some t1
theorem Fv_app {s : St} {ops : Array Oper} {m : Nat} {kl : KL} {xs ys : List AV} {L : Nat → Bool} (hL : ∀ j, L j = true → j < xs.length) (d : Tmp) : Fv s ops m kl (xs ++ ys) L d = Fv s ops m kl xs L d := by
 unfold Fv
 split
 ·rename_i j hj
  split
  ·rename_i h
   rw [List.getElem?_append_left (hL j h)]
  ·rfl
 ·rfl
theorem VSt.app {s : St} {ops : Array Oper} {m : Nat} {kl : KL} {xs ys : List AV} {L : Nat → Bool} {t : St} (hL : ∀ j, L j = true → j < xs.length) (h : VSt s ops m kl xs L t) : VSt s ops m kl (xs ++ ys) L t :=
 ⟨h.n, h.h, fun d => by rw [h.fr, Fv_app hL]⟩
def Fix (kl : KL) (xs : List AV) : Prop := ∀ k y, xs[k]? = some y → ∀ e ∈ kl, e.2.1 ≠ k → y.kill e.2.2 = y
theorem runV_all {s : St} {ops : Array Oper} {m : Nat} (hv : valB ops m = true) {kl : KL} (hkl : klB ops m kl = true) (hcl : Clear s kl) {K : St → Prop} : ∀ (f i : Nat) (t : St) (xs : List AV), i + f = m → xs.length = i → Fix kl xs → VSt s ops m kl xs (fun k => decide (k < i)) t → (∀ j, j < i → Done1 P s ops m kl xs j) →
  runV P ops kl s.h f i t K → ∃ xs t', xs.length = m ∧ Fix kl xs ∧ VSt s ops m kl xs (fun k => decide (k < m)) t' ∧ K t' ∧ ∀ j, j < m → Done1 P s ops m kl xs j
 | 0, i, t, xs, hi, hx, hF, hV, hd, h => by
  have : i = m := by omega
  subst this
  exact ⟨xs, t, hx, hF, hV, h, hd⟩
 | f + 1, i, t, xs, hi, hx, hF, hV, hd, h => by
  obtain ⟨o, x, t', ho, hE, hp, hk, hr⟩ := h
  have hV1 : VSt s ops m kl (xs ++ [x]) (fun k => decide (k < i)) t := hV.app fun j hj => by rw [hx]; simpa using hj
  have hxi : (xs ++ [x])[i]? = some x := by rw [← hx]; simp
  have hF2 : Fix kl (xs ++ [x]) := by
   intro k y hy e he hne
   rcases Nat.lt_or_ge k xs.length with h1 | h1
   ·rw [List.getElem?_append_left h1] at hy
    exact hF k y hy e he hne
   ·rw [List.getElem?_append_right h1] at hy
    cases hkk : k - xs.length with
    | zero =>
     rw [hkk] at hy
     simp only [List.getElem?_cons_zero, Option.some.injEq] at hy
     subst hy
     exact hk e he (by omega)
    | succ n => rw [hkk] at hy; simp at hy
  have hV2 : VSt s ops m kl (xs ++ [x]) (fun k => decide (k < i + 1)) t' := hV1.step hv hkl hcl hF2 (by simp) (fun j T hm => by have := (zp8 hkl hm).2.1; simp; omega) ho (by omega) hxi hp (fun j => by rw [Bool.eq_iff_iff]; simp; omega)
  refine runV_all hv hkl hcl f (i + 1) t' (xs ++ [x]) (by omega) (by simp [hx]) hF2 hV2 (fun j hj => ?_) hr
  rcases Nat.lt_or_ge j i with h1 | h1
  ·obtain ⟨o1, x1, tj, a1, a2, a3, a4, a5⟩ := hd j h1
   refine ⟨o1, x1, tj, a1, by rw [List.getElem?_append_left (by omega)]; exact a2, a3.app fun k hk => ?_, a4, a5⟩
   have : k < j := by simpa using hk
   rw [hx]; omega
  ·have : j = i := by omega
   subst this
   exact ⟨o, x, t, ho, hxi, hV1, hE, t', hp⟩
def cntU (p : Nat → Bool) : Nat → Nat
 | 0 => 0
 | n + 1 => cntU p n + if p n then 1 else 0
theorem cntU_zero {p : Nat → Bool} : ∀ {n : Nat}, cntU p n = 0 → ∀ j, j < n → p j = false
 | 0, _, j, hj => by omega
 | n + 1, h, j, hj => by
  simp only [cntU] at h
  rcases Nat.lt_or_ge j n with h1 | h1
  ·exact cntU_zero (by omega) j h1
  ·have : j = n := by omega
   subst this
   cases hp : p j with
   | false => rfl
   | true => simp [hp] at h
theorem cntU_pos {p : Nat → Bool} : ∀ {n : Nat}, cntU p n ≠ 0 → ∃ j, j < n ∧ p j = true ∧ ∀ k, k < j → p k = false
 | 0, h => absurd rfl h
 | n + 1, h => by
  by_cases h0 : cntU p n = 0
  ·refine ⟨n, by omega, ?_, cntU_zero h0⟩
   simp only [cntU, h0] at h
   cases hp : p n with
   | true => rfl
   | false => simp [hp] at h
  ·obtain ⟨j, h1, h2⟩ := cntU_pos h0
   exact ⟨j, by omega, h2⟩
theorem cntU_same {p q : Nat → Bool} : ∀ {n : Nat}, (∀ j, j < n → p j = q j) → cntU p n = cntU q n
 | 0, _ => rfl
 | n + 1, h => by simp only [cntU]; rw [h n (by omega), cntU_same (fun j hj => h j (by omega))]
theorem cntU_one {p q : Nat → Bool} {i : Nat} (hi : p i = true) (hq : ∀ j, q j = (p j && j != i)) : ∀ {n : Nat}, i < n → cntU p n = cntU q n + 1
 | 0, h => by omega
 | n + 1, h => by
  simp only [cntU]
  rcases Nat.lt_or_ge i n with h1 | h1
  ·rw [cntU_one hi hq h1, hq n, show (n != i) = true by simp; omega, Bool.and_true]; omega
  ·have : n = i := by omega
   subst this
   rw [hq n, hi]
   simp only [bne_self_eq_false, Bool.and_false, Bool.false_eq_true, if_false, if_true]
   rw [cntU_same (p := p) (q := q) fun j hj => by rw [hq j, show (j != n) = true by simp; omega, Bool.and_true]]
theorem cntU_true : ∀ n, cntU (fun _ => true) n = n
 | 0 => rfl
 | n + 1 => by simp [cntU, cntU_true n]
theorem cntU_false : ∀ n, cntU (fun _ => false) n = 0
 | 0 => rfl
 | n + 1 => by simp [cntU, cntU_false n]
def lmA' (ops : Array Oper) (m : Nat) : Array Bool := Array.ofFn (n := ops.size) fun j => decide (j.val < m)
theorem getD_lm {ops : Array Oper} {m j : Nat} (hm : m ≤ ops.size) : (lmA' ops m).getD j false = decide (j < m) := by
 simp only [lmA', Array.getD_eq_getD_getElem?, Array.getElem?_ofFn]
 split
 ·rfl
 ·simp; omega
theorem lm_eq {ops : Array Oper} {m : Nat} {L : Array Bool} (hm : m ≤ ops.size) (hs : L.size = ops.size) (h1 : ∀ j, j < m → L.getD j false = true) (h2 : ∀ j, m ≤ j → L.getD j false = false) : L = lmA' ops m := by
 apply Array.ext
 ·rw [hs]; simp [lmA']
 ·intro i hi hi2
  have e1 : L.getD i false = L[i] := by simp [Array.getD_eq_getD_getElem?, hi]
  have e2 : (lmA' ops m).getD i false = (lmA' ops m)[i] := by simp [Array.getD_eq_getD_getElem?, hi2]
  rw [← e1, ← e2, getD_lm hm]
  rcases Nat.lt_or_ge i m with h | h
  ·rw [h1 i h, decide_eq_true h]
  ·rw [h2 i h, decide_eq_false (by omega)]
theorem app_any {t1 t2 t1' : St} {e : Eff} {d : Option Tmp} (hn : t2.n = t1.n) (h : app e d t1 = some t1') : ∃ t2', app e d t2 = some t2' :=
 ws8 fun k hk => by rw [hn]; exact (xk9 h).1 k hk
theorem anyA_vals {s : St} {ops : Array Oper} {m : Nat} (hv : valB ops m = true) {kl : KL} (hkl : klB ops m kl = true) (hcl : Clear s kl) {Q : St → Prop} (hQ : Closed Q) {xs : List AV} (hF : Fix kl xs) (hall : ∀ j, j < m → Done1 P s ops m kl xs j) {tm : St} (htm : VSt s ops m kl xs (fun k => decide (k < m)) tm)
  (hK : anyA P ops Q (ops.size - m) (lmA' ops m) tm) : ∀ (k : Nat) (listed : Array Bool) (t : St), listed.size = ops.size → (∀ j, m ≤ j → listed.getD j false = false) → vm8 ops listed → cntU (fun j => !listed.getD j false) m = k →
   VSt s ops m kl xs (fun j => listed.getD j false) t → anyA P ops Q (k + (ops.size - m)) listed t
 | 0, listed, t, hsz, h2, hcL, hk, hV => by
  have h1 : ∀ j, j < m → listed.getD j false = true := fun j hj => by simpa using cntU_zero hk j hj
  rw [lm_eq (wl9 hv).1 hsz h1 h2, Nat.zero_add]
  refine anyA_closed hQ _ _ _ _ ⟨htm.n.trans hV.n.symm, htm.h.trans hV.h.symm, fun d => ?_⟩ hK
  rw [htm.fr, hV.fr]
  unfold Fv
  split
  ·rename_i j hj
   have hjm := (ixV_some hj).1
   simp only [decide_eq_true hjm, h1 j hjm, if_true]
   congr 1
   funext y
   unfold struck
   split
   ·rename_i i' T hk'
    have := (zp8 hkl (kbyV_mem hk')).1
    simp only [decide_eq_true this, h1 i' this]
   ·rfl
  ·rfl
 | k + 1, listed, t, hsz, h2, hcL, hk, hV => by
  rw [show k + 1 + (ops.size - m) = (k + (ops.size - m)) + 1 by omega]
  refine ⟨fun hr => ?_, fun i hi o ho => ?_⟩
  ·exfalso
   obtain ⟨j, h3, h4, h5⟩ := cntU_pos (p := fun j => !listed.getD j false) (n := m) (by omega)
   have hjs : j < ops.size := Nat.lt_of_lt_of_le h3 (wl9 hv).1
   have : j ∈ Region.ready .any ops listed := by
    refine mem_ready.2 ⟨?_, ops[j], by simp [hjs], fun e he hb => ?_⟩
    ·have h6 : listed.getD j false = false := by simpa using h4
     rw [Array.getD_eq_getD_getElem?] at h6 ⊢
     simpa [hsz, hjs] using h6
    ·have := ((wl9 hv).2 j ops[j] (by simp [hjs])).2.1 h3 |>.2.2.2 e he hb
     simpa using h5 e.on this
   rw [hr] at this
   cases this
  ·obtain ⟨hun, o', ho', hall'⟩ := mem_ready.1 hi
   rw [ho] at ho'
   cases ho'
   have hif : listed.getD i false = false := unl_false hun
   have hsp := (wl9 hv).2 i o ho
   rcases Nat.lt_or_ge i m with him | him
   ·obtain ⟨o1, x, tj, a1, a2, a3, a4, t1, a5⟩ := hall i him
    rw [ho] at a1
    cases a1
    have hL : Looks ops o tj t := fun d hd => by
     rw [a3.fr, hV.fr]
     unfold Fv
     split
     ·rename_i j hj
      obtain ⟨b1, b2⟩ := ixV_some hj
      obtain ⟨c1, e, he, rfl, hb⟩ := (hsp.2.1 him).1 d hd j b1 b2
      simp only [decide_eq_true c1, hall' e he hb, if_true]
      congr 1
      funext y
      unfold struck
      split
      ·rename_i i' T hk'
       have hm' := kbyV_mem hk'
       have hii : i = i' := by
        by_cases h : i = i'
        ·exact h
        ·exact absurd b2 ((zp8 hkl hm').2.2.1 i o him h ho d hd)
       subst hii
       simp [hif]
      ·rfl
     ·rfl
    obtain ⟨t', hp⟩ := app_any (hV.n.trans a3.n.symm) a5
    have hE := ww9 hL (a3.h.trans hV.h.symm) a4
    refine ⟨(x, s.h, kofV kl i), t', hE, hp, ?_⟩
    ·have hgi : ∀ j, (listed.setIfInBounds i true).getD j false = (listed.getD j false || j == i) := fun j => by
      by_cases hji : j = i
      ·subst hji
       simp [Array.getD_eq_getD_getElem?, hsz, Nat.lt_of_lt_of_le him (wl9 hv).1]
      ·rw [getD_set_ne false (Ne.symm hji)]; simp [hji]
     refine anyA_vals hv hkl hcl hQ hF hall htm hK k _ t' (by simpa using hsz) (fun j hj => ?_) (xf8 hcL hi) ?_ (hV.step hv hkl hcl hF hif (fun j T hm => ?_) ho him a2 hp hgi)
     ·rw [hgi, h2 j hj]; simp; omega
     ·have := cntU_one (p := fun j => !listed.getD j false) (q := fun j => !(listed.setIfInBounds i true).getD j false) (i := i) (by simp [hif]) (fun j => by simp only [hgi, Bool.not_or]; rfl) him
      omega
     ·
      obtain ⟨g1, g2, g3, g4, g5⟩ := zp8 hkl hm
      have hjs : j < ops.size := Nat.lt_of_lt_of_le g1 (wl9 hv).1
      have hbs := waitsK hkl hm (by simp [hjs] : ops[j]? = some ops[j])
      cases hlj : listed.getD j false with
      | false => rfl
      | true =>
       obtain ⟨e, he, rfl, hb⟩ := hbs
       have := hcL j ops[j] (by simp [hjs]) hlj e he hb
       rw [hif] at this; cases this
   ·exfalso
    have h6 : cntU (fun j => !listed.getD j false) m = 0 := by
     rw [cntU_same (q := fun _ => false) fun j hj => ?_]
     ·exact cntU_false m
     ·obtain ⟨e, he, rfl, hb⟩ := hsp.2.2 him j hj
      simp [hall' e he hb]
    omega
theorem W_vals {top : Bool} {kf : Nat} {id : Nat} {ops : Array Oper} {Q : Exit → St → Prop} {s : St} (m : Nat) (kl : KL) (hm : P.follows .mixedOrders = true)
  (hd : (valB ops m && klB ops m kl && lexD ops (ops.size - m) m (lmA' ops m)) = true) (hcl : Clear s kl) (h : runV P ops kl s.h m 0 s fun t => runE P ops.toList (ops.toList.drop m) t fun s' => Q .normal s') :
  Wt top kf P (.region id ops true) Q s := by
 intro F n c w a hF hs
 simp only [Bool.and_eq_true] at hd
 obtain ⟨⟨hv, hkl⟩, hlex⟩ := hd
 have hms := (wl9 hv).1
 have h9 : ∀ (i : Nat) (o : Oper), ops[i]? = some o → dcls o ≠ 9 := fun i o ho => ((wl9 hv).2 i o ho).1
 refine wpIn_region_any hm ?_
 let Q' : St → Prop := fun s => ∃ t, Eqv s t ∧ Q .normal t
 have hQ' : Closed Q' := fun s t h ⟨u, h1, h2⟩ => ⟨u, h.symm.trans h1, h2⟩
 have mono : ∀ (l : List Oper) (s : St), runE P ops.toList l s (fun s' => Q .normal s') → runE P ops.toList l s Q' := by
  intro l
  induction l with
  | nil => exact fun s h => ⟨s, Eqv.refl s, h⟩
  | cons o l ih => exact fun s h => wv9 (fun s1 => ih s1) h
 have hFv0 : ∀ (xs : List AV) (L : Nat → Bool), (∀ j, L j = false) → VSt s ops m kl xs L s := fun xs L hL => ⟨rfl, rfl, fun d => by
  unfold Fv
  split
  ·rw [hL, if_neg (by simp)]
  ·rfl⟩
 obtain ⟨xs, tm, hx, hF', htm, hK, hall⟩ := runV_all hv hkl hcl m 0 s [] (by omega) rfl (fun k y hy => by simp at hy) (hFv0 _ _ (by simp)) (fun j hj => by omega) h
 have hrep : ∀ j, (Array.replicate ops.size false).getD j false = false := fun j => by
  rcases Nat.lt_or_ge j ops.size with h' | h' <;> simp [Array.getD_eq_getD_getElem?, h']
 have hany : anyA P ops Q' ops.size (Array.replicate ops.size false) s := by
  have h1 := anyA_vals hv hkl hcl hQ' hF' hall htm (by
   have := anyA_lex hQ' (ops.toList.drop m) m (lmA' ops m) tm (by simp) (fun j oj hj hl e he hb => ?_) (by simpa using hlex) (mono _ _ hK)
   ·simpa using this
   ·rw [getD_lm hms] at hl ⊢
    have hj' : j < m := by simpa using hl
    have := ((wl9 hv).2 j oj hj).2.1 hj' |>.2.2.2 e he hb
    simp; omega) m (Array.replicate ops.size false) s (by simp) (fun j _ => hrep j) (fun j oj _ hl => by rw [hrep] at hl; cases hl) ?_ (hFv0 _ _ hrep)
  ·rwa [show m + (ops.size - m) = ops.size by omega] at h1
  ·rw [cntU_same (q := fun _ => true) fun j _ => by rw [hrep]; rfl]
   exact cntU_true m
 have := anyA_wp (n := n) hF.1 h9 _ _ s c w.drew a hs.drew hany
 refine xm9 ?_ _ _ _ _ this
 rintro e a2 w2 ⟨s2, c2, q, hs2, he2⟩
 cases e with
 | normal =>
  obtain ⟨t, h1, h2⟩ := q
  exact ⟨t, c2, h2, hs2.eqv h1, ((xj9 c w).trans he2).toK hF.2.2⟩
 | _ => exact q.elim
theorem zn8 {ops : Array Oper} {kl : KL} {h0 : List AObj} {f i : Nat} {t t' : St} {K : St → Prop} {o : Oper} {x : AV} (ho : ops[i]? = some o) (hg : zb9 ops.toList t o = some true) (hn : vc9 P t o = true) (he : evE P o t = some (x, h0, kofV kl i)) (hp : app (x, h0, kofV kl i) o.dst t = some t')
  (hk : ∀ e ∈ kl, e.2.1 ≠ i → x.kill e.2.2 = x) (h : runV P ops kl h0 f (i + 1) t' K) : runV P ops kl h0 (f + 1) i t K :=
 ⟨o, x, t', ho, .inr ⟨hg, .inl ⟨he, hn⟩⟩, hp, hk, h⟩
theorem clear_of {s : St} {kl : KL} (h : ∀ e ∈ kl, killF e.2.2 s.fr = s.fr ∧ s.h.map (AObj.kill e.2.2) = s.h) : Clear s kl := fun e he => by
 refine ⟨fun d x hx => ?_, (h e he).2⟩
 have := yb8 e.2.2 s.fr d
 rw [(h e he).1, hx] at this
 simpa using this.symm
end
end Go.AM
namespace Go.AM
open Go.RowKit
section
variable {P : Program} {c : Ctx} {w : World} {s : St} {a : Act}
end
end Go.AM
namespace Go.AM
open Go.RowKit
section
variable {P : Program} {c : Ctx} {w : World} {s : St} {a : Act} {top : Bool} {kf : Nat}
end
end Go.AM
namespace Go.AM
open Go.RowKit
set_option linter.unusedSimpArgs false
set_option linter.unusedVariables false
section
variable {P : Program}
section
variable {c c' : Ctx} {w w' : World}
end
end
section
variable {P : Program} {top : Bool} {kf : Nat} {Q : Exit → St → Prop} {s s' : St}
theorem W_cF {id c : Nat} {ops : Array Oper} {x y : Code} (ks : List Nat) (h : (evRun P ops.toList ops.toList s).map (fun s => ⟨s.n, zs8 ks s.fr, s.h⟩) = some s') (hc : getF s'.fr c = some (.v (.bool false))) (hq : Wt top kf P y Q s') : Wt top kf P (.seq (.region id ops false) (.cond (.tmp c) x y)) Q s :=
 yt9 ks h (yd9 (t := false) hc (fun h => by cases h) fun _ => hq)
theorem W_cT {id c : Nat} {ops : Array Oper} {x y : Code} (ks : List Nat) (h : (evRun P ops.toList ops.toList s).map (fun s => ⟨s.n, zs8 ks s.fr, s.h⟩) = some s') (hc : getF s'.fr c = some (.v (.bool true))) (hq : Wt top kf P x Q s') : Wt top kf P (.seq (.region id ops false) (.cond (.tmp c) x y)) Q s :=
 yt9 ks h (yd9 (t := true) hc (fun _ => hq) fun h => by cases h)
end
end Go.AM
set_option linter.unusedSimpArgs false
set_option linter.unusedVariables false
namespace Go.AM
open Go.RowKit
end Go.AM
set_option linter.unusedSimpArgs false
set_option linter.unusedVariables false
namespace Go.AM
open Go.RowKit
section
variable {P : Program}
def runN (P : Program) (hb : Nat → Bool) (kn : KnF) (n : Nat) (top : Bool) : Nat → Code → St → Option St
 | 0, _, s => some s
 | k + 1, .seq a b, s => match HX.exec P hb kn n top a s with
  | some (.normal, s') => runN P hb kn n top k b s'
  | _ => none
 | _, _, _ => none
def restN : Nat → Code → Code
 | 0, c => c
 | k + 1, .seq _ b => restN k b
 | _, c => c
theorem W_runN {hb : Nat → Bool} {kn : KnF} (hkn : KnOk P kn) (hm : P.follows .mixedOrders = true) (n : Nat) {top : Bool} {kf : Nat} {Q : Exit → St → Prop} : ∀ (k : Nat) (code : Code) (s s' : St), runN P hb kn n top k code s = some s' → Wt top kf P (restN k code) Q s' → Wt top kf P code Q s
 | 0, code, s, s', h, hW => by
  simp only [runN, Option.some.injEq] at h
  subst h
  exact hW
 | k + 1, code, s, s', h, hW => by
  cases code with
  | seq a b =>
   simp only [runN] at h
   split at h
   ·rename_i s1 he
    refine yk9 (HX.exec_sound hkn hm n top kf a s .normal s1 _ he ?_)
    exact W_runN hkn hm n k b s1 s' h hW
   ·cases h
  | _ => simp [runN] at h
theorem W_runK {hb : Nat → Bool} {kn : KnF} (hkn : KnOk P kn) (hm : P.follows .mixedOrders = true) (n k : Nat) (ks : List Nat) {top : Bool} {kf : Nat} {Q : Exit → St → Prop} {code rest : Code} {s s' : St} (hr : restN k code = rest) (h : (runN P hb kn n top k code s).map (keepS ks) = some s')
  (hW : Wt top kf P rest Q s') : Wt top kf P code Q s := by
 obtain ⟨s1, h1, rfl⟩ := Option.map_eq_some_iff.1 h
 subst hr
 exact W_runN hkn hm n k code s s1 h1 (zc9 ks hW)
theorem W_runE {hb : Nat → Bool} {kn : KnF} (hkn : KnOk P kn) (hm : P.follows .mixedOrders = true) (n k n0 : Nat) (l : List (Nat × AV)) {top : Bool} {kf : Nat} {Q : Exit → St → Prop} {code rest : Code} {s : St} (hr : restN k code = rest)
  (h : (runN P hb kn n top k code s).map (fun s => (s.n, l.map fun p => getF s.fr p.1)) = some (n0, l.map fun p => some p.2)) (hW : ∀ H, Wt top kf P rest Q ⟨n0, l, H⟩) : Wt top kf P code Q s := by
 obtain ⟨s1, h1, h2⟩ := Option.map_eq_some_iff.1 h
 simp only [Prod.mk.injEq] at h2
 subst hr
 have key : ∀ l : List (Nat × AV), (l.map fun p => getF s1.fr p.1) = (l.map fun p => some p.2) → FrOk l s1.fr := by
  intro l
  induction l with
  | nil => intro _; trivial
  | cons p l ih =>
   intro h
   simp only [List.map_cons, List.cons.injEq] at h
   exact ⟨h.1, ih h.2⟩
 exact W_runN hkn hm n k code s s1 h1 (W_at ⟨h2.1, rfl, key l h2.2⟩ (hW s1.h))
theorem W_dpObj {top : Bool} {kf : Nat} {code : Code} {Q : Exit → St → Prop} {s : St} (b : Nat) {ty : TypeId} {cs : List AV} (hb : s.h[b]? = some (.cells ty cs)) (h : Wt top kf P code Q ⟨s.n, s.fr, s.h.set b (.cells ty (AV.dpL cs))⟩) : Wt top kf P code Q s := by
 refine W_conv (fun c w a hs => ?_) h
 refine ⟨hs.n, hs.base, hs.fr, ⟨by simp only [List.length_set]; exact hs.h.no, hs.h.lt, hs.h.inj, fun i o hi => ?_⟩, hs.dfr⟩
 simp only at hi
 rw [List.getElem?_set] at hi
 split at hi
 ·rename_i e
  subst e
  split at hi
  ·cases hi
   obtain ⟨h1, h2, h3, cur, h4, h5, h6⟩ := hs.h.obj b _ hb
   refine ⟨h1, h2, h3, cur, h4, by rw [wm9]; exact h5, fun j y hj => ?_⟩
   rw [vv8] at hj
   obtain ⟨x, hx, rfl⟩ := Option.map_eq_some_iff.1 hj
   obtain ⟨k1, _, k3⟩ := h6 j x hx
   exact ⟨k1.dp, .none (AV.tl_dp _), k3⟩
  ·cases hi
 ·exact hs.h.obj i o hi
def isRetX : Exit → Bool
 | .ret => true
 | _ => false
theorem W_runR {hb : Nat → Bool} {kn : KnF} (hkn : KnOk P kn) (hm : P.follows .mixedOrders = true) (n : Nat) (rs : List ResultVar) (v : Value) {top : Bool} {kf : Nat} {code : Code} {Q : Exit → St → Prop} {s : St}
  (h : ((HX.exec P hb kn n top code s).map fun p => (isRetX p.1, resA P p.2 rs)) = some (true, some (.v v))) (hQ : ∀ s', resA P s' rs = some (.v v) → Q .ret s') : Wt top kf P code Q s := by
 obtain ⟨⟨e, s'⟩, h1, h2⟩ := Option.map_eq_some_iff.1 h
 simp only [Prod.mk.injEq] at h2
 refine HX.exec_sound hkn hm n top kf code s e s' Q h1 ?_
 cases e with
 | ret => exact hQ s' h2.2
 | _ => exact absurd h2.1 (by simp [isRetX])
end
end Go.AM
