/- The abstract machine: runs by computation, and the step to a given statement. -/
import Derived.Carry
import Derived.ChangeArms
import Derived.Deep.Slices
import Derived.ProofKit
import Derived.SizedLaws
import Derived.Test.YtlhaljblcimnbaaAmB
set_option linter.unusedVariables false
set_option linter.unusedSimpArgs false
set_option linter.unusedSimpArgs false
set_option linter.unusedVariables false
namespace Go.AM
open Go.RowKit
section
variable {P : Program}
inductive Ord where
 | done
 | one (k : Nat) (t : Ord)
 | two (i j : Nat) (t1 t2 : Ord)
end
end Go.AM
namespace Go.AM
open Go.RowKit
section
variable {P : Program} {top : Bool} {kf : Nat}
def ev1 (P : Program) (ops : List Oper) (o : Oper) (s : St) : Option St :=
 match zb9 ops s o with
 | some true => evOp P o s
 | some false => s.put o.dst (.v undef)
 | none => none
def evRun (P : Program) (ops : List Oper) : List Oper → St → Option St
 | [], s => some s
 | o :: l, s => (ev1 P ops o s).bind (evRun P ops l)
theorem evRun_runA {ops : List Oper} : ∀ {l : List Oper} {s s' : St} {K : St → Prop}, evRun P ops l s = some s' → K s' → runA P ops l s K
 | [], s, s', K, h, hk => by simp only [evRun, Option.some.injEq] at h; subst h; exact hk
 | o :: l, s, s', K, h, hk => by
  simp only [evRun] at h
  obtain ⟨s1, h1, h2⟩ := Option.bind_eq_some_iff.1 h
  have rest := evRun_runA (K := K) h2 hk
  simp only [runA, xl8]
  unfold ev1 at h1
  split at h1
  ·rename_i hg; rw [hg]; exact .inl ⟨s1, h1, rest⟩
  ·rename_i hg; rw [hg]; exact ⟨s1, h1, rest⟩
  ·cases h1
theorem evRun_app {ops : List Oper} {l2 : List Oper} : ∀ {l1 : List Oper} {s s' : St} {K : St → Prop}, evRun P ops l1 s = some s' → runA P ops l2 s' K → runA P ops (l1 ++ l2) s K
 | [], s, s', K, h, hk => by simp only [evRun, Option.some.injEq] at h; subst h; exact hk
 | o :: l, s, s', K, h, hk => by
  simp only [evRun] at h
  obtain ⟨s1, h1, h2⟩ := Option.bind_eq_some_iff.1 h
  have rest := evRun_app (K := K) h2 hk
  simp only [List.cons_append, runA, xl8]
  unfold ev1 at h1
  split at h1
  ·rename_i hg; rw [hg]; exact .inl ⟨s1, h1, rest⟩
  ·rename_i hg; rw [hg]; exact ⟨s1, h1, rest⟩
  ·cases h1
def zs8 (ks : List Nat) : List (Nat × AV) → List (Nat × AV)
 | [] => []
 | (i, x) :: l => if ks.contains i then (i, x) :: zs8 ks l else zs8 ks l
theorem getF_keepF {ks : List Nat} {fr : List (Nat × AV)} {i : Nat} {x : AV} (h : getF (zs8 ks fr) i = some x) : getF fr i = some x := by
 induction fr with
 | nil => exact h
 | cons p l ih =>
  obtain ⟨j, y⟩ := p
  simp only [zs8] at h
  by_cases hj : i = j
  ·subst hj
   split at h
   ·simpa [getF] using h
   ·rename_i hk
    exfalso
    have : ∀ l : List (Nat × AV), getF (zs8 ks l) i = some x → ks.contains i = true := by
     intro l
     induction l with
     | nil => intro h; simp [zs8, getF] at h
     | cons p l ih =>
      obtain ⟨j, y⟩ := p
      intro h
      simp only [zs8] at h
      split at h
      ·rename_i hk
       simp only [getF] at h
       split at h
       ·rename_i e; rw [e]; exact hk
       ·exact ih h
      ·exact ih h
    exact hk (this l h)
  ·simp only [getF, if_neg hj]
   split at h
   ·simp only [getF, if_neg hj] at h; exact ih h
   ·exact ih h
theorem SimSt.keep {c : Ctx} {w : World} {s : St} {a : Act} (hs : SimSt P c w s a) (ks : List Nat) : SimSt P c w { s with fr := zs8 ks s.fr } a :=
 ⟨hs.n, hs.base, fun i x hx => hs.fr i x (getF_keepF hx), hs.h, hs.dfr⟩
theorem W_keep {code : Code} {Q : Exit → St → Prop} {s : St} (ks : List Nat) (h : Wt top kf P code Q { s with fr := zs8 ks s.fr }) : Wt top kf P code Q s :=
 fun F n c w a hF hs => h F n c w a hF (hs.keep ks)
theorem W_ev {id : Nat} {ops : Array Oper} {Q : Exit → St → Prop} {s s' : St} (h : evRun P ops.toList ops.toList s = some s') (hq : Q .normal s') : Wt top kf P (.region id ops false) Q s :=
 W_region (evRun_runA h hq)
theorem wk9 {code : Code} {Q : Exit → St → Prop} {s : St} (ks : List Nat) (h : Wt top kf P code (fun e s => Q e { s with fr := zs8 ks s.fr }) s) : Wt top kf P code Q s :=
 fun F n c w a hF hs => wpIn_mono (h F n c w a hF hs) fun _ _ _ ⟨_, c', q, hs', he⟩ => ⟨_, c', q, hs'.keep ks, he⟩
theorem zl9 {id : Nat} {ops : Array Oper} {Q : Exit → St → Prop} {s s' : St} (ks : List Nat) (h : (evRun P ops.toList ops.toList s).map (fun s => ⟨s.n, zs8 ks s.fr, s.h⟩) = some s') (hq : Q .normal s') : Wt top kf P (.region id ops false) Q s := by
 obtain ⟨s1, h1, rfl⟩ := Option.map_eq_some_iff.1 h
 exact wk9 ks (W_ev h1 hq)
theorem yt9 {id : Nat} {ops : Array Oper} {y : Code} {Q : Exit → St → Prop} {s s' : St} (ks : List Nat) (h : (evRun P ops.toList ops.toList s).map (fun s => ⟨s.n, zs8 ks s.fr, s.h⟩) = some s') (hq : Wt top kf P y Q s') : Wt top kf P (.seq (.region id ops false) y) Q s :=
 yk9 (zl9 ks h hq)
end
end Go.AM
namespace Go.AM
open Go.RowKit
attribute [simp] evRun ev1 zb9 evOp wp9 St.evT St.ev evAll evOpt evParts evOpts St.put numF putF getF absV nilTy zs8 killFO killF wr9 AV.kill AV.killL AObj.kill
 xp9 evAppend xp8 evStore evAlloc evBox vc8 catK AV.cellsK AV.kone AV.koneL AV.weak AV.weakL AV.dp AV.dpL AV.norm AV.normL AV.rf AV.rfL AV.tl AV.tlL frzV frzL tipA binA intA unA cvA lenA loadA vp9 idxA
 evMakeMap yg8 yc8 mapOf wc8 mfind mset Instr.sameNow yb9 zr8 AV.killS AV.killSL AV.toks AV.toksL AObj.toks yq7 AV.under AV.underL AObj.under xq9 ys9
 fieldA yf8 yt7 wg8 Fl.keepNil Fl.wk tokA exOk capA bnd wt8 objLoad wj8 site AV.cells AV.one fillA resL resA yp9 inBlk nilSl nilPtr nilFn min2A max2A foldA
@[simp] theorem oneCell_int (k : IntKind) (n : Int) : Value.oneCell' (.int k n) = true := rfl
@[simp] theorem oneCell_bool (b : Bool) : Value.oneCell' (.bool b) = true := rfl
@[simp] theorem oneCell_string (b : ByteArray) : Value.oneCell' (.string b) = true := rfl
theorem w64 {n : Int} (h1 : -9223372036854775808 ≤ n) (h2 : n ≤ 9223372036854775807) : IntKind.i64.wrap n = n := by
 simp [IntKind.wrap, IntKind.signed, IntKind.bits]; omega
def byL (l : List UInt8) : List AV := l.map fun b => .v (.int .u8 b.toNat)
@[simp] theorem byL_length (l : List UInt8) : (byL l).length = l.length := by simp [byL]
@[simp] theorem byL_nil : byL [] = [] := rfl
theorem vs9 (b : UInt8) (l : List UInt8) : byL (b :: l) = .v (.int .u8 b.toNat) :: byL l := rfl
theorem vq9 (l m : List UInt8) : byL (l ++ m) = byL l ++ byL m := by simp [byL]
@[simp] theorem byL_getElem (l : List UInt8) (i : Nat) (h : i < (byL l).length) : (byL l)[i] = .v (.int .u8 (l[i]'(by simpa using h)).toNat) := by simp [byL]
theorem byL_take (l : List UInt8) (n : Nat) : byL (l.take n) = (byL l).take n := by simp [byL]
theorem byL_drop (l : List UInt8) (n : Nat) : byL (l.drop n) = (byL l).drop n := by simp [byL]
theorem byL_set (l : List UInt8) (n : Nat) (b : UInt8) : byL (l.set n b) = (byL l).set n (.v (.int .u8 b.toNat)) := by simp [byL]
theorem byL_get (l : List UInt8) (i : Nat) : (byL l)[i]? = (l[i]?).map fun b => .v (.int .u8 b.toNat) := by simp [byL]
end Go.AM
set_option linter.unusedSimpArgs false
namespace Go.AM
open Go.RowKit
abbrev KnF := FuncId → List AV → Option AV
def KnOk (P : Program) (kn : KnF) : Prop := ∀ f args r, kn f args = some r → Sound P f args r
abbrev zq8 := Bool → Code → St → Option (Exit × St)
section
variable (P : Program)
def callX (ex : zq8) (f : FuncId) (args : List AV) (h : List AObj) : Option (AV × List AObj) :=
 match P.funcs[f]? with
 | some fn => match fn.body with
  | some code => if (fn.name == "runtime.NumGoroutine") = false ∧ args.length ≤ fn.ntmps then
    match ex true code ⟨fn.ntmps, numF 0 args, h⟩ with
    | some (.normal, s) | some (.ret, s) => if h.length ≤ s.h.length then (resA P s fn.results.toList).bind fun x =>
      if x.under h.length && ys9 h.length (s.h.take h.length) then some (x, s.h.take h.length) else if x.under s.h.length && ys9 s.h.length s.h then some (x, s.h) else none else none
    | _ => none
   else none
  | none => none
 | none => none
def yldX (ex : zq8) (id n : Nat) (fr : List (Nat × AV)) (as body : Code) (h : List AObj) : Option (Bool × List AObj) :=
 match ex false as ⟨n, fr, h⟩ with
 | some (.normal, s1) => match s1.h[id]? with
  | some (.loop n' fr' ps' as' body' .ready) => match ex false body ⟨s1.n, s1.fr, s1.h.set id (.loop n' fr' ps' as' body' .busy)⟩ with
   | some (e, s2) => match s2.h[id]?, endsAs e with
    | some (.loop n2 fr2 ps2 as2 body2 .busy), some (st, b) =>
     let h2 := s2.h.set id (.loop n2 fr2 ps2 as2 body2 st)
     if h.length ≤ s2.h.length then
      if ys9 h.length (h2.take h.length) then some (b, h2.take h.length) else if ys9 s2.h.length h2 then some (b, h2) else none
     else none
    | _, _ => none
   | none => none
  | _ => none
 | _ => none
def callP (ex : zq8) (f : FuncId) (args : List AV) : Option AV :=
 match P.funcs[f]? with
 | some fn => match fn.body with
  | some code => if (fn.name == "runtime.NumGoroutine") = false ∧ args.length ≤ fn.ntmps ∧ AV.rfL args = true ∧ AV.tlL args = true then
    match ex true code ⟨fn.ntmps, numF 0 args, []⟩ with
    | some (.normal, s) | some (.ret, s) => (resA P s fn.results.toList).bind fun x => (frzV P 1 s.h x).bind fun (r, _) => if r.rf then some r else none
    | _ => none
   else none
  | none => none
 | none => none
def opX (kn : KnF) (ex : zq8) (draw : Bool) (o : Oper) (s : St) : Option St :=
 match o.op with
 | .call c => match c.callee with
  | .value fo => match yb9 s c.callee with
   | some (f, l1, l2) => if c.args.size ≤ c.argTypes.size then
     (evOpts P s (c.args.toList.zip c.argTypes.toList)).bind fun xs =>
      if draw then
       (if AV.flatL xs && AV.rfL (AV.dpL (l1 ++ xs ++ l2)) then (match kn f (AV.dpL (l1 ++ xs ++ l2)) with | some r => some r | none => callP P ex f (AV.nlL (l1 ++ xs ++ l2))).bind fun r => s.put o.dst (r.norm (site o)) else none)
      else match (prep P s (site o) l1 (c.args.toList.zip c.argTypes.toList) l2).bind fun x => (kn f x.1).map fun r => (r, x.2) with
      | some (r, h') => (⟨s.n, s.fr, h'⟩ : St).put o.dst (r.norm (site o))
      | none => (callX P ex f (l1 ++ xs ++ l2) s.h).bind fun (r, h') => (⟨s.n, zr8 (AV.toksL (l1 ++ xs ++ l2) ++ yq7 s.h) s.fr, h'⟩ : St).put o.dst r
     else none
   | none => if draw then none else match s.ev fo with
     | some (.yld id) => match s.h[id]? with
      | some (.loop n fr ps as body .ready) => (evOpts P s (c.args.toList.zip c.argTypes.toList)).bind fun xs =>
        if c.args.size ≤ c.argTypes.size ∧ xs.length = ps.length ∧ (ps.all fun p => decide (p < n)) = true then
         (yldX ex id n (setF fr ps (AV.weakL xs)) as body s.h).bind fun (b, h') => (⟨s.n, zr8 (yq7 s.h) s.fr, h'⟩ : St).put o.dst (.v (.bool b))
        else none
      | _ => none
     | _ => none
  | _ => if draw && !vc9 P s o then none else evOp P o s
 | .convert _ _ _ => if draw then evOp P o s else match evSame P s o with
  | some s' => some s'
  | none => evOp P o s
 | _ => evOp P o s
def opsX (kn : KnF) (ex : zq8) (draw : Bool) (ops : List Oper) : List Oper → St → Option St
 | [], s => some s
 | o :: l, s => (match zb9 ops s o with
  | some true => match opX P kn ex draw o s with
   | some s' => some s'
   | none => if draw then none else if zb9 ops (frzO P s o) o = some true then opX P kn ex draw o (frzO P s o) else none
  | some false => s.put o.dst (.v undef)
  | none => none).bind (opsX kn ex draw ops l)
def afterX (s : St) (h : List AObj) : Option (Exit × St) :=
 match h[s.h.length]? with
 | some (.loop _ _ _ _ _ .ready) => some (.normal, ⟨s.n, s.fr, h.set s.h.length .dead⟩)
 | some (.loop _ _ _ _ _ (.done .ret)) => some (.ret, ⟨s.n, s.fr, h.set s.h.length .dead⟩)
 | some (.loop _ _ _ _ _ (.done (.exit id))) => some (.exit id, ⟨s.n, s.fr, h.set s.h.length .dead⟩)
 | some (.loop _ _ _ _ _ (.done (.goto id))) => some (.goto id, ⟨s.n, s.fr, h.set s.h.length .dead⟩)
 | _ => none
def exec (kn : KnF) : Nat → zq8
 | 0, _, _, _ => none
 | n + 1, top, c, s => match c with
  | .skip => some (.normal, s)
  | .label _ => some (.normal, s)
  | .scope x => match exec kn n top x s with
   | some (.goto _, _) => none
   | r => r
  | .ret => some (.ret, s)
  | .exit id => some (.exit id, s)
  | .seq x y => match exec kn n top x s with
   | some (.normal, s1) => exec kn n top y s1
   | r => r
  | .cond o x y => match s.ev o with
   | some (.v (.bool true)) => exec kn n top x s
   | some (.v (.bool false)) => exec kn n top y s
   | _ => none
  | .block id x => match exec kn n top x s with
   | some (.exit i, s1) => if i = id then some (.normal, s1) else some (.exit i, s1)
   | r => r
  | .loop body => match exec kn n top body s with
   | some (.normal, s1) => exec kn n top (.loop body) s1
   | r => r
  | .region _ ops draw => if draw && !drawB ops then none else match opsX P kn (exec kn n) draw ops.toList ops.toList s with
   | some s' => some (.normal, s')
   | none => if draw then (opsX P kn (exec kn n) draw ops.toList ops.toList (ops.toList.foldl (frzO P) s)).map fun s' => (.normal, s') else none
  | .rangeFunc g ps as body => if top then match yb9 s (.value g) with
    | some (f, l1, l2) => (callX P (exec kn n) f (l1 ++ [.yld s.h.length] ++ l2) (s.h ++ [.loop s.n (weakF s.fr) ps.toList as body .ready])).bind fun (_, h') =>
      afterX ⟨s.n, zr8 (AV.toksL (l1 ++ [.yld s.h.length] ++ l2) ++ yq7 (s.h ++ [.loop s.n (weakF s.fr) ps.toList as body .ready])) s.fr, s.h⟩ h'
    | none => none
   else none
  | _ => none
end
section
variable {P : Program}
theorem xh8 {ex : zq8} (hex : ∀ top kf c s e s' Q, ex top c s = some (e, s') → Q e s' → Wt top kf P c Q s) {f : FuncId} {args : List AV} {h h' : List AObj} {r : AV} (hc : callX P ex f args h = some (r, h')) :
  xl9 P f args h fun r1 h1 => r1 = r ∧ h1 = h' := by
 unfold callX at hc
 split at hc
 ·rename_i fn hf
  split at hc
  ·rename_i code hb
   split at hc
   ·rename_i hn
    have fin : ∀ e s, (e = Exit.normal ∨ e = .ret) → ex true code ⟨fn.ntmps, numF 0 args, h⟩ = some (e, s) →
      (if h.length ≤ s.h.length then (resA P s fn.results.toList).bind fun x =>
      if x.under h.length && ys9 h.length (s.h.take h.length) then some (x, s.h.take h.length) else if x.under s.h.length && ys9 s.h.length s.h then some (x, s.h) else none else none) = some (r, h') →
      xl9 P f args h fun r1 h1 => r1 = r ∧ h1 = h' := by
     intro e s he hr hc
     split at hc
     ·rename_i hle
      obtain ⟨x, hx, hc⟩ := Option.bind_eq_some_iff.1 hc
      split at hc
      ·rename_i hu
       simp only [Option.some.injEq, Prod.mk.injEq] at hc
       obtain ⟨rfl, rfl⟩ := hc
       simp only [Bool.and_eq_true] at hu
       exact zs9 hf hb hn.1 hn.2 rfl (hex _ _ _ _ _ _ _ hr ⟨he, x, x, s.h, h.length, hx, .inl ⟨rfl, rfl⟩, Nat.le_refl _, hle, hu.1, hu.2, rfl, rfl⟩)
      ·split at hc
       ·rename_i hu
        simp only [Option.some.injEq, Prod.mk.injEq] at hc
        obtain ⟨rfl, rfl⟩ := hc
        simp only [Bool.and_eq_true] at hu
        exact zs9 hf hb hn.1 hn.2 rfl (hex _ _ _ _ _ _ _ hr ⟨he, x, x, s.h, s.h.length, hx, .inl ⟨rfl, rfl⟩, hle, Nat.le_refl _, hu.1, by rw [List.take_length]; exact hu.2, by rw [List.take_length]; exact ⟨rfl, rfl⟩⟩)
       ·cases hc
     ·cases hc
    split at hc
    ·rename_i s hr; exact fin _ s (.inl rfl) hr hc
    ·rename_i s hr; exact fin _ s (.inr rfl) hr hc
    ·cases hc
   ·cases hc
  ·cases hc
 ·cases hc
theorem yldX_sound {ex : zq8} (hex : ∀ top kf c s e s' Q, ex top c s = some (e, s') → Q e s' → Wt top kf P c Q s) {id n : Nat} {fr : List (Nat × AV)} {as body : Code} {h h' : List AObj} {b : Bool} (hc : yldX ex id n fr as body h = some (b, h')) :
  roundA P id h.length n fr as body h fun b1 h1 => b1 = b ∧ h1 = h' := by
 unfold yldX at hc
 split at hc
 ·rename_i s1 h1
  split at hc
  ·rename_i n1 fr1 ps1 as1 body1 ho1
   split at hc
   ·rename_i e s2 h2
    split at hc
    ·rename_i n2 fr2 ps2 as2 body2 st b' ho2 hends
     dsimp only at hc
     split at hc
     ·rename_i hle
      refine hex _ _ _ _ _ _ _ h1 ⟨rfl, n1, fr1, ps1, as1, body1, ho1, ?_⟩
      split at hc
      ·rename_i hu
       cases hc
       exact hex _ _ _ _ _ _ _ h2 ⟨n2, fr2, ps2, as2, body2, st, b, h.length, ho2, hends, Nat.le_refl _, hle, hu, rfl, rfl⟩
      ·split at hc
       ·rename_i hu
        cases hc
        refine hex _ _ _ _ _ _ _ h2 ⟨n2, fr2, ps2, as2, body2, st, b, s2.h.length, ho2, hends, hle, Nat.le_refl _, ?_, rfl, ?_⟩
        ·rw [List.take_of_length_le (by rw [List.length_set]; exact Nat.le_refl _)]; exact hu
        ·rw [List.take_of_length_le (by rw [List.length_set]; exact Nat.le_refl _)]
       ·cases hc
     ·cases hc
    ·cases hc
   ·cases hc
  ·cases hc
 ·cases hc
theorem xj8 {ex : zq8} (hex : ∀ top kf c s e s' Q, ex top c s = some (e, s') → Q e s' → Wt top kf P c Q s) {f : FuncId} {args : List AV} {r : AV} (hc : callP P ex f args = some r) : Sound P f args r := by
 unfold callP at hc
 split at hc
 ·rename_i fn hf
  split at hc
  ·rename_i code hb
   split at hc
   ·rename_i hn
    have fin : ∀ e s, (e = Exit.normal ∨ e = .ret) → ex true code ⟨fn.ntmps, numF 0 args, []⟩ = some (e, s) →
      ((resA P s fn.results.toList).bind fun x => (frzV P 1 s.h x).bind fun (r, _) => if r.rf then some r else none) = some r → Sound P f args r := by
     intro e s he hr hc
     obtain ⟨x, hx, hc⟩ := Option.bind_eq_some_iff.1 hc
     obtain ⟨⟨y, h1⟩, hy, hc⟩ := Option.bind_eq_some_iff.1 hc
     dsimp only at hc
     split at hc
     ·rename_i hrf
      cases hc
      exact zj9 hf hb hn.1 hn.2.1 hn.2.2.1 hn.2.2.2 rfl (hex _ _ _ _ _ _ _ hr ⟨he, x, h1, hx, hy, hrf⟩)
     ·cases hc
    split at hc
    ·rename_i s hr; exact fin _ s (.inl rfl) hr hc
    ·rename_i s hr; exact fin _ s (.inr rfl) hr hc
    ·cases hc
   ·cases hc
  ·cases hc
 ·cases hc
theorem yl7 {kn : KnF} (hkn : KnOk P kn) {ex : zq8} (hex : ∀ top kf c s e s' Q, ex top c s = some (e, s') → Q e s' → Wt top kf P c Q s) {o : Oper} {s s' : St} {K : St → Prop} (h : opX P kn ex false o s = some s') (hk : K s') :
  step5 P o s K := by
 unfold opX at h
 split at h
 ·rename_i c ho
  split at h
  ·rename_i fo hfo
   split at h
   ·rename_i f l1 l2 hcal
    split at h
    ·rename_i hsz
     obtain ⟨xs, hxs, h⟩ := Option.bind_eq_some_iff.1 h
     simp only [Bool.false_eq_true, if_false] at h
     split at h
     ·rename_i r h' hpr
      obtain ⟨x, hx, hpr⟩ := Option.bind_eq_some_iff.1 hpr
      obtain ⟨r', hr', he⟩ := Option.map_eq_some_iff.1 hpr
      cases he
      refine .inr (.inl ?_)
      unfold callA
      rw [ho]
      dsimp only
      rw [hcal]
      unfold prep at hx
      obtain ⟨xs, hxs, hx⟩ := Option.bind_eq_some_iff.1 hx
      obtain ⟨⟨ys, h1⟩, hys, hx⟩ := Option.bind_eq_some_iff.1 hx
      dsimp only at hx
      split at hx
      ·cases hx
       exact ⟨ys, _, r, s', by rw [hxs]; exact hys, hsz, (hkn _ _ _ hr').ofDp, h, hk⟩
      ·cases hx
     obtain ⟨⟨r, h'⟩, hr, h⟩ := Option.bind_eq_some_iff.1 h
     refine .inr (.inr (.inl ?_))
     unfold callO
     rw [ho]
     dsimp only
     rw [hcal]
     refine ⟨xs, hxs, hsz, (xh8 hex hr).mono ?_⟩
     rintro r1 h1 ⟨rfl, rfl⟩
     exact ⟨s', h, hk⟩
    ·cases h
   ·simp only [Bool.false_eq_true, if_false] at h
    split at h
    ·rename_i id hev
     split at h
     ·rename_i n fr ps as body hob
      obtain ⟨xs, hxs, h⟩ := Option.bind_eq_some_iff.1 h
      split at h
      ·rename_i hcond
       obtain ⟨⟨b, h'⟩, hy, h⟩ := Option.bind_eq_some_iff.1 h
       refine .inr (.inr (.inr (.inl ?_)))
       unfold callY
       rw [ho]
       dsimp only
       rw [hfo]
       refine ⟨id, n, fr, ps, as, body, xs, hev, hob, hxs, hcond.1, hcond.2.1, hcond.2.2, roundA_mono ?_ (yldX_sound hex hy)⟩
       rintro b1 h1 ⟨rfl, rfl⟩
       exact ⟨s', h, hk⟩
      ·cases h
     ·cases h
    ·cases h
  ·simp only [Bool.false_and, Bool.false_eq_true, if_false] at h
   exact .inl ⟨s', h, hk⟩
 ·rename_i ho
  simp only [Bool.false_eq_true, if_false] at h
  split at h
  ·rename_i s1 h1
   cases h
   refine .inr (.inr (.inr (.inr ?_)))
   unfold callB
   rw [ho]
   exact ⟨_, h1, hk⟩
  ·exact .inl ⟨s', h, hk⟩
 ·exact .inl ⟨s', h, hk⟩
theorem opX_stepD {kn : KnF} (hkn : KnOk P kn) {ex : zq8} (hex : ∀ top kf c s e s' Q, ex top c s = some (e, s') → Q e s' → Wt top kf P c Q s) {o : Oper} {s s' : St} {K : St → Prop} (h : opX P kn ex true o s = some s') (hk : K s') :
  (∃ s', (if vc9 P s o then evOp P o s else none) = some s' ∧ K s') ∨ (dcls o = 3 ∧ callD P o s K) := by
 unfold opX at h
 split at h
 ·rename_i c ho
  split at h
  ·rename_i fo hfo
   split at h
   ·rename_i f l1 l2 hcal
    split at h
    ·rename_i hsz
     obtain ⟨xs, hxs, h⟩ := Option.bind_eq_some_iff.1 h
     simp only [if_true] at h
     split at h
     ·rename_i hfl
      obtain ⟨r, hr, h⟩ := Option.bind_eq_some_iff.1 h
      simp only [Bool.and_eq_true] at hfl
      refine .inr ⟨by simp [dcls, ho, hfo], ?_⟩
      unfold callD
      rw [ho]
      dsimp only
      rw [hcal]
      refine ⟨xs, r, s', hxs, hfl.1, hfl.2, hsz, ?_, h, hk⟩
      split at hr
      ·rename_i r' hr'
       cases hr
       exact (hkn _ _ _ hr').ofDp
      ·exact xj8 hex hr
     ·cases h
    ·cases h
   ·simp only [if_true] at h; cases h
  ·simp only [Bool.true_and, Bool.not_eq_true'] at h
   split at h
   ·cases h
   ·rename_i hn
    exact .inl ⟨s', by rw [if_pos (by simpa using hn)]; exact h, hk⟩
 ·rename_i ho
  simp only [if_true] at h
  refine .inl ⟨s', ?_, hk⟩
  have : vc9 P s o = true := by unfold vc9; rw [ho]
  rw [if_pos this]; exact h
 ·rename_i hno _
  refine .inl ⟨s', ?_, hk⟩
  have : vc9 P s o = true := by
   unfold vc9
   split
   ·rename_i c ho; exact absurd ho (hno c)
   ·rfl
  rw [if_pos this]; exact h
theorem yk7 {kn : KnF} (hkn : KnOk P kn) {ex : zq8} (hex : ∀ top kf c s e s' Q, ex top c s = some (e, s') → Q e s' → Wt top kf P c Q s) {ops : List Oper} : ∀ {l : List Oper} {s s' : St} {K : St → Prop}, opsX P kn ex false ops l s = some s' → K s' → runA P ops l s K
 | [], s, s', K, h, hk => by simp only [opsX, Option.some.injEq] at h; subst h; exact hk
 | o :: l, s, s', K, h, hk => by
  simp only [opsX] at h
  obtain ⟨s1, h1, h2⟩ := Option.bind_eq_some_iff.1 h
  have rest := yk7 hkn hex (K := K) h2 hk
  simp only [runA, xl8]
  cases hg : zb9 ops s o with
  | none => rw [hg] at h1; cases h1
  | some b =>
   rw [hg] at h1
   cases b with
   | true =>
    dsimp only at h1
    split at h1
    ·rename_i s' ho
     cases h1
     rcases yl7 (K := fun s' => runA P ops l s' K) hkn hex ho rest with h | h | h | h | h
     ·exact .inl h
     ·exact .inr (.inl h)
     ·exact .inr (.inr (.inl h))
     ·exact .inr (.inr (.inr (.inl h)))
     ·exact .inr (.inr (.inr (.inr (.inl h))))
    ·simp only [Bool.false_eq_true, if_false] at h1
     split at h1
     ·rename_i hg2
      refine .inr (.inr (.inr (.inr (.inr ((pre_frzO o).mono ?_)))))
      rintro _ rfl
      exact ⟨hg2, yl7 (K := fun s' => runA P ops l s' K) hkn hex h1 rest⟩
     ·cases h1
   | false => exact ⟨s1, h1, rest⟩
theorem xq8 {kn : KnF} (hkn : KnOk P kn) {ex : zq8} (hex : ∀ top kf c s e s' Q, ex top c s = some (e, s') → Q e s' → Wt top kf P c Q s) {ops : List Oper} : ∀ {l : List Oper} {s s' : St} {K : St → Prop}, opsX P kn ex true ops l s = some s' → K s' → runD P ops l s K
 | [], s, s', K, h, hk => by simp only [opsX, Option.some.injEq] at h; subst h; exact hk
 | o :: l, s, s', K, h, hk => by
  simp only [opsX] at h
  obtain ⟨s1, h1, h2⟩ := Option.bind_eq_some_iff.1 h
  have rest := xq8 hkn hex (K := K) h2 hk
  simp only [runD, stepD]
  cases hg : zb9 ops s o with
  | none => rw [hg] at h1; cases h1
  | some b =>
   rw [hg] at h1
   cases b with
   | true =>
    dsimp only at h1
    split at h1
    ·rename_i s' ho
     cases h1
     exact opX_stepD (K := fun s' => runD P ops l s' K) hkn hex ho rest
    ·simp at h1
   | false => exact ⟨s1, h1, rest⟩
theorem exec_sound {kn : KnF} (hkn : KnOk P kn) (hm : P.follows .mixedOrders = true) (n : Nat) : ∀ (top : Bool) (kf : Nat) (c : Code) (s : St) (e : Exit) (s' : St) (Q : Exit → St → Prop), exec P kn n top c s = some (e, s') → Q e s' → Wt top kf P c Q s := by
 induction n using Nat.strongRecOn with
 | _ n ihs =>
 intro top kf c s e s' Q h hq
 cases n with
 | zero => cases h
 | succ n =>
  have ih := ihs n (Nat.lt_succ_self n)
  cases c
  case loop body =>
   refine xs9 (fun k s => k ≤ n + 1 ∧ exec P kn k top (.loop body) s = some (e, s')) (k := n + 1) ⟨Nat.le_refl _, h⟩ ?_
   rintro k s2 ⟨hk, h2⟩
   cases k with
   | zero => cases h2
   | succ k =>
    have ihk := ihs k (by omega)
    simp only [exec] at h2
    split at h2
    ·rename_i s1 h1
     exact ihk top kf body s2 _ _ _ h1 ⟨k, Nat.lt_succ_self k, by omega, h2⟩
    ·rename_i hne
     refine ihk top kf body s2 _ _ _ h2 ?_
     cases e with
     | normal => exact absurd h2 (hne s')
     | _ => exact hq
  all_goals simp only [exec] at h
  case skip => cases h; exact yc9 hq
  case label l => cases h; exact W_label hq
  case scope x =>
   refine W_scope ?_
   split at h
   ·cases h
   ·rename_i hne
    refine ih top kf x s _ _ _ h ?_
    cases e with
    | goto l => exact absurd h (hne l s')
    | _ => exact hq
  case ret => cases h; exact zp9 hq
  case exit id => cases h; exact xr9 hq
  case seq x y =>
   refine yk9 ?_
   split at h
   ·rename_i s1 h1
    exact ih top kf x s _ _ _ h1 (ih top kf y s1 _ _ _ h hq)
   ·rename_i hne
    refine ih top kf x s _ _ _ h ?_
    cases e with
    | normal => exact absurd h (hne s')
    | _ => exact hq
  case cond o x y =>
   split at h
   ·rename_i ho; exact yd9 ho (fun _ => ih top kf x s _ _ _ h hq) (fun h => (by cases h))
   ·rename_i ho; exact yd9 ho (fun h => (by cases h)) (fun _ => ih top kf y s _ _ _ h hq)
   ·cases h
  case block id x =>
   refine yg9 ?_
   split at h
   ·rename_i i s1 h1
    refine ih top kf x s _ _ _ h1 ?_
    simp only [inBlk]
    split at h
    ·rename_i hi; cases h; rw [if_pos hi]; exact hq
    ·rename_i hi; cases h; rw [if_neg hi]; exact hq
   ·rename_i hne
    refine ih top kf x s _ _ _ h ?_
    cases e with
    | exit i => exact absurd h (hne i s')
    | _ => exact hq
  case region id ops draw =>
   split at h
   ·cases h
   ·rename_i hd
    split at h
    ·rename_i s1 h1
     cases h
     cases draw with
     | false => exact W_region (yk7 hkn ih h1 hq)
     | true => exact W_drawD hm (by simpa using hd) (xq8 hkn ih h1 hq)
    ·split at h
     ·rename_i hdr
      obtain ⟨s1, h1, h2⟩ := Option.map_eq_some_iff.1 h
      cases h2
      subst hdr
      refine W_pre ((pre_frzOs ops.toList s).mono ?_)
      rintro _ rfl
      exact W_drawD hm (by simpa using hd) (xq8 hkn ih h1 hq)
     ·cases h
  case rangeFunc g ps as body =>
   split at h
   ·rename_i htop
    subst htop
    split at h
    ·rename_i f l1 l2 hcal
     obtain ⟨⟨r, h'⟩, hx, h⟩ := Option.bind_eq_some_iff.1 h
     refine yk8 hcal (xh8 ih hx) ?_
     rintro _ _ ⟨rfl, rfl⟩
     dsimp only at h
     unfold afterX at h
     split at h <;> cases h <;> (rename_i ho; exact ⟨_, _, _, _, _, _, ho, hq⟩)
    ·cases h
   ·cases h
  all_goals cases h
theorem sound_execK {kn : KnF} (hkn : KnOk P kn) (hm : P.follows .mixedOrders = true) (n : Nat) {f : FuncId} {args : List AV} {r : AV} (h : callP P (exec P kn n) f args = some r) : Sound P f args r := xj8 (exec_sound hkn hm n) h
def kn0 : KnF := fun _ _ => none
theorem kn0_ok : KnOk P kn0 := fun _ _ _ h => by cases h
theorem sound_exec (hm : P.follows .mixedOrders = true) (n : Nat) {f : FuncId} {args : List AV} {r : AV} (h : callP P (exec P kn0 n) f args = some r) : Sound P f args r := sound_execK kn0_ok hm n h
end
end Go.AM
set_option linter.unusedSimpArgs false
namespace Go.AM
open Go.RowKit Go.ChangeShapes Go.WideShapes Go.ChangeAt Go.Deep
def isSt (P : Program) (t : TypeId) : Bool :=
 match P.underlying t with
 | some (.struct _) => true
 | _ => false
def tiles (P : Program) : Nat → List Field → Option Nat
 | off, [] => some off
 | off, f :: fs => if f.offset = off then tiles P (off + P.cellsOf f.type) fs else none
def plainB (P : Program) : Nat → TypeId → Bool
 | 0, _ => false
 | n + 1, t => match P.underlying t with
  | some .bool => true
  | some (.int _) => true
  | some .string => true
  | some (.slice e) => plainB P n e && decide (0 < P.cellsOf e) && (isSt P e || P.cellsOf e == 1)
  | some (.struct fs) => (fs.toList.all fun f => plainB P n f.type) && tiles P 0 fs.toList == some (P.cellsOf t)
  | _ => false
def TyC (P : Program) : Nat → TypeId → List AV → Prop
 | 0, _, _ => False
 | n + 1, t, xs => match P.underlying t with
  | some .bool => ∃ b, xs = [.v (.bool b)]
  | some (.int k) => ∃ m, xs = [.v (.int k m)] ∧ k.min ≤ m ∧ m ≤ k.max
  | some .string => ∃ s : ByteArray, xs = [.v (.string s)] ∧ s.size ≤ maxLen
  | some (.slice e) => ∃ o l, xs = [.lst o (P.cellsOf e) l] ∧ (l.length ≤ maxLen ∧ l.length * P.bytesOf e ≤ 140737488351232) ∧ (o = .nil ∨ o = .any) ∧ (o = .nil → l = []) ∧
    ∀ x ∈ l, (isSt P e = true ∧ ∃ ys, x = .agg ys ∧ TyC P n e ys) ∨ (isSt P e = false ∧ TyC P n e [x])
  | some (.struct fs) => xs.length = P.cellsOf t ∧ ∀ f ∈ fs.toList, TyC P n f.type ((xs.drop f.offset).take (P.cellsOf f.type))
  | _ => False
def TyV (P : Program) (n : Nat) (t : TypeId) (x : AV) : Prop := (isSt P t = true ∧ ∃ ys, x = .agg ys ∧ TyC P n t ys) ∨ (isSt P t = false ∧ TyC P n t [x])
def TyAll (P : Program) (n : Nat) : List TypeId → List AV → Prop
 | [], [] => True
 | t :: ts, x :: xs => TyV P n t x ∧ TyAll P n ts xs
 | _, _ => False
def ctxOf (W : World) : Ctx where
 base b := W.heap.size ≤ b
 pm b := match W.heap[b]? with
  | some (.cells cs _ _) => cs.size
  | _ => 0
 ow _ := 0
 no := 0
 ob _ := 0
section
variable {H : Type} {enc : TypeId × Value → H} {P : Program} {W : World}
theorem prot_ctxOf {a : Addr} {u : Value} (h : W.cell? a = some u) : (ctxOf W).prot a := by
 unfold World.cell? at h
 unfold Ctx.prot ctxOf
 dsimp only
 cases hb : W.heap[a.block]? with
 | none => simp [hb] at h
 | some o =>
  cases o with
  | cells cs t fr =>
   simp only [hb] at h ⊢
   split at h
   ·cases h
   ·exact (Array.getElem?_eq_some_iff.1 h).1
  | _ => simp [hb] at h
structure LRep (W : World) (xs : List AV) (cs : List Value) : Prop where
 len : xs.length = cs.length
 rep : ∀ (j : Nat) (y : AV), xs[j]? = some y → ∃ u : Value, cs[j]? = some u ∧ Rep (ctxOf W) W y u ∧ u.oneCell' = true
 rf : AV.rfL xs = true
 tl : AV.tlL xs = true
 one : ∀ y ∈ xs, y.cells = [y] ∧ y.one = true
theorem rfL_mk {xs : List AV} (h : ∀ x ∈ xs, x.rf = true) : AV.rfL xs = true := rfL_iff.2 h
theorem vt8 {xs : List AV} : AV.tlL xs = true ↔ ∀ x ∈ xs, x.tl = true := by
 induction xs with
 | nil => simp [AV.tlL]
 | cons x xs ih => simp [AV.tlL, ih]
theorem cells_get {base : Nat} {a : Addr} {n : Nat} {cs : List Value} (h : W.cells? base a n = some cs) : cs.length = n ∧ ∀ k, k < n → ∃ u, cs[k]? = some u ∧ W.cell? (a.add k) = some u := by
 unfold World.cells? at h
 split at h
 ·have hl := mapM_some_length h
  simp at hl
  refine ⟨hl, fun k hk => ?_⟩
  have := mapM_some_get h k k (by simp [hk])
  have hk' : k < cs.length := by omega
  exact ⟨cs[k], by simp [hk'], by rw [this]; simp [hk']⟩
 ·cases h
theorem LRep.append {xs ys : List AV} {cs ds : List Value} (h : LRep W xs cs) (k : LRep W ys ds) : LRep W (xs ++ ys) (cs ++ ds) where
 len := by simp [h.len, k.len]
 rep j y hj := by
  rcases Nat.lt_or_ge j xs.length with hlt | hge
  ·rw [List.getElem?_append_left hlt] at hj
   obtain ⟨u, h1, h2⟩ := h.rep j y hj
   exact ⟨u, by rw [List.getElem?_append_left (by rw [← h.len]; exact hlt)]; exact h1, h2⟩
  ·rw [List.getElem?_append_right hge] at hj
   obtain ⟨u, h1, h2⟩ := k.rep _ y hj
   exact ⟨u, by rw [List.getElem?_append_right (by rw [← h.len]; exact hge), ← h.len]; exact h1, h2⟩
 rf := by rw [rfL_append, h.rf, k.rf]; rfl
 tl := vt8.2 fun x hx => by
  rcases List.mem_append.1 hx with h1 | h1
  ·exact vt8.1 h.tl x h1
  ·exact vt8.1 k.tl x h1
 one y hy := by
  rcases List.mem_append.1 hy with h1 | h1
  ·exact h.one y h1
  ·exact k.one y h1
theorem tiles_le : ∀ (fs : List Field) (off N : Nat), tiles P off fs = some N → off ≤ N
 | [], off, N, h => by simp [tiles] at h; omega
 | f :: fs, off, N, h => by
  simp only [tiles] at h
  split at h
  ·have := tiles_le fs _ _ h; omega
  ·cases h
theorem open_fields {n : Nat} {cs : List Value} (ih : ∀ (fuel : Nat) (t : TypeId) (cs : List Value) (x : DataW H × List MemPlace), plainB P n t = true → DataW.trod enc P W 0 (fun _ => true) true fuel t cs = some x → (∀ m ∈ x.1.weights P t, m ≤ reachBytes) → ∃ xs, TyC P n t xs ∧ LRep W xs cs) :
  ∀ (fl : List Field) (off : Nat), tiles P off fl = some cs.length →
   (∀ f ∈ fl, plainB P n f.type = true ∧ ∃ (k : Nat) (y : DataW H × List MemPlace), DataW.trod enc P W 0 (fun _ => true) true k f.type ((cs.drop f.offset).take (P.cellsOf f.type)) = some y ∧ ∀ m ∈ y.1.weights P f.type, m ≤ reachBytes) →
   ∃ xs, LRep W xs (cs.drop off) ∧ ∀ f ∈ fl, off ≤ f.offset ∧ TyC P n f.type ((xs.drop (f.offset - off)).take (P.cellsOf f.type))
 | [], off, h, _ => by
  simp [tiles] at h
  refine ⟨[], ?_, by simp⟩
  rw [List.drop_eq_nil_of_le (by omega)]
  exact ⟨rfl, by simp, rfl, rfl, by simp⟩
 | f :: fl, off, h, hf => by
  simp only [tiles] at h
  split at h
  ·rename_i ho
   have hle := tiles_le _ _ _ h
   obtain ⟨xs', h1, h2⟩ := open_fields ih fl _ h (fun g hg => hf g (List.mem_cons_of_mem _ hg))
   obtain ⟨hp, k, y, hy, hyw⟩ := hf f List.mem_cons_self
   obtain ⟨ys, h3, h4⟩ := ih k f.type _ y hp hy hyw
   rw [ho] at h4
   have hly : ys.length = P.cellsOf f.type := by rw [h4.len, List.length_take, List.length_drop]; omega
   refine ⟨ys ++ xs', ?_, ?_⟩
   ·have := h4.append h1
    rwa [← List.drop_drop, List.take_append_drop] at this
   ·intro g hg
    rcases List.mem_cons.1 hg with rfl | hg
    ·refine ⟨by omega, ?_⟩
     rw [ho, Nat.sub_self, List.drop_zero, List.take_append_of_le_length (by omega), List.take_of_length_le (by omega)]
     exact h3
    ·obtain ⟨h5, h6⟩ := h2 g hg
     refine ⟨by omega, ?_⟩
     rw [List.drop_append, List.drop_eq_nil_of_le (by omega), List.nil_append, hly, show g.offset - off - P.cellsOf f.type = g.offset - (off + P.cellsOf f.type) by omega]
     exact h6
  ·cases h
theorem weightsAll_mem {e : TypeId} : ∀ {l : List (DataW H)} {d : DataW H}, d ∈ l → ∀ n ∈ d.weights P e, n ∈ DataW.weightsAll P e l
 | [], _, h => by cases h
 | x :: l, d, h => fun n hn => by
  rcases List.mem_cons.1 h with rfl | h
  ·exact List.mem_append_left _ hn
  ·exact List.mem_append_right _ (weightsAll_mem h n hn)
theorem open_av : ∀ (n fuel : Nat) (t : TypeId) (cs : List Value) (x : DataW H × List MemPlace), plainB P n t = true → DataW.trod enc P W 0 (fun _ => true) true fuel t cs = some x → (∀ m ∈ x.1.weights P t, m ≤ reachBytes) →
  ∃ xs, TyC P n t xs ∧ LRep W xs cs
 | 0, _, _, _, _, h, _, _ => by cases h
 | n + 1, fuel, t, cs, x, hp, h, hwt => by
  simp only [plainB] at hp
  cases hu : P.underlying t with
  | none => rw [hu] at hp; cases hp
  | some dd =>
   rw [hu] at hp
   cases dd <;> simp only [] at hp <;> first | (cases hp; done) | skip
   case bool =>
    obtain ⟨b, rfl, _⟩ := DataW.trod_bool hu h
    exact ⟨[.v (.bool b)], by simp only [TyC, hu]; exact ⟨b, rfl⟩, rfl, fun j y hj => by
     match j, hj with
     | 0, hj => simp at hj; subst hj; exact ⟨_, rfl, .v _, rfl⟩, rfl, rfl, by simp [AV.cells, AV.one]⟩
   case int k =>
    obtain ⟨m, rfl, _, hw⟩ := DataW.trod_int hu h
    simp only [Lit.wf, Bool.and_eq_true, decide_eq_true_eq] at hw
    exact ⟨[.v (.int k m)], by simp only [TyC, hu]; exact ⟨m, rfl, hw.1, hw.2⟩, rfl, fun j y hj => by
     match j, hj with
     | 0, hj => simp at hj; subst hj; exact ⟨_, rfl, .v _, rfl⟩, rfl, rfl, by simp [AV.cells, AV.one]⟩
   case string =>
    obtain ⟨s, rfl, _, hw⟩ := DataW.trod_string hu h
    exact ⟨[.v (.string s)], by simp only [TyC, hu]; exact ⟨s, rfl, hw⟩, rfl, fun j y hj => by
     match j, hj with
     | 0, hj => simp at hj; subst hj; exact ⟨_, rfl, .v _, rfl⟩, rfl, rfl, by simp [AV.cells, AV.one]⟩
   case struct fs =>
    simp only [Bool.and_eq_true, List.all_eq_true, beq_iff_eq] at hp
    obtain ⟨ys, m, _, hxe, hl, hlen, hf⟩ := DataW.trod_struct hu h
    obtain ⟨xs, h1, h2⟩ := open_fields (fun fuel t cs x h1 h2 h3 => open_av n fuel t cs x h1 h2 h3) fs.toList 0 (by rw [hl]; exact hp.2) (fun f hf' => by
     refine ⟨hp.1 f hf', m, ?_⟩
     obtain ⟨i, hi⟩ := List.mem_iff_getElem?.1 hf'
     have hi' : fs[i]? = some f := by simpa using hi
     have hlt : i < ys.length := by rw [hlen]; exact (Array.getElem?_eq_some_iff.1 hi').1
     refine ⟨ys[i], by rw [hf i f hi']; simp [hlt], fun m hm => hwt m ?_⟩
     rw [hxe]
     simp only [DataW.weights, hu]
     exact DataW.weights_mem_each (j := i) (t := f.type) (d := ys[i].1) (by simp [hi']) (by simp [hlt]) m hm)
    rw [List.drop_zero] at h1
    exact ⟨xs, by simp only [TyC, hu]; exact ⟨by rw [h1.len, hl], fun f hf' => (h2 f hf').2⟩, h1⟩
   case slice e =>
    simp only [Bool.and_eq_true, decide_eq_true_eq, Bool.or_eq_true, beq_iff_eq] at hp
    obtain ⟨⟨hpe, hce⟩, hst⟩ := hp
    rcases open_slice hu h with ⟨rfl, _⟩ | ⟨a, len, cap, m, k, D, Pl, rfl, _, hlc, hcm, hm, hxe, hel⟩
    ·exact ⟨[.lst .nil (P.cellsOf e) []], by simp only [TyC, hu]; exact ⟨.nil, [], rfl, ⟨Nat.zero_le _, by simp⟩, .inl rfl, fun _ => rfl, by simp⟩, rfl, fun j y hj => by
      match j, hj with
      | 0, hj => simp at hj; subst hj; exact ⟨_, rfl, .lst (fun _ => undef) rfl (Nat.zero_le _) (Nat.zero_le _) (by simp) (by simp) rfl (fun _ => ⟨rfl, rfl⟩) rfl (by simp) (by simp), rfl⟩, rfl, rfl, by simp [AV.cells, AV.one]⟩
    ·have hel' : ∀ i, i < len → ∃ cs' ys, W.cells? 0 (a.add (i * P.cellsOf e)) (P.cellsOf e) = some cs' ∧ TyC P n e ys ∧ LRep W ys cs' := fun i hi => by
      obtain ⟨cs', h1, h2⟩ := hel i (by simp at hm; omega)
      obtain ⟨ys, h3, h4⟩ := open_av n k e cs' _ hpe h2 (fun m hm' => hwt m (by
       rw [hxe]
       simp only [DataW.weights, hu]
       refine List.mem_cons_of_mem _ (List.mem_append_left _ (weightsAll_mem (d := D i) ?_ m hm'))
       exact List.mem_map.2 ⟨i, List.mem_range.2 hi, rfl⟩))
      exact ⟨cs', ys, h1, h3, h4⟩
     have hY : ∃ Y : Nat → List AV, ∀ i, i < len → ∃ cs', W.cells? 0 (a.add (i * P.cellsOf e)) (P.cellsOf e) = some cs' ∧ TyC P n e (Y i) ∧ LRep W (Y i) cs' := by
      refine ⟨fun i => if hi : i < len then Classical.choose (Classical.choose_spec (hel' i hi)) else [], fun i hi => ?_⟩
      obtain ⟨h1, h2, h3⟩ := Classical.choose_spec (Classical.choose_spec (hel' i hi))
      exact ⟨_, h1, by simp only [dif_pos hi]; exact h2, by simp only [dif_pos hi]; exact h3⟩
     obtain ⟨Y, hY⟩ := hY
     let wr : List AV → AV := fun ys => if isSt P e then .agg ys else ys.headD .any
     have hYl : ∀ i, i < len → (Y i).length = P.cellsOf e := fun i hi => by
      obtain ⟨cs', h1, _, h3⟩ := hY i hi
      rw [h3.len, (cells_get h1).1]
     have hwr : ∀ i, i < len → (wr (Y i)).cells = Y i ∧ (wr (Y i)).rf = true := fun i hi => by
      obtain ⟨cs', h1, _, h3⟩ := hY i hi
      simp only [wr]
      split
      ·exact ⟨rfl, h3.rf⟩
      ·rename_i hns
       have h1c : P.cellsOf e = 1 := by rcases hst with h | h; exact absurd h hns; exact h
       have := hYl i hi
       rw [h1c] at this
       match hYi : Y i, this with
       | [y], _ =>
        simp only [List.headD_cons]
        exact ⟨(h3.one y (by rw [hYi]; simp)).1, rfL_iff.1 h3.rf y (by rw [hYi]; simp)⟩
     have hmem : ∀ x ∈ (List.range len).map fun i => wr (Y i), ∃ i, i < len ∧ x = wr (Y i) := fun x hx => by
      obtain ⟨i, hi, rfl⟩ := List.mem_map.1 hx
      exact ⟨i, by simpa using hi, rfl⟩
     have hcell : ∀ i j, i < len → j < P.cellsOf e → ∃ u, W.cell? (a.add (i * P.cellsOf e + j)) = some u ∧ u.oneCell' = true ∧ ∀ y, (Y i)[j]? = some y → Rep (ctxOf W) W y u := fun i j hi hj => by
      obtain ⟨cs', h1, _, h3⟩ := hY i hi
      obtain ⟨h4, h5⟩ := cells_get h1
      obtain ⟨u, h6, h7⟩ := h5 j hj
      rw [add_add] at h7
      have hjl : j < (Y i).length := by rw [hYl i hi]; exact hj
      obtain ⟨u', h8, h9, h10⟩ := h3.rep j (Y i)[j] (by simp [hjl])
      rw [h6] at h8
      cases h8
      refine ⟨u, h7, h10, fun y hy => ?_⟩
      simp [hjl] at hy
      subst hy
      exact h9
     let U : Nat → Value := fun k => (W.cell? (a.add k)).getD undef
     have hby : ((List.range len).map fun i => wr (Y i)).length * P.bytesOf e ≤ 140737488351232 := by
      have h0 := hwt ((((List.range len).map D).length + ((List.range (m - len)).map fun j => D (len + j)).length) * P.bytesOf e) (by
       rw [hxe]
       simp only [DataW.weights, hu]
       exact List.mem_cons_self)
      have h1 : reachBytes = 140737488351232 := rfl
      rw [h1] at h0
      refine Nat.le_trans (Nat.mul_le_mul_right _ ?_) h0
      simp
     refine ⟨[.lst .any (P.cellsOf e) ((List.range len).map fun i => wr (Y i))], ?_, rfl, fun j y hj => ?_, ?_, rfl, by simp [AV.cells, AV.one]⟩
     ·simp only [TyC, hu]
      refine ⟨.any, _, rfl, ⟨by simp; omega, hby⟩, .inr rfl, fun h => (by cases h), fun x hx => ?_⟩
      obtain ⟨i, hi, rfl⟩ := hmem x hx
      obtain ⟨cs', h1, h2, h3⟩ := hY i hi
      by_cases hs : isSt P e = true
      ·exact .inl ⟨hs, Y i, by simp [wr, hs], h2⟩
      ·refine .inr ⟨by simpa using hs, ?_⟩
       have h1c : P.cellsOf e = 1 := by rcases hst with h | h; exact absurd h hs; exact h
       have := hYl i hi
       rw [h1c] at this
       match hYi : Y i, this with
       | [y], _ => rw [hYi] at h2; simpa [wr, hs] using h2
     ·match j, hj with
      | 0, hj =>
       simp at hj
       subst hj
       refine ⟨_, rfl, .lst U (by simp) hlc hcm (fun _ => hce) ?_ ?_ (by simp) trivial ?_ ?_, rfl⟩
       ·intro x hx
        obtain ⟨i, hi, rfl⟩ := hmem x hx
        rw [(hwr i hi).1, hYl i hi]
       ·refine rfL_mk fun x hx => ?_
        obtain ⟨i, hi, rfl⟩ := hmem x hx
        exact (hwr i hi).2
       ·intro ad k' had hk
        cases had
        have hq : k' / P.cellsOf e < len := Nat.div_lt_of_lt_mul (by rw [Nat.mul_comm]; exact hk)
        have hr : k' % P.cellsOf e < P.cellsOf e := Nat.mod_lt _ hce
        have hk' : k' / P.cellsOf e * P.cellsOf e + k' % P.cellsOf e = k' := by rw [Nat.mul_comm]; exact Nat.div_add_mod k' _
        obtain ⟨u, h1, h2, _⟩ := hcell _ _ hq hr
        rw [hk'] at h1
        have hU : U k' = u := by simp only [U, h1]; rfl
        rw [hU]
        exact ⟨h1, prot_ctxOf h1, h2⟩
       ·intro i j' x y hi hj'
        simp only [List.getElem?_map, Option.map_eq_some_iff] at hi
        obtain ⟨i', hi', rfl⟩ := hi
        have : i' = i ∧ i < len := by
         have := List.getElem?_eq_some_iff.1 hi'
         obtain ⟨h1, h2⟩ := this
         simp at h1 h2
         exact ⟨h2.symm, h1⟩
        obtain ⟨rfl, hil⟩ := this
        rw [(hwr i' hil).1] at hj'
        have hjl : j' < P.cellsOf e := by rw [← hYl i' hil]; exact (List.getElem?_eq_some_iff.1 hj').1
        obtain ⟨u, h1, _, h3⟩ := hcell i' j' hil hjl
        have hU : U (i' * P.cellsOf e + j') = u := by simp only [U, h1]; rfl
        rw [hU]
        exact h3 y hj'
     ·simp only [AV.rfL, AV.rf, Bool.and_true]
theorem open_arg {n : Nat} {t : TypeId} {v : Value} {d : DataW H} {ps : List MemPlace} {b0 : Nat} (hp : plainB P n t = true) (hval : Value.okWide P W .any b0 t v) (h : DataW.Trod enc P W 0 (fun _ => true) true t v d ps) (hwt : ∀ m ∈ d.weights P t, m ≤ reachBytes) :
  ∃ x, TyV P n t x ∧ Rep (ctxOf W) W x v ∧ x.rf = true ∧ x.tl = true := by
 obtain ⟨fuel, hf⟩ := h
 obtain ⟨xs, h1, h2⟩ := open_av n fuel t _ _ hp hf hwt
 cases n with
 | zero => cases hp
 | succ n =>
  by_cases hs : isSt P t = true
  ·have hv : ∃ cs, v = .agg cs := by
    unfold isSt at hs
    split at hs
    ·rename_i fs hu
     unfold Value.okWide at hval
     rw [hu] at hval
     obtain ⟨cs, rfl, _⟩ := hval
     exact ⟨cs, rfl⟩
    ·cases hs
   obtain ⟨cs, rfl⟩ := hv
   refine ⟨.agg xs, .inl ⟨hs, xs, rfl, h1⟩, .agg (by simpa [Value.cells] using h2.len) (fun j y hj => ?_), h2.rf, h2.tl⟩
   obtain ⟨u, h3, h4, _⟩ := h2.rep j y hj
   have : cs.getD j undef = u := by
    have : cs[j]? = some u := by simpa [Value.cells] using h3
    simp [this]
   rw [this]; exact h4
  ·have hs' : isSt P t = false := by simpa using hs
   have hcv : v.cells = #[v] := by
    simp only [plainB] at hp
    cases hu : P.underlying t with
    | none => rw [hu] at hp; cases hp
    | some dd =>
     rw [hu] at hp
     cases dd <;> simp only [] at hp <;> first | (cases hp; done) | skip
     ·obtain ⟨b, rfl⟩ := okWide_bool hu hval; rfl
     ·obtain ⟨b, rfl⟩ := okWide_int hu hval; rfl
     ·obtain ⟨b, rfl⟩ := okWide_string hu hval; rfl
     ·obtain ⟨a, l, c, rfl⟩ := okWide_slice hu hval; rfl
     ·simp [isSt, hu] at hs
   have hlen : xs.length = 1 := by rw [h2.len, hcv]; rfl
   match xs, hlen with
   | [x], _ =>
    refine ⟨x, .inr ⟨hs', h1⟩, ?_, ?_, ?_⟩
    ·obtain ⟨u, h3, h4, _⟩ := h2.rep 0 x rfl
     rw [hcv] at h3
     simp at h3
     subst h3
     exact h4
    ·have := h2.rf; simpa [AV.rfL] using this
    ·have := h2.tl; simpa [AV.tlL] using this
theorem open_args {n b0 : Nat} : ∀ {ts : List TypeId} {vs : List Value} {ds : List (DataW H)} {ps : List MemPlace}, (∀ t ∈ ts, plainB P n t = true) →
  (∀ (j : Nat) t v, ts[j]? = some t → vs[j]? = some v → Value.okWide P W .any b0 t v) → DataW.TrodAll enc P W 0 (fun _ => true) true ts vs ds ps → (∀ m ∈ DataW.weightsEach P ts ds, m ≤ reachBytes) →
  ∃ xs, TyAll P n ts xs ∧ RepL P (ctxOf W) W xs vs ∧ AV.rfL xs = true ∧ AV.tlL xs = true
 | [], [], [], _, _, _, _, _ => ⟨[], trivial, .nil, rfl, rfl⟩
 | [], [], _ :: _, _, _, _, h, _ => h.elim
 | [], _ :: _, _, _, _, _, h, _ => by cases ‹List (DataW H)› <;> exact h.elim
 | _ :: _, [], _, _, _, _, h, _ => by cases ‹List (DataW H)› <;> exact h.elim
 | _ :: _, _ :: _, [], _, _, _, h, _ => h.elim
 | t :: ts, v :: vs, d :: ds, ps, hp, hv, h, hwt => by
  obtain ⟨p, q, h1, h2, _⟩ := h
  obtain ⟨x, k1, k2, k3, k4⟩ := open_arg (hp t List.mem_cons_self) (hv 0 t v rfl rfl) h1 (fun m hm => hwt m (List.mem_append_left _ hm))
  obtain ⟨xs, g1, g2, g3, g4⟩ := open_args (fun t ht => hp t (List.mem_cons_of_mem _ ht)) (fun j t v ht hv' => hv (j + 1) t v (by simpa using ht) (by simpa using hv')) h2 (fun m hm => hwt m (List.mem_append_right _ hm))
  exact ⟨x :: xs, ⟨k1, g1⟩, .cons k2 (.none k4) g2, by simp only [AV.rfL, k3, g3, Bool.and_self], by simp only [AV.tlL, k4, g4, Bool.and_self]⟩
theorem trodAll_stays (hl : laidOutB P = true) {W' : World} (hb : Below W.heap.size W W') : ∀ {ts : List TypeId} {vs : List Value} {ds : List (DataW H)} {ps : List MemPlace}, (∀ t ∈ ts, P.readableRec t = true ∧ t < P.types.size) →
  DataW.TrodAll enc P W 0 (fun _ => true) true ts vs ds ps → (∀ x ∈ ps, x.block < W.heap.size) → DataW.TrodAll enc P W' 0 (fun b => decide (b < W.heap.size)) true ts vs ds ps
 | [], [], [], _, _, h, _ => h
 | [], [], _ :: _, _, _, h, _ => h.elim
 | [], _ :: _, _, _, _, h, _ => by cases ‹List (DataW H)› <;> exact h.elim
 | _ :: _, [], _, _, _, h, _ => by cases ‹List (DataW H)› <;> exact h.elim
 | _ :: _, _ :: _, [], _, _, h, _ => h.elim
 | t :: ts, v :: vs, d :: ds, ps, hp, h, hlt => by
  obtain ⟨p, q, h1, h2, rfl⟩ := h
  exact ⟨p, q, Below.trod hl (hp t List.mem_cons_self).1 (hp t List.mem_cons_self).2 h1 hb (fun x hx => hlt x (List.mem_append_left _ hx)),
   trodAll_stays hl hb (fun t ht => hp t (List.mem_cons_of_mem _ ht)) h2 (fun x hx => hlt x (List.mem_append_right _ hx)), rfl⟩
theorem good_wide : Good Fence.wide := ⟨fun _ => trivial, rfl, rfl⟩
theorem law_contract {f : FuncId} {fn : Func} {s : ChangeSpec} {n : Nat} {t : TypeId} (hl : laidOutB P = true) (hts : ∀ t ∈ fn.params.toList, plainB P n t = true ∧ P.readableRec t = true ∧ t < P.types.size)
  (hvars : s.vars = []) (hres : fn.resultTypes = #[t]) (ht : P.underlying t = some .bool)
  (hs : ∀ (H : Type) (ds : List (DataW H)), ds.length = fn.params.size → s.fn H ds = { results := [.lit (.bool true)], args := ds })
  (hsound : ∀ xs, TyAll P n fn.params.toList xs → Sound P f xs (.v (.bool true)))
  (base : Nat) (args : Array Value) (ds gs : List (DataW H)) (before : List MemPlace)
  (hval : ∀ (j : Nat) t v, fn.params[j]? = some t → args[j]? = some v → Value.okWide P W .any base t v)
  (hW : DataW.Whole enc P fn.params.toList s.vars false W args.toList ds gs before)
  (hsz : (DataW.weightsEach P (fn.params.toList ++ s.plain.varTypes P) (ds ++ gs)).all (· ≤ reachBytes) = true) :
  Calls P f args W fun e W' => ∃ v, e = .returned v ∧ s.post enc P fn false true false false W args v W' := by
 have hlt := hW.lt
 obtain ⟨p, q, hA, hV, hpq, hfz, hnd⟩ := hW
 rw [hvars] at hV
 obtain ⟨rfl, rfl⟩ := trodVars_none hV
 rw [List.append_nil] at hpq
 subst hpq
 have hwt : ∀ m ∈ DataW.weightsEach P fn.params.toList ds, m ≤ reachBytes := by
  have hvt : s.plain.varTypes P = [] := by simp [DataSpec.varTypes, ChangeSpec.plain, hvars]
  rw [hvt, List.append_nil, List.append_nil] at hsz
  intro m hm
  simpa using List.all_eq_true.1 hsz m hm
 obtain ⟨xs, k1, k2, k3, k4⟩ := open_args (n := n) (b0 := base) (fun t ht => (hts t ht).1) (fun j t v h1 h2 => hval j t v (by simpa using h1) (by simpa using h2)) hA hwt
 have hcall := (hsound xs k1).2 Fence.wide 0 (ctxOf W) W args.toList 1 good_wide rfl (by decide) (fun b h => h) k2
 rw [← callsIn_wide (n := 0)]
 rw [show args.toList.toArray = args by simp] at hcall
 refine CallsIn.mono hcall ?_
 rintro e W' ⟨u, c', rfl, hp, hr, _⟩
 have hu : u = .bool true := hr.v_inv
 subst hu
 have hlenD : ds.length = fn.params.size := by
  have : ∀ {ts : List TypeId} {vs : List Value} {ds : List (DataW H)} {ps : List MemPlace}, DataW.TrodAll enc P W 0 (fun _ => true) true ts vs ds ps → ds.length = ts.length := by
   intro ts
   induction ts with
   | nil => intro vs ds ps h; cases vs <;> cases ds <;> first | rfl | exact h.elim
   | cons t ts ih =>
    intro vs ds ps h
    cases vs <;> cases ds <;> first | exact h.elim | skip
    obtain ⟨p, q, _, h2, _⟩ := h
    simp [ih h2]
  simpa using this hA
 have hfn := hs H ds hlenD
 have hbel : Below W.heap.size W W' := ⟨hp.os, hp.tape, hp.output, hp.size, hp.block⟩
 refine ⟨_, rfl, ds, [], before, [], before, [], ⟨before, [], hA, by rw [hvars]; simp [DataW.TrodVars], by simp, hfz, hnd⟩, ?_, ?_, ?_, ?_, fun h => (by cases h)⟩
 ·rw [List.append_nil, hfn, hres]
  simp only [Value.resultList]
  exact trodAll_mk1 (shut_bool ht true)
 ·rw [List.append_nil, hfn]
  exact trodAll_stays hl hbel (fun t ht => (hts t ht).2) hA hlt
 ·rw [List.append_nil, hfn, hvars]
  simp [DataW.TrodVars]
 ·exact hbel.frame _
end
end Go.AM
set_option linter.unusedSimpArgs false
namespace Go.AM
open Go.RowKit
attribute [simp] evRunD ev1D vc9 AV.flat AV.flatL
section
variable {P : Program} {top : Bool} {kf : Nat}
def keepS (ks : List Nat) (s : St) : St := ⟨s.n, zs8 ks s.fr, s.h⟩
@[simp] theorem keepS_mk (ks : List Nat) (n : Nat) (fr : List (Nat × AV)) (h : List AObj) : keepS ks ⟨n, fr, h⟩ = ⟨n, zs8 ks fr, h⟩ := rfl
theorem zh8 {o : Oper} {s : St} {K K' : St → Prop} (hk : ∀ s, K s → K' s) (h : step5 P o s K) : step5 P o s K' := by
 rcases h with ⟨s', h1, h2⟩ | h | h | h | h
 ·exact .inl ⟨s', h1, hk _ h2⟩
 ·refine .inr (.inl ?_)
  unfold callA at *
  split
  ·rename_i c ho
   rw [ho] at h
   dsimp only at h
   split
   ·rename_i hc
    rw [hc] at h
    obtain ⟨a, b, c, d, e1, e2, e3, e4, e5⟩ := h
    exact ⟨a, b, c, d, e1, e2, e3, e4, hk _ e5⟩
   ·rename_i hc; rw [hc] at h; exact h
  ·rename_i hno; split at h <;> first | exact absurd (by assumption) (hno _) | exact h
 ·refine .inr (.inr (.inl ?_))
  unfold callO at *
  split
  ·rename_i c ho
   rw [ho] at h
   dsimp only at h
   split
   ·rename_i hc
    rw [hc] at h
    obtain ⟨a, e1, e2, e3⟩ := h
    exact ⟨a, e1, e2, e3.mono fun _ _ ⟨s1, k1, k2⟩ => ⟨s1, k1, hk _ k2⟩⟩
   ·rename_i hc; rw [hc] at h; exact h
  ·rename_i hno; split at h <;> first | exact absurd (by assumption) (hno _) | exact h
 ·exact .inr (.inr (.inr (.inl (callY_mono hk h))))
 ·exact .inr (.inr (.inr (.inr (callB_mono hk h))))
theorem zb8 {ops : List Oper} {o : Oper} {s : St} {K : St → Prop} (hg : zb9 ops s o = some true) (h : step5 P o s K) : xl8 P ops o s K := by
 unfold xl8
 rw [hg]
 rcases h with h | h | h | h | h
 ·exact .inl h
 ·exact .inr (.inl h)
 ·exact .inr (.inr (.inl h))
 ·exact .inr (.inr (.inr (.inl h)))
 ·exact .inr (.inr (.inr (.inr (.inl h))))
theorem stepA_mono {ops : List Oper} {o : Oper} {s : St} {K K' : St → Prop} (hk : ∀ s, K s → K' s) (h : xl8 P ops o s K) : xl8 P ops o s K' := by
 by_cases hg : zb9 ops s o = some true
 ·unfold xl8 at h
  rw [hg] at h
  rcases h with h | h | h | h | h | h
  ·exact zb8 hg (zh8 hk (.inl h))
  ·exact zb8 hg (zh8 hk (.inr (.inl h)))
  ·exact zb8 hg (zh8 hk (.inr (.inr (.inl h))))
  ·exact zb8 hg (zh8 hk (.inr (.inr (.inr (.inl h)))))
  ·exact zb8 hg (zh8 hk (.inr (.inr (.inr (.inr h)))))
  ·unfold xl8
   rw [hg]
   exact .inr (.inr (.inr (.inr (.inr (h.mono fun s1 ⟨h1, h2⟩ => ⟨h1, zh8 hk h2⟩)))))
 ·unfold xl8 at *
  split
  ·rename_i hg2; exact absurd hg2 hg
  ·rename_i hg2; rw [hg2] at h; obtain ⟨s', h1, h2⟩ := h; exact ⟨s', h1, hk _ h2⟩
  ·rename_i hg2; rw [hg2] at h; exact h
theorem runA_mono {ops : List Oper} : ∀ {l : List Oper} {s : St} {K K' : St → Prop}, (∀ s, K s → K' s) → runA P ops l s K → runA P ops l s K'
 | [], _, _, _, hk, h => hk _ h
 | _ :: _, _, _, _, hk, h => stepA_mono (fun _ h => runA_mono hk h) h
theorem stepD_mono {ops : List Oper} {o : Oper} {s : St} {K K' : St → Prop} (hk : ∀ s, K s → K' s) (h : stepD P ops o s K) : stepD P ops o s K' := by
 unfold stepD at *
 split
 ·rename_i hg
  rw [hg] at h
  rcases h with ⟨s', h1, h2⟩ | ⟨h3, h⟩
  ·exact .inl ⟨s', h1, hk _ h2⟩
  ·refine .inr ⟨h3, ?_⟩
   unfold callD at *
   split
   ·rename_i c ho
    rw [ho] at h
    dsimp only at h
    split
    ·rename_i hc
     rw [hc] at h
     obtain ⟨a, b, c, e1, e2, e3, e4, e5, e6, e7⟩ := h
     exact ⟨a, b, c, e1, e2, e3, e4, e5, e6, hk _ e7⟩
    ·rename_i hc; rw [hc] at h; exact h
   ·rename_i hno; split at h <;> first | exact absurd (by assumption) (hno _) | exact h
 ·rename_i hg; rw [hg] at h; obtain ⟨s', h1, h2⟩ := h; exact ⟨s', h1, hk _ h2⟩
 ·rename_i hg; rw [hg] at h; exact h
theorem runD_mono {ops : List Oper} : ∀ {l : List Oper} {s : St} {K K' : St → Prop}, (∀ s, K s → K' s) → runD P ops l s K → runD P ops l s K'
 | [], _, _, _, hk, h => hk _ h
 | _ :: _, _, _, _, hk, h => stepD_mono (fun _ h => runD_mono hk h) h
theorem zc9 {code : Code} {Q : Exit → St → Prop} {s : St} (ks : List Nat) (h : Wt top kf P code Q (keepS ks s)) : Wt top kf P code Q s := W_keep ks h
theorem W_rK {id : Nat} {ops : Array Oper} {y : Code} {Q : Exit → St → Prop} {s : St} (ks : List Nat) (h : runA P ops.toList ops.toList s fun s' => Wt top kf P y Q (keepS ks s')) : Wt top kf P (.seq (.region id ops false) y) Q s :=
 yk9 (W_region (runA_mono (fun _ h => zc9 ks h) h))
theorem W_rE {id : Nat} {ops : Array Oper} {Q : Exit → St → Prop} {s : St} (ks : List Nat) (h : runA P ops.toList ops.toList s fun s' => Q .normal (keepS ks s')) : Wt top kf P (.region id ops false) Q s :=
 wk9 ks (W_region h)
theorem W_rdK {id : Nat} {ops : Array Oper} {y : Code} {Q : Exit → St → Prop} {s : St} (ks : List Nat) (hm : P.follows .mixedOrders = true) (hd : drawB ops = true) (h : runD P ops.toList ops.toList s fun s' => Wt top kf P y Q (keepS ks s')) :
  Wt top kf P (.seq (.region id ops true) y) Q s :=
 yk9 (W_drawD hm hd (runD_mono (fun _ h => zc9 ks h) h))
theorem W_rdE {id : Nat} {ops : Array Oper} {Q : Exit → St → Prop} {s : St} (ks : List Nat) (hm : P.follows .mixedOrders = true) (hd : drawB ops = true) (h : runD P ops.toList ops.toList s fun s' => Q .normal (keepS ks s')) :
  Wt top kf P (.region id ops true) Q s := wk9 ks (W_drawD hm hd h)
theorem yq9 {ops l l2 : List Oper} {s s' : St} {K : St → Prop} (k : Nat) (h : evRun P ops (l.take k) s = some s') (hl : l.drop k = l2) (rest : runA P ops l2 s' K) : runA P ops l s K := by
 subst hl
 have := evRun_app h rest
 rwa [List.take_append_drop] at this
theorem yr9 {ops l : List Oper} {s s' : St} {K : St → Prop} (h : evRun P ops l s = some s') (hk : K s') : runA P ops l s K := by
 have := yq9 (P := P) (ops := ops) (l := l) (K := K) (l2 := []) l.length (by rw [List.take_length]; exact h) (by simp) hk
 exact this
def callArgs (P : Program) (s : St) (o : Oper) : Option (FuncId × List AV × List AObj) :=
 match o.op with
 | .call c => match yb9 s c.callee with
  | some (f, l1, l2) => if c.args.size ≤ c.argTypes.size then (prep P s (site o) l1 (c.args.toList.zip c.argTypes.toList) l2).map fun x => (f, x.1, x.2) else none
  | none => none
 | _ => none
theorem zq9 {ops l : List Oper} {o : Oper} {s s' : St} {K : St → Prop} {f : FuncId} {args : List AV} {h' : List AObj} {r : AV} (hg : zb9 ops s o = some true) (hc : callArgs P s o = some (f, args, h')) (hS : Sound P f args r)
  (hput : (⟨s.n, s.fr, h'⟩ : St).put o.dst (r.norm (site o)) = some s') (rest : runA P ops l s' K) : runA P ops (o :: l) s K := by
 simp only [runA, xl8]
 rw [hg]
 refine .inr (.inl ?_)
 unfold callArgs at hc
 unfold callA
 split at hc
 ·rename_i c ho
  split at hc
  ·rename_i f' l1 l2 hcal
   split at hc
   ·rename_i hsz
    obtain ⟨x, hx, he⟩ := Option.map_eq_some_iff.1 hc
    cases he
    rw [ho]
    dsimp only
    rw [hcal]
    unfold prep at hx
    obtain ⟨xs, hxs, hx⟩ := Option.bind_eq_some_iff.1 hx
    obtain ⟨⟨ys, h1⟩, hys, hx⟩ := Option.bind_eq_some_iff.1 hx
    dsimp only at hx
    split at hx
    ·cases hx
     exact ⟨ys, _, r, s', by rw [hxs]; exact hys, hsz, hS.ofDp, hput, rest⟩
    ·cases hx
   ·cases hc
  ·cases hc
 ·cases hc
def yl9 (P : Program) (s : St) (o : Oper) : Option (FuncId × List AV) :=
 match o.op with
 | .call c => match yb9 s c.callee with
  | some (f, l1, l2) => if c.args.size ≤ c.argTypes.size then (evOpts P s (c.args.toList.zip c.argTypes.toList)).map fun xs => (f, l1 ++ xs ++ l2) else none
  | none => none
 | _ => none
theorem zw9 {ops l : List Oper} {o : Oper} {s : St} {K : St → Prop} {f : FuncId} {args : List AV} (hg : zb9 ops s o = some true) (hc : yl9 P s o = some (f, args))
  (hS : xl9 P f args s.h fun r h' => ∃ s', (⟨s.n, zr8 (AV.toksL args ++ yq7 s.h) s.fr, h'⟩ : St).put o.dst r = some s' ∧ runA P ops l s' K) : runA P ops (o :: l) s K := by
 simp only [runA, xl8]
 rw [hg]
 refine .inr (.inr (.inl ?_))
 unfold yl9 at hc
 unfold callO
 split at hc
 ·rename_i c ho
  split at hc
  ·rename_i f' l1 l2 hcal
   split at hc
   ·rename_i hsz
    obtain ⟨x, hx, he⟩ := Option.map_eq_some_iff.1 hc
    cases he
    rw [ho]
    dsimp only
    rw [hcal]
    exact ⟨_, hx, hsz, hS⟩
   ·cases hc
  ·cases hc
 ·cases hc
theorem runA_b {ops l : List Oper} {o : Oper} {s : St} {K : St → Prop} (hg : zb9 ops s o = some true) (h : callB P o s fun s' => runA P ops l s' K) : runA P ops (o :: l) s K := by
 simp only [runA, xl8]
 rw [hg]
 exact .inr (.inr (.inr (.inr (.inl h))))
theorem runA_y {ops l : List Oper} {o : Oper} {s : St} {K : St → Prop} (hg : zb9 ops s o = some true) (h : callY P o s fun s' => runA P ops l s' K) : runA P ops (o :: l) s K := by
 simp only [runA, xl8]
 rw [hg]
 exact .inr (.inr (.inr (.inl h)))
theorem yw9 {ops l l2 : List Oper} {s s' : St} {K : St → Prop} (k : Nat) (h : evRunD P ops (l.take k) s = some s') (hl : l.drop k = l2) (rest : runD P ops l2 s' K) : runD P ops l s K := by
 subst hl
 have := evRunD_runD h rest
 rwa [List.take_append_drop] at this
theorem zr9 {ops l : List Oper} {s s' : St} {K : St → Prop} (h : evRunD P ops l s = some s') (hk : K s') : runD P ops l s K := by
 have := yw9 (P := P) (ops := ops) (l := l) (K := K) (l2 := []) l.length (by rw [List.take_length]; exact h) (by simp) hk
 exact this
def callArgsD (P : Program) (s : St) (o : Oper) : Option (FuncId × List AV) :=
 match o.op with
 | .call c => match c.callee with
  | .value _ => match yb9 s c.callee with
   | some (f, l1, l2) => if c.args.size ≤ c.argTypes.size then (evOpts P s (c.args.toList.zip c.argTypes.toList)).bind fun xs => if AV.flatL xs && AV.rfL (AV.dpL (l1 ++ xs ++ l2)) then some (f, AV.dpL (l1 ++ xs ++ l2)) else none else none
   | none => none
  | _ => none
 | _ => none
theorem zd9 {ops l : List Oper} {o : Oper} {s s' : St} {K : St → Prop} {f : FuncId} {args : List AV} {r : AV} (hg : zb9 ops s o = some true) (hc : callArgsD P s o = some (f, args)) (hS : Sound P f args r)
  (hput : s.put o.dst (r.norm (site o)) = some s') (rest : runD P ops l s' K) : runD P ops (o :: l) s K := by
 simp only [runD, stepD]
 rw [hg]
 unfold callArgsD at hc
 split at hc
 ·rename_i c ho
  split at hc
  ·rename_i fo hfo
   split at hc
   ·rename_i f' l1 l2 hcal
    split at hc
    ·rename_i hsz
     obtain ⟨xs, hxs, hc⟩ := Option.bind_eq_some_iff.1 hc
     split at hc
     ·rename_i hfl
      cases hc
      simp only [Bool.and_eq_true] at hfl
      refine .inr ⟨by simp [dcls, ho, hfo], ?_⟩
      unfold callD
      rw [ho]
      dsimp only
      rw [hcal]
      exact ⟨xs, r, s', hxs, hfl.1, hfl.2, hsz, hS.ofDp, hput, rest⟩
     ·cases hc
    ·cases hc
   ·cases hc
  ·cases hc
 ·cases hc
theorem retW_mk {s : St} {rs : List ResultVar} {k : Nat} {Q : AV → List AObj → Prop} {x : AV} (hx : resA P s rs = some x) (hk : k ≤ s.h.length) (hu : x.under s.h.length = true ∧ ys9 s.h.length s.h = true) (hq : Q x s.h) : retW P rs k Q .ret s :=
 ⟨.inr rfl, x, x, s.h, s.h.length, hx, .inl ⟨rfl, rfl⟩, hk, Nat.le_refl _, hu.1, by rw [List.take_length]; exact hu.2, by rw [List.take_length]; exact hq⟩
theorem zk9 {s : St} {rs : List ResultVar} {k : Nat} {Q : AV → List AObj → Prop} {x : AV} (m : Nat) (hx : resA P s rs = some x) (hk : k ≤ m) (hm : m ≤ s.h.length) (hu : x.under m = true ∧ ys9 m (s.h.take m) = true) (hq : Q x (s.h.take m)) : retW P rs k Q .ret s :=
 ⟨.inr rfl, x, x, s.h, m, hx, .inl ⟨rfl, rfl⟩, hk, hm, hu.1, hu.2, hq⟩
theorem Sound.dp {f : FuncId} {xs : List AV} {r : AV} (h : Sound P f (AV.dpL xs) r) : Sound P f xs r :=
 ⟨h.1, fun F n c w vals T h1 h2 h3 h4 h5 => h.2 F n c w vals T h1 h2 h3 h4 h5.dpL⟩
theorem Sound.weak {f : FuncId} {xs : List AV} {r : AV} (h : Sound P f (AV.weakL xs) r) : Sound P f xs r :=
 ⟨h.1, fun F n c w vals T h1 h2 h3 h4 h5 => h.2 F n c w vals T h1 h2 h3 h4 h5.weakL⟩
attribute [simp] callArgs yl9 callArgsD prep
@[simp] theorem underL_byL (m : Nat) (l : List UInt8) : AV.underL m (byL l) = true := by induction l <;> simp_all [byL, AV.underL, AV.under]
@[simp] theorem rfL_byL (l : List UInt8) : AV.rfL (byL l) = true := by induction l <;> simp_all [byL, AV.rfL, AV.rf]
@[simp] theorem yv7 (l : List UInt8) : AV.koneL (byL l) = true := by induction l <;> simp_all [byL, AV.koneL, AV.kone]
@[simp] theorem dpL_byL (l : List UInt8) : AV.dpL (byL l) = byL l := by induction l <;> simp_all [byL, AV.dpL, AV.dp]
@[simp] theorem ys7 (l : List UInt8) : AV.weakL (byL l) = byL l := by induction l <;> simp_all [byL, AV.weakL, AV.weak]
@[simp] theorem vb8 (l : List UInt8) : catK 1 (byL l) = some (byL l) := by induction l <;> simp_all [byL, catK, AV.cellsK, AV.kone]
@[simp] theorem xg8 (n : Nat) (l : List UInt8) (h : n ≤ l.length) : chunk false 1 n (byL l) = byL (l.take n) := by
 induction n generalizing l with
 | zero => simp [chunk]
 | succ n ih =>
  cases l with
  | nil => simp at h
  | cons b l => simp only [chunk, vs9, List.headD_cons, List.drop_succ_cons, List.drop_zero, List.take_succ_cons, Bool.false_eq_true, if_false]; rw [ih l (by simpa using h)]
theorem yh9 {K : St → Prop} {Q : Exit → St → Prop} {s : St} (h : Q .ret s) : yp9 K Q .ret s := h
theorem yj9 {id : Nat} {Q : Exit → St → Prop} {s : St} (h : Q .ret s) : inBlk id Q .ret s := h
end
end Go.AM
namespace Go.AM
open Go.RowKit
variable {P : Program}
mutual
def AV.plain : AV → AV
 | .lst _ s xs => .lst .any s xs
 | .agg xs => .agg (AV.plainL xs)
 | .tup xs => .tup (AV.plainL xs)
 | x => x
def AV.plainL : List AV → List AV
 | [] => []
 | x :: xs => AV.plain x :: AV.plainL xs
end
theorem plainL_get (xs : List AV) (j : Nat) : (AV.plainL xs)[j]? = (xs[j]?).map AV.plain := by
 induction xs generalizing j with
 | nil => simp [AV.plainL]
 | cons x xs ih => cases j <;> simp [AV.plainL, ih]
theorem plainL_length (xs : List AV) : (AV.plainL xs).length = xs.length := by
 induction xs <;> simp_all [AV.plainL]
theorem Rep.plain {c : Ctx} {w : World} {x : AV} {u : Value} (h : Rep c w x u) : Rep c w x.plain u := by
 induction h with
 | lst u hn hcap hmax hs hsz hrf hz hnil hc hr _ => exact .lst u hn hcap hmax hs hsz hrf hz trivial hc hr
 | agg h _ ih =>
  refine .agg (by rw [plainL_length]; exact h) fun j y hj => ?_
  rw [plainL_get] at hj
  obtain ⟨x, hx, rfl⟩ := Option.map_eq_some_iff.1 hj
  exact ih j x hx
 | tup h _ ih =>
  refine .tup (by rw [plainL_length]; exact h) fun j y hj => ?_
  rw [plainL_get] at hj
  obtain ⟨x, hx, rfl⟩ := Option.map_eq_some_iff.1 hj
  exact ih j x hx
 | any u => exact .any u
 | v x => exact .v x
 | ro u hrf hc hr => exact .ro u hrf hc hr
 | loc h => exact .loc h
 | arr h h1 h2 => exact .arr h h1 h2
 | fn h1 h2 r1 r2 => exact .fn h1 h2 r1 r2
 | mp h => exact .mp h
 | yld h => exact .yld h
mutual
theorem tl_plain : (x : AV) → x.plain.tl = true
 | .lst _ _ _ => rfl
 | .agg xs => tl_plainL xs
 | .tup xs => tl_plainL xs
 | .any => rfl
 | .v _ => rfl
 | .ro _ => rfl
 | .loc _ _ => rfl
 | .arr _ _ _ _ => rfl
 | .fn _ _ _ => rfl
 | .mp _ => rfl
 | .yld _ => rfl
theorem tl_plainL : (xs : List AV) → AV.tlL (AV.plainL xs) = true
 | [] => rfl
 | x :: xs => by simp only [AV.plainL, AV.tlL, tl_plain x, tl_plainL xs, Bool.and_self]
end
attribute [simp] AV.plain AV.plainL
def retN (P : Program) (rs : List ResultVar) (r : AV) (e : Exit) (s : St) : Prop := ∃ r0, retQ P rs r0 e s ∧ ((∀ T, r0.norm T = r.norm T) ∨ r0.plain = r)
theorem vg9 {f : FuncId} {fn : Func} {code : Code} {args : List AV} {r : AV} (hf : P.funcs[f]? = some fn) (hb : fn.body = some code) (hn : (fn.name == "runtime.NumGoroutine") = false)
  (hlen : args.length ≤ fn.ntmps) (hrf : AV.rfL args = true) (htl : AV.tlL args = true) {rs : List ResultVar} (hrs : fn.results.toList = rs) (h : W P code (retN P rs r) ⟨fn.ntmps, numF 0 args, []⟩) : Sound P f args r := by
 subst hrs
 refine ⟨⟨fn, hf, hn, by rw [hb]; rfl⟩, ?_⟩
 intro F n c w vals T hF hro hT hbase hargs
 let c0 : Ctx := { c with base := fun b => w.heap.size ≤ b, no := 0 }
 have hargs0 : RepL P c0 w args vals := RepL.enter (c := c) (c' := c0) rfl hargs hrf htl
 have hl : args.length = vals.length := hargs.length
 refine callsIn_of_wp_marks hf hb (hF.1 f) ?_ hro
 have hs0 : SimSt P c0 w ⟨fn.ntmps, numF 0 args, []⟩ { tmps := vals.toArray ++ Array.replicate (fn.ntmps - vals.toArray.size) undef, defers := [] } := by
  refine ⟨by simp; omega, fun _ h => h, ?_, ⟨rfl, fun i hi => absurd hi (Nat.not_lt_zero _), fun i j hi => absurd hi (Nat.not_lt_zero _), by simp⟩, ⟨[], rfl, .nil, by simp⟩⟩
  intro i x hx
  obtain ⟨h1, h2⟩ := numF_get args 0 i x hx
  obtain ⟨u, hu, hr, ho⟩ := hargs0.get (by simpa using h2)
  have hi : i < vals.length := (List.getElem?_eq_some_iff.1 hu).1
  exact ⟨u, by rw [Array.getElem?_append_left (by simpa using hi)]; simpa using hu, hr, ho⟩
 refine wpIn_mono (h F n c0 w _ (hF.top hro (Nat.zero_le _) true) hs0) ?_
 rintro e a' w' ⟨s', c', ⟨r0, ⟨he, x, h', hres, hfr, hrr⟩, hnorm⟩, hs', hext⟩
 have key : LeavesInM F n P fn a'.tmps (fun e w' => ∃ u c', e = .returned u ∧ PExt c w c' w' ∧ Rep c' w' (r.norm T) u ∧ Own P (c'.rebase fun b => w.heap.size ≤ b) w' (r.norm T) u) a'.defers .returning w' := by
  obtain ⟨rs, hd, hnd, hrs⟩ := hs'.dfr
  obtain ⟨w2, hsh, hleave⟩ := shutAll (F := F) (n := n) (fn := fn) (tmps := a'.tmps) (R := fun e w' => ∃ u c', e = .returned u ∧ PExt c w c' w' ∧ Rep c' w' (r.norm T) u ∧ Own P (c'.rebase fun b => w.heap.size ≤ b) w' (r.norm T) u) rs w' hnd hrs
  rw [hd]
  refine hleave ?_
  have hs2 := hs'.recell hsh
  obtain ⟨v, hrun, hrep, hown⟩ := zv7 hs2 hres
  obtain ⟨c3, e3, k3, s3, r3, o3⟩ := zj8 (by decide) x s' c' r0 h' v hs2 hfr hrep hown
  have hb' : c'.base = (fun b => w.heap.size ≤ b) := hext.base
  have hb3 : c3.base = (fun b => w.heap.size ≤ b) := by rw [e3.base, hb']
  let cF : Ctx := { c with pm := c3.pm, ow := fun b => if b < w.heap.size then c.ow b else T }
  refine ⟨v, hrun, v, cF, rfl, ⟨rfl, rfl, rfl, by rw [hsh.os]; exact hext.os, by rw [hsh.tape]; exact hext.tape, by rw [hsh.output]; exact hext.output, by rw [hsh.size]; exact hext.size, ?_, ?_, ?_⟩, ?_, ?_⟩
  ·intro b hlt
   rw [hsh.below b (by rw [hb']; simpa using hlt)]
   exact hext.below b (by simpa [c0] using hlt)
  ·intro b hlt
   have h1 : c3.pm b = c'.pm b := e3.pmb b (by rw [hb']; simpa using hlt)
   have h2 : c'.pm b = c.pm b := hext.pmb b (by simpa [c0] using hlt)
   exact h1.trans h2
  ·intro b hlt
   simp only [cF, if_pos hlt]
  ·rcases hnorm with hnorm | rfl
   ·rw [← hnorm T]
    exact (Rep.recast (c := c3) (c' := cF) (fun a ha => ha) r3 hrr).norm hT
   ·exact (Rep.recast (c := c3) (c' := cF) (fun a ha => ha) r3 hrr).plain.norm hT
  ·rcases hnorm with hnorm | rfl
   rotate_left
   ·exact .none (norm_tl T _ (tl_plain r0))
   rw [← hnorm T]
   refine Own.recast (c := c3) (c' := cF.rebase fun b => w.heap.size ≤ b) hT ?_ rfl ?_ o3
   ·rw [hb3]; exact fun _ h => h
   ·intro g hg
    rw [hb3] at hg
    simp only [cF, Ctx.rebase, if_neg (show ¬ g < w.heap.size by omega)]
 rcases he with rfl | rfl
 ·exact key
 ·exact key
def inL (l : List Int) : List AV := l.map fun b => .v (.int .i64 b)
@[simp] theorem inL_nil : inL [] = [] := rfl
end Go.AM
set_option linter.unusedSimpArgs false
namespace Go.AM
open Go.RowKit
variable {P : Program}
namespace AV
mutual
theorem under_le {m n : Nat} (h : m ≤ n) : (x : AV) → x.under m = true → x.under n = true
 | .loc _ _, k => by simp only [AV.under, decide_eq_true_eq] at k ⊢; omega
 | .arr _ _ _ _, k => by simp only [AV.under, decide_eq_true_eq] at k ⊢; omega
 | .mp _, k => by simp only [AV.under, decide_eq_true_eq] at k ⊢; omega
 | .yld _, k => by simp only [AV.under, decide_eq_true_eq] at k ⊢; omega
 | .fn _ a b, k => by simp only [AV.under, Bool.and_eq_true] at k ⊢; exact ⟨underL_le h a k.1, underL_le h b k.2⟩
 | .agg xs, k => underL_le h xs k
 | .tup xs, k => underL_le h xs k
 | .any, _ => rfl
 | .v _, _ => rfl
 | .lst _ _ _, _ => rfl
 | .ro _, _ => rfl
theorem underL_le {m n : Nat} (h : m ≤ n) : (xs : List AV) → AV.underL m xs = true → AV.underL n xs = true
 | [], _ => rfl
 | x :: xs, k => by
  simp only [AV.underL, Bool.and_eq_true] at k ⊢
  exact ⟨under_le h x k.1, underL_le h xs k.2⟩
end
end AV
theorem ym7 {m n : Nat} (h : m ≤ n) : (xs : List (Value × AV)) → xq9 m xs = true → xq9 n xs = true
 | [], _ => rfl
 | (_, x) :: xs, k => by
  simp only [xq9, Bool.and_eq_true] at k ⊢
  exact ⟨AV.under_le h x k.1, ym7 h xs k.2⟩
theorem frUnder_le {m n : Nat} (h : m ≤ n) : (xs : List (Nat × AV)) → yn9 m xs = true → yn9 n xs = true
 | [], _ => rfl
 | (_, x) :: xs, k => by
  simp only [yn9, Bool.and_eq_true] at k ⊢
  exact ⟨AV.under_le h x k.1, frUnder_le h xs k.2⟩
theorem AObj.under_le {m n : Nat} (h : m ≤ n) (o : AObj) (k : o.under m = true) : o.under n = true := by
 cases o with
 | cells _ cs => exact AV.underL_le h cs k
 | froz _ cs => exact AV.underL_le h cs k
 | map es => exact ym7 h es k
 | loop _ fr _ _ _ _ => exact frUnder_le h fr k
 | dead => rfl
theorem underH_le {m n : Nat} (h : m ≤ n) : (xs : List AObj) → ys9 m xs = true → ys9 n xs = true
 | [], _ => rfl
 | x :: xs, k => by
  simp only [ys9, Bool.and_eq_true] at k ⊢
  exact ⟨AObj.under_le h x k.1, underH_le h xs k.2⟩
theorem underH_append (m : Nat) (a b : List AObj) : ys9 m (a ++ b) = (ys9 m a && ys9 m b) := by
 induction a with
 | nil => simp [ys9]
 | cons x a ih => simp [ys9, ih, Bool.and_assoc]
theorem runA_zeros {ops l : List Oper} {o : Oper} {s : St} {K : St → Prop} {cl : Call} {xo yo : Operand} {t t' e sz by_ n s0 : Nat} {ag : Bool} {z : AV} {k kn : IntKind} {x0 : List AV} (hg : zb9 ops s o = some true)
  (ho : o.op = .call cl) (hc : cl.callee = .builtin .append) (ha : cl.args.toList = [xo, yo]) (hty : cl.argTypes.toList = [t, t']) (h1 : s.evT P t xo = some (.lst .nil s0 x0)) (h2 : s.ev yo = some (.v (.int k (n : Nat))))
  (hsl : slI P t = some (e, ag, sz)) (htn : P.underlying t' = some (.int kn)) (hap : apI P e = some (sz, by_)) (hz : zA P e = some z) (hside : z.cells.length = sz ∧ 0 < sz ∧ 0 < by_) (hn : 0 < n) (hb : n * by_ ≤ 140737488355328)
  (rest : ∀ cap', n ≤ cap' → cap' ≤ maxLen → ∃ s', ({ s with h := s.h ++ [.cells e (repC cap' z.cells)] } : St).put o.dst (.arr s.h.length 0 n cap') = some s' ∧ runA P ops l s' K) : runA P ops (o :: l) s K := by
 refine runA_b hg ?_
 unfold callB
 rw [ho]
 dsimp only
 rw [hc, ha, hty]
 exact .inr (.inl ⟨e, ag, sz, by_, z, kn, k, n, s0, x0, h1, hsl, htn, hap, hz, hside.1, hside.2.1, hside.2.2, h2, hn, hb, rest⟩)
theorem runA_nilA {ops l : List Oper} {o : Oper} {s : St} {K : St → Prop} {cl : Call} {xo yo : Operand} {t e sz by_ s0 m : Nat} {ag : Bool} {z : AV} {x0 yc : List AV} (hg : zb9 ops s o = some true)
  (ho : o.op = .call cl) (hc : cl.callee = .builtin .append) (ha : cl.args.toList = [xo, yo]) (hty : cl.argTypes.toList = [t, t]) (h1 : s.evT P t xo = some (.lst .nil s0 x0)) (h2 : srcA P s t yo sz = some (m, yc))
  (hsl : slI P t = some (e, ag, sz)) (hap : apI P e = some (sz, by_)) (hz : zA P e = some z) (hside : z.cells.length = sz ∧ 0 < sz ∧ 0 < by_) (hne : 0 < m)
  (hb : m * by_ ≤ 140737488355328)
  (rest : ∀ cap', m ≤ cap' → cap' ≤ maxLen → ∃ s', ({ s with h := s.h ++ [.cells e (yc ++ repC (cap' - m) z.cells)] } : St).put o.dst (.arr s.h.length 0 m cap') = some s' ∧ runA P ops l s' K) : runA P ops (o :: l) s K := by
 refine runA_b hg ?_
 unfold callB
 rw [ho]
 dsimp only
 rw [hc, ha, hty]
 exact .inr (.inr ⟨rfl, e, ag, sz, by_, z, s0, x0, m, yc, h1, hsl, hap, hz, hside.1, hside.2.1, hside.2.2, h2, hne, hb, rest⟩)
theorem runA_app {ops l : List Oper} {o : Oper} {s : St} {K : St → Prop} {cl : Call} {xo yo : Operand} {t e sz by_ id len cap : Nat} {ag : Bool} {z : AV} {oy : Fl} {cs ys yc : List AV} (hg : zb9 ops s o = some true)
  (ho : o.op = .call cl) (hc : cl.callee = .builtin .append) (ha : cl.args.toList = [xo, yo]) (hty : cl.argTypes.toList = [t, t]) (h1 : s.evT P t xo = some (.arr id 0 len cap)) (h2 : s.evT P t yo = some (.lst oy sz ys))
  (hsl : slI P t = some (e, ag, sz)) (hap : apI P e = some (sz, by_)) (hz : zA P e = some z) (hside : z.cells.length = sz ∧ 0 < sz ∧ 0 < by_) (hobj : s.h[id]? = some (.cells e cs)) (hcs : cs.length = cap * sz) (hcat : catK sz ys = some yc)
  (hb : (len + ys.length) * by_ ≤ 140737488355328)
  (rest : ∀ s1 x1, appQ s e sz id len cap ys.length yc cs z.cells s1 x1 → ∃ s', s1.put o.dst x1 = some s' ∧ runA P ops l s' K) : runA P ops (o :: l) s K := by
 refine runA_b hg ?_
 unfold callB
 rw [ho]
 dsimp only
 rw [hc, ha, hty]
 exact .inl ⟨rfl, e, ag, sz, by_, z, id, len, cap, cs, ys.length, AV.weakL yc, hsl, hap, hz, hside.1, hside.2.1, hside.2.2, h1, hobj, hcs, by unfold srcA; rw [h2]; simp [hcat], hb, rest⟩
theorem zm8 {ops l : List Oper} {o : Oper} {s : St} {K : St → Prop} {cl : Call} {xo yo : Operand} {t t' e sz id off len cap : Nat} {ag : Bool} {oy : Fl} {cs ys yc : List AV} (hg : zb9 ops s o = some true)
  (ho : o.op = .call cl) (hc : cl.callee = .builtin .copy) (ha : cl.args.toList = [xo, yo]) (hty : cl.argTypes.toList = [t, t']) (h1 : s.evT P t xo = some (.arr id off len cap)) (h2 : s.evT P t' yo = some (.lst oy sz ys))
  (hsl : slI P t = some (e, ag, sz)) (hsz : 0 < sz) (hobj : s.h[id]? = some (.cells e cs)) (hcs : off + len * sz ≤ cs.length) (hcat : catK sz (ys.take len) = some yc)
  (rest : ∃ s', ({ s with h := s.h.set id (.cells e (yf9 cs off (AV.weakL yc))) } : St).put o.dst (.v (goInt (min ys.length len : Nat))) = some s' ∧ runA P ops l s' K) : runA P ops (o :: l) s K := by
 refine runA_b hg ?_
 unfold callB
 rw [ho]
 dsimp only
 rw [hc, ha, hty]
 exact ⟨e, ag, sz, id, off, len, cap, cs, oy, ys, yc, hsl, hsz, h1, hobj, hcs, h2, hcat, rest⟩
theorem W_rsK {top : Bool} {kf : Nat} {id : Nat} {ops : Array Oper} {y : Code} {Q : Exit → St → Prop} {s : St} (pre : Nat) (ks : List Nat) (hm : P.follows .mixedOrders = true) (hd : drawS ops pre = true)
  (h : runD P ops.toList (ops.toList.take pre) s fun s' => runA P ops.toList (ops.toList.drop pre) s' fun s2 => Wt top kf P y Q (keepS ks s2)) : Wt top kf P (.seq (.region id ops true) y) Q s :=
 yk9 (wk9 ks (W_drawS pre hm hd h))
theorem W_rsE {top : Bool} {kf : Nat} {id : Nat} {ops : Array Oper} {Q : Exit → St → Prop} {s : St} (pre : Nat) (ks : List Nat) (hm : P.follows .mixedOrders = true) (hd : drawS ops pre = true)
  (h : runD P ops.toList (ops.toList.take pre) s fun s' => runA P ops.toList (ops.toList.drop pre) s' fun s2 => Q .normal (keepS ks s2)) : Wt top kf P (.region id ops true) Q s :=
 wk9 ks (W_drawS pre hm hd h)
theorem repC_bytes (n : Nat) : repC n [AV.v (.int .u8 0)] = byL (List.replicate n 0) := by
 induction n with
 | zero => rfl
 | succ n ih => simp only [repC, ih, List.replicate_succ, vs9]; rfl
theorem setSeg_bytes (B b : List UInt8) (off : Nat) : yf9 (byL B) off (byL b) = byL (B.take off ++ b ++ B.drop (off + b.length)) := by
 simp only [yf9, byL_length, vq9, byL_take, byL_drop]
theorem chunk_bytes (n : Nat) (l : List UInt8) (h : n ≤ l.length) : chunk false 1 n (byL l) = byL (l.take n) := xg8 n l h
def bbL (L : List (List UInt8)) : List AV := L.map fun b => .lst .any 1 (byL b)
@[simp] theorem bbL_length (L : List (List UInt8)) : (bbL L).length = L.length := by simp [bbL]
@[simp] theorem bbL_nil : bbL [] = [] := rfl
theorem wp8 (b : List UInt8) (L : List (List UInt8)) : bbL (b :: L) = .lst .any 1 (byL b) :: bbL L := rfl
theorem yj8 (L M : List (List UInt8)) : bbL (L ++ M) = bbL L ++ bbL M := by simp [bbL]
theorem bbL_get (L : List (List UInt8)) (i : Nat) : (bbL L)[i]? = (L[i]?).map fun b => .lst .any 1 (byL b) := by simp [bbL]
@[simp] theorem bbL_getElem (L : List (List UInt8)) (i : Nat) (h : i < (bbL L).length) : (bbL L)[i] = .lst .any 1 (byL (L[i]'(by simpa using h))) := by simp [bbL]
def byteOf : AV → Option UInt8
 | .v (.int .u8 n) => if 0 ≤ n ∧ n < 256 then some (UInt8.ofNat n.toNat) else none
 | _ => none
theorem byteOf_eq {x : AV} {b : UInt8} (h : byteOf x = some b) : x = .v (.int .u8 b.toNat) := by
 unfold byteOf at h
 split at h
 ·split at h
  ·rename_i n hn
   cases h
   congr 2
   rw [UInt8.toNat_ofNat']; omega
  ·cases h
 ·cases h
def bytesOf : List AV → Option (List UInt8)
 | [] => some []
 | x :: xs => (byteOf x).bind fun b => (bytesOf xs).map fun l => b :: l
theorem zk8 : ∀ {xs : List AV} {l : List UInt8}, bytesOf xs = some l → xs = byL l
 | [], l, h => by simp only [bytesOf, Option.some.injEq] at h; subst h; rfl
 | x :: xs, l, h => by
  simp only [bytesOf] at h
  obtain ⟨b, hb, h⟩ := Option.bind_eq_some_iff.1 h
  obtain ⟨l', hl, rfl⟩ := Option.map_eq_some_iff.1 h
  rw [vs9, byteOf_eq hb, zk8 hl]
end Go.AM
namespace Go.AM
open Go.RowKit
set_option linter.unusedSimpArgs false
def AV.shal : AV → Bool
 | .v _ => true
 | .any => true
 | .lst _ _ [] => true
 | _ => false
def AV.shalL (xs : List AV) : Bool := xs.all AV.shal
def AV.sl : AV → Bool
 | .v (.slice _ _ _) => true
 | .v _ => false
 | .lst _ _ _ => true
 | .arr _ _ _ _ => true
 | .any => true
 | _ => false
def AV.isL : AV → Bool
 | .lst _ _ _ => true
 | _ => false
mutual
def AV.deep : AV → Bool
 | .lst _ _ xs => (xs.isEmpty || xs.any fun x => x.cells.any fun y => !y.sl) && AV.deepL xs
 | .agg xs => AV.deepL xs
 | .tup xs => AV.deepL xs
 | .v _ => true
 | .any => true
 | _ => false
def AV.deepL : List AV → Bool
 | [] => true
 | x :: xs => AV.deep x && AV.deepL xs
end
def AV.thwL (xs : List AV) : Bool := AV.shalL xs || (xs.all AV.isL && AV.deepL xs)
theorem thwL_shal {xs : List AV} (h : AV.shalL xs = true) : AV.thwL xs = true := by simp [AV.thwL, h]
theorem zq7 {xs : List AV} (h : AV.deepL xs = true) {j : Nat} {y : AV} (hy : xs[j]? = some y) : y.deep = true := by
 induction xs generalizing j with
 | nil => simp at hy
 | cons x xs ih =>
  simp only [AV.deepL, Bool.and_eq_true] at h
  cases j with
  | zero => simp at hy; subst hy; exact h.1
  | succ j => exact ih h.2 (by simpa using hy)
theorem deep_cells {x y : AV} (h : x.deep = true) {j : Nat} (hy : x.cells[j]? = some y) : y.deep = true := by
 have one : x.cells = [x] → y.deep = true := by
  intro e
  rw [e] at hy
  cases j with
  | zero => simp at hy; subst hy; exact h
  | succ j => simp at hy
 cases x with
 | agg xs => exact zq7 (by simpa [AV.deep] using h) hy
 | _ => exact one rfl
section
variable {P : Program} {c c' : Ctx} {w w' : World}
theorem shal_rep {x : AV} {u : Value} (h : Rep c w x u) (hs : x.shal = true) : Rep c' w' x u := by
 cases h with
 | any u => exact .any u
 | v => exact .v _
 | @lst o s xs a n cap u hn hcap hmax hs0 hsz hrf hz hnil hc hr =>
  cases xs with
  | nil =>
   refine .lst u hn hcap hmax hs0 hsz hrf hz hnil (fun ad k _ hk => ?_) (fun i j x y hi _ => by simp at hi)
   subst hn
   simp at hk
  | cons x l => simp [AV.shal] at hs
 | _ => simp [AV.shal] at hs
theorem blk_add (ad : Addr) (k : Nat) : (ad.add k).block = ad.block := by unfold Addr.add; split <;> rfl
theorem deep_rep {g : Nat} (hg : ∀ ad u, ad.block = g → w.cell? ad = some u → c.prot ad → ∃ a n k, u = .slice a n k) (hp : ∀ ad, ad.block ≠ g → c.prot ad → c'.prot ad) {x : AV} {u : Value} (h : Rep c w x u) (hx : x.deep = true) : Rep c' w x u := by
 induction h with
 | any u => exact .any u
 | v x => exact .v x
 | @lst o s xs a n cap u hn hcap hmax hs hsz hrf hz hnil hc hr ih =>
  simp only [AV.deep, Bool.and_eq_true, Bool.or_eq_true] at hx
  refine .lst u hn hcap hmax hs hsz hrf hz hnil (fun ad k ha hk => ?_) (fun i j x y hi hj => ih i j x y hi hj (deep_cells (zq7 hx.2 hi) hj))
  obtain ⟨h1, h2, h3⟩ := hc ad k ha hk
  refine ⟨h1, hp _ ?_ h2, h3⟩
  intro hb
  have hb' : ad.block = g := by
   have : (ad.add k).block = ad.block := blk_add ad k
   rw [this] at hb; exact hb
  rcases hx.1 with he | he
  ·have : xs = [] := by simpa using he
   subst this
   subst hn
   simp at hk
  ·obtain ⟨x, hxm, he⟩ := List.any_eq_true.1 he
   obtain ⟨y, hym, he⟩ := List.any_eq_true.1 he
   obtain ⟨i, hi, rfl⟩ := List.mem_iff_getElem.1 hxm
   obtain ⟨j, hj, rfl⟩ := List.mem_iff_getElem.1 hym
   have hxi : xs[i]? = some xs[i] := List.getElem?_eq_getElem hi
   have hyj : xs[i].cells[j]? = some xs[i].cells[j] := List.getElem?_eq_getElem hj
   have hsl := hsz _ hxm
   have hk2 : i * s + j < n * s := by
    rw [hsl] at hj
    have : (i + 1) * s ≤ n * s := Nat.mul_le_mul_right _ (by omega)
    rw [Nat.add_mul] at this
    omega
   obtain ⟨k1, k2, _⟩ := hc ad (i * s + j) ha hk2
   obtain ⟨a', nn, kk, hu⟩ := hg _ _ ((blk_add ad _).trans hb') k1 k2
   have hrep := hr i j _ _ hxi hyj
   rw [hu] at hrep
   generalize xs[i].cells[j] = y at hrep he
   cases hrep with
   | any u => simp [AV.sl] at he
   | v x => simp [AV.sl] at he
   | lst => simp [AV.sl] at he
   | arr => simp [AV.sl] at he
 | agg h _ ih => exact .agg h fun j y hj => ih j y hj (zq7 (by simpa [AV.deep] using hx) hj)
 | tup h _ ih => exact .tup h fun j y hj => ih j y hj (zq7 (by simpa [AV.deep] using hx) hj)
 | _ => simp [AV.deep] at hx
mutual
theorem dp_norm (T : Nat) : (x : AV) → (x.norm T).dp = x.dp
 | .lst (.tip _ _) _ _ => rfl
 | .lst .any _ _ => rfl
 | .lst .nil _ _ => rfl
 | .lst .ex _ _ => rfl
 | .agg xs => by simp only [AV.norm, AV.dp, dp_normL T xs]
 | .tup xs => by simp only [AV.norm, AV.dp, dp_normL T xs]
 | .any => rfl
 | .v _ => rfl
 | .ro _ => rfl
 | .loc _ _ => rfl
 | .arr _ _ _ _ => rfl
 | .fn _ _ _ => rfl
 | .mp _ => rfl
 | .yld _ => rfl
theorem dp_normL (T : Nat) : (xs : List AV) → AV.dpL (AV.normL T xs) = AV.dpL xs
 | [] => rfl
 | x :: xs => by simp only [AV.normL, AV.dpL, dp_norm T x, dp_normL T xs]
end
def AV.Le (P : Program) (x y : AV) : Prop := ∀ (c : Ctx) (w : World) (u : Value) (T : Nat), T % 2 = 1 → Rep c w (x.norm T) u → Own P c w (x.norm T) u → Rep c w (y.norm T) u ∧ Own P c w (y.norm T) u
theorem AV.Le.norm {x y : AV} (h : ∀ T, x.norm T = y.norm T) : AV.Le P x y := fun _ _ _ T _ h1 h2 => by rw [← h T]; exact ⟨h1, h2⟩
theorem AV.Le.dp (x : AV) : AV.Le P x x.dp := fun _ _ _ T hT h1 _ => by
 have h := h1.dp
 rw [dp_norm] at h
 exact ⟨h.norm hT, .none (norm_tl T _ (AV.tl_dp x))⟩
theorem AV.Le.nil {e T0 s : Nat} (hs : s = P.cellsOf e) : AV.Le P (.lst .nil s []) (.lst (.tip e T0) s []) := fun c w u T hT h1 _ => by
 simp only [AV.norm] at h1 ⊢
 obtain ⟨a, n, cap, ux, rfl, hn, hcap, hmax, hs0, hsx, hrx, hzx, hnil, hcx, hrr⟩ := xw9 h1
 have ha : a = none := hnil
 subst ha
 obtain ⟨rfl, rfl⟩ := hzx rfl
 exact ⟨.lst ux rfl (Nat.le_refl _) hmax (by simp) (by simp) rfl (fun _ => ⟨rfl, rfl⟩) (fun _ => rfl) (by simp) (by simp), .tip (by omega) hs (.inl ⟨rfl, rfl, rfl⟩)⟩
theorem AV.Le.tup {xs ys : List AV} (hl : xs.length = ys.length) (h : ∀ (j : Nat) (x y : AV), xs[j]? = some x → ys[j]? = some y → AV.Le P x y) : AV.Le P (.tup xs) (.tup ys) := fun c w u T hT h1 h2 => by
 simp only [AV.norm] at h1 h2 ⊢
 obtain ⟨us, rfl, hul, hrr⟩ := tup_inv h1
 have hoo := own_tup h2
 have hln : ∀ l : List AV, (AV.normL T l).length = l.length := fun l => by induction l <;> simp_all [AV.normL]
 have key : ∀ j y, (AV.normL T ys)[j]? = some y → Rep c w y (us.getD j undef) ∧ Own P c w y (us.getD j undef) := by
  intro j y hj
  rw [yv8] at hj
  obtain ⟨y0, hy, rfl⟩ := Option.map_eq_some_iff.1 hj
  have hjl : j < xs.length := by rw [hl]; exact (List.getElem?_eq_some_iff.1 hy).1
  have hx : xs[j]? = some xs[j] := List.getElem?_eq_getElem hjl
  have hxn : (AV.normL T xs)[j]? = some (xs[j].norm T) := by rw [yv8, hx]; rfl
  exact h j _ _ hx hy c w _ T hT (hrr j _ hxn) (hoo j _ hxn)
 exact ⟨.tup (by rw [hln, ← hl, ← hul, hln]) fun j y hj => (key j y hj).1, .tup fun j y hj => (key j y hj).2⟩
def retU (P : Program) (rs : List ResultVar) (r : AV) (e : Exit) (s : St) : Prop := ∃ r0, retQ P rs r0 e s ∧ AV.Le P r0 r
theorem sound_of_U {f : FuncId} {fn : Func} {code : Code} {args : List AV} {r : AV} (hf : P.funcs[f]? = some fn) (hb : fn.body = some code) (hn : (fn.name == "runtime.NumGoroutine") = false)
  (hlen : args.length ≤ fn.ntmps) (hrf : AV.rfL args = true) (htl : AV.tlL args = true) {rs : List ResultVar} (hrs : fn.results.toList = rs) (h : W P code (retU P rs r) ⟨fn.ntmps, numF 0 args, []⟩) : Sound P f args r := by
 subst hrs
 refine ⟨⟨fn, hf, hn, by rw [hb]; rfl⟩, ?_⟩
 intro F n c w vals T hF hro hT hbase hargs
 let c0 : Ctx := { c with base := fun b => w.heap.size ≤ b, no := 0 }
 have hargs0 : RepL P c0 w args vals := RepL.enter (c := c) (c' := c0) rfl hargs hrf htl
 have hl : args.length = vals.length := hargs.length
 refine callsIn_of_wp_marks hf hb (hF.1 f) ?_ hro
 have hs0 : SimSt P c0 w ⟨fn.ntmps, numF 0 args, []⟩ { tmps := vals.toArray ++ Array.replicate (fn.ntmps - vals.toArray.size) undef, defers := [] } := by
  refine ⟨by simp; omega, fun _ h => h, ?_, ⟨rfl, fun i hi => absurd hi (Nat.not_lt_zero _), fun i j hi => absurd hi (Nat.not_lt_zero _), by simp⟩, ⟨[], rfl, .nil, by simp⟩⟩
  intro i x hx
  obtain ⟨h1, h2⟩ := numF_get args 0 i x hx
  obtain ⟨u, hu, hr, ho⟩ := hargs0.get (by simpa using h2)
  have hi : i < vals.length := (List.getElem?_eq_some_iff.1 hu).1
  exact ⟨u, by rw [Array.getElem?_append_left (by simpa using hi)]; simpa using hu, hr, ho⟩
 refine wpIn_mono (h F n c0 w _ (hF.top hro (Nat.zero_le _) true) hs0) ?_
 rintro e a' w' ⟨s', c', ⟨r0, ⟨he, x, h', hres, hfr, hrr⟩, hnorm⟩, hs', hext⟩
 have key : LeavesInM F n P fn a'.tmps (fun e w' => ∃ u c', e = .returned u ∧ PExt c w c' w' ∧ Rep c' w' (r.norm T) u ∧ Own P (c'.rebase fun b => w.heap.size ≤ b) w' (r.norm T) u) a'.defers .returning w' := by
  obtain ⟨rs, hd, hnd, hrs⟩ := hs'.dfr
  obtain ⟨w2, hsh, hleave⟩ := shutAll (F := F) (n := n) (fn := fn) (tmps := a'.tmps) (R := fun e w' => ∃ u c', e = .returned u ∧ PExt c w c' w' ∧ Rep c' w' (r.norm T) u ∧ Own P (c'.rebase fun b => w.heap.size ≤ b) w' (r.norm T) u) rs w' hnd hrs
  rw [hd]
  refine hleave ?_
  have hs2 := hs'.recell hsh
  obtain ⟨v, hrun, hrep, hown⟩ := zv7 hs2 hres
  obtain ⟨c3, e3, k3, s3, r3, o3⟩ := zj8 (by decide) x s' c' r0 h' v hs2 hfr hrep hown
  have hb' : c'.base = (fun b => w.heap.size ≤ b) := hext.base
  have hb3 : c3.base = (fun b => w.heap.size ≤ b) := by rw [e3.base, hb']
  let cF : Ctx := { c with pm := c3.pm, ow := fun b => if b < w.heap.size then c.ow b else T }
  have hfin : Rep (cF.rebase fun b => w.heap.size ≤ b) w2 (r.norm T) v ∧ Own P (cF.rebase fun b => w.heap.size ≤ b) w2 (r.norm T) v := by
   refine hnorm _ w2 v T hT ?_ ?_
   ·exact ((Rep.recast (c := c3) (c' := cF) (fun a ha => ha) r3 hrr).norm hT).rebase _
   ·refine Own.recast (c := c3) (c' := cF.rebase fun b => w.heap.size ≤ b) hT ?_ rfl ?_ o3
    ·rw [hb3]; exact fun _ h => h
    ·intro g hg
     rw [hb3] at hg
     simp only [cF, Ctx.rebase, if_neg (show ¬ g < w.heap.size by omega)]
  refine ⟨v, hrun, v, cF, rfl, ⟨rfl, rfl, rfl, by rw [hsh.os]; exact hext.os, by rw [hsh.tape]; exact hext.tape, by rw [hsh.output]; exact hext.output, by rw [hsh.size]; exact hext.size, ?_, ?_, ?_⟩, ?_, ?_⟩
  ·intro b hlt
   rw [hsh.below b (by rw [hb']; simpa using hlt)]
   exact hext.below b (by simpa [c0] using hlt)
  ·intro b hlt
   have h1 : c3.pm b = c'.pm b := e3.pmb b (by rw [hb']; simpa using hlt)
   have h2 : c'.pm b = c.pm b := hext.pmb b (by simpa [c0] using hlt)
   exact h1.trans h2
  ·intro b hlt
   simp only [cF, if_pos hlt]
  ·exact (hfin.1.rebase cF.base)
  ·exact hfin.2
 rcases he with rfl | rfl
 ·exact key
 ·exact key
end
end Go.AM
namespace Go.AM
open Go.RowKit
set_option linter.unusedSimpArgs false
section
variable {P : Program} {c c' : Ctx} {w : World}
end
end Go.AM
namespace Go.AM
open Go.RowKit
set_option linter.unusedSimpArgs false
section
variable {P : Program} {top : Bool} {kf : Nat}
theorem W_frz {code : Code} {Q : Exit → St → Prop} {s : St} (i : Nat) {id off len cap tk : Nat} {x : AV} {h' : List AObj} (hg : getF s.fr i = some (.arr id off len cap)) (htk : tk % 2 = 1)
  (hf : wt9 P s.h tk id off len cap = some (x, h')) (h : Wt top kf P code Q ⟨s.n, putF s.fr i x, h'⟩) : Wt top kf P code Q s := by
 intro F n c w a hF hs
 obtain ⟨u, hu, hr, _⟩ := hs.fr i _ hg
 obtain ⟨c', he, hk, hs', hr', ho'⟩ := wq8 hs htk hf hr
 have hs2 : SimSt P c' w ⟨s.n, putF s.fr i x, h'⟩ a := by
  refine ⟨hs'.n, hs'.base, fun j y hy => ?_, hs'.h, hs'.dfr⟩
  simp only at hy
  rw [yb7] at hy
  split at hy
  ·rename_i hj
   subst hj
   cases hy
   exact ⟨u, hu, hr', ho'⟩
  ·exact hs'.fr j y hy
 have he' := he.toK hF.2.2
 refine wpIn_mono (h F n c' w a (hF.next he') hs2) ?_
 rintro e a' w' ⟨s', c2, q, k1, k2⟩
 exact ⟨s', c2, q, k1, he'.trans k2⟩
theorem frzArr_other {h h' : List AObj} {tk id off len cap : Nat} {x : AV} (hf : wt9 P h tk id off len cap = some (x, h')) {b : Nat} (hb : b ≠ id) : h'[b]? = h[b]? := by
 unfold wt9 at hf
 split at hf
 ·split at hf
  ·simp only at hf
   split at hf
   ·cases hf
    exact List.getElem?_set_ne (by omega)
   ·split at hf
    ·cases hf
     exact List.getElem?_set_ne (by omega)
    ·cases hf
  ·cases hf
 ·split at hf
  ·split at hf
   ·cases hf; rfl
   ·cases hf
  ·cases hf
 ·cases hf
theorem W_frzP {code : Code} {Q : Exit → St → Prop} {s : St} (b j : Nat) {ty id off len cap tk : Nat} {cs : List AV} {x : AV} {h' : List AObj} (hb : s.h[b]? = some (.cells ty cs)) (hg : cs[j]? = some (.arr id off len cap)) (hbi : b ≠ id) (htk : tk % 2 = 1)
  (hf : wt9 P s.h tk id off len cap = some (x, h')) (h : Wt top kf P code Q ⟨s.n, s.fr, h'.set b (.cells ty (cs.set j x.plain))⟩) : Wt top kf P code Q s := by
 intro F n c w a hF hs
 obtain ⟨_, _, _, cur0, hcur0, _, hcc⟩ := hs.h.obj b _ hb
 obtain ⟨hr, _, _⟩ := hcc j _ hg
 obtain ⟨c', he, hk, hs', hr', ho'⟩ := wq8 hs htk hf hr
 have hb' : h'[b]? = some (.cells ty cs) := by rw [frzArr_other hf hbi]; exact hb
 have hob := hs'.h.obj b _ hb'
 have hbl : b < h'.length := (List.getElem?_eq_some_iff.1 hb').1
 have hcb : c'.ob b = c.ob b := he.ob b (by rw [hs.h.no]; exact (List.getElem?_eq_some_iff.1 hb).1)
 obtain ⟨o1, o2, o3, cur, hcur, hlen, hcell⟩ := hob
 have hsame : cur0 = cur := by
  rw [hcb, hcur0] at hcur
  cases hcur
  rfl
 subst hsame
 have hs2 : SimSt P c' w ⟨s.n, s.fr, h'.set b (.cells ty (cs.set j x.plain))⟩ a := by
  refine ⟨hs'.n, hs'.base, hs'.fr, ⟨by simp only [List.length_set]; exact hs'.h.no, hs'.h.lt, hs'.h.inj, fun i o hi => ?_⟩, hs'.dfr⟩
  simp only at hi
  rw [List.getElem?_set] at hi
  split at hi
  ·rename_i hbi2
   subst hbi2
   cases hi
   refine ⟨o1, o2, o3, cur0, hcur, by rw [List.length_set]; exact hlen, fun k y hy => ?_⟩
   rw [List.getElem?_set] at hy
   split at hy
   ·rename_i hjk
    subst hjk
    split at hy
    ·cases hy
     exact ⟨hr'.plain, .none (tl_plain x), (hcell j _ hg).2.2⟩
    ·cases hy
   ·exact hcell k y hy
  ·exact hs'.h.obj i o hi
 have he' := he.toK hF.2.2
 refine wpIn_mono (h F n c' w a (hF.next he') hs2) ?_
 rintro e a' w' ⟨s', c2, q, k1, k2⟩
 exact ⟨s', c2, q, k1, he'.trans k2⟩
end
theorem xg9 {c1 c2 : Code} {Q : Exit → St → Prop} {s : St} {top : Bool} {kf : Nat} {P : Program} (K : St → Prop) (h1 : Wt top kf P c1 (yp9 K fun _ _ => False) s) (h2 : ∀ s, K s → Wt top kf P c2 Q s) : Wt top kf P (.seq c1 c2) Q s := by
 refine yk9 (h1.mono fun e s h => ?_)
 cases e with
 | normal => exact h2 s h
 | _ => exact h.elim
theorem wm8 {c1 c2 : Code} {Q : Exit → St → Prop} {s : St} {top : Bool} {kf : Nat} {P : Program} (K : St → Prop) (h1 : Wt top kf P c1 (yp9 K Q) s) (h2 : ∀ s, K s → Wt top kf P c2 Q s) : Wt top kf P (.seq c1 c2) Q s := by
 refine yk9 (h1.mono fun e s h => ?_)
 cases e with
 | normal => exact h2 s h
 | _ => exact h
end Go.AM
namespace Go.AM
open Go.RowKit
set_option linter.unusedSimpArgs false
section
variable {P : Program} {top : Bool} {kf : Nat}
theorem Rep.maxLen {c : Ctx} {w : World} {o : Fl} {s : Nat} {xs : List AV} {u : Value} (h : Rep c w (.lst o s xs) u) : xs.length ≤ maxLen := by
 obtain ⟨_, n, cap, _, _, h1, h2, h3, _⟩ := xw9 h
 omega
def FrOk : List (Nat × AV) → List (Nat × AV) → Prop
 | [], _ => True
 | (i, x) :: l, fr => getF fr i = some x ∧ FrOk l fr
theorem FrOk.get {l fr : List (Nat × AV)} (h : FrOk l fr) {i : Nat} {x : AV} (hx : getF l i = some x) : getF fr i = some x := by
 induction l with
 | nil => simp [getF] at hx
 | cons p l ih =>
  obtain ⟨j, y⟩ := p
  simp only [getF] at hx
  split at hx
  ·rename_i e; cases hx; subst e; exact h.1
  ·exact ih h.2 hx
def AtS (n : Nat) (l : List (Nat × AV)) (H : List AObj) (s : St) : Prop := s.n = n ∧ s.h = H ∧ FrOk l s.fr
theorem W_at {code : Code} {Q : Exit → St → Prop} {s : St} {n : Nat} {l : List (Nat × AV)} {H : List AObj} (h : AtS n l H s) (hw : Wt top kf P code Q ⟨n, l, H⟩) : Wt top kf P code Q s := by
 obtain ⟨sn, fr, sh⟩ := s
 obtain ⟨h1, h2, h3⟩ := h
 simp only at h1 h2 h3
 subst h1 h2
 exact W_conv (t := ⟨sn, l, sh⟩) (fun c w a hs => ⟨hs.n, hs.base, fun i x hx => hs.fr i x (h3.get hx), hs.h, hs.dfr⟩) hw
end
end Go.AM
namespace Go.AM
open Go.RowKit
set_option linter.unusedSimpArgs false
class Enc (α : Type) where
 enc : α → AV
 sz : Nat
 pos : 0 < sz
 ck : ∀ x, (enc x).cellsK = some (enc x).cells
 len : ∀ x, (enc x).cells.length = sz
 rf : ∀ x, (enc x).rf = true
 dp : ∀ x, (enc x).dp = enc x
 weak : ∀ x, (enc x).weak = enc x
section
variable {α : Type} [Enc α]
def encs (l : List α) : List AV := l.map Enc.enc
@[simp] theorem encs_nil : encs ([] : List α) = [] := rfl
theorem encs_cons (b : α) (L : List α) : encs (b :: L) = Enc.enc b :: encs L := rfl
@[simp] theorem dpL_encs (L : List α) : AV.dpL (encs L) = encs L := by
 induction L with
 | nil => rfl
 | cons x L ih => simp [encs_cons, AV.dpL, Enc.dp, ih]
end
@[simp] theorem rf_lst (o : Fl) (s : Nat) (xs : List AV) : AV.rf (.lst o s xs) = true := rfl
instance : Enc Int := ⟨fun n => .v (.int .i64 n), 1, Nat.one_pos, fun _ => by simp, fun _ => rfl, fun _ => rfl, fun _ => rfl, fun _ => rfl⟩
instance : Enc UInt8 := ⟨fun b => .v (.int .u8 b.toNat), 1, Nat.one_pos, fun _ => by simp, fun _ => rfl, fun _ => rfl, fun _ => rfl, fun _ => rfl⟩
instance : Enc Bool := ⟨fun b => .v (.bool b), 1, Nat.one_pos, fun _ => by simp, fun _ => rfl, fun _ => rfl, fun _ => rfl, fun _ => rfl⟩
instance {α : Type} [Enc α] : Enc (List α) := ⟨fun l => .lst .any (Enc.sz α) (encs l), 1, Nat.one_pos, fun _ => by simp, fun _ => rfl, fun _ => rfl, fun l => by simp [AV.dp], fun _ => rfl⟩
@[simp] theorem enc_list {α : Type} [Enc α] (l : List α) : Enc.enc l = .lst .any (Enc.sz α) (encs l) := rfl
@[simp] theorem enc_int (n : Int) : Enc.enc n = .v (.int .i64 n) := rfl
@[simp] theorem enc_u8 (b : UInt8) : Enc.enc b = .v (.int .u8 b.toNat) := rfl
@[simp] theorem enc_bool (b : Bool) : Enc.enc b = .v (.bool b) := rfl
@[simp] theorem sz_u8 : Enc.sz UInt8 = 1 := rfl
@[simp] theorem sz_int : Enc.sz Int = 1 := rfl
@[simp] theorem sz_bool : Enc.sz Bool = 1 := rfl
@[simp] theorem sz_list {α : Type} [Enc α] : Enc.sz (List α) = 1 := rfl
@[simp] theorem encs_byL (l : List UInt8) : encs l = byL l := rfl
@[simp] theorem encs_bbL (l : List (List UInt8)) : encs l = bbL l := rfl
structure Str where
 b : List UInt8
deriving DecidableEq
instance : Enc Str := ⟨fun s => .v (.string ⟨s.b.toArray⟩), 1, Nat.one_pos, fun _ => by simp, fun _ => rfl, fun _ => rfl, fun _ => rfl, fun _ => rfl⟩
@[simp] theorem enc_str (s : Str) : Enc.enc s = .v (.string ⟨s.b.toArray⟩) := rfl
@[simp] theorem sz_str : Enc.sz Str = 1 := rfl
end Go.AM
