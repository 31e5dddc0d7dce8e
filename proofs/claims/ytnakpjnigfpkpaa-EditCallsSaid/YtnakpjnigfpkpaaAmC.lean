/- The abstract machine: runs by computation, and the step to a given statement. -/
import Derived.Carry
import Derived.ChangeArms
import Derived.Deep.Slices
import Derived.ProofKit
import Derived.SizedLaws
import Derived.Test.YtnakpjnigfpkpaaAmB
set_option linter.unusedVariables false
set_option linter.unusedSimpArgs false
set_option linter.unusedSimpArgs false
set_option linter.unusedVariables false
namespace Go.AM
open Go.RowKit

def sw (i j k : Nat) : Nat := if k = i then j else if k = j then i else k
theorem sw_sw (i j k : Nat) : sw i j (sw i j k) = k := by unfold sw; split <;> split <;> (try split) <;> omega
theorem sw_lt {i j k N : Nat} (h : k < N) (hj : j < N) (hi : i < N) : sw i j k < N := by unfold sw; split <;> (try split) <;> omega
theorem sw_inj {i j a b : Nat} (h : sw i j a = sw i j b) : a = b := by have := congrArg (sw i j) h; rwa [sw_sw, sw_sw] at this
mutual
def AV.sw (i j : Nat) : AV → AV
  | .loc k o => .loc (Go.AM.sw i j k) o
  | .arr k o l c => .arr (Go.AM.sw i j k) o l c
  | .mp k => .mp (Go.AM.sw i j k)
  | .yld k => .yld (Go.AM.sw i j k)
  | .fn f a b => .fn f (swL i j a) (swL i j b)
  | .agg xs => .agg (swL i j xs)
  | .tup xs => .tup (swL i j xs)
  | x => x
def AV.swL (i j : Nat) : List AV → List AV
  | [] => []
  | x :: xs => AV.sw i j x :: AV.swL i j xs
end
theorem swL_get (i j : Nat) (xs : List AV) (k : Nat) : (AV.swL i j xs)[k]? = (xs[k]?).map (AV.sw i j) := by
  induction xs generalizing k with
  | nil => simp [AV.swL]
  | cons x xs ih => cases k <;> simp [AV.swL, ih]
theorem swL_length (i j : Nat) (xs : List AV) : (AV.swL i j xs).length = xs.length := by
  induction xs <;> simp_all [AV.swL]
mutual
theorem tl_sw (i j : Nat) : (x : AV) → x.tl = true → (x.sw i j).tl = true
  | .lst _ _ _, h => h
  | .agg xs, h => tlL_sw i j xs h
  | .tup xs, h => tlL_sw i j xs h
  | .any, _ => rfl
  | .v _, _ => rfl
  | .ro _, _ => rfl
  | .loc _ _, _ => rfl
  | .arr _ _ _ _, _ => rfl
  | .fn _ _ _, _ => rfl
  | .mp _, _ => rfl
  | .yld _, _ => rfl
theorem tlL_sw (i j : Nat) : (xs : List AV) → AV.tlL xs = true → AV.tlL (AV.swL i j xs) = true
  | [], _ => rfl
  | x :: xs, h => by
    simp only [AV.tlL, Bool.and_eq_true] at h
    simp only [AV.swL, AV.tlL, tl_sw i j x h.1, tlL_sw i j xs h.2, Bool.and_self]
end
def Ctx.sw (i j : Nat) (c : Ctx) : Ctx := { c with ob := fun k => c.ob (Go.AM.sw i j k) }
theorem Rep.sw {i j : Nat} {c : Ctx} {w : World} (hi : i < c.no) (hj : j < c.no) {x : AV} {u : Value} (h : Rep c w x u) : Rep (c.sw i j) w (x.sw i j) u := by
  have hp : ∀ a, c.prot a → (c.sw i j).prot a := fun a h => h
  have ho : ∀ k, (c.sw i j).ob (Go.AM.sw i j k) = c.ob k := fun k => by simp only [Ctx.sw, sw_sw]
  induction h with
  | lst u hn hcap hmax hs hsz hrf hz hnil hc hr _ => exact (Rep.lst u hn hcap hmax hs hsz hrf hz hnil hc hr).recast hp rfl
  | ro u hrf hc hr _ => exact (Rep.ro u hrf hc hr).recast hp rfl
  | @loc id off h => rw [← ho id]; exact .loc (sw_lt h hj hi)
  | @arr id off len cap h h1 h2 => rw [← ho id]; exact .arr (sw_lt h hj hi) h1 h2
  | @mp id h => rw [← ho id]; exact .mp (sw_lt h hj hi)
  | @yld id h => rw [← ho id]; exact .yld (sw_lt h hj hi)
  | fn h1 h2 _ _ i1 i2 =>
    refine .fn (by rw [swL_length]; exact h1) (by rw [swL_length]; exact h2) (fun k y hk => ?_) (fun k y hk => ?_)
    · rw [swL_get] at hk
      obtain ⟨x, hx, rfl⟩ := Option.map_eq_some_iff.1 hk
      exact i1 k x hx
    · rw [swL_get] at hk
      obtain ⟨x, hx, rfl⟩ := Option.map_eq_some_iff.1 hk
      exact i2 k x hx
  | agg h _ ih =>
    refine .agg (by rw [swL_length]; exact h) fun k y hk => ?_
    rw [swL_get] at hk
    obtain ⟨x, hx, rfl⟩ := Option.map_eq_some_iff.1 hk
    exact ih k x hx
  | tup h _ ih =>
    refine .tup (by rw [swL_length]; exact h) fun k y hk => ?_
    rw [swL_get] at hk
    obtain ⟨x, hx, rfl⟩ := Option.map_eq_some_iff.1 hk
    exact ih k x hx
  | any u => exact .any u
  | v x => exact .v x
theorem Own.sw {P : Program} {i j : Nat} {c : Ctx} {w : World} {x : AV} {u : Value} (h : Own P c w x u) : Own P (c.sw i j) w (x.sw i j) u := by
  induction h with
  | @none x u h => exact .none (tl_sw i j x h)
  | tip hT hs h => exact .tip hT hs h
  | agg h ih =>
    refine .agg fun k y hk => ?_
    rw [swL_get] at hk
    obtain ⟨x, hx, rfl⟩ := Option.map_eq_some_iff.1 hk
    exact ih k x hx
  | tup h ih =>
    refine .tup fun k y hk => ?_
    rw [swL_get] at hk
    obtain ⟨x, hx, rfl⟩ := Option.map_eq_some_iff.1 hk
    exact ih k x hx
def AObj.sw (i j : Nat) : AObj → AObj
  | .cells ty cs => .cells ty (AV.swL i j cs)
  | .froz ty cs => .froz ty (AV.swL i j cs)
  | .map es => .map (es.map fun p => (p.1, p.2.sw i j))
  | .loop n fr ps as body st => .loop n (fr.map fun p => (p.1, p.2.sw i j)) ps as body st
  | .dead => .dead
theorem getF_sw (i j : Nat) (fr : List (Nat × AV)) (k : Nat) : getF (fr.map fun p => (p.1, p.2.sw i j)) k = (getF fr k).map (AV.sw i j) := by
  induction fr with
  | nil => rfl
  | cons p l ih =>
    obtain ⟨a, x⟩ := p
    simp only [List.map_cons, getF, ih]
    split <;> rfl
def swSt (i j : Nat) (s : St) : St := ⟨s.n, s.fr.map fun p => (p.1, p.2.sw i j), ((s.h.set i (s.h.getD j .dead)).set j (s.h.getD i .dead)).map (AObj.sw i j)⟩
theorem swSt_get {i j : Nat} {s : St} (hi : i < s.h.length) (hj : j < s.h.length) (k : Nat) : (swSt i j s).h[k]? = (s.h[sw i j k]?).map (AObj.sw i j) := by
  simp only [swSt, List.getElem?_map]
  congr 1
  rw [List.getElem?_set, List.getElem?_set]
  simp only [List.length_set]
  unfold sw
  by_cases h1 : k = i
  · subst h1
    by_cases h2 : j = k
    · subst h2; simp [hj]
    · rw [if_neg h2, if_pos rfl, if_pos hi, if_pos rfl]; simp [hj]
  · by_cases h2 : k = j
    · subst h2; rw [if_pos rfl, if_pos hj, if_neg h1, if_pos rfl]; simp [hi]
    · rw [if_neg (fun e => h2 e.symm), if_neg (fun e => h1 e.symm), if_neg h1, if_neg h2]

section
variable {P : Program}
theorem ObjRep.sw {i j : Nat} {c : Ctx} {w : World} (hi : i < c.no) (hj : j < c.no) {k : Nat} {o : AObj} (h : ObjRep P c w (Go.AM.sw i j k) o) : ObjRep P (c.sw i j) w k (o.sw i j) := by
  cases o with
  | cells ty cs =>
    obtain ⟨h1, h2, h3, cur, h4, h5, h6⟩ := h
    refine ⟨h1, h2, h3, cur, h4, by rw [swL_length]; exact h5, fun m y hm => ?_⟩
    rw [swL_get] at hm
    obtain ⟨x, hx, rfl⟩ := Option.map_eq_some_iff.1 hm
    obtain ⟨k1, k2, k3⟩ := h6 m x hx
    exact ⟨k1.sw hi hj, k2.sw, k3⟩
  | froz ty cs =>
    intro m y hm
    rw [swL_get] at hm
    obtain ⟨x, hx, rfl⟩ := Option.map_eq_some_iff.1 hm
    obtain ⟨u, k1, k2, k3, k4⟩ := h m x hx
    exact ⟨u, k1, k2, k3, k4.sw hi hj⟩
  | map es =>
    obtain ⟨h1, h2, h3, cur, clock, h4, h5, h6⟩ := h
    refine ⟨h1, h2, h3, cur, clock, h4, by rw [List.length_map]; exact h5, fun m key y hm => ?_⟩
    rw [List.getElem?_map] at hm
    obtain ⟨x, hx, he⟩ := Option.map_eq_some_iff.1 hm
    cases he
    obtain ⟨e, k1, k2, k3⟩ := h6 m x.1 x.2 hx
    exact ⟨e, k1, k2, k3.sw hi hj⟩
  | loop n fr ps as body st =>
    obtain ⟨h1, h2, h3, r, h4, h5, h6, h7⟩ := h
    refine ⟨h1, h2, h3, r, h4, h5, fun m x hm => ?_, h7⟩
    rw [getF_sw] at hm
    obtain ⟨y, hy, rfl⟩ := Option.map_eq_some_iff.1 hm
    obtain ⟨k1, u, k2, k3⟩ := h6 m y hy
    exact ⟨tl_sw i j y k1, u, k2, k3.sw hi hj⟩
  | dead => trivial
theorem SimSt.sw {i j : Nat} {c : Ctx} {w : World} {s : St} {a : Act} (hs : SimSt P c w s a) (hi : i < s.h.length) (hj : j < s.h.length) : SimSt P (c.sw i j) w (swSt i j s) a := by
  have hi' : i < c.no := by rw [hs.h.no]; exact hi
  have hj' : j < c.no := by rw [hs.h.no]; exact hj
  refine ⟨hs.n, hs.base, fun k x hk => ?_, ⟨?_, fun k hk => hs.h.lt _ (sw_lt hk hj' hi'), fun a b ha hb hne => hs.h.inj _ _ (sw_lt ha hj' hi') (sw_lt hb hj' hi') fun e => hne (sw_inj e), fun k o hk => ?_⟩, hs.dfr⟩
  · simp only [swSt, getF_sw] at hk
    obtain ⟨y, hy, rfl⟩ := Option.map_eq_some_iff.1 hk
    obtain ⟨u, h1, h2, h3⟩ := hs.fr k y hy
    exact ⟨u, h1, h2.sw hi' hj', h3.sw⟩
  · simp only [swSt, List.length_map, List.length_set]; exact hs.h.no
  · rw [swSt_get hi hj] at hk
    obtain ⟨o', ho, rfl⟩ := Option.map_eq_some_iff.1 hk
    exact (hs.h.obj _ _ ho).sw hi' hj'

def Seen (P : Program) (N : Nat) (s t : St) : Prop := ∀ (c : Ctx) (w : World) (a : Act), SimSt P c w s a → ∃ c' : Ctx, (∀ (c0 : Ctx) (w0 : World), c0.no ≤ N → Ext c0 w0 c w → Ext c0 w0 c' w) ∧ SimSt P c' w t a
theorem Seen.refl (N : Nat) (s : St) : Seen P N s s := fun c w a hs => ⟨c, fun _ _ _ h => h, hs⟩
theorem Seen.sw {N i j : Nat} {s : St} (hi : N ≤ i) (hj : N ≤ j) (hi' : i < s.h.length) (hj' : j < s.h.length) : Seen P N s (swSt i j s) := by
  intro c w a hs
  refine ⟨c.sw i j, fun c0 w0 hN he => ?_, hs.sw hi' hj'⟩
  exact { base := he.base, os := he.os, tape := he.tape, output := he.output, size := he.size, below := he.below, cell := he.cell, pm := he.pm, pmb := he.pmb, owb := he.owb, no := he.no, dfr := he.dfr
          ob := fun id hid => by
            have h1 := he.ob id hid
            simp only [Ctx.sw, Go.AM.sw]
            rw [if_neg (by omega), if_neg (by omega)]; exact h1 }

def CalmAt (P : Program) (ops : List Oper) (o : Oper) (s : St) (e : Eff) : Prop := e.2.1 = s.h ∧ e.2.2 = none ∧ ∀ h2, ER P ops o (setH s h2) (e.1, h2, none)
def stepR (P : Program) (ro : Bool) (ops : List Oper) (o : Oper) (s : St) (K : St → Prop) : Prop := ∃ e s', ER P ops o s e ∧ app e o.dst s = some s' ∧ (ro = true → CalmAt P ops o s e) ∧ K s'
theorem stepR.E {ro : Bool} {ops : List Oper} {o : Oper} {s : St} {K : St → Prop} (h : stepR P ro ops o s K) : stepE P ops o s K := let ⟨e, s', h1, h2, _, h4⟩ := h; ⟨e, s', h1, h2, h4⟩
theorem stepR_mono {ro : Bool} {ops : List Oper} {o : Oper} {s : St} {K K' : St → Prop} (hk : ∀ s, K s → K' s) (h : stepR P ro ops o s K) : stepR P ro ops o s K' := let ⟨e, s', h1, h2, h3, h4⟩ := h; ⟨e, s', h1, h2, h3, hk _ h4⟩

theorem ER_quiet {ops : List Oper} {o : Oper} {s : St} {e : Eff} (h5 : dcls o ≠ 5) (h9 : dcls o ≠ 9) (h : ER P ops o s e) : e.2.2 = none := by
  rcases ER_class h with ⟨_, h⟩ | ⟨_, h, _⟩ | ⟨h, _⟩ | ⟨_, h⟩ | h
  · exact h
  · exact h
  · exact absurd h h5
  · exact h
  · exact absurd h h9

theorem swapC {ops : Array Oper} {oi oj : Oper} (hap : oi.apart ops oj = true) (h5 : dcls oj ≠ 5) (h9 : dcls oj ≠ 9) {s s1 s2 : St} {ei ej : Eff}
    (hi : ER P ops.toList oi s ei) (hc : CalmAt P ops.toList oi s ei) (ai : app ei oi.dst s = some s1) (hj : ER P ops.toList oj s1 ej) (aj : app ej oj.dst s1 = some s2) :
    ∃ s1' s2', ER P ops.toList oj s ej ∧ app ej oj.dst s = some s1' ∧ ER P ops.toList oi s1' (ei.1, s1'.h, none) ∧ app (ei.1, s1'.h, none) oi.dst s1' = some s2' ∧ CalmAt P ops.toList oi s1' (ei.1, s1'.h, none) ∧ Eqv s2 s2' := by
  obtain ⟨h1, h2, h3⟩ := Oper.apart_spec hap
  obtain ⟨di, n1, hh1, g1⟩ := app_spec ai
  obtain ⟨dj, n2, hh2, g2⟩ := app_spec aj
  obtain ⟨q1, q2, q3⟩ := hc
  have hT := ER_quiet h5 h9 hj
  have dj' : ∀ d, oj.dst = some d → d < s.n := fun d hd => by rw [← n1]; exact dj d hd
  have lookJ : ∀ (t u : St), (∀ i, i ∈ oj.looksAt ops → oi.dst ≠ some i → getF t.fr i = getF u.fr i) → Looks ops oj t u := fun t u h d hd => h d hd fun e => h1 d e hd
  have lookI : ∀ (t u : St), (∀ i, i ∈ oi.looksAt ops → oj.dst ≠ some i → getF t.fr i = getF u.fr i) → Looks ops oi t u := fun t u h d hd => h d hd fun e => h3 d e hd
  have apartD : ∀ i, oi.dst = some i → oj.dst ≠ some i := h2
  have hJ : ER P ops.toList oj s ej := ER_congr (lookJ s1 s fun i _ hne => by rw [g1, if_neg hne, q2, map_killO_none]) (by rw [hh1, q1]) hj
  obtain ⟨s1', as1⟩ := app_mk (e := ej) dj'
  obtain ⟨_, n1', hh1', g1'⟩ := app_spec as1
  have hC : ∀ h2, ER P ops.toList oi (setH s1' h2) (ei.1, h2, none) := fun h2 =>
    ER_congr (s := setH s h2) (lookI _ _ fun i _ hne => by show getF s.fr i = getF s1'.fr i; rw [g1', if_neg hne, hT, map_killO_none]) rfl (q3 h2)
  have hI : ER P ops.toList oi s1' (ei.1, s1'.h, none) := hC s1'.h
  obtain ⟨s2', as2⟩ := app_mk (e := (ei.1, s1'.h, none)) (dst := oi.dst) (s := s1') (fun d hd => by rw [n1']; exact di d hd)
  obtain ⟨_, n2', hh2', g2'⟩ := app_spec as2
  refine ⟨s1', s2', hJ, as1, hI, as2, ⟨rfl, rfl, hC⟩, by rw [n2, n1, n2', n1'], by rw [hh2, hh2', hh1'], fun i => ?_⟩
  rw [g2, g2', g1, g1', hT]
  simp only [map_killO_none, q2]
  by_cases hi' : oi.dst = some i
  · rw [if_neg (apartD i hi'), if_pos hi', if_pos hi']
  · rw [if_neg hi', if_neg hi']

theorem store_push {o : Oper} {s : St} {e : Eff} (h6 : dcls o = 6) (h : evE P o s = some e) (z : AObj) : evE P o (setH s (s.h ++ [z])) = some (e.1, e.2.1 ++ [z], e.2.2) ∧ e.2.1.length = s.h.length := by
  obtain ⟨dst, op, ty, pos, after, guard⟩ := o
  cases op
  case store t x y =>
    simp only [evE] at h ⊢
    obtain ⟨a, ha, h⟩ := Option.bind_eq_some_iff.1 h
    obtain ⟨b, hb, h⟩ := Option.bind_eq_some_iff.1 h
    obtain ⟨h', hst, rfl⟩ := Option.map_eq_some_iff.1 h
    have ha' : (setH s (s.h ++ [z])).ev x = some a := ha
    have hb' : (setH s (s.h ++ [z])).evT P t y = some b := hb
    rw [ha', hb']
    simp only [Option.bind_some]
    have hs : (setH s (s.h ++ [z])).h = s.h ++ [z] := rfl
    rw [hs]
    unfold evStoreE at hst ⊢
    split at hst
    · rename_i szz id off htI hhh
      split at hst
      · rename_i ty' cs h2
        have hl : id < s.h.length := (List.getElem?_eq_some_iff.1 h2).1
        rw [List.getElem?_append_left hl, h2]
        dsimp only
        obtain ⟨ys, hys, hst⟩ := Option.bind_eq_some_iff.1 hst
        rw [hys]
        simp only [Option.bind_some]
        split at hst
        · rename_i hc
          rw [if_pos hc]
          cases hst
          exact ⟨by simp [List.set_append, hl], by simp⟩
        · cases hst
      · cases hst
    · cases hst
  case call c =>
    exfalso
    obtain ⟨callee, args, argTypes⟩ := c
    cases callee with
    | value f => simp [dcls] at h6
    | invoke r m => simp [dcls] at h6
    | builtin b => cases b <;> simp [dcls] at h6
  all_goals (exfalso; simp [dcls] at h6)

theorem swapSA {ops : Array Oper} {oi oj : Oper} (hap : oi.apart ops oj = true) (h6 : dcls oi = 6) (h4 : dcls oj = 4) {s s1 s2 : St} {ei ej : Eff}
    (hi : ER P ops.toList oi s ei) (ai : app ei oi.dst s = some s1) (hj : ER P ops.toList oj s1 ej) (aj : app ej oj.dst s1 = some s2) :
    ∃ ej' s1' ei' s2', ER P ops.toList oj s ej' ∧ app ej' oj.dst s = some s1' ∧ ER P ops.toList oi s1' ei' ∧ app ei' oi.dst s1' = some s2' ∧ Eqv s2 s2' := by
  have hi0 := hi
  rcases hi with ⟨g0, rfl⟩ | ⟨g0, ⟨he, hn⟩ | ⟨h3, _⟩⟩
  · obtain ⟨s1', s2', k1, k2, k3, k4, _, k6⟩ := swapC hap (by omega) (by omega) hi0 ⟨rfl, rfl, fun h2 => .inl ⟨g0, rfl⟩⟩ ai hj aj
    exact ⟨_, s1', _, s2', k1, k2, k3, k4, k6⟩
  · obtain ⟨h1, h2, h3⟩ := Oper.apart_spec hap
    obtain ⟨di, n1, hh1, g1⟩ := app_spec ai
    obtain ⟨dj, n2, hh2, g2⟩ := app_spec aj
    have q2 := ER_quiet (by omega) (by omega) hi0
    have dj' : ∀ d, oj.dst = some d → d < s.n := fun d hd => by rw [← n1]; exact dj d hd
    have lookJ : ∀ (t u : St), (∀ i, i ∈ oj.looksAt ops → oi.dst ≠ some i → getF t.fr i = getF u.fr i) → Looks ops oj t u := fun t u h d hd => h d hd fun e => h1 d e hd
    have lookI : ∀ (t u : St), (∀ i, i ∈ oi.looksAt ops → oj.dst ≠ some i → getF t.fr i = getF u.fr i) → Looks ops oi t u := fun t u h d hd => h d hd fun e => h3 d e hd
    have apartD : ∀ i, oi.dst = some i → oj.dst ≠ some i := h2
    have hgd : guardA ops.toList s oj = guardA ops.toList s1 oj := (lookJ s s1 fun i _ hne => by rw [g1, if_neg hne, q2, map_killO_none]).guard
    rcases hj with ⟨kg, rfl⟩ | ⟨kg, kk⟩
    · have hJ : ER P ops.toList oj s (.v undef, s.h, none) := .inl ⟨by rw [hgd]; exact kg, rfl⟩
      obtain ⟨s1', as1⟩ := app_mk (e := (.v undef, s.h, none)) dj'
      obtain ⟨_, n1', hh1', g1'⟩ := app_spec as1
      have hI : ER P ops.toList oi s1' ei := ER_congr (lookI s s1' fun i _ hne => by rw [g1', if_neg hne, map_killO_none]) hh1'.symm hi0
      obtain ⟨s2', as2⟩ := app_mk (e := ei) (dst := oi.dst) (s := s1') (fun d hd => by rw [n1']; exact di d hd)
      obtain ⟨_, n2', hh2', g2'⟩ := app_spec as2
      refine ⟨_, s1', _, s2', hJ, as1, hI, as2, by rw [n2, n1, n2', n1'], by rw [hh2, hh2', hh1], fun i => ?_⟩
      rw [g2, g2', g1, g1', q2]
      simp only [map_killO_none]
      by_cases hi' : oi.dst = some i
      · rw [if_neg (apartD i hi'), if_pos hi', if_pos hi']
      · rw [if_neg hi', if_neg hi']
    · rcases ER_class (P := P) (.inr ⟨kg, kk⟩) with ⟨k1, _⟩ | ⟨_, k2, ty, cs, htl, k3, k4, k5⟩ | ⟨k1, _⟩ | ⟨k1, _⟩ | k1
      · exfalso
        rcases kk with ⟨kk, _⟩ | ⟨kk, _⟩
        · obtain ⟨ty, cs, htl, hh | hh⟩ := evE_alloc (P := P) h4
          · rw [hh] at kk; cases kk
          · rw [hh] at kk; cases kk
            exact absurd (congrArg List.length k1) (by simp)
        · omega
      · have hJ := k5 s (by rw [hgd]; exact kg)
        obtain ⟨s1', as1⟩ := app_mk (e := (.loc s.h.length 0, s.h ++ [AObj.cells ty cs], none)) dj'
        obtain ⟨_, n1', hh1', g1'⟩ := app_spec as1
        obtain ⟨p1, p2⟩ := store_push h6 he (AObj.cells ty cs)
        have hI : ER P ops.toList oi s1' (ei.1, ei.2.1 ++ [AObj.cells ty cs], ei.2.2) :=
          ER_congr (s := setH s (s.h ++ [AObj.cells ty cs])) (lookI _ s1' fun i _ hne => by rw [g1', if_neg hne, map_killO_none]; rfl) (by rw [hh1']; rfl) (.inr ⟨g0, .inl ⟨p1, noArr_of (by omega)⟩⟩)
        obtain ⟨s2', as2⟩ := app_mk (e := (ei.1, ei.2.1 ++ [AObj.cells ty cs], ei.2.2)) (dst := oi.dst) (s := s1') (fun d hd => by rw [n1']; exact di d hd)
        obtain ⟨_, n2', hh2', g2'⟩ := app_spec as2
        refine ⟨_, s1', _, s2', hJ, as1, hI, as2, by rw [n2, n1, n2', n1'], by rw [hh2, hh2', k4, hh1], fun i => ?_⟩
        rw [g2, g2', g1, g1', k2, k3, hh1, p2, q2]
        simp only [map_killO_none]
        by_cases hi' : oi.dst = some i
        · rw [if_neg (apartD i hi'), if_pos hi', if_pos hi']
        · rw [if_neg hi', if_neg hi']
      · omega
      · omega
      · omega
  · omega

def mayB (ro : Bool) (ops : Array Oper) (oi oj : Oper) : Bool := oi.apart ops oj && (if ro then dcls oj != 5 && dcls oj != 9 else (compatB (dcls oi) (dcls oj) && dcls oi != 9 && dcls oj != 9) || (dcls oi == 6 && dcls oj == 4))
theorem stepR_swap {ro : Bool} {ops : Array Oper} {oi oj : Oper} (hm : mayB ro ops oi oj = true) {s : St} {K : St → Prop} (hK : Closed K)
    (h : stepR P ro ops.toList oi s fun s1 => stepE P ops.toList oj s1 K) : stepE P ops.toList oj s fun s1 => stepR P ro ops.toList oi s1 K := by
  obtain ⟨ei, s1, h1, h2, hc, ej, s2, h3, h4, h5⟩ := h
  simp only [mayB, Bool.and_eq_true] at hm
  cases ro with
  | true =>
    simp only [if_true, Bool.and_eq_true, bne_iff_ne, ne_eq] at hm
    obtain ⟨s1', s2', k1, k2, k3, k4, k5, k6⟩ := swapC hm.1 hm.2.1 hm.2.2 h1 (hc rfl) h2 h3 h4
    exact ⟨ej, s1', k1, k2, _, s2', k3, k4, fun _ => k5, hK _ _ k6 h5⟩
  | false =>
    simp only [Bool.false_eq_true, if_false, Bool.and_eq_true, Bool.or_eq_true, bne_iff_ne, ne_eq, beq_iff_eq] at hm
    obtain ⟨ej', s1', ei', s2', k1, k2, k3, k4, k5⟩ := hm.2.elim (fun h => swap hm.1 h.1.1 ⟨h.1.2, h.2⟩ h1 h2 h3 h4) fun h => swapSA hm.1 h.1 h.2 h1 h2 h3 h4
    exact ⟨ej', s1', k1, k2, ei', s2', k3, k4, fun h => (by cases h), hK _ _ k5 h5⟩
theorem stepR_closed {ro : Bool} {ops : Array Oper} {o : Oper} {K : St → Prop} (hK : Closed K) : Closed fun s => stepR P ro ops.toList o s K := by
  rintro s t h ⟨e, s', h1, h2, hc, h3⟩
  obtain ⟨t', h4, h5⟩ := app_eqv h h2
  refine ⟨e, t', ER_congr (fun d _ => h.2.2 d) h.2.1 h1, h4, fun hr => ?_, hK _ _ h5 h3⟩
  obtain ⟨c1, c2, c3⟩ := hc hr
  exact ⟨by rw [c1, h.2.1], c2, fun h2 => ER_congr (s := setH s h2) (fun d _ => h.2.2 d) rfl (c3 h2)⟩

def freeR (ro : Nat → Bool) (ops : Array Oper) (listed : Array Bool) (I : List Nat) (i : Nat) : Bool :=
  match ops[i]? with
  | none => false
  | some oi => (List.range ops.size).all fun j => I.contains j || listed.getD j true || (I.any fun i' => (waitM i' ops.toList 0 0).testBit j) || match ops[j]? with
      | some oj => mayB (ro i) ops oi oj && (I.length == 1 || dcls oj != 3)
      | none => true
theorem freeR_spec {ro : Nat → Bool} {ops : Array Oper} {listed : Array Bool} {I : List Nat} {i : Nat} {oi : Oper} (hi : ops[i]? = some oi) (h : freeR ro ops listed I i = true) (j : Nat) (oj : Oper) (hj : ops[j]? = some oj)
    (hne : j ∉ I) (hun : listed.getD j true = false) (hw : ∀ i' ∈ I, waitsB ops i' ops.size j = false) : mayB (ro i) ops oi oj = true ∧ (I.length = 1 ∨ dcls oj ≠ 3) := by
  simp only [freeR, hi, List.all_eq_true, List.mem_range] at h
  have h1 := h j (Array.getElem?_eq_some_iff.1 hj).1
  have hw' : (I.any fun i' => (waitM i' ops.toList 0 0).testBit j) = false := by
    rw [List.any_eq_false]
    intro i' hi' hb
    obtain ⟨h2, h3⟩ := waitM_waits (ops := ops) ops.toList 0 0 rfl (by simp) j hb
    have := hw i' hi'
    rw [waitsB_more (by omega) h3] at this; cases this
  simp only [hj, hw', hun, Bool.or_eq_true, Bool.and_eq_true, beq_iff_eq, bne_iff_ne, ne_eq, List.contains_iff_mem, hne, false_or, Bool.false_eq_true] at h1
  exact h1

theorem ready_unwait {ops : Array Oper} {listed : Array Bool} {i j : Nat} (hcl : ClosedL ops listed) (hi : i ∈ Region.ready .any ops listed) (hj : j ∈ Region.ready .any ops listed) (N : Nat) : waitsB ops i N j = false := by
  have hiun : listed.getD i false = false := by
    have h0 := (mem_ready.1 hi).1
    rcases Nat.lt_or_ge i listed.size with h' | h'
    · simp [h'] at h0 ⊢; exact h0
    · simp [Array.getElem?_eq_none h']
  cases hwt : waitsB ops i N j with
  | false => rfl
  | true =>
    exfalso
    cases N with
    | zero => cases hwt
    | succ N =>
      obtain ⟨_, o, ho, hall⟩ := mem_ready.1 hj
      simp only [waitsB, ho] at hwt
      obtain ⟨e, he, hb⟩ := Array.any_eq_true'.1 hwt
      simp only [Bool.and_eq_true, Bool.or_eq_true, beq_iff_eq] at hb
      have hl := hall e he hb.1
      rcases hb.2 with h1 | h1
      · rw [h1, hiun] at hl; cases hl
      · have := waitsB_listed hcl N _ h1 hl
        rw [hiun] at this; cases this

theorem freeR_keep {ro : Nat → Bool} {ops : Array Oper} {listed : Array Bool} {I : List Nat} {i j : Nat} (h : freeR ro ops listed I i = true) : freeR ro ops (listed.setIfInBounds j true) I i = true := by
  unfold freeR at *
  split at h
  · cases h
  · rename_i oi hoi
    simp only [List.all_eq_true, List.mem_range, Bool.or_eq_true] at h ⊢
    intro k hk
    rcases h k hk with ((h1 | h1) | h1) | h1
    · exact .inl (.inl (.inl h1))
    · refine .inl (.inl (.inr ?_))
      by_cases hkj : j = k
      · subst hkj
        rcases Nat.lt_or_ge j listed.size with h' | h'
        · simp [h']
        · simp [h']
      · rw [getD_set_ne true hkj]; exact h1
    · exact .inl (.inr h1)
    · exact .inr h1

theorem anyA_one {ro : Nat → Bool} {ops : Array Oper} {Q : St → Prop} (hQ : Closed Q) {i : Nat} {oi : Oper} (hi : ops[i]? = some oi) :
    ∀ (fuel : Nat) (listed : Array Bool) (s : St), ClosedL ops listed → freeR ro ops listed [i] i = true →
      i ∈ Region.ready .any ops listed → stepR P (ro i) ops.toList oi s (anyA P ops Q fuel (listed.setIfInBounds i true)) → anyA P ops Q (fuel + 1) listed s := by
  intro fuel
  induction fuel with
  | zero =>
    intro listed s _ _ hr H
    refine ⟨fun h => (by rw [h] at hr; cases hr), fun j hj o ho => ?_⟩
    by_cases hji : j = i
    · subst hji; rw [hi] at ho; cases ho; exact H.E
    · have := ready_mono hj hji
      obtain ⟨e, s', _, _, _, h3, _⟩ := H
      rw [h3] at this
      cases this
  | succ fuel ih =>
    intro listed s hcl hfree hr H
    refine ⟨fun h => (by rw [h] at hr; cases hr), fun j hj o ho => ?_⟩
    by_cases hji : j = i
    · subst hji; rw [hi] at ho; cases ho; exact H.E
    · have hun := (mem_ready.1 hj).1
      have hw := ready_unwait hcl hr hj ops.size
      obtain ⟨hm, _⟩ := freeR_spec hi hfree j o ho (by simpa using hji) hun (fun i' hi' => by rw [List.mem_singleton.1 hi']; exact hw)
      have h1 : stepR P (ro i) ops.toList oi s fun s1 => stepE P ops.toList o s1 (anyA P ops Q fuel ((listed.setIfInBounds i true).setIfInBounds j true)) :=
        stepR_mono (fun s1 hs1 => hs1.2 j (ready_mono hj hji) o ho) H
      have h2 := stepR_swap hm (anyA_closed hQ fuel _) h1
      refine stepE_mono (fun s1 hs1 => ih (listed.setIfInBounds j true) s1 (closedL_set hcl hj) (freeR_keep hfree) (ready_mono hr (Ne.symm hji)) ?_) h2
      rw [Array.setIfInBounds_comm _ _ hji]
      exact hs1

theorem ER_det {ops : List Oper} {o : Oper} {s : St} {e e' : Eff} (h3 : dcls o ≠ 3) (h : ER P ops o s e) (h' : ER P ops o s e') : e = e' := by
  rcases h with ⟨a1, rfl⟩ | ⟨a1, ⟨a2, _⟩ | ⟨a2, _⟩⟩ <;> rcases h' with ⟨b1, rfl⟩ | ⟨b1, ⟨b2, _⟩ | ⟨b2, _⟩⟩
  · rfl
  · rw [a1] at b1; cases b1
  · exact absurd b2 h3
  · rw [a1] at b1; cases b1
  · rw [a2] at b2; cases b2; rfl
  · exact absurd b2 h3
  · exact absurd a2 h3
  · exact absurd a2 h3
  · exact absurd a2 h3
theorem stepE_det {ops : List Oper} {o : Oper} {s : St} {K K' : St → Prop} (h3 : dcls o ≠ 3) (h : stepE P ops o s K) (h' : stepE P ops o s K') : stepE P ops o s fun s => K s ∧ K' s := by
  obtain ⟨e, s1, h1, h2, h4⟩ := h
  obtain ⟨e', s1', k1, k2, k4⟩ := h'
  have := ER_det h3 h1 k1
  subst this
  rw [h2] at k2
  cases k2
  exact ⟨e, s1, h1, h2, h4, k4⟩

theorem anyA_two {ro : Nat → Bool} {ops : Array Oper} {Q : St → Prop} (hQ : Closed Q) {i i2 : Nat} {oi oi2 : Oper} (hi : ops[i]? = some oi) (hi2 : ops[i2]? = some oi2) (hne : i ≠ i2) :
    ∀ (fuel : Nat) (listed : Array Bool) (s : St), ClosedL ops listed → freeR ro ops listed [i, i2] i = true → freeR ro ops listed [i, i2] i2 = true →
      i ∈ Region.ready .any ops listed → i2 ∈ Region.ready .any ops listed → stepR P (ro i) ops.toList oi s (anyA P ops Q fuel (listed.setIfInBounds i true)) → stepR P (ro i2) ops.toList oi2 s (anyA P ops Q fuel (listed.setIfInBounds i2 true)) →
      anyA P ops Q (fuel + 1) listed s := by
  intro fuel
  induction fuel with
  | zero =>
    intro listed s _ _ _ hr hr2 H H2
    refine ⟨fun h => (by rw [h] at hr; cases hr), fun j hj o ho => ?_⟩
    have := ready_mono hr2 (Ne.symm hne)
    obtain ⟨e, s', _, _, _, h3, _⟩ := H
    rw [h3] at this
    cases this
  | succ fuel ih =>
    intro listed s hcl hfree hfree2 hr hr2 H H2
    refine ⟨fun h => (by rw [h] at hr; cases hr), fun j hj o ho => ?_⟩
    by_cases hji : j = i
    · subst hji; rw [hi] at ho; cases ho; exact H.E
    by_cases hji2 : j = i2
    · subst hji2; rw [hi2] at ho; cases ho; exact H2.E
    · have hun := (mem_ready.1 hj).1
      have hw2 : ∀ i' ∈ [i, i2], waitsB ops i' ops.size j = false := by
        intro i' hi'
        simp only [List.mem_cons, List.not_mem_nil, or_false] at hi'
        rcases hi' with rfl | rfl
        · exact ready_unwait hcl hr hj ops.size
        · exact ready_unwait hcl hr2 hj ops.size
      obtain ⟨hm, hc3⟩ := freeR_spec hi hfree j o ho (by simp [hji, hji2]) hun hw2
      obtain ⟨hm2, _⟩ := freeR_spec hi2 hfree2 j o ho (by simp [hji, hji2]) hun hw2
      have hc3' : dcls o ≠ 3 := by rcases hc3 with h | h; exact absurd h (by simp); exact h
      have h1 : stepR P (ro i) ops.toList oi s fun s1 => stepE P ops.toList o s1 (anyA P ops Q fuel ((listed.setIfInBounds i true).setIfInBounds j true)) :=
        stepR_mono (fun s1 hs1 => hs1.2 j (ready_mono hj hji) o ho) H
      have h2 := stepR_swap hm (anyA_closed hQ fuel _) h1
      have k1 : stepR P (ro i2) ops.toList oi2 s fun s1 => stepE P ops.toList o s1 (anyA P ops Q fuel ((listed.setIfInBounds i2 true).setIfInBounds j true)) :=
        stepR_mono (fun s1 hs1 => hs1.2 j (ready_mono hj hji2) o ho) H2
      have k2 := stepR_swap hm2 (anyA_closed hQ fuel _) k1
      refine stepE_mono (fun s1 hs1 => ih (listed.setIfInBounds j true) s1 (closedL_set hcl hj) (freeR_keep hfree) (freeR_keep hfree2) (ready_mono hr (Ne.symm hji)) (ready_mono hr2 (Ne.symm hji2)) ?_ ?_) (stepE_det hc3' h2 k2)
      · rw [Array.setIfInBounds_comm _ _ hji]
        exact hs1.1
      · rw [Array.setIfInBounds_comm _ _ hji2]
        exact hs1.2

inductive Ord where
  | done
  | one (k : Nat) (t : Ord)
  | two (i j : Nat) (t1 t2 : Ord)
def ordB (ro : Nat → Bool) (ops : Array Oper) : Nat → Ord → Array Bool → Bool
  | 0, .done, L => (Region.ready .any ops L).isEmpty
  | n + 1, .one k t, L => (Region.ready .any ops L).contains k && freeR ro ops L [k] k && ordB ro ops n t (L.setIfInBounds k true)
  | n + 1, .two i j t1 t2, L => (Region.ready .any ops L).contains i && (Region.ready .any ops L).contains j && i != j && freeR ro ops L [i, j] i && freeR ro ops L [i, j] j &&
      ordB ro ops n t1 (L.setIfInBounds i true) && ordB ro ops n t2 (L.setIfInBounds j true)
  | _, _, _ => false

def roAt (s : St) (o : Oper) : Bool := match o.op with
  | .load _ x => match s.ev x with
    | some (.ro _) => true
    | _ => false
  | _ => false
def runO (P : Program) (ro : Nat → Bool) (ops : Array Oper) : Ord → St → (St → Prop) → Prop
  | .done, s, K => K s
  | .one k t, s, K => match ops[k]? with
    | some o => (ro k = true → guardA ops.toList s o = some false ∨ roAt s o = true) ∧ stepD P ops.toList o s fun s' => runO P ro ops t s' K
    | none => False
  | .two i j t1 t2, s, K => match ops[i]?, ops[j]? with
    | some o, some o2 => ro i = false ∧ ro j = false ∧ (stepD P ops.toList o s fun s' => runO P ro ops t1 s' K) ∧ stepD P ops.toList o2 s fun s' => runO P ro ops t2 s' K
    | _, _ => False

theorem calm_ro {ops : List Oper} {o : Oper} {s : St} {e : Eff} (hr : guardA ops s o = some false ∨ roAt s o = true) (h : ER P ops o s e) : CalmAt P ops o s e := by
  rcases h with ⟨h1, rfl⟩ | ⟨h1, hh⟩
  · exact ⟨rfl, rfl, fun h2 => .inl ⟨h1, rfl⟩⟩
  · rcases hr with hr | hr
    · rw [hr] at h1; cases h1
    · unfold roAt at hr
      split at hr
      · rename_i t x ho
        split at hr
        · rename_i y hy
          have hc : dcls o = 2 := by simp [dcls, ho]
          rcases hh with ⟨h2, hn⟩ | ⟨h2, _⟩
          · obtain ⟨g1, g2, _⟩ := evE_load hc h2
            refine ⟨g1, g2, fun h3 => .inr ⟨h1, .inl ⟨?_, noArr_of (by omega)⟩⟩⟩
            have hy3 : (setH s h3).ev x = some (.ro y) := hy
            simp only [evE, ho, evF, evPure] at h2 ⊢
            rw [hy] at h2
            rw [hy3]
            simp only [Option.bind_some] at h2 ⊢
            obtain ⟨z, hz, hze⟩ := Option.map_eq_some_iff.1 h2
            have : loadA P (setH s h3).h t (.ro y) = loadA P s.h t (.ro y) := by
              unfold loadA
              rfl
            rw [this, hz]
            simp only [Option.map_some]
            rw [← hze]
            rfl
          · omega
        · cases hr
      · cases hr

theorem stepD_stepR {ro : Bool} {ops : List Oper} {o : Oper} {s : St} {K : St → Prop} (hc : dcls o ≠ 9) (hr : ro = true → guardA ops s o = some false ∨ roAt s o = true) (h : stepD P ops o s K) : stepR P ro ops o s K := by
  obtain ⟨e, s', h1, h2, h3⟩ := stepD_stepE hc h
  exact ⟨e, s', h1, h2, fun h => calm_ro (hr h) h1, h3⟩

theorem stepD_mono' {ops : List Oper} {o : Oper} {s : St} {K K' : St → Prop} (hk : ∀ s, K s → K' s) (h : stepD P ops o s K) : stepD P ops o s K' := by
  unfold stepD at *
  split
  · rename_i hg
    rw [hg] at h
    rcases h with ⟨s', h1, h2⟩ | ⟨h3, h⟩
    · exact .inl ⟨s', h1, hk _ h2⟩
    · refine .inr ⟨h3, ?_⟩
      unfold callD at *
      split
      · rename_i c ho
        rw [ho] at h
        dsimp only at h
        split
        · rename_i hc
          rw [hc] at h
          obtain ⟨a, b, c, e1, e2, e3, e4, e5, e6, e7⟩ := h
          exact ⟨a, b, c, e1, e2, e3, e4, e5, e6, hk _ e7⟩
        · rename_i hc; rw [hc] at h; exact h
      · rename_i hno; split at h <;> first | exact absurd (by assumption) (hno _) | exact h
  · rename_i hg; rw [hg] at h; obtain ⟨s', h1, h2⟩ := h; exact ⟨s', h1, hk _ h2⟩
  · rename_i hg; rw [hg] at h; exact h
theorem anyA_ord {ro : Nat → Bool} {ops : Array Oper} {Q : St → Prop} (hQ : Closed Q) (h9 : ∀ (i : Nat) (o : Oper), ops[i]? = some o → dcls o ≠ 9) : ∀ (n : Nat) (t : Ord) (L : Array Bool) (s : St), ClosedL ops L → ordB ro ops n t L = true → runO P ro ops t s Q → anyA P ops Q n L s := by
  intro n
  induction n with
  | zero =>
    intro t L s _ hB h
    cases t with
    | done => exact ⟨by simpa [ordB] using hB, h⟩
    | one k t => simp [ordB] at hB
    | two i j t1 t2 => simp [ordB] at hB
  | succ n ih =>
    intro t L s hcl hB h
    cases t with
    | done => simp [ordB] at hB
    | one k t =>
      simp only [ordB, Bool.and_eq_true] at hB
      obtain ⟨⟨hr, hf⟩, hB'⟩ := hB
      have hr' : k ∈ Region.ready .any ops L := by simpa using hr
      simp only [runO] at h
      split at h
      · rename_i o ho
        exact anyA_one hQ ho n L s hcl hf hr' (stepD_stepR (h9 _ _ ho) h.1 (stepD_mono' (fun s' hs' => ih t _ s' (closedL_set hcl hr') hB' hs') h.2))
      · exact h.elim
    | two i j t1 t2 =>
      simp only [ordB, Bool.and_eq_true, bne_iff_ne, ne_eq] at hB
      obtain ⟨⟨⟨⟨⟨⟨hri, hrj⟩, hij⟩, hfi⟩, hfj⟩, hB1⟩, hB2⟩ := hB
      have hri' : i ∈ Region.ready .any ops L := by simpa using hri
      have hrj' : j ∈ Region.ready .any ops L := by simpa using hrj
      simp only [runO] at h
      split at h
      · rename_i o o2 ho ho2
        obtain ⟨r1, r2, k1, k2⟩ := h
        exact anyA_two hQ ho ho2 hij n L s hcl hfi hfj hri' hrj' (stepD_stepR (h9 _ _ ho) (fun h => by rw [r1] at h; cases h) (stepD_mono' (fun s' hs' => ih t1 _ s' (closedL_set hcl hri') hB1 hs') k1))
          (stepD_stepR (h9 _ _ ho2) (fun h => by rw [r2] at h; cases h) (stepD_mono' (fun s' hs' => ih t2 _ s' (closedL_set hcl hrj') hB2 hs') k2))
      · exact h.elim

def ordOk (ro : Nat → Bool) (ops : Array Oper) (t : Ord) : Bool := ordB ro ops ops.size t (Array.replicate ops.size false) && ops.toList.all fun o => dcls o != 9

theorem W_ord {top : Bool} {kf : Nat} {id : Nat} {ops : Array Oper} {Q : Exit → St → Prop} {s : St} (ro : Nat → Bool) (t : Ord) (hm : P.follows .mixedOrders = true) (hd : ordOk ro ops t = true)
    (h : runO P ro ops t s (fun s' => ∃ u, Seen P s.h.length s' u ∧ Q .normal u)) : Wt top kf P (.region id ops true) Q s := by
  intro F n c w a hF hs
  simp only [ordOk, Bool.and_eq_true, List.all_eq_true, bne_iff_ne, ne_eq] at hd
  have h9 : ∀ (i : Nat) (o : Oper), ops[i]? = some o → dcls o ≠ 9 := fun i o ho => hd.2 o (by rw [← Array.getElem?_toList] at ho; exact List.mem_of_getElem? ho)
  refine wpIn_region_any hm ?_
  let Q' : St → Prop := fun s1 => ∃ u, Seen P s.h.length s1 u ∧ Q .normal u
  have hQ' : Closed Q' := fun s1 t h1 ⟨u, h2, h3⟩ => ⟨u, fun c w a hs => h2 c w a (hs.eqv ⟨h1.1.symm, h1.2.1.symm, fun i => (h1.2.2 i).symm⟩), h3⟩
  have hA := anyA_ord (P := P) hQ' h9 ops.size t (Array.replicate ops.size false) s (by
    intro j oj hj hl
    exfalso
    rw [Array.getD_eq_getD_getElem?] at hl
    rcases Nat.lt_or_ge j ops.size with h' | h'
    · rw [Array.getElem?_eq_getElem (by simpa using h')] at hl; simp at hl
    · rw [Array.getElem?_eq_none (by simpa using h')] at hl; simp at hl) hd.1 h
  refine wpAnyIn_imp ?_ _ _ _ _ (anyA_wp (n := n) hF.1 h9 ops.size _ s c w.drew a hs.drew hA)
  rintro e a2 w2 ⟨s2, c2, q, hs2, he2⟩
  cases e with
  | normal =>
    obtain ⟨u, h1, h2⟩ := q
    obtain ⟨c3, h3, h4⟩ := h1 c2 w2 a2 hs2
    exact ⟨u, c3, h2, h4, (h3 c w (by rw [hs.h.no]; exact Nat.le_refl _) ((ext_drew c w).trans he2)).toK hF.2.2⟩
  | _ => exact q.elim

def evO (P : Program) (ro : Nat → Bool) (ops : Array Oper) : Ord → St → Option (List St)
  | .done, s => some [s]
  | .one k t, s => match ops[k]? with
    | some o => if ro k = false || guardA ops.toList s o == some false || roAt s o then (ev1D P ops.toList o s).bind (evO P ro ops t) else none
    | none => none
  | .two i j t1 t2, s => match ops[i]?, ops[j]? with
    | some o, some o2 => if ro i || ro j then none else ((ev1D P ops.toList o s).bind (evO P ro ops t1)).bind fun l1 => ((ev1D P ops.toList o2 s).bind (evO P ro ops t2)).map fun l2 => l1 ++ l2
    | _, _ => none
theorem ev1D_stepD {ops : List Oper} {o : Oper} {s s' : St} {K : St → Prop} (h : ev1D P ops o s = some s') (hk : K s') : stepD P ops o s K := by
  unfold ev1D at h
  unfold stepD
  split at h
  · exact .inl ⟨s', h, hk⟩
  · exact ⟨s', h, hk⟩
  · cases h
theorem evO_runO {ro : Nat → Bool} {ops : Array Oper} {K : St → Prop} : ∀ (t : Ord) (s : St) (l : List St), evO P ro ops t s = some l → (∀ s' ∈ l, K s') → runO P ro ops t s K
  | .done, s, l, h, hk => by simp only [evO, Option.some.injEq] at h; subst h; exact hk s (by simp)
  | .one k t, s, l, h, hk => by
    simp only [evO] at h
    simp only [runO]
    split at h
    · rename_i o ho
      split at h
      · rename_i hr
        obtain ⟨s1, h1, h2⟩ := Option.bind_eq_some_iff.1 h
        refine ⟨fun hro => ?_, ev1D_stepD h1 (evO_runO t s1 l h2 hk)⟩
        simp only [Bool.or_eq_true, beq_iff_eq, decide_eq_true_eq, hro, Bool.true_eq_false, false_or] at hr
        exact hr
      · cases h
    · cases h
  | .two i j t1 t2, s, l, h, hk => by
    simp only [evO] at h
    simp only [runO]
    split at h
    · rename_i o o2 ho ho2
      split at h
      · cases h
      · rename_i hr
        obtain ⟨l1, h1, h⟩ := Option.bind_eq_some_iff.1 h
        obtain ⟨l2, h2, h⟩ := Option.map_eq_some_iff.1 h
        obtain ⟨s1, k1, k2⟩ := Option.bind_eq_some_iff.1 h1
        obtain ⟨s2, m1, m2⟩ := Option.bind_eq_some_iff.1 h2
        subst h
        simp only [Bool.or_eq_true, not_or, Bool.not_eq_true] at hr
        exact ⟨hr.1, hr.2, ev1D_stepD k1 (evO_runO t1 s1 l1 k2 fun s' hs' => hk s' (List.mem_append_left _ hs')), ev1D_stepD m1 (evO_runO t2 s2 l2 m2 fun s' hs' => hk s' (List.mem_append_right _ hs'))⟩
    · cases h
end
end Go.AM

namespace Go.AM
open Go.RowKit

section
variable {P : Program} {top : Bool} {kf : Nat}

def ev1 (P : Program) (ops : List Oper) (o : Oper) (s : St) : Option St :=
  match guardA ops s o with
  | some true => evOp P o s
  | some false => s.put o.dst (.v undef)
  | none => none

def evRun (P : Program) (ops : List Oper) : List Oper → St → Option St
  | [], s => some s
  | o :: l, s => (ev1 P ops o s).bind (evRun P ops l)

theorem evRun_runA {ops : List Oper} : ∀ {l : List Oper} {s s' : St} {K : St → Prop}, evRun P ops l s = some s' → K s' → runA P ops l s K
  | [], s, s', K, h, hk => by simp only [evRun, Option.some.injEq] at h; subst h; exact hk
  | o :: l, s, s', K, h, hk => by
    simp only [evRun] at h
    obtain ⟨s1, h1, h2⟩ := Option.bind_eq_some_iff.1 h
    have rest := evRun_runA (K := K) h2 hk
    simp only [runA, stepA]
    unfold ev1 at h1
    split at h1
    · rename_i hg; rw [hg]; exact .inl ⟨s1, h1, rest⟩
    · rename_i hg; rw [hg]; exact ⟨s1, h1, rest⟩
    · cases h1

theorem evRun_app {ops : List Oper} {l2 : List Oper} : ∀ {l1 : List Oper} {s s' : St} {K : St → Prop}, evRun P ops l1 s = some s' → runA P ops l2 s' K → runA P ops (l1 ++ l2) s K
  | [], s, s', K, h, hk => by simp only [evRun, Option.some.injEq] at h; subst h; exact hk
  | o :: l, s, s', K, h, hk => by
    simp only [evRun] at h
    obtain ⟨s1, h1, h2⟩ := Option.bind_eq_some_iff.1 h
    have rest := evRun_app (K := K) h2 hk
    simp only [List.cons_append, runA, stepA]
    unfold ev1 at h1
    split at h1
    · rename_i hg; rw [hg]; exact .inl ⟨s1, h1, rest⟩
    · rename_i hg; rw [hg]; exact ⟨s1, h1, rest⟩
    · cases h1

def keepF (ks : List Nat) : List (Nat × AV) → List (Nat × AV)
  | [] => []
  | (i, x) :: l => if ks.contains i then (i, x) :: keepF ks l else keepF ks l
theorem getF_keepF {ks : List Nat} {fr : List (Nat × AV)} {i : Nat} {x : AV} (h : getF (keepF ks fr) i = some x) : getF fr i = some x := by
  induction fr with
  | nil => exact h
  | cons p l ih =>
    obtain ⟨j, y⟩ := p
    simp only [keepF] at h
    by_cases hj : i = j
    · subst hj
      split at h
      · simpa [getF] using h
      · rename_i hk
        exfalso
        have : ∀ l : List (Nat × AV), getF (keepF ks l) i = some x → ks.contains i = true := by
          intro l
          induction l with
          | nil => intro h; simp [keepF, getF] at h
          | cons p l ih =>
            obtain ⟨j, y⟩ := p
            intro h
            simp only [keepF] at h
            split at h
            · rename_i hk
              simp only [getF] at h
              split at h
              · rename_i e; rw [e]; exact hk
              · exact ih h
            · exact ih h
        exact hk (this l h)
    · simp only [getF, if_neg hj]
      split at h
      · simp only [getF, if_neg hj] at h; exact ih h
      · exact ih h
theorem SimSt.keep {c : Ctx} {w : World} {s : St} {a : Act} (hs : SimSt P c w s a) (ks : List Nat) : SimSt P c w { s with fr := keepF ks s.fr } a :=
  ⟨hs.n, hs.base, fun i x hx => hs.fr i x (getF_keepF hx), hs.h, hs.dfr⟩

theorem W_keep {code : Code} {Q : Exit → St → Prop} {s : St} (ks : List Nat) (h : Wt top kf P code Q { s with fr := keepF ks s.fr }) : Wt top kf P code Q s :=
  fun F n c w a hF hs => h F n c w a hF (hs.keep ks)

theorem W_ev {id : Nat} {ops : Array Oper} {Q : Exit → St → Prop} {s s' : St} (h : evRun P ops.toList ops.toList s = some s') (hq : Q .normal s') : Wt top kf P (.region id ops false) Q s :=
  W_region (evRun_runA h hq)

theorem W_evS {id : Nat} {ops : Array Oper} {y : Code} {Q : Exit → St → Prop} {s s' : St} (h : evRun P ops.toList ops.toList s = some s') (hq : Wt top kf P y Q s') : Wt top kf P (.seq (.region id ops false) y) Q s :=
  W_seq (W_ev h hq)
theorem W_forget {code : Code} {Q : Exit → St → Prop} {s : St} (ks : List Nat) (h : Wt top kf P code (fun e s => Q e { s with fr := keepF ks s.fr }) s) : Wt top kf P code Q s :=
  fun F n c w a hF hs => wpIn_mono (h F n c w a hF hs) fun _ _ _ ⟨_, c', q, hs', he⟩ => ⟨_, c', q, hs'.keep ks, he⟩

theorem W_evE {id : Nat} {ops : Array Oper} {Q : Exit → St → Prop} {s s' : St} (ks : List Nat) (h : (evRun P ops.toList ops.toList s).map (fun s => ⟨s.n, keepF ks s.fr, s.h⟩) = some s') (hq : Q .normal s') : Wt top kf P (.region id ops false) Q s := by
  obtain ⟨s1, h1, rfl⟩ := Option.map_eq_some_iff.1 h
  exact W_forget ks (W_ev h1 hq)
theorem W_evK {id : Nat} {ops : Array Oper} {y : Code} {Q : Exit → St → Prop} {s s' : St} (ks : List Nat) (h : (evRun P ops.toList ops.toList s).map (fun s => ⟨s.n, keepF ks s.fr, s.h⟩) = some s') (hq : Wt top kf P y Q s') : Wt top kf P (.seq (.region id ops false) y) Q s :=
  W_seq (W_evE ks h hq)
end
end Go.AM

namespace Go.AM
open Go.RowKit

attribute [simp] evRun ev1 guardA evOp evPure St.evT St.ev evAll evOpt evParts evOpts St.put numF putF getF absV nilTy keepF killFO killF killHO AV.kill AV.killL AObj.kill
  evBuildSlice evAppend evBuild evStore evAlloc evBox evMakeSlice catK AV.cellsK AV.kone AV.koneL AV.weak AV.weakL AV.dp AV.dpL AV.norm AV.normL AV.rf AV.rfL AV.tl AV.tlL frzV frzL tipA binA intA unA cvA lenA loadA idxAddrA idxA
  evMakeMap evMapUpdate evLookup mapOf keyOfA mfind mset Instr.sameNow calleeA killSF AV.killS AV.killSL AV.toks AV.toksL AObj.toks toksH AV.under AV.underL AObj.under entriesUnder underH
  fieldA fieldAddrA partA sliceA Fl.keepNil Fl.wk tokA exOk capA bnd builtinA objLoad nilCheckA site AV.cells AV.one fillA resL resA onNormal inBlk nilSl nilPtr nilFn min2A max2A foldA

@[simp] theorem oneCell_int (k : IntKind) (n : Int) : Value.oneCell' (.int k n) = true := rfl
@[simp] theorem oneCell_bool (b : Bool) : Value.oneCell' (.bool b) = true := rfl
@[simp] theorem oneCell_string (b : ByteArray) : Value.oneCell' (.string b) = true := rfl

theorem w64 {n : Int} (h1 : -9223372036854775808 ≤ n) (h2 : n ≤ 9223372036854775807) : IntKind.i64.wrap n = n := by
  simp [IntKind.wrap, IntKind.signed, IntKind.bits]; omega
theorem wu8 {n : Int} (h1 : 0 ≤ n) (h2 : n ≤ 255) : IntKind.u8.wrap n = n := by
  simp [IntKind.wrap, IntKind.signed, IntKind.bits]; omega

def byL (l : List UInt8) : List AV := l.map fun b => .v (.int .u8 b.toNat)
@[simp] theorem byL_length (l : List UInt8) : (byL l).length = l.length := by simp [byL]
@[simp] theorem byL_nil : byL [] = [] := rfl
theorem byL_cons (b : UInt8) (l : List UInt8) : byL (b :: l) = .v (.int .u8 b.toNat) :: byL l := rfl
theorem byL_append (l m : List UInt8) : byL (l ++ m) = byL l ++ byL m := by simp [byL]
@[simp] theorem byL_getElem (l : List UInt8) (i : Nat) (h : i < (byL l).length) : (byL l)[i] = .v (.int .u8 (l[i]'(by simpa using h)).toNat) := by simp [byL]
theorem byL_take (l : List UInt8) (n : Nat) : byL (l.take n) = (byL l).take n := by simp [byL]
theorem byL_drop (l : List UInt8) (n : Nat) : byL (l.drop n) = (byL l).drop n := by simp [byL]
theorem byL_set (l : List UInt8) (n : Nat) (b : UInt8) : byL (l.set n b) = (byL l).set n (.v (.int .u8 b.toNat)) := by simp [byL]
theorem byL_get (l : List UInt8) (i : Nat) : (byL l)[i]? = (l[i]?).map fun b => .v (.int .u8 b.toNat) := by simp [byL]
end Go.AM

set_option linter.unusedSimpArgs false
namespace Go.AM
open Go.RowKit

abbrev KnF := FuncId → List AV → Option AV
def KnOk (P : Program) (kn : KnF) : Prop := ∀ f args r, kn f args = some r → Sound P f args r
abbrev ExecF := Bool → Code → St → Option (Exit × St)

section
variable (P : Program)

def callX (ex : ExecF) (f : FuncId) (args : List AV) (h : List AObj) : Option (AV × List AObj) :=
  match P.funcs[f]? with
  | some fn => match fn.body with
    | some code => if (fn.name == "runtime.NumGoroutine") = false ∧ args.length ≤ fn.ntmps then
        match ex true code ⟨fn.ntmps, numF 0 args, h⟩ with
        | some (.normal, s) | some (.ret, s) => if h.length ≤ s.h.length then (resA P s fn.results.toList).bind fun x =>
            if x.under h.length && underH h.length (s.h.take h.length) then some (x, s.h.take h.length) else if x.under s.h.length && underH s.h.length s.h then some (x, s.h) else none else none
        | _ => none
      else none
    | none => none
  | none => none

def yldX (ex : ExecF) (id n : Nat) (fr : List (Nat × AV)) (as body : Code) (h : List AObj) : Option (Bool × List AObj) :=
  match ex false as ⟨n, fr, h⟩ with
  | some (.normal, s1) => match s1.h[id]? with
    | some (.loop n' fr' ps' as' body' .ready) => match ex false body ⟨s1.n, s1.fr, s1.h.set id (.loop n' fr' ps' as' body' .busy)⟩ with
      | some (e, s2) => match s2.h[id]?, endsAs e with
        | some (.loop n2 fr2 ps2 as2 body2 .busy), some (st, b) =>
          let h2 := s2.h.set id (.loop n2 fr2 ps2 as2 body2 st)
          if h.length ≤ s2.h.length then
            if underH h.length (h2.take h.length) then some (b, h2.take h.length) else if underH s2.h.length h2 then some (b, h2) else none
          else none
        | _, _ => none
      | none => none
    | _ => none
  | _ => none

def callP (ex : ExecF) (f : FuncId) (args : List AV) : Option AV :=
  match P.funcs[f]? with
  | some fn => match fn.body with
    | some code => if (fn.name == "runtime.NumGoroutine") = false ∧ args.length ≤ fn.ntmps ∧ AV.rfL args = true ∧ AV.tlL args = true then
        match ex true code ⟨fn.ntmps, numF 0 args, []⟩ with
        | some (.normal, s) | some (.ret, s) => (resA P s fn.results.toList).bind fun x => (frzV P 1 s.h x).bind fun (r, _) => if r.rf then some r else none
        | _ => none
      else none
    | none => none
  | none => none

def opX (kn : KnF) (ex : ExecF) (draw : Bool) (o : Oper) (s : St) : Option St :=
  match o.op with
  | .call c => match c.callee with
    | .value fo => match calleeA s c.callee with
      | some (f, l1, l2) => if c.args.size ≤ c.argTypes.size then
          (evOpts P s (c.args.toList.zip c.argTypes.toList)).bind fun xs =>
            if draw then
              (if AV.flatL xs && AV.rfL (AV.dpL (l1 ++ xs ++ l2)) then (match kn f (AV.dpL (l1 ++ xs ++ l2)) with | some r => some r | none => callP P ex f (AV.nlL (l1 ++ xs ++ l2))).bind fun r => s.put o.dst (r.norm (site o)) else none)
            else match (prep P s (site o) l1 (c.args.toList.zip c.argTypes.toList) l2).bind fun x => (kn f x.1).map fun r => (r, x.2) with
            | some (r, h') => (⟨s.n, s.fr, h'⟩ : St).put o.dst (r.norm (site o))
            | none => (callX P ex f (l1 ++ xs ++ l2) s.h).bind fun (r, h') => (⟨s.n, killSF (AV.toksL (l1 ++ xs ++ l2) ++ toksH s.h) s.fr, h'⟩ : St).put o.dst r
          else none
      | none => if draw then none else match s.ev fo with
          | some (.yld id) => match s.h[id]? with
            | some (.loop n fr ps as body .ready) => (evOpts P s (c.args.toList.zip c.argTypes.toList)).bind fun xs =>
                if c.args.size ≤ c.argTypes.size ∧ xs.length = ps.length ∧ (ps.all fun p => decide (p < n)) = true then
                  (yldX ex id n (setF fr ps (AV.weakL xs)) as body s.h).bind fun (b, h') => (⟨s.n, killSF (toksH s.h) s.fr, h'⟩ : St).put o.dst (.v (.bool b))
                else none
            | _ => none
          | _ => none
    | _ => if draw && !noArr P s o then none else evOp P o s
  | .convert _ _ _ => if draw then evOp P o s else match evSame P s o with
    | some s' => some s'
    | none => evOp P o s
  | _ => evOp P o s
def opsX (kn : KnF) (ex : ExecF) (draw : Bool) (ops : List Oper) : List Oper → St → Option St
  | [], s => some s
  | o :: l, s => (match guardA ops s o with
    | some true => match opX P kn ex draw o s with
      | some s' => some s'
      | none => if draw then none else if guardA ops (frzO P s o) o = some true then opX P kn ex draw o (frzO P s o) else none
    | some false => s.put o.dst (.v undef)
    | none => none).bind (opsX kn ex draw ops l)

def afterX (s : St) (h : List AObj) : Option (Exit × St) :=
  match h[s.h.length]? with
  | some (.loop _ _ _ _ _ .ready) => some (.normal, ⟨s.n, s.fr, h.set s.h.length .dead⟩)
  | some (.loop _ _ _ _ _ (.done .ret)) => some (.ret, ⟨s.n, s.fr, h.set s.h.length .dead⟩)
  | some (.loop _ _ _ _ _ (.done (.exit id))) => some (.exit id, ⟨s.n, s.fr, h.set s.h.length .dead⟩)
  | some (.loop _ _ _ _ _ (.done (.goto id))) => some (.goto id, ⟨s.n, s.fr, h.set s.h.length .dead⟩)
  | _ => none
def exec (kn : KnF) : Nat → ExecF
  | 0, _, _, _ => none
  | n + 1, top, c, s => match c with
    | .skip => some (.normal, s)
    | .label _ => some (.normal, s)
    | .scope x => match exec kn n top x s with
      | some (.goto _, _) => none
      | r => r
    | .ret => some (.ret, s)
    | .exit id => some (.exit id, s)
    | .seq x y => match exec kn n top x s with
      | some (.normal, s1) => exec kn n top y s1
      | r => r
    | .cond o x y => match s.ev o with
      | some (.v (.bool true)) => exec kn n top x s
      | some (.v (.bool false)) => exec kn n top y s
      | _ => none
    | .block id x => match exec kn n top x s with
      | some (.exit i, s1) => if i = id then some (.normal, s1) else some (.exit i, s1)
      | r => r
    | .loop body => match exec kn n top body s with
      | some (.normal, s1) => exec kn n top (.loop body) s1
      | r => r
    | .region _ ops draw => if draw && !drawB ops then none else match opsX P kn (exec kn n) draw ops.toList ops.toList s with
      | some s' => some (.normal, s')
      | none => if draw then (opsX P kn (exec kn n) draw ops.toList ops.toList (ops.toList.foldl (frzO P) s)).map fun s' => (.normal, s') else none
    | .rangeFunc g ps as body => if top then match calleeA s (.value g) with
        | some (f, l1, l2) => (callX P (exec kn n) f (l1 ++ [.yld s.h.length] ++ l2) (s.h ++ [.loop s.n (weakF s.fr) ps.toList as body .ready])).bind fun (_, h') =>
            afterX ⟨s.n, killSF (AV.toksL (l1 ++ [.yld s.h.length] ++ l2) ++ toksH (s.h ++ [.loop s.n (weakF s.fr) ps.toList as body .ready])) s.fr, s.h⟩ h'
        | none => none
      else none
    | _ => none
end

section
variable {P : Program}

theorem callX_sound {ex : ExecF} (hex : ∀ top kf c s e s' Q, ex top c s = some (e, s') → Q e s' → Wt top kf P c Q s) {f : FuncId} {args : List AV} {h h' : List AObj} {r : AV} (hc : callX P ex f args h = some (r, h')) :
    CallW P f args h fun r1 h1 => r1 = r ∧ h1 = h' := by
  unfold callX at hc
  split at hc
  · rename_i fn hf
    split at hc
    · rename_i code hb
      split at hc
      · rename_i hn
        have fin : ∀ e s, (e = Exit.normal ∨ e = .ret) → ex true code ⟨fn.ntmps, numF 0 args, h⟩ = some (e, s) →
            (if h.length ≤ s.h.length then (resA P s fn.results.toList).bind fun x =>
            if x.under h.length && underH h.length (s.h.take h.length) then some (x, s.h.take h.length) else if x.under s.h.length && underH s.h.length s.h then some (x, s.h) else none else none) = some (r, h') →
            CallW P f args h fun r1 h1 => r1 = r ∧ h1 = h' := by
          intro e s he hr hc
          split at hc
          · rename_i hle
            obtain ⟨x, hx, hc⟩ := Option.bind_eq_some_iff.1 hc
            split at hc
            · rename_i hu
              simp only [Option.some.injEq, Prod.mk.injEq] at hc
              obtain ⟨rfl, rfl⟩ := hc
              simp only [Bool.and_eq_true] at hu
              exact callW_of_W hf hb hn.1 hn.2 rfl (hex _ _ _ _ _ _ _ hr ⟨he, x, x, s.h, h.length, hx, .inl ⟨rfl, rfl⟩, Nat.le_refl _, hle, hu.1, hu.2, rfl, rfl⟩)
            · split at hc
              · rename_i hu
                simp only [Option.some.injEq, Prod.mk.injEq] at hc
                obtain ⟨rfl, rfl⟩ := hc
                simp only [Bool.and_eq_true] at hu
                exact callW_of_W hf hb hn.1 hn.2 rfl (hex _ _ _ _ _ _ _ hr ⟨he, x, x, s.h, s.h.length, hx, .inl ⟨rfl, rfl⟩, hle, Nat.le_refl _, hu.1, by rw [List.take_length]; exact hu.2, by rw [List.take_length]; exact ⟨rfl, rfl⟩⟩)
              · cases hc
          · cases hc
        split at hc
        · rename_i s hr; exact fin _ s (.inl rfl) hr hc
        · rename_i s hr; exact fin _ s (.inr rfl) hr hc
        · cases hc
      · cases hc
    · cases hc
  · cases hc

theorem yldX_sound {ex : ExecF} (hex : ∀ top kf c s e s' Q, ex top c s = some (e, s') → Q e s' → Wt top kf P c Q s) {id n : Nat} {fr : List (Nat × AV)} {as body : Code} {h h' : List AObj} {b : Bool} (hc : yldX ex id n fr as body h = some (b, h')) :
    roundA P id h.length n fr as body h fun b1 h1 => b1 = b ∧ h1 = h' := by
  unfold yldX at hc
  split at hc
  · rename_i s1 h1
    split at hc
    · rename_i n1 fr1 ps1 as1 body1 ho1
      split at hc
      · rename_i e s2 h2
        split at hc
        · rename_i n2 fr2 ps2 as2 body2 st b' ho2 hends
          dsimp only at hc
          split at hc
          · rename_i hle
            refine hex _ _ _ _ _ _ _ h1 ⟨rfl, n1, fr1, ps1, as1, body1, ho1, ?_⟩
            split at hc
            · rename_i hu
              cases hc
              exact hex _ _ _ _ _ _ _ h2 ⟨n2, fr2, ps2, as2, body2, st, b, h.length, ho2, hends, Nat.le_refl _, hle, hu, rfl, rfl⟩
            · split at hc
              · rename_i hu
                cases hc
                refine hex _ _ _ _ _ _ _ h2 ⟨n2, fr2, ps2, as2, body2, st, b, s2.h.length, ho2, hends, hle, Nat.le_refl _, ?_, rfl, ?_⟩
                · rw [List.take_of_length_le (by rw [List.length_set]; exact Nat.le_refl _)]; exact hu
                · rw [List.take_of_length_le (by rw [List.length_set]; exact Nat.le_refl _)]
              · cases hc
          · cases hc
        · cases hc
      · cases hc
    · cases hc
  · cases hc

theorem callP_sound {ex : ExecF} (hex : ∀ top kf c s e s' Q, ex top c s = some (e, s') → Q e s' → Wt top kf P c Q s) {f : FuncId} {args : List AV} {r : AV} (hc : callP P ex f args = some r) : Sound P f args r := by
  unfold callP at hc
  split at hc
  · rename_i fn hf
    split at hc
    · rename_i code hb
      split at hc
      · rename_i hn
        have fin : ∀ e s, (e = Exit.normal ∨ e = .ret) → ex true code ⟨fn.ntmps, numF 0 args, []⟩ = some (e, s) →
            ((resA P s fn.results.toList).bind fun x => (frzV P 1 s.h x).bind fun (r, _) => if r.rf then some r else none) = some r → Sound P f args r := by
          intro e s he hr hc
          obtain ⟨x, hx, hc⟩ := Option.bind_eq_some_iff.1 hc
          obtain ⟨⟨y, h1⟩, hy, hc⟩ := Option.bind_eq_some_iff.1 hc
          dsimp only at hc
          split at hc
          · rename_i hrf
            cases hc
            exact sound_of_W hf hb hn.1 hn.2.1 hn.2.2.1 hn.2.2.2 rfl (hex _ _ _ _ _ _ _ hr ⟨he, x, h1, hx, hy, hrf⟩)
          · cases hc
        split at hc
        · rename_i s hr; exact fin _ s (.inl rfl) hr hc
        · rename_i s hr; exact fin _ s (.inr rfl) hr hc
        · cases hc
      · cases hc
    · cases hc
  · cases hc

theorem opX_stepA {kn : KnF} (hkn : KnOk P kn) {ex : ExecF} (hex : ∀ top kf c s e s' Q, ex top c s = some (e, s') → Q e s' → Wt top kf P c Q s) {o : Oper} {s s' : St} {K : St → Prop} (h : opX P kn ex false o s = some s') (hk : K s') :
    step5 P o s K := by
  unfold opX at h
  split at h
  · rename_i c ho
    split at h
    · rename_i fo hfo
      split at h
      · rename_i f l1 l2 hcal
        split at h
        · rename_i hsz
          obtain ⟨xs, hxs, h⟩ := Option.bind_eq_some_iff.1 h
          simp only [Bool.false_eq_true, if_false] at h
          split at h
          · rename_i r h' hpr
            obtain ⟨x, hx, hpr⟩ := Option.bind_eq_some_iff.1 hpr
            obtain ⟨r', hr', he⟩ := Option.map_eq_some_iff.1 hpr
            cases he
            refine .inr (.inl ?_)
            unfold callA
            rw [ho]
            dsimp only
            rw [hcal]
            unfold prep at hx
            obtain ⟨xs, hxs, hx⟩ := Option.bind_eq_some_iff.1 hx
            obtain ⟨⟨ys, h1⟩, hys, hx⟩ := Option.bind_eq_some_iff.1 hx
            dsimp only at hx
            split at hx
            · cases hx
              exact ⟨ys, _, r, s', by rw [hxs]; exact hys, hsz, (hkn _ _ _ hr').ofDp, h, hk⟩
            · cases hx
          obtain ⟨⟨r, h'⟩, hr, h⟩ := Option.bind_eq_some_iff.1 h
          refine .inr (.inr (.inl ?_))
          unfold callO
          rw [ho]
          dsimp only
          rw [hcal]
          refine ⟨xs, hxs, hsz, (callX_sound hex hr).mono ?_⟩
          rintro r1 h1 ⟨rfl, rfl⟩
          exact ⟨s', h, hk⟩
        · cases h
      · simp only [Bool.false_eq_true, if_false] at h
        split at h
        · rename_i id hev
          split at h
          · rename_i n fr ps as body hob
            obtain ⟨xs, hxs, h⟩ := Option.bind_eq_some_iff.1 h
            split at h
            · rename_i hcond
              obtain ⟨⟨b, h'⟩, hy, h⟩ := Option.bind_eq_some_iff.1 h
              refine .inr (.inr (.inr (.inl ?_)))
              unfold callY
              rw [ho]
              dsimp only
              rw [hfo]
              refine ⟨id, n, fr, ps, as, body, xs, hev, hob, hxs, hcond.1, hcond.2.1, hcond.2.2, roundA_mono ?_ (yldX_sound hex hy)⟩
              rintro b1 h1 ⟨rfl, rfl⟩
              exact ⟨s', h, hk⟩
            · cases h
          · cases h
        · cases h
    · simp only [Bool.false_and, Bool.false_eq_true, if_false] at h
      exact .inl ⟨s', h, hk⟩
  · rename_i ho
    simp only [Bool.false_eq_true, if_false] at h
    split at h
    · rename_i s1 h1
      cases h
      refine .inr (.inr (.inr (.inr ?_)))
      unfold callB
      rw [ho]
      exact ⟨_, h1, hk⟩
    · exact .inl ⟨s', h, hk⟩
  · exact .inl ⟨s', h, hk⟩
theorem opX_stepD {kn : KnF} (hkn : KnOk P kn) {ex : ExecF} (hex : ∀ top kf c s e s' Q, ex top c s = some (e, s') → Q e s' → Wt top kf P c Q s) {o : Oper} {s s' : St} {K : St → Prop} (h : opX P kn ex true o s = some s') (hk : K s') :
    (∃ s', (if noArr P s o then evOp P o s else none) = some s' ∧ K s') ∨ (dcls o = 3 ∧ callD P o s K) := by
  unfold opX at h
  split at h
  · rename_i c ho
    split at h
    · rename_i fo hfo
      split at h
      · rename_i f l1 l2 hcal
        split at h
        · rename_i hsz
          obtain ⟨xs, hxs, h⟩ := Option.bind_eq_some_iff.1 h
          simp only [if_true] at h
          split at h
          · rename_i hfl
            obtain ⟨r, hr, h⟩ := Option.bind_eq_some_iff.1 h
            simp only [Bool.and_eq_true] at hfl
            refine .inr ⟨by simp [dcls, ho, hfo], ?_⟩
            unfold callD
            rw [ho]
            dsimp only
            rw [hcal]
            refine ⟨xs, r, s', hxs, hfl.1, hfl.2, hsz, ?_, h, hk⟩
            split at hr
            · rename_i r' hr'
              cases hr
              exact (hkn _ _ _ hr').ofDp
            · exact callP_sound hex hr
          · cases h
        · cases h
      · simp only [if_true] at h; cases h
    · simp only [Bool.true_and, Bool.not_eq_true'] at h
      split at h
      · cases h
      · rename_i hn
        exact .inl ⟨s', by rw [if_pos (by simpa using hn)]; exact h, hk⟩
  · rename_i ho
    simp only [if_true] at h
    refine .inl ⟨s', ?_, hk⟩
    have : noArr P s o = true := by unfold noArr; rw [ho]
    rw [if_pos this]; exact h
  · rename_i hno _
    refine .inl ⟨s', ?_, hk⟩
    have : noArr P s o = true := by
      unfold noArr
      split
      · rename_i c ho; exact absurd ho (hno c)
      · rfl
    rw [if_pos this]; exact h

theorem opsX_runA {kn : KnF} (hkn : KnOk P kn) {ex : ExecF} (hex : ∀ top kf c s e s' Q, ex top c s = some (e, s') → Q e s' → Wt top kf P c Q s) {ops : List Oper} : ∀ {l : List Oper} {s s' : St} {K : St → Prop}, opsX P kn ex false ops l s = some s' → K s' → runA P ops l s K
  | [], s, s', K, h, hk => by simp only [opsX, Option.some.injEq] at h; subst h; exact hk
  | o :: l, s, s', K, h, hk => by
    simp only [opsX] at h
    obtain ⟨s1, h1, h2⟩ := Option.bind_eq_some_iff.1 h
    have rest := opsX_runA hkn hex (K := K) h2 hk
    simp only [runA, stepA]
    cases hg : guardA ops s o with
    | none => rw [hg] at h1; cases h1
    | some b =>
      rw [hg] at h1
      cases b with
      | true =>
        dsimp only at h1
        split at h1
        · rename_i s' ho
          cases h1
          rcases opX_stepA (K := fun s' => runA P ops l s' K) hkn hex ho rest with h | h | h | h | h
          · exact .inl h
          · exact .inr (.inl h)
          · exact .inr (.inr (.inl h))
          · exact .inr (.inr (.inr (.inl h)))
          · exact .inr (.inr (.inr (.inr (.inl h))))
        · simp only [Bool.false_eq_true, if_false] at h1
          split at h1
          · rename_i hg2
            refine .inr (.inr (.inr (.inr (.inr ((pre_frzO o).mono ?_)))))
            rintro _ rfl
            exact ⟨hg2, opX_stepA (K := fun s' => runA P ops l s' K) hkn hex h1 rest⟩
          · cases h1
      | false => exact ⟨s1, h1, rest⟩
theorem opsX_runD {kn : KnF} (hkn : KnOk P kn) {ex : ExecF} (hex : ∀ top kf c s e s' Q, ex top c s = some (e, s') → Q e s' → Wt top kf P c Q s) {ops : List Oper} : ∀ {l : List Oper} {s s' : St} {K : St → Prop}, opsX P kn ex true ops l s = some s' → K s' → runD P ops l s K
  | [], s, s', K, h, hk => by simp only [opsX, Option.some.injEq] at h; subst h; exact hk
  | o :: l, s, s', K, h, hk => by
    simp only [opsX] at h
    obtain ⟨s1, h1, h2⟩ := Option.bind_eq_some_iff.1 h
    have rest := opsX_runD hkn hex (K := K) h2 hk
    simp only [runD, stepD]
    cases hg : guardA ops s o with
    | none => rw [hg] at h1; cases h1
    | some b =>
      rw [hg] at h1
      cases b with
      | true =>
        dsimp only at h1
        split at h1
        · rename_i s' ho
          cases h1
          exact opX_stepD (K := fun s' => runD P ops l s' K) hkn hex ho rest
        · simp at h1
      | false => exact ⟨s1, h1, rest⟩

theorem exec_sound {kn : KnF} (hkn : KnOk P kn) (hm : P.follows .mixedOrders = true) (n : Nat) : ∀ (top : Bool) (kf : Nat) (c : Code) (s : St) (e : Exit) (s' : St) (Q : Exit → St → Prop), exec P kn n top c s = some (e, s') → Q e s' → Wt top kf P c Q s := by
  induction n using Nat.strongRecOn with
  | _ n ihs =>
  intro top kf c s e s' Q h hq
  cases n with
  | zero => cases h
  | succ n =>
    have ih := ihs n (Nat.lt_succ_self n)
    cases c
    case loop body =>
      refine W_loop (fun k s => k ≤ n + 1 ∧ exec P kn k top (.loop body) s = some (e, s')) (k := n + 1) ⟨Nat.le_refl _, h⟩ ?_
      rintro k s2 ⟨hk, h2⟩
      cases k with
      | zero => cases h2
      | succ k =>
        have ihk := ihs k (by omega)
        simp only [exec] at h2
        split at h2
        · rename_i s1 h1
          exact ihk top kf body s2 _ _ _ h1 ⟨k, Nat.lt_succ_self k, by omega, h2⟩
        · rename_i hne
          refine ihk top kf body s2 _ _ _ h2 ?_
          cases e with
          | normal => exact absurd h2 (hne s')
          | _ => exact hq
    all_goals simp only [exec] at h
    case skip => cases h; exact W_skip hq
    case label l => cases h; exact W_label hq
    case scope x =>
      refine W_scope ?_
      split at h
      · cases h
      · rename_i hne
        refine ih top kf x s _ _ _ h ?_
        cases e with
        | goto l => exact absurd h (hne l s')
        | _ => exact hq
    case ret => cases h; exact W_ret hq
    case exit id => cases h; exact W_exit hq
    case seq x y =>
      refine W_seq ?_
      split at h
      · rename_i s1 h1
        exact ih top kf x s _ _ _ h1 (ih top kf y s1 _ _ _ h hq)
      · rename_i hne
        refine ih top kf x s _ _ _ h ?_
        cases e with
        | normal => exact absurd h (hne s')
        | _ => exact hq
    case cond o x y =>
      split at h
      · rename_i ho; exact W_cond ho (fun _ => ih top kf x s _ _ _ h hq) (fun h => (by cases h))
      · rename_i ho; exact W_cond ho (fun h => (by cases h)) (fun _ => ih top kf y s _ _ _ h hq)
      · cases h
    case block id x =>
      refine W_block ?_
      split at h
      · rename_i i s1 h1
        refine ih top kf x s _ _ _ h1 ?_
        simp only [inBlk]
        split at h
        · rename_i hi; cases h; rw [if_pos hi]; exact hq
        · rename_i hi; cases h; rw [if_neg hi]; exact hq
      · rename_i hne
        refine ih top kf x s _ _ _ h ?_
        cases e with
        | exit i => exact absurd h (hne i s')
        | _ => exact hq
    case region id ops draw =>
      split at h
      · cases h
      · rename_i hd
        split at h
        · rename_i s1 h1
          cases h
          cases draw with
          | false => exact W_region (opsX_runA hkn ih h1 hq)
          | true => exact W_drawD hm (by simpa using hd) (opsX_runD hkn ih h1 hq)
        · split at h
          · rename_i hdr
            obtain ⟨s1, h1, h2⟩ := Option.map_eq_some_iff.1 h
            cases h2
            subst hdr
            refine W_pre ((pre_frzOs ops.toList s).mono ?_)
            rintro _ rfl
            exact W_drawD hm (by simpa using hd) (opsX_runD hkn ih h1 hq)
          · cases h
    case rangeFunc g ps as body =>
      split at h
      · rename_i htop
        subst htop
        split at h
        · rename_i f l1 l2 hcal
          obtain ⟨⟨r, h'⟩, hx, h⟩ := Option.bind_eq_some_iff.1 h
          refine W_rangeFunc hcal (callX_sound ih hx) ?_
          rintro _ _ ⟨rfl, rfl⟩
          dsimp only at h
          unfold afterX at h
          split at h <;> cases h <;> (rename_i ho; exact ⟨_, _, _, _, _, _, ho, hq⟩)
        · cases h
      · cases h
    all_goals cases h

theorem sound_execK {kn : KnF} (hkn : KnOk P kn) (hm : P.follows .mixedOrders = true) (n : Nat) {f : FuncId} {args : List AV} {r : AV} (h : callP P (exec P kn n) f args = some r) : Sound P f args r := callP_sound (exec_sound hkn hm n) h
def kn0 : KnF := fun _ _ => none
theorem kn0_ok : KnOk P kn0 := fun _ _ _ h => by cases h

theorem sound_exec (hm : P.follows .mixedOrders = true) (n : Nat) {f : FuncId} {args : List AV} {r : AV} (h : callP P (exec P kn0 n) f args = some r) : Sound P f args r := sound_execK kn0_ok hm n h
end
end Go.AM

set_option linter.unusedSimpArgs false
namespace Go.AM
open Go.RowKit Go.ChangeShapes Go.WideShapes Go.ChangeAt Go.Deep

def isSt (P : Program) (t : TypeId) : Bool :=
  match P.underlying t with
  | some (.struct _) => true
  | _ => false

def tiles (P : Program) : Nat → List Field → Option Nat
  | off, [] => some off
  | off, f :: fs => if f.offset = off then tiles P (off + P.cellsOf f.type) fs else none

def plainB (P : Program) : Nat → TypeId → Bool
  | 0, _ => false
  | n + 1, t => match P.underlying t with
    | some .bool => true
    | some (.int _) => true
    | some .string => true
    | some (.slice e) => plainB P n e && decide (0 < P.cellsOf e) && (isSt P e || P.cellsOf e == 1)
    | some (.struct fs) => (fs.toList.all fun f => plainB P n f.type) && tiles P 0 fs.toList == some (P.cellsOf t)
    | _ => false

def TyC (P : Program) : Nat → TypeId → List AV → Prop
  | 0, _, _ => False
  | n + 1, t, xs => match P.underlying t with
    | some .bool => ∃ b, xs = [.v (.bool b)]
    | some (.int k) => ∃ m, xs = [.v (.int k m)] ∧ k.min ≤ m ∧ m ≤ k.max
    | some .string => ∃ s : ByteArray, xs = [.v (.string s)] ∧ s.size ≤ maxLen
    | some (.slice e) => ∃ o l, xs = [.lst o (P.cellsOf e) l] ∧ (l.length ≤ maxLen ∧ l.length * P.bytesOf e ≤ 140737488351232) ∧ (o = .nil ∨ o = .any) ∧ (o = .nil → l = []) ∧
        ∀ x ∈ l, (isSt P e = true ∧ ∃ ys, x = .agg ys ∧ TyC P n e ys) ∨ (isSt P e = false ∧ TyC P n e [x])
    | some (.struct fs) => xs.length = P.cellsOf t ∧ ∀ f ∈ fs.toList, TyC P n f.type ((xs.drop f.offset).take (P.cellsOf f.type))
    | _ => False

def TyV (P : Program) (n : Nat) (t : TypeId) (x : AV) : Prop := (isSt P t = true ∧ ∃ ys, x = .agg ys ∧ TyC P n t ys) ∨ (isSt P t = false ∧ TyC P n t [x])
def TyAll (P : Program) (n : Nat) : List TypeId → List AV → Prop
  | [], [] => True
  | t :: ts, x :: xs => TyV P n t x ∧ TyAll P n ts xs
  | _, _ => False

def ctxOf (W : World) : Ctx where
  base b := W.heap.size ≤ b
  pm b := match W.heap[b]? with
    | some (.cells cs _ _) => cs.size
    | _ => 0
  ow _ := 0
  no := 0
  ob _ := 0

section
variable {H : Type} {enc : TypeId × Value → H} {P : Program} {W : World}

theorem prot_ctxOf {a : Addr} {u : Value} (h : W.cell? a = some u) : (ctxOf W).prot a := by
  unfold World.cell? at h
  unfold Ctx.prot ctxOf
  dsimp only
  cases hb : W.heap[a.block]? with
  | none => simp [hb] at h
  | some o =>
    cases o with
    | cells cs t fr =>
      simp only [hb] at h ⊢
      split at h
      · cases h
      · exact (Array.getElem?_eq_some_iff.1 h).1
    | _ => simp [hb] at h

structure LRep (W : World) (xs : List AV) (cs : List Value) : Prop where
  len : xs.length = cs.length
  rep : ∀ (j : Nat) (y : AV), xs[j]? = some y → ∃ u : Value, cs[j]? = some u ∧ Rep (ctxOf W) W y u ∧ u.oneCell' = true
  rf : AV.rfL xs = true
  tl : AV.tlL xs = true
  one : ∀ y ∈ xs, y.cells = [y] ∧ y.one = true

theorem rfL_mk {xs : List AV} (h : ∀ x ∈ xs, x.rf = true) : AV.rfL xs = true := rfL_iff.2 h
theorem tlL_iff {xs : List AV} : AV.tlL xs = true ↔ ∀ x ∈ xs, x.tl = true := by
  induction xs with
  | nil => simp [AV.tlL]
  | cons x xs ih => simp [AV.tlL, ih]

theorem getD_get {cs : List Value} {j : Nat} {u : Value} (h : cs[j]? = some u) : cs.getD j undef = u := by simp [h]

theorem cells_get {base : Nat} {a : Addr} {n : Nat} {cs : List Value} (h : W.cells? base a n = some cs) : cs.length = n ∧ ∀ k, k < n → ∃ u, cs[k]? = some u ∧ W.cell? (a.add k) = some u := by
  unfold World.cells? at h
  split at h
  · have hl := mapM_some_length h
    simp at hl
    refine ⟨hl, fun k hk => ?_⟩
    have := mapM_some_get h k k (by simp [hk])
    have hk' : k < cs.length := by omega
    exact ⟨cs[k], by simp [hk'], by rw [this]; simp [hk']⟩
  · cases h

theorem LRep.append {xs ys : List AV} {cs ds : List Value} (h : LRep W xs cs) (k : LRep W ys ds) : LRep W (xs ++ ys) (cs ++ ds) where
  len := by simp [h.len, k.len]
  rep j y hj := by
    rcases Nat.lt_or_ge j xs.length with hlt | hge
    · rw [List.getElem?_append_left hlt] at hj
      obtain ⟨u, h1, h2⟩ := h.rep j y hj
      exact ⟨u, by rw [List.getElem?_append_left (by rw [← h.len]; exact hlt)]; exact h1, h2⟩
    · rw [List.getElem?_append_right hge] at hj
      obtain ⟨u, h1, h2⟩ := k.rep _ y hj
      exact ⟨u, by rw [List.getElem?_append_right (by rw [← h.len]; exact hge), ← h.len]; exact h1, h2⟩
  rf := by rw [rfL_append, h.rf, k.rf]; rfl
  tl := tlL_iff.2 fun x hx => by
    rcases List.mem_append.1 hx with h1 | h1
    · exact tlL_iff.1 h.tl x h1
    · exact tlL_iff.1 k.tl x h1
  one y hy := by
    rcases List.mem_append.1 hy with h1 | h1
    · exact h.one y h1
    · exact k.one y h1

theorem tiles_le : ∀ (fs : List Field) (off N : Nat), tiles P off fs = some N → off ≤ N
  | [], off, N, h => by simp [tiles] at h; omega
  | f :: fs, off, N, h => by
    simp only [tiles] at h
    split at h
    · have := tiles_le fs _ _ h; omega
    · cases h

theorem open_fields {n : Nat} {cs : List Value} (ih : ∀ (fuel : Nat) (t : TypeId) (cs : List Value) (x : DataW H × List MemPlace), plainB P n t = true → DataW.trod enc P W 0 (fun _ => true) true fuel t cs = some x → (∀ m ∈ x.1.weights P t, m ≤ reachBytes) → ∃ xs, TyC P n t xs ∧ LRep W xs cs) :
    ∀ (fl : List Field) (off : Nat), tiles P off fl = some cs.length →
      (∀ f ∈ fl, plainB P n f.type = true ∧ ∃ (k : Nat) (y : DataW H × List MemPlace), DataW.trod enc P W 0 (fun _ => true) true k f.type ((cs.drop f.offset).take (P.cellsOf f.type)) = some y ∧ ∀ m ∈ y.1.weights P f.type, m ≤ reachBytes) →
      ∃ xs, LRep W xs (cs.drop off) ∧ ∀ f ∈ fl, off ≤ f.offset ∧ TyC P n f.type ((xs.drop (f.offset - off)).take (P.cellsOf f.type))
  | [], off, h, _ => by
    simp [tiles] at h
    refine ⟨[], ?_, by simp⟩
    rw [List.drop_eq_nil_of_le (by omega)]
    exact ⟨rfl, by simp, rfl, rfl, by simp⟩
  | f :: fl, off, h, hf => by
    simp only [tiles] at h
    split at h
    · rename_i ho
      have hle := tiles_le _ _ _ h
      obtain ⟨xs', h1, h2⟩ := open_fields ih fl _ h (fun g hg => hf g (List.mem_cons_of_mem _ hg))
      obtain ⟨hp, k, y, hy, hyw⟩ := hf f List.mem_cons_self
      obtain ⟨ys, h3, h4⟩ := ih k f.type _ y hp hy hyw
      rw [ho] at h4
      have hly : ys.length = P.cellsOf f.type := by rw [h4.len, List.length_take, List.length_drop]; omega
      refine ⟨ys ++ xs', ?_, ?_⟩
      · have := h4.append h1
        rwa [← List.drop_drop, List.take_append_drop] at this
      · intro g hg
        rcases List.mem_cons.1 hg with rfl | hg
        · refine ⟨by omega, ?_⟩
          rw [ho, Nat.sub_self, List.drop_zero, List.take_append_of_le_length (by omega), List.take_of_length_le (by omega)]
          exact h3
        · obtain ⟨h5, h6⟩ := h2 g hg
          refine ⟨by omega, ?_⟩
          rw [List.drop_append, List.drop_eq_nil_of_le (by omega), List.nil_append, hly, show g.offset - off - P.cellsOf f.type = g.offset - (off + P.cellsOf f.type) by omega]
          exact h6
    · cases h

theorem weightsAll_mem {e : TypeId} : ∀ {l : List (DataW H)} {d : DataW H}, d ∈ l → ∀ n ∈ d.weights P e, n ∈ DataW.weightsAll P e l
  | [], _, h => by cases h
  | x :: l, d, h => fun n hn => by
    rcases List.mem_cons.1 h with rfl | h
    · exact List.mem_append_left _ hn
    · exact List.mem_append_right _ (weightsAll_mem h n hn)

theorem open_av : ∀ (n fuel : Nat) (t : TypeId) (cs : List Value) (x : DataW H × List MemPlace), plainB P n t = true → DataW.trod enc P W 0 (fun _ => true) true fuel t cs = some x → (∀ m ∈ x.1.weights P t, m ≤ reachBytes) →
    ∃ xs, TyC P n t xs ∧ LRep W xs cs
  | 0, _, _, _, _, h, _, _ => by cases h
  | n + 1, fuel, t, cs, x, hp, h, hwt => by
    simp only [plainB] at hp
    cases hu : P.underlying t with
    | none => rw [hu] at hp; cases hp
    | some dd =>
      rw [hu] at hp
      cases dd <;> simp only [] at hp <;> first | (cases hp; done) | skip
      case bool =>
        obtain ⟨b, rfl, _⟩ := DataW.trod_bool hu h
        exact ⟨[.v (.bool b)], by simp only [TyC, hu]; exact ⟨b, rfl⟩, rfl, fun j y hj => by
          match j, hj with
          | 0, hj => simp at hj; subst hj; exact ⟨_, rfl, .v _, rfl⟩, rfl, rfl, by simp [AV.cells, AV.one]⟩
      case int k =>
        obtain ⟨m, rfl, _, hw⟩ := DataW.trod_int hu h
        simp only [Lit.wf, Bool.and_eq_true, decide_eq_true_eq] at hw
        exact ⟨[.v (.int k m)], by simp only [TyC, hu]; exact ⟨m, rfl, hw.1, hw.2⟩, rfl, fun j y hj => by
          match j, hj with
          | 0, hj => simp at hj; subst hj; exact ⟨_, rfl, .v _, rfl⟩, rfl, rfl, by simp [AV.cells, AV.one]⟩
      case string =>
        obtain ⟨s, rfl, _, hw⟩ := DataW.trod_string hu h
        exact ⟨[.v (.string s)], by simp only [TyC, hu]; exact ⟨s, rfl, hw⟩, rfl, fun j y hj => by
          match j, hj with
          | 0, hj => simp at hj; subst hj; exact ⟨_, rfl, .v _, rfl⟩, rfl, rfl, by simp [AV.cells, AV.one]⟩
      case struct fs =>
        simp only [Bool.and_eq_true, List.all_eq_true, beq_iff_eq] at hp
        obtain ⟨ys, m, _, hxe, hl, hlen, hf⟩ := DataW.trod_struct hu h
        obtain ⟨xs, h1, h2⟩ := open_fields (fun fuel t cs x h1 h2 h3 => open_av n fuel t cs x h1 h2 h3) fs.toList 0 (by rw [hl]; exact hp.2) (fun f hf' => by
          refine ⟨hp.1 f hf', m, ?_⟩
          obtain ⟨i, hi⟩ := List.mem_iff_getElem?.1 hf'
          have hi' : fs[i]? = some f := by simpa using hi
          have hlt : i < ys.length := by rw [hlen]; exact (Array.getElem?_eq_some_iff.1 hi').1
          refine ⟨ys[i], by rw [hf i f hi']; simp [hlt], fun m hm => hwt m ?_⟩
          rw [hxe]
          simp only [DataW.weights, hu]
          exact DataW.weights_mem_each (j := i) (t := f.type) (d := ys[i].1) (by simp [hi']) (by simp [hlt]) m hm)
        rw [List.drop_zero] at h1
        exact ⟨xs, by simp only [TyC, hu]; exact ⟨by rw [h1.len, hl], fun f hf' => (h2 f hf').2⟩, h1⟩
      case slice e =>
        simp only [Bool.and_eq_true, decide_eq_true_eq, Bool.or_eq_true, beq_iff_eq] at hp
        obtain ⟨⟨hpe, hce⟩, hst⟩ := hp
        rcases open_slice hu h with ⟨rfl, _⟩ | ⟨a, len, cap, m, k, D, Pl, rfl, _, hlc, hcm, hm, hxe, hel⟩
        · exact ⟨[.lst .nil (P.cellsOf e) []], by simp only [TyC, hu]; exact ⟨.nil, [], rfl, ⟨Nat.zero_le _, by simp⟩, .inl rfl, fun _ => rfl, by simp⟩, rfl, fun j y hj => by
            match j, hj with
            | 0, hj => simp at hj; subst hj; exact ⟨_, rfl, .lst (fun _ => undef) rfl (Nat.zero_le _) (Nat.zero_le _) (by simp) (by simp) rfl (fun _ => ⟨rfl, rfl⟩) rfl (by simp) (by simp), rfl⟩, rfl, rfl, by simp [AV.cells, AV.one]⟩
        · have hel' : ∀ i, i < len → ∃ cs' ys, W.cells? 0 (a.add (i * P.cellsOf e)) (P.cellsOf e) = some cs' ∧ TyC P n e ys ∧ LRep W ys cs' := fun i hi => by
            obtain ⟨cs', h1, h2⟩ := hel i (by simp at hm; omega)
            obtain ⟨ys, h3, h4⟩ := open_av n k e cs' _ hpe h2 (fun m hm' => hwt m (by
              rw [hxe]
              simp only [DataW.weights, hu]
              refine List.mem_cons_of_mem _ (List.mem_append_left _ (weightsAll_mem (d := D i) ?_ m hm'))
              exact List.mem_map.2 ⟨i, List.mem_range.2 hi, rfl⟩))
            exact ⟨cs', ys, h1, h3, h4⟩
          have hY : ∃ Y : Nat → List AV, ∀ i, i < len → ∃ cs', W.cells? 0 (a.add (i * P.cellsOf e)) (P.cellsOf e) = some cs' ∧ TyC P n e (Y i) ∧ LRep W (Y i) cs' := by
            refine ⟨fun i => if hi : i < len then Classical.choose (Classical.choose_spec (hel' i hi)) else [], fun i hi => ?_⟩
            obtain ⟨h1, h2, h3⟩ := Classical.choose_spec (Classical.choose_spec (hel' i hi))
            exact ⟨_, h1, by simp only [dif_pos hi]; exact h2, by simp only [dif_pos hi]; exact h3⟩
          obtain ⟨Y, hY⟩ := hY
          let wr : List AV → AV := fun ys => if isSt P e then .agg ys else ys.headD .any
          have hYl : ∀ i, i < len → (Y i).length = P.cellsOf e := fun i hi => by
            obtain ⟨cs', h1, _, h3⟩ := hY i hi
            rw [h3.len, (cells_get h1).1]
          have hwr : ∀ i, i < len → (wr (Y i)).cells = Y i ∧ (wr (Y i)).rf = true := fun i hi => by
            obtain ⟨cs', h1, _, h3⟩ := hY i hi
            simp only [wr]
            split
            · exact ⟨rfl, h3.rf⟩
            · rename_i hns
              have h1c : P.cellsOf e = 1 := by rcases hst with h | h; exact absurd h hns; exact h
              have := hYl i hi
              rw [h1c] at this
              match hYi : Y i, this with
              | [y], _ =>
                simp only [List.headD_cons]
                exact ⟨(h3.one y (by rw [hYi]; simp)).1, rfL_iff.1 h3.rf y (by rw [hYi]; simp)⟩
          have hmem : ∀ x ∈ (List.range len).map fun i => wr (Y i), ∃ i, i < len ∧ x = wr (Y i) := fun x hx => by
            obtain ⟨i, hi, rfl⟩ := List.mem_map.1 hx
            exact ⟨i, by simpa using hi, rfl⟩
          have hcell : ∀ i j, i < len → j < P.cellsOf e → ∃ u, W.cell? (a.add (i * P.cellsOf e + j)) = some u ∧ u.oneCell' = true ∧ ∀ y, (Y i)[j]? = some y → Rep (ctxOf W) W y u := fun i j hi hj => by
            obtain ⟨cs', h1, _, h3⟩ := hY i hi
            obtain ⟨h4, h5⟩ := cells_get h1
            obtain ⟨u, h6, h7⟩ := h5 j hj
            rw [add_add] at h7
            have hjl : j < (Y i).length := by rw [hYl i hi]; exact hj
            obtain ⟨u', h8, h9, h10⟩ := h3.rep j (Y i)[j] (by simp [hjl])
            rw [h6] at h8
            cases h8
            refine ⟨u, h7, h10, fun y hy => ?_⟩
            simp [hjl] at hy
            subst hy
            exact h9
          let U : Nat → Value := fun k => (W.cell? (a.add k)).getD undef
          have hby : ((List.range len).map fun i => wr (Y i)).length * P.bytesOf e ≤ 140737488351232 := by
            have h0 := hwt ((((List.range len).map D).length + ((List.range (m - len)).map fun j => D (len + j)).length) * P.bytesOf e) (by
              rw [hxe]
              simp only [DataW.weights, hu]
              exact List.mem_cons_self)
            have h1 : reachBytes = 140737488351232 := rfl
            rw [h1] at h0
            refine Nat.le_trans (Nat.mul_le_mul_right _ ?_) h0
            simp
          refine ⟨[.lst .any (P.cellsOf e) ((List.range len).map fun i => wr (Y i))], ?_, rfl, fun j y hj => ?_, ?_, rfl, by simp [AV.cells, AV.one]⟩
          · simp only [TyC, hu]
            refine ⟨.any, _, rfl, ⟨by simp; omega, hby⟩, .inr rfl, fun h => (by cases h), fun x hx => ?_⟩
            obtain ⟨i, hi, rfl⟩ := hmem x hx
            obtain ⟨cs', h1, h2, h3⟩ := hY i hi
            by_cases hs : isSt P e = true
            · exact .inl ⟨hs, Y i, by simp [wr, hs], h2⟩
            · refine .inr ⟨by simpa using hs, ?_⟩
              have h1c : P.cellsOf e = 1 := by rcases hst with h | h; exact absurd h hs; exact h
              have := hYl i hi
              rw [h1c] at this
              match hYi : Y i, this with
              | [y], _ => rw [hYi] at h2; simpa [wr, hs] using h2
          · match j, hj with
            | 0, hj =>
              simp at hj
              subst hj
              refine ⟨_, rfl, .lst U (by simp) hlc hcm (fun _ => hce) ?_ ?_ (by simp) trivial ?_ ?_, rfl⟩
              · intro x hx
                obtain ⟨i, hi, rfl⟩ := hmem x hx
                rw [(hwr i hi).1, hYl i hi]
              · refine rfL_mk fun x hx => ?_
                obtain ⟨i, hi, rfl⟩ := hmem x hx
                exact (hwr i hi).2
              · intro ad k' had hk
                cases had
                have hq : k' / P.cellsOf e < len := Nat.div_lt_of_lt_mul (by rw [Nat.mul_comm]; exact hk)
                have hr : k' % P.cellsOf e < P.cellsOf e := Nat.mod_lt _ hce
                have hk' : k' / P.cellsOf e * P.cellsOf e + k' % P.cellsOf e = k' := by rw [Nat.mul_comm]; exact Nat.div_add_mod k' _
                obtain ⟨u, h1, h2, _⟩ := hcell _ _ hq hr
                rw [hk'] at h1
                have hU : U k' = u := by simp only [U, h1]; rfl
                rw [hU]
                exact ⟨h1, prot_ctxOf h1, h2⟩
              · intro i j' x y hi hj'
                simp only [List.getElem?_map, Option.map_eq_some_iff] at hi
                obtain ⟨i', hi', rfl⟩ := hi
                have : i' = i ∧ i < len := by
                  have := List.getElem?_eq_some_iff.1 hi'
                  obtain ⟨h1, h2⟩ := this
                  simp at h1 h2
                  exact ⟨h2.symm, h1⟩
                obtain ⟨rfl, hil⟩ := this
                rw [(hwr i' hil).1] at hj'
                have hjl : j' < P.cellsOf e := by rw [← hYl i' hil]; exact (List.getElem?_eq_some_iff.1 hj').1
                obtain ⟨u, h1, _, h3⟩ := hcell i' j' hil hjl
                have hU : U (i' * P.cellsOf e + j') = u := by simp only [U, h1]; rfl
                rw [hU]
                exact h3 y hj'
          · simp only [AV.rfL, AV.rf, Bool.and_true]

theorem open_arg {n : Nat} {t : TypeId} {v : Value} {d : DataW H} {ps : List MemPlace} {b0 : Nat} (hp : plainB P n t = true) (hval : Value.okWide P W .any b0 t v) (h : DataW.Trod enc P W 0 (fun _ => true) true t v d ps) (hwt : ∀ m ∈ d.weights P t, m ≤ reachBytes) :
    ∃ x, TyV P n t x ∧ Rep (ctxOf W) W x v ∧ x.rf = true ∧ x.tl = true := by
  obtain ⟨fuel, hf⟩ := h
  obtain ⟨xs, h1, h2⟩ := open_av n fuel t _ _ hp hf hwt
  cases n with
  | zero => cases hp
  | succ n =>
    by_cases hs : isSt P t = true
    · have hv : ∃ cs, v = .agg cs := by
        unfold isSt at hs
        split at hs
        · rename_i fs hu
          unfold Value.okWide at hval
          rw [hu] at hval
          obtain ⟨cs, rfl, _⟩ := hval
          exact ⟨cs, rfl⟩
        · cases hs
      obtain ⟨cs, rfl⟩ := hv
      refine ⟨.agg xs, .inl ⟨hs, xs, rfl, h1⟩, .agg (by simpa [Value.cells] using h2.len) (fun j y hj => ?_), h2.rf, h2.tl⟩
      obtain ⟨u, h3, h4, _⟩ := h2.rep j y hj
      have : cs.getD j undef = u := by
        have : cs[j]? = some u := by simpa [Value.cells] using h3
        simp [this]
      rw [this]; exact h4
    · have hs' : isSt P t = false := by simpa using hs
      have hcv : v.cells = #[v] := by
        simp only [plainB] at hp
        cases hu : P.underlying t with
        | none => rw [hu] at hp; cases hp
        | some dd =>
          rw [hu] at hp
          cases dd <;> simp only [] at hp <;> first | (cases hp; done) | skip
          · obtain ⟨b, rfl⟩ := okWide_bool hu hval; rfl
          · obtain ⟨b, rfl⟩ := okWide_int hu hval; rfl
          · obtain ⟨b, rfl⟩ := okWide_string hu hval; rfl
          · obtain ⟨a, l, c, rfl⟩ := okWide_slice hu hval; rfl
          · simp [isSt, hu] at hs
      have hlen : xs.length = 1 := by rw [h2.len, hcv]; rfl
      match xs, hlen with
      | [x], _ =>
        refine ⟨x, .inr ⟨hs', h1⟩, ?_, ?_, ?_⟩
        · obtain ⟨u, h3, h4, _⟩ := h2.rep 0 x rfl
          rw [hcv] at h3
          simp at h3
          subst h3
          exact h4
        · have := h2.rf; simpa [AV.rfL] using this
        · have := h2.tl; simpa [AV.tlL] using this

theorem open_args {n b0 : Nat} : ∀ {ts : List TypeId} {vs : List Value} {ds : List (DataW H)} {ps : List MemPlace}, (∀ t ∈ ts, plainB P n t = true) →
    (∀ (j : Nat) t v, ts[j]? = some t → vs[j]? = some v → Value.okWide P W .any b0 t v) → DataW.TrodAll enc P W 0 (fun _ => true) true ts vs ds ps → (∀ m ∈ DataW.weightsEach P ts ds, m ≤ reachBytes) →
    ∃ xs, TyAll P n ts xs ∧ RepL P (ctxOf W) W xs vs ∧ AV.rfL xs = true ∧ AV.tlL xs = true
  | [], [], [], _, _, _, _, _ => ⟨[], trivial, .nil, rfl, rfl⟩
  | [], [], _ :: _, _, _, _, h, _ => h.elim
  | [], _ :: _, _, _, _, _, h, _ => by cases ‹List (DataW H)› <;> exact h.elim
  | _ :: _, [], _, _, _, _, h, _ => by cases ‹List (DataW H)› <;> exact h.elim
  | _ :: _, _ :: _, [], _, _, _, h, _ => h.elim
  | t :: ts, v :: vs, d :: ds, ps, hp, hv, h, hwt => by
    obtain ⟨p, q, h1, h2, _⟩ := h
    obtain ⟨x, k1, k2, k3, k4⟩ := open_arg (hp t List.mem_cons_self) (hv 0 t v rfl rfl) h1 (fun m hm => hwt m (List.mem_append_left _ hm))
    obtain ⟨xs, g1, g2, g3, g4⟩ := open_args (fun t ht => hp t (List.mem_cons_of_mem _ ht)) (fun j t v ht hv' => hv (j + 1) t v (by simpa using ht) (by simpa using hv')) h2 (fun m hm => hwt m (List.mem_append_right _ hm))
    exact ⟨x :: xs, ⟨k1, g1⟩, .cons k2 (.none k4) g2, by simp only [AV.rfL, k3, g3, Bool.and_self], by simp only [AV.tlL, k4, g4, Bool.and_self]⟩

theorem trodAll_stays (hl : laidOutB P = true) {W' : World} (hb : Below W.heap.size W W') : ∀ {ts : List TypeId} {vs : List Value} {ds : List (DataW H)} {ps : List MemPlace}, (∀ t ∈ ts, P.readableRec t = true ∧ t < P.types.size) →
    DataW.TrodAll enc P W 0 (fun _ => true) true ts vs ds ps → (∀ x ∈ ps, x.block < W.heap.size) → DataW.TrodAll enc P W' 0 (fun b => decide (b < W.heap.size)) true ts vs ds ps
  | [], [], [], _, _, h, _ => h
  | [], [], _ :: _, _, _, h, _ => h.elim
  | [], _ :: _, _, _, _, h, _ => by cases ‹List (DataW H)› <;> exact h.elim
  | _ :: _, [], _, _, _, h, _ => by cases ‹List (DataW H)› <;> exact h.elim
  | _ :: _, _ :: _, [], _, _, h, _ => h.elim
  | t :: ts, v :: vs, d :: ds, ps, hp, h, hlt => by
    obtain ⟨p, q, h1, h2, rfl⟩ := h
    exact ⟨p, q, Below.trod hl (hp t List.mem_cons_self).1 (hp t List.mem_cons_self).2 h1 hb (fun x hx => hlt x (List.mem_append_left _ hx)),
      trodAll_stays hl hb (fun t ht => hp t (List.mem_cons_of_mem _ ht)) h2 (fun x hx => hlt x (List.mem_append_right _ hx)), rfl⟩

theorem good_wide : Good Fence.wide := ⟨fun _ => trivial, rfl⟩

theorem law_contract {f : FuncId} {fn : Func} {s : ChangeSpec} {n : Nat} {t : TypeId} (hl : laidOutB P = true) (hts : ∀ t ∈ fn.params.toList, plainB P n t = true ∧ P.readableRec t = true ∧ t < P.types.size)
    (hvars : s.vars = []) (hres : fn.resultTypes = #[t]) (ht : P.underlying t = some .bool)
    (hs : ∀ (H : Type) (ds : List (DataW H)), ds.length = fn.params.size → s.fn H ds = { results := [.lit (.bool true)], args := ds })
    (hsound : ∀ xs, TyAll P n fn.params.toList xs → Sound P f xs (.v (.bool true)))
    (base : Nat) (args : Array Value) (ds gs : List (DataW H)) (before : List MemPlace)
    (hval : ∀ (j : Nat) t v, fn.params[j]? = some t → args[j]? = some v → Value.okWide P W .any base t v)
    (hW : DataW.Whole enc P fn.params.toList s.vars false W args.toList ds gs before)
    (hsz : (DataW.weightsEach P (fn.params.toList ++ s.plain.varTypes P) (ds ++ gs)).all (· ≤ reachBytes) = true) :
    Calls P f args W fun e W' => ∃ v, e = .returned v ∧ s.post enc P fn false true false false W args v W' := by
  have hlt := hW.lt
  obtain ⟨p, q, hA, hV, hpq, hfz, hnd⟩ := hW
  rw [hvars] at hV
  obtain ⟨rfl, rfl⟩ := trodVars_none hV
  rw [List.append_nil] at hpq
  subst hpq
  have hwt : ∀ m ∈ DataW.weightsEach P fn.params.toList ds, m ≤ reachBytes := by
    have hvt : s.plain.varTypes P = [] := by simp [DataSpec.varTypes, ChangeSpec.plain, hvars]
    rw [hvt, List.append_nil, List.append_nil] at hsz
    intro m hm
    simpa using List.all_eq_true.1 hsz m hm
  obtain ⟨xs, k1, k2, k3, k4⟩ := open_args (n := n) (b0 := base) (fun t ht => (hts t ht).1) (fun j t v h1 h2 => hval j t v (by simpa using h1) (by simpa using h2)) hA hwt
  have hcall := (hsound xs k1).2 Fence.wide 0 (ctxOf W) W args.toList 1 good_wide rfl (by decide) (fun b h => h) k2
  rw [← callsIn_wide (n := 0)]
  rw [show args.toList.toArray = args by simp] at hcall
  refine CallsIn.mono hcall ?_
  rintro e W' ⟨u, c', rfl, hp, hr, _⟩
  have hu : u = .bool true := hr.v_inv
  subst hu
  have hlenD : ds.length = fn.params.size := by
    have : ∀ {ts : List TypeId} {vs : List Value} {ds : List (DataW H)} {ps : List MemPlace}, DataW.TrodAll enc P W 0 (fun _ => true) true ts vs ds ps → ds.length = ts.length := by
      intro ts
      induction ts with
      | nil => intro vs ds ps h; cases vs <;> cases ds <;> first | rfl | exact h.elim
      | cons t ts ih =>
        intro vs ds ps h
        cases vs <;> cases ds <;> first | exact h.elim | skip
        obtain ⟨p, q, _, h2, _⟩ := h
        simp [ih h2]
    simpa using this hA
  have hfn := hs H ds hlenD
  have hbel : Below W.heap.size W W' := ⟨hp.os, hp.tape, hp.output, hp.size, hp.block⟩
  refine ⟨_, rfl, ds, [], before, [], before, [], ⟨before, [], hA, by rw [hvars]; simp [DataW.TrodVars], by simp, hfz, hnd⟩, ?_, ?_, ?_, ?_, fun h => (by cases h)⟩
  · rw [List.append_nil, hfn, hres]
    simp only [Value.resultList]
    exact trodAll_mk1 (shut_bool ht true)
  · rw [List.append_nil, hfn]
    exact trodAll_stays hl hbel (fun t ht => (hts t ht).2) hA hlt
  · rw [List.append_nil, hfn, hvars]
    simp [DataW.TrodVars]
  · exact hbel.frame _

theorem ty_bytes {n : Nat} {t e : TypeId} {x : AV} (hu : P.underlying t = some (.slice e)) (he : P.underlying e = some (.int .u8)) (hc : P.cellsOf e = 1) (h : TyV P (n + 2) t x) :
    ∃ (o : Fl) (l : List UInt8), x = .lst o 1 (l.map fun b : UInt8 => AV.v (.int .u8 b.toNat)) ∧ l.length ≤ maxLen ∧ l.length * P.bytesOf e ≤ 140737488351232 := by
  have hs : isSt P t = false := by simp [isSt, hu]
  have hse : isSt P e = false := by simp [isSt, he]
  rcases h with ⟨h1, _⟩ | ⟨_, h⟩
  · rw [hs] at h1; cases h1
  · simp only [TyC, hu] at h
    obtain ⟨o, l, hl, hmax, _, _, hx⟩ := h
    simp only [List.cons.injEq, and_true] at hl
    subst hl
    rw [hc]
    have : ∀ l : List AV, (∀ x ∈ l, (isSt P e = true ∧ ∃ ys, x = .agg ys ∧ TyC P (n + 1) e ys) ∨ (isSt P e = false ∧ TyC P (n + 1) e [x])) → ∃ m : List UInt8, l = m.map fun b : UInt8 => AV.v (.int .u8 b.toNat) := by
      intro l
      induction l with
      | nil => exact fun _ => ⟨[], rfl⟩
      | cons y l ih =>
        intro hx
        obtain ⟨m, rfl⟩ := ih fun x hx' => hx x (List.mem_cons_of_mem _ hx')
        rcases hx y List.mem_cons_self with ⟨h1, _⟩ | ⟨_, h1⟩
        · rw [hse] at h1; cases h1
        · simp only [TyC, he] at h1
          obtain ⟨k, hk, h2, h3⟩ := h1
          simp only [List.cons.injEq, and_true] at hk
          subst hk
          simp [IntKind.min, IntKind.max, IntKind.signed, IntKind.bits] at h2 h3
          refine ⟨UInt8.ofNat k.toNat :: m, ?_⟩
          simp only [List.map_cons, List.cons.injEq, AV.v.injEq, Value.int.injEq, true_and, and_true]
          rw [UInt8.toNat_ofNat']; omega
    obtain ⟨m, rfl⟩ := this l hx
    exact ⟨o, m, rfl, by simpa using hmax.1, by simpa using hmax.2⟩
theorem ty_u8 {n : Nat} {t : TypeId} {x : AV} (hu : P.underlying t = some (.int .u8)) (h : TyV P (n + 1) t x) : ∃ b : UInt8, x = .v (.int .u8 b.toNat) := by
  rcases h with ⟨h1, _⟩ | ⟨_, h⟩
  · simp [isSt, hu] at h1
  · simp only [TyC, hu] at h
    obtain ⟨k, hk, h2, h3⟩ := h
    simp only [List.cons.injEq, and_true] at hk
    subst hk
    simp [IntKind.min, IntKind.max, IntKind.signed, IntKind.bits] at h2 h3
    exact ⟨UInt8.ofNat k.toNat, by rw [UInt8.toNat_ofNat']; congr 2; omega⟩
end
end Go.AM

set_option linter.unusedSimpArgs false
namespace Go.AM
open Go.RowKit

attribute [simp] evRunD ev1D noArr AV.flat AV.flatL

theorem bind_head {α β : Type} {x x' : Option α} {f : α → Option β} (h : x = x') : x.bind f = x'.bind f := by rw [h]

section
variable {P : Program} {top : Bool} {kf : Nat}
def keepS (ks : List Nat) (s : St) : St := ⟨s.n, keepF ks s.fr, s.h⟩
@[simp] theorem keepS_mk (ks : List Nat) (n : Nat) (fr : List (Nat × AV)) (h : List AObj) : keepS ks ⟨n, fr, h⟩ = ⟨n, keepF ks fr, h⟩ := rfl

theorem step5_mono {o : Oper} {s : St} {K K' : St → Prop} (hk : ∀ s, K s → K' s) (h : step5 P o s K) : step5 P o s K' := by
  rcases h with ⟨s', h1, h2⟩ | h | h | h | h
  · exact .inl ⟨s', h1, hk _ h2⟩
  · refine .inr (.inl ?_)
    unfold callA at *
    split
    · rename_i c ho
      rw [ho] at h
      dsimp only at h
      split
      · rename_i hc
        rw [hc] at h
        obtain ⟨a, b, c, d, e1, e2, e3, e4, e5⟩ := h
        exact ⟨a, b, c, d, e1, e2, e3, e4, hk _ e5⟩
      · rename_i hc; rw [hc] at h; exact h
    · rename_i hno; split at h <;> first | exact absurd (by assumption) (hno _) | exact h
  · refine .inr (.inr (.inl ?_))
    unfold callO at *
    split
    · rename_i c ho
      rw [ho] at h
      dsimp only at h
      split
      · rename_i hc
        rw [hc] at h
        obtain ⟨a, e1, e2, e3⟩ := h
        exact ⟨a, e1, e2, e3.mono fun _ _ ⟨s1, k1, k2⟩ => ⟨s1, k1, hk _ k2⟩⟩
      · rename_i hc; rw [hc] at h; exact h
    · rename_i hno; split at h <;> first | exact absurd (by assumption) (hno _) | exact h
  · exact .inr (.inr (.inr (.inl (callY_mono hk h))))
  · exact .inr (.inr (.inr (.inr (callB_mono hk h))))
theorem step5_stepA {ops : List Oper} {o : Oper} {s : St} {K : St → Prop} (hg : guardA ops s o = some true) (h : step5 P o s K) : stepA P ops o s K := by
  unfold stepA
  rw [hg]
  rcases h with h | h | h | h | h
  · exact .inl h
  · exact .inr (.inl h)
  · exact .inr (.inr (.inl h))
  · exact .inr (.inr (.inr (.inl h)))
  · exact .inr (.inr (.inr (.inr (.inl h))))
theorem stepA_mono {ops : List Oper} {o : Oper} {s : St} {K K' : St → Prop} (hk : ∀ s, K s → K' s) (h : stepA P ops o s K) : stepA P ops o s K' := by
  by_cases hg : guardA ops s o = some true
  · unfold stepA at h
    rw [hg] at h
    rcases h with h | h | h | h | h | h
    · exact step5_stepA hg (step5_mono hk (.inl h))
    · exact step5_stepA hg (step5_mono hk (.inr (.inl h)))
    · exact step5_stepA hg (step5_mono hk (.inr (.inr (.inl h))))
    · exact step5_stepA hg (step5_mono hk (.inr (.inr (.inr (.inl h)))))
    · exact step5_stepA hg (step5_mono hk (.inr (.inr (.inr (.inr h)))))
    · unfold stepA
      rw [hg]
      exact .inr (.inr (.inr (.inr (.inr (h.mono fun s1 ⟨h1, h2⟩ => ⟨h1, step5_mono hk h2⟩)))))
  · unfold stepA at *
    split
    · rename_i hg2; exact absurd hg2 hg
    · rename_i hg2; rw [hg2] at h; obtain ⟨s', h1, h2⟩ := h; exact ⟨s', h1, hk _ h2⟩
    · rename_i hg2; rw [hg2] at h; exact h
theorem runA_mono {ops : List Oper} : ∀ {l : List Oper} {s : St} {K K' : St → Prop}, (∀ s, K s → K' s) → runA P ops l s K → runA P ops l s K'
  | [], _, _, _, hk, h => hk _ h
  | _ :: _, _, _, _, hk, h => stepA_mono (fun _ h => runA_mono hk h) h
theorem stepD_mono {ops : List Oper} {o : Oper} {s : St} {K K' : St → Prop} (hk : ∀ s, K s → K' s) (h : stepD P ops o s K) : stepD P ops o s K' := by
  unfold stepD at *
  split
  · rename_i hg
    rw [hg] at h
    rcases h with ⟨s', h1, h2⟩ | ⟨h3, h⟩
    · exact .inl ⟨s', h1, hk _ h2⟩
    · refine .inr ⟨h3, ?_⟩
      unfold callD at *
      split
      · rename_i c ho
        rw [ho] at h
        dsimp only at h
        split
        · rename_i hc
          rw [hc] at h
          obtain ⟨a, b, c, e1, e2, e3, e4, e5, e6, e7⟩ := h
          exact ⟨a, b, c, e1, e2, e3, e4, e5, e6, hk _ e7⟩
        · rename_i hc; rw [hc] at h; exact h
      · rename_i hno; split at h <;> first | exact absurd (by assumption) (hno _) | exact h
  · rename_i hg; rw [hg] at h; obtain ⟨s', h1, h2⟩ := h; exact ⟨s', h1, hk _ h2⟩
  · rename_i hg; rw [hg] at h; exact h
theorem runD_mono {ops : List Oper} : ∀ {l : List Oper} {s : St} {K K' : St → Prop}, (∀ s, K s → K' s) → runD P ops l s K → runD P ops l s K'
  | [], _, _, _, hk, h => hk _ h
  | _ :: _, _, _, _, hk, h => stepD_mono (fun _ h => runD_mono hk h) h
theorem W_keepS {code : Code} {Q : Exit → St → Prop} {s : St} (ks : List Nat) (h : Wt top kf P code Q (keepS ks s)) : Wt top kf P code Q s := W_keep ks h

theorem W_dvK {id : Nat} {ops : Array Oper} {y : Code} {Q : Exit → St → Prop} {s s' : St} (ks : List Nat) (hm : P.follows .mixedOrders = true) (hd : drawB ops = true)
    (h : (evRunD P ops.toList ops.toList s).map (keepS ks) = some s') (hq : Wt top kf P y Q s') : Wt top kf P (.seq (.region id ops true) y) Q s := by
  obtain ⟨s1, h1, rfl⟩ := Option.map_eq_some_iff.1 h
  exact W_seq (W_dv hm hd h1 (W_keepS ks hq))
theorem W_dvE {id : Nat} {ops : Array Oper} {Q : Exit → St → Prop} {s s' : St} (ks : List Nat) (hm : P.follows .mixedOrders = true) (hd : drawB ops = true)
    (h : (evRunD P ops.toList ops.toList s).map (keepS ks) = some s') (hq : Q .normal s') : Wt top kf P (.region id ops true) Q s := by
  obtain ⟨s1, h1, rfl⟩ := Option.map_eq_some_iff.1 h
  exact W_forget ks (W_dv hm hd h1 hq)

theorem W_rK {id : Nat} {ops : Array Oper} {y : Code} {Q : Exit → St → Prop} {s : St} (ks : List Nat) (h : runA P ops.toList ops.toList s fun s' => Wt top kf P y Q (keepS ks s')) : Wt top kf P (.seq (.region id ops false) y) Q s :=
  W_seq (W_region (runA_mono (fun _ h => W_keepS ks h) h))
theorem W_rE {id : Nat} {ops : Array Oper} {Q : Exit → St → Prop} {s : St} (ks : List Nat) (h : runA P ops.toList ops.toList s fun s' => Q .normal (keepS ks s')) : Wt top kf P (.region id ops false) Q s :=
  W_forget ks (W_region h)
theorem W_rdK {id : Nat} {ops : Array Oper} {y : Code} {Q : Exit → St → Prop} {s : St} (ks : List Nat) (hm : P.follows .mixedOrders = true) (hd : drawB ops = true) (h : runD P ops.toList ops.toList s fun s' => Wt top kf P y Q (keepS ks s')) :
    Wt top kf P (.seq (.region id ops true) y) Q s :=
  W_seq (W_drawD hm hd (runD_mono (fun _ h => W_keepS ks h) h))
theorem W_rdE {id : Nat} {ops : Array Oper} {Q : Exit → St → Prop} {s : St} (ks : List Nat) (hm : P.follows .mixedOrders = true) (hd : drawB ops = true) (h : runD P ops.toList ops.toList s fun s' => Q .normal (keepS ks s')) :
    Wt top kf P (.region id ops true) Q s := W_forget ks (W_drawD hm hd h)

theorem runA_pre {ops l l2 : List Oper} {s s' : St} {K : St → Prop} (k : Nat) (h : evRun P ops (l.take k) s = some s') (hl : l.drop k = l2) (rest : runA P ops l2 s' K) : runA P ops l s K := by
  subst hl
  have := evRun_app h rest
  rwa [List.take_append_drop] at this
theorem runA_fin {ops l : List Oper} {s s' : St} {K : St → Prop} (h : evRun P ops l s = some s') (hk : K s') : runA P ops l s K := by
  have := runA_pre (P := P) (ops := ops) (l := l) (K := K) (l2 := []) l.length (by rw [List.take_length]; exact h) (by simp) hk
  exact this

def callArgs (P : Program) (s : St) (o : Oper) : Option (FuncId × List AV × List AObj) :=
  match o.op with
  | .call c => match calleeA s c.callee with
    | some (f, l1, l2) => if c.args.size ≤ c.argTypes.size then (prep P s (site o) l1 (c.args.toList.zip c.argTypes.toList) l2).map fun x => (f, x.1, x.2) else none
    | none => none
  | _ => none
theorem runA_call {ops l : List Oper} {o : Oper} {s s' : St} {K : St → Prop} {f : FuncId} {args : List AV} {h' : List AObj} {r : AV} (hg : guardA ops s o = some true) (hc : callArgs P s o = some (f, args, h')) (hS : Sound P f args r)
    (hput : (⟨s.n, s.fr, h'⟩ : St).put o.dst (r.norm (site o)) = some s') (rest : runA P ops l s' K) : runA P ops (o :: l) s K := by
  simp only [runA, stepA]
  rw [hg]
  refine .inr (.inl ?_)
  unfold callArgs at hc
  unfold callA
  split at hc
  · rename_i c ho
    split at hc
    · rename_i f' l1 l2 hcal
      split at hc
      · rename_i hsz
        obtain ⟨x, hx, he⟩ := Option.map_eq_some_iff.1 hc
        cases he
        rw [ho]
        dsimp only
        rw [hcal]
        unfold prep at hx
        obtain ⟨xs, hxs, hx⟩ := Option.bind_eq_some_iff.1 hx
        obtain ⟨⟨ys, h1⟩, hys, hx⟩ := Option.bind_eq_some_iff.1 hx
        dsimp only at hx
        split at hx
        · cases hx
          exact ⟨ys, _, r, s', by rw [hxs]; exact hys, hsz, hS.ofDp, hput, rest⟩
        · cases hx
      · cases hc
    · cases hc
  · cases hc

def callArgsO (P : Program) (s : St) (o : Oper) : Option (FuncId × List AV) :=
  match o.op with
  | .call c => match calleeA s c.callee with
    | some (f, l1, l2) => if c.args.size ≤ c.argTypes.size then (evOpts P s (c.args.toList.zip c.argTypes.toList)).map fun xs => (f, l1 ++ xs ++ l2) else none
    | none => none
  | _ => none
theorem runA_obj {ops l : List Oper} {o : Oper} {s : St} {K : St → Prop} {f : FuncId} {args : List AV} (hg : guardA ops s o = some true) (hc : callArgsO P s o = some (f, args))
    (hS : CallW P f args s.h fun r h' => ∃ s', (⟨s.n, killSF (AV.toksL args ++ toksH s.h) s.fr, h'⟩ : St).put o.dst r = some s' ∧ runA P ops l s' K) : runA P ops (o :: l) s K := by
  simp only [runA, stepA]
  rw [hg]
  refine .inr (.inr (.inl ?_))
  unfold callArgsO at hc
  unfold callO
  split at hc
  · rename_i c ho
    split at hc
    · rename_i f' l1 l2 hcal
      split at hc
      · rename_i hsz
        obtain ⟨x, hx, he⟩ := Option.map_eq_some_iff.1 hc
        cases he
        rw [ho]
        dsimp only
        rw [hcal]
        exact ⟨_, hx, hsz, hS⟩
      · cases hc
    · cases hc
  · cases hc

theorem runA_b {ops l : List Oper} {o : Oper} {s : St} {K : St → Prop} (hg : guardA ops s o = some true) (h : callB P o s fun s' => runA P ops l s' K) : runA P ops (o :: l) s K := by
  simp only [runA, stepA]
  rw [hg]
  exact .inr (.inr (.inr (.inr (.inl h))))

theorem runA_y {ops l : List Oper} {o : Oper} {s : St} {K : St → Prop} (hg : guardA ops s o = some true) (h : callY P o s fun s' => runA P ops l s' K) : runA P ops (o :: l) s K := by
  simp only [runA, stepA]
  rw [hg]
  exact .inr (.inr (.inr (.inl h)))

theorem runA_skip {ops l : List Oper} {o : Oper} {s s' : St} {K : St → Prop} (hg : guardA ops s o = some false) (hput : s.put o.dst (.v undef) = some s') (rest : runA P ops l s' K) : runA P ops (o :: l) s K := by
  simp only [runA, stepA]; rw [hg]; exact ⟨s', hput, rest⟩

theorem runD_pre {ops l l2 : List Oper} {s s' : St} {K : St → Prop} (k : Nat) (h : evRunD P ops (l.take k) s = some s') (hl : l.drop k = l2) (rest : runD P ops l2 s' K) : runD P ops l s K := by
  subst hl
  have := evRunD_runD h rest
  rwa [List.take_append_drop] at this
theorem runD_fin {ops l : List Oper} {s s' : St} {K : St → Prop} (h : evRunD P ops l s = some s') (hk : K s') : runD P ops l s K := by
  have := runD_pre (P := P) (ops := ops) (l := l) (K := K) (l2 := []) l.length (by rw [List.take_length]; exact h) (by simp) hk
  exact this
def callArgsD (P : Program) (s : St) (o : Oper) : Option (FuncId × List AV) :=
  match o.op with
  | .call c => match c.callee with
    | .value _ => match calleeA s c.callee with
      | some (f, l1, l2) => if c.args.size ≤ c.argTypes.size then (evOpts P s (c.args.toList.zip c.argTypes.toList)).bind fun xs => if AV.flatL xs && AV.rfL (AV.dpL (l1 ++ xs ++ l2)) then some (f, AV.dpL (l1 ++ xs ++ l2)) else none else none
      | none => none
    | _ => none
  | _ => none
theorem runD_call {ops l : List Oper} {o : Oper} {s s' : St} {K : St → Prop} {f : FuncId} {args : List AV} {r : AV} (hg : guardA ops s o = some true) (hc : callArgsD P s o = some (f, args)) (hS : Sound P f args r)
    (hput : s.put o.dst (r.norm (site o)) = some s') (rest : runD P ops l s' K) : runD P ops (o :: l) s K := by
  simp only [runD, stepD]
  rw [hg]
  unfold callArgsD at hc
  split at hc
  · rename_i c ho
    split at hc
    · rename_i fo hfo
      split at hc
      · rename_i f' l1 l2 hcal
        split at hc
        · rename_i hsz
          obtain ⟨xs, hxs, hc⟩ := Option.bind_eq_some_iff.1 hc
          split at hc
          · rename_i hfl
            cases hc
            simp only [Bool.and_eq_true] at hfl
            refine .inr ⟨by simp [dcls, ho, hfo], ?_⟩
            unfold callD
            rw [ho]
            dsimp only
            rw [hcal]
            exact ⟨xs, r, s', hxs, hfl.1, hfl.2, hsz, hS.ofDp, hput, rest⟩
          · cases hc
        · cases hc
      · cases hc
    · cases hc
  · cases hc
theorem runD_skip {ops l : List Oper} {o : Oper} {s s' : St} {K : St → Prop} (hg : guardA ops s o = some false) (hput : s.put o.dst (.v undef) = some s') (rest : runD P ops l s' K) : runD P ops (o :: l) s K := by
  simp only [runD, stepD]; rw [hg]; exact ⟨s', hput, rest⟩

theorem W_cut {x y : Code} {Q : Exit → St → Prop} {s : St} (R : St → Prop) (h1 : Wt top kf P x (onNormal R Q) s) (h2 : ∀ s, R s → Wt top kf P y Q s) : Wt top kf P (.seq x y) Q s :=
  W_seq (h1.mono fun e s => by cases e <;> first | exact h2 s | exact id)

theorem retW_mk {s : St} {rs : List ResultVar} {k : Nat} {Q : AV → List AObj → Prop} {x : AV} (hx : resA P s rs = some x) (hk : k ≤ s.h.length) (hu : x.under s.h.length = true ∧ underH s.h.length s.h = true) (hq : Q x s.h) : retW P rs k Q .ret s :=
  ⟨.inr rfl, x, x, s.h, s.h.length, hx, .inl ⟨rfl, rfl⟩, hk, Nat.le_refl _, hu.1, by rw [List.take_length]; exact hu.2, by rw [List.take_length]; exact hq⟩

theorem retW_cut {s : St} {rs : List ResultVar} {k : Nat} {Q : AV → List AObj → Prop} {x : AV} (m : Nat) (hx : resA P s rs = some x) (hk : k ≤ m) (hm : m ≤ s.h.length) (hu : x.under m = true ∧ underH m (s.h.take m) = true) (hq : Q x (s.h.take m)) : retW P rs k Q .ret s :=
  ⟨.inr rfl, x, x, s.h, m, hx, .inl ⟨rfl, rfl⟩, hk, hm, hu.1, hu.2, hq⟩
theorem Sound.dp {f : FuncId} {xs : List AV} {r : AV} (h : Sound P f (AV.dpL xs) r) : Sound P f xs r :=
  ⟨h.1, fun F n c w vals T h1 h2 h3 h4 h5 => h.2 F n c w vals T h1 h2 h3 h4 h5.dpL⟩
theorem Sound.weak {f : FuncId} {xs : List AV} {r : AV} (h : Sound P f (AV.weakL xs) r) : Sound P f xs r :=
  ⟨h.1, fun F n c w vals T h1 h2 h3 h4 h5 => h.2 F n c w vals T h1 h2 h3 h4 h5.weakL⟩
attribute [simp] callArgs callArgsO callArgsD prep
@[simp] theorem underL_byL (m : Nat) (l : List UInt8) : AV.underL m (byL l) = true := by induction l <;> simp_all [byL, AV.underL, AV.under]
@[simp] theorem rfL_byL (l : List UInt8) : AV.rfL (byL l) = true := by induction l <;> simp_all [byL, AV.rfL, AV.rf]
@[simp] theorem tlL_byL (l : List UInt8) : AV.tlL (byL l) = true := by induction l <;> simp_all [byL, AV.tlL, AV.tl]
@[simp] theorem koneL_byL (l : List UInt8) : AV.koneL (byL l) = true := by induction l <;> simp_all [byL, AV.koneL, AV.kone]
@[simp] theorem toksL_byL (l : List UInt8) : AV.toksL (byL l) = [] := by induction l <;> simp_all [byL, AV.toksL, AV.toks]
@[simp] theorem killSL_byL (T : List Nat) (l : List UInt8) : AV.killSL T (byL l) = byL l := killSL_tl _ (tlL_byL l)
@[simp] theorem killL_byL (T : Nat) (l : List UInt8) : AV.killL T (byL l) = byL l := killL_tl _ (tlL_byL l)
@[simp] theorem dpL_byL (l : List UInt8) : AV.dpL (byL l) = byL l := by induction l <;> simp_all [byL, AV.dpL, AV.dp]
@[simp] theorem weakL_byL (l : List UInt8) : AV.weakL (byL l) = byL l := by induction l <;> simp_all [byL, AV.weakL, AV.weak]
@[simp] theorem normL_byL (T : Nat) (l : List UInt8) : AV.normL T (byL l) = byL l := by induction l <;> simp_all [byL, AV.normL, AV.norm]
@[simp] theorem catK_byL (l : List UInt8) : catK 1 (byL l) = some (byL l) := by induction l <;> simp_all [byL, catK, AV.cellsK, AV.kone]
@[simp] theorem chunk_byL (n : Nat) (l : List UInt8) (h : n ≤ l.length) : chunk false 1 n (byL l) = byL (l.take n) := by
  induction n generalizing l with
  | zero => simp [chunk]
  | succ n ih =>
    cases l with
    | nil => simp at h
    | cons b l => simp only [chunk, byL_cons, List.headD_cons, List.drop_succ_cons, List.drop_zero, List.take_succ_cons, Bool.false_eq_true, if_false]; rw [ih l (by simpa using h)]
theorem setSeg_byL (l : List UInt8) (n : Nat) (b : UInt8) (h : n < l.length) : setSeg (byL l) n [.v (.int .u8 b.toNat)] = byL (l.set n b) := by
  simp only [setSeg, List.length_singleton]
  rw [← byL_take, ← byL_drop, show [AV.v (.int .u8 b.toNat)] = byL [b] from rfl, ← byL_append, ← byL_append]
  congr 1
  apply List.ext_getElem?
  intro i
  by_cases h1 : i < n
  · rw [List.append_assoc, List.getElem?_append_left (by simp; omega), List.getElem?_take, if_pos h1, List.getElem?_set_ne (by omega)]
  · by_cases h2 : i = n
    · subst h2
      rw [List.append_assoc, List.getElem?_append_right (by simp; omega)]
      simp [h, Nat.min_eq_left (Nat.le_of_lt h)]
    · rw [List.getElem?_append_right (by simp; omega), List.getElem?_set_ne (by omega), List.getElem?_drop]
      congr 1
      simp; omega

theorem on_ret {K : St → Prop} {Q : Exit → St → Prop} {s : St} (h : Q .ret s) : onNormal K Q .ret s := h
theorem in_ret {id : Nat} {Q : Exit → St → Prop} {s : St} (h : Q .ret s) : inBlk id Q .ret s := h
end
end Go.AM

namespace Go.AM
open Go.RowKit
variable {P : Program}
mutual

def AV.plain : AV → AV
  | .lst _ s xs => .lst .any s xs
  | .agg xs => .agg (AV.plainL xs)
  | .tup xs => .tup (AV.plainL xs)
  | x => x
def AV.plainL : List AV → List AV
  | [] => []
  | x :: xs => AV.plain x :: AV.plainL xs
end
theorem plainL_get (xs : List AV) (j : Nat) : (AV.plainL xs)[j]? = (xs[j]?).map AV.plain := by
  induction xs generalizing j with
  | nil => simp [AV.plainL]
  | cons x xs ih => cases j <;> simp [AV.plainL, ih]
theorem plainL_length (xs : List AV) : (AV.plainL xs).length = xs.length := by
  induction xs <;> simp_all [AV.plainL]
theorem Rep.plain {c : Ctx} {w : World} {x : AV} {u : Value} (h : Rep c w x u) : Rep c w x.plain u := by
  induction h with
  | lst u hn hcap hmax hs hsz hrf hz hnil hc hr _ => exact .lst u hn hcap hmax hs hsz hrf hz trivial hc hr
  | agg h _ ih =>
    refine .agg (by rw [plainL_length]; exact h) fun j y hj => ?_
    rw [plainL_get] at hj
    obtain ⟨x, hx, rfl⟩ := Option.map_eq_some_iff.1 hj
    exact ih j x hx
  | tup h _ ih =>
    refine .tup (by rw [plainL_length]; exact h) fun j y hj => ?_
    rw [plainL_get] at hj
    obtain ⟨x, hx, rfl⟩ := Option.map_eq_some_iff.1 hj
    exact ih j x hx
  | any u => exact .any u
  | v x => exact .v x
  | ro u hrf hc hr => exact .ro u hrf hc hr
  | loc h => exact .loc h
  | arr h h1 h2 => exact .arr h h1 h2
  | fn h1 h2 r1 r2 => exact .fn h1 h2 r1 r2
  | mp h => exact .mp h
  | yld h => exact .yld h
mutual
theorem tl_plain : (x : AV) → x.plain.tl = true
  | .lst _ _ _ => rfl
  | .agg xs => tl_plainL xs
  | .tup xs => tl_plainL xs
  | .any => rfl
  | .v _ => rfl
  | .ro _ => rfl
  | .loc _ _ => rfl
  | .arr _ _ _ _ => rfl
  | .fn _ _ _ => rfl
  | .mp _ => rfl
  | .yld _ => rfl
theorem tl_plainL : (xs : List AV) → AV.tlL (AV.plainL xs) = true
  | [] => rfl
  | x :: xs => by simp only [AV.plainL, AV.tlL, tl_plain x, tl_plainL xs, Bool.and_self]
end
mutual
theorem plain_norm (T : Nat) : (x : AV) → (x.norm T).plain = x.plain
  | .lst (.tip _ _) _ _ => rfl
  | .lst .any _ _ => rfl
  | .lst .nil _ _ => rfl
  | .lst .ex _ _ => rfl
  | .agg xs => by simp only [AV.norm, AV.plain, plain_normL T xs]
  | .tup xs => by simp only [AV.norm, AV.plain, plain_normL T xs]
  | .any => rfl
  | .v _ => rfl
  | .ro _ => rfl
  | .loc _ _ => rfl
  | .arr _ _ _ _ => rfl
  | .fn _ _ _ => rfl
  | .mp _ => rfl
  | .yld _ => rfl
theorem plain_normL (T : Nat) : (xs : List AV) → AV.plainL (AV.normL T xs) = AV.plainL xs
  | [] => rfl
  | x :: xs => by simp only [AV.normL, AV.plainL, plain_norm T x, plain_normL T xs]
end
theorem Sound.weakR {f : FuncId} {xs : List AV} {r : AV} (h : Sound P f xs r) : Sound P f xs r.plain :=
  ⟨h.1, fun F n c w vals T h1 h2 h3 h4 h5 => (h.2 F n c w vals T h1 h2 h3 h4 h5).mono fun e w' hh => by
    obtain ⟨u, c', he, hx, hr, ho⟩ := hh
    have hr' := hr.plain
    rw [plain_norm] at hr'
    exact ⟨u, c', he, hx, hr'.norm h3, .none (norm_tl T _ (tl_plain r))⟩⟩

attribute [simp] AV.plain AV.plainL

def flds (P : Program) (t : TypeId) : Option (List (TypeId × Nat × Nat)) :=
  match P.underlying t with
  | some (.struct fs) => some (fs.toList.map fun f => (f.type, f.offset, P.cellsOf f.type))
  | _ => none
theorem ty_struct {n m : Nat} {t : TypeId} {x : AV} {l : List (TypeId × Nat × Nat)} (hf : flds P t = some l) (hc : P.cellsOf t = m) (h : TyV P (n + 1) t x) :
    ∃ ys, x = .agg ys ∧ ys.length = m ∧ ∀ p ∈ l, TyC P n p.1 ((ys.drop p.2.1).take p.2.2) := by
  unfold flds at hf
  split at hf
  · rename_i fs hu
    cases hf
    have hs : isSt P t = true := by simp [isSt, hu]
    rcases h with ⟨_, ys, rfl, h⟩ | ⟨h1, _⟩
    · simp only [TyC, hu] at h
      refine ⟨ys, rfl, by rw [h.1, hc], fun p hp => ?_⟩
      obtain ⟨f, hf, rfl⟩ := List.mem_map.1 hp
      exact h.2 f hf
    · rw [hs] at h1; cases h1
  · cases hf
theorem ty_fld {n : Nat} {t : TypeId} {x : AV} (hs : isSt P t = false) (h : TyC P n t [x]) : TyV P n t x := .inr ⟨hs, h⟩
theorem ty_bool {n : Nat} {t : TypeId} {x : AV} (hu : P.underlying t = some .bool) (h : TyV P (n + 1) t x) : ∃ b : Bool, x = .v (.bool b) := by
  rcases h with ⟨h1, _⟩ | ⟨_, h⟩
  · simp [isSt, hu] at h1
  · simp only [TyC, hu] at h
    obtain ⟨k, hk⟩ := h
    simp only [List.cons.injEq, and_true] at hk
    exact ⟨k, hk⟩
theorem ty_int {n : Nat} {t : TypeId} {x : AV} {k : IntKind} (hu : P.underlying t = some (.int k)) (h : TyV P (n + 1) t x) : ∃ m : Int, x = .v (.int k m) ∧ k.min ≤ m ∧ m ≤ k.max := by
  rcases h with ⟨h1, _⟩ | ⟨_, h⟩
  · simp [isSt, hu] at h1
  · simp only [TyC, hu] at h
    obtain ⟨m, hk, h2⟩ := h
    simp only [List.cons.injEq, and_true] at hk
    exact ⟨m, hk, h2⟩

def retN (P : Program) (rs : List ResultVar) (r : AV) (e : Exit) (s : St) : Prop := ∃ r0, retQ P rs r0 e s ∧ ((∀ T, r0.norm T = r.norm T) ∨ r0.plain = r)

theorem sound_of_N {f : FuncId} {fn : Func} {code : Code} {args : List AV} {r : AV} (hf : P.funcs[f]? = some fn) (hb : fn.body = some code) (hn : (fn.name == "runtime.NumGoroutine") = false)
    (hlen : args.length ≤ fn.ntmps) (hrf : AV.rfL args = true) (htl : AV.tlL args = true) {rs : List ResultVar} (hrs : fn.results.toList = rs) (h : W P code (retN P rs r) ⟨fn.ntmps, numF 0 args, []⟩) : Sound P f args r := by
  subst hrs
  refine ⟨⟨fn, hf, hn, by rw [hb]; rfl⟩, ?_⟩
  intro F n c w vals T hF hro hT hbase hargs
  let c0 : Ctx := { c with base := fun b => w.heap.size ≤ b, no := 0 }
  have hargs0 : RepL P c0 w args vals := RepL.enter (c := c) (c' := c0) rfl hargs hrf htl
  have hl : args.length = vals.length := hargs.length
  refine callsIn_of_wp_marks hf hb (hF.1 f) ?_ hro
  have hs0 : SimSt P c0 w ⟨fn.ntmps, numF 0 args, []⟩ { tmps := vals.toArray ++ Array.replicate (fn.ntmps - vals.toArray.size) undef, defers := [] } := by
    refine ⟨by simp; omega, fun _ h => h, ?_, ⟨rfl, fun i hi => absurd hi (Nat.not_lt_zero _), fun i j hi => absurd hi (Nat.not_lt_zero _), by simp⟩, ⟨[], rfl, .nil, by simp⟩⟩
    intro i x hx
    obtain ⟨h1, h2⟩ := numF_get args 0 i x hx
    obtain ⟨u, hu, hr, ho⟩ := hargs0.get (by simpa using h2)
    have hi : i < vals.length := (List.getElem?_eq_some_iff.1 hu).1
    exact ⟨u, by rw [Array.getElem?_append_left (by simpa using hi)]; simpa using hu, hr, ho⟩
  refine wpIn_mono (h F n c0 w _ (hF.top hro (Nat.zero_le _) true) hs0) ?_
  rintro e a' w' ⟨s', c', ⟨r0, ⟨he, x, h', hres, hfr, hrr⟩, hnorm⟩, hs', hext⟩
  have key : LeavesInM F n P fn a'.tmps (fun e w' => ∃ u c', e = .returned u ∧ PExt c w c' w' ∧ Rep c' w' (r.norm T) u ∧ Own P (c'.rebase fun b => w.heap.size ≤ b) w' (r.norm T) u) a'.defers .returning w' := by
    obtain ⟨rs, hd, hnd, hrs⟩ := hs'.dfr
    obtain ⟨w2, hsh, hleave⟩ := shutAll (F := F) (n := n) (fn := fn) (tmps := a'.tmps) (R := fun e w' => ∃ u c', e = .returned u ∧ PExt c w c' w' ∧ Rep c' w' (r.norm T) u ∧ Own P (c'.rebase fun b => w.heap.size ≤ b) w' (r.norm T) u) rs w' hnd hrs
    rw [hd]
    refine hleave ?_
    have hs2 := hs'.recell hsh
    obtain ⟨v, hrun, hrep, hown⟩ := resA_sound hs2 hres
    obtain ⟨c3, e3, k3, s3, r3, o3⟩ := frzV_sound (by decide) x s' c' r0 h' v hs2 hfr hrep hown
    have hb' : c'.base = (fun b => w.heap.size ≤ b) := hext.base
    have hb3 : c3.base = (fun b => w.heap.size ≤ b) := by rw [e3.base, hb']
    let cF : Ctx := { c with pm := c3.pm, ow := fun b => if b < w.heap.size then c.ow b else T }
    refine ⟨v, hrun, v, cF, rfl, ⟨rfl, rfl, rfl, by rw [hsh.os]; exact hext.os, by rw [hsh.tape]; exact hext.tape, by rw [hsh.output]; exact hext.output, by rw [hsh.size]; exact hext.size, ?_, ?_, ?_⟩, ?_, ?_⟩
    · intro b hlt
      rw [hsh.below b (by rw [hb']; simpa using hlt)]
      exact hext.below b (by simpa [c0] using hlt)
    · intro b hlt
      have h1 : c3.pm b = c'.pm b := e3.pmb b (by rw [hb']; simpa using hlt)
      have h2 : c'.pm b = c.pm b := hext.pmb b (by simpa [c0] using hlt)
      exact h1.trans h2
    · intro b hlt
      simp only [cF, if_pos hlt]
    · rcases hnorm with hnorm | rfl
      · rw [← hnorm T]
        exact (Rep.recast (c := c3) (c' := cF) (fun a ha => ha) r3 hrr).norm hT
      · exact (Rep.recast (c := c3) (c' := cF) (fun a ha => ha) r3 hrr).plain.norm hT
    · rcases hnorm with hnorm | rfl
      rotate_left
      · exact .none (norm_tl T _ (tl_plain r0))
      rw [← hnorm T]
      refine Own.recast (c := c3) (c' := cF.rebase fun b => w.heap.size ≤ b) hT ?_ rfl ?_ o3
      · rw [hb3]; exact fun _ h => h
      · intro g hg
        rw [hb3] at hg
        simp only [cF, Ctx.rebase, if_neg (show ¬ g < w.heap.size by omega)]
  rcases he with rfl | rfl
  · exact key
  · exact key

def inL (l : List Int) : List AV := l.map fun b => .v (.int .i64 b)
@[simp] theorem inL_length (l : List Int) : (inL l).length = l.length := by simp [inL]
@[simp] theorem inL_nil : inL [] = [] := rfl
theorem inL_cons (b : Int) (l : List Int) : inL (b :: l) = .v (.int .i64 b) :: inL l := rfl
theorem inL_append (l m : List Int) : inL (l ++ m) = inL l ++ inL m := by simp [inL]
@[simp] theorem inL_getElem (l : List Int) (i : Nat) (h : i < (inL l).length) : (inL l)[i] = .v (.int .i64 (l[i]'(by simpa using h))) := by simp [inL]
theorem inL_take (l : List Int) (n : Nat) : inL (l.take n) = (inL l).take n := by simp [inL]
theorem inL_drop (l : List Int) (n : Nat) : inL (l.drop n) = (inL l).drop n := by simp [inL]
theorem inL_set (l : List Int) (n : Nat) (b : Int) : inL (l.set n b) = (inL l).set n (.v (.int .i64 b)) := by simp [inL]
theorem inL_get (l : List Int) (i : Nat) : (inL l)[i]? = (l[i]?).map fun b => .v (.int .i64 b) := by simp [inL]
@[simp] theorem underL_inL (m : Nat) (l : List Int) : AV.underL m (inL l) = true := by induction l <;> simp_all [inL, AV.underL, AV.under]
@[simp] theorem rfL_inL (l : List Int) : AV.rfL (inL l) = true := by induction l <;> simp_all [inL, AV.rfL, AV.rf]
@[simp] theorem tlL_inL (l : List Int) : AV.tlL (inL l) = true := by induction l <;> simp_all [inL, AV.tlL, AV.tl]
@[simp] theorem koneL_inL (l : List Int) : AV.koneL (inL l) = true := by induction l <;> simp_all [inL, AV.koneL, AV.kone]
@[simp] theorem toksL_inL (l : List Int) : AV.toksL (inL l) = [] := by induction l <;> simp_all [inL, AV.toksL, AV.toks]
@[simp] theorem killSL_inL (T : List Nat) (l : List Int) : AV.killSL T (inL l) = inL l := killSL_tl _ (tlL_inL l)
@[simp] theorem killL_inL (T : Nat) (l : List Int) : AV.killL T (inL l) = inL l := killL_tl _ (tlL_inL l)
@[simp] theorem dpL_inL (l : List Int) : AV.dpL (inL l) = inL l := by induction l <;> simp_all [inL, AV.dpL, AV.dp]
@[simp] theorem weakL_inL (l : List Int) : AV.weakL (inL l) = inL l := by induction l <;> simp_all [inL, AV.weakL, AV.weak]
@[simp] theorem normL_inL (T : Nat) (l : List Int) : AV.normL T (inL l) = inL l := by induction l <;> simp_all [inL, AV.normL, AV.norm]
@[simp] theorem catK_inL (l : List Int) : catK 1 (inL l) = some (inL l) := by induction l <;> simp_all [inL, catK, AV.cellsK, AV.kone]
@[simp] theorem chunk_inL (n : Nat) (l : List Int) (h : n ≤ l.length) : chunk false 1 n (inL l) = inL (l.take n) := by
  induction n generalizing l with
  | zero => simp [chunk]
  | succ n ih =>
    cases l with
    | nil => simp at h
    | cons b l => simp only [chunk, inL_cons, List.headD_cons, List.drop_succ_cons, List.drop_zero, List.take_succ_cons, Bool.false_eq_true, if_false]; rw [ih l (by simpa using h)]
theorem setSeg_inL (l : List Int) (n : Nat) (b : Int) (h : n < l.length) : setSeg (inL l) n [.v (.int .i64 b)] = inL (l.set n b) := by
  simp only [setSeg, List.length_singleton]
  rw [← inL_take, ← inL_drop, show [AV.v (.int .i64 b)] = inL [b] from rfl, ← inL_append, ← inL_append]
  congr 1
  apply List.ext_getElem?
  intro i
  by_cases h1 : i < n
  · rw [List.append_assoc, List.getElem?_append_left (by simp; omega), List.getElem?_take, if_pos h1, List.getElem?_set_ne (by omega)]
  · by_cases h2 : i = n
    · subst h2
      rw [List.append_assoc, List.getElem?_append_right (by simp; omega)]
      simp [h, Nat.min_eq_left (Nat.le_of_lt h)]
    · rw [List.getElem?_append_right (by simp; omega), List.getElem?_set_ne (by omega), List.getElem?_drop]
      congr 1
      simp; omega

end Go.AM

set_option linter.unusedSimpArgs false
namespace Go.AM
open Go.RowKit
variable {P : Program}

namespace AV
mutual
theorem under_le {m n : Nat} (h : m ≤ n) : (x : AV) → x.under m = true → x.under n = true
  | .loc _ _, k => by simp only [AV.under, decide_eq_true_eq] at k ⊢; omega
  | .arr _ _ _ _, k => by simp only [AV.under, decide_eq_true_eq] at k ⊢; omega
  | .mp _, k => by simp only [AV.under, decide_eq_true_eq] at k ⊢; omega
  | .yld _, k => by simp only [AV.under, decide_eq_true_eq] at k ⊢; omega
  | .fn _ a b, k => by simp only [AV.under, Bool.and_eq_true] at k ⊢; exact ⟨underL_le h a k.1, underL_le h b k.2⟩
  | .agg xs, k => underL_le h xs k
  | .tup xs, k => underL_le h xs k
  | .any, _ => rfl
  | .v _, _ => rfl
  | .lst _ _ _, _ => rfl
  | .ro _, _ => rfl
theorem underL_le {m n : Nat} (h : m ≤ n) : (xs : List AV) → AV.underL m xs = true → AV.underL n xs = true
  | [], _ => rfl
  | x :: xs, k => by
    simp only [AV.underL, Bool.and_eq_true] at k ⊢
    exact ⟨under_le h x k.1, underL_le h xs k.2⟩
end
end AV
theorem entriesUnder_le {m n : Nat} (h : m ≤ n) : (xs : List (Value × AV)) → entriesUnder m xs = true → entriesUnder n xs = true
  | [], _ => rfl
  | (_, x) :: xs, k => by
    simp only [entriesUnder, Bool.and_eq_true] at k ⊢
    exact ⟨AV.under_le h x k.1, entriesUnder_le h xs k.2⟩
theorem frUnder_le {m n : Nat} (h : m ≤ n) : (xs : List (Nat × AV)) → frUnder m xs = true → frUnder n xs = true
  | [], _ => rfl
  | (_, x) :: xs, k => by
    simp only [frUnder, Bool.and_eq_true] at k ⊢
    exact ⟨AV.under_le h x k.1, frUnder_le h xs k.2⟩
theorem AObj.under_le {m n : Nat} (h : m ≤ n) (o : AObj) (k : o.under m = true) : o.under n = true := by
  cases o with
  | cells _ cs => exact AV.underL_le h cs k
  | froz _ cs => exact AV.underL_le h cs k
  | map es => exact entriesUnder_le h es k
  | loop _ fr _ _ _ _ => exact frUnder_le h fr k
  | dead => rfl
theorem underH_le {m n : Nat} (h : m ≤ n) : (xs : List AObj) → underH m xs = true → underH n xs = true
  | [], _ => rfl
  | x :: xs, k => by
    simp only [underH, Bool.and_eq_true] at k ⊢
    exact ⟨AObj.under_le h x k.1, underH_le h xs k.2⟩
theorem underH_append (m : Nat) (a b : List AObj) : underH m (a ++ b) = (underH m a && underH m b) := by
  induction a with
  | nil => simp [underH]
  | cons x a ih => simp [underH, ih, Bool.and_assoc]

abbrev Shut1 (h : List AObj) : Prop := underH h.length h = true
theorem shut_push {h : List AObj} {o : AObj} (hh : Shut1 h) (ho : o.under (h.length + 1) = true) : underH (h.length + 1) (h ++ [o]) = true := by
  rw [underH_append]
  simp only [underH, Bool.and_true, Bool.and_eq_true]
  exact ⟨underH_le (Nat.le_succ _) h hh, ho⟩

theorem runA_zeros {ops l : List Oper} {o : Oper} {s : St} {K : St → Prop} {cl : Call} {xo yo : Operand} {t t' e sz by_ n s0 : Nat} {ag : Bool} {z : AV} {k kn : IntKind} {x0 : List AV} (hg : guardA ops s o = some true)
    (ho : o.op = .call cl) (hc : cl.callee = .builtin .append) (ha : cl.args.toList = [xo, yo]) (hty : cl.argTypes.toList = [t, t']) (h1 : s.evT P t xo = some (.lst .nil s0 x0)) (h2 : s.ev yo = some (.v (.int k (n : Nat))))
    (hsl : slI P t = some (e, ag, sz)) (htn : P.underlying t' = some (.int kn)) (hap : apI P e = some (sz, by_)) (hz : zA P e = some z) (hside : z.cells.length = sz ∧ 0 < sz ∧ 0 < by_) (hn : 0 < n) (hb : n * by_ ≤ 140737488355328)
    (rest : ∀ cap', n ≤ cap' → cap' ≤ maxLen → ∃ s', ({ s with h := s.h ++ [.cells e (repC cap' z.cells)] } : St).put o.dst (.arr s.h.length 0 n cap') = some s' ∧ runA P ops l s' K) : runA P ops (o :: l) s K := by
  refine runA_b hg ?_
  unfold callB
  rw [ho]
  dsimp only
  rw [hc, ha, hty]
  exact .inr (.inl ⟨e, ag, sz, by_, z, kn, k, n, s0, x0, h1, hsl, htn, hap, hz, hside.1, hside.2.1, hside.2.2, h2, hn, hb, rest⟩)

theorem runA_nil {ops l : List Oper} {o : Oper} {s : St} {K : St → Prop} {cl : Call} {xo yo : Operand} {t e sz by_ s0 : Nat} {ag : Bool} {z : AV} {oy : Fl} {x0 ys yc : List AV} (hg : guardA ops s o = some true)
    (ho : o.op = .call cl) (hc : cl.callee = .builtin .append) (ha : cl.args.toList = [xo, yo]) (hty : cl.argTypes.toList = [t, t]) (h1 : s.evT P t xo = some (.lst .nil s0 x0)) (h2 : s.evT P t yo = some (.lst oy sz ys))
    (hsl : slI P t = some (e, ag, sz)) (hap : apI P e = some (sz, by_)) (hz : zA P e = some z) (hside : z.cells.length = sz ∧ 0 < sz ∧ 0 < by_) (hcat : catK sz ys = some yc) (hne : ys ≠ [])
    (hb : ys.length * by_ ≤ 140737488355328)
    (rest : ∀ cap', ys.length ≤ cap' → cap' ≤ maxLen → ∃ s', ({ s with h := s.h ++ [.cells e (AV.weakL yc ++ repC (cap' - ys.length) z.cells)] } : St).put o.dst (.arr s.h.length 0 ys.length cap') = some s' ∧ runA P ops l s' K) : runA P ops (o :: l) s K := by
  refine runA_b hg ?_
  unfold callB
  rw [ho]
  dsimp only
  rw [hc, ha, hty]
  exact .inr (.inr ⟨rfl, e, ag, sz, by_, z, s0, x0, ys.length, AV.weakL yc, h1, hsl, hap, hz, hside.1, hside.2.1, hside.2.2, by unfold srcA; rw [h2]; simp [hcat], List.length_pos_iff.2 hne, hb, rest⟩)

theorem runA_nilA {ops l : List Oper} {o : Oper} {s : St} {K : St → Prop} {cl : Call} {xo yo : Operand} {t e sz by_ s0 m : Nat} {ag : Bool} {z : AV} {x0 yc : List AV} (hg : guardA ops s o = some true)
    (ho : o.op = .call cl) (hc : cl.callee = .builtin .append) (ha : cl.args.toList = [xo, yo]) (hty : cl.argTypes.toList = [t, t]) (h1 : s.evT P t xo = some (.lst .nil s0 x0)) (h2 : srcA P s t yo sz = some (m, yc))
    (hsl : slI P t = some (e, ag, sz)) (hap : apI P e = some (sz, by_)) (hz : zA P e = some z) (hside : z.cells.length = sz ∧ 0 < sz ∧ 0 < by_) (hne : 0 < m)
    (hb : m * by_ ≤ 140737488355328)
    (rest : ∀ cap', m ≤ cap' → cap' ≤ maxLen → ∃ s', ({ s with h := s.h ++ [.cells e (yc ++ repC (cap' - m) z.cells)] } : St).put o.dst (.arr s.h.length 0 m cap') = some s' ∧ runA P ops l s' K) : runA P ops (o :: l) s K := by
  refine runA_b hg ?_
  unfold callB
  rw [ho]
  dsimp only
  rw [hc, ha, hty]
  exact .inr (.inr ⟨rfl, e, ag, sz, by_, z, s0, x0, m, yc, h1, hsl, hap, hz, hside.1, hside.2.1, hside.2.2, h2, hne, hb, rest⟩)

theorem runA_appA {ops l : List Oper} {o : Oper} {s : St} {K : St → Prop} {cl : Call} {xo yo : Operand} {t e sz by_ id len cap m : Nat} {ag : Bool} {z : AV} {cs yc : List AV} (hg : guardA ops s o = some true)
    (ho : o.op = .call cl) (hc : cl.callee = .builtin .append) (ha : cl.args.toList = [xo, yo]) (hty : cl.argTypes.toList = [t, t]) (h1 : s.evT P t xo = some (.arr id 0 len cap)) (h2 : srcA P s t yo sz = some (m, yc))
    (hsl : slI P t = some (e, ag, sz)) (hap : apI P e = some (sz, by_)) (hz : zA P e = some z) (hside : z.cells.length = sz ∧ 0 < sz ∧ 0 < by_) (hobj : s.h[id]? = some (.cells e cs)) (hcs : cs.length = cap * sz)
    (hb : (len + m) * by_ ≤ 140737488355328)
    (rest : ∀ s1 x1, appQ0 s e sz id len cap m yc cs z.cells s1 x1 → ∃ s', s1.put o.dst x1 = some s' ∧ runA P ops l s' K) : runA P ops (o :: l) s K := by
  refine runA_b hg ?_
  unfold callB
  rw [ho]
  dsimp only
  rw [hc, ha, hty]
  exact .inl ⟨rfl, e, ag, sz, by_, z, id, len, cap, cs, m, yc, hsl, hap, hz, hside.1, hside.2.1, hside.2.2, h1, hobj, hcs, h2, hb, rest⟩

theorem runA_app {ops l : List Oper} {o : Oper} {s : St} {K : St → Prop} {cl : Call} {xo yo : Operand} {t e sz by_ id len cap : Nat} {ag : Bool} {z : AV} {oy : Fl} {cs ys yc : List AV} (hg : guardA ops s o = some true)
    (ho : o.op = .call cl) (hc : cl.callee = .builtin .append) (ha : cl.args.toList = [xo, yo]) (hty : cl.argTypes.toList = [t, t]) (h1 : s.evT P t xo = some (.arr id 0 len cap)) (h2 : s.evT P t yo = some (.lst oy sz ys))
    (hsl : slI P t = some (e, ag, sz)) (hap : apI P e = some (sz, by_)) (hz : zA P e = some z) (hside : z.cells.length = sz ∧ 0 < sz ∧ 0 < by_) (hobj : s.h[id]? = some (.cells e cs)) (hcs : cs.length = cap * sz) (hcat : catK sz ys = some yc)
    (hb : (len + ys.length) * by_ ≤ 140737488355328)
    (rest : ∀ s1 x1, appQ s e sz id len cap ys.length yc cs z.cells s1 x1 → ∃ s', s1.put o.dst x1 = some s' ∧ runA P ops l s' K) : runA P ops (o :: l) s K := by
  refine runA_b hg ?_
  unfold callB
  rw [ho]
  dsimp only
  rw [hc, ha, hty]
  exact .inl ⟨rfl, e, ag, sz, by_, z, id, len, cap, cs, ys.length, AV.weakL yc, hsl, hap, hz, hside.1, hside.2.1, hside.2.2, h1, hobj, hcs, by unfold srcA; rw [h2]; simp [hcat], hb, rest⟩

theorem runA_copy {ops l : List Oper} {o : Oper} {s : St} {K : St → Prop} {cl : Call} {xo yo : Operand} {t t' e sz id off len cap : Nat} {ag : Bool} {oy : Fl} {cs ys yc : List AV} (hg : guardA ops s o = some true)
    (ho : o.op = .call cl) (hc : cl.callee = .builtin .copy) (ha : cl.args.toList = [xo, yo]) (hty : cl.argTypes.toList = [t, t']) (h1 : s.evT P t xo = some (.arr id off len cap)) (h2 : s.evT P t' yo = some (.lst oy sz ys))
    (hsl : slI P t = some (e, ag, sz)) (hsz : 0 < sz) (hobj : s.h[id]? = some (.cells e cs)) (hcs : off + len * sz ≤ cs.length) (hcat : catK sz (ys.take len) = some yc)
    (rest : ∃ s', ({ s with h := s.h.set id (.cells e (setSeg cs off (AV.weakL yc))) } : St).put o.dst (.v (goInt (min ys.length len : Nat))) = some s' ∧ runA P ops l s' K) : runA P ops (o :: l) s K := by
  refine runA_b hg ?_
  unfold callB
  rw [ho]
  dsimp only
  rw [hc, ha, hty]
  exact ⟨e, ag, sz, id, off, len, cap, cs, oy, ys, yc, hsl, hsz, h1, hobj, hcs, h2, hcat, rest⟩

theorem W_rsK {top : Bool} {kf : Nat} {id : Nat} {ops : Array Oper} {y : Code} {Q : Exit → St → Prop} {s : St} (pre : Nat) (ks : List Nat) (hm : P.follows .mixedOrders = true) (hd : drawS ops pre = true)
    (h : runD P ops.toList (ops.toList.take pre) s fun s' => runA P ops.toList (ops.toList.drop pre) s' fun s2 => Wt top kf P y Q (keepS ks s2)) : Wt top kf P (.seq (.region id ops true) y) Q s :=
  W_seq (W_forget ks (W_drawS pre hm hd h))
theorem W_rsE {top : Bool} {kf : Nat} {id : Nat} {ops : Array Oper} {Q : Exit → St → Prop} {s : St} (pre : Nat) (ks : List Nat) (hm : P.follows .mixedOrders = true) (hd : drawS ops pre = true)
    (h : runD P ops.toList (ops.toList.take pre) s fun s' => runA P ops.toList (ops.toList.drop pre) s' fun s2 => Q .normal (keepS ks s2)) : Wt top kf P (.region id ops true) Q s :=
  W_forget ks (W_drawS pre hm hd h)

theorem repC_bytes (n : Nat) : repC n [AV.v (.int .u8 0)] = byL (List.replicate n 0) := by
  induction n with
  | zero => rfl
  | succ n ih => simp only [repC, ih, List.replicate_succ, byL_cons]; rfl
theorem setSeg_bytes (B b : List UInt8) (off : Nat) : setSeg (byL B) off (byL b) = byL (B.take off ++ b ++ B.drop (off + b.length)) := by
  simp only [setSeg, byL_length, byL_append, byL_take, byL_drop]
theorem chunk_bytes (n : Nat) (l : List UInt8) (h : n ≤ l.length) : chunk false 1 n (byL l) = byL (l.take n) := chunk_byL n l h

def bbL (L : List (List UInt8)) : List AV := L.map fun b => .lst .any 1 (byL b)
@[simp] theorem bbL_length (L : List (List UInt8)) : (bbL L).length = L.length := by simp [bbL]
@[simp] theorem bbL_nil : bbL [] = [] := rfl
theorem bbL_cons (b : List UInt8) (L : List (List UInt8)) : bbL (b :: L) = .lst .any 1 (byL b) :: bbL L := rfl
theorem bbL_append (L M : List (List UInt8)) : bbL (L ++ M) = bbL L ++ bbL M := by simp [bbL]
theorem bbL_take (L : List (List UInt8)) (n : Nat) : bbL (L.take n) = (bbL L).take n := by simp [bbL]
theorem bbL_drop (L : List (List UInt8)) (n : Nat) : bbL (L.drop n) = (bbL L).drop n := by simp [bbL]
theorem bbL_get (L : List (List UInt8)) (i : Nat) : (bbL L)[i]? = (L[i]?).map fun b => .lst .any 1 (byL b) := by simp [bbL]
@[simp] theorem bbL_getElem (L : List (List UInt8)) (i : Nat) (h : i < (bbL L).length) : (bbL L)[i] = .lst .any 1 (byL (L[i]'(by simpa using h))) := by simp [bbL]
@[simp] theorem rfL_bbL (L : List (List UInt8)) : AV.rfL (bbL L) = true := by induction L <;> simp_all [bbL, AV.rfL, AV.rf]
@[simp] theorem tlL_bbL (L : List (List UInt8)) : AV.tlL (bbL L) = true := by induction L <;> simp_all [bbL, AV.tlL, AV.tl]
@[simp] theorem koneL_bbL (L : List (List UInt8)) : AV.koneL (bbL L) = true := by induction L <;> simp_all [bbL, AV.koneL, AV.kone]
@[simp] theorem toksL_bbL (L : List (List UInt8)) : AV.toksL (bbL L) = [] := by induction L <;> simp_all [bbL, AV.toksL, AV.toks]
@[simp] theorem underL_bbL (m : Nat) (L : List (List UInt8)) : AV.underL m (bbL L) = true := by induction L <;> simp_all [bbL, AV.underL, AV.under]
@[simp] theorem killSL_bbL (T : List Nat) (L : List (List UInt8)) : AV.killSL T (bbL L) = bbL L := killSL_tl _ (tlL_bbL L)
@[simp] theorem killL_bbL (T : Nat) (L : List (List UInt8)) : AV.killL T (bbL L) = bbL L := killL_tl _ (tlL_bbL L)
@[simp] theorem dpL_bbL (L : List (List UInt8)) : AV.dpL (bbL L) = bbL L := by induction L <;> simp_all [bbL, AV.dpL, AV.dp]
@[simp] theorem weakL_bbL (L : List (List UInt8)) : AV.weakL (bbL L) = bbL L := by induction L <;> simp_all [bbL, AV.weakL, AV.weak]
@[simp] theorem normL_bbL (T : Nat) (L : List (List UInt8)) : AV.normL T (bbL L) = bbL L := by induction L <;> simp_all [bbL, AV.normL, AV.norm]
@[simp] theorem catK_bbL (L : List (List UInt8)) : catK 1 (bbL L) = some (bbL L) := by induction L <;> simp_all [bbL, catK, AV.cellsK, AV.kone]

def byteOf : AV → Option UInt8
  | .v (.int .u8 n) => if 0 ≤ n ∧ n < 256 then some (UInt8.ofNat n.toNat) else none
  | _ => none
theorem byteOf_eq {x : AV} {b : UInt8} (h : byteOf x = some b) : x = .v (.int .u8 b.toNat) := by
  unfold byteOf at h
  split at h
  · split at h
    · rename_i n hn
      cases h
      congr 2
      rw [UInt8.toNat_ofNat']; omega
    · cases h
  · cases h
def bytesOf : List AV → Option (List UInt8)
  | [] => some []
  | x :: xs => (byteOf x).bind fun b => (bytesOf xs).map fun l => b :: l
theorem bytesOf_eq : ∀ {xs : List AV} {l : List UInt8}, bytesOf xs = some l → xs = byL l
  | [], l, h => by simp only [bytesOf, Option.some.injEq] at h; subst h; rfl
  | x :: xs, l, h => by
    simp only [bytesOf] at h
    obtain ⟨b, hb, h⟩ := Option.bind_eq_some_iff.1 h
    obtain ⟨l', hl, rfl⟩ := Option.map_eq_some_iff.1 h
    rw [byL_cons, byteOf_eq hb, bytesOf_eq hl]
def bbOf : List AV → Option (List (List UInt8))
  | [] => some []
  | .lst .any 1 x :: xs => (bytesOf x).bind fun b => (bbOf xs).map fun l => b :: l
  | _ => none
theorem bbOf_eq : ∀ {xs : List AV} {l : List (List UInt8)}, bbOf xs = some l → xs = bbL l
  | [], l, h => by simp only [bbOf, Option.some.injEq] at h; subst h; rfl
  | x :: xs, l, h => by
    unfold bbOf at h
    split at h
    · rename_i h1; cases h1
    · rename_i h1
      cases h1
      obtain ⟨b, hb, h⟩ := Option.bind_eq_some_iff.1 h
      obtain ⟨l', hl, rfl⟩ := Option.map_eq_some_iff.1 h
      rw [bbL_cons, bytesOf_eq hb, bbOf_eq hl]
    · cases h
end Go.AM

namespace Go.AM
open Go.RowKit
set_option linter.unusedSimpArgs false

def AV.shal : AV → Bool
  | .v _ => true
  | .any => true
  | .lst _ _ [] => true
  | _ => false
def AV.shalL (xs : List AV) : Bool := xs.all AV.shal

def AV.sl : AV → Bool
  | .v (.slice _ _ _) => true
  | .v _ => false
  | .lst _ _ _ => true
  | .arr _ _ _ _ => true
  | .any => true
  | _ => false
def AV.isL : AV → Bool
  | .lst _ _ _ => true
  | _ => false
mutual

def AV.deep : AV → Bool
  | .lst _ _ xs => (xs.isEmpty || xs.any fun x => x.cells.any fun y => !y.sl) && AV.deepL xs
  | .agg xs => AV.deepL xs
  | .tup xs => AV.deepL xs
  | .v _ => true
  | .any => true
  | _ => false
def AV.deepL : List AV → Bool
  | [] => true
  | x :: xs => AV.deep x && AV.deepL xs
end

def AV.thwL (xs : List AV) : Bool := AV.shalL xs || (xs.all AV.isL && AV.deepL xs)
theorem thwL_shal {xs : List AV} (h : AV.shalL xs = true) : AV.thwL xs = true := by simp [AV.thwL, h]
theorem deepL_get {xs : List AV} (h : AV.deepL xs = true) {j : Nat} {y : AV} (hy : xs[j]? = some y) : y.deep = true := by
  induction xs generalizing j with
  | nil => simp at hy
  | cons x xs ih =>
    simp only [AV.deepL, Bool.and_eq_true] at h
    cases j with
    | zero => simp at hy; subst hy; exact h.1
    | succ j => exact ih h.2 (by simpa using hy)
theorem deep_cells {x y : AV} (h : x.deep = true) {j : Nat} (hy : x.cells[j]? = some y) : y.deep = true := by
  have one : x.cells = [x] → y.deep = true := by
    intro e
    rw [e] at hy
    cases j with
    | zero => simp at hy; subst hy; exact h
    | succ j => simp at hy
  cases x with
  | agg xs => exact deepL_get (by simpa [AV.deep] using h) hy
  | _ => exact one rfl

section
variable {P : Program} {c c' : Ctx} {w w' : World}

theorem shal_rep {x : AV} {u : Value} (h : Rep c w x u) (hs : x.shal = true) : Rep c' w' x u := by
  cases h with
  | any u => exact .any u
  | v => exact .v _
  | @lst o s xs a n cap u hn hcap hmax hs0 hsz hrf hz hnil hc hr =>
    cases xs with
    | nil =>
      refine .lst u hn hcap hmax hs0 hsz hrf hz hnil (fun ad k _ hk => ?_) (fun i j x y hi _ => by simp at hi)
      subst hn
      simp at hk
    | cons x l => simp [AV.shal] at hs
  | _ => simp [AV.shal] at hs

theorem shal_weak {x : AV} (h : x.shal = true) : x.weak.shal = true := by
  cases x with
  | lst o s xs => cases xs with
    | nil => simp [AV.weak, AV.weakL, AV.shal]
    | cons x l => simp [AV.shal] at h
  | v x => rfl
  | any => rfl
  | _ => simp [AV.shal] at h

theorem blk_add (ad : Addr) (k : Nat) : (ad.add k).block = ad.block := by unfold Addr.add; split <;> rfl
theorem deep_rep {g : Nat} (hg : ∀ ad u, ad.block = g → w.cell? ad = some u → c.prot ad → ∃ a n k, u = .slice a n k) (hp : ∀ ad, ad.block ≠ g → c.prot ad → c'.prot ad) {x : AV} {u : Value} (h : Rep c w x u) (hx : x.deep = true) : Rep c' w x u := by
  induction h with
  | any u => exact .any u
  | v x => exact .v x
  | @lst o s xs a n cap u hn hcap hmax hs hsz hrf hz hnil hc hr ih =>
    simp only [AV.deep, Bool.and_eq_true, Bool.or_eq_true] at hx
    refine .lst u hn hcap hmax hs hsz hrf hz hnil (fun ad k ha hk => ?_) (fun i j x y hi hj => ih i j x y hi hj (deep_cells (deepL_get hx.2 hi) hj))
    obtain ⟨h1, h2, h3⟩ := hc ad k ha hk
    refine ⟨h1, hp _ ?_ h2, h3⟩
    intro hb
    have hb' : ad.block = g := by
      have : (ad.add k).block = ad.block := blk_add ad k
      rw [this] at hb; exact hb
    rcases hx.1 with he | he
    · have : xs = [] := by simpa using he
      subst this
      subst hn
      simp at hk
    · obtain ⟨x, hxm, he⟩ := List.any_eq_true.1 he
      obtain ⟨y, hym, he⟩ := List.any_eq_true.1 he
      obtain ⟨i, hi, rfl⟩ := List.mem_iff_getElem.1 hxm
      obtain ⟨j, hj, rfl⟩ := List.mem_iff_getElem.1 hym
      have hxi : xs[i]? = some xs[i] := List.getElem?_eq_getElem hi
      have hyj : xs[i].cells[j]? = some xs[i].cells[j] := List.getElem?_eq_getElem hj
      have hsl := hsz _ hxm
      have hk2 : i * s + j < n * s := by
        rw [hsl] at hj
        have : (i + 1) * s ≤ n * s := Nat.mul_le_mul_right _ (by omega)
        rw [Nat.add_mul] at this
        omega
      obtain ⟨k1, k2, _⟩ := hc ad (i * s + j) ha hk2
      obtain ⟨a', nn, kk, hu⟩ := hg _ _ ((blk_add ad _).trans hb') k1 k2
      have hrep := hr i j _ _ hxi hyj
      rw [hu] at hrep
      generalize xs[i].cells[j] = y at hrep he
      cases hrep with
      | any u => simp [AV.sl] at he
      | v x => simp [AV.sl] at he
      | lst => simp [AV.sl] at he
      | arr => simp [AV.sl] at he
  | agg h _ ih => exact .agg h fun j y hj => ih j y hj (deepL_get (by simpa [AV.deep] using hx) hj)
  | tup h _ ih => exact .tup h fun j y hj => ih j y hj (deepL_get (by simpa [AV.deep] using hx) hj)
  | _ => simp [AV.deep] at hx

theorem thaw_core {h : List AObj} {e T sz : Nat} {xs fl : List AV} {c1 : Ctx} {w1 : World} {u : Value} (hh : HSim P c w h) (hb : ∀ b, w.heap.size ≤ b → c.base b) (hp : PExt c w c1 w1)
    (hr : Rep c1 w1 (.lst (.tip e T) sz xs) u) (ho : Own P (c1.rebase fun b => w.heap.size ≤ b) w1 (.lst (.tip e T) sz xs) u) (hcat : catK sz xs = some fl) (hfl : AV.thwL fl = true) :
    (u = .slice none 0 0 ∧ xs = [] ∧ HSim P c1 w1 h ∧ Ext c w c1 w1) ∨
    ∃ cap c', xs.length ≤ cap ∧ cap ≤ maxLen ∧ Ext c w c' w1 ∧ HSim P c' w1 (h ++ [.cells e (AV.weakL fl ++ List.replicate ((cap - xs.length) * sz) .any)]) ∧ Rep c' w1 (.arr h.length 0 xs.length cap) u := by
  have he1 := hp.ext hb
  have hk1 := hp.keeps
  have hold : ∀ i o, h[i]? = some o → c.ob i < w.heap.size := fun i o hi => hh.lt i (by rw [hh.no]; exact (List.getElem?_eq_some_iff.1 hi).1)
  have hsame : ∀ i o, h[i]? = some o → w1.heap[c.ob i]? = w.heap[c.ob i]? ∧ c1.pm (c.ob i) = c.pm (c.ob i) ∧ c1.ow (c.ob i) = c.ow (c.ob i) := fun i o hi =>
    ⟨hp.block _ (hold i o hi), hp.pm _ (hold i o hi), hp.ow _ (hold i o hi)⟩
  obtain ⟨a, n, cap, ux, rfl, hn, hcap, hmax, hs0, hsx, hrx, hzx, hnil, hcx, hrr⟩ := lst_cells hr
  cases ho with
  | none h0 => simp [AV.tl] at h0
  | tip hT hse hat =>
    rcases hat with ⟨rfl, rfl, rfl⟩ | ⟨g, cur, rfl, hg, hheap, hsize, hpm, how, hone⟩
    · refine .inl ⟨rfl, List.eq_nil_of_length_eq_zero hn, ⟨by rw [hp.no]; exact hh.no, fun i hi => ?_, ?_, fun i o hi => ?_⟩, he1⟩
      · rw [hp.ob]; rw [hp.no] at hi; exact Nat.lt_of_lt_of_le (hh.lt i hi) hp.size
      · rw [hp.ob, hp.no]; exact hh.inj
      · exact ObjRep.mono (T := none) he1 hk1 (by rw [hh.no]; exact (List.getElem?_eq_some_iff.1 hi).1) (hh.obj i o hi) fun _ => hsame i o hi
    · rw [← hse] at hsize hpm
      have hg' : w.heap.size ≤ g := hg
      let c2 : Ctx := c1.newO g
      have hno2 : c2.no = h.length + 1 := by simp only [c2, Ctx.newO]; rw [hp.no, hh.no]
      have hob2 : ∀ i, i < h.length → c2.ob i = c.ob i := fun i hi => by
        simp only [c2, Ctx.newO]; rw [hp.no, hh.no, if_neg (by omega), hp.ob]
      have hobn : c2.ob h.length = g := by simp only [c2, Ctx.newO]; rw [hp.no, hh.no, if_pos rfl]
      have hpm2 : ∀ b, b ≠ g → c2.pm b = c1.pm b := fun b hb => by simp only [c2, Ctx.newO, Ctx.setB]; rw [if_neg hb]
      have how2 : ∀ b, b ≠ g → c2.ow b = c1.ow b := fun b hb => by simp only [c2, Ctx.newO, Ctx.setB]; rw [if_neg hb]
      have hne : ∀ b, b < w.heap.size → b ≠ g := fun b hb e => by omega
      have hbase2 : c2.base = c.base := hp.base
      have he2 : Ext c w c2 w1 := {
        base := hbase2, os := he1.os, tape := he1.tape, output := he1.output, size := he1.size, below := he1.below, cell := he1.cell
        pm := fun b hb' => by rw [hpm2 b (hne b hb')]; exact he1.pm b hb'
        pmb := fun b hb' => by
          have : b ≠ g := fun e => hb' (by rw [e]; exact hb g hg')
          rw [hpm2 b this]; exact he1.pmb b hb'
        owb := fun b hb' => by
          have : b ≠ g := fun e => hb' (by rw [e]; exact hb g hg')
          rw [how2 b this]; exact he1.owb b hb'
        no := by rw [hno2, hh.no]; omega
        ob := fun id hid => hob2 id (by rw [← hh.no]; exact hid)
        dfr := he1.dfr }
      have hk2 : Keeps c w c2 w1 none := by
        intro b cu e0 hbb hbc hbo
        obtain ⟨k1, k2, k3⟩ := hk1 b cu e0 hbb hbc hbo
        have : b ≠ g := hne b (get_lt hbc)
        exact ⟨k1, by rw [hpm2 b this]; exact k2, by rw [how2 b this]; exact k3⟩
      have hfll : fl.length = n * sz := by rw [catK_length hcat, hn]
      have hrow : ∀ j z, fl[j]? = some z → Rep c1 w1 z (ux j) := by
        intro j z hz
        have hjl : j < n * sz := by rw [← hfll]; exact (List.getElem?_eq_some_iff.1 hz).1
        have hsz0 : 0 < sz := by
          rcases Nat.eq_zero_or_pos sz with e | e
          · rw [e] at hjl; omega
          · exact e
        obtain ⟨x, k1, k2, k3⟩ := catK_inv hsz0 hcat hz
        have := hrr _ _ _ _ k1 k2
        rwa [show j / sz * sz + j % sz = j by rw [Nat.mul_comm]; exact Nat.div_add_mod j sz] at this
      have hmv : ∀ (z : AV) (v : Value), z ∈ fl → Rep c1 w1 z v → Rep c2 w1 z v := by
        intro z v hzm hrz
        simp only [AV.thwL, Bool.or_eq_true, Bool.and_eq_true] at hfl
        rcases hfl with hfl | ⟨hisl, hdp⟩
        · exact shal_rep hrz (List.all_eq_true.1 hfl z hzm)
        · obtain ⟨i, hi, rfl⟩ := List.mem_iff_getElem.1 hzm
          refine deep_rep (g := g) (fun ad u hb' hc' hpr => ?_) (fun ad hb' hpr => ?_) hrz (deepL_get hdp (List.getElem?_eq_getElem hi))
          · have hof : ad.off < n * sz := by
              have : ad.off < c1.pm ad.block := hpr
              rw [hb'] at this
              have e : c1.pm g = n * sz := hpm
              rw [e] at this; exact this
            have hz2 : fl[ad.off]? = some (fl[ad.off]'(by rw [hfll]; exact hof)) := List.getElem?_eq_getElem _
            have hl := List.all_eq_true.1 hisl _ (List.mem_of_getElem? hz2)
            have hr2 := hrow _ _ hz2
            have hc2 := (hcx _ _ rfl hof).1
            rw [add_mk, Nat.zero_add] at hc2
            obtain ⟨ab, ao, asb⟩ := ad
            simp only at hb' hof hc2
            subst hb'
            have hcu : u = ux ao := by
              cases asb with
              | none => rw [hc'] at hc2; exact Option.some.inj hc2
              | some s => simp only [World.cell?, hheap] at hc'; simp at hc'
            rw [hcu]
            generalize fl[ao]'(by rw [hfll]; exact hof) = y at hl hr2
            cases y with
            | lst o s xs => obtain ⟨a, n, cap, ux, h0, _⟩ := lst_cells hr2; exact ⟨_, _, _, h0⟩
            | _ => simp [AV.isL] at hl
          · show ad.off < c2.pm ad.block
            rw [hpm2 _ hb']; exact hpr
      refine .inr ⟨cap, c2, by omega, hmax, he2, ⟨by rw [hno2]; simp, ?_, ?_, ?_⟩, ?_⟩
      · intro i hi
        rw [hno2] at hi
        rcases Nat.lt_or_ge i h.length with hlt | hge
        · rw [hob2 i hlt]; exact Nat.lt_of_lt_of_le (hh.lt i (by rw [hh.no]; exact hlt)) hp.size
        · have : i = h.length := by omega
          subst this; rw [hobn]; exact get_lt hheap
      · intro i j hi hj hij
        rw [hno2] at hi hj
        rcases Nat.lt_or_ge i h.length with h1 | h1 <;> rcases Nat.lt_or_ge j h.length with h2 | h2
        · rw [hob2 i h1, hob2 j h2]; exact hh.inj i j (by rw [hh.no]; exact h1) (by rw [hh.no]; exact h2) hij
        · have : j = h.length := by omega
          subst this; rw [hob2 i h1, hobn]; exact hne _ (hh.lt i (by rw [hh.no]; exact h1))
        · have : i = h.length := by omega
          subst this; rw [hob2 j h2, hobn]; exact Ne.symm (hne _ (hh.lt j (by rw [hh.no]; exact h2)))
        · omega
      · intro i o hi
        rcases Nat.lt_or_ge i h.length with h1 | h1
        · rw [List.getElem?_append_left h1] at hi
          refine ObjRep.mono (T := none) he2 hk2 (by rw [hh.no]; exact h1) (hh.obj i o hi) fun _ => ?_
          obtain ⟨s1, s2, s3⟩ := hsame i o hi
          have := hne _ (hold i o hi)
          exact ⟨s1, by rw [hpm2 _ this]; exact s2, by rw [how2 _ this]; exact s3⟩
        · rw [List.getElem?_append_right h1] at hi
          have hi0 : i = h.length := by
            have := (List.getElem?_eq_some_iff.1 hi).1
            simp at this
            omega
          subst hi0
          simp at hi
          subst hi
          refine ⟨by rw [hobn, hbase2]; exact hb g hg', by rw [hobn]; simp [c2, Ctx.newO, Ctx.setB], by rw [hobn]; simp [c2, Ctx.newO, Ctx.setB], cur, by rw [hobn]; exact hheap, ?_, ?_⟩
          · rw [List.length_append, weakL_length, List.length_replicate, hfll, hsize, hn, ← Nat.add_mul]
            congr 1
            omega
          · intro j y hj
            have hjs : j < cur.size := by
              have := (List.getElem?_eq_some_iff.1 hj).1
              rw [List.length_append, weakL_length, List.length_replicate, hfll, hn, ← Nat.add_mul] at this
              rw [hsize]
              have e : n + (cap - n) = cap := by omega
              rw [e] at this
              exact this
            have h1c : (cur.getD j undef).oneCell' = true := by
              rw [Array.getD_eq_getD_getElem?, Array.getElem?_eq_getElem hjs, Option.getD_some]
              exact hone _ (Array.getElem_mem hjs)
            rcases Nat.lt_or_ge j (AV.weakL fl).length with hlt | hge
            · rw [List.getElem?_append_left hlt, weakL_get] at hj
              obtain ⟨z, hz, rfl⟩ := Option.map_eq_some_iff.1 hj
              have hjl : j < n * sz := by rw [weakL_length, hfll] at hlt; exact hlt
              have hsz0 : 0 < sz := by
                rcases Nat.eq_zero_or_pos sz with e | e
                · rw [e] at hjl; omega
                · exact e
              obtain ⟨x, k1, k2, k3⟩ := catK_inv hsz0 hcat hz
              have hrz : Rep c1 w1 z (ux j) := by
                have := hrr _ _ _ _ k1 k2
                rwa [show j / sz * sz + j % sz = j by rw [Nat.mul_comm]; exact Nat.div_add_mod j sz] at this
              have e1 := (hcx _ j rfl hjl).1
              rw [add_mk, Nat.zero_add] at e1
              simp only [World.cell?, hheap] at e1
              have e2 : cur.getD j undef = ux j := by
                rw [Array.getD_eq_getD_getElem?]
                simp at e1
                rw [e1]; rfl
              rw [e2] at h1c ⊢
              exact ⟨(hmv z (ux j) (List.mem_of_getElem? hz) hrz).weak, .none (tl_weak z), h1c⟩
            · rw [List.getElem?_append_right hge] at hj
              have := (List.mem_replicate.1 (List.mem_of_getElem? hj)).2
              subst this
              exact ⟨.any _, .none rfl, h1c⟩
      · have := Rep.arr (c := c2) (w := w1) (id := h.length) (off := 0) (len := xs.length) (cap := cap) (by rw [hno2]; omega) (by omega) hmax
        rw [hobn] at this
        rw [← hn]
        exact this

theorem callW_thaw {f : FuncId} {args : List AV} {h : List AObj} {e T sz : Nat} {xs fl : List AV} {Q : AV → List AObj → Prop} (hS : Sound P f (AV.dpL args) (.lst (.tip e T) sz xs)) (hcat : catK sz xs = some fl) (hfl : AV.thwL fl = true)
    (h0 : xs = [] → Q (.lst .nil sz []) h) (h1 : ∀ cap, xs.length ≤ cap → cap ≤ maxLen → Q (.arr h.length 0 xs.length cap) (h ++ [.cells e (AV.weakL fl ++ List.replicate ((cap - xs.length) * sz) .any)])) : CallW P f args h Q := by
  refine ⟨hS.1, fun F n c w vals hF hro hb _ hh ra => CallsIn.mono (hS.2 F n c w vals 1 hF hro rfl hb ra.dpL) ?_⟩
  rintro _ w1 ⟨u, c1, rfl, hp, hr, ho⟩
  rcases thaw_core (T := 1) hh hb hp hr ho hcat hfl with ⟨rfl, rfl, k1, k2⟩ | ⟨cap, c', k1, k2, k3, k4, k5⟩
  · exact ⟨_, c1, _, _, rfl, h0 rfl, k2, k1, .lst (fun _ => undef) rfl (Nat.le_refl _) (Nat.zero_le _) (by simp) (by simp) rfl (fun _ => ⟨rfl, rfl⟩) rfl (by simp) (by simp), .none rfl⟩
  · exact ⟨_, c', _, _, rfl, h1 cap k1 k2, k3, k4, k5, .none rfl⟩

theorem callW_thawT {f : FuncId} {args : List AV} {h : List AObj} {e T sz : Nat} {xs fl : List AV} {vs : List Value} {Q : AV → List AObj → Prop} (hS : Sound P f (AV.dpL args) (.tup (.lst (.tip e T) sz xs :: vs.map .v))) (hcat : catK sz xs = some fl) (hfl : AV.thwL fl = true)
    (h0 : xs = [] → Q (.tup (.lst .nil sz [] :: vs.map .v)) h) (h1 : ∀ cap, xs.length ≤ cap → cap ≤ maxLen → Q (.tup (.arr h.length 0 xs.length cap :: vs.map .v)) (h ++ [.cells e (AV.weakL fl ++ List.replicate ((cap - xs.length) * sz) .any)])) : CallW P f args h Q := by
  refine ⟨hS.1, fun F n c w vals hF hro hb _ hh ra => CallsIn.mono (hS.2 F n c w vals 1 hF hro rfl hb ra.dpL) ?_⟩
  rintro _ w1 ⟨u, c1, rfl, hp, hr, ho⟩
  have hnv : AV.normL 1 (vs.map .v) = vs.map .v := by
    have : ∀ l : List Value, AV.normL 1 (l.map .v) = l.map .v := fun l => by induction l <;> simp_all [AV.normL, AV.norm]
    exact this vs
  simp only [AV.norm, AV.normL, hnv] at hr ho
  obtain ⟨us, rfl, hl, hrr⟩ := tup_inv hr
  have hoo := own_tup ho
  have hr0 := hrr 0 _ rfl
  have ho0 := hoo 0 _ rfl
  have hsz : us.size = vs.length + 1 := by rw [← hl]; simp
  have hv : ∀ j y, ((vs.map AV.v)[j]? = some y) → ∀ c w, Rep c w y (us.getD (j + 1) undef) := by
    intro j y hj c w
    have := hrr (j + 1) y (by simpa using hj)
    rw [List.getElem?_map] at hj
    obtain ⟨v, _, rfl⟩ := Option.map_eq_some_iff.1 hj
    rw [this.v_inv]
    exact .v _
  have hvo : ∀ (x : AV) (c : Ctx) (w : World), x.tl = true → Own P c w (.tup (x :: vs.map .v)) (.tuple us) := by
    intro x c w hx
    refine .none ?_
    have : ∀ l : List Value, AV.tlL (l.map .v) = true := fun l => by induction l <;> simp_all [AV.tlL, AV.tl]
    simp [AV.tl, AV.tlL, hx, this]
  rcases thaw_core (T := 1) hh hb hp hr0 ho0 hcat hfl with ⟨k0, rfl, k1, k2⟩ | ⟨cap, c', k1, k2, k3, k4, k5⟩
  · refine ⟨_, c1, _, _, rfl, h0 rfl, k2, k1, .tup (by simp [hsz]) fun j y hj => ?_, hvo _ _ _ rfl⟩
    cases j with
    | zero =>
      simp at hj
      subst hj
      rw [k0]
      exact .lst (fun _ => undef) rfl (Nat.le_refl _) (Nat.zero_le _) (by simp) (by simp) rfl (fun _ => ⟨rfl, rfl⟩) rfl (by simp) (by simp)
    | succ j => exact hv j y (by simpa using hj) _ _
  · refine ⟨_, c', _, _, rfl, h1 cap k1 k2, k3, k4, .tup (by simp [hsz]) fun j y hj => ?_, hvo _ _ _ rfl⟩
    cases j with
    | zero =>
      simp at hj
      subst hj
      exact k5
    | succ j => exact hv j y (by simpa using hj) _ _

mutual
theorem dp_norm (T : Nat) : (x : AV) → (x.norm T).dp = x.dp
  | .lst (.tip _ _) _ _ => rfl
  | .lst .any _ _ => rfl
  | .lst .nil _ _ => rfl
  | .lst .ex _ _ => rfl
  | .agg xs => by simp only [AV.norm, AV.dp, dp_normL T xs]
  | .tup xs => by simp only [AV.norm, AV.dp, dp_normL T xs]
  | .any => rfl
  | .v _ => rfl
  | .ro _ => rfl
  | .loc _ _ => rfl
  | .arr _ _ _ _ => rfl
  | .fn _ _ _ => rfl
  | .mp _ => rfl
  | .yld _ => rfl
theorem dp_normL (T : Nat) : (xs : List AV) → AV.dpL (AV.normL T xs) = AV.dpL xs
  | [] => rfl
  | x :: xs => by simp only [AV.normL, AV.dpL, dp_norm T x, dp_normL T xs]
end

def AV.Le (P : Program) (x y : AV) : Prop := ∀ (c : Ctx) (w : World) (u : Value) (T : Nat), T % 2 = 1 → Rep c w (x.norm T) u → Own P c w (x.norm T) u → Rep c w (y.norm T) u ∧ Own P c w (y.norm T) u
theorem AV.Le.refl (x : AV) : AV.Le P x x := fun _ _ _ _ _ h1 h2 => ⟨h1, h2⟩
theorem AV.Le.trans {x y z : AV} (h : AV.Le P x y) (k : AV.Le P y z) : AV.Le P x z := fun c w u T hT h1 h2 => let ⟨k1, k2⟩ := h c w u T hT h1 h2; k c w u T hT k1 k2
theorem AV.Le.norm {x y : AV} (h : ∀ T, x.norm T = y.norm T) : AV.Le P x y := fun _ _ _ T _ h1 h2 => by rw [← h T]; exact ⟨h1, h2⟩
theorem AV.Le.plain (x : AV) : AV.Le P x x.plain := fun _ _ _ T hT h1 _ => by
  have h := h1.plain
  rw [plain_norm] at h
  exact ⟨h.norm hT, .none (norm_tl T _ (tl_plain x))⟩
theorem AV.Le.dp (x : AV) : AV.Le P x x.dp := fun _ _ _ T hT h1 _ => by
  have h := h1.dp
  rw [dp_norm] at h
  exact ⟨h.norm hT, .none (norm_tl T _ (AV.tl_dp x))⟩
theorem AV.Le.nil {e T0 s : Nat} (hs : s = P.cellsOf e) : AV.Le P (.lst .nil s []) (.lst (.tip e T0) s []) := fun c w u T hT h1 _ => by
  simp only [AV.norm] at h1 ⊢
  obtain ⟨a, n, cap, ux, rfl, hn, hcap, hmax, hs0, hsx, hrx, hzx, hnil, hcx, hrr⟩ := lst_cells h1
  have ha : a = none := hnil
  subst ha
  obtain ⟨rfl, rfl⟩ := hzx rfl
  exact ⟨.lst ux rfl (Nat.le_refl _) hmax (by simp) (by simp) rfl (fun _ => ⟨rfl, rfl⟩) (fun _ => rfl) (by simp) (by simp), .tip (by omega) hs (.inl ⟨rfl, rfl, rfl⟩)⟩
theorem AV.Le.tup {xs ys : List AV} (hl : xs.length = ys.length) (h : ∀ (j : Nat) (x y : AV), xs[j]? = some x → ys[j]? = some y → AV.Le P x y) : AV.Le P (.tup xs) (.tup ys) := fun c w u T hT h1 h2 => by
  simp only [AV.norm] at h1 h2 ⊢
  obtain ⟨us, rfl, hul, hrr⟩ := tup_inv h1
  have hoo := own_tup h2
  have hln : ∀ l : List AV, (AV.normL T l).length = l.length := fun l => by induction l <;> simp_all [AV.normL]
  have key : ∀ j y, (AV.normL T ys)[j]? = some y → Rep c w y (us.getD j undef) ∧ Own P c w y (us.getD j undef) := by
    intro j y hj
    rw [normL_get] at hj
    obtain ⟨y0, hy, rfl⟩ := Option.map_eq_some_iff.1 hj
    have hjl : j < xs.length := by rw [hl]; exact (List.getElem?_eq_some_iff.1 hy).1
    have hx : xs[j]? = some xs[j] := List.getElem?_eq_getElem hjl
    have hxn : (AV.normL T xs)[j]? = some (xs[j].norm T) := by rw [normL_get, hx]; rfl
    exact h j _ _ hx hy c w _ T hT (hrr j _ hxn) (hoo j _ hxn)
  exact ⟨.tup (by rw [hln, ← hl, ← hul, hln]) fun j y hj => (key j y hj).1, .tup fun j y hj => (key j y hj).2⟩
theorem AV.Le.tup2 {a b c d : AV} (h1 : AV.Le P a c) (h2 : AV.Le P b d) : AV.Le P (.tup [a, b]) (.tup [c, d]) := .tup rfl fun j x y hx hy => by
  match j with
  | 0 => simp at hx hy; subst hx hy; exact h1
  | 1 => simp at hx hy; subst hx hy; exact h2
  | j + 2 => simp at hx
theorem AV.Le.tup3 {a b e c d f : AV} (h1 : AV.Le P a c) (h2 : AV.Le P b d) (h3 : AV.Le P e f) : AV.Le P (.tup [a, b, e]) (.tup [c, d, f]) := .tup rfl fun j x y hx hy => by
  match j with
  | 0 => simp at hx hy; subst hx hy; exact h1
  | 1 => simp at hx hy; subst hx hy; exact h2
  | 2 => simp at hx hy; subst hx hy; exact h3
  | j + 3 => simp at hx
theorem Sound.le {f : FuncId} {xs : List AV} {r r' : AV} (h : Sound P f xs r) (hle : AV.Le P r r') : Sound P f xs r' :=
  ⟨h.1, fun F n c w vals T h1 h2 h3 h4 h5 => (h.2 F n c w vals T h1 h2 h3 h4 h5).mono fun e w' hh => by
    obtain ⟨u, c', he, hx, hr, ho⟩ := hh
    obtain ⟨k1, k2⟩ := hle _ w' u T h3 (hr.rebase _) ho
    exact ⟨u, c', he, hx, k1.rebase c'.base, k2⟩⟩

def retU (P : Program) (rs : List ResultVar) (r : AV) (e : Exit) (s : St) : Prop := ∃ r0, retQ P rs r0 e s ∧ AV.Le P r0 r
theorem sound_of_U {f : FuncId} {fn : Func} {code : Code} {args : List AV} {r : AV} (hf : P.funcs[f]? = some fn) (hb : fn.body = some code) (hn : (fn.name == "runtime.NumGoroutine") = false)
    (hlen : args.length ≤ fn.ntmps) (hrf : AV.rfL args = true) (htl : AV.tlL args = true) {rs : List ResultVar} (hrs : fn.results.toList = rs) (h : W P code (retU P rs r) ⟨fn.ntmps, numF 0 args, []⟩) : Sound P f args r := by
  subst hrs
  refine ⟨⟨fn, hf, hn, by rw [hb]; rfl⟩, ?_⟩
  intro F n c w vals T hF hro hT hbase hargs
  let c0 : Ctx := { c with base := fun b => w.heap.size ≤ b, no := 0 }
  have hargs0 : RepL P c0 w args vals := RepL.enter (c := c) (c' := c0) rfl hargs hrf htl
  have hl : args.length = vals.length := hargs.length
  refine callsIn_of_wp_marks hf hb (hF.1 f) ?_ hro
  have hs0 : SimSt P c0 w ⟨fn.ntmps, numF 0 args, []⟩ { tmps := vals.toArray ++ Array.replicate (fn.ntmps - vals.toArray.size) undef, defers := [] } := by
    refine ⟨by simp; omega, fun _ h => h, ?_, ⟨rfl, fun i hi => absurd hi (Nat.not_lt_zero _), fun i j hi => absurd hi (Nat.not_lt_zero _), by simp⟩, ⟨[], rfl, .nil, by simp⟩⟩
    intro i x hx
    obtain ⟨h1, h2⟩ := numF_get args 0 i x hx
    obtain ⟨u, hu, hr, ho⟩ := hargs0.get (by simpa using h2)
    have hi : i < vals.length := (List.getElem?_eq_some_iff.1 hu).1
    exact ⟨u, by rw [Array.getElem?_append_left (by simpa using hi)]; simpa using hu, hr, ho⟩
  refine wpIn_mono (h F n c0 w _ (hF.top hro (Nat.zero_le _) true) hs0) ?_
  rintro e a' w' ⟨s', c', ⟨r0, ⟨he, x, h', hres, hfr, hrr⟩, hnorm⟩, hs', hext⟩
  have key : LeavesInM F n P fn a'.tmps (fun e w' => ∃ u c', e = .returned u ∧ PExt c w c' w' ∧ Rep c' w' (r.norm T) u ∧ Own P (c'.rebase fun b => w.heap.size ≤ b) w' (r.norm T) u) a'.defers .returning w' := by
    obtain ⟨rs, hd, hnd, hrs⟩ := hs'.dfr
    obtain ⟨w2, hsh, hleave⟩ := shutAll (F := F) (n := n) (fn := fn) (tmps := a'.tmps) (R := fun e w' => ∃ u c', e = .returned u ∧ PExt c w c' w' ∧ Rep c' w' (r.norm T) u ∧ Own P (c'.rebase fun b => w.heap.size ≤ b) w' (r.norm T) u) rs w' hnd hrs
    rw [hd]
    refine hleave ?_
    have hs2 := hs'.recell hsh
    obtain ⟨v, hrun, hrep, hown⟩ := resA_sound hs2 hres
    obtain ⟨c3, e3, k3, s3, r3, o3⟩ := frzV_sound (by decide) x s' c' r0 h' v hs2 hfr hrep hown
    have hb' : c'.base = (fun b => w.heap.size ≤ b) := hext.base
    have hb3 : c3.base = (fun b => w.heap.size ≤ b) := by rw [e3.base, hb']
    let cF : Ctx := { c with pm := c3.pm, ow := fun b => if b < w.heap.size then c.ow b else T }
    have hfin : Rep (cF.rebase fun b => w.heap.size ≤ b) w2 (r.norm T) v ∧ Own P (cF.rebase fun b => w.heap.size ≤ b) w2 (r.norm T) v := by
      refine hnorm _ w2 v T hT ?_ ?_
      · exact ((Rep.recast (c := c3) (c' := cF) (fun a ha => ha) r3 hrr).norm hT).rebase _
      · refine Own.recast (c := c3) (c' := cF.rebase fun b => w.heap.size ≤ b) hT ?_ rfl ?_ o3
        · rw [hb3]; exact fun _ h => h
        · intro g hg
          rw [hb3] at hg
          simp only [cF, Ctx.rebase, if_neg (show ¬ g < w.heap.size by omega)]
    refine ⟨v, hrun, v, cF, rfl, ⟨rfl, rfl, rfl, by rw [hsh.os]; exact hext.os, by rw [hsh.tape]; exact hext.tape, by rw [hsh.output]; exact hext.output, by rw [hsh.size]; exact hext.size, ?_, ?_, ?_⟩, ?_, ?_⟩
    · intro b hlt
      rw [hsh.below b (by rw [hb']; simpa using hlt)]
      exact hext.below b (by simpa [c0] using hlt)
    · intro b hlt
      have h1 : c3.pm b = c'.pm b := e3.pmb b (by rw [hb']; simpa using hlt)
      have h2 : c'.pm b = c.pm b := hext.pmb b (by simpa [c0] using hlt)
      exact h1.trans h2
    · intro b hlt
      simp only [cF, if_pos hlt]
    · exact (hfin.1.rebase cF.base)
    · exact hfin.2
  rcases he with rfl | rfl
  · exact key
  · exact key

end
end Go.AM

namespace Go.AM
open Go.RowKit
set_option linter.unusedSimpArgs false

def AV.emp : AV → Bool
  | .v (.slice _ _ _) => true
  | .v _ => false
  | .lst _ _ (_ :: _) => false
  | _ => true
mutual

def AV.away : AV → Bool
  | .lst _ _ xs => (xs.isEmpty || xs.any fun x => x.cells.any fun y => !y.emp) && AV.awayL xs
  | .agg xs => AV.awayL xs
  | .tup xs => AV.awayL xs
  | .v _ => true
  | .any => true
  | _ => false
def AV.awayL : List AV → Bool
  | [] => true
  | x :: xs => AV.away x && AV.awayL xs
end
theorem awayL_get {xs : List AV} (h : AV.awayL xs = true) {j : Nat} {y : AV} (hy : xs[j]? = some y) : y.away = true := by
  induction xs generalizing j with
  | nil => simp at hy
  | cons x xs ih =>
    simp only [AV.awayL, Bool.and_eq_true] at h
    cases j with
    | zero => simp at hy; subst hy; exact h.1
    | succ j => exact ih h.2 (by simpa using hy)
theorem away_cells {x y : AV} (h : x.away = true) {j : Nat} (hy : x.cells[j]? = some y) : y.away = true := by
  have one : x.cells = [x] → y.away = true := by
    intro e
    rw [e] at hy
    cases j with
    | zero => simp at hy; subst hy; exact h
    | succ j => simp at hy
  cases x with
  | agg xs => exact awayL_get (by simpa [AV.away] using h) hy
  | _ => exact one rfl

section
variable {P : Program} {c c' : Ctx} {w : World}

theorem away_rep {g : Nat} (hg : ∀ ad u, ad.block = g → w.cell? ad = some u → c.prot ad → ∃ a k, u = .slice a 0 k) (hp : ∀ ad, ad.block ≠ g → c.prot ad → c'.prot ad) {x : AV} {u : Value} (h : Rep c w x u) (hx : x.away = true) : Rep c' w x u := by
  induction h with
  | any u => exact .any u
  | v x => exact .v x
  | @lst o s xs a n cap u hn hcap hmax hs hsz hrf hz hnil hc hr ih =>
    simp only [AV.away, Bool.and_eq_true, Bool.or_eq_true] at hx
    refine .lst u hn hcap hmax hs hsz hrf hz hnil (fun ad k ha hk => ?_) (fun i j x y hi hj => ih i j x y hi hj (away_cells (awayL_get hx.2 hi) hj))
    obtain ⟨h1, h2, h3⟩ := hc ad k ha hk
    refine ⟨h1, hp _ ?_ h2, h3⟩
    intro hb
    have hb' : ad.block = g := by
      have : (ad.add k).block = ad.block := blk_add ad k
      rw [this] at hb; exact hb
    rcases hx.1 with he | he
    · have : xs = [] := by simpa using he
      subst this
      subst hn
      simp at hk
    · obtain ⟨x, hxm, he⟩ := List.any_eq_true.1 he
      obtain ⟨y, hym, he⟩ := List.any_eq_true.1 he
      obtain ⟨i, hi, rfl⟩ := List.mem_iff_getElem.1 hxm
      obtain ⟨j, hj, rfl⟩ := List.mem_iff_getElem.1 hym
      have hxi : xs[i]? = some xs[i] := List.getElem?_eq_getElem hi
      have hyj : xs[i].cells[j]? = some xs[i].cells[j] := List.getElem?_eq_getElem hj
      have hsl := hsz _ hxm
      have hk2 : i * s + j < n * s := by
        rw [hsl] at hj
        have : (i + 1) * s ≤ n * s := Nat.mul_le_mul_right _ (by omega)
        rw [Nat.add_mul] at this
        omega
      obtain ⟨k1, k2, _⟩ := hc ad (i * s + j) ha hk2
      obtain ⟨a', kk, hu⟩ := hg _ _ ((blk_add ad _).trans hb') k1 k2
      have hrep := hr i j _ _ hxi hyj
      rw [hu] at hrep
      generalize xs[i].cells[j] = y at hrep he
      cases hrep with
      | any u => simp [AV.emp] at he
      | v x => simp [AV.emp] at he
      | @lst o' s' xs' _ _ _ u' hn' =>
        cases xs' with
        | nil => simp [AV.emp] at he
        | cons x l => simp at hn'
      | arr => simp [AV.emp] at he
  | agg h _ ih => exact .agg h fun j y hj => ih j y hj (awayL_get (by simpa [AV.away] using hx) hj)
  | tup h _ ih => exact .tup h fun j y hj => ih j y hj (awayL_get (by simpa [AV.away] using hx) hj)
  | _ => simp [AV.away] at hx

theorem callW_lend {f : FuncId} {id n cap e sz : Nat} {ag : Bool} {cs rest : List AV} {h : List AObj} {r : AV} {Q : AV → List AObj → Prop} (hS : Sound P f (AV.dpL (.lst .any sz (chunk ag sz n (AV.weakL cs)) :: rest)) r)
    (hobj : h[id]? = some (.cells e cs)) (hsz : 0 < sz) (hag : ag = true ∨ sz = 1) (hle : n * sz ≤ cs.length) (hk : AV.koneL cs = true) (hrf : AV.rfL cs = true)
    (hcs : ∀ y ∈ cs, ∃ o s, y = .lst o s []) (haw : r.dp.away = true) (hQ : Q r.dp h) : CallW P f (.arr id 0 n cap :: rest) h Q := by
  refine ⟨hS.1, fun F m c w vals hF hro hb _ hh ra => ?_⟩
  cases ra with
  | @cons x v xs vs hr0 ho0 hl =>
  have hidl : id < h.length := (List.getElem?_eq_some_iff.1 hobj).1
  have hidn : id < c.no := by rw [hh.no]; exact hidl
  obtain ⟨hbase, hpm, how, cur, hcur, hcl, hcc⟩ := hh.obj id _ hobj
  obtain ⟨g, hgE⟩ : ∃ g, c.ob id = g := ⟨_, rfl⟩
  rw [hgE] at hbase hpm how hcur
  have hgl := get_lt hcur
  let c1 : Ctx := c.setB g cs.length 0
  have c1pm : ∀ b, b ≠ g → c1.pm b = c.pm b := fun b hb => by simp only [c1, Ctx.setB]; rw [if_neg hb]
  have c1ow : ∀ b, c1.ow b = c.ow b := fun b => by
    simp only [c1, Ctx.setB]
    split
    · rename_i e; rw [e, how]
    · rfl
  have c1g : c1.pm g = cs.length := by simp [c1, Ctx.setB]
  have he1 : Ext c w c1 w := {
    base := rfl, os := rfl, tape := rfl, output := rfl, size := Nat.le_refl _, below := fun _ _ => rfl, cell := fun _ _ _ h => h
    pm := fun b _ => by
      by_cases hbg : b = g
      · subst hbg; rw [hpm]; exact Nat.zero_le _
      · rw [c1pm b hbg]; exact Nat.le_refl _
    pmb := fun b hb' => c1pm b fun e => hb' (by rw [e]; exact hbase)
    owb := fun b _ => c1ow b
    no := Nat.le_refl _
    ob := fun _ _ => rfl
    dfr := fun _ h => h }
  have hk1 : Keeps c w c1 w none := by
    intro b cu e0 _ hbc hbo
    have hbg : b ≠ g := by intro e; subst e; exact hbo (by rw [how]; rfl)
    exact ⟨hbc, c1pm b hbg, c1ow b⟩
  have hcurget : ∀ j y, cs[j]? = some y → w.cell? ⟨g, j, none⟩ = some (cur.getD j undef) ∧ Rep c w y (cur.getD j undef) ∧ (cur.getD j undef).oneCell' = true := by
    intro j y hj
    have hjl := (List.getElem?_eq_some_iff.1 hj).1
    obtain ⟨r1, _, r3⟩ := hcc j y hj
    refine ⟨?_, r1, r3⟩
    simp only [World.cell?, hcur, Option.isSome_none, Bool.false_eq_true, if_false]
    rw [Array.getD_eq_getD_getElem?, Array.getElem?_eq_getElem (by omega)]
    rfl
  have hcell : ∀ j y, (AV.weakL cs)[j]? = some y → ∃ u, w.cell? ⟨c1.ob id, j, none⟩ = some u ∧ c1.prot ⟨c1.ob id, j, none⟩ ∧ u.oneCell' = true ∧ Rep c1 w y u := by
    intro j y hj
    rw [weakL_get] at hj
    obtain ⟨z, hz, rfl⟩ := Option.map_eq_some_iff.1 hj
    have hjl := (List.getElem?_eq_some_iff.1 hz).1
    obtain ⟨r0, r1, r3⟩ := hcurget j z hz
    refine ⟨cur.getD j undef, ?_, ?_, r3, (r1.mono he1).weak⟩
    · show w.cell? ⟨c.ob id, j, none⟩ = _
      rw [hgE]; exact r0
    · show j < c1.pm (c.ob id)
      rw [hgE, c1g]; exact hjl
  have hv : Rep c1 w (.lst .any sz (chunk ag sz n (AV.weakL cs))) v := by
    cases hr0 with
    | arr hid hlen hmax =>
      have := rep_chunk (c := c1) (w := w) (id := id) (off := 0) (len := n) (cap := cap) (cs := AV.weakL cs) (o := .any) hsz hag (by rw [weakL_length]; omega) (by rw [koneL_weak]; exact hk) (weakL_rf _ hrf) hcell trivial hlen hmax
      rw [List.drop_zero] at this
      exact this
  have hl1 : RepL P c1 w rest vs := hl.mono he1 hk1
  refine CallsIn.mono (hS.2 F m c1 w (v :: vs) 1 hF hro rfl hb (RepL.cons hv (.none rfl) hl1).dpL) ?_
  rintro _ w2 ⟨u, c2, rfl, hp, hr, ho⟩
  let c3 : Ctx := c2.setB g 0 0
  have c3pm : ∀ b, b ≠ g → c3.pm b = c2.pm b := fun b hb => by simp only [c3, Ctx.setB]; rw [if_neg hb]
  have c3ow : ∀ b, b ≠ g → c3.ow b = c2.ow b := fun b hb => by simp only [c3, Ctx.setB]; rw [if_neg hb]
  have c3g : c3.pm g = 0 ∧ c3.ow g = 0 := by simp [c3, Ctx.setB]
  have hpm3 : ∀ b, b < w.heap.size → c3.pm b = c.pm b := fun b hlt => by
    by_cases hbg : b = g
    · subst hbg; rw [c3g.1, hpm]
    · rw [c3pm b hbg, hp.pm b hlt, c1pm b hbg]
  have how3 : ∀ b, b < w.heap.size → c3.ow b = c.ow b := fun b hlt => by
    by_cases hbg : b = g
    · subst hbg; rw [c3g.2, how]
    · rw [c3ow b hbg, hp.ow b hlt, c1ow b]
  have hlt_of : ∀ b, ¬ c.base b → b < w.heap.size := fun b hb' => Nat.lt_of_not_le fun e => hb' (hb b e)
  have he3 : Ext c w c3 w2 := {
    base := hp.base, os := hp.os, tape := hp.tape, output := hp.output, size := hp.size
    below := fun b hb' => hp.block b (hlt_of b hb')
    cell := fun a u _ hc => by rw [cell_of_heap (hp.block _ (lt_of_cell hc))]; exact hc
    pm := fun b hlt => by rw [hpm3 b hlt]; exact Nat.le_refl _
    pmb := fun b hb' => hpm3 b (hlt_of b hb')
    owb := fun b hb' => how3 b (hlt_of b hb')
    no := by show c.no ≤ c2.no; rw [hp.no]; exact Nat.le_refl _
    ob := fun i _ => by show c2.ob i = c.ob i; rw [hp.ob]; rfl
    dfr := fun b hd => by rw [hp.block b (get_lt hd)]; exact hd }
  have hk3 : Keeps c w c3 w2 none := by
    intro b cu e0 _ hbc _
    have hlt := get_lt hbc
    exact ⟨by rw [hp.block b hlt]; exact hbc, hpm3 b hlt, how3 b hlt⟩
  have hno3 : c3.no = c.no := hp.no
  have hob3 : c3.ob = c.ob := hp.ob
  have hrd : Rep c2 w2 r.dp u := by
    have := hr.dp
    rwa [dp_norm] at this
  refine ⟨u, c3, r.dp, h, rfl, hQ, he3, ⟨by rw [hno3]; exact hh.no, fun i hi => ?_, ?_, fun i o hi => ?_⟩, ?_, .none (AV.tl_dp _)⟩
  · rw [hob3]; rw [hno3] at hi; exact Nat.lt_of_lt_of_le (hh.lt i hi) hp.size
  · rw [hob3, hno3]; exact hh.inj
  · have hi' : i < c.no := by rw [hh.no]; exact (List.getElem?_eq_some_iff.1 hi).1
    have hlt := hh.lt i hi'
    exact ObjRep.mono (T := none) he3 hk3 hi' (hh.obj i o hi) fun _ => ⟨hp.block _ hlt, hpm3 _ hlt, how3 _ hlt⟩
  · refine away_rep (g := g) ?_ ?_ hrd haw
    · intro ad uu hbad hcell2 hprot
      have hlt : ad.block < w.heap.size := by rw [hbad]; exact hgl
      rw [cell_of_heap (hp.block _ hlt)] at hcell2
      have hoff : ad.off < cs.length := by
        have : ad.off < c2.pm ad.block := hprot
        rw [hbad, hp.pm g hgl, c1g] at this
        exact this
      obtain ⟨r0, r1, _⟩ := hcurget ad.off _ (List.getElem?_eq_getElem hoff)
      obtain ⟨o, s, hy⟩ := hcs _ (List.getElem_mem hoff)
      rw [hy] at r1
      have hnone : ad = ⟨g, ad.off, none⟩ := by
        obtain ⟨b, off, sub⟩ := ad
        simp only at hbad
        subst hbad
        cases sub with
        | none => rfl
        | some z => simp [World.cell?, hcur] at hcell2
      rw [hnone, r0] at hcell2
      cases hcell2
      obtain ⟨a, n', cap', _, hu, hn', _⟩ := lst_cells r1
      rw [hu, ← hn']
      exact ⟨_, _, rfl⟩
    · intro ad hne hprot
      show ad.off < c3.pm ad.block
      rw [c3pm _ hne]; exact hprot
end
end Go.AM

namespace Go.AM
open Go.RowKit
set_option linter.unusedSimpArgs false
section
variable {P : Program} {top : Bool} {kf : Nat}

theorem W_frz {code : Code} {Q : Exit → St → Prop} {s : St} (i : Nat) {id off len cap tk : Nat} {x : AV} {h' : List AObj} (hg : getF s.fr i = some (.arr id off len cap)) (htk : tk % 2 = 1)
    (hf : frzArr P s.h tk id off len cap = some (x, h')) (h : Wt top kf P code Q ⟨s.n, putF s.fr i x, h'⟩) : Wt top kf P code Q s := by
  intro F n c w a hF hs
  obtain ⟨u, hu, hr, _⟩ := hs.fr i _ hg
  obtain ⟨c', he, hk, hs', hr', ho'⟩ := frzArr_sound hs htk hf hr
  have hs2 : SimSt P c' w ⟨s.n, putF s.fr i x, h'⟩ a := by
    refine ⟨hs'.n, hs'.base, fun j y hy => ?_, hs'.h, hs'.dfr⟩
    simp only at hy
    rw [getF_putF] at hy
    split at hy
    · rename_i hj
      subst hj
      cases hy
      exact ⟨u, hu, hr', ho'⟩
    · exact hs'.fr j y hy
  have he' := he.toK hF.2.2
  refine wpIn_mono (h F n c' w a (hF.next he') hs2) ?_
  rintro e a' w' ⟨s', c2, q, k1, k2⟩
  exact ⟨s', c2, q, k1, he'.trans k2⟩

theorem frzArr_other {h h' : List AObj} {tk id off len cap : Nat} {x : AV} (hf : frzArr P h tk id off len cap = some (x, h')) {b : Nat} (hb : b ≠ id) : h'[b]? = h[b]? := by
  unfold frzArr at hf
  split at hf
  · split at hf
    · simp only at hf
      split at hf
      · cases hf
        exact List.getElem?_set_ne (by omega)
      · split at hf
        · cases hf
          exact List.getElem?_set_ne (by omega)
        · cases hf
    · cases hf
  · split at hf
    · split at hf
      · cases hf; rfl
      · cases hf
    · cases hf
  · cases hf

theorem W_frzB {code : Code} {Q : Exit → St → Prop} {s : St} (b j : Nat) {ty id off len cap tk : Nat} {cs : List AV} {x : AV} {h' : List AObj} (hb : s.h[b]? = some (.cells ty cs)) (hg : cs[j]? = some (.arr id off len cap)) (hbi : b ≠ id) (htk : tk % 2 = 1)
    (hf : frzArr P s.h tk id off len cap = some (x, h')) (h : Wt top kf P code Q ⟨s.n, s.fr, h'.set b (.cells ty (cs.set j x))⟩) : Wt top kf P code Q s := by
  intro F n c w a hF hs
  obtain ⟨_, _, _, cur0, hcur0, _, hcc⟩ := hs.h.obj b _ hb
  obtain ⟨hr, _, _⟩ := hcc j _ hg
  obtain ⟨c', he, hk, hs', hr', ho'⟩ := frzArr_sound hs htk hf hr
  have hb' : h'[b]? = some (.cells ty cs) := by rw [frzArr_other hf hbi]; exact hb
  have hob := hs'.h.obj b _ hb'
  have hbl : b < h'.length := (List.getElem?_eq_some_iff.1 hb').1
  have hcb : c'.ob b = c.ob b := he.ob b (by rw [hs.h.no]; exact (List.getElem?_eq_some_iff.1 hb).1)
  obtain ⟨o1, o2, o3, cur, hcur, hlen, hcell⟩ := hob
  have hsame : cur0 = cur := by
    rw [hcb, hcur0] at hcur
    cases hcur
    rfl
  subst hsame
  have hs2 : SimSt P c' w ⟨s.n, s.fr, h'.set b (.cells ty (cs.set j x))⟩ a := by
    refine ⟨hs'.n, hs'.base, hs'.fr, ⟨by simp only [List.length_set]; exact hs'.h.no, hs'.h.lt, hs'.h.inj, fun i o hi => ?_⟩, hs'.dfr⟩
    simp only at hi
    rw [List.getElem?_set] at hi
    split at hi
    · rename_i hbi2
      subst hbi2
      cases hi
      refine ⟨o1, o2, o3, cur0, hcur, by rw [List.length_set]; exact hlen, fun k y hy => ?_⟩
      rw [List.getElem?_set] at hy
      split at hy
      · rename_i hjk
        subst hjk
        split at hy
        · cases hy
          exact ⟨hr', ho', (hcell j _ hg).2.2⟩
        · cases hy
      · exact hcell k y hy
    · exact hs'.h.obj i o hi
  have he' := he.toK hF.2.2
  refine wpIn_mono (h F n c' w a (hF.next he') hs2) ?_
  rintro e a' w' ⟨s', c2, q, k1, k2⟩
  exact ⟨s', c2, q, k1, he'.trans k2⟩

theorem W_frzP {code : Code} {Q : Exit → St → Prop} {s : St} (b j : Nat) {ty id off len cap tk : Nat} {cs : List AV} {x : AV} {h' : List AObj} (hb : s.h[b]? = some (.cells ty cs)) (hg : cs[j]? = some (.arr id off len cap)) (hbi : b ≠ id) (htk : tk % 2 = 1)
    (hf : frzArr P s.h tk id off len cap = some (x, h')) (h : Wt top kf P code Q ⟨s.n, s.fr, h'.set b (.cells ty (cs.set j x.plain))⟩) : Wt top kf P code Q s := by
  intro F n c w a hF hs
  obtain ⟨_, _, _, cur0, hcur0, _, hcc⟩ := hs.h.obj b _ hb
  obtain ⟨hr, _, _⟩ := hcc j _ hg
  obtain ⟨c', he, hk, hs', hr', ho'⟩ := frzArr_sound hs htk hf hr
  have hb' : h'[b]? = some (.cells ty cs) := by rw [frzArr_other hf hbi]; exact hb
  have hob := hs'.h.obj b _ hb'
  have hbl : b < h'.length := (List.getElem?_eq_some_iff.1 hb').1
  have hcb : c'.ob b = c.ob b := he.ob b (by rw [hs.h.no]; exact (List.getElem?_eq_some_iff.1 hb).1)
  obtain ⟨o1, o2, o3, cur, hcur, hlen, hcell⟩ := hob
  have hsame : cur0 = cur := by
    rw [hcb, hcur0] at hcur
    cases hcur
    rfl
  subst hsame
  have hs2 : SimSt P c' w ⟨s.n, s.fr, h'.set b (.cells ty (cs.set j x.plain))⟩ a := by
    refine ⟨hs'.n, hs'.base, hs'.fr, ⟨by simp only [List.length_set]; exact hs'.h.no, hs'.h.lt, hs'.h.inj, fun i o hi => ?_⟩, hs'.dfr⟩
    simp only at hi
    rw [List.getElem?_set] at hi
    split at hi
    · rename_i hbi2
      subst hbi2
      cases hi
      refine ⟨o1, o2, o3, cur0, hcur, by rw [List.length_set]; exact hlen, fun k y hy => ?_⟩
      rw [List.getElem?_set] at hy
      split at hy
      · rename_i hjk
        subst hjk
        split at hy
        · cases hy
          exact ⟨hr'.plain, .none (tl_plain x), (hcell j _ hg).2.2⟩
        · cases hy
      · exact hcell k y hy
    · exact hs'.h.obj i o hi
  have he' := he.toK hF.2.2
  refine wpIn_mono (h F n c' w a (hF.next he') hs2) ?_
  rintro e a' w' ⟨s', c2, q, k1, k2⟩
  exact ⟨s', c2, q, k1, he'.trans k2⟩

theorem putF_sim {c : Ctx} {w : World} {s : St} {a : Act} (hs : SimSt P c w s a) (i : Nat) {x : AV} {u : Value} (hu : a.tmps[i]? = some u) (hr : Rep c w x u) (ho : Own P c w x u) : SimSt P c w ⟨s.n, putF s.fr i x, s.h⟩ a := by
  refine ⟨hs.n, hs.base, fun j y hy => ?_, hs.h, hs.dfr⟩
  simp only at hy
  rw [getF_putF] at hy
  split at hy
  · rename_i hj
    subst hj
    cases hy
    exact ⟨u, hu, hr, ho⟩
  · exact hs.fr j y hy

theorem tipArr_sound {c : Ctx} {w : World} {s : St} {a : Act} {tk id len cap ty sz : Nat} {ag : Bool} {cs : List AV} {u : Value} (hs : SimSt P c w s a) (htk : tk % 2 = 1) (hobj : s.h[id]? = some (.cells ty cs)) (hty : tyI P ty = some (ag, sz)) (hsz : 0 < sz) (hag : ag = true ∨ sz = 1)
    (hfull : cap * sz = cs.length) (hk : AV.koneL (cs.take (len * sz)) = true) (hrf : AV.rfL (cs.take (len * sz)) = true) (hr : Rep c w (.arr id 0 len cap) u) :
    ∃ c', Ext c w c' w ∧ Keeps c w c' w none ∧ SimSt P c' w { s with h := s.h.set id (.froz ty (AV.weakL (cs.take (len * sz)))) } a ∧ Rep c' w (.lst (.tip ty tk) sz (chunk ag sz len (AV.weakL (cs.take (len * sz))))) u ∧ Own P c' w (.lst (.tip ty tk) sz (chunk ag sz len (AV.weakL (cs.take (len * sz))))) u := by
  cases hr with
  | arr hid hlen hmax =>
      obtain ⟨hbase, hpm, how, cur, hcur, hl, hcs⟩ := hs.h.obj id _ hobj
      have hle : 0 + len * sz ≤ cs.length := by rw [← hfull, Nat.zero_add]; exact Nat.mul_le_mul_right _ hlen
      rw [← Nat.zero_add (len * sz)] at hk hrf ⊢
      let c1 : Ctx := c.setB (c.ob id) (0 + len * sz) tk
      have hlt := hs.h.lt id hid
      have he : Ext c w c1 w := {
        base := rfl, os := rfl, tape := rfl, output := rfl, size := Nat.le_refl _, below := fun _ _ => rfl, cell := fun _ _ _ h => h
        pm := fun k _ => by
          simp only [c1, Ctx.setB]
          split
          · rename_i hh; subst hh; rw [hpm]; exact Nat.zero_le _
          · exact Nat.le_refl _
        pmb := fun k hk => by simp only [c1, Ctx.setB]; rw [if_neg (fun e => hk (by rw [e]; exact hbase))]
        owb := fun k hk => by simp only [c1, Ctx.setB]; rw [if_neg (fun e => hk (by rw [e]; exact hbase))]
        no := Nat.le_refl _
        ob := fun _ _ => rfl
        dfr := fun _ h => h }
      have hkp : Keeps c w c1 w none := by
        intro g cur0 e0 _ hg hne
        have hgn : g ≠ c.ob id := by intro hh; subst hh; rw [how] at hne; exact hne rfl
        exact ⟨hg, by simp only [c1, Ctx.setB]; rw [if_neg hgn], by simp only [c1, Ctx.setB]; rw [if_neg hgn]⟩
      have hcell : ∀ j y, (AV.weakL (cs.take (0 + len * sz)))[j]? = some y → ∃ u, w.cell? ⟨c1.ob id, j, none⟩ = some u ∧ c1.prot ⟨c1.ob id, j, none⟩ ∧ u.oneCell' = true ∧ Rep c1 w y u := by
        intro j y hj
        rw [weakL_get] at hj
        obtain ⟨z, hz, rfl⟩ := Option.map_eq_some_iff.1 hj
        have hjm : j < 0 + len * sz := by
          have := (List.getElem?_eq_some_iff.1 hz).1
          simp at this; omega
        rw [List.getElem?_take, if_pos hjm] at hz
        have hjl := (List.getElem?_eq_some_iff.1 hz).1
        obtain ⟨r1, _, r3⟩ := hcs j z hz
        refine ⟨cur.getD j undef, ?_, ?_, r3, (r1.mono he).weak⟩
        · show w.cell? ⟨c.ob id, j, none⟩ = _
          simp only [World.cell?, hcur, Option.isSome_none, Bool.false_eq_true, if_false]
          rw [Array.getD_eq_getD_getElem?, Array.getElem?_eq_getElem (by omega)]
          rfl
        · show j < (if c.ob id = c.ob id then _ else _)
          rw [if_pos rfl]; exact hjm
      have hfin : SimSt P c1 w { s with h := s.h.set id (.froz ty (AV.weakL (cs.take (0 + len * sz)))) } a := by
        refine ⟨hs.n, hs.base, hs.fr.mono (T := none) he hkp, ⟨by rw [List.length_set]; exact hs.h.no, hs.h.lt, hs.h.inj, ?_⟩, hs.dfr.mono he⟩
        intro i o ho
        rw [List.getElem?_set] at ho
        split at ho
        · rename_i hi
          subst hi
          split at ho
          · cases ho; exact hcell
          · cases ho
        · rename_i hi
          have hi' : i < c.no := by rw [hs.h.no]; exact (List.getElem?_eq_some_iff.1 ho).1
          refine ObjRep.mono (P := P) (T := none) he hkp hi' (hs.h.obj i o ho) (fun _ => ⟨rfl, ?_, ?_⟩) <;> simp only [c1, Ctx.setB] <;> rw [if_neg (hs.h.inj i id hi' hid (Ne.symm hi))]
      have hlt2 : (AV.weakL (cs.take (0 + len * sz))).length = 0 + len * sz := by rw [weakL_length, List.length_take]; omega
      have hrep := rep_chunk (c := c1) (w := w) (id := id) (off := 0) (len := len) (cap := cap) (o := .tip ty tk) hsz hag (by rw [hlt2]; exact Nat.le_refl _) (by rw [koneL_weak]; exact hk) (weakL_rf _ hrf) hcell (fun h => by omega) hlen hmax
      rw [List.drop_zero] at hrep
      refine ⟨c1, he, hkp, hfin, hrep, .tip (by omega) (tyI_cells hty).symm (.inr ⟨c.ob id, cur, rfl, hbase, hcur, ?_, ?_, ?_, ?_⟩)⟩
      · rw [tyI_cells hty, hfull, hl]
      · simp only [c1, Ctx.setB]; rw [if_pos trivial, tyI_cells hty, Nat.zero_add]
      · simp only [c1, Ctx.setB]; rw [if_pos trivial]
      · intro v hv
        obtain ⟨j, hj, rfl⟩ := Array.mem_iff_getElem.1 hv
        have hj2 : j < cs.length := by rw [hl]; exact hj
        have := (hcs j _ (List.getElem?_eq_getElem hj2)).2.2
        rwa [Array.getD_eq_getD_getElem?, Array.getElem?_eq_getElem hj] at this
theorem W_tip {code : Code} {Q : Exit → St → Prop} {s : St} (i : Nat) {id len cap tk ty sz : Nat} {ag : Bool} {cs : List AV} (hg : getF s.fr i = some (.arr id 0 len cap)) (htk : tk % 2 = 1) (hobj : s.h[id]? = some (.cells ty cs)) (hty : tyI P ty = some (ag, sz)) (hsz : 0 < sz) (hag : ag = true ∨ sz = 1)
    (hfull : cap * sz = cs.length) (hk : AV.koneL (cs.take (len * sz)) = true) (hrf : AV.rfL (cs.take (len * sz)) = true)
    (h : Wt top kf P code Q ⟨s.n, putF s.fr i (.lst (.tip ty tk) sz (chunk ag sz len (AV.weakL (cs.take (len * sz))))), s.h.set id (.froz ty (AV.weakL (cs.take (len * sz))))⟩) : Wt top kf P code Q s := by
  intro F n c w a hF hs
  obtain ⟨u, hu, hr, _⟩ := hs.fr i _ hg
  obtain ⟨c', he, hk2, hs', hr', ho'⟩ := tipArr_sound hs htk hobj hty hsz hag hfull hk hrf hr
  have hs2 := putF_sim hs' i hu hr' ho'
  have he' := he.toK hF.2.2
  refine wpIn_mono (h F n c' w a (hF.next he') hs2) ?_
  rintro e a' w' ⟨s', c2, q, k1, k2⟩
  exact ⟨s', c2, q, k1, he'.trans k2⟩

theorem W_nilCases {code : Code} {Q : Exit → St → Prop} {s : St} (i : Nat) {sz : Nat} (hg : getF s.fr i = some (.lst .any sz [])) (h1 : Wt top kf P code Q ⟨s.n, putF s.fr i (.lst .nil sz []), s.h⟩)
    (h2 : ∀ ad cap, cap ≤ maxLen → Wt top kf P code Q ⟨s.n, putF s.fr i (.v (.slice (some ad) 0 cap)), s.h⟩) : Wt top kf P code Q s := by
  intro F n c w a hF hs
  obtain ⟨u, hu, hr, _⟩ := hs.fr i _ hg
  obtain ⟨aa, n0, cap, ux, rfl, hn, hcap, hmax, hs0, hsx, hrx, hzx, hnil, hcx, hrr⟩ := lst_cells hr
  have hn0 : n0 = 0 := by simpa using hn.symm
  subst hn0
  cases aa with
  | none =>
    obtain ⟨_, hc0⟩ := hzx rfl
    subst hc0
    exact h1 F n c w a hF (putF_sim hs i hu (.lst (fun _ => undef) rfl (Nat.le_refl _) (Nat.zero_le _) (by simp) (by simp) rfl (fun _ => ⟨rfl, rfl⟩) rfl (by simp) (by simp)) (.none rfl))
  | some ad => exact h2 ad cap hmax F n c w a hF (putF_sim hs i hu (.v _) (.none rfl))

theorem W_unnil {code : Code} {Q : Exit → St → Prop} {s : St} (i sz : Nat) {ad : Addr} {cap : Nat} (hg : getF s.fr i = some (.v (.slice (some ad) 0 cap))) (hc : cap ≤ maxLen) (h : Wt top kf P code Q ⟨s.n, putF s.fr i (.lst .any sz []), s.h⟩) : Wt top kf P code Q s := by
  intro F n c w a hF hs
  obtain ⟨u, hu, hr, _⟩ := hs.fr i _ hg
  cases hr with
  | v => exact h F n c w a hF (putF_sim hs i hu (.lst (fun _ => undef) rfl (Nat.zero_le _) hc (by simp) (by simp) rfl (fun e => by cases e) trivial (by simp) (by simp)) (.none rfl))
end

theorem W_seqC {c1 c2 : Code} {Q : Exit → St → Prop} {s : St} {top : Bool} {kf : Nat} {P : Program} (K : St → Prop) (h1 : Wt top kf P c1 (onNormal K fun _ _ => False) s) (h2 : ∀ s, K s → Wt top kf P c2 Q s) : Wt top kf P (.seq c1 c2) Q s := by
  refine W_seq (h1.mono fun e s h => ?_)
  cases e with
  | normal => exact h2 s h
  | _ => exact h.elim
theorem W_seqK {c1 c2 : Code} {Q : Exit → St → Prop} {s : St} {top : Bool} {kf : Nat} {P : Program} (K : St → Prop) (h1 : Wt top kf P c1 (onNormal K Q) s) (h2 : ∀ s, K s → Wt top kf P c2 Q s) : Wt top kf P (.seq c1 c2) Q s := by
  refine W_seq (h1.mono fun e s h => ?_)
  cases e with
  | normal => exact h2 s h
  | _ => exact h
theorem W_lastC {c1 : Code} {Q : Exit → St → Prop} {s : St} {top : Bool} {kf : Nat} {P : Program} (K : St → Prop) (h1 : Wt top kf P c1 (onNormal K fun _ _ => False) s) (h2 : ∀ s, K s → Q .normal s) : Wt top kf P c1 Q s := by
  refine h1.mono fun e s h => ?_
  cases e with
  | normal => exact h2 s h
  | _ => exact h.elim
theorem W_lastK {c1 : Code} {Q : Exit → St → Prop} {s : St} {top : Bool} {kf : Nat} {P : Program} (K : St → Prop) (h1 : Wt top kf P c1 (onNormal K Q) s) (h2 : ∀ s, K s → Q .normal s) : Wt top kf P c1 Q s := by
  refine h1.mono fun e s h => ?_
  cases e with
  | normal => exact h2 s h
  | _ => exact h
theorem W_perm {c1 : Code} {Q : Exit → St → Prop} {n : Nat} {fr fr' : List (Nat × AV)} {h : List AObj} {top : Bool} {kf : Nat} {P : Program} (hg : ∀ i, getF fr' i = getF fr i) (h1 : Wt top kf P c1 Q ⟨n, fr', h⟩) : Wt top kf P c1 Q ⟨n, fr, h⟩ :=
  W_conv (t := ⟨n, fr', h⟩) (fun c w a hs => ⟨hs.n, hs.base, fun i x hx => hs.fr i x (by rw [← hg i]; exact hx), hs.h, hs.dfr⟩) h1
end Go.AM

namespace Go.AM
open Go.RowKit
set_option linter.unusedSimpArgs false

section
variable {P : Program} {top : Bool} {kf : Nat}

theorem Rep.maxLen {c : Ctx} {w : World} {o : Fl} {s : Nat} {xs : List AV} {u : Value} (h : Rep c w (.lst o s xs) u) : xs.length ≤ maxLen := by
  obtain ⟨_, n, cap, _, _, h1, h2, h3, _⟩ := lst_cells h
  omega

theorem W_len {code : Code} {Q : Exit → St → Prop} {s : St} (i : Nat) {o : Fl} {sz : Nat} {xs : List AV} (hg : getF s.fr i = some (.lst o sz xs)) (h : xs.length ≤ 9223372036854775807 → Wt top kf P code Q s) : Wt top kf P code Q s := by
  intro F n c w a hF hs
  obtain ⟨u, _, hr, _⟩ := hs.fr i _ hg
  exact h hr.maxLen F n c w a hF hs

def FrOk : List (Nat × AV) → List (Nat × AV) → Prop
  | [], _ => True
  | (i, x) :: l, fr => getF fr i = some x ∧ FrOk l fr
theorem FrOk.get {l fr : List (Nat × AV)} (h : FrOk l fr) {i : Nat} {x : AV} (hx : getF l i = some x) : getF fr i = some x := by
  induction l with
  | nil => simp [getF] at hx
  | cons p l ih =>
    obtain ⟨j, y⟩ := p
    simp only [getF] at hx
    split at hx
    · rename_i e; cases hx; subst e; exact h.1
    · exact ih h.2 hx

def AtS (n : Nat) (l : List (Nat × AV)) (H : List AObj) (s : St) : Prop := s.n = n ∧ s.h = H ∧ FrOk l s.fr
theorem W_at {code : Code} {Q : Exit → St → Prop} {s : St} {n : Nat} {l : List (Nat × AV)} {H : List AObj} (h : AtS n l H s) (hw : Wt top kf P code Q ⟨n, l, H⟩) : Wt top kf P code Q s := by
  obtain ⟨sn, fr, sh⟩ := s
  obtain ⟨h1, h2, h3⟩ := h
  simp only at h1 h2 h3
  subst h1 h2
  exact W_conv (t := ⟨sn, l, sh⟩) (fun c w a hs => ⟨hs.n, hs.base, fun i x hx => hs.fr i x (h3.get hx), hs.h, hs.dfr⟩) hw

theorem W_nilTip {code : Code} {Q : Exit → St → Prop} {s : St} (i e T : Nat) {sz : Nat} (hg : getF s.fr i = some (.lst .nil sz [])) (he : sz = P.cellsOf e) (hT : T % 2 = 1)
    (h : Wt top kf P code Q ⟨s.n, putF s.fr i (.lst (.tip e T) sz []), s.h⟩) : Wt top kf P code Q s := by
  refine W_conv (fun c w a hs => ?_) h
  obtain ⟨u, hu, hr, _⟩ := hs.fr i _ hg
  refine putF_sim hs i hu ?_ ?_
  · exact hr.lst_flag fun _ hT2 => by omega
  · cases hr with
    | lst u' hn hcap hmax hs' hsz hrf hz hnil hc hr' =>
      have h0 := hz hnil
      refine .tip (by omega) he (.inl ⟨hnil, h0.1, h0.2⟩)

theorem W_tok {code : Code} {Q : Exit → St → Prop} {s : St} (i e T U : Nat) {sz : Nat} {xs : List AV} (hg : getF s.fr i = some (.lst (.tip e T) sz xs)) (hU : U % 2 = 1)
    (h : Wt top kf P code Q ⟨s.n, putF (killF T s.fr) i (.lst (.tip e U) sz xs), s.h.map (AObj.kill T)⟩) : Wt top kf P code Q s := by
  intro F n c w a hF hs
  obtain ⟨u, hu, hr, ho⟩ := hs.fr i _ hg
  obtain ⟨c', hc'⟩ : ∃ c' : Ctx, c' = { c with ow := fun g => open Classical in if c.base g ∧ c.ow g = T then U else c.ow g } := ⟨_, rfl⟩
  have hT0 : T ≠ 0 := by
    cases ho with
    | none h => simp [AV.tl] at h
    | tip hT _ _ => exact hT
  have he : Ext c w c' w := by
    subst hc'
    refine ⟨rfl, rfl, rfl, rfl, Nat.le_refl _, fun _ _ => rfl, fun _ _ _ h => h, fun _ _ => Nat.le_refl _, fun _ _ => rfl, ?_, Nat.le_refl _, fun _ _ => rfl, fun _ h => h⟩
    intro b hb
    simp [hb]
  have hk : Keeps c w c' w (some T) := by
    intro g cur e hg hc hne
    refine ⟨hc, by subst hc'; rfl, ?_⟩
    subst hc'
    simp only [Option.getD_some] at hne
    simp only
    rw [if_neg]
    rintro ⟨_, h⟩
    exact hne h.symm
  have hs1 := hs.mono he hk (by subst hc'; rfl) (by
    intro j o hj hl
    obtain ⟨h1, h2, h3⟩ := hs.h.live hj hl
    refine ⟨rfl, by subst hc'; rfl, ?_⟩
    subst hc'
    simp only
    rw [if_neg]
    rintro ⟨_, h⟩
    omega)
  have ho' : Own P c' w (.lst (.tip e U) sz xs) u := by
    cases ho with
    | none h => simp [AV.tl] at h
    | tip hT hsz ht =>
      refine .tip (by omega) hsz ?_
      rcases ht with h | ⟨g, cur, h1, h2, h3, h4, h5, h6, h7⟩
      · exact .inl h
      · refine .inr ⟨g, cur, h1, by subst hc'; exact h2, h3, h4, by subst hc'; exact h5, ?_, h7⟩
        subst hc'
        simp [h2, h6]
  have hr' : Rep c' w (.lst (.tip e U) sz xs) u := (hr.mono he).lst_flag fun _ hT2 => by omega
  have hs2 : SimSt P c' w ⟨s.n, putF (killF T s.fr) i (.lst (.tip e U) sz xs), s.h.map (AObj.kill T)⟩ a :=
    putF_sim (s := ⟨s.n, killF T s.fr, s.h.map (AObj.kill T)⟩) hs1 i hu hr' ho'
  have he' := he.toK hF.2.2
  refine wpIn_mono (h F n c' w a (hF.next he') hs2) ?_
  rintro e a' w' ⟨s', c2, q, k1, k2⟩
  exact ⟨s', c2, q, k1, he'.trans k2⟩
end
end Go.AM

namespace Go.AM
open Go.RowKit
set_option linter.unusedSimpArgs false

class Enc (α : Type) where
  enc : α → AV
  sz : Nat
  pos : 0 < sz
  ck : ∀ x, (enc x).cellsK = some (enc x).cells
  len : ∀ x, (enc x).cells.length = sz
  rf : ∀ x, (enc x).rf = true
  dp : ∀ x, (enc x).dp = enc x
  weak : ∀ x, (enc x).weak = enc x

mutual
theorem toks_tl : (x : AV) → x.tl = true → x.toks = []
  | .lst (.tip _ _) _ _, h => by simp [AV.tl] at h
  | .lst .any _ _, _ => rfl
  | .lst .nil _ _, _ => rfl
  | .lst .ex _ _, _ => rfl
  | .agg xs, h => by simp only [AV.toks, toksL_tl xs h]
  | .tup xs, h => by simp only [AV.toks, toksL_tl xs h]
  | .any, _ => rfl
  | .v _, _ => rfl
  | .ro _, _ => rfl
  | .loc _ _, _ => rfl
  | .arr _ _ _ _, _ => rfl
  | .fn _ _ _, _ => rfl
  | .mp _, _ => rfl
  | .yld _, _ => rfl
theorem toksL_tl : (xs : List AV) → AV.tlL xs = true → AV.toksL xs = []
  | [], _ => rfl
  | x :: xs, h => by
    simp only [AV.tlL, Bool.and_eq_true] at h
    simp only [AV.toksL, toks_tl x h.1, toksL_tl xs h.2, List.append_nil]
end
mutual
theorem under_rf (m : Nat) : (x : AV) → x.rf = true → x.under m = true
  | .loc _ _, h => by simp [AV.rf] at h
  | .arr _ _ _ _, h => by simp [AV.rf] at h
  | .mp _, h => by simp [AV.rf] at h
  | .yld _, h => by simp [AV.rf] at h
  | .fn _ a b, h => by
    simp only [AV.rf, Bool.and_eq_true] at h
    simp only [AV.under, underL_rf m a h.1, underL_rf m b h.2, Bool.and_self]
  | .agg xs, h => underL_rf m xs h
  | .tup xs, h => underL_rf m xs h
  | .any, _ => rfl
  | .v _, _ => rfl
  | .ro _, _ => rfl
  | .lst _ _ _, _ => rfl
theorem underL_rf (m : Nat) : (xs : List AV) → AV.rfL xs = true → AV.underL m xs = true
  | [], _ => rfl
  | x :: xs, h => by
    simp only [AV.rfL, Bool.and_eq_true] at h
    simp only [AV.underL, under_rf m x h.1, underL_rf m xs h.2, Bool.and_self]
end

mutual
theorem norm_tl' (T : Nat) : (x : AV) → x.tl = true → x.norm T = x
  | .lst (.tip _ _) _ _, h => by simp [AV.tl] at h
  | .lst .any _ _, _ => rfl
  | .lst .nil _ _, _ => rfl
  | .lst .ex _ _, _ => rfl
  | .agg xs, h => by simp only [AV.norm, normL_tl T xs h]
  | .tup xs, h => by simp only [AV.norm, normL_tl T xs h]
  | .any, _ => rfl
  | .v _, _ => rfl
  | .ro _, _ => rfl
  | .loc _ _, _ => rfl
  | .arr _ _ _ _, _ => rfl
  | .fn _ _ _, _ => rfl
  | .mp _, _ => rfl
  | .yld _, _ => rfl
theorem normL_tl (T : Nat) : (xs : List AV) → AV.tlL xs = true → AV.normL T xs = xs
  | [], _ => rfl
  | x :: xs, h => by
    simp only [AV.tlL, Bool.and_eq_true] at h
    simp only [AV.normL, norm_tl' T x h.1, normL_tl T xs h.2]
end
section
variable {α : Type} [Enc α]
def encs (l : List α) : List AV := l.map Enc.enc
@[simp] theorem encs_length (L : List α) : (encs L).length = L.length := by simp [encs]
@[simp] theorem encs_nil : encs ([] : List α) = [] := rfl
theorem encs_cons (b : α) (L : List α) : encs (b :: L) = Enc.enc b :: encs L := rfl
theorem encs_append (L M : List α) : encs (L ++ M) = encs L ++ encs M := by simp [encs]
theorem encs_take (L : List α) (n : Nat) : encs (L.take n) = (encs L).take n := by simp [encs]
theorem encs_drop (L : List α) (n : Nat) : encs (L.drop n) = (encs L).drop n := by simp [encs]
theorem encs_get (L : List α) (i : Nat) : (encs L)[i]? = (L[i]?).map Enc.enc := by simp [encs]
theorem encs_set (L : List α) (i : Nat) (x : α) : encs (L.set i x) = (encs L).set i (Enc.enc x) := by simp [encs, List.map_set]
@[simp] theorem rfL_encs (L : List α) : AV.rfL (encs L) = true := by
  induction L with
  | nil => rfl
  | cons x L ih => simp [encs_cons, AV.rfL, Enc.rf, ih]
theorem tl_enc (x : α) : (Enc.enc x).tl = true := by rw [← Enc.dp x]; exact AV.tl_dp _
@[simp] theorem tlL_encs (L : List α) : AV.tlL (encs L) = true := by
  induction L with
  | nil => rfl
  | cons x L ih => simp [encs_cons, AV.tlL, tl_enc, ih]
@[simp] theorem toksL_encs (L : List α) : AV.toksL (encs L) = [] := toksL_tl _ (tlL_encs L)
@[simp] theorem underL_encs (m : Nat) (L : List α) : AV.underL m (encs L) = true := underL_rf m _ (rfL_encs L)
@[simp] theorem killSL_encs (T : List Nat) (L : List α) : AV.killSL T (encs L) = encs L := killSL_tl _ (tlL_encs L)
@[simp] theorem killL_encs (T : Nat) (L : List α) : AV.killL T (encs L) = encs L := killL_tl _ (tlL_encs L)
@[simp] theorem normL_encs (T : Nat) (L : List α) : AV.normL T (encs L) = encs L := normL_tl T _ (tlL_encs L)
@[simp] theorem weakL_encs (L : List α) : AV.weakL (encs L) = encs L := by
  induction L with
  | nil => rfl
  | cons x L ih => simp [encs_cons, AV.weakL, Enc.weak, ih]
@[simp] theorem dpL_encs (L : List α) : AV.dpL (encs L) = encs L := by
  induction L with
  | nil => rfl
  | cons x L ih => simp [encs_cons, AV.dpL, Enc.dp, ih]

def cellsE (L : List α) : List AV := L.flatMap fun x => (Enc.enc x).cells
theorem catK_encs (L : List α) : catK (Enc.sz α) (encs L) = some (cellsE L) := by
  induction L with
  | nil => rfl
  | cons x L ih => simp only [encs_cons, catK, Enc.ck, Option.bind_some, Enc.len, if_true, ih, Option.map_some, cellsE, List.flatMap_cons]
end
@[simp] theorem rf_lst (o : Fl) (s : Nat) (xs : List AV) : AV.rf (.lst o s xs) = true := rfl

instance : Enc Int := ⟨fun n => .v (.int .i64 n), 1, Nat.one_pos, fun _ => by simp, fun _ => rfl, fun _ => rfl, fun _ => rfl, fun _ => rfl⟩
instance : Enc UInt8 := ⟨fun b => .v (.int .u8 b.toNat), 1, Nat.one_pos, fun _ => by simp, fun _ => rfl, fun _ => rfl, fun _ => rfl, fun _ => rfl⟩
instance : Enc Bool := ⟨fun b => .v (.bool b), 1, Nat.one_pos, fun _ => by simp, fun _ => rfl, fun _ => rfl, fun _ => rfl, fun _ => rfl⟩
instance {α : Type} [Enc α] : Enc (List α) := ⟨fun l => .lst .any (Enc.sz α) (encs l), 1, Nat.one_pos, fun _ => by simp, fun _ => rfl, fun _ => rfl, fun l => by simp [AV.dp], fun _ => rfl⟩
@[simp] theorem enc_list {α : Type} [Enc α] (l : List α) : Enc.enc l = .lst .any (Enc.sz α) (encs l) := rfl
@[simp] theorem enc_int (n : Int) : Enc.enc n = .v (.int .i64 n) := rfl
@[simp] theorem enc_u8 (b : UInt8) : Enc.enc b = .v (.int .u8 b.toNat) := rfl
@[simp] theorem enc_bool (b : Bool) : Enc.enc b = .v (.bool b) := rfl
@[simp] theorem sz_u8 : Enc.sz UInt8 = 1 := rfl
@[simp] theorem sz_int : Enc.sz Int = 1 := rfl
@[simp] theorem sz_bool : Enc.sz Bool = 1 := rfl
@[simp] theorem sz_list {α : Type} [Enc α] : Enc.sz (List α) = 1 := rfl
@[simp] theorem encs_byL (l : List UInt8) : encs l = byL l := rfl
@[simp] theorem encs_bbL (l : List (List UInt8)) : encs l = bbL l := rfl
@[simp] theorem koneL_encs {α : Type} [Enc α] (L : List (List α)) : AV.koneL (encs L) = true := by
  induction L with
  | nil => rfl
  | cons x L ih => simp [encs_cons, AV.koneL, AV.kone, ih]

structure Str where
  b : List UInt8
deriving DecidableEq
instance : Enc Str := ⟨fun s => .v (.string ⟨s.b.toArray⟩), 1, Nat.one_pos, fun _ => by simp, fun _ => rfl, fun _ => rfl, fun _ => rfl, fun _ => rfl⟩
@[simp] theorem enc_str (s : Str) : Enc.enc s = .v (.string ⟨s.b.toArray⟩) := rfl
@[simp] theorem sz_str : Enc.sz Str = 1 := rfl

def u8of (x : Int) : UInt8 := UInt8.ofNat (x % 256).toNat
theorem u8of_wrap (x : Int) : IntKind.u8.wrap x = ((u8of x).toNat : Int) := by
  have h1 : 0 ≤ x % 256 := Int.emod_nonneg _ (by decide)
  have h2 : x % 256 < 256 := Int.emod_lt_of_pos _ (by decide)
  have h3 : (u8of x).toNat = (x % 256).toNat := by
    unfold u8of
    rw [UInt8.toNat_ofNat']
    omega
  have h4 : IntKind.u8.wrap x = x % 256 := by
    simp [IntKind.wrap, IntKind.signed, IntKind.bits]
  rw [h4, h3]
  omega
end Go.AM

namespace Go.AM
section
variable {P : Program}
def seqM (ops : Array Oper) : Nat → Nat → Array Bool → Bool
  | 0, _, _ => true
  | fuel + 1, k, listed => Region.ready .any ops listed == [k] && seqM ops fuel (k + 1) (listed.setIfInBounds k true)
def setM : Nat → Nat → Array Bool → Array Bool
  | 0, _, listed => listed
  | fuel + 1, k, listed => setM fuel (k + 1) (listed.setIfInBounds k true)
def closedB (ops : Array Oper) (L : Array Bool) : Bool :=
  (List.range ops.size).all fun j => !(L.getD j false) || match ops[j]? with
    | some o => o.after.all fun e => !(Region.binds .any e) || L.getD e.on false
    | none => true
theorem closedB_ok {ops : Array Oper} {L : Array Bool} (h : closedB ops L = true) : ClosedL ops L := by
  intro j oj ho hl e he hb
  have hj : j < ops.size := (Array.getElem?_eq_some_iff.1 ho).1
  simp only [closedB, List.all_eq_true, List.mem_range] at h
  have := h j hj
  rw [hl, ho] at this
  simp only [Bool.not_true, Bool.false_or, Array.all_eq_true] at this
  obtain ⟨i, hi, rfl⟩ := Array.mem_iff_getElem.1 he
  have h2 := this i hi
  rw [hb] at h2
  simpa using h2
def drawM (ops : Array Oper) (pre mid : Nat) : Bool := decide (pre ≤ mid) && decide (mid ≤ ops.size) && lexS ops (preL ops pre) pre 0 (Array.replicate ops.size false) && seqM ops (mid - pre) pre (preL ops pre) &&
  closedB ops (setM (mid - pre) pre (preL ops pre)) && lexD ops (ops.size - mid) mid (setM (mid - pre) pre (preL ops pre)) && ops.toList.all fun o => dcls o != 9
variable {F : Fence} {n : Nat}
theorem seqM_wp {ops : Array Oper} {L2 : Array Bool} {R : St → Prop} {Qw : Exit → Act → World → Prop} {c0 : Ctx} {w0 : World} (hF : Good F) (rest : Nat) (hT : ∀ (s : St) (c : Ctx) (w : World) (a : Act), Ext c0 w0 c w → SimSt P c w s a → R s →
      wpAnyIn F n P .any ops Qw rest L2 a w) : ∀ (fuel k : Nat) (listed : Array Bool) (s : St) (c : Ctx) (w : World) (a : Act), k + fuel ≤ ops.size → seqM ops fuel k listed = true → setM fuel k listed = L2 → Ext c0 w0 c w → SimSt P c w s a →
    runA P ops.toList ((ops.toList.drop k).take fuel) s R → wpAnyIn F n P .any ops Qw (fuel + rest) listed a w
  | 0, k, listed, s, c, w, a, hk, hB, hL, he, hs, h => by
    simp only [setM] at hL
    subst hL
    rw [Nat.zero_add]
    exact hT s c w a he hs h
  | fuel + 1, k, listed, s, c, w, a, hk, hB, hL, he, hs, h => by
    simp only [seqM, Bool.and_eq_true, beq_iff_eq] at hB
    obtain ⟨hr, hB'⟩ := hB
    rw [Nat.add_right_comm]
    refine ⟨fun h0 => (by rw [hr] at h0; cases h0), fun i hi => ?_⟩
    rw [hr] at hi
    simp at hi
    subst hi
    have hlt : i < ops.toList.length := by simp; omega
    rw [List.drop_eq_getElem_cons hlt, List.take_succ_cons] at h
    have ho : ops[i]? = some (ops.toList[i]) := by rw [← Array.getElem?_toList]; exact List.getElem?_eq_getElem hlt
    unfold wpOpIn
    simp only [ho]
    refine stepA_wp (K' := fun s' => runA P ops.toList ((ops.toList.drop (i + 1)).take fuel) s' R) hF hs ho h ?_
    intro s' a' c' w' hK hs' he'
    exact seqM_wp hF rest hT fuel (i + 1) _ s' c' w' a' (by omega) hB' hL (he.trans he') hs' hK

theorem W_drawM {top : Bool} {kf : Nat} {id : Nat} {ops : Array Oper} {Q : Exit → St → Prop} {s : St} (pre mid : Nat) (hm : P.follows .mixedOrders = true) (hd : drawM ops pre mid = true)
    (h : runD P ops.toList (ops.toList.take pre) s fun s1 => runA P ops.toList ((ops.toList.drop pre).take (mid - pre)) s1 fun s2 => runD P ops.toList (ops.toList.drop mid) s2 fun s3 => Q .normal s3) : Wt top kf P (.region id ops true) Q s := by
  intro F n c w a hF hs
  simp only [drawM, Bool.and_eq_true, decide_eq_true_eq, List.all_eq_true, bne_iff_ne, ne_eq] at hd
  obtain ⟨⟨⟨⟨⟨⟨hpm, hle⟩, hlex⟩, hseq⟩, hcl⟩, hlexD⟩, h9⟩ := hd
  have h9' : ∀ (i : Nat) (o : Oper), ops[i]? = some o → dcls o ≠ 9 := fun i o ho => h9 o (by rw [← Array.getElem?_toList] at ho; exact List.mem_of_getElem? ho)
  refine wpIn_region_any hm ?_
  let Q' : St → Prop := fun s => ∃ t, Eqv s t ∧ Q .normal t
  have hQ' : Closed Q' := fun s t h ⟨u, h1, h2⟩ => ⟨u, h.symm.trans h1, h2⟩
  let R2 : St → Prop := fun s => runD P ops.toList (ops.toList.drop mid) s Q'
  let R : St → Prop := fun s => ∃ t, Eqv s t ∧ runA P ops.toList ((ops.toList.drop pre).take (mid - pre)) t R2
  have hR : Closed R := fun s t h ⟨u, h1, h2⟩ => ⟨u, h.symm.trans h1, h2⟩
  have hlen : (ops.toList.take pre).length = pre := by rw [List.length_take]; simp; omega
  have hlen2 : (ops.toList.drop mid).length = ops.size - mid := by simp
  have hrunE : runE P ops.toList (ops.toList.take pre) s R := by
    refine runD_runE (fun o ho => h9 o (List.mem_of_mem_take ho)) ?_
    exact runD_mono (fun s1 h1 => ⟨s1, Eqv.refl s1, runA_mono (fun s2 h2 => runD_mono (fun s3 h3 => ⟨s3, Eqv.refl s3, h3⟩) h2) h1⟩) h
  have hany := anyS_lex (P := P) hR (fun j hj => by
      rw [Array.getD_eq_getD_getElem?, Array.getElem?_eq_none (by rw [preL_size]; exact hj)]; rfl) (ops.toList.take pre) 0 (Array.replicate ops.size false) s (fun j hj => by
      rw [Nat.zero_add, List.getElem?_take, if_pos (by omega), Array.getElem?_toList]) (fun j oj hj hl => by
      exfalso
      rcases Nat.lt_or_ge j ops.size with h' | h' <;> simp [h'] at hl) (by rw [hlen]; exact hlex) hrunE
  rw [hlen] at hany
  have := anyS_wp (n := n) (c0 := c) (w0 := w) (Qw := fun e a' w' => ∃ s' c', Q e s' ∧ SimSt P c' w' s' a' ∧ ExtK kf c w c' w') hF.1 (ops.size - pre) (R := R) (L := preL ops pre) ?_ pre _ s c w.drew a (ext_drew c w) hs.drew hany
  · have e1 : pre + (ops.size - pre) = ops.size := by omega
    rw [e1] at this
    exact this
  · rintro s1 c1 w1 a1 he1 hs1 ⟨t, h1, h2⟩
    have := seqM_wp (n := n) (c0 := c) (w0 := w) (Qw := fun e a' w' => ∃ s' c', Q e s' ∧ SimSt P c' w' s' a' ∧ ExtK kf c w c' w') hF.1 (ops.size - mid) (R := R2) (L2 := setM (mid - pre) pre (preL ops pre)) ?_
      (mid - pre) pre (preL ops pre) t c1 w1 a1 (by omega) hseq rfl he1 (hs1.eqv h1) h2
    · have e1 : mid - pre + (ops.size - mid) = ops.size - pre := by omega
      rw [e1] at this
      exact this
    · intro s2 c2 w2 a2 he2 hs2 hR2
      have hrE : runE P ops.toList (ops.toList.drop mid) s2 Q' := runD_runE (fun o ho => h9 o (List.mem_of_mem_drop ho)) hR2
      have hA := anyA_lex hQ' (ops.toList.drop mid) mid _ s2 (fun j => by rw [List.getElem?_drop, Array.getElem?_toList]) (closedB_ok hcl) (by rw [hlen2]; exact hlexD) hrE
      rw [hlen2] at hA
      refine wpAnyIn_imp ?_ _ _ _ _ (anyA_wp (n := n) hF.1 h9' _ _ s2 c2 w2 a2 hs2 hA)
      rintro e a3 w3 ⟨s3, c3, q, hs3, he3⟩
      cases e with
      | normal =>
        obtain ⟨t3, k1, k2⟩ := q
        exact ⟨t3, c3, k2, hs3.eqv k1, (he2.trans he3).toK hF.2.2⟩
      | _ => exact q.elim
theorem W_rmK {top : Bool} {kf : Nat} {id : Nat} {ops : Array Oper} {y : Code} {Q : Exit → St → Prop} {s : St} (pre mid : Nat) (ks : List Nat) (hm : P.follows .mixedOrders = true) (hd : drawM ops pre mid = true)
    (h : runD P ops.toList (ops.toList.take pre) s fun s1 => runA P ops.toList ((ops.toList.drop pre).take (mid - pre)) s1 fun s2 => runD P ops.toList (ops.toList.drop mid) s2 fun s3 => Wt top kf P y Q (keepS ks s3)) :
    Wt top kf P (.seq (.region id ops true) y) Q s :=
  W_seq (W_forget ks (W_drawM pre mid hm hd h))
end
end Go.AM

namespace Go.AM

def AV.isL2 : AV → Bool
  | .lst _ _ _ => true
  | _ => false

def AV.dpT : AV → Bool
  | .lst (.tip _ _) _ xs => AV.deepL xs
  | .lst .any s xs => AV.deep (.lst .any s xs)
  | .lst .nil _ _ => true
  | .v _ => true
  | .any => true
  | _ => false
def AV.dpR : AV → Bool
  | .tup xs => xs.all AV.dpT
  | x => AV.dpT x
section
variable {P : Program} {c c' : Ctx} {w : World}
theorem RepL.split {xs : List AV} {y : AV} {ys : List AV} {us : List Value} (h : RepL P c w (xs ++ y :: ys) us) : ∃ us1 v us2, us = us1 ++ v :: us2 ∧ RepL P c w xs us1 ∧ Rep c w y v ∧ RepL P c w ys us2 := by
  induction xs generalizing us with
  | nil =>
    cases h with
    | cons h1 h2 h3 => exact ⟨[], _, _, rfl, .nil, h1, h3⟩
  | cons x xs ih =>
    cases h with
    | cons h1 h2 h3 =>
      obtain ⟨us1, v, us2, rfl, k1, k2, k3⟩ := ih h3
      exact ⟨_ :: us1, v, us2, rfl, .cons h1 h2 k1, k2, k3⟩

theorem dpT_rep {g N T : Nat} (hgN : g < N) (hg : ∀ ad u, ad.block = g → w.cell? ad = some u → c.prot ad → ∃ a n k, u = .slice a n k) (hp : ∀ ad, ad.block ≠ g → c.prot ad → c'.prot ad)
    (hpm : ∀ b, b ≠ g → c'.pm b = c.pm b) (how : ∀ b, b ≠ g → c'.ow b = c.ow b) (hb : ∀ b, N ≤ b → c'.base b) {x : AV} {u : Value}
    (h : Rep c w (x.norm T) u) (ho : Own P (c.rebase fun b => N ≤ b) w (x.norm T) u) (hx : x.dpT = true) : Rep c' w (x.norm T) u ∧ Own P c' w (x.norm T) u := by
  match x, hx with
  | .lst (.tip e U) s xs, hx =>
    simp only [AV.norm] at h ho ⊢
    cases h with
    | @lst _ _ _ a n cap f hn hcap hmax hs hsz hrf hz hnil hc hr =>
      cases ho with
      | none hh => simp [AV.tl] at hh
      | tip hT hs2 ht =>
        have hrr : ∀ i j x y, xs[i]? = some x → x.cells[j]? = some y → Rep c' w y (f (i * s + j)) := fun i j x y hi hj => deep_rep hg hp (hr i j x y hi hj) (deep_cells (deepL_get (by simpa [AV.dpT] using hx) hi) hj)
        rcases ht with ⟨h1, h2, h3⟩ | ⟨g', cur, h1, h2, h3, h4, h5, h6, h7⟩
        · subst h1
          exact ⟨.lst f hn hcap hmax hs hsz hrf hz hnil (fun ad k ha => by cases ha) hrr, .tip hT hs2 (.inl ⟨rfl, h2, h3⟩)⟩
        · have hne : g' ≠ g := by intro e; subst e; exact absurd h2 (by show ¬ N ≤ g'; omega)
          refine ⟨.lst f hn hcap hmax hs hsz hrf hz hnil (fun ad k ha hk => ?_) hrr, .tip hT hs2 (.inr ⟨g', cur, h1, hb _ h2, h3, h4, ?_, ?_, h7⟩)⟩
          · obtain ⟨k1, k2, k3⟩ := hc ad k ha hk
            refine ⟨k1, hp _ ?_ k2, k3⟩
            rw [h1] at ha
            cases ha
            rw [add_block]; exact hne
          · rw [hpm _ hne]; exact h5
          · rw [how _ hne]; exact h6
  | .lst .any s xs, hx => exact ⟨deep_rep hg hp h hx, .none rfl⟩
  | .lst .nil s xs, hx =>
    refine ⟨?_, .none rfl⟩
    simp only [AV.norm] at h ⊢
    cases h with
    | @lst _ _ _ a n cap f hn hcap hmax hs hsz hrf hz hnil hc hr =>
      have h1 : a = none := hnil
      subst h1
      obtain ⟨h2, h3⟩ := hz rfl
      subst h2
      have : xs = [] := List.eq_nil_of_length_eq_zero hn
      subst this
      exact .lst f rfl hcap hmax hs hsz hrf hz hnil (fun ad k ha => by cases ha) (fun i j x y hi => by simp at hi)
  | .v _, _ => exact ⟨by rw [show AV.norm T (.v _) = .v _ from rfl] at h ⊢; rw [h.v_inv]; exact .v _, .none rfl⟩
  | .any, _ => exact ⟨.any _, .none rfl⟩
theorem dpR_rep {g N T : Nat} (hgN : g < N) (hg : ∀ ad u, ad.block = g → w.cell? ad = some u → c.prot ad → ∃ a n k, u = .slice a n k) (hp : ∀ ad, ad.block ≠ g → c.prot ad → c'.prot ad)
    (hpm : ∀ b, b ≠ g → c'.pm b = c.pm b) (how : ∀ b, b ≠ g → c'.ow b = c.ow b) (hb : ∀ b, N ≤ b → c'.base b) {x : AV} {u : Value}
    (h : Rep c w (x.norm T) u) (ho : Own P (c.rebase fun b => N ≤ b) w (x.norm T) u) (hx : x.dpR = true) : Rep c' w (x.norm T) u ∧ Own P c' w (x.norm T) u := by
  by_cases ht : ∃ xs, x = .tup xs
  · obtain ⟨xs, rfl⟩ := ht
    simp only [AV.norm] at h ho ⊢
    obtain ⟨us, rfl, hl, hr⟩ := tup_inv h
    have hoo := own_tup ho
    have key : ∀ j y, (AV.normL T xs)[j]? = some y → Rep c' w y (us.getD j undef) ∧ Own P c' w y (us.getD j undef) := by
      intro j y hj
      have h1 := hr j y hj
      have h2 := hoo j y hj
      rw [normL_get] at hj
      obtain ⟨z, hz, rfl⟩ := Option.map_eq_some_iff.1 hj
      have hzd : z.dpT = true := by
        simp only [AV.dpR, List.all_eq_true] at hx
        exact hx z (List.mem_of_getElem? hz)
      exact dpT_rep hgN hg hp hpm how hb h1 h2 hzd
    exact ⟨.tup hl fun j y hj => (key j y hj).1, .tup fun j y hj => (key j y hj).2⟩
  · have hx' : x.dpT = true := by
      cases x with
      | tup xs => exact absurd ⟨xs, rfl⟩ ht
      | _ => simpa [AV.dpR] using hx
    exact dpT_rep hgN hg hp hpm how hb h ho hx'

theorem callW_lendD {f : FuncId} {id n cap e sz T : Nat} {ag : Bool} {cs pre post : List AV} {h : List AObj} {r : AV} {Q : AV → List AObj → Prop} (hT : T % 2 = 1)
    (hS : Sound P f (AV.dpL (pre ++ .lst .any sz (chunk ag sz n (AV.weakL (cs.take (n * sz)))) :: post)) r)
    (hobj : h[id]? = some (.cells e cs)) (hsz : 0 < sz) (hag : ag = true ∨ sz = 1) (hle : n * sz ≤ cs.length) (hk : AV.koneL (cs.take (n * sz)) = true) (hrf : AV.rfL (cs.take (n * sz)) = true)
    (hcs : (cs.take (n * sz)).all AV.isL2 = true) (haw : r.dpR = true) (hQ : Q (r.norm T) h) : CallW P f (pre ++ .arr id 0 n cap :: post) h Q := by
  refine ⟨hS.1, fun F m c w vals hF hro hb _ hh ra => ?_⟩
  obtain ⟨vs1, v, vs2, rfl, ra1, hr0, ra2⟩ := ra.split
  have hidl : id < h.length := (List.getElem?_eq_some_iff.1 hobj).1
  have hidn : id < c.no := by rw [hh.no]; exact hidl
  obtain ⟨hbase, hpm, how, cur, hcur, hcl, hcc⟩ := hh.obj id _ hobj
  obtain ⟨g, hgE⟩ : ∃ g, c.ob id = g := ⟨_, rfl⟩
  rw [hgE] at hbase hpm how hcur
  have hgl := get_lt hcur
  obtain ⟨sg, hsg⟩ : ∃ sg, cs.take (n * sz) = sg := ⟨_, rfl⟩
  rw [hsg] at hk hrf hcs hS
  have hsgl : sg.length = n * sz := by rw [← hsg, List.length_take]; omega
  let c1 : Ctx := c.setB g sg.length 0
  have c1pm : ∀ b, b ≠ g → c1.pm b = c.pm b := fun b hb => by simp only [c1, Ctx.setB]; rw [if_neg hb]
  have c1ow : ∀ b, c1.ow b = c.ow b := fun b => by
    simp only [c1, Ctx.setB]
    split
    · rename_i e; rw [e, how]
    · rfl
  have c1g : c1.pm g = sg.length := by simp [c1, Ctx.setB]
  have he1 : Ext c w c1 w := {
    base := rfl, os := rfl, tape := rfl, output := rfl, size := Nat.le_refl _, below := fun _ _ => rfl, cell := fun _ _ _ h => h
    pm := fun b _ => by
      by_cases hbg : b = g
      · subst hbg; rw [hpm]; exact Nat.zero_le _
      · rw [c1pm b hbg]; exact Nat.le_refl _
    pmb := fun b hb' => c1pm b fun e => hb' (by rw [e]; exact hbase)
    owb := fun b _ => c1ow b
    no := Nat.le_refl _
    ob := fun _ _ => rfl
    dfr := fun _ h => h }
  have hk1 : Keeps c w c1 w none := by
    intro b cu e0 _ hbc hbo
    have hbg : b ≠ g := by intro e; subst e; exact hbo (by rw [how]; rfl)
    exact ⟨hbc, c1pm b hbg, c1ow b⟩
  have hcurget : ∀ j y, sg[j]? = some y → w.cell? ⟨g, j, none⟩ = some (cur.getD j undef) ∧ Rep c w y (cur.getD j undef) ∧ (cur.getD j undef).oneCell' = true := by
    intro j y hj
    have hjl := (List.getElem?_eq_some_iff.1 hj).1
    have hj' : cs[j]? = some y := by
      rw [← hsg, List.getElem?_take] at hj
      split at hj
      · exact hj
      · cases hj
    obtain ⟨r1, _, r3⟩ := hcc j y hj'
    refine ⟨?_, r1, r3⟩
    simp only [World.cell?, hcur, Option.isSome_none, Bool.false_eq_true, if_false]
    rw [Array.getD_eq_getD_getElem?, Array.getElem?_eq_getElem (by omega)]
    rfl
  have hcell : ∀ j y, (AV.weakL sg)[j]? = some y → ∃ u, w.cell? ⟨c1.ob id, j, none⟩ = some u ∧ c1.prot ⟨c1.ob id, j, none⟩ ∧ u.oneCell' = true ∧ Rep c1 w y u := by
    intro j y hj
    rw [weakL_get] at hj
    obtain ⟨z, hz, rfl⟩ := Option.map_eq_some_iff.1 hj
    have hjl := (List.getElem?_eq_some_iff.1 hz).1
    obtain ⟨r0, r1, r3⟩ := hcurget j z hz
    refine ⟨cur.getD j undef, ?_, ?_, r3, (r1.mono he1).weak⟩
    · show w.cell? ⟨c.ob id, j, none⟩ = _
      rw [hgE]; exact r0
    · show j < c1.pm (c.ob id)
      rw [hgE, c1g]; exact hjl
  have hv : Rep c1 w (.lst .any sz (chunk ag sz n (AV.weakL sg))) v := by
    cases hr0 with
    | arr hid hlen hmax =>
      have := rep_chunk (c := c1) (w := w) (id := id) (off := 0) (len := n) (cap := cap) (cs := AV.weakL sg) (o := .any) hsz hag (by rw [weakL_length]; omega) (by rw [koneL_weak]; exact hk) (weakL_rf _ hrf) hcell trivial hlen hmax
      rw [List.drop_zero] at this
      exact this
  have hl1 : RepL P c1 w (pre ++ .lst .any sz (chunk ag sz n (AV.weakL sg)) :: post) (vs1 ++ v :: vs2) := (ra1.mono he1 hk1).append (.cons hv (.none rfl) (ra2.mono he1 hk1))
  refine CallsIn.mono (hS.2 F m c1 w _ T hF hro hT hb hl1.dpL) ?_
  rintro _ w2 ⟨u, c2, rfl, hp, hr, ho⟩
  let c3 : Ctx := c2.setB g 0 0
  have c3pm : ∀ b, b ≠ g → c3.pm b = c2.pm b := fun b hb => by simp only [c3, Ctx.setB]; rw [if_neg hb]
  have c3ow : ∀ b, b ≠ g → c3.ow b = c2.ow b := fun b hb => by simp only [c3, Ctx.setB]; rw [if_neg hb]
  have c3g : c3.pm g = 0 ∧ c3.ow g = 0 := by simp [c3, Ctx.setB]
  have hpm3 : ∀ b, b < w.heap.size → c3.pm b = c.pm b := fun b hlt => by
    by_cases hbg : b = g
    · subst hbg; rw [c3g.1, hpm]
    · rw [c3pm b hbg, hp.pm b hlt, c1pm b hbg]
  have how3 : ∀ b, b < w.heap.size → c3.ow b = c.ow b := fun b hlt => by
    by_cases hbg : b = g
    · subst hbg; rw [c3g.2, how]
    · rw [c3ow b hbg, hp.ow b hlt, c1ow b]
  have hlt_of : ∀ b, ¬ c.base b → b < w.heap.size := fun b hb' => Nat.lt_of_not_le fun e => hb' (hb b e)
  have he3 : Ext c w c3 w2 := {
    base := hp.base, os := hp.os, tape := hp.tape, output := hp.output, size := hp.size
    below := fun b hb' => hp.block b (hlt_of b hb')
    cell := fun a u _ hc => by rw [cell_of_heap (hp.block _ (lt_of_cell hc))]; exact hc
    pm := fun b hlt => by rw [hpm3 b hlt]; exact Nat.le_refl _
    pmb := fun b hb' => hpm3 b (hlt_of b hb')
    owb := fun b hb' => how3 b (hlt_of b hb')
    no := by show c.no ≤ c2.no; rw [hp.no]; exact Nat.le_refl _
    ob := fun i _ => by show c2.ob i = c.ob i; rw [hp.ob]; rfl
    dfr := fun b hd => by rw [hp.block b (get_lt hd)]; exact hd }
  have hk3 : Keeps c w c3 w2 none := by
    intro b cu e0 _ hbc _
    have hlt := get_lt hbc
    exact ⟨by rw [hp.block b hlt]; exact hbc, hpm3 b hlt, how3 b hlt⟩
  have hno3 : c3.no = c.no := hp.no
  have hob3 : c3.ob = c.ob := hp.ob
  have hfin := dpR_rep (c := c2) (c' := c3) (P := P) (g := g) (N := w.heap.size) (T := T) hgl (fun ad uu hbad hcell2 hprot => by
      have hlt : ad.block < w.heap.size := by rw [hbad]; exact hgl
      rw [cell_of_heap (hp.block _ hlt)] at hcell2
      have hoff : ad.off < sg.length := by
        have : ad.off < c2.pm ad.block := hprot
        rw [hbad, hp.pm g hgl, c1g] at this
        exact this
      obtain ⟨r0, r1, _⟩ := hcurget ad.off _ (List.getElem?_eq_getElem hoff)
      have hisl := List.all_eq_true.1 hcs _ (List.getElem_mem hoff)
      have hnone : ad = ⟨g, ad.off, none⟩ := by
        obtain ⟨b, off, sub⟩ := ad
        simp only at hbad
        subst hbad
        cases sub with
        | none => rfl
        | some z => simp [World.cell?, hcur] at hcell2
      rw [hnone, r0] at hcell2
      cases hcell2
      generalize sg[ad.off] = y at r1 hisl
      cases y <;> simp [AV.isL2] at hisl
      obtain ⟨a, n', cap', _, hu, _⟩ := lst_cells r1
      exact ⟨a, n', cap', hu⟩)
    (fun ad hne hprot => by show ad.off < c3.pm ad.block; rw [c3pm _ hne]; exact hprot) c3pm c3ow (fun b hb' => by show c2.base b; rw [hp.base]; exact hb b hb') hr ho haw
  refine ⟨u, c3, r.norm T, h, rfl, hQ, he3, ⟨by rw [hno3]; exact hh.no, fun i hi => ?_, ?_, fun i o hi => ?_⟩, hfin.1, hfin.2⟩
  · rw [hob3]; rw [hno3] at hi; exact Nat.lt_of_lt_of_le (hh.lt i hi) hp.size
  · rw [hob3, hno3]; exact hh.inj
  · have hi' : i < c.no := by rw [hh.no]; exact (List.getElem?_eq_some_iff.1 hi).1
    have hlt := hh.lt i hi'
    exact ObjRep.mono (T := none) he3 hk3 hi' (hh.obj i o hi) fun _ => ⟨hp.block _ hlt, hpm3 _ hlt, how3 _ hlt⟩
end
end Go.AM

namespace Go.AM
def kdV : Value → Nat
  | .bool _ => 1
  | .slice _ _ _ => 2
  | .string _ => 3
  | .int k _ => 10 + 2 * k.bits + (if k.signed then 1 else 0)
  | _ => 0

def kdA : AV → Option Nat
  | .v x => some (kdV x)
  | .lst _ _ _ => some 2
  | .arr _ _ _ _ => some 2
  | _ => none
theorem kdA_ok {c : Ctx} {w : World} {y : AV} {k : Nat} {u : Value} (h : kdA y = some k) (hr : Rep c w y u) : kdV u = k := by
  cases hr <;> simp [kdA] at h <;> first | exact h | (subst h; rfl)
def kdOut (ks : List Nat) (y : AV) : Bool := match kdA y with
  | some k => !ks.contains k
  | none => false
mutual

def AV.sepB (ks : List Nat) : AV → Bool
  | .lst _ _ xs => (xs.isEmpty || xs.any fun x => x.cells.any (kdOut ks)) && AV.sepL ks xs
  | .agg xs => AV.sepL ks xs
  | .tup xs => AV.sepL ks xs
  | .v _ => true
  | .any => true
  | _ => false
def AV.sepL (ks : List Nat) : List AV → Bool
  | [] => true
  | x :: xs => AV.sepB ks x && AV.sepL ks xs
end
def AV.thwK (ks : List Nat) (xs : List AV) : Bool := (xs.all fun y => match kdA y with | some k => ks.contains k | none => false) && AV.sepL ks xs
theorem sepL_get {ks : List Nat} {xs : List AV} (h : AV.sepL ks xs = true) {j : Nat} {y : AV} (hy : xs[j]? = some y) : y.sepB ks = true := by
  induction xs generalizing j with
  | nil => simp at hy
  | cons x xs ih =>
    simp only [AV.sepL, Bool.and_eq_true] at h
    cases j with
    | zero => simp at hy; subst hy; exact h.1
    | succ j => exact ih h.2 (by simpa using hy)
theorem sep_cells {ks : List Nat} {x y : AV} (h : x.sepB ks = true) {j : Nat} (hy : x.cells[j]? = some y) : y.sepB ks = true := by
  cases x with
  | agg xs => exact sepL_get (by simpa [AV.sepB] using h) (by simpa [AV.cells] using hy)
  | _ =>
    simp only [AV.cells] at hy
    cases j with
    | zero => simp at hy; subst hy; exact h
    | succ j => simp at hy
section
variable {P : Program} {c c' : Ctx} {w : World}
theorem sep_rep {ks : List Nat} {g : Nat} (hg : ∀ ad u, ad.block = g → w.cell? ad = some u → c.prot ad → ks.contains (kdV u) = true) (hp : ∀ ad, ad.block ≠ g → c.prot ad → c'.prot ad) {x : AV} {u : Value} (h : Rep c w x u) (hx : x.sepB ks = true) : Rep c' w x u := by
  induction h with
  | any u => exact .any u
  | v x => exact .v x
  | @lst o s xs a n cap u hn hcap hmax hs hsz hrf hz hnil hc hr ih =>
    simp only [AV.sepB, Bool.and_eq_true, Bool.or_eq_true] at hx
    refine .lst u hn hcap hmax hs hsz hrf hz hnil (fun ad k ha hk => ?_) (fun i j x y hi hj => ih i j x y hi hj (sep_cells (sepL_get hx.2 hi) hj))
    obtain ⟨h1, h2, h3⟩ := hc ad k ha hk
    refine ⟨h1, hp _ ?_ h2, h3⟩
    intro hb
    have hb' : ad.block = g := by
      have : (ad.add k).block = ad.block := blk_add ad k
      rw [this] at hb; exact hb
    rcases hx.1 with he | he
    · have : xs = [] := by simpa using he
      subst this
      subst hn
      simp at hk
    · obtain ⟨x, hxm, he⟩ := List.any_eq_true.1 he
      obtain ⟨y, hym, he⟩ := List.any_eq_true.1 he
      obtain ⟨i, hi, rfl⟩ := List.mem_iff_getElem.1 hxm
      obtain ⟨j, hj, rfl⟩ := List.mem_iff_getElem.1 hym
      have hxi : xs[i]? = some xs[i] := List.getElem?_eq_getElem hi
      have hyj : xs[i].cells[j]? = some xs[i].cells[j] := List.getElem?_eq_getElem hj
      have hsl := hsz _ hxm
      have hk2 : i * s + j < n * s := by
        rw [hsl] at hj
        have : (i + 1) * s ≤ n * s := Nat.mul_le_mul_right _ (by omega)
        rw [Nat.add_mul] at this
        omega
      obtain ⟨k1, k2, _⟩ := hc ad (i * s + j) ha hk2
      have hu := hg _ _ ((blk_add ad _).trans hb') k1 k2
      have hrep := hr i j _ _ hxi hyj
      simp only [kdOut] at he
      cases hkd : kdA xs[i].cells[j] with
      | none => rw [hkd] at he; cases he
      | some k =>
        rw [hkd] at he
        rw [kdA_ok hkd hrep] at hu
        dsimp only at he
        rw [hu] at he
        cases he
  | agg h _ ih => exact .agg h fun j y hj => ih j y hj (sepL_get (by simpa [AV.sepB] using hx) hj)
  | tup h _ ih => exact .tup h fun j y hj => ih j y hj (sepL_get (by simpa [AV.sepB] using hx) hj)
  | _ => simp [AV.sepB] at hx

theorem thaw_coreK {h : List AObj} {e T sz : Nat} {xs fl : List AV} {c1 : Ctx} {w1 : World} {u : Value} (hh : HSim P c w h) (hb : ∀ b, w.heap.size ≤ b → c.base b) (hp : PExt c w c1 w1)
    (hr : Rep c1 w1 (.lst (.tip e T) sz xs) u) (ho : Own P (c1.rebase fun b => w.heap.size ≤ b) w1 (.lst (.tip e T) sz xs) u) (hcat : catK sz xs = some fl) {ks : List Nat} (hfl : AV.thwK ks fl = true) :
    (u = .slice none 0 0 ∧ xs = [] ∧ HSim P c1 w1 h ∧ Ext c w c1 w1) ∨
    ∃ cap c', xs.length ≤ cap ∧ cap ≤ maxLen ∧ Ext c w c' w1 ∧ HSim P c' w1 (h ++ [.cells e (AV.weakL fl ++ List.replicate ((cap - xs.length) * sz) .any)]) ∧ Rep c' w1 (.arr h.length 0 xs.length cap) u := by
  have he1 := hp.ext hb
  have hk1 := hp.keeps
  have hold : ∀ i o, h[i]? = some o → c.ob i < w.heap.size := fun i o hi => hh.lt i (by rw [hh.no]; exact (List.getElem?_eq_some_iff.1 hi).1)
  have hsame : ∀ i o, h[i]? = some o → w1.heap[c.ob i]? = w.heap[c.ob i]? ∧ c1.pm (c.ob i) = c.pm (c.ob i) ∧ c1.ow (c.ob i) = c.ow (c.ob i) := fun i o hi =>
    ⟨hp.block _ (hold i o hi), hp.pm _ (hold i o hi), hp.ow _ (hold i o hi)⟩
  obtain ⟨a, n, cap, ux, rfl, hn, hcap, hmax, hs0, hsx, hrx, hzx, hnil, hcx, hrr⟩ := lst_cells hr
  cases ho with
  | none h0 => simp [AV.tl] at h0
  | tip hT hse hat =>
    rcases hat with ⟨rfl, rfl, rfl⟩ | ⟨g, cur, rfl, hg, hheap, hsize, hpm, how, hone⟩
    · refine .inl ⟨rfl, List.eq_nil_of_length_eq_zero hn, ⟨by rw [hp.no]; exact hh.no, fun i hi => ?_, ?_, fun i o hi => ?_⟩, he1⟩
      · rw [hp.ob]; rw [hp.no] at hi; exact Nat.lt_of_lt_of_le (hh.lt i hi) hp.size
      · rw [hp.ob, hp.no]; exact hh.inj
      · exact ObjRep.mono (T := none) he1 hk1 (by rw [hh.no]; exact (List.getElem?_eq_some_iff.1 hi).1) (hh.obj i o hi) fun _ => hsame i o hi
    · rw [← hse] at hsize hpm
      have hg' : w.heap.size ≤ g := hg
      let c2 : Ctx := c1.newO g
      have hno2 : c2.no = h.length + 1 := by simp only [c2, Ctx.newO]; rw [hp.no, hh.no]
      have hob2 : ∀ i, i < h.length → c2.ob i = c.ob i := fun i hi => by
        simp only [c2, Ctx.newO]; rw [hp.no, hh.no, if_neg (by omega), hp.ob]
      have hobn : c2.ob h.length = g := by simp only [c2, Ctx.newO]; rw [hp.no, hh.no, if_pos rfl]
      have hpm2 : ∀ b, b ≠ g → c2.pm b = c1.pm b := fun b hb => by simp only [c2, Ctx.newO, Ctx.setB]; rw [if_neg hb]
      have how2 : ∀ b, b ≠ g → c2.ow b = c1.ow b := fun b hb => by simp only [c2, Ctx.newO, Ctx.setB]; rw [if_neg hb]
      have hne : ∀ b, b < w.heap.size → b ≠ g := fun b hb e => by omega
      have hbase2 : c2.base = c.base := hp.base
      have he2 : Ext c w c2 w1 := {
        base := hbase2, os := he1.os, tape := he1.tape, output := he1.output, size := he1.size, below := he1.below, cell := he1.cell
        pm := fun b hb' => by rw [hpm2 b (hne b hb')]; exact he1.pm b hb'
        pmb := fun b hb' => by
          have : b ≠ g := fun e => hb' (by rw [e]; exact hb g hg')
          rw [hpm2 b this]; exact he1.pmb b hb'
        owb := fun b hb' => by
          have : b ≠ g := fun e => hb' (by rw [e]; exact hb g hg')
          rw [how2 b this]; exact he1.owb b hb'
        no := by rw [hno2, hh.no]; omega
        ob := fun id hid => hob2 id (by rw [← hh.no]; exact hid)
        dfr := he1.dfr }
      have hk2 : Keeps c w c2 w1 none := by
        intro b cu e0 hbb hbc hbo
        obtain ⟨k1, k2, k3⟩ := hk1 b cu e0 hbb hbc hbo
        have : b ≠ g := hne b (get_lt hbc)
        exact ⟨k1, by rw [hpm2 b this]; exact k2, by rw [how2 b this]; exact k3⟩
      have hfll : fl.length = n * sz := by rw [catK_length hcat, hn]
      have hrow : ∀ j z, fl[j]? = some z → Rep c1 w1 z (ux j) := by
        intro j z hz
        have hjl : j < n * sz := by rw [← hfll]; exact (List.getElem?_eq_some_iff.1 hz).1
        have hsz0 : 0 < sz := by
          rcases Nat.eq_zero_or_pos sz with e | e
          · rw [e] at hjl; omega
          · exact e
        obtain ⟨x, k1, k2, k3⟩ := catK_inv hsz0 hcat hz
        have := hrr _ _ _ _ k1 k2
        rwa [show j / sz * sz + j % sz = j by rw [Nat.mul_comm]; exact Nat.div_add_mod j sz] at this
      have hmv : ∀ (z : AV) (v : Value), z ∈ fl → Rep c1 w1 z v → Rep c2 w1 z v := by
        intro z v hzm hrz
        simp only [AV.thwK, Bool.and_eq_true] at hfl
        obtain ⟨hisl, hdp⟩ := hfl
        obtain ⟨i, hi, rfl⟩ := List.mem_iff_getElem.1 hzm
        refine sep_rep (g := g) (fun ad u hb' hc' hpr => ?_) (fun ad hb' hpr => ?_) hrz (sepL_get hdp (List.getElem?_eq_getElem hi))
        · have hof : ad.off < n * sz := by
            have : ad.off < c1.pm ad.block := hpr
            rw [hb'] at this
            have e : c1.pm g = n * sz := hpm
            rw [e] at this; exact this
          have hz2 : fl[ad.off]? = some (fl[ad.off]'(by rw [hfll]; exact hof)) := List.getElem?_eq_getElem _
          have hl := List.all_eq_true.1 hisl _ (List.mem_of_getElem? hz2)
          have hr2 := hrow _ _ hz2
          have hc2 := (hcx _ _ rfl hof).1
          rw [add_mk, Nat.zero_add] at hc2
          obtain ⟨ab, ao, asb⟩ := ad
          simp only at hb' hof hc2
          subst hb'
          have hcu : u = ux ao := by
            cases asb with
            | none => rw [hc'] at hc2; exact Option.some.inj hc2
            | some s => simp only [World.cell?, hheap] at hc'; simp at hc'
          rw [hcu]
          generalize fl[ao]'(by rw [hfll]; exact hof) = y at hl hr2
          cases hk : kdA y with
          | none => rw [hk] at hl; cases hl
          | some k =>
            rw [hk] at hl
            rw [kdA_ok hk hr2]
            simpa using hl
        · show ad.off < c2.pm ad.block
          rw [hpm2 _ hb']; exact hpr
      refine .inr ⟨cap, c2, by omega, hmax, he2, ⟨by rw [hno2]; simp, ?_, ?_, ?_⟩, ?_⟩
      · intro i hi
        rw [hno2] at hi
        rcases Nat.lt_or_ge i h.length with hlt | hge
        · rw [hob2 i hlt]; exact Nat.lt_of_lt_of_le (hh.lt i (by rw [hh.no]; exact hlt)) hp.size
        · have : i = h.length := by omega
          subst this; rw [hobn]; exact get_lt hheap
      · intro i j hi hj hij
        rw [hno2] at hi hj
        rcases Nat.lt_or_ge i h.length with h1 | h1 <;> rcases Nat.lt_or_ge j h.length with h2 | h2
        · rw [hob2 i h1, hob2 j h2]; exact hh.inj i j (by rw [hh.no]; exact h1) (by rw [hh.no]; exact h2) hij
        · have : j = h.length := by omega
          subst this; rw [hob2 i h1, hobn]; exact hne _ (hh.lt i (by rw [hh.no]; exact h1))
        · have : i = h.length := by omega
          subst this; rw [hob2 j h2, hobn]; exact Ne.symm (hne _ (hh.lt j (by rw [hh.no]; exact h2)))
        · omega
      · intro i o hi
        rcases Nat.lt_or_ge i h.length with h1 | h1
        · rw [List.getElem?_append_left h1] at hi
          refine ObjRep.mono (T := none) he2 hk2 (by rw [hh.no]; exact h1) (hh.obj i o hi) fun _ => ?_
          obtain ⟨s1, s2, s3⟩ := hsame i o hi
          have := hne _ (hold i o hi)
          exact ⟨s1, by rw [hpm2 _ this]; exact s2, by rw [how2 _ this]; exact s3⟩
        · rw [List.getElem?_append_right h1] at hi
          have hi0 : i = h.length := by
            have := (List.getElem?_eq_some_iff.1 hi).1
            simp at this
            omega
          subst hi0
          simp at hi
          subst hi
          refine ⟨by rw [hobn, hbase2]; exact hb g hg', by rw [hobn]; simp [c2, Ctx.newO, Ctx.setB], by rw [hobn]; simp [c2, Ctx.newO, Ctx.setB], cur, by rw [hobn]; exact hheap, ?_, ?_⟩
          · rw [List.length_append, weakL_length, List.length_replicate, hfll, hsize, hn, ← Nat.add_mul]
            congr 1
            omega
          · intro j y hj
            have hjs : j < cur.size := by
              have := (List.getElem?_eq_some_iff.1 hj).1
              rw [List.length_append, weakL_length, List.length_replicate, hfll, hn, ← Nat.add_mul] at this
              rw [hsize]
              have e : n + (cap - n) = cap := by omega
              rw [e] at this
              exact this
            have h1c : (cur.getD j undef).oneCell' = true := by
              rw [Array.getD_eq_getD_getElem?, Array.getElem?_eq_getElem hjs, Option.getD_some]
              exact hone _ (Array.getElem_mem hjs)
            rcases Nat.lt_or_ge j (AV.weakL fl).length with hlt | hge
            · rw [List.getElem?_append_left hlt, weakL_get] at hj
              obtain ⟨z, hz, rfl⟩ := Option.map_eq_some_iff.1 hj
              have hjl : j < n * sz := by rw [weakL_length, hfll] at hlt; exact hlt
              have hsz0 : 0 < sz := by
                rcases Nat.eq_zero_or_pos sz with e | e
                · rw [e] at hjl; omega
                · exact e
              obtain ⟨x, k1, k2, k3⟩ := catK_inv hsz0 hcat hz
              have hrz : Rep c1 w1 z (ux j) := by
                have := hrr _ _ _ _ k1 k2
                rwa [show j / sz * sz + j % sz = j by rw [Nat.mul_comm]; exact Nat.div_add_mod j sz] at this
              have e1 := (hcx _ j rfl hjl).1
              rw [add_mk, Nat.zero_add] at e1
              simp only [World.cell?, hheap] at e1
              have e2 : cur.getD j undef = ux j := by
                rw [Array.getD_eq_getD_getElem?]
                simp at e1
                rw [e1]; rfl
              rw [e2] at h1c ⊢
              exact ⟨(hmv z (ux j) (List.mem_of_getElem? hz) hrz).weak, .none (tl_weak z), h1c⟩
            · rw [List.getElem?_append_right hge] at hj
              have := (List.mem_replicate.1 (List.mem_of_getElem? hj)).2
              subst this
              exact ⟨.any _, .none rfl, h1c⟩
      · have := Rep.arr (c := c2) (w := w1) (id := h.length) (off := 0) (len := xs.length) (cap := cap) (by rw [hno2]; omega) (by omega) hmax
        rw [hobn] at this
        rw [← hn]
        exact this

theorem callW_thawK {f : FuncId} {args : List AV} {h : List AObj} {e T sz : Nat} {xs fl : List AV} {Q : AV → List AObj → Prop} (hS : Sound P f (AV.dpL args) (.lst (.tip e T) sz xs)) (hcat : catK sz xs = some fl) {ks : List Nat} (hfl : AV.thwK ks fl = true)
    (h0 : xs = [] → Q (.lst .nil sz []) h) (h1 : ∀ cap, xs.length ≤ cap → cap ≤ maxLen → Q (.arr h.length 0 xs.length cap) (h ++ [.cells e (AV.weakL fl ++ List.replicate ((cap - xs.length) * sz) .any)])) : CallW P f args h Q := by
  refine ⟨hS.1, fun F n c w vals hF hro hb _ hh ra => CallsIn.mono (hS.2 F n c w vals 1 hF hro rfl hb ra.dpL) ?_⟩
  rintro _ w1 ⟨u, c1, rfl, hp, hr, ho⟩
  rcases thaw_coreK (T := 1) hh hb hp hr ho hcat hfl with ⟨rfl, rfl, k1, k2⟩ | ⟨cap, c', k1, k2, k3, k4, k5⟩
  · exact ⟨_, c1, _, _, rfl, h0 rfl, k2, k1, .lst (fun _ => undef) rfl (Nat.le_refl _) (Nat.zero_le _) (by simp) (by simp) rfl (fun _ => ⟨rfl, rfl⟩) rfl (by simp) (by simp), .none rfl⟩
  · exact ⟨_, c', _, _, rfl, h1 cap k1 k2, k3, k4, k5, .none rfl⟩

end
end Go.AM

namespace Go.AM
section
variable {P : Program}

def retF (P : Program) (rs : List ResultVar) (Q : AV → List AObj → Prop) (e : Exit) (s : St) : Prop := (e = .normal ∨ e = .ret) ∧ ∃ x, resA P s rs = some x ∧ Q x s.h
theorem callW_of_F {f : FuncId} {fn : Func} {code : Code} {args : List AV} {h : List AObj} {Q : AV → List AObj → Prop} (hf : P.funcs[f]? = some fn) (hb : fn.body = some code) (hn : (fn.name == "runtime.NumGoroutine") = false)
    (hlen : args.length ≤ fn.ntmps) {rs : List ResultVar} (hrs : fn.results.toList = rs) (hW : Wt true h.length P code (retF P rs Q) ⟨fn.ntmps, numF 0 args, h⟩) : CallW P f args h Q := by
  subst hrs
  refine ⟨⟨fn, hf, hn, by rw [hb]; rfl⟩, ?_⟩
  intro F n c w vals hF hro hbase hdef hh hargs
  have hl : args.length = vals.length := hargs.length
  refine callsIn_of_wp_marks hf hb (hF.1 f) ?_ hro
  have hs0 : SimSt P c w ⟨fn.ntmps, numF 0 args, h⟩ { tmps := vals.toArray ++ Array.replicate (fn.ntmps - vals.toArray.size) undef, defers := [] } := by
    refine ⟨by simp; omega, hbase, ?_, hh, ⟨[], rfl, .nil, by simp⟩⟩
    intro i x hx
    obtain ⟨h1, h2⟩ := numF_get args 0 i x hx
    obtain ⟨u, hu, hr, ho⟩ := hargs.get (by simpa using h2)
    have hi : i < vals.length := (List.getElem?_eq_some_iff.1 hu).1
    exact ⟨u, by rw [Array.getElem?_append_left (by simpa using hi)]; simpa using hu, hr, ho⟩
  refine wpIn_mono (hW F n c w _ (hF.top hro (Nat.le_of_eq hh.no.symm) true) hs0) ?_
  rintro e a' w' ⟨s', c', ⟨he, x, hres, hq⟩, hs', hextK⟩
  have hext := hextK.toExt hh.no
  have key : LeavesInM F n P fn a'.tmps (fun e w' => ∃ u c' r h', e = .returned u ∧ Q r h' ∧ Ext c w c' w' ∧ HSim P c' w' h' ∧ Rep c' w' r u ∧ Own P c' w' r u) a'.defers .returning w' := by
    obtain ⟨rs, hd, hnd, hrs⟩ := hs'.dfr
    obtain ⟨w2, hsh, hleave⟩ := shutAll (F := F) (n := n) (fn := fn) (tmps := a'.tmps) (R := fun e w' => ∃ u c' r h', e = .returned u ∧ Q r h' ∧ Ext c w c' w' ∧ HSim P c' w' h' ∧ Rep c' w' r u ∧ Own P c' w' r u) rs w' hnd hrs
    rw [hd]
    refine hleave ?_
    have hs2 := hs'.recell hsh
    obtain ⟨v, hrun, hrep, hown⟩ := resA_sound hs2 hres
    have hext2 : Ext c w c' w2 := {
      base := hext.base, os := hsh.os.trans hext.os, tape := hsh.tape.trans hext.tape, output := hsh.output.trans hext.output, size := by rw [hsh.size]; exact hext.size
      below := fun b hb => (hsh.below b (by rw [hext.base]; exact hb)).trans (hext.below b hb)
      cell := fun ad u hp hc => hsh.cell (hext.cell ad u hp hc)
      pm := hext.pm, pmb := hext.pmb, owb := hext.owb, no := hext.no, ob := hext.ob
      dfr := fun b hb => by rw [hsh.below b (by rw [hext.base]; exact hdef b _ hb)]; exact hext.dfr b hb }
    exact ⟨v, hrun, v, c', x, s'.h, rfl, hq, hext2, hs2.h, hrep, hown⟩
  rcases he with rfl | rfl
  · exact key
  · exact key

end
end Go.AM

namespace Go.AM
section
variable {P : Program} {F : Fence} {n : Nat} {o : Oper} {a : Act} {w : World}
theorem put_keep {a : Act} {dst : Option Tmp} (v : Value) : ∀ i, dst ≠ some i → (a.put dst v).tmps[i]? = a.tmps[i]? := by
  intro i hi
  cases dst with
  | none => rfl
  | some d =>
    have : d ≠ i := fun e => hi (by rw [e])
    simp only [Act.put]
    rw [Array.getElem?_setIfInBounds_ne this]
theorem operIn_keep {K K' : Act → World → Prop} {Q Q' : Exit → Act → World → Prop} (hk : ∀ a' w', (∀ i, o.dst ≠ some i → a'.tmps[i]? = a.tmps[i]?) → K a' w' → K' a' w') (hq : ∀ e a w, e ≠ .normal → Q e a w → Q' e a w)
    (h : o.wpIn F n P a w K Q) : o.wpIn F n P a w K' Q' := by
  have hl : LetsOut Q → LetsOut Q' := fun ⟨a, w, h⟩ => ⟨a, w, hq _ _ _ (by simp) h⟩
  unfold Oper.wpIn at *
  refine ⟨h.1, ?_⟩
  have hh := h.2
  generalize (o.semAt F.round a.eval).run P w = r at *
  cases r with
  | ok x w' =>
    cases x <;> simp only [Oper.uponIn] at hh ⊢ <;>
      first
        | exact hk _ _ (put_keep _) hh
        | exact hk _ _ (fun i hi => put_keep (a := { a with defers := _ }) _ i hi) hh
        | exact ⟨hh.1, CallsIn.mono hh.2 (fun e w'' he => by cases e <;> first | exact hk _ _ (put_keep _) he | exact hq _ _ _ (by simp) he | exact hl he)⟩
        | exact ⟨hh.1, RowsIn.mono hh.2 (fun _ _ he => hk _ _ (put_keep _) he)⟩
        | exact ⟨hh.1, RoundIn.mono hh.2 (fun e w'' he => by cases e <;> first | exact hk _ _ (put_keep _) he | exact hq _ _ _ (by simp) he | exact hl he)⟩
  | halt x w' => cases x <;> simp only [Oper.uponIn] at hh ⊢ <;> first | exact hh | exact hq _ _ _ (by simp) hh

def SameT (ops : Array Oper) (a a' : Act) : Prop := ∀ i, (∀ o ∈ ops.toList, o.dst ≠ some i) → a'.tmps[i]? = a.tmps[i]?
theorem wpAnyIn_keep {ops : Array Oper} {md : Region.Mode} {Q : Exit → Act → World → Prop} : ∀ (fuel : Nat) (listed : Array Bool) (a : Act) (w : World),
    wpAnyIn F n P md ops Q fuel listed a w → wpAnyIn F n P md ops (fun e a' w' => Q e a' w' ∧ (e = .normal → SameT ops a a')) fuel listed a w
  | 0, listed, a, w, ⟨h1, h2⟩ => ⟨h1, h2, fun _ _ _ => rfl⟩
  | fuel + 1, listed, a, w, ⟨h1, h2⟩ => by
    refine ⟨fun hr => ⟨h1 hr, fun _ _ _ => rfl⟩, fun i hi => ?_⟩
    have h := h2 i hi
    unfold wpOpIn at *
    split
    · rename_i hn; rw [hn] at h; exact wpAnyIn_keep fuel _ _ _ h
    · rename_i o hn
      rw [hn] at h
      dsimp only at h
      have hmem : o ∈ ops.toList := by rw [← Array.getElem?_toList] at hn; exact List.mem_of_getElem? hn
      split
      · rename_i hw
        rw [if_pos hw] at h
        refine operIn_keep (fun a1 w1 hsame hK => ?_) (fun e a w he hq => ⟨hq, fun h => absurd h he⟩) h
        refine wpAnyIn_imp ?_ _ _ _ _ (wpAnyIn_keep fuel _ a1 w1 hK)
        rintro e a2 w2 ⟨q1, q2⟩
        exact ⟨q1, fun he i hi => (q2 he i hi).trans (hsame i (hi o hmem))⟩
      · rename_i hw
        rw [if_neg hw] at h
        refine ⟨h.1, wpAnyIn_imp ?_ _ _ _ _ (wpAnyIn_keep fuel _ _ _ h.2)⟩
        rintro e a2 w2 ⟨q1, q2⟩
        exact ⟨q1, fun he i hi => (q2 he i hi).trans (put_keep _ i (hi o hmem))⟩
end

def lendO : AObj → AObj
  | .cells ty cs => .froz ty (AV.weakL cs)
  | .froz ty cs => .froz ty cs
  | _ => .dead
def lendH (h : List AObj) : List AObj := h.map lendO

def Vw (P : Program) (h : List AObj) (x x1 : AV) : Prop :=
  x1 = x.weak ∨ ∃ id off len cap ty cs ag sz, x = .arr id off len cap ∧ h[id]? = some (.cells ty cs) ∧ tyI P ty = some (ag, sz) ∧ 0 < sz ∧ (ag = true ∨ sz = 1) ∧ off + len * sz ≤ cs.length ∧ AV.koneL (cs.take (off + len * sz)) = true ∧ AV.rfL (cs.take (off + len * sz)) = true ∧
    x1 = .lst .any sz (chunk ag sz len ((AV.weakL (cs.take (off + len * sz))).drop off))

def FrP (ops : Array Oper) (fr fr2 : List (Nat × AV)) : List (Nat × AV) → Prop
  | [] => True
  | (i, x) :: l => ((∃ u, x = .v u ∧ getF fr2 i = some (.v u)) ∨ (getF fr i = some x ∧ (ops.toList.all fun o => o.dst != some i) = true)) ∧ FrP ops fr fr2 l
theorem FrP.get {ops : Array Oper} {fr fr2 : List (Nat × AV)} : ∀ {l : List (Nat × AV)}, FrP ops fr fr2 l → ∀ {i : Nat} {x : AV}, getF l i = some x →
    (∃ u, x = .v u ∧ getF fr2 i = some (.v u)) ∨ (getF fr i = some x ∧ ∀ o ∈ ops.toList, o.dst ≠ some i)
  | [], _, i, x, h => by simp [getF] at h
  | (j, y) :: l, hP, i, x, h => by
    simp only [getF] at h
    split at h
    · rename_i e
      cases h
      subst e
      rcases hP.1 with h1 | ⟨h1, h2⟩
      · exact .inl h1
      · refine .inr ⟨h1, fun o ho e => ?_⟩
        have := List.all_eq_true.1 h2 o ho
        rw [e] at this
        simp at this
    · exact FrP.get hP.2 h
section
variable {P : Program}

theorem lend_sim {c : Ctx} {w : World} {s : St} {a : Act} {fr1 : List (Nat × AV)} (hs : SimSt P c w s a) (hv : ∀ i x1, getF fr1 i = some x1 → ∃ x, getF s.fr i = some x ∧ Vw P s.h x x1) :
    ∃ c1 : Ctx, SimSt P c1 w ⟨s.n, fr1, lendH s.h⟩ a ∧ c1.no = c.no ∧ c1.ob = c.ob ∧ ∀ b, c1.base b ↔ (w.heap.size ≤ b ∨ (c.base b ∧ w.heap[b]? = some (Go.Obj.deferred (some [])))) := by
  classical
  let liv : Nat → Prop := fun b => ∃ id ty cs, s.h[id]? = some (AObj.cells ty cs) ∧ c.ob id = b
  let rsz : Nat → Nat := fun b => match w.heap[b]? with
    | some (Go.Obj.cells cur _ _) => cur.size
    | _ => 0
  let c' : Ctx := { c with pm := fun b => if liv b then rsz b else c.pm b }
  have hlt : ∀ {id : Nat} {o : AObj}, s.h[id]? = some o → id < c.no := fun h => by rw [hs.h.no]; exact (List.getElem?_eq_some_iff.1 h).1
  have hpm0 : ∀ b, liv b → c.base b ∧ c.pm b = 0 := by
    rintro b ⟨id, ty, cs, h1, rfl⟩
    obtain ⟨h2, h3, _⟩ := hs.h.obj id _ h1
    exact ⟨h2, h3⟩
  have he : Ext c w c' w := {
    base := rfl, os := rfl, tape := rfl, output := rfl, size := Nat.le_refl _, below := fun _ _ => rfl, cell := fun _ _ _ h => h
    pm := fun b _ => by
      show c.pm b ≤ if liv b then rsz b else c.pm b
      split
      · rename_i hl; rw [(hpm0 b hl).2]; exact Nat.zero_le _
      · exact Nat.le_refl _
    pmb := fun b hb => by
      show (if liv b then rsz b else c.pm b) = c.pm b
      rw [if_neg fun hl => hb (hpm0 b hl).1]
    owb := fun _ _ => rfl
    no := Nat.le_refl _
    ob := fun _ _ => rfl
    dfr := fun _ h => h }
  let bs : Nat → Prop := fun b => w.heap.size ≤ b ∨ (c.base b ∧ w.heap[b]? = some (Go.Obj.deferred (some [])))
  have hcells : ∀ {id : Nat} {ty : TypeId} {cs : List AV}, s.h[id]? = some (AObj.cells ty cs) → ∀ (j : Nat) (y : AV), (AV.weakL cs)[j]? = some y →
      ∃ u, w.cell? ⟨c'.ob id, j, none⟩ = some u ∧ c'.prot ⟨c'.ob id, j, none⟩ ∧ u.oneCell' = true ∧ Rep c' w y u := by
    intro id ty cs hid j y hj
    obtain ⟨_, _, _, cur, hcur, hcl, hcc⟩ := hs.h.obj id _ hid
    rw [weakL_get] at hj
    obtain ⟨z, hz, rfl⟩ := Option.map_eq_some_iff.1 hj
    have hjl := (List.getElem?_eq_some_iff.1 hz).1
    obtain ⟨r1, _, r3⟩ := hcc j z hz
    refine ⟨cur.getD j undef, ?_, ?_, r3, (r1.mono he).weak⟩
    · show w.cell? ⟨c.ob id, j, none⟩ = _
      simp only [World.cell?, hcur, Option.isSome_none, Bool.false_eq_true, if_false]
      rw [Array.getD_eq_getD_getElem?, Array.getElem?_eq_getElem (by omega)]
      rfl
    · show j < if liv (c.ob id) then rsz (c.ob id) else c.pm (c.ob id)
      rw [if_pos ⟨id, ty, cs, hid, rfl⟩]
      show j < match w.heap[c.ob id]? with | some (Go.Obj.cells cur _ _) => cur.size | _ => 0
      rw [hcur]
      dsimp only
      omega
  refine ⟨c'.rebase bs, ⟨hs.n, fun b hb => .inl hb, ?_, ⟨?_, hs.h.lt, hs.h.inj, ?_⟩, ?_⟩, rfl, rfl, fun b => Iff.rfl⟩
  · intro i x1 hx1
    obtain ⟨x, hx, hvw⟩ := hv i x1 hx1
    obtain ⟨u, hu, hr, ho⟩ := hs.fr i x hx
    refine ⟨u, hu, ?_⟩
    rcases hvw with rfl | ⟨id, off, len, cap, ty, cs, ag, sz, rfl, hid, hty, hsz, hag, hle, hk, hrf, rfl⟩
    · exact ⟨((hr.mono he).weak).rebase _, Own.weak _ _⟩
    · refine ⟨Rep.rebase _ ?_, .none rfl⟩
      cases hr with
      | arr hid' hlen hmax =>
        refine rep_chunk (c := c') hsz hag (by rw [weakL_length, List.length_take]; omega) (by rw [koneL_weak]; exact hk) (weakL_rf _ hrf) (fun j y hj => ?_) trivial hlen hmax
        have hj2 : (AV.weakL cs)[j]? = some y := by
          rw [weakL_get, List.getElem?_take] at hj
          split at hj
          · rw [weakL_get]; exact hj
          · simp at hj
        exact hcells hid j y hj2
  · show c.no = (lendH s.h).length
    rw [hs.h.no]; simp [lendH]
  · intro i o hi
    simp only [lendH, List.getElem?_map] at hi
    obtain ⟨o0, h0, rfl⟩ := Option.map_eq_some_iff.1 hi
    have hob := hs.h.obj i o0 h0
    cases o0 with
    | cells ty cs =>
      intro j y hj
      obtain ⟨u, h1, h2, h3, h4⟩ := hcells h0 j y hj
      exact ⟨u, h1, h2, h3, h4.rebase _⟩
    | froz ty cs =>
      intro j y hj
      obtain ⟨u, h1, h2, h3, h4⟩ := hob j y hj
      exact ⟨u, h1, he.prot h2 h1, h3, (h4.mono he).rebase _⟩
    | _ => exact trivial
  · obtain ⟨rs, h1, h2, h3⟩ := hs.dfr
    exact ⟨rs, h1, h2, fun r hr => ⟨.inr (h3 r hr), (h3 r hr).2⟩⟩

theorem W_pureD {top : Bool} {kf : Nat} {id : Nat} {ops : Array Oper} {Q : Exit → St → Prop} {s : St} (fr1 : List (Nat × AV)) (hm : P.follows .mixedOrders = true) (hd : drawB ops = true)
    (hv : ∀ i x1, getF fr1 i = some x1 → ∃ x, getF s.fr i = some x ∧ Vw P s.h x x1)
    (h : runD P ops.toList ops.toList ⟨s.n, fr1, lendH s.h⟩ fun s2 => s2.n = s.n ∧ ∃ fr', FrP ops s.fr s2.fr fr' ∧ Q .normal ⟨s.n, fr', s.h⟩) : Wt top kf P (.region id ops true) Q s := by
  intro F n c w a hF hs
  obtain ⟨c1, hs1, hno, hob, hbase⟩ := lend_sim hs hv
  simp only [drawB, Bool.and_eq_true, List.all_eq_true, bne_iff_ne, ne_eq] at hd
  have h9 : ∀ (i : Nat) (o : Oper), ops[i]? = some o → dcls o ≠ 9 := fun i o ho => hd.2 o (by rw [← Array.getElem?_toList] at ho; exact List.mem_of_getElem? ho)
  refine wpIn_region_any hm ?_
  let R : St → Prop := fun s2 => s2.n = s.n ∧ ∃ fr', FrP ops s.fr s2.fr fr' ∧ Q .normal ⟨s.n, fr', s.h⟩
  let Q' : St → Prop := fun s => ∃ t, Eqv s t ∧ R t
  have hQ' : Closed Q' := fun s t h ⟨u, h1, h2⟩ => ⟨u, h.symm.trans h1, h2⟩
  have hrun : runE P ops.toList ops.toList ⟨s.n, fr1, lendH s.h⟩ Q' := runD_runE (fun o ho => hd.2 o ho) (runD_mono (fun s2 h2 => ⟨s2, Eqv.refl s2, h2⟩) h)
  have hany := anyA_lex hQ' ops.toList 0 (Array.replicate ops.size false) _ (by simp) (fun j oj hj hl => by
      exfalso
      rcases Nat.lt_or_ge j ops.size with h' | h' <;> simp [h'] at hl) (by simpa [drawOk] using hd.1) hrun
  have := anyA_wp (n := n) hF.1 h9 _ _ _ c1 w.drew a hs1.drew hany
  simp only [Array.length_toList] at this
  refine wpAnyIn_imp ?_ _ _ _ _ (wpAnyIn_keep _ _ _ _ this)
  rintro e a2 w2 ⟨⟨s2, c2, q, hs2, he2⟩, hsame⟩
  cases e with
  | normal =>
    obtain ⟨t, h1, hn2, fr', hfr, hQ⟩ := q
    have hsa := hsame rfl
    have hs2t := hs2.eqv h1
    have hheap : ∀ b, b < w.heap.size → w2.heap[b]? = w.heap[b]? := by
      intro b hb
      by_cases hbb : c1.base b
      · rcases (hbase b).1 hbb with h | ⟨_, h⟩
        · omega
        · have := he2.dfr b (show w.drew.heap[b]? = _ from h)
          rw [this, h]
      · exact he2.below b hbb
    have hsz : w.heap.size ≤ w2.heap.size := he2.size
    let c3 : Ctx := { base := c.base, pm := fun b => if b < w.heap.size then c.pm b else 0, ow := fun b => if b < w.heap.size then c.ow b else 0, no := c.no, ob := c.ob }
    have hp : PExt c w c3 w2 := {
      base := rfl, no := rfl, ob := rfl, os := he2.os, tape := he2.tape.trans rfl, output := he2.output, size := hsz, block := hheap
      pm := fun b hb => by show (if b < w.heap.size then c.pm b else 0) = _; rw [if_pos hb]
      ow := fun b hb => by show (if b < w.heap.size then c.ow b else 0) = _; rw [if_pos hb] }
    have hsp := hs.pext hp
    refine ⟨⟨s.n, fr', s.h⟩, c3, hQ, ⟨hs2t.n.trans hn2, hsp.base, ?_, hsp.h, ?_⟩, (hp.ext hs.base).toK hF.2.2⟩
    · intro i x hx
      rcases hfr.get hx with ⟨u, rfl, hg⟩ | ⟨hg, hno⟩
      · obtain ⟨v, hv, hrv, _⟩ := hs2t.fr i _ hg
        rw [hrv.v_inv] at hv
        exact ⟨u, hv, .v u, .none rfl⟩
      · obtain ⟨u, hu, hr, ho⟩ := hsp.fr i x hg
        exact ⟨u, by rw [hsa i hno]; exact hu, hr, ho⟩
    · obtain ⟨rs, k1, k2, k3⟩ := hs2t.dfr
      refine ⟨rs, k1, k2, fun r hr => ?_⟩
      obtain ⟨k4, k5⟩ := k3 r hr
      rw [he2.base] at k4
      refine ⟨?_, k5⟩
      rcases (hbase r).1 k4 with h | ⟨h, _⟩
      · exact hs.base r h
      · exact h
  | _ => exact q.elim
end
end Go.AM

namespace Go.AM

def VwN (P : Program) (h : List AObj) (x x1 : AV) : Prop :=
  Vw P h x x1 ∨ ∃ (id len cap : Nat) (ty : TypeId) (cs ys : List AV), x = .arr id 0 len cap ∧ h[id]? = some (.cells ty cs) ∧ len ≤ cs.length ∧ ys.length = len ∧ AV.koneL ys = true ∧ AV.rfL ys = true ∧
    (∀ (k : Nat) (y : AV), ys[k]? = some y → ∃ z, cs[k]? = some z ∧ Vw P h z y) ∧ x1 = .lst .any 1 ys
section
variable {P : Program}
theorem chunk_one : ∀ (n : Nat) (l : List AV), n ≤ l.length → chunk false 1 n l = l.take n
  | 0, l, _ => by simp [chunk]
  | n + 1, [], h => by simp at h
  | n + 1, x :: l, h => by
    simp only [chunk, Bool.false_eq_true, if_false, List.headD_cons, List.take_succ_cons, List.drop_succ_cons, List.drop_zero]
    rw [chunk_one n l (by simpa using h)]

theorem lend_simN {c : Ctx} {w : World} {s : St} {a : Act} {fr1 : List (Nat × AV)} (hs : SimSt P c w s a) (hv : ∀ i x1, getF fr1 i = some x1 → ∃ x, getF s.fr i = some x ∧ VwN P s.h x x1) :
    ∃ c1 : Ctx, SimSt P c1 w ⟨s.n, fr1, lendH s.h⟩ a ∧ c1.no = c.no ∧ c1.ob = c.ob ∧ ∀ b, c1.base b ↔ (w.heap.size ≤ b ∨ (c.base b ∧ w.heap[b]? = some (Go.Obj.deferred (some [])))) := by
  classical
  let liv : Nat → Prop := fun b => ∃ id ty cs, s.h[id]? = some (AObj.cells ty cs) ∧ c.ob id = b
  let rsz : Nat → Nat := fun b => match w.heap[b]? with
    | some (Go.Obj.cells cur _ _) => cur.size
    | _ => 0
  let c' : Ctx := { c with pm := fun b => if liv b then rsz b else c.pm b }
  have hlt : ∀ {id : Nat} {o : AObj}, s.h[id]? = some o → id < c.no := fun h => by rw [hs.h.no]; exact (List.getElem?_eq_some_iff.1 h).1
  have hpm0 : ∀ b, liv b → c.base b ∧ c.pm b = 0 := by
    rintro b ⟨id, ty, cs, h1, rfl⟩
    obtain ⟨h2, h3, _⟩ := hs.h.obj id _ h1
    exact ⟨h2, h3⟩
  have he : Ext c w c' w := {
    base := rfl, os := rfl, tape := rfl, output := rfl, size := Nat.le_refl _, below := fun _ _ => rfl, cell := fun _ _ _ h => h
    pm := fun b _ => by
      show c.pm b ≤ if liv b then rsz b else c.pm b
      split
      · rename_i hl; rw [(hpm0 b hl).2]; exact Nat.zero_le _
      · exact Nat.le_refl _
    pmb := fun b hb => by
      show (if liv b then rsz b else c.pm b) = c.pm b
      rw [if_neg fun hl => hb (hpm0 b hl).1]
    owb := fun _ _ => rfl
    no := Nat.le_refl _
    ob := fun _ _ => rfl
    dfr := fun _ h => h }
  let bs : Nat → Prop := fun b => w.heap.size ≤ b ∨ (c.base b ∧ w.heap[b]? = some (Go.Obj.deferred (some [])))
  have hcells : ∀ {id : Nat} {ty : TypeId} {cs : List AV}, s.h[id]? = some (AObj.cells ty cs) → ∀ (j : Nat) (y : AV), (AV.weakL cs)[j]? = some y →
      ∃ u, w.cell? ⟨c'.ob id, j, none⟩ = some u ∧ c'.prot ⟨c'.ob id, j, none⟩ ∧ u.oneCell' = true ∧ Rep c' w y u := by
    intro id ty cs hid j y hj
    obtain ⟨_, _, _, cur, hcur, hcl, hcc⟩ := hs.h.obj id _ hid
    rw [weakL_get] at hj
    obtain ⟨z, hz, rfl⟩ := Option.map_eq_some_iff.1 hj
    have hjl := (List.getElem?_eq_some_iff.1 hz).1
    obtain ⟨r1, _, r3⟩ := hcc j z hz
    refine ⟨cur.getD j undef, ?_, ?_, r3, (r1.mono he).weak⟩
    · show w.cell? ⟨c.ob id, j, none⟩ = _
      simp only [World.cell?, hcur, Option.isSome_none, Bool.false_eq_true, if_false]
      rw [Array.getD_eq_getD_getElem?, Array.getElem?_eq_getElem (by omega)]
      rfl
    · show j < if liv (c.ob id) then rsz (c.ob id) else c.pm (c.ob id)
      rw [if_pos ⟨id, ty, cs, hid, rfl⟩]
      show j < match w.heap[c.ob id]? with | some (Go.Obj.cells cur _ _) => cur.size | _ => 0
      rw [hcur]
      dsimp only
      omega
  have hcell0 : ∀ {id : Nat} {ty : TypeId} {cs : List AV}, s.h[id]? = some (AObj.cells ty cs) → ∀ (j : Nat) (z : AV), cs[j]? = some z →
      ∃ u, w.cell? ⟨c'.ob id, j, none⟩ = some u ∧ c'.prot ⟨c'.ob id, j, none⟩ ∧ u.oneCell' = true ∧ Rep c w z u := by
    intro id ty cs hid j z hz
    obtain ⟨_, _, _, cur, hcur, hcl, hcc⟩ := hs.h.obj id _ hid
    have hjl := (List.getElem?_eq_some_iff.1 hz).1
    obtain ⟨r1, _, r3⟩ := hcc j z hz
    refine ⟨cur.getD j undef, ?_, ?_, r3, r1⟩
    · show w.cell? ⟨c.ob id, j, none⟩ = _
      simp only [World.cell?, hcur, Option.isSome_none, Bool.false_eq_true, if_false]
      rw [Array.getD_eq_getD_getElem?, Array.getElem?_eq_getElem (by omega)]
      rfl
    · show j < if liv (c.ob id) then rsz (c.ob id) else c.pm (c.ob id)
      rw [if_pos ⟨id, ty, cs, hid, rfl⟩]
      show j < match w.heap[c.ob id]? with | some (Go.Obj.cells cur _ _) => cur.size | _ => 0
      rw [hcur]
      dsimp only
      omega
  have hview : ∀ {x x1 : AV} {u : Value}, Vw P s.h x x1 → Rep c w x u → Rep c' w x1 u ∧ ∀ c2 w2, Own P c2 w2 x1 u := by
    intro x x1 u hvw hr
    rcases hvw with rfl | ⟨id, off, len, cap, ty, cs, ag, sz, rfl, hid, hty, hsz, hag, hle, hk, hrf, rfl⟩
    · exact ⟨(hr.mono he).weak, fun _ _ => Own.weak _ _⟩
    · refine ⟨?_, fun _ _ => .none rfl⟩
      cases hr with
      | arr hid' hlen hmax =>
        refine rep_chunk (c := c') hsz hag (by rw [weakL_length, List.length_take]; omega) (by rw [koneL_weak]; exact hk) (weakL_rf _ hrf) (fun j y hj => ?_) trivial hlen hmax
        have hj2 : (AV.weakL cs)[j]? = some y := by
          rw [weakL_get, List.getElem?_take] at hj
          split at hj
          · rw [weakL_get]; exact hj
          · simp at hj
        exact hcells hid j y hj2
  refine ⟨c'.rebase bs, ⟨hs.n, fun b hb => .inl hb, ?_, ⟨?_, hs.h.lt, hs.h.inj, ?_⟩, ?_⟩, rfl, rfl, fun b => Iff.rfl⟩
  · intro i x1 hx1
    obtain ⟨x, hx, hvw⟩ := hv i x1 hx1
    obtain ⟨u, hu, hr, ho⟩ := hs.fr i x hx
    refine ⟨u, hu, ?_⟩
    rcases hvw with hvw | ⟨id, len, cap, ty, cs, ys, rfl, hid, hle, hyl, hk, hrf, hys, rfl⟩
    · obtain ⟨k1, k2⟩ := hview hvw hr
      exact ⟨k1.rebase _, k2 _ _⟩
    · refine ⟨Rep.rebase _ ?_, .none rfl⟩
      cases hr with
      | arr hid' hlen hmax =>
        have h1 := rep_chunk (c := c') (w := w) (ag := false) (sz := 1) (id := id) (off := 0) (len := len) (cap := cap) (cs := ys) (o := .any) (by omega) (.inr rfl) (by omega) hk hrf (fun j y hj => by
          obtain ⟨z, hz, hvz⟩ := hys j y hj
          obtain ⟨uz, g1, g2, g3, g4⟩ := hcell0 hid j z hz
          exact ⟨uz, g1, g2, g3, (hview hvz g4).1⟩) trivial hlen hmax
        rw [List.drop_zero, chunk_one _ _ (by omega), List.take_of_length_le (by omega)] at h1
        exact h1
  · show c.no = (lendH s.h).length
    rw [hs.h.no]; simp [lendH]
  · intro i o hi
    simp only [lendH, List.getElem?_map] at hi
    obtain ⟨o0, h0, rfl⟩ := Option.map_eq_some_iff.1 hi
    have hob := hs.h.obj i o0 h0
    cases o0 with
    | cells ty cs =>
      intro j y hj
      obtain ⟨u, h1, h2, h3, h4⟩ := hcells h0 j y hj
      exact ⟨u, h1, h2, h3, h4.rebase _⟩
    | froz ty cs =>
      intro j y hj
      obtain ⟨u, h1, h2, h3, h4⟩ := hob j y hj
      exact ⟨u, h1, he.prot h2 h1, h3, (h4.mono he).rebase _⟩
    | _ => exact trivial
  · obtain ⟨rs, h1, h2, h3⟩ := hs.dfr
    exact ⟨rs, h1, h2, fun r hr => ⟨.inr (h3 r hr), (h3 r hr).2⟩⟩

theorem numF_mk : ∀ (xs : List AV) (k j : Nat), getF (numF k xs) (k + j) = xs[j]?
  | [], k, j => by simp [numF, getF]
  | x :: xs, k, 0 => by simp [numF, getF]
  | x :: xs, k, j + 1 => by
    have := numF_mk xs (k + 1) j
    rw [show k + 1 + j = k + (j + 1) by omega] at this
    simp only [numF, getF]
    rw [if_neg (by omega), this]
    simp
theorem repL_of {c : Ctx} {w : World} : ∀ {xs : List AV} {us : List Value}, xs.length = us.length → (∀ (i : Nat) (x : AV), xs[i]? = some x → ∃ u, us[i]? = some u ∧ Rep c w x u ∧ Own P c w x u) → RepL P c w xs us
  | [], [], _, _ => .nil
  | [], _ :: _, h, _ => by simp at h
  | _ :: _, [], h, _ => by simp at h
  | x :: xs, u :: us, hl, h => by
    obtain ⟨u', h1, h2, h3⟩ := h 0 x rfl
    simp at h1
    subst h1
    exact .cons h2 h3 (repL_of (by simpa using hl) fun i y hi => by simpa using h (i + 1) y (by simpa using hi))

theorem callW_lendN {f : FuncId} {args args1 : List AV} {h : List AObj} {v : Value} {Q : AV → List AObj → Prop} (hS : Sound P f (AV.dpL args1) (.v v)) (hlen : args1.length = args.length)
    (hv : ∀ (i : Nat) (x1 : AV), args1[i]? = some x1 → ∃ x, args[i]? = some x ∧ VwN P h x x1) (hQ : Q (.v v) h) : CallW P f args h Q := by
  refine ⟨hS.1, fun F n c w vals hF hro hb hdf hh ra => ?_⟩
  have hl : args.length = vals.length := ra.length
  let a : Act := { tmps := vals.toArray, defers := [] }
  have hs0 : SimSt P c w ⟨vals.length, numF 0 args, h⟩ a := by
    refine ⟨by simp [a], hb, ?_, hh, ⟨[], rfl, .nil, by simp⟩⟩
    intro i x hx
    obtain ⟨h1, h2⟩ := numF_get args 0 i x hx
    obtain ⟨u, hu, hr, ho⟩ := ra.get (by simpa using h2)
    exact ⟨u, by simpa [a] using hu, hr, ho⟩
  obtain ⟨c1, hs1, hno, hob, hbase⟩ := lend_simN (fr1 := numF 0 args1) hs0 (fun i x1 hx1 => by
    obtain ⟨h1, h2⟩ := numF_get args1 0 i x1 hx1
    obtain ⟨x, h3, h4⟩ := hv i x1 (by simpa using h2)
    exact ⟨x, by have := numF_mk args 0 i; rw [Nat.zero_add] at this; rw [this]; exact h3, h4⟩)
  have hl1 : RepL P c1 w args1 vals := repL_of (by omega) fun i x hx => by
    obtain ⟨u, h1, h2, h3⟩ := hs1.fr i x (by have := numF_mk args1 0 i; rw [Nat.zero_add] at this; rw [this]; exact hx)
    exact ⟨u, by simpa [a] using h1, h2, h3⟩
  have hb1 : ∀ b, w.heap.size ≤ b → c1.base b := fun b hb' => (hbase b).2 (.inl hb')
  refine CallsIn.mono (hS.2 F n c1 w vals 1 hF hro rfl hb1 hl1.dpL) ?_
  rintro _ w2 ⟨u, c2, rfl, hp2, hr, _⟩
  let c3 : Ctx := { base := c.base, pm := fun b => if b < w.heap.size then c.pm b else 0, ow := fun b => if b < w.heap.size then c.ow b else 0, no := c.no, ob := c.ob }
  have hp : PExt c w c3 w2 := {
    base := rfl, no := rfl, ob := rfl, os := hp2.os, tape := hp2.tape, output := hp2.output, size := hp2.size, block := hp2.block
    pm := fun b hb => by show (if b < w.heap.size then c.pm b else 0) = _; rw [if_pos hb]
    ow := fun b hb => by show (if b < w.heap.size then c.ow b else 0) = _; rw [if_pos hb] }
  have hsp := hs0.pext hp
  have hu : u = v := hr.v_inv
  subst hu
  exact ⟨u, c3, .v u, h, rfl, hQ, hp.ext hb, hsp.h, .v u, .none rfl⟩
end
end Go.AM

namespace Go.AM

inductive VwD (P : Program) (h : List AObj) : AV → AV → Prop
  | base {x x1 : AV} (hv : Vw P h x x1) : VwD P h x x1
  | row {id len cap sz : Nat} {ag : Bool} {ty : TypeId} {cs ys : List AV} (zs : Nat → AV) (hid : h[id]? = some (.cells ty cs)) (hsz : 0 < sz) (hag : ag = true ∨ sz = 1) (hle : len * sz ≤ cs.length) (hyl : ys.length = len * sz)
      (hk : AV.koneL ys = true) (hrf : AV.rfL ys = true) (hz : ∀ (k : Nat) (y : AV), ys[k]? = some y → cs[k]? = some (zs k)) (hv : ∀ (k : Nat) (y : AV), ys[k]? = some y → VwD P h (zs k) y) :
      VwD P h (.arr id 0 len cap) (.lst .any sz (chunk ag sz len ys))
section
variable {P : Program}

theorem lend_simD {c : Ctx} {w : World} {s : St} {a : Act} {fr1 : List (Nat × AV)} (hs : SimSt P c w s a) (hv : ∀ i x1, getF fr1 i = some x1 → ∃ x, getF s.fr i = some x ∧ VwD P s.h x x1) :
    ∃ c1 : Ctx, SimSt P c1 w ⟨s.n, fr1, lendH s.h⟩ a ∧ c1.no = c.no ∧ c1.ob = c.ob ∧ ∀ b, c1.base b ↔ (w.heap.size ≤ b ∨ (c.base b ∧ w.heap[b]? = some (Go.Obj.deferred (some [])))) := by
  classical
  let liv : Nat → Prop := fun b => ∃ id ty cs, s.h[id]? = some (AObj.cells ty cs) ∧ c.ob id = b
  let rsz : Nat → Nat := fun b => match w.heap[b]? with
    | some (Go.Obj.cells cur _ _) => cur.size
    | _ => 0
  let c' : Ctx := { c with pm := fun b => if liv b then rsz b else c.pm b }
  have hlt : ∀ {id : Nat} {o : AObj}, s.h[id]? = some o → id < c.no := fun h => by rw [hs.h.no]; exact (List.getElem?_eq_some_iff.1 h).1
  have hpm0 : ∀ b, liv b → c.base b ∧ c.pm b = 0 := by
    rintro b ⟨id, ty, cs, h1, rfl⟩
    obtain ⟨h2, h3, _⟩ := hs.h.obj id _ h1
    exact ⟨h2, h3⟩
  have he : Ext c w c' w := {
    base := rfl, os := rfl, tape := rfl, output := rfl, size := Nat.le_refl _, below := fun _ _ => rfl, cell := fun _ _ _ h => h
    pm := fun b _ => by
      show c.pm b ≤ if liv b then rsz b else c.pm b
      split
      · rename_i hl; rw [(hpm0 b hl).2]; exact Nat.zero_le _
      · exact Nat.le_refl _
    pmb := fun b hb => by
      show (if liv b then rsz b else c.pm b) = c.pm b
      rw [if_neg fun hl => hb (hpm0 b hl).1]
    owb := fun _ _ => rfl
    no := Nat.le_refl _
    ob := fun _ _ => rfl
    dfr := fun _ h => h }
  let bs : Nat → Prop := fun b => w.heap.size ≤ b ∨ (c.base b ∧ w.heap[b]? = some (Go.Obj.deferred (some [])))
  have hcells : ∀ {id : Nat} {ty : TypeId} {cs : List AV}, s.h[id]? = some (AObj.cells ty cs) → ∀ (j : Nat) (y : AV), (AV.weakL cs)[j]? = some y →
      ∃ u, w.cell? ⟨c'.ob id, j, none⟩ = some u ∧ c'.prot ⟨c'.ob id, j, none⟩ ∧ u.oneCell' = true ∧ Rep c' w y u := by
    intro id ty cs hid j y hj
    obtain ⟨_, _, _, cur, hcur, hcl, hcc⟩ := hs.h.obj id _ hid
    rw [weakL_get] at hj
    obtain ⟨z, hz, rfl⟩ := Option.map_eq_some_iff.1 hj
    have hjl := (List.getElem?_eq_some_iff.1 hz).1
    obtain ⟨r1, _, r3⟩ := hcc j z hz
    refine ⟨cur.getD j undef, ?_, ?_, r3, (r1.mono he).weak⟩
    · show w.cell? ⟨c.ob id, j, none⟩ = _
      simp only [World.cell?, hcur, Option.isSome_none, Bool.false_eq_true, if_false]
      rw [Array.getD_eq_getD_getElem?, Array.getElem?_eq_getElem (by omega)]
      rfl
    · show j < if liv (c.ob id) then rsz (c.ob id) else c.pm (c.ob id)
      rw [if_pos ⟨id, ty, cs, hid, rfl⟩]
      show j < match w.heap[c.ob id]? with | some (Go.Obj.cells cur _ _) => cur.size | _ => 0
      rw [hcur]
      dsimp only
      omega
  have hcell0 : ∀ {id : Nat} {ty : TypeId} {cs : List AV}, s.h[id]? = some (AObj.cells ty cs) → ∀ (j : Nat) (z : AV), cs[j]? = some z →
      ∃ u, w.cell? ⟨c'.ob id, j, none⟩ = some u ∧ c'.prot ⟨c'.ob id, j, none⟩ ∧ u.oneCell' = true ∧ Rep c w z u := by
    intro id ty cs hid j z hz
    obtain ⟨_, _, _, cur, hcur, hcl, hcc⟩ := hs.h.obj id _ hid
    have hjl := (List.getElem?_eq_some_iff.1 hz).1
    obtain ⟨r1, _, r3⟩ := hcc j z hz
    refine ⟨cur.getD j undef, ?_, ?_, r3, r1⟩
    · show w.cell? ⟨c.ob id, j, none⟩ = _
      simp only [World.cell?, hcur, Option.isSome_none, Bool.false_eq_true, if_false]
      rw [Array.getD_eq_getD_getElem?, Array.getElem?_eq_getElem (by omega)]
      rfl
    · show j < if liv (c.ob id) then rsz (c.ob id) else c.pm (c.ob id)
      rw [if_pos ⟨id, ty, cs, hid, rfl⟩]
      show j < match w.heap[c.ob id]? with | some (Go.Obj.cells cur _ _) => cur.size | _ => 0
      rw [hcur]
      dsimp only
      omega
  have hview : ∀ {x x1 : AV} {u : Value}, Vw P s.h x x1 → Rep c w x u → Rep c' w x1 u ∧ ∀ c2 w2, Own P c2 w2 x1 u := by
    intro x x1 u hvw hr
    rcases hvw with rfl | ⟨id, off, len, cap, ty, cs, ag, sz, rfl, hid, hty, hsz, hag, hle, hk, hrf, rfl⟩
    · exact ⟨(hr.mono he).weak, fun _ _ => Own.weak _ _⟩
    · refine ⟨?_, fun _ _ => .none rfl⟩
      cases hr with
      | arr hid' hlen hmax =>
        refine rep_chunk (c := c') hsz hag (by rw [weakL_length, List.length_take]; omega) (by rw [koneL_weak]; exact hk) (weakL_rf _ hrf) (fun j y hj => ?_) trivial hlen hmax
        have hj2 : (AV.weakL cs)[j]? = some y := by
          rw [weakL_get, List.getElem?_take] at hj
          split at hj
          · rw [weakL_get]; exact hj
          · simp at hj
        exact hcells hid j y hj2
  have hviewD : ∀ {x x1 : AV}, VwD P s.h x x1 → ∀ (u : Value), Rep c w x u → Rep c' w x1 u ∧ ∀ c2 w2, Own P c2 w2 x1 u := by
    intro x x1 hvw
    induction hvw with
    | base hv => exact fun u hr => hview hv hr
    | @row id len cap sz ag ty cs ys zs hid hsz hag hle hyl hk hrf hz hv ih =>
      intro u hr
      refine ⟨?_, fun _ _ => .none rfl⟩
      cases hr with
      | arr hid' hlen hmax =>
        have h1 := rep_chunk (c := c') (w := w) (ag := ag) (sz := sz) (id := id) (off := 0) (len := len) (cap := cap) (cs := ys) (o := .any) hsz hag (by omega) hk hrf (fun j y hj => by
          obtain ⟨uz, g1, g2, g3, g4⟩ := hcell0 hid j (zs j) (hz j y hj)
          exact ⟨uz, g1, g2, g3, (ih j y hj uz g4).1⟩) trivial hlen hmax
        rw [List.drop_zero] at h1
        exact h1
  refine ⟨c'.rebase bs, ⟨hs.n, fun b hb => .inl hb, ?_, ⟨?_, hs.h.lt, hs.h.inj, ?_⟩, ?_⟩, rfl, rfl, fun b => Iff.rfl⟩
  · intro i x1 hx1
    obtain ⟨x, hx, hvw⟩ := hv i x1 hx1
    obtain ⟨u, hu, hr, ho⟩ := hs.fr i x hx
    refine ⟨u, hu, ?_⟩
    obtain ⟨k1, k2⟩ := hviewD hvw u hr
    exact ⟨k1.rebase _, k2 _ _⟩
  · show c.no = (lendH s.h).length
    rw [hs.h.no]; simp [lendH]
  · intro i o hi
    simp only [lendH, List.getElem?_map] at hi
    obtain ⟨o0, h0, rfl⟩ := Option.map_eq_some_iff.1 hi
    have hob := hs.h.obj i o0 h0
    cases o0 with
    | cells ty cs =>
      intro j y hj
      obtain ⟨u, h1, h2, h3, h4⟩ := hcells h0 j y hj
      exact ⟨u, h1, h2, h3, h4.rebase _⟩
    | froz ty cs =>
      intro j y hj
      obtain ⟨u, h1, h2, h3, h4⟩ := hob j y hj
      exact ⟨u, h1, he.prot h2 h1, h3, (h4.mono he).rebase _⟩
    | _ => exact trivial
  · obtain ⟨rs, h1, h2, h3⟩ := hs.dfr
    exact ⟨rs, h1, h2, fun r hr => ⟨.inr (h3 r hr), (h3 r hr).2⟩⟩

theorem callW_lendD3 {f : FuncId} {args args1 : List AV} {h : List AObj} {v : Value} {Q : AV → List AObj → Prop} (hS : Sound P f (AV.dpL args1) (.v v)) (hlen : args1.length = args.length)
    (hv : ∀ (i : Nat) (x1 : AV), args1[i]? = some x1 → ∃ x, args[i]? = some x ∧ VwD P h x x1) (hQ : Q (.v v) h) : CallW P f args h Q := by
  refine ⟨hS.1, fun F n c w vals hF hro hb hdf hh ra => ?_⟩
  have hl : args.length = vals.length := ra.length
  let a : Act := { tmps := vals.toArray, defers := [] }
  have hs0 : SimSt P c w ⟨vals.length, numF 0 args, h⟩ a := by
    refine ⟨by simp [a], hb, ?_, hh, ⟨[], rfl, .nil, by simp⟩⟩
    intro i x hx
    obtain ⟨h1, h2⟩ := numF_get args 0 i x hx
    obtain ⟨u, hu, hr, ho⟩ := ra.get (by simpa using h2)
    exact ⟨u, by simpa [a] using hu, hr, ho⟩
  obtain ⟨c1, hs1, hno, hob, hbase⟩ := lend_simD (fr1 := numF 0 args1) hs0 (fun i x1 hx1 => by
    obtain ⟨h1, h2⟩ := numF_get args1 0 i x1 hx1
    obtain ⟨x, h3, h4⟩ := hv i x1 (by simpa using h2)
    exact ⟨x, by have := numF_mk args 0 i; rw [Nat.zero_add] at this; rw [this]; exact h3, h4⟩)
  have hl1 : RepL P c1 w args1 vals := repL_of (by omega) fun i x hx => by
    obtain ⟨u, h1, h2, h3⟩ := hs1.fr i x (by have := numF_mk args1 0 i; rw [Nat.zero_add] at this; rw [this]; exact hx)
    exact ⟨u, by simpa [a] using h1, h2, h3⟩
  have hb1 : ∀ b, w.heap.size ≤ b → c1.base b := fun b hb' => (hbase b).2 (.inl hb')
  refine CallsIn.mono (hS.2 F n c1 w vals 1 hF hro rfl hb1 hl1.dpL) ?_
  rintro _ w2 ⟨u, c2, rfl, hp2, hr, _⟩
  let c3 : Ctx := { base := c.base, pm := fun b => if b < w.heap.size then c.pm b else 0, ow := fun b => if b < w.heap.size then c.ow b else 0, no := c.no, ob := c.ob }
  have hp : PExt c w c3 w2 := {
    base := rfl, no := rfl, ob := rfl, os := hp2.os, tape := hp2.tape, output := hp2.output, size := hp2.size, block := hp2.block
    pm := fun b hb => by show (if b < w.heap.size then c.pm b else 0) = _; rw [if_pos hb]
    ow := fun b hb => by show (if b < w.heap.size then c.ow b else 0) = _; rw [if_pos hb] }
  have hsp := hs0.pext hp
  have hu : u = v := hr.v_inv
  subst hu
  exact ⟨u, c3, .v u, h, rfl, hQ, hp.ext hb, hsp.h, .v u, .none rfl⟩
end
end Go.AM

namespace Go.AM
section
variable {P : Program}
def listed0 (ops : Array Oper) : Array Bool := (Array.replicate ops.size false).setIfInBounds 0 true
def drawF (ops : Array Oper) (pre : Nat) : Bool := decide (1 ≤ pre) && decide (pre ≤ ops.size) && Region.noSelect ops && Region.free .any ops (Array.replicate ops.size false) 0 &&
  (Region.ready .any ops (Array.replicate ops.size false)).contains 0 && closedB ops (listed0 ops) && (ops.toList.all fun o => dcls o != 9) && lexS ops (preL ops pre) (pre - 1) 1 (listed0 ops) && seqB ops (ops.size - pre) pre (preL ops pre)
theorem W_drawF {kf : Nat} {id : Nat} {ops : Array Oper} {Q : Exit → St → Prop} {s : St} (pre : Nat) {o0 : Oper} {k d : Nat} {x : AV} (hm : P.follows .mixedOrders = true) (hd : drawF ops pre = true)
    (h0 : ops[0]? = some o0) (hop : o0.op = .move (.tmp k)) (hdst : o0.dst = some d) (hgd : o0.guard = none) (hx : getF s.fr k = some x) (hdn : d < s.n)
    (h : runD P ops.toList ((ops.toList.drop 1).take (pre - 1)) ⟨s.n, putF s.fr d x, s.h⟩ fun s' => runA P ops.toList (ops.toList.drop pre) s' fun s2 => Q .normal s2) : Wt true kf P (.region id ops true) Q s := by
  intro F n c w a hF hs
  simp only [drawF, Bool.and_eq_true, decide_eq_true_eq] at hd
  obtain ⟨⟨⟨⟨⟨⟨⟨⟨h1p, hle⟩, hns⟩, hfree⟩, hrd⟩, hcl⟩, h9⟩, hlex⟩, hseq⟩ := hd
  have hro : F.round = none := hF.2.1 rfl
  refine wpIn_region_any hm ?_
  obtain ⟨u, hu, hr, ho⟩ := hs.drew.fr k x hx
  let Qn : Exit → Act → World → Prop := fun e a' w' => e = .normal ∧ ∃ s' c', Q e s' ∧ SimSt P c' w' s' a' ∧ ExtK kf c w c' w'
  refine wpAnyIn_imp (Q := Qn) (fun e a w h => h.2) _ _ _ _ ?_
  have hev : a.eval (.tmp k) = u := by simp [Act.eval, hu]
  have hs0 : SimSt P c w.drew ⟨s.n, putF s.fr d x, s.h⟩ (a.put (some d) u) := SimSt.put hs.drew (by simp [St.put, hdn]) hr ho
  let R : St → Prop := fun s => ∃ t, Eqv s t ∧ runA P ops.toList (ops.toList.drop pre) t fun s2 => Q .normal s2
  have hR : Closed R := fun s t h ⟨u, h1, h2⟩ => ⟨u, h.symm.trans h1, h2⟩
  have hlen : ((ops.toList.drop 1).take (pre - 1)).length = pre - 1 := by rw [List.length_take, List.length_drop]; simp; omega
  have hrunE : runE P ops.toList ((ops.toList.drop 1).take (pre - 1)) ⟨s.n, putF s.fr d x, s.h⟩ R := by
    refine runD_runE (fun o ho => ?_) (runD_mono (fun s1 h1 => ⟨s1, Eqv.refl s1, h1⟩) h)
    have := List.all_eq_true.1 h9 o (List.mem_of_mem_drop (List.mem_of_mem_take ho))
    simpa using this
  have hany := anyS_lex (P := P) hR (fun j hj => by
      rw [Array.getD_eq_getD_getElem?, Array.getElem?_eq_none (by rw [preL_size]; exact hj)]; rfl) ((ops.toList.drop 1).take (pre - 1)) 1 (listed0 ops) _ (fun j hj => by
      rw [List.getElem?_take, if_pos (by omega), List.getElem?_drop, Array.getElem?_toList]) (closedB_ok hcl) (by rw [hlen]; exact hlex) hrunE
  rw [hlen] at hany
  have hfin := anyS_wp (n := n) (c0 := c) (w0 := w) (Qw := Qn) hF.1 (ops.size - pre) (R := R) (L := preL ops pre) ?_ (pre - 1) _ _ c w.drew (a.put (some d) u) (ext_drew c w) hs0 hany
  · have e1 : pre - 1 + (ops.size - pre) = ops.size - 1 := by omega
    rw [e1] at hfin
    have hsz : ops.size - 1 + 1 = ops.size := by omega
    have := wpAnyIn_take (n := n) (P := P) (Q := Qn) (F := F) (i := 0) (oi := o0) (v := u) (fuel := ops.size - 1) (listed := Array.replicate ops.size false) (a := a) (w := w.drew) (md := .any) hro h0 hns hfree hrd (fun c a w hq => by cases hq.1)
      ⟨.inl ⟨by simp [Region.wanted, hgd], fun w => by simp only [execOp, hop, hev]; rfl⟩, fun w => by simp only [Oper.about, hop]⟩ (by rw [hdst]; exact hfin)
    rw [hsz] at this
    exact this
  · rintro s1 c1 w1 a1 he1 hs1 ⟨t, h1, h2⟩
    refine wpAnyIn_imp ?_ _ _ _ _ (seq_wp hF.1 (ops.size - pre) pre (preL ops pre) t c1 w1 a1 _ (by omega) hseq (hs1.eqv h1) h2)
    rintro e a2 w2 ⟨s2, c2, q, hs2, he2⟩
    cases e with
    | normal => exact ⟨rfl, s2, c2, q, hs2, (he1.trans he2).toK hF.2.2⟩
    | _ => exact q.elim
theorem W_rfE {kf : Nat} {id : Nat} {ops : Array Oper} {Q : Exit → St → Prop} {s : St} (pre : Nat) (ks : List Nat) {o0 : Oper} {k d : Nat} {x : AV} (hm : P.follows .mixedOrders = true) (hd : drawF ops pre = true)
    (h0 : ops[0]? = some o0) (hop : o0.op = .move (.tmp k)) (hdst : o0.dst = some d) (hgd : o0.guard = none) (hx : getF s.fr k = some x) (hdn : d < s.n)
    (h : runD P ops.toList ((ops.toList.drop 1).take (pre - 1)) ⟨s.n, putF s.fr d x, s.h⟩ fun s' => runA P ops.toList (ops.toList.drop pre) s' fun s2 => Q .normal (keepS ks s2)) : Wt true kf P (.region id ops true) Q s :=
  W_forget ks (W_drawF pre hm hd h0 hop hdst hgd hx hdn h)
end
end Go.AM

namespace Go.AM
section
variable {P : Program}
def AnyT (kf : Nat) (P : Program) (ops : Array Oper) (Q : Exit → St → Prop) (fuel : Nat) (listed : Array Bool) (s : St) : Prop :=
  ∀ (F : Fence) (n : Nat) (c0 : Ctx) (w0 : World) (c : Ctx) (w : World) (a : Act), Good F → F.round = none → kf ≤ c0.no → Ext c0 w0 c w → SimSt P c w s a →
    wpAnyIn F n P .any ops (fun e a' w' => e = .normal ∧ ∃ s' c', Q e s' ∧ SimSt P c' w' s' a' ∧ ExtK kf c0 w0 c' w') fuel listed a w
theorem W_anyT {kf : Nat} {id : Nat} {ops : Array Oper} {Q : Exit → St → Prop} {s : St} (hm : P.follows .mixedOrders = true) (h : AnyT kf P ops Q ops.size (Array.replicate ops.size false) s) : Wt true kf P (.region id ops true) Q s := by
  intro F n c w a hF hs
  refine wpIn_region_any hm ?_
  exact wpAnyIn_imp (fun e a w h => h.2) _ _ _ _ (h F n c w c w.drew a hF.1 (hF.2.1 rfl) hF.2.2 (ext_drew c w) hs.drew)

def Gives (P : Program) (ops : Array Oper) (o : Oper) (s : St) (x : AV) : Prop := ∀ (c : Ctx) (w : World) (a : Act), SimSt P c w s a → ∃ u, YieldsFenced P ops o u a ∧ Rep c w x u ∧ Own P c w x u
def takeB (ops : Array Oper) (listed : Array Bool) (i : Nat) : Bool := Region.noSelect ops && Region.free .any ops listed i && (Region.ready .any ops listed).contains i
theorem anyT_take {kf fuel : Nat} {ops : Array Oper} {Q : Exit → St → Prop} {listed : Array Bool} {s s' : St} (i : Nat) {o : Oper} {x : AV} (ho : ops[i]? = some o) (hb : takeB ops listed i = true) (hg : Gives P ops o s x) (hp : s.put o.dst x = some s')
    (h : AnyT kf P ops Q fuel (listed.setIfInBounds i true) s') : AnyT kf P ops Q (fuel + 1) listed s := by
  intro F n c0 w0 c w a hF hro hk he hs
  simp only [takeB, Bool.and_eq_true] at hb
  obtain ⟨u, hy, hr, hown⟩ := hg c w a hs
  exact wpAnyIn_take hro ho hb.1.1 hb.1.2 hb.2 (fun c a w hq => by cases hq.1) hy (h F n c0 w0 c w (a.put o.dst u) hF hro hk he (hs.put hp hr hown))
theorem anyT_all {kf fuel : Nat} {ops : Array Oper} {Q : Exit → St → Prop} {listed : Array Bool} {s : St} (rs : List Nat) (hr : Region.ready .any ops listed = rs) (hne : rs ≠ [])
    (h : ∀ i ∈ rs, ∃ o, ops[i]? = some o ∧ stepA P ops.toList o s fun s' => AnyT kf P ops Q fuel (listed.setIfInBounds i true) s') : AnyT kf P ops Q (fuel + 1) listed s := by
  intro F n c0 w0 c w a hF hro hk he hs
  refine ⟨fun h0 => absurd (hr ▸ h0) hne, fun i hi => ?_⟩
  obtain ⟨o, ho, hst⟩ := h i (hr ▸ hi)
  unfold wpOpIn
  simp only [ho]
  refine stepA_wp (K' := fun s' => AnyT kf P ops Q fuel (listed.setIfInBounds i true) s') hF hs ho hst ?_
  intro s' a' c' w' hK hs' he'
  exact hK F n c0 w0 c' w' a' hF hro hk (he.trans he') hs'
theorem anyT_done {kf : Nat} {ops : Array Oper} {Q : Exit → St → Prop} {listed : Array Bool} {s : St} (hr : Region.ready .any ops listed = []) (h : Q .normal s) : AnyT kf P ops Q 0 listed s := by
  intro F n c0 w0 c w a hF hro hk he hs
  exact ⟨hr, rfl, s, c, h, hs, he.toK hk⟩
theorem gives_move {ops : Array Oper} {o : Oper} {s : St} {x : AV} (k : Nat) (hop : o.op = .move (.tmp k)) (hgd : o.guard = none) (hx : getF s.fr k = some x) : Gives P ops o s x := by
  intro c w a hs
  obtain ⟨u, hu, hr, ho⟩ := hs.fr k x hx
  have hev : a.eval (.tmp k) = u := by simp [Act.eval, hu]
  exact ⟨u, ⟨.inl ⟨by simp [Region.wanted, hgd], fun w => by simp only [execOp, hop, hev]; rfl⟩, fun w => by simp only [Oper.about, hop]⟩, hr, ho⟩
theorem gives_sub {ops : Array Oper} {o : Oper} {s : St} {t t' : TypeId} {m b : Int} (k : Nat) (hop : o.op = .binOp .sub t (.tmp k) (.const (.int .i64 b)) t') (hgd : o.guard = none) (hx : getF s.fr k = some (.v (.int .i64 m))) : Gives P ops o s (.v (.int .i64 (IntKind.i64.wrap (m - b)))) := by
  intro c w a hs
  obtain ⟨u, hu, hr, ho⟩ := hs.fr k _ hx
  have hu' := hr.v_inv
  subst hu'
  have hev : a.eval (.tmp k) = .int .i64 m := by simp [Act.eval, hu]
  exact ⟨_, ⟨.inl ⟨by simp [Region.wanted, hgd], fun w => by simp only [execOp, hop, hev]; rfl⟩, fun w => by simp only [Oper.about, hop]⟩, .v _, .none rfl⟩
theorem gives_index {ops : Array Oper} {o : Oper} {s : St} {t : TypeId} {m : Int} {id off len cap id2 off2 : Nat} (k1 k2 : Nat) (hop : o.op = .indexAddr t (.tmp k1) (.tmp k2)) (hgd : o.guard = none) (h1 : getF s.fr k1 = some (.arr id off len cap))
    (h2 : getF s.fr k2 = some (.v (.int .i64 m))) (hi : idxAddrA P t (.arr id off len cap) (.v (.int .i64 m)) = some (.loc id2 off2)) : Gives P ops o s (.loc id2 off2) := by
  intro c w a hs
  obtain ⟨u, hu, hr, ho⟩ := hs.fr k1 _ h1
  obtain ⟨v, hv, hrv, _⟩ := hs.fr k2 _ h2
  have hv' := hrv.v_inv
  subst hv'
  have e1 : a.eval (.tmp k1) = u := by simp [Act.eval, hu]
  have e2 : a.eval (.tmp k2) = .int .i64 m := by simp [Act.eval, hv]
  have hrw : ∀ w, Rep c w (.arr id off len cap) u := fun w => by cases hr with | arr a b d => exact .arr a b d
  obtain ⟨r, hrun, hrr, htl⟩ := idxAddrA_sound hi hr (.v (.int .i64 m))
  refine ⟨r, ⟨.inl ⟨by simp [Region.wanted, hgd], fun w2 => ?_⟩, fun w => by simp only [Oper.about, hop]⟩, hrr, .none htl⟩
  obtain ⟨r2, hrun2, hrr2, _⟩ := idxAddrA_sound (w := w2) hi (hrw w2) (.v (.int .i64 m))
  have : r2 = r := by cases hrr; cases hrr2; rfl
  subst this
  simp only [execOp, hop, e1, e2]
  simp [hrun2]
end
end Go.AM

namespace Go.AM
section
variable {P : Program}
theorem gives_len {ops : Array Oper} {o : Oper} {s : St} {cl : Call} {t sz : Nat} {fl : Fl} {xs : List AV} (k : Nat) (hop : o.op = .call cl) (hc : cl.callee = .builtin .len) (ha : cl.args = #[.tmp k]) (hty : cl.argTypes = #[t]) (hgd : o.guard = none)
    (hk : kdI P t = some .sl) (hx : getF s.fr k = some (.lst fl sz xs)) : Gives P ops o s (.v (.int .i64 (xs.length : Nat))) := by
  intro c w a hs
  obtain ⟨u, hu, hr, ho⟩ := hs.fr k _ hx
  obtain ⟨e, hun⟩ := kdI_cases (P := P) (t := t) (k := .sl) hk
  obtain ⟨ad, n, cap, u', rfl, hn, hcap, _⟩ := lst_cells hr
  have hev : a.eval (.tmp k) = .slice ad n cap := by simp [Act.eval, hu]
  have hres : ∀ w2, (resolve a.eval cl o.type).run P w2 = .ok ⟨.builtin .len cl.argTypes o.type (cl.args.map fun | .const _ => true | _ => false), #[.slice ad n cap]⟩ w2 := by
    intro w2
    simp [resolve, hc, ha, hev]
  refine ⟨.int .i64 (xs.length : Nat), ⟨.inl ⟨by simp [Region.wanted, hgd], fun w2 => ?_⟩, fun w2 => ?_⟩, .v _, .none rfl⟩
  · simp only [execOp, hop, Sem.run_bind, hres w2, Result.andThen_ok, invoke]
    simp [builtin, Builtin.len_, hty, run_underlying hun, goInt, hn]
  · simp only [Oper.about, hop, hres w2]
    rfl
theorem gives_sliceHi {ops : Array Oper} {o : Oper} {s : St} {t e sz : Nat} {ag : Bool} {fl : Fl} {xs : List AV} {m : Nat} {z : AV} (k1 k2 : Nat) (hop : o.op = .slice t (.tmp k1) none (some (.tmp k2)) none) (hgd : o.guard = none)
    (hsl : slI P t = some (e, ag, sz)) (hk : kdI P t = some .sl) (h1 : getF s.fr k1 = some (.lst fl sz xs)) (h2 : getF s.fr k2 = some (.v (.int .i64 (m : Nat)))) (hz : sliceA P t (.lst fl sz xs) none (some (.v (.int .i64 (m : Nat)))) = some z) : Gives P ops o s z := by
  intro c w a hs
  obtain ⟨u, hu, hr, ho⟩ := hs.fr k1 _ h1
  obtain ⟨v, hv, hrv, _⟩ := hs.fr k2 _ h2
  have hv' := hrv.v_inv
  subst hv'
  obtain ⟨ad, n, cap, u', rfl, hn, hcap, _⟩ := lst_cells hr
  have e1 : a.eval (.tmp k1) = .slice ad n cap := by simp [Act.eval, hu]
  have e2 : a.eval (.tmp k2) = .int .i64 (m : Nat) := by simp [Act.eval, hv]
  obtain ⟨r, hrun, hrr, htl⟩ := sliceA_sound hz hr (vl := none) (vh := some (.int .i64 (m : Nat))) .none (.some (.v _))
  have hall : ∀ w2, (Instr.sliceAt t (.slice ad n cap) none (some (.int .i64 (m : Nat))) none).run P w2 = .ok r w2 := by
    intro w2
    unfold sliceA at hz
    rw [hk] at hz
    simp only [hsl] at hz
    split at hz
    · rename_i hs2
      obtain ⟨_, hs0⟩ := hs2
      obtain ⟨hh, g1, hz⟩ := Option.bind_eq_some_iff.1 hz
      obtain ⟨l, g2, hz⟩ := Option.bind_eq_some_iff.1 hz
      obtain ⟨hu', hty⟩ := slI_slice hsl
      rw [hn] at g1
      have hb : ∀ w3 : World, _ := fun w3 => bounds_sound (P := P) (c := c) (w := w3) true g1 g2 hcap (.some (.v _)) .none
      simp only [Instr.sliceAt, Sem.run_bind, run_underlying hu', Result.andThen_ok, Instr.slice, hb, run_szOf _ hty, Sem.run_pure] at hrun ⊢
      cases hrun
      rfl
    · cases hz
  refine ⟨r, ⟨.inl ⟨by simp [Region.wanted, hgd], fun w2 => ?_⟩, fun w => by simp only [Oper.about, hop]⟩, hrr, .none htl⟩
  simp only [execOp, hop, Option.map_none, Option.map_some, e1, e2]
  simp [hall w2]
theorem gives_extract {ops : Array Oper} {o : Oper} {s : St} {xs : List AV} {i : Nat} {z : AV} (k : Nat) (hop : o.op = .extract (.tmp k) i) (hgd : o.guard = none) (hx : getF s.fr k = some (.tup xs)) (hz : xs[i]? = some z) : Gives P ops o s z := by
  intro c w a hs
  obtain ⟨u, hu, hr, ho⟩ := hs.fr k _ hx
  obtain ⟨vs, rfl, hl, hrr⟩ := tup_inv hr
  have hlt : i < vs.size := by rw [← hl]; exact (List.getElem?_eq_some_iff.1 hz).1
  have e : vs.getD i undef = vs[i] := by simp [Array.getD, hlt]
  have hev : a.eval (.tmp k) = .tuple vs := by simp [Act.eval, hu]
  refine ⟨vs[i], ⟨.inl ⟨by simp [Region.wanted, hgd], fun w2 => ?_⟩, fun w => by simp only [Oper.about, hop]⟩, e ▸ hrr i z hz, e ▸ own_tup ho i z hz⟩
  simp only [execOp, hop, hev]
  simp [Instr.extract, hlt]

theorem W_swap {top : Bool} {kf : Nat} {code : Code} {Q : Exit → St → Prop} {s : St} (i j : Nat) (hi : kf ≤ i) (hj : kf ≤ j) (hi' : i < s.h.length) (hj' : j < s.h.length) (h : Wt top kf P code Q (swSt i j s)) : Wt top kf P code Q s := by
  intro F n c w a hF hs
  have he : ExtK kf c w (c.sw i j) w := { (ExtK.refl hF.2.2 w) with
    ob := fun id hid => by simp only [Ctx.sw, Go.AM.sw]; rw [if_neg (by omega), if_neg (by omega)] }
  refine wpIn_mono (h F n (c.sw i j) w a (hF.next he) (hs.sw hi' hj')) ?_
  rintro e a' w' ⟨s', c', q, hs', he'⟩
  exact ⟨s', c', q, hs', he.trans he'⟩

theorem W_seqV {c1 c2 : Code} {Q : Exit → St → Prop} {s : St} {top : Bool} {kf : Nat} (K K' : St → Prop) (h1 : Wt top kf P c1 (onNormal K fun _ _ => False) s) (hv : ∀ σ, K σ → ∃ τ, K' τ ∧ ∀ c2 Q, Wt top kf P c2 Q τ → Wt top kf P c2 Q σ)
    (h2 : ∀ τ, K' τ → Wt top kf P c2 Q τ) : Wt top kf P (.seq c1 c2) Q s :=
  W_seqC K h1 fun σ hσ => let ⟨τ, h3, h4⟩ := hv σ hσ; h4 _ _ (h2 τ h3)

theorem callW_thawA {f : FuncId} {args : List AV} {h : List AObj} {e T sz : Nat} {xs fl : List AV} {vs ws : List Value} {Q : AV → List AObj → Prop} (hS : Sound P f (AV.dpL args) (.tup (.agg (.lst (.tip e T) sz xs :: vs.map .v) :: ws.map .v))) (hcat : catK sz xs = some fl) (hfl : AV.thwL fl = true)
    (h0 : xs = [] → Q (.tup (.agg (.lst .nil sz [] :: vs.map .v) :: ws.map .v)) h)
    (h1 : ∀ cap, xs.length ≤ cap → cap ≤ maxLen → Q (.tup (.agg (.arr h.length 0 xs.length cap :: vs.map .v) :: ws.map .v)) (h ++ [.cells e (AV.weakL fl ++ List.replicate ((cap - xs.length) * sz) .any)])) : CallW P f args h Q := by
  refine ⟨hS.1, fun F n c w vals hF hro hb _ hh ra => CallsIn.mono (hS.2 F n c w vals 1 hF hro rfl hb ra.dpL) ?_⟩
  rintro _ w1 ⟨u, c1, rfl, hp, hr, ho⟩
  have hnv : ∀ l : List Value, AV.normL 1 (l.map .v) = l.map .v := fun l => by induction l <;> simp_all [AV.normL, AV.norm]
  have htv : ∀ l : List Value, AV.tlL (l.map .v) = true := fun l => by induction l <;> simp_all [AV.tlL, AV.tl]
  simp only [AV.norm, AV.normL, hnv] at hr ho
  obtain ⟨us, rfl, hl, hrr⟩ := tup_inv hr
  have hoo := own_tup ho
  have hr0 := hrr 0 _ rfl
  have ho0 := hoo 0 _ rfl
  have hsz : us.size = ws.length + 1 := by rw [← hl]; simp
  obtain ⟨us2, hu0, hl2, hrr2⟩ := agg_inv hr0
  rw [hu0] at ho0
  have hoo2 := own_agg ho0
  have hr00 := hrr2 0 _ rfl
  have ho00 := hoo2 0 _ rfl
  have hsz2 : us2.size = vs.length + 1 := by rw [← hl2]; simp
  have hvg : ∀ (l : List Value) (g : Nat → Value) (hg : ∀ j y, (l.map AV.v)[j]? = some y → Rep c1 w1 y (g j)), ∀ j y, ((l.map AV.v)[j]? = some y) → ∀ c w, Rep c w y (g j) := by
    intro l g hg j y hj c w
    have := hg j y hj
    rw [List.getElem?_map] at hj
    obtain ⟨v, _, rfl⟩ := Option.map_eq_some_iff.1 hj
    rw [this.v_inv]
    exact .v _
  have hv := hvg ws (fun j => us.getD (j + 1) undef) fun j y hj => hrr (j + 1) y (by simpa using hj)
  have hv2 := hvg vs (fun j => us2.getD (j + 1) undef) fun j y hj => hrr2 (j + 1) y (by simpa using hj)
  have hvo : ∀ (x : AV) (c : Ctx) (w : World), x.tl = true → Own P c w (.tup (.agg (x :: vs.map .v) :: ws.map .v)) (.tuple us) := by
    intro x c w hx
    refine .none ?_
    simp [AV.tl, AV.tlL, hx, htv]
  have mk : ∀ (x : AV) (c : Ctx) (w : World), Rep c w x (us2.getD 0 undef) → Rep c w (.tup (.agg (x :: vs.map .v) :: ws.map .v)) (.tuple us) := by
    intro x c w hx
    refine .tup (by simp [hsz]) fun j y hj => ?_
    cases j with
    | zero =>
      simp at hj
      subst hj
      rw [hu0]
      refine .agg (by simp [hsz2]) fun j y hj => ?_
      cases j with
      | zero =>
        simp at hj
        subst hj
        exact hx
      | succ j => exact hv2 j y (by simpa using hj) _ _
    | succ j => exact hv j y (by simpa using hj) _ _
  rcases thaw_core (T := 1) hh hb hp hr00 ho00 hcat hfl with ⟨k0, rfl, k1, k2⟩ | ⟨cap, c', k1, k2, k3, k4, k5⟩
  · refine ⟨_, c1, _, _, rfl, h0 rfl, k2, k1, mk _ _ _ ?_, hvo _ _ _ rfl⟩
    rw [k0]
    exact .lst (fun _ => undef) rfl (Nat.le_refl _) (Nat.zero_le _) (by simp) (by simp) rfl (fun _ => ⟨rfl, rfl⟩) rfl (by simp) (by simp)
  · exact ⟨_, c', _, _, rfl, h1 cap k1 k2, k3, k4, mk _ _ _ k5, hvo _ _ _ rfl⟩
end
end Go.AM
