/- Parts of the walk: C31ED C31OB C31OC C31OD C31EE. -/
import Derived.Test.YtlhaljblcimnbaaG6
namespace Go.AM
open Go.RowKit Go.Proofs
set_option linter.unusedSimpArgs false
set_option linter.unusedVariables false
set_option maxHeartbeats 4000000
theorem codeL_len (s : List UInt8) : (xr9 s).length ≤ s.length := by
 unfold xr9 encM
 split
 ·simp [enc1]
 ·simp
theorem symM_len {s : List UInt8} (h : symM s = true) : s.length ≤ 8 := by
 simp only [symM, Bool.and_eq_true, decide_eq_true_eq] at h
 exact h.2.1
def EV (x : Esd) : Prop := x.name.length ≤ 8 ∧ ((x.kind ≠ 2 ∧ 1 ≤ x.id ∧ x.id ≤ 3000 ∧ 0 ≤ x.addr ∧ x.addr ≤ 65536 ∧ 0 ≤ x.len ∧ x.len ≤ 65536) ∨ (x.kind = 2 ∧ x.len = 0))
theorem ruleM_EV {nx : Int} {x : Esd} (h : ys8 nx x = true) (h1 : 1 ≤ nx) (h2 : nx ≤ 3000) : EV x := by
 unfold ys8 at h
 split at h
 ·rename_i hk
  simp only [rule1, Bool.and_eq_true, Bool.or_eq_true, decide_eq_true_eq] at h
  obtain ⟨a1, a2, a3, a4, a5, a6⟩ := h
  refine ⟨?_, .inl ⟨by omega, by omega, by omega, a2, a4, a3, by omega⟩⟩
  rcases a6 with h | h
  ·simp [h]
  ·exact symM_len h
 ·split at h
  ·rename_i hk
   simp only [rule2, Bool.and_eq_true, decide_eq_true_eq] at h
   exact ⟨symM_len h.2, .inr ⟨hk, h.1⟩⟩
  ·split at h
   ·rename_i hk
    simp only [rule3, Bool.and_eq_true, decide_eq_true_eq] at h
    obtain ⟨a1, a2, a3, a4⟩ := h
    exact ⟨symM_len a4, .inl ⟨by omega, by omega, by omega, by omega, by omega, by omega, by omega⟩⟩
   ·cases h
theorem getN_updN (s t : List UInt8) (k : Int) : ∀ N : List (List UInt8 × Int), getN s (updN t k N) = if s = t then some k else getN s N
 | [] => by simp only [updN, getN]
 | (u, m) :: N => by
  simp only [updN]
  by_cases h : t = u
  ·subst h
   rw [if_pos rfl]
   simp only [getN]
   by_cases h2 : s = t <;> simp [h2]
  ·rw [if_neg h]
   simp only [getN, getN_updN s t k N]
   by_cases h2 : s = u
   ·subst h2
    rw [if_pos rfl, if_neg (fun e => h e.symm), if_pos rfl]
   ·rw [if_neg h2]
    by_cases h3 : s = t <;> simp [h3, h2]
theorem esdGo_inv : ∀ (l : List Esd) (S S' : List (Int × Esd)) (N N' : List (List UInt8 × Int)) (nx nx' : Int), xq8 l S N nx = some (S', N', nx') → 1 ≤ nx → nx + l.length ≤ 3000 → SOk S → (∀ i y, getS i S = some y → 1 ≤ i ∧ i ≤ 3000) → (∀ s k, getN s N = some k → s.length ≤ 8) →
  SOk S' ∧ (∀ i y, getS i S' = some y → 1 ≤ i ∧ i ≤ 3000) ∧ (∀ s k, getN s N' = some k → s.length ≤ 8) ∧ nx ≤ nx' ∧ nx' ≤ nx + l.length ∧ ∀ x ∈ l, EV x
 | [], S, S', N, N', nx, nx', h, h1, h2, hS, hi, hn => by
  simp only [xq8, Option.some.injEq, Prod.mk.injEq] at h
  obtain ⟨rfl, rfl, rfl⟩ := h
  exact ⟨hS, hi, hn, by omega, by simp, by simp⟩
 | x :: l, S, S', N, N', nx, nx', h, h1, h2, hS, hi, hn => by
  rw [xq8] at h
  simp only [List.length_cons] at h2
  split at h
  ·rename_i hr
   split at h
   ·cases h
   ·have hev := ruleM_EV hr h1 (by omega)
    have hbd : nx ≤ nx1 nx x ∧ nx1 nx x ≤ nx + 1 := by unfold nx1; split <;> omega
    have := esdGo_inv l (S1 S x) S' (N1 N x) N' (nx1 nx x) nx' h (by omega) (by omega) (SOk_S1 hS hr) (fun i y hy => by
     unfold S1 at hy
     split at hy
     ·rename_i hk
      rw [getS_updS] at hy
      split at hy
      ·rename_i he
       rcases hev.2 with ⟨_, a1, a2, _⟩ | ⟨a, _⟩
       ·omega
       ·omega
      ·exact hi i y hy
     ·exact hi i y hy) (fun s k hs => by
     unfold N1 at hs
     rw [getN_updN] at hs
     split at hs
     ·rename_i he
      rw [he]; exact hev.1
     ·exact hn s k hs)
    obtain ⟨b1, b2, b3, b4, b5, b6⟩ := this
    refine ⟨b1, b2, b3, by omega, by simp only [List.length_cons]; omega, ?_⟩
    intro y hy
    rcases List.mem_cons.1 hy with rfl | hy
    ·exact hev
    ·exact b6 y hy
  ·cases h
structure OOk (o : OMod) : Prop where
 es : ∀ x ∈ o.esd, EOk x
 ts : ∀ t ∈ o.txt, 0 ≤ t.id ∧ t.id ≤ 1000000 ∧ 0 ≤ t.addr ∧ t.addr ≤ 1000000 ∧ 1 ≤ t.data.length ∧ t.data.length ≤ 56
 rs : ∀ r ∈ o.rld, ROk r
 en : o.entry.length ≤ 8
 ne : o.esd ≠ []
 l1 : o.esd.length ≤ 2048
 l2 : o.txt.length ≤ 2048
 l3 : o.rld.length ≤ 2048
theorem liesM_inv {S : List (Int × Esd)} {id at_ n : Int} (h : vr8 S id at_ n = true) (hS : SOk S) (hi : ∀ i y, getS i S = some y → 1 ≤ i ∧ i ≤ 3000) : 1 ≤ id ∧ id ≤ 3000 ∧ 0 ≤ at_ ∧ at_ ≤ 200000 := by
 unfold vr8 at h
 split at h
 ·rename_i x hx
  simp only [liesX, Bool.and_eq_true, decide_eq_true_eq] at h
  have h1 := hS id x hx
  have h2 := hi id x hx
  omega
 ·cases h
theorem chkM_ok {o : OMod} (h : chkM o = true) : OOk o := by
 unfold chkM at h
 simp only [Bool.and_eq_true, Bool.not_eq_true'] at h
 obtain ⟨hbig, hB, hR⟩ := h
 simp only [bigB, Bool.or_eq_false_iff, decide_eq_false_iff_not] at hbig
 obtain ⟨l1, l2, l3⟩ := hbig
 cases hg : xq8 o.esd [] [] 1 with
 | none => rw [hg] at hR; cases hR
 | some g =>
  obtain ⟨S, N, nx⟩ := g
  rw [hg] at hR hB
  have hinv := esdGo_inv o.esd [] S [] N 1 nx hg (by omega) (by omega) (fun i x h => by simp [getS] at h) (fun i y h => by simp [getS] at h) (fun s k h => by simp [getN] at h)
  obtain ⟨hS, hi, hn, n1, n2, hev⟩ := hinv
  simp only [restM, Bool.and_eq_true, Bool.not_eq_true', List.all_eq_true] at hR
  obtain ⟨hT, hRl, hE⟩ := hR
  simp only [esdB, Bool.and_eq_true, List.all_eq_true, decide_eq_true_eq] at hB
  obtain ⟨hent, hpos⟩ := hB
  refine ⟨fun x hx => ?_, fun t ht => ?_, fun r hr => ?_, ?_, ?_, by omega, by omega, by omega⟩
  ·obtain ⟨e1, e2⟩ := hev x hx
   have hc := codeL_len x.name
   rcases e2 with ⟨_, a1, a2, a3, a4, a5, a6⟩ | ⟨hk, hl⟩
   ·exact ⟨by omega, by omega, by omega, by omega, by omega, by omega, by omega, by omega⟩
   ·have he := hent x hx
    simp only [ent1, hk, Bool.or_eq_true, Bool.not_eq_true', decide_eq_false_iff_not] at he
    rcases he with he | he
    ·simp at he
    ·have := liesM_inv he hS hi
     exact ⟨by omega, by omega, by omega, by omega, by omega, by omega, by omega, by omega⟩
  ·have h1 := hT t ht
   simp only [txB, Bool.or_eq_false_iff, decide_eq_false_iff_not, Bool.not_eq_false'] at h1
   obtain ⟨a1, a2, a3⟩ := h1
   have := liesM_inv a3 hS hi
   exact ⟨by omega, by omega, by omega, by omega, by omega, by omega⟩
  ·have h1 := hRl r hr
   simp only [rdB, Bool.or_eq_false_iff, decide_eq_false_iff_not, Bool.not_eq_false'] at h1
   obtain ⟨a1, a2, a3, a4, a5⟩ := h1
   have := liesM_inv a5 hS hi
   exact ⟨by omega, by omega, by omega, by omega, by omega, by omega, by omega, by omega⟩
  ·unfold entB at hE
   by_cases h0 : o.entry = []
   ·simp [h0]
   ·have h0b : (o.entry == []) = false := by simpa using h0
    rw [h0b] at hE
    simp only [Bool.not_false, Bool.true_and, Bool.or_eq_false_iff, Bool.not_eq_false'] at hE
    obtain ⟨k, hk⟩ := Option.isSome_iff_exists.1 hE.1
    exact hn _ _ hk
  ·rintro he
   rw [he] at hg
   simp only [xq8, Option.some.injEq, Prod.mk.injEq] at hg
   rw [← hg.1] at hpos
   simp at hpos
end Go.AM
namespace Go.AM
open Go.RowKit Go.Proofs
set_option linter.unusedSimpArgs false
set_option linter.unusedVariables false
set_option maxHeartbeats 1000000
structure EInv (p : List Esd) (S : List (Int × Esd)) (N : List (List UInt8 × Int)) (nx : Int) : Prop where
 n1 : ∀ s, s ≠ [] → getN s N = (p.find? (fun y => y.name == s)).map (·.kind)
 s1 : ∀ id, getS id S = p.find? (vc8 id)
 t1 : ∀ id, p.any (isTg id) = (decide (1 ≤ id) && decide (id < nx))
 u1 : ∀ s, s ≠ [] → p.any (isDf s) = ((p.find? (fun y => y.name == s)).map (fun y => !decide (y.kind = 3))).getD false
 ok : SOk S
 n0 : 1 ≤ nx
theorem EInv.nil : EInv [] [] [] 1 := by
 refine ⟨fun s _ => rfl, fun id => rfl, fun id => ?_, fun s _ => rfl, fun i x h => by simp [getS] at h, by omega⟩
 rw [Bool.eq_iff_iff]
 simp
 try omega
theorem EInv.step {p : List Esd} {S : List (Int × Esd)} {N : List (List UInt8 × Int)} {nx : Int} {x : Esd} (h : EInv p S N nx) (hr : ys8 nx x = true) (hd : dupM N x = false) : EInv (p ++ [x]) (S1 S x) (N1 N x) (nx1 nx x) := by
 have hdn : x.name ≠ [] → p.find? (fun y => y.name == x.name) = none := by
  intro hne
  have h1 := h.n1 x.name hne
  have h2 : getN x.name N = none := by
   unfold dupM at hd
   cases e : getN x.name N with
   | none => rfl
   | some k => rw [e] at hd; simp [hne] at hd
  rw [h2] at h1
  cases e : p.find? (fun y => y.name == x.name) with
  | none => rfl
  | some y => rw [e] at h1; cases h1
 have hkind : x.kind = 1 ∨ x.kind = 2 ∨ x.kind = 3 := by
  unfold ys8 at hr
  split at hr
  ·exact .inl (by assumption)
  ·split at hr
   ·exact .inr (.inl (by assumption))
   ·split at hr
    ·exact .inr (.inr (by assumption))
    ·cases hr
 have hid : x.kind ≠ 2 → x.id = nx := by
  intro h2
  unfold ys8 at hr
  rcases hkind with e | e | e
  ·rw [if_pos e] at hr
   simp only [rule1, Bool.and_eq_true, decide_eq_true_eq] at hr
   exact hr.1
  ·exact absurd e h2
  ·rw [if_neg (by omega), if_neg (by omega), if_pos e] at hr
   simp only [rule3, Bool.and_eq_true, decide_eq_true_eq] at hr
   exact hr.1
 refine ⟨fun s hs => ?_, fun id => ?_, fun id => ?_, fun s hs => ?_, SOk_S1 h.ok hr, ?_⟩
 ·rw [N1, getN_updN, List.find?_append]
  by_cases e : s = x.name
  ·subst e
   rw [if_pos rfl, hdn hs]
   simp [List.find?]
  ·rw [if_neg e, h.n1 s hs]
   have e2 : (x.name == s) = false := by simpa using fun h => e h.symm
   simp [List.find?, e2]
 ·rw [List.find?_append, S1]
  by_cases e : x.kind = 1
  ·rw [if_pos e, getS_updS]
   have hx := hid (by omega)
   by_cases e2 : id = x.id
   ·rw [if_pos e2]
    have h3 : p.find? (vc8 id) = none := by
     rw [List.find?_eq_none]
     intro y hy hs
     have h4 := h.t1 id
     have h5 : p.any (isTg id) = true := List.any_eq_true.2 ⟨y, hy, by
      simp only [vc8, Bool.and_eq_true, decide_eq_true_eq] at hs
      simp [isTg, hs.1, hs.2]⟩
     rw [h5] at h4
     have h6 := h4.symm
     simp only [Bool.and_eq_true, decide_eq_true_eq] at h6
     omega
    rw [h3]
    simp [List.find?, vc8, e, e2]
   ·rw [if_neg e2, h.s1 id]
    have : vc8 id x = false := by
     have e3 : ¬ x.id = id := fun h => e2 h.symm
     simp [vc8, e3]
    simp [List.find?, this]
  ·rw [if_neg e, h.s1 id]
   have : vc8 id x = false := by simp [vc8, e]
   simp [List.find?, this]
 ·rw [List.any_append, h.t1 id, nx1]
  rw [Bool.eq_iff_iff]
  have := h.n0
  by_cases e : x.kind = 2
  ·rw [if_pos e]
   simp [isTg, e]
  ·rw [if_neg e]
   have hx := hid e
   simp [isTg, e, hx]
   omega
 ·rw [List.any_append, List.find?_append, h.u1 s hs]
  by_cases e : s = x.name
  ·subst e
   rw [hdn hs]
   simp [List.find?, isDf]
  ·have e2 : (x.name == s) = false := by simpa using fun h => e h.symm
   simp [List.find?, isDf, e2]
 ·have := h.n0
  rw [nx1]
  split <;> omega
theorem EInv.lies {o : OMod} {S : List (Int × Esd)} {N : List (List UInt8 × Int)} {nx : Int} (h : EInv o.esd S N nx) (id at_ n : Int) : rliesM o id at_ n = vr8 S id at_ n := by
 rw [rliesM, vr8, h.s1 id]
 cases o.esd.find? (vc8 id) with
 | none => rfl
 | some x =>
  simp only [rliesX, liesX]
  rw [Bool.eq_iff_iff]
  simp only [Bool.and_eq_true, decide_eq_true_eq]
  omega
theorem EInv.sm {o : OMod} {S : List (Int × Esd)} {N : List (List UInt8 × Int)} {nx : Int} (h : EInv o.esd S N nx) (id : Int) (x : Esd) (hx : o.esd.find? (vc8 id) = some x) : smE x := h.ok id x (by rw [h.s1 id]; exact hx)
theorem EInv.first {p : List Esd} {S : List (Int × Esd)} {N : List (List UInt8 × Int)} {nx : Int} (h : EInv p S N nx) : (p.find? isS1).isSome = decide (0 < S.length) := by
 cases S with
 | nil =>
  cases e : p.find? isS1 with
  | none => rfl
  | some y =>
   exfalso
   have h1 := h.s1 y.id
   have h2 : (p.find? (vc8 y.id)).isSome = true := by
    rw [List.find?_isSome]
    have hy := List.find?_some e
    exact ⟨y, List.mem_of_find?_eq_some e, by simpa [vc8, isS1] using hy⟩
   rw [← h1] at h2
   simp [getS] at h2
 | cons q S =>
  have h1 := h.s1 q.1
  obtain ⟨k, z⟩ := q
  simp only [getS, if_true] at h1
  have h3 := List.find?_some h1.symm
  have h4 := List.mem_of_find?_eq_some h1.symm
  have : (p.find? isS1).isSome = true := by
   rw [List.find?_isSome]
   refine ⟨z, h4, ?_⟩
   simp only [vc8, Bool.and_eq_true] at h3
   exact h3.1
  rw [this]
  simp
theorem EInv.dup {p : List Esd} {S : List (Int × Esd)} {N : List (List UInt8 × Int)} {nx : Int} (h : EInv p S N nx) (x : Esd) : dupM N x = (!decide (x.name = []) && p.any fun y => y.name == x.name) := by
 unfold dupM
 by_cases e : x.name = []
 ·simp [e]
 ·rw [h.n1 _ e]
  have e2 : (x.name == []) = false := by simpa using e
  rw [Option.isSome_map, e2, Bool.not_false, Bool.and_true, decide_eq_false e, Bool.not_false, Bool.true_and]
  rw [Bool.eq_iff_iff, List.find?_isSome, List.any_eq_true]
theorem EInv.entry {p : List Esd} {S : List (Int × Esd)} {N : List (List UInt8 × Int)} {nx : Int} (h : EInv p S N nx) (e : List UInt8) : entB N e = (!decide (e = []) && !(p.any (isDf e))) := by
 unfold entB
 by_cases e0 : e = []
 ·simp [e0]
 ·have e2 : (e == []) = false := by simpa using e0
  rw [h.n1 e e0, h.u1 e e0, e2, decide_eq_false e0]
  cases p.find? (fun y => y.name == e) with
  | none => rfl
  | some y =>
   simp only [Option.map_some, Option.isSome_some, Option.getD_some, Bool.not_false, Bool.true_and, Bool.not_true, Bool.false_or]
   rw [Bool.eq_iff_iff]
   simp
theorem esdGo_EInv : ∀ (l p : List Esd) (S S' : List (Int × Esd)) (N N' : List (List UInt8 × Int)) (nx nx' : Int), EInv p S N nx → xq8 l S N nx = some (S', N', nx') → EInv (p ++ l) S' N' nx'
 | [], p, S, S', N, N', nx, nx', h, hg => by
  simp only [xq8, Option.some.injEq, Prod.mk.injEq] at hg
  obtain ⟨rfl, rfl, rfl⟩ := hg
  simpa using h
 | x :: l, p, S, S', N, N', nx, nx', h, hg => by
  rw [xq8] at hg
  split at hg
  ·split at hg
   ·cases hg
   ·rename_i h1 h2
    have := esdGo_EInv l (p ++ [x]) _ S' _ N' _ nx' (h.step h1 (by simpa using h2)) hg
    simpa using this
  ·cases hg
end Go.AM
namespace Go.AM
open Go.RowKit Go.Proofs
set_option linter.unusedSimpArgs false
set_option linter.unusedVariables false
set_option maxHeartbeats 4000000
theorem W_thenK {c : Code} {Q : Exit → St → Prop} {s : St} {top : Bool} {kf : Nat} {P : Program} (K : St → Prop) (h1 : Wt top kf P c (yf9 K Q) s) (h2 : ∀ s, K s → Q .normal s) : Wt top kf P c Q s := by
 refine h1.mono fun e s h => ?_
 cases e with
 | normal => exact h2 s h
 | _ => exact h
theorem zl7 (o : OMod) (hl : o.esd.length ≤ 2048) (hx : ∀ x ∈ o.esd, x.name.length ≤ 9223372036854775807 ∧ i64r x.addr) : Sound Try.prog 72 [obA o] (.v (.bool (esdB o.esd (xq8 o.esd [] [] 1)))) := by
 refine zj9 Try.func72 rfl (by decide +kernel) (by simp [Try.f72, strB]) (by simp [AV.rfL, AV.rf, strB]) (by simp [AV.tlL, AV.tl, strB]) (rs := [.tmp 2]) rfl ?_
 rw [show Try.f72.ntmps = 157 from rfl]
 obtain ⟨R, hR⟩ : ∃ R, xq8 o.esd [] [] 1 = R := ⟨_, rfl⟩
 rw [hR]
 have hret : R = none → ∀ (h : List AObj), retQ Try.prog [.tmp 2] (.v (.bool (esdB o.esd R))) .ret ⟨157, [(2, .v (.bool false))], h⟩ := by
  intro hR0 h
  simp [retQ, hR0, esdB]
 refine yt9 [1] (by simp; rfl) ?_
 refine yt9 [1, 3] (by simp; rfl) ?_
 refine xv9 (fun σ => ∃ S N nx, R = some (S, N, nx) ∧ EInv o.esd S N nx ∧ σ = ⟨157, [(1, .loc 0 0), (3, .v (.int .i64 nx))], [.cells 26 (obC o)]⟩) ?_ ?_
 ·refine yt9 [1, 3, 4] (by simp; rfl) ?_
  refine yp9 ?_
  refine zn9 (fun k σ => ∃ (i : Nat) (S : List (Int × Esd)) (N : List (List UInt8 × Int)) (nx : Int), k = o.esd.length - i ∧ i ≤ o.esd.length ∧ EInv (o.esd.take i) S N nx ∧ nx ≤ 1 + i ∧ xq8 (o.esd.drop i) S N nx = R ∧
   σ = ⟨157, [(1, .loc 0 0), (3, .v (.int .i64 nx)), (4, .v (.int .i64 (i : Nat)))], [.cells 26 (obC o)]⟩) (k := o.esd.length) ⟨0, [], [], 1, rfl, by omega, EInv.nil, by omega, hR, by simp [obC]⟩ ?_
  rintro k σ ⟨i, S, N, nx, rfl, hi, hE, hnx, hgo, rfl⟩
  refine yc9 ?_
  have hn0 := hE.n0
  by_cases c : i < o.esd.length
  ·have ci : (i : Int) < o.esd.length := by omega
   obtain ⟨x, hs⟩ : ∃ x, o.esd[i]? = some x := ⟨_, List.getElem?_eq_getElem c⟩
   have hs2 : o.esd[i]'c = x := by rw [List.getElem?_eq_getElem c] at hs; exact Option.some.inj hs
   have hdr : o.esd.drop i = x :: o.esd.drop (i + 1) := wl9 c hs2
   have htk : o.esd.take (i + 1) = o.esd.take i ++ [x] := by rw [List.take_add_one, hs]; rfl
   obtain ⟨hxn, hxa⟩ := hx x (List.mem_of_getElem? hs)
   obtain ⟨hxa1, hxa2⟩ := hxa
   have hsy := rsymbol_sound x.name (by omega)
   have wi := w64 (n := (i : Int) + 1) (by omega) (by omega)
   have wnx := w64 (n := nx + 1) (by omega) (by omega)
   rw [hdr, xq8] at hgo
   have hbad : ys8 nx x = false → R = none := fun h => by rw [h] at hgo; simpa using hgo.symm
   refine yt9 [1, 3, 4, 14] (by simp [obC, ci]; rfl) ?_
   refine ys9 rfl (fun h => ?_) (fun h => by simp [c] at h)
   refine yk9 ?_
   refine yc9 ?_
   refine yp9 ?_
   refine yt9 [1, 3, 4, 5] (by simp [obC, c, ci, hs2, yd9, AV.weakL, AV.weak, AV.koneL, AV.kone, strB]; rfl) ?_
   refine xv9 (fun σ => ys8 nx x = true ∧ σ = ⟨157, [(1, .loc 0 0), (3, .v (.int .i64 (nx1 nx x))), (4, .v (.int .i64 (i : Nat))), (5, .loc 1 0)], [.cells 26 (obC o), .cells 78 (esC x)]⟩) ?_ ?_
   ·refine yt9 [1, 3, 4, 5, 23] (by simp; rfl) ?_
    refine yp9 ?_
    by_cases hk1 : x.kind = 1
    ·refine W_cT [1, 3, 4, 5, 23, 24] (by simp [hk1, esC]; rfl) rfl ?_
     refine yc9 ?_
     by_cases a1 : x.addr < 0
     ·have a1t : x.addr < 0 := a1
      have a1u : ¬ 0 ≤ x.addr := by omega
      refine W_rK [1, 3, 4, 5, 63] ?_
      refine yq9 6 (by simp [hk1, esC, strB, bne, a1t, a1u]; rfl) rfl ?_
      refine yq9 6 (by simp [hk1, esC, strB, bne, a1t, a1u]; rfl) rfl ?_
      refine yq9 6 (by simp [hk1, esC, strB, bne, a1t, a1u]; rfl) rfl ?_
      refine yq9 6 (by simp [hk1, esC, strB, bne, a1t, a1u]; rfl) rfl ?_
      refine yq9 6 (by simp [hk1, esC, strB, bne, a1t, a1u]; rfl) rfl ?_
      refine yq9 6 (by simp [hk1, esC, strB, bne, a1t, a1u]; rfl) rfl ?_
      refine yw9 (by simp [hk1, esC, strB, bne, a1t, a1u]; rfl) ?_
      refine ys9 rfl (fun h => ?_) (fun h => by simp at h)
      refine yt9 [2] (by simp; rfl) ?_
      refine zq9 ?_
      repeat (first | refine yg9 ?_ | refine yh9 ?_)
      exact hret (hbad (by simp [ys8, rule1, rule2, rule3, hk1, esC, strB, bne, a1t, a1u])) _
     have a1f : ¬ x.addr < 0 := a1
     have a1g : 0 ≤ x.addr := by omega
     by_cases a2 : x.len < 0
     ·have a2t : x.len < 0 := a2
      have a2u : ¬ 0 ≤ x.len := by omega
      refine W_rK [1, 3, 4, 5, 63] ?_
      refine yq9 6 (by simp [hk1, esC, strB, bne, a1f, a1g, a2t, a2u]; rfl) rfl ?_
      refine yq9 6 (by simp [hk1, esC, strB, bne, a1f, a1g, a2t, a2u]; rfl) rfl ?_
      refine yq9 6 (by simp [hk1, esC, strB, bne, a1f, a1g, a2t, a2u]; rfl) rfl ?_
      refine yq9 6 (by simp [hk1, esC, strB, bne, a1f, a1g, a2t, a2u]; rfl) rfl ?_
      refine yq9 6 (by simp [hk1, esC, strB, bne, a1f, a1g, a2t, a2u]; rfl) rfl ?_
      refine yq9 6 (by simp [hk1, esC, strB, bne, a1f, a1g, a2t, a2u]; rfl) rfl ?_
      refine yw9 (by simp [hk1, esC, strB, bne, a1f, a1g, a2t, a2u]; rfl) ?_
      refine ys9 rfl (fun h => ?_) (fun h => by simp at h)
      refine yt9 [2] (by simp; rfl) ?_
      refine zq9 ?_
      repeat (first | refine yg9 ?_ | refine yh9 ?_)
      exact hret (hbad (by simp [ys8, rule1, rule2, rule3, hk1, esC, strB, bne, a1f, a1g, a2t, a2u])) _
     have a2f : ¬ x.len < 0 := a2
     have a2g : 0 ≤ x.len := by omega
     by_cases a3 : 65536 < x.addr
     ·have a3t : 65536 < x.addr := a3
      have a3u : ¬ x.addr ≤ 65536 := by omega
      refine W_rK [1, 3, 4, 5, 63] ?_
      refine yq9 6 (by simp [hk1, esC, strB, bne, a1f, a1g, a2f, a2g, a3t, a3u]; rfl) rfl ?_
      refine yq9 6 (by simp [hk1, esC, strB, bne, a1f, a1g, a2f, a2g, a3t, a3u]; rfl) rfl ?_
      refine yq9 6 (by simp [hk1, esC, strB, bne, a1f, a1g, a2f, a2g, a3t, a3u]; rfl) rfl ?_
      refine yq9 6 (by simp [hk1, esC, strB, bne, a1f, a1g, a2f, a2g, a3t, a3u]; rfl) rfl ?_
      refine yq9 6 (by simp [hk1, esC, strB, bne, a1f, a1g, a2f, a2g, a3t, a3u]; rfl) rfl ?_
      refine yq9 6 (by simp [hk1, esC, strB, bne, a1f, a1g, a2f, a2g, a3t, a3u]; rfl) rfl ?_
      refine yw9 (by simp [hk1, esC, strB, bne, a1f, a1g, a2f, a2g, a3t, a3u]; rfl) ?_
      refine ys9 rfl (fun h => ?_) (fun h => by simp at h)
      refine yt9 [2] (by simp; rfl) ?_
      refine zq9 ?_
      repeat (first | refine yg9 ?_ | refine yh9 ?_)
      exact hret (hbad (by simp [ys8, rule1, rule2, rule3, hk1, esC, strB, bne, a1f, a1g, a2f, a2g, a3t, a3u])) _
     have a3f : ¬ 65536 < x.addr := a3
     have a3g : x.addr ≤ 65536 := by omega
     have w5 : IntKind.i64.wrap (65536 - x.addr) = 65536 - x.addr := w64 (by omega) (by omega)
     by_cases a4 : 65536 - x.addr < x.len
     ·have a4t : 65536 - x.addr < x.len := a4
      have a4u : ¬ x.len ≤ 65536 - x.addr := by omega
      refine W_rK [1, 3, 4, 5, 63] ?_
      refine yq9 6 (by simp [hk1, esC, strB, bne, a1f, a1g, a2f, a2g, a3f, a3g, w5, a4t, a4u]; rfl) rfl ?_
      refine yq9 6 (by simp [hk1, esC, strB, bne, a1f, a1g, a2f, a2g, a3f, a3g, w5, a4t, a4u]; rfl) rfl ?_
      refine yq9 6 (by simp [hk1, esC, strB, bne, a1f, a1g, a2f, a2g, a3f, a3g, w5, a4t, a4u]; rfl) rfl ?_
      refine yq9 6 (by simp [hk1, esC, strB, bne, a1f, a1g, a2f, a2g, a3f, a3g, w5, a4t, a4u]; rfl) rfl ?_
      refine yq9 6 (by simp [hk1, esC, strB, bne, a1f, a1g, a2f, a2g, a3f, a3g, w5, a4t, a4u]; rfl) rfl ?_
      refine yq9 6 (by simp [hk1, esC, strB, bne, a1f, a1g, a2f, a2g, a3f, a3g, w5, a4t, a4u]; rfl) rfl ?_
      refine yw9 (by simp [hk1, esC, strB, bne, a1f, a1g, a2f, a2g, a3f, a3g, w5, a4t, a4u]; rfl) ?_
      refine ys9 rfl (fun h => ?_) (fun h => by simp at h)
      refine yt9 [2] (by simp; rfl) ?_
      refine zq9 ?_
      repeat (first | refine yg9 ?_ | refine yh9 ?_)
      exact hret (hbad (by simp [ys8, rule1, rule2, rule3, hk1, esC, strB, bne, a1f, a1g, a2f, a2g, a3f, a3g, w5, a4t, a4u])) _
     have a4f : ¬ 65536 - x.addr < x.len := a4
     have a4g : x.len ≤ 65536 - x.addr := by omega
     by_cases a5 : x.id = nx
     ·by_cases a6 : x.name = []
      ·have a6t : x.name = [] := a6
       have a6e : x.name.isEmpty = true := by rw [a6]; rfl
       refine W_rK [1, 3, 4, 5, 63] ?_
       refine yq9 6 (by simp [hk1, esC, strB, bne, a1f, a1g, a2f, a2g, a3f, a3g, w5, a4f, a4g, a5, a6t, a6e]; rfl) rfl ?_
       refine yq9 6 (by simp [hk1, esC, strB, bne, a1f, a1g, a2f, a2g, a3f, a3g, w5, a4f, a4g, a5, a6t, a6e]; rfl) rfl ?_
       refine yq9 6 (by simp [hk1, esC, strB, bne, a1f, a1g, a2f, a2g, a3f, a3g, w5, a4f, a4g, a5, a6t, a6e]; rfl) rfl ?_
       refine yq9 6 (by simp [hk1, esC, strB, bne, a1f, a1g, a2f, a2g, a3f, a3g, w5, a4f, a4g, a5, a6t, a6e]; rfl) rfl ?_
       refine yq9 6 (by simp [hk1, esC, strB, bne, a1f, a1g, a2f, a2g, a3f, a3g, w5, a4f, a4g, a5, a6t, a6e]; rfl) rfl ?_
       refine yq9 6 (by simp [hk1, esC, strB, bne, a1f, a1g, a2f, a2g, a3f, a3g, w5, a4f, a4g, a5, a6t, a6e]; rfl) rfl ?_
       refine yw9 (by simp [hk1, esC, strB, bne, a1f, a1g, a2f, a2g, a3f, a3g, w5, a4f, a4g, a5, a6t, a6e]; rfl) ?_
       refine ys9 rfl (fun h => by simp at h) (fun h => ?_)
       refine ym9 [1, 3, 4, 5] ?_
       refine yk9 ?_
       refine zd9 [1, 3, 4, 5] (by simp [wnx]; rfl) ?_
       exact ⟨by simp [ys8, rule1, rule2, rule3, hk1, esC, strB, bne, a1f, a1g, a2f, a2g, a3f, a3g, w5, a4f, a4g, a5, a6t, a6e], by simp [nx1, hk1, esC, strB, bne, a1f, a1g, a2f, a2g, a3f, a3g, w5, a4f, a4g, a5, a6t, a6e, esC, strB, obC]⟩
      have a6t : ¬ x.name = [] := a6
      have a6e : x.name.isEmpty = false := by simpa using a6
      by_cases sy : symM x.name = true
      ·refine W_rK [1, 3, 4, 5, 63] ?_
       refine yq9 6 (by simp [hk1, esC, strB, bne, a1f, a1g, a2f, a2g, a3f, a3g, w5, a4f, a4g, a5, a6t, a6e, sy]; rfl) rfl ?_
       refine yq9 6 (by simp [hk1, esC, strB, bne, a1f, a1g, a2f, a2g, a3f, a3g, w5, a4f, a4g, a5, a6t, a6e, sy]; rfl) rfl ?_
       refine yq9 6 (by simp [hk1, esC, strB, bne, a1f, a1g, a2f, a2g, a3f, a3g, w5, a4f, a4g, a5, a6t, a6e, sy]; rfl) rfl ?_
       refine yq9 6 (by simp [hk1, esC, strB, bne, a1f, a1g, a2f, a2g, a3f, a3g, w5, a4f, a4g, a5, a6t, a6e, sy]; rfl) rfl ?_
       refine yq9 6 (by simp [hk1, esC, strB, bne, a1f, a1g, a2f, a2g, a3f, a3g, w5, a4f, a4g, a5, a6t, a6e, sy]; rfl) rfl ?_
       refine yq9 4 (by simp [hk1, esC, strB, bne, a1f, a1g, a2f, a2g, a3f, a3g, w5, a4f, a4g, a5, a6t, a6e, sy]; rfl) rfl ?_
       refine yj9 (by simp) (by first | (simp; done) | (simp; rfl) | (simp [hk1, esC, strB, bne, a1f, a1g, a2f, a2g, a3f, a3g, w5, a4f, a4g, a5, a6t, a6e, sy]; done) | (simp [hk1, esC, strB, bne, a1f, a1g, a2f, a2g, a3f, a3g, w5, a4f, a4g, a5, a6t, a6e, sy]; rfl)) hsy (by simp; rfl) ?_
       refine yw9 (by simp [hk1, esC, strB, bne, a1f, a1g, a2f, a2g, a3f, a3g, w5, a4f, a4g, a5, a6t, a6e, sy]; rfl) ?_
       refine ys9 rfl (fun h => by simp at h) (fun h => ?_)
       refine ym9 [1, 3, 4, 5] ?_
       refine yk9 ?_
       refine zd9 [1, 3, 4, 5] (by simp [wnx]; rfl) ?_
       exact ⟨by simp [ys8, rule1, rule2, rule3, hk1, esC, strB, bne, a1f, a1g, a2f, a2g, a3f, a3g, w5, a4f, a4g, a5, a6t, a6e, sy], by simp [nx1, hk1, esC, strB, bne, a1f, a1g, a2f, a2g, a3f, a3g, w5, a4f, a4g, a5, a6t, a6e, sy, esC, strB, obC]⟩
      have syf : symM x.name = false := by simpa using sy
      refine W_rK [1, 3, 4, 5, 63] ?_
      refine yq9 6 (by simp [hk1, esC, strB, bne, a1f, a1g, a2f, a2g, a3f, a3g, w5, a4f, a4g, a5, a6t, a6e, syf]; rfl) rfl ?_
      refine yq9 6 (by simp [hk1, esC, strB, bne, a1f, a1g, a2f, a2g, a3f, a3g, w5, a4f, a4g, a5, a6t, a6e, syf]; rfl) rfl ?_
      refine yq9 6 (by simp [hk1, esC, strB, bne, a1f, a1g, a2f, a2g, a3f, a3g, w5, a4f, a4g, a5, a6t, a6e, syf]; rfl) rfl ?_
      refine yq9 6 (by simp [hk1, esC, strB, bne, a1f, a1g, a2f, a2g, a3f, a3g, w5, a4f, a4g, a5, a6t, a6e, syf]; rfl) rfl ?_
      refine yq9 6 (by simp [hk1, esC, strB, bne, a1f, a1g, a2f, a2g, a3f, a3g, w5, a4f, a4g, a5, a6t, a6e, syf]; rfl) rfl ?_
      refine yq9 4 (by simp [hk1, esC, strB, bne, a1f, a1g, a2f, a2g, a3f, a3g, w5, a4f, a4g, a5, a6t, a6e, syf]; rfl) rfl ?_
      refine yj9 (by simp) (by first | (simp; done) | (simp; rfl) | (simp [hk1, esC, strB, bne, a1f, a1g, a2f, a2g, a3f, a3g, w5, a4f, a4g, a5, a6t, a6e, syf]; done) | (simp [hk1, esC, strB, bne, a1f, a1g, a2f, a2g, a3f, a3g, w5, a4f, a4g, a5, a6t, a6e, syf]; rfl)) hsy (by simp; rfl) ?_
      refine yw9 (by simp [hk1, esC, strB, bne, a1f, a1g, a2f, a2g, a3f, a3g, w5, a4f, a4g, a5, a6t, a6e, syf]; rfl) ?_
      refine ys9 rfl (fun h => ?_) (fun h => by simp at h)
      refine yt9 [2] (by simp; rfl) ?_
      refine zq9 ?_
      repeat (first | refine yg9 ?_ | refine yh9 ?_)
      exact hret (hbad (by simp [ys8, rule1, rule2, rule3, hk1, esC, strB, bne, a1f, a1g, a2f, a2g, a3f, a3g, w5, a4f, a4g, a5, a6t, a6e, syf])) _
     have a5t : ¬ x.id = nx := a5
     have a5b : (x.id == nx) = false := by simpa using a5
     refine W_rK [1, 3, 4, 5, 63] ?_
     refine yq9 6 (by simp [hk1, esC, strB, bne, a1f, a1g, a2f, a2g, a3f, a3g, w5, a4f, a4g, a5t, a5b]; rfl) rfl ?_
     refine yq9 6 (by simp [hk1, esC, strB, bne, a1f, a1g, a2f, a2g, a3f, a3g, w5, a4f, a4g, a5t, a5b]; rfl) rfl ?_
     refine yq9 6 (by simp [hk1, esC, strB, bne, a1f, a1g, a2f, a2g, a3f, a3g, w5, a4f, a4g, a5t, a5b]; rfl) rfl ?_
     refine yq9 6 (by simp [hk1, esC, strB, bne, a1f, a1g, a2f, a2g, a3f, a3g, w5, a4f, a4g, a5t, a5b]; rfl) rfl ?_
     refine yq9 6 (by simp [hk1, esC, strB, bne, a1f, a1g, a2f, a2g, a3f, a3g, w5, a4f, a4g, a5t, a5b]; rfl) rfl ?_
     refine yq9 6 (by simp [hk1, esC, strB, bne, a1f, a1g, a2f, a2g, a3f, a3g, w5, a4f, a4g, a5t, a5b]; rfl) rfl ?_
     refine yw9 (by simp [hk1, esC, strB, bne, a1f, a1g, a2f, a2g, a3f, a3g, w5, a4f, a4g, a5t, a5b]; rfl) ?_
     refine ys9 rfl (fun h => ?_) (fun h => by simp at h)
     refine yt9 [2] (by simp; rfl) ?_
     refine zq9 ?_
     repeat (first | refine yg9 ?_ | refine yh9 ?_)
     exact hret (hbad (by simp [ys8, rule1, rule2, rule3, hk1, esC, strB, bne, a1f, a1g, a2f, a2g, a3f, a3g, w5, a4f, a4g, a5t, a5b])) _
    have hk1b : (x.kind == 1) = false := by simpa using hk1
    by_cases hk3 : x.kind = 3
    ·refine W_cF [1, 3, 4, 5, 23, 24] (by simp [hk3, esC]; rfl) rfl ?_
     refine W_cT [1, 3, 4, 5, 23, 66] (by simp [hk3, esC]; rfl) rfl ?_
     refine yc9 ?_
     by_cases b1 : x.addr = 0
     ·by_cases b2 : x.len = 0
      ·by_cases a5 : x.id = nx
       ·by_cases sy : symM x.name = true
        ·refine W_rK [1, 3, 4, 5, 87] ?_
         refine yq9 6 (by simp [hk3, esC, strB, bne, b1, b2, a5, sy]; rfl) rfl ?_
         refine yq9 6 (by simp [hk3, esC, strB, bne, b1, b2, a5, sy]; rfl) rfl ?_
         refine yq9 5 (by simp [hk3, esC, strB, bne, b1, b2, a5, sy]; rfl) rfl ?_
         refine yj9 (by simp) (by first | (simp; done) | (simp; rfl) | (simp [hk3, esC, strB, bne, b1, b2, a5, sy]; done) | (simp [hk3, esC, strB, bne, b1, b2, a5, sy]; rfl)) hsy (by simp; rfl) ?_
         refine yw9 (by simp [hk3, esC, strB, bne, b1, b2, a5, sy]; rfl) ?_
         refine ys9 rfl (fun h => by simp at h) (fun h => ?_)
         refine ym9 [1, 3, 4, 5] ?_
         refine yk9 ?_
         refine zd9 [1, 3, 4, 5] (by simp [wnx]; rfl) ?_
         exact ⟨by simp [ys8, rule1, rule2, rule3, hk3, esC, strB, bne, b1, b2, a5, sy], by simp [nx1, hk3, esC, strB, bne, b1, b2, a5, sy, esC, strB, obC]⟩
        have syf : symM x.name = false := by simpa using sy
        refine W_rK [1, 3, 4, 5, 87] ?_
        refine yq9 6 (by simp [hk3, esC, strB, bne, b1, b2, a5, syf]; rfl) rfl ?_
        refine yq9 6 (by simp [hk3, esC, strB, bne, b1, b2, a5, syf]; rfl) rfl ?_
        refine yq9 5 (by simp [hk3, esC, strB, bne, b1, b2, a5, syf]; rfl) rfl ?_
        refine yj9 (by simp) (by first | (simp; done) | (simp; rfl) | (simp [hk3, esC, strB, bne, b1, b2, a5, syf]; done) | (simp [hk3, esC, strB, bne, b1, b2, a5, syf]; rfl)) hsy (by simp; rfl) ?_
        refine yw9 (by simp [hk3, esC, strB, bne, b1, b2, a5, syf]; rfl) ?_
        refine ys9 rfl (fun h => ?_) (fun h => by simp at h)
        refine yt9 [2] (by simp; rfl) ?_
        refine zq9 ?_
        repeat (first | refine yg9 ?_ | refine yh9 ?_)
        exact hret (hbad (by simp [ys8, rule1, rule2, rule3, hk3, esC, strB, bne, b1, b2, a5, syf])) _
       have a5t : ¬ x.id = nx := a5
       have a5b : (x.id == nx) = false := by simpa using a5
       refine W_rK [1, 3, 4, 5, 87] ?_
       refine yq9 6 (by simp [hk3, esC, strB, bne, b1, b2, a5t, a5b]; rfl) rfl ?_
       refine yq9 6 (by simp [hk3, esC, strB, bne, b1, b2, a5t, a5b]; rfl) rfl ?_
       refine yq9 6 (by simp [hk3, esC, strB, bne, b1, b2, a5t, a5b]; rfl) rfl ?_
       refine yw9 (by simp [hk3, esC, strB, bne, b1, b2, a5t, a5b]; rfl) ?_
       refine ys9 rfl (fun h => ?_) (fun h => by simp at h)
       refine yt9 [2] (by simp; rfl) ?_
       refine zq9 ?_
       repeat (first | refine yg9 ?_ | refine yh9 ?_)
       exact hret (hbad (by simp [ys8, rule1, rule2, rule3, hk3, esC, strB, bne, b1, b2, a5t, a5b])) _
      have b2t : ¬ x.len = 0 := b2
      have b2b : (x.len == 0) = false := by simpa using b2
      refine W_rK [1, 3, 4, 5, 87] ?_
      refine yq9 6 (by simp [hk3, esC, strB, bne, b1, b2t, b2b]; rfl) rfl ?_
      refine yq9 6 (by simp [hk3, esC, strB, bne, b1, b2t, b2b]; rfl) rfl ?_
      refine yq9 6 (by simp [hk3, esC, strB, bne, b1, b2t, b2b]; rfl) rfl ?_
      refine yw9 (by simp [hk3, esC, strB, bne, b1, b2t, b2b]; rfl) ?_
      refine ys9 rfl (fun h => ?_) (fun h => by simp at h)
      refine yt9 [2] (by simp; rfl) ?_
      refine zq9 ?_
      repeat (first | refine yg9 ?_ | refine yh9 ?_)
      exact hret (hbad (by simp [ys8, rule1, rule2, rule3, hk3, esC, strB, bne, b1, b2t, b2b])) _
     have b1t : ¬ x.addr = 0 := b1
     have b1b : (x.addr == 0) = false := by simpa using b1
     refine W_rK [1, 3, 4, 5, 87] ?_
     refine yq9 6 (by simp [hk3, esC, strB, bne, b1t, b1b]; rfl) rfl ?_
     refine yq9 6 (by simp [hk3, esC, strB, bne, b1t, b1b]; rfl) rfl ?_
     refine yq9 6 (by simp [hk3, esC, strB, bne, b1t, b1b]; rfl) rfl ?_
     refine yw9 (by simp [hk3, esC, strB, bne, b1t, b1b]; rfl) ?_
     refine ys9 rfl (fun h => ?_) (fun h => by simp at h)
     refine yt9 [2] (by simp; rfl) ?_
     refine zq9 ?_
     repeat (first | refine yg9 ?_ | refine yh9 ?_)
     exact hret (hbad (by simp [ys8, rule1, rule2, rule3, hk3, esC, strB, bne, b1t, b1b])) _
    have hk3b : (x.kind == 3) = false := by simpa using hk3
    by_cases hk2 : x.kind = 2
    ·refine W_cF [1, 3, 4, 5, 23, 24] (by simp [hk2, esC]; rfl) rfl ?_
     refine W_cF [1, 3, 4, 5, 23, 66] (by simp [hk2, esC]; rfl) rfl ?_
     refine W_cT [1, 3, 4, 5, 90] (by simp [hk2, esC]; rfl) rfl ?_
     by_cases b2 : x.len = 0
     ·by_cases sy : symM x.name = true
      ·refine W_rK [1, 3, 4, 5, 100] ?_
       refine yq9 6 (by simp [hk2, esC, strB, bne, b2, sy]; rfl) rfl ?_
       refine yj9 (by simp) (by first | (simp; done) | (simp; rfl) | (simp [hk2, esC, strB, bne, b2, sy]; done) | (simp [hk2, esC, strB, bne, b2, sy]; rfl)) hsy (by simp; rfl) ?_
       refine yw9 (by simp [hk2, esC, strB, bne, b2, sy]; rfl) ?_
       refine ys9 rfl (fun h => by simp at h) (fun h => ?_)
       refine ym9 [1, 3, 4, 5] ?_
       refine yk9 ?_
       exact ⟨by simp [ys8, rule1, rule2, rule3, hk2, esC, strB, bne, b2, sy], by simp [nx1, hk2, esC, strB, bne, b2, sy, esC, strB, obC]⟩
      have syf : symM x.name = false := by simpa using sy
      refine W_rK [1, 3, 4, 5, 100] ?_
      refine yq9 6 (by simp [hk2, esC, strB, bne, b2, syf]; rfl) rfl ?_
      refine yj9 (by simp) (by first | (simp; done) | (simp; rfl) | (simp [hk2, esC, strB, bne, b2, syf]; done) | (simp [hk2, esC, strB, bne, b2, syf]; rfl)) hsy (by simp; rfl) ?_
      refine yw9 (by simp [hk2, esC, strB, bne, b2, syf]; rfl) ?_
      refine ys9 rfl (fun h => ?_) (fun h => by simp at h)
      refine yt9 [2] (by simp; rfl) ?_
      refine zq9 ?_
      repeat (first | refine yg9 ?_ | refine yh9 ?_)
      exact hret (hbad (by simp [ys8, rule1, rule2, rule3, hk2, esC, strB, bne, b2, syf])) _
     have b2t : ¬ x.len = 0 := b2
     have b2b : (x.len == 0) = false := by simpa using b2
     refine W_rK [1, 3, 4, 5, 100] ?_
     refine yq9 6 (by simp [hk2, esC, strB, bne, b2t, b2b]; rfl) rfl ?_
     refine yw9 (by simp [hk2, esC, strB, bne, b2t, b2b]; rfl) ?_
     refine ys9 rfl (fun h => ?_) (fun h => by simp at h)
     refine yt9 [2] (by simp; rfl) ?_
     refine zq9 ?_
     repeat (first | refine yg9 ?_ | refine yh9 ?_)
     exact hret (hbad (by simp [ys8, rule1, rule2, rule3, hk2, esC, strB, bne, b2t, b2b])) _
    have hk2b : (x.kind == 2) = false := by simpa using hk2
    refine W_cF [1, 3, 4, 5, 23, 24] (by simp [hk1, hk1b, hk3, hk3b, hk2, hk2b, esC]; rfl) rfl ?_
    refine W_cF [1, 3, 4, 5, 23, 66] (by simp [hk1, hk1b, hk3, hk3b, hk2, hk2b, esC]; rfl) rfl ?_
    refine W_cF [1, 3, 4, 5, 90] (by simp [hk1, hk1b, hk3, hk3b, hk2, hk2b, esC]; rfl) rfl ?_
    refine yt9 [2] (by simp; rfl) ?_
    refine zq9 ?_
    repeat (first | refine yg9 ?_ | refine yh9 ?_)
    exact hret (hbad (by simp [ys8, hk1, hk2, hk3])) _
   rintro _ ⟨hrule, rfl⟩
   rw [if_pos hrule] at hgo
   have hdup := hE.dup x
   have hbad2 : dupM N x = true → R = none := fun h => by rw [h] at hgo; simpa using hgo.symm
   refine W_thenK (fun σ => dupM N x = false ∧ σ = ⟨157, [(1, .loc 0 0), (3, .v (.int .i64 (nx1 nx x))), (4, .v (.int .i64 (i : Nat))), (5, .loc 1 0)], [.cells 26 (obC o), .cells 78 (esC x)]⟩) ?_ ?_
   ·refine yt9 [1, 3, 4, 5, 6] (by simp; rfl) ?_
    refine yp9 ?_
    refine zn9 (fun k σ => ∃ (j : Nat), k = i - j ∧ j ≤ i ∧ (x.name = [] ∨ (o.esd.take j).any (fun y => y.name == x.name) = false) ∧
     σ = ⟨157, [(1, .loc 0 0), (3, .v (.int .i64 (nx1 nx x))), (4, .v (.int .i64 (i : Nat))), (5, .loc 1 0), (6, .v (.int .i64 (j : Nat)))], [.cells 26 (obC o), .cells 78 (esC x)]⟩) (k := i) ⟨0, rfl, by omega, .inr rfl, by simp⟩ ?_
    rintro k σ ⟨j, rfl, hj, hno, rfl⟩
    refine yc9 ?_
    by_cases cj : j < i
    ·have cji : (j : Int) < i := by omega
     have cjl : j < o.esd.length := by omega
     have cjz : (j : Int) < o.esd.length := by omega
     have wj := w64 (n := (j : Int) + 1) (by omega) (by omega)
     obtain ⟨y, hy⟩ : ∃ y, o.esd[j]? = some y := ⟨_, List.getElem?_eq_getElem cjl⟩
     have hy2 : o.esd[j]'cjl = y := by rw [List.getElem?_eq_getElem cjl] at hy; exact Option.some.inj hy
     have htj : o.esd.take (j + 1) = o.esd.take j ++ [y] := by rw [List.take_add_one, hy]; rfl
     refine yt9 [1, 3, 4, 5, 6, 103] (by simp [cj, cji]; rfl) ?_
     refine ys9 rfl (fun h => ?_) (fun h => by simp [cj] at h)
     refine yk9 ?_
     refine yc9 ?_
     refine yp9 ?_
     by_cases a6 : x.name = []
     ·have a6t : x.name = [] := a6
      have a6e : x.name.isEmpty = true := by rw [a6]; rfl
      refine vk8 [1, 3, 4, 5, 6, 119] mx (by decide +kernel) ?_
      refine yr9 6 (by simp [obC, esC, strB, cjl, cjz, hy2, vw9, bne, a6t, a6e]; rfl) rfl ?_
      refine yr9 6 (by simp [obC, esC, strB, cjl, cjz, hy2, vw9, bne, a6t, a6e]; rfl) rfl ?_
      refine zf9 (by simp [obC, esC, strB, cjl, cjz, hy2, vw9, bne, a6t, a6e]; rfl) ?_
      refine ys9 rfl (fun h => by simp at h) (fun h => ?_)
      refine yk9 ?_
      refine zd9 [1, 3, 4, 5, 6] (by simp [wj]; rfl) ?_
      exact ⟨_, by omega, j + 1, rfl, by omega, .inl a6, by simp [obC, esC, strB, a6]⟩
     have a6t : ¬ x.name = [] := a6
     have a6e : x.name.isEmpty = false := by simpa using a6
     by_cases d2 : y.name = x.name
     ·refine vk8 [1, 3, 4, 5, 6, 119] mx (by decide +kernel) ?_
      refine yr9 6 (by simp [obC, esC, strB, cjl, cjz, hy2, vw9, bne, a6t, a6e, d2]; rfl) rfl ?_
      refine yr9 6 (by simp [obC, esC, strB, cjl, cjz, hy2, vw9, bne, a6t, a6e, d2]; rfl) rfl ?_
      refine zf9 (by simp [obC, esC, strB, cjl, cjz, hy2, vw9, bne, a6t, a6e, d2]; rfl) ?_
      refine ys9 rfl (fun h => ?_) (fun h => by simp at h)
      refine yt9 [2] (by simp; rfl) ?_
      refine zq9 ?_
      repeat (first | refine yg9 ?_ | refine yh9 ?_)
      refine hret (hbad2 ?_) _
      rw [hdup, decide_eq_false a6]
      simp only [Bool.not_false, Bool.true_and]
      rw [List.any_eq_true]
      refine ⟨y, ?_, by simp [d2]⟩
      rw [List.mem_take_iff_getElem]
      exact ⟨j, by omega, hy2⟩
     have d2t : ¬ y.name = x.name := d2
     have d2b : (y.name == x.name) = false := by simpa using d2
     refine vk8 [1, 3, 4, 5, 6, 119] mx (by decide +kernel) ?_
     refine yr9 6 (by simp [obC, esC, strB, cjl, cjz, hy2, vw9, bne, a6t, a6e, d2t, d2b]; rfl) rfl ?_
     refine yr9 6 (by simp [obC, esC, strB, cjl, cjz, hy2, vw9, bne, a6t, a6e, d2t, d2b]; rfl) rfl ?_
     refine zf9 (by simp [obC, esC, strB, cjl, cjz, hy2, vw9, bne, a6t, a6e, d2t, d2b]; rfl) ?_
     refine ys9 rfl (fun h => by simp at h) (fun h => ?_)
     refine yk9 ?_
     refine zd9 [1, 3, 4, 5, 6] (by simp [wj]; rfl) ?_
     refine ⟨_, by omega, j + 1, rfl, by omega, ?_, by simp [obC, esC, strB]⟩
     rw [htj, List.any_append]
     rcases hno with h | h
     ·exact .inl h
     ·exact .inr (by rw [h]; simp [d2t])
    have hjl : j = i := by omega
    have cjn : ¬ ((j : Int) < i) := by omega
    refine yt9 [1, 3, 4, 5, 6, 103] (by simp [cjn]; rfl) ?_
    refine ys9 rfl (fun h => by simp [hjl] at h) (fun h => ?_)
    refine ym9 [1, 3, 4, 5] ?_
    refine zc9 ?_
    refine ⟨?_, by simp⟩
    rw [hdup]
    rcases hno with h | h
    ·simp [h]
    ·rw [← hjl, h]; simp
   rintro _ ⟨hnd, rfl⟩
   rw [hnd, if_neg (by simp)] at hgo
   refine ym9 [1, 3, 4] ?_
   refine xk9 1 (Nat.zero_le _) (by simp) (by simp [yb9, AV.under, AV.underL]) (by simp [yl9, AObj.under, zw9]) ?_
   refine zd9 [1, 3, 4] (by simp [wi]; rfl) ?_
   refine ⟨_, by omega, i + 1, _, _, _, rfl, by omega, by rw [htk]; exact hE.step hrule hnd, ?_, hgo, by simp⟩
   unfold nx1
   split <;> omega
  ·have hie : i = o.esd.length := by omega
   have cn : ¬ ((i : Int) < o.esd.length) := by omega
   rw [hie, List.drop_length, xq8] at hgo
   rw [hie, List.take_length] at hE
   refine yt9 [1, 3, 4, 14] (by simp [obC, cn]; rfl) ?_
   refine ys9 rfl (fun h => by simp [hie] at h) (fun h => ?_)
   refine ym9 [1, 3] ?_
   refine zc9 ?_
   exact ⟨S, N, nx, hgo.symm, hE, by simp [obC]⟩
 rintro _ ⟨S, N, nx, hRs, hE, rfl⟩
 rw [hRs]
 have hfst := first97_sound o (by omega)
 refine xv9 (fun σ => o.esd.all (ent1 S) = true ∧ σ = ⟨157, [(1, .loc 0 0)], [.cells 26 (obC o)]⟩) ?_ ?_
 ·refine yt9 [1, 7] (by simp; rfl) ?_
  refine yp9 ?_
  refine zn9 (fun k σ => ∃ (i : Nat), k = o.esd.length - i ∧ i ≤ o.esd.length ∧ o.esd.all (ent1 S) = (o.esd.drop i).all (ent1 S) ∧ σ = ⟨157, [(1, .loc 0 0), (7, .v (.int .i64 (i : Nat)))], [.cells 26 (obC o)]⟩) (k := o.esd.length) ⟨0, rfl, by omega, by simp, by simp⟩ ?_
  rintro k σ ⟨i, rfl, hi, hall, rfl⟩
  refine yc9 ?_
  by_cases c : i < o.esd.length
  ·have ci : (i : Int) < o.esd.length := by omega
   obtain ⟨x, hs⟩ : ∃ x, o.esd[i]? = some x := ⟨_, List.getElem?_eq_getElem c⟩
   have hs2 : o.esd[i]'c = x := by rw [List.getElem?_eq_getElem c] at hs; exact Option.some.inj hs
   have hdr : o.esd.drop i = x :: o.esd.drop (i + 1) := wl9 c hs2
   obtain ⟨hxn, hxa⟩ := hx x (List.mem_of_getElem? hs)
   have wi := w64 (n := (i : Int) + 1) (by omega) (by omega)
   rw [hdr, List.all_cons] at hall
   have hli := zj7 o x.id x.addr 0 (by omega) (hE.sm x.id) hxa
   rw [hE.lies] at hli
   refine yt9 [1, 7, 124] (by simp [obC, ci]; rfl) ?_
   refine ys9 rfl (fun h => ?_) (fun h => by simp [c] at h)
   refine yk9 ?_
   refine yc9 ?_
   refine yp9 ?_
   by_cases hk : x.kind = 2
   ·have hkt : x.kind = 2 := hk
    by_cases lv : vr8 S x.id x.addr 0 = true
    ·refine vk8 [1, 7, 150] mx (by decide +kernel) ?_
     refine yr9 6 (by simp [obC, c, ci, hs2, strB, hkt, lv]; rfl) rfl ?_
     refine yr9 6 (by simp [obC, c, ci, hs2, strB, hkt, lv]; rfl) rfl ?_
     refine yr9 6 (by simp [obC, c, ci, hs2, strB, hkt, lv]; rfl) rfl ?_
     refine yr9 3 (by simp [obC, c, ci, hs2, strB, hkt, lv]; rfl) rfl ?_
     refine zl9 (by simp) (by first | (simp; done) | (simp; rfl) | (simp [obC, c, ci, hs2, strB, hkt, lv]; done) | (simp [obC, c, ci, hs2, strB, hkt, lv]; rfl)) hli (by simp; rfl) ?_
     refine zf9 (by simp [obC, c, ci, hs2, strB, hkt, lv]; rfl) ?_
     refine ys9 rfl (fun h => by simp at h) (fun h => ?_)
     refine yk9 ?_
     refine zd9 [1, 7] (by simp [wi]; rfl) ?_
     exact ⟨_, by omega, i + 1, rfl, by omega, by rw [hall]; simp [ent1, hkt, lv], by simp [obC, strB]⟩
    have lvf : vr8 S x.id x.addr 0 = false := by simpa using lv
    refine vk8 [1, 7, 150] mx (by decide +kernel) ?_
    refine yr9 6 (by simp [obC, c, ci, hs2, strB, hkt, lvf]; rfl) rfl ?_
    refine yr9 6 (by simp [obC, c, ci, hs2, strB, hkt, lvf]; rfl) rfl ?_
    refine yr9 6 (by simp [obC, c, ci, hs2, strB, hkt, lvf]; rfl) rfl ?_
    refine yr9 3 (by simp [obC, c, ci, hs2, strB, hkt, lvf]; rfl) rfl ?_
    refine zl9 (by simp) (by first | (simp; done) | (simp; rfl) | (simp [obC, c, ci, hs2, strB, hkt, lvf]; done) | (simp [obC, c, ci, hs2, strB, hkt, lvf]; rfl)) hli (by simp; rfl) ?_
    refine zf9 (by simp [obC, c, ci, hs2, strB, hkt, lvf]; rfl) ?_
    refine ys9 rfl (fun h => ?_) (fun h => by simp at h)
    refine yt9 [2] (by simp; rfl) ?_
    refine zq9 ?_
    repeat (first | refine yg9 ?_ | refine yh9 ?_)
    simp [retQ, esdB, hall, ent1, hkt, lvf]
   have hkt : ¬ x.kind = 2 := hk
   have hkb : (x.kind == 2) = false := by simpa using hk
   refine vk8 [1, 7, 150] mx (by decide +kernel) ?_
   refine yr9 6 (by simp [obC, c, ci, hs2, strB, hkt, hkb]; rfl) rfl ?_
   refine yr9 6 (by simp [obC, c, ci, hs2, strB, hkt, hkb]; rfl) rfl ?_
   refine yr9 6 (by simp [obC, c, ci, hs2, strB, hkt, hkb]; rfl) rfl ?_
   refine zf9 (by simp [obC, c, ci, hs2, strB, hkt, hkb]; rfl) ?_
   refine ys9 rfl (fun h => by simp at h) (fun h => ?_)
   refine yk9 ?_
   refine zd9 [1, 7] (by simp [wi]; rfl) ?_
   exact ⟨_, by omega, i + 1, rfl, by omega, by rw [hall]; simp [ent1, hkt, hkb], by simp [obC, strB]⟩
  have hie : i = o.esd.length := by omega
  have cn : ¬ ((i : Int) < o.esd.length) := by omega
  rw [hie, List.drop_length, List.all_nil] at hall
  refine yt9 [1, 7, 124] (by simp [obC, cn]; rfl) ?_
  refine ys9 rfl (fun h => by simp [hie] at h) (fun h => ?_)
  refine ym9 [1] ?_
  refine zc9 ?_
  exact ⟨hall, by simp [obC]⟩
 rintro _ ⟨hall, rfl⟩
 have hfi := hE.first
 cases hf : o.esd.find? isS1 with
 | none =>
  rw [hf] at hfst hfi
  refine W_rK [9] ?_
  refine yq9 1 (by simp; rfl) rfl ?_
  refine yj9 (by simp) (by first | (simp; done) | (simp; rfl) | (simp [obC, strB]; done) | (simp [obC, strB]; rfl)) hfst (by simp [fndR]; rfl) ?_
  refine yw9 (by simp [es0, strB, yd9]; rfl) ?_
  refine yt9 [2] (by simp; rfl) ?_
  refine zq9 ?_
  repeat (first | refine yg9 ?_ | refine yh9 ?_)
  simp [retQ, esdB, hall, ← hfi]
 | some y =>
  rw [hf] at hfst hfi
  refine W_rK [9] ?_
  refine yq9 1 (by simp; rfl) rfl ?_
  refine yj9 (by simp) (by first | (simp; done) | (simp; rfl) | (simp [obC, strB]; done) | (simp [obC, strB]; rfl)) hfst (by simp [fndR]; rfl) ?_
  refine yw9 (by simp [strB, yd9]; rfl) ?_
  refine yt9 [2] (by simp; rfl) ?_
  refine zq9 ?_
  repeat (first | refine yg9 ?_ | refine yh9 ?_)
  simp [retQ, esdB, hall, ← hfi]
end Go.AM
namespace Go.AM
open Go.RowKit Go.Proofs
set_option linter.unusedSimpArgs false
set_option linter.unusedVariables false
set_option maxHeartbeats 4000000
theorem rcheckObject_sound (o : OMod) (ho : OIn o) (hbl : o.esd.length ≤ 1000000 ∧ o.txt.length ≤ 1000000 ∧ o.rld.length ≤ 1000000) : Sound Try.prog 37 [obA o] (.v (.bool (chkM o))) := by
 refine zj9 Try.func37 rfl (by decide +kernel) (by simp [Try.f37, strB]) (by simp [AV.rfL, AV.rf, strB]) (by simp [AV.tlL, AV.tl, strB]) (rs := [.tmp 2]) rfl ?_
 rw [show Try.f37.ntmps = 112 from rfl]
 obtain ⟨he, ht, hr⟩ := ho
 obtain ⟨bl1, bl2, bl3⟩ := hbl
 obtain ⟨G, hG⟩ : ∃ G, xq8 o.esd [] [] 1 = G := ⟨_, rfl⟩
 have hEI : ∀ S N nx, G = some (S, N, nx) → EInv o.esd S N nx := fun S N nx h => by
  rw [h] at hG
  simpa using esdGo_EInv o.esd [] [] S [] N 1 nx EInv.nil hG
 have hdf := defined73_sound o o.entry (by omega)
 refine yt9 [1] (by simp; rfl) ?_
 refine xv9 (fun σ => ∃ S N nx, bigB o = false ∧ G = some (S, N, nx) ∧ esdB o.esd G = true ∧ EInv o.esd S N nx ∧ entB N o.entry = false ∧ σ = ⟨112, [(1, .loc 0 0)], [.cells 26 (obC o)]⟩) ?_ ?_
 ·by_cases c1 : 2048 < o.esd.length
  ·have c1a : 2048 < o.esd.length := c1
   have c1b : (2048 : Int) < (o.esd.length : Nat) := by omega
   refine W_rK [1, 39] ?_
   refine yq9 6 (by simp [obC, strB, bne, c1a, c1b]; rfl) rfl ?_
   refine yq9 6 (by simp [obC, strB, bne, c1a, c1b]; rfl) rfl ?_
   refine yq9 6 (by simp [obC, strB, bne, c1a, c1b]; rfl) rfl ?_
   refine yq9 6 (by simp [obC, strB, bne, c1a, c1b]; rfl) rfl ?_
   refine yq9 6 (by simp [obC, strB, bne, c1a, c1b]; rfl) rfl ?_
   refine yw9 (by simp [obC, strB, bne, c1a, c1b]; rfl) ?_
   refine ys9 rfl (fun h => ?_) (fun h => by simp at h)
   refine yt9 [2] (by simp; rfl) ?_
   refine zq9 ?_
   repeat (first | refine yg9 ?_ | refine yh9 ?_)
   simp [retQ, chkM, bigB, hG, c1a, c1b]
  have c1a : ¬ 2048 < o.esd.length := c1
  have c1b : ¬ (2048 : Int) < (o.esd.length : Nat) := by omega
  by_cases c2 : 2048 < o.txt.length
  ·have c2a : 2048 < o.txt.length := c2
   have c2b : (2048 : Int) < (o.txt.length : Nat) := by omega
   refine W_rK [1, 39] ?_
   refine yq9 6 (by simp [obC, strB, bne, c1a, c1b, c2a, c2b]; rfl) rfl ?_
   refine yq9 6 (by simp [obC, strB, bne, c1a, c1b, c2a, c2b]; rfl) rfl ?_
   refine yq9 6 (by simp [obC, strB, bne, c1a, c1b, c2a, c2b]; rfl) rfl ?_
   refine yq9 6 (by simp [obC, strB, bne, c1a, c1b, c2a, c2b]; rfl) rfl ?_
   refine yq9 6 (by simp [obC, strB, bne, c1a, c1b, c2a, c2b]; rfl) rfl ?_
   refine yw9 (by simp [obC, strB, bne, c1a, c1b, c2a, c2b]; rfl) ?_
   refine ys9 rfl (fun h => ?_) (fun h => by simp at h)
   refine yt9 [2] (by simp; rfl) ?_
   refine zq9 ?_
   repeat (first | refine yg9 ?_ | refine yh9 ?_)
   simp [retQ, chkM, bigB, hG, c1a, c1b, c2a, c2b]
  have c2a : ¬ 2048 < o.txt.length := c2
  have c2b : ¬ (2048 : Int) < (o.txt.length : Nat) := by omega
  by_cases c3 : 2048 < o.rld.length
  ·have c3a : 2048 < o.rld.length := c3
   have c3b : (2048 : Int) < (o.rld.length : Nat) := by omega
   refine W_rK [1, 39] ?_
   refine yq9 6 (by simp [obC, strB, bne, c1a, c1b, c2a, c2b, c3a, c3b]; rfl) rfl ?_
   refine yq9 6 (by simp [obC, strB, bne, c1a, c1b, c2a, c2b, c3a, c3b]; rfl) rfl ?_
   refine yq9 6 (by simp [obC, strB, bne, c1a, c1b, c2a, c2b, c3a, c3b]; rfl) rfl ?_
   refine yq9 6 (by simp [obC, strB, bne, c1a, c1b, c2a, c2b, c3a, c3b]; rfl) rfl ?_
   refine yq9 6 (by simp [obC, strB, bne, c1a, c1b, c2a, c2b, c3a, c3b]; rfl) rfl ?_
   refine yw9 (by simp [obC, strB, bne, c1a, c1b, c2a, c2b, c3a, c3b]; rfl) ?_
   refine ys9 rfl (fun h => ?_) (fun h => by simp at h)
   refine yt9 [2] (by simp; rfl) ?_
   refine zq9 ?_
   repeat (first | refine yg9 ?_ | refine yh9 ?_)
   simp [retQ, chkM, bigB, hG, c1a, c1b, c2a, c2b, c3a, c3b]
  have c3a : ¬ 2048 < o.rld.length := c3
  have c3b : ¬ (2048 : Int) < (o.rld.length : Nat) := by omega
  by_cases es : esdB o.esd G = true
  ·have est : esdB o.esd G = true := es
   obtain ⟨⟨S, N, nx⟩, hGs⟩ : ∃ p, G = some p := (by cases G with | none => simp [esdB] at es | some p => exact ⟨p, rfl⟩)
   have hE := hEI S N nx hGs
   have hen := hE.entry o.entry
   by_cases a6 : o.entry = []
   ·have a6t : o.entry = [] := a6
    have a6e : o.entry.isEmpty = true := by rw [a6]; rfl
    refine W_rK [1, 39] ?_
    have hesd := zl7 o (by omega) he
    rw [hG] at hesd
    refine yq9 6 (by simp [obC, strB, bne, c1a, c1b, c2a, c2b, c3a, c3b, est, a6t, a6e]; rfl) rfl ?_
    refine yq9 6 (by simp [obC, strB, bne, c1a, c1b, c2a, c2b, c3a, c3b, est, a6t, a6e]; rfl) rfl ?_
    refine yq9 6 (by simp [obC, strB, bne, c1a, c1b, c2a, c2b, c3a, c3b, est, a6t, a6e]; rfl) rfl ?_
    refine yj9 (by simp) (by first | (simp; done) | (simp; rfl) | (simp [obC, strB, bne, c1a, c1b, c2a, c2b, c3a, c3b, est, a6t, a6e]; done) | (simp [obC, strB, bne, c1a, c1b, c2a, c2b, c3a, c3b, est, a6t, a6e]; rfl)) hesd (by simp; rfl) ?_
    refine yq9 6 (by simp [obC, strB, bne, c1a, c1b, c2a, c2b, c3a, c3b, est, a6t, a6e]; rfl) rfl ?_
    refine yq9 6 (by simp [obC, strB, bne, c1a, c1b, c2a, c2b, c3a, c3b, est, a6t, a6e]; rfl) rfl ?_
    refine yw9 (by simp [obC, strB, bne, c1a, c1b, c2a, c2b, c3a, c3b, est, a6t, a6e]; rfl) ?_
    refine ys9 rfl (fun h => by simp at h) (fun h => ?_)
    refine ym9 [1] ?_
    refine yk9 ?_
    exact ⟨S, N, nx, by simp [bigB, c1a, c1b, c2a, c2b, c3a, c3b, est, a6t, a6e], hGs, est, hE, by rw [hen]; simp [c1a, c1b, c2a, c2b, c3a, c3b, est, a6t, a6e], by simp [obC, strB, a6t]⟩
   have a6t : ¬ o.entry = [] := a6
   have a6e : o.entry.isEmpty = false := by simpa using a6
   by_cases df : o.esd.any (isDf o.entry) = true
   ·have dft : o.esd.any (isDf o.entry) = true := df
    refine W_rK [1, 39] ?_
    have hesd := zl7 o (by omega) he
    rw [hG] at hesd
    refine yq9 6 (by simp [obC, strB, bne, c1a, c1b, c2a, c2b, c3a, c3b, est, a6t, a6e, dft]; rfl) rfl ?_
    refine yq9 6 (by simp [obC, strB, bne, c1a, c1b, c2a, c2b, c3a, c3b, est, a6t, a6e, dft]; rfl) rfl ?_
    refine yq9 6 (by simp [obC, strB, bne, c1a, c1b, c2a, c2b, c3a, c3b, est, a6t, a6e, dft]; rfl) rfl ?_
    refine yj9 (by simp) (by first | (simp; done) | (simp; rfl) | (simp [obC, strB, bne, c1a, c1b, c2a, c2b, c3a, c3b, est, a6t, a6e, dft]; done) | (simp [obC, strB, bne, c1a, c1b, c2a, c2b, c3a, c3b, est, a6t, a6e, dft]; rfl)) hesd (by simp; rfl) ?_
    refine yq9 6 (by simp [obC, strB, bne, c1a, c1b, c2a, c2b, c3a, c3b, est, a6t, a6e, dft]; rfl) rfl ?_
    refine yq9 4 (by simp [obC, strB, bne, c1a, c1b, c2a, c2b, c3a, c3b, est, a6t, a6e, dft]; rfl) rfl ?_
    refine yj9 (by simp) (by first | (simp; done) | (simp; rfl) | (simp [obC, strB, bne, c1a, c1b, c2a, c2b, c3a, c3b, est, a6t, a6e, dft]; done) | (simp [obC, strB, bne, c1a, c1b, c2a, c2b, c3a, c3b, est, a6t, a6e, dft]; rfl)) hdf (by simp; rfl) ?_
    refine yw9 (by simp [obC, strB, bne, c1a, c1b, c2a, c2b, c3a, c3b, est, a6t, a6e, dft]; rfl) ?_
    refine ys9 rfl (fun h => by simp at h) (fun h => ?_)
    refine ym9 [1] ?_
    refine yk9 ?_
    exact ⟨S, N, nx, by simp [bigB, c1a, c1b, c2a, c2b, c3a, c3b, est, a6t, a6e, dft], hGs, est, hE, by rw [hen]; simp [c1a, c1b, c2a, c2b, c3a, c3b, est, a6t, a6e, dft], by simp [obC, strB, a6t]⟩
   have dff : o.esd.any (isDf o.entry) = false := by simpa using df
   refine W_rK [1, 39] ?_
   have hesd := zl7 o (by omega) he
   rw [hG] at hesd
   refine yq9 6 (by simp [obC, strB, bne, c1a, c1b, c2a, c2b, c3a, c3b, est, a6t, a6e, dff]; rfl) rfl ?_
   refine yq9 6 (by simp [obC, strB, bne, c1a, c1b, c2a, c2b, c3a, c3b, est, a6t, a6e, dff]; rfl) rfl ?_
   refine yq9 6 (by simp [obC, strB, bne, c1a, c1b, c2a, c2b, c3a, c3b, est, a6t, a6e, dff]; rfl) rfl ?_
   refine yj9 (by simp) (by first | (simp; done) | (simp; rfl) | (simp [obC, strB, bne, c1a, c1b, c2a, c2b, c3a, c3b, est, a6t, a6e, dff]; done) | (simp [obC, strB, bne, c1a, c1b, c2a, c2b, c3a, c3b, est, a6t, a6e, dff]; rfl)) hesd (by simp; rfl) ?_
   refine yq9 6 (by simp [obC, strB, bne, c1a, c1b, c2a, c2b, c3a, c3b, est, a6t, a6e, dff]; rfl) rfl ?_
   refine yq9 4 (by simp [obC, strB, bne, c1a, c1b, c2a, c2b, c3a, c3b, est, a6t, a6e, dff]; rfl) rfl ?_
   refine yj9 (by simp) (by first | (simp; done) | (simp; rfl) | (simp [obC, strB, bne, c1a, c1b, c2a, c2b, c3a, c3b, est, a6t, a6e, dff]; done) | (simp [obC, strB, bne, c1a, c1b, c2a, c2b, c3a, c3b, est, a6t, a6e, dff]; rfl)) hdf (by simp; rfl) ?_
   refine yw9 (by simp [obC, strB, bne, c1a, c1b, c2a, c2b, c3a, c3b, est, a6t, a6e, dff]; rfl) ?_
   refine ys9 rfl (fun h => ?_) (fun h => by simp at h)
   refine yt9 [2] (by simp; rfl) ?_
   refine zq9 ?_
   repeat (first | refine yg9 ?_ | refine yh9 ?_)
   have hch : chkM o = false := by
    rw [chkM, hG, hGs]
    simp [restM, hen, c1a, c1b, c2a, c2b, c3a, c3b, a6t, a6e, dff]
   simp [retQ, hch]
  have esf : esdB o.esd G = false := by simpa using es
  refine W_rK [1, 39] ?_
  have hesd := zl7 o (by omega) he
  rw [hG] at hesd
  refine yq9 6 (by simp [obC, strB, bne, c1a, c1b, c2a, c2b, c3a, c3b, esf]; rfl) rfl ?_
  refine yq9 6 (by simp [obC, strB, bne, c1a, c1b, c2a, c2b, c3a, c3b, esf]; rfl) rfl ?_
  refine yq9 6 (by simp [obC, strB, bne, c1a, c1b, c2a, c2b, c3a, c3b, esf]; rfl) rfl ?_
  refine yj9 (by simp) (by first | (simp; done) | (simp; rfl) | (simp [obC, strB, bne, c1a, c1b, c2a, c2b, c3a, c3b, esf]; done) | (simp [obC, strB, bne, c1a, c1b, c2a, c2b, c3a, c3b, esf]; rfl)) hesd (by simp; rfl) ?_
  refine yq9 6 (by simp [obC, strB, bne, c1a, c1b, c2a, c2b, c3a, c3b, esf]; rfl) rfl ?_
  refine yq9 6 (by simp [obC, strB, bne, c1a, c1b, c2a, c2b, c3a, c3b, esf]; rfl) rfl ?_
  refine yw9 (by simp [obC, strB, bne, c1a, c1b, c2a, c2b, c3a, c3b, esf]; rfl) ?_
  refine ys9 rfl (fun h => ?_) (fun h => by simp at h)
  refine yt9 [2] (by simp; rfl) ?_
  refine zq9 ?_
  repeat (first | refine yg9 ?_ | refine yh9 ?_)
  simp [retQ, chkM, bigB, hG, c1a, c1b, c2a, c2b, c3a, c3b, esf]
 rintro _ ⟨S, N, nx, hbig, hGe, hB, hE, hen, rfl⟩
 have hmod : chkM o = (o.txt.all (fun t => !txB S t) && o.rld.all (fun r => !rdB S nx r)) := by rw [chkM, hG, hbig, hB, hGe]; simp [restM, hen]
 have hbig2 := hbig
 simp only [bigB, Bool.or_eq_false_iff, decide_eq_false_iff_not] at hbig2
 obtain ⟨l1, l2, l3⟩ := hbig2
 refine xv9 (fun σ => o.txt.all (fun t => !txB S t) = true ∧ σ = ⟨112, [(1, .loc 0 0)], [.cells 26 (obC o)]⟩) ?_ ?_
 ·refine yt9 [1, 3] (by simp; rfl) ?_
  refine yp9 ?_
  refine zn9 (fun k σ => ∃ (i : Nat), k = o.txt.length - i ∧ i ≤ o.txt.length ∧ o.txt.all (fun t => !txB S t) = (o.txt.drop i).all (fun t => !txB S t) ∧ σ = ⟨112, [(1, .loc 0 0), (3, .v (.int .i64 (i : Nat)))], [.cells 26 (obC o)]⟩) (k := o.txt.length) ⟨0, rfl, by omega, by simp, by simp⟩ ?_
  rintro k σ ⟨i, rfl, hi, hall, rfl⟩
  refine yc9 ?_
  by_cases c : i < o.txt.length
  ·have ci : (i : Int) < o.txt.length := by omega
   obtain ⟨x, hs⟩ : ∃ x, o.txt[i]? = some x := ⟨_, List.getElem?_eq_getElem c⟩
   have hs2 : o.txt[i]'c = x := by rw [List.getElem?_eq_getElem c] at hs; exact Option.some.inj hs
   have hdr : o.txt.drop i = x :: o.txt.drop (i + 1) := wl9 c hs2
   obtain ⟨hxa, hxd⟩ := ht x (List.mem_of_getElem? hs)
   have wi := w64 (n := (i : Int) + 1) (by omega) (by omega)
   have hlies := zj7 o x.id x.addr x.data.length bl1 (hE.sm x.id) hxa
   rw [hE.lies] at hlies
   rw [hdr, List.all_cons] at hall
   refine yt9 [1, 3, 44] (by simp [obC, ci]; rfl) ?_
   refine ys9 rfl (fun h => ?_) (fun h => by simp [c] at h)
   refine yk9 ?_
   refine yc9 ?_
   refine yp9 ?_
   refine yt9 [1, 3, 4] (by simp [obC, c, ci, hs2, yd9, AV.weakL, AV.weak, AV.koneL, AV.kone]; rfl) ?_
   by_cases d1 : x.data.length < 1
   ·have d1a : x.data.length < 1 := d1
    have d1b : ((x.data.length : Nat) : Int) < 1 := by omega
    refine W_rK [1, 3, 73] ?_
    refine yq9 6 (by simp [obC, txC, strB, d1a, d1b]; rfl) rfl ?_
    refine yq9 6 (by simp [obC, txC, strB, d1a, d1b]; rfl) rfl ?_
    refine yq9 6 (by simp [obC, txC, strB, d1a, d1b]; rfl) rfl ?_
    refine yw9 (by simp [obC, txC, strB, d1a, d1b]; rfl) ?_
    refine ys9 rfl (fun h => ?_) (fun h => by simp at h)
    refine yt9 [2] (by simp; rfl) ?_
    refine zq9 ?_
    repeat (first | refine yg9 ?_ | refine yh9 ?_)
    have hch : chkM o = false := by
     rw [hmod, hall]
     simp [txB, d1a, d1b]
    simp [retQ, hch]
   have d1a : ¬ x.data.length < 1 := d1
   have d1b : ¬ ((x.data.length : Nat) : Int) < 1 := by omega
   by_cases d2 : 56 < x.data.length
   ·have d2a : 56 < x.data.length := d2
    have d2b : (56 : Int) < (x.data.length : Nat) := by omega
    refine W_rK [1, 3, 73] ?_
    refine yq9 6 (by simp [obC, txC, strB, d1a, d1b, d2a, d2b]; rfl) rfl ?_
    refine yq9 6 (by simp [obC, txC, strB, d1a, d1b, d2a, d2b]; rfl) rfl ?_
    refine yq9 6 (by simp [obC, txC, strB, d1a, d1b, d2a, d2b]; rfl) rfl ?_
    refine yw9 (by simp [obC, txC, strB, d1a, d1b, d2a, d2b]; rfl) ?_
    refine ys9 rfl (fun h => ?_) (fun h => by simp at h)
    refine yt9 [2] (by simp; rfl) ?_
    refine zq9 ?_
    repeat (first | refine yg9 ?_ | refine yh9 ?_)
    have hch : chkM o = false := by
     rw [hmod, hall]
     simp [txB, d1a, d1b, d2a, d2b]
    simp [retQ, hch]
   have d2a : ¬ 56 < x.data.length := d2
   have d2b : ¬ (56 : Int) < (x.data.length : Nat) := by omega
   by_cases lv : vr8 S x.id x.addr x.data.length = true
   ·have lvt : vr8 S x.id x.addr x.data.length = true := lv
    refine W_rK [1, 3, 73] ?_
    refine yq9 6 (by simp [obC, txC, strB, d1a, d1b, d2a, d2b, lvt]; rfl) rfl ?_
    refine yq9 6 (by simp [obC, txC, strB, d1a, d1b, d2a, d2b, lvt]; rfl) rfl ?_
    refine yq9 7 (by simp [obC, txC, strB, d1a, d1b, d2a, d2b, lvt]; rfl) rfl ?_
    refine yj9 (by simp) (by first | (simp; done) | (simp; rfl) | (simp [obC, txC, strB, d1a, d1b, d2a, d2b, lvt]; done) | (simp [obC, txC, strB, d1a, d1b, d2a, d2b, lvt]; rfl)) hlies (by simp; rfl) ?_
    refine yw9 (by simp [obC, txC, strB, d1a, d1b, d2a, d2b, lvt]; rfl) ?_
    refine ys9 rfl (fun h => by simp at h) (fun h => ?_)
    refine yk9 ?_
    refine ym9 [1, 3] ?_
    refine xk9 1 (Nat.zero_le _) (by simp) (by simp [yb9, AV.under, AV.underL]) (by simp [yl9, AObj.under, zw9, obC, AV.underL, AV.under, strB]) ?_
    refine zd9 [1, 3] (by simp [wi]; rfl) ?_
    exact ⟨_, by omega, i + 1, rfl, by omega, by rw [hall]; simp [txB, d1a, d1b, d2a, d2b, lvt], by simp [obC, strB]⟩
   have lvf : vr8 S x.id x.addr x.data.length = false := by simpa using lv
   refine W_rK [1, 3, 73] ?_
   refine yq9 6 (by simp [obC, txC, strB, d1a, d1b, d2a, d2b, lvf]; rfl) rfl ?_
   refine yq9 6 (by simp [obC, txC, strB, d1a, d1b, d2a, d2b, lvf]; rfl) rfl ?_
   refine yq9 7 (by simp [obC, txC, strB, d1a, d1b, d2a, d2b, lvf]; rfl) rfl ?_
   refine yj9 (by simp) (by first | (simp; done) | (simp; rfl) | (simp [obC, txC, strB, d1a, d1b, d2a, d2b, lvf]; done) | (simp [obC, txC, strB, d1a, d1b, d2a, d2b, lvf]; rfl)) hlies (by simp; rfl) ?_
   refine yw9 (by simp [obC, txC, strB, d1a, d1b, d2a, d2b, lvf]; rfl) ?_
   refine ys9 rfl (fun h => ?_) (fun h => by simp at h)
   refine yt9 [2] (by simp; rfl) ?_
   refine zq9 ?_
   repeat (first | refine yg9 ?_ | refine yh9 ?_)
   have hch : chkM o = false := by
    rw [hmod, hall]
    simp [txB, d1a, d1b, d2a, d2b, lvf]
   simp [retQ, hch]
  have hie : i = o.txt.length := by omega
  have cn : ¬ ((i : Int) < o.txt.length) := by omega
  rw [hie, List.drop_length, List.all_nil] at hall
  refine yt9 [1, 3, 44] (by simp [obC, cn]; rfl) ?_
  refine ys9 rfl (fun h => by simp [hie] at h) (fun h => ?_)
  refine ym9 [1] ?_
  refine zc9 ?_
  exact ⟨hall, by simp [obC, strB]⟩
 rintro _ ⟨htall, rfl⟩
 rw [htall, Bool.true_and] at hmod
 refine xv9 (fun σ => o.rld.all (fun r => !rdB S nx r) = true ∧ σ = ⟨112, [(1, .loc 0 0)], [.cells 26 (obC o)]⟩) ?_ ?_
 ·refine yt9 [1, 5] (by simp; rfl) ?_
  refine yp9 ?_
  refine zn9 (fun k σ => ∃ (i : Nat), k = o.rld.length - i ∧ i ≤ o.rld.length ∧ o.rld.all (fun r => !rdB S nx r) = (o.rld.drop i).all (fun r => !rdB S nx r) ∧ σ = ⟨112, [(1, .loc 0 0), (5, .v (.int .i64 (i : Nat)))], [.cells 26 (obC o)]⟩) (k := o.rld.length) ⟨0, rfl, by omega, by simp, by simp⟩ ?_
  rintro k σ ⟨i, rfl, hi, hall, rfl⟩
  refine yc9 ?_
  by_cases c : i < o.rld.length
  ·have ci : (i : Int) < o.rld.length := by omega
   obtain ⟨x, hs⟩ : ∃ x, o.rld[i]? = some x := ⟨_, List.getElem?_eq_getElem c⟩
   have hs2 : o.rld[i]'c = x := by rw [List.getElem?_eq_getElem c] at hs; exact Option.some.inj hs
   have hdr : o.rld.drop i = x :: o.rld.drop (i + 1) := wl9 c hs2
   have hxa := hr x (List.mem_of_getElem? hs)
   have wi := w64 (n := (i : Int) + 1) (by omega) (by omega)
   have hlies := zj7 o x.in_ x.addr x.len bl1 (hE.sm x.in_) hxa
   rw [hE.lies] at hlies
   have htg := target75_sound o x.to_ bl1
   rw [hE.t1] at htg
   obtain ⟨tg, htgv⟩ : ∃ tg, (decide (1 ≤ x.to_) && decide (x.to_ < nx)) = tg := ⟨_, rfl⟩
   rw [htgv] at htg
   have hrd : rdB S nx x = (decide (x.len < 1) || (decide (4 < x.len) || (!vr8 S x.in_ x.addr x.len || !tg))) := by
    have e1 : decide (x.to_ < 1) = !decide (1 ≤ x.to_) := by rw [Bool.eq_iff_iff]; simp
    have e2 : decide (nx ≤ x.to_) = !decide (x.to_ < nx) := by rw [Bool.eq_iff_iff]; simp
    rw [← htgv, rdB, e1, e2]
    cases decide (1 ≤ x.to_) <;> cases decide (x.to_ < nx) <;> cases vr8 S x.in_ x.addr x.len <;> rfl
   rw [hdr, List.all_cons, hrd] at hall
   refine yt9 [1, 5, 78] (by simp [obC, ci]; rfl) ?_
   refine ys9 rfl (fun h => ?_) (fun h => by simp [c] at h)
   refine yk9 ?_
   refine yc9 ?_
   refine yp9 ?_
   refine yt9 [1, 5, 6] (by simp [obC, c, ci, hs2, yd9, AV.weakL, AV.weak, AV.koneL, AV.kone]; rfl) ?_
   by_cases d1 : x.len < 1
   ·refine W_rK [1, 5, 111] ?_
    refine yq9 6 (by simp [obC, rdC, strB, d1]; rfl) rfl ?_
    refine yq9 6 (by simp [obC, rdC, strB, d1]; rfl) rfl ?_
    refine yq9 6 (by simp [obC, rdC, strB, d1]; rfl) rfl ?_
    refine yq9 6 (by simp [obC, rdC, strB, d1]; rfl) rfl ?_
    refine yw9 (by simp [obC, rdC, strB, d1]; rfl) ?_
    refine ys9 rfl (fun h => ?_) (fun h => by simp at h)
    refine yt9 [2] (by simp; rfl) ?_
    refine zq9 ?_
    repeat (first | refine yg9 ?_ | refine yh9 ?_)
    have hch : chkM o = false := by
     rw [hmod, hall]
     simp [Bool.not_true, d1]
    simp [retQ, hch]
   by_cases d2 : 4 < x.len
   ·refine W_rK [1, 5, 111] ?_
    refine yq9 6 (by simp [obC, rdC, strB, d1, d2]; rfl) rfl ?_
    refine yq9 6 (by simp [obC, rdC, strB, d1, d2]; rfl) rfl ?_
    refine yq9 6 (by simp [obC, rdC, strB, d1, d2]; rfl) rfl ?_
    refine yq9 6 (by simp [obC, rdC, strB, d1, d2]; rfl) rfl ?_
    refine yw9 (by simp [obC, rdC, strB, d1, d2]; rfl) ?_
    refine ys9 rfl (fun h => ?_) (fun h => by simp at h)
    refine yt9 [2] (by simp; rfl) ?_
    refine zq9 ?_
    repeat (first | refine yg9 ?_ | refine yh9 ?_)
    have hch : chkM o = false := by
     rw [hmod, hall]
     simp [Bool.not_true, d1, d2]
    simp [retQ, hch]
   by_cases lv : vr8 S x.in_ x.addr x.len = true
   ·have lvt : vr8 S x.in_ x.addr x.len = true := lv
    by_cases tg1 : tg = true
    ·have tgt : tg = true := tg1
     refine W_rK [1, 5, 111] ?_
     refine yq9 6 (by simp [obC, rdC, strB, d1, d2, lvt, tgt]; rfl) rfl ?_
     refine yq9 6 (by simp [obC, rdC, strB, d1, d2, lvt, tgt]; rfl) rfl ?_
     refine yq9 4 (by simp [obC, rdC, strB, d1, d2, lvt, tgt]; rfl) rfl ?_
     refine yj9 (by simp) (by first | (simp; done) | (simp; rfl) | (simp [obC, rdC, strB, d1, d2, lvt, tgt]; done) | (simp [obC, rdC, strB, d1, d2, lvt, tgt]; rfl)) hlies (by simp; rfl) ?_
     refine yq9 6 (by simp [obC, rdC, strB, d1, d2, lvt, tgt]; rfl) rfl ?_
     refine yj9 (by simp) (by first | (simp; done) | (simp; rfl) | (simp [obC, rdC, strB, d1, d2, lvt, tgt]; done) | (simp [obC, rdC, strB, d1, d2, lvt, tgt]; rfl)) htg (by simp; rfl) ?_
     refine yw9 (by simp [obC, rdC, strB, d1, d2, lvt, tgt]; rfl) ?_
     refine ys9 rfl (fun h => by simp at h) (fun h => ?_)
     refine yk9 ?_
     refine ym9 [1, 5] ?_
     refine xk9 1 (Nat.zero_le _) (by simp) (by simp [yb9, AV.under, AV.underL]) (by simp [yl9, AObj.under, zw9, obC, AV.underL, AV.under, strB]) ?_
     refine zd9 [1, 5] (by simp [wi]; rfl) ?_
     exact ⟨_, by omega, i + 1, rfl, by omega, by rw [hall]; simp [Bool.not_true, d1, d2, lvt, tgt], by simp [obC, strB]⟩
    have tgf : tg = false := by simpa using tg1
    refine W_rK [1, 5, 111] ?_
    refine yq9 6 (by simp [obC, rdC, strB, d1, d2, lvt, tgf]; rfl) rfl ?_
    refine yq9 6 (by simp [obC, rdC, strB, d1, d2, lvt, tgf]; rfl) rfl ?_
    refine yq9 4 (by simp [obC, rdC, strB, d1, d2, lvt, tgf]; rfl) rfl ?_
    refine yj9 (by simp) (by first | (simp; done) | (simp; rfl) | (simp [obC, rdC, strB, d1, d2, lvt, tgf]; done) | (simp [obC, rdC, strB, d1, d2, lvt, tgf]; rfl)) hlies (by simp; rfl) ?_
    refine yq9 6 (by simp [obC, rdC, strB, d1, d2, lvt, tgf]; rfl) rfl ?_
    refine yj9 (by simp) (by first | (simp; done) | (simp; rfl) | (simp [obC, rdC, strB, d1, d2, lvt, tgf]; done) | (simp [obC, rdC, strB, d1, d2, lvt, tgf]; rfl)) htg (by simp; rfl) ?_
    refine yw9 (by simp [obC, rdC, strB, d1, d2, lvt, tgf]; rfl) ?_
    refine ys9 rfl (fun h => ?_) (fun h => by simp at h)
    refine yt9 [2] (by simp; rfl) ?_
    refine zq9 ?_
    repeat (first | refine yg9 ?_ | refine yh9 ?_)
    have hch : chkM o = false := by
     rw [hmod, hall]
     simp [Bool.not_true, d1, d2, lvt, tgf]
    simp [retQ, hch]
   have lvf : vr8 S x.in_ x.addr x.len = false := by simpa using lv
   refine W_rK [1, 5, 111] ?_
   refine yq9 6 (by simp [obC, rdC, strB, d1, d2, lvf]; rfl) rfl ?_
   refine yq9 6 (by simp [obC, rdC, strB, d1, d2, lvf]; rfl) rfl ?_
   refine yq9 4 (by simp [obC, rdC, strB, d1, d2, lvf]; rfl) rfl ?_
   refine yj9 (by simp) (by first | (simp; done) | (simp; rfl) | (simp [obC, rdC, strB, d1, d2, lvf]; done) | (simp [obC, rdC, strB, d1, d2, lvf]; rfl)) hlies (by simp; rfl) ?_
   refine yq9 6 (by simp [obC, rdC, strB, d1, d2, lvf]; rfl) rfl ?_
   refine yw9 (by simp [obC, rdC, strB, d1, d2, lvf]; rfl) ?_
   refine ys9 rfl (fun h => ?_) (fun h => by simp at h)
   refine yt9 [2] (by simp; rfl) ?_
   refine zq9 ?_
   repeat (first | refine yg9 ?_ | refine yh9 ?_)
   have hch : chkM o = false := by
    rw [hmod, hall]
    simp [Bool.not_true, d1, d2, lvf]
   simp [retQ, hch]
  have hie : i = o.rld.length := by omega
  have cn : ¬ ((i : Int) < o.rld.length) := by omega
  rw [hie, List.drop_length, List.all_nil] at hall
  refine yt9 [1, 5, 78] (by simp [obC, cn]; rfl) ?_
  refine ys9 rfl (fun h => by simp [hie] at h) (fun h => ?_)
  refine ym9 [1] ?_
  refine zc9 ?_
  exact ⟨hall, by simp [obC, strB]⟩
 rintro _ ⟨hrall, rfl⟩
 refine yt9 [2] (by simp; rfl) ?_
 refine zq9 ?_
 repeat (first | refine yg9 ?_ | refine yh9 ?_)
 simp [retQ, hmod, hrall]
end Go.AM
namespace Go.AM
open Go.RowKit Go.Proofs
set_option linter.unusedSimpArgs false
set_option linter.unusedVariables false
set_option maxHeartbeats 8000000
def yb8 (t : Txt) : List UInt8 := putM (putM (putM (putM (vh9 nmTXT) 5 (numM 3 t.addr.toNat)) 10 (numM 2 t.data.length)) 14 (numM 2 t.id.toNat)) 16 t.data
def cardN (e : List UInt8) : List UInt8 := putM (vh9 nmEND) 16 (xr9 e)
def egoE (l : List Esd) : Nat → Nat → List (List UInt8)
 | 0, _ => []
 | f + 1, i => if i < l.length then zt8 ((l.drop i).take 3) :: egoE l f (i + 3) else []
def egoR (l : List Rld) : Nat → Nat → List (List UInt8)
 | 0, _ => []
 | f + 1, i => if i < l.length then cardR ((l.drop i).take 7) :: egoR l f (i + 7) else []
theorem egoE_end {l : List Esd} : ∀ (f i : Nat), l.length ≤ i → egoE l f i = []
 | 0, i, h => rfl
 | f + 1, i, h => by rw [egoE, if_neg (by omega)]
theorem egoR_end {l : List Rld} : ∀ (f i : Nat), l.length ≤ i → egoR l f i = []
 | 0, i, h => rfl
 | f + 1, i, h => by rw [egoR, if_neg (by omega)]
def encO (o : OMod) : List (List UInt8) := egoE o.esd o.esd.length 0 ++ (o.txt.map yb8 ++ (egoR o.rld o.rld.length 0 ++ [cardN o.entry]))
def encOR (o : OMod) : AV := if chkM o = true then .tup [.lst .any 1 (bbL (encO o)), .v (.int .i64 0)] else .tup [.lst .nil 1 [], .v (.int .i64 310)]
theorem esL_take (l : List Esd) (n : Nat) : esL (l.take n) = (esL l).take n := by simp [esL]
theorem esL_drop (l : List Esd) (n : Nat) : esL (l.drop n) = (esL l).drop n := by simp [esL]
theorem rdL_take (l : List Rld) (n : Nat) : rdL (l.take n) = (rdL l).take n := by simp [rdL]
theorem rdL_drop (l : List Rld) (n : Nat) : rdL (l.drop n) = (rdL l).drop n := by simp [rdL]
theorem esd_all (o : OMod) (hk : OOk o) (R0 R1 : List (List UInt8)) (hR1 : R0 ++ egoE o.esd o.esd.length 0 = R1) (hR0 : R0.length ≤ 6000) (h00 : R0 = []) :
  wq9 Try.prog 81 [.yld 4, .loc 2 0, .loc 3 0] [.cells 26 (obC o), .cells 47 [.lst (.nil) 1 (bbL (R0))], .cells 22 [.lst .any 5 (esL o.esd)], .cells 3 [.v (.int .i64 (3 : Nat))], .loop 176 [(1, .loc 0 0), (4, .loc 1 0), (30, .fn (.func 81) [] [.loc 2 0, .loc 3 0])] [31, 32] (rfAn Try.f19 0) (rfBn Try.f19 0) .ready] (fun _ h' => R1.length ≤ R0.length + 3000 ∧ h' = [.cells 26 (obC o), .cells 47 [.lst (.tip 27 147) 1 (bbL (R1))], .cells 22 [.lst .any 5 (esL o.esd)], .cells 3 [.v (.int .i64 (3 : Nat))], .loop 176 [(1, .loc 0 0), (4, .loc 1 0), (30, .fn (.func 81) [] [.loc 2 0, .loc 3 0])] [31, 32] (rfAn Try.f19 0) (rfBn Try.f19 0) .ready]) := by
 have hll := hk.l1
 refine zb9 Try.func81 rfl (by decide +kernel) (by simp [Try.f81]) (rs := []) rfl ?_
 rw [show Try.f81.ntmps = 25 from rfl]
 refine yt9 [0, 1, 2, 4] (by simp; rfl) ?_
 refine yp9 ?_
 refine zn9 (fun k σ => ∃ (i f : Nat) (acc : List (List UInt8)) (fl : Fl), k = o.esd.length - i ∧ o.esd.length ≤ i + f ∧ i ≤ o.esd.length + 3 ∧ acc ++ egoE o.esd f i = R1 ∧ acc.length ≤ R0.length + i ∧ ((i = 0 ∧ fl = .nil ∧ acc = []) ∨ (0 < i ∧ fl = .tip 27 147)) ∧ σ = ⟨25, [(0, .yld 4), (1, .loc 2 0), (2, .loc 3 0), (4, .v (.int .i64 (i : Nat)))], [.cells 26 (obC o), .cells 47 [.lst (fl) 1 (bbL (acc))], .cells 22 [.lst .any 5 (esL o.esd)], .cells 3 [.v (.int .i64 (3 : Nat))], .loop 176 [(1, .loc 0 0), (4, .loc 1 0), (30, .fn (.func 81) [] [.loc 2 0, .loc 3 0])] [31, 32] (rfAn Try.f19 0) (rfBn Try.f19 0) .ready]⟩) (k := o.esd.length) ⟨0, o.esd.length, R0, .nil, rfl, by omega, by omega, hR1, by simp, .inl ⟨rfl, rfl, h00⟩, ?_⟩ ?_
 ·simp
 rintro k σ ⟨i, f, acc, fl, rfl, hf, hi, hgo, hal, hfl, rfl⟩
 refine yc9 ?_
 by_cases c : i < o.esd.length
 ·have ci : (i : Int) < o.esd.length := by omega
  have wi := w64 (n := (i : Int) + 3) (by omega) (by omega)
  cases f with
  | zero => omega
  | succ f =>
  rw [egoE, if_pos c] at hgo
  obtain ⟨e, he⟩ : ∃ e, min (i + 3) o.esd.length = e := ⟨_, rfl⟩
  have hmin : (if (o.esd.length : Int) < (i : Int) + 3 then (o.esd.length : Int) else (i : Int) + 3) = (e : Nat) := by split <;> omega
  have hdt : (o.esd.take e).drop i = (o.esd.drop i).take 3 := by rw [← he]; exact dropmin _ _ _
  have e1 : i ≤ e := by omega
  have e2 : e ≤ o.esd.length := by omega
  have e1' : (i : Int) ≤ (e : Nat) := by omega
  have e2' : ((e : Nat) : Int) ≤ o.esd.length := by omega
  obtain ⟨G, hG⟩ : ∃ G, (o.esd.drop i).take 3 = G := ⟨_, rfl⟩
  have hGl : G.length ≤ 3 := by rw [← hG, List.length_take]; omega
  have hGm : ∀ x ∈ G, EOk x := fun x hx => hk.es x (by rw [← hG] at hx; exact List.mem_of_mem_drop (List.mem_of_mem_take hx))
  rw [hG] at hdt hgo
  rcases hfl with ⟨hi0, rfl, rfl⟩ | ⟨_, rfl⟩
  ·refine yt9 [0, 1, 2, 4, 8] (by simp [c]; rfl) ?_
   refine ys9 rfl (fun h => ?_) (fun h => by simp [c] at h)
   refine yk9 ?_
   refine yc9 ?_
   refine yp9 ?_
   refine W_rK [0, 1, 2, 4, 24] ?_
   refine yq9 6 (by simp [wi]; rfl) rfl ?_
   refine yq9 4 (by simp [wi, hmin]; rfl) rfl ?_
   refine yq9 1 (by simp [e1, e2, e1', e2']; rfl) rfl ?_
   rw [← esL_take, ← esL_drop, hdt]
   refine runA_y (by simp) ?_
   unfold callY
   dsimp only
   refine ⟨4, 176, _, _, _, _, [.v (.int .i64 (i : Nat)), .lst .any 5 (esL G)], by simp, rfl, by simp, by simp, by simp, by simp, ?_⟩
   refine (show Wt _ _ _ _ _ _ from ?_)
   refine zd9 [1, 4, 6] (by simp [setF]; rfl) ?_
   refine ⟨rfl, _, _, _, _, _, rfl, ?_⟩
   refine esd_round (by simp) o o.esd G hGl hGm [] (by simp) .nil (.inl ⟨rfl, rfl⟩) fun X Y => ?_
   refine ⟨176, _, _, _, _, .ready, true, 5, rfl, rfl, by simp, by simp, ?_, ?_⟩
   ·simp [yl9, yb9, AObj.under, AV.under, AV.underL, zw9]
   refine ⟨_, by simp; rfl, ?_⟩
   refine yw9 (by simp; rfl) ?_
   refine ys9 rfl (fun h => by simp at h) (fun h => ?_)
   refine yk9 ?_
   refine zd9 [0, 1, 2, 4] (by simp [wi]; rfl) ?_
   refine ⟨_, by omega, i + 3, f, [] ++ [zt8 G], .tip 27 147, rfl, by omega, by omega, by simpa using hgo, by simp; omega, .inr ⟨by omega, rfl⟩, by simp⟩
  ·refine yt9 [0, 1, 2, 4, 8] (by simp [c]; rfl) ?_
   refine ys9 rfl (fun h => ?_) (fun h => by simp [c] at h)
   refine yk9 ?_
   refine yc9 ?_
   refine yp9 ?_
   refine W_rK [0, 1, 2, 4, 24] ?_
   refine yq9 6 (by simp [wi]; rfl) rfl ?_
   refine yq9 4 (by simp [wi, hmin]; rfl) rfl ?_
   refine yq9 1 (by simp [e1, e2, e1', e2']; rfl) rfl ?_
   rw [← esL_take, ← esL_drop, hdt]
   refine runA_y (by simp) ?_
   unfold callY
   dsimp only
   refine ⟨4, 176, _, _, _, _, [.v (.int .i64 (i : Nat)), .lst .any 5 (esL G)], by simp, rfl, by simp, by simp, by simp, by simp, ?_⟩
   refine (show Wt _ _ _ _ _ _ from ?_)
   refine zd9 [1, 4, 6] (by simp [setF]; rfl) ?_
   refine ⟨rfl, _, _, _, _, _, rfl, ?_⟩
   refine esd_round (by simp) o o.esd G hGl hGm acc (by omega) _ (.inr rfl) fun X Y => ?_
   refine ⟨176, _, _, _, _, .ready, true, 5, rfl, rfl, by simp, by simp, ?_, ?_⟩
   ·simp [yl9, yb9, AObj.under, AV.under, AV.underL, zw9]
   refine ⟨_, by simp; rfl, ?_⟩
   refine yw9 (by simp; rfl) ?_
   refine ys9 rfl (fun h => by simp at h) (fun h => ?_)
   refine yk9 ?_
   refine zd9 [0, 1, 2, 4] (by simp [wi]; rfl) ?_
   refine ⟨_, by omega, i + 3, f, acc ++ [zt8 G], .tip 27 147, rfl, by omega, by omega, by simpa using hgo, by simp; omega, .inr ⟨by omega, rfl⟩, by simp⟩
 rcases hfl with ⟨hi0, _, _⟩ | ⟨_, rfl⟩
 ·exact absurd (List.eq_nil_of_length_eq_zero (by omega)) hk.ne
 rw [egoE_end _ _ (by omega), List.append_nil] at hgo
 subst hgo
 refine yt9 [0, 1, 2, 4, 8] (by simp [c]; rfl) ?_
 refine ys9 rfl (fun h => by simp [c] at h) (fun h => ?_)
 refine zc9 ?_
 refine ⟨.inl rfl, .tup [], .tup [], _, 5, rfl, .inl ⟨rfl, rfl⟩, by simp, by simp, rfl, ?_, ?_⟩
 ·simp [yl9, yb9, AObj.under, AV.under, AV.underL, zw9]
 ·exact ⟨by omega, by simp⟩
theorem rld_all (o : OMod) (hk : OOk o) (R0 R1 : List (List UInt8)) (hR1 : R0 ++ egoR o.rld o.rld.length 0 = R1) (hR0 : R0.length ≤ 6000) :
  wq9 Try.prog 84 [.yld 4, .loc 2 0, .loc 3 0] [.cells 26 (obC o), .cells 47 [.lst (.tip 27 147) 1 (bbL (R0))], .cells 24 [.lst .any 5 (rdL o.rld)], .cells 3 [.v (.int .i64 (7 : Nat))], .loop 176 [(1, .loc 0 0), (4, .loc 1 0), (112, .fn (.func 84) [] [.loc 2 0, .loc 3 0])] [113, 114] (rfAn Try.f19 1) (rfBn Try.f19 1) .ready] (fun _ h' => R1.length ≤ R0.length + 3000 ∧ h' = [.cells 26 (obC o), .cells 47 [.lst (.tip 27 147) 1 (bbL (R1))], .cells 24 [.lst .any 5 (rdL o.rld)], .cells 3 [.v (.int .i64 (7 : Nat))], .loop 176 [(1, .loc 0 0), (4, .loc 1 0), (112, .fn (.func 84) [] [.loc 2 0, .loc 3 0])] [113, 114] (rfAn Try.f19 1) (rfBn Try.f19 1) .ready]) := by
 have hll := hk.l3
 refine zb9 Try.func84 rfl (by decide +kernel) (by simp [Try.f84]) (rs := []) rfl ?_
 rw [show Try.f84.ntmps = 25 from rfl]
 refine yt9 [0, 1, 2, 4] (by simp; rfl) ?_
 refine yp9 ?_
 refine zn9 (fun k σ => ∃ (i f : Nat) (acc : List (List UInt8)), k = o.rld.length - i ∧ o.rld.length ≤ i + f ∧ i ≤ o.rld.length + 7 ∧ acc ++ egoR o.rld f i = R1 ∧ acc.length ≤ R0.length + i ∧ σ = ⟨25, [(0, .yld 4), (1, .loc 2 0), (2, .loc 3 0), (4, .v (.int .i64 (i : Nat)))], [.cells 26 (obC o), .cells 47 [.lst (.tip 27 147) 1 (bbL (acc))], .cells 24 [.lst .any 5 (rdL o.rld)], .cells 3 [.v (.int .i64 (7 : Nat))], .loop 176 [(1, .loc 0 0), (4, .loc 1 0), (112, .fn (.func 84) [] [.loc 2 0, .loc 3 0])] [113, 114] (rfAn Try.f19 1) (rfBn Try.f19 1) .ready]⟩) (k := o.rld.length) ⟨0, o.rld.length, R0, rfl, by omega, by omega, hR1, by simp, ?_⟩ ?_
 ·simp
 rintro k σ ⟨i, f, acc, rfl, hf, hi, hgo, hal, rfl⟩
 refine yc9 ?_
 by_cases c : i < o.rld.length
 ·have ci : (i : Int) < o.rld.length := by omega
  have wi := w64 (n := (i : Int) + 7) (by omega) (by omega)
  cases f with
  | zero => omega
  | succ f =>
  rw [egoR, if_pos c] at hgo
  obtain ⟨e, he⟩ : ∃ e, min (i + 7) o.rld.length = e := ⟨_, rfl⟩
  have hmin : (if (o.rld.length : Int) < (i : Int) + 7 then (o.rld.length : Int) else (i : Int) + 7) = (e : Nat) := by split <;> omega
  have hdt : (o.rld.take e).drop i = (o.rld.drop i).take 7 := by rw [← he]; exact dropmin _ _ _
  have e1 : i ≤ e := by omega
  have e2 : e ≤ o.rld.length := by omega
  have e1' : (i : Int) ≤ (e : Nat) := by omega
  have e2' : ((e : Nat) : Int) ≤ o.rld.length := by omega
  obtain ⟨G, hG⟩ : ∃ G, (o.rld.drop i).take 7 = G := ⟨_, rfl⟩
  have hGl : G.length ≤ 7 := by rw [← hG, List.length_take]; omega
  have hGm : ∀ x ∈ G, ROk x := fun x hx => hk.rs x (by rw [← hG] at hx; exact List.mem_of_mem_drop (List.mem_of_mem_take hx))
  rw [hG] at hdt hgo
  refine yt9 [0, 1, 2, 4, 8] (by simp [c]; rfl) ?_
  refine ys9 rfl (fun h => ?_) (fun h => by simp [c] at h)
  refine yk9 ?_
  refine yc9 ?_
  refine yp9 ?_
  refine W_rK [0, 1, 2, 4, 24] ?_
  refine yq9 6 (by simp [wi]; rfl) rfl ?_
  refine yq9 4 (by simp [wi, hmin]; rfl) rfl ?_
  refine yq9 1 (by simp [e1, e2, e1', e2']; rfl) rfl ?_
  rw [← rdL_take, ← rdL_drop, hdt]
  refine runA_y (by simp) ?_
  unfold callY
  dsimp only
  refine ⟨4, 176, _, _, _, _, [.v (.int .i64 (i : Nat)), .lst .any 5 (rdL G)], by simp, rfl, by simp, by simp, by simp, by simp, ?_⟩
  refine (show Wt _ _ _ _ _ _ from ?_)
  refine zd9 [1, 4, 17] (by simp [setF]; rfl) ?_
  refine ⟨rfl, _, _, _, _, _, rfl, ?_⟩
  refine rld_round (by simp) o o.rld G hGl hGm acc (by omega)  fun X Y => ?_
  refine ⟨176, _, _, _, _, .ready, true, 5, rfl, rfl, by simp, by simp, ?_, ?_⟩
  ·simp [yl9, yb9, AObj.under, AV.under, AV.underL, zw9]
  refine ⟨_, by simp; rfl, ?_⟩
  refine yw9 (by simp; rfl) ?_
  refine ys9 rfl (fun h => by simp at h) (fun h => ?_)
  refine yk9 ?_
  refine zd9 [0, 1, 2, 4] (by simp [wi]; rfl) ?_
  refine ⟨_, by omega, i + 7, f, acc ++ [cardR G], rfl, by omega, by omega, by simpa using hgo, by simp; omega, by simp⟩
 rw [egoR_end _ _ (by omega), List.append_nil] at hgo
 subst hgo
 refine yt9 [0, 1, 2, 4, 8] (by simp [c]; rfl) ?_
 refine ys9 rfl (fun h => by simp [c] at h) (fun h => ?_)
 refine zc9 ?_
 refine ⟨.inl rfl, .tup [], .tup [], _, 5, rfl, .inl ⟨rfl, rfl⟩, by simp, by simp, rfl, ?_, ?_⟩
 ·simp [yl9, yb9, AObj.under, AV.under, AV.underL, zw9]
 ·exact ⟨by omega, by simp⟩
end Go.AM
