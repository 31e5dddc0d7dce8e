/- Parts of the walk: C31ED C31OB C31EE C31DA C31DB C31DC. -/
import Derived.Test.YtlhaljblcimnbaaG6
namespace Go.AM
open Go.RowKit Go.Proofs
set_option linter.unusedSimpArgs false
set_option linter.unusedVariables false
set_option maxHeartbeats 4000000
theorem codeL_len (s : List UInt8) : (yw8 s).length ≤ s.length := by
 unfold yw8 encM
 split
 ·simp [enc1]
 ·simp
theorem symM_len {s : List UInt8} (h : symM s = true) : s.length ≤ 8 := by
 simp only [symM, Bool.and_eq_true, decide_eq_true_eq] at h
 exact h.2.1
def EV (x : Esd) : Prop := x.name.length ≤ 8 ∧ ((x.kind ≠ 2 ∧ 1 ≤ x.id ∧ x.id ≤ 3000 ∧ 0 ≤ x.addr ∧ x.addr ≤ 65536 ∧ 0 ≤ x.len ∧ x.len ≤ 65536) ∨ (x.kind = 2 ∧ x.len = 0))
theorem ruleM_EV {nx : Int} {x : Esd} (h : yr7 nx x = true) (h1 : 1 ≤ nx) (h2 : nx ≤ 3000) : EV x := by
 unfold yr7 at h
 split at h
 ·rename_i hk
  simp only [rule1, Bool.and_eq_true, Bool.or_eq_true, decide_eq_true_eq] at h
  obtain ⟨a1, a2, a3, a4, a5, a6⟩ := h
  refine ⟨?_, .inl ⟨by omega, by omega, by omega, a2, a4, a3, by omega⟩⟩
  rcases a6 with h | h
  ·simp [h]
  ·exact symM_len h
 ·split at h
  ·rename_i hk
   simp only [rule2, Bool.and_eq_true, decide_eq_true_eq] at h
   exact ⟨symM_len h.2, .inr ⟨hk, h.1⟩⟩
  ·split at h
   ·rename_i hk
    simp only [rule3, Bool.and_eq_true, decide_eq_true_eq] at h
    obtain ⟨a1, a2, a3, a4⟩ := h
    exact ⟨symM_len a4, .inl ⟨by omega, by omega, by omega, by omega, by omega, by omega, by omega⟩⟩
   ·cases h
theorem getN_updN (s t : List UInt8) (k : Int) : ∀ N : List (List UInt8 × Int), getN s (updN t k N) = if s = t then some k else getN s N
 | [] => by simp only [updN, getN]
 | (u, m) :: N => by
  simp only [updN]
  by_cases h : t = u
  ·subst h
   rw [if_pos rfl]
   simp only [getN]
   by_cases h2 : s = t <;> simp [h2]
  ·rw [if_neg h]
   simp only [getN, getN_updN s t k N]
   by_cases h2 : s = u
   ·subst h2
    rw [if_pos rfl, if_neg (fun e => h e.symm), if_pos rfl]
   ·rw [if_neg h2]
    by_cases h3 : s = t <;> simp [h3, h2]
theorem esdGo_inv : ∀ (l : List Esd) (S S' : List (Int × Esd)) (N N' : List (List UInt8 × Int)) (nx nx' : Int), yh8 l S N nx = some (S', N', nx') → 1 ≤ nx → nx + l.length ≤ 3000 → SOk S → (∀ i y, getS i S = some y → 1 ≤ i ∧ i ≤ 3000) → (∀ s k, getN s N = some k → s.length ≤ 8) →
  SOk S' ∧ (∀ i y, getS i S' = some y → 1 ≤ i ∧ i ≤ 3000) ∧ (∀ s k, getN s N' = some k → s.length ≤ 8) ∧ nx ≤ nx' ∧ nx' ≤ nx + l.length ∧ ∀ x ∈ l, EV x
 | [], S, S', N, N', nx, nx', h, h1, h2, hS, hi, hn => by
  simp only [yh8, Option.some.injEq, Prod.mk.injEq] at h
  obtain ⟨rfl, rfl, rfl⟩ := h
  exact ⟨hS, hi, hn, by omega, by simp, by simp⟩
 | x :: l, S, S', N, N', nx, nx', h, h1, h2, hS, hi, hn => by
  rw [yh8] at h
  simp only [List.length_cons] at h2
  split at h
  ·rename_i hr
   split at h
   ·cases h
   ·have hev := ruleM_EV hr h1 (by omega)
    have hbd : nx ≤ nx1 nx x ∧ nx1 nx x ≤ nx + 1 := by unfold nx1; split <;> omega
    have := esdGo_inv l (S1 S x) S' (N1 N x) N' (nx1 nx x) nx' h (by omega) (by omega) (SOk_S1 hS hr) (fun i y hy => by
     unfold S1 at hy
     split at hy
     ·rename_i hk
      rw [getS_updS] at hy
      split at hy
      ·rename_i he
       rcases hev.2 with ⟨_, a1, a2, _⟩ | ⟨a, _⟩
       ·omega
       ·omega
      ·exact hi i y hy
     ·exact hi i y hy) (fun s k hs => by
     unfold N1 at hs
     rw [getN_updN] at hs
     split at hs
     ·rename_i he
      rw [he]; exact hev.1
     ·exact hn s k hs)
    obtain ⟨b1, b2, b3, b4, b5, b6⟩ := this
    refine ⟨b1, b2, b3, by omega, by simp only [List.length_cons]; omega, ?_⟩
    intro y hy
    rcases List.mem_cons.1 hy with rfl | hy
    ·exact hev
    ·exact b6 y hy
  ·cases h
structure OOk (o : OMod) : Prop where
 es : ∀ x ∈ o.esd, EOk x
 ts : ∀ t ∈ o.txt, 0 ≤ t.id ∧ t.id ≤ 1000000 ∧ 0 ≤ t.addr ∧ t.addr ≤ 1000000 ∧ 1 ≤ t.data.length ∧ t.data.length ≤ 56
 rs : ∀ r ∈ o.rld, ROk r
 en : o.entry.length ≤ 8
 ne : o.esd ≠ []
 l1 : o.esd.length ≤ 2048
 l2 : o.txt.length ≤ 2048
 l3 : o.rld.length ≤ 2048
theorem liesM_inv {S : List (Int × Esd)} {id at_ n : Int} (h : liesM S id at_ n = true) (hS : SOk S) (hi : ∀ i y, getS i S = some y → 1 ≤ i ∧ i ≤ 3000) : 1 ≤ id ∧ id ≤ 3000 ∧ 0 ≤ at_ ∧ at_ ≤ 200000 := by
 unfold liesM at h
 split at h
 ·rename_i x hx
  simp only [liesX, Bool.and_eq_true, decide_eq_true_eq] at h
  have h1 := hS id x hx
  have h2 := hi id x hx
  omega
 ·cases h
theorem chkM_ok {o : OMod} (h : chkM o = true) : OOk o := by
 unfold chkM at h
 simp only [Bool.and_eq_true, Bool.not_eq_true'] at h
 obtain ⟨hbig, hB, hR⟩ := h
 simp only [bigB, Bool.or_eq_false_iff, decide_eq_false_iff_not] at hbig
 obtain ⟨l1, l2, l3⟩ := hbig
 cases hg : yh8 o.esd [] [] 1 with
 | none => rw [hg] at hR; cases hR
 | some g =>
  obtain ⟨S, N, nx⟩ := g
  rw [hg] at hR hB
  have hinv := esdGo_inv o.esd [] S [] N 1 nx hg (by omega) (by omega) (fun i x h => by simp [getS] at h) (fun i y h => by simp [getS] at h) (fun s k h => by simp [getN] at h)
  obtain ⟨hS, hi, hn, n1, n2, hev⟩ := hinv
  simp only [restM, Bool.and_eq_true, Bool.not_eq_true', List.all_eq_true] at hR
  obtain ⟨hT, hRl, hE⟩ := hR
  simp only [esdB, Bool.and_eq_true, List.all_eq_true, decide_eq_true_eq] at hB
  obtain ⟨hent, hpos⟩ := hB
  refine ⟨fun x hx => ?_, fun t ht => ?_, fun r hr => ?_, ?_, ?_, by omega, by omega, by omega⟩
  ·obtain ⟨e1, e2⟩ := hev x hx
   have hc := codeL_len x.name
   rcases e2 with ⟨_, a1, a2, a3, a4, a5, a6⟩ | ⟨hk, hl⟩
   ·exact ⟨by omega, by omega, by omega, by omega, by omega, by omega, by omega, by omega⟩
   ·have he := hent x hx
    simp only [ent1, hk, Bool.or_eq_true, Bool.not_eq_true', decide_eq_false_iff_not] at he
    rcases he with he | he
    ·simp at he
    ·have := liesM_inv he hS hi
     exact ⟨by omega, by omega, by omega, by omega, by omega, by omega, by omega, by omega⟩
  ·have h1 := hT t ht
   simp only [txB, Bool.or_eq_false_iff, decide_eq_false_iff_not, Bool.not_eq_false'] at h1
   obtain ⟨a1, a2, a3⟩ := h1
   have := liesM_inv a3 hS hi
   exact ⟨by omega, by omega, by omega, by omega, by omega, by omega⟩
  ·have h1 := hRl r hr
   simp only [rdB, Bool.or_eq_false_iff, decide_eq_false_iff_not, Bool.not_eq_false'] at h1
   obtain ⟨a1, a2, a3, a4, a5⟩ := h1
   have := liesM_inv a5 hS hi
   exact ⟨by omega, by omega, by omega, by omega, by omega, by omega, by omega, by omega⟩
  ·unfold entB at hE
   by_cases h0 : o.entry = []
   ·simp [h0]
   ·have h0b : (o.entry == []) = false := by simpa using h0
    rw [h0b] at hE
    simp only [Bool.not_false, Bool.true_and, Bool.or_eq_false_iff, Bool.not_eq_false'] at hE
    obtain ⟨k, hk⟩ := Option.isSome_iff_exists.1 hE.1
    exact hn _ _ hk
  ·rintro he
   rw [he] at hg
   simp only [yh8, Option.some.injEq, Prod.mk.injEq] at hg
   rw [← hg.1] at hpos
   simp at hpos
end Go.AM
namespace Go.AM
open Go.RowKit Go.Proofs
set_option linter.unusedSimpArgs false
set_option linter.unusedVariables false
set_option maxHeartbeats 1000000
structure EInv (p : List Esd) (S : List (Int × Esd)) (N : List (List UInt8 × Int)) (nx : Int) : Prop where
 n1 : ∀ s, s ≠ [] → getN s N = (p.find? (fun y => y.name == s)).map (·.kind)
 s1 : ∀ id, getS id S = p.find? (isSec id)
 t1 : ∀ id, p.any (isTg id) = (decide (1 ≤ id) && decide (id < nx))
 u1 : ∀ s, s ≠ [] → p.any (isDf s) = ((p.find? (fun y => y.name == s)).map (fun y => !decide (y.kind = 3))).getD false
 ok : SOk S
 n0 : 1 ≤ nx
theorem EInv.nil : EInv [] [] [] 1 := by
 refine ⟨fun s _ => rfl, fun id => rfl, fun id => ?_, fun s _ => rfl, fun i x h => by simp [getS] at h, by omega⟩
 rw [Bool.eq_iff_iff]
 simp
 try omega
theorem EInv.step {p : List Esd} {S : List (Int × Esd)} {N : List (List UInt8 × Int)} {nx : Int} {x : Esd} (h : EInv p S N nx) (hr : yr7 nx x = true) (hd : dupM N x = false) : EInv (p ++ [x]) (S1 S x) (N1 N x) (nx1 nx x) := by
 have hdn : x.name ≠ [] → p.find? (fun y => y.name == x.name) = none := by
  intro hne
  have h1 := h.n1 x.name hne
  have h2 : getN x.name N = none := by
   unfold dupM at hd
   cases e : getN x.name N with
   | none => rfl
   | some k => rw [e] at hd; simp [hne] at hd
  rw [h2] at h1
  cases e : p.find? (fun y => y.name == x.name) with
  | none => rfl
  | some y => rw [e] at h1; cases h1
 have hkind : x.kind = 1 ∨ x.kind = 2 ∨ x.kind = 3 := by
  unfold yr7 at hr
  split at hr
  ·exact .inl (by assumption)
  ·split at hr
   ·exact .inr (.inl (by assumption))
   ·split at hr
    ·exact .inr (.inr (by assumption))
    ·cases hr
 have hid : x.kind ≠ 2 → x.id = nx := by
  intro h2
  unfold yr7 at hr
  rcases hkind with e | e | e
  ·rw [if_pos e] at hr
   simp only [rule1, Bool.and_eq_true, decide_eq_true_eq] at hr
   exact hr.1
  ·exact absurd e h2
  ·rw [if_neg (by omega), if_neg (by omega), if_pos e] at hr
   simp only [rule3, Bool.and_eq_true, decide_eq_true_eq] at hr
   exact hr.1
 refine ⟨fun s hs => ?_, fun id => ?_, fun id => ?_, fun s hs => ?_, SOk_S1 h.ok hr, ?_⟩
 ·rw [N1, getN_updN, List.find?_append]
  by_cases e : s = x.name
  ·subst e
   rw [if_pos rfl, hdn hs]
   simp [List.find?]
  ·rw [if_neg e, h.n1 s hs]
   have e2 : (x.name == s) = false := by simpa using fun h => e h.symm
   simp [List.find?, e2]
 ·rw [List.find?_append, S1]
  by_cases e : x.kind = 1
  ·rw [if_pos e, getS_updS]
   have hx := hid (by omega)
   by_cases e2 : id = x.id
   ·rw [if_pos e2]
    have h3 : p.find? (isSec id) = none := by
     rw [List.find?_eq_none]
     intro y hy hs
     have h4 := h.t1 id
     have h5 : p.any (isTg id) = true := List.any_eq_true.2 ⟨y, hy, by
      simp only [isSec, Bool.and_eq_true, decide_eq_true_eq] at hs
      simp [isTg, hs.1, hs.2]⟩
     rw [h5] at h4
     have h6 := h4.symm
     simp only [Bool.and_eq_true, decide_eq_true_eq] at h6
     omega
    rw [h3]
    simp [List.find?, isSec, e, e2]
   ·rw [if_neg e2, h.s1 id]
    have : isSec id x = false := by
     have e3 : ¬ x.id = id := fun h => e2 h.symm
     simp [isSec, e3]
    simp [List.find?, this]
  ·rw [if_neg e, h.s1 id]
   have : isSec id x = false := by simp [isSec, e]
   simp [List.find?, this]
 ·rw [List.any_append, h.t1 id, nx1]
  rw [Bool.eq_iff_iff]
  have := h.n0
  by_cases e : x.kind = 2
  ·rw [if_pos e]
   simp [isTg, e]
  ·rw [if_neg e]
   have hx := hid e
   simp [isTg, e, hx]
   omega
 ·rw [List.any_append, List.find?_append, h.u1 s hs]
  by_cases e : s = x.name
  ·subst e
   rw [hdn hs]
   simp [List.find?, isDf]
  ·have e2 : (x.name == s) = false := by simpa using fun h => e h.symm
   simp [List.find?, isDf, e2]
 ·have := h.n0
  rw [nx1]
  split <;> omega
theorem EInv.first {p : List Esd} {S : List (Int × Esd)} {N : List (List UInt8 × Int)} {nx : Int} (h : EInv p S N nx) : (p.find? isS1).isSome = decide (0 < S.length) := by
 cases S with
 | nil =>
  cases e : p.find? isS1 with
  | none => rfl
  | some y =>
   exfalso
   have h1 := h.s1 y.id
   have h2 : (p.find? (isSec y.id)).isSome = true := by
    rw [List.find?_isSome]
    have hy := List.find?_some e
    exact ⟨y, List.mem_of_find?_eq_some e, by simpa [isSec, isS1] using hy⟩
   rw [← h1] at h2
   simp [getS] at h2
 | cons q S =>
  have h1 := h.s1 q.1
  obtain ⟨k, z⟩ := q
  simp only [getS, if_true] at h1
  have h3 := List.find?_some h1.symm
  have h4 := List.mem_of_find?_eq_some h1.symm
  have : (p.find? isS1).isSome = true := by
   rw [List.find?_isSome]
   refine ⟨z, h4, ?_⟩
   simp only [isSec, Bool.and_eq_true] at h3
   exact h3.1
  rw [this]
  simp
theorem EInv.dup {p : List Esd} {S : List (Int × Esd)} {N : List (List UInt8 × Int)} {nx : Int} (h : EInv p S N nx) (x : Esd) : dupM N x = (!decide (x.name = []) && p.any fun y => y.name == x.name) := by
 unfold dupM
 by_cases e : x.name = []
 ·simp [e]
 ·rw [h.n1 _ e]
  have e2 : (x.name == []) = false := by simpa using e
  rw [Option.isSome_map, e2, Bool.not_false, Bool.and_true, decide_eq_false e, Bool.not_false, Bool.true_and]
  rw [Bool.eq_iff_iff, List.find?_isSome, List.any_eq_true]
theorem EInv.entry {p : List Esd} {S : List (Int × Esd)} {N : List (List UInt8 × Int)} {nx : Int} (h : EInv p S N nx) (e : List UInt8) : entB N e = (!decide (e = []) && !(p.any (isDf e))) := by
 unfold entB
 by_cases e0 : e = []
 ·simp [e0]
 ·have e2 : (e == []) = false := by simpa using e0
  rw [h.n1 e e0, h.u1 e e0, e2, decide_eq_false e0]
  cases p.find? (fun y => y.name == e) with
  | none => rfl
  | some y =>
   simp only [Option.map_some, Option.isSome_some, Option.getD_some, Bool.not_false, Bool.true_and, Bool.not_true, Bool.false_or]
   rw [Bool.eq_iff_iff]
   simp
theorem esdGo_EInv : ∀ (l p : List Esd) (S S' : List (Int × Esd)) (N N' : List (List UInt8 × Int)) (nx nx' : Int), EInv p S N nx → yh8 l S N nx = some (S', N', nx') → EInv (p ++ l) S' N' nx'
 | [], p, S, S', N, N', nx, nx', h, hg => by
  simp only [yh8, Option.some.injEq, Prod.mk.injEq] at hg
  obtain ⟨rfl, rfl, rfl⟩ := hg
  simpa using h
 | x :: l, p, S, S', N, N', nx, nx', h, hg => by
  rw [yh8] at hg
  split at hg
  ·split at hg
   ·cases hg
   ·rename_i h1 h2
    have := esdGo_EInv l (p ++ [x]) _ S' _ N' _ nx' (h.step h1 (by simpa using h2)) hg
    simpa using this
  ·cases hg
end Go.AM
namespace Go.AM
open Go.RowKit Go.Proofs
set_option linter.unusedSimpArgs false
set_option linter.unusedVariables false
set_option maxHeartbeats 8000000
def cardT (t : Txt) : List UInt8 := putM (putM (putM (putM (zt7 nmTXT) 5 (numM 3 t.addr.toNat)) 10 (numM 2 t.data.length)) 14 (numM 2 t.id.toNat)) 16 t.data
def cardN (e : List UInt8) : List UInt8 := putM (zt7 nmEND) 16 (yw8 e)
def egoE (l : List Esd) : Nat → Nat → List (List UInt8)
 | 0, _ => []
 | f + 1, i => if i < l.length then cardE ((l.drop i).take 3) :: egoE l f (i + 3) else []
def egoR (l : List Rld) : Nat → Nat → List (List UInt8)
 | 0, _ => []
 | f + 1, i => if i < l.length then cardR ((l.drop i).take 7) :: egoR l f (i + 7) else []
theorem egoE_end {l : List Esd} : ∀ (f i : Nat), l.length ≤ i → egoE l f i = []
 | 0, i, h => rfl
 | f + 1, i, h => by rw [egoE, if_neg (by omega)]
theorem egoR_end {l : List Rld} : ∀ (f i : Nat), l.length ≤ i → egoR l f i = []
 | 0, i, h => rfl
 | f + 1, i, h => by rw [egoR, if_neg (by omega)]
def encO (o : OMod) : List (List UInt8) := egoE o.esd o.esd.length 0 ++ (o.txt.map cardT ++ (egoR o.rld o.rld.length 0 ++ [cardN o.entry]))
def encOR (o : OMod) : AV := if chkM o = true then .tup [.lst .any 1 (bbL (encO o)), .v (.int .i64 0)] else .tup [.lst .nil 1 [], .v (.int .i64 310)]
theorem esL_take (l : List Esd) (n : Nat) : esL (l.take n) = (esL l).take n := by simp [esL]
theorem esL_drop (l : List Esd) (n : Nat) : esL (l.drop n) = (esL l).drop n := by simp [esL]
theorem rdL_take (l : List Rld) (n : Nat) : rdL (l.take n) = (rdL l).take n := by simp [rdL]
theorem rdL_drop (l : List Rld) (n : Nat) : rdL (l.drop n) = (rdL l).drop n := by simp [rdL]
theorem esd_all (o : OMod) (hk : OOk o) (R0 R1 : List (List UInt8)) (hR1 : R0 ++ egoE o.esd o.esd.length 0 = R1) (hR0 : R0.length ≤ 6000) (h00 : R0 = []) :
  xl9 Try.prog 81 [.yld 4, .loc 2 0, .loc 3 0] [.cells 26 (obC o), .cells 47 [.lst (.nil) 1 (bbL (R0))], .cells 22 [.lst .any 5 (esL o.esd)], .cells 3 [.v (.int .i64 (3 : Nat))], .loop 176 [(1, .loc 0 0), (4, .loc 1 0), (30, .fn (.func 81) [] [.loc 2 0, .loc 3 0])] [31, 32] (rfAn Try.f19 0) (rfBn Try.f19 0) .ready] (fun _ h' => R1.length ≤ R0.length + 3000 ∧ h' = [.cells 26 (obC o), .cells 47 [.lst (.tip 27 147) 1 (bbL (R1))], .cells 22 [.lst .any 5 (esL o.esd)], .cells 3 [.v (.int .i64 (3 : Nat))], .loop 176 [(1, .loc 0 0), (4, .loc 1 0), (30, .fn (.func 81) [] [.loc 2 0, .loc 3 0])] [31, 32] (rfAn Try.f19 0) (rfBn Try.f19 0) .ready]) := by
 have hll := hk.l1
 refine zs9 Try.func81 rfl (by decide +kernel) (by simp [Try.f81]) (rs := []) rfl ?_
 rw [show Try.f81.ntmps = 25 from rfl]
 refine yt9 [0, 1, 2, 4] (by simp; rfl) ?_
 refine yg9 ?_
 refine xs9 (fun k σ => ∃ (i f : Nat) (acc : List (List UInt8)) (fl : Fl), k = o.esd.length - i ∧ o.esd.length ≤ i + f ∧ i ≤ o.esd.length + 3 ∧ acc ++ egoE o.esd f i = R1 ∧ acc.length ≤ R0.length + i ∧ ((i = 0 ∧ fl = .nil ∧ acc = []) ∨ (0 < i ∧ fl = .tip 27 147)) ∧ σ = ⟨25, [(0, .yld 4), (1, .loc 2 0), (2, .loc 3 0), (4, .v (.int .i64 (i : Nat)))], [.cells 26 (obC o), .cells 47 [.lst (fl) 1 (bbL (acc))], .cells 22 [.lst .any 5 (esL o.esd)], .cells 3 [.v (.int .i64 (3 : Nat))], .loop 176 [(1, .loc 0 0), (4, .loc 1 0), (30, .fn (.func 81) [] [.loc 2 0, .loc 3 0])] [31, 32] (rfAn Try.f19 0) (rfBn Try.f19 0) .ready]⟩) (k := o.esd.length) ⟨0, o.esd.length, R0, .nil, rfl, by omega, by omega, hR1, by simp, .inl ⟨rfl, rfl, h00⟩, ?_⟩ ?_
 ·simp
 rintro k σ ⟨i, f, acc, fl, rfl, hf, hi, hgo, hal, hfl, rfl⟩
 refine yk9 ?_
 by_cases c : i < o.esd.length
 ·have ci : (i : Int) < o.esd.length := by omega
  have wi := w64 (n := (i : Int) + 3) (by omega) (by omega)
  cases f with
  | zero => omega
  | succ f =>
  rw [egoE, if_pos c] at hgo
  obtain ⟨e, he⟩ : ∃ e, min (i + 3) o.esd.length = e := ⟨_, rfl⟩
  have hmin : (if (o.esd.length : Int) < (i : Int) + 3 then (o.esd.length : Int) else (i : Int) + 3) = (e : Nat) := by split <;> omega
  have hdt : (o.esd.take e).drop i = (o.esd.drop i).take 3 := by rw [← he]; exact dropmin _ _ _
  have e1 : i ≤ e := by omega
  have e2 : e ≤ o.esd.length := by omega
  have e1' : (i : Int) ≤ (e : Nat) := by omega
  have e2' : ((e : Nat) : Int) ≤ o.esd.length := by omega
  obtain ⟨G, hG⟩ : ∃ G, (o.esd.drop i).take 3 = G := ⟨_, rfl⟩
  have hGl : G.length ≤ 3 := by rw [← hG, List.length_take]; omega
  have hGm : ∀ x ∈ G, EOk x := fun x hx => hk.es x (by rw [← hG] at hx; exact List.mem_of_mem_drop (List.mem_of_mem_take hx))
  rw [hG] at hdt hgo
  rcases hfl with ⟨hi0, rfl, rfl⟩ | ⟨_, rfl⟩
  ·refine yt9 [0, 1, 2, 4, 8] (by simp [c]; rfl) ?_
   refine yd9 rfl (fun h => ?_) (fun h => by simp [c] at h)
   refine yc9 ?_
   refine yk9 ?_
   refine yg9 ?_
   refine W_rK [0, 1, 2, 4, 24] ?_
   refine yq9 6 (by simp [wi]; rfl) rfl ?_
   refine yq9 4 (by simp [wi, hmin]; rfl) rfl ?_
   refine yq9 1 (by simp [e1, e2, e1', e2']; rfl) rfl ?_
   rw [← esL_take, ← esL_drop, hdt]
   refine runA_y (by simp) ?_
   unfold callY
   dsimp only
   refine ⟨4, 176, _, _, _, _, [.v (.int .i64 (i : Nat)), .lst .any 5 (esL G)], by simp, rfl, by simp, by simp, by simp, by simp, ?_⟩
   refine (show Wt _ _ _ _ _ _ from ?_)
   refine zl9 [1, 4, 6] (by simp [setF]; rfl) ?_
   refine ⟨rfl, _, _, _, _, _, rfl, ?_⟩
   refine esd_round (by simp) o o.esd G hGl hGm [] (by simp) .nil (.inl ⟨rfl, rfl⟩) fun X Y => ?_
   refine ⟨176, _, _, _, _, .ready, true, 5, rfl, rfl, by simp, by simp, ?_, ?_⟩
   ·simp [ys9, yn9, AObj.under, AV.under, AV.underL, yv9]
   refine ⟨_, by simp; rfl, ?_⟩
   refine yr9 (by simp; rfl) ?_
   refine yd9 rfl (fun h => by simp at h) (fun h => ?_)
   refine yc9 ?_
   refine zl9 [0, 1, 2, 4] (by simp [wi]; rfl) ?_
   refine ⟨_, by omega, i + 3, f, [] ++ [cardE G], .tip 27 147, rfl, by omega, by omega, by simpa using hgo, by simp; omega, .inr ⟨by omega, rfl⟩, by simp⟩
  ·refine yt9 [0, 1, 2, 4, 8] (by simp [c]; rfl) ?_
   refine yd9 rfl (fun h => ?_) (fun h => by simp [c] at h)
   refine yc9 ?_
   refine yk9 ?_
   refine yg9 ?_
   refine W_rK [0, 1, 2, 4, 24] ?_
   refine yq9 6 (by simp [wi]; rfl) rfl ?_
   refine yq9 4 (by simp [wi, hmin]; rfl) rfl ?_
   refine yq9 1 (by simp [e1, e2, e1', e2']; rfl) rfl ?_
   rw [← esL_take, ← esL_drop, hdt]
   refine runA_y (by simp) ?_
   unfold callY
   dsimp only
   refine ⟨4, 176, _, _, _, _, [.v (.int .i64 (i : Nat)), .lst .any 5 (esL G)], by simp, rfl, by simp, by simp, by simp, by simp, ?_⟩
   refine (show Wt _ _ _ _ _ _ from ?_)
   refine zl9 [1, 4, 6] (by simp [setF]; rfl) ?_
   refine ⟨rfl, _, _, _, _, _, rfl, ?_⟩
   refine esd_round (by simp) o o.esd G hGl hGm acc (by omega) _ (.inr rfl) fun X Y => ?_
   refine ⟨176, _, _, _, _, .ready, true, 5, rfl, rfl, by simp, by simp, ?_, ?_⟩
   ·simp [ys9, yn9, AObj.under, AV.under, AV.underL, yv9]
   refine ⟨_, by simp; rfl, ?_⟩
   refine yr9 (by simp; rfl) ?_
   refine yd9 rfl (fun h => by simp at h) (fun h => ?_)
   refine yc9 ?_
   refine zl9 [0, 1, 2, 4] (by simp [wi]; rfl) ?_
   refine ⟨_, by omega, i + 3, f, acc ++ [cardE G], .tip 27 147, rfl, by omega, by omega, by simpa using hgo, by simp; omega, .inr ⟨by omega, rfl⟩, by simp⟩
 rcases hfl with ⟨hi0, _, _⟩ | ⟨_, rfl⟩
 ·exact absurd (List.eq_nil_of_length_eq_zero (by omega)) hk.ne
 rw [egoE_end _ _ (by omega), List.append_nil] at hgo
 subst hgo
 refine yt9 [0, 1, 2, 4, 8] (by simp [c]; rfl) ?_
 refine yd9 rfl (fun h => by simp [c] at h) (fun h => ?_)
 refine xr9 ?_
 refine ⟨.inl rfl, .tup [], .tup [], _, 5, rfl, .inl ⟨rfl, rfl⟩, by simp, by simp, rfl, ?_, ?_⟩
 ·simp [ys9, yn9, AObj.under, AV.under, AV.underL, yv9]
 ·exact ⟨by omega, by simp⟩
theorem rld_all (o : OMod) (hk : OOk o) (R0 R1 : List (List UInt8)) (hR1 : R0 ++ egoR o.rld o.rld.length 0 = R1) (hR0 : R0.length ≤ 6000) :
  xl9 Try.prog 84 [.yld 4, .loc 2 0, .loc 3 0] [.cells 26 (obC o), .cells 47 [.lst (.tip 27 147) 1 (bbL (R0))], .cells 24 [.lst .any 5 (rdL o.rld)], .cells 3 [.v (.int .i64 (7 : Nat))], .loop 176 [(1, .loc 0 0), (4, .loc 1 0), (112, .fn (.func 84) [] [.loc 2 0, .loc 3 0])] [113, 114] (rfAn Try.f19 1) (rfBn Try.f19 1) .ready] (fun _ h' => R1.length ≤ R0.length + 3000 ∧ h' = [.cells 26 (obC o), .cells 47 [.lst (.tip 27 147) 1 (bbL (R1))], .cells 24 [.lst .any 5 (rdL o.rld)], .cells 3 [.v (.int .i64 (7 : Nat))], .loop 176 [(1, .loc 0 0), (4, .loc 1 0), (112, .fn (.func 84) [] [.loc 2 0, .loc 3 0])] [113, 114] (rfAn Try.f19 1) (rfBn Try.f19 1) .ready]) := by
 have hll := hk.l3
 refine zs9 Try.func84 rfl (by decide +kernel) (by simp [Try.f84]) (rs := []) rfl ?_
 rw [show Try.f84.ntmps = 25 from rfl]
 refine yt9 [0, 1, 2, 4] (by simp; rfl) ?_
 refine yg9 ?_
 refine xs9 (fun k σ => ∃ (i f : Nat) (acc : List (List UInt8)), k = o.rld.length - i ∧ o.rld.length ≤ i + f ∧ i ≤ o.rld.length + 7 ∧ acc ++ egoR o.rld f i = R1 ∧ acc.length ≤ R0.length + i ∧ σ = ⟨25, [(0, .yld 4), (1, .loc 2 0), (2, .loc 3 0), (4, .v (.int .i64 (i : Nat)))], [.cells 26 (obC o), .cells 47 [.lst (.tip 27 147) 1 (bbL (acc))], .cells 24 [.lst .any 5 (rdL o.rld)], .cells 3 [.v (.int .i64 (7 : Nat))], .loop 176 [(1, .loc 0 0), (4, .loc 1 0), (112, .fn (.func 84) [] [.loc 2 0, .loc 3 0])] [113, 114] (rfAn Try.f19 1) (rfBn Try.f19 1) .ready]⟩) (k := o.rld.length) ⟨0, o.rld.length, R0, rfl, by omega, by omega, hR1, by simp, ?_⟩ ?_
 ·simp
 rintro k σ ⟨i, f, acc, rfl, hf, hi, hgo, hal, rfl⟩
 refine yk9 ?_
 by_cases c : i < o.rld.length
 ·have ci : (i : Int) < o.rld.length := by omega
  have wi := w64 (n := (i : Int) + 7) (by omega) (by omega)
  cases f with
  | zero => omega
  | succ f =>
  rw [egoR, if_pos c] at hgo
  obtain ⟨e, he⟩ : ∃ e, min (i + 7) o.rld.length = e := ⟨_, rfl⟩
  have hmin : (if (o.rld.length : Int) < (i : Int) + 7 then (o.rld.length : Int) else (i : Int) + 7) = (e : Nat) := by split <;> omega
  have hdt : (o.rld.take e).drop i = (o.rld.drop i).take 7 := by rw [← he]; exact dropmin _ _ _
  have e1 : i ≤ e := by omega
  have e2 : e ≤ o.rld.length := by omega
  have e1' : (i : Int) ≤ (e : Nat) := by omega
  have e2' : ((e : Nat) : Int) ≤ o.rld.length := by omega
  obtain ⟨G, hG⟩ : ∃ G, (o.rld.drop i).take 7 = G := ⟨_, rfl⟩
  have hGl : G.length ≤ 7 := by rw [← hG, List.length_take]; omega
  have hGm : ∀ x ∈ G, ROk x := fun x hx => hk.rs x (by rw [← hG] at hx; exact List.mem_of_mem_drop (List.mem_of_mem_take hx))
  rw [hG] at hdt hgo
  refine yt9 [0, 1, 2, 4, 8] (by simp [c]; rfl) ?_
  refine yd9 rfl (fun h => ?_) (fun h => by simp [c] at h)
  refine yc9 ?_
  refine yk9 ?_
  refine yg9 ?_
  refine W_rK [0, 1, 2, 4, 24] ?_
  refine yq9 6 (by simp [wi]; rfl) rfl ?_
  refine yq9 4 (by simp [wi, hmin]; rfl) rfl ?_
  refine yq9 1 (by simp [e1, e2, e1', e2']; rfl) rfl ?_
  rw [← rdL_take, ← rdL_drop, hdt]
  refine runA_y (by simp) ?_
  unfold callY
  dsimp only
  refine ⟨4, 176, _, _, _, _, [.v (.int .i64 (i : Nat)), .lst .any 5 (rdL G)], by simp, rfl, by simp, by simp, by simp, by simp, ?_⟩
  refine (show Wt _ _ _ _ _ _ from ?_)
  refine zl9 [1, 4, 17] (by simp [setF]; rfl) ?_
  refine ⟨rfl, _, _, _, _, _, rfl, ?_⟩
  refine rld_round (by simp) o o.rld G hGl hGm acc (by omega)  fun X Y => ?_
  refine ⟨176, _, _, _, _, .ready, true, 5, rfl, rfl, by simp, by simp, ?_, ?_⟩
  ·simp [ys9, yn9, AObj.under, AV.under, AV.underL, yv9]
  refine ⟨_, by simp; rfl, ?_⟩
  refine yr9 (by simp; rfl) ?_
  refine yd9 rfl (fun h => by simp at h) (fun h => ?_)
  refine yc9 ?_
  refine zl9 [0, 1, 2, 4] (by simp [wi]; rfl) ?_
  refine ⟨_, by omega, i + 7, f, acc ++ [cardR G], rfl, by omega, by omega, by simpa using hgo, by simp; omega, by simp⟩
 rw [egoR_end _ _ (by omega), List.append_nil] at hgo
 subst hgo
 refine yt9 [0, 1, 2, 4, 8] (by simp [c]; rfl) ?_
 refine yd9 rfl (fun h => by simp [c] at h) (fun h => ?_)
 refine xr9 ?_
 refine ⟨.inl rfl, .tup [], .tup [], _, 5, rfl, .inl ⟨rfl, rfl⟩, by simp, by simp, rfl, ?_, ?_⟩
 ·simp [ys9, yn9, AObj.under, AV.under, AV.underL, yv9]
 ·exact ⟨by omega, by simp⟩
end Go.AM
namespace Go.AM
open Go.RowKit Go.Proofs
set_option linter.unusedSimpArgs false
set_option linter.unusedVariables false
set_option maxHeartbeats 2000000
end Go.AM
namespace Go.AM
open Go.RowKit Go.Proofs
set_option linter.unusedSimpArgs false
set_option linter.unusedVariables false
set_option maxHeartbeats 2000000
def seqE : Int → List Esd → Prop
 | _, [] => True
 | nx, x :: l => (yr7 nx x = true ∧ EOk x) ∧ seqE (nx1 nx x) l
def tOk (t : Txt) : Prop := 0 ≤ t.id ∧ t.id ≤ 60000 ∧ 0 ≤ t.addr ∧ t.addr ≤ 1000000 ∧ 1 ≤ t.data.length ∧ t.data.length ≤ 56
def rOkD (r : Rld) : Prop := 0 ≤ r.to_ ∧ r.to_ ≤ 60000 ∧ 0 ≤ r.in_ ∧ r.in_ ≤ 60000 ∧ 0 ≤ r.addr ∧ r.addr ≤ 1000000 ∧ 1 ≤ r.len ∧ r.len ≤ 4
structure DOk (o : OMod) : Prop where
 es : seqE 1 o.esd
 ts : ∀ t ∈ o.txt, tOk t
 rs : ∀ r ∈ o.rld, rOkD r
 en : o.entry.all okB = true ∧ o.entry.length ≤ 8
end Go.AM
namespace Go.AM
open Go.RowKit Go.Proofs
set_option linter.unusedSimpArgs false
set_option linter.unusedVariables false
set_option maxHeartbeats 8000000
end Go.AM
