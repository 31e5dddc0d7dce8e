/- Parts of the walk: C31Y C31Z. -/
import Derived.Test.YtlhaljblcimnbaaG6
namespace Go.AM
open Go.RowKit Go.Proofs
set_option linter.unusedSimpArgs false
set_option linter.unusedVariables false
set_option maxHeartbeats 4000000
def esL (l : List Esd) : List AV := l.map esA
@[simp] theorem esL_length (l : List Esd) : (esL l).length = l.length := by simp [esL]
theorem esL_get (l : List Esd) (i : Nat) : (esL l)[i]? = (l[i]?).map esA := by simp [esL]
@[simp] theorem esL_getElem (l : List Esd) (i : Nat) (h : i < (esL l).length) : (esL l)[i] = esA (l[i]'(by simpa using h)) := by simp [esL]
@[simp] theorem weakL_esL (l : List Esd) : AV.weakL (esL l) = esL l := by induction l <;> simp_all [esL, AV.weakL, AV.weak, strB]
@[simp] theorem dpL_esL (l : List Esd) : AV.dpL (esL l) = esL l := by induction l <;> simp_all [esL, AV.dpL, AV.dp, strB]
@[simp] theorem nlL_esL (l : List Esd) : AV.nlL (esL l) = esL l := by induction l <;> simp_all [esL, AV.nlL, AV.nl, strB]
@[simp] theorem rfL_esL (l : List Esd) : AV.rfL (esL l) = true := by induction l <;> simp_all [esL, AV.rfL, AV.rf, strB]
@[simp] theorem killL_esL (t : Nat) (l : List Esd) : AV.killL t (esL l) = esL l := by induction l <;> simp_all [esL, AV.killL, AV.kill, strB]
@[simp] theorem underL_esL (n : Nat) (l : List Esd) : AV.underL n (esL l) = true := by induction l <;> simp_all [esL, AV.underL, AV.under, strB]
def ruleM (nx : Int) (x : Esd) : Bool := if x.kind = 1 then rule1 nx x else if x.kind = 2 then rule2 x else if x.kind = 3 then rule3 nx x else false
def dupM (N : List (List UInt8 × Int)) (x : Esd) : Bool := (getN x.name N).isSome && !(x.name == [])
def S1 (S : List (Int × Esd)) (x : Esd) : List (Int × Esd) := if x.kind = 1 then updS x.id x S else S
def N1 (N : List (List UInt8 × Int)) (x : Esd) : List (List UInt8 × Int) := updN x.name x.kind N
def nx1 (nx : Int) (x : Esd) : Int := if x.kind = 2 then nx else nx + 1
def esdGo : List Esd → List (Int × Esd) → List (List UInt8 × Int) → Int → Option (List (Int × Esd) × List (List UInt8 × Int) × Int)
 | [], S, N, nx => some (S, N, nx)
 | x :: l, S, N, nx => if ruleM nx x = true then (if dupM N x = true then none else esdGo l (S1 S x) (N1 N x) (nx1 nx x)) else none
def ent1 (S : List (Int × Esd)) (x : Esd) : Bool := !decide (x.kind = 2) || liesM S x.id x.addr 0
theorem getS_updS (i j : Int) (x : Esd) : ∀ S : List (Int × Esd), getS i (updS j x S) = if i = j then some x else getS i S
 | [] => by simp only [updS, getS]
 | (k, y) :: S => by
  simp only [updS]
  by_cases h : j = k
  ·subst h
   rw [if_pos rfl]
   simp only [getS]
   by_cases h2 : i = j
   ·simp [h2]
   ·simp [h2]
  ·rw [if_neg h]
   simp only [getS, getS_updS i j x S]
   by_cases h2 : i = k
   ·subst h2
    rw [if_pos rfl, if_neg (fun e => h e.symm), if_pos rfl]
   ·rw [if_neg h2]
    by_cases h3 : i = j
    ·simp [h3]
    ·simp [h3, h2]
theorem SOk_S1 {S : List (Int × Esd)} {nx : Int} {x : Esd} (hS : SOk S) (hr : ruleM nx x = true) : SOk (S1 S x) := by
 intro i y h
 unfold S1 at h
 split at h
 ·rename_i hk
  rw [getS_updS] at h
  split at h
  ·cases h
   rw [ruleM, if_pos hk] at hr
   simp only [rule1, Bool.and_eq_true, decide_eq_true_eq] at hr
   exact ⟨hr.2.1, hr.2.2.2.1, hr.2.2.1, by omega⟩
  ·exact hS i y h
 ·exact hS i y h
def esdB (l : List Esd) : Option (List (Int × Esd) × List (List UInt8 × Int) × Int) → Bool
 | none => false
 | some (S, _, _) => l.all (ent1 S) && decide (0 < S.length)
theorem esds_callW (l : List Esd) (ob : List AV) (hob : AV.underL 4 ob = true) (hl : l.length ≤ 2048) (hx : ∀ x ∈ l, x.name.length ≤ 1000000000 ∧ i64r x.addr) :
  CallW Try.prog 67 [.loc 3 0, .lst .any 5 (esL l)] (HC [] [] 1 ob []) fun v h => ∃ S N nx, h = HC S N nx ob [] ∧ v = .v (.bool (esdB l (esdGo l [] [] 1))) ∧ SOk S ∧ 1 ≤ nx ∧ nx ≤ 3000 ∧ (esdB l (esdGo l [] [] 1) = true → esdGo l [] [] 1 = some (S, N, nx)) := by
 refine callW_of_W Try.func67 rfl (by decide +kernel) (by simp [Try.f67]) (rs := [.tmp 4]) rfl ?_
 rw [show Try.f67.ntmps = 107 from rfl]
 have hob7 : AV.underL 7 ob = true := AV.underL_le (by omega) _ hob
 have hob5 : AV.underL 5 ob = true := AV.underL_le (by omega) _ hob
 have hob6 : AV.underL 6 ob = true := AV.underL_le (by omega) _ hob
 refine W_evK [0, 1] (by simp; rfl) ?_
 refine W_rK [0, 1, 5] ?_
 refine runA_pre 1 (by simp; rfl) rfl ?_
 refine runA_obj (f := 94) (args := [.loc 3 0]) (by simp) (by simp [callArgsO, calleeA]) ((rules_callW [] [] 1 ob hob5).mono ?_)
 rintro _ _ ⟨rfl, rfl⟩
 refine ⟨_, by simp; rfl, ?_⟩
 refine runA_fin (by simp [setSeg]; rfl) ?_
 obtain ⟨G, hG⟩ : ∃ G, esdGo l [] [] 1 = G := ⟨_, rfl⟩
 rw [hG]
 refine W_seqK (fun σ => ∃ S N nx, G = some (S, N, nx) ∧ SOk S ∧ 1 ≤ nx ∧ nx ≤ 3000 ∧ σ = ⟨107, [(0, .loc 3 0), (1, .lst .any 5 (esL l))], HC S N nx ob [.cells 131 [.loc 3 0], .cells 165 arrC]⟩) ?_ ?_
 ·refine W_evK [0, 1, 5, 14, 15, 16] (by simp; rfl) ?_
  refine W_block ?_
  refine W_loop (fun k σ => ∃ (i : Nat) (S : List (Int × Esd)) (N : List (List UInt8 × Int)) (nx : Int), k = l.length - i ∧ i ≤ l.length ∧ esdGo (l.drop i) S N nx = G ∧ SOk S ∧ 1 ≤ nx ∧ nx ≤ 1 + i ∧ σ = ⟨107, [(0, .loc 3 0), (1, .lst .any 5 (esL l)), (5, .loc 5 0), (14, .lst .any 5 (esL l)), (15, .v (.int .i64 (l.length : Nat))), (16, .v (.int .i64 (i : Nat)))], HC S N nx ob [.cells 131 [.loc 3 0], .cells 165 arrC]⟩) (k := l.length) ⟨0, [], [], 1, rfl, by omega, hG, fun i x h => by simp [getS] at h, by omega, by omega, by simp [secE, namE]⟩ ?_
  rintro k σ ⟨i, S, N, nx, rfl, hi, hgo, hS, hn1, hn2, rfl⟩
  by_cases c : i < l.length
  ·have ci : (i : Int) < l.length := by omega
   obtain ⟨x, hs⟩ : ∃ x, l[i]? = some x := ⟨_, List.getElem?_eq_getElem c⟩
   have hs2 : l[i]'c = x := by rw [List.getElem?_eq_getElem c] at hs; exact Option.some.inj hs
   have hdr : l.drop i = x :: l.drop (i + 1) := by rw [List.drop_eq_getElem_cons c, hs2]
   obtain ⟨hxn, hxa⟩ := hx x (List.mem_of_getElem? hs)
   have wi := w64 (n := (i : Int) + 1) (by omega) (by omega)
   have wn := w64 (n := nx + 1) (by omega) (by omega)
   rw [hdr, esdGo] at hgo
   refine W_evK [0, 1, 5, 14, 15, 16, 17] (by simp [ci]; rfl) ?_
   refine W_seq ?_
   refine W_cond rfl (fun h => ?_) (fun h => by simp [c] at h)
   refine W_skip ?_
   refine W_seq ?_
   refine W_block ?_
   refine W_evK [0, 1, 5, 14, 15, 16, 7] (by simp [c, ci, hs2, setSeg]; rfl) ?_
   refine W_seq ?_
   refine W_seqC (fun σ => σ = ⟨107, [(0, .loc 3 0), (1, .lst .any 5 (esL l)), (5, .loc 5 0), (14, .lst .any 5 (esL l)), (15, .v (.int .i64 (l.length : Nat))), (16, .v (.int .i64 (i : Nat))), (7, .loc 6 0), (36, .v (.bool (!ruleM nx x)))], HC S N nx ob [.cells 131 [.loc 3 0], .cells 165 arrC, .cells 78 (esC x)]⟩) ?_ ?_
   ·have h105 := clos105_callW S N nx ob x hob7 (by omega)
    have h107 := clos107_callW S N nx ob x hob7 (by omega)
    have h108 := clos108_callW S N nx ob x hob7 (by omega)
    obtain ⟨nm, kd, id, ad, ln⟩ := x
    by_cases k1 : kd = 1
    ·subst k1
     refine W_rsE 14 [0, 1, 5, 14, 15, 16, 7, 36] mx (by decide +kernel) ?_
     refine runD_pre 6 (by simp; rfl) rfl ?_
     refine runD_pre 8 (by simp [strB]; rfl) rfl ?_
     refine runA_obj (f := 105) (args := [esA ⟨nm, 1, id, ad, ln⟩, .loc 4 0]) (by simp) (by simp [callArgsO, calleeA, strB]) (h105.mono ?_)
     rintro _ _ ⟨rfl, rfl⟩
     refine ⟨_, by simp; rfl, ?_⟩
     refine runA_fin (by simp; rfl) ?_
     simp [onNormal, ruleM, esC, strB]
    by_cases k2 : kd = 2
    ·subst k2
     refine W_rsE 14 [0, 1, 5, 14, 15, 16, 7, 36] mx (by decide +kernel) ?_
     refine runD_pre 6 (by simp; rfl) rfl ?_
     refine runD_pre 8 (by simp [strB]; rfl) rfl ?_
     refine runA_obj (f := 107) (args := [esA ⟨nm, 2, id, ad, ln⟩]) (by simp) (by simp [callArgsO, calleeA, strB]) (h107.mono ?_)
     rintro _ _ ⟨rfl, rfl⟩
     refine ⟨_, by simp; rfl, ?_⟩
     refine runA_fin (by simp; rfl) ?_
     simp [onNormal, ruleM, esC, strB]
    by_cases k3 : kd = 3
    ·subst k3
     refine W_rsE 14 [0, 1, 5, 14, 15, 16, 7, 36] mx (by decide +kernel) ?_
     refine runD_pre 6 (by simp; rfl) rfl ?_
     refine runD_pre 8 (by simp [strB]; rfl) rfl ?_
     refine runA_obj (f := 108) (args := [esA ⟨nm, 3, id, ad, ln⟩, .loc 4 0]) (by simp) (by simp [callArgsO, calleeA, strB]) (h108.mono ?_)
     rintro _ _ ⟨rfl, rfl⟩
     refine ⟨_, by simp; rfl, ?_⟩
     refine runA_fin (by simp; rfl) ?_
     simp [onNormal, ruleM, esC, strB]
    by_cases k4 : kd < 1
    ·refine W_rsE 14 [0, 1, 5, 14, 15, 16, 7, 36] mx (by decide +kernel) ?_
     refine runD_pre 6 (by simp [k4]; rfl) rfl ?_
     refine runD_pre 8 (by simp [strB, k4]; rfl) rfl ?_
     refine runA_fin (by simp; rfl) ?_
     simp [onNormal, ruleM, esC, strB, k1, k2, k3]
    have k5 : 3 < kd := by omega
    refine W_rsE 14 [0, 1, 5, 14, 15, 16, 7, 36] mx (by decide +kernel) ?_
    refine runD_pre 6 (by simp [k4, k5]; rfl) rfl ?_
    refine runD_pre 8 (by simp [strB, k4, k5]; rfl) rfl ?_
    refine runA_fin (by simp; rfl) ?_
    simp [onNormal, ruleM, esC, strB, k1, k2, k3]
   rintro _ rfl
   by_cases hr : ruleM nx x = true
   rotate_left
   ·rw [if_neg hr] at hgo
    refine W_cond (t := true) (by simp [hr]) (fun h => ?_) (fun h => by simp at h)
    refine W_evK [4] (by simp; rfl) ?_
    refine W_ret ?_
    repeat (first | refine on_ret ?_ | refine in_ret ?_)
    refine retW_cut 4 (by simp [resA]; rfl) (by simp) (by simp) (by simp [AV.under, AV.underL, underH, AObj.under, hob, entU_secE, entU_namE]) ⟨S, N, nx, rfl, by rw [← hgo]; rfl, hS, hn1, by omega, by rw [← hgo]; intro h; cases h⟩
   rw [if_pos hr] at hgo
   refine W_cond (t := false) (by simp [hr]) (fun h => by simp at h) (fun h => ?_)
   refine W_skip ?_
   refine W_seq ?_
   refine W_seqC (fun σ => σ = ⟨107, [(0, .loc 3 0), (1, .lst .any 5 (esL l)), (5, .loc 5 0), (14, .lst .any 5 (esL l)), (15, .v (.int .i64 (l.length : Nat))), (16, .v (.int .i64 (i : Nat))), (7, .loc 6 0), (9, .v (.bool (getN x.name N).isSome))], HC S N nx ob [.cells 131 [.loc 3 0], .cells 165 arrC, .cells 78 (esC x)]⟩) ?_ ?_
   ·have hf := mfind_namE x.name N
    cases hg : getN x.name N with
    | none =>
     rw [hg] at hf
     refine W_forget [0, 1, 5, 14, 15, 16, 7, 9] (W_drawP 6 mx (by decide +kernel) ?_)
     refine runD_fin (by simp [esC, strB]; rfl) ?_
     refine anyT_all [6] (by decide +kernel) (by simp) ?_
     intro i hi
     simp only [List.mem_cons, List.not_mem_nil, or_false] at hi
     subst hi
     refine ⟨_, rfl, ?_⟩
     refine (show runA Try.prog _ [_] _ _ from ?_)
     refine runA_fin (by simp [evLookup, mapOf, keyOfA, hf]; rfl) ?_
     refine anyT_take 7 rfl (by decide +kernel) (gives_move 44 rfl rfl rfl) rfl ?_
     refine anyT_take 8 rfl (by decide +kernel) (gives_extract 37 rfl rfl rfl rfl) rfl ?_
     refine anyT_take 9 rfl (by decide +kernel) (gives_extract 37 rfl rfl rfl rfl) rfl ?_
     refine anyT_all [10] (by decide +kernel) (by simp) ?_
     intro i hi
     simp only [List.mem_cons, List.not_mem_nil, or_false] at hi
     subst hi
     refine ⟨_, rfl, ?_⟩
     refine (show runA Try.prog _ [_] _ _ from ?_)
     refine runA_fin (by simp; rfl) ?_
     refine anyT_all [11] (by decide +kernel) (by simp) ?_
     intro i hi
     simp only [List.mem_cons, List.not_mem_nil, or_false] at hi
     subst hi
     refine ⟨_, rfl, ?_⟩
     refine (show runA Try.prog _ [_] _ _ from ?_)
     refine runA_fin (by simp; rfl) ?_
     refine anyT_done (by decide +kernel) ?_
     simp [onNormal, esC, strB, keepF]
    | some k =>
     rw [hg] at hf
     refine W_forget [0, 1, 5, 14, 15, 16, 7, 9] (W_drawP 6 mx (by decide +kernel) ?_)
     refine runD_fin (by simp [esC, strB]; rfl) ?_
     refine anyT_all [6] (by decide +kernel) (by simp) ?_
     intro i hi
     simp only [List.mem_cons, List.not_mem_nil, or_false] at hi
     subst hi
     refine ⟨_, rfl, ?_⟩
     refine (show runA Try.prog _ [_] _ _ from ?_)
     refine runA_fin (by simp [evLookup, mapOf, keyOfA, hf]; rfl) ?_
     refine anyT_take 7 rfl (by decide +kernel) (gives_move 44 rfl rfl rfl) rfl ?_
     refine anyT_take 8 rfl (by decide +kernel) (gives_extract 37 rfl rfl rfl rfl) rfl ?_
     refine anyT_take 9 rfl (by decide +kernel) (gives_extract 37 rfl rfl rfl rfl) rfl ?_
     refine anyT_all [10] (by decide +kernel) (by simp) ?_
     intro i hi
     simp only [List.mem_cons, List.not_mem_nil, or_false] at hi
     subst hi
     refine ⟨_, rfl, ?_⟩
     refine (show runA Try.prog _ [_] _ _ from ?_)
     refine runA_fin (by simp; rfl) ?_
     refine anyT_all [11] (by decide +kernel) (by simp) ?_
     intro i hi
     simp only [List.mem_cons, List.not_mem_nil, or_false] at hi
     subst hi
     refine ⟨_, rfl, ?_⟩
     refine (show runA Try.prog _ [_] _ _ from ?_)
     refine runA_fin (by simp; rfl) ?_
     refine anyT_done (by decide +kernel) ?_
     simp [onNormal, esC, strB, keepF]
   rintro _ rfl
   refine W_seqC (fun σ => σ = ⟨107, [(0, .loc 3 0), (1, .lst .any 5 (esL l)), (5, .loc 5 0), (14, .lst .any 5 (esL l)), (15, .v (.int .i64 (l.length : Nat))), (16, .v (.int .i64 (i : Nat))), (7, .loc 6 0), (52, .v (.bool (dupM N x)))], HC S N nx ob [.cells 131 [.loc 3 0], .cells 165 arrC, .cells 78 (esC x)]⟩) ?_ ?_
   ·cases hg : (getN x.name N).isSome with
    | false =>
     refine W_evE [0, 1, 5, 14, 15, 16, 7, 52] (by simp; rfl) ?_
     simp [onNormal, dupM, hg]
    | true =>
     refine W_evE [0, 1, 5, 14, 15, 16, 7, 52] (by simp [esC, strB]; rfl) ?_
     simp [onNormal, dupM, hg, esC, strB]
   rintro _ rfl
   by_cases hd : dupM N x = true
   ·rw [if_pos hd] at hgo
    refine W_cond (t := true) (by simp [hd]) (fun h => ?_) (fun h => by simp at h)
    refine W_evK [4] (by simp; rfl) ?_
    refine W_ret ?_
    repeat (first | refine on_ret ?_ | refine in_ret ?_)
    refine retW_cut 4 (by simp [resA]; rfl) (by simp) (by simp) (by simp [AV.under, AV.underL, underH, AObj.under, hob, entU_secE, entU_namE]) ⟨S, N, nx, rfl, by rw [← hgo]; rfl, hS, hn1, by omega, by rw [← hgo]; intro h; cases h⟩
   rw [if_neg hd] at hgo
   refine W_cond (t := false) (by simp [hd]) (fun h => by simp at h) (fun h => ?_)
   refine W_skip ?_
   have hset := mset_namE x.name x.kind N
   have hset2 := mset_secE x.id x S
   refine W_seqC (fun σ => σ = ⟨107, [(0, .loc 3 0), (1, .lst .any 5 (esL l)), (5, .loc 5 0), (14, .lst .any 5 (esL l)), (15, .v (.int .i64 (l.length : Nat))), (16, .v (.int .i64 (i : Nat))), (7, .loc 6 0)], HC S (N1 N x) nx ob [.cells 131 [.loc 3 0], .cells 165 arrC, .cells 78 (esC x)]⟩) ?_ ?_
   ·refine W_rsE 8 [0, 1, 5, 14, 15, 16, 7] mx (by decide +kernel) ?_
    refine runD_fin (by simp [esC, strB]; rfl) ?_
    refine runA_fin (by simp [evMapUpdate, keyOfA, hset, AV.weak]; rfl) ?_
    simp [onNormal, esC, strB, N1]
   rintro _ rfl
   refine W_seqC (fun σ => σ = ⟨107, [(0, .loc 3 0), (1, .lst .any 5 (esL l)), (5, .loc 5 0), (14, .lst .any 5 (esL l)), (15, .v (.int .i64 (l.length : Nat))), (16, .v (.int .i64 (i : Nat))), (7, .loc 6 0)], HC (S1 S x) (N1 N x) nx ob [.cells 131 [.loc 3 0], .cells 165 arrC, .cells 78 (esC x)]⟩) ?_ ?_
   ·by_cases hk : x.kind = 1
    ·simp only [esA, hk, strB] at hset2
     refine W_evK [0, 1, 5, 14, 15, 16, 7, 63] (by simp [esC, strB, hk]; rfl) ?_
     refine W_cond rfl (fun h => ?_) (fun h => by simp at h)
     refine W_rsE 7 [0, 1, 5, 14, 15, 16, 7] mx (by decide +kernel) ?_
     refine runD_fin (by simp [esC, strB]; rfl) ?_
     refine runA_fin (by simp [evMapUpdate, keyOfA, hset2, AV.weak, AV.weakL]; rfl) ?_
     simp [onNormal, esC, strB, S1, hk]
    ·refine W_evK [0, 1, 5, 14, 15, 16, 7, 63] (by simp [esC, strB, hk]; rfl) ?_
     refine W_cond rfl (fun h => absurd (by simpa using h) hk) (fun h => ?_)
     refine W_keepS [0, 1, 5, 14, 15, 16, 7] ?_
     refine W_skip ?_
     simp [onNormal, esC, strB, S1, hk]
   rintro _ rfl
   have hbd : 1 ≤ nx1 nx x ∧ nx1 nx x ≤ 1 + ((i + 1 : Nat) : Int) := by
    unfold nx1
    split <;> omega
   refine W_thenC (fun σ => σ = ⟨107, [(0, .loc 3 0), (1, .lst .any 5 (esL l)), (5, .loc 5 0), (14, .lst .any 5 (esL l)), (15, .v (.int .i64 (l.length : Nat))), (16, .v (.int .i64 (i : Nat)))], HC (S1 S x) (N1 N x) (nx1 nx x) ob [.cells 131 [.loc 3 0], .cells 165 arrC, .cells 78 (esC x)]⟩) ?_ ?_
   ·by_cases hk : x.kind = 2
    ·refine W_evK [0, 1, 5, 14, 15, 16, 73] (by simp [esC, strB, hk]; rfl) ?_
     refine W_cond rfl (fun h => by simp at h) (fun h => ?_)
     refine W_keepS [0, 1, 5, 14, 15, 16] ?_
     refine W_skip ?_
     simp [onNormal, esC, strB, nx1, hk]
    ·refine W_evK [0, 1, 5, 14, 15, 16, 73] (by simp [esC, strB, hk]; rfl) ?_
     refine W_cond rfl (fun h => ?_) (fun h => absurd (by simpa using h) hk)
     refine W_evE [0, 1, 5, 14, 15, 16] (by simp [wn, setSeg]; rfl) ?_
     simp [onNormal, esC, strB, nx1, hk]
   rintro _ rfl
   refine W_cutH 6 (by simp) (by simp) (by simp [frUnder, AV.under, AV.underL]) (by simp [underH, AObj.under, AV.under, AV.underL, hob6, entU_secE, entU_namE]) ?_
   refine W_evE [0, 1, 5, 14, 15, 16] (by simp [wi]; rfl) ?_
   exact ⟨_, by omega, i + 1, S1 S x, N1 N x, nx1 nx x, rfl, by omega, hgo, SOk_S1 hS hr, hbd.1, hbd.2, by simp⟩
  have hie : i = l.length := by omega
  rw [hie, List.drop_length, esdGo] at hgo
  refine W_evK [0, 1, 5, 14, 15, 16, 17] (by simp [c]; rfl) ?_
  refine W_seq ?_
  refine W_cond rfl (fun h => by simp [hie] at h) (fun h => ?_)
  refine W_keepS [0, 1] ?_
  refine W_exit ?_
  simp only [onNormal]
  exact ⟨S, N, nx, hgo.symm, hS, hn1, by omega, by simp⟩
 rintro _ ⟨S, N, nx, hGe, hS, hn1, hn2, rfl⟩
 refine W_cutH 4 (by simp) (by simp) (by simp [frUnder, AV.under, AV.underL]) (by simp [underH, AObj.under, AV.under, AV.underL, hob, entU_secE, entU_namE]) ?_
 subst hGe
 refine W_seq ?_
 refine W_evK [0, 82, 83, 84] (by simp; rfl) ?_
 refine W_block ?_
 refine W_loop (fun k σ => ∃ (i : Nat), k = l.length - i ∧ i ≤ l.length ∧ l.all (ent1 S) = (l.drop i).all (ent1 S) ∧ σ = ⟨107, [(0, .loc 3 0), (82, .lst .any 5 (esL l)), (83, .v (.int .i64 (l.length : Nat))), (84, .v (.int .i64 (i : Nat)))], HC S N nx ob []⟩) (k := l.length) ⟨0, rfl, by omega, by simp, by simp⟩ ?_
 rintro k σ ⟨i, rfl, hi, hall, rfl⟩
 by_cases c : i < l.length
 ·have ci : (i : Int) < l.length := by omega
  obtain ⟨x, hs⟩ : ∃ x, l[i]? = some x := ⟨_, List.getElem?_eq_getElem c⟩
  have hs2 : l[i]'c = x := by rw [List.getElem?_eq_getElem c] at hs; exact Option.some.inj hs
  have hdr : l.drop i = x :: l.drop (i + 1) := by rw [List.drop_eq_getElem_cons c, hs2]
  obtain ⟨hxn, hxa⟩ := hx x (List.mem_of_getElem? hs)
  have wi := w64 (n := (i : Int) + 1) (by omega) (by omega)
  rw [hdr, List.all_cons] at hall
  refine W_evK [0, 82, 83, 84, 85] (by simp [ci]; rfl) ?_
  refine W_seq ?_
  refine W_cond rfl (fun h => ?_) (fun h => by simp [c] at h)
  refine W_skip ?_
  refine W_seq ?_
  refine W_block ?_
  refine W_evK [0, 82, 83, 84, 11] (by simp [c, ci, hs2, setSeg]; rfl) ?_
  refine W_seqC (fun σ => σ = ⟨107, [(0, .loc 3 0), (82, .lst .any 5 (esL l)), (83, .v (.int .i64 (l.length : Nat))), (84, .v (.int .i64 (i : Nat))), (99, .v (.bool (!ent1 S x)))], HC S N nx ob [.cells 78 (esC x)]⟩) ?_ ?_
  ·have hlies := lies_callW S N nx ob 78 (esC x) x.id x.addr 0 hS hxa hob5 (by simp [esC, strB, AV.underL, AV.under])
   by_cases hk : x.kind = 2
   ·refine W_rE [0, 82, 83, 84, 99] ?_
    refine runA_pre 6 (by simp [hk]; rfl) rfl ?_
    refine runA_pre 3 (by simp; rfl) rfl ?_
    simp only [esC, hk] at hlies
    refine runA_obj (f := 68) (args := [.loc 3 0, .v (.int .i64 x.id), .v (.int .i64 x.addr), .v (.int .i64 0)]) (by simp) (by simp [callArgsO, calleeA]) (hlies.mono ?_)
    rintro _ _ ⟨rfl, rfl⟩
    refine ⟨_, by simp; rfl, ?_⟩
    refine runA_fin (by simp; rfl) ?_
    simp [onNormal, esC, ent1, hk, strB, AV.weak]
   ·have hkb : (x.kind == 2) = false := by simpa using hk
    refine W_rE [0, 82, 83, 84, 99] ?_
    refine runA_pre 6 (by simp [hkb]; rfl) rfl ?_
    refine runA_fin (by simp; rfl) ?_
    simp [onNormal, esC, ent1, hk, strB, AV.weak]
  rintro _ rfl
  by_cases he : ent1 S x = true
  rotate_left
  ·have hef : ent1 S x = false := by simpa using he
   refine W_cond (t := true) (by simp [hef]) (fun h => ?_) (fun h => by simp at h)
   refine W_evK [4] (by simp; rfl) ?_
   refine W_ret ?_
   repeat (first | refine on_ret ?_ | refine in_ret ?_)
   refine retW_cut 4 (by simp [resA]; rfl) (by simp) (by simp) (by simp [AV.under, AV.underL, underH, AObj.under, hob, entU_secE, entU_namE]) ⟨S, N, nx, rfl, by simp [esdB, hall, hef], hS, hn1, hn2, by simp [esdB, hall, hef]⟩
  refine W_cond (t := false) (by simp [he]) (fun h => by simp at h) (fun h => ?_)
  refine W_skip ?_
  refine W_cutH 4 (by simp) (by simp) (by simp [frUnder, AV.under, AV.underL]) (by simp [underH, AObj.under, AV.under, AV.underL, hob, entU_secE, entU_namE]) ?_
  refine W_evE [0, 82, 83, 84] (by simp [wi]; rfl) ?_
  exact ⟨_, by omega, i + 1, rfl, by omega, by rw [hall, he, Bool.true_and], by simp⟩
 have hie : i = l.length := by omega
 rw [hie, List.drop_length, List.all_nil] at hall
 refine W_evK [0, 82, 83, 84, 85] (by simp [c]; rfl) ?_
 refine W_seq ?_
 refine W_cond rfl (fun h => by simp [hie] at h) (fun h => ?_)
 refine W_exit ?_
 have hsl : (secE S).length = S.length := by simp [secE]
 refine W_rGK [4] ?_
 refine runG_A 4 _ _ ?_
 refine runA_fin (by simp; rfl) ?_
 refine runG_W rfl ?_
 refine stepW_mapLen (k := 104) (t := 132) (m := .mp 1) (d := .int .i64) (e := 78) (es := secE S) rfl rfl rfl rfl (by simp) (by simp) (by simp [mapOf]) ?_
 refine ⟨_, by simp; rfl, ?_⟩
 rw [hsl]
 refine runG_A 2 _ _ ?_
 refine runA_fin (by simp; rfl) ?_
 refine W_ret ?_
 repeat (first | refine on_ret ?_ | refine in_ret ?_)
 exact retW_cut 4 (by simp [resA]; rfl) (by simp) (by simp) (by simp [AV.under, AV.underL, underH, AObj.under, hob, entU_secE, entU_namE]) ⟨S, N, nx, rfl, by simp [esdB, hall], hS, hn1, hn2, fun _ => rfl⟩
end Go.AM
namespace Go.AM
open Go.RowKit Go.Proofs
set_option linter.unusedSimpArgs false
set_option linter.unusedVariables false
set_option maxHeartbeats 4000000
structure Txt where
 id : Int
 addr : Int
 data : List UInt8
structure Rld where
 in_ : Int
 to_ : Int
 addr : Int
 len : Int
 neg : Bool
structure OMod where
 esd : List Esd
 txt : List Txt
 rld : List Rld
 entry : List UInt8
@[simp] theorem nlL_byL31 (l : List UInt8) : AV.nlL (byL l) = byL l := by induction l <;> simp_all [byL, AV.nlL, AV.nl]
@[simp] def txA (t : Txt) : AV := .agg [.v (.int .i64 t.id), .v (.int .i64 t.addr), .lst .any 1 (byL t.data)]
def txC (t : Txt) : List AV := [.v (.int .i64 t.id), .v (.int .i64 t.addr), .lst .any 1 (byL t.data)]
@[simp] def rdA (r : Rld) : AV := .agg [.v (.int .i64 r.in_), .v (.int .i64 r.to_), .v (.int .i64 r.addr), .v (.int .i64 r.len), .v (.bool r.neg)]
def rdC (r : Rld) : List AV := [.v (.int .i64 r.in_), .v (.int .i64 r.to_), .v (.int .i64 r.addr), .v (.int .i64 r.len), .v (.bool r.neg)]
def txL (l : List Txt) : List AV := l.map txA
@[simp] theorem txL_length (l : List Txt) : (txL l).length = l.length := by simp [txL]
theorem txL_get (l : List Txt) (i : Nat) : (txL l)[i]? = (l[i]?).map txA := by simp [txL]
@[simp] theorem txL_getElem (l : List Txt) (i : Nat) (h : i < (txL l).length) : (txL l)[i] = txA (l[i]'(by simpa using h)) := by simp [txL]
@[simp] theorem weakL_txL (l : List Txt) : AV.weakL (txL l) = txL l := by induction l <;> simp_all [txL, AV.weakL, AV.weak]
@[simp] theorem dpL_txL (l : List Txt) : AV.dpL (txL l) = txL l := by induction l <;> simp_all [txL, AV.dpL, AV.dp]
@[simp] theorem nlL_txL (l : List Txt) : AV.nlL (txL l) = txL l := by induction l <;> simp_all [txL, AV.nlL, AV.nl]
@[simp] theorem rfL_txL (l : List Txt) : AV.rfL (txL l) = true := by induction l <;> simp_all [txL, AV.rfL, AV.rf]
@[simp] theorem killL_txL (t : Nat) (l : List Txt) : AV.killL t (txL l) = txL l := by induction l <;> simp_all [txL, AV.killL, AV.kill]
@[simp] theorem underL_txL (n : Nat) (l : List Txt) : AV.underL n (txL l) = true := by induction l <;> simp_all [txL, AV.underL, AV.under]
def rdL (l : List Rld) : List AV := l.map rdA
@[simp] theorem rdL_length (l : List Rld) : (rdL l).length = l.length := by simp [rdL]
theorem rdL_get (l : List Rld) (i : Nat) : (rdL l)[i]? = (l[i]?).map rdA := by simp [rdL]
@[simp] theorem rdL_getElem (l : List Rld) (i : Nat) (h : i < (rdL l).length) : (rdL l)[i] = rdA (l[i]'(by simpa using h)) := by simp [rdL]
@[simp] theorem weakL_rdL (l : List Rld) : AV.weakL (rdL l) = rdL l := by induction l <;> simp_all [rdL, AV.weakL, AV.weak]
@[simp] theorem dpL_rdL (l : List Rld) : AV.dpL (rdL l) = rdL l := by induction l <;> simp_all [rdL, AV.dpL, AV.dp]
@[simp] theorem nlL_rdL (l : List Rld) : AV.nlL (rdL l) = rdL l := by induction l <;> simp_all [rdL, AV.nlL, AV.nl]
@[simp] theorem rfL_rdL (l : List Rld) : AV.rfL (rdL l) = true := by induction l <;> simp_all [rdL, AV.rfL, AV.rf]
@[simp] theorem killL_rdL (t : Nat) (l : List Rld) : AV.killL t (rdL l) = rdL l := by induction l <;> simp_all [rdL, AV.killL, AV.kill]
@[simp] theorem underL_rdL (n : Nat) (l : List Rld) : AV.underL n (rdL l) = true := by induction l <;> simp_all [rdL, AV.underL, AV.under]
def obC (o : OMod) : List AV := [.lst .any 5 (esL o.esd), .lst .any 3 (txL o.txt), .lst .any 5 (rdL o.rld), strB o.entry]
@[simp] def obA (o : OMod) : AV := .agg [.lst .any 5 (esL o.esd), .lst .any 3 (txL o.txt), .lst .any 5 (rdL o.rld), strB o.entry]
theorem underL_obC (m : Nat) (o : OMod) : AV.underL m (obC o) = true := by simp [obC, AV.underL, AV.under, strB]
def txB (S : List (Int × Esd)) (t : Txt) : Bool := decide (t.data.length < 1) || (decide (56 < t.data.length) || !liesM S t.id t.addr t.data.length)
def rdB (S : List (Int × Esd)) (nx : Int) (r : Rld) : Bool := decide (r.len < 1) || (decide (4 < r.len) || (decide (r.to_ < 1) || (decide (nx ≤ r.to_) || !liesM S r.in_ r.addr r.len)))
def bigB (o : OMod) : Bool := decide (2048 < o.esd.length) || (decide (2048 < o.txt.length) || decide (2048 < o.rld.length))
def entB (N : List (List UInt8 × Int)) (e : List UInt8) : Bool := !(e == []) && (!(getN e N).isSome || (getN e N).getD 0 == 3)
def restM (o : OMod) : Option (List (Int × Esd) × List (List UInt8 × Int) × Int) → Bool
 | none => false
 | some (S, N, nx) => o.txt.all (fun t => !txB S t) && (o.rld.all (fun r => !rdB S nx r) && !entB N o.entry)
def chkM (o : OMod) : Bool := !bigB o && (esdB o.esd (esdGo o.esd [] [] 1) && restM o (esdGo o.esd [] [] 1))
structure OIn (o : OMod) : Prop where
 e : ∀ x ∈ o.esd, x.name.length ≤ 1000000000 ∧ i64r x.addr
 t : ∀ x ∈ o.txt, i64r x.addr ∧ x.data.length ≤ 1000000000000
 r : ∀ x ∈ o.rld, i64r x.addr
theorem checkObject_sound (o : OMod) (ho : OIn o) : Sound Try.prog 32 [obA o] (.v (.int .i64 (if chkM o = true then 0 else 310))) := by
 refine sound_of_W Try.func32 rfl (by decide +kernel) (by simp [Try.f32, strB]) (by simp [AV.rfL, AV.rf, strB]) (by simp [AV.tlL, AV.tl, strB]) (rs := [.tmp 2]) rfl ?_
 rw [show Try.f32.ntmps = 129 from rfl]
 obtain ⟨he, ht, hr⟩ := ho
 refine W_evK [1] (by simp; rfl) ?_
 refine W_evK [1, 3] (by simp; rfl) ?_
 obtain ⟨G, hG⟩ : ∃ G, esdGo o.esd [] [] 1 = G := ⟨_, rfl⟩
 refine W_seqK (fun σ => ∃ S N nx, bigB o = false ∧ G = some (S, N, nx) ∧ esdB o.esd G = true ∧ SOk S ∧ 1 ≤ nx ∧ nx ≤ 3000 ∧ σ = ⟨129, [(1, .loc 0 0), (3, .loc 3 0)], HC S N nx (obC o) []⟩) ?_ ?_
 ·by_cases c1 : 2048 < o.esd.length
  ·have c1a : 2048 < o.esd.length := c1
   have c1b : (2048 : Int) < (o.esd.length : Nat) := by omega
   refine W_rK [1, 3, 36] ?_
   refine runA_pre 6 (by simp [obC, c1a, c1b]; rfl) rfl ?_
   refine runA_pre 6 (by simp [obC, c1a, c1b]; rfl) rfl ?_
   refine runA_pre 8 (by simp [obC, c1a, c1b]; rfl) rfl ?_
   refine runA_fin (by simp; rfl) ?_
   refine W_cond rfl (fun h => ?_) (fun h => by simp at h)
   refine W_evK [2] (by simp; rfl) ?_
   refine W_ret ?_
   repeat (first | refine on_ret ?_ | refine in_ret ?_)
   simp [retQ, chkM, bigB, c1a, c1b]
  have c1a : ¬ 2048 < o.esd.length := c1
  have c1b : ¬ (2048 : Int) < (o.esd.length : Nat) := by omega
  have c1c : o.esd.length ≤ 2048 := by omega
  by_cases c2 : 2048 < o.txt.length
  ·have c2a : 2048 < o.txt.length := c2
   have c2b : (2048 : Int) < (o.txt.length : Nat) := by omega
   refine W_rK [1, 3, 36] ?_
   refine runA_pre 6 (by simp [obC, c1a, c1b, c1c, c2a, c2b]; rfl) rfl ?_
   refine runA_pre 6 (by simp [obC, c1a, c1b, c1c, c2a, c2b]; rfl) rfl ?_
   refine runA_pre 8 (by simp [obC, c1a, c1b, c1c, c2a, c2b]; rfl) rfl ?_
   refine runA_fin (by simp; rfl) ?_
   refine W_cond rfl (fun h => ?_) (fun h => by simp at h)
   refine W_evK [2] (by simp; rfl) ?_
   refine W_ret ?_
   repeat (first | refine on_ret ?_ | refine in_ret ?_)
   simp [retQ, chkM, bigB, c1a, c1b, c1c, c2a, c2b]
  have c2a : ¬ 2048 < o.txt.length := c2
  have c2b : ¬ (2048 : Int) < (o.txt.length : Nat) := by omega
  have c2c : o.txt.length ≤ 2048 := by omega
  by_cases c3 : 2048 < o.rld.length
  ·have c3a : 2048 < o.rld.length := c3
   have c3b : (2048 : Int) < (o.rld.length : Nat) := by omega
   refine W_rK [1, 3, 36] ?_
   refine runA_pre 6 (by simp [obC, c1a, c1b, c1c, c2a, c2b, c2c, c3a, c3b]; rfl) rfl ?_
   refine runA_pre 6 (by simp [obC, c1a, c1b, c1c, c2a, c2b, c2c, c3a, c3b]; rfl) rfl ?_
   refine runA_pre 8 (by simp [obC, c1a, c1b, c1c, c2a, c2b, c2c, c3a, c3b]; rfl) rfl ?_
   refine runA_fin (by simp; rfl) ?_
   refine W_cond rfl (fun h => ?_) (fun h => by simp at h)
   refine W_evK [2] (by simp; rfl) ?_
   refine W_ret ?_
   repeat (first | refine on_ret ?_ | refine in_ret ?_)
   simp [retQ, chkM, bigB, c1a, c1b, c1c, c2a, c2b, c2c, c3a, c3b]
  have c3a : ¬ 2048 < o.rld.length := c3
  have c3b : ¬ (2048 : Int) < (o.rld.length : Nat) := by omega
  have c3c : o.rld.length ≤ 2048 := by omega
  refine W_rK [1, 3, 36] ?_
  refine runA_pre 6 (by simp [obC, c1a, c1b, c1c, c2a, c2b, c2c, c3a, c3b, c3c]; rfl) rfl ?_
  refine runA_pre 6 (by simp [obC, c1a, c1b, c1c, c2a, c2b, c2c, c3a, c3b, c3c]; rfl) rfl ?_
  refine runA_pre 8 (by simp [obC, c1a, c1b, c1c, c2a, c2b, c2c, c3a, c3b, c3c]; rfl) rfl ?_
  have hesd := esds_callW o.esd (obC o) (underL_obC _ _) (by omega) he
  have hbig : bigB o = false := by simp [bigB, c1a, c1b, c1c, c2a, c2b, c2c, c3a, c3b, c3c]
  rw [hG] at hesd
  refine runA_obj (f := 67) (args := [.loc 3 0, .lst .any 5 (esL o.esd)]) (by simp) (by simp [callArgsO, calleeA, obC]) ((show CallW Try.prog 67 [.loc 3 0, .lst .any 5 (esL o.esd)] (HC [] [] 1 (obC o) []) _ from hesd).mono ?_)
  rintro _ _ ⟨S, N, nx, rfl, rfl, hS, hn1, hn2, hGe⟩
  refine ⟨_, by simp; rfl, ?_⟩
  refine runA_fin (by simp; rfl) ?_
  by_cases hB : esdB o.esd G = true
  ·refine W_cond (t := false) (by simp [hB]) (fun h => by simp at h) (fun h => ?_)
   refine W_keepS [1, 3] ?_
   refine W_skip ?_
   exact ⟨S, N, nx, hbig, hGe hB, hB, hS, hn1, hn2, by simp⟩
  ·have hBf : esdB o.esd G = false := by simpa using hB
   refine W_cond (t := true) (by simp [hBf]) (fun h => ?_) (fun h => by simp at h)
   refine W_evK [2] (by simp; rfl) ?_
   refine W_ret ?_
   repeat (first | refine on_ret ?_ | refine in_ret ?_)
   simp [retQ, chkM, hG, hBf]
 rintro _ ⟨S, N, nx, hbig, hGe, hB, hS, hn1, hn2, rfl⟩
 have hmod : chkM o = restM o (some (S, N, nx)) := by rw [chkM, hG, hbig, hB, hGe]; simp
 have hbig2 := hbig
 simp only [bigB, Bool.or_eq_false_iff, decide_eq_false_iff_not] at hbig2
 obtain ⟨l1, l2, l3⟩ := hbig2
 refine W_seqK (fun σ => o.txt.all (fun t => !txB S t) = true ∧ σ = ⟨129, [(1, .loc 0 0), (3, .loc 3 0)], HC S N nx (obC o) []⟩) ?_ ?_
 ·refine W_evK [1, 3, 38, 39, 40] (by simp [obC]; rfl) ?_
  refine W_block ?_
  refine W_loop (fun k σ => ∃ (i : Nat), k = o.txt.length - i ∧ i ≤ o.txt.length ∧ o.txt.all (fun t => !txB S t) = (o.txt.drop i).all (fun t => !txB S t) ∧ σ = ⟨129, [(1, .loc 0 0), (3, .loc 3 0), (38, .lst .any 3 (txL o.txt)), (39, .v (.int .i64 (o.txt.length : Nat))), (40, .v (.int .i64 (i : Nat)))], HC S N nx (obC o) []⟩) (k := o.txt.length) ⟨0, rfl, by omega, by simp, by simp [obC]⟩ ?_
  rintro k σ ⟨i, rfl, hi, hall, rfl⟩
  by_cases c : i < o.txt.length
  ·have ci : (i : Int) < o.txt.length := by omega
   obtain ⟨x, hs⟩ : ∃ x, o.txt[i]? = some x := ⟨_, List.getElem?_eq_getElem c⟩
   have hs2 : o.txt[i]'c = x := by rw [List.getElem?_eq_getElem c] at hs; exact Option.some.inj hs
   have hdr : o.txt.drop i = x :: o.txt.drop (i + 1) := by rw [List.drop_eq_getElem_cons c, hs2]
   obtain ⟨hxa, hxd⟩ := ht x (List.mem_of_getElem? hs)
   have wi := w64 (n := (i : Int) + 1) (by omega) (by omega)
   rw [hdr, List.all_cons] at hall
   refine W_evK [1, 3, 38, 39, 40, 41] (by simp [ci]; rfl) ?_
   refine W_seq ?_
   refine W_cond rfl (fun h => ?_) (fun h => by simp [c] at h)
   refine W_skip ?_
   refine W_seq ?_
   refine W_block ?_
   refine W_evK [1, 3, 38, 39, 40, 5] (by simp [c, ci, hs2, setSeg]; rfl) ?_
   have hlies := lies_callW S N nx (obC o) 73 (txC x) x.id x.addr x.data.length hS hxa (underL_obC _ _) (by simp [txC, AV.underL, AV.under])
   simp only [txC] at hlies
   refine W_seqC (fun σ => σ = ⟨129, [(1, .loc 0 0), (3, .loc 3 0), (38, .lst .any 3 (txL o.txt)), (39, .v (.int .i64 (o.txt.length : Nat))), (40, .v (.int .i64 (i : Nat))), (65, .v (.bool (txB S x)))], HC S N nx (obC o) [.cells 73 (txC x)]⟩) ?_ ?_
   ·by_cases c1 : x.data.length < 1
    ·have c1a : x.data.length < 1 := c1
     have c1b : ((x.data.length : Nat) : Int) < 1 := by omega
     refine W_rE [1, 3, 38, 39, 40, 65] ?_
     refine runA_pre 6 (by simp [txC, c1a, c1b]; rfl) rfl ?_
     refine runA_pre 6 (by simp [txC, c1a, c1b]; rfl) rfl ?_
     refine runA_pre 7 (by simp [txC, c1a, c1b]; rfl) rfl ?_
     refine runA_fin (by simp; rfl) ?_
     simp [onNormal, txB, txC, AV.weak, c1a, c1b]
    have c1a : ¬ x.data.length < 1 := c1
    have c1b : ¬ ((x.data.length : Nat) : Int) < 1 := by omega
    by_cases c2 : 56 < x.data.length
    ·have c2a : 56 < x.data.length := c2
     have c2b : (56 : Int) < (x.data.length : Nat) := by omega
     refine W_rE [1, 3, 38, 39, 40, 65] ?_
     refine runA_pre 6 (by simp [txC, c1a, c1b, c2a, c2b]; rfl) rfl ?_
     refine runA_pre 6 (by simp [txC, c1a, c1b, c2a, c2b]; rfl) rfl ?_
     refine runA_pre 7 (by simp [txC, c1a, c1b, c2a, c2b]; rfl) rfl ?_
     refine runA_fin (by simp; rfl) ?_
     simp [onNormal, txB, txC, AV.weak, c1a, c1b, c2a, c2b]
    have c2a : ¬ 56 < x.data.length := c2
    have c2b : ¬ (56 : Int) < (x.data.length : Nat) := by omega
    have c2c : x.data.length ≤ 56 := by omega
    refine W_rE [1, 3, 38, 39, 40, 65] ?_
    refine runA_pre 6 (by simp [txC, c1a, c1b, c2a, c2b, c2c]; rfl) rfl ?_
    refine runA_pre 6 (by simp [txC, c1a, c1b, c2a, c2b, c2c]; rfl) rfl ?_
    refine runA_pre 7 (by simp [txC, c1a, c1b, c2a, c2b, c2c]; rfl) rfl ?_
    refine runA_obj (f := 68) (args := [.loc 3 0, .v (.int .i64 x.id), .v (.int .i64 x.addr), .v (.int .i64 (x.data.length : Nat))]) (by simp) (by simp [callArgsO, calleeA]) (hlies.mono ?_)
    rintro _ _ ⟨rfl, rfl⟩
    refine ⟨_, by simp; rfl, ?_⟩
    refine runA_fin (by simp; rfl) ?_
    simp [onNormal, txB, txC, AV.weak, c1a, c1b, c2a, c2b, c2c]
   rintro _ rfl
   by_cases hx : txB S x = true
   ·refine W_cond (t := true) (by simp [hx]) (fun h => ?_) (fun h => by simp at h)
    refine W_evK [2] (by simp; rfl) ?_
    refine W_ret ?_
    repeat (first | refine on_ret ?_ | refine in_ret ?_)
    have hall2 : o.txt.all (fun t => !txB S t) = false := by rw [hall, hx]; simp
    simp [retQ, hmod, restM, hall2]
   have hxf : txB S x = false := by simpa using hx
   refine W_cond (t := false) (by simp [hxf]) (fun h => by simp at h) (fun h => ?_)
   refine W_skip ?_
   refine W_cutH 4 (by simp) (by simp) (by simp [frUnder, AV.under, AV.underL]) (by simp [underH, AObj.under, AV.under, AV.underL, underL_obC, entU_secE, entU_namE]) ?_
   refine W_evE [1, 3, 38, 39, 40] (by simp [wi]; rfl) ?_
   exact ⟨_, by omega, i + 1, rfl, by omega, by rw [hall, hxf]; simp, by simp⟩
  have hie : i = o.txt.length := by omega
  rw [hie, List.drop_length, List.all_nil] at hall
  refine W_evK [1, 3, 38, 39, 40, 41] (by simp [c]; rfl) ?_
  refine W_seq ?_
  refine W_cond rfl (fun h => by simp [hie] at h) (fun h => ?_)
  refine W_keepS [1, 3] ?_
  refine W_exit ?_
  exact ⟨hall, by simp⟩
 rintro _ ⟨hall1, rfl⟩
 refine W_seqK (fun σ => o.rld.all (fun r => !rdB S nx r) = true ∧ σ = ⟨129, [(1, .loc 0 0), (3, .loc 3 0)], HC S N nx (obC o) []⟩) ?_ ?_
 ·refine W_evK [1, 3, 68, 69, 70] (by simp [obC]; rfl) ?_
  refine W_block ?_
  refine W_loop (fun k σ => ∃ (i : Nat), k = o.rld.length - i ∧ i ≤ o.rld.length ∧ o.rld.all (fun r => !rdB S nx r) = (o.rld.drop i).all (fun r => !rdB S nx r) ∧ σ = ⟨129, [(1, .loc 0 0), (3, .loc 3 0), (68, .lst .any 5 (rdL o.rld)), (69, .v (.int .i64 (o.rld.length : Nat))), (70, .v (.int .i64 (i : Nat)))], HC S N nx (obC o) []⟩) (k := o.rld.length) ⟨0, rfl, by omega, by simp, by simp [obC]⟩ ?_
  rintro k σ ⟨i, rfl, hi, hall, rfl⟩
  by_cases c : i < o.rld.length
  ·have ci : (i : Int) < o.rld.length := by omega
   obtain ⟨x, hs⟩ : ∃ x, o.rld[i]? = some x := ⟨_, List.getElem?_eq_getElem c⟩
   have hs2 : o.rld[i]'c = x := by rw [List.getElem?_eq_getElem c] at hs; exact Option.some.inj hs
   have hdr : o.rld.drop i = x :: o.rld.drop (i + 1) := by rw [List.drop_eq_getElem_cons c, hs2]
   have hxa := hr x (List.mem_of_getElem? hs)
   have wi := w64 (n := (i : Int) + 1) (by omega) (by omega)
   rw [hdr, List.all_cons] at hall
   refine W_evK [1, 3, 68, 69, 70, 71] (by simp [ci]; rfl) ?_
   refine W_seq ?_
   refine W_cond rfl (fun h => ?_) (fun h => by simp [c] at h)
   refine W_skip ?_
   refine W_seq ?_
   refine W_block ?_
   refine W_evK [1, 3, 68, 69, 70, 7] (by simp [c, ci, hs2, setSeg]; rfl) ?_
   have hlies := lies_callW S N nx (obC o) 80 (rdC x) x.in_ x.addr x.len hS hxa (underL_obC _ _) (by simp [rdC, AV.underL, AV.under])
   simp only [rdC] at hlies
   refine W_seqC (fun σ => σ = ⟨129, [(1, .loc 0 0), (3, .loc 3 0), (68, .lst .any 5 (rdL o.rld)), (69, .v (.int .i64 (o.rld.length : Nat))), (70, .v (.int .i64 (i : Nat))), (106, .v (.bool (rdB S nx x)))], HC S N nx (obC o) [.cells 80 (rdC x)]⟩) ?_ ?_
   ·by_cases c1 : x.len < 1
    ·refine W_rsE 30 [1, 3, 68, 69, 70, 106] mx (by decide +kernel) ?_
     refine runD_pre 6 (by simp [rdC, c1]; rfl) rfl ?_
     refine runD_pre 6 (by simp [rdC, c1]; rfl) rfl ?_
     refine runD_pre 6 (by simp [rdC, c1]; rfl) rfl ?_
     refine runD_pre 6 (by simp [rdC, c1]; rfl) rfl ?_
     refine runD_fin (by simp [rdC, c1]; rfl) ?_
     refine runA_fin (by simp; rfl) ?_
     simp [onNormal, rdB, rdC, AV.weak, c1]
    by_cases c2 : 4 < x.len
    ·refine W_rsE 30 [1, 3, 68, 69, 70, 106] mx (by decide +kernel) ?_
     refine runD_pre 6 (by simp [rdC, c1, c2]; rfl) rfl ?_
     refine runD_pre 6 (by simp [rdC, c1, c2]; rfl) rfl ?_
     refine runD_pre 6 (by simp [rdC, c1, c2]; rfl) rfl ?_
     refine runD_pre 6 (by simp [rdC, c1, c2]; rfl) rfl ?_
     refine runD_fin (by simp [rdC, c1, c2]; rfl) ?_
     refine runA_fin (by simp; rfl) ?_
     simp [onNormal, rdB, rdC, AV.weak, c1, c2]
    by_cases c3 : x.to_ < 1
    ·refine W_rsE 30 [1, 3, 68, 69, 70, 106] mx (by decide +kernel) ?_
     refine runD_pre 6 (by simp [rdC, c1, c2, c3]; rfl) rfl ?_
     refine runD_pre 6 (by simp [rdC, c1, c2, c3]; rfl) rfl ?_
     refine runD_pre 6 (by simp [rdC, c1, c2, c3]; rfl) rfl ?_
     refine runD_pre 6 (by simp [rdC, c1, c2, c3]; rfl) rfl ?_
     refine runD_fin (by simp [rdC, c1, c2, c3]; rfl) ?_
     refine runA_fin (by simp; rfl) ?_
     simp [onNormal, rdB, rdC, AV.weak, c1, c2, c3]
    by_cases c4 : nx ≤ x.to_
    ·refine W_rsE 30 [1, 3, 68, 69, 70, 106] mx (by decide +kernel) ?_
     refine runD_pre 6 (by simp [rdC, c1, c2, c3, c4]; rfl) rfl ?_
     refine runD_pre 6 (by simp [rdC, c1, c2, c3, c4]; rfl) rfl ?_
     refine runD_pre 6 (by simp [rdC, c1, c2, c3, c4]; rfl) rfl ?_
     refine runD_pre 6 (by simp [rdC, c1, c2, c3, c4]; rfl) rfl ?_
     refine runD_fin (by simp [rdC, c1, c2, c3, c4]; rfl) ?_
     refine runA_fin (by simp; rfl) ?_
     simp [onNormal, rdB, rdC, AV.weak, c1, c2, c3, c4]
    refine W_rsE 30 [1, 3, 68, 69, 70, 106] mx (by decide +kernel) ?_
    refine runD_pre 6 (by simp [rdC, c1, c2, c3, c4]; rfl) rfl ?_
    refine runD_pre 6 (by simp [rdC, c1, c2, c3, c4]; rfl) rfl ?_
    refine runD_pre 6 (by simp [rdC, c1, c2, c3, c4]; rfl) rfl ?_
    refine runD_pre 6 (by simp [rdC, c1, c2, c3, c4]; rfl) rfl ?_
    refine runD_fin (by simp [rdC, c1, c2, c3, c4]; rfl) ?_
    refine runA_obj (f := 68) (args := [.loc 3 0, .v (.int .i64 x.in_), .v (.int .i64 x.addr), .v (.int .i64 x.len)]) (by simp) (by simp [callArgsO, calleeA]) (hlies.mono ?_)
    rintro _ _ ⟨rfl, rfl⟩
    refine ⟨_, by simp; rfl, ?_⟩
    refine runA_fin (by simp; rfl) ?_
    simp [onNormal, rdB, rdC, AV.weak, c1, c2, c3, c4]
   rintro _ rfl
   by_cases hx : rdB S nx x = true
   ·refine W_cond (t := true) (by simp [hx]) (fun h => ?_) (fun h => by simp at h)
    refine W_evK [2] (by simp; rfl) ?_
    refine W_ret ?_
    repeat (first | refine on_ret ?_ | refine in_ret ?_)
    have hall2 : o.rld.all (fun r => !rdB S nx r) = false := by rw [hall, hx]; simp
    simp [retQ, hmod, restM, hall1, hall2]
   have hxf : rdB S nx x = false := by simpa using hx
   refine W_cond (t := false) (by simp [hxf]) (fun h => by simp at h) (fun h => ?_)
   refine W_skip ?_
   refine W_cutH 4 (by simp) (by simp) (by simp [frUnder, AV.under, AV.underL]) (by simp [underH, AObj.under, AV.under, AV.underL, underL_obC, entU_secE, entU_namE]) ?_
   refine W_evE [1, 3, 68, 69, 70] (by simp [wi]; rfl) ?_
   exact ⟨_, by omega, i + 1, rfl, by omega, by rw [hall, hxf]; simp, by simp⟩
  have hie : i = o.rld.length := by omega
  rw [hie, List.drop_length, List.all_nil] at hall
  refine W_evK [1, 3, 68, 69, 70, 71] (by simp [c]; rfl) ?_
  refine W_seq ?_
  refine W_cond rfl (fun h => by simp [hie] at h) (fun h => ?_)
  refine W_keepS [1, 3] ?_
  refine W_exit ?_
  exact ⟨hall, by simp⟩
 rintro _ ⟨hall2, rfl⟩
 refine W_seq ?_
 refine W_seqC (fun σ => σ = ⟨129, [(1, .loc 0 0), (8, .v (.int .i64 ((getN o.entry N).getD 0))), (9, .v (.bool (getN o.entry N).isSome))], HC S N nx (obC o) []⟩) ?_ ?_
 ·have hf := mfind_namE o.entry N
  cases hg : getN o.entry N with
  | none =>
   rw [hg] at hf
   refine W_forget [1, 8, 9] (W_drawP 6 mx (by decide +kernel) ?_)
   refine runD_fin (by simp [obC, strB]; rfl) ?_
   refine anyT_all [6] (by decide +kernel) (by simp) ?_
   intro i hi
   simp only [List.mem_cons, List.not_mem_nil, or_false] at hi
   subst hi
   refine ⟨_, rfl, ?_⟩
   refine (show runA Try.prog _ [_] _ _ from ?_)
   refine runA_fin (by simp [evLookup, mapOf, keyOfA, hf]; rfl) ?_
   refine anyT_take 7 rfl (by decide +kernel) (gives_move 115 rfl rfl rfl) rfl ?_
   refine anyT_take 8 rfl (by decide +kernel) (gives_extract 108 rfl rfl rfl rfl) rfl ?_
   refine anyT_take 9 rfl (by decide +kernel) (gives_extract 108 rfl rfl rfl rfl) rfl ?_
   refine anyT_all [10] (by decide +kernel) (by simp) ?_
   intro i hi
   simp only [List.mem_cons, List.not_mem_nil, or_false] at hi
   subst hi
   refine ⟨_, rfl, ?_⟩
   refine (show runA Try.prog _ [_] _ _ from ?_)
   refine runA_fin (by simp; rfl) ?_
   refine anyT_all [11] (by decide +kernel) (by simp) ?_
   intro i hi
   simp only [List.mem_cons, List.not_mem_nil, or_false] at hi
   subst hi
   refine ⟨_, rfl, ?_⟩
   refine (show runA Try.prog _ [_] _ _ from ?_)
   refine runA_fin (by simp; rfl) ?_
   refine anyT_done (by decide +kernel) ?_
   simp [onNormal, obC, strB, keepF]
  | some k =>
   rw [hg] at hf
   refine W_forget [1, 8, 9] (W_drawP 6 mx (by decide +kernel) ?_)
   refine runD_fin (by simp [obC, strB]; rfl) ?_
   refine anyT_all [6] (by decide +kernel) (by simp) ?_
   intro i hi
   simp only [List.mem_cons, List.not_mem_nil, or_false] at hi
   subst hi
   refine ⟨_, rfl, ?_⟩
   refine (show runA Try.prog _ [_] _ _ from ?_)
   refine runA_fin (by simp [evLookup, mapOf, keyOfA, hf]; rfl) ?_
   refine anyT_take 7 rfl (by decide +kernel) (gives_move 115 rfl rfl rfl) rfl ?_
   refine anyT_take 8 rfl (by decide +kernel) (gives_extract 108 rfl rfl rfl rfl) rfl ?_
   refine anyT_take 9 rfl (by decide +kernel) (gives_extract 108 rfl rfl rfl rfl) rfl ?_
   refine anyT_all [10] (by decide +kernel) (by simp) ?_
   intro i hi
   simp only [List.mem_cons, List.not_mem_nil, or_false] at hi
   subst hi
   refine ⟨_, rfl, ?_⟩
   refine (show runA Try.prog _ [_] _ _ from ?_)
   refine runA_fin (by simp; rfl) ?_
   refine anyT_all [11] (by decide +kernel) (by simp) ?_
   intro i hi
   simp only [List.mem_cons, List.not_mem_nil, or_false] at hi
   subst hi
   refine ⟨_, rfl, ?_⟩
   refine (show runA Try.prog _ [_] _ _ from ?_)
   refine runA_fin (by simp; rfl) ?_
   refine anyT_done (by decide +kernel) ?_
   simp [onNormal, obC, strB, keepF]
 rintro _ rfl
 refine W_seqC (fun σ => σ = ⟨129, [(128, .v (.bool (entB N o.entry)))], HC S N nx (obC o) []⟩) ?_ ?_
 ·by_cases c1 : o.entry = []
  ·refine W_evE [128] (by simp [obC, strB, c1]; rfl) ?_
   simp [onNormal, entB, c1, obC, strB]
  have c1b : (o.entry == []) = false := beq_eq_false_iff_ne.2 c1
  cases hg : (getN o.entry N).isSome with
  | false =>
   refine W_evE [128] (by simp [obC, strB, c1b]; rfl) ?_
   simp [onNormal, entB, c1b, obC, strB, hg]
  | true =>
   refine W_evE [128] (by simp [obC, strB, c1b]; rfl) ?_
   simp [onNormal, entB, c1b, obC, strB, hg]
 rintro _ rfl
 by_cases hE : entB N o.entry = true
 ·refine W_cond (t := true) (by simp [hE]) (fun h => ?_) (fun h => by simp at h)
  refine W_evK [2] (by simp; rfl) ?_
  refine W_ret ?_
  repeat (first | refine on_ret ?_ | refine in_ret ?_)
  simp [retQ, hmod, restM, hall1, hall2, hE]
 have hEf : entB N o.entry = false := by simpa using hE
 refine W_cond (t := false) (by simp [hEf]) (fun h => by simp at h) (fun h => ?_)
 refine W_skip ?_
 refine W_evK [2] (by simp; rfl) ?_
 refine W_ret ?_
 repeat (first | refine on_ret ?_ | refine in_ret ?_)
 simp [retQ, hmod, restM, hall1, hall2, hEf]
end Go.AM
