/- Parts of the walk: C31LB C31LT C31OA C31OB C31DA. -/
import Derived.Test.YtlhaljblcimnbaaG7
namespace Go.AM
open Go.RowKit Go.Proofs
set_option linter.unusedSimpArgs false
set_option linter.unusedVariables false
set_option maxHeartbeats 8000000
def u16L (l : List Nat) : List AV := l.map fun n => .v (.int .u16 (n : Nat))
@[simp] theorem u16L_length (l : List Nat) : (u16L l).length = l.length := by simp [u16L]
@[simp] theorem u16L_getElem (l : List Nat) (i : Nat) (h : i < (u16L l).length) : (u16L l)[i] = .v (.int .u16 (l[i]'(by simpa using h) : Nat)) := by simp [u16L]
@[simp] theorem dpL_u16L (l : List Nat) : AV.dpL (u16L l) = u16L l := by induction l <;> simp_all [u16L, AV.dpL, AV.dp]
structure SeedM where
 esds : List UInt8
 txts : List Nat
 rlds : List Nat
 entry : UInt8
 data : List UInt8
def zj9 (x : SeedM) : List AV := [.lst .any 1 (byL x.esds), .lst .any 1 (u16L x.txts), .lst .any 1 (u16L x.rlds), .v (.int .u8 x.entry.toNat), .lst .any 1 (byL x.data)]
@[simp] def seedA (x : SeedM) : AV := .agg [.lst .any 1 (byL x.esds), .lst .any 1 (u16L x.txts), .lst .any 1 (u16L x.rlds), .v (.int .u8 x.entry.toNat), .lst .any 1 (byL x.data)]
@[simp] theorem killL_seedC (t : Nat) (x : SeedM) : AV.killL t (zj9 x) = zj9 x := by simp [zj9, AV.killL, AV.kill]
theorem xv9 (t : Nat) (x : SeedM) : AV.underL t (zj9 x) = true := by simp [zj9, AV.underL, AV.under]
end Go.AM
namespace Go.AM
open Go.RowKit Go.Proofs
set_option linter.unusedSimpArgs false
set_option linter.unusedVariables false
set_option maxHeartbeats 1000000
structure TF (P : Program) : Prop where
 u3 : P.underlying 3 = some (.int .i64)
 u4 : P.underlying 4 = some .bool
 u5 : P.underlying 5 = some (.int .u8)
 u56 : P.underlying 56 = some (.int .u16)
 u27 : P.underlying 27 = some (.slice 5)
 u28 : P.underlying 28 = some (.slice 56)
 u37 : P.underlying 37 = some (.slice 85)
 u38 : P.underlying 38 = some (.slice 83)
 c5 : P.cellsOf 5 = 1
 c56 : P.cellsOf 56 = 1
 c85 : P.cellsOf 85 = 3
 c83 : P.cellsOf 83 = 4
 c40 : P.cellsOf 40 = 4
 c30 : P.cellsOf 30 = 5
 b5 : P.bytesOf 5 = 1
 b56 : P.bytesOf 56 = 2
 f85 : flds P 85 = some [(3, 0, 1), (3, 1, 1), (4, 2, 1)]
 f83 : flds P 83 = some [(3, 0, 1), (3, 1, 1), (3, 2, 1), (3, 3, 1)]
 f40 : flds P 40 = some [(27, 0, 1), (37, 1, 1), (38, 2, 1), (3, 3, 1)]
 f30 : flds P 30 = some [(27, 0, 1), (28, 1, 1), (28, 2, 1), (5, 3, 1), (27, 4, 1)]
theorem tf : TF Try.prog := ⟨by kernel_rfl, by kernel_rfl, by kernel_rfl, by kernel_rfl, by kernel_rfl, by kernel_rfl, by kernel_rfl, by kernel_rfl, by kernel_rfl, by kernel_rfl, by kernel_rfl, by kernel_rfl, by kernel_rfl, by kernel_rfl, by kernel_rfl, by kernel_rfl, by kernel_rfl, by kernel_rfl, by kernel_rfl, by kernel_rfl⟩
section
variable {P : Program}
theorem ty_slice {n : Nat} {t e : TypeId} {x : AV} (hu : P.underlying t = some (.slice e)) (h : TyV P (n + 1) t x) : ∃ o l, x = .lst o (P.cellsOf e) l ∧ l.length ≤ maxLen ∧ l.length * P.bytesOf e ≤ 140737488351232 ∧ ∀ y ∈ l, TyV P n e y := by
 rcases h with ⟨h1, _⟩ | ⟨_, h⟩
 ·simp [isSt, hu] at h1
 ·simp only [TyC, hu] at h
  obtain ⟨o, l, hl, hmax, _, _, hx⟩ := h
  simp only [List.cons.injEq, and_true] at hl
  exact ⟨o, l, hl, hmax.1, hmax.2, hx⟩
theorem dpL_choose {β : Type} {F : β → AV} {Q : β → Prop} : ∀ {l : List AV}, (∀ y ∈ l, ∃ b, y.dp = F b ∧ Q b) → ∃ bs : List β, AV.dpL l = bs.map F ∧ bs.length = l.length ∧ ∀ b ∈ bs, Q b
 | [], _ => ⟨[], rfl, rfl, by simp⟩
 | y :: l, h => by
  obtain ⟨b, h1, h2⟩ := h y (by simp)
  obtain ⟨bs, k1, k2, k3⟩ := dpL_choose (l := l) fun y hy => h y (by simp [hy])
  refine ⟨b :: bs, by simp [AV.dpL, h1, k1], by simp [k2], fun c hc => ?_⟩
  rcases List.mem_cons.1 hc with rfl | hc
  ·exact h2
  ·exact k3 c hc
theorem len5 {α : Type} {l : List α} (h : l.length = 5) : ∃ a b c d e, l = [a, b, c, d, e] := by
 match l, h with
 | [a, b, c, d, e], _ => exact ⟨a, b, c, d, e, rfl⟩
theorem fldAt {n : Nat} {ys : List AV} {l : List (TypeId × Nat × Nat)} (hf : ∀ p ∈ l, TyC P n p.1 ((ys.drop p.2.1).take p.2.2)) (t : TypeId) (i : Nat) (x : AV) (hm : (t, i, 1) ∈ l) (hx : ys[i]? = some x) (hs : isSt P t = false) : TyV P n t x := by
 have h := hf _ hm
 simp only at h
 have e : (ys.drop i).take 1 = [x] := by
  obtain ⟨h1, h2⟩ := List.getElem?_eq_some_iff.1 hx
  rw [List.drop_eq_getElem_cons h1, h2]; rfl
 rw [e] at h
 exact .inr ⟨hs, h⟩
theorem ty_u16 {n : Nat} {t : TypeId} {x : AV} (hu : P.underlying t = some (.int .u16)) (h : TyV P (n + 1) t x) : ∃ b : Nat, x = .v (.int .u16 b) ∧ b < 65536 := by
 obtain ⟨m, rfl, h1, h2⟩ := ty_int hu h
 rw [show IntKind.u16.min = 0 from by decide +kernel] at h1
 rw [show IntKind.u16.max = 65535 from by decide +kernel] at h2
 obtain ⟨b, rfl⟩ : ∃ b : Nat, m = b := ⟨m.toNat, by omega⟩
 exact ⟨b, rfl, by omega⟩
theorem ty_u16s (T : TF P) {n : Nat} {x : AV} (h : TyV P (n + 3) 28 x) : ∃ l : List Nat, x.dp = .lst .any 1 (u16L l) ∧ l.length ≤ 140737488351232 ∧ ∀ n ∈ l, n < 65536 := by
 obtain ⟨o, l, rfl, _, hl, hy⟩ := ty_slice T.u28 h
 rw [T.b56] at hl
 obtain ⟨bs, h1, h2, h3⟩ := dpL_choose (F := fun n : Nat => AV.v (.int .u16 n)) (Q := fun n => n < 65536) (l := l) fun y hm => by
  obtain ⟨b, rfl, hb⟩ := ty_u16 T.u56 (hy y hm)
  exact ⟨b, rfl, hb⟩
 exact ⟨bs, by simp only [AV.dp, h1, T.c56]; rfl, by rw [h2]; omega, h3⟩
theorem ty_seed (T : TF P) {n : Nat} {x : AV} (h : TyV P (n + 5) 30 x) : ∃ m : SeedM, x.dp = seedA m ∧ (∀ n ∈ m.txts, n < 65536) ∧ (∀ n ∈ m.rlds, n < 65536) ∧ m.esds.length ≤ 9223372036854775000 ∧ m.txts.length ≤ 9223372036854775000 ∧ m.rlds.length ≤ 9223372036854775000 ∧ m.data.length ≤ 9223372036854775000 := by
 obtain ⟨ys, rfl, hl, hf⟩ := ty_struct T.f30 T.c30 h
 obtain ⟨a, b, c, d, e, rfl⟩ := len5 hl
 obtain ⟨o0, t, rfl, _, k0⟩ := ty_bytes T.u27 T.u5 T.c5 (fldAt hf 27 0 _ (by simp) rfl (by simp [isSt, T.u27]))
 obtain ⟨l1, h1, k1, b1⟩ := ty_u16s T (n := n + 1) (fldAt hf 28 1 _ (by simp) rfl (by simp [isSt, T.u28]))
 obtain ⟨l2, h2, k2, b2⟩ := ty_u16s T (n := n + 1) (fldAt hf 28 2 _ (by simp) rfl (by simp [isSt, T.u28]))
 obtain ⟨u, rfl⟩ := ty_u8 T.u5 (fldAt hf 5 3 _ (by simp) rfl (by simp [isSt, T.u5]))
 obtain ⟨o4, t4, rfl, _, k4⟩ := ty_bytes T.u27 T.u5 T.c5 (fldAt hf 27 4 _ (by simp) rfl (by simp [isSt, T.u27]))
 have e : AV.dpL (t.map fun b : UInt8 => AV.v (.int .u8 b.toNat)) = byL t := dpL_byL t
 have e4 : AV.dpL (t4.map fun b : UInt8 => AV.v (.int .u8 b.toNat)) = byL t4 := dpL_byL t4
 rw [T.b5] at k0 k4
 refine ⟨⟨t, l1, l2, u, t4⟩, ?_, b1, b2, by simp only; omega, by simp only; omega, by simp only; omega, by simp only; omega⟩
 simp only [AV.dp, AV.dpL, e, e4, seedA, h1, h2]
end
end Go.AM
namespace Go.AM
open Go.RowKit Go.Proofs
set_option linter.unusedSimpArgs false
set_option linter.unusedVariables false
set_option maxHeartbeats 4000000
def isSec (id : Int) (x : Esd) : Bool := decide (x.kind = 1) && decide (x.id = id)
def isS1 (x : Esd) : Bool := decide (x.kind = 1)
def isTg (id : Int) (x : Esd) : Bool := !decide (x.kind = 2) && decide (x.id = id)
def isDf (n : List UInt8) (x : Esd) : Bool := !decide (x.kind = 3) && (x.name == n)
def es0 : Esd := ⟨[], 0, 0, 0, 0⟩
end Go.AM
namespace Go.AM
open Go.RowKit Go.Proofs
set_option linter.unusedSimpArgs false
set_option linter.unusedVariables false
set_option maxHeartbeats 1000000
structure EInv (p : List Esd) (S : List (Int × Esd)) (N : List (List UInt8 × Int)) (nx : Int) : Prop where
 n1 : ∀ s, s ≠ [] → getN s N = (p.find? (fun y => y.name == s)).map (·.kind)
 s1 : ∀ id, getS id S = p.find? (isSec id)
 t1 : ∀ id, p.any (isTg id) = (decide (1 ≤ id) && decide (id < nx))
 u1 : ∀ s, s ≠ [] → p.any (isDf s) = ((p.find? (fun y => y.name == s)).map (fun y => !decide (y.kind = 3))).getD false
 ok : SOk S
 n0 : 1 ≤ nx
theorem EInv.nil : EInv [] [] [] 1 := by
 refine ⟨fun s _ => rfl, fun id => rfl, fun id => ?_, fun s _ => rfl, fun i x h => by simp [getS] at h, by omega⟩
 rw [Bool.eq_iff_iff]
 simp
 try omega
theorem EInv.step {p : List Esd} {S : List (Int × Esd)} {N : List (List UInt8 × Int)} {nx : Int} {x : Esd} (h : EInv p S N nx) (hr : zk8 nx x = true) (hd : dupM N x = false) : EInv (p ++ [x]) (S1 S x) (N1 N x) (nx1 nx x) := by
 have hdn : x.name ≠ [] → p.find? (fun y => y.name == x.name) = none := by
  intro hne
  have h1 := h.n1 x.name hne
  have h2 : getN x.name N = none := by
   unfold dupM at hd
   cases e : getN x.name N with
   | none => rfl
   | some k => rw [e] at hd; simp [hne] at hd
  rw [h2] at h1
  cases e : p.find? (fun y => y.name == x.name) with
  | none => rfl
  | some y => rw [e] at h1; cases h1
 have hkind : x.kind = 1 ∨ x.kind = 2 ∨ x.kind = 3 := by
  unfold zk8 at hr
  split at hr
  ·exact .inl (by assumption)
  ·split at hr
   ·exact .inr (.inl (by assumption))
   ·split at hr
    ·exact .inr (.inr (by assumption))
    ·cases hr
 have hid : x.kind ≠ 2 → x.id = nx := by
  intro h2
  unfold zk8 at hr
  rcases hkind with e | e | e
  ·rw [if_pos e] at hr
   simp only [rule1, Bool.and_eq_true, decide_eq_true_eq] at hr
   exact hr.1
  ·exact absurd e h2
  ·rw [if_neg (by omega), if_neg (by omega), if_pos e] at hr
   simp only [rule3, Bool.and_eq_true, decide_eq_true_eq] at hr
   exact hr.1
 refine ⟨fun s hs => ?_, fun id => ?_, fun id => ?_, fun s hs => ?_, SOk_S1 h.ok hr, ?_⟩
 ·rw [N1, getN_updN, List.find?_append]
  by_cases e : s = x.name
  ·subst e
   rw [if_pos rfl, hdn hs]
   simp [List.find?]
  ·rw [if_neg e, h.n1 s hs]
   have e2 : (x.name == s) = false := by simpa using fun h => e h.symm
   simp [List.find?, e2]
 ·rw [List.find?_append, S1]
  by_cases e : x.kind = 1
  ·rw [if_pos e, getS_updS]
   have hx := hid (by omega)
   by_cases e2 : id = x.id
   ·rw [if_pos e2]
    have h3 : p.find? (isSec id) = none := by
     rw [List.find?_eq_none]
     intro y hy hs
     have h4 := h.t1 id
     have h5 : p.any (isTg id) = true := List.any_eq_true.2 ⟨y, hy, by
      simp only [isSec, Bool.and_eq_true, decide_eq_true_eq] at hs
      simp [isTg, hs.1, hs.2]⟩
     rw [h5] at h4
     have h6 := h4.symm
     simp only [Bool.and_eq_true, decide_eq_true_eq] at h6
     omega
    rw [h3]
    simp [List.find?, isSec, e, e2]
   ·rw [if_neg e2, h.s1 id]
    have : isSec id x = false := by
     have e3 : ¬ x.id = id := fun h => e2 h.symm
     simp [isSec, e3]
    simp [List.find?, this]
  ·rw [if_neg e, h.s1 id]
   have : isSec id x = false := by simp [isSec, e]
   simp [List.find?, this]
 ·rw [List.any_append, h.t1 id, nx1]
  rw [Bool.eq_iff_iff]
  have := h.n0
  by_cases e : x.kind = 2
  ·rw [if_pos e]
   simp [isTg, e]
  ·rw [if_neg e]
   have hx := hid e
   simp [isTg, e, hx]
   omega
 ·rw [List.any_append, List.find?_append, h.u1 s hs]
  by_cases e : s = x.name
  ·subst e
   rw [hdn hs]
   simp [List.find?, isDf]
  ·have e2 : (x.name == s) = false := by simpa using fun h => e h.symm
   simp [List.find?, isDf, e2]
 ·have := h.n0
  rw [nx1]
  split <;> omega
theorem EInv.first {p : List Esd} {S : List (Int × Esd)} {N : List (List UInt8 × Int)} {nx : Int} (h : EInv p S N nx) : (p.find? isS1).isSome = decide (0 < S.length) := by
 cases S with
 | nil =>
  cases e : p.find? isS1 with
  | none => rfl
  | some y =>
   exfalso
   have h1 := h.s1 y.id
   have h2 : (p.find? (isSec y.id)).isSome = true := by
    rw [List.find?_isSome]
    have hy := List.find?_some e
    exact ⟨y, List.mem_of_find?_eq_some e, by simpa [isSec, isS1] using hy⟩
   rw [← h1] at h2
   simp [getS] at h2
 | cons q S =>
  have h1 := h.s1 q.1
  obtain ⟨k, z⟩ := q
  simp only [getS, if_true] at h1
  have h3 := List.find?_some h1.symm
  have h4 := List.mem_of_find?_eq_some h1.symm
  have : (p.find? isS1).isSome = true := by
   rw [List.find?_isSome]
   refine ⟨z, h4, ?_⟩
   simp only [isSec, Bool.and_eq_true] at h3
   exact h3.1
  rw [this]
  simp
theorem EInv.dup {p : List Esd} {S : List (Int × Esd)} {N : List (List UInt8 × Int)} {nx : Int} (h : EInv p S N nx) (x : Esd) : dupM N x = (!decide (x.name = []) && p.any fun y => y.name == x.name) := by
 unfold dupM
 by_cases e : x.name = []
 ·simp [e]
 ·rw [h.n1 _ e]
  have e2 : (x.name == []) = false := by simpa using e
  rw [Option.isSome_map, e2, Bool.not_false, Bool.and_true, decide_eq_false e, Bool.not_false, Bool.true_and]
  rw [Bool.eq_iff_iff, List.find?_isSome, List.any_eq_true]
theorem EInv.entry {p : List Esd} {S : List (Int × Esd)} {N : List (List UInt8 × Int)} {nx : Int} (h : EInv p S N nx) (e : List UInt8) : entB N e = (!decide (e = []) && !(p.any (isDf e))) := by
 unfold entB
 by_cases e0 : e = []
 ·simp [e0]
 ·have e2 : (e == []) = false := by simpa using e0
  rw [h.n1 e e0, h.u1 e e0, e2, decide_eq_false e0]
  cases p.find? (fun y => y.name == e) with
  | none => rfl
  | some y =>
   simp only [Option.map_some, Option.isSome_some, Option.getD_some, Bool.not_false, Bool.true_and, Bool.not_true, Bool.false_or]
   rw [Bool.eq_iff_iff]
   simp
theorem yh7 : ∀ (l p : List Esd) (S S' : List (Int × Esd)) (N N' : List (List UInt8 × Int)) (nx nx' : Int), EInv p S N nx → yd8 l S N nx = some (S', N', nx') → EInv (p ++ l) S' N' nx'
 | [], p, S, S', N, N', nx, nx', h, hg => by
  simp only [yd8, Option.some.injEq, Prod.mk.injEq] at hg
  obtain ⟨rfl, rfl, rfl⟩ := hg
  simpa using h
 | x :: l, p, S, S', N, N', nx, nx', h, hg => by
  rw [yd8] at hg
  split at hg
  ·split at hg
   ·cases hg
   ·rename_i h1 h2
    have := yh7 l (p ++ [x]) _ S' _ N' _ nx' (h.step h1 (by simpa using h2)) hg
    simpa using this
  ·cases hg
end Go.AM
namespace Go.AM
open Go.RowKit Go.Proofs
set_option linter.unusedSimpArgs false
set_option linter.unusedVariables false
set_option maxHeartbeats 2000000
theorem putD_get (c l : List UInt8) (a : Nat) (h : a + l.length ≤ c.length) (j : Nat) : (putM c a l)[j]? = if a ≤ j ∧ j < a + l.length then l[j - a]? else c[j]? := by
 have hl : (c.take a ++ l).length = a + l.length := by rw [List.length_append, List.length_take]; omega
 have ht : (c.take a).length = a := by rw [List.length_take]; omega
 unfold putM
 by_cases h1 : j < a + l.length
 ·rw [List.getElem?_append_left (by omega)]
  by_cases h2 : a ≤ j
  ·rw [if_pos ⟨h2, h1⟩, List.getElem?_append_right (by omega), ht]
  ·rw [if_neg (by omega), List.getElem?_append_left (by omega), List.getElem?_take, if_pos (by omega)]
 ·rw [if_neg (by omega), List.getElem?_append_right (by omega), hl, List.getElem?_drop]
  congr 1
  omega
theorem wd9 (c l : List UInt8) (a : Nat) (h : a + l.length ≤ c.length) : (putM c a l).length = c.length := by
 unfold putM
 simp
 omega
def sbM (b : List UInt8) (a n : Nat) : List UInt8 := (b.drop a).take n
def nmM (l : List UInt8) : List UInt8 := decM (trimM l)
def rdE (x : List UInt8) (nx : Int) : Esd :=
 if x.getD 8 0 = 0 then ⟨nmM (x.take 8), 1, nx, valM (sbM x 9 3), valM (sbM x 13 3)⟩
 else if x.getD 8 0 = 1 then ⟨nmM (x.take 8), 2, valM (sbM x 13 3), valM (sbM x 9 3), 0⟩
 else ⟨nmM (x.take 8), 3, nx, 0, 0⟩
def rdEs (b : List UInt8) (base : List Esd) (nx : Int) : Nat → List Esd × Int
 | 0 => (base, nx)
 | k + 1 => ((rdEs b base nx k).1 ++ [rdE (b.drop (16 + 16 * k)) (rdEs b base nx k).2], nx1 (rdEs b base nx k).2 (rdE (b.drop (16 + 16 * k)) (rdEs b base nx k).2))
def rdR8 (x : List UInt8) : Rld := ⟨valM (sbM x 2 2), valM (x.take 2), valM (sbM x 5 3), ((x.getD 4 0).toNat / 4 + 1 : Nat), decide ((x.getD 4 0).toNat / 2 % 2 = 1)⟩
def rdRs (b : List UInt8) (n : Nat) : List Rld := (List.range n).map fun i => rdR8 (b.drop (16 + 8 * i))
def cntE (p : Bool) (v : Nat) : Nat := if p = true then min 3 (v / 16) else min 3 ((v + 15) / 16)
def cntR (p : Bool) (v : Nat) : Nat := if p = true then min 7 (v / 8) else min 7 ((v + 7) / 8)
def itemD (p : Bool) (s : OMod × Int) (b : List UInt8) : Option (OMod × Int) :=
 if decM (sbM b 1 3) = xq8 then some (⟨(rdEs b s.1.esd s.2 (cntE p (valM (sbM b 10 2)))).1, s.1.txt, s.1.rld, s.1.entry⟩, (rdEs b s.1.esd s.2 (cntE p (valM (sbM b 10 2)))).2)
 else if decM (sbM b 1 3) = xd8 then
  (if p = false ∧ 56 < valM (sbM b 10 2) then none else some (⟨s.1.esd, s.1.txt ++ [⟨valM (sbM b 14 2), valM (sbM b 5 3), sbM b 16 (min (valM (sbM b 10 2)) 56)⟩], s.1.rld, s.1.entry⟩, s.2))
 else if decM (sbM b 1 3) = wd8 then some (⟨s.1.esd, s.1.txt, s.1.rld ++ rdRs b (cntR p (valM (sbM b 10 2))), s.1.entry⟩, s.2)
 else if decM (sbM b 1 3) = vn9 then some (⟨s.1.esd, s.1.txt, s.1.rld, nmM (sbM b 16 8)⟩, s.2)
 else some s
def goD (p : Bool) : List (List UInt8) → OMod × Int → Option (OMod × Int)
 | [], s => some s
 | b :: r, s => if b.length = 80 then (match itemD p s b with | none => none | some s' => goD p r s') else none
def om0 : OMod := ⟨[], [], [], []⟩
def dcD (p : Bool) (L : List (List UInt8)) : OMod × Bool := match goD p L (om0, 1) with
 | none => (om0, false)
 | some s => if chkM s.1 = true ∧ encO s.1 = L then (s.1, true) else (om0, false)
theorem vg9 : ∀ (n v : Nat), v < 256 ^ n → valM (numM n v) = v
 | 0, v, h => by
  have : v = 0 := by simpa using h
  subst this
  rfl
 | n + 1, v, h => by
  rw [Nat.pow_succ] at h
  rw [numM, valM_snoc, vg9 n (v / 256) (by omega)]
  have : (UInt8.ofNat (v % 256)).toNat = v % 256 := by rw [UInt8.toNat_ofNat']; omega
  rw [this]
  omega
theorem sb_get (b : List UInt8) (a n j : Nat) : (sbM b a n)[j]? = if j < n then b[a + j]? else none := by
 unfold sbM
 rw [List.getElem?_take]
 split
 ·rw [List.getElem?_drop]
 ·rfl
theorem sb_in (c l : List UInt8) (a b n : Nat) (h : a + l.length ≤ c.length) (h1 : a ≤ b) (h2 : b + n ≤ a + l.length) : sbM (putM c a l) b n = sbM l (b - a) n := by
 apply List.ext_getElem?
 intro j
 rw [sb_get, sb_get]
 split
 ·rw [putD_get _ _ _ h, if_pos ⟨by omega, by omega⟩]
  congr 1
  omega
 ·rfl
theorem vv8 (c l : List UInt8) (a b n : Nat) (h : a + l.length ≤ c.length) (h1 : b + n ≤ a ∨ a + l.length ≤ b) : sbM (putM c a l) b n = sbM c b n := by
 apply List.ext_getElem?
 intro j
 rw [sb_get, sb_get]
 split
 ·rw [putD_get _ _ _ h, if_neg (by omega)]
 ·rfl
theorem sb_all (l : List UInt8) (n : Nat) (h : l.length = n) : sbM l 0 n = l := by
 unfold sbM
 rw [List.drop_zero, List.take_of_length_le (by omega)]
theorem sb_eq (c l : List UInt8) (a n : Nat) (h : a + l.length ≤ c.length) (hn : l.length = n) : sbM (putM c a l) a n = l := by
 rw [sb_in _ _ _ _ _ h (by omega) (by omega), Nat.sub_self, sb_all _ _ hn]
theorem sb_sb (b : List UInt8) (a n i k : Nat) (h : i + k ≤ n) : sbM (sbM b a n) i k = sbM b (a + i) k := by
 apply List.ext_getElem?
 intro j
 rw [sb_get, sb_get, sb_get]
 split
 ·rw [if_pos (by omega)]
  congr 1
  omega
 ·rfl
theorem drop_sb (b : List UInt8) (a i k : Nat) : sbM (b.drop a) i k = sbM b (a + i) k := by
 unfold sbM
 rw [List.drop_drop]
theorem zb7 (b : List UInt8) (k : Nat) : b.take k = sbM b 0 k := rfl
theorem getD_sb (b : List UInt8) (a n i : Nat) (h : i < n) : (sbM b a n).getD i 0 = b.getD (a + i) 0 := by
 rw [List.getD_eq_getElem?_getD, List.getD_eq_getElem?_getD, sb_get, if_pos h]
theorem getD_drop (b : List UInt8) (a i : Nat) : (b.drop a).getD i 0 = b.getD (a + i) 0 := by
 rw [List.getD_eq_getElem?_getD, List.getD_eq_getElem?_getD, List.getElem?_drop]
theorem rdE_sb (b : List UInt8) (a : Nat) (nx : Int) : rdE (b.drop a) nx = rdE (sbM b a 16) nx := by
 unfold rdE
 rw [zb7, zb7, drop_sb, drop_sb, drop_sb, getD_drop, sb_sb _ _ _ _ _ (by omega), sb_sb _ _ _ _ _ (by omega), sb_sb _ _ _ _ _ (by omega), getD_sb _ _ _ _ (by omega)]
theorem rdR8_sb (b : List UInt8) (a : Nat) : rdR8 (b.drop a) = rdR8 (sbM b a 8) := by
 unfold rdR8
 rw [zb7, zb7, drop_sb, drop_sb, drop_sb, getD_drop, sb_sb _ _ _ _ _ (by omega), sb_sb _ _ _ _ _ (by omega), sb_sb _ _ _ _ _ (by omega), getD_sb _ _ _ _ (by omega)]
theorem okB_code (b : UInt8) (h : okB b = true) : (cdM b).2 = true ∧ (cdM b).1 ≠ 64 ∧ dec1 (cdM b).1 = b := by
 have : ∀ n : Nat, n < 256 → okB (UInt8.ofNat n) = true → (cdM (UInt8.ofNat n)).2 = true ∧ (cdM (UInt8.ofNat n)).1 ≠ 64 ∧ dec1 (cdM (UInt8.ofNat n)).1 = UInt8.ofNat n := by decide +kernel
 have hh := this b.toNat b.toNat_lt
 rw [UInt8.ofNat_toNat] at hh
 exact hh h
theorem xh8 {s : List UInt8} (h : s.all okB = true) : xf9 s = enc1 s := by
 unfold xf9 encM
 rw [if_pos]
 unfold encOk
 rw [List.all_eq_true] at h ⊢
 exact fun b hb => (okB_code b (h b hb)).1
theorem trimM_pad (c : List UInt8) (k : Nat) (h : ∀ b ∈ c, b ≠ 64) : trimM (c ++ List.replicate k 64) = c := by
 unfold trimM
 rw [List.reverse_append, List.reverse_replicate]
 have h1 : ∀ (k : Nat) (r : List UInt8), (List.replicate k (64 : UInt8) ++ r).dropWhile (· == 64) = r.dropWhile (· == 64) := by
  intro k r
  induction k with
  | zero => simp
  | succ k ih => rw [List.replicate_succ, List.cons_append, List.dropWhile_cons]; simp
 rw [h1]
 have h2 : c.reverse.dropWhile (· == 64) = c.reverse := by
  cases e : c.reverse with
  | nil => rfl
  | cons x r =>
   have hx : x ∈ c := by rw [← List.mem_reverse, e]; simp
   rw [List.dropWhile_cons, if_neg (by simpa using h x hx)]
 rw [h2, List.reverse_reverse]
theorem nmM_pad {s : List UInt8} (h : s.all okB = true) (k : Nat) : nmM (xf9 s ++ List.replicate k 64) = s := by
 have h0 := List.all_eq_true.1 h
 rw [nmM, xh8 h, trimM_pad]
 ·unfold decM enc1
  rw [List.map_map]
  conv => rhs; rw [← List.map_id s]
  apply List.map_congr_left
  intro b hb
  exact (okB_code b (h0 b hb)).2.2
 ·intro b hb
  obtain ⟨a, ha, rfl⟩ := List.mem_map.1 hb
  exact (okB_code a (h0 a ha)).2.1
theorem vg8 (s : List UInt8) : (enc1 s).length = s.length := by simp [enc1]
theorem nm_item {s : List UInt8} (h : s.all okB = true) (hl : s.length ≤ 8) : nmM (sbM (putM (wr9 16) 0 (xf9 s)) 0 8) = s := by
 have hc : (xf9 s).length = s.length := by rw [xh8 h, vg8]
 have e : sbM (putM (wr9 16) 0 (xf9 s)) 0 8 = xf9 s ++ List.replicate (8 - s.length) 64 := by
  unfold sbM putM wr9
  rw [List.take_zero, List.nil_append, List.drop_zero, Nat.zero_add, List.drop_replicate, List.take_append, hc, List.take_of_length_le (by omega), List.take_replicate]
  congr 2
  omega
 rw [e, nmM_pad h]
theorem put16_len (s : List UInt8) (h : (xf9 s).length ≤ 8) : (putM (wr9 16) 0 (xf9 s)).length = 16 := by rw [wd9 _ _ _ (by simp; omega)]; simp
theorem set_putD (c : List UInt8) (i : Nat) (b : UInt8) (h : i < c.length) : c.set i b = putM c i [b] := by
 rw [putM, List.set_eq_take_append_cons_drop, if_pos h]
 simp
theorem rdE_item {x : Esd} {nx : Int} (hr : zk8 nx x = true) (ha : x.addr ≤ 1000000) (hi : 0 ≤ x.id ∧ x.id ≤ 1000000) (ha0 : 0 ≤ x.addr) : rdE (zc8 x) nx = x := by
 obtain ⟨name, kind, id, addr, len⟩ := x
 simp only at ha hi ha0
 have h256 : (256 : Nat) ^ 3 = 16777216 := by decide
 have key : ∀ (c : List UInt8), c.length = 16 → ∀ (t : UInt8), (c.set 8 t).length = 16 ∧ sbM (c.set 8 t) 0 8 = sbM c 0 8 ∧ (c.set 8 t).getD 8 0 = t := by
  intro c hc t
  rw [set_putD c 8 t (by omega)]
  refine ⟨by rw [wd9 _ _ _ (by simp; omega)]; exact hc, vv8 _ _ _ _ _ (by simp; omega) (.inl (by omega)), ?_⟩
  rw [List.getD_eq_getElem?_getD, putD_get _ _ _ (by simp; omega), if_pos (by simp)]
  rfl
 have two : ∀ (c : List UInt8) (u v : Nat), c.length = 16 → u < 16777216 → v < 16777216 → sbM (putM (putM c 9 (numM 3 u)) 13 (numM 3 v)) 0 8 = sbM c 0 8 ∧ (putM (putM c 9 (numM 3 u)) 13 (numM 3 v)).getD 8 0 = c.getD 8 0 ∧
   valM (sbM (putM (putM c 9 (numM 3 u)) 13 (numM 3 v)) 9 3) = u ∧ valM (sbM (putM (putM c 9 (numM 3 u)) 13 (numM 3 v)) 13 3) = v := by
  intro c u v hc hu hv
  have l1 : (putM c 9 (numM 3 u)).length = 16 := by rw [wd9 _ _ _ (by simp; omega)]; exact hc
  have b1 : 9 + (numM 3 u).length ≤ c.length := by simp; omega
  have b2 : 13 + (numM 3 v).length ≤ (putM c 9 (numM 3 u)).length := by simp; omega
  refine ⟨?_, ?_, ?_, ?_⟩
  ·rw [vv8 _ _ _ _ _ b2 (.inl (by omega)), vv8 _ _ _ _ _ b1 (.inl (by omega))]
  ·rw [List.getD_eq_getElem?_getD, List.getD_eq_getElem?_getD, putD_get _ _ _ b2, if_neg (by omega), putD_get _ _ _ b1, if_neg (by omega)]
  ·rw [vv8 _ _ _ _ _ b2 (.inl (by omega)), sb_eq _ _ _ _ b1 (by simp), vg9 _ _ (by omega)]
  ·rw [sb_eq _ _ _ _ b2 (by simp), vg9 _ _ (by omega)]
 have nameOk : ∀ s : List UInt8, (s = [] ∨ symM s = true) → s.all okB = true ∧ s.length ≤ 8 := by
  rintro s (rfl | h)
  ·exact ⟨rfl, by simp⟩
  ·simp only [symM, Bool.and_eq_true, decide_eq_true_eq] at h
   exact ⟨h.2.2.2, h.2.1⟩
 unfold zk8 at hr
 simp only at hr
 split at hr
 ·rename_i hk
  subst hk
  simp only [rule1, Bool.and_eq_true, Bool.or_eq_true, decide_eq_true_eq] at hr
  obtain ⟨a1, a2, a3, a4, a5, a6⟩ := hr
  obtain ⟨n1, n2⟩ := nameOk _ a6
  have l0 := put16_len name (by rw [xh8 n1, vg8]; exact n2)
  obtain ⟨k1, k2, k3⟩ := key _ l0 0
  obtain ⟨t1, t2, t3, t4⟩ := two _ addr.toNat len.toNat k1 (by omega) (by omega)
  unfold rdE zc8
  simp only [if_pos]
  rw [zb7, t1, t2, t3, t4, k2, k3, if_pos rfl, nm_item n1 n2]
  congr 1 <;> omega
 ·split at hr
  ·rename_i hk1 hk
   subst hk
   simp only [rule2, Bool.and_eq_true, decide_eq_true_eq] at hr
   obtain ⟨a1, a2⟩ := hr
   obtain ⟨n1, n2⟩ := nameOk _ (.inr a2)
   have l0 := put16_len name (by rw [xh8 n1, vg8]; exact n2)
   obtain ⟨k1, k2, k3⟩ := key _ l0 1
   obtain ⟨t1, t2, t3, t4⟩ := two _ addr.toNat id.toNat k1 (by omega) (by omega)
   unfold rdE zc8
   have e21 : ((2 : Int) = 1) = False := by simp
   simp only [e21, if_false, if_true]
   rw [zb7, t1, t2, t3, t4, k2, k3, if_neg (by decide), if_pos rfl, nm_item n1 n2]
   congr 1 <;> omega
  ·split at hr
   ·rename_i hk1 hk2 hk
    subst hk
    simp only [rule3, Bool.and_eq_true, decide_eq_true_eq] at hr
    obtain ⟨a1, a2, a3, a4⟩ := hr
    obtain ⟨n1, n2⟩ := nameOk _ (.inr a4)
    have l0 := put16_len name (by rw [xh8 n1, vg8]; exact n2)
    obtain ⟨k1, k2, k3⟩ := key _ l0 2
    unfold rdE zc8
    have e31 : ((3 : Int) = 1) = False := by simp
    have e32 : ((3 : Int) = 2) = False := by simp
    simp only [e31, e32, if_false]
    rw [zb7, k2, k3, if_neg (by decide), if_neg (by decide), nm_item n1 n2]
    congr 1 <;> omega
   ·cases hr
end Go.AM
