/- Parts of the walk: C31OA C31OB C31DA C31DB C31DC. -/
import Derived.Test.YtlhaljblcimnbaaG10
namespace Go.AM
open Go.RowKit Go.Proofs
set_option linter.unusedSimpArgs false
set_option linter.unusedVariables false
set_option maxHeartbeats 4000000
def isSec (id : Int) (x : Esd) : Bool := decide (x.kind = 1) && decide (x.id = id)
def isS1 (x : Esd) : Bool := decide (x.kind = 1)
def isTg (id : Int) (x : Esd) : Bool := !decide (x.kind = 2) && decide (x.id = id)
def isDf (n : List UInt8) (x : Esd) : Bool := !decide (x.kind = 3) && (x.name == n)
def es0 : Esd := ⟨[], 0, 0, 0, 0⟩
end Go.AM
namespace Go.AM
open Go.RowKit Go.Proofs
set_option linter.unusedSimpArgs false
set_option linter.unusedVariables false
set_option maxHeartbeats 1000000
structure EInv (p : List Esd) (S : List (Int × Esd)) (N : List (List UInt8 × Int)) (nx : Int) : Prop where
 n1 : ∀ s, s ≠ [] → getN s N = (p.find? (fun y => y.name == s)).map (·.kind)
 s1 : ∀ id, getS id S = p.find? (isSec id)
 t1 : ∀ id, p.any (isTg id) = (decide (1 ≤ id) && decide (id < nx))
 u1 : ∀ s, s ≠ [] → p.any (isDf s) = ((p.find? (fun y => y.name == s)).map (fun y => !decide (y.kind = 3))).getD false
 ok : SOk S
 n0 : 1 ≤ nx
theorem EInv.nil : EInv [] [] [] 1 := by
 refine ⟨fun s _ => rfl, fun id => rfl, fun id => ?_, fun s _ => rfl, fun i x h => by simp [getS] at h, by omega⟩
 rw [Bool.eq_iff_iff]
 simp
 try omega
theorem EInv.step {p : List Esd} {S : List (Int × Esd)} {N : List (List UInt8 × Int)} {nx : Int} {x : Esd} (h : EInv p S N nx) (hr : xf8 nx x = true) (hd : dupM N x = false) : EInv (p ++ [x]) (S1 S x) (N1 N x) (nx1 nx x) := by
 have hdn : x.name ≠ [] → p.find? (fun y => y.name == x.name) = none := by
  intro hne
  have h1 := h.n1 x.name hne
  have h2 : getN x.name N = none := by
   unfold dupM at hd
   cases e : getN x.name N with
   | none => rfl
   | some k => rw [e] at hd; simp [hne] at hd
  rw [h2] at h1
  cases e : p.find? (fun y => y.name == x.name) with
  | none => rfl
  | some y => rw [e] at h1; cases h1
 have hkind : x.kind = 1 ∨ x.kind = 2 ∨ x.kind = 3 := by
  unfold xf8 at hr
  split at hr
  ·exact .inl (by assumption)
  ·split at hr
   ·exact .inr (.inl (by assumption))
   ·split at hr
    ·exact .inr (.inr (by assumption))
    ·cases hr
 have hid : x.kind ≠ 2 → x.id = nx := by
  intro h2
  unfold xf8 at hr
  rcases hkind with e | e | e
  ·rw [if_pos e] at hr
   simp only [rule1, Bool.and_eq_true, decide_eq_true_eq] at hr
   exact hr.1
  ·exact absurd e h2
  ·rw [if_neg (by omega), if_neg (by omega), if_pos e] at hr
   simp only [rule3, Bool.and_eq_true, decide_eq_true_eq] at hr
   exact hr.1
 refine ⟨fun s hs => ?_, fun id => ?_, fun id => ?_, fun s hs => ?_, SOk_S1 h.ok hr, ?_⟩
 ·rw [N1, getN_updN, List.find?_append]
  by_cases e : s = x.name
  ·subst e
   rw [if_pos rfl, hdn hs]
   simp [List.find?]
  ·rw [if_neg e, h.n1 s hs]
   have e2 : (x.name == s) = false := by simpa using fun h => e h.symm
   simp [List.find?, e2]
 ·rw [List.find?_append, S1]
  by_cases e : x.kind = 1
  ·rw [if_pos e, getS_updS]
   have hx := hid (by omega)
   by_cases e2 : id = x.id
   ·rw [if_pos e2]
    have h3 : p.find? (isSec id) = none := by
     rw [List.find?_eq_none]
     intro y hy hs
     have h4 := h.t1 id
     have h5 : p.any (isTg id) = true := List.any_eq_true.2 ⟨y, hy, by
      simp only [isSec, Bool.and_eq_true, decide_eq_true_eq] at hs
      simp [isTg, hs.1, hs.2]⟩
     rw [h5] at h4
     have h6 := h4.symm
     simp only [Bool.and_eq_true, decide_eq_true_eq] at h6
     omega
    rw [h3]
    simp [List.find?, isSec, e, e2]
   ·rw [if_neg e2, h.s1 id]
    have : isSec id x = false := by
     have e3 : ¬ x.id = id := fun h => e2 h.symm
     simp [isSec, e3]
    simp [List.find?, this]
  ·rw [if_neg e, h.s1 id]
   have : isSec id x = false := by simp [isSec, e]
   simp [List.find?, this]
 ·rw [List.any_append, h.t1 id, nx1]
  rw [Bool.eq_iff_iff]
  have := h.n0
  by_cases e : x.kind = 2
  ·rw [if_pos e]
   simp [isTg, e]
  ·rw [if_neg e]
   have hx := hid e
   simp [isTg, e, hx]
   omega
 ·rw [List.any_append, List.find?_append, h.u1 s hs]
  by_cases e : s = x.name
  ·subst e
   rw [hdn hs]
   simp [List.find?, isDf]
  ·have e2 : (x.name == s) = false := by simpa using fun h => e h.symm
   simp [List.find?, isDf, e2]
 ·have := h.n0
  rw [nx1]
  split <;> omega
theorem EInv.first {p : List Esd} {S : List (Int × Esd)} {N : List (List UInt8 × Int)} {nx : Int} (h : EInv p S N nx) : (p.find? isS1).isSome = decide (0 < S.length) := by
 cases S with
 | nil =>
  cases e : p.find? isS1 with
  | none => rfl
  | some y =>
   exfalso
   have h1 := h.s1 y.id
   have h2 : (p.find? (isSec y.id)).isSome = true := by
    rw [List.find?_isSome]
    have hy := List.find?_some e
    exact ⟨y, List.mem_of_find?_eq_some e, by simpa [isSec, isS1] using hy⟩
   rw [← h1] at h2
   simp [getS] at h2
 | cons q S =>
  have h1 := h.s1 q.1
  obtain ⟨k, z⟩ := q
  simp only [getS, if_true] at h1
  have h3 := List.find?_some h1.symm
  have h4 := List.mem_of_find?_eq_some h1.symm
  have : (p.find? isS1).isSome = true := by
   rw [List.find?_isSome]
   refine ⟨z, h4, ?_⟩
   simp only [isSec, Bool.and_eq_true] at h3
   exact h3.1
  rw [this]
  simp
theorem EInv.dup {p : List Esd} {S : List (Int × Esd)} {N : List (List UInt8 × Int)} {nx : Int} (h : EInv p S N nx) (x : Esd) : dupM N x = (!decide (x.name = []) && p.any fun y => y.name == x.name) := by
 unfold dupM
 by_cases e : x.name = []
 ·simp [e]
 ·rw [h.n1 _ e]
  have e2 : (x.name == []) = false := by simpa using e
  rw [Option.isSome_map, e2, Bool.not_false, Bool.and_true, decide_eq_false e, Bool.not_false, Bool.true_and]
  rw [Bool.eq_iff_iff, List.find?_isSome, List.any_eq_true]
theorem EInv.entry {p : List Esd} {S : List (Int × Esd)} {N : List (List UInt8 × Int)} {nx : Int} (h : EInv p S N nx) (e : List UInt8) : entB N e = (!decide (e = []) && !(p.any (isDf e))) := by
 unfold entB
 by_cases e0 : e = []
 ·simp [e0]
 ·have e2 : (e == []) = false := by simpa using e0
  rw [h.n1 e e0, h.u1 e e0, e2, decide_eq_false e0]
  cases p.find? (fun y => y.name == e) with
  | none => rfl
  | some y =>
   simp only [Option.map_some, Option.isSome_some, Option.getD_some, Bool.not_false, Bool.true_and, Bool.not_true, Bool.false_or]
   rw [Bool.eq_iff_iff]
   simp
theorem zl7 : ∀ (l p : List Esd) (S S' : List (Int × Esd)) (N N' : List (List UInt8 × Int)) (nx nx' : Int), EInv p S N nx → zw8 l S N nx = some (S', N', nx') → EInv (p ++ l) S' N' nx'
 | [], p, S, S', N, N', nx, nx', h, hg => by
  simp only [zw8, Option.some.injEq, Prod.mk.injEq] at hg
  obtain ⟨rfl, rfl, rfl⟩ := hg
  simpa using h
 | x :: l, p, S, S', N, N', nx, nx', h, hg => by
  rw [zw8] at hg
  split at hg
  ·split at hg
   ·cases hg
   ·rename_i h1 h2
    have := zl7 l (p ++ [x]) _ S' _ N' _ nx' (h.step h1 (by simpa using h2)) hg
    simpa using this
  ·cases hg
end Go.AM
namespace Go.AM
open Go.RowKit Go.Proofs
set_option linter.unusedSimpArgs false
set_option linter.unusedVariables false
set_option maxHeartbeats 2000000
theorem putD_get (c l : List UInt8) (a : Nat) (h : a + l.length ≤ c.length) (j : Nat) : (putM c a l)[j]? = if a ≤ j ∧ j < a + l.length then l[j - a]? else c[j]? := by
 have hl : (c.take a ++ l).length = a + l.length := by rw [List.length_append, List.length_take]; omega
 have ht : (c.take a).length = a := by rw [List.length_take]; omega
 unfold putM
 by_cases h1 : j < a + l.length
 ·rw [List.getElem?_append_left (by omega)]
  by_cases h2 : a ≤ j
  ·rw [if_pos ⟨h2, h1⟩, List.getElem?_append_right (by omega), ht]
  ·rw [if_neg (by omega), List.getElem?_append_left (by omega), List.getElem?_take, if_pos (by omega)]
 ·rw [if_neg (by omega), List.getElem?_append_right (by omega), hl, List.getElem?_drop]
  congr 1
  omega
theorem wc9 (c l : List UInt8) (a : Nat) (h : a + l.length ≤ c.length) : (putM c a l).length = c.length := by
 unfold putM
 simp
 omega
def sbM (b : List UInt8) (a n : Nat) : List UInt8 := (b.drop a).take n
def nmM (l : List UInt8) : List UInt8 := decM (trimM l)
def rdE (x : List UInt8) (nx : Int) : Esd :=
 if x.getD 8 0 = 0 then ⟨nmM (x.take 8), 1, nx, valM (sbM x 9 3), valM (sbM x 13 3)⟩
 else if x.getD 8 0 = 1 then ⟨nmM (x.take 8), 2, valM (sbM x 13 3), valM (sbM x 9 3), 0⟩
 else ⟨nmM (x.take 8), 3, nx, 0, 0⟩
def rdEs (b : List UInt8) (base : List Esd) (nx : Int) : Nat → List Esd × Int
 | 0 => (base, nx)
 | k + 1 => ((rdEs b base nx k).1 ++ [rdE (b.drop (16 + 16 * k)) (rdEs b base nx k).2], nx1 (rdEs b base nx k).2 (rdE (b.drop (16 + 16 * k)) (rdEs b base nx k).2))
def rdR8 (x : List UInt8) : Rld := ⟨valM (sbM x 2 2), valM (x.take 2), valM (sbM x 5 3), ((x.getD 4 0).toNat / 4 + 1 : Nat), decide ((x.getD 4 0).toNat / 2 % 2 = 1)⟩
def rdRs (b : List UInt8) (n : Nat) : List Rld := (List.range n).map fun i => rdR8 (b.drop (16 + 8 * i))
def cntE (p : Bool) (v : Nat) : Nat := if p = true then min 3 (v / 16) else min 3 ((v + 15) / 16)
def cntR (p : Bool) (v : Nat) : Nat := if p = true then min 7 (v / 8) else min 7 ((v + 7) / 8)
def itemD (p : Bool) (s : OMod × Int) (b : List UInt8) : Option (OMod × Int) :=
 if decM (sbM b 1 3) = xb8 then some (⟨(rdEs b s.1.esd s.2 (cntE p (valM (sbM b 10 2)))).1, s.1.txt, s.1.rld, s.1.entry⟩, (rdEs b s.1.esd s.2 (cntE p (valM (sbM b 10 2)))).2)
 else if decM (sbM b 1 3) = wt8 then
  (if p = false ∧ 56 < valM (sbM b 10 2) then none else some (⟨s.1.esd, s.1.txt ++ [⟨valM (sbM b 14 2), valM (sbM b 5 3), sbM b 16 (min (valM (sbM b 10 2)) 56)⟩], s.1.rld, s.1.entry⟩, s.2))
 else if decM (sbM b 1 3) = vr8 then some (⟨s.1.esd, s.1.txt, s.1.rld ++ rdRs b (cntR p (valM (sbM b 10 2))), s.1.entry⟩, s.2)
 else if decM (sbM b 1 3) = vt8 then some (⟨s.1.esd, s.1.txt, s.1.rld, nmM (sbM b 16 8)⟩, s.2)
 else some s
def goD (p : Bool) : List (List UInt8) → OMod × Int → Option (OMod × Int)
 | [], s => some s
 | b :: r, s => if b.length = 80 then (match itemD p s b with | none => none | some s' => goD p r s') else none
def om0 : OMod := ⟨[], [], [], []⟩
def dcD (p : Bool) (L : List (List UInt8)) : OMod × Bool := match goD p L (om0, 1) with
 | none => (om0, false)
 | some s => if chkM s.1 = true ∧ encO s.1 = L then (s.1, true) else (om0, false)
theorem vb9 : ∀ (n v : Nat), v < 256 ^ n → valM (numM n v) = v
 | 0, v, h => by
  have : v = 0 := by simpa using h
  subst this
  rfl
 | n + 1, v, h => by
  rw [Nat.pow_succ] at h
  rw [numM, valM_snoc, vb9 n (v / 256) (by omega)]
  have : (UInt8.ofNat (v % 256)).toNat = v % 256 := by rw [UInt8.toNat_ofNat']; omega
  rw [this]
  omega
theorem sb_get (b : List UInt8) (a n j : Nat) : (sbM b a n)[j]? = if j < n then b[a + j]? else none := by
 unfold sbM
 rw [List.getElem?_take]
 split
 ·rw [List.getElem?_drop]
 ·rfl
theorem sb_in (c l : List UInt8) (a b n : Nat) (h : a + l.length ≤ c.length) (h1 : a ≤ b) (h2 : b + n ≤ a + l.length) : sbM (putM c a l) b n = sbM l (b - a) n := by
 apply List.ext_getElem?
 intro j
 rw [sb_get, sb_get]
 split
 ·rw [putD_get _ _ _ h, if_pos ⟨by omega, by omega⟩]
  congr 1
  omega
 ·rfl
theorem zq7 (c l : List UInt8) (a b n : Nat) (h : a + l.length ≤ c.length) (h1 : b + n ≤ a ∨ a + l.length ≤ b) : sbM (putM c a l) b n = sbM c b n := by
 apply List.ext_getElem?
 intro j
 rw [sb_get, sb_get]
 split
 ·rw [putD_get _ _ _ h, if_neg (by omega)]
 ·rfl
theorem sb_all (l : List UInt8) (n : Nat) (h : l.length = n) : sbM l 0 n = l := by
 unfold sbM
 rw [List.drop_zero, List.take_of_length_le (by omega)]
theorem sb_eq (c l : List UInt8) (a n : Nat) (h : a + l.length ≤ c.length) (hn : l.length = n) : sbM (putM c a l) a n = l := by
 rw [sb_in _ _ _ _ _ h (by omega) (by omega), Nat.sub_self, sb_all _ _ hn]
theorem sb_sb (b : List UInt8) (a n i k : Nat) (h : i + k ≤ n) : sbM (sbM b a n) i k = sbM b (a + i) k := by
 apply List.ext_getElem?
 intro j
 rw [sb_get, sb_get, sb_get]
 split
 ·rw [if_pos (by omega)]
  congr 1
  omega
 ·rfl
theorem drop_sb (b : List UInt8) (a i k : Nat) : sbM (b.drop a) i k = sbM b (a + i) k := by
 unfold sbM
 rw [List.drop_drop]
theorem take_sb (b : List UInt8) (k : Nat) : b.take k = sbM b 0 k := rfl
theorem getD_sb (b : List UInt8) (a n i : Nat) (h : i < n) : (sbM b a n).getD i 0 = b.getD (a + i) 0 := by
 rw [List.getD_eq_getElem?_getD, List.getD_eq_getElem?_getD, sb_get, if_pos h]
theorem getD_drop (b : List UInt8) (a i : Nat) : (b.drop a).getD i 0 = b.getD (a + i) 0 := by
 rw [List.getD_eq_getElem?_getD, List.getD_eq_getElem?_getD, List.getElem?_drop]
theorem rdE_sb (b : List UInt8) (a : Nat) (nx : Int) : rdE (b.drop a) nx = rdE (sbM b a 16) nx := by
 unfold rdE
 rw [take_sb, take_sb, drop_sb, drop_sb, drop_sb, getD_drop, sb_sb _ _ _ _ _ (by omega), sb_sb _ _ _ _ _ (by omega), sb_sb _ _ _ _ _ (by omega), getD_sb _ _ _ _ (by omega)]
theorem rdR8_sb (b : List UInt8) (a : Nat) : rdR8 (b.drop a) = rdR8 (sbM b a 8) := by
 unfold rdR8
 rw [take_sb, take_sb, drop_sb, drop_sb, drop_sb, getD_drop, sb_sb _ _ _ _ _ (by omega), sb_sb _ _ _ _ _ (by omega), sb_sb _ _ _ _ _ (by omega), getD_sb _ _ _ _ (by omega)]
theorem okB_code (b : UInt8) (h : okB b = true) : (cdM b).2 = true ∧ (cdM b).1 ≠ 64 ∧ dec1 (cdM b).1 = b := by
 have : ∀ n : Nat, n < 256 → okB (UInt8.ofNat n) = true → (cdM (UInt8.ofNat n)).2 = true ∧ (cdM (UInt8.ofNat n)).1 ≠ 64 ∧ dec1 (cdM (UInt8.ofNat n)).1 = UInt8.ofNat n := by decide +kernel
 have hh := this b.toNat b.toNat_lt
 rw [UInt8.ofNat_toNat] at hh
 exact hh h
theorem codeL_ok {s : List UInt8} (h : s.all okB = true) : wr9 s = enc1 s := by
 unfold wr9 encM
 rw [if_pos]
 unfold encOk
 rw [List.all_eq_true] at h ⊢
 exact fun b hb => (okB_code b (h b hb)).1
theorem trimM_pad (c : List UInt8) (k : Nat) (h : ∀ b ∈ c, b ≠ 64) : trimM (c ++ List.replicate k 64) = c := by
 unfold trimM
 rw [List.reverse_append, List.reverse_replicate]
 have h1 : ∀ (k : Nat) (r : List UInt8), (List.replicate k (64 : UInt8) ++ r).dropWhile (· == 64) = r.dropWhile (· == 64) := by
  intro k r
  induction k with
  | zero => simp
  | succ k ih => rw [List.replicate_succ, List.cons_append, List.dropWhile_cons]; simp
 rw [h1]
 have h2 : c.reverse.dropWhile (· == 64) = c.reverse := by
  cases e : c.reverse with
  | nil => rfl
  | cons x r =>
   have hx : x ∈ c := by rw [← List.mem_reverse, e]; simp
   rw [List.dropWhile_cons, if_neg (by simpa using h x hx)]
 rw [h2, List.reverse_reverse]
theorem nmM_pad {s : List UInt8} (h : s.all okB = true) (k : Nat) : nmM (wr9 s ++ List.replicate k 64) = s := by
 have h0 := List.all_eq_true.1 h
 rw [nmM, codeL_ok h, trimM_pad]
 ·unfold decM enc1
  rw [List.map_map]
  conv => rhs; rw [← List.map_id s]
  apply List.map_congr_left
  intro b hb
  exact (okB_code b (h0 b hb)).2.2
 ·intro b hb
  obtain ⟨a, ha, rfl⟩ := List.mem_map.1 hb
  exact (okB_code a (h0 a ha)).2.1
theorem enc1_len (s : List UInt8) : (enc1 s).length = s.length := by simp [enc1]
theorem nm_item {s : List UInt8} (h : s.all okB = true) (hl : s.length ≤ 8) : nmM (sbM (putM (wh9 16) 0 (wr9 s)) 0 8) = s := by
 have hc : (wr9 s).length = s.length := by rw [codeL_ok h, enc1_len]
 have e : sbM (putM (wh9 16) 0 (wr9 s)) 0 8 = wr9 s ++ List.replicate (8 - s.length) 64 := by
  unfold sbM putM wh9
  rw [List.take_zero, List.nil_append, List.drop_zero, Nat.zero_add, List.drop_replicate, List.take_append, hc, List.take_of_length_le (by omega), List.take_replicate]
  congr 2
  omega
 rw [e, nmM_pad h]
theorem put16_len (s : List UInt8) (h : (wr9 s).length ≤ 8) : (putM (wh9 16) 0 (wr9 s)).length = 16 := by rw [wc9 _ _ _ (by simp; omega)]; simp
theorem set_putD (c : List UInt8) (i : Nat) (b : UInt8) (h : i < c.length) : c.set i b = putM c i [b] := by
 rw [putM, List.set_eq_take_append_cons_drop, if_pos h]
 simp
theorem rdE_item {x : Esd} {nx : Int} (hr : xf8 nx x = true) (ha : x.addr ≤ 1000000) (hi : 0 ≤ x.id ∧ x.id ≤ 1000000) (ha0 : 0 ≤ x.addr) : rdE (xj8 x) nx = x := by
 obtain ⟨name, kind, id, addr, len⟩ := x
 simp only at ha hi ha0
 have h256 : (256 : Nat) ^ 3 = 16777216 := by decide
 have key : ∀ (c : List UInt8), c.length = 16 → ∀ (t : UInt8), (c.set 8 t).length = 16 ∧ sbM (c.set 8 t) 0 8 = sbM c 0 8 ∧ (c.set 8 t).getD 8 0 = t := by
  intro c hc t
  rw [set_putD c 8 t (by omega)]
  refine ⟨by rw [wc9 _ _ _ (by simp; omega)]; exact hc, zq7 _ _ _ _ _ (by simp; omega) (.inl (by omega)), ?_⟩
  rw [List.getD_eq_getElem?_getD, putD_get _ _ _ (by simp; omega), if_pos (by simp)]
  rfl
 have two : ∀ (c : List UInt8) (u v : Nat), c.length = 16 → u < 16777216 → v < 16777216 → sbM (putM (putM c 9 (numM 3 u)) 13 (numM 3 v)) 0 8 = sbM c 0 8 ∧ (putM (putM c 9 (numM 3 u)) 13 (numM 3 v)).getD 8 0 = c.getD 8 0 ∧
   valM (sbM (putM (putM c 9 (numM 3 u)) 13 (numM 3 v)) 9 3) = u ∧ valM (sbM (putM (putM c 9 (numM 3 u)) 13 (numM 3 v)) 13 3) = v := by
  intro c u v hc hu hv
  have l1 : (putM c 9 (numM 3 u)).length = 16 := by rw [wc9 _ _ _ (by simp; omega)]; exact hc
  have b1 : 9 + (numM 3 u).length ≤ c.length := by simp; omega
  have b2 : 13 + (numM 3 v).length ≤ (putM c 9 (numM 3 u)).length := by simp; omega
  refine ⟨?_, ?_, ?_, ?_⟩
  ·rw [zq7 _ _ _ _ _ b2 (.inl (by omega)), zq7 _ _ _ _ _ b1 (.inl (by omega))]
  ·rw [List.getD_eq_getElem?_getD, List.getD_eq_getElem?_getD, putD_get _ _ _ b2, if_neg (by omega), putD_get _ _ _ b1, if_neg (by omega)]
  ·rw [zq7 _ _ _ _ _ b2 (.inl (by omega)), sb_eq _ _ _ _ b1 (by simp), vb9 _ _ (by omega)]
  ·rw [sb_eq _ _ _ _ b2 (by simp), vb9 _ _ (by omega)]
 have nameOk : ∀ s : List UInt8, (s = [] ∨ symM s = true) → s.all okB = true ∧ s.length ≤ 8 := by
  rintro s (rfl | h)
  ·exact ⟨rfl, by simp⟩
  ·simp only [symM, Bool.and_eq_true, decide_eq_true_eq] at h
   exact ⟨h.2.2.2, h.2.1⟩
 unfold xf8 at hr
 simp only at hr
 split at hr
 ·rename_i hk
  subst hk
  simp only [rule1, Bool.and_eq_true, Bool.or_eq_true, decide_eq_true_eq] at hr
  obtain ⟨a1, a2, a3, a4, a5, a6⟩ := hr
  obtain ⟨n1, n2⟩ := nameOk _ a6
  have l0 := put16_len name (by rw [codeL_ok n1, enc1_len]; exact n2)
  obtain ⟨k1, k2, k3⟩ := key _ l0 0
  obtain ⟨t1, t2, t3, t4⟩ := two _ addr.toNat len.toNat k1 (by omega) (by omega)
  unfold rdE xj8
  simp only [if_pos]
  rw [take_sb, t1, t2, t3, t4, k2, k3, if_pos rfl, nm_item n1 n2]
  congr 1 <;> omega
 ·split at hr
  ·rename_i hk1 hk
   subst hk
   simp only [rule2, Bool.and_eq_true, decide_eq_true_eq] at hr
   obtain ⟨a1, a2⟩ := hr
   obtain ⟨n1, n2⟩ := nameOk _ (.inr a2)
   have l0 := put16_len name (by rw [codeL_ok n1, enc1_len]; exact n2)
   obtain ⟨k1, k2, k3⟩ := key _ l0 1
   obtain ⟨t1, t2, t3, t4⟩ := two _ addr.toNat id.toNat k1 (by omega) (by omega)
   unfold rdE xj8
   have e21 : ((2 : Int) = 1) = False := by simp
   simp only [e21, if_false, if_true]
   rw [take_sb, t1, t2, t3, t4, k2, k3, if_neg (by decide), if_pos rfl, nm_item n1 n2]
   congr 1 <;> omega
  ·split at hr
   ·rename_i hk1 hk2 hk
    subst hk
    simp only [rule3, Bool.and_eq_true, decide_eq_true_eq] at hr
    obtain ⟨a1, a2, a3, a4⟩ := hr
    obtain ⟨n1, n2⟩ := nameOk _ (.inr a4)
    have l0 := put16_len name (by rw [codeL_ok n1, enc1_len]; exact n2)
    obtain ⟨k1, k2, k3⟩ := key _ l0 2
    unfold rdE xj8
    have e31 : ((3 : Int) = 1) = False := by simp
    have e32 : ((3 : Int) = 2) = False := by simp
    simp only [e31, e32, if_false]
    rw [take_sb, k2, k3, if_neg (by decide), if_neg (by decide), nm_item n1 n2]
    congr 1 <;> omega
   ·cases hr
end Go.AM
namespace Go.AM
open Go.RowKit Go.Proofs
set_option linter.unusedSimpArgs false
set_option linter.unusedVariables false
set_option maxHeartbeats 2000000
def seqE : Int → List Esd → Prop
 | _, [] => True
 | nx, x :: l => (xf8 nx x = true ∧ EOk x) ∧ seqE (nx1 nx x) l
theorem seqE_app : ∀ (l m : List Esd) (nx : Int), seqE nx (l ++ m) → seqE nx l ∧ seqE (l.foldl nx1 nx) m
 | [], m, nx, h => ⟨trivial, h⟩
 | x :: l, m, nx, h => by
  have := seqE_app l m (nx1 nx x) h.2
  exact ⟨⟨h.1, this.1⟩, this.2⟩
theorem seqE_get (l : List Esd) (nx : Int) (h : seqE nx l) (k : Nat) (x : Esd) (hx : l[k]? = some x) : xf8 ((l.take k).foldl nx1 nx) x = true ∧ EOk x := by
 have hk : k < l.length := (List.getElem?_eq_some_iff.1 hx).1
 have e : l = l.take k ++ (x :: l.drop (k + 1)) := by
  have h1 := (List.take_append_drop k l).symm
  rw [List.drop_eq_getElem_cons hk] at h1
  rw [List.getElem?_eq_getElem hk] at hx
  rw [Option.some.inj hx] at h1
  exact h1
 rw [e] at h
 exact (seqE_app _ _ _ h).2.1
theorem itemsGo_len : ∀ (g : List Esd) (i : Nat) (c : List UInt8), c.length = 80 → g.length + i ≤ 4 → (∀ x ∈ g, (wr9 x.name).length ≤ 16) → (yf8 g i c).length = 80
 | [], i, c, hc, hg, hn => hc
 | x :: g, i, c, hc, hg, hn => by
  simp only [List.length_cons] at hg
  have he := eItem_len x (hn x (by simp))
  exact itemsGo_len g (i + 1) _ (by rw [wc9 _ _ _ (by omega)]; exact hc) (by omega) fun y hy => hn y (by simp [hy])
theorem itemsGo_sb0 : ∀ (g : List Esd) (i : Nat) (c : List UInt8) (a n : Nat), c.length = 80 → g.length + i ≤ 4 → (∀ x ∈ g, (wr9 x.name).length ≤ 16) → a + n ≤ 16 + 16 * i → sbM (yf8 g i c) a n = sbM c a n
 | [], i, c, a, n, hc, hg, hn, ha => rfl
 | x :: g, i, c, a, n, hc, hg, hn, ha => by
  simp only [List.length_cons] at hg
  have he := eItem_len x (hn x (by simp))
  rw [yf8, itemsGo_sb0 g (i + 1) _ a n (by rw [wc9 _ _ _ (by omega)]; exact hc) (by omega) (fun y hy => hn y (by simp [hy])) (by omega), zq7 _ _ _ _ _ (by omega) (.inl (by omega))]
theorem itemsGo_sb : ∀ (g : List Esd) (i : Nat) (c : List UInt8) (j : Nat) (x : Esd), c.length = 80 → g.length + i ≤ 4 → (∀ x ∈ g, (wr9 x.name).length ≤ 16) → g[j]? = some x → sbM (yf8 g i c) (16 + 16 * (i + j)) 16 = xj8 x
 | [], i, c, j, x, hc, hg, hn, hx => by simp at hx
 | y :: g, i, c, j, x, hc, hg, hn, hx => by
  simp only [List.length_cons] at hg
  have he := eItem_len y (hn y (by simp))
  have hl : (putM c (16 + 16 * i) (xj8 y)).length = 80 := by rw [wc9 _ _ _ (by omega)]; exact hc
  rw [yf8]
  cases j with
  | zero =>
   simp only [List.getElem?_cons_zero, Option.some.injEq] at hx
   subst hx
   rw [itemsGo_sb0 g (i + 1) _ _ _ hl (by omega) (fun y hy => hn y (by simp [hy])) (by omega), Nat.add_zero, sb_eq _ _ _ _ (by omega) he]
  | succ j =>
   simp only [List.getElem?_cons_succ] at hx
   have := itemsGo_sb g (i + 1) (putM c (16 + 16 * i) (xj8 y)) j x hl (by omega) (fun y hy => hn y (by simp [hy])) hx
   rw [show i + 1 + j = i + (j + 1) by omega] at this
   exact this
theorem cESD : (vv9 xb8).length = 80 ∧ decM (sbM (vv9 xb8) 1 3) = xb8 := by decide +kernel
theorem cTXT : (vv9 wt8).length = 80 ∧ decM (sbM (vv9 wt8) 1 3) = wt8 := by decide +kernel
theorem cRLD : (vv9 vr8).length = 80 ∧ decM (sbM (vv9 vr8) 1 3) = vr8 := by decide +kernel
theorem cEND : (vv9 vt8).length = 80 ∧ decM (sbM (vv9 vt8) 1 3) = vt8 ∧ (vv9 vt8).drop 16 = wh9 64 := by decide +kernel
theorem cardE_facts (g : List Esd) (hg : g.length ≤ 3) (hn : ∀ x ∈ g, (wr9 x.name).length ≤ 16) :
  (zb7 g).length = 80 ∧ decM (sbM (zb7 g) 1 3) = xb8 ∧ valM (sbM (zb7 g) 10 2) = 16 * g.length ∧ ∀ j x, g[j]? = some x → sbM (zb7 g) (16 + 16 * j) 16 = xj8 x := by
 obtain ⟨l0, n0⟩ := cESD
 have h256 : (256 : Nat) ^ 2 = 65536 := by decide
 have b1 : 10 + (numM 2 (16 * g.length)).length ≤ (vv9 xb8).length := by simp; omega
 have l1 : (card1 g).length = 80 := by rw [card1, wc9 _ _ _ b1]; exact l0
 have b2 : ∀ v, 14 + (numM 2 v).length ≤ (card1 g).length := by intro v; simp; omega
 have l2 : (card2 g).length = 80 := by
  unfold card2
  split
  ·rw [wc9 _ _ _ (b2 _)]; exact l1
  ·exact l1
 have s2 : ∀ a n, a + n ≤ 14 → sbM (card2 g) a n = sbM (card1 g) a n := by
  intro a n h
  unfold card2
  split
  ·rw [zq7 _ _ _ _ _ (b2 _) (.inl (by omega))]
  ·rfl
 refine ⟨itemsGo_len g 0 _ l2 (by omega) hn, ?_, ?_, fun j x hx => ?_⟩
 ·rw [zb7, itemsGo_sb0 g 0 _ _ _ l2 (by omega) hn (by omega), s2 _ _ (by omega), card1, zq7 _ _ _ _ _ b1 (.inl (by omega)), n0]
 ·rw [zb7, itemsGo_sb0 g 0 _ _ _ l2 (by omega) hn (by omega), s2 _ _ (by omega), card1, sb_eq _ _ _ _ b1 (by simp), vb9 _ _ (by omega)]
 ·have := itemsGo_sb g 0 (card2 g) j x l2 (by omega) hn hx
  rw [Nat.zero_add] at this
  exact this
theorem rdEs_card (g : List Esd) (nx : Int) (base : List Esd) (hg : g.length ≤ 3) (hs : seqE nx g) : ∀ k, k ≤ g.length → rdEs (zb7 g) base nx k = (base ++ g.take k, (g.take k).foldl nx1 nx)
 | 0, _ => by simp [rdEs]
 | k + 1, hk => by
  have ih := rdEs_card g nx base hg hs k (by omega)
  obtain ⟨x, hx⟩ : ∃ x, g[k]? = some x := ⟨_, List.getElem?_eq_getElem (by omega)⟩
  have hn : ∀ x ∈ g, (wr9 x.name).length ≤ 16 := by
   intro y hy
   obtain ⟨j, hj⟩ := List.mem_iff_getElem?.1 hy
   have := (seqE_get g nx hs j y hj).2.n
   omega
  have hf := (cardE_facts g hg hn).2.2.2 k x hx
  obtain ⟨hr, ho⟩ := seqE_get g nx hs k x hx
  have ht : g.take (k + 1) = g.take k ++ [x] := by rw [List.take_add_one, hx]; rfl
  rw [rdEs, ih]
  simp only
  rw [rdE_sb, hf, rdE_item hr ho.a1 ⟨ho.i0, ho.i1⟩ ho.a0, ht, List.foldl_append]
  simp
theorem nmNe : ¬ wt8 = xb8 ∧ ¬ vr8 = xb8 ∧ ¬ vr8 = wt8 ∧ ¬ vt8 = xb8 ∧ ¬ vt8 = wt8 ∧ ¬ vt8 = vr8 := by decide
theorem cntE_16 (p : Bool) (n : Nat) (h : n ≤ 3) : cntE p (16 * n) = n := by
 unfold cntE
 split <;> omega
theorem cntR_8 (p : Bool) (n : Nat) (h : n ≤ 7) : cntR p (8 * n) = n := by
 unfold cntR
 split <;> omega
theorem goD_esd (p : Bool) (l : List Esd) (R : List (List UInt8)) (T : List Txt) (D : List Rld) (e : List UInt8) : ∀ (f i : Nat) (A : List Esd) (nx : Int), l.length ≤ i + f → seqE nx (l.drop i) →
  goD p (egoE l f i ++ R) (⟨A, T, D, e⟩, nx) = goD p R (⟨A ++ l.drop i, T, D, e⟩, (l.drop i).foldl nx1 nx)
 | f, i, A, nx, hf, hs => by
  by_cases h : i < l.length
  ·obtain ⟨f', rfl, hf'⟩ : ∃ f', f = f' + 1 ∧ f' < f := ⟨f - 1, by omega, by omega⟩
   rw [egoE, if_pos h, List.cons_append]
   obtain ⟨g, hg⟩ : ∃ g, (l.drop i).take 3 = g := ⟨_, rfl⟩
   have hsp : l.drop i = g ++ l.drop (i + 3) := by
    rw [← hg, ← List.drop_drop]
    exact (List.take_append_drop 3 _).symm
   have hg3 : g.length ≤ 3 := by rw [← hg, List.length_take]; omega
   rw [hsp] at hs
   obtain ⟨s1, s2⟩ := seqE_app _ _ _ hs
   have hn : ∀ x ∈ g, (wr9 x.name).length ≤ 16 := by
    intro y hy
    obtain ⟨j, hj⟩ := List.mem_iff_getElem?.1 hy
    have := (seqE_get g nx s1 j y hj).2.n
    omega
   obtain ⟨c1, c2, c3, _⟩ := cardE_facts g hg3 hn
   have ih := goD_esd p l R T D e f' (i + 3) (A ++ g) (g.foldl nx1 nx) (by omega) s2
   rw [hg, goD, if_pos c1, itemD, if_pos c2, c3, cntE_16 _ _ hg3]
   simp only
   rw [rdEs_card g nx A hg3 s1 g.length (Nat.le_refl _), List.take_length]
   simp only
   rw [ih, hsp, List.foldl_append, List.append_assoc]
  ·rw [egoE_end f i (by omega), List.drop_eq_nil_of_le (by omega)]
   simp
def tOk (t : Txt) : Prop := 0 ≤ t.id ∧ t.id ≤ 60000 ∧ 0 ≤ t.addr ∧ t.addr ≤ 1000000 ∧ 1 ≤ t.data.length ∧ t.data.length ≤ 56
theorem cardT_facts (t : Txt) (h : tOk t) : (zj8 t).length = 80 ∧ decM (sbM (zj8 t) 1 3) = wt8 ∧ valM (sbM (zj8 t) 10 2) = t.data.length ∧ valM (sbM (zj8 t) 14 2) = t.id.toNat ∧ valM (sbM (zj8 t) 5 3) = t.addr.toNat ∧ sbM (zj8 t) 16 t.data.length = t.data := by
 obtain ⟨h1, h2, h3, h4, h5, h6⟩ := h
 obtain ⟨l0, n0⟩ := cTXT
 have e2 : (256 : Nat) ^ 2 = 65536 := by decide
 have e3 : (256 : Nat) ^ 3 = 16777216 := by decide
 have b1 : 5 + (numM 3 t.addr.toNat).length ≤ (vv9 wt8).length := by simp; omega
 have l1 := wc9 _ _ _ b1
 have b2 : 10 + (numM 2 t.data.length).length ≤ (putM (vv9 wt8) 5 (numM 3 t.addr.toNat)).length := by simp; omega
 have l2 := wc9 _ _ _ b2
 have b3 : 14 + (numM 2 t.id.toNat).length ≤ (putM (putM (vv9 wt8) 5 (numM 3 t.addr.toNat)) 10 (numM 2 t.data.length)).length := by simp; omega
 have l3 := wc9 _ _ _ b3
 have b4 : 16 + t.data.length ≤ (putM (putM (putM (vv9 wt8) 5 (numM 3 t.addr.toNat)) 10 (numM 2 t.data.length)) 14 (numM 2 t.id.toNat)).length := by omega
 have l4 := wc9 _ _ _ b4
 have n2 : ∀ v, (numM 2 v).length = 2 := fun v => vd9 2 v
 have n3 : ∀ v, (numM 3 v).length = 3 := fun v => vd9 3 v
 refine ⟨?_, ?_, ?_, ?_, ?_, ?_⟩
 ·rw [zj8]; omega
 ·rw [zj8, zq7 _ _ _ _ _ b4 (.inl (by omega)), zq7 _ _ _ _ _ b3 (.inl (by omega)), zq7 _ _ _ _ _ b2 (.inl (by omega)), zq7 _ _ _ _ _ b1 (.inl (by omega)), n0]
 ·rw [zj8, zq7 _ _ _ _ _ b4 (.inl (by omega)), zq7 _ _ _ _ _ b3 (.inl (by omega)), sb_eq _ _ _ _ b2 (n2 _), vb9 _ _ (by omega)]
 ·rw [zj8, zq7 _ _ _ _ _ b4 (.inl (by omega)), sb_eq _ _ _ _ b3 (n2 _), vb9 _ _ (by omega)]
 ·rw [zj8, zq7 _ _ _ _ _ b4 (.inl (by omega)), zq7 _ _ _ _ _ b3 (.inl (by omega)), zq7 _ _ _ _ _ b2 (.inl (by omega)), sb_eq _ _ _ _ b1 (n3 _), vb9 _ _ (by omega)]
 ·rw [zj8, sb_eq _ _ _ _ b4 rfl]
theorem goD_txt (p : Bool) (R : List (List UInt8)) (E : List Esd) (D : List Rld) (e : List UInt8) (nx : Int) : ∀ (l A : List Txt), (∀ t ∈ l, tOk t) → goD p (l.map zj8 ++ R) (⟨E, A, D, e⟩, nx) = goD p R (⟨E, A ++ l, D, e⟩, nx)
 | [], A, h => by simp
 | t :: l, A, h => by
  have ht := h t (by simp)
  obtain ⟨c1, c2, c3, c4, c5, c6⟩ := cardT_facts t ht
  obtain ⟨h1, h2, h3, h4, h5, h6⟩ := ht
  have hm : min t.data.length 56 = t.data.length := by omega
  have ie : ((t.id.toNat : Nat) : Int) = t.id := by omega
  have ae : ((t.addr.toNat : Nat) : Int) = t.addr := by omega
  rw [List.map_cons, List.cons_append, goD, if_pos c1, itemD, c2, if_neg nmNe.1, if_pos rfl, c3, if_neg (by omega), c4, c5, hm, c6, ie, ae]
  simp only
  rw [goD_txt p R E D e nx l (A ++ [t]) fun y hy => h y (by simp [hy]), List.append_assoc]
  rfl
theorem ritemsGo_len : ∀ (g : List Rld) (i : Nat) (c : List UInt8), c.length = 80 → g.length + i ≤ 8 → (yl8 g i c).length = 80
 | [], i, c, hc, hg => hc
 | x :: g, i, c, hc, hg => by
  simp only [List.length_cons] at hg
  exact ritemsGo_len g (i + 1) _ (by rw [wc9 _ _ _ (by simp; omega)]; exact hc) (by omega)
theorem yt7 : ∀ (g : List Rld) (i : Nat) (c : List UInt8) (a n : Nat), c.length = 80 → g.length + i ≤ 8 → a + n ≤ 16 + 8 * i → sbM (yl8 g i c) a n = sbM c a n
 | [], i, c, a, n, hc, hg, ha => rfl
 | x :: g, i, c, a, n, hc, hg, ha => by
  simp only [List.length_cons] at hg
  rw [yl8, yt7 g (i + 1) _ a n (by rw [wc9 _ _ _ (by simp; omega)]; exact hc) (by omega) (by omega), zq7 _ _ _ _ _ (by simp; omega) (.inl (by omega))]
theorem ritemsGo_sb : ∀ (g : List Rld) (i : Nat) (c : List UInt8) (j : Nat) (x : Rld), c.length = 80 → g.length + i ≤ 8 → g[j]? = some x → sbM (yl8 g i c) (16 + 8 * (i + j)) 8 = vq8 x
 | [], i, c, j, x, hc, hg, hx => by simp at hx
 | y :: g, i, c, j, x, hc, hg, hx => by
  simp only [List.length_cons] at hg
  have hl : (putM c (16 + 8 * i) (vq8 y)).length = 80 := by rw [wc9 _ _ _ (by simp; omega)]; exact hc
  rw [yl8]
  cases j with
  | zero =>
   simp only [List.getElem?_cons_zero, Option.some.injEq] at hx
   subst hx
   rw [yt7 g (i + 1) _ _ _ hl (by omega) (by omega), Nat.add_zero, sb_eq _ _ _ _ (by simp; omega) (by simp)]
  | succ j =>
   simp only [List.getElem?_cons_succ] at hx
   have := ritemsGo_sb g (i + 1) (putM c (16 + 8 * i) (vq8 y)) j x hl (by omega) hx
   rw [show i + 1 + j = i + (j + 1) by omega] at this
   exact this
def rOkD (r : Rld) : Prop := 0 ≤ r.to_ ∧ r.to_ ≤ 60000 ∧ 0 ≤ r.in_ ∧ r.in_ ≤ 60000 ∧ 0 ≤ r.addr ∧ r.addr ≤ 1000000 ∧ 1 ≤ r.len ∧ r.len ≤ 4
theorem sbA (a b : List UInt8) (i n : Nat) (h : i + n ≤ a.length) : sbM (a ++ b) i n = sbM a i n := by
 unfold sbM
 rw [List.drop_append_of_le_length (by omega), List.take_append_of_le_length (by simp; omega)]
theorem sbB (a b : List UInt8) (i n k : Nat) (h : a.length = k) : sbM (a ++ b) (k + i) n = sbM b i n := by
 unfold sbM
 rw [← List.drop_drop, List.drop_left' h]
theorem rdR8_item (r : Rld) (h : rOkD r) : rdR8 (vq8 r) = r := by
 obtain ⟨i, t, a, n, g⟩ := r
 obtain ⟨h1, h2, h3, h4, h5, h6, h7, h8⟩ := h
 simp only at h1 h2 h3 h4 h5 h6 h7 h8
 have e2 : (256 : Nat) ^ 2 = 65536 := by decide
 have e3 : (256 : Nat) ^ 3 = 16777216 := by decide
 have hfl : zm8 ⟨i, t, a, n, g⟩ < 256 := by unfold zm8; simp only; split <;> omega
 have q1 : (vq8 ⟨i, t, a, n, g⟩).take 2 = numM 2 t.toNat := by
  rw [vq8, take_sb, sbA _ _ _ _ (by simp), sb_all _ _ (by simp)]
 have q2 : sbM (vq8 ⟨i, t, a, n, g⟩) 2 2 = numM 2 i.toNat := by
  rw [vq8, show sbM (numM 2 (⟨i, t, a, n, g⟩ : Rld).to_.toNat ++ (numM 2 (⟨i, t, a, n, g⟩ : Rld).in_.toNat ++ (numM 1 (zm8 ⟨i, t, a, n, g⟩) ++ numM 3 (⟨i, t, a, n, g⟩ : Rld).addr.toNat))) 2 2 = sbM (numM 2 i.toNat ++ (numM 1 (zm8 ⟨i, t, a, n, g⟩) ++ numM 3 a.toNat)) 0 2 from sbB _ _ 0 2 2 (by simp), sbA _ _ _ _ (by simp), sb_all _ _ (by simp)]
 have q3 : sbM (vq8 ⟨i, t, a, n, g⟩) 5 3 = numM 3 a.toNat := by
  have s1 : sbM (vq8 ⟨i, t, a, n, g⟩) (2 + 3) 3 = sbM (numM 2 i.toNat ++ (numM 1 (zm8 ⟨i, t, a, n, g⟩) ++ numM 3 a.toNat)) 3 3 := sbB _ _ 3 3 2 (by simp)
  have s2 : sbM (numM 2 i.toNat ++ (numM 1 (zm8 ⟨i, t, a, n, g⟩) ++ numM 3 a.toNat)) (2 + 1) 3 = sbM (numM 1 (zm8 ⟨i, t, a, n, g⟩) ++ numM 3 a.toNat) 1 3 := sbB _ _ 1 3 2 (by simp)
  have s3 : sbM (numM 1 (zm8 ⟨i, t, a, n, g⟩) ++ numM 3 a.toNat) (1 + 0) 3 = sbM (numM 3 a.toNat) 0 3 := sbB _ _ 0 3 1 (by simp)
  exact s1.trans (s2.trans (s3.trans (sb_all _ _ (by simp))))
 have q4 : (vq8 ⟨i, t, a, n, g⟩).getD 4 0 = UInt8.ofNat (zm8 ⟨i, t, a, n, g⟩) := by
  have s1 : sbM (vq8 ⟨i, t, a, n, g⟩) (2 + 2) 1 = sbM (numM 2 i.toNat ++ (numM 1 (zm8 ⟨i, t, a, n, g⟩) ++ numM 3 a.toNat)) 2 1 := sbB _ _ 2 1 2 (by simp)
  have s2 : sbM (numM 2 i.toNat ++ (numM 1 (zm8 ⟨i, t, a, n, g⟩) ++ numM 3 a.toNat)) (2 + 0) 1 = sbM (numM 1 (zm8 ⟨i, t, a, n, g⟩) ++ numM 3 a.toNat) 0 1 := sbB _ _ 0 1 2 (by simp)
  have s3 : sbM (numM 1 (zm8 ⟨i, t, a, n, g⟩) ++ numM 3 a.toNat) 0 1 = [UInt8.ofNat (zm8 ⟨i, t, a, n, g⟩)] := by
   rw [sbA _ _ _ _ (by simp), sb_all _ _ (by simp)]
   simp only [numM, List.nil_append]
   rw [Nat.mod_eq_of_lt hfl]
  have s4 := getD_sb (vq8 ⟨i, t, a, n, g⟩) 4 1 0 (by omega)
  rw [← s4, show sbM (vq8 ⟨i, t, a, n, g⟩) 4 1 = [UInt8.ofNat (zm8 ⟨i, t, a, n, g⟩)] from s1.trans (s2.trans s3)]
  rfl
 have q5 : (UInt8.ofNat (zm8 ⟨i, t, a, n, g⟩)).toNat = zm8 ⟨i, t, a, n, g⟩ := by rw [UInt8.toNat_ofNat']; omega
 unfold rdR8
 rw [q1, q2, q3, q4, q5, vb9 _ _ (by omega), vb9 _ _ (by omega), vb9 _ _ (by omega)]
 have f1 : zm8 ⟨i, t, a, n, g⟩ / 4 + 1 = n.toNat := by unfold zm8; simp only; split <;> omega
 have f2 : decide (zm8 ⟨i, t, a, n, g⟩ / 2 % 2 = 1) = g := by
  cases g with
  | true => rw [decide_eq_true_eq]; unfold zm8; simp only [if_pos]; omega
  | false => rw [decide_eq_false_iff_not]; unfold zm8; simp only [Bool.false_eq_true, if_neg, not_false_eq_true]; omega
 rw [f1, f2]
 congr 1 <;> omega
theorem cardR_facts (g : List Rld) (hg : g.length ≤ 7) :
  (cardR g).length = 80 ∧ decM (sbM (cardR g) 1 3) = vr8 ∧ valM (sbM (cardR g) 10 2) = 8 * g.length ∧ ∀ j x, g[j]? = some x → sbM (cardR g) (16 + 8 * j) 8 = vq8 x := by
 obtain ⟨l0, n0⟩ := cRLD
 have h256 : (256 : Nat) ^ 2 = 65536 := by decide
 have b1 : 10 + (numM 2 (8 * g.length)).length ≤ (vv9 vr8).length := by simp; omega
 have l1 : (putM (vv9 vr8) 10 (numM 2 (8 * g.length))).length = 80 := by rw [wc9 _ _ _ b1]; exact l0
 refine ⟨ritemsGo_len g 0 _ l1 (by omega), ?_, ?_, fun j x hx => ?_⟩
 ·rw [cardR, yt7 g 0 _ _ _ l1 (by omega) (by omega), zq7 _ _ _ _ _ b1 (.inl (by omega)), n0]
 ·rw [cardR, yt7 g 0 _ _ _ l1 (by omega) (by omega), sb_eq _ _ _ _ b1 (by simp), vb9 _ _ (by omega)]
 ·have := ritemsGo_sb g 0 (putM (vv9 vr8) 10 (numM 2 (8 * g.length))) j x l1 (by omega) hx
  rw [Nat.zero_add] at this
  exact this
theorem rdRs_card (g : List Rld) (hg : g.length ≤ 7) (h : ∀ r ∈ g, rOkD r) : rdRs (cardR g) g.length = g := by
 apply List.ext_getElem?
 intro j
 unfold rdRs
 rw [List.getElem?_map]
 by_cases hj : j < g.length
 ·rw [List.getElem?_range hj, Option.map_some]
  obtain ⟨x, hx⟩ : ∃ x, g[j]? = some x := ⟨_, List.getElem?_eq_getElem hj⟩
  rw [rdR8_sb, (cardR_facts g hg).2.2.2 j x hx, rdR8_item x (h x (List.mem_iff_getElem?.2 ⟨j, hx⟩)), hx]
 ·rw [List.getElem?_eq_none (by rw [List.length_range]; omega), List.getElem?_eq_none (by omega)]
  rfl
theorem goD_rld (p : Bool) (l : List Rld) (R : List (List UInt8)) (E : List Esd) (T : List Txt) (e : List UInt8) (nx : Int) (hl : ∀ r ∈ l, rOkD r) : ∀ (f i : Nat) (A : List Rld), l.length ≤ i + f →
  goD p (egoR l f i ++ R) (⟨E, T, A, e⟩, nx) = goD p R (⟨E, T, A ++ l.drop i, e⟩, nx)
 | f, i, A, hf => by
  by_cases h : i < l.length
  ·obtain ⟨f', rfl, hf'⟩ : ∃ f', f = f' + 1 ∧ f' < f := ⟨f - 1, by omega, by omega⟩
   rw [egoR, if_pos h, List.cons_append]
   obtain ⟨g, hg⟩ : ∃ g, (l.drop i).take 7 = g := ⟨_, rfl⟩
   have hsp : l.drop i = g ++ l.drop (i + 7) := by
    rw [← hg, ← List.drop_drop]
    exact (List.take_append_drop 7 _).symm
   have hg3 : g.length ≤ 7 := by rw [← hg, List.length_take]; omega
   have hn : ∀ x ∈ g, rOkD x := fun x hx => hl x (by rw [← hg] at hx; exact List.mem_of_mem_drop (List.mem_of_mem_take hx))
   obtain ⟨c1, c2, c3, _⟩ := cardR_facts g hg3
   have ih := goD_rld p l R E T e nx hl f' (i + 7) (A ++ g) (by omega)
   rw [hg, goD, if_pos c1, itemD, c2, if_neg nmNe.2.1, if_neg nmNe.2.2.1, if_pos rfl, c3, cntR_8 _ _ hg3, rdRs_card g hg3 hn]
   simp only
   rw [ih, hsp, List.append_assoc]
  ·rw [egoR_end f i (by omega), List.drop_eq_nil_of_le (by omega)]
   simp
theorem cardN_facts (e : List UInt8) (h : e.all okB = true) (hl : e.length ≤ 8) : (cardN e).length = 80 ∧ decM (sbM (cardN e) 1 3) = vt8 ∧ nmM (sbM (cardN e) 16 8) = e := by
 obtain ⟨l0, n0, n1⟩ := cEND
 have hc : (wr9 e).length = e.length := by rw [codeL_ok h, enc1_len]
 have b1 : 16 + (wr9 e).length ≤ (vv9 vt8).length := by omega
 refine ⟨by rw [cardN, wc9 _ _ _ b1]; exact l0, by rw [cardN, zq7 _ _ _ _ _ b1 (.inl (by omega)), n0], ?_⟩
 have e1 : sbM (cardN e) 16 8 = wr9 e ++ List.replicate (8 - e.length) 64 := by
  unfold cardN sbM putM
  have hsp : (vv9 vt8).drop (16 + (wr9 e).length) = List.replicate (64 - e.length) 64 := by
   rw [← List.drop_drop, n1, hc, wh9, List.drop_replicate]
  rw [hsp, List.append_assoc, List.drop_left' (by rw [List.length_take]; omega), List.take_append, hc, List.take_of_length_le (by omega), List.take_replicate]
  congr 2
  omega
 rw [e1, nmM_pad h]
structure DOk (o : OMod) : Prop where
 es : seqE 1 o.esd
 ts : ∀ t ∈ o.txt, tOk t
 rs : ∀ r ∈ o.rld, rOkD r
 en : o.entry.all okB = true ∧ o.entry.length ≤ 8
theorem esdGo_seq : ∀ (l : List Esd) (S S' : List (Int × Esd)) (N N' : List (List UInt8 × Int)) (nx nx' : Int), zw8 l S N nx = some (S', N', nx') → (∀ x ∈ l, EOk x) → seqE nx l
 | [], S, S', N, N', nx, nx', h, he => trivial
 | x :: l, S, S', N, N', nx, nx', h, he => by
  rw [zw8] at h
  split at h
  ·rename_i hr
   split at h
   ·cases h
   ·exact ⟨⟨hr, he x (by simp)⟩, esdGo_seq l _ S' _ N' _ nx' h fun y hy => he y (by simp [hy])⟩
  ·cases h
theorem name_ok {nx : Int} {x : Esd} (h : xf8 nx x = true) : x.name.all okB = true ∧ x.name.length ≤ 8 := by
 have hs : ∀ s, symM s = true → s.all okB = true ∧ s.length ≤ 8 := by
  intro s h
  simp only [symM, Bool.and_eq_true, decide_eq_true_eq] at h
  exact ⟨h.2.2.2, h.2.1⟩
 unfold xf8 at h
 split at h
 ·simp only [rule1, Bool.and_eq_true, Bool.or_eq_true, decide_eq_true_eq] at h
  rcases h.2.2.2.2.2 with e | e
  ·rw [e]; exact ⟨rfl, by simp⟩
  ·exact hs _ e
 ·split at h
  ·simp only [rule2, Bool.and_eq_true] at h
   exact hs _ h.2
  ·split at h
   ·simp only [rule3, Bool.and_eq_true] at h
    exact hs _ h.2.2.2
   ·cases h
theorem seqE_name : ∀ (l : List Esd) (nx : Int), seqE nx l → ∀ x ∈ l, x.name.all okB = true ∧ x.name.length ≤ 8
 | [], nx, h, x, hx => by simp at hx
 | y :: l, nx, h, x, hx => by
  rcases List.mem_cons.1 hx with rfl | hx
  ·exact name_ok h.1.1
  ·exact seqE_name l _ h.2 x hx
theorem chkM_DOk {o : OMod} (h : chkM o = true) : DOk o := by
 have hO := chkM_ok h
 unfold chkM at h
 simp only [Bool.and_eq_true, Bool.not_eq_true'] at h
 obtain ⟨hbig, hB, hR⟩ := h
 have hl1 := hO.l1
 cases hg : zw8 o.esd [] [] 1 with
 | none => rw [hg] at hR; cases hR
 | some g =>
  obtain ⟨S, N, nx⟩ := g
  rw [hg] at hR hB
  have hinv := esdGo_inv o.esd [] S [] N 1 nx hg (by omega) (by omega) (fun i x h => by simp [getS] at h) (fun i y h => by simp [getS] at h) (fun s k h => by simp [getN] at h)
  obtain ⟨hS, hi, hn, n1, n2, hev⟩ := hinv
  have hE := zl7 o.esd [] [] S [] N 1 nx EInv.nil hg
  rw [List.nil_append] at hE
  have hsq := esdGo_seq o.esd [] S [] N 1 nx hg hO.es
  simp only [restM, Bool.and_eq_true, Bool.not_eq_true', List.all_eq_true] at hR
  obtain ⟨hT, hRl, hEn⟩ := hR
  refine ⟨hsq, fun t ht => ?_, fun r hr => ?_, ?_⟩
  ·have h1 := hT t ht
   simp only [txB, Bool.or_eq_false_iff, decide_eq_false_iff_not, Bool.not_eq_false'] at h1
   obtain ⟨a1, a2, a3⟩ := h1
   have := liesM_inv a3 hS hi
   exact ⟨by omega, by omega, by omega, by omega, by omega, by omega⟩
  ·have h1 := hRl r hr
   simp only [rdB, Bool.or_eq_false_iff, decide_eq_false_iff_not, Bool.not_eq_false'] at h1
   obtain ⟨a1, a2, a3, a4, a5⟩ := h1
   have := liesM_inv a5 hS hi
   exact ⟨by omega, by omega, by omega, by omega, by omega, by omega, by omega, by omega⟩
  ·rw [hE.entry] at hEn
   by_cases h0 : o.entry = []
   ·rw [h0]; exact ⟨rfl, by simp⟩
   ·rw [decide_eq_false h0] at hEn
    simp only [Bool.not_false, Bool.true_and, Bool.not_eq_false', List.any_eq_true] at hEn
    obtain ⟨x, hx, hd⟩ := hEn
    have hnm := seqE_name o.esd 1 hsq x hx
    simp only [isDf, Bool.and_eq_true, beq_iff_eq] at hd
    rw [← hd.2]
    exact hnm
theorem goD_enc (p : Bool) (o : OMod) (h : DOk o) : ∃ nx, goD p (encO o) (om0, 1) = some (o, nx) := by
 obtain ⟨es, ts, rs, en1, en2⟩ := h
 refine ⟨o.esd.foldl nx1 1, ?_⟩
 obtain ⟨c1, c2, c3⟩ := cardN_facts o.entry en1 en2
 unfold encO om0
 rw [goD_esd p o.esd _ [] [] [] o.esd.length 0 [] 1 (by omega) (by simpa using es), List.drop_zero, goD_txt p _ _ _ _ _ o.txt [] ts, goD_rld p o.rld _ _ _ _ _ rs o.rld.length 0 [] (by omega), List.drop_zero,
  goD, if_pos c1, itemD, c2, if_neg nmNe.2.2.2.1, if_neg nmNe.2.2.2.2.1, if_neg nmNe.2.2.2.2.2, if_pos rfl, c3]
 simp [goD]
theorem dcD_enc (p : Bool) (o : OMod) (h : chkM o = true) : dcD p (encO o) = (o, true) := by
 obtain ⟨nx, hg⟩ := goD_enc p o (chkM_DOk h)
 rw [dcD, hg]
 exact if_pos ⟨h, rfl⟩
theorem dcD_cases (p : Bool) (L : List (List UInt8)) : dcD p L = (om0, false) ∨ ∃ o, dcD p L = (o, true) ∧ chkM o = true ∧ encO o = L := by
 cases hg : goD p L (om0, 1) with
 | none => left; rw [dcD, hg]
 | some s =>
  by_cases hc : chkM s.1 = true ∧ encO s.1 = L
  ·right
   refine ⟨s.1, ?_, hc.1, hc.2⟩
   rw [dcD, hg]
   exact if_pos hc
  ·left
   rw [dcD, hg]
   exact if_neg hc
end Go.AM
namespace Go.AM
open Go.RowKit Go.Proofs
set_option linter.unusedSimpArgs false
set_option linter.unusedVariables false
set_option maxHeartbeats 8000000
theorem esL_app (s t : List Esd) : esL (s ++ t) = esL s ++ esL t := by simp [esL]
theorem esL_nil : esL [] = [] := rfl
theorem esL_one (x : Esd) : esL [x] = [esA x] := rfl
theorem klD_v (T : Nat) (x : Value) : AV.kill T (.v x) = .v x := rfl
theorem klD_loc (T i j : Nat) : AV.kill T (.loc i j) = .loc i j := rfl
theorem klD_any (T s : Nat) (x : List AV) : AV.kill T (.lst .any s x) = .lst .any s x := rfl
theorem klD_nil (T s : Nat) (x : List AV) : AV.kill T (.lst .nil s x) = .lst .nil s x := rfl
theorem klD_tip (T e U s : Nat) (x : List AV) : AV.kill T (.lst (.tip e U) s x) = if U = T then .lst (if U % 2 = 0 then .ex else .any) s x else .lst (.tip e U) s x := rfl
theorem klD_agg (T : Nat) (x : List AV) : AV.kill T (.agg x) = .agg (AV.killL T x) := rfl
theorem rdEs_len (b : List UInt8) (base : List Esd) (nx : Int) : ∀ k, (rdEs b base nx k).1.length = base.length + k
 | 0 => rfl
 | k + 1 => by rw [rdEs]; simp [rdEs_len b base nx k]; omega
theorem rdEs_nx (b : List UInt8) (base : List Esd) (nx : Int) : ∀ k, nx ≤ (rdEs b base nx k).2 ∧ (rdEs b base nx k).2 ≤ nx + k
 | 0 => by simp [rdEs]
 | k + 1 => by
  have := rdEs_nx b base nx k
  rw [rdEs]
  simp only [nx1]
  split <;> omega
theorem esd62_callW (b : List UInt8) (hb : b.length = 80) (nx : Int) (hn0 : 0 ≤ nx) (hn1 : nx ≤ 100000000) (base : List Esd) (hbl : base.length ≤ 100000000) (fe : Fl) (hfe : fe = .nil ∧ base = [] ∨ fe = .tip 78 129) (z : List AV) (x1 x2 x3 : AV)
  (k1 : AV.kill 129 x1 = x1) (k2 : AV.kill 129 x2 = x2) (k3 : AV.kill 129 x3 = x3) (kz : AV.killL 129 z = z) (u1 : AV.under 2 x1 = true) (u2 : AV.under 2 x2 = true) (u3 : AV.under 2 x3 = true) (uz : AV.underL 2 z = true) :
  wn9 Try.prog 62 [.loc 1 0, .lst .any 1 (byL b), .v (.int .i64 nx)] [.cells 26 z, .cells 26 [.lst fe 5 (esL base), x1, x2, x3]] fun r h' => ∃ fe',
   r = .v (.int .i64 (rdEs b base nx (cntE true (valM (sbM b 10 2)))).2) ∧ (fe' = .nil ∧ (rdEs b base nx (cntE true (valM (sbM b 10 2)))).1 = [] ∨ fe' = .tip 78 129) ∧
   h' = [.cells 26 z, .cells 26 [.lst fe' 5 (esL (rdEs b base nx (cntE true (valM (sbM b 10 2)))).1), x1, x2, x3]] := by
 refine zk9 Try.func62 rfl (by decide +kernel) (by simp [Try.f62]) (rs := [.tmp 6]) rfl ?_
 rw [show Try.f62.ntmps = 69 from rfl]
 have h12 : 12 ≤ b.length := by omega
 have h12i : (12 : Int) ≤ b.length := by omega
 obtain ⟨A, hA⟩ : ∃ A, sbM b 10 2 = A := ⟨_, rfl⟩
 have eA : List.drop 10 (List.take 12 (byL b)) = byL A := by rw [← hA, sbM, ← xw9, ← xp9, List.drop_take]
 have hAl : A.length ≤ 7 := by rw [← hA, sbM, List.length_take]; omega
 have hv := wd9 A hAl
 rw [hA]
 obtain ⟨V, hV⟩ : ∃ V, valM A = V := ⟨_, rfl⟩
 have hVl : V < 256 ^ 2 := by rw [← hV]; exact valM_lt 2 A (by rw [← hA, sbM, List.length_take, List.length_drop]; omega)
 have hp2 : (256 : Nat) ^ 2 = 65536 := by decide
 rw [hV] at hv ⊢
 obtain ⟨n, hn⟩ : ∃ n, cntE true V = n := ⟨_, rfl⟩
 have hn3 : n ≤ 3 := by rw [← hn]; unfold cntE; split <;> omega
 have hdv : (V : Int).tdiv 16 = ((V / 16 : Nat) : Int) := rfl
 have wq := w64 (n := ((V / 16 : Nat) : Int)) (by omega) (by omega)
 have hmin : (if ((V / 16 : Nat) : Int) < 3 then ((V / 16 : Nat) : Int) else (3 : Int)) = (n : Nat) := by
  rw [← hn, cntE]
  simp only [if_pos]
  split <;> omega
 rw [hn]
 refine yt9 [0, 1, 2] (by simp; rfl) ?_
 refine yk9 ?_
 refine W_rK [0, 1, 2, 14, 15] ?_
 refine yq9 2 (by simp [h12, h12i, eA]; rfl) rfl ?_
 refine yj9 (by simp) (by first | (simp; done) | (simp; rfl)) hv (by simp; rfl) ?_
 refine yr9 (by simp [hdv, wq, hmin, -Int.natCast_ediv]; rfl) ?_
 refine yf9 ?_
 refine zn9 (fun k s => ∃ (i : Nat) (gs : Fl), k = n - i ∧ i ≤ n ∧ (gs = .nil ∧ (rdEs b base nx i).1 = [] ∨ gs = .tip 78 129) ∧
  s = ⟨69, [(0, .loc 1 0), (1, .lst .any 1 (byL b)), (2, .v (.int .i64 (rdEs b base nx i).2)), (14, .v (.int .i64 (n : Nat))), (15, .v (.int .i64 (i : Nat)))], [.cells 26 z, .cells 26 [.lst gs 5 (esL (rdEs b base nx i).1), x1, x2, x3]]⟩) (k := n) ⟨0, fe, rfl, by omega, hfe, by simp [rdEs]⟩ ?_
 rintro k s ⟨i, gs, rfl, hi, hgs, rfl⟩
 by_cases c : i < n
 rotate_left
 ·have hin : i = n := by omega
  subst hin
  refine yt9 [0, 1, 2, 14, 15, 16] (by simp; rfl) ?_
  refine yk9 ?_
  refine yd9 rfl (fun h => by simp at h) (fun h => ?_)
  refine zh9 ?_
  refine yt9 [6] (by simp; rfl) ?_
  refine zr9 ?_
  repeat (first | refine yl9 ?_ | refine yc9 ?_)
  exact xr9 2 (by simp [resA]) (by simp) (by simp) (by simp [AV.under, AV.underL, yg9, AObj.under, u1, u2, u3, uz]) ⟨gs, rfl, hgs, rfl⟩
 have ci : (i : Int) < n := by omega
 obtain ⟨acc, hacc⟩ : ∃ a, (rdEs b base nx i).1 = a := ⟨_, rfl⟩
 obtain ⟨ny, hny⟩ : ∃ a, (rdEs b base nx i).2 = a := ⟨_, rfl⟩
 have hal := rdEs_len b base nx i
 have hnb := rdEs_nx b base nx i
 rw [hacc] at hal hgs
 rw [hny] at hnb
 obtain ⟨X, hX⟩ : ∃ X, b.drop (16 + 16 * i) = X := ⟨_, rfl⟩
 have hXl : 16 ≤ X.length := by rw [← hX, List.length_drop]; omega
 have eX : List.drop (16 + 16 * i) (byL b) = byL X := by rw [← hX, ← xp9]
 have hstep : rdEs b base nx (i + 1) = (acc ++ [rdE X ny], nx1 ny (rdE X ny)) := by rw [rdEs, hacc, hny, hX]
 obtain ⟨Y, hY⟩ : ∃ Y, X.take 8 = Y := ⟨_, rfl⟩
 have eY : List.take 8 (byL X) = byL Y := by rw [← hY, ← xw9]
 have htr := trim_sound Y (by rw [← hY, List.length_take]; omega)
 obtain ⟨nm, hnm⟩ : ∃ s, decM (trimM Y) = s := ⟨_, rfl⟩
 rw [hnm] at htr
 have wm := w64 (n := 16 * (i : Int)) (by omega) (by omega)
 have wa := w64 (n := 16 + 16 * (i : Int)) (by omega) (by omega)
 have hq : 16 + 16 * i ≤ b.length := by omega
 have hqi : 16 + 16 * (i : Int) ≤ b.length := by omega
 have hqt : (16 + 16 * (i : Int)).toNat = 16 + 16 * i := by omega
 have hq0 : (0 : Int) ≤ 16 + 16 * (i : Int) := by omega
 have h8 : 8 ≤ X.length := by omega
 have h8i : (8 : Int) ≤ X.length := by omega
 have h8' : 8 < X.length := by omega
 have h8'i : (8 : Int) < X.length := by omega
 have h9 : 12 ≤ X.length := by omega
 have h9i : (12 : Int) ≤ X.length := by omega
 have h13 : (16 : Int) ≤ X.length := by omega
 obtain ⟨B, hB⟩ : ∃ A, sbM X 9 3 = A := ⟨_, rfl⟩
 have eB : List.drop 9 (List.take 12 (byL X)) = byL B := by rw [← hB, sbM, ← xw9, ← xp9, List.drop_take]
 have hvB := wd9 B (by rw [← hB, sbM, List.length_take]; omega)
 obtain ⟨VB, hVB⟩ : ∃ V, valM B = V := ⟨_, rfl⟩
 rw [hVB] at hvB
 obtain ⟨C, hC⟩ : ∃ A, sbM X 13 3 = A := ⟨_, rfl⟩
 have eC : List.drop 13 (List.take 16 (byL X)) = byL C := by rw [← hC, sbM, ← xw9, ← xp9, List.drop_take]
 have hvC := wd9 C (by rw [← hC, sbM, List.length_take]; omega)
 obtain ⟨VC, hVC⟩ : ∃ V, valM C = V := ⟨_, rfl⟩
 rw [hVC] at hvC
 obtain ⟨t, ht⟩ : ∃ t, X[8]? = some t := ⟨_, List.getElem?_eq_getElem h8'⟩
 have ht2 : X[8]'h8' = t := by rw [List.getElem?_eq_getElem h8'] at ht; exact Option.some.inj ht
 have htd : X.getD 8 0 = t := by rw [List.getD_eq_getElem?_getD, ht]; rfl
 obtain ⟨K, hK⟩ : ∃ K, t.toNat = K := ⟨_, rfl⟩
 have heq : ∀ x : UInt8, (t = x) = (K = x.toNat) := fun x => by rw [← hK]; exact propext UInt8.toNat_inj.symm
 have hrd : rdE X ny = if K = 0 then ⟨nm, 1, ny, VB, VC⟩ else if K = 1 then ⟨nm, 2, VC, VB, 0⟩ else ⟨nm, 3, ny, 0, 0⟩ := by
  have e0 : (t = 0) = (K = 0) := heq 0
  have e1 : (t = 1) = (K = 1) := heq 1
  unfold rdE nmM
  rw [htd, hY, hnm, hB, hC, hVB, hVC]
  by_cases q0 : K = 0
  ·rw [if_pos (by rw [e0]; exact q0), if_pos q0]
  ·rw [if_neg (by rw [e0]; exact q0), if_neg q0]
   by_cases q1 : K = 1
   ·rw [if_pos (by rw [e1]; exact q1), if_pos q1]
   ·rw [if_neg (by rw [e1]; exact q1), if_neg q1]
 have wi := w64 (n := (i : Int) + 1) (by omega) (by omega)
 have wn1 := w64 (n := ny + 1) (by omega) (by omega)
 have wn2 := w64 (n := ny - 1) (by omega) (by omega)
 have wn3 := w64 (n := ny - 1 + 1) (by omega) (by omega)
 have hby : (acc.length + 1) * 48 ≤ 140737488355328 := by omega
 obtain ⟨E, hE⟩ : ∃ E, rdE X ny = E := ⟨_, rfl⟩
 rw [hacc, hny]
 refine yt9 [0, 1, 2, 14, 15, 16] (by simp [c]; rfl) ?_
 refine yk9 ?_
 refine yd9 rfl (fun h => ?_) (fun h => by simp at h)
 refine yh9 ?_
 refine yk9 ?_
 refine yf9 ?_
 refine yt9 [0, 1, 2, 14, 15, 7] (by simp; rfl) ?_
 refine yt9 [0, 1, 2, 14, 15, 8] (by simp [wm, wa, hq, hqi, hqt, hq0, eX]; rfl) ?_
 refine W_rK [0, 1, 2, 14, 15, 8, 9] ?_
 refine yq9 2 (by simp [h8, h8i, eY]; rfl) rfl ?_
 refine yj9 (by simp) (by first | (simp; done) | (simp; rfl)) htr (by simp; rfl) ?_
 refine yr9 (by simp [strB, ys9]; rfl) ?_
 refine ws9 (fun σ => σ = ⟨69, [(0, .loc 1 0), (1, .lst .any 1 (byL b)), (2, .v (.int .i64 (if E.kind = 2 then ny - 1 else ny))), (14, .v (.int .i64 (n : Nat))), (15, .v (.int .i64 (i : Nat))), (9, .loc 2 0)], [.cells 26 z, .cells 26 [.lst gs 5 (esL acc), x1, x2, x3], .cells 78 (esC E)]⟩) ?_ ?_
 ·refine yt9 [0, 1, 2, 14, 15, 8, 9, 30] (by simp [h8', h8'i, ht2, hK]; rfl) ?_
  refine yf9 ?_
  by_cases q0 : K = 0
  ·rw [if_pos q0] at hrd
   refine W_cT [0, 1, 2, 14, 15, 8, 9, 30, 31] (by simp [q0]; rfl) rfl ?_
   refine vh9 [0, 1, 2, 14, 15, 9] mx (by decide +kernel) ?_
   refine yw9 2 (by simp [h9, h9i, eB]; rfl) rfl ?_
   refine yb9 (by simp) (by first | (simp; done) | (simp; rfl)) hvB (by simp; rfl) ?_
   refine yw9 2 (by simp [hXl, h13, eC]; rfl) rfl ?_
   refine yb9 (by simp) (by first | (simp; done) | (simp; rfl)) hvC (by simp; rfl) ?_
   refine yv9 (by simp [ys9]; rfl) ?_
   simp [← hE, hrd, esC, strB]
  have q0b : ((K : Int) == 0) = false := by simpa using q0
  rw [if_neg q0] at hrd
  refine W_cF [0, 1, 2, 14, 15, 8, 9, 30, 31] (by simp [q0, q0b]; rfl) rfl ?_
  by_cases q1 : K = 1
  ·rw [if_pos q1] at hrd
   refine W_cT [0, 1, 2, 14, 15, 8, 9, 30, 42] (by simp [q1]; rfl) rfl ?_
   refine W_rdK [0, 1, 2, 14, 15, 9] mx (by decide +kernel) ?_
   refine yw9 2 (by simp [h9, h9i, eB]; rfl) rfl ?_
   refine yb9 (by simp) (by first | (simp; done) | (simp; rfl)) hvB (by simp; rfl) ?_
   refine yw9 2 (by simp [hXl, h13, eC]; rfl) rfl ?_
   refine yb9 (by simp) (by first | (simp; done) | (simp; rfl)) hvC (by simp; rfl) ?_
   refine yv9 (by simp [ys9]; rfl) ?_
   refine zs9 [0, 1, 2, 14, 15, 9] (by simp [wn2]; rfl) ?_
   simp [← hE, hrd, esC, strB]
  have q1b : ((K : Int) == 1) = false := by simp; omega
  rw [if_neg q1] at hrd
  refine W_cF [0, 1, 2, 14, 15, 9, 42] (by simp [q1, q1b]; rfl) rfl ?_
  refine zt9 [0, 1, 2, 14, 15, 9] ?_
  refine yh9 ?_
  simp [← hE, hrd, esC, strB]
 rintro _ rfl
 have wn : IntKind.i64.wrap ((if E.kind = 2 then ny - 1 else ny) + 1) = nx1 ny E := by
  unfold nx1
  split
  ·rw [wn3]; omega
  ·rw [wn1]
 have hsn : esL (acc ++ [E]) = esL acc ++ [esA E] := by rw [esL_app, esL_one]
 rw [hE] at hstep
 refine yt9 [0, 1, 2, 14, 15, 9] (by simp [wn]; rfl) ?_
 rcases hgs with ⟨rfl, rfl⟩ | rfl
 ·refine W_dvE [0, 1, 2, 14, 15] mx (by decide +kernel) (by simp [hby, ys9, esC, strB, esL_nil, catK, AV.cellsK, AV.kone, AV.koneL, AV.weak, AV.weakL, k1, k2, k3, kz]; rfl) ?_
  refine xd9 2 (by simp) (by simp) (by simp [yn9, AV.under, AV.underL]) (by simp [yg9, AObj.under, AV.under, AV.underL, u1, u2, u3, uz, strB]) ?_
  refine zs9 [0, 1, 2, 14, 15] (by simp [wi]; rfl) ?_
  exact ⟨_, by omega, i + 1, .tip 78 129, rfl, by omega, .inr rfl, by simp [hstep, esL, strB]⟩
 ·refine W_dvE [0, 1, 2, 14, 15] mx (by decide +kernel) (by simp [hby, ys9, esC, strB, catK, AV.cellsK, AV.kone, AV.koneL, AV.weak, AV.weakL, k1, k2, k3, kz]; rfl) ?_
  refine xd9 2 (by simp) (by simp) (by simp [yn9, AV.under, AV.underL]) (by simp [yg9, AObj.under, AV.under, AV.underL, u1, u2, u3, uz, strB]) ?_
  refine zs9 [0, 1, 2, 14, 15] (by simp [wi]; rfl) ?_
  exact ⟨_, by omega, i + 1, .tip 78 129, rfl, by omega, .inr rfl, by simp [hstep, hsn, strB]⟩
end Go.AM
