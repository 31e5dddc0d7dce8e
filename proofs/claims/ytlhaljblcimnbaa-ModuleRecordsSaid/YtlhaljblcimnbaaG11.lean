/- Parts of the walk: C31RA C31RB C31RC C31RD C31RE C31RF. -/
import Derived.Test.YtlhaljblcimnbaaG2
import Derived.Test.YtlhaljblcimnbaaG9
import Derived.Test.YtlhaljblcimnbaaG10
namespace Go.AM
open Go.RowKit Go.Proofs
set_option linter.unusedSimpArgs false
set_option linter.unusedVariables false
set_option maxHeartbeats 4000000
theorem rval_sound (l : List UInt8) (at_ n : Nat) (hn : n ≤ 6) (ha : at_ + n ≤ l.length) (hl : l.length ≤ 140737488355328) : Sound Try.prog 87 [.lst .any 1 (byL l), .v (.int .i64 at_), .v (.int .i64 n)] (.v (.int .i64 (valM ((l.drop at_).take n) : Nat))) := by
 refine sound_of_W Try.func87 rfl (by decide +kernel) (by simp [Try.f87]) rfl rfl (rs := [.tmp 6]) rfl ?_
 rw [show Try.f87.ntmps = 25 from rfl]
 refine W_evK [0, 1, 2] (by simp; rfl) ?_
 refine W_evK [0, 1, 2, 7] (by simp; rfl) ?_
 refine W_seq ?_
 refine W_evK [0, 1, 2, 7, 8] (by simp; rfl) ?_
 refine W_block ?_
 refine W_loop (fun k s => ∃ i : Nat, k = n - i ∧ i ≤ n ∧ s = ⟨25, [(0, .lst .any 1 (byL l)), (1, .v (.int .i64 at_)), (2, .v (.int .i64 n)), (7, .v (.int .i64 (valM ((l.drop at_).take i) : Nat))), (8, .v (.int .i64 (i : Nat)))], []⟩) (k := n) ⟨0, rfl, by omega, by simp [valM]⟩ ?_
 rintro k s ⟨i, rfl, hi, rfl⟩
 refine W_seq ?_
 by_cases c : i < n
 ·have hq : at_ + i < l.length := by omega
  obtain ⟨b, hb⟩ : ∃ b, l[at_ + i]? = some b := ⟨_, List.getElem?_eq_getElem hq⟩
  have hb2 : l[at_ + i]'hq = b := by rw [List.getElem?_eq_getElem hq] at hb; exact Option.some.inj hb
  have wi := w64 (n := (i : Int) + 1) (by omega) (by omega)
  have hv : valM ((l.drop at_).take (i + 1)) = valM ((l.drop at_).take i) * 256 + b.toNat := by rw [List.take_add_one, List.getElem?_drop, hb, Option.toList_some, valM_snoc]
  have hlt := valM_lt i ((l.drop at_).take i) (by simp; omega)
  have hlt2 : valM ((l.drop at_).take i) < 256 ^ 5 := Nat.lt_of_lt_of_le hlt (Nat.pow_le_pow_right (by omega) (by omega))
  have hlt3 : (256 : Nat) ^ 5 = 1099511627776 := by decide
  obtain ⟨V, hV⟩ : ∃ V, valM ((l.drop at_).take i) = V := ⟨_, rfl⟩
  rw [hV] at hv hlt2 ⊢
  have hbl := b.toNat_lt
  obtain ⟨q, hqe⟩ : ∃ q : Nat, (at_ : Int) + i = q := ⟨at_ + i, by omega⟩
  have hqn : at_ + i = q := by omega
  have wq := w64 (n := (q : Int)) (by omega) (by omega)
  have hql : q < l.length := by omega
  have hqi : (q : Int) < l.length := by omega
  have hb3 : l[q]'hql = b := by subst hqn; exact hb2
  have w1 := w64 (n := (256 : Int) * V) (by omega) (by omega)
  have w2 := w64 (n := (b.toNat : Int)) (by omega) (by omega)
  have w3 := w64 (n := (256 : Int) * V + b.toNat) (by omega) (by omega)
  have hcast : ((valM ((l.drop at_).take (i + 1)) : Nat) : Int) = 256 * V + b.toNat := by rw [hv]; omega
  have ci : (i : Int) < n := by omega
  refine W_evK [0, 1, 2, 7, 8, 11] (by simp [c]; rfl) ?_
  refine W_cond rfl (fun h => ?_) (fun h => by simp at h)
  refine W_skip ?_
  refine W_seq ?_
  refine W_block ?_
  refine W_evE [0, 1, 2, 7, 8] (by simp [hqe, wq, hql, hqi, hb3, w1, w2, w3]; rfl) ?_
  refine W_evE [0, 1, 2, 7, 8] (by simp [wi]; rfl) ?_
  exact ⟨_, by omega, i + 1, rfl, by omega, by simp [hcast]⟩
 have e : i = n := by omega
 subst e
 refine W_evK [7, 8, 11] (by simp; rfl) ?_
 refine W_cond rfl (fun h => by simp at h) (fun h => ?_)
 refine W_exit ?_
 refine W_evK [6] (by simp; rfl) ?_
 refine W_ret ?_
 repeat (first | refine on_ret ?_ | refine in_ret ?_)
 simp [retQ]
def cutLs (L : List (List UInt8)) (n k : Nat) : List (List UInt8) := (L.take n).map (·.take k)
theorem cutLists_sound (L : List (List UInt8)) (hL : L.length ≤ 9223372036854775000) (hb : ∀ l ∈ L, l.length ≤ 9223372036854775000) : Sound Try.prog 23 [.lst .any 1 (bbL L), .v (.int .i64 20), .v (.int .i64 1100)] (.lst .any 1 (bbL (cutLs L 20 1100))) := by
 refine sound_of_U Try.func23 rfl (by decide +kernel) (by simp [Try.f23]) rfl rfl (rs := [.tmp 6]) rfl ?_
 rw [show Try.f23.ntmps = 36 from rfl]
 obtain ⟨N, hN⟩ : ∃ N, min L.length 20 = N := ⟨_, rfl⟩
 refine W_evK [0, 1, 2] (by simp; rfl) ?_
 refine W_evK [0, 1, 2, 7] (by simp; rfl) ?_
 refine W_seq ?_
 refine W_evK [0, 1, 2, 7, 8] (by simp; rfl) ?_
 refine W_block ?_
 refine W_loop (fun k s => ∃ (i : Nat) (fl : Fl), k = N - i ∧ i ≤ N ∧ ((i = 0 ∧ fl = .nil) ∨ (0 < i ∧ fl = .tip 27 69)) ∧
  s = ⟨36, [(0, .lst .any 1 (bbL L)), (1, .v (.int .i64 20)), (2, .v (.int .i64 1100)), (7, .lst fl 1 (bbL (cutLs L i 1100))), (8, .v (.int .i64 (i : Nat)))], []⟩) (k := N) ⟨0, .nil, rfl, by omega, .inl ⟨rfl, rfl⟩, by simp [cutLs, bbL]⟩ ?_
 rintro k s ⟨i, fl, rfl, hi, hfl, rfl⟩
 refine W_seq ?_
 by_cases c : i < N
 ·have c1 : i < L.length := by omega
  have ci : (i : Int) < L.length := by omega
  have c20 : (i : Int) < 20 := by omega
  obtain ⟨b, hb'⟩ : ∃ b, L[i]? = some b := ⟨_, List.getElem?_eq_getElem c1⟩
  have hb2 : L[i]'c1 = b := by rw [List.getElem?_eq_getElem c1] at hb'; exact Option.some.inj hb'
  have hbl := hb b (List.mem_of_getElem? hb')
  have wi := w64 (n := (i : Int) + 1) (by omega) (by omega)
  have hlen : (cutLs L i 1100).length = i := by simp [cutLs]; omega
  have hsnoc : cutLs L (i + 1) 1100 = cutLs L i 1100 ++ [b.take 1100] := by rw [cutLs, cutLs, List.take_add_one, hb', Option.toList_some, List.map_append]; rfl
  obtain ⟨q, hq⟩ : ∃ q, min b.length 1100 = q := ⟨_, rfl⟩
  have hmin : (if (1100 : Int) < (b.length : Nat) then (1100 : Int) else (b.length : Nat)) = (q : Nat) := by split <;> omega
  have hql : q ≤ b.length := by omega
  have hqi : (q : Int) ≤ b.length := by omega
  have htk : b.take q = b.take 1100 := by
   rw [← hq]
   rcases Nat.le_total b.length 1100 with h | h
   ·rw [Nat.min_eq_left h, List.take_of_length_le (Nat.le_refl _), List.take_of_length_le h]
   ·rw [Nat.min_eq_right h]
  have hbytes : (i + 1) * 24 ≤ 140737488355328 := by omega
  refine W_evK [0, 1, 2, 7, 8, 17] (by simp [ci, c20]; rfl) ?_
  refine W_cond rfl (fun h => ?_) (fun h => by simp at h)
  refine W_skip ?_
  refine W_seq ?_
  refine W_block ?_
  have hb4 : bbL (cutLs L (i + 1) 1100) = bbL (cutLs L i 1100) ++ [.lst .any 1 (byL (b.take q))] := by rw [hsnoc, htk]; simp [bbL]
  have hbl2 : (bbL (cutLs L i 1100)).length = i := by simp [hlen]
  obtain ⟨O, hO⟩ : ∃ O, bbL (cutLs L i 1100) = O := ⟨_, rfl⟩
  rw [hO] at hbl2 hb4 ⊢
  rcases hfl with ⟨h0, rfl⟩ | ⟨h0, rfl⟩
  ·have hO0 : O = [] := by
    rw [h0] at hbl2
    exact List.eq_nil_of_length_eq_zero hbl2
   rw [hO0] at hb4 ⊢
   refine W_rdE [0, 1, 2, 7, 8] mx (by decide +kernel) ?_
   refine runD_pre 6 (by simp [c1, ci, hb2]; rfl) rfl ?_
   refine runD_pre 6 (by simp [c1, ci, hb2, hmin, hql, hqi]; rfl) rfl ?_
   refine runD_fin (by simp [hql, hqi]; rfl) ?_
   refine W_evE [0, 1, 2, 7, 8] (by simp [wi]; rfl) ?_
   exact ⟨_, by omega, i + 1, _, rfl, by omega, .inr ⟨by omega, rfl⟩, by simp [hb4, byL_take]⟩
  ·refine W_rdE [0, 1, 2, 7, 8] mx (by decide +kernel) ?_
   refine runD_pre 6 (by simp [c1, ci, hb2]; rfl) rfl ?_
   refine runD_pre 6 (by simp [c1, ci, hb2, hmin, hql, hqi]; rfl) rfl ?_
   refine runD_fin (by simp [hbl2, hbytes, hql, hqi]; rfl) ?_
   refine W_evE [0, 1, 2, 7, 8] (by simp [wi]; rfl) ?_
   exact ⟨_, by omega, i + 1, _, rfl, by omega, .inr ⟨by omega, rfl⟩, by simp [hb4, byL_take]⟩
 have hiN : i = N := by omega
 have hres : cutLs L i 1100 = cutLs L 20 1100 := by
  rw [hiN, ← hN]
  rcases Nat.le_total L.length 20 with h | h
  ·rw [Nat.min_eq_left h, cutLs, cutLs, List.take_of_length_le (Nat.le_refl _), List.take_of_length_le h]
  ·rw [Nat.min_eq_right h]
 rw [hres]
 by_cases c1 : i < L.length
 ·have ci : (i : Int) < L.length := by omega
  have c20 : ¬ (i : Int) < 20 := by omega
  refine W_evK [7, 17] (by simp [c1, ci, c20]; rfl) ?_
  refine W_cond rfl (fun h => by simp at h) (fun h => ?_)
  refine W_exit ?_
  refine W_evK [6] (by simp; rfl) ?_
  refine W_ret ?_
  repeat (first | refine on_ret ?_ | refine in_ret ?_)
  exact retU_pl (r0 := .lst fl 1 (bbL (cutLs L 20 1100))) ⟨.inr rfl, _, _, by simp; rfl, by simp; rfl, by simp [AV.rf, AV.rfL]⟩ (by rcases hfl with ⟨_, rfl⟩ | ⟨_, rfl⟩ <;> simp [AV.plain])
 ·have ci : ¬ (i : Int) < L.length := by omega
  refine W_evK [7, 17] (by simp [c1, ci]; rfl) ?_
  refine W_cond rfl (fun h => by simp at h) (fun h => ?_)
  refine W_exit ?_
  refine W_evK [6] (by simp; rfl) ?_
  refine W_ret ?_
  repeat (first | refine on_ret ?_ | refine in_ret ?_)
  exact retU_pl (r0 := .lst fl 1 (bbL (cutLs L 20 1100))) ⟨.inr rfl, _, _, by simp; rfl, by simp; rfl, by simp [AV.rf, AV.rfL]⟩ (by rcases hfl with ⟨_, rfl⟩ | ⟨_, rfl⟩ <;> simp [AV.plain])
end Go.AM
namespace Go.AM
open Go.RowKit Go.Proofs
set_option linter.unusedSimpArgs false
set_option linter.unusedVariables false
set_option maxHeartbeats 4000000
@[simp] theorem eq27c (y : AV) (l : List AV) : eqA Try.prog 27 (.lst .any 1 (y :: l)) (.lst .nil 0 []) = some false := by
 unfold eqA
 simp only [k27]
 rfl
@[simp] theorem eq27n : eqA Try.prog 27 (.lst .nil 1 []) (.lst .nil 0 []) = some true := by
 unfold eqA
 simp only [k27]
 rfl
@[simp] theorem eq27s (a : Addr) (n cap : Nat) : eqA Try.prog 27 (.v (.slice (some a) n cap)) (.lst .nil 0 []) = some false := by
 unfold eqA
 simp only [k27]
 rfl
theorem clone64 (l : List UInt8) (hl : l.length ≤ 140737488351232) : Sound Try.prog 64 [.lst .any 1 (byL l)] (.lst (.tip 5 1) 1 (byL l)) := by
 refine sound_of_U Try.func64 rfl (by decide +kernel) (by simp [Try.f64]) rfl rfl (rs := [.tmp 2]) rfl ?_
 rw [show Try.f64.ntmps = 8 from rfl]
 have hb : l.length ≤ 140737488355328 := by omega
 refine W_evK [0] (by simp; rfl) ?_
 refine W_seq ?_
 cases l with
 | cons x l =>
  refine W_evK [0, 4] (by simp [byL_cons]; rfl) ?_
  refine W_cond rfl (fun h => by simp at h) (fun h => ?_)
  refine W_skip ?_
  rw [← byL_cons]
  refine W_evK [2] (by simp at hb; simp [hb]; rfl) ?_
  refine W_ret ?_
  repeat (first | refine on_ret ?_ | refine in_ret ?_)
  exact ⟨_, by simp [retQ]; exact ⟨rfl, by simp⟩, .norm fun T => by simp⟩
 | nil =>
  refine W_nilCases 0 (sz := 1) rfl ?_ fun ad cap hc => ?_
  ·refine W_evK [0, 4] (by simp [putF]; rfl) ?_
   refine W_cond rfl (fun h => ?_) (fun h => by simp at h)
   refine W_evK [2] (by simp; rfl) ?_
   refine W_ret ?_
   repeat (first | refine on_ret ?_ | refine in_ret ?_)
   exact ⟨.lst .nil 1 [], by simp [retQ], .nil (by decide +kernel)⟩
  ·refine W_evK [0, 4] (by simp [putF]; rfl) ?_
   refine W_cond rfl (fun h => by simp at h) (fun h => ?_)
   refine W_skip ?_
   refine W_keepS [0] ?_
   refine W_unnil 0 1 (by simp; rfl) hc ?_
   refine W_evK [2] (by simp [putF]; rfl) ?_
   refine W_ret ?_
   repeat (first | refine on_ret ?_ | refine in_ret ?_)
   exact ⟨_, by simp [retQ]; exact ⟨rfl, by simp⟩, .norm fun T => by simp⟩
theorem clone64p (l : List UInt8) (hl : l.length ≤ 140737488351232) : Sound Try.prog 64 [.lst .any 1 (byL l)] (.lst .any 1 (byL l)) := (clone64 l hl).weakR
def rdS (r : List UInt8) : Seg := ⟨(valM (r.take 2) : Int) - 1, valM ((r.drop 2).take 4), valM ((r.drop 6).take 4), valM ((r.drop 10).take 4)⟩
def segRd : Nat → List UInt8 → List Seg
 | 0, _ => []
 | f + 1, r => if 14 ≤ r.length then rdS r :: segRd f (r.drop 14) else []
def rdR (r : List UInt8) : Rlo := ⟨valM (r.take 4), ((r.getD 4 0).toNat % 128 : Nat), decide (128 ≤ (r.getD 4 0).toNat)⟩
def relRd : Nat → List UInt8 → List Rlo
 | 0, _ => []
 | f + 1, r => if 5 ≤ r.length then rdR r :: relRd f (r.drop 5) else []
def itemM (m : LMod) (b : List UInt8) : LMod :=
 if (b.getD 0 0) = 1 then ⟨m.text, m.rel, m.seg ++ segRd b.length (b.drop 7), valM ((b.drop 1).take 4)⟩
 else if (b.getD 0 0) = 2 then ⟨m.text ++ b.drop 5, m.rel, m.seg, m.entry⟩
 else if (b.getD 0 0) = 3 then ⟨m.text, m.rel ++ relRd b.length (b.drop 1), m.seg, m.entry⟩
 else m
def goL : List (List UInt8) → LMod → Option LMod
 | [], m => some m
 | b :: r, m => if b.length < 5 then none else goL r (itemM m b)
def lm0 : LMod := ⟨[], [], [], 0⟩
def dcLM (L : List (List UInt8)) : LMod × Bool := match goL L lm0 with
 | none => (lm0, false)
 | some m => if ckM m = true ∧ encL m = L then (m, true) else (lm0, false)
theorem segRd_len : ∀ (f : Nat) (r : List UInt8), (segRd f r).length * 14 ≤ r.length
 | 0, r => by simp [segRd]
 | f + 1, r => by
  rw [segRd]
  split
  ·have := segRd_len f (r.drop 14)
   simp only [List.length_drop] at this
   simp only [List.length_cons]
   omega
  ·simp
theorem relRd_len : ∀ (f : Nat) (r : List UInt8), (relRd f r).length * 5 ≤ r.length
 | 0, r => by simp [relRd]
 | f + 1, r => by
  rw [relRd]
  split
  ·have := relRd_len f (r.drop 5)
   simp only [List.length_drop] at this
   simp only [List.length_cons]
   omega
  ·simp
structure LB (m : LMod) (n : Nat) : Prop where
 s : m.seg.length * 14 ≤ n
 t : m.text.length ≤ n
 r : m.rel.length ≤ n
theorem LB.item {m : LMod} {n : Nat} {b : List UInt8} (h : LB m n) : LB (itemM m b) (n + b.length) := by
 obtain ⟨h1, h2, h3⟩ := h
 have k1 := segRd_len b.length (b.drop 7)
 have k2 := relRd_len b.length (b.drop 1)
 simp only [List.length_drop] at k1 k2
 unfold itemM
 split
 ·exact ⟨by simp only [List.length_append]; omega, by simp only; omega, by simp only; omega⟩
 split
 ·exact ⟨by simp only; omega, by simp only [List.length_append, List.length_drop]; omega, by simp only; omega⟩
 split
 ·exact ⟨by simp only; omega, by simp only; omega, by simp only [List.length_append]; omega⟩
 ·exact ⟨by omega, by omega, by omega⟩
end Go.AM
namespace Go.AM
open Go.RowKit Go.Proofs
set_option linter.unusedSimpArgs false
set_option linter.unusedVariables false
set_option maxHeartbeats 8000000
def mF (ft fr fs : Fl) (m : LMod) : List AV := [.lst ft 1 (byL m.text), .lst fr 3 (rlL m.rel), .lst fs 4 (sgL m.seg), .v (.int .i64 m.entry)]
def FlO (a b c : Nat) (ft fr fs : Fl) (m : LMod) : Prop := (ft = .nil ∧ m.text = [] ∨ ft = .tip 5 a) ∧ (fr = .nil ∧ m.rel = [] ∨ fr = .tip 85 b) ∧ (fs = .nil ∧ m.seg = [] ∨ fs = .tip 83 c)
theorem sgL_app (s t : List Seg) : sgL (s ++ t) = sgL s ++ sgL t := by simp [sgL]
theorem rlL_app (s t : List Rlo) : rlL (s ++ t) = rlL s ++ rlL t := by simp [rlL]
@[simp] theorem byL_nil31 : byL [] = [] := rfl
theorem sgL_nil : sgL [] = [] := rfl
theorem rlL_nil : rlL [] = [] := rfl
theorem sgL_one (s : Seg) : sgL [s] = [segA s] := rfl
theorem rlL_one (s : Rlo) : rlL [s] = [rloA s] := rfl
theorem bit128 : ∀ n : Fin 256, (BitVec.ofInt 8 (n.val : Int) &&& ~~~ BitVec.ofInt 8 128).toNat = n.val % 128 ∧ (BitVec.ofInt 8 (n.val : Int) &&& BitVec.ofInt 8 128).toNat = n.val / 128 * 128 := by decide +kernel
theorem andNot128 (n : Nat) (h : n < 256) : bitsA .andNot .u8 (n : Int) 128 = some (.v (.int .u8 ((n % 128 : Nat) : Int))) := by
 have := (bit128 ⟨n, h⟩).1
 simp only at this
 show some (AV.v (.int .u8 (IntKind.u8.wrap ((BitVec.ofInt 8 (n : Int) &&& ~~~BitVec.ofInt 8 128).toNat : Nat)))) = _
 rw [this, wu8 (by omega) (by omega)]
theorem and128 (n : Nat) (h : n < 256) : bitsA .and .u8 (n : Int) 128 = some (.v (.int .u8 ((n / 128 * 128 : Nat) : Int))) := by
 have := (bit128 ⟨n, h⟩).2
 simp only at this
 show some (AV.v (.int .u8 (IntKind.u8.wrap ((BitVec.ofInt 8 (n : Int) &&& BitVec.ofInt 8 128).toNat : Nat)))) = _
 rw [this, wu8 (by omega) (by omega)]
def sumL (L : List (List UInt8)) : Nat := (L.map List.length).sum
theorem sumL_take {L : List (List UInt8)} {i : Nat} {b : List UInt8} (h : L[i]? = some b) : sumL (L.take (i + 1)) = sumL (L.take i) + b.length := by
 rw [List.take_add_one, h, Option.toList_some]
 simp [sumL]
theorem sumL_le (L : List (List UInt8)) (i : Nat) : sumL (L.take i) ≤ sumL L := by
 have h : L = L.take i ++ L.drop i := (List.take_append_drop i L).symm
 have h2 : sumL L = sumL (L.take i) + sumL (L.drop i) := by
  have : sumL (L.take i ++ L.drop i) = sumL (L.take i) + sumL (L.drop i) := by simp only [sumL, List.map_append, List.sum_append]
  rw [← h] at this
  exact this
 omega
theorem segRd_step {f : Nat} {r : List UInt8} (h : 14 ≤ r.length) (hf : r.length ≤ f) : ∃ f', f = f' + 1 ∧ segRd f r = rdS r :: segRd f' (r.drop 14) ∧ (r.drop 14).length ≤ f' := by
 obtain ⟨f', rfl⟩ : ∃ f', f = f' + 1 := ⟨f - 1, by omega⟩
 exact ⟨f', rfl, by rw [segRd, if_pos h], by simp; omega⟩
theorem segRd_end {f : Nat} {r : List UInt8} (h : ¬ 14 ≤ r.length) : segRd f r = [] := by
 cases f with
 | zero => rfl
 | succ f => rw [segRd, if_neg h]
theorem relRd_step {f : Nat} {r : List UInt8} (h : 5 ≤ r.length) (hf : r.length ≤ f) : ∃ f', f = f' + 1 ∧ relRd f r = rdR r :: relRd f' (r.drop 5) ∧ (r.drop 5).length ≤ f' := by
 obtain ⟨f', rfl⟩ : ∃ f', f = f' + 1 := ⟨f - 1, by omega⟩
 exact ⟨f', rfl, by rw [relRd, if_pos h], by simp; omega⟩
theorem relRd_end {f : Nat} {r : List UInt8} (h : ¬ 5 ≤ r.length) : relRd f r = [] := by
 cases f with
 | zero => rfl
 | succ f => rw [relRd, if_neg h]
theorem kl_v (T : Nat) (x : Value) : AV.kill T (.v x) = .v x := rfl
theorem kl_loc (T i j : Nat) : AV.kill T (.loc i j) = .loc i j := rfl
theorem kl_any (T s : Nat) (x : List AV) : AV.kill T (.lst .any s x) = .lst .any s x := rfl
theorem kl_nil (T s : Nat) (x : List AV) : AV.kill T (.lst .nil s x) = .lst .nil s x := rfl
theorem kl_tip (T e U s : Nat) (x : List AV) : AV.kill T (.lst (.tip e U) s x) = if U = T then .lst (if U % 2 = 0 then .ex else .any) s x else .lst (.tip e U) s x := rfl
theorem kl_agg (T : Nat) (x : List AV) : AV.kill T (.agg x) = .agg (AV.killL T x) := rfl
theorem kl_ro (T : Nat) (x : AV) : AV.kill T (.ro x) = .ro x := rfl
theorem kl_f {T e a s : Nat} {f : Fl} {p : Prop} {x : List AV} (h : f = .nil ∧ p ∨ f = .tip e a) (hne : a ≠ T) : AV.kill T (.lst f s x) = .lst f s x := by
 rcases h with ⟨rfl, _⟩ | rfl
 ·rfl
 ·rw [kl_tip, if_neg hne]
theorem decodeLoad_sound (L : List (List UInt8)) (hS : sumL L ≤ 1000000) (hL : L.length ≤ 1000000) :
  Sound Try.prog 28 [.lst .any 1 (bbL L)] (.tup [lmA (dcLM L).1, .v (.int .i64 (if (dcLM L).2 = true then 0 else 310))]) := by
 refine sound_of_U Try.func28 rfl (by decide +kernel) (by simp [Try.f28]) rfl rfl (rs := [.cell 2 40, .tmp 3]) rfl ?_
 rw [show Try.f28.ntmps = 115 from rfl]
 refine W_evK [0, 2] (by simp; rfl) ?_
 refine W_evK [0, 2, 4] (by simp; rfl) ?_
 refine W_seqK (fun σ => ∃ (m : LMod) (ft fr fs : Fl), goL L lm0 = some m ∧ LB m (sumL L) ∧ FlO 131 187 115 ft fr fs m ∧ σ = ⟨115, [(0, .lst .any 1 (bbL L)), (2, .loc 0 0), (4, .loc 1 0)], [.cells 40 z40C, .cells 40 (mF ft fr fs m)]⟩) ?_ ?_
 ·refine W_evK [0, 2, 4, 11, 12, 13] (by simp; rfl) ?_
  refine W_block ?_
  refine W_loop (fun k s => ∃ (i : Nat) (m : LMod) (ft fr fs : Fl), k = L.length - i ∧ i ≤ L.length ∧ goL (L.drop i) m = goL L lm0 ∧ LB m (sumL (L.take i)) ∧ FlO 131 187 115 ft fr fs m ∧
   s = ⟨115, [(0, .lst .any 1 (bbL L)), (2, .loc 0 0), (4, .loc 1 0), (11, .lst .any 1 (bbL L)), (12, .v (.int .i64 (L.length : Nat))), (13, .v (.int .i64 (i : Nat)))], [.cells 40 z40C, .cells 40 (mF ft fr fs m)]⟩) (k := L.length) ⟨0, lm0, .nil, .nil, .nil, rfl, by omega, rfl, ⟨by simp [lm0], by simp [lm0], by simp [lm0]⟩, ⟨.inl ⟨rfl, rfl⟩, .inl ⟨rfl, rfl⟩, .inl ⟨rfl, rfl⟩⟩, by simp [mF, lm0, byL, rlL, sgL, z40C]⟩ ?_
  rintro k s ⟨i, m, ft, fr, fs, rfl, hi, hgo, hLB, hfl, rfl⟩
  by_cases c : i < L.length
  rotate_left
  ·refine W_evK [0, 2, 4, 14] (by simp [c]; rfl) ?_
   refine W_seq ?_
   refine W_cond rfl (fun h => by simp at h) (fun h => ?_)
   refine W_keepS [0, 2, 4] ?_
   refine W_exit ?_
   have hiL : i = L.length := by omega
   refine ⟨m, ft, fr, fs, ?_, ?_, hfl, by simp⟩
   ·rw [← hgo, hiL, List.drop_length, goL]
   ·rw [hiL, List.take_length] at hLB; exact hLB
  have ci : (i : Int) < L.length := by omega
  obtain ⟨b, hb⟩ : ∃ b, L[i]? = some b := ⟨_, List.getElem?_eq_getElem c⟩
  have hb2 : L[i]'c = b := by rw [List.getElem?_eq_getElem c] at hb; exact Option.some.inj hb
  have hdr : L.drop i = b :: L.drop (i + 1) := by rw [List.drop_eq_getElem_cons c, hb2]
  have hsum := sumL_take hb
  have hsle := sumL_le L (i + 1)
  have wi := w64 (n := (i : Int) + 1) (by omega) (by omega)
  have hLB' := hLB.item (b := b)
  rw [← hsum] at hLB'
  rw [hdr, goL] at hgo
  refine W_evK [0, 2, 4, 11, 12, 13, 14] (by simp [c]; rfl) ?_
  refine W_seq ?_
  refine W_cond rfl (fun h => ?_) (fun h => by simp at h)
  refine W_skip ?_
  refine W_seq ?_
  refine W_block ?_
  refine W_evK [0, 2, 4, 11, 12, 13, 6] (by simp [c, ci, hb2]; rfl) ?_
  refine W_seq ?_
  by_cases c5 : b.length < 5
  ·have c5i : (b.length : Int) < 5 := by omega
   rw [if_pos c5] at hgo
   refine W_evK [0, 2, 4, 11, 12, 13, 6, 19] (by simp [c5, c5i]; rfl) ?_
   refine W_cond rfl (fun h => ?_) (fun h => by simp at h)
   refine W_evK [2, 3] (by simp [setSeg]; rfl) ?_
   refine W_ret ?_
   repeat (first | refine on_ret ?_ | refine in_ret ?_)
   have hd : dcLM L = (lm0, false) := by rw [dcLM, ← hgo]
   rw [hd]
   exact retU_pl (r0 := .tup _) ⟨.inr rfl, _, _, by simp [z40C, setSeg]; rfl, by simp; exact ⟨rfl, rfl⟩, by simp [AV.rf, AV.rfL]⟩ (by simp [AV.plain, AV.plainL, lm0, byL, rlL, sgL])
  have c5i : ¬ (b.length : Int) < 5 := by omega
  rw [if_neg c5] at hgo
  obtain ⟨b0, hb0⟩ : ∃ b0, b[0]? = some b0 := ⟨_, List.getElem?_eq_getElem (by omega)⟩
  have hb00 : b[0]'(by omega) = b0 := by rw [List.getElem?_eq_getElem (by omega)] at hb0; exact Option.some.inj hb0
  have hgd : b.getD 0 0 = b0 := by rw [List.getD_eq_getElem?_getD, hb0]; rfl
  have hbl : b.length ≤ 1000000 := by omega
  have h0 : 0 < b.length := by omega
  refine W_evK [0, 2, 4, 11, 12, 13, 6, 19] (by simp [c5, c5i]; rfl) ?_
  refine W_cond rfl (fun h => by simp at h) (fun h => ?_)
  refine W_skip ?_
  refine W_evK [0, 2, 4, 11, 12, 13, 6, 23] (by simp [h0, hb00]; rfl) ?_
  refine W_block ?_
  have hb0l := b0.toNat_lt
  obtain ⟨k0, hk0⟩ : ∃ k0, b0.toNat = k0 := ⟨_, rfl⟩
  rw [hk0] at hb0l ⊢
  have heq : ∀ x : UInt8, (b0 = x) = (k0 = x.toNat) := fun x => by rw [← hk0]; exact propext UInt8.toNat_inj.symm
  by_cases k1 : k0 = 1
  ·have k1i : (k0 : Int) = 1 := by omega
   have hit : itemM m b = ⟨m.text, m.rel, m.seg ++ segRd b.length (b.drop 7), valM ((b.drop 1).take 4)⟩ := by rw [itemM, if_pos (by rw [hgd, heq]; exact k1)]
   refine W_evK [0, 2, 4, 11, 12, 13, 6, 23, 24] (by simp [k1]; rfl) ?_
   refine W_cond rfl (fun h => ?_) (fun h => by simp at h)
   obtain ⟨A, hA⟩ : ∃ A, (b.drop 1).take 4 = A := ⟨_, rfl⟩
   have hAl : A.length ≤ 7 := by rw [← hA]; simp; omega
   have e14 : (List.take 5 (byL b)).tail = byL A := by rw [← hA, ← List.drop_one, ← byL_take, ← byL_drop, List.drop_take]
   have h5 : 5 ≤ b.length := by omega
   have h5i : (5 : Int) ≤ b.length := by omega
   have hv := val_sound A hAl
   obtain ⟨E, hE⟩ : ∃ E, valM A = E := ⟨_, rfl⟩
   rw [hE] at hv
   rw [hA, hE] at hit
   refine W_rK [0, 2, 4, 11, 12, 13, 6] ?_
   refine runA_pre 2 (by simp [h5, h5i]; rfl) rfl ?_
   refine runA_call (by simp) (by simp [e14]; rfl) hv (by simp; rfl) ?_
   refine runA_fin (by simp [mF, setSeg]; rfl) ?_
   obtain ⟨q, hq⟩ : ∃ q, min 7 b.length = q := ⟨_, rfl⟩
   have hmin : (if (b.length : Int) < 7 then ((b.length : Nat) : Int) else (7 : Int)) = (q : Nat) := by split <;> omega
   have hql : q ≤ b.length := by omega
   have hqi : (q : Int) ≤ b.length := by omega
   have hdq : b.drop q = b.drop 7 := by
    rw [← hq]
    rcases Nat.le_total 7 b.length with h | h
    ·rw [Nat.min_eq_left h]
    ·rw [Nat.min_eq_right h, List.drop_length, List.drop_eq_nil_of_le h]
   have hdqb : (byL b).drop q = byL (b.drop 7) := by rw [← byL_drop, hdq]
   refine W_evK [0, 2, 4, 11, 12, 13, 7] (by simp [hmin, hql, hqi, hdqb]; rfl) ?_
   have hkt : ∀ s x, AV.kill 115 (.lst ft s x) = .lst ft s x := fun s x => kl_f hfl.1 (by decide)
   have hkr : ∀ s x, AV.kill 115 (.lst fr s x) = .lst fr s x := fun s x => kl_f hfl.2.1 (by decide)
   refine W_block ?_
   have hms := hLB.s
   have hss := sumL_le L i
   have hsg := segRd_len b.length (b.drop 7)
   simp only [List.length_drop] at hsg
   refine W_loop (fun k s => ∃ (f : Nat) (r : List UInt8) (acc : List Seg) (gs : Fl), k = f ∧ r.length ≤ f ∧ r.length ≤ 1000000 ∧ acc ++ segRd f r = m.seg ++ segRd b.length (b.drop 7) ∧ (gs = .nil ∧ acc = [] ∨ gs = .tip 83 115) ∧
    s = ⟨115, [(0, .lst .any 1 (bbL L)), (2, .loc 0 0), (4, .loc 1 0), (11, .lst .any 1 (bbL L)), (12, .v (.int .i64 (L.length : Nat))), (13, .v (.int .i64 (i : Nat))), (7, .lst .any 1 (byL r))], [.cells 40 z40C, .cells 40 [.lst ft 1 (byL m.text), .lst fr 3 (rlL m.rel), .lst gs 4 (sgL acc), .v (.int .i64 (E : Nat))]]⟩) (k := b.length) ⟨b.length, b.drop 7, m.seg, fs, rfl, by simp, by simp; omega, rfl, hfl.2.2, by simp⟩ ?_
   rintro k s ⟨f, r, acc, gs, rfl, hrf, hr1, hacc, hgs, rfl⟩
   have hal : acc.length ≤ 2000000 := by
    have := congrArg List.length hacc
    simp only [List.length_append] at this
    omega
   refine W_seq ?_
   by_cases c14 : 14 ≤ r.length
   rotate_left
   ·have c14i : ¬ (14 : Int) ≤ r.length := by omega
    refine W_evK [0, 2, 4, 11, 12, 13, 37] (by simp [c14, c14i]; rfl) ?_
    refine W_cond rfl (fun h => by simp at h) (fun h => ?_)
    refine W_exit ?_
    rw [segRd_end c14, List.append_nil] at hacc
    refine W_evE [0, 2, 4, 11, 12, 13] (by simp [wi]; rfl) ?_
    rw [hit] at hgo hLB'
    refine ⟨_, by omega, i + 1, _, ft, fr, gs, rfl, by omega, hgo, hLB', ⟨hfl.1, hfl.2.1, ?_⟩, by simp [mF, hacc]⟩
    simp only
    rw [← hacc]
    exact hgs
   have c14i : (14 : Int) ≤ r.length := by omega
   obtain ⟨f', rfl, hrd, hrl⟩ := segRd_step c14 hrf
   rw [hrd] at hacc
   have c2 : 2 ≤ r.length := by omega
   have c6 : 6 ≤ r.length := by omega
   have c10 : 10 ≤ r.length := by omega
   have c2i : (2 : Int) ≤ r.length := by omega
   have c6i : (6 : Int) ≤ r.length := by omega
   have c10i : (10 : Int) ≤ r.length := by omega
   obtain ⟨A2, hA2⟩ : ∃ A, r.take 2 = A := ⟨_, rfl⟩
   obtain ⟨A6, hA6⟩ : ∃ A, (r.drop 2).take 4 = A := ⟨_, rfl⟩
   obtain ⟨A10, hA10⟩ : ∃ A, (r.drop 6).take 4 = A := ⟨_, rfl⟩
   obtain ⟨A14, hA14⟩ : ∃ A, (r.drop 10).take 4 = A := ⟨_, rfl⟩
   have e2 : List.take 2 (byL r) = byL A2 := by rw [← hA2, ← byL_take]
   have e6 : List.drop 2 (List.take 6 (byL r)) = byL A6 := by rw [← hA6, ← byL_take, ← byL_drop, List.drop_take]
   have e10 : List.drop 6 (List.take 10 (byL r)) = byL A10 := by rw [← hA10, ← byL_take, ← byL_drop, List.drop_take]
   have e14 : List.drop 10 (List.take 14 (byL r)) = byL A14 := by rw [← hA14, ← byL_take, ← byL_drop, List.drop_take]
   have ed : List.drop 14 (byL r) = byL (r.drop 14) := by rw [← byL_drop]
   have v2 := val_sound A2 (by rw [← hA2]; simp; omega)
   have v6 := val_sound A6 (by rw [← hA6]; simp; omega)
   have v10 := val_sound A10 (by rw [← hA10]; simp; omega)
   have v14 := val_sound A14 (by rw [← hA14]; simp; omega)
   have hV2l := valM_lt 2 A2 (by rw [← hA2]; simp; omega)
   obtain ⟨V2, hV2⟩ : ∃ V, valM A2 = V := ⟨_, rfl⟩
   obtain ⟨V6, hV6⟩ : ∃ V, valM A6 = V := ⟨_, rfl⟩
   obtain ⟨V10, hV10⟩ : ∃ V, valM A10 = V := ⟨_, rfl⟩
   obtain ⟨V14, hV14⟩ : ∃ V, valM A14 = V := ⟨_, rfl⟩
   have hrs : rdS r = ⟨(V2 : Int) - 1, V6, V10, V14⟩ := by rw [rdS, hA2, hA6, hA10, hA14, hV2, hV6, hV10, hV14]
   rw [hV2] at v2 hV2l
   rw [hV6] at v6
   rw [hV10] at v10
   rw [hV14] at v14
   have hp2 : (256 : Nat) ^ 2 = 65536 := by decide
   have w2 := w64 (n := (V2 : Int) - 1) (by omega) (by omega)
   have hby : (acc.length + 1) * 32 ≤ 140737488355328 := by omega
   have hsn : sgL (acc ++ [rdS r]) = sgL acc ++ [segA (rdS r)] := by rw [sgL_app, sgL_one]
   rw [hrs] at hsn
   refine W_evK [0, 2, 4, 11, 12, 13, 7, 37] (by simp [c14, c14i]; rfl) ?_
   refine W_cond rfl (fun h => ?_) (fun h => by simp at h)
   refine W_skip ?_
   refine W_seq ?_
   refine W_block ?_
   rcases hgs with ⟨rfl, rfl⟩ | rfl
   ·refine W_rdE [0, 2, 4, 11, 12, 13, 7] mx (by decide +kernel) ?_
    refine runD_pre 4 (by simp [c2, c2i, e2, sgL_nil]; rfl) rfl ?_
    refine runD_call (by simp) (by first | (simp; done) | (simp; rfl)) v2 (by simp; rfl) ?_
    refine runD_pre 3 (by simp [c6, c6i, e6, w2]; rfl) rfl ?_
    refine runD_call (by simp) (by first | (simp; done) | (simp; rfl)) v6 (by simp; rfl) ?_
    refine runD_pre 2 (by simp [c10, c10i, e10]; rfl) rfl ?_
    refine runD_call (by simp) (by first | (simp; done) | (simp; rfl)) v10 (by simp; rfl) ?_
    refine runD_pre 2 (by simp [c14, c14i, e14]; rfl) rfl ?_
    refine runD_call (by simp) (by first | (simp; done) | (simp; rfl)) v14 (by simp; rfl) ?_
    refine runD_fin (by simp [hby, setSeg, -AV.kill, kl_v, kl_loc, kl_any, kl_nil, kl_tip, kl_agg, kl_ro, hkt, hkr]; rfl) ?_
    refine W_evE [0, 2, 4, 11, 12, 13, 7] (by simp [c14, c14i, ed]; rfl) ?_
    exact ⟨_, by omega, f', r.drop 14, [] ++ [rdS r], .tip 83 115, rfl, hrl, by simp; omega, by rw [← hacc]; simp, .inr rfl, by rw [hrs]; simp [hsn, sgL, setSeg, -AV.kill, kl_v, kl_loc, kl_any, kl_nil, kl_tip, kl_agg, kl_ro, hkt, hkr]⟩
   ·refine W_rdE [0, 2, 4, 11, 12, 13, 7] mx (by decide +kernel) ?_
    refine runD_pre 4 (by simp [c2, c2i, e2, sgL_nil]; rfl) rfl ?_
    refine runD_call (by simp) (by first | (simp; done) | (simp; rfl)) v2 (by simp; rfl) ?_
    refine runD_pre 3 (by simp [c6, c6i, e6, w2]; rfl) rfl ?_
    refine runD_call (by simp) (by first | (simp; done) | (simp; rfl)) v6 (by simp; rfl) ?_
    refine runD_pre 2 (by simp [c10, c10i, e10]; rfl) rfl ?_
    refine runD_call (by simp) (by first | (simp; done) | (simp; rfl)) v10 (by simp; rfl) ?_
    refine runD_pre 2 (by simp [c14, c14i, e14]; rfl) rfl ?_
    refine runD_call (by simp) (by first | (simp; done) | (simp; rfl)) v14 (by simp; rfl) ?_
    refine runD_fin (by simp [hby, setSeg, -AV.kill, kl_v, kl_loc, kl_any, kl_nil, kl_tip, kl_agg, kl_ro, hkt, hkr]; rfl) ?_
    refine W_evE [0, 2, 4, 11, 12, 13, 7] (by simp [c14, c14i, ed]; rfl) ?_
    exact ⟨_, by omega, f', r.drop 14, acc ++ [rdS r], .tip 83 115, rfl, hrl, by simp; omega, by rw [← hacc]; simp, .inr rfl, by rw [hrs]; simp [hsn, setSeg, -AV.kill, kl_v, kl_loc, kl_any, kl_nil, kl_tip, kl_agg, kl_ro, hkt, hkr]⟩
  have k1i : ¬ (k0 : Int) = 1 := by omega
  have k1b : ((k0 : Int) == 1) = false := by simpa using k1i
  refine W_evK [0, 2, 4, 11, 12, 13, 6, 23, 24] (by simp [k1, k1i, k1b]; rfl) ?_
  refine W_cond rfl (fun h => by simp at h) (fun h => ?_)
  by_cases k2 : k0 = 2
  ·have k2i : (k0 : Int) = 2 := by omega
   have hit : itemM m b = ⟨m.text ++ b.drop 5, m.rel, m.seg, m.entry⟩ := by rw [itemM, if_neg (by rw [hgd, heq]; exact k1), if_pos (by rw [hgd, heq]; exact k2)]
   rw [hit] at hgo hLB'
   have hd5 : List.drop 5 (byL b) = byL (b.drop 5) := by rw [← byL_drop]
   have h5 : 5 ≤ b.length := by omega
   have h5i : (5 : Int) ≤ b.length := by omega
   have hmt := hLB.t
   have hss := sumL_le L i
   have hby : m.text.length + (b.length - 5) ≤ 140737488355328 := by omega
   have hby2 : b.length - 5 ≤ 140737488355328 := by omega
   have hkr : ∀ s x, AV.kill 131 (.lst fr s x) = .lst fr s x := fun s x => kl_f hfl.2.1 (by decide)
   have hkt : ∀ s x, AV.kill 131 (.lst fs s x) = .lst fs s x := fun s x => kl_f hfl.2.2 (by decide)
   refine W_evK [0, 2, 4, 11, 12, 13, 6, 23, 59] (by simp [k2, k2i]; rfl) ?_
   refine W_cond rfl (fun h => ?_) (fun h => by simp at h)
   rcases hfl.1 with ⟨rfl, ht⟩ | rfl
   ·rw [ht] at hgo hLB'
    refine W_dvE [0, 2, 4, 11, 12, 13] mx (by decide +kernel) (by simp [mF, ht, byL_nil31, hd5, h5, h5i, hby2, setSeg, -AV.kill, kl_v, kl_loc, kl_any, kl_nil, kl_tip, kl_agg, kl_ro, hkt, hkr]; rfl) ?_
    refine W_evE [0, 2, 4, 11, 12, 13] (by simp [wi]; rfl) ?_
    exact ⟨_, by omega, i + 1, _, .tip 5 131, fr, fs, rfl, by omega, hgo, hLB', ⟨.inr rfl, hfl.2.1, hfl.2.2⟩, by simp [mF, setSeg, -AV.kill, kl_v, kl_loc, kl_any, kl_nil, kl_tip, kl_agg, kl_ro, hkt, hkr]⟩
   ·refine W_dvE [0, 2, 4, 11, 12, 13] mx (by decide +kernel) (by simp [mF, hd5, h5, h5i, hby, setSeg, -AV.kill, kl_v, kl_loc, kl_any, kl_nil, kl_tip, kl_agg, kl_ro, hkt, hkr]; rfl) ?_
    refine W_evE [0, 2, 4, 11, 12, 13] (by simp [wi]; rfl) ?_
    exact ⟨_, by omega, i + 1, _, .tip 5 131, fr, fs, rfl, by omega, hgo, hLB', ⟨.inr rfl, hfl.2.1, hfl.2.2⟩, by simp [mF, setSeg, byL_append, -AV.kill, kl_v, kl_loc, kl_any, kl_nil, kl_tip, kl_agg, kl_ro, hkt, hkr]⟩
  have k2i : ¬ (k0 : Int) = 2 := by omega
  have k2b : ((k0 : Int) == 2) = false := by simpa using k2i
  refine W_evK [0, 2, 4, 11, 12, 13, 6, 23, 59] (by simp [k2, k2i, k2b]; rfl) ?_
  refine W_cond rfl (fun h => by simp at h) (fun h => ?_)
  by_cases k3 : k0 = 3
  ·have k3i : (k0 : Int) = 3 := by omega
   have hit : itemM m b = ⟨m.text, m.rel ++ relRd b.length (b.drop 1), m.seg, m.entry⟩ := by rw [itemM, if_neg (by rw [hgd, heq]; exact k1), if_neg (by rw [hgd, heq]; exact k2), if_pos (by rw [hgd, heq]; exact k3)]
   rw [hit] at hgo hLB'
   refine W_evK [0, 2, 4, 11, 12, 13, 6, 67] (by simp [k3, k3i]; rfl) ?_
   refine W_cond rfl (fun h => ?_) (fun h => by simp at h)
   have h1 : 1 ≤ b.length := by omega
   have h1i : (1 : Int) ≤ b.length := by omega
   have ht1 : (byL b).tail = byL (b.drop 1) := by rw [← List.drop_one, byL_drop]
   refine W_evK [0, 2, 4, 11, 12, 13, 8] (by simp [h1, h1i, ht1]; rfl) ?_
   have hkt : ∀ s x, AV.kill 187 (.lst ft s x) = .lst ft s x := fun s x => kl_f hfl.1 (by decide)
   have hkr : ∀ s x, AV.kill 187 (.lst fs s x) = .lst fs s x := fun s x => kl_f hfl.2.2 (by decide)
   have hms := hLB.r
   have hss := sumL_le L i
   have hsg := relRd_len b.length (b.drop 1)
   simp only [List.length_drop] at hsg
   refine W_block ?_
   refine W_loop (fun k s => ∃ (f : Nat) (r : List UInt8) (acc : List Rlo) (gs : Fl), k = f ∧ r.length ≤ f ∧ r.length ≤ 1000000 ∧ acc ++ relRd f r = m.rel ++ relRd b.length (b.drop 1) ∧ (gs = .nil ∧ acc = [] ∨ gs = .tip 85 187) ∧
    s = ⟨115, [(0, .lst .any 1 (bbL L)), (2, .loc 0 0), (4, .loc 1 0), (11, .lst .any 1 (bbL L)), (12, .v (.int .i64 (L.length : Nat))), (13, .v (.int .i64 (i : Nat))), (8, .lst .any 1 (byL r))], [.cells 40 z40C, .cells 40 [.lst ft 1 (byL m.text), .lst gs 3 (rlL acc), .lst fs 4 (sgL m.seg), .v (.int .i64 m.entry)]]⟩) (k := b.length) ⟨b.length, b.drop 1, m.rel, fr, rfl, by simp, by simp; omega, rfl, hfl.2.1, by simp [mF]⟩ ?_
   rintro k s ⟨f, r, acc, gs, rfl, hrf, hr1, hacc, hgs, rfl⟩
   have hal : acc.length ≤ 2000000 := by
    have := congrArg List.length hacc
    simp only [List.length_append] at this
    omega
   refine W_seq ?_
   by_cases c5' : 5 ≤ r.length
   rotate_left
   ·have c5i' : ¬ (5 : Int) ≤ r.length := by omega
    refine W_evK [0, 2, 4, 11, 12, 13, 73] (by simp [c5', c5i']; rfl) ?_
    refine W_cond rfl (fun h => by simp at h) (fun h => ?_)
    refine W_exit ?_
    rw [relRd_end c5', List.append_nil] at hacc
    refine W_evE [0, 2, 4, 11, 12, 13] (by simp [wi]; rfl) ?_
    refine ⟨_, by omega, i + 1, _, ft, gs, fs, rfl, by omega, hgo, hLB', ⟨hfl.1, ?_, hfl.2.2⟩, by simp [mF, hacc]⟩
    simp only
    rw [← hacc]
    exact hgs
   have c5i' : (5 : Int) ≤ r.length := by omega
   obtain ⟨f', rfl, hrd, hrl⟩ := relRd_step c5' hrf
   rw [hrd] at hacc
   have c4 : 4 ≤ r.length := by omega
   have c4i : (4 : Int) ≤ r.length := by omega
   have c4' : 4 < r.length := by omega
   have c4'i : (4 : Int) < r.length := by omega
   obtain ⟨A4, hA4⟩ : ∃ A, r.take 4 = A := ⟨_, rfl⟩
   have e4 : List.take 4 (byL r) = byL A4 := by rw [← hA4, ← byL_take]
   have ed : List.drop 5 (byL r) = byL (r.drop 5) := by rw [← byL_drop]
   have v4 := val_sound A4 (by rw [← hA4]; simp; omega)
   obtain ⟨V4, hV4⟩ : ∃ V, valM A4 = V := ⟨_, rfl⟩
   obtain ⟨x, hx⟩ : ∃ x, r[4]? = some x := ⟨_, List.getElem?_eq_getElem c4'⟩
   have hx2 : r[4]'c4' = x := by rw [List.getElem?_eq_getElem c4'] at hx; exact Option.some.inj hx
   have hxd : r.getD 4 0 = x := by rw [List.getD_eq_getElem?_getD, hx]; rfl
   have hxl := x.toNat_lt
   obtain ⟨X, hX⟩ : ∃ X, x.toNat = X := ⟨_, rfl⟩
   rw [hX] at hxl
   have hand := andNot128 X (by omega)
   have hand2 := and128 X (by omega)
   obtain ⟨Y, hY⟩ : ∃ Y, X % 128 = Y := ⟨_, rfl⟩
   obtain ⟨Z, hZ⟩ : ∃ Z, X / 128 * 128 = Z := ⟨_, rfl⟩
   rw [hY] at hand
   rw [hZ] at hand2
   have wY := w64 (n := (Y : Int)) (by omega) (by omega)
   have hz1 : ((Z : Int) != 0) = decide (128 ≤ X) := by
    rw [Bool.eq_iff_iff]
    simp only [bne_iff_ne, ne_eq, decide_eq_true_eq]
    omega
   have hz2 : (!((Z : Int) == 0)) = decide (128 ≤ X) := hz1
   have hrs : rdR r = ⟨(V4 : Nat), (Y : Nat), decide (128 ≤ X)⟩ := by rw [rdR, hA4, hV4, hxd, hX, hY]
   rw [hV4] at v4
   have hby : (acc.length + 1) * 24 ≤ 140737488355328 := by omega
   have hsn : rlL (acc ++ [rdR r]) = rlL acc ++ [rloA (rdR r)] := by rw [rlL_app, rlL_one]
   rw [hrs] at hsn
   refine W_evK [0, 2, 4, 11, 12, 13, 8, 73] (by simp [c5', c5i']; rfl) ?_
   refine W_cond rfl (fun h => ?_) (fun h => by simp at h)
   refine W_skip ?_
   refine W_seq ?_
   refine W_block ?_
   rcases hgs with ⟨rfl, rfl⟩ | rfl
   ·refine W_rdE [0, 2, 4, 11, 12, 13, 8] mx (by decide +kernel) ?_
    refine runD_pre 4 (by simp [c4, c4i, e4, rlL_nil]; rfl) rfl ?_
    refine runD_call (by simp) (by first | (simp; done) | (simp; rfl)) v4 (by simp; rfl) ?_
    refine runD_pre 6 (by simp [c4', c4'i, hx2, hX, hand, hand2, wY, hz1, hz2]; rfl) rfl ?_
    refine runD_pre 4 (by simp [c4', c4'i, hx2, hX, hand, hand2, wY, hz1, hz2]; rfl) rfl ?_
    refine runD_fin (by simp [hby, setSeg, -AV.kill, kl_v, kl_loc, kl_any, kl_nil, kl_tip, kl_agg, kl_ro, hkt, hkr]; rfl) ?_
    refine W_evE [0, 2, 4, 11, 12, 13, 8] (by simp [c5', c5i', ed]; rfl) ?_
    exact ⟨_, by omega, f', r.drop 5, [] ++ [rdR r], .tip 85 187, rfl, hrl, by simp; omega, by rw [← hacc]; simp, .inr rfl, by rw [hrs]; simp [hsn, rlL, setSeg, -AV.kill, kl_v, kl_loc, kl_any, kl_nil, kl_tip, kl_agg, kl_ro, hkt, hkr]⟩
   ·refine W_rdE [0, 2, 4, 11, 12, 13, 8] mx (by decide +kernel) ?_
    refine runD_pre 4 (by simp [c4, c4i, e4, rlL_nil]; rfl) rfl ?_
    refine runD_call (by simp) (by first | (simp; done) | (simp; rfl)) v4 (by simp; rfl) ?_
    refine runD_pre 6 (by simp [c4', c4'i, hx2, hX, hand, hand2, wY, hz1, hz2]; rfl) rfl ?_
    refine runD_pre 4 (by simp [c4', c4'i, hx2, hX, hand, hand2, wY, hz1, hz2]; rfl) rfl ?_
    refine runD_fin (by simp [hby, setSeg, -AV.kill, kl_v, kl_loc, kl_any, kl_nil, kl_tip, kl_agg, kl_ro, hkt, hkr]; rfl) ?_
    refine W_evE [0, 2, 4, 11, 12, 13, 8] (by simp [c5', c5i', ed]; rfl) ?_
    exact ⟨_, by omega, f', r.drop 5, acc ++ [rdR r], .tip 85 187, rfl, hrl, by simp; omega, by rw [← hacc]; simp, .inr rfl, by rw [hrs]; simp [hsn,  setSeg, -AV.kill, kl_v, kl_loc, kl_any, kl_nil, kl_tip, kl_agg, kl_ro, hkt, hkr]⟩
  have k3i : ¬ (k0 : Int) = 3 := by omega
  have k3b : ((k0 : Int) == 3) = false := by simpa using k3i
  have hit : itemM m b = m := by rw [itemM, if_neg (by rw [hgd, heq]; exact k1), if_neg (by rw [hgd, heq]; exact k2), if_neg (by rw [hgd, heq]; exact k3)]
  rw [hit] at hgo hLB'
  refine W_evK [0, 2, 4, 11, 12, 13, 6, 67] (by simp [k3, k3i, k3b]; rfl) ?_
  refine W_cond rfl (fun h => by simp at h) (fun h => ?_)
  refine W_skip ?_
  refine W_evE [0, 2, 4, 11, 12, 13] (by simp [wi]; rfl) ?_
  exact ⟨_, by omega, i + 1, m, ft, fr, fs, rfl, by omega, hgo, hLB', hfl, by simp⟩
 ·rintro σ ⟨m, ft, fr, fs, hgo, hLB, hfl, rfl⟩
  obtain ⟨z1, z2, z3⟩ := hLB
  have hcl := clone64p m.text (by omega)
  have hen := encL_sound m (by omega) (by omega) (by omega)
  refine W_rK [0, 2, 4] ?_
  refine runA_pre 2 (by simp [mF]; rfl) rfl ?_
  refine runA_call (by simp) (by first | (simp; done) | (simp; rfl)) hcl (by simp; rfl) ?_
  refine runA_fin (by simp [setSeg]; rfl) ?_
  refine W_seq ?_
  by_cases hc : ckM m = true
  ·rw [encR, if_pos hc] at hen
   refine W_rK [0, 2, 4, 9, 10] ?_
   refine runA_pre 1 (by simp; rfl) rfl ?_
   refine runA_call (by simp) (by first | (simp; done) | (simp; rfl)) hen (by simp; rfl) ?_
   refine runA_fin (by simp; rfl) ?_
   have hel := encL_len m
   have hsm := same66_sound (encL m) L (by omega)
   refine W_rK [2, 4, 112] ?_
   refine runA_pre 5 (by simp; rfl) rfl ?_
   refine runA_call (by simp) (by first | (simp; done) | (simp; rfl)) hsm (by simp; rfl) ?_
   by_cases he : encL m = L
   ·refine runA_fin (by simp [he]; rfl) ?_
    refine W_cond rfl (fun h => by simp at h) (fun h => ?_)
    refine W_skip ?_
    refine W_evK [2, 3] (by simp [setSeg]; rfl) ?_
    refine W_ret ?_
    repeat (first | refine on_ret ?_ | refine in_ret ?_)
    have hd : dcLM L = (m, true) := by rw [dcLM, hgo]; simp only; rw [if_pos ⟨hc, he⟩]
    rw [hd]
    exact retU_pl (r0 := .tup _) ⟨.inr rfl, _, _, by simp [setSeg]; rfl, by simp; exact ⟨rfl, rfl⟩, by simp [AV.rf, AV.rfL]⟩ (by simp [AV.plain, AV.plainL])
   ·refine runA_fin (by simp [he]; rfl) ?_
    refine W_cond rfl (fun h => ?_) (fun h => by simp at h)
    refine W_evK [2, 3] (by simp [z40C, setSeg]; rfl) ?_
    refine W_ret ?_
    repeat (first | refine on_ret ?_ | refine in_ret ?_)
    have hd : dcLM L = (lm0, false) := by rw [dcLM, hgo]; simp only; rw [if_neg fun h => he h.2]
    rw [hd]
    exact retU_pl (r0 := .tup _) ⟨.inr rfl, _, _, by simp [setSeg]; rfl, by simp; exact ⟨rfl, rfl⟩, by simp [AV.rf, AV.rfL]⟩ (by simp [AV.plain, AV.plainL, lm0, byL, rlL, sgL])
  ·rw [encR, if_neg hc] at hen
   refine W_rK [0, 2, 4, 9, 10] ?_
   refine runA_pre 1 (by simp; rfl) rfl ?_
   refine runA_call (by simp) (by first | (simp; done) | (simp; rfl)) hen (by simp; rfl) ?_
   refine runA_fin (by simp; rfl) ?_
   refine W_evK [2, 4, 112] (by simp; rfl) ?_
   refine W_cond rfl (fun h => ?_) (fun h => by simp at h)
   refine W_evK [2, 3] (by simp [z40C, setSeg]; rfl) ?_
   refine W_ret ?_
   repeat (first | refine on_ret ?_ | refine in_ret ?_)
   have hd : dcLM L = (lm0, false) := by rw [dcLM, hgo]; simp only; rw [if_neg fun h => hc h.1]
   rw [hd]
   exact retU_pl (r0 := .tup _) ⟨.inr rfl, _, _, by simp [setSeg]; rfl, by simp; exact ⟨rfl, rfl⟩, by simp [AV.rf, AV.rfL]⟩ (by simp [AV.plain, AV.plainL, lm0, byL, rlL, sgL])
end Go.AM
namespace Go.AM
open Go.RowKit Go.Proofs
set_option linter.unusedSimpArgs false
set_option linter.unusedVariables false
set_option maxHeartbeats 8000000
theorem rdecodeLoad_sound (L : List (List UInt8)) (hS : sumL L ≤ 1000000) (hL : L.length ≤ 1000000) :
  Sound Try.prog 57 [.lst .any 1 (bbL L)] (.tup [lmA (dcLM L).1, .v (.bool (dcLM L).2)]) := by
 refine sound_of_U Try.func57 rfl (by decide +kernel) (by simp [Try.f57]) rfl rfl (rs := [.cell 2 40, .tmp 3]) rfl ?_
 rw [show Try.f57.ntmps = 110 from rfl]
 refine W_evK [0, 2] (by simp; rfl) ?_
 refine W_evK [0, 2, 4] (by simp; rfl) ?_
 refine W_seqK (fun σ => ∃ (m : LMod) (ft fr fs : Fl), goL L lm0 = some m ∧ LB m (sumL L) ∧ FlO 137 193 121 ft fr fs m ∧ σ = ⟨110, [(0, .lst .any 1 (bbL L)), (2, .loc 0 0), (4, .loc 1 0)], [.cells 40 z40C, .cells 40 (mF ft fr fs m)]⟩) ?_ ?_
 ·refine W_evK [0, 2, 4, 5] (by simp; rfl) ?_
  refine W_block ?_
  refine W_loop (fun k s => ∃ (i : Nat) (m : LMod) (ft fr fs : Fl), k = L.length - i ∧ i ≤ L.length ∧ goL (L.drop i) m = goL L lm0 ∧ LB m (sumL (L.take i)) ∧ FlO 137 193 121 ft fr fs m ∧
   s = ⟨110, [(0, .lst .any 1 (bbL L)), (2, .loc 0 0), (4, .loc 1 0), (5, .v (.int .i64 (i : Nat)))], [.cells 40 z40C, .cells 40 (mF ft fr fs m)]⟩) (k := L.length) ⟨0, lm0, .nil, .nil, .nil, rfl, by omega, rfl, ⟨by simp [lm0], by simp [lm0], by simp [lm0]⟩, ⟨.inl ⟨rfl, rfl⟩, .inl ⟨rfl, rfl⟩, .inl ⟨rfl, rfl⟩⟩, by simp [mF, lm0, byL, rlL, sgL, z40C, setSeg]⟩ ?_
  rintro k s ⟨i, m, ft, fr, fs, rfl, hi, hgo, hLB, hfl, rfl⟩
  by_cases c : i < L.length
  rotate_left
  ·have ci : ¬ (i : Int) < L.length := by omega
   refine W_seq ?_
   refine W_evK [0, 2, 4, 14] (by simp [c, ci]; rfl) ?_
   refine W_cond rfl (fun h => by simp at h) (fun h => ?_)
   refine W_keepS [0, 2, 4] ?_
   refine W_exit ?_
   have hiL : i = L.length := by omega
   refine ⟨m, ft, fr, fs, ?_, ?_, hfl, by simp⟩
   ·rw [← hgo, hiL, List.drop_length, goL]
   ·rw [hiL, List.take_length] at hLB; exact hLB
  have ci : (i : Int) < L.length := by omega
  obtain ⟨b, hb⟩ : ∃ b, L[i]? = some b := ⟨_, List.getElem?_eq_getElem c⟩
  have hb2 : L[i]'c = b := by rw [List.getElem?_eq_getElem c] at hb; exact Option.some.inj hb
  have hdr : L.drop i = b :: L.drop (i + 1) := by rw [List.drop_eq_getElem_cons c, hb2]
  have hsum := sumL_take hb
  have hsle := sumL_le L (i + 1)
  have wi := w64 (n := (i : Int) + 1) (by omega) (by omega)
  have hLB' := hLB.item (b := b)
  rw [← hsum] at hLB'
  rw [hdr, goL] at hgo
  refine W_seq ?_
  refine W_evK [0, 2, 4, 5, 14] (by simp [c, ci]; rfl) ?_
  refine W_cond rfl (fun h => ?_) (fun h => by simp at h)
  refine W_skip ?_
  refine W_seq ?_
  refine W_block ?_
  refine W_evK [0, 2, 4, 5, 6] (by simp [c, ci, hb2]; rfl) ?_
  refine W_seq ?_
  by_cases c5 : b.length < 5
  ·have c5i : (b.length : Int) < 5 := by omega
   rw [if_pos c5] at hgo
   refine W_evK [0, 2, 4, 5, 6, 23] (by simp [c5, c5i]; rfl) ?_
   refine W_cond rfl (fun h => ?_) (fun h => by simp at h)
   refine W_evK [2, 3] (by simp [setSeg]; rfl) ?_
   refine W_ret ?_
   repeat (first | refine on_ret ?_ | refine in_ret ?_)
   have hd : dcLM L = (lm0, false) := by rw [dcLM, ← hgo]
   rw [hd]
   exact retU_pl (r0 := .tup _) ⟨.inr rfl, _, _, by simp [z40C, setSeg]; rfl, by simp; exact ⟨rfl, rfl⟩, by simp [AV.rf, AV.rfL]⟩ (by simp [AV.plain, AV.plainL, lm0, byL, rlL, sgL])
  have c5i : ¬ (b.length : Int) < 5 := by omega
  rw [if_neg c5] at hgo
  obtain ⟨b0, hb0⟩ : ∃ b0, b[0]? = some b0 := ⟨_, List.getElem?_eq_getElem (by omega)⟩
  have hb00 : b[0]'(by omega) = b0 := by rw [List.getElem?_eq_getElem (by omega)] at hb0; exact Option.some.inj hb0
  have hgd : b.getD 0 0 = b0 := by rw [List.getD_eq_getElem?_getD, hb0]; rfl
  have hbl : b.length ≤ 1000000 := by omega
  have h0 : 0 < b.length := by omega
  refine W_evK [0, 2, 4, 5, 6, 23] (by simp [c5, c5i]; rfl) ?_
  refine W_cond rfl (fun h => by simp at h) (fun h => ?_)
  refine W_skip ?_
  refine W_evK [0, 2, 4, 5, 6, 27] (by simp [h0, hb00]; rfl) ?_
  refine W_block ?_
  have hb0l := b0.toNat_lt
  obtain ⟨k0, hk0⟩ : ∃ k0, b0.toNat = k0 := ⟨_, rfl⟩
  rw [hk0] at hb0l ⊢
  have heq : ∀ x : UInt8, (b0 = x) = (k0 = x.toNat) := fun x => by rw [← hk0]; exact propext UInt8.toNat_inj.symm
  by_cases k1 : k0 = 1
  ·have k1i : (k0 : Int) = 1 := by omega
   have hit : itemM m b = ⟨m.text, m.rel, m.seg ++ segRd b.length (b.drop 7), valM ((b.drop 1).take 4)⟩ := by rw [itemM, if_pos (by rw [hgd, heq]; exact k1)]
   refine W_evK [0, 2, 4, 5, 6, 27, 28] (by simp [k1]; rfl) ?_
   refine W_cond rfl (fun h => ?_) (fun h => by simp at h)
   have hv := rval_sound b 1 4 (by omega) (by omega) (by omega)
   obtain ⟨E, hE⟩ : ∃ E, valM ((b.drop 1).take 4) = E := ⟨_, rfl⟩
   rw [hE] at hv hit
   refine W_rK [0, 2, 4, 5, 6] ?_
   refine runA_pre 1 (by simp; rfl) rfl ?_
   refine runA_call (by simp) (by first | (simp; done) | (simp; rfl)) hv (by simp; rfl) ?_
   refine runA_fin (by simp [mF, setSeg]; rfl) ?_
   refine W_evK [0, 2, 4, 5, 6, 7] (by simp; rfl) ?_
   have hkt : ∀ s x, AV.kill 121 (.lst ft s x) = .lst ft s x := fun s x => kl_f hfl.1 (by decide)
   have hkr : ∀ s x, AV.kill 121 (.lst fr s x) = .lst fr s x := fun s x => kl_f hfl.2.1 (by decide)
   refine W_block ?_
   have hms := hLB.s
   have hss := sumL_le L i
   have hsg := segRd_len b.length (b.drop 7)
   simp only [List.length_drop] at hsg
   refine W_loop (fun k s => ∃ (f a : Nat) (acc : List Seg) (gs : Fl), k = f ∧ a ≤ 1000100 ∧ (b.drop a).length ≤ f ∧ acc ++ segRd f (b.drop a) = m.seg ++ segRd b.length (b.drop 7) ∧ (gs = .nil ∧ acc = [] ∨ gs = .tip 83 121) ∧
    s = ⟨110, [(0, .lst .any 1 (bbL L)), (2, .loc 0 0), (4, .loc 1 0), (5, .v (.int .i64 (i : Nat))), (6, .lst .any 1 (byL b)), (7, .v (.int .i64 (a : Nat)))], [.cells 40 z40C, .cells 40 [.lst ft 1 (byL m.text), .lst fr 3 (rlL m.rel), .lst gs 4 (sgL acc), .v (.int .i64 (E : Nat))]]⟩) (k := b.length) ⟨b.length, 7, m.seg, fs, rfl, by omega, by simp, rfl, hfl.2.2, by simp⟩ ?_
   rintro k s ⟨f, a, acc, gs, rfl, ha, hrf, hacc, hgs, rfl⟩
   have hal : acc.length ≤ 2000000 := by
    have := congrArg List.length hacc
    simp only [List.length_append] at this
    omega
   obtain ⟨p14, hp14⟩ : ∃ p, a + 14 = p := ⟨_, rfl⟩
   have wp14 : IntKind.i64.wrap ((a : Int) + 14) = (p14 : Nat) := by rw [w64 (by omega) (by omega)]; omega
   refine W_seq ?_
   by_cases c14 : 14 ≤ (b.drop a).length
   rotate_left
   ·have c14' : ¬ p14 ≤ b.length := by simp at c14; omega
    have c14i : ¬ (p14 : Int) ≤ b.length := by omega
    refine W_evK [0, 2, 4, 5, 37] (by simp [wp14, c14', c14i]; rfl) ?_
    refine W_cond rfl (fun h => by simp at h) (fun h => ?_)
    refine W_exit ?_
    rw [segRd_end c14, List.append_nil] at hacc
    refine W_evE [0, 2, 4, 5] (by simp [wi]; rfl) ?_
    rw [hit] at hgo hLB'
    refine ⟨_, by omega, i + 1, _, ft, fr, gs, rfl, by omega, hgo, hLB', ⟨hfl.1, hfl.2.1, ?_⟩, by simp [mF, hacc]⟩
    simp only
    rw [← hacc]
    exact hgs
   have c14' : p14 ≤ b.length := by simp at c14; omega
   have c14i : (p14 : Int) ≤ b.length := by omega
   obtain ⟨f', rfl, hrd, hrl⟩ := segRd_step c14 hrf
   rw [hrd] at hacc
   rw [List.drop_drop, hp14] at hacc hrl
   obtain ⟨p2, hp2⟩ : ∃ p, a + 2 = p := ⟨_, rfl⟩
   obtain ⟨p6, hp6⟩ : ∃ p, a + 6 = p := ⟨_, rfl⟩
   obtain ⟨p10, hp10⟩ : ∃ p, a + 10 = p := ⟨_, rfl⟩
   have wp2 : IntKind.i64.wrap ((a : Int) + 2) = (p2 : Nat) := by rw [w64 (by omega) (by omega)]; omega
   have wp6 : IntKind.i64.wrap ((a : Int) + 6) = (p6 : Nat) := by rw [w64 (by omega) (by omega)]; omega
   have wp10 : IntKind.i64.wrap ((a : Int) + 10) = (p10 : Nat) := by rw [w64 (by omega) (by omega)]; omega
   have v2 := rval_sound b a 2 (by omega) (by omega) (by omega)
   have v6 := rval_sound b p2 4 (by omega) (by omega) (by omega)
   have v10 := rval_sound b p6 4 (by omega) (by omega) (by omega)
   have v14 := rval_sound b p10 4 (by omega) (by omega) (by omega)
   have hV2l := valM_lt 2 ((b.drop a).take 2) (by simp; omega)
   have hrs0 : rdS (b.drop a) = ⟨(valM ((b.drop a).take 2) : Int) - 1, valM ((b.drop p2).take 4), valM ((b.drop p6).take 4), valM ((b.drop p10).take 4)⟩ := by rw [rdS, List.drop_drop, List.drop_drop, List.drop_drop, hp2, hp6, hp10]
   obtain ⟨V2, hV2⟩ : ∃ V, valM ((b.drop a).take 2) = V := ⟨_, rfl⟩
   obtain ⟨V6, hV6⟩ : ∃ V, valM ((b.drop p2).take 4) = V := ⟨_, rfl⟩
   obtain ⟨V10, hV10⟩ : ∃ V, valM ((b.drop p6).take 4) = V := ⟨_, rfl⟩
   obtain ⟨V14, hV14⟩ : ∃ V, valM ((b.drop p10).take 4) = V := ⟨_, rfl⟩
   have hrs : rdS (b.drop a) = ⟨(V2 : Int) - 1, V6, V10, V14⟩ := by rw [hrs0, hV2, hV6, hV10, hV14]
   rw [hV2] at v2 hV2l
   rw [hV6] at v6
   rw [hV10] at v10
   rw [hV14] at v14
   have hp22 : (256 : Nat) ^ 2 = 65536 := by decide
   have w2 := w64 (n := (V2 : Int) - 1) (by omega) (by omega)
   have hby : (acc.length + 1) * 32 ≤ 140737488355328 := by omega
   have hsn : sgL (acc ++ [rdS (b.drop a)]) = sgL acc ++ [segA (rdS (b.drop a))] := by rw [sgL_app, sgL_one]
   rw [hrs] at hsn hacc
   refine W_evK [0, 2, 4, 5, 6, 7, 37] (by simp [wp14, c14', c14i]; rfl) ?_
   refine W_cond rfl (fun h => ?_) (fun h => by simp at h)
   refine W_skip ?_
   refine W_seq ?_
   refine W_block ?_
   rcases hgs with ⟨rfl, rfl⟩ | rfl
   ·refine W_rdE [0, 2, 4, 5, 6, 7] mx (by decide +kernel) ?_
    refine runD_pre 4 (by simp [sgL_nil]; rfl) rfl ?_
    refine runD_call (by simp) (by first | (simp; done) | (simp; rfl)) v2 (by simp; rfl) ?_
    refine runD_pre 4 (by simp [w2, wp2]; rfl) rfl ?_
    refine runD_call (by simp) (by first | (simp; done) | (simp; rfl)) v6 (by simp; rfl) ?_
    refine runD_pre 3 (by simp [wp6]; rfl) rfl ?_
    refine runD_call (by simp) (by first | (simp; done) | (simp; rfl)) v10 (by simp; rfl) ?_
    refine runD_pre 3 (by simp [wp10]; rfl) rfl ?_
    refine runD_call (by simp) (by first | (simp; done) | (simp; rfl)) v14 (by simp; rfl) ?_
    refine runD_fin (by simp [hby, setSeg, -AV.kill, kl_v, kl_loc, kl_any, kl_nil, kl_tip, kl_agg, kl_ro, hkt, hkr]; rfl) ?_
    refine W_evE [0, 2, 4, 5, 6, 7] (by simp [wp14]; rfl) ?_
    exact ⟨_, by omega, f', p14, [] ++ [⟨(V2 : Int) - 1, V6, V10, V14⟩], .tip 83 121, rfl, by omega, hrl, by rw [← hacc]; simp, .inr rfl, by simp [hsn, sgL, setSeg, -AV.kill, kl_v, kl_loc, kl_any, kl_nil, kl_tip, kl_agg, kl_ro, hkt, hkr]⟩
   ·refine W_rdE [0, 2, 4, 5, 6, 7] mx (by decide +kernel) ?_
    refine runD_pre 4 (by simp [sgL_nil]; rfl) rfl ?_
    refine runD_call (by simp) (by first | (simp; done) | (simp; rfl)) v2 (by simp; rfl) ?_
    refine runD_pre 4 (by simp [w2, wp2]; rfl) rfl ?_
    refine runD_call (by simp) (by first | (simp; done) | (simp; rfl)) v6 (by simp; rfl) ?_
    refine runD_pre 3 (by simp [wp6]; rfl) rfl ?_
    refine runD_call (by simp) (by first | (simp; done) | (simp; rfl)) v10 (by simp; rfl) ?_
    refine runD_pre 3 (by simp [wp10]; rfl) rfl ?_
    refine runD_call (by simp) (by first | (simp; done) | (simp; rfl)) v14 (by simp; rfl) ?_
    refine runD_fin (by simp [hby, setSeg, -AV.kill, kl_v, kl_loc, kl_any, kl_nil, kl_tip, kl_agg, kl_ro, hkt, hkr]; rfl) ?_
    refine W_evE [0, 2, 4, 5, 6, 7] (by simp [wp14]; rfl) ?_
    exact ⟨_, by omega, f', p14, acc ++ [⟨(V2 : Int) - 1, V6, V10, V14⟩], .tip 83 121, rfl, by omega, hrl, by rw [← hacc]; simp, .inr rfl, by simp [hsn,  setSeg, -AV.kill, kl_v, kl_loc, kl_any, kl_nil, kl_tip, kl_agg, kl_ro, hkt, hkr]⟩
  have k1i : ¬ (k0 : Int) = 1 := by omega
  have k1b : ((k0 : Int) == 1) = false := by simpa using k1i
  refine W_evK [0, 2, 4, 5, 6, 27, 28] (by simp [k1, k1i, k1b]; rfl) ?_
  refine W_cond rfl (fun h => by simp at h) (fun h => ?_)
  by_cases k2 : k0 = 2
  ·have k2i : (k0 : Int) = 2 := by omega
   have hit : itemM m b = ⟨m.text ++ b.drop 5, m.rel, m.seg, m.entry⟩ := by rw [itemM, if_neg (by rw [hgd, heq]; exact k1), if_pos (by rw [hgd, heq]; exact k2)]
   rw [hit] at hgo hLB'
   have hd5 : List.drop 5 (byL b) = byL (b.drop 5) := by rw [← byL_drop]
   have h5 : 5 ≤ b.length := by omega
   have h5i : (5 : Int) ≤ b.length := by omega
   have hmt := hLB.t
   have hss := sumL_le L i
   have hby : m.text.length + (b.length - 5) ≤ 140737488355328 := by omega
   have hby2 : b.length - 5 ≤ 140737488355328 := by omega
   have hkr : ∀ s x, AV.kill 137 (.lst fr s x) = .lst fr s x := fun s x => kl_f hfl.2.1 (by decide)
   have hkt : ∀ s x, AV.kill 137 (.lst fs s x) = .lst fs s x := fun s x => kl_f hfl.2.2 (by decide)
   refine W_evK [0, 2, 4, 5, 6, 27, 62] (by simp [k2, k2i]; rfl) ?_
   refine W_cond rfl (fun h => ?_) (fun h => by simp at h)
   rcases hfl.1 with ⟨rfl, ht⟩ | rfl
   ·rw [ht] at hgo hLB'
    refine W_dvE [0, 2, 4, 5] mx (by decide +kernel) (by simp [mF, ht, byL_nil31, hd5, h5, h5i, hby2, setSeg, -AV.kill, kl_v, kl_loc, kl_any, kl_nil, kl_tip, kl_agg, kl_ro, hkt, hkr]; rfl) ?_
    refine W_evE [0, 2, 4, 5] (by simp [wi]; rfl) ?_
    exact ⟨_, by omega, i + 1, _, .tip 5 137, fr, fs, rfl, by omega, hgo, hLB', ⟨.inr rfl, hfl.2.1, hfl.2.2⟩, by simp [mF, setSeg, -AV.kill, kl_v, kl_loc, kl_any, kl_nil, kl_tip, kl_agg, kl_ro, hkt, hkr]⟩
   ·refine W_dvE [0, 2, 4, 5] mx (by decide +kernel) (by simp [mF, hd5, h5, h5i, hby, setSeg, -AV.kill, kl_v, kl_loc, kl_any, kl_nil, kl_tip, kl_agg, kl_ro, hkt, hkr]; rfl) ?_
    refine W_evE [0, 2, 4, 5] (by simp [wi]; rfl) ?_
    exact ⟨_, by omega, i + 1, _, .tip 5 137, fr, fs, rfl, by omega, hgo, hLB', ⟨.inr rfl, hfl.2.1, hfl.2.2⟩, by simp [mF, setSeg, byL_append, -AV.kill, kl_v, kl_loc, kl_any, kl_nil, kl_tip, kl_agg, kl_ro, hkt, hkr]⟩
  have k2i : ¬ (k0 : Int) = 2 := by omega
  have k2b : ((k0 : Int) == 2) = false := by simpa using k2i
  refine W_evK [0, 2, 4, 5, 6, 27, 62] (by simp [k2, k2i, k2b]; rfl) ?_
  refine W_cond rfl (fun h => by simp at h) (fun h => ?_)
  by_cases k3 : k0 = 3
  ·have k3i : (k0 : Int) = 3 := by omega
   have hit : itemM m b = ⟨m.text, m.rel ++ relRd b.length (b.drop 1), m.seg, m.entry⟩ := by rw [itemM, if_neg (by rw [hgd, heq]; exact k1), if_neg (by rw [hgd, heq]; exact k2), if_pos (by rw [hgd, heq]; exact k3)]
   rw [hit] at hgo hLB'
   refine W_evK [0, 2, 4, 5, 6, 70] (by simp [k3, k3i]; rfl) ?_
   refine W_cond rfl (fun h => ?_) (fun h => by simp at h)
   have h1 : 1 ≤ b.length := by omega
   refine W_evK [0, 2, 4, 5, 6, 8] (by simp; rfl) ?_
   have hkt : ∀ s x, AV.kill 193 (.lst ft s x) = .lst ft s x := fun s x => kl_f hfl.1 (by decide)
   have hkr : ∀ s x, AV.kill 193 (.lst fs s x) = .lst fs s x := fun s x => kl_f hfl.2.2 (by decide)
   have hms := hLB.r
   have hss := sumL_le L i
   have hsg := relRd_len b.length (b.drop 1)
   simp only [List.length_drop] at hsg
   refine W_block ?_
   refine W_loop (fun k s => ∃ (f a : Nat) (acc : List Rlo) (gs : Fl), k = f ∧ a ≤ 1000100 ∧ (b.drop a).length ≤ f ∧ acc ++ relRd f (b.drop a) = m.rel ++ relRd b.length (b.drop 1) ∧ (gs = .nil ∧ acc = [] ∨ gs = .tip 85 193) ∧
    s = ⟨110, [(0, .lst .any 1 (bbL L)), (2, .loc 0 0), (4, .loc 1 0), (5, .v (.int .i64 (i : Nat))), (6, .lst .any 1 (byL b)), (8, .v (.int .i64 (a : Nat)))], [.cells 40 z40C, .cells 40 [.lst ft 1 (byL m.text), .lst gs 3 (rlL acc), .lst fs 4 (sgL m.seg), .v (.int .i64 m.entry)]]⟩) (k := b.length) ⟨b.length, 1, m.rel, fr, rfl, by omega, by simp, rfl, hfl.2.1, by simp [mF]⟩ ?_
   rintro k s ⟨f, a, acc, gs, rfl, ha, hrf, hacc, hgs, rfl⟩
   have hal : acc.length ≤ 2000000 := by
    have := congrArg List.length hacc
    simp only [List.length_append] at this
    omega
   obtain ⟨p5, hp5⟩ : ∃ p, a + 5 = p := ⟨_, rfl⟩
   have wp5 : IntKind.i64.wrap ((a : Int) + 5) = (p5 : Nat) := by rw [w64 (by omega) (by omega)]; omega
   refine W_seq ?_
   by_cases c5' : 5 ≤ (b.drop a).length
   rotate_left
   ·have c5q : ¬ p5 ≤ b.length := by simp at c5'; omega
    have c5i' : ¬ (p5 : Int) ≤ b.length := by omega
    refine W_evK [0, 2, 4, 5, 76] (by simp [wp5, c5q, c5i']; rfl) ?_
    refine W_cond rfl (fun h => by simp at h) (fun h => ?_)
    refine W_exit ?_
    rw [relRd_end c5', List.append_nil] at hacc
    refine W_evE [0, 2, 4, 5] (by simp [wi]; rfl) ?_
    refine ⟨_, by omega, i + 1, _, ft, gs, fs, rfl, by omega, hgo, hLB', ⟨hfl.1, ?_, hfl.2.2⟩, by simp [mF, hacc]⟩
    simp only
    rw [← hacc]
    exact hgs
   have c5q : p5 ≤ b.length := by simp at c5'; omega
   have c5i' : (p5 : Int) ≤ b.length := by omega
   obtain ⟨f', rfl, hrd, hrl⟩ := relRd_step c5' hrf
   rw [hrd] at hacc
   rw [List.drop_drop, hp5] at hacc hrl
   obtain ⟨p4, hp4⟩ : ∃ p, a + 4 = p := ⟨_, rfl⟩
   have wp4 : IntKind.i64.wrap ((a : Int) + 4) = (p4 : Nat) := by rw [w64 (by omega) (by omega)]; omega
   have c4' : p4 < b.length := by omega
   have c4'i : (p4 : Int) < b.length := by omega
   have v4 := rval_sound b a 4 (by omega) (by omega) (by omega)
   obtain ⟨V4, hV4⟩ : ∃ V, valM ((b.drop a).take 4) = V := ⟨_, rfl⟩
   obtain ⟨x, hx⟩ : ∃ x, b[p4]? = some x := ⟨_, List.getElem?_eq_getElem c4'⟩
   have hx2 : b[p4]'c4' = x := by rw [List.getElem?_eq_getElem c4'] at hx; exact Option.some.inj hx
   have hxd : (b.drop a).getD 4 0 = x := by rw [List.getD_eq_getElem?_getD, List.getElem?_drop, hp4, hx]; rfl
   have hxl := x.toNat_lt
   obtain ⟨X, hX⟩ : ∃ X, x.toNat = X := ⟨_, rfl⟩
   rw [hX] at hxl
   obtain ⟨Y, hY⟩ : ∃ Y, X % 128 = Y := ⟨_, rfl⟩
   have wX := w64 (n := (X : Int)) (by omega) (by omega)
   have wY := w64 (n := (Y : Int)) (by omega) (by omega)
   have tY : Int.tmod (X : Int) 128 = (Y : Nat) := by rw [← hY]; exact rfl
   have hz1 : decide ((128 : Int) ≤ (X : Nat)) = decide (128 ≤ X) := by
    rw [Bool.eq_iff_iff]
    simp only [decide_eq_true_eq]
    omega
   have hrs : rdR (b.drop a) = ⟨(V4 : Nat), (Y : Nat), decide (128 ≤ X)⟩ := by rw [rdR, hV4, hxd, hX, hY]
   rw [hV4] at v4
   have hby : (acc.length + 1) * 24 ≤ 140737488355328 := by omega
   have hsn : rlL (acc ++ [rdR (b.drop a)]) = rlL acc ++ [rloA (rdR (b.drop a))] := by rw [rlL_app, rlL_one]
   rw [hrs] at hsn hacc
   refine W_evK [0, 2, 4, 5, 6, 8, 76] (by simp [wp5, c5q, c5i']; rfl) ?_
   refine W_cond rfl (fun h => ?_) (fun h => by simp at h)
   refine W_skip ?_
   refine W_seq ?_
   refine W_block ?_
   refine W_evK [0, 2, 4, 5, 6, 8, 9] (by simp [wp4, c4', c4'i, hx2, hX, wX]; rfl) ?_
   rcases hgs with ⟨rfl, rfl⟩ | rfl
   ·refine W_rdE [0, 2, 4, 5, 6, 8] mx (by decide +kernel) ?_
    refine runD_pre 4 (by simp [rlL_nil]; rfl) rfl ?_
    refine runD_call (by simp) (by first | (simp; done) | (simp; rfl)) v4 (by simp; rfl) ?_
    refine runD_pre 4 (by simp [tY, wY, hz1]; rfl) rfl ?_
    refine runD_fin (by simp [hby, setSeg, -AV.kill, kl_v, kl_loc, kl_any, kl_nil, kl_tip, kl_agg, kl_ro, hkt, hkr]; rfl) ?_
    refine W_evE [0, 2, 4, 5, 6, 8] (by simp [wp5]; rfl) ?_
    exact ⟨_, by omega, f', p5, [] ++ [⟨(V4 : Nat), (Y : Nat), decide (128 ≤ X)⟩], .tip 85 193, rfl, by omega, hrl, by rw [← hacc]; simp, .inr rfl, by simp [hsn, rlL, setSeg, -AV.kill, kl_v, kl_loc, kl_any, kl_nil, kl_tip, kl_agg, kl_ro, hkt, hkr]⟩
   ·refine W_rdE [0, 2, 4, 5, 6, 8] mx (by decide +kernel) ?_
    refine runD_pre 4 (by simp [rlL_nil]; rfl) rfl ?_
    refine runD_call (by simp) (by first | (simp; done) | (simp; rfl)) v4 (by simp; rfl) ?_
    refine runD_pre 4 (by simp [tY, wY, hz1]; rfl) rfl ?_
    refine runD_fin (by simp [hby, setSeg, -AV.kill, kl_v, kl_loc, kl_any, kl_nil, kl_tip, kl_agg, kl_ro, hkt, hkr]; rfl) ?_
    refine W_evE [0, 2, 4, 5, 6, 8] (by simp [wp5]; rfl) ?_
    exact ⟨_, by omega, f', p5, acc ++ [⟨(V4 : Nat), (Y : Nat), decide (128 ≤ X)⟩], .tip 85 193, rfl, by omega, hrl, by rw [← hacc]; simp, .inr rfl, by simp [hsn,  setSeg, -AV.kill, kl_v, kl_loc, kl_any, kl_nil, kl_tip, kl_agg, kl_ro, hkt, hkr]⟩
  have k3i : ¬ (k0 : Int) = 3 := by omega
  have k3b : ((k0 : Int) == 3) = false := by simpa using k3i
  have hit : itemM m b = m := by rw [itemM, if_neg (by rw [hgd, heq]; exact k1), if_neg (by rw [hgd, heq]; exact k2), if_neg (by rw [hgd, heq]; exact k3)]
  rw [hit] at hgo hLB'
  refine W_evK [0, 2, 4, 5, 6, 70] (by simp [k3, k3i, k3b]; rfl) ?_
  refine W_cond rfl (fun h => by simp at h) (fun h => ?_)
  refine W_skip ?_
  refine W_evE [0, 2, 4, 5] (by simp [wi]; rfl) ?_
  exact ⟨_, by omega, i + 1, m, ft, fr, fs, rfl, by omega, hgo, hLB', hfl, by simp⟩
 ·rintro σ ⟨m, ft, fr, fs, hgo, hLB, hfl, rfl⟩
  obtain ⟨z1, z2, z3⟩ := hLB
  have hel := encL_len m
  have hck := rcheckLoad_sound m (by omega) (by omega) (by omega)
  refine W_seq ?_
  refine W_rK [2, 4, 107] ?_
  refine runA_pre 1 (by simp [mF]; rfl) rfl ?_
  by_cases hc : ckM m = true
  ·rw [hc] at hck
   have hen := rencL_sound m (ckM_ok hc (by omega))
   have hsm := sameLists_sound (encL m) L (by omega)
   refine runA_call (by simp) (by first | (simp; done) | (simp; rfl)) hck (by simp; rfl) ?_
   refine runA_pre 3 (by simp; rfl) rfl ?_
   refine runA_call (by simp) (by first | (simp; done) | (simp; rfl)) hen (by simp; rfl) ?_
   refine runA_pre 1 (by simp; rfl) rfl ?_
   refine runA_call (by simp) (by first | (simp; done) | (simp; rfl)) hsm (by simp; rfl) ?_
   by_cases he : encL m = L
   ·refine runA_fin (by simp [he]; rfl) ?_
    refine W_cond rfl (fun h => by simp at h) (fun h => ?_)
    refine W_skip ?_
    refine W_evK [2, 3] (by simp [mF, setSeg]; rfl) ?_
    refine W_ret ?_
    repeat (first | refine on_ret ?_ | refine in_ret ?_)
    have hd : dcLM L = (m, true) := by rw [dcLM, hgo]; simp only; rw [if_pos ⟨hc, he⟩]
    rw [hd]
    exact retU_pl (r0 := .tup _) ⟨.inr rfl, _, _, by simp [mF, setSeg]; rfl, by simp; exact ⟨rfl, rfl⟩, by simp [AV.rf, AV.rfL]⟩ (by simp [AV.plain, AV.plainL])
   ·refine runA_fin (by simp [he]; rfl) ?_
    refine W_cond rfl (fun h => ?_) (fun h => by simp at h)
    refine W_evK [2, 3] (by simp [z40C, setSeg]; rfl) ?_
    refine W_ret ?_
    repeat (first | refine on_ret ?_ | refine in_ret ?_)
    have hd : dcLM L = (lm0, false) := by rw [dcLM, hgo]; simp only; rw [if_neg fun h => he h.2]
    rw [hd]
    exact retU_pl (r0 := .tup _) ⟨.inr rfl, _, _, by simp [setSeg]; rfl, by simp; exact ⟨rfl, rfl⟩, by simp [AV.rf, AV.rfL]⟩ (by simp [AV.plain, AV.plainL, lm0, byL, rlL, sgL])
  ·have hcf : ckM m = false := by simpa using hc
   rw [hcf] at hck
   refine runA_call (by simp) (by first | (simp; done) | (simp; rfl)) hck (by simp; rfl) ?_
   refine runA_fin (by simp; rfl) ?_
   refine W_cond rfl (fun h => ?_) (fun h => by simp at h)
   refine W_evK [2, 3] (by simp [z40C, setSeg]; rfl) ?_
   refine W_ret ?_
   repeat (first | refine on_ret ?_ | refine in_ret ?_)
   have hd : dcLM L = (lm0, false) := by rw [dcLM, hgo]; simp only; rw [if_neg fun h => hc h.1]
   rw [hd]
   exact retU_pl (r0 := .tup _) ⟨.inr rfl, _, _, by simp [setSeg]; rfl, by simp; exact ⟨rfl, rfl⟩, by simp [AV.rf, AV.rfL]⟩ (by simp [AV.plain, AV.plainL, lm0, byL, rlL, sgL])
end Go.AM
namespace Go.AM
open Go.RowKit Go.Proofs
set_option linter.unusedSimpArgs false
set_option linter.unusedVariables false
set_option maxHeartbeats 8000000
def segV (s : Seg) : List Value := [.int .i64 s.par, .int .i64 s.org, .int .i64 s.frm, .int .i64 s.len]
def rloV (r : Rlo) : List Value := [.int .i64 r.at_, .int .i64 r.len, .bool r.neg]
noncomputable def fs83 : List Field := (Try.prog.fieldsOf 83).toList
noncomputable def fs85 : List Field := (Try.prog.fieldsOf 85).toList
theorem seg_eq (x : Seg) : eqFv fs83 (segV x) (segV x) = true := by
 have hf : fs83.map (fun f => f.offset) = [0, 1, 2, 3] := by kernel_rfl
 have key : ∀ us vs : List Value, eqFv fs83 us vs = (fs83.map fun f => f.offset).all fun i => pv (us.getD i undef) (vs.getD i undef) := by
  intro us vs
  simp [eqFv, List.all_map, Function.comp_def]
 rw [key, hf]
 simp [segV, pv]
theorem rlo_eq (x : Rlo) : eqFv fs85 (rloV x) (rloV x) = true := by
 have hf : fs85.map (fun f => f.offset) = [0, 1, 2] := by kernel_rfl
 have key : ∀ us vs : List Value, eqFv fs85 us vs = (fs85.map fun f => f.offset).all fun i => pv (us.getD i undef) (vs.getD i undef) := by
  intro us vs
  simp [eqFv, List.all_map, Function.comp_def]
 rw [key, hf]
 simp [rloV, pv]
theorem seg_ok (x : Seg) : okF Try.prog fs83 (segV x) (segV x) = true := by kernel_rfl
theorem rlo_ok (x : Rlo) : okF Try.prog fs85 (rloV x) (rloV x) = true := by kernel_rfl
theorem sameLoad_sound (m : LMod) (hm : LSm m) : Sound Try.prog 58 [lmA m, lmA m] (.v (.bool true)) := by
 obtain ⟨z1, z2, z3⟩ := hm
 refine sound_of_W Try.func58 rfl (by decide +kernel) (by simp [Try.f58]) (by simp [AV.rfL, AV.rf]) (by simp [AV.tlL, AV.tl]) (rs := [.tmp 4]) rfl ?_
 rw [show Try.f58.ntmps = 75 from rfl]
 refine W_evK [2, 3] (by simp; rfl) ?_
 refine (show Wt true 0 Try.prog _ _ ⟨75, [(2, .loc 0 0), (3, .loc 1 0)], [.cells 40 (lmC m), .cells 40 (lmC m)]⟩ from ?_)
 refine W_seq ?_
 refine W_rK [2, 3, 38] ?_
 refine runA_pre 6 (by simp [lmC]; rfl) rfl ?_
 refine runA_pre 6 (by simp [lmC]; rfl) rfl ?_
 refine runA_pre 6 (by simp [lmC]; rfl) rfl ?_
 refine runA_pre 6 (by simp [lmC]; rfl) rfl ?_
 refine runA_fin (by simp [lmC]; rfl) ?_
 refine W_cond rfl (fun h => by simp at h) (fun h => ?_)
 refine W_skip ?_
 refine W_seqK (fun σ => σ = ⟨75, [(2, .loc 0 0), (3, .loc 1 0)], [.cells 40 (lmC m), .cells 40 (lmC m)]⟩) ?_ ?_
 ·refine W_evK [2, 3, 5] (by simp [lmC]; rfl) ?_
  refine W_block ?_
  refine W_loop (fun k s => ∃ i : Nat, k = m.rel.length - i ∧ i ≤ m.rel.length ∧ s = ⟨75, [(2, .loc 0 0), (3, .loc 1 0), (5, .v (.int .i64 (i : Nat)))], [.cells 40 (lmC m), .cells 40 (lmC m)]⟩) (k := m.rel.length) ⟨0, rfl, by omega, by simp [lmC]⟩ ?_
  rintro k s ⟨i, rfl, hi, rfl⟩
  refine W_seq ?_
  by_cases c : i < m.rel.length
  rotate_left
  ·have ci : ¬ (i : Int) < m.rel.length := by omega
   refine W_evK [2, 3, 43] (by simp [lmC, c, ci]; rfl) ?_
   refine W_cond rfl (fun h => by simp at h) (fun h => ?_)
   refine W_keepS [2, 3] ?_
   refine W_exit ?_
   simp [onNormal, inBlk, lmC]
  have ci : (i : Int) < m.rel.length := by omega
  obtain ⟨x, hs⟩ : ∃ x, m.rel[i]? = some x := ⟨_, List.getElem?_eq_getElem c⟩
  have hx2 : m.rel[i]'c = x := by rw [List.getElem?_eq_getElem c] at hs; exact Option.some.inj hs
  have wi := w64 (n := (i : Int) + 1) (by omega) (by omega)
  refine W_evK [2, 3, 5, 43] (by simp [lmC, c, ci]; rfl) ?_
  refine W_cond rfl (fun h => ?_) (fun h => by simp at h)
  refine W_skip ?_
  refine W_seq ?_
  refine W_block ?_
  refine W_seqC (fun σ => σ = ⟨75, [(2, .loc 0 0), (3, .loc 1 0), (5, .v (.int .i64 (i : Nat))), (56, .v (.bool false))], [.cells 40 (lmC m), .cells 40 (lmC m)]⟩) ?_ ?_
  ·refine W_forget [2, 3, 5, 56] (W_drawP 10 mx (by decide +kernel) ?_)
   refine runD_pre 5 (by simp [lmC, c, ci, hx2]; rfl) rfl ?_
   refine runD_fin (by simp [lmC, c, ci, hx2]; rfl) ?_
   refine anyT_allG [10] (by decide +kernel) (by simp) ?_
   intro j hj
   simp only [List.mem_cons, List.not_mem_nil, or_false] at hj
   subst hj
   refine ⟨_, rfl, ?_⟩
   refine .inr ⟨rfl, ?_⟩
   refine stepW_neqAgg (t := 85) (k1 := 50) (k2 := 55) (us := rloV x) (vs := rloV x) (fs := fs85) rfl (by simp [rloV]) (by simp [rloV]) (by kernel_rfl) (by kernel_rfl) (by kernel_rfl) rfl (rlo_ok x) ?_
   rw [rlo_eq]
   refine ⟨_, by simp; rfl, ?_⟩
   refine anyT_done (by decide +kernel) ?_
   simp [onNormal, keepF, lmC]
  rintro _ rfl
  refine W_cond (t := false) (by simp) (fun h => by simp at h) (fun h => ?_)
  refine W_skip ?_
  refine W_evE [2, 3, 5] (by simp [wi]; rfl) ?_
  exact ⟨_, by omega, i + 1, rfl, by omega, by simp⟩
 rintro _ rfl
 refine W_seqK (fun σ => σ = ⟨75, [], [.cells 40 (lmC m), .cells 40 (lmC m)]⟩) ?_ ?_
 ·refine W_evK [2, 3, 6] (by simp [lmC]; rfl) ?_
  refine W_block ?_
  refine W_loop (fun k s => ∃ i : Nat, k = m.seg.length - i ∧ i ≤ m.seg.length ∧ s = ⟨75, [(2, .loc 0 0), (3, .loc 1 0), (6, .v (.int .i64 (i : Nat)))], [.cells 40 (lmC m), .cells 40 (lmC m)]⟩) (k := m.seg.length) ⟨0, rfl, by omega, by simp [lmC]⟩ ?_
  rintro k s ⟨i, rfl, hi, rfl⟩
  refine W_seq ?_
  by_cases c : i < m.seg.length
  rotate_left
  ·have ci : ¬ (i : Int) < m.seg.length := by omega
   refine W_evK [2, 3, 61] (by simp [lmC, c, ci]; rfl) ?_
   refine W_cond rfl (fun h => by simp at h) (fun h => ?_)
   refine W_keepS [] ?_
   refine W_exit ?_
   simp [onNormal, inBlk, lmC]
  have ci : (i : Int) < m.seg.length := by omega
  obtain ⟨x, hs⟩ : ∃ x, m.seg[i]? = some x := ⟨_, List.getElem?_eq_getElem c⟩
  have hx2 : m.seg[i]'c = x := by rw [List.getElem?_eq_getElem c] at hs; exact Option.some.inj hs
  have wi := w64 (n := (i : Int) + 1) (by omega) (by omega)
  refine W_evK [2, 3, 6, 61] (by simp [lmC, c, ci]; rfl) ?_
  refine W_cond rfl (fun h => ?_) (fun h => by simp at h)
  refine W_skip ?_
  refine W_seq ?_
  refine W_block ?_
  refine W_seqC (fun σ => σ = ⟨75, [(2, .loc 0 0), (3, .loc 1 0), (6, .v (.int .i64 (i : Nat))), (74, .v (.bool false))], [.cells 40 (lmC m), .cells 40 (lmC m)]⟩) ?_ ?_
  ·refine W_forget [2, 3, 6, 74] (W_drawP 10 mx (by decide +kernel) ?_)
   refine runD_pre 5 (by simp [lmC, c, ci, hx2]; rfl) rfl ?_
   refine runD_fin (by simp [lmC, c, ci, hx2]; rfl) ?_
   refine anyT_allG [10] (by decide +kernel) (by simp) ?_
   intro j hj
   simp only [List.mem_cons, List.not_mem_nil, or_false] at hj
   subst hj
   refine ⟨_, rfl, ?_⟩
   refine .inr ⟨rfl, ?_⟩
   refine stepW_neqAgg (t := 83) (k1 := 68) (k2 := 73) (us := segV x) (vs := segV x) (fs := fs83) rfl (by simp [segV]) (by simp [segV]) (by kernel_rfl) (by kernel_rfl) (by kernel_rfl) rfl (seg_ok x) ?_
   rw [seg_eq]
   refine ⟨_, by simp; rfl, ?_⟩
   refine anyT_done (by decide +kernel) ?_
   simp [onNormal, keepF, lmC]
  rintro _ rfl
  refine W_cond (t := false) (by simp) (fun h => by simp at h) (fun h => ?_)
  refine W_skip ?_
  refine W_evE [2, 3, 6] (by simp [wi]; rfl) ?_
  exact ⟨_, by omega, i + 1, rfl, by omega, by simp⟩
 rintro _ rfl
 refine W_evK [4] (by simp; rfl) ?_
 refine W_ret ?_
 repeat (first | refine on_ret ?_ | refine in_ret ?_)
 simp [retQ]
theorem goL_LB : ∀ (L : List (List UInt8)) (m m' : LMod) (n : Nat), goL L m = some m' → LB m n → LB m' (n + sumL L)
 | [], m, m', n, h, hb => by
  rw [goL] at h
  cases h
  simpa [sumL] using hb
 | b :: L, m, m', n, h, hb => by
  rw [goL] at h
  split at h
  ·cases h
  ·have := goL_LB L _ m' _ h (hb.item (b := b))
   have e : sumL (b :: L) = b.length + sumL L := by simp [sumL]
   rw [e, ← Nat.add_assoc]
   exact this
theorem dcLM_sm (L : List (List UInt8)) (hS : sumL L ≤ 1000000) : LSm (dcLM L).1 := by
 have h0 : LSm lm0 := ⟨by simp [lm0], by simp [lm0], by simp [lm0]⟩
 unfold dcLM
 split
 ·exact h0
 ·rename_i m hm
  split
  ·obtain ⟨h1, h2, h3⟩ := goL_LB L lm0 m 0 hm ⟨by simp [lm0], by simp [lm0], by simp [lm0]⟩
   exact ⟨by simp only; omega, by simp only; omega, by simp only; omega⟩
  ·exact h0
@[simp] theorem eq4b (a b : Bool) : eqA Try.prog 4 (.v (.bool a)) (.v (.bool b)) = some (a == b) := by
 unfold eqA
 simp only [k4]
theorem readsLoad_sound (L : List (List UInt8)) (hS : sumL L ≤ 1000000) (hL : L.length ≤ 1000000) : Sound Try.prog 25 [.lst .any 1 (bbL L)] (.v (.bool true)) := by
 refine sound_of_W Try.func25 rfl (by decide +kernel) (by simp [Try.f25]) rfl rfl (rs := [.tmp 2]) rfl ?_
 rw [show Try.f25.ntmps = 33 from rfl]
 have h1 := decodeLoad_sound L hS hL
 have h2 := rdecodeLoad_sound L hS hL
 have h3 := sameLoad_sound _ (dcLM_sm L hS)
 obtain ⟨⟨m, B⟩, hd⟩ : ∃ p, dcLM L = p := ⟨_, rfl⟩
 rw [hd] at h1 h2 h3
 simp only at h1 h2 h3
 refine W_evK [0] (by simp; rfl) ?_
 cases B with
 | true =>
  simp only [if_true, Bool.false_eq_true, if_false] at h1 h2
  refine W_rK [0, 3, 4] ?_
  refine runA_pre 1 (by simp; rfl) rfl ?_
  refine runA_call (by simp) (by first | (simp; done) | (simp; rfl)) h1 (by simp; rfl) ?_
  refine runA_fin (by simp [setSeg]; rfl) ?_
  refine W_rK [3, 4, 5, 6] ?_
  refine runA_pre 1 (by simp; rfl) rfl ?_
  refine runA_call (by simp) (by first | (simp; done) | (simp; rfl)) h2 (by simp; rfl) ?_
  refine runA_fin (by simp [setSeg]; rfl) ?_
  refine W_rK [2] ?_
  refine runA_pre 6 (by simp; rfl) rfl ?_
  refine runA_pre 8 (by simp; rfl) rfl ?_
  refine runA_call (by simp) (by first | (simp; done) | (simp; rfl)) h3 (by simp; rfl) ?_
  refine runA_fin (by simp; rfl) ?_
  refine W_ret ?_
  repeat (first | refine on_ret ?_ | refine in_ret ?_)
  simp [retQ]
 | false =>
  simp only [if_true, Bool.false_eq_true, if_false] at h1 h2
  refine W_rK [0, 3, 4] ?_
  refine runA_pre 1 (by simp; rfl) rfl ?_
  refine runA_call (by simp) (by first | (simp; done) | (simp; rfl)) h1 (by simp; rfl) ?_
  refine runA_fin (by simp [setSeg]; rfl) ?_
  refine W_rK [3, 4, 5, 6] ?_
  refine runA_pre 1 (by simp; rfl) rfl ?_
  refine runA_call (by simp) (by first | (simp; done) | (simp; rfl)) h2 (by simp; rfl) ?_
  refine runA_fin (by simp [setSeg]; rfl) ?_
  refine W_rK [2] ?_
  refine runA_pre 6 (by simp; rfl) rfl ?_
  refine runA_pre 8 (by simp; rfl) rfl ?_
  refine runA_call (by simp) (by first | (simp; done) | (simp; rfl)) h3 (by simp; rfl) ?_
  refine runA_fin (by simp; rfl) ?_
  refine W_ret ?_
  repeat (first | refine on_ret ?_ | refine in_ret ?_)
  simp [retQ]
end Go.AM
namespace Go.AM
open Go.RowKit Go.Proofs
set_option linter.unusedSimpArgs false
set_option linter.unusedVariables false
set_option maxHeartbeats 4000000
theorem bbL_app (s t : List (List UInt8)) : bbL (s ++ t) = bbL s ++ bbL t := by simp [bbL]
def OutL (th : Bool) (i0 : Nat) (one : List UInt8) (t : List (List UInt8)) (x : AV) (H : List AObj) : Prop :=
 ∃ id cap cs, x = .arr id 0 t.length cap ∧ H[id]? = some (.cells 27 cs) ∧ cs.length = cap ∧ t.length ≤ cap ∧ AV.tlL cs = true ∧
  (th = true ∧ i0 < t.length → ∃ (q cq : Nat) (z : List UInt8), H[q]? = some (.cells 5 (byL (one ++ z))) ∧ one.length ≤ cq ∧ z.length = cq - one.length ∧ cs.take t.length = (bbL t).set i0 (.arr q 0 one.length cq)) ∧
  (¬ (th = true ∧ i0 < t.length) → cs.take t.length = bbL t)
theorem tlL_app31 (xs ys : List AV) : AV.tlL (xs ++ ys) = (AV.tlL xs && AV.tlL ys) := by
 rw [Bool.eq_iff_iff, Bool.and_eq_true, tlL_iff, tlL_iff, tlL_iff]
 simp only [List.mem_append]
 exact ⟨fun h => ⟨fun x hx => h x (.inl hx), fun x hx => h x (.inr hx)⟩, fun h x hx => hx.elim (h.1 x) (h.2 x)⟩
theorem tlL_sub {xs ys : List AV} (h : AV.tlL xs = true) (hs : ∀ y ∈ ys, y ∈ xs) : AV.tlL ys = true := tlL_iff.2 fun y hy => tlL_iff.1 h y (hs y hy)
theorem tlL_repC {z : AV} (hz : z.tl = true) : ∀ n, AV.tlL (repC n [z]) = true := by
 intro n
 refine tlL_iff.2 fun y hy => ?_
 obtain ⟨j, hj, hy⟩ := List.mem_iff_getElem.1 hy
 have hg := repC_get [z] (by simp) n j y (by rw [List.getElem?_eq_getElem hj, hy])
 simp at hg
 have := List.mem_of_getElem? hg
 simp at this
 rw [this]; exact hz
theorem app_stepL {s s1 : St} {x1 y : AV} {id j cap : Nat} {cs : List AV} (hid : s.h[id]? = some (.cells 27 cs)) (hcl : cs.length = cap) (hj : j ≤ cap) (htl : AV.tlL cs = true) (hyt : y.weak.tl = true) (hq : appQ0 s 27 1 id j cap 1 [y.weak] cs [.lst .nil 1 []] s1 x1) :
  ∃ id' cap' cs' h', x1 = .arr id' 0 (j + 1) cap' ∧ s1 = ⟨s.n, s.fr, h'⟩ ∧ h'[id']? = some (.cells 27 cs') ∧ cs'.length = cap' ∧ j + 1 ≤ cap' ∧ cs'.take (j + 1) = cs.take j ++ [y.weak] ∧
   (∀ (q : Nat) (c : List AV), s.h[q]? = some (AObj.cells 5 c) → h'[q]? = some (AObj.cells 5 c)) ∧ AV.tlL cs' = true := by
 have hidl : id < s.h.length := (List.getElem?_eq_some_iff.1 hid).1
 rcases hq with ⟨h1, rfl, rfl⟩ | ⟨h1, cap', h2, h3, rfl, rfl⟩
 ·refine ⟨id, cap, _, _, rfl, rfl, List.getElem?_set_self hidl, ?_, h1, ?_, fun q c hqc => ?_, ?_⟩
  ·rw [setSeg_length]; exact hcl; simp; omega
  ·rw [Nat.mul_one]
   have hl : (List.take j cs ++ [y.weak]).length = j + 1 := by simp; omega
   unfold setSeg
   rw [List.take_append_of_le_length (by omega), List.take_of_length_le (by omega)]
  ·have : id ≠ q := by
    intro e
    subst e
    rw [hid] at hqc
    simp at hqc
   rw [List.getElem?_set_ne this]; exact hqc
  ·unfold setSeg
   rw [tlL_app31, tlL_app31]
   simp only [Bool.and_eq_true]
   exact ⟨⟨tlL_sub htl fun y hy => List.mem_of_mem_take hy, by simp [AV.tlL, hyt]⟩, tlL_sub htl fun y hy => List.mem_of_mem_drop hy⟩
 ·refine ⟨s.h.length, cap', cs.take (j * 1) ++ [y.weak] ++ repC (cap' - (j + 1)) [.lst .nil 1 []], _, rfl, rfl, by simp, ?_, h2, ?_, fun q c hqc => ?_, ?_⟩
  ·rw [Nat.mul_one]
   simp [repC_length]
   omega
  ·rw [Nat.mul_one]
   have hl : (List.take j cs ++ [y.weak]).length = j + 1 := by simp; omega
   rw [List.take_append_of_le_length (by omega), List.take_of_length_le (by omega)]
  ·rw [List.getElem?_append_left (List.getElem?_eq_some_iff.1 hqc).1]; exact hqc
  ·rw [tlL_app31, tlL_app31]
   simp only [Bool.and_eq_true]
   exact ⟨⟨tlL_sub htl fun y hy => List.mem_of_mem_take hy, by simp [AV.tlL, hyt]⟩, tlL_repC rfl _⟩
theorem OutL.push {th : Bool} {i0 : Nat} {one l : List UInt8} {T : List (List UInt8)} {i id' cap' : Nat} {cs cs' : List AV} {H h' : List AObj} {y : AV}
  (hTl : T.length = i) (hb1 : th = true ∧ i0 < i → ∃ (q cq : Nat) (z : List UInt8), H[q]? = some (AObj.cells 5 (byL (one ++ z))) ∧ one.length ≤ cq ∧ z.length = cq - one.length ∧ cs.take i = (bbL T).set i0 (.arr q 0 one.length cq))
  (hb2 : ¬ (th = true ∧ i0 < i) → cs.take i = bbL T)
  (hid' : h'[id']? = some (.cells 27 cs')) (hcl' : cs'.length = cap') (hj' : i + 1 ≤ cap') (htk : cs'.take (i + 1) = cs.take i ++ [y]) (htl' : AV.tlL cs' = true) (hk : ∀ (q : Nat) (B : List UInt8), H[q]? = some (AObj.cells 5 (byL B)) → h'[q]? = some (AObj.cells 5 (byL B)))
  (hy : (y = .lst .any 1 (byL l) ∧ ¬ (th = true ∧ i0 = i)) ∨ (th = true ∧ i0 = i ∧ ∃ (q cq : Nat) (z : List UInt8), y = .arr q 0 one.length cq ∧ h'[q]? = some (AObj.cells 5 (byL (one ++ z))) ∧ one.length ≤ cq ∧ z.length = cq - one.length)) :
  OutL th i0 one (T ++ [l]) (.arr id' 0 (i + 1) cap') h' := by
 subst hTl
 have hL : (T ++ [l]).length = T.length + 1 := by simp
 refine ⟨id', cap', cs', by rw [hL], hid', hcl', by rw [hL]; exact hj', htl', fun hc => ?_, fun hc => ?_⟩
 ·rw [hL] at hc ⊢
  by_cases hlt : i0 < T.length
  ·obtain ⟨q, cq, rs, k1, k2, k3, k4⟩ := hb1 ⟨hc.1, hlt⟩
   rcases hy with ⟨rfl, _⟩ | ⟨_, he, _⟩
   ·refine ⟨q, cq, rs, hk _ _ k1, k2, k3, ?_⟩
    rw [htk, k4, bbL_app, List.set_append_left _ _ (by simpa using hlt)]
    rfl
   ·omega
  ·have he : i0 = T.length := by omega
   have h2 := hb2 fun h => hlt h.2
   rcases hy with ⟨_, hn⟩ | ⟨_, _, q, cq, rs, rfl, k1, k2, k3⟩
   ·exact absurd ⟨hc.1, he⟩ hn
   ·refine ⟨q, cq, rs, k1, k2, k3, ?_⟩
    rw [htk, h2, bbL_app, he, List.set_append_right _ _ (by simp)]
    simp [bbL]
 ·rw [hL] at hc ⊢
  have h2 := hb2 fun h => hc ⟨h.1, by omega⟩
  rcases hy with ⟨rfl, _⟩ | ⟨h1, he, _⟩
  ·rw [htk, h2, bbL_app]; rfl
  ·exact absurd ⟨h1, by omega⟩ hc
theorem bbL_set (t : List (List UInt8)) (i : Nat) (l : List UInt8) : (bbL t).set i (.lst .any 1 (byL l)) = bbL (t.set i l) := by
 simp [bbL, List.map_set]
theorem chunk_bbL : ∀ (t : List (List UInt8)), chunk false 1 t.length (bbL t) = bbL t
 | [] => rfl
 | x :: t => by
  have ih := chunk_bbL t
  show (AV.lst .any 1 (byL x)) :: chunk false 1 t.length (bbL t) = _
  rw [ih]; rfl
theorem W_fin9 {top : Bool} {kf : Nat} {code : Code} {Q : Exit → St → Prop} {n id cap : Nat} {fr : List (Nat × AV)} {H : List AObj} {cs : List AV} {U : List (List UInt8)} {sl : Nat} (hg : getF fr sl = some (.arr id 0 U.length cap)) (hobj : H[id]? = some (.cells 27 cs)) (hcl : cs.length = cap)
  (htk : cs.take U.length = bbL U) (h : ∀ H', Wt top kf Try.prog code Q ⟨n, putF fr sl (.lst (.tip 27 1) 1 (bbL U)), H'⟩) : Wt top kf Try.prog code Q ⟨n, fr, H⟩ := by
 refine W_tip sl (tk := 1) (ty := 27) (sz := 1) (ag := false) hg (by decide) hobj (by kernel_rfl) (by omega) (.inr rfl) (by omega) (by rw [Nat.mul_one, htk]; simp) (by rw [Nat.mul_one, htk]; simp) ?_
 rw [Nat.mul_one, htk, weakL_bbL, chunk_bbL]
 exact h _
theorem frz_by {H : List AObj} {q n cq : Nat} {B : List UInt8} (hq : H[q]? = some (.cells 5 (byL B))) (hn : n ≤ B.length) : ∃ o h', frzArr Try.prog H 1 q 0 n cq = some (.lst o 1 (byL (B.take n)), h') ∧ h'.length = H.length ∧ (o = .any ∨ o = .tip 5 1) := by
 unfold frzArr
 rw [hq]
 simp only [t5]
 rw [if_pos ⟨by omega, .inr trivial, by simpa using hn, by simp, by simp⟩]
 refine ⟨_, _, by rw [weakL_byL, List.drop_zero, chunk_byL _ _ hn], by simp, ?_⟩
 split
 ·exact .inr rfl
 ·exact .inl rfl
theorem W_finB {top : Bool} {kf : Nat} {code : Code} {Q : Exit → St → Prop} {n id cap q cq i0 : Nat} {fr : List (Nat × AV)} {H : List AObj} {cs : List AV} {t : List (List UInt8)} {k : Nat} {B : List UInt8} {sl : Nat} (hg : getF fr sl = some (.arr id 0 t.length cap)) (hid : H[id]? = some (.cells 27 cs))
  (hq : H[q]? = some (.cells 5 (byL B))) (hcl : cs.length = cap) (hi : i0 < t.length) (hcg : cs[i0]? = some (.arr q 0 k cq)) (htk : cs.take t.length = (bbL t).set i0 (.arr q 0 k cq)) (hk : k ≤ B.length)
  (h : ∀ H', Wt top kf Try.prog code Q ⟨n, putF fr sl (.lst (.tip 27 1) 1 (bbL (t.set i0 (B.take k)))), H'⟩) : Wt top kf Try.prog code Q ⟨n, fr, H⟩ := by
 have hne : id ≠ q := by
  intro e
  subst e
  rw [hid] at hq
  simp at hq
 have hidl : id < H.length := (List.getElem?_eq_some_iff.1 hid).1
 obtain ⟨o, h2, hf, hl, ho⟩ := frz_by (cq := cq) hq hk
 refine W_frzP id i0 (tk := 1) hid hcg hne rfl hf ?_
 have hx : (AV.lst o 1 (byL (B.take k))).plain = .lst .any 1 (byL (B.take k)) := by rcases ho with rfl | rfl <;> rfl
 rw [hx]
 refine W_fin9 (U := t.set i0 (B.take k)) (cs := cs.set i0 (.lst .any 1 (byL (B.take k)))) (sl := sl) (by simpa using hg) (List.getElem?_set_self (by omega)) (by simpa using hcl) ?_ h
 rw [List.length_set, List.take_set, htk, List.set_set, bbL_set]
end Go.AM
