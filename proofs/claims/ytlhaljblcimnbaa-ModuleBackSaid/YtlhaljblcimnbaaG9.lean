/- Parts of the walk: C31RC C31RD C31RE C31RF. -/
import Derived.Test.YtlhaljblcimnbaaG8
namespace Go.AM
open Go.RowKit Go.Proofs
set_option linter.unusedSimpArgs false
set_option linter.unusedVariables false
set_option maxHeartbeats 8000000
def mF (ft fr fs : Fl) (m : LMod) : List AV := [.lst ft 1 (byL m.text), .lst fr 3 (rlL m.rel), .lst fs 4 (sgL m.seg), .v (.int .i64 m.entry)]
def FlO (a b c : Nat) (ft fr fs : Fl) (m : LMod) : Prop := (ft = .nil ∧ m.text = [] ∨ ft = .tip 5 a) ∧ (fr = .nil ∧ m.rel = [] ∨ fr = .tip 85 b) ∧ (fs = .nil ∧ m.seg = [] ∨ fs = .tip 83 c)
theorem sgL_app (s t : List Seg) : sgL (s ++ t) = sgL s ++ sgL t := by simp [sgL]
theorem rlL_app (s t : List Rlo) : rlL (s ++ t) = rlL s ++ rlL t := by simp [rlL]
@[simp] theorem byL_nil31 : byL [] = [] := rfl
theorem sgL_nil : sgL [] = [] := rfl
theorem rlL_nil : rlL [] = [] := rfl
theorem sgL_one (s : Seg) : sgL [s] = [segA s] := rfl
theorem rlL_one (s : Rlo) : rlL [s] = [rloA s] := rfl
theorem bit128 : ∀ n : Fin 256, (BitVec.ofInt 8 (n.val : Int) &&& ~~~ BitVec.ofInt 8 128).toNat = n.val % 128 ∧ (BitVec.ofInt 8 (n.val : Int) &&& BitVec.ofInt 8 128).toNat = n.val / 128 * 128 := by decide +kernel
theorem andNot128 (n : Nat) (h : n < 256) : bitsA .andNot .u8 (n : Int) 128 = some (.v (.int .u8 ((n % 128 : Nat) : Int))) := by
 have := (bit128 ⟨n, h⟩).1
 simp only at this
 show some (AV.v (.int .u8 (IntKind.u8.wrap ((BitVec.ofInt 8 (n : Int) &&& ~~~BitVec.ofInt 8 128).toNat : Nat)))) = _
 rw [this, wu8 (by omega) (by omega)]
theorem and128 (n : Nat) (h : n < 256) : bitsA .and .u8 (n : Int) 128 = some (.v (.int .u8 ((n / 128 * 128 : Nat) : Int))) := by
 have := (bit128 ⟨n, h⟩).2
 simp only at this
 show some (AV.v (.int .u8 (IntKind.u8.wrap ((BitVec.ofInt 8 (n : Int) &&& BitVec.ofInt 8 128).toNat : Nat)))) = _
 rw [this, wu8 (by omega) (by omega)]
def sumL (L : List (List UInt8)) : Nat := (L.map List.length).sum
theorem sumL_take {L : List (List UInt8)} {i : Nat} {b : List UInt8} (h : L[i]? = some b) : sumL (L.take (i + 1)) = sumL (L.take i) + b.length := by
 rw [List.take_add_one, h, Option.toList_some]
 simp [sumL]
theorem sumL_le (L : List (List UInt8)) (i : Nat) : sumL (L.take i) ≤ sumL L := by
 have h : L = L.take i ++ L.drop i := (List.take_append_drop i L).symm
 have h2 : sumL L = sumL (L.take i) + sumL (L.drop i) := by
  have : sumL (L.take i ++ L.drop i) = sumL (L.take i) + sumL (L.drop i) := by simp only [sumL, List.map_append, List.sum_append]
  rw [← h] at this
  exact this
 omega
theorem segRd_step {f : Nat} {r : List UInt8} (h : 14 ≤ r.length) (hf : r.length ≤ f) : ∃ f', f = f' + 1 ∧ segRd f r = rdS r :: segRd f' (r.drop 14) ∧ (r.drop 14).length ≤ f' := by
 obtain ⟨f', rfl⟩ : ∃ f', f = f' + 1 := ⟨f - 1, by omega⟩
 exact ⟨f', rfl, by rw [segRd, if_pos h], by simp; omega⟩
theorem segRd_end {f : Nat} {r : List UInt8} (h : ¬ 14 ≤ r.length) : segRd f r = [] := by
 cases f with
 | zero => rfl
 | succ f => rw [segRd, if_neg h]
theorem relRd_step {f : Nat} {r : List UInt8} (h : 5 ≤ r.length) (hf : r.length ≤ f) : ∃ f', f = f' + 1 ∧ relRd f r = rdR r :: relRd f' (r.drop 5) ∧ (r.drop 5).length ≤ f' := by
 obtain ⟨f', rfl⟩ : ∃ f', f = f' + 1 := ⟨f - 1, by omega⟩
 exact ⟨f', rfl, by rw [relRd, if_pos h], by simp; omega⟩
theorem relRd_end {f : Nat} {r : List UInt8} (h : ¬ 5 ≤ r.length) : relRd f r = [] := by
 cases f with
 | zero => rfl
 | succ f => rw [relRd, if_neg h]
theorem kl_v (T : Nat) (x : Value) : AV.kill T (.v x) = .v x := rfl
theorem kl_loc (T i j : Nat) : AV.kill T (.loc i j) = .loc i j := rfl
theorem kl_any (T s : Nat) (x : List AV) : AV.kill T (.lst .any s x) = .lst .any s x := rfl
theorem kl_nil (T s : Nat) (x : List AV) : AV.kill T (.lst .nil s x) = .lst .nil s x := rfl
theorem zd7 (T e U s : Nat) (x : List AV) : AV.kill T (.lst (.tip e U) s x) = if U = T then .lst (if U % 2 = 0 then .ex else .any) s x else .lst (.tip e U) s x := rfl
theorem kl_agg (T : Nat) (x : List AV) : AV.kill T (.agg x) = .agg (AV.killL T x) := rfl
theorem kl_ro (T : Nat) (x : AV) : AV.kill T (.ro x) = .ro x := rfl
theorem kl_f {T e a s : Nat} {f : Fl} {p : Prop} {x : List AV} (h : f = .nil ∧ p ∨ f = .tip e a) (hne : a ≠ T) : AV.kill T (.lst f s x) = .lst f s x := by
 rcases h with ⟨rfl, _⟩ | rfl
 ·rfl
 ·rw [zd7, if_neg hne]
theorem decodeLoad_sound (L : List (List UInt8)) (hS : sumL L ≤ 1000000) (hL : L.length ≤ 1000000) :
  Sound Try.prog 28 [.lst .any 1 (bbL L)] (.tup [lmA (dcLM L).1, .v (.int .i64 (if (dcLM L).2 = true then 0 else 310))]) := by
 refine zb8 Try.func28 rfl (by decide +kernel) (by simp [Try.f28]) rfl rfl (rs := [.cell 2 40, .tmp 3]) rfl ?_
 rw [show Try.f28.ntmps = 115 from rfl]
 refine yt9 [0, 2] (by simp; rfl) ?_
 refine yt9 [0, 2, 4] (by simp; rfl) ?_
 refine ws9 (fun σ => ∃ (m : LMod) (ft fr fs : Fl), goL L lm0 = some m ∧ LB m (sumL L) ∧ FlO 131 187 115 ft fr fs m ∧ σ = ⟨115, [(0, .lst .any 1 (bbL L)), (2, .loc 0 0), (4, .loc 1 0)], [.cells 40 z40C, .cells 40 (mF ft fr fs m)]⟩) ?_ ?_
 ·refine yt9 [0, 2, 4, 11, 12, 13] (by simp; rfl) ?_
  refine yf9 ?_
  refine zn9 (fun k s => ∃ (i : Nat) (m : LMod) (ft fr fs : Fl), k = L.length - i ∧ i ≤ L.length ∧ goL (L.drop i) m = goL L lm0 ∧ LB m (sumL (L.take i)) ∧ FlO 131 187 115 ft fr fs m ∧
   s = ⟨115, [(0, .lst .any 1 (bbL L)), (2, .loc 0 0), (4, .loc 1 0), (11, .lst .any 1 (bbL L)), (12, .v (.int .i64 (L.length : Nat))), (13, .v (.int .i64 (i : Nat)))], [.cells 40 z40C, .cells 40 (mF ft fr fs m)]⟩) (k := L.length) ⟨0, lm0, .nil, .nil, .nil, rfl, by omega, rfl, ⟨by simp [lm0], by simp [lm0], by simp [lm0]⟩, ⟨.inl ⟨rfl, rfl⟩, .inl ⟨rfl, rfl⟩, .inl ⟨rfl, rfl⟩⟩, by simp [mF, lm0, byL, rlL, sgL, z40C]⟩ ?_
  rintro k s ⟨i, m, ft, fr, fs, rfl, hi, hgo, hLB, hfl, rfl⟩
  by_cases c : i < L.length
  rotate_left
  ·refine yt9 [0, 2, 4, 14] (by simp [c]; rfl) ?_
   refine yk9 ?_
   refine yd9 rfl (fun h => by simp at h) (fun h => ?_)
   refine zt9 [0, 2, 4] ?_
   refine zh9 ?_
   have hiL : i = L.length := by omega
   refine ⟨m, ft, fr, fs, ?_, ?_, hfl, by simp⟩
   ·rw [← hgo, hiL, List.drop_length, goL]
   ·rw [hiL, List.take_length] at hLB; exact hLB
  have ci : (i : Int) < L.length := by omega
  obtain ⟨b, hb⟩ : ∃ b, L[i]? = some b := ⟨_, List.getElem?_eq_getElem c⟩
  have hb2 : L[i]'c = b := by rw [List.getElem?_eq_getElem c] at hb; exact Option.some.inj hb
  have hdr : L.drop i = b :: L.drop (i + 1) := by rw [List.drop_eq_getElem_cons c, hb2]
  have hsum := sumL_take hb
  have hsle := sumL_le L (i + 1)
  have wi := w64 (n := (i : Int) + 1) (by omega) (by omega)
  have hLB' := hLB.item (b := b)
  rw [← hsum] at hLB'
  rw [hdr, goL] at hgo
  refine yt9 [0, 2, 4, 11, 12, 13, 14] (by simp [c]; rfl) ?_
  refine yk9 ?_
  refine yd9 rfl (fun h => ?_) (fun h => by simp at h)
  refine yh9 ?_
  refine yk9 ?_
  refine yf9 ?_
  refine yt9 [0, 2, 4, 11, 12, 13, 6] (by simp [c, ci, hb2]; rfl) ?_
  refine yk9 ?_
  by_cases c5 : b.length < 5
  ·have c5i : (b.length : Int) < 5 := by omega
   rw [if_pos c5] at hgo
   refine W_cT [0, 2, 4, 11, 12, 13, 6, 19] (by simp [c5, c5i]; rfl) rfl ?_
   refine yt9 [2, 3] (by simp [ys9]; rfl) ?_
   refine zr9 ?_
   repeat (first | refine yl9 ?_ | refine yc9 ?_)
   have hd : dcLM L = (lm0, false) := by rw [dcLM, ← hgo]
   rw [hd]
   exact yc7 (r0 := .tup _) ⟨.inr rfl, _, _, by simp [z40C, ys9]; rfl, by simp; exact ⟨rfl, rfl⟩, by simp [AV.rf, AV.rfL]⟩ (by simp [AV.plain, AV.plainL, lm0, byL, rlL, sgL])
  have c5i : ¬ (b.length : Int) < 5 := by omega
  rw [if_neg c5] at hgo
  obtain ⟨b0, hb0⟩ : ∃ b0, b[0]? = some b0 := ⟨_, List.getElem?_eq_getElem (by omega)⟩
  have hb00 : b[0]'(by omega) = b0 := by rw [List.getElem?_eq_getElem (by omega)] at hb0; exact Option.some.inj hb0
  have hgd : b.getD 0 0 = b0 := by rw [List.getD_eq_getElem?_getD, hb0]; rfl
  have hbl : b.length ≤ 1000000 := by omega
  have h0 : 0 < b.length := by omega
  refine W_cF [0, 2, 4, 11, 12, 13, 6, 19] (by simp [c5, c5i]; rfl) rfl ?_
  refine yh9 ?_
  refine yt9 [0, 2, 4, 11, 12, 13, 6, 23] (by simp [h0, hb00]; rfl) ?_
  refine yf9 ?_
  have hb0l := b0.toNat_lt
  obtain ⟨k0, hk0⟩ : ∃ k0, b0.toNat = k0 := ⟨_, rfl⟩
  rw [hk0] at hb0l ⊢
  have heq : ∀ x : UInt8, (b0 = x) = (k0 = x.toNat) := fun x => by rw [← hk0]; exact propext UInt8.toNat_inj.symm
  by_cases k1 : k0 = 1
  ·have k1i : (k0 : Int) = 1 := by omega
   have hit : itemM m b = ⟨m.text, m.rel, m.seg ++ segRd b.length (b.drop 7), valM ((b.drop 1).take 4)⟩ := by rw [itemM, if_pos (by rw [hgd, heq]; exact k1)]
   refine W_cT [0, 2, 4, 11, 12, 13, 6, 23, 24] (by simp [k1]; rfl) rfl ?_
   obtain ⟨A, hA⟩ : ∃ A, (b.drop 1).take 4 = A := ⟨_, rfl⟩
   have hAl : A.length ≤ 7 := by rw [← hA]; simp; omega
   have e14 : (List.take 5 (byL b)).tail = byL A := by rw [← hA, ← List.drop_one, ← xw9, ← xp9, List.drop_take]
   have h5 : 5 ≤ b.length := by omega
   have h5i : (5 : Int) ≤ b.length := by omega
   have hv := wd9 A hAl
   obtain ⟨E, hE⟩ : ∃ E, valM A = E := ⟨_, rfl⟩
   rw [hE] at hv
   rw [hA, hE] at hit
   refine W_rK [0, 2, 4, 11, 12, 13, 6] ?_
   refine yq9 2 (by simp [h5, h5i]; rfl) rfl ?_
   refine yj9 (by simp) (by simp [e14]; rfl) hv (by simp; rfl) ?_
   refine yr9 (by simp [mF, ys9]; rfl) ?_
   obtain ⟨q, hq⟩ : ∃ q, min 7 b.length = q := ⟨_, rfl⟩
   have hmin : (if (b.length : Int) < 7 then ((b.length : Nat) : Int) else (7 : Int)) = (q : Nat) := by split <;> omega
   have hql : q ≤ b.length := by omega
   have hqi : (q : Int) ≤ b.length := by omega
   have hdq : b.drop q = b.drop 7 := by
    rw [← hq]
    rcases Nat.le_total 7 b.length with h | h
    ·rw [Nat.min_eq_left h]
    ·rw [Nat.min_eq_right h, List.drop_length, List.drop_eq_nil_of_le h]
   have hdqb : (byL b).drop q = byL (b.drop 7) := by rw [← xp9, hdq]
   refine yt9 [0, 2, 4, 11, 12, 13, 7] (by simp [hmin, hql, hqi, hdqb]; rfl) ?_
   have hkt : ∀ s x, AV.kill 115 (.lst ft s x) = .lst ft s x := fun s x => kl_f hfl.1 (by decide)
   have hkr : ∀ s x, AV.kill 115 (.lst fr s x) = .lst fr s x := fun s x => kl_f hfl.2.1 (by decide)
   refine yf9 ?_
   have hms := hLB.s
   have hss := sumL_le L i
   have hsg := segRd_len b.length (b.drop 7)
   simp only [List.length_drop] at hsg
   refine zn9 (fun k s => ∃ (f : Nat) (r : List UInt8) (acc : List Seg) (gs : Fl), k = f ∧ r.length ≤ f ∧ r.length ≤ 1000000 ∧ acc ++ segRd f r = m.seg ++ segRd b.length (b.drop 7) ∧ (gs = .nil ∧ acc = [] ∨ gs = .tip 83 115) ∧
    s = ⟨115, [(0, .lst .any 1 (bbL L)), (2, .loc 0 0), (4, .loc 1 0), (11, .lst .any 1 (bbL L)), (12, .v (.int .i64 (L.length : Nat))), (13, .v (.int .i64 (i : Nat))), (7, .lst .any 1 (byL r))], [.cells 40 z40C, .cells 40 [.lst ft 1 (byL m.text), .lst fr 3 (rlL m.rel), .lst gs 4 (sgL acc), .v (.int .i64 (E : Nat))]]⟩) (k := b.length) ⟨b.length, b.drop 7, m.seg, fs, rfl, by simp, by simp; omega, rfl, hfl.2.2, by simp⟩ ?_
   rintro k s ⟨f, r, acc, gs, rfl, hrf, hr1, hacc, hgs, rfl⟩
   have hal : acc.length ≤ 2000000 := by
    have := congrArg List.length hacc
    simp only [List.length_append] at this
    omega
   refine yk9 ?_
   by_cases c14 : 14 ≤ r.length
   rotate_left
   ·have c14i : ¬ (14 : Int) ≤ r.length := by omega
    refine W_cF [0, 2, 4, 11, 12, 13, 37] (by simp [c14, c14i]; rfl) rfl ?_
    refine zh9 ?_
    rw [segRd_end c14, List.append_nil] at hacc
    refine zs9 [0, 2, 4, 11, 12, 13] (by simp [wi]; rfl) ?_
    rw [hit] at hgo hLB'
    refine ⟨_, by omega, i + 1, _, ft, fr, gs, rfl, by omega, hgo, hLB', ⟨hfl.1, hfl.2.1, ?_⟩, by simp [mF, hacc]⟩
    simp only
    rw [← hacc]
    exact hgs
   have c14i : (14 : Int) ≤ r.length := by omega
   obtain ⟨f', rfl, hrd, hrl⟩ := segRd_step c14 hrf
   rw [hrd] at hacc
   have c2 : 2 ≤ r.length := by omega
   have c6 : 6 ≤ r.length := by omega
   have c10 : 10 ≤ r.length := by omega
   have c2i : (2 : Int) ≤ r.length := by omega
   have c6i : (6 : Int) ≤ r.length := by omega
   have c10i : (10 : Int) ≤ r.length := by omega
   obtain ⟨A2, hA2⟩ : ∃ A, r.take 2 = A := ⟨_, rfl⟩
   obtain ⟨A6, hA6⟩ : ∃ A, (r.drop 2).take 4 = A := ⟨_, rfl⟩
   obtain ⟨A10, hA10⟩ : ∃ A, (r.drop 6).take 4 = A := ⟨_, rfl⟩
   obtain ⟨A14, hA14⟩ : ∃ A, (r.drop 10).take 4 = A := ⟨_, rfl⟩
   have e2 : List.take 2 (byL r) = byL A2 := by rw [← hA2, ← xw9]
   have e6 : List.drop 2 (List.take 6 (byL r)) = byL A6 := by rw [← hA6, ← xw9, ← xp9, List.drop_take]
   have e10 : List.drop 6 (List.take 10 (byL r)) = byL A10 := by rw [← hA10, ← xw9, ← xp9, List.drop_take]
   have e14 : List.drop 10 (List.take 14 (byL r)) = byL A14 := by rw [← hA14, ← xw9, ← xp9, List.drop_take]
   have ed : List.drop 14 (byL r) = byL (r.drop 14) := by rw [← xp9]
   have v2 := wd9 A2 (by rw [← hA2]; simp; omega)
   have v6 := wd9 A6 (by rw [← hA6]; simp; omega)
   have v10 := wd9 A10 (by rw [← hA10]; simp; omega)
   have v14 := wd9 A14 (by rw [← hA14]; simp; omega)
   have hV2l := valM_lt 2 A2 (by rw [← hA2]; simp; omega)
   obtain ⟨V2, hV2⟩ : ∃ V, valM A2 = V := ⟨_, rfl⟩
   obtain ⟨V6, hV6⟩ : ∃ V, valM A6 = V := ⟨_, rfl⟩
   obtain ⟨V10, hV10⟩ : ∃ V, valM A10 = V := ⟨_, rfl⟩
   obtain ⟨V14, hV14⟩ : ∃ V, valM A14 = V := ⟨_, rfl⟩
   have hrs : rdS r = ⟨(V2 : Int) - 1, V6, V10, V14⟩ := by rw [rdS, hA2, hA6, hA10, hA14, hV2, hV6, hV10, hV14]
   rw [hV2] at v2 hV2l
   rw [hV6] at v6
   rw [hV10] at v10
   rw [hV14] at v14
   have hp2 : (256 : Nat) ^ 2 = 65536 := by decide
   have w2 := w64 (n := (V2 : Int) - 1) (by omega) (by omega)
   have hby : (acc.length + 1) * 32 ≤ 140737488355328 := by omega
   have hsn : sgL (acc ++ [rdS r]) = sgL acc ++ [segA (rdS r)] := by rw [sgL_app, sgL_one]
   rw [hrs] at hsn
   refine W_cT [0, 2, 4, 11, 12, 13, 7, 37] (by simp [c14, c14i]; rfl) rfl ?_
   refine yh9 ?_
   refine yk9 ?_
   refine yf9 ?_
   rcases hgs with ⟨rfl, rfl⟩ | rfl
   ·refine vh9 [0, 2, 4, 11, 12, 13, 7] mx (by decide +kernel) ?_
    refine yw9 4 (by simp [c2, c2i, e2, sgL_nil]; rfl) rfl ?_
    refine yb9 (by simp) (by first | (simp; done) | (simp; rfl)) v2 (by simp; rfl) ?_
    refine yw9 3 (by simp [c6, c6i, e6, w2]; rfl) rfl ?_
    refine yb9 (by simp) (by first | (simp; done) | (simp; rfl)) v6 (by simp; rfl) ?_
    refine yw9 2 (by simp [c10, c10i, e10]; rfl) rfl ?_
    refine yb9 (by simp) (by first | (simp; done) | (simp; rfl)) v10 (by simp; rfl) ?_
    refine yw9 2 (by simp [c14, c14i, e14]; rfl) rfl ?_
    refine yb9 (by simp) (by first | (simp; done) | (simp; rfl)) v14 (by simp; rfl) ?_
    refine yv9 (by simp [hby, ys9, -AV.kill, kl_v, kl_loc, kl_any, kl_nil, zd7, kl_agg, kl_ro, hkt, hkr]; rfl) ?_
    refine zs9 [0, 2, 4, 11, 12, 13, 7] (by simp [c14, c14i, ed]; rfl) ?_
    exact ⟨_, by omega, f', r.drop 14, [] ++ [rdS r], .tip 83 115, rfl, hrl, by simp; omega, by rw [← hacc]; simp, .inr rfl, by rw [hrs]; simp [hsn, sgL, ys9, -AV.kill, kl_v, kl_loc, kl_any, kl_nil, zd7, kl_agg, kl_ro, hkt, hkr]⟩
   ·refine vh9 [0, 2, 4, 11, 12, 13, 7] mx (by decide +kernel) ?_
    refine yw9 4 (by simp [c2, c2i, e2, sgL_nil]; rfl) rfl ?_
    refine yb9 (by simp) (by first | (simp; done) | (simp; rfl)) v2 (by simp; rfl) ?_
    refine yw9 3 (by simp [c6, c6i, e6, w2]; rfl) rfl ?_
    refine yb9 (by simp) (by first | (simp; done) | (simp; rfl)) v6 (by simp; rfl) ?_
    refine yw9 2 (by simp [c10, c10i, e10]; rfl) rfl ?_
    refine yb9 (by simp) (by first | (simp; done) | (simp; rfl)) v10 (by simp; rfl) ?_
    refine yw9 2 (by simp [c14, c14i, e14]; rfl) rfl ?_
    refine yb9 (by simp) (by first | (simp; done) | (simp; rfl)) v14 (by simp; rfl) ?_
    refine yv9 (by simp [hby, ys9, -AV.kill, kl_v, kl_loc, kl_any, kl_nil, zd7, kl_agg, kl_ro, hkt, hkr]; rfl) ?_
    refine zs9 [0, 2, 4, 11, 12, 13, 7] (by simp [c14, c14i, ed]; rfl) ?_
    exact ⟨_, by omega, f', r.drop 14, acc ++ [rdS r], .tip 83 115, rfl, hrl, by simp; omega, by rw [← hacc]; simp, .inr rfl, by rw [hrs]; simp [hsn, ys9, -AV.kill, kl_v, kl_loc, kl_any, kl_nil, zd7, kl_agg, kl_ro, hkt, hkr]⟩
  have k1i : ¬ (k0 : Int) = 1 := by omega
  have k1b : ((k0 : Int) == 1) = false := by simpa using k1i
  refine W_cF [0, 2, 4, 11, 12, 13, 6, 23, 24] (by simp [k1, k1i, k1b]; rfl) rfl ?_
  by_cases k2 : k0 = 2
  ·have k2i : (k0 : Int) = 2 := by omega
   have hit : itemM m b = ⟨m.text ++ b.drop 5, m.rel, m.seg, m.entry⟩ := by rw [itemM, if_neg (by rw [hgd, heq]; exact k1), if_pos (by rw [hgd, heq]; exact k2)]
   rw [hit] at hgo hLB'
   have hd5 : List.drop 5 (byL b) = byL (b.drop 5) := by rw [← xp9]
   have h5 : 5 ≤ b.length := by omega
   have h5i : (5 : Int) ≤ b.length := by omega
   have hmt := hLB.t
   have hss := sumL_le L i
   have hby : m.text.length + (b.length - 5) ≤ 140737488355328 := by omega
   have hby2 : b.length - 5 ≤ 140737488355328 := by omega
   have hkr : ∀ s x, AV.kill 131 (.lst fr s x) = .lst fr s x := fun s x => kl_f hfl.2.1 (by decide)
   have hkt : ∀ s x, AV.kill 131 (.lst fs s x) = .lst fs s x := fun s x => kl_f hfl.2.2 (by decide)
   refine W_cT [0, 2, 4, 11, 12, 13, 6, 23, 59] (by simp [k2, k2i]; rfl) rfl ?_
   rcases hfl.1 with ⟨rfl, ht⟩ | rfl
   ·rw [ht] at hgo hLB'
    refine W_dvE [0, 2, 4, 11, 12, 13] mx (by decide +kernel) (by simp [mF, ht, byL_nil31, hd5, h5, h5i, hby2, ys9, -AV.kill, kl_v, kl_loc, kl_any, kl_nil, zd7, kl_agg, kl_ro, hkt, hkr]; rfl) ?_
    refine zs9 [0, 2, 4, 11, 12, 13] (by simp [wi]; rfl) ?_
    exact ⟨_, by omega, i + 1, _, .tip 5 131, fr, fs, rfl, by omega, hgo, hLB', ⟨.inr rfl, hfl.2.1, hfl.2.2⟩, by simp [mF, ys9, -AV.kill, kl_v, kl_loc, kl_any, kl_nil, zd7, kl_agg, kl_ro, hkt, hkr]⟩
   ·refine W_dvE [0, 2, 4, 11, 12, 13] mx (by decide +kernel) (by simp [mF, hd5, h5, h5i, hby, ys9, -AV.kill, kl_v, kl_loc, kl_any, kl_nil, zd7, kl_agg, kl_ro, hkt, hkr]; rfl) ?_
    refine zs9 [0, 2, 4, 11, 12, 13] (by simp [wi]; rfl) ?_
    exact ⟨_, by omega, i + 1, _, .tip 5 131, fr, fs, rfl, by omega, hgo, hLB', ⟨.inr rfl, hfl.2.1, hfl.2.2⟩, by simp [mF, ys9, xc9, -AV.kill, kl_v, kl_loc, kl_any, kl_nil, zd7, kl_agg, kl_ro, hkt, hkr]⟩
  have k2i : ¬ (k0 : Int) = 2 := by omega
  have k2b : ((k0 : Int) == 2) = false := by simpa using k2i
  refine W_cF [0, 2, 4, 11, 12, 13, 6, 23, 59] (by simp [k2, k2i, k2b]; rfl) rfl ?_
  by_cases k3 : k0 = 3
  ·have k3i : (k0 : Int) = 3 := by omega
   have hit : itemM m b = ⟨m.text, m.rel ++ relRd b.length (b.drop 1), m.seg, m.entry⟩ := by rw [itemM, if_neg (by rw [hgd, heq]; exact k1), if_neg (by rw [hgd, heq]; exact k2), if_pos (by rw [hgd, heq]; exact k3)]
   rw [hit] at hgo hLB'
   refine W_cT [0, 2, 4, 11, 12, 13, 6, 67] (by simp [k3, k3i]; rfl) rfl ?_
   have h1 : 1 ≤ b.length := by omega
   have h1i : (1 : Int) ≤ b.length := by omega
   have ht1 : (byL b).tail = byL (b.drop 1) := by rw [← List.drop_one, xp9]
   refine yt9 [0, 2, 4, 11, 12, 13, 8] (by simp [h1, h1i, ht1]; rfl) ?_
   have hkt : ∀ s x, AV.kill 187 (.lst ft s x) = .lst ft s x := fun s x => kl_f hfl.1 (by decide)
   have hkr : ∀ s x, AV.kill 187 (.lst fs s x) = .lst fs s x := fun s x => kl_f hfl.2.2 (by decide)
   have hms := hLB.r
   have hss := sumL_le L i
   have hsg := relRd_len b.length (b.drop 1)
   simp only [List.length_drop] at hsg
   refine yf9 ?_
   refine zn9 (fun k s => ∃ (f : Nat) (r : List UInt8) (acc : List Rlo) (gs : Fl), k = f ∧ r.length ≤ f ∧ r.length ≤ 1000000 ∧ acc ++ relRd f r = m.rel ++ relRd b.length (b.drop 1) ∧ (gs = .nil ∧ acc = [] ∨ gs = .tip 85 187) ∧
    s = ⟨115, [(0, .lst .any 1 (bbL L)), (2, .loc 0 0), (4, .loc 1 0), (11, .lst .any 1 (bbL L)), (12, .v (.int .i64 (L.length : Nat))), (13, .v (.int .i64 (i : Nat))), (8, .lst .any 1 (byL r))], [.cells 40 z40C, .cells 40 [.lst ft 1 (byL m.text), .lst gs 3 (rlL acc), .lst fs 4 (sgL m.seg), .v (.int .i64 m.entry)]]⟩) (k := b.length) ⟨b.length, b.drop 1, m.rel, fr, rfl, by simp, by simp; omega, rfl, hfl.2.1, by simp [mF]⟩ ?_
   rintro k s ⟨f, r, acc, gs, rfl, hrf, hr1, hacc, hgs, rfl⟩
   have hal : acc.length ≤ 2000000 := by
    have := congrArg List.length hacc
    simp only [List.length_append] at this
    omega
   refine yk9 ?_
   by_cases c5' : 5 ≤ r.length
   rotate_left
   ·have c5i' : ¬ (5 : Int) ≤ r.length := by omega
    refine W_cF [0, 2, 4, 11, 12, 13, 73] (by simp [c5', c5i']; rfl) rfl ?_
    refine zh9 ?_
    rw [relRd_end c5', List.append_nil] at hacc
    refine zs9 [0, 2, 4, 11, 12, 13] (by simp [wi]; rfl) ?_
    refine ⟨_, by omega, i + 1, _, ft, gs, fs, rfl, by omega, hgo, hLB', ⟨hfl.1, ?_, hfl.2.2⟩, by simp [mF, hacc]⟩
    simp only
    rw [← hacc]
    exact hgs
   have c5i' : (5 : Int) ≤ r.length := by omega
   obtain ⟨f', rfl, hrd, hrl⟩ := relRd_step c5' hrf
   rw [hrd] at hacc
   have c4 : 4 ≤ r.length := by omega
   have c4i : (4 : Int) ≤ r.length := by omega
   have c4' : 4 < r.length := by omega
   have c4'i : (4 : Int) < r.length := by omega
   obtain ⟨A4, hA4⟩ : ∃ A, r.take 4 = A := ⟨_, rfl⟩
   have e4 : List.take 4 (byL r) = byL A4 := by rw [← hA4, ← xw9]
   have ed : List.drop 5 (byL r) = byL (r.drop 5) := by rw [← xp9]
   have v4 := wd9 A4 (by rw [← hA4]; simp; omega)
   obtain ⟨V4, hV4⟩ : ∃ V, valM A4 = V := ⟨_, rfl⟩
   obtain ⟨x, hx⟩ : ∃ x, r[4]? = some x := ⟨_, List.getElem?_eq_getElem c4'⟩
   have hx2 : r[4]'c4' = x := by rw [List.getElem?_eq_getElem c4'] at hx; exact Option.some.inj hx
   have hxd : r.getD 4 0 = x := by rw [List.getD_eq_getElem?_getD, hx]; rfl
   have hxl := x.toNat_lt
   obtain ⟨X, hX⟩ : ∃ X, x.toNat = X := ⟨_, rfl⟩
   rw [hX] at hxl
   have hand := andNot128 X (by omega)
   have hand2 := and128 X (by omega)
   obtain ⟨Y, hY⟩ : ∃ Y, X % 128 = Y := ⟨_, rfl⟩
   obtain ⟨Z, hZ⟩ : ∃ Z, X / 128 * 128 = Z := ⟨_, rfl⟩
   rw [hY] at hand
   rw [hZ] at hand2
   have wY := w64 (n := (Y : Int)) (by omega) (by omega)
   have hz1 : ((Z : Int) != 0) = decide (128 ≤ X) := by
    rw [Bool.eq_iff_iff]
    simp only [bne_iff_ne, ne_eq, decide_eq_true_eq]
    omega
   have hz2 : (!((Z : Int) == 0)) = decide (128 ≤ X) := hz1
   have hrs : rdR r = ⟨(V4 : Nat), (Y : Nat), decide (128 ≤ X)⟩ := by rw [rdR, hA4, hV4, hxd, hX, hY]
   rw [hV4] at v4
   have hby : (acc.length + 1) * 24 ≤ 140737488355328 := by omega
   have hsn : rlL (acc ++ [rdR r]) = rlL acc ++ [rloA (rdR r)] := by rw [rlL_app, rlL_one]
   rw [hrs] at hsn
   refine W_cT [0, 2, 4, 11, 12, 13, 8, 73] (by simp [c5', c5i']; rfl) rfl ?_
   refine yh9 ?_
   refine yk9 ?_
   refine yf9 ?_
   rcases hgs with ⟨rfl, rfl⟩ | rfl
   ·refine vh9 [0, 2, 4, 11, 12, 13, 8] mx (by decide +kernel) ?_
    refine yw9 4 (by simp [c4, c4i, e4, rlL_nil]; rfl) rfl ?_
    refine yb9 (by simp) (by first | (simp; done) | (simp; rfl)) v4 (by simp; rfl) ?_
    refine yw9 6 (by simp [c4', c4'i, hx2, hX, hand, hand2, wY, hz1, hz2]; rfl) rfl ?_
    refine yw9 4 (by simp [c4', c4'i, hx2, hX, hand, hand2, wY, hz1, hz2]; rfl) rfl ?_
    refine yv9 (by simp [hby, ys9, -AV.kill, kl_v, kl_loc, kl_any, kl_nil, zd7, kl_agg, kl_ro, hkt, hkr]; rfl) ?_
    refine zs9 [0, 2, 4, 11, 12, 13, 8] (by simp [c5', c5i', ed]; rfl) ?_
    exact ⟨_, by omega, f', r.drop 5, [] ++ [rdR r], .tip 85 187, rfl, hrl, by simp; omega, by rw [← hacc]; simp, .inr rfl, by rw [hrs]; simp [hsn, rlL, ys9, -AV.kill, kl_v, kl_loc, kl_any, kl_nil, zd7, kl_agg, kl_ro, hkt, hkr]⟩
   ·refine vh9 [0, 2, 4, 11, 12, 13, 8] mx (by decide +kernel) ?_
    refine yw9 4 (by simp [c4, c4i, e4, rlL_nil]; rfl) rfl ?_
    refine yb9 (by simp) (by first | (simp; done) | (simp; rfl)) v4 (by simp; rfl) ?_
    refine yw9 6 (by simp [c4', c4'i, hx2, hX, hand, hand2, wY, hz1, hz2]; rfl) rfl ?_
    refine yw9 4 (by simp [c4', c4'i, hx2, hX, hand, hand2, wY, hz1, hz2]; rfl) rfl ?_
    refine yv9 (by simp [hby, ys9, -AV.kill, kl_v, kl_loc, kl_any, kl_nil, zd7, kl_agg, kl_ro, hkt, hkr]; rfl) ?_
    refine zs9 [0, 2, 4, 11, 12, 13, 8] (by simp [c5', c5i', ed]; rfl) ?_
    exact ⟨_, by omega, f', r.drop 5, acc ++ [rdR r], .tip 85 187, rfl, hrl, by simp; omega, by rw [← hacc]; simp, .inr rfl, by rw [hrs]; simp [hsn,  ys9, -AV.kill, kl_v, kl_loc, kl_any, kl_nil, zd7, kl_agg, kl_ro, hkt, hkr]⟩
  have k3i : ¬ (k0 : Int) = 3 := by omega
  have k3b : ((k0 : Int) == 3) = false := by simpa using k3i
  have hit : itemM m b = m := by rw [itemM, if_neg (by rw [hgd, heq]; exact k1), if_neg (by rw [hgd, heq]; exact k2), if_neg (by rw [hgd, heq]; exact k3)]
  rw [hit] at hgo hLB'
  refine W_cF [0, 2, 4, 11, 12, 13, 6, 67] (by simp [k3, k3i, k3b]; rfl) rfl ?_
  refine yh9 ?_
  refine zs9 [0, 2, 4, 11, 12, 13] (by simp [wi]; rfl) ?_
  exact ⟨_, by omega, i + 1, m, ft, fr, fs, rfl, by omega, hgo, hLB', hfl, by simp⟩
 ·rintro σ ⟨m, ft, fr, fs, hgo, hLB, hfl, rfl⟩
  obtain ⟨z1, z2, z3⟩ := hLB
  have hcl := clone64p m.text (by omega)
  have hen := encL_sound m (by omega) (by omega) (by omega)
  refine W_rK [0, 2, 4] ?_
  refine yq9 2 (by simp [mF]; rfl) rfl ?_
  refine yj9 (by simp) (by first | (simp; done) | (simp; rfl)) hcl (by simp; rfl) ?_
  refine yr9 (by simp [ys9]; rfl) ?_
  refine yk9 ?_
  by_cases hc : ckM m = true
  ·rw [encR, if_pos hc] at hen
   refine W_rK [0, 2, 4, 9, 10] ?_
   refine yq9 1 (by simp; rfl) rfl ?_
   refine yj9 (by simp) (by first | (simp; done) | (simp; rfl)) hen (by simp; rfl) ?_
   refine yr9 (by simp; rfl) ?_
   have hel := encL_len m
   have hsm := same66_sound (encL m) L (by omega)
   refine W_rK [2, 4, 112] ?_
   refine yq9 5 (by simp; rfl) rfl ?_
   refine yj9 (by simp) (by first | (simp; done) | (simp; rfl)) hsm (by simp; rfl) ?_
   by_cases he : encL m = L
   ·refine yr9 (by simp [he]; rfl) ?_
    refine yd9 rfl (fun h => by simp at h) (fun h => ?_)
    refine yh9 ?_
    refine yt9 [2, 3] (by simp [ys9]; rfl) ?_
    refine zr9 ?_
    repeat (first | refine yl9 ?_ | refine yc9 ?_)
    have hd : dcLM L = (m, true) := by rw [dcLM, hgo]; simp only; rw [if_pos ⟨hc, he⟩]
    rw [hd]
    exact yc7 (r0 := .tup _) ⟨.inr rfl, _, _, by simp [ys9]; rfl, by simp; exact ⟨rfl, rfl⟩, by simp [AV.rf, AV.rfL]⟩ (by simp [AV.plain, AV.plainL])
   ·refine yr9 (by simp [he]; rfl) ?_
    refine yd9 rfl (fun h => ?_) (fun h => by simp at h)
    refine yt9 [2, 3] (by simp [z40C, ys9]; rfl) ?_
    refine zr9 ?_
    repeat (first | refine yl9 ?_ | refine yc9 ?_)
    have hd : dcLM L = (lm0, false) := by rw [dcLM, hgo]; simp only; rw [if_neg fun h => he h.2]
    rw [hd]
    exact yc7 (r0 := .tup _) ⟨.inr rfl, _, _, by simp [ys9]; rfl, by simp; exact ⟨rfl, rfl⟩, by simp [AV.rf, AV.rfL]⟩ (by simp [AV.plain, AV.plainL, lm0, byL, rlL, sgL])
  ·rw [encR, if_neg hc] at hen
   refine W_rK [0, 2, 4, 9, 10] ?_
   refine yq9 1 (by simp; rfl) rfl ?_
   refine yj9 (by simp) (by first | (simp; done) | (simp; rfl)) hen (by simp; rfl) ?_
   refine yr9 (by simp; rfl) ?_
   refine W_cT [2, 4, 112] (by simp; rfl) rfl ?_
   refine yt9 [2, 3] (by simp [z40C, ys9]; rfl) ?_
   refine zr9 ?_
   repeat (first | refine yl9 ?_ | refine yc9 ?_)
   have hd : dcLM L = (lm0, false) := by rw [dcLM, hgo]; simp only; rw [if_neg fun h => hc h.1]
   rw [hd]
   exact yc7 (r0 := .tup _) ⟨.inr rfl, _, _, by simp [ys9]; rfl, by simp; exact ⟨rfl, rfl⟩, by simp [AV.rf, AV.rfL]⟩ (by simp [AV.plain, AV.plainL, lm0, byL, rlL, sgL])
end Go.AM
namespace Go.AM
open Go.RowKit Go.Proofs
set_option linter.unusedSimpArgs false
set_option linter.unusedVariables false
set_option maxHeartbeats 8000000
end Go.AM
namespace Go.AM
open Go.RowKit Go.Proofs
set_option linter.unusedSimpArgs false
set_option linter.unusedVariables false
set_option maxHeartbeats 8000000
def segV (s : Seg) : List Value := [.int .i64 s.par, .int .i64 s.org, .int .i64 s.frm, .int .i64 s.len]
def rloV (r : Rlo) : List Value := [.int .i64 r.at_, .int .i64 r.len, .bool r.neg]
noncomputable def fs83 : List Field := (Try.prog.fieldsOf 83).toList
noncomputable def fs85 : List Field := (Try.prog.fieldsOf 85).toList
theorem seg_eq (x : Seg) : eqFv fs83 (segV x) (segV x) = true := by
 have hf : fs83.map (fun f => f.offset) = [0, 1, 2, 3] := by kernel_rfl
 have key : ∀ us vs : List Value, eqFv fs83 us vs = (fs83.map fun f => f.offset).all fun i => pv (us.getD i undef) (vs.getD i undef) := by
  intro us vs
  simp [eqFv, List.all_map, Function.comp_def]
 rw [key, hf]
 simp [segV, pv]
theorem rlo_eq (x : Rlo) : eqFv fs85 (rloV x) (rloV x) = true := by
 have hf : fs85.map (fun f => f.offset) = [0, 1, 2] := by kernel_rfl
 have key : ∀ us vs : List Value, eqFv fs85 us vs = (fs85.map fun f => f.offset).all fun i => pv (us.getD i undef) (vs.getD i undef) := by
  intro us vs
  simp [eqFv, List.all_map, Function.comp_def]
 rw [key, hf]
 simp [rloV, pv]
theorem seg_ok (x : Seg) : okF Try.prog fs83 (segV x) (segV x) = true := by kernel_rfl
theorem rlo_ok (x : Rlo) : okF Try.prog fs85 (rloV x) (rloV x) = true := by kernel_rfl
theorem goL_LB : ∀ (L : List (List UInt8)) (m m' : LMod) (n : Nat), goL L m = some m' → LB m n → LB m' (n + sumL L)
 | [], m, m', n, h, hb => by
  rw [goL] at h
  cases h
  simpa [sumL] using hb
 | b :: L, m, m', n, h, hb => by
  rw [goL] at h
  split at h
  ·cases h
  ·have := goL_LB L _ m' _ h (hb.item (b := b))
   have e : sumL (b :: L) = b.length + sumL L := by simp [sumL]
   rw [e, ← Nat.add_assoc]
   exact this
theorem dcLM_sm (L : List (List UInt8)) (hS : sumL L ≤ 1000000) : LSm (dcLM L).1 := by
 have h0 : LSm lm0 := ⟨by simp [lm0], by simp [lm0], by simp [lm0]⟩
 unfold dcLM
 split
 ·exact h0
 ·rename_i m hm
  split
  ·obtain ⟨h1, h2, h3⟩ := goL_LB L lm0 m 0 hm ⟨by simp [lm0], by simp [lm0], by simp [lm0]⟩
   exact ⟨by simp only; omega, by simp only; omega, by simp only; omega⟩
  ·exact h0
end Go.AM
namespace Go.AM
open Go.RowKit Go.Proofs
set_option linter.unusedSimpArgs false
set_option linter.unusedVariables false
set_option maxHeartbeats 4000000
theorem bbL_app (s t : List (List UInt8)) : bbL (s ++ t) = bbL s ++ bbL t := by simp [bbL]
def OutL (th : Bool) (i0 : Nat) (one : List UInt8) (t : List (List UInt8)) (x : AV) (H : List AObj) : Prop :=
 ∃ id cap cs, x = .arr id 0 t.length cap ∧ H[id]? = some (.cells 27 cs) ∧ cs.length = cap ∧ t.length ≤ cap ∧ AV.tlL cs = true ∧
  (th = true ∧ i0 < t.length → ∃ (q cq : Nat) (z : List UInt8), H[q]? = some (.cells 5 (byL (one ++ z))) ∧ one.length ≤ cq ∧ z.length = cq - one.length ∧ cs.take t.length = (bbL t).set i0 (.arr q 0 one.length cq)) ∧
  (¬ (th = true ∧ i0 < t.length) → cs.take t.length = bbL t)
theorem tlL_app31 (xs ys : List AV) : AV.tlL (xs ++ ys) = (AV.tlL xs && AV.tlL ys) := by
 rw [Bool.eq_iff_iff, Bool.and_eq_true, zm7, zm7, zm7]
 simp only [List.mem_append]
 exact ⟨fun h => ⟨fun x hx => h x (.inl hx), fun x hx => h x (.inr hx)⟩, fun h x hx => hx.elim (h.1 x) (h.2 x)⟩
theorem tlL_sub {xs ys : List AV} (h : AV.tlL xs = true) (hs : ∀ y ∈ ys, y ∈ xs) : AV.tlL ys = true := zm7.2 fun y hy => zm7.1 h y (hs y hy)
theorem tlL_repC {z : AV} (hz : z.tl = true) : ∀ n, AV.tlL (repC n [z]) = true := by
 intro n
 refine zm7.2 fun y hy => ?_
 obtain ⟨j, hj, hy⟩ := List.mem_iff_getElem.1 hy
 have hg := repC_get [z] (by simp) n j y (by rw [List.getElem?_eq_getElem hj, hy])
 simp at hg
 have := List.mem_of_getElem? hg
 simp at this
 rw [this]; exact hz
theorem app_stepL {s s1 : St} {x1 y : AV} {id j cap : Nat} {cs : List AV} (hid : s.h[id]? = some (.cells 27 cs)) (hcl : cs.length = cap) (hj : j ≤ cap) (htl : AV.tlL cs = true) (hyt : y.weak.tl = true) (hq : appQ0 s 27 1 id j cap 1 [y.weak] cs [.lst .nil 1 []] s1 x1) :
  ∃ id' cap' cs' h', x1 = .arr id' 0 (j + 1) cap' ∧ s1 = ⟨s.n, s.fr, h'⟩ ∧ h'[id']? = some (.cells 27 cs') ∧ cs'.length = cap' ∧ j + 1 ≤ cap' ∧ cs'.take (j + 1) = cs.take j ++ [y.weak] ∧
   (∀ (q : Nat) (c : List AV), s.h[q]? = some (AObj.cells 5 c) → h'[q]? = some (AObj.cells 5 c)) ∧ AV.tlL cs' = true := by
 have hidl : id < s.h.length := (List.getElem?_eq_some_iff.1 hid).1
 rcases hq with ⟨h1, rfl, rfl⟩ | ⟨h1, cap', h2, h3, rfl, rfl⟩
 ·refine ⟨id, cap, _, _, rfl, rfl, List.getElem?_set_self hidl, ?_, h1, ?_, fun q c hqc => ?_, ?_⟩
  ·rw [xh9]; exact hcl; simp; omega
  ·rw [Nat.mul_one]
   have hl : (List.take j cs ++ [y.weak]).length = j + 1 := by simp; omega
   unfold ys9
   rw [List.take_append_of_le_length (by omega), List.take_of_length_le (by omega)]
  ·have : id ≠ q := by
    intro e
    subst e
    rw [hid] at hqc
    simp at hqc
   rw [List.getElem?_set_ne this]; exact hqc
  ·unfold ys9
   rw [tlL_app31, tlL_app31]
   simp only [Bool.and_eq_true]
   exact ⟨⟨tlL_sub htl fun y hy => List.mem_of_mem_take hy, by simp [AV.tlL, hyt]⟩, tlL_sub htl fun y hy => List.mem_of_mem_drop hy⟩
 ·refine ⟨s.h.length, cap', cs.take (j * 1) ++ [y.weak] ++ repC (cap' - (j + 1)) [.lst .nil 1 []], _, rfl, rfl, by simp, ?_, h2, ?_, fun q c hqc => ?_, ?_⟩
  ·rw [Nat.mul_one]
   simp [zn8]
   omega
  ·rw [Nat.mul_one]
   have hl : (List.take j cs ++ [y.weak]).length = j + 1 := by simp; omega
   rw [List.take_append_of_le_length (by omega), List.take_of_length_le (by omega)]
  ·rw [List.getElem?_append_left (List.getElem?_eq_some_iff.1 hqc).1]; exact hqc
  ·rw [tlL_app31, tlL_app31]
   simp only [Bool.and_eq_true]
   exact ⟨⟨tlL_sub htl fun y hy => List.mem_of_mem_take hy, by simp [AV.tlL, hyt]⟩, tlL_repC rfl _⟩
theorem OutL.push {th : Bool} {i0 : Nat} {one l : List UInt8} {T : List (List UInt8)} {i id' cap' : Nat} {cs cs' : List AV} {H h' : List AObj} {y : AV}
  (hTl : T.length = i) (hb1 : th = true ∧ i0 < i → ∃ (q cq : Nat) (z : List UInt8), H[q]? = some (AObj.cells 5 (byL (one ++ z))) ∧ one.length ≤ cq ∧ z.length = cq - one.length ∧ cs.take i = (bbL T).set i0 (.arr q 0 one.length cq))
  (hb2 : ¬ (th = true ∧ i0 < i) → cs.take i = bbL T)
  (hid' : h'[id']? = some (.cells 27 cs')) (hcl' : cs'.length = cap') (hj' : i + 1 ≤ cap') (htk : cs'.take (i + 1) = cs.take i ++ [y]) (htl' : AV.tlL cs' = true) (hk : ∀ (q : Nat) (B : List UInt8), H[q]? = some (AObj.cells 5 (byL B)) → h'[q]? = some (AObj.cells 5 (byL B)))
  (hy : (y = .lst .any 1 (byL l) ∧ ¬ (th = true ∧ i0 = i)) ∨ (th = true ∧ i0 = i ∧ ∃ (q cq : Nat) (z : List UInt8), y = .arr q 0 one.length cq ∧ h'[q]? = some (AObj.cells 5 (byL (one ++ z))) ∧ one.length ≤ cq ∧ z.length = cq - one.length)) :
  OutL th i0 one (T ++ [l]) (.arr id' 0 (i + 1) cap') h' := by
 subst hTl
 have hL : (T ++ [l]).length = T.length + 1 := by simp
 refine ⟨id', cap', cs', by rw [hL], hid', hcl', by rw [hL]; exact hj', htl', fun hc => ?_, fun hc => ?_⟩
 ·rw [hL] at hc ⊢
  by_cases hlt : i0 < T.length
  ·obtain ⟨q, cq, rs, k1, k2, k3, k4⟩ := hb1 ⟨hc.1, hlt⟩
   rcases hy with ⟨rfl, _⟩ | ⟨_, he, _⟩
   ·refine ⟨q, cq, rs, hk _ _ k1, k2, k3, ?_⟩
    rw [htk, k4, bbL_app, List.set_append_left _ _ (by simpa using hlt)]
    rfl
   ·omega
  ·have he : i0 = T.length := by omega
   have h2 := hb2 fun h => hlt h.2
   rcases hy with ⟨_, hn⟩ | ⟨_, _, q, cq, rs, rfl, k1, k2, k3⟩
   ·exact absurd ⟨hc.1, he⟩ hn
   ·refine ⟨q, cq, rs, k1, k2, k3, ?_⟩
    rw [htk, h2, bbL_app, he, List.set_append_right _ _ (by simp)]
    simp [bbL]
 ·rw [hL] at hc ⊢
  have h2 := hb2 fun h => hc ⟨h.1, by omega⟩
  rcases hy with ⟨rfl, _⟩ | ⟨h1, he, _⟩
  ·rw [htk, h2, bbL_app]; rfl
  ·exact absurd ⟨h1, by omega⟩ hc
theorem bbL_set (t : List (List UInt8)) (i : Nat) (l : List UInt8) : (bbL t).set i (.lst .any 1 (byL l)) = bbL (t.set i l) := by
 simp [bbL, List.map_set]
theorem chunk_bbL : ∀ (t : List (List UInt8)), chunk false 1 t.length (bbL t) = bbL t
 | [] => rfl
 | x :: t => by
  have ih := chunk_bbL t
  show (AV.lst .any 1 (byL x)) :: chunk false 1 t.length (bbL t) = _
  rw [ih]; rfl
theorem W_fin9 {top : Bool} {kf : Nat} {code : Code} {Q : Exit → St → Prop} {n id cap : Nat} {fr : List (Nat × AV)} {H : List AObj} {cs : List AV} {U : List (List UInt8)} {sl : Nat} (hg : getF fr sl = some (.arr id 0 U.length cap)) (hobj : H[id]? = some (.cells 27 cs)) (hcl : cs.length = cap)
  (htk : cs.take U.length = bbL U) (h : ∀ H', Wt top kf Try.prog code Q ⟨n, putF fr sl (.lst (.tip 27 1) 1 (bbL U)), H'⟩) : Wt top kf Try.prog code Q ⟨n, fr, H⟩ := by
 refine W_tip sl (tk := 1) (ty := 27) (sz := 1) (ag := false) hg (by decide) hobj (by kernel_rfl) (by omega) (.inr rfl) (by omega) (by rw [Nat.mul_one, htk]; simp) (by rw [Nat.mul_one, htk]; simp) ?_
 rw [Nat.mul_one, htk, weakL_bbL, chunk_bbL]
 exact h _
theorem frz_by {H : List AObj} {q n cq : Nat} {B : List UInt8} (hq : H[q]? = some (.cells 5 (byL B))) (hn : n ≤ B.length) : ∃ o h', vl9 Try.prog H 1 q 0 n cq = some (.lst o 1 (byL (B.take n)), h') ∧ h'.length = H.length ∧ (o = .any ∨ o = .tip 5 1) := by
 unfold vl9
 rw [hq]
 simp only [t5]
 rw [if_pos ⟨by omega, .inr trivial, by simpa using hn, by simp, by simp⟩]
 refine ⟨_, _, by rw [weakL_byL, List.drop_zero, vj8 _ _ hn], by simp, ?_⟩
 split
 ·exact .inr rfl
 ·exact .inl rfl
theorem W_finB {top : Bool} {kf : Nat} {code : Code} {Q : Exit → St → Prop} {n id cap q cq i0 : Nat} {fr : List (Nat × AV)} {H : List AObj} {cs : List AV} {t : List (List UInt8)} {k : Nat} {B : List UInt8} {sl : Nat} (hg : getF fr sl = some (.arr id 0 t.length cap)) (hid : H[id]? = some (.cells 27 cs))
  (hq : H[q]? = some (.cells 5 (byL B))) (hcl : cs.length = cap) (hi : i0 < t.length) (hcg : cs[i0]? = some (.arr q 0 k cq)) (htk : cs.take t.length = (bbL t).set i0 (.arr q 0 k cq)) (hk : k ≤ B.length)
  (h : ∀ H', Wt top kf Try.prog code Q ⟨n, putF fr sl (.lst (.tip 27 1) 1 (bbL (t.set i0 (B.take k)))), H'⟩) : Wt top kf Try.prog code Q ⟨n, fr, H⟩ := by
 have hne : id ≠ q := by
  intro e
  subst e
  rw [hid] at hq
  simp at hq
 have hidl : id < H.length := (List.getElem?_eq_some_iff.1 hid).1
 obtain ⟨o, h2, hf, hl, ho⟩ := frz_by (cq := cq) hq hk
 refine W_frzP id i0 (tk := 1) hid hcg hne rfl hf ?_
 have hx : (AV.lst o 1 (byL (B.take k))).plain = .lst .any 1 (byL (B.take k)) := by rcases ho with rfl | rfl <;> rfl
 rw [hx]
 refine W_fin9 (U := t.set i0 (B.take k)) (cs := cs.set i0 (.lst .any 1 (byL (B.take k)))) (sl := sl) (by simpa using hg) (List.getElem?_set_self (by omega)) (by simpa using hcl) ?_ h
 rw [List.length_set, List.take_set, htk, List.set_set, bbL_set]
end Go.AM
