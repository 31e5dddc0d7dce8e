/- Parts of the walk: C31DD C31DE C31DF C31OJ. -/
import Derived.Test.YtlhaljblcimnbaaG11
namespace Go.AM
open Go.RowKit Go.Proofs
set_option linter.unusedSimpArgs false
set_option linter.unusedVariables false
set_option maxHeartbeats 8000000
def zObD : List AV := [.lst .nil 5 [], .lst .nil 3 [], .lst .nil 5 [], .v (.string ⟨#[]⟩)]
def oF (fe ft fr : Fl) (o : OMod) : List AV := [.lst fe 5 (esL o.esd), .lst ft 3 (txL o.txt), .lst fr 5 (rdL o.rld), strB o.entry]
def FlD (fe ft fr : Fl) (o : OMod) : Prop := (fe = .nil ∧ o.esd = [] ∨ fe = .tip 78 129) ∧ (ft = .nil ∧ o.txt = [] ∨ ft = .tip 73 105) ∧ (fr = .nil ∧ o.rld = [] ∨ fr = .tip 80 187)
theorem klD_f {T e a s : Nat} {f : Fl} {p : Prop} {x : List AV} (h : f = .nil ∧ p ∨ f = .tip e a) (hne : a ≠ T) : AV.kill T (.lst f s x) = .lst f s x := by
 rcases h with ⟨rfl, _⟩ | rfl
 ·rfl
 ·rw [klD_tip, if_neg hne]
structure OBd (s : OMod × Int) (n : Nat) : Prop where
 e : s.1.esd.length ≤ 3 * n
 t : s.1.txt.length ≤ n
 r : s.1.rld.length ≤ 7 * n
 n0 : 0 ≤ s.2
 n1 : s.2 ≤ 1 + 3 * n
 ok : OIn s.1
theorem sb_len (b : List UInt8) (a n : Nat) (h : a + n ≤ b.length) : (sbM b a n).length = n := by
 unfold sbM
 rw [List.length_take, List.length_drop]
 omega
theorem decM_len (l : List UInt8) : (decM l).length = l.length := by simp [decM]
theorem nmM_len (l : List UInt8) : (nmM l).length ≤ l.length := by
 unfold nmM trimM
 rw [decM_len, List.length_reverse]
 have := (List.dropWhile_sublist (· == (64 : UInt8)) (l := l.reverse)).length_le
 simpa using this
theorem rdEs_ok (b : List UInt8) (hb : b.length = 80) (base : List Esd) (nx : Int) (P : Esd → Prop) (h0 : ∀ x ∈ base, P x) (hP : ∀ x : Esd, x.name.length ≤ 8 → 0 ≤ x.addr → x.addr ≤ 16777216 → P x) : ∀ k, k ≤ 3 → ∀ x ∈ (rdEs b base nx k).1, P x
 | 0, _, x, hx => h0 x hx
 | k + 1, hk, x, hx => by
  rw [rdEs] at hx
  rcases List.mem_append.1 hx with hx | hx
  ·exact rdEs_ok b hb base nx P h0 hP k (by omega) x hx
  ·simp only [List.mem_singleton] at hx
   subst hx
   obtain ⟨X, hX⟩ : ∃ X, b.drop (16 + 16 * k) = X := ⟨_, rfl⟩
   have hXl : 16 ≤ X.length := by rw [← hX, List.length_drop]; omega
   rw [hX]
   have hn : (nmM (X.take 8)).length ≤ 8 := by
    have := nmM_len (X.take 8)
    rw [List.length_take] at this
    omega
   have hv := valM_lt 3 (sbM X 9 3) (sb_len _ _ _ (by omega))
   have h256 : (256 : Nat) ^ 3 = 16777216 := by decide
   refine hP _ ?_ ?_ ?_
   ·unfold rdE; split; exact hn; split; exact hn; exact hn
   ·unfold rdE; split; (simp only; omega); split; (simp only; omega); (simp only; omega)
   ·unfold rdE; split; (simp only; omega); split; (simp only; omega); (simp only; omega)
theorem OBd.item {s s' : OMod × Int} {n : Nat} {b : List UInt8} {p : Bool} (h : OBd s n) (hb : b.length = 80) (hi : itemD p s b = some s') : OBd s' (n + 1) := by
 obtain ⟨he, ht, hr, hn0, hn1, ⟨oe, ot, orr⟩⟩ := h
 have h256 : (256 : Nat) ^ 3 = 16777216 := by decide
 have hc3 : ∀ v, cntE p v ≤ 3 := fun v => by unfold cntE; split <;> omega
 have hc7 : ∀ v, cntR p v ≤ 7 := fun v => by unfold cntR; split <;> omega
 unfold itemD at hi
 split at hi
 ·obtain ⟨k, hk⟩ : ∃ k, cntE p (valM (sbM b 10 2)) = k := ⟨_, rfl⟩
  have hk3 := hc3 (valM (sbM b 10 2))
  rw [hk] at hi hk3
  have hl := rdEs_len b s.1.esd s.2 k
  have hx := rdEs_nx b s.1.esd s.2 k
  cases hi
  refine ⟨by simp only; omega, by simp only; omega, by simp only; omega, by simp only; omega, by simp only; omega, ⟨?_, ot, orr⟩⟩
  exact rdEs_ok b hb _ _ _ oe (fun x h1 h2 h3 => ⟨by omega, by unfold i64r; omega⟩) k hk3
 split at hi
 ·split at hi
  ·cases hi
  ·cases hi
   refine ⟨by simp only; omega, by simp only [List.length_append, List.length_singleton]; omega, by simp only; omega, by simp only; omega, by simp only; omega, ⟨oe, ?_, orr⟩⟩
   intro x hx
   rcases List.mem_append.1 hx with hx | hx
   ·exact ot x hx
   ·simp only [List.mem_singleton] at hx
    subst hx
    have hv := valM_lt 3 (sbM b 5 3) (sb_len _ _ _ (by omega))
    refine ⟨by unfold i64r; simp only; omega, ?_⟩
    simp only [sbM, List.length_take]
    omega
 split at hi
 ·cases hi
  have h7 := hc7 (valM (sbM b 10 2))
  refine ⟨by simp only; omega, by simp only; omega, by simp only [List.length_append, rdRs, List.length_map, List.length_range]; omega, by simp only; omega, by simp only; omega, ⟨oe, ot, ?_⟩⟩
  intro x hx
  rcases List.mem_append.1 hx with hx | hx
  ·exact orr x hx
  ·obtain ⟨j, hj, rfl⟩ := List.mem_map.1 hx
   have hj := List.mem_range.1 hj
   have hv := valM_lt 3 (sbM (b.drop (16 + 8 * j)) 5 3) (sb_len _ _ _ (by rw [List.length_drop]; omega))
   unfold i64r rdR8
   simp only
   omega
 split at hi
 ·cases hi
  exact ⟨by simp only; omega, by simp only; omega, by simp only; omega, by simp only; omega, by simp only; omega, ⟨oe, ot, orr⟩⟩
 ·cases hi
  exact ⟨by omega, by omega, by omega, by omega, by omega, ⟨oe, ot, orr⟩⟩
theorem egoE_len2 (l : List Esd) : ∀ (f i : Nat), (egoE l f i).length ≤ f
 | 0, i => by simp [egoE]
 | f + 1, i => by
  rw [egoE]
  split
  ·have := egoE_len2 l f (i + 3)
   simp only [List.length_cons]
   omega
  ·simp
theorem egoR_len2 (l : List Rld) : ∀ (f i : Nat), (egoR l f i).length ≤ f
 | 0, i => by simp [egoR]
 | f + 1, i => by
  rw [egoR]
  split
  ·have := egoR_len2 l f (i + 7)
   simp only [List.length_cons]
   omega
  ·simp
theorem txL_app (s t : List Txt) : txL (s ++ t) = txL s ++ txL t := by simp [txL]
theorem rdL_app (s t : List Rld) : rdL (s ++ t) = rdL s ++ rdL t := by simp [rdL]
theorem txL_nil : txL [] = [] := rfl
theorem rdL_nil : rdL [] = [] := rfl
theorem txL_one (x : Txt) : txL [x] = [txA x] := rfl
theorem rdL_one (x : Rld) : rdL [x] = [rdA x] := rfl
theorem bit2 : ∀ n : Fin 256, (BitVec.ofInt 8 (n.val : Int) &&& BitVec.ofInt 8 2).toNat = n.val / 2 % 2 * 2 := by decide +kernel
theorem and2 (n : Nat) (h : n < 256) : bitsA .and .u8 (n : Int) 2 = some (.v (.int .u8 ((n / 2 % 2 * 2 : Nat) : Int))) := by
 have := bit2 ⟨n, h⟩
 simp only at this
 show some (AV.v (.int .u8 (IntKind.u8.wrap ((BitVec.ofInt 8 (n : Int) &&& BitVec.ofInt 8 2).toNat : Nat)))) = _
 rw [this, wu8 (by omega) (by omega)]
theorem shr2 (v : Nat) : ((v : Int).fdiv (2 ^ min 2 IntKind.u8.bits)) = ((v / 4 : Nat) : Int) := by
 have : min 2 IntKind.u8.bits = 2 := by decide
 rw [this, Int.fdiv_eq_ediv_of_nonneg _ (by omega)]
 omega
theorem rdRs_succ (b : List UInt8) (n : Nat) : rdRs b (n + 1) = rdRs b n ++ [rdR8 (b.drop (16 + 8 * n))] := by simp [rdRs, List.range_succ]
theorem nm_eq (a b : List UInt8) : (a == b) = decide (a = b) := by rw [Bool.eq_iff_iff]; simp
theorem yf7 (L : List (List UInt8)) (hL : L.length ≤ 1000000) :
  Sound Try.prog 27 [.lst .any 1 (bbL L)] (.tup [obA (dcD true L).1, .v (.int .i64 (if (dcD true L).2 = true then 0 else 310))]) := by
 refine zb8 Try.func27 rfl (by decide +kernel) (by simp [Try.f27]) rfl rfl (rs := [.cell 2 26, .tmp 3]) rfl ?_
 rw [show Try.f27.ntmps = 118 from rfl]
 refine yt9 [0, 2] (by simp; rfl) ?_
 refine yt9 [0, 2, 4] (by simp; rfl) ?_
 refine yt9 [0, 2, 4, 5] (by simp; rfl) ?_
 refine ws9 (fun σ => ∃ (o : OMod) (nx : Int) (fe ft fr : Fl), goD true L (om0, 1) = some (o, nx) ∧ OBd (o, nx) L.length ∧ FlD fe ft fr o ∧ σ = ⟨118, [(0, .lst .any 1 (bbL L)), (2, .loc 0 0), (4, .loc 1 0), (5, .v (.int .i64 nx))], [.cells 26 zObD, .cells 26 (oF fe ft fr o)]⟩) ?_ ?_
 ·refine yt9 [0, 2, 4, 5, 13, 14, 15] (by simp; rfl) ?_
  refine yf9 ?_
  refine zn9 (fun k s => ∃ (i : Nat) (o : OMod) (nx : Int) (fe ft fr : Fl), k = L.length - i ∧ i ≤ L.length ∧ goD true (L.drop i) (o, nx) = goD true L (om0, 1) ∧ OBd (o, nx) i ∧ FlD fe ft fr o ∧
   s = ⟨118, [(0, .lst .any 1 (bbL L)), (2, .loc 0 0), (4, .loc 1 0), (5, .v (.int .i64 nx)), (13, .lst .any 1 (bbL L)), (14, .v (.int .i64 (L.length : Nat))), (15, .v (.int .i64 (i : Nat)))], [.cells 26 zObD, .cells 26 (oF fe ft fr o)]⟩) (k := L.length) ⟨0, om0, 1, .nil, .nil, .nil, rfl, by omega, rfl, ⟨by simp [om0], by simp [om0], by simp [om0], by omega, by simp, ⟨by simp [om0], by simp [om0], by simp [om0]⟩⟩, ⟨.inl ⟨rfl, rfl⟩, .inl ⟨rfl, rfl⟩, .inl ⟨rfl, rfl⟩⟩, by simp [oF, om0, esL, txL, rdL, strB, zObD]⟩ ?_
  rintro k s ⟨i, o, nx, fe, ft, fr, rfl, hi, hgo, hB, hfl, rfl⟩
  by_cases c : i < L.length
  rotate_left
  ·refine yt9 [0, 2, 4, 5, 16] (by simp [c]; rfl) ?_
   refine yk9 ?_
   refine yd9 rfl (fun h => by simp at h) (fun h => ?_)
   refine zt9 [0, 2, 4, 5] ?_
   refine zh9 ?_
   have hiL : i = L.length := by omega
   refine ⟨o, nx, fe, ft, fr, ?_, ?_, hfl, by simp⟩
   ·rw [← hgo, hiL, List.drop_length, goD]
   ·rw [hiL] at hB; exact hB
  have ci : (i : Int) < L.length := by omega
  obtain ⟨b, hb⟩ : ∃ b, L[i]? = some b := ⟨_, List.getElem?_eq_getElem c⟩
  have hb2 : L[i]'c = b := by rw [List.getElem?_eq_getElem c] at hb; exact Option.some.inj hb
  have hdr : L.drop i = b :: L.drop (i + 1) := by rw [List.drop_eq_getElem_cons c, hb2]
  have wi := w64 (n := (i : Int) + 1) (by omega) (by omega)
  rw [hdr, goD] at hgo
  refine yt9 [0, 2, 4, 5, 13, 14, 15, 16] (by simp [c]; rfl) ?_
  refine yk9 ?_
  refine yd9 rfl (fun h => ?_) (fun h => by simp at h)
  refine yh9 ?_
  refine yk9 ?_
  refine yf9 ?_
  refine yt9 [0, 2, 4, 5, 13, 14, 15, 7] (by simp [c, ci, hb2]; rfl) ?_
  refine yk9 ?_
  by_cases c80 : b.length = 80
  rotate_left
  ·have c80i : ¬ (b.length : Int) = 80 := by omega
   have c80b : ((b.length : Int) != 80) = true := by simpa using c80i
   have c80c : ((b.length : Int) == 80) = false := by simpa using c80i
   rw [if_neg c80] at hgo
   refine W_cT [0, 2, 4, 5, 13, 14, 15, 7, 21] (by simp [c80, c80i, c80b, c80c]; rfl) rfl ?_
   refine yt9 [2, 3] (by simp [ys9]; rfl) ?_
   refine zr9 ?_
   repeat (first | refine yl9 ?_ | refine yc9 ?_)
   have hd : dcD true L = (om0, false) := by rw [dcD, ← hgo]
   rw [hd]
   exact yc7 (r0 := .tup _) ⟨.inr rfl, _, _, by simp [zObD, ys9]; rfl, by simp; exact ⟨rfl, rfl⟩, by simp [AV.rf, AV.rfL]⟩ (by simp [AV.plain, AV.plainL, om0, esL, txL, rdL, strB])
  have c80i : (b.length : Int) = 80 := by omega
  rw [if_pos c80] at hgo
  have h80 : ∀ n : Nat, n ≤ 80 → n ≤ b.length := fun n h => by omega
  obtain ⟨A, hA⟩ : ∃ A, sbM b 1 3 = A := ⟨_, rfl⟩
  have eA : (List.take 4 (byL b)).tail = byL A := by rw [← hA, sbM, ← List.drop_one, ← xw9, ← xp9, List.drop_take]
  have hdc := yd7 A (by rw [← hA, sb_len _ _ _ (by omega)]; omega)
  obtain ⟨nm, hnm⟩ : ∃ s, decM A = s := ⟨_, rfl⟩
  rw [hnm] at hdc
  obtain ⟨A2, hA2⟩ : ∃ A, sbM b 10 2 = A := ⟨_, rfl⟩
  have eA2 : List.drop 10 (List.take 12 (byL b)) = byL A2 := by rw [← hA2, sbM, ← xw9, ← xp9, List.drop_take]
  have hv2 := wd9 A2 (by rw [← hA2, sb_len _ _ _ (by omega)]; omega)
  have hVl := valM_lt 2 A2 (by rw [← hA2, sb_len _ _ _ (by omega)])
  have hp2 : (256 : Nat) ^ 2 = 65536 := by decide
  obtain ⟨V, hV⟩ : ∃ V, valM A2 = V := ⟨_, rfl⟩
  rw [hV] at hv2 hVl
  have hitem : itemD true (o, nx) b = if nm = xb8 then some (⟨(rdEs b o.esd nx (cntE true V)).1, o.txt, o.rld, o.entry⟩, (rdEs b o.esd nx (cntE true V)).2)
    else if nm = wt8 then some (⟨o.esd, o.txt ++ [⟨valM (sbM b 14 2), valM (sbM b 5 3), sbM b 16 (min V 56)⟩], o.rld, o.entry⟩, nx)
    else if nm = vr8 then some (⟨o.esd, o.txt, o.rld ++ rdRs b (cntR true V), o.entry⟩, nx)
    else if nm = vt8 then some (⟨o.esd, o.txt, o.rld, nmM (sbM b 16 8)⟩, nx) else some (o, nx) := by
   unfold itemD
   rw [hA, hnm, hA2, hV]
   simp
  have hBn : ∀ s', itemD true (o, nx) b = some s' → OBd s' (i + 1) := fun s' h => hB.item c80 h
  obtain ⟨hB1, hB2, hB3, hB4, hB5, hB6⟩ := hB
  simp only at hB1 hB2 hB3 hB4 hB5
  refine W_cF [0, 2, 4, 5, 13, 14, 15, 7, 21] (by simp [c80, c80i]; rfl) rfl ?_
  refine yh9 ?_
  refine W_rK [0, 2, 4, 5, 13, 14, 15, 7, 25] ?_
  refine yq9 2 (by simp [c80, c80i, h80]; rfl) rfl ?_
  refine yj9 (by simp) (by simp [eA]; rfl) hdc (by simp; rfl) ?_
  refine yr9 (by simp [strB]; rfl) ?_
  refine yf9 ?_
  by_cases t1 : nm = xb8
  ·have hit := hitem
   rw [if_pos t1] at hit
   have hBs := hBn _ hit
   rw [hit] at hgo
   simp only at hgo
   have t1b : (nm == [69, 83, 68]) = true := by rw [nm_eq]; simpa [xb8] using t1
   refine W_cT [0, 2, 4, 5, 13, 14, 15, 7, 25, 26] (by simp [t1b]; rfl) rfl ?_
   have hcall := esd62_callW b c80 nx hB4 (by omega) o.esd (by omega) fe hfl.1 zObD (.lst ft 3 (txL o.txt)) (.lst fr 5 (rdL o.rld)) (strB o.entry) (klD_f hfl.2.1 (by decide)) (klD_f hfl.2.2 (by decide)) rfl rfl (by simp [AV.under]) (by simp [AV.under]) rfl rfl
   rw [hA2, hV] at hcall
   refine W_rE [0, 2, 4, 5, 13, 14, 15] ?_
   refine yq9 2 (by simp; rfl) rfl ?_
   refine zg9 (f := 62) (args := [.loc 1 0, .lst .any 1 (byL b), .v (.int .i64 nx)]) (by simp) (by first | (simp; done) | (simp; rfl)) (hcall.mono ?_)
   rintro r h' ⟨fe', rfl, hfe', rfl⟩
   refine ⟨_, by simp; rfl, ?_⟩
   refine yr9 (by simp; rfl) ?_
   refine zs9 [0, 2, 4, 5, 13, 14, 15] (by simp [wi]; rfl) ?_
   exact ⟨_, by omega, i + 1, _, _, fe', ft, fr, rfl, by omega, hgo, hBs, ⟨hfe', hfl.2.1, hfl.2.2⟩, by simp [oF]⟩
  have t1b : (nm == [69, 83, 68]) = false := by rw [nm_eq]; simpa [xb8] using t1
  rw [if_neg t1] at hitem
  refine W_cF [0, 2, 4, 5, 13, 14, 15, 7, 25, 26] (by simp [t1b]; rfl) rfl ?_
  by_cases t2 : nm = wt8
  ·have hit := hitem
   rw [if_pos t2] at hit
   have hBs := hBn _ hit
   rw [hit] at hgo
   simp only at hgo
   have t2b : (nm == [84, 88, 84]) = true := by rw [nm_eq]; simpa [wt8] using t2
   refine W_cT [0, 2, 4, 5, 13, 14, 15, 7, 31] (by simp [t2b]; rfl) rfl ?_
   obtain ⟨m, hm⟩ : ∃ m, min V 56 = m := ⟨_, rfl⟩
   have hm56 : m ≤ 56 := by omega
   have hmin : (if (56 : Int) < (V : Int) then (56 : Int) else (V : Int)) = (m : Nat) := by split <;> omega
   rw [hm] at hgo hBs
   refine W_rK [0, 2, 4, 5, 13, 14, 15, 7, 8] ?_
   refine yq9 2 (by simp [c80, c80i, h80, eA2]; rfl) rfl ?_
   refine yj9 (by simp) (by first | (simp; done) | (simp; rfl)) hv2 (by simp; rfl) ?_
   refine yr9 (by simp [hmin]; rfl) ?_
   obtain ⟨B1, hB1'⟩ : ∃ A, sbM b 14 2 = A := ⟨_, rfl⟩
   have eB1 : List.drop 14 (List.take 16 (byL b)) = byL B1 := by rw [← hB1', sbM, ← xw9, ← xp9, List.drop_take]
   have hvB1 := wd9 B1 (by rw [← hB1', sb_len _ _ _ (by omega)]; omega)
   obtain ⟨V1, hV1⟩ : ∃ V, valM B1 = V := ⟨_, rfl⟩
   obtain ⟨B2, hB2'⟩ : ∃ A, sbM b 5 3 = A := ⟨_, rfl⟩
   have eB2 : List.drop 5 (List.take 8 (byL b)) = byL B2 := by rw [← hB2', sbM, ← xw9, ← xp9, List.drop_take]
   have hvB2 := wd9 B2 (by rw [← hB2', sb_len _ _ _ (by omega)]; omega)
   obtain ⟨V2, hV2⟩ : ∃ V, valM B2 = V := ⟨_, rfl⟩
   obtain ⟨D, hD⟩ : ∃ D, sbM b 16 m = D := ⟨_, rfl⟩
   have eD : List.drop 16 (List.take (16 + m) (byL b)) = byL D := by rw [← hD, sbM, ← xw9, ← xp9, List.drop_take, Nat.add_sub_cancel_left]
   have hcl := clone64p D (by rw [← hD, sb_len _ _ _ (by omega)]; omega)
   have wm := w64 (n := 16 + (m : Int)) (by omega) (by omega)
   have hq : 16 + m ≤ b.length := by omega
   have hqi : 16 + (m : Int) ≤ b.length := by omega
   have hq0 : (0 : Int) ≤ 16 + (m : Int) := by omega
   have hq1 : (16 : Int) ≤ 16 + (m : Int) := by omega
   have hq2 : 16 + (m : Int) ≤ 80 := by omega
   have hq3 : 16 + m ≤ 80 := by omega
   have hq4 : 16 ≤ 16 + m := by omega
   have hqt : (16 + (m : Int)).toNat = 16 + m := by omega
   have hl0 : ∀ q : Int, q ≤ 80 → q ≤ b.length := fun q h => by omega
   rw [hB1', hV1, hB2', hV2, hD] at hgo hBs
   rw [hV1] at hvB1
   rw [hV2] at hvB2
   have hby : (o.txt.length + 1) * 40 ≤ 140737488355328 := by omega
   have hk1 : ∀ s x, AV.kill 105 (.lst fe s x) = .lst fe s x := fun s x => klD_f hfl.1 (by decide)
   have hk2 : ∀ s x, AV.kill 105 (.lst fr s x) = .lst fr s x := fun s x => klD_f hfl.2.2 (by decide)
   have hk3 : AV.kill 105 (strB o.entry) = strB o.entry := rfl
   have hsn : txL (o.txt ++ [⟨V1, V2, D⟩]) = txL o.txt ++ [txA ⟨V1, V2, D⟩] := by rw [txL_app, txL_one]
   obtain ⟨es, txt, rld, en⟩ := o
   simp only at hfl hsn hby hk3 hgo hBs hB1 hB2 hB3 ⊢
   rcases hfl.2.1 with ⟨rfl, ht0⟩ | rfl
   ·subst ht0
    refine vh9 [0, 2, 4, 5, 13, 14, 15] mx (by decide +kernel) ?_
    refine yw9 4 (by simp [c80, c80i, h80, eB1, oF, txL_nil]; rfl) rfl ?_
    refine yb9 (by simp) (by first | (simp; done) | (simp; rfl)) hvB1 (by simp; rfl) ?_
    refine yw9 2 (by simp [c80, c80i, h80, eB2]; rfl) rfl ?_
    refine yb9 (by simp) (by first | (simp; done) | (simp; rfl)) hvB2 (by simp; rfl) ?_
    refine yw9 4 (by simp [c80, c80i, h80, hl0, wm, hq, hqi, hq0, hq1, hq2, hq3, hq4, hqt, eD]; rfl) rfl ?_
    refine yb9 (by simp) (by first | (simp; done) | (simp; rfl)) hcl (by simp; rfl) ?_
    refine yv9 (by simp [hby, ys9, -AV.kill, klD_v, klD_loc, klD_any, klD_nil, klD_tip, klD_agg, hk1, hk2, hk3]; rfl) ?_
    refine zs9 [0, 2, 4, 5, 13, 14, 15] (by simp [wi]; rfl) ?_
    exact ⟨_, by omega, i + 1, _, _, fe, .tip 73 105, fr, rfl, by omega, hgo, hBs, ⟨hfl.1, .inr rfl, hfl.2.2⟩, by simp [oF, txL, ys9, strB, zObD, -AV.kill, klD_v, klD_loc, klD_any, klD_nil, klD_tip, klD_agg, hk1, hk2, hk3]⟩
   ·refine vh9 [0, 2, 4, 5, 13, 14, 15] mx (by decide +kernel) ?_
    refine yw9 4 (by simp [c80, c80i, h80, eB1, oF]; rfl) rfl ?_
    refine yb9 (by simp) (by first | (simp; done) | (simp; rfl)) hvB1 (by simp; rfl) ?_
    refine yw9 2 (by simp [c80, c80i, h80, eB2]; rfl) rfl ?_
    refine yb9 (by simp) (by first | (simp; done) | (simp; rfl)) hvB2 (by simp; rfl) ?_
    refine yw9 4 (by simp [c80, c80i, h80, hl0, wm, hq, hqi, hq0, hq1, hq2, hq3, hq4, hqt, eD]; rfl) rfl ?_
    refine yb9 (by simp) (by first | (simp; done) | (simp; rfl)) hcl (by simp; rfl) ?_
    refine yv9 (by simp [hby, ys9, -AV.kill, klD_v, klD_loc, klD_any, klD_nil, klD_tip, klD_agg, hk1, hk2, hk3]; rfl) ?_
    refine zs9 [0, 2, 4, 5, 13, 14, 15] (by simp [wi]; rfl) ?_
    exact ⟨_, by omega, i + 1, _, _, fe, .tip 73 105, fr, rfl, by omega, hgo, hBs, ⟨hfl.1, .inr rfl, hfl.2.2⟩, by simp [oF, hsn, ys9, strB, zObD, -AV.kill, klD_v, klD_loc, klD_any, klD_nil, klD_tip, klD_agg, hk1, hk2, hk3]⟩
  have t2b : (nm == [84, 88, 84]) = false := by rw [nm_eq]; simpa [wt8] using t2
  rw [if_neg t2] at hitem
  refine W_cF [0, 2, 4, 5, 13, 14, 15, 7, 25, 31] (by simp [t2b]; rfl) rfl ?_
  by_cases t3 : nm = vr8
  ·have hit := hitem
   rw [if_pos t3] at hit
   have hBs := hBn _ hit
   rw [hit] at hgo
   simp only at hgo
   have t3b : (nm == [82, 76, 68]) = true := by rw [nm_eq]; simpa [vr8] using t3
   refine W_cT [0, 2, 4, 5, 13, 14, 15, 7, 54] (by simp [t3b]; rfl) rfl ?_
   obtain ⟨n, hn⟩ : ∃ n, cntR true V = n := ⟨_, rfl⟩
   have hn7 : n ≤ 7 := by rw [← hn]; unfold cntR; split <;> omega
   have hdv : (V : Int).tdiv 8 = ((V / 8 : Nat) : Int) := rfl
   have wq := w64 (n := ((V / 8 : Nat) : Int)) (by omega) (by omega)
   have hmin : (if ((V / 8 : Nat) : Int) < 7 then ((V / 8 : Nat) : Int) else (7 : Int)) = (n : Nat) := by
    rw [← hn, cntR]
    simp only [if_pos]
    split <;> omega
   rw [hn] at hgo hBs
   refine W_rK [0, 2, 4, 5, 13, 14, 15, 7, 60, 61] ?_
   refine yq9 2 (by simp [c80, c80i, h80, eA2]; rfl) rfl ?_
   refine yj9 (by simp) (by first | (simp; done) | (simp; rfl)) hv2 (by simp; rfl) ?_
   refine yr9 (by simp [hdv, wq, hmin, -Int.natCast_ediv]; rfl) ?_
   have hk1 : ∀ s x, AV.kill 187 (.lst fe s x) = .lst fe s x := fun s x => klD_f hfl.1 (by decide)
   have hk2 : ∀ s x, AV.kill 187 (.lst ft s x) = .lst ft s x := fun s x => klD_f hfl.2.1 (by decide)
   have hk3 : AV.kill 187 (strB o.entry) = strB o.entry := rfl
   refine yf9 ?_
   refine zn9 (fun k s => ∃ (j : Nat) (gs : Fl), k = n - j ∧ j ≤ n ∧ (gs = .nil ∧ o.rld ++ rdRs b j = [] ∨ gs = .tip 80 187) ∧
    s = ⟨118, [(0, .lst .any 1 (bbL L)), (2, .loc 0 0), (4, .loc 1 0), (5, .v (.int .i64 nx)), (13, .lst .any 1 (bbL L)), (14, .v (.int .i64 (L.length : Nat))), (15, .v (.int .i64 (i : Nat))), (7, .lst .any 1 (byL b)), (60, .v (.int .i64 (n : Nat))), (61, .v (.int .i64 (j : Nat)))], [.cells 26 zObD, .cells 26 [.lst fe 5 (esL o.esd), .lst ft 3 (txL o.txt), .lst gs 5 (rdL (o.rld ++ rdRs b j)), strB o.entry]]⟩) (k := n) ⟨0, fr, rfl, by omega, by simpa [rdRs] using hfl.2.2, by simp [oF, rdRs]⟩ ?_
   rintro k s ⟨j, gs, rfl, hj, hgs, rfl⟩
   by_cases c' : j < n
   rotate_left
   ·have hjn : j = n := by omega
    subst hjn
    refine yt9 [0, 2, 4, 5, 13, 14, 15, 62] (by simp; rfl) ?_
    refine yk9 ?_
    refine yd9 rfl (fun h => by simp at h) (fun h => ?_)
    refine zh9 ?_
    refine zs9 [0, 2, 4, 5, 13, 14, 15] (by simp [wi]; rfl) ?_
    exact ⟨_, by omega, i + 1, _, _, fe, ft, gs, rfl, by omega, hgo, hBs, ⟨hfl.1, hfl.2.1, hgs⟩, by simp [oF]⟩
   have cj : (j : Int) < n := by omega
   obtain ⟨R, hR⟩ : ∃ R, o.rld ++ rdRs b j = R := ⟨_, rfl⟩
   have hRl : R.length ≤ 100000000 := by rw [← hR]; simp [rdRs]; omega
   obtain ⟨X, hX⟩ : ∃ X, b.drop (16 + 8 * j) = X := ⟨_, rfl⟩
   have hXl : 8 ≤ X.length := by rw [← hX, List.length_drop]; omega
   have hXi : (8 : Int) ≤ X.length := by omega
   have eX : List.drop (16 + 8 * j) (byL b) = byL X := by rw [← hX, ← xp9]
   have hnext : o.rld ++ rdRs b (j + 1) = R ++ [rdR8 X] := by rw [rdRs_succ, ← List.append_assoc, hR, hX]
   have wm := w64 (n := 8 * (j : Int)) (by omega) (by omega)
   have wa := w64 (n := 16 + 8 * (j : Int)) (by omega) (by omega)
   have hq : 16 + 8 * j ≤ b.length := by omega
   have hqi : 16 + 8 * (j : Int) ≤ b.length := by omega
   have hqt : (16 + 8 * (j : Int)).toNat = 16 + 8 * j := by omega
   have hq0 : (0 : Int) ≤ 16 + 8 * (j : Int) := by omega
   have hq2 : 16 + 8 * (j : Int) ≤ 80 := by omega
   have hq3 : 16 + 8 * j ≤ 80 := by omega
   have hx2 : 2 ≤ X.length := by omega
   have hx2i : (2 : Int) ≤ X.length := by omega
   have hx4 : 4 ≤ X.length := by omega
   have hx4i : (4 : Int) ≤ X.length := by omega
   have hx4' : 4 < X.length := by omega
   have hx4'i : (4 : Int) < X.length := by omega
   obtain ⟨B1, hB1'⟩ : ∃ A, X.take 2 = A := ⟨_, rfl⟩
   have eB1 : List.take 2 (byL X) = byL B1 := by rw [← hB1', ← xw9]
   have hvB1 := wd9 B1 (by rw [← hB1', List.length_take]; omega)
   obtain ⟨V1, hV1⟩ : ∃ V, valM B1 = V := ⟨_, rfl⟩
   obtain ⟨B2, hB2'⟩ : ∃ A, sbM X 2 2 = A := ⟨_, rfl⟩
   have eB2 : List.drop 2 (List.take 4 (byL X)) = byL B2 := by rw [← hB2', sbM, ← xw9, ← xp9, List.drop_take]
   have hvB2 := wd9 B2 (by rw [← hB2', sb_len _ _ _ (by omega)]; omega)
   obtain ⟨V2, hV2⟩ : ∃ V, valM B2 = V := ⟨_, rfl⟩
   obtain ⟨B3, hB3'⟩ : ∃ A, sbM X 5 3 = A := ⟨_, rfl⟩
   have eB3 : List.drop 5 (List.take 8 (byL X)) = byL B3 := by rw [← hB3', sbM, ← xw9, ← xp9, List.drop_take]
   have hvB3 := wd9 B3 (by rw [← hB3', sb_len _ _ _ (by omega)]; omega)
   obtain ⟨V3, hV3⟩ : ∃ V, valM B3 = V := ⟨_, rfl⟩
   rw [hV1] at hvB1
   rw [hV2] at hvB2
   rw [hV3] at hvB3
   obtain ⟨x, hx⟩ : ∃ x, X[4]? = some x := ⟨_, List.getElem?_eq_getElem hx4'⟩
   have hx2' : X[4]'hx4' = x := by rw [List.getElem?_eq_getElem hx4'] at hx; exact Option.some.inj hx
   have hxd : X.getD 4 0 = x := by rw [List.getD_eq_getElem?_getD, hx]; rfl
   have hxl := x.toNat_lt
   obtain ⟨K, hK⟩ : ∃ K, x.toNat = K := ⟨_, rfl⟩
   rw [hK] at hxl
   have hand := and2 K (by omega)
   have hsh := shr2 K
   obtain ⟨Y, hY⟩ : ∃ Y, K / 4 = Y := ⟨_, rfl⟩
   obtain ⟨Z, hZ⟩ : ∃ Z, K / 2 % 2 * 2 = Z := ⟨_, rfl⟩
   rw [hZ] at hand
   rw [hY] at hsh
   have wY := w64 (n := (Y : Int)) (by omega) (by omega)
   have wY0 := wu8 (n := (Y : Int)) (by omega) (by omega)
   have wY1 := w64 (n := (Y : Int) + 1) (by omega) (by omega)
   have hz1 : ((Z : Int) != 0) = decide (K / 2 % 2 = 1) := by
    rw [Bool.eq_iff_iff]
    simp only [bne_iff_ne, ne_eq, decide_eq_true_eq]
    omega
   have hz2 : (!((Z : Int) == 0)) = decide (K / 2 % 2 = 1) := hz1
   obtain ⟨ng, hng⟩ : ∃ g, decide (K / 2 % 2 = 1) = g := ⟨_, rfl⟩
   rw [hng] at hz1 hz2
   have hrs : rdR8 X = ⟨V2, V1, V3, (Y : Int) + 1, ng⟩ := by rw [rdR8, hB1', hV1, hB2', hV2, hB3', hV3, hxd, hK, hY, hng]; rfl
   have hby : (R.length + 1) * 40 ≤ 140737488355328 := by omega
   have hsn : rdL (R ++ [rdR8 X]) = rdL R ++ [rdA (rdR8 X)] := by rw [rdL_app, rdL_one]
   rw [hrs] at hsn hnext
   have wj := w64 (n := (j : Int) + 1) (by omega) (by omega)
   rw [hR] at hgs ⊢
   refine yt9 [0, 2, 4, 5, 13, 14, 15, 7, 60, 61, 62] (by simp [c']; rfl) ?_
   refine yk9 ?_
   refine yd9 rfl (fun h => ?_) (fun h => by simp at h)
   refine yh9 ?_
   refine yk9 ?_
   refine yf9 ?_
   refine yt9 [0, 2, 4, 5, 13, 14, 15, 7, 60, 61, 9] (by simp; rfl) ?_
   refine yt9 [0, 2, 4, 5, 13, 14, 15, 7, 60, 61, 10] (by simp [wm, wa, c80, hq, hqi, hqt, hq0, hq2, hq3, eX]; rfl) ?_
   rcases hgs with ⟨rfl, hr0⟩ | rfl
   ·subst hr0
    refine vh9 [0, 2, 4, 5, 13, 14, 15, 7, 60, 61] mx (by decide +kernel) ?_
    refine yw9 4 (by simp [hx2, hx2i, eB1, rdL_nil]; rfl) rfl ?_
    refine yb9 (by simp) (by first | (simp; done) | (simp; rfl)) hvB1 (by simp; rfl) ?_
    refine yw9 2 (by simp [hx4, hx4i, eB2]; rfl) rfl ?_
    refine yb9 (by simp) (by first | (simp; done) | (simp; rfl)) hvB2 (by simp; rfl) ?_
    refine yw9 6 (by simp [hx4', hx4'i, hx2', hK, hand, hsh, wY, wY0, wY1, hz1, hz2, -Int.natCast_ediv]; rfl) rfl ?_
    refine yw9 7 (by simp [hx4', hx4'i, hx2', hK, hand, hsh, wY, wY0, wY1, hz1, hz2, hXl, hXi, eB3, -Int.natCast_ediv]; rfl) rfl ?_
    refine yb9 (by simp) (by first | (simp; done) | (simp; rfl)) hvB3 (by simp; rfl) ?_
    refine yv9 (by simp [hby, ys9, -AV.kill, klD_v, klD_loc, klD_any, klD_nil, klD_tip, klD_agg, hk1, hk2, hk3]; rfl) ?_
    refine zs9 [0, 2, 4, 5, 13, 14, 15, 7, 60, 61] (by simp [wj]; rfl) ?_
    exact ⟨_, by omega, j + 1, .tip 80 187, rfl, by omega, .inr rfl, by rw [hnext]; simp [rdL, hsn, ys9, strB, zObD, -AV.kill, klD_v, klD_loc, klD_any, klD_nil, klD_tip, klD_agg, hk1, hk2, hk3]⟩
   ·refine vh9 [0, 2, 4, 5, 13, 14, 15, 7, 60, 61] mx (by decide +kernel) ?_
    refine yw9 4 (by simp [hx2, hx2i, eB1]; rfl) rfl ?_
    refine yb9 (by simp) (by first | (simp; done) | (simp; rfl)) hvB1 (by simp; rfl) ?_
    refine yw9 2 (by simp [hx4, hx4i, eB2]; rfl) rfl ?_
    refine yb9 (by simp) (by first | (simp; done) | (simp; rfl)) hvB2 (by simp; rfl) ?_
    refine yw9 6 (by simp [hx4', hx4'i, hx2', hK, hand, hsh, wY, wY0, wY1, hz1, hz2, -Int.natCast_ediv]; rfl) rfl ?_
    refine yw9 7 (by simp [hx4', hx4'i, hx2', hK, hand, hsh, wY, wY0, wY1, hz1, hz2, hXl, hXi, eB3, -Int.natCast_ediv]; rfl) rfl ?_
    refine yb9 (by simp) (by first | (simp; done) | (simp; rfl)) hvB3 (by simp; rfl) ?_
    refine yv9 (by simp [hby, ys9, -AV.kill, klD_v, klD_loc, klD_any, klD_nil, klD_tip, klD_agg, hk1, hk2, hk3]; rfl) ?_
    refine zs9 [0, 2, 4, 5, 13, 14, 15, 7, 60, 61] (by simp [wj]; rfl) ?_
    exact ⟨_, by omega, j + 1, .tip 80 187, rfl, by omega, .inr rfl, by rw [hnext]; simp [hsn, ys9, strB, zObD, -AV.kill, klD_v, klD_loc, klD_any, klD_nil, klD_tip, klD_agg, hk1, hk2, hk3]⟩
  have t3b : (nm == [82, 76, 68]) = false := by rw [nm_eq]; simpa [vr8] using t3
  rw [if_neg t3] at hitem
  refine W_cF [0, 2, 4, 5, 13, 14, 15, 7, 25, 54] (by simp [t3b]; rfl) rfl ?_
  by_cases t4 : nm = vt8
  ·have hit := hitem
   rw [if_pos t4] at hit
   have hBs := hBn _ hit
   rw [hit] at hgo
   simp only at hgo
   have t4b : (nm == [69, 78, 68]) = true := by rw [nm_eq]; simpa [vt8] using t4
   obtain ⟨D, hD⟩ : ∃ D, sbM b 16 8 = D := ⟨_, rfl⟩
   have eD : List.drop 16 (List.take 24 (byL b)) = byL D := by rw [← hD, sbM, ← xw9, ← xp9, List.drop_take]
   have htr := trim_sound D (by rw [← hD, sb_len _ _ _ (by omega)]; omega)
   rw [hD] at hgo hBs
   refine W_cT [0, 2, 4, 5, 13, 14, 15, 7, 96] (by simp [t4b]; rfl) rfl ?_
   refine W_rE [0, 2, 4, 5, 13, 14, 15] ?_
   refine yq9 2 (by simp [c80, c80i, h80, eD]; rfl) rfl ?_
   refine yj9 (by simp) (by first | (simp; done) | (simp; rfl)) htr (by simp; rfl) ?_
   refine yr9 (by simp [oF, ys9]; rfl) ?_
   refine zs9 [0, 2, 4, 5, 13, 14, 15] (by simp [wi]; rfl) ?_
   exact ⟨_, by omega, i + 1, _, _, fe, ft, fr, rfl, by omega, hgo, hBs, ⟨hfl.1, hfl.2.1, hfl.2.2⟩, by simp [oF, nmM, strB]⟩
  have t4b : (nm == [69, 78, 68]) = false := by rw [nm_eq]; simpa [vt8] using t4
  rw [if_neg t4] at hitem
  have hBs := hBn _ hitem
  rw [hitem] at hgo
  simp only at hgo
  refine W_cF [0, 2, 4, 5, 13, 14, 15, 7, 96] (by simp [t4b]; rfl) rfl ?_
  refine yh9 ?_
  refine zs9 [0, 2, 4, 5, 13, 14, 15] (by simp [wi]; rfl) ?_
  exact ⟨_, by omega, i + 1, o, nx, fe, ft, fr, rfl, by omega, hgo, hBs, hfl, by simp⟩
 ·rintro σ ⟨o, nx, fe, ft, fr, hgo, hB, hfl, rfl⟩
  have hen := encO_sound o hB.ok
  refine yk9 ?_
  by_cases hc : chkM o = true
  ·rw [encOR, if_pos hc] at hen
   refine W_rK [0, 2, 4, 11, 12] ?_
   refine yq9 1 (by simp [oF]; rfl) rfl ?_
   refine yj9 (by simp) (by simp [strB]; rfl) hen (by simp; rfl) ?_
   refine yr9 (by simp; rfl) ?_
   have hO := chkM_ok hc
   have hel : (encO o).length ≤ 100000000 := by
    have h1 := egoE_len2 o.esd o.esd.length 0
    have h2 := egoR_len2 o.rld o.rld.length 0
    have h3 := hO.l1
    have h4 := hO.l2
    have h5 := hO.l3
    unfold encO
    simp only [List.length_append, List.length_map, List.length_singleton]
    omega
   have hsm := same66_sound (encO o) L hel
   refine W_rK [2, 4, 115] ?_
   refine yq9 5 (by simp; rfl) rfl ?_
   refine yj9 (by simp) (by first | (simp; done) | (simp; rfl)) hsm (by simp; rfl) ?_
   by_cases he : encO o = L
   ·refine yr9 (by simp [he]; rfl) ?_
    refine yd9 rfl (fun h => by simp at h) (fun h => ?_)
    refine yh9 ?_
    refine yt9 [2, 3] (by simp [ys9]; rfl) ?_
    refine zr9 ?_
    repeat (first | refine yl9 ?_ | refine yc9 ?_)
    have hd : dcD true L = (o, true) := by rw [dcD, hgo]; simp only; rw [if_pos ⟨hc, he⟩]
    rw [hd]
    exact yc7 (r0 := .tup _) ⟨.inr rfl, _, _, by simp [ys9]; rfl, by simp; exact ⟨rfl, rfl⟩, by simp [AV.rf, AV.rfL, strB]⟩ (by simp [AV.plain, AV.plainL, strB])
   ·refine yr9 (by simp [he]; rfl) ?_
    refine yd9 rfl (fun h => ?_) (fun h => by simp at h)
    refine yt9 [2, 3] (by simp [zObD, ys9]; rfl) ?_
    refine zr9 ?_
    repeat (first | refine yl9 ?_ | refine yc9 ?_)
    have hd : dcD true L = (om0, false) := by rw [dcD, hgo]; simp only; rw [if_neg fun h => he h.2]
    rw [hd]
    exact yc7 (r0 := .tup _) ⟨.inr rfl, _, _, by simp [ys9]; rfl, by simp; exact ⟨rfl, rfl⟩, by simp [AV.rf, AV.rfL]⟩ (by simp [AV.plain, AV.plainL, om0, esL, txL, rdL, strB])
  ·rw [encOR, if_neg hc] at hen
   refine W_rK [0, 2, 4, 11, 12] ?_
   refine yq9 1 (by simp [oF]; rfl) rfl ?_
   refine yj9 (by simp) (by simp [strB]; rfl) hen (by simp; rfl) ?_
   refine yr9 (by simp; rfl) ?_
   refine W_cT [2, 4, 115] (by simp; rfl) rfl ?_
   refine yt9 [2, 3] (by simp [zObD, ys9]; rfl) ?_
   refine zr9 ?_
   repeat (first | refine yl9 ?_ | refine yc9 ?_)
   have hd : dcD true L = (om0, false) := by rw [dcD, hgo]; simp only; rw [if_neg fun h => hc h.1]
   rw [hd]
   exact yc7 (r0 := .tup _) ⟨.inr rfl, _, _, by simp [ys9]; rfl, by simp; exact ⟨rfl, rfl⟩, by simp [AV.rf, AV.rfL]⟩ (by simp [AV.plain, AV.plainL, om0, esL, txL, rdL, strB])
end Go.AM
namespace Go.AM
open Go.RowKit Go.Proofs
set_option linter.unusedSimpArgs false
set_option linter.unusedVariables false
set_option maxHeartbeats 8000000
end Go.AM
namespace Go.AM
open Go.RowKit Go.Proofs
set_option linter.unusedSimpArgs false
set_option linter.unusedVariables false
set_option maxHeartbeats 2000000
def encB (o : OMod) : List (List UInt8) := egoE o.esd o.esd.length 0 ++ (o.txt.map zj8 ++ egoR o.rld o.rld.length 0)
theorem encO_B (o : OMod) : encO o = encB o ++ [cardN o.entry] := by simp [encO, encB]
end Go.AM
namespace Go.AM
open Go.RowKit Go.Proofs
set_option linter.unusedSimpArgs false
set_option linter.unusedVariables false
set_option maxHeartbeats 4000000
set_option maxRecDepth 100000
def syAll : List UInt8 := [65, 66, 67, 68, 69, 70, 71, 72, 73, 74, 75, 76, 77, 78, 79, 80, 81, 82, 83, 84, 85, 86, 87, 88, 89, 90, 48, 49, 50, 51, 52, 53, 54, 55, 56, 57, 64, 35, 36]
def symG (i : Nat) : List UInt8 := (match i % 4 with | 0 => [83] | 1 => [64, 88] | 2 => [76, 79, 78, 71, 69, 82] | _ => [36]) ++ ([syAll.getD (i / 39 % 39) 0] ++ [syAll.getD (i % 39) 0])
theorem sy0 : Sound Try.prog 35 [.v (.int .i64 0)] (strB (symG 0)) := zq9 mx 300 (by kernel_rfl)
theorem sy1 : Sound Try.prog 35 [.v (.int .i64 1)] (strB (symG 1)) := zq9 mx 300 (by kernel_rfl)
theorem sy2 : Sound Try.prog 35 [.v (.int .i64 2)] (strB (symG 2)) := zq9 mx 300 (by kernel_rfl)
theorem sy3 : Sound Try.prog 35 [.v (.int .i64 3)] (strB (symG 3)) := zq9 mx 300 (by kernel_rfl)
theorem sy4 : Sound Try.prog 35 [.v (.int .i64 4)] (strB (symG 4)) := zq9 mx 300 (by kernel_rfl)
theorem sy5 : Sound Try.prog 35 [.v (.int .i64 5)] (strB (symG 5)) := zq9 mx 300 (by kernel_rfl)
theorem sy6 : Sound Try.prog 35 [.v (.int .i64 6)] (strB (symG 6)) := zq9 mx 300 (by kernel_rfl)
theorem sy7 : Sound Try.prog 35 [.v (.int .i64 7)] (strB (symG 7)) := zq9 mx 300 (by kernel_rfl)
theorem sy8 : Sound Try.prog 35 [.v (.int .i64 8)] (strB (symG 8)) := zq9 mx 300 (by kernel_rfl)
theorem sy9 : Sound Try.prog 35 [.v (.int .i64 9)] (strB (symG 9)) := zq9 mx 300 (by kernel_rfl)
theorem sy10 : Sound Try.prog 35 [.v (.int .i64 10)] (strB (symG 10)) := zq9 mx 300 (by kernel_rfl)
theorem sy11 : Sound Try.prog 35 [.v (.int .i64 11)] (strB (symG 11)) := zq9 mx 300 (by kernel_rfl)
theorem sy12 : Sound Try.prog 35 [.v (.int .i64 12)] (strB (symG 12)) := zq9 mx 300 (by kernel_rfl)
theorem sy13 : Sound Try.prog 35 [.v (.int .i64 13)] (strB (symG 13)) := zq9 mx 300 (by kernel_rfl)
theorem sy14 : Sound Try.prog 35 [.v (.int .i64 14)] (strB (symG 14)) := zq9 mx 300 (by kernel_rfl)
theorem sy15 : Sound Try.prog 35 [.v (.int .i64 15)] (strB (symG 15)) := zq9 mx 300 (by kernel_rfl)
theorem sy16 : Sound Try.prog 35 [.v (.int .i64 16)] (strB (symG 16)) := zq9 mx 300 (by kernel_rfl)
theorem sy17 : Sound Try.prog 35 [.v (.int .i64 17)] (strB (symG 17)) := zq9 mx 300 (by kernel_rfl)
theorem sy18 : Sound Try.prog 35 [.v (.int .i64 18)] (strB (symG 18)) := zq9 mx 300 (by kernel_rfl)
theorem sy19 : Sound Try.prog 35 [.v (.int .i64 19)] (strB (symG 19)) := zq9 mx 300 (by kernel_rfl)
theorem sy20 : Sound Try.prog 35 [.v (.int .i64 20)] (strB (symG 20)) := zq9 mx 300 (by kernel_rfl)
theorem sy21 : Sound Try.prog 35 [.v (.int .i64 21)] (strB (symG 21)) := zq9 mx 300 (by kernel_rfl)
theorem sy22 : Sound Try.prog 35 [.v (.int .i64 22)] (strB (symG 22)) := zq9 mx 300 (by kernel_rfl)
theorem sy23 : Sound Try.prog 35 [.v (.int .i64 23)] (strB (symG 23)) := zq9 mx 300 (by kernel_rfl)
theorem sy24 : Sound Try.prog 35 [.v (.int .i64 24)] (strB (symG 24)) := zq9 mx 300 (by kernel_rfl)
theorem sy25 : Sound Try.prog 35 [.v (.int .i64 25)] (strB (symG 25)) := zq9 mx 300 (by kernel_rfl)
theorem sy26 : Sound Try.prog 35 [.v (.int .i64 26)] (strB (symG 26)) := zq9 mx 300 (by kernel_rfl)
theorem sy27 : Sound Try.prog 35 [.v (.int .i64 27)] (strB (symG 27)) := zq9 mx 300 (by kernel_rfl)
theorem sy28 : Sound Try.prog 35 [.v (.int .i64 28)] (strB (symG 28)) := zq9 mx 300 (by kernel_rfl)
theorem sy29 : Sound Try.prog 35 [.v (.int .i64 29)] (strB (symG 29)) := zq9 mx 300 (by kernel_rfl)
theorem sy30 : Sound Try.prog 35 [.v (.int .i64 30)] (strB (symG 30)) := zq9 mx 300 (by kernel_rfl)
theorem sy31 : Sound Try.prog 35 [.v (.int .i64 31)] (strB (symG 31)) := zq9 mx 300 (by kernel_rfl)
theorem sy32 : Sound Try.prog 35 [.v (.int .i64 32)] (strB (symG 32)) := zq9 mx 300 (by kernel_rfl)
theorem sy33 : Sound Try.prog 35 [.v (.int .i64 33)] (strB (symG 33)) := zq9 mx 300 (by kernel_rfl)
theorem sy34 : Sound Try.prog 35 [.v (.int .i64 34)] (strB (symG 34)) := zq9 mx 300 (by kernel_rfl)
theorem sy35 : Sound Try.prog 35 [.v (.int .i64 35)] (strB (symG 35)) := zq9 mx 300 (by kernel_rfl)
theorem sy36 : Sound Try.prog 35 [.v (.int .i64 36)] (strB (symG 36)) := zq9 mx 300 (by kernel_rfl)
theorem sy37 : Sound Try.prog 35 [.v (.int .i64 37)] (strB (symG 37)) := zq9 mx 300 (by kernel_rfl)
theorem sy38 : Sound Try.prog 35 [.v (.int .i64 38)] (strB (symG 38)) := zq9 mx 300 (by kernel_rfl)
theorem sy39 : Sound Try.prog 35 [.v (.int .i64 39)] (strB (symG 39)) := zq9 mx 300 (by kernel_rfl)
theorem symbol35_sound (i : Nat) (h : i < 40) : Sound Try.prog 35 [.v (.int .i64 (i : Nat))] (strB (symG i)) := by
 match i, h with
 | 0, _ => exact sy0
 | 1, _ => exact sy1
 | 2, _ => exact sy2
 | 3, _ => exact sy3
 | 4, _ => exact sy4
 | 5, _ => exact sy5
 | 6, _ => exact sy6
 | 7, _ => exact sy7
 | 8, _ => exact sy8
 | 9, _ => exact sy9
 | 10, _ => exact sy10
 | 11, _ => exact sy11
 | 12, _ => exact sy12
 | 13, _ => exact sy13
 | 14, _ => exact sy14
 | 15, _ => exact sy15
 | 16, _ => exact sy16
 | 17, _ => exact sy17
 | 18, _ => exact sy18
 | 19, _ => exact sy19
 | 20, _ => exact sy20
 | 21, _ => exact sy21
 | 22, _ => exact sy22
 | 23, _ => exact sy23
 | 24, _ => exact sy24
 | 25, _ => exact sy25
 | 26, _ => exact sy26
 | 27, _ => exact sy27
 | 28, _ => exact sy28
 | 29, _ => exact sy29
 | 30, _ => exact sy30
 | 31, _ => exact sy31
 | 32, _ => exact sy32
 | 33, _ => exact sy33
 | 34, _ => exact sy34
 | 35, _ => exact sy35
 | 36, _ => exact sy36
 | 37, _ => exact sy37
 | 38, _ => exact sy38
 | 39, _ => exact sy39
 | n + 40, h => omega
end Go.AM
