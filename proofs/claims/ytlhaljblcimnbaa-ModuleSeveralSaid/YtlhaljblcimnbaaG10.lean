/- Parts of the walk: C31DE C31DF C31OJ C31OC C31OD. -/
import Derived.Test.YtlhaljblcimnbaaG9
namespace Go.AM
open Go.RowKit Go.Proofs
set_option linter.unusedSimpArgs false
set_option linter.unusedVariables false
set_option maxHeartbeats 8000000
def obL (l : List OMod) : List AV := l.map obA
@[simp] theorem obL_length (l : List OMod) : (obL l).length = l.length := by simp [obL]
@[simp] theorem obL_getElem (l : List OMod) (i : Nat) (h : i < (obL l).length) : (obL l)[i] = obA (l[i]'(by simpa using h)) := by simp [obL]
theorem obL_app (s t : List OMod) : obL (s ++ t) = obL s ++ obL t := by simp [obL]
theorem obL_nil : obL [] = [] := rfl
theorem obL_one (x : OMod) : obL [x] = [obA x] := rfl
def endL : List UInt8 := xf9 vn9
theorem endL_eq : endL = [197, 213, 196] := by decide +kernel
def isE (b : List UInt8) : Bool := decide (4 < b.length) && decide (sbM b 1 3 = endL)
def ixL (p : List UInt8 → Bool) : Nat → List (List UInt8) → Int
 | _, [] => -1
 | i, s :: l => if p s = true then i else ixL p (i + 1) l
theorem ixL_bound (p : List UInt8 → Bool) : ∀ (L : List (List UInt8)) (i : Nat), -1 ≤ ixL p i L ∧ ixL p i L < i + L.length
 | [], i => by simp only [ixL, List.length_nil]; omega
 | b :: L, i => by
  have := ixL_bound p L (i + 1)
  rw [ixL]
  simp only [List.length_cons]
  split <;> omega
def dcsG : Nat → List (List UInt8) → List OMod → Option (List OMod)
 | 0, L, acc => if L = [] then some acc else none
 | f + 1, L, acc => if L = [] then some acc else
  (if (dcD true (L.take (ixL isE 0 L + 1).toNat)).2 = true then dcsG f (L.drop (ixL isE 0 L + 1).toNat) (acc ++ [(dcD true (L.take (ixL isE 0 L + 1).toNat)).1]) else none)
def dcsP (L : List (List UInt8)) : List OMod × Bool := match dcsG L.length L [] with
 | none => ([], false)
 | some l => (l, true)
theorem dcD_nil (p : Bool) : (dcD p []).2 = false := by
 have h : chkM om0 = false := by decide +kernel
 unfold dcD goD
 simp only
 rw [if_neg (by rw [h]; simp)]
abbrev HE : List AObj := [.cells 27 [.lst .any 1 (byL endL)]]
theorem clos54_callW (b : List UInt8) (hb : b.length ≤ 140737488355328) : ww9 Try.prog 54 [.lst .any 1 (byL b), .loc 0 0] HE (fun v h => v = .v (.bool (isE b)) ∧ h = HE) := by
 refine zf9 Try.func54 rfl (by decide +kernel) (by simp [Try.f54]) (rs := [.tmp 3]) rfl ?_
 rw [show Try.f54.ntmps = 19 from rfl]
 have he3 : endL.length = 3 := by rw [endL_eq]; rfl
 have w1 : IntKind.i64.wrap 4 = 4 := by decide
 obtain ⟨E, hE⟩ : ∃ E, endL = E := ⟨_, rfl⟩
 rw [hE] at he3
 simp only [HE, isE, hE]
 refine yt9 [0, 1] (by simp; rfl) ?_
 by_cases c : 4 < b.length
 ·have ci : (4 : Int) < b.length := by omega
  have c4 : 4 ≤ b.length := by omega
  have c4i : (4 : Int) ≤ b.length := by omega
  obtain ⟨A, hA⟩ : ∃ A, sbM b 1 3 = A := ⟨_, rfl⟩
  have eA : (List.take 4 (byL b)).tail = byL A := by rw [← hA, sbM, ← List.drop_one, ← xj9, ← wg9, List.drop_take]
  have hcl := equal_sound A E
  rw [hA]
  refine zk7 [3] mx (by decide +kernel) ?_
  refine yw9 6 (by simp [he3, w1, c, ci]; rfl) rfl ?_
  refine yw9 7 (by simp [he3, w1, c, ci, c4, c4i, eA]; rfl) rfl ?_
  refine ym9 (by simp) (by first | (simp; done) | (simp; rfl)) hcl (by simp; rfl) ?_
  refine zq9 (by simp [c, ci]; rfl) ?_
  refine zt9 ?_
  repeat (first | refine yj9 ?_ | refine yk9 ?_)
  exact zn9 1 (by simp [resA]; rfl) (by simp) (by simp) (by simp [AV.under, AV.underL, ys9, AObj.under]) (by simp [c])
 ·have ci : ¬ (4 : Int) < b.length := by omega
  refine zk7 [3] mx (by decide +kernel) ?_
  refine yw9 6 (by simp [he3, w1, c, ci]; rfl) rfl ?_
  refine yw9 8 (by simp [he3, w1, c, ci]; rfl) rfl ?_
  refine zq9 (by simp [c, ci]; rfl) ?_
  refine zt9 ?_
  repeat (first | refine yj9 ?_ | refine yk9 ?_)
  exact zn9 1 (by simp [resA]; rfl) (by simp) (by simp) (by simp [AV.under, AV.underL, ys9, AObj.under]) (by simp [c])
theorem if53_callW (L : List (List UInt8)) (hl : L.length ≤ 100000) (hb : ∀ b ∈ L, b.length ≤ 140737488355328) : ww9 Try.prog 53 [.lst .any 1 (bbL L), .fn (.func 54) [] [.loc 0 0]] HE (fun v h => v = .v (.int .i64 (ixL isE 0 L)) ∧ h = HE) := by
 refine zf9 Try.func53 rfl (by decide +kernel) (by simp [Try.f53]) (rs := [.tmp 4]) rfl ?_
 rw [show Try.f53.ntmps = 19 from rfl]
 refine yt9 [0, 1] (by simp; rfl) ?_
 refine yh9 ?_
 refine yt9 [0, 1, 7, 8] (by simp; rfl) ?_
 refine yf9 ?_
 refine zm9 (fun k σ => ∃ i : Nat, k = L.length - i ∧ i ≤ L.length ∧ ixL isE i (L.drop i) = ixL isE 0 L ∧ σ = ⟨19, [(0, .lst .any 1 (bbL L)), (1, .fn (.func 54) [] [.loc 0 0]), (7, .v (.int .i64 (L.length : Nat))), (8, .v (.int .i64 (i : Nat)))], HE⟩) (k := L.length) ⟨0, rfl, by omega, rfl, by simp⟩ ?_
 rintro k σ ⟨i, rfl, hi, hix, rfl⟩
 by_cases c : i < L.length
 ·have ci : (i : Int) < L.length := by omega
  obtain ⟨s, hsi⟩ : ∃ s, L[i]? = some s := ⟨_, List.getElem?_eq_getElem c⟩
  have hs2 : L[i]'c = s := by rw [List.getElem?_eq_getElem c] at hsi; exact Option.some.inj hsi
  have hdr : L.drop i = s :: L.drop (i + 1) := by rw [List.drop_eq_getElem_cons c, hs2]
  have wi := w64 (n := (i : Int) + 1) (by omega) (by omega)
  rw [hdr, ixL] at hix
  refine yt9 [0, 1, 7, 8, 9] (by simp [c]; rfl) ?_
  refine yh9 ?_
  refine yd9 rfl (fun h => ?_) (fun h => by simp at h)
  refine yc9 ?_
  refine yh9 ?_
  refine yf9 ?_
  refine yt9 [0, 1, 7, 8, 5] (by simp; rfl) ?_
  refine W_rK [0, 1, 7, 8, 5, 16] ?_
  refine yq9 5 (by simp [c, ci, hs2]; rfl) rfl ?_
  refine zs9 (by simp) (by first | (simp [zw9, zr9]; done) | (simp [zw9, zr9]; rfl)) ((clos54_callW s (hb s (List.mem_of_getElem? hsi))).mono ?_)
  rintro _ _ ⟨rfl, rfl⟩
  refine ⟨_, rfl, ?_⟩
  refine yr9 (by simp; rfl) ?_
  by_cases hc : isE s = true
  ·rw [if_pos hc] at hix
   refine yd9 (t := true) (by simp [hc]) (fun h => ?_) (fun h => by simp at h)
   refine yt9 [4] (by simp; rfl) ?_
   refine zt9 ?_
   repeat (first | refine yj9 ?_ | refine yk9 ?_)
   refine retW_mk (by simp [resA]; rfl) (by simp) (by simp [AV.under, AV.underL, ys9, AObj.under]) ⟨by simp [← hix], rfl⟩
  rw [if_neg hc] at hix
  refine yd9 (t := false) (by simp [hc]) (fun h => by simp at h) (fun h => ?_)
  refine yc9 ?_
  refine zd9 [0, 1, 7, 8] (by simp [wi]; rfl) ?_
  exact ⟨_, by omega, i + 1, rfl, by omega, hix, by simp⟩
 have hie : i = L.length := by omega
 rw [hie, List.drop_length, ixL] at hix
 refine yt9 [0, 1, 7, 8, 9] (by simp [c]; rfl) ?_
 refine yh9 ?_
 refine yd9 rfl (fun h => by simp at h) (fun h => ?_)
 refine zb9 ?_
 refine yt9 [4] (by simp; rfl) ?_
 refine zt9 ?_
 repeat (first | refine yj9 ?_ | refine yk9 ?_)
 refine retW_mk (by simp [resA]; rfl) (by simp) (by simp [AV.under, AV.underL, ys9, AObj.under]) ⟨by simp [← hix], rfl⟩
theorem wc8 (L : List (List UInt8)) (hL : L.length ≤ 100000) (hb : ∀ b ∈ L, b.length ≤ 140737488355328) :
  Sound Try.prog 20 [.lst .any 1 (bbL L)] (.tup [.lst .any 4 (obL (dcsP L).1), .v (.int .i64 (if (dcsP L).2 = true then 0 else 310))]) := by
 refine sound_of_U Try.func20 rfl (by decide +kernel) (by simp [Try.f20]) rfl rfl (rs := [.tmp 2, .tmp 3]) rfl ?_
 rw [show Try.f20.ntmps = 35 from rfl]
 refine yt9 [0] (by simp; rfl) ?_
 refine yt9 [0, 4] (by simp; rfl) ?_
 have hcode := zf7 vn9 (by decide)
 rw [show (encM vn9).1 = endL from rfl] at hcode
 refine W_rK [0, 4, 5] ?_
 refine yl9 (args := [strB vn9]) (by simp) (by simp [strB, vn9]; rfl) hcode (by simp; rfl) ?_
 refine yr9 (by simp [yg9]; rfl) ?_
 refine yh9 ?_
 refine yf9 ?_
 refine zm9 (fun k s => ∃ (R : List (List UInt8)) (f : Nat) (acc : List OMod) (x : AV), k = R.length ∧ R.length ≤ f ∧ R.length + acc.length ≤ L.length ∧ (∀ b ∈ R, b ∈ L) ∧ dcsG f R acc = dcsG L.length L [] ∧ (x = .lst .nil 4 [] ∧ acc = [] ∨ x = .lst (.tip 26 59) 4 (obL acc)) ∧
  s = ⟨35, [(0, .lst .any 1 (bbL R)), (4, x), (5, .loc 0 0)], HE⟩) (k := L.length) ⟨L, L.length, [], _, rfl, by omega, by simp, fun b hb => hb, rfl, .inl ⟨rfl, rfl⟩, by simp⟩ ?_
 rintro k s ⟨R, f, acc, x, rfl, hRf, hRa, hRL, hgo, hx, rfl⟩
 refine yh9 ?_
 by_cases c : R.length = 0
 ·have hR : R = [] := List.length_eq_zero_iff.1 c
  subst hR
  refine W_cF [4, 12] (by simp; rfl) rfl ?_
  refine zb9 ?_
  have hg : dcsG f [] acc = some acc := by cases f <;> simp [dcsG]
  rw [hg] at hgo
  have hd : dcsP L = (acc, true) := by rw [dcsP, ← hgo]
  rw [hd]
  rcases hx with ⟨rfl, rfl⟩ | rfl
  ·refine yt9 [2, 3] (by simp; rfl) ?_
   refine zt9 ?_
   repeat (first | refine yj9 ?_ | refine yk9 ?_)
   exact retU_pl (r0 := .tup _) (by simp [retQ]; exact ⟨rfl, by simp⟩) (by simp [AV.plain, AV.plainL, obL])
  ·refine yt9 [2, 3] (by simp; rfl) ?_
   refine zt9 ?_
   repeat (first | refine yj9 ?_ | refine yk9 ?_)
   exact retU_pl (r0 := .tup _) (by simp [retQ]; exact ⟨rfl, by simp⟩) (by simp [AV.plain, AV.plainL])
 have c0 : ¬ R.length ≤ 0 := by omega
 have c1 : 0 < R.length := by omega
 have c1i : (0 : Int) < R.length := by omega
 have hRne : R ≠ [] := fun e => c (by rw [e]; rfl)
 obtain ⟨f', rfl⟩ : ∃ f', f = f' + 1 := ⟨f - 1, by omega⟩
 rw [dcsG, if_neg hRne] at hgo
 have hib := ixL_bound isE R 0
 obtain ⟨ix, hix⟩ : ∃ ix, ixL isE 0 R = ix := ⟨_, rfl⟩
 have hcall := if53_callW R (by omega) (fun b h => hb b (hRL b h))
 rw [hix] at hgo hib hcall
 obtain ⟨m, hm⟩ : ∃ m : Nat, ix + 1 = m := ⟨(ix + 1).toNat, by omega⟩
 have hmt : (ix + 1).toNat = m := by omega
 have hix2 : ix = (m : Int) - 1 := by omega
 rw [hmt] at hgo
 have hmR : m ≤ R.length := by omega
 have hmRi : (m : Int) ≤ R.length := by omega
 have wm : IntKind.i64.wrap (ix + 1) = (m : Int) := by rw [w64 (by omega) (by omega)]; omega
 refine W_cT [0, 4, 5, 12] (by simp [c, c1, c1i]; rfl) rfl ?_
 refine yc9 ?_
 refine yf9 ?_
 refine W_rK [0, 4, 5, 6] ?_
 refine yq9 2 (by simp; rfl) rfl ?_
 refine zs9 (f := 53) (args := [.lst .any 1 (bbL R), .fn (.func 54) [] [.loc 0 0]]) (by simp) (by first | (simp [zw9, zr9]; done) | (simp [zw9, zr9]; rfl)) (hcall.mono ?_)
 rintro _ _ ⟨rfl, rfl⟩
 refine ⟨_, rfl, ?_⟩
 refine yr9 (by simp; rfl) ?_
 have hdo := decodeObject_sound (R.take m) (by rw [List.length_take]; omega)
 obtain ⟨o, ho⟩ : ∃ o, (dcD true (R.take m)).1 = o := ⟨_, rfl⟩
 rw [ho] at hdo hgo
 have etk : List.take m (bbL R) = bbL (R.take m) := by rw [bbL_take]
 have edr : List.drop m (bbL R) = bbL (R.drop m) := by rw [bbL_drop]
 refine W_rK [0, 4, 5, 6, 7, 8] ?_
 refine yq9 4 (by simp [wm, hmR, hmRi, etk]; rfl) rfl ?_
 refine yl9 (by simp) (by simp; rfl) hdo (by simp; rfl) ?_
 refine yr9 (by simp [yg9]; rfl) ?_
 refine yh9 ?_
 cases hok : (dcD true (R.take m)).2 with
 | false =>
  rw [hok] at hgo
  simp only [Bool.false_eq_true, if_neg, not_false_eq_true] at hgo
  have hd : dcsP L = ([], false) := by rw [dcsP, ← hgo]
  rw [hd]
  refine W_cT [0, 4, 5, 6, 7, 25] (by simp; rfl) rfl ?_
  refine yt9 [2, 3] (by simp; rfl) ?_
  refine zt9 ?_
  repeat (first | refine yj9 ?_ | refine yk9 ?_)
  exact retU_pl (r0 := .tup _) (by simp [retQ]; exact ⟨rfl, by simp⟩) (by simp [AV.plain, AV.plainL, obL])
 | true =>
  rw [hok] at hgo
  simp only [if_pos] at hgo
  have hm0 : 0 < m := by
   rcases Nat.eq_zero_or_pos m with e | e
   ·rw [e, List.take_zero, dcD_nil] at hok; cases hok
   ·exact e
  have hby : (acc.length + 1) * 88 ≤ 140737488355328 := by omega
  have hsn : obL (acc ++ [o]) = obL acc ++ [obA o] := by rw [obL_app, obL_one]
  have hdl : (R.drop m).length = R.length - m := List.length_drop
  refine W_cF [0, 4, 5, 6, 7, 25] (by simp; rfl) rfl ?_
  refine yc9 ?_
  rcases hx with ⟨rfl, rfl⟩ | rfl
  ·refine yt9 [0, 4, 5, 6] (by simp [hby, obL_nil, catK, AV.cellsK, AV.kone, AV.koneL, AV.weak, AV.weakL, strB]; rfl) ?_
   refine xk9 1 (Nat.zero_le _) (by simp) (by simp [yv9, AV.under, AV.underL, strB]) (by simp [ys9, AObj.under, AV.under, AV.underL]) ?_
   refine zd9 [0, 4, 5] (by simp [wm, hmR, hmRi, edr]; rfl) ?_
   exact ⟨_, by rw [hdl]; omega, R.drop m, f', [] ++ [o], _, rfl, by omega, by rw [hdl]; simp; omega, fun b hb => hRL b (List.mem_of_mem_drop hb), hgo, .inr rfl, by simp [obL, strB]⟩
  ·refine yt9 [0, 4, 5, 6] (by simp [hby, catK, AV.cellsK, AV.kone, AV.koneL, AV.weak, AV.weakL, strB]; rfl) ?_
   refine xk9 1 (Nat.zero_le _) (by simp) (by simp [yv9, AV.under, AV.underL, strB]) (by simp [ys9, AObj.under, AV.under, AV.underL]) ?_
   refine zd9 [0, 4, 5] (by simp [wm, hmR, hmRi, edr]; rfl) ?_
   exact ⟨_, by rw [hdl]; omega, R.drop m, f', acc ++ [o], _, rfl, by omega, by rw [hdl]; simp; omega, fun b hb => hRL b (List.mem_of_mem_drop hb), hgo, .inr rfl, by simp [hsn, strB]⟩
end Go.AM
namespace Go.AM
open Go.RowKit Go.Proofs
set_option linter.unusedSimpArgs false
set_option linter.unusedVariables false
set_option maxHeartbeats 2000000
theorem isE_of {b : List UInt8} {nm : List UInt8} (h : decM (sbM b 1 3) = nm) (hn : nm ≠ vn9) : isE b = false := by
 have he : decM endL = vn9 := by decide +kernel
 unfold isE
 rw [Bool.and_eq_false_iff]
 right
 rw [decide_eq_false_iff_not]
 intro e
 rw [e, he] at h
 exact hn h.symm
theorem isE_N (e : List UInt8) (h : e.all okB = true) (hl : e.length ≤ 8) : isE (vn8 e) = true := by
 obtain ⟨l0, n0, n1⟩ := cEND
 have hc : (xf9 e).length = e.length := by rw [xh8 h, vg8]
 have b1 : 16 + (xf9 e).length ≤ (vp9 vn9).length := by omega
 have hs : sbM (vp9 vn9) 1 3 = endL := by decide +kernel
 have hl : (vn8 e).length = 80 := (cardN_facts e h hl).1
 unfold isE
 rw [hl, show sbM (vn8 e) 1 3 = endL by rw [vn8, vv8 _ _ _ _ _ b1 (.inl (by omega)), hs]]
 simp
theorem egoE_isE (l : List Esd) (h : ∀ x ∈ l, (xf9 x.name).length ≤ 16) : ∀ (f i : Nat), ∀ b ∈ egoE l f i, isE b = false
 | 0, i, b, hb => by simp [egoE] at hb
 | f + 1, i, b, hb => by
  rw [egoE] at hb
  split at hb
  ·rcases List.mem_cons.1 hb with rfl | hb
   ·exact isE_of (zj7 ((l.drop i).take 3) (by rw [List.length_take]; omega) fun x hx => h x (List.mem_of_mem_drop (List.mem_of_mem_take hx))).2.1 (by decide)
   ·exact egoE_isE l h f (i + 3) b hb
  ·simp at hb
theorem egoR_isE (l : List Rld) : ∀ (f i : Nat), ∀ b ∈ egoR l f i, isE b = false
 | 0, i, b, hb => by simp [egoR] at hb
 | f + 1, i, b, hb => by
  rw [egoR] at hb
  split at hb
  ·rcases List.mem_cons.1 hb with rfl | hb
   ·exact isE_of (zh7 ((l.drop i).take 7) (by rw [List.length_take]; omega)).2.1 (by decide)
   ·exact egoR_isE l f (i + 7) b hb
  ·simp at hb
def encB (o : OMod) : List (List UInt8) := egoE o.esd o.esd.length 0 ++ (o.txt.map yb8 ++ egoR o.rld o.rld.length 0)
theorem encO_B (o : OMod) : encO o = encB o ++ [vn8 o.entry] := by simp [encO, encB]
theorem encB_isE {o : OMod} (h : chkM o = true) : ∀ b ∈ encB o, isE b = false := by
 have hD := chkM_DOk h
 intro b hb
 unfold encB at hb
 rcases List.mem_append.1 hb with hb | hb
 ·exact egoE_isE o.esd (fun x hx => by
   have h1 := seqE_name o.esd 1 hD.es x hx
   rw [xh8 h1.1, vg8]
   omega) _ _ b hb
 rcases List.mem_append.1 hb with hb | hb
 ·obtain ⟨t, ht, rfl⟩ := List.mem_map.1 hb
  exact isE_of (cardT_facts t (hD.ts t ht)).2.1 (by decide)
 ·exact egoR_isE o.rld _ _ b hb
theorem encB_ne {o : OMod} (h : chkM o = true) : encB o ≠ [] := by
 have hO := (chkM_ok h).ne
 intro e
 unfold encB at e
 have h1 := (List.append_eq_nil_iff.1 e).1
 cases hs : o.esd with
 | nil => exact hO hs
 | cons x l =>
  rw [hs] at h1
  simp [egoE] at h1
theorem ixL_app (p : List UInt8 → Bool) (x : List UInt8) (R : List (List UInt8)) (hx : p x = true) : ∀ (A : List (List UInt8)) (i : Nat), (∀ b ∈ A, p b = false) → ixL p i (A ++ x :: R) = ((i + A.length : Nat) : Int)
 | [], i, h => by rw [List.nil_append, ixL, if_pos hx]; simp
 | a :: A, i, h => by
  rw [List.cons_append, ixL, if_neg (by rw [h a (by simp)]; simp), ixL_app p x R hx A (i + 1) fun b hb => h b (by simp [hb])]
  simp only [List.length_cons]
  congr 1
  omega
theorem ixL_none (p : List UInt8 → Bool) : ∀ (A : List (List UInt8)) (i : Nat), (∀ b ∈ A, p b = false) → ixL p i A = -1
 | [], i, h => rfl
 | a :: A, i, h => by rw [ixL, if_neg (by rw [h a (by simp)]; simp), ixL_none p A (i + 1) fun b hb => h b (by simp [hb])]
theorem dcsG_one {o : OMod} (h : chkM o = true) (R : List (List UInt8)) (acc : List OMod) (f : Nat) : dcsG (f + 1) (encO o ++ R) acc = dcsG f R (acc ++ [o]) := by
 have hD := chkM_DOk h
 have hix : ixL isE 0 (encO o ++ R) = (((encB o).length : Nat) : Int) := by
  rw [encO_B, List.append_assoc, List.singleton_append, ixL_app isE _ R (isE_N _ hD.en.1 hD.en.2) (encB o) 0 (encB_isE h), Nat.zero_add]
 have hm : (ixL isE 0 (encO o ++ R) + 1).toNat = (encO o).length := by
  rw [hix, encO_B]
  simp only [List.length_append, List.length_singleton]
  omega
 have hne : encO o ++ R ≠ [] := by rw [encO_B]; simp
 have hd := dcD_enc true o h
 rw [dcsG, if_neg hne, hm, List.take_left' rfl, List.drop_left' rfl, hd, if_pos rfl]
theorem dcsG_all : ∀ (os acc : List OMod) (R : List (List UInt8)) (f : Nat), (∀ o ∈ os, chkM o = true) → os.length ≤ f → dcsG f (os.flatMap encO ++ R) acc = dcsG (f - os.length) R (acc ++ os)
 | [], acc, R, f, h, hf => by simp
 | o :: os, acc, R, f, h, hf => by
  simp only [List.length_cons] at hf
  obtain ⟨f', rfl⟩ : ∃ f', f = f' + 1 := ⟨f - 1, by omega⟩
  rw [List.flatMap_cons, List.append_assoc, dcsG_one (h o (by simp)), dcsG_all os _ R f' (fun y hy => h y (by simp [hy])) (by omega), List.append_assoc]
  simp
theorem enc_len {os : List OMod} (h : ∀ o ∈ os, chkM o = true) : os.length ≤ (os.flatMap encO).length := by
 induction os with
 | nil => simp
 | cons o os ih =>
  have := ih fun y hy => h y (by simp [hy])
  rw [List.flatMap_cons, encO_B]
  simp only [List.length_append, List.length_cons, List.length_nil]
  omega
theorem dcsP_all {os : List OMod} (h : ∀ o ∈ os, chkM o = true) : dcsP (os.flatMap encO) = (os, true) := by
 have h1 := enc_len h
 have h2 := dcsG_all os [] [] (os.flatMap encO).length h h1
 rw [List.append_nil, List.nil_append] at h2
 unfold dcsP
 rw [h2]
 have h3 : ∀ f, dcsG f [] os = some os := fun f => by cases f <;> simp [dcsG]
 rw [h3]
theorem dcsP_cut {os : List OMod} (h : ∀ o ∈ os, chkM o = true) (hne : os ≠ []) : dcsP ((os.flatMap encO).take ((os.flatMap encO).length - 1)) = ([], false) := by
 obtain ⟨o, ho⟩ : ∃ o, os.getLast? = some o := by
  cases hq : os.getLast? with
  | none => exact absurd (List.getLast?_eq_none_iff.1 hq) hne
  | some o => exact ⟨o, rfl⟩
 obtain ⟨ps, rfl⟩ := List.getLast?_eq_some_iff.1 ho
 have hc := h o (by simp)
 have hps : ∀ o ∈ ps, chkM o = true := fun y hy => h y (by simp [hy])
 have e : ((ps ++ [o]).flatMap encO).take (((ps ++ [o]).flatMap encO).length - 1) = ps.flatMap encO ++ encB o := by
  rw [List.flatMap_append, List.flatMap_singleton, encO_B, ← List.append_assoc]
  exact List.take_left' (by simp only [List.length_append, List.length_singleton]; omega)
 rw [e]
 have hlen := enc_len hps
 have hbl : 0 < (encB o).length := List.length_pos_iff.2 (encB_ne hc)
 have h2 := dcsG_all ps [] (encB o) (ps.flatMap encO ++ encB o).length hps (by simp only [List.length_append]; omega)
 unfold dcsP
 rw [h2]
 obtain ⟨f, hf⟩ : ∃ f, (ps.flatMap encO ++ encB o).length - ps.length = f + 1 := ⟨(ps.flatMap encO ++ encB o).length - ps.length - 1, by simp only [List.length_append]; omega⟩
 rw [hf, dcsG, if_neg (encB_ne hc), ixL_none isE _ 0 (encB_isE hc)]
 have : ((-1 : Int) + 1).toNat = 0 := by decide
 rw [this, List.take_zero, if_neg (by rw [dcD_nil]; simp)]
end Go.AM
namespace Go.AM
open Go.RowKit Go.Proofs
set_option linter.unusedSimpArgs false
set_option linter.unusedVariables false
set_option maxHeartbeats 4000000
set_option maxRecDepth 100000
def syAll : List UInt8 := [65, 66, 67, 68, 69, 70, 71, 72, 73, 74, 75, 76, 77, 78, 79, 80, 81, 82, 83, 84, 85, 86, 87, 88, 89, 90, 48, 49, 50, 51, 52, 53, 54, 55, 56, 57, 64, 35, 36]
def symG (i : Nat) : List UInt8 := (match i % 4 with | 0 => [83] | 1 => [64, 88] | 2 => [76, 79, 78, 71, 69, 82] | _ => [36]) ++ ([syAll.getD (i / 39 % 39) 0] ++ [syAll.getD (i % 39) 0])
theorem sy0 : Sound Try.prog 35 [.v (.int .i64 0)] (strB (symG 0)) := yn9 mx 300 (by kernel_rfl)
theorem sy1 : Sound Try.prog 35 [.v (.int .i64 1)] (strB (symG 1)) := yn9 mx 300 (by kernel_rfl)
theorem sy2 : Sound Try.prog 35 [.v (.int .i64 2)] (strB (symG 2)) := yn9 mx 300 (by kernel_rfl)
theorem sy3 : Sound Try.prog 35 [.v (.int .i64 3)] (strB (symG 3)) := yn9 mx 300 (by kernel_rfl)
theorem sy4 : Sound Try.prog 35 [.v (.int .i64 4)] (strB (symG 4)) := yn9 mx 300 (by kernel_rfl)
theorem sy5 : Sound Try.prog 35 [.v (.int .i64 5)] (strB (symG 5)) := yn9 mx 300 (by kernel_rfl)
theorem sy6 : Sound Try.prog 35 [.v (.int .i64 6)] (strB (symG 6)) := yn9 mx 300 (by kernel_rfl)
theorem sy7 : Sound Try.prog 35 [.v (.int .i64 7)] (strB (symG 7)) := yn9 mx 300 (by kernel_rfl)
theorem sy8 : Sound Try.prog 35 [.v (.int .i64 8)] (strB (symG 8)) := yn9 mx 300 (by kernel_rfl)
theorem sy9 : Sound Try.prog 35 [.v (.int .i64 9)] (strB (symG 9)) := yn9 mx 300 (by kernel_rfl)
theorem sy10 : Sound Try.prog 35 [.v (.int .i64 10)] (strB (symG 10)) := yn9 mx 300 (by kernel_rfl)
theorem sy11 : Sound Try.prog 35 [.v (.int .i64 11)] (strB (symG 11)) := yn9 mx 300 (by kernel_rfl)
theorem sy12 : Sound Try.prog 35 [.v (.int .i64 12)] (strB (symG 12)) := yn9 mx 300 (by kernel_rfl)
theorem sy13 : Sound Try.prog 35 [.v (.int .i64 13)] (strB (symG 13)) := yn9 mx 300 (by kernel_rfl)
theorem sy14 : Sound Try.prog 35 [.v (.int .i64 14)] (strB (symG 14)) := yn9 mx 300 (by kernel_rfl)
theorem sy15 : Sound Try.prog 35 [.v (.int .i64 15)] (strB (symG 15)) := yn9 mx 300 (by kernel_rfl)
theorem sy16 : Sound Try.prog 35 [.v (.int .i64 16)] (strB (symG 16)) := yn9 mx 300 (by kernel_rfl)
theorem sy17 : Sound Try.prog 35 [.v (.int .i64 17)] (strB (symG 17)) := yn9 mx 300 (by kernel_rfl)
theorem sy18 : Sound Try.prog 35 [.v (.int .i64 18)] (strB (symG 18)) := yn9 mx 300 (by kernel_rfl)
theorem sy19 : Sound Try.prog 35 [.v (.int .i64 19)] (strB (symG 19)) := yn9 mx 300 (by kernel_rfl)
theorem sy20 : Sound Try.prog 35 [.v (.int .i64 20)] (strB (symG 20)) := yn9 mx 300 (by kernel_rfl)
theorem sy21 : Sound Try.prog 35 [.v (.int .i64 21)] (strB (symG 21)) := yn9 mx 300 (by kernel_rfl)
theorem sy22 : Sound Try.prog 35 [.v (.int .i64 22)] (strB (symG 22)) := yn9 mx 300 (by kernel_rfl)
theorem sy23 : Sound Try.prog 35 [.v (.int .i64 23)] (strB (symG 23)) := yn9 mx 300 (by kernel_rfl)
theorem sy24 : Sound Try.prog 35 [.v (.int .i64 24)] (strB (symG 24)) := yn9 mx 300 (by kernel_rfl)
theorem sy25 : Sound Try.prog 35 [.v (.int .i64 25)] (strB (symG 25)) := yn9 mx 300 (by kernel_rfl)
theorem sy26 : Sound Try.prog 35 [.v (.int .i64 26)] (strB (symG 26)) := yn9 mx 300 (by kernel_rfl)
theorem sy27 : Sound Try.prog 35 [.v (.int .i64 27)] (strB (symG 27)) := yn9 mx 300 (by kernel_rfl)
theorem sy28 : Sound Try.prog 35 [.v (.int .i64 28)] (strB (symG 28)) := yn9 mx 300 (by kernel_rfl)
theorem sy29 : Sound Try.prog 35 [.v (.int .i64 29)] (strB (symG 29)) := yn9 mx 300 (by kernel_rfl)
theorem sy30 : Sound Try.prog 35 [.v (.int .i64 30)] (strB (symG 30)) := yn9 mx 300 (by kernel_rfl)
theorem sy31 : Sound Try.prog 35 [.v (.int .i64 31)] (strB (symG 31)) := yn9 mx 300 (by kernel_rfl)
theorem sy32 : Sound Try.prog 35 [.v (.int .i64 32)] (strB (symG 32)) := yn9 mx 300 (by kernel_rfl)
theorem sy33 : Sound Try.prog 35 [.v (.int .i64 33)] (strB (symG 33)) := yn9 mx 300 (by kernel_rfl)
theorem sy34 : Sound Try.prog 35 [.v (.int .i64 34)] (strB (symG 34)) := yn9 mx 300 (by kernel_rfl)
theorem sy35 : Sound Try.prog 35 [.v (.int .i64 35)] (strB (symG 35)) := yn9 mx 300 (by kernel_rfl)
theorem sy36 : Sound Try.prog 35 [.v (.int .i64 36)] (strB (symG 36)) := yn9 mx 300 (by kernel_rfl)
theorem sy37 : Sound Try.prog 35 [.v (.int .i64 37)] (strB (symG 37)) := yn9 mx 300 (by kernel_rfl)
theorem sy38 : Sound Try.prog 35 [.v (.int .i64 38)] (strB (symG 38)) := yn9 mx 300 (by kernel_rfl)
theorem sy39 : Sound Try.prog 35 [.v (.int .i64 39)] (strB (symG 39)) := yn9 mx 300 (by kernel_rfl)
theorem symbol35_sound (i : Nat) (h : i < 40) : Sound Try.prog 35 [.v (.int .i64 (i : Nat))] (strB (symG i)) := by
 match i, h with
 | 0, _ => exact sy0
 | 1, _ => exact sy1
 | 2, _ => exact sy2
 | 3, _ => exact sy3
 | 4, _ => exact sy4
 | 5, _ => exact sy5
 | 6, _ => exact sy6
 | 7, _ => exact sy7
 | 8, _ => exact sy8
 | 9, _ => exact sy9
 | 10, _ => exact sy10
 | 11, _ => exact sy11
 | 12, _ => exact sy12
 | 13, _ => exact sy13
 | 14, _ => exact sy14
 | 15, _ => exact sy15
 | 16, _ => exact sy16
 | 17, _ => exact sy17
 | 18, _ => exact sy18
 | 19, _ => exact sy19
 | 20, _ => exact sy20
 | 21, _ => exact sy21
 | 22, _ => exact sy22
 | 23, _ => exact sy23
 | 24, _ => exact sy24
 | 25, _ => exact sy25
 | 26, _ => exact sy26
 | 27, _ => exact sy27
 | 28, _ => exact sy28
 | 29, _ => exact sy29
 | 30, _ => exact sy30
 | 31, _ => exact sy31
 | 32, _ => exact sy32
 | 33, _ => exact sy33
 | 34, _ => exact sy34
 | 35, _ => exact sy35
 | 36, _ => exact sy36
 | 37, _ => exact sy37
 | 38, _ => exact sy38
 | 39, _ => exact sy39
 | n + 40, h => omega
end Go.AM
namespace Go.AM
open Go.RowKit Go.Proofs
set_option linter.unusedSimpArgs false
set_option linter.unusedVariables false
set_option maxHeartbeats 4000000
end Go.AM
namespace Go.AM
open Go.RowKit Go.Proofs
set_option linter.unusedSimpArgs false
set_option linter.unusedVariables false
set_option maxHeartbeats 4000000
end Go.AM
