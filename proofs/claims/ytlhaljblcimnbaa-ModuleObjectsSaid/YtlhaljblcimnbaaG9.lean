/- Parts of the walk: C31OH C31EF C31EK C31EM C31EN C31EO. -/
import Derived.Test.YtlhaljblcimnbaaG8
namespace Go.AM
open Go.RowKit Go.Proofs
set_option linter.unusedSimpArgs false
set_option linter.unusedVariables false
set_option maxHeartbeats 4000000
theorem set_putM (c : List UInt8) (i : Nat) (b : UInt8) (h : i < c.length) : c.set i b = putM c i [b] := by
 rw [putM, List.set_eq_take_append_cons_drop, if_pos h]
 simp
theorem putM_nil (c : List UInt8) (a : Nat) : putM c a [] = c := by simp [putM]
theorem rItem_put (c : List UInt8) (a : Nat) (r : Rld) (h : a + 8 ≤ c.length) : putM (putM (putM (putM c a (numM 2 r.to_.toNat)) (a + 2) (numM 2 r.in_.toNat)) (a + 4) (numM 1 (flagR r))) (a + 5) (numM 3 r.addr.toNat) = putM c a (rItem r) := by
 have e1 := putM_app c (numM 2 r.to_.toNat) (numM 2 r.in_.toNat) a (by simp; omega)
 simp only [zh9] at e1
 rw [e1]
 have e2 := putM_app c (numM 2 r.to_.toNat ++ numM 2 r.in_.toNat) (numM 1 (flagR r)) a (by simp; omega)
 simp only [zh9, List.length_append] at e2
 rw [e2]
 have e3 := putM_app c (numM 2 r.to_.toNat ++ numM 2 r.in_.toNat ++ numM 1 (flagR r)) (numM 3 r.addr.toNat) a (by simp; omega)
 simp only [zh9, List.length_append] at e3
 rw [e3, rItem]
 simp only [List.append_assoc]
theorem ritemsGo_put : ∀ (g : List Rld) (i : Nat) (c l : List UInt8) (a : Nat), a + l.length ≤ 16 → c.length = 80 → g.length + i ≤ 7 → wc9 g i (putM c a l) = putM (wc9 g i c) a l
 | [], i, c, l, a, h1, h2, h3 => by rw [wc9, wc9]
 | x :: g, i, c, l, a, h1, h2, h3 => by
  have hei := rItem_len x
  simp only [List.length_cons] at h3
  rw [wc9, wc9, putM_comm _ _ _ _ _ (by omega) (by omega)]
  exact ritemsGo_put g (i + 1) _ l a h1 (by rw [zk9 _ _ _ (by omega)]; exact h2) (by omega)
theorem cardR_ref (g : List Rld) (hg : g.length ≤ 7) (hl : (vh9 nmRLD).length = 80) : cardR g = putM (wc9 g 0 (vh9 nmRLD)) 10 (numM 2 (8 * g.length)) := by
 rw [cardR, ritemsGo_put g 0 _ _ 10 (by simp) hl (by omega)]
theorem egoR_succ {l : List Rld} {f i : Nat} (h : i < l.length) (hf : l.length ≤ i + f) : ∃ f', f = f' + 1 ∧ egoR l f i = cardR ((l.drop i).take 7) :: egoR l f' (i + 7) := by
 obtain ⟨f', rfl⟩ : ∃ f', f = f' + 1 := ⟨f - 1, by omega⟩
 exact ⟨f', rfl, by rw [egoR, if_pos h]⟩
theorem obT (o : OMod) : AV.toksL (obC o) = [] := by simp [obC, AV.toksL, AV.toks, strB]
theorem rdT (r : Rld) : AV.toksL (rdC r) = [] := by simp [rdC, AV.toksL, AV.toks]
theorem txT (t : Txt) : AV.toksL (txC t) = [] := by simp [txC, AV.toksL, AV.toks]
theorem cards_len : (vh9 nmTXT).length = 80 ∧ (vh9 nmRLD).length = 80 ∧ (vh9 nmEND).length = 80 := by decide +kernel
theorem codeL_le (s : List UInt8) : (xr9 s).length ≤ s.length := codeL_len s
theorem egoE_length (l : List Esd) : ∀ (f i : Nat), (egoE l f i).length ≤ f
 | 0, i => by simp [egoE]
 | f + 1, i => by
  rw [egoE]
  split
  ·have := egoE_length l f (i + 3)
   simp
   omega
  ·simp
theorem rencodeObject_sound (o : OMod) (hk : OOk o) (hid : ∀ x ∈ o.esd, x.kind ≠ 2 → 1 ≤ x.id) : Sound Try.prog 39 [obA o] (.lst .any 1 (bbL (encO o))) := by
 obtain ⟨hes, hts, hrs, hen, hne, hl1, hl2, hl3⟩ := hk
 have hsy := rsymbols_sound o hes hne hl1 hid
 obtain ⟨E0, hE0⟩ : ∃ E, egoE o.esd o.esd.length 0 = E := ⟨_, rfl⟩
 have hE0l : E0.length ≤ 2048 := by rw [← hE0]; have := egoE_length o.esd o.esd.length 0; omega
 obtain ⟨hcT, hcR, hcN⟩ := cards_len
 rw [hE0] at hsy
 have henc : encO o = E0 ++ (o.txt.map yb8 ++ (egoR o.rld o.rld.length 0 ++ [cardN o.entry])) := by rw [encO, hE0]
 rw [henc]
 refine vg9 Try.func39 rfl (by decide +kernel) (by simp [Try.f39]) (by simp [AV.rfL, AV.rf, strB]) (by simp [AV.tlL, AV.tl, strB]) (rs := [.tmp 2]) rfl ?_
 rw [show Try.f39.ntmps = 144 from rfl]
 refine yt9 [1] (by simp; rfl) ?_
 refine W_rK [1, 3] ?_
 refine yq9 1 (by simp [strB]; rfl) rfl ?_
 refine yj9 (by simp) (by first | (simp; done) | (simp; rfl) | (simp [strB]; done) | (simp [strB]; rfl)) hsy (by simp; rfl) ?_
 refine yw9 (by simp [strB]; rfl) ?_
 refine xv9 (fun σ => σ = ⟨144, [(1, .loc 0 0), (3, .lst (.tip 27 35) 1 (bbL (E0 ++ o.txt.map yb8)))], [.cells 26 (obC o)]⟩) ?_ ?_
 ·refine yt9 [1, 3, 4] (by simp [strB]; rfl) ?_
  refine yp9 ?_
  refine zn9 (fun m σ => ∃ (i : Nat), m = o.txt.length - i ∧ i ≤ o.txt.length ∧ σ = ⟨144, [(1, .loc 0 0), (3, .lst (.tip 27 35) 1 (bbL (E0 ++ (o.txt.take i).map yb8))), (4, .v (.int .i64 (i : Nat)))], [.cells 26 (obC o)]⟩) (k := o.txt.length) ⟨0, rfl, by omega, by simp [obC, strB]⟩ ?_
  rintro m σ ⟨i, rfl, hi, rfl⟩
  refine yc9 ?_
  obtain ⟨AC, hAC⟩ : ∃ A, E0 ++ (o.txt.take i).map yb8 = A := ⟨_, rfl⟩
  have hACl : AC.length ≤ 5000 := by rw [← hAC]; simp; omega
  by_cases c : i < o.txt.length
  ·have ci : (i : Int) < o.txt.length := by omega
   obtain ⟨x, hs⟩ : ∃ x, o.txt[i]? = some x := ⟨_, List.getElem?_eq_getElem c⟩
   have hs2 : o.txt[i]'c = x := by rw [List.getElem?_eq_getElem c] at hs; exact Option.some.inj hs
   have htk : o.txt.take (i + 1) = o.txt.take i ++ [x] := by rw [List.take_add_one, hs]; rfl
   have hAC2 : E0 ++ (o.txt.take (i + 1)).map yb8 = AC ++ [yb8 x] := by rw [htk, List.map_append, ← List.append_assoc, hAC]; rfl
   obtain ⟨t1, t2, t3, t4, t5, t6⟩ := hts x (List.mem_of_getElem? hs)
   have wi := w64 (n := (i : Int) + 1) (by omega) (by omega)
   obtain ⟨ad, had⟩ : ∃ n : Nat, x.addr = n := ⟨x.addr.toNat, by omega⟩
   obtain ⟨ii, hii⟩ : ∃ n : Nat, x.id = n := ⟨x.id.toNat, by omega⟩
   rw [hAC]
   refine yt9 [1, 3, 4, 22] (by simp [obC, strB, ci]; rfl) ?_
   refine ys9 rfl (fun h => ?_) (fun h => by simp [c] at h)
   refine yk9 ?_
   refine yc9 ?_
   refine yp9 ?_
   refine yt9 [1, 3, 4, 5] (by simp [obC, strB, c, ci, hs2, yd9, AV.weakL, AV.weak, AV.koneL, AV.kone]; rfl) ?_
   refine W_rK [1, 3, 4, 5, 6] ?_
   refine yn9 (f := 77) (args := [strB nmTXT]) (by simp) (by simp [yv9, zr9, strB, nmTXT]) ((zs7 nmTXT (by simp [nmTXT]) (by decide +kernel) (by decide +kernel) _).mono ?_)
   rintro _ _ ⟨k, rfl, rfl⟩
   refine ⟨_, by simp [strB, zg9, obT, rdT, txT]; rfl, ?_⟩
   refine yw9 (by simp [strB, zg9, obT, rdT, txT]; rfl) ?_
   obtain ⟨c0, hc0⟩ : ∃ c, vh9 nmTXT = c := ⟨_, rfl⟩
   have hcT0 : c0.length = 80 := by rw [← hc0]; exact hcT
   rw [hc0]
   refine W_rK [1, 3, 4, 5, 6] ?_
   refine yq9 3 (by simp [strB, zg9, obT, rdT, txT, had, hii]; rfl) rfl ?_
   refine yn9 (f := 78) (args := [.arr 2 0 80 (80 + k), .v (.int .i64 (5 : Nat)), .v (.int .i64 (3 : Nat)), .v (.int .i64 (ad : Nat))]) (by simp) (by simp [yv9, zr9, had]) ((xc9 _ 2 (80 + k) (5) 3 (ad) c0 k (by first | (simp; done) | (simp; rfl)) hcT0 (by omega) (by omega)).mono ?_)
   rintro _ _ ⟨rfl, rfl⟩
   refine ⟨_, by simp [strB, zg9, obT, rdT, txT]; rfl, ?_⟩
   refine yw9 (by simp [strB, zg9, obT, rdT, txT]; rfl) ?_
   obtain ⟨c1, hc1⟩ : ∃ c, putM c0 5 (numM 3 ad) = c := ⟨_, rfl⟩
   have hc1l : c1.length = 80 := by rw [← hc1, zk9 _ _ _ (by rw [zh9]; omega)]; exact hcT0
   rw [hc1]
   refine W_rK [1, 3, 4, 5, 6] ?_
   refine yq9 4 (by simp [strB, zg9, obT, rdT, txT, had, hii]; rfl) rfl ?_
   refine yn9 (f := 78) (args := [.arr 2 0 80 (80 + k), .v (.int .i64 (10 : Nat)), .v (.int .i64 (2 : Nat)), .v (.int .i64 (x.data.length : Nat))]) (by simp) (by simp [yv9, zr9, had]) ((xc9 _ 2 (80 + k) (10) 2 (x.data.length) c1 k (by first | (simp; done) | (simp; rfl)) hc1l (by omega) (by omega)).mono ?_)
   rintro _ _ ⟨rfl, rfl⟩
   refine ⟨_, by simp [strB, zg9, obT, rdT, txT]; rfl, ?_⟩
   refine yw9 (by simp [strB, zg9, obT, rdT, txT]; rfl) ?_
   obtain ⟨c2, hc2⟩ : ∃ c, putM c1 10 (numM 2 x.data.length) = c := ⟨_, rfl⟩
   have hc2l : c2.length = 80 := by rw [← hc2, zk9 _ _ _ (by rw [zh9]; omega)]; exact hc1l
   rw [hc2]
   refine W_rK [1, 3, 4, 5, 6] ?_
   refine yq9 3 (by simp [strB, zg9, obT, rdT, txT, had, hii]; rfl) rfl ?_
   refine yn9 (f := 78) (args := [.arr 2 0 80 (80 + k), .v (.int .i64 (14 : Nat)), .v (.int .i64 (2 : Nat)), .v (.int .i64 (ii : Nat))]) (by simp) (by simp [yv9, zr9, hii]) ((xc9 _ 2 (80 + k) (14) 2 (ii) c2 k (by first | (simp; done) | (simp; rfl)) hc2l (by omega) (by omega)).mono ?_)
   rintro _ _ ⟨rfl, rfl⟩
   refine ⟨_, by simp [strB, zg9, obT, rdT, txT]; rfl, ?_⟩
   refine yw9 (by simp [strB, zg9, obT, rdT, txT]; rfl) ?_
   obtain ⟨c3, hc3⟩ : ∃ c, putM c2 14 (numM 2 ii) = c := ⟨_, rfl⟩
   have hc3l : c3.length = 80 := by rw [← hc3, zk9 _ _ _ (by rw [zh9]; omega)]; exact hc2l
   rw [hc3]
   have hcardT : yb8 x = putM c3 16 x.data := by rw [yb8, hc0, had, hii, Int.toNat_natCast, Int.toNat_natCast, hc1, hc2, hc3]
   refine xv9 (fun σ => σ = ⟨144, [(1, .loc 0 0), (3, .lst (.tip 27 35) 1 (bbL AC)), (4, .v (.int .i64 (i : Nat))), (6, .arr 2 0 80 (80 + k))], [.cells 26 (obC o), .cells 73 (txC x), .cells 5 (zt9 (yb8 x) k)]⟩) ?_ ?_
   ·refine yt9 [1, 3, 4, 5, 6, 7] (by simp [strB, zg9, obT, rdT, txT]; rfl) ?_
    refine yp9 ?_
    refine zn9 (fun m σ => ∃ (j : Nat), m = x.data.length - j ∧ j ≤ x.data.length ∧ σ = ⟨144, [(1, .loc 0 0), (3, .lst (.tip 27 35) 1 (bbL AC)), (4, .v (.int .i64 (i : Nat))), (5, .loc 1 0), (6, .arr 2 0 80 (80 + k)), (7, .v (.int .i64 (j : Nat)))], [.cells 26 (obC o), .cells 73 (txC x), .cells 5 (zt9 (putM c3 16 (x.data.take j)) k)]⟩) (k := x.data.length) ⟨0, rfl, by omega, by simp [obC, txC, strB, putM_nil, had, hii]⟩ ?_
    rintro m σ ⟨j, rfl, hj, rfl⟩
    refine yc9 ?_
    by_cases cj : j < x.data.length
    ·have cji : (j : Int) < x.data.length := by omega
     obtain ⟨b, hb⟩ : ∃ b, x.data[j]? = some b := ⟨_, List.getElem?_eq_getElem cj⟩
     have hb2 : x.data[j]'cj = b := by rw [List.getElem?_eq_getElem cj] at hb; exact Option.some.inj hb
     have htj : x.data.take (j + 1) = x.data.take j ++ [b] := by rw [List.take_add_one, hb]; rfl
     have htl : (x.data.take j).length = j := by simp; omega
     have wj := w64 (n := (j : Int) + 1) (by omega) (by omega)
     obtain ⟨D, hD⟩ : ∃ D, 16 + j = D := ⟨_, rfl⟩
     have wd : IntKind.i64.wrap (16 + (j : Int)) = ((D : Nat) : Int) := by rw [w64 (by omega) (by omega)]; omega
     have hDi : (D : Int) < 80 := by omega
     have hDn : D < 80 := by omega
     have hDk : D + 1 ≤ 80 + k := by omega
     have hpl : (putM c3 16 (x.data.take j)).length = 80 := by rw [zk9 _ _ _ (by rw [htl]; omega)]; exact hc3l
     have hst : yd9 (zt9 (putM c3 16 (x.data.take j)) k) D [.v (.int .u8 b.toNat)] = zt9 (putM c3 16 (x.data.take (j + 1))) k := by
      rw [wm8 _ _ _ _ (by omega), set_putM _ _ _ (by omega), htj, ← putM_app _ _ _ _ (by rw [htl]; simp; omega), htl, hD]
     refine yt9 [1, 3, 4, 5, 6, 7, 48] (by simp [txC, strB, zg9, obT, rdT, txT, cji]; rfl) ?_
     refine ys9 rfl (fun h => ?_) (fun h => by simp [cj] at h)
     refine yk9 ?_
     refine yc9 ?_
     refine yp9 ?_
     refine zd9 [1, 3, 4, 5, 6, 7] (by simp [txC, strB, zg9, obT, rdT, txT, xf9, hpl, cj, cji, hb2, wd, hDi, hDn, hDk, hst]; rfl) ?_
     refine zd9 [1, 3, 4, 5, 6, 7] (by simp [wj, strB, zg9, obT, rdT, txT]; rfl) ?_
     exact ⟨_, by omega, j + 1, rfl, by omega, by simp [obC, txC, strB]⟩
    ·have hje : j = x.data.length := by omega
     have cn : ¬ ((j : Int) < x.data.length) := by omega
     refine yt9 [1, 3, 4, 5, 6, 7, 48] (by simp [txC, strB, zg9, obT, rdT, txT, cn]; rfl) ?_
     refine ys9 rfl (fun h => by simp [hje] at h) (fun h => ?_)
     refine ym9 [1, 3, 4, 6] ?_
     refine zc9 ?_
     rw [hje, List.take_length, ← hcardT]
     simp [obC, txC, strB]
   rintro _ rfl
   have hcl : (yb8 x).length = 80 := by rw [hcardT, zk9 _ _ _ (by omega)]; exact hc3l
   have hq1 : AC.length ≤ 140737488355327 := by omega
   have hq2 : (AC.length + 1) * 24 ≤ 140737488355328 := by omega
   have happ : bbL AC ++ [.lst .any 1 (byL (yb8 x))] = bbL (AC ++ [yb8 x]) := by simp [wn9, yq8]
   obtain ⟨fo, hfo, hfz⟩ := frz_room3 (h := [.cells 26 (obC o), .cells 73 (txC x), .cells 5 (zt9 (yb8 x) k)]) 2 80 (80 + k) (yb8 x) k rfl hcl
   refine W_frz 6 rfl (by decide) hfz ?_
   obtain ⟨CE, hCE⟩ : ∃ C, yb8 x = C := ⟨_, rfl⟩
   rw [hCE] at hAC2 happ hcl ⊢
   rcases hfo with rfl | rfl
   all_goals
    refine zd9 [1, 3, 4] (by simp [putF, yd9, catK, AV.cellsK, AV.kone, AV.koneL, hq1, hq2, strB, zg9, obT, rdT, txT, happ]; rfl) ?_
    refine xk9 1 (Nat.zero_le _) (by simp) (by simp [yb9, AV.under, AV.underL]) (by simp [yl9, xd9, AObj.under, yb9, AV.under, AV.underL, zw9, zt9, txC, rdC, strB]) ?_
    refine zd9 [1, 3, 4] (by simp [wi, strB, zg9, obT, rdT, txT]; rfl) ?_
    exact ⟨_, by omega, i + 1, rfl, by omega, by rw [hAC2]; simp [obC, strB]⟩
  ·have hie : i = o.txt.length := by omega
   have cn : ¬ ((i : Int) < o.txt.length) := by omega
   rw [hie, List.take_length] at hAC ⊢
   refine W_cF [1, 3, 4, 22] (by simp [obC, strB]; rfl) rfl ?_
   refine ym9 [1, 3] ?_
   refine zc9 ?_
   simp [obC, strB]
 rintro _ rfl
 obtain ⟨E1, hE1⟩ : ∃ E, E0 ++ o.txt.map yb8 = E := ⟨_, rfl⟩
 have hE1l : E1.length ≤ 5000 := by rw [← hE1]; simp; omega
 have henc2 : E0 ++ (o.txt.map yb8 ++ (egoR o.rld o.rld.length 0 ++ [cardN o.entry])) = E1 ++ egoR o.rld o.rld.length 0 ++ [cardN o.entry] := by rw [← hE1]; simp
 rw [henc2, hE1]
 obtain ⟨R0, hR0⟩ : ∃ R, E1 ++ egoR o.rld o.rld.length 0 = R := ⟨_, rfl⟩
 rw [hR0]
 refine xv9 (fun σ => R0.length ≤ 20000 ∧ σ = ⟨144, [(1, .loc 0 0), (3, .lst (.tip 27 35) 1 (bbL R0))], [.cells 26 (obC o)]⟩) ?_ ?_
 ·refine yt9 [1, 3, 8] (by simp [strB]; rfl) ?_
  refine yp9 ?_
  refine zn9 (fun m σ => ∃ (f i : Nat) (acc : List (List UInt8)), m = o.rld.length + 7 - i ∧ i ≤ o.rld.length + 6 ∧ o.rld.length ≤ i + f ∧ acc ++ egoR o.rld f i = R0 ∧ acc.length ≤ 5000 + i ∧
   σ = ⟨144, [(1, .loc 0 0), (3, .lst (.tip 27 35) 1 (bbL acc)), (8, .v (.int .i64 (i : Nat)))], [.cells 26 (obC o)]⟩) (k := o.rld.length + 7) ⟨o.rld.length, 0, E1, by omega, by omega, by omega, hR0, by omega, by simp [obC, strB]⟩ ?_
  rintro m σ ⟨f, i, acc, rfl, hi, hf, hgo, hacc, rfl⟩
  refine yc9 ?_
  obtain ⟨l, hle⟩ : ∃ l, o.rld = l := ⟨_, rfl⟩
  rw [hle] at hi hf hgo hl3 hrs
  by_cases c : i < l.length
  ·have ci : (i : Int) < l.length := by omega
   obtain ⟨f', rfl, hes2⟩ := egoR_succ c hf
   rw [hes2] at hgo
   obtain ⟨g, hg⟩ : ∃ g, (l.drop i).take 7 = g := ⟨_, rfl⟩
   have hgl : g.length = min 7 (l.length - i) := by rw [← hg]; simp
   have hgl3 : g.length ≤ 7 := by omega
   have hgget : ∀ j, j < g.length → g[j]? = l[i + j]? := fun j hj => by rw [← hg, List.getElem?_take, if_pos (by omega), List.getElem?_drop]
   have hcE := cardR_ref g hgl3 hcR
   rw [hg] at hgo
   have w3 := w64 (n := (i : Int) + 7) (by omega) (by omega)
   have wi3 : IntKind.i64.wrap ((i : Int) + 7) = (i : Int) + 7 := w3
   refine yt9 [1, 3, 8, 68] (by simp [obC, hle, ci, strB]; rfl) ?_
   refine ys9 rfl (fun h => ?_) (fun h => by simp [c] at h)
   refine yk9 ?_
   refine yc9 ?_
   refine yp9 ?_
   refine W_rK [1, 3, 8, 9] ?_
   refine yn9 (f := 77) (args := [strB nmRLD]) (by simp) (by simp [yv9, zr9, strB, nmRLD]) ((zs7 nmRLD (by simp [nmRLD]) (by decide +kernel) (by decide +kernel) _).mono ?_)
   rintro _ _ ⟨k, rfl, rfl⟩
   refine ⟨_, by simp [strB, zg9, obT, rdT, txT]; rfl, ?_⟩
   refine yw9 (by simp [strB, zg9, obT, rdT, txT]; rfl) ?_
   obtain ⟨F, hF⟩ : ∃ F, wc9 g 0 (vh9 nmRLD) = F := ⟨_, rfl⟩
   rw [hF] at hcE
   obtain ⟨c0, hc0⟩ : ∃ c, vh9 nmRLD = c := ⟨_, rfl⟩
   have hcl0 : c0.length = 80 := by rw [← hc0]; exact hcR
   rw [hc0] at hF ⊢
   refine yt9 [1, 3, 8, 9, 10] (by simp [strB, zg9, obT, rdT, txT]; rfl) ?_
   refine xv9 (fun σ => F.length = 80 ∧ σ = ⟨144, [(1, .loc 0 0), (3, .lst (.tip 27 35) 1 (bbL acc)), (8, .v (.int .i64 (i : Nat))), (9, .arr 1 0 80 (80 + k)), (10, .v (.int .i64 (8 * g.length : Nat)))], [.cells 26 (obC o), .cells 5 (zt9 F k)]⟩) ?_ ?_
   ·refine yt9 [1, 3, 8, 9, 10, 11] (by simp [strB, zg9, obT, rdT, txT]; rfl) ?_
    refine yp9 ?_
    refine zn9 (fun m σ => ∃ (j : Nat) (c : List UInt8), m = g.length - j ∧ j ≤ g.length ∧ wc9 (g.drop j) j c = F ∧ c.length = 80 ∧
     σ = ⟨144, [(1, .loc 0 0), (3, .lst (.tip 27 35) 1 (bbL acc)), (8, .v (.int .i64 (i : Nat))), (9, .arr 1 0 80 (80 + k)), (10, .v (.int .i64 (8 * j : Nat))), (11, .v (.int .i64 (i + j : Nat)))], [.cells 26 (obC o), .cells 5 (zt9 c k)]⟩) (k := g.length) ⟨0, c0, rfl, by omega, hF, hcl0, by simp [obC, strB, hle]⟩ ?_
    rintro m σ ⟨j, c1, rfl, hj, hit, hc1, rfl⟩
    refine yc9 ?_
    by_cases cj : j < g.length
    ·obtain ⟨x, hs⟩ : ∃ x, g[j]? = some x := ⟨_, List.getElem?_eq_getElem cj⟩
     have hs2 : g[j]'cj = x := by rw [List.getElem?_eq_getElem cj] at hs; exact Option.some.inj hs
     have hdr : g.drop j = x :: g.drop (j + 1) := wl9 cj hs2
     have hli : l[i + j]? = some x := by rw [← hgget j cj]; exact hs
     have hil : i + j < l.length := (List.getElem?_eq_some_iff.1 hli).1
     have hil2 : l[i + j]'hil = x := by rw [List.getElem?_eq_getElem hil] at hli; exact Option.some.inj hli
     have hil3 : ((i : Int) + (j : Int)) < l.length := by omega
     have hil4 : ((i : Int) + (j : Int)) < (i : Int) + 7 := by omega
     have hil5 : (0 : Int) ≤ (i : Int) + (j : Int) := by omega
     have hil6 : ((i : Int) + (j : Int)).toNat = i + j := by omega
     obtain ⟨e1, e2, e3, e4, e5, e6, e7, e8⟩ := hrs x (List.mem_of_getElem? hli)
     have wj2 : IntKind.i64.wrap ((j : Int)) = j := w64 (by omega) (by omega)
     have wj3 : IntKind.i64.wrap (8 * (j : Int)) = 8 * (j : Int) := w64 (by omega) (by omega)
     have wj4 : IntKind.i64.wrap (16 + 8 * (j : Int)) = ((16 + 8 * j : Nat) : Int) := by rw [w64 (by omega) (by omega)]; omega
     have wsub : (i : Int) + (j : Int) - (i : Int) = j := by omega
     have w16 : IntKind.i64.wrap (8 * (j : Int) + 8) = ((8 * (j + 1) : Nat) : Int) := by rw [w64 (by omega) (by omega)]; omega
     have wi1 : IntKind.i64.wrap ((i : Int) + (j : Int) + 1) = ((i + (j + 1) : Nat) : Int) := by rw [w64 (by omega) (by omega)]; omega
     rw [hdr, wc9] at hit
     obtain ⟨A, hA⟩ : ∃ A, 16 + 8 * j = A := ⟨_, rfl⟩
     have hA64 : A + 8 ≤ 80 := by omega
     rw [hA] at hit wj4
     have hput := rItem_put c1 A x (by omega)
     have wa2 : IntKind.i64.wrap ((A : Int) + 2) = ((A + 2 : Nat) : Int) := by rw [w64 (by omega) (by omega)]; omega
     have wa4 : IntKind.i64.wrap ((A : Int) + 4) = ((A + 4 : Nat) : Int) := by rw [w64 (by omega) (by omega)]; omega
     have wa5 : IntKind.i64.wrap ((A : Int) + 5) = ((A + 5 : Nat) : Int) := by rw [w64 (by omega) (by omega)]; omega
     obtain ⟨A2, hA2⟩ : ∃ n, A + 2 = n := ⟨_, rfl⟩
     obtain ⟨A4, hA4⟩ : ∃ n, A + 4 = n := ⟨_, rfl⟩
     obtain ⟨A5, hA5⟩ : ∃ n, A + 5 = n := ⟨_, rfl⟩
     rw [hA2] at wa2
     rw [hA4] at wa4
     rw [hA5] at wa5
     rw [hA2, hA4, hA5] at hput
     obtain ⟨to, hto⟩ : ∃ n : Nat, x.to_ = n := ⟨x.to_.toNat, by omega⟩
     obtain ⟨nn, hin⟩ : ∃ n : Nat, x.in_ = n := ⟨x.in_.toNat, by omega⟩
     obtain ⟨ad, had⟩ : ∃ n : Nat, x.addr = n := ⟨x.addr.toNat, by omega⟩
     obtain ⟨ln, hln⟩ : ∃ n : Nat, x.len = n := ⟨x.len.toNat, by omega⟩
     have wl1 : IntKind.i64.wrap ((ln : Int) - 1) = (ln : Int) - 1 := w64 (by omega) (by omega)
     have wl4 : IntKind.i64.wrap (4 * ((ln : Int) - 1)) = ((4 * (ln - 1) : Nat) : Int) := by rw [w64 (by omega) (by omega)]; omega
     obtain ⟨L4, hL4⟩ : ∃ n, 4 * (ln - 1) = n := ⟨_, rfl⟩
     rw [hL4] at wl4
     have wl2 : IntKind.i64.wrap ((L4 : Int) + 2) = ((L4 + 2 : Nat) : Int) := by rw [w64 (by omega) (by omega)]; omega
     have hflag : flagR x = L4 + if x.neg = true then 2 else 0 := by rw [flagR, hln, Int.toNat_natCast, hL4]
     rw [hto, hin, had, Int.toNat_natCast, Int.toNat_natCast, Int.toNat_natCast] at hput
     refine W_cT [1, 3, 8, 9, 10, 11, 83] (by simp [obC, hle, wi3, hil3, hil4, strB, zg9, obT, rdT, txT]; rfl) rfl ?_
     refine yk9 ?_
     refine yc9 ?_
     refine yp9 ?_
     refine W_rK [1, 3, 8, 9, 10, 11, 12, 13] ?_
     refine yq9 6 (by simp [obC, hle, hil, hil2, hil3, hil5, hil6, strB, zg9, obT, rdT, txT]; rfl) rfl ?_
     refine yw9 (by simp [obC, hle, wsub, wj2, wj3, wj4, yd9, AV.weakL, AV.weak, AV.koneL, AV.kone, strB, zg9, obT, rdT, txT]; rfl) ?_
     refine yt9 [1, 3, 8, 9, 10, 11, 12, 13] (by simp [w16, strB, zg9, obT, rdT, txT, -Int.natCast_add, -Int.natCast_mul]; rfl) ?_
     refine W_rK [1, 3, 8, 9, 10, 11, 12, 13] ?_
     refine yq9 4 (by simp [strB, zg9, obT, rdT, txT, hto]; rfl) rfl ?_
     refine yn9 (f := 78) (args := [.arr 1 0 80 (80 + k), .v (.int .i64 (A : Nat)), .v (.int .i64 (2 : Nat)), .v (.int .i64 (to : Nat))]) (by simp) (by simp [yv9, zr9, hto]) ((xc9 _ 1 (80 + k) (A) 2 (to) c1 k (by first | (simp; done) | (simp; rfl)) hc1 (by omega) (by omega)).mono ?_)
     rintro _ _ ⟨rfl, rfl⟩
     refine ⟨_, by simp [strB, zg9, obT, rdT, txT]; rfl, ?_⟩
     refine yw9 (by simp [strB, zg9, obT, rdT, txT]; rfl) ?_
     obtain ⟨c2, hc2⟩ : ∃ c, putM c1 A (numM 2 to) = c := ⟨_, rfl⟩
     have hc2l : c2.length = 80 := by rw [← hc2, zk9 _ _ _ (by rw [zh9]; omega)]; exact hc1
     rw [hc2] at hput ⊢
     refine W_rK [1, 3, 8, 9, 10, 11, 12, 13] ?_
     refine yq9 5 (by simp [strB, zg9, obT, rdT, txT, hin, wa2]; rfl) rfl ?_
     refine yn9 (f := 78) (args := [.arr 1 0 80 (80 + k), .v (.int .i64 (A2 : Nat)), .v (.int .i64 (2 : Nat)), .v (.int .i64 (nn : Nat))]) (by simp) (by simp [yv9, zr9, hin]) ((xc9 _ 1 (80 + k) (A2) 2 (nn) c2 k (by first | (simp; done) | (simp; rfl)) hc2l (by omega) (by omega)).mono ?_)
     rintro _ _ ⟨rfl, rfl⟩
     refine ⟨_, by simp [strB, zg9, obT, rdT, txT]; rfl, ?_⟩
     refine yw9 (by simp [strB, zg9, obT, rdT, txT]; rfl) ?_
     obtain ⟨c3, hc3⟩ : ∃ c, putM c2 A2 (numM 2 nn) = c := ⟨_, rfl⟩
     have hc3l : c3.length = 80 := by rw [← hc3, zk9 _ _ _ (by rw [zh9]; omega)]; exact hc2l
     rw [hc3] at hput ⊢
     obtain ⟨fg, hfg⟩ : ∃ n, flagR x = n := ⟨_, rfl⟩
     rw [hfg] at hput hflag
     refine yt9 [1, 3, 8, 9, 10, 11, 12, 13, 14] (by simp [hln, wl1, wl4, strB, zg9, obT, rdT, txT, -Int.natCast_add, -Int.natCast_mul]; rfl) ?_
     refine xv9 (fun σ => σ = ⟨144, [(1, .loc 0 0), (3, .lst (.tip 27 35) 1 (bbL acc)), (8, .v (.int .i64 (i : Nat))), (9, .arr 1 0 80 (80 + k)), (10, .v (.int .i64 (8 * (j + 1) : Nat))), (11, .v (.int .i64 (i + j : Nat)))] ++ [(12, .loc 2 0), (13, .v (.int .i64 (A : Nat))), (14, .v (.int .i64 (fg : Nat)))], [.cells 26 (obC o), .cells 5 (zt9 c3 k), .cells 80 (rdC x)]⟩) ?_ ?_
     ·cases hng : x.neg with
      | true =>
       rw [hng, if_pos rfl] at hflag
       refine W_cT [1, 3, 8, 9, 10, 11, 12, 13, 14, 114] (by simp [hng, strB, zg9, obT, rdT, txT]; rfl) rfl ?_
       refine zd9 [1, 3, 8, 9, 10, 11, 12, 13, 14] (by simp [wl2, strB, zg9, obT, rdT, txT, -Int.natCast_add]; rfl) ?_
       simp [hflag, obC, rdC, strB, hle, hng, hto, hin, hln, had]
      | false =>
       rw [hng, if_neg (by simp), Nat.add_zero] at hflag
       refine W_cF [1, 3, 8, 9, 10, 11, 12, 13, 14, 114] (by simp [hng, strB, zg9, obT, rdT, txT]; rfl) rfl ?_
       refine ym9 [1, 3, 8, 9, 10, 11, 12, 13, 14] ?_
       refine yk9 ?_
       simp [hflag, obC, rdC, strB, hle, hng, hto, hin, hln, had]
     rintro _ rfl
     have hfgb : fg ≤ 100 := by split at hflag <;> omega
     refine W_rK [1, 3, 8, 9, 10, 11, 12, 13] ?_
     refine yq9 4 (by simp [strB, zg9, obT, rdT, txT, wa4]; rfl) rfl ?_
     refine yn9 (f := 78) (args := [.arr 1 0 80 (80 + k), .v (.int .i64 (A4 : Nat)), .v (.int .i64 (1 : Nat)), .v (.int .i64 (fg : Nat))]) (by simp) (by simp [yv9, zr9, wa4]) ((xc9 _ 1 (80 + k) (A4) 1 (fg) c3 k (by first | (simp; done) | (simp; rfl)) hc3l (by omega) (by omega)).mono ?_)
     rintro _ _ ⟨rfl, rfl⟩
     refine ⟨_, by simp [strB, zg9, obT, rdT, txT]; rfl, ?_⟩
     refine yw9 (by simp [strB, zg9, obT, rdT, txT]; rfl) ?_
     obtain ⟨c4, hc4⟩ : ∃ c, putM c3 A4 (numM 1 fg) = c := ⟨_, rfl⟩
     have hc4l : c4.length = 80 := by rw [← hc4, zk9 _ _ _ (by rw [zh9]; omega)]; exact hc3l
     rw [hc4] at hput ⊢
     refine W_rE [1, 3, 8, 9, 10, 11] ?_
     refine yq9 5 (by simp [strB, zg9, obT, rdT, txT, rdC, had, wa5]; rfl) rfl ?_
     refine yn9 (f := 78) (args := [.arr 1 0 80 (80 + k), .v (.int .i64 (A5 : Nat)), .v (.int .i64 (3 : Nat)), .v (.int .i64 (ad : Nat))]) (by simp) (by simp [yv9, zr9, had]) ((xc9 _ 1 (80 + k) (A5) 3 (ad) c4 k (by first | (simp; done) | (simp; rfl)) hc4l (by omega) (by omega)).mono ?_)
     rintro _ _ ⟨rfl, rfl⟩
     refine ⟨_, by simp [strB, zg9, obT, rdT, txT]; rfl, ?_⟩
     refine yw9 (by simp [strB, zg9, obT, rdT, txT]; rfl) ?_
     rw [hput]
     refine xk9 2 (Nat.zero_le _) (by simp) (by simp [yb9, AV.under, AV.underL]) (by simp [yl9, xd9, AObj.under, yb9, AV.under, AV.underL, zw9, zt9, txC, rdC, strB]) ?_
     refine zd9 [1, 3, 8, 9, 10, 11] (by simp [wi1, strB, zg9, obT, rdT, txT, -Int.natCast_add]; rfl) ?_
     exact ⟨_, by omega, j + 1, putM c1 A (rItem x), rfl, by omega, hit, by rw [zk9 _ _ _ (by rw [rItem_len]; omega)]; exact hc1, by simp [strB, obC, hle]⟩
    ·have hje : j = g.length := by omega
     rw [hje, List.drop_length, wc9] at hit
     subst hit
     have hnot : ¬ (((i : Int) + (j : Int) < (i : Int) + 7) ∧ ((i : Int) + (j : Int) < l.length)) := by omega
     by_cases j3 : (i : Int) + (j : Int) < (i : Int) + 7
     ·have j4 : ¬ ((i : Int) + (j : Int) < l.length) := fun h => hnot ⟨j3, h⟩
      refine W_cF [1, 3, 8, 9, 10, 11, 83] (by simp [obC, hle, wi3, strB, zg9, obT, rdT, txT, j3, j4]; rfl) rfl ?_
      refine ym9 [1, 3, 8, 9, 10] ?_
      refine zc9 ?_
      refine ⟨hc1, ?_⟩
      subst hje
      simp [obC, strB, hle]
     ·refine W_cF [1, 3, 8, 9, 10, 11, 83] (by simp [obC, hle, wi3, strB, zg9, obT, rdT, txT, j3]; rfl) rfl ?_
      refine ym9 [1, 3, 8, 9, 10] ?_
      refine zc9 ?_
      refine ⟨hc1, ?_⟩
      subst hje
      simp [obC, strB, hle]
   rintro _ ⟨hFl, rfl⟩
   refine W_rK [1, 3, 8, 9] ?_
   refine yq9 2 (by simp [strB, zg9, obT, rdT, txT]; rfl) rfl ?_
   refine yn9 (f := 78) (args := [.arr 1 0 80 (80 + k), .v (.int .i64 (10 : Nat)), .v (.int .i64 (2 : Nat)), .v (.int .i64 (8 * g.length : Nat))]) (by simp) (by simp [yv9, zr9, wi3]) ((xc9 _ 1 (80 + k) (10) 2 (8 * g.length) F k (by first | (simp; done) | (simp; rfl)) hFl (by omega) (by omega)).mono ?_)
   rintro _ _ ⟨rfl, rfl⟩
   refine ⟨_, by simp [strB, zg9, obT, rdT, txT]; rfl, ?_⟩
   refine yw9 (by simp [strB, zg9, obT, rdT, txT]; rfl) ?_
   rw [← hcE]
   have hcl : (cardR g).length = 80 := by rw [hcE, zk9 _ _ _ (by rw [zh9]; omega)]; exact hFl
   have hq1 : acc.length ≤ 140737488355327 := by omega
   have hq2 : (acc.length + 1) * 24 ≤ 140737488355328 := by omega
   have happ : bbL acc ++ [.lst .any 1 (byL (cardR g))] = bbL (acc ++ [cardR g]) := by simp [wn9, yq8]
   obtain ⟨CE, hCE⟩ : ∃ C, cardR g = C := ⟨_, rfl⟩
   rw [hCE] at hgo happ hcl ⊢
   have hob : [AV.lst .any 5 (esL o.esd), .lst .any 3 (txL o.txt), .lst .any 5 (rdL l), .v (.string ⟨o.entry.toArray⟩)] = obC o := by simp [obC, strB, hle]
   first | rw [hob] | skip
   obtain ⟨fo, hfo, hfz⟩ := frz_room3 (h := [.cells 26 (obC o), .cells 5 (zt9 CE k)]) 1 80 (80 + k) CE k rfl hcl
   refine W_frz 9 rfl (by decide) hfz ?_
   rcases hfo with rfl | rfl
   all_goals
    refine zd9 [1, 3, 8] (by simp [putF, yd9, catK, AV.cellsK, AV.kone, AV.koneL, hq1, hq2, strB, zg9, obT, rdT, txT, happ]; rfl) ?_
    refine xk9 1 (Nat.zero_le _) (by simp) (by simp [yb9, AV.under, AV.underL]) (by simp [yl9, xd9, AObj.under, yb9, AV.under, AV.underL, zw9, zt9, txC, rdC, strB]) ?_
    refine zd9 [1, 3, 8] (by simp [w3, strB, zg9, obT, rdT, txT]; rfl) ?_
    rw [← hle] at hgo hf hi c
    exact ⟨_, by omega, f', i + 7, acc ++ [CE], rfl, by omega, by omega, by simpa using hgo, by simp only [List.length_append, List.length_cons, List.length_nil]; omega, by simp [obC, strB, hle]⟩
  ·have cn : ¬ ((i : Int) < l.length) := by omega
   rw [egoR_end _ _ (by omega), List.append_nil] at hgo
   subst hgo
   refine yt9 [1, 3, 8, 68] (by simp [obC, hle, cn, strB]; rfl) ?_
   refine ys9 rfl (fun h => by simp [c] at h) (fun h => ?_)
   refine ym9 [1, 3] ?_
   refine zc9 ?_
   exact ⟨by omega, by simp [obC, strB, hle]⟩
 rintro _ ⟨hR0l, rfl⟩
 refine W_rK [1, 3, 15] ?_
 refine yn9 (f := 77) (args := [strB nmEND]) (by simp) (by simp [yv9, zr9, strB, nmEND]) ((zs7 nmEND (by simp [nmEND]) (by decide +kernel) (by decide +kernel) _).mono ?_)
 rintro _ _ ⟨k, rfl, rfl⟩
 refine ⟨_, by simp [strB, zg9, obT, rdT, txT]; rfl, ?_⟩
 refine yw9 (by simp [strB, zg9, obT, rdT, txT]; rfl) ?_
 have hcl : (cardN o.entry).length = 80 := by rw [cardN, zk9 _ _ _ (by have := codeL_le o.entry; omega)]; exact hcN
 refine W_rK [3, 15] ?_
 refine yq9 3 (by simp [obC, strB, zg9, obT, rdT, txT]; rfl) rfl ?_
 refine yn9 (f := 79) (args := [.arr 1 0 80 (80 + k), .v (.int .i64 (16 : Nat)), strB o.entry]) (by simp) (by simp [yv9, zr9, strB]) ((rtext_room _ 1 (80 + k) 16 o.entry (vh9 nmEND) k (by simp) hcN (by omega) (by have := codeL_le o.entry; omega)).mono ?_)
 rintro _ _ ⟨rfl, rfl⟩
 refine ⟨_, by simp [strB, zg9, obT, rdT, txT]; rfl, ?_⟩
 refine yw9 (by simp [strB, zg9, obT, rdT, txT]; rfl) ?_
 rw [show putM (vh9 nmEND) 16 (xr9 o.entry) = cardN o.entry from rfl]
 have hq1 : R0.length ≤ 140737488355327 := by omega
 have hq2 : (R0.length + 1) * 24 ≤ 140737488355328 := by omega
 have happ : bbL R0 ++ [.lst .any 1 (byL (cardN o.entry))] = bbL (R0 ++ [cardN o.entry]) := by simp [wn9, yq8]
 obtain ⟨CE, hCE⟩ : ∃ C, cardN o.entry = C := ⟨_, rfl⟩
 rw [hCE] at happ hcl ⊢
 have hob : [AV.lst .any 5 (esL o.esd), .lst .any 3 (txL o.txt), .lst .any 5 (rdL o.rld), .v (.string ⟨o.entry.toArray⟩)] = obC o := by simp [obC, strB]
 first | rw [hob] | skip
 obtain ⟨fo, hfo, hfz⟩ := frz_room3 (h := [.cells 26 (obC o), .cells 5 (zt9 CE k)]) 1 80 (80 + k) CE k rfl hcl
 refine W_frz 15 rfl (by decide) hfz ?_
 rcases hfo with rfl | rfl
 all_goals
  refine yt9 [2] (by simp [putF, yd9, catK, AV.cellsK, AV.kone, AV.koneL, hq1, hq2, strB, zg9, obT, rdT, txT, happ]; rfl) ?_
  refine zq9 ?_
  repeat (first | refine yg9 ?_ | refine yh9 ?_)
  exact ⟨_, by simp [retQ]; exact ⟨rfl, by simp⟩, .inr (by simp)⟩
end Go.AM
namespace Go.AM
open Go.RowKit Go.Proofs
set_option linter.unusedSimpArgs false
set_option linter.unusedVariables false
set_option maxHeartbeats 8000000
theorem encO_sound (o : OMod) (ho : OIn o) : Sound Try.prog 19 [obA o] (encOR o) := by
 refine vg9 Try.func19 rfl (by decide +kernel) (by simp [Try.f19]) (by simp [AV.rfL, AV.rf, strB]) (by simp [AV.tlL, AV.tl, strB]) (rs := [.tmp 2, .tmp 3]) rfl ?_
 rw [show Try.f19.ntmps = 176 from rfl]
 have hchk := xw8 o ho
 refine yt9 [1] (by simp; rfl) ?_
 refine (show Wt true 0 Try.prog _ _ ⟨176, [(1, .loc 0 0)], [.cells 26 (obC o)]⟩ from ?_)
 refine yc9 ?_
 refine W_rK [1, 27] ?_
 refine yq9 1 (by simp [obC]; rfl) rfl ?_
 refine yj9 (by simp) (by first | (simp; done) | (simp; rfl) | (simp [strB]; done) | (simp [strB]; rfl)) hchk (by simp; rfl) ?_
 by_cases hc : chkM o = true
 rotate_left
 ·refine yw9 (by simp [hc]; rfl) ?_
  refine ys9 rfl (fun h => ?_) (fun h => by simp at h)
  refine yt9 [2, 3] (by simp; rfl) ?_
  refine zq9 ?_
  repeat (first | refine yg9 ?_ | refine yh9 ?_)
  refine ⟨_, by simp [retQ]; exact ⟨rfl, by simp [AV.rf, AV.rfL]⟩, .inl fun T => ?_⟩
  simp [encOR, hc]
 have hk := chkM_ok hc
 refine yw9 (by simp [hc]; rfl) ?_
 refine ys9 rfl (fun h => by simp at h) (fun h => ?_)
 refine yk9 ?_
 refine yt9 [1, 4] (by simp; rfl) ?_
 refine yc9 ?_
 refine W_rK [1, 4, 30] ?_
 refine yq9 2 (by simp [obC]; rfl) rfl ?_
 refine yn9 (f := 44) (args := [.lst .any 5 (esL o.esd), .v (.int .i64 (3 : Nat))]) (by simp) (by simp [yv9, zr9]) ((grp44_callW o.esd 3 _ ?_).mono ?_)
 ·simp [yl9, AObj.under, AV.under, AV.underL, obC, strB]
 rintro r h' ⟨rfl, rfl⟩
 refine ⟨_, by simp; rfl, ?_⟩
 refine yw9 (by simp; rfl) ?_
 refine yp9 ?_
 obtain ⟨R1, hR1⟩ : ∃ R1, [] ++ egoE o.esd o.esd.length 0 = R1 := ⟨_, rfl⟩
 refine xr8 (Qc := fun _ h' => R1.length ≤ ([] : List (List UInt8)).length + 3000 ∧ h' = [.cells 26 (obC o), .cells 47 [.lst (.tip 27 147) 1 (bbL (R1))], .cells 22 [.lst .any 5 (esL o.esd)], .cells 3 [.v (.int .i64 (3 : Nat))], .loop 176 [(1, .loc 0 0), (4, .loc 1 0), (30, .fn (.func 81) [] [.loc 2 0, .loc 3 0])] [31, 32] (rfAn Try.f19 0) (rfBn Try.f19 0) .ready]) rfl (esd_all o hk [] R1 hR1 (by simp) rfl) ?_
 rintro _ _ ⟨hR1l, rfl⟩
 refine ⟨176, _, _, _, _, .ready, rfl, ?_⟩
 refine (show Wt true 0 Try.prog _ _ _ from ?_)
 refine ym9 [1, 4] ?_
 refine xk9 2 (Nat.zero_le _) (by simp) (by simp [yb9, AV.under, AV.underL]) (by simp [yl9, xd9, AV.under, AV.underL, zw9]) ?_
 refine (show Wt true 0 Try.prog _ _ ⟨176, [(1, .loc 0 0), (4, .loc 1 0)], [.cells 26 (obC o), .cells 47 [.lst (.tip 27 147) 1 (bbL R1)]]⟩ from ?_)
 have hl2 := hk.l2
 obtain ⟨R2, hR2⟩ : ∃ R2, R1 ++ o.txt.map yb8 = R2 := ⟨_, rfl⟩
 have hR2l : R2.length ≤ 6000 := by rw [← hR2]; simp at hR1l ⊢; omega
 refine ws9 (fun σ => σ = ⟨176, [(1, .loc 0 0), (4, .loc 1 0)], [.cells 26 (obC o), .cells 47 [.lst (.tip 27 147) 1 (bbL R2)]]⟩) ?_ ?_
 ·refine yt9 [1, 4, 75, 76, 77] (by simp [obC]; rfl) ?_
  refine yp9 ?_
  refine zn9 (fun kk σ => ∃ (i : Nat), kk = o.txt.length - i ∧ i ≤ o.txt.length ∧ σ = ⟨176, [(1, .loc 0 0), (4, .loc 1 0), (75, .lst .any 3 (txL o.txt)), (76, .v (.int .i64 (o.txt.length : Nat))), (77, .v (.int .i64 (i : Nat)))], [.cells 26 (obC o), .cells 47 [.lst (.tip 27 147) 1 (bbL (R1 ++ (o.txt.take i).map yb8))]]⟩) (k := o.txt.length) ⟨0, rfl, by omega, by simp [obC]⟩ ?_
  rintro kk σ ⟨i, rfl, hi, rfl⟩
  by_cases c : i < o.txt.length
  ·have ci : (i : Int) < o.txt.length := by omega
   obtain ⟨x, hs⟩ : ∃ x, o.txt[i]? = some x := ⟨_, List.getElem?_eq_getElem c⟩
   have hs2 : o.txt[i]'c = x := by rw [List.getElem?_eq_getElem c] at hs; exact Option.some.inj hs
   obtain ⟨i0, i1, a0, a1, d0, d1⟩ := hk.ts x (List.mem_of_getElem? hs)
   have wi := w64 (n := (i : Int) + 1) (by omega) (by omega)
   obtain ⟨acc, hacc⟩ : ∃ acc, R1 ++ (o.txt.take i).map yb8 = acc := ⟨_, rfl⟩
   have haccl : acc.length ≤ 6000 := by rw [← hacc]; simp at hR1l ⊢; omega
   have hacc2 : R1 ++ (o.txt.take (i + 1)).map yb8 = acc ++ [yb8 x] := by rw [← hacc, List.take_add_one, hs]; simp
   have happ : bbL acc ++ [.lst .any 1 (byL (yb8 x))] = bbL (acc ++ [yb8 x]) := by simp [wn9, yq8]
   have hq1 : acc.length ≤ 140737488355327 := by omega
   have hq2 : (acc.length + 1) * 24 ≤ 140737488355328 := by omega
   rw [hacc]
   have c0l := cardM_len nmTXT (by decide +kernel)
   have hcT : putM (putM (putM (putM (vh9 nmTXT) 5 (numM 3 x.addr.toNat)) 10 (numM 2 x.data.length)) 14 (numM 2 x.id.toNat)) 16 x.data = yb8 x := rfl
   obtain ⟨c0, hc0⟩ : ∃ c, vh9 nmTXT = c := ⟨_, rfl⟩
   rw [hc0] at c0l hcT
   refine yt9 [1, 4, 75, 76, 77, 78] (by simp [ci]; rfl) ?_
   refine yc9 ?_
   refine ys9 rfl (fun h => ?_) (fun h => by simp [c] at h)
   refine yk9 ?_
   refine yc9 ?_
   refine yp9 ?_
   refine yt9 [1, 4, 75, 76, 77, 13] (by simp [c, ci, hs2, yd9]; rfl) ?_
   refine W_rK [1, 4, 75, 76, 77, 13, 14, 15] ?_
   refine yn9 (f := 45) (args := [strB nmTXT]) (by simp) (by simp [yv9, zr9, strB, nmTXT]) ((zp8 nmTXT (by simp [nmTXT]) (by decide +kernel) _ (by simp [yl9, xd9, AObj.under, yb9, AV.under, AV.underL, zw9, zt9])).mono ?_)
   rintro _ _ ⟨k, rfl, rfl⟩
   refine ⟨_, by simp; rfl, ?_⟩
   refine yw9 (by simp; rfl) ?_
   rw [hc0]
   refine W_rK [1, 4, 75, 76, 77, 13, 14, 15] ?_
   refine yq9 3 (by simp; rfl) rfl ?_
   refine yj9 (by simp) (by first | (simp; done) | (simp; rfl)) (numZ x.addr 3 a0 (by omega) (by omega)) (by simp; rfl) ?_
   refine yn9 (f := 83) (args := [.v (.int .i64 (5 : Nat)), .lst .any 1 (byL (numM 3 x.addr.toNat)), .loc 4 0]) (by simp) (by simp [yv9, zr9, xr9]) ((wm9 (5) 80 (numM 3 x.addr.toNat) c0 k c0l (by simp <;> omega) (by omega) (by omega) _ 4 3 (by simp) (by simp) (by simp [yl9, xd9, AObj.under, yb9, AV.under, AV.underL, zw9, zt9, txC])).mono ?_)
   rintro _ _ ⟨rfl, rfl⟩
   refine ⟨_, by simp; rfl, ?_⟩
   refine yw9 (by simp; rfl) ?_
   obtain ⟨c1, hc1⟩ : ∃ zz, putM c0 (5) (numM 3 x.addr.toNat) = zz := ⟨_, rfl⟩
   have c1l : c1.length = 80 := by rw [← hc1, xw9 _ _ _ (by simp <;> omega)]; exact c0l
   rw [hc1]
   rw [hc1] at hcT
   refine W_rK [1, 4, 75, 76, 77, 13, 14, 15] ?_
   refine yq9 4 (by simp; rfl) rfl ?_
   refine yj9 (by simp) (by first | (simp; done) | (simp; rfl)) (yr8 x.data.length 2 (by omega) (by omega)) (by simp; rfl) ?_
   refine yn9 (f := 83) (args := [.v (.int .i64 (10 : Nat)), .lst .any 1 (byL (numM 2 x.data.length)), .loc 4 0]) (by simp) (by simp [yv9, zr9, xr9]) ((wm9 (10) 80 (numM 2 x.data.length) c1 k c1l (by simp <;> omega) (by omega) (by omega) _ 4 3 (by simp) (by simp) (by simp [yl9, xd9, AObj.under, yb9, AV.under, AV.underL, zw9, zt9, txC])).mono ?_)
   rintro _ _ ⟨rfl, rfl⟩
   refine ⟨_, by simp; rfl, ?_⟩
   refine yw9 (by simp; rfl) ?_
   obtain ⟨c2, hc2⟩ : ∃ zz, putM c1 (10) (numM 2 x.data.length) = zz := ⟨_, rfl⟩
   have c2l : c2.length = 80 := by rw [← hc2, xw9 _ _ _ (by simp <;> omega)]; exact c1l
   rw [hc2]
   rw [hc2] at hcT
   refine W_rK [1, 4, 75, 76, 77, 13, 14, 15] ?_
   refine yq9 3 (by simp; rfl) rfl ?_
   refine yj9 (by simp) (by first | (simp; done) | (simp; rfl)) (numZ x.id 2 i0 (by omega) (by omega)) (by simp; rfl) ?_
   refine yn9 (f := 83) (args := [.v (.int .i64 (14 : Nat)), .lst .any 1 (byL (numM 2 x.id.toNat)), .loc 4 0]) (by simp) (by simp [yv9, zr9, xr9]) ((wm9 (14) 80 (numM 2 x.id.toNat) c2 k c2l (by simp <;> omega) (by omega) (by omega) _ 4 3 (by simp) (by simp) (by simp [yl9, xd9, AObj.under, yb9, AV.under, AV.underL, zw9, zt9, txC])).mono ?_)
   rintro _ _ ⟨rfl, rfl⟩
   refine ⟨_, by simp; rfl, ?_⟩
   refine yw9 (by simp; rfl) ?_
   obtain ⟨c3, hc3⟩ : ∃ zz, putM c2 (14) (numM 2 x.id.toNat) = zz := ⟨_, rfl⟩
   have c3l : c3.length = 80 := by rw [← hc3, xw9 _ _ _ (by simp <;> omega)]; exact c2l
   rw [hc3]
   rw [hc3] at hcT
   refine W_rK [1, 4, 75, 76, 77, 14] ?_
   refine yq9 3 (by simp; rfl) rfl ?_
   refine yn9 (f := 83) (args := [.v (.int .i64 (16 : Nat)), .lst .any 1 (byL (x.data)), .loc 4 0]) (by simp) (by simp [yv9, zr9, xr9]) ((wm9 (16) 80 (x.data) c3 k c3l (by omega) (by omega) (by omega) _ 4 3 (by simp) (by simp) (by simp [yl9, xd9, AObj.under, yb9, AV.under, AV.underL, zw9, zt9, txC])).mono ?_)
   rintro _ _ ⟨rfl, rfl⟩
   refine ⟨_, by simp; rfl, ?_⟩
   refine yw9 (by simp; rfl) ?_
   have cTl : (yb8 x).length = 80 := by rw [← hcT, xw9 _ _ _ (by omega)]; exact c3l
   rw [hcT]
   obtain ⟨fo, hfo, hfz⟩ := frz_room2 (h := [.cells 26 (obC o), .cells 47 [.lst (.tip 27 147) 1 (bbL acc)], .cells 73 [.v (.int .i64 x.id), .v (.int .i64 x.addr), .lst .any 1 (byL x.data)], .cells 5 (zt9 (yb8 x) k), .cells 27 [.arr 3 0 80 80]]) 3 80 (yb8 x) k rfl cTl
   refine W_frz 14 rfl (by decide) hfz ?_
   refine W_thenC (fun σ => σ = ⟨176, [(1, .loc 0 0), (4, .loc 1 0), (75, .lst .any 3 (txL o.txt)), (76, .v (.int .i64 (o.txt.length : Nat))), (77, .v (.int .i64 (i : Nat)))], [.cells 26 (obC o), .cells 47 [.lst (.tip 27 147) 1 (bbL (acc ++ [yb8 x]))], .cells 73 [.v (.int .i64 x.id), .v (.int .i64 x.addr), .lst .any 1 (byL x.data)], .froz 5 (byL (yb8 x)), .cells 27 [.arr 3 0 80 80]]⟩) ?_ ?_
   ·rcases hfo with rfl | rfl
    all_goals
     refine zd9 [1, 4, 75, 76, 77] (by simp [putF, yd9, catK, AV.cellsK, AV.kone, AV.koneL, hq1, hq2]; rfl) ?_
     simp [yf9, ← happ]
   rintro _ rfl
   refine xk9 2 (Nat.zero_le _) (by simp) (by simp [yb9, AV.under, AV.underL]) (by simp [yl9, xd9, AV.under, AV.underL, zw9]) ?_
   refine zd9 [1, 4, 75, 76, 77] (by simp [wi]; rfl) ?_
   exact ⟨_, by omega, i + 1, rfl, by omega, by rw [hacc2]; simp⟩
  have hie : i = o.txt.length := by omega
  refine yt9 [1, 4, 75, 76, 77, 78] (by simp [c]; rfl) ?_
  refine yc9 ?_
  refine ys9 rfl (fun h => by simp [hie] at h) (fun h => ?_)
  refine ym9 [1, 4] ?_
  refine zc9 ?_
  simp [yf9, hie, ← hR2, List.take_of_length_le]
 rintro _ rfl
 obtain ⟨R3, hR3⟩ : ∃ R3, R2 ++ egoR o.rld o.rld.length 0 = R3 := ⟨_, rfl⟩
 refine yc9 ?_
 refine W_rK [1, 4, 112] ?_
 refine yq9 2 (by simp [obC]; rfl) rfl ?_
 refine yn9 (f := 50) (args := [.lst .any 5 (rdL o.rld), .v (.int .i64 (7 : Nat))]) (by simp) (by simp [yv9, zr9]) ((grp50_callW o.rld 7 _ ?_).mono ?_)
 ·simp [yl9, AObj.under, AV.under, AV.underL, obC, strB]
 rintro r h' ⟨rfl, rfl⟩
 refine ⟨_, by simp; rfl, ?_⟩
 refine yw9 (by simp; rfl) ?_
 refine yp9 ?_
 refine xr8 (Qc := fun _ h' => R3.length ≤ R2.length + 3000 ∧ h' = [.cells 26 (obC o), .cells 47 [.lst (.tip 27 147) 1 (bbL (R3))], .cells 24 [.lst .any 5 (rdL o.rld)], .cells 3 [.v (.int .i64 (7 : Nat))], .loop 176 [(1, .loc 0 0), (4, .loc 1 0), (112, .fn (.func 84) [] [.loc 2 0, .loc 3 0])] [113, 114] (rfAn Try.f19 1) (rfBn Try.f19 1) .ready]) rfl (rld_all o hk R2 R3 hR3 (by omega)) ?_
 rintro _ _ ⟨hR3l, rfl⟩
 refine ⟨176, _, _, _, _, .ready, rfl, ?_⟩
 refine (show Wt true 0 Try.prog _ _ _ from ?_)
 refine ym9 [1, 4] ?_
 refine xk9 2 (Nat.zero_le _) (by simp) (by simp [yb9, AV.under, AV.underL]) (by simp [yl9, xd9, AV.under, AV.underL, zw9]) ?_
 refine (show Wt true 0 Try.prog _ _ ⟨176, [(1, .loc 0 0), (4, .loc 1 0)], [.cells 26 (obC o), .cells 47 [.lst (.tip 27 147) 1 (bbL R3)]]⟩ from ?_)
 have hcode := codeS_sound o.entry (by have := hk.en; omega)
 simp only [strB] at hcode
 have c0l := cardM_len nmEND (by decide +kernel)
 have hcN : putM (vh9 nmEND) 16 (xr9 o.entry) = cardN o.entry := rfl
 have hcl := codeL_len o.entry
 have hen := hk.en
 obtain ⟨c0, hc0⟩ : ∃ c, vh9 nmEND = c := ⟨_, rfl⟩
 rw [hc0] at c0l hcN
 have hq1 : R3.length ≤ 140737488355327 := by omega
 have hq2 : (R3.length + 1) * 24 ≤ 140737488355328 := by omega
 have happ : bbL R3 ++ [.lst .any 1 (byL (cardN o.entry))] = bbL (R3 ++ [cardN o.entry]) := by simp [wn9, yq8]
 have henc : encO o = R3 ++ [cardN o.entry] := by rw [encO, ← hR3, ← hR2, ← hR1]; simp
 refine W_rK [1, 4, 23, 24] ?_
 refine yn9 (f := 45) (args := [strB nmEND]) (by simp) (by simp [yv9, zr9, strB, nmEND]) ((zp8 nmEND (by simp [nmEND]) (by decide +kernel) _ (by simp [yl9, xd9, AObj.under, yb9, AV.under, AV.underL, zw9, zt9])).mono ?_)
 rintro _ _ ⟨k, rfl, rfl⟩
 refine ⟨_, by simp; rfl, ?_⟩
 refine yw9 (by simp; rfl) ?_
 rw [hc0]
 refine W_rK [1, 4, 23] ?_
 refine yq9 3 (by simp [obC, strB]; rfl) rfl ?_
 refine yj9 (by simp) (by first | (simp; done) | (simp; rfl)) hcode (by simp; rfl) ?_
 refine yn9 (f := 83) (args := [.v (.int .i64 (16 : Nat)), .lst .any 1 (byL (xr9 o.entry)), .loc 3 0]) (by simp) (by simp [yv9, zr9, xr9]) ((wm9 (16) 80 (xr9 o.entry) c0 k c0l (by omega) (by omega) (by omega) _ 3 2 (by simp) (by simp) (by simp [yl9, xd9, AObj.under, yb9, AV.under, AV.underL, zw9, zt9, obC, strB])).mono ?_)
 rintro _ _ ⟨rfl, rfl⟩
 refine ⟨_, by simp; rfl, ?_⟩
 refine yw9 (by simp; rfl) ?_
 have cNl : (cardN o.entry).length = 80 := by rw [← hcN, xw9 _ _ _ (by omega)]; exact c0l
 rw [hcN]
 refine (show Wt true 0 Try.prog _ _ ⟨176, [(1, .loc 0 0), (4, .loc 1 0), (23, .arr 2 0 80 80)], [.cells 26 (obC o), .cells 47 [.lst (.tip 27 147) 1 (bbL R3)], .cells 5 (zt9 (cardN o.entry) k), .cells 27 [.arr 2 0 80 80]]⟩ from ?_)
 obtain ⟨fo, hfo, hfz⟩ := frz_room2 (h := [.cells 26 (obC o), .cells 47 [.lst (.tip 27 147) 1 (bbL R3)], .cells 5 (zt9 (cardN o.entry) k), .cells 27 [.arr 2 0 80 80]]) 2 80 (cardN o.entry) k rfl cNl
 refine W_frz 23 rfl (by decide) hfz ?_
 rcases hfo with rfl | rfl
 all_goals
  refine yt9 [2, 3] (by simp [putF, yd9, catK, AV.cellsK, AV.kone, AV.koneL, hq1, hq2]; rfl) ?_
  refine zq9 ?_
  repeat (first | refine yg9 ?_ | refine yh9 ?_)
  rw [happ]
  refine ⟨_, by simp [retQ]; exact ⟨rfl, by simp [AV.rf, AV.rfL]⟩, .inr ?_⟩
  simp [AV.plain, AV.plainL, plainL_bbL31, encOR, hc, henc]
end Go.AM
namespace Go.AM
open Go.RowKit Go.Proofs
set_option linter.unusedSimpArgs false
set_option linter.unusedVariables false
set_option maxHeartbeats 1000000
def esdOf : AV → Option Esd
 | .agg [.v (.string s), .v (.int .i64 a), .v (.int .i64 b), .v (.int .i64 c), .v (.int .i64 d)] => some ⟨s.data.toList, a, b, c, d⟩
 | _ => none
theorem esdOf_eq {x : AV} {r : Esd} (h : esdOf x = some r) : x = esA r := by
 unfold esdOf at h
 split at h
 ·cases h; simp [strB]
 ·cases h
def rldOf : AV → Option Rld
 | .agg [.v (.int .i64 a), .v (.int .i64 b), .v (.int .i64 c), .v (.int .i64 d), .v (.bool e)] => some ⟨a, b, c, d, e⟩
 | _ => none
theorem rldOf_eq {x : AV} {r : Rld} (h : rldOf x = some r) : x = rdA r := by
 unfold rldOf at h
 split at h
 ·cases h; rfl
 ·cases h
def txtOf : AV → Option Txt
 | .agg [.v (.int .i64 a), .v (.int .i64 b), .lst .any 1 c] => (bytesOf c).map fun l => ⟨a, b, l⟩
 | _ => none
theorem txtOf_eq {x : AV} {r : Txt} (h : txtOf x = some r) : x = txA r := by
 unfold txtOf at h
 split at h
 ·obtain ⟨l, hl, rfl⟩ := Option.map_eq_some_iff.1 h
  rw [wj8 hl]; rfl
 ·cases h
def segOf : AV → Option Seg
 | .agg [.v (.int .i64 a), .v (.int .i64 b), .v (.int .i64 c), .v (.int .i64 d)] => some ⟨a, b, c, d⟩
 | _ => none
theorem segOf_eq {x : AV} {r : Seg} (h : segOf x = some r) : x = segA r := by
 unfold segOf at h
 split at h
 ·cases h; rfl
 ·cases h
def rloOf : AV → Option Rlo
 | .agg [.v (.int .i64 a), .v (.int .i64 b), .v (.bool c)] => some ⟨a, b, c⟩
 | _ => none
theorem rloOf_eq {x : AV} {r : Rlo} (h : rloOf x = some r) : x = rloA r := by
 unfold rloOf at h
 split at h
 ·cases h; rfl
 ·cases h
def listOf {α : Type} (f : AV → Option α) : List AV → Option (List α)
 | [] => some []
 | x :: xs => (f x).bind fun r => (listOf f xs).map fun l => r :: l
theorem yb7 {α : Type} {f : AV → Option α} {g : α → AV} (hf : ∀ x r, f x = some r → x = g r) : ∀ {xs : List AV} {l : List α}, listOf f xs = some l → xs = l.map g
 | [], l, h => by simp only [listOf, Option.some.injEq] at h; subst h; rfl
 | x :: xs, l, h => by
  simp only [listOf] at h
  obtain ⟨b, hb, h⟩ := Option.bind_eq_some_iff.1 h
  obtain ⟨l', hl, rfl⟩ := Option.map_eq_some_iff.1 h
  rw [List.map_cons, hf _ _ hb, yb7 hf hl]
def obOf : AV → Option OMod
 | .agg [.lst .any 5 a, .lst .any 3 b, .lst .any 5 c, .v (.string s)] => (listOf esdOf a).bind fun a' => (listOf txtOf b).bind fun b' => (listOf rldOf c).map fun c' => ⟨a', b', c', s.data.toList⟩
 | _ => none
theorem obOf_eq {x : AV} {o : OMod} (h : obOf x = some o) : x = obA o := by
 unfold obOf at h
 split at h
 ·obtain ⟨a', h1, h⟩ := Option.bind_eq_some_iff.1 h
  obtain ⟨b', h2, h⟩ := Option.bind_eq_some_iff.1 h
  obtain ⟨c', h3, rfl⟩ := Option.map_eq_some_iff.1 h
  rw [yb7 (fun _ _ => esdOf_eq) h1, yb7 (fun _ _ => txtOf_eq) h2, yb7 (fun _ _ => rldOf_eq) h3]
  simp [esL, txL, rdL, strB]
 ·cases h
def lmOf : AV → Option LMod
 | .agg [.lst .any 1 a, .lst .any 3 b, .lst .any 4 c, .v (.int .i64 e)] => (bytesOf a).bind fun a' => (listOf rloOf b).bind fun b' => (listOf segOf c).map fun c' => ⟨a', b', c', e⟩
 | _ => none
theorem lmOf_eq {x : AV} {m : LMod} (h : lmOf x = some m) : x = lmA m := by
 unfold lmOf at h
 split at h
 ·obtain ⟨a', h1, h⟩ := Option.bind_eq_some_iff.1 h
  obtain ⟨b', h2, h⟩ := Option.bind_eq_some_iff.1 h
  obtain ⟨c', h3, rfl⟩ := Option.map_eq_some_iff.1 h
  rw [wj8 h1, yb7 (fun _ _ => rloOf_eq) h2, yb7 (fun _ _ => segOf_eq) h3]
  simp [rlL, sgL]
 ·cases h
def i64b (x : Int) : Bool := decide (-9223372036854775808 ≤ x) && decide (x ≤ 9223372036854775807)
theorem i64b_ok {x : Int} (h : i64b x = true) : i64r x := by simpa [i64b, i64r] using h
def oinB (o : OMod) : Bool := (o.esd.all fun x => decide (x.name.length ≤ 9223372036854775807) && i64b x.addr) && ((o.txt.all fun t => i64b t.addr && decide (t.data.length ≤ 140737488355328)) && o.rld.all fun r => i64b r.addr)
theorem oinB_ok {o : OMod} (h : oinB o = true) : OIn o := by
 simp only [oinB, Bool.and_eq_true, List.all_eq_true, decide_eq_true_eq] at h
 exact ⟨fun x hx => ⟨(h.1 x hx).1, i64b_ok (h.1 x hx).2⟩, fun x hx => ⟨i64b_ok (h.2.1 x hx).1, (h.2.1 x hx).2⟩, fun x hx => i64b_ok (h.2.2 x hx)⟩
def kn31 : KnF := fun f args =>
 if f = 32 then match args with
  | [x] => (obOf x).bind fun o => if oinB o = true then some (.v (.int .i64 (if chkM o = true then 0 else 310))) else none
  | _ => none
 else if f = 19 then match args with
  | [x] => (obOf x).bind fun o => if oinB o = true then some (encOR o) else none
  | _ => none
 else if f = 61 then match args with
  | [.lst .any 1 x] => (bytesOf x).bind fun l => if l.length ≤ 100000 then some (strB (decM l)) else none
  | _ => none
 else if f = 65 then match args with
  | [.lst .any 1 x] => (bytesOf x).bind fun l => if l.length ≤ 100000 then some (strB (decM (trimM l))) else none
  | _ => none
 else if f = 34 then match args with
  | [x] => (lmOf x).bind fun m => if m.seg.length ≤ 100000 ∧ m.text.length ≤ 1000000 ∧ m.rel.length ≤ 1000000 then some (.v (.int .i64 (if ckM m = true then 0 else 310))) else none
  | _ => none
 else if f = 26 then match args with
  | [x] => (lmOf x).bind fun m => if m.seg.length ≤ 100000 ∧ m.text.length ≤ 1000000 ∧ m.rel.length ≤ 1000000 then some (encR m) else none
  | _ => none
 else none
theorem kn31_ok : KnOk Try.prog kn31 := by
 intro f args r h
 unfold kn31 at h
 split at h
 ·rename_i hf
  subst hf
  split at h
  ·obtain ⟨o, ho, h⟩ := Option.bind_eq_some_iff.1 h
   split at h
   ·rename_i hc
    cases h
    rw [obOf_eq ho]
    exact xw8 o (oinB_ok hc)
   ·cases h
  ·cases h
 split at h
 ·rename_i hf
  subst hf
  split at h
  ·obtain ⟨o, ho, h⟩ := Option.bind_eq_some_iff.1 h
   split at h
   ·rename_i hc
    cases h
    rw [obOf_eq ho]
    exact encO_sound o (oinB_ok hc)
   ·cases h
  ·cases h
 split at h
 ·rename_i hf
  subst hf
  split at h
  ·obtain ⟨l, hl, h⟩ := Option.bind_eq_some_iff.1 h
   split at h
   ·rename_i hc
    cases h
    rw [wj8 hl]
    exact decode_sound l hc
   ·cases h
  ·cases h
 split at h
 ·rename_i hf
  subst hf
  split at h
  ·obtain ⟨l, hl, h⟩ := Option.bind_eq_some_iff.1 h
   split at h
   ·rename_i hc
    cases h
    rw [wj8 hl]
    exact trim_sound l hc
   ·cases h
  ·cases h
 split at h
 ·rename_i hf
  subst hf
  split at h
  ·obtain ⟨m, hm, h⟩ := Option.bind_eq_some_iff.1 h
   split at h
   ·rename_i hc
    cases h
    rw [lmOf_eq hm]
    exact checkLoad_sound m (by omega) (by omega) (by omega)
   ·cases h
  ·cases h
 split at h
 ·rename_i hf
  subst hf
  split at h
  ·obtain ⟨m, hm, h⟩ := Option.bind_eq_some_iff.1 h
   split at h
   ·rename_i hc
    cases h
    rw [lmOf_eq hm]
    exact encL_sound m (by omega) (by omega) (by omega)
   ·cases h
  ·cases h
 cases h
end Go.AM
namespace Go.AM
open Go.RowKit Go.Proofs
set_option linter.unusedSimpArgs false
set_option linter.unusedVariables false
set_option maxHeartbeats 4000000
def shP : List UInt8 → List (Nat × List UInt8) → List UInt8
 | c, [] => c
 | c, x :: l => shP (putM c x.1 x.2) l
def shF (name : List UInt8) (it : List (Nat × List UInt8)) : List UInt8 := shP (putM (xp9 80) 0 (2 :: name)) it
def ofsL (it : List (Nat × List UInt8)) : List AV := it.map fun x => .v (.int .i64 (x.1 : Nat))
def stsL (it : List (Nat × List UInt8)) : List AV := it.map fun x => strB x.2
@[simp] theorem ofsL_len (it) : (ofsL it).length = it.length := by simp [ofsL]
@[simp] theorem stsL_len (it) : (stsL it).length = it.length := by simp [stsL]
@[simp] theorem ofsL_getElem (l) (i : Nat) (h : i < (ofsL l).length) : (ofsL l)[i] = .v (.int .i64 ((l[i]'(by simpa using h)).1 : Nat)) := by simp [ofsL]
@[simp] theorem stsL_getElem (l) (i : Nat) (h : i < (stsL l).length) : (stsL l)[i] = strB (l[i]'(by simpa using h)).2 := by simp [stsL]
theorem strA_addB (a b : List UInt8) (hl : a.length + b.length ≤ 9223372036854775807) : strA .add ⟨a.toArray⟩ ⟨b.toArray⟩ = some (.v (.string ⟨(a ++ b).toArray⟩)) := by
 have h : (ByteArray.mk a.toArray ++ ByteArray.mk b.toArray) = ByteArray.mk (a ++ b).toArray := by
  apply ByteArray.ext
  rw [ByteArray.data_append]
  simp
 have h2 : ((ByteArray.mk a.toArray).size : Int) + (ByteArray.mk b.toArray).size ≤ 9223372036854775807 := by simp [ByteArray.size]; omega
 simp only [strA, h, if_pos h2]
theorem fillS (i n : Nat) (h : i < n) : yd9 (byL (List.replicate i 64 ++ List.replicate (n - i) 0)) i [.v (.int .u8 64)] = byL (List.replicate (i + 1) 64 ++ List.replicate (n - (i + 1)) 0) := by
 obtain ⟨m, rfl⟩ : ∃ m, n = i + 1 + m := ⟨n - (i + 1), by omega⟩
 have e1 : i + 1 + m - i = m + 1 := by omega
 have e2 : i + 1 + m - (i + 1) = m := by omega
 rw [e1, e2, wh9, yd9, List.replicate_succ' (n := i), List.replicate_succ (n := m), vf9, wh9, wh9]
 rw [List.take_append_of_le_length (by simp), List.take_of_length_le (by simp), List.drop_append]
 simp [byL]
theorem shows_sound (b name : List UInt8) (it : List (Nat × List UInt8)) (hn : name.length ≤ 79) (hb : b.length ≤ 1000000) (hl : it.length ≤ 1000) (hit : ∀ x ∈ it, x.1 + x.2.length ≤ 80 ∧ x.1 < 80) :
  Sound Try.prog 42 [.lst .any 1 (byL b), strB name, .lst .any 1 (ofsL it), .lst .any 1 (stsL it)] (.v (.bool (b == shF name it))) := by
 refine zj9 Try.func42 rfl (by decide +kernel) (by simp [Try.f42]) (by simp [AV.rfL, AV.rf, strB, ofsL, stsL]) (by simp [AV.tlL, AV.tl, strB]) (rs := [.tmp 8]) rfl ?_
 rw [show Try.f42.ntmps = 48 from rfl]
 simp only [strB]
 refine yt9 [0, 1, 2, 3] (by simp; rfl) ?_
 refine yt9 [0, 1, 2, 3, 9] (by simp; rfl) ?_
 refine yc9 ?_
 refine yt9 [0, 1, 2, 3, 9, 14, 15] (by simp; rfl) ?_
 refine yp9 ?_
 obtain ⟨n, hn80⟩ : ∃ n : Nat, n = 80 := ⟨_, rfl⟩
 refine zn9 (fun k σ => ∃ i : Nat, k = n - i ∧ i ≤ n ∧ σ = ⟨48, [(0, .lst .any 1 (byL b)), (1, .v (.string ⟨name.toArray⟩)), (2, .lst .any 1 (ofsL it)), (3, .lst .any 1 (stsL it)), (9, .arr 0 0 80 80), (14, .v (.int .i64 80)), (15, .v (.int .i64 (i : Nat)))], [.cells 5 (byL (List.replicate i 64 ++ List.replicate (n - i) 0))]⟩) (k := n) ⟨0, rfl, by omega, ?_⟩ ?_
 ·rw [repC_byL31]
  subst hn80
  rfl
 ·rintro k σ ⟨i, rfl, hi, rfl⟩
  by_cases c : i < n
  ·have ci : (i : Int) < 80 := by omega
   have ci2 : i < 80 := by omega
   have wi := w64 (n := (i : Int) + 1) (by omega) (by omega)
   have hL : (byL (List.replicate i 64 ++ List.replicate (n - i) 0)).length = 80 := by simp; omega
   have hf := fillS i n c
   obtain ⟨z, hz⟩ : ∃ z, byL (List.replicate i 64 ++ List.replicate (n - i) 0) = z := ⟨_, rfl⟩
   rw [hz] at hL hf ⊢
   have h1 : i + 1 ≤ z.length := by omega
   refine yt9 [0, 1, 2, 3, 9, 14, 15, 16] (by simp [ci]; rfl) ?_
   refine yc9 ?_
   refine ys9 rfl (fun h => ?_) (fun h => by simp at h)
   refine yk9 ?_
   refine yc9 ?_
   refine yp9 ?_
   refine yt9 [0, 1, 2, 3, 9, 14, 15, 10] (by simp; rfl) ?_
   refine zd9 [0, 1, 2, 3, 9, 14, 15] (by simp [ci, ci2, h1]; rfl) ?_
   refine zd9 [0, 1, 2, 3, 9, 14, 15] (by simp [wi]; rfl) ?_
   exact ⟨_, by omega, i + 1, rfl, by omega, by rw [← hf]; simp⟩
  have hie : i = 80 := by omega
  have hfin : byL (List.replicate i 64 ++ List.replicate (n - i) 0) = byL (xp9 80) := by
   rw [hie, hn80, Nat.sub_self, List.replicate_zero, List.append_nil]
   rfl
  rw [hfin]
  have ci : ¬ (i : Int) < 80 := by omega
  refine yt9 [0, 1, 2, 3, 9, 16] (by simp [ci]; rfl) ?_
  refine yc9 ?_
  refine ys9 rfl (fun h => by simp at h) (fun h => ?_)
  refine zc9 ?_
  have hroom : ∀ (c l : List UInt8) (at_ : Nat), at_ + l.length ≤ c.length → yd9 (byL c) at_ (byL l) = byL (putM c at_ l) := fun c l at_ h => by
   have := xt8 c l 0 at_ h
   simpa [zt9] using this
  have hadd := strA_addB [2] name (by simp; omega)
  simp only [List.singleton_append] at hadd
  have hsz1 : (ByteArray.mk (2 :: name).toArray).size = name.length + 1 := by simp [ByteArray.size]
  have hmin1 : min (ByteArray.mk (2 :: name).toArray).size 80 = name.length + 1 := by rw [hsz1]; omega
  have hl0 : (xp9 80).length = 80 := by simp
  refine W_rGK [0, 2, 3, 9] ?_
  refine runG_A 3 _ _ ?_
  refine yw9 (by simp [hadd]; rfl) ?_
  refine runG_W rfl ?_
  refine stepW_copyS (t := 27) (t' := 9) (e := 5) (id := 0) (off := 0) (len := 80) (cap := 80) (ag := false) (cs := byL (xp9 80)) (b := ⟨(2 :: name).toArray⟩) rfl rfl rfl rfl (by simp) (by simp) (by simp) (by simp) (by simp) ?_
  have hcp : yd9 (byL (xp9 80)) 0 (byL ((ByteArray.mk (2 :: name).toArray).data.toList.take (name.length + 1))) = byL (putM (xp9 80) 0 (2 :: name)) := by
   rw [show (ByteArray.mk (2 :: name).toArray).data.toList = 2 :: name from rfl, List.take_of_length_le (by simp), hroom _ _ 0 (by simp; omega)]
  rw [hmin1, hcp]
  refine ⟨_, by simp; rfl, ?_⟩
  obtain ⟨F, hF⟩ : ∃ F, shP (putM (xp9 80) 0 (2 :: name)) it = F := ⟨_, rfl⟩
  have hFd : shF name it = F := hF
  rw [hFd]
  refine ws9 (fun σ => F.length = 80 ∧ σ = ⟨48, [(0, .lst .any 1 (byL b)), (9, .arr 0 0 80 80)], [.cells 5 (byL F)]⟩) ?_ ?_
  ·refine yt9 [0, 2, 3, 9, 27, 28] (by simp; rfl) ?_
   refine yp9 ?_
   refine zn9 (fun k σ => ∃ (i : Nat) (cc : List UInt8), k = it.length - i ∧ i ≤ it.length ∧ cc.length = 80 ∧ shP cc (it.drop i) = F ∧ σ = ⟨48, [(0, .lst .any 1 (byL b)), (2, .lst .any 1 (ofsL it)), (3, .lst .any 1 (stsL it)), (9, .arr 0 0 80 80), (27, .v (.int .i64 (it.length : Nat))), (28, .v (.int .i64 (i : Nat)))], [.cells 5 (byL cc)]⟩) (k := it.length) ⟨0, _, rfl, by omega, by rw [xw9 _ _ _ (by simp; omega)]; simp, hF, by simp⟩ ?_
   rintro k σ ⟨i, cc, rfl, hi, hcl, hsh, rfl⟩
   by_cases c : i < it.length
   ·have ci : (i : Int) < it.length := by omega
    obtain ⟨x, hs⟩ : ∃ x, it[i]? = some x := ⟨_, List.getElem?_eq_getElem c⟩
    have hs2 : it[i]'c = x := by rw [List.getElem?_eq_getElem c] at hs; exact Option.some.inj hs
    have hdr : it.drop i = x :: it.drop (i + 1) := by rw [List.drop_eq_getElem_cons c, hs2]
    obtain ⟨q1, q2⟩ := hit x (List.mem_of_getElem? hs)
    obtain ⟨p, t⟩ := x
    simp only at q1 q2
    have wi := w64 (n := (i : Int) + 1) (by omega) (by omega)
    have p1 : (p : Int) ≤ 80 := by omega
    have p2 : p ≤ 80 := by omega
    have p3 : ¬ 80 = p := by omega
    have hsz2 : (ByteArray.mk t.toArray).size = t.length := by simp [ByteArray.size]
    have hmin2 : min (ByteArray.mk t.toArray).size (80 - p) = t.length := by rw [hsz2]; omega
    rw [hdr, shP] at hsh
    refine yt9 [0, 2, 3, 9, 27, 28, 29] (by simp [ci]; rfl) ?_
    refine yc9 ?_
    refine ys9 rfl (fun h => ?_) (fun h => by simp [c] at h)
    refine yk9 ?_
    refine yc9 ?_
    refine yp9 ?_
    refine yt9 [0, 2, 3, 9, 27, 28, 11] (by simp; rfl) ?_
    refine vr9 [0, 2, 3, 9, 27, 28] (W_drawP 10 mx (by decide +kernel) ?_)
    refine yr9 5 (by simp [c, ci, hs2]; rfl) rfl ?_
    refine zf9 (by simp [c, ci, hs2, p1, p2, p3, strB]; rfl) ?_
    refine anyT_allG [10] (by decide +kernel) (by simp) ?_
    intro j hj
    simp only [List.mem_cons, List.not_mem_nil, or_false] at hj
    subst hj
    refine ⟨_, rfl, ?_⟩
    refine .inr ⟨rfl, ?_⟩
    refine stepW_copyS (t := 27) (t' := 9) (e := 5) (id := 0) (off := p) (len := 80 - p) (cap := 80 - p) (ag := false) (cs := byL cc) (b := ⟨t.toArray⟩) rfl rfl rfl rfl (by simp) (by simp) (by simp) (by simp) (by simp; omega) ?_
    have hcp2 : yd9 (byL cc) p (byL ((ByteArray.mk t.toArray).data.toList.take t.length)) = byL (putM cc p t) := by
     rw [show (ByteArray.mk t.toArray).data.toList = t from rfl, List.take_of_length_le (by simp), hroom _ _ p (by omega)]
    rw [hmin2, hcp2]
    refine ⟨_, by simp; rfl, ?_⟩
    refine xj8 (by decide +kernel) ?_
    refine zd9 [0, 2, 3, 9, 27, 28] (by simp [wi]; rfl) ?_
    exact ⟨_, by omega, i + 1, putM cc p t, rfl, by omega, by rw [xw9 _ _ _ (by omega)]; exact hcl, hsh, by simp⟩
   have hie : i = it.length := by omega
   rw [hie, List.drop_length, shP] at hsh
   subst hsh
   refine yt9 [0, 9, 29] (by simp [c]; rfl) ?_
   refine yc9 ?_
   refine ys9 rfl (fun h => by simp [hie] at h) (fun h => ?_)
   refine ym9 [0, 9] ?_
   refine zc9 ?_
   exact ⟨hcl, by simp⟩
  rintro _ ⟨hFl, rfl⟩
  have hchunk : chunk false 1 80 (byL F) = byL F := by rw [xg8 _ _ (by omega), List.take_of_length_le (by omega)]
  refine W_rK [8] ?_
  refine yq9 3 (by simp; rfl) rfl ?_
  have htk : (byL F).take 80 = byL F := by rw [List.take_of_length_le (by simp; omega)]
  refine runA_b (by simp) ⟨_, by simp [evSame, evLent, hchunk, htk, hFl]; rfl, ?_⟩
  refine yw9 (by simp; rfl) ?_
  refine zq9 ?_
  repeat (first | refine yg9 ?_ | refine yh9 ?_)
  simp [retQ]
end Go.AM
namespace Go.AM
open Go.RowKit Go.Proofs
set_option linter.unusedSimpArgs false
set_option linter.unusedVariables false
set_option maxHeartbeats 1000000
def showOf : List AV → List AV → Option (List (Nat × List UInt8))
 | [], [] => some []
 | .v (.int .i64 (.ofNat n)) :: a, .v (.string t) :: b => (showOf a b).map fun l => (n, t.data.toList) :: l
 | _, _ => none
theorem showOf_eq : ∀ {a b : List AV} {l : List (Nat × List UInt8)}, showOf a b = some l → a = ofsL l ∧ b = stsL l
 | [], [], l, h => by simp only [showOf, Option.some.injEq] at h; subst h; exact ⟨rfl, rfl⟩
 | x :: a, y :: b, l, h => by
  unfold showOf at h
  split at h
  ·rename_i h1 _; cases h1
  ·rename_i n a' t b' h1 h2
   cases h1
   cases h2
   obtain ⟨l', hl, rfl⟩ := Option.map_eq_some_iff.1 h
   obtain ⟨rfl, rfl⟩ := showOf_eq hl
   exact ⟨rfl, rfl⟩
  ·cases h
 | [], _ :: _, l, h => by simp [showOf] at h
 | _ :: _, [], l, h => by simp [showOf] at h
def knS : KnF := fun f args =>
 if f = 42 then match args with
  | [.lst .any 1 x, .v (.string nm), .lst .any 1 a, .lst .any 1 b] => (bytesOf x).bind fun l => (showOf a b).bind fun it =>
    if (nm.data.toList.length ≤ 79 ∧ l.length ≤ 1000000 ∧ it.length ≤ 1000) ∧ (it.all fun x => decide (x.1 + x.2.length ≤ 80) && decide (x.1 < 80)) = true then some (.v (.bool (l == shF nm.data.toList it))) else none
  | _ => none
 else kn31 f args
theorem knS_ok : KnOk Try.prog knS := by
 intro f args r h
 unfold knS at h
 split at h
 ·rename_i hf
  subst hf
  split at h
  ·rename_i x nm a b
   obtain ⟨l, hl, h⟩ := Option.bind_eq_some_iff.1 h
   obtain ⟨it, hit, h⟩ := Option.bind_eq_some_iff.1 h
   split at h
   ·rename_i hc
    cases h
    obtain ⟨⟨h1, h2, h3⟩, h4⟩ := hc
    obtain ⟨rfl, rfl⟩ := showOf_eq hit
    rw [wj8 hl]
    have := shows_sound l nm.data.toList it h1 h2 h3 (fun x hx => by
     have := List.all_eq_true.1 h4 x hx
     simpa using this)
    simpa [strB] using this
   ·cases h
  ·cases h
 ·exact kn31_ok f args r h
end Go.AM
namespace Go.AM
open Go.RowKit Go.Proofs
set_option linter.unusedSimpArgs false
set_option linter.unusedVariables false
set_option maxHeartbeats 4000000
def all2 {α β : Type} (f : α → β → Bool) : List α → List β → Bool
 | x :: l, y :: m => f x y && all2 f l m
 | _, _ => true
def esV (x : Esd) : List Value := [.string ⟨x.name.toArray⟩, .int .i64 x.kind, .int .i64 x.id, .int .i64 x.addr, .int .i64 x.len]
def rdV (r : Rld) : List Value := [.int .i64 r.in_, .int .i64 r.to_, .int .i64 r.addr, .int .i64 r.len, .bool r.neg]
noncomputable def fs78 : List Field := (Try.prog.fieldsOf 78).toList
noncomputable def fs80 : List Field := (Try.prog.fieldsOf 80).toList
def esEq (x y : Esd) : Bool := x.name == y.name && (x.kind == y.kind && (x.id == y.id && (x.addr == y.addr && x.len == y.len)))
def rdEq (x y : Rld) : Bool := x.in_ == y.in_ && (x.to_ == y.to_ && (x.addr == y.addr && (x.len == y.len && x.neg == y.neg)))
def txEq (x y : Txt) : Bool := x.id == y.id && (x.addr == y.addr && x.data == y.data)
theorem es_eq (x y : Esd) : eqFv fs78 (esV x) (esV y) = esEq x y := by
 have hf : fs78.map (fun f => f.offset) = [0, 1, 2, 3, 4] := by kernel_rfl
 have key : ∀ us vs : List Value, eqFv fs78 us vs = (fs78.map fun f => f.offset).all fun i => pv (us.getD i undef) (vs.getD i undef) := by
  intro us vs; simp [eqFv, List.all_map, Function.comp_def]
 rw [key, hf]
 simp [esV, pv, esEq, Lib.toList_data]
theorem rd_eq (x y : Rld) : eqFv fs80 (rdV x) (rdV y) = rdEq x y := by
 have hf : fs80.map (fun f => f.offset) = [0, 1, 2, 3, 4] := by kernel_rfl
 have key : ∀ us vs : List Value, eqFv fs80 us vs = (fs80.map fun f => f.offset).all fun i => pv (us.getD i undef) (vs.getD i undef) := by
  intro us vs; simp [eqFv, List.all_map, Function.comp_def]
 rw [key, hf]
 simp [rdV, pv, rdEq]
theorem es_ok (x y : Esd) : okF Try.prog fs78 (esV x) (esV y) = true := by kernel_rfl
theorem rd_ok (x y : Rld) : okF Try.prog fs80 (rdV x) (rdV y) = true := by kernel_rfl
def headE (a b : OMod) : Bool := decide (a.esd.length = b.esd.length) && (decide (a.txt.length = b.txt.length) && (decide (a.rld.length = b.rld.length) && (a.entry == b.entry)))
def eqM (a b : OMod) : Bool := headE a b && (all2 esEq a.esd b.esd && (all2 txEq a.txt b.txt && all2 rdEq a.rld b.rld))
theorem objEqual_sound (a b : OMod) (h1 : a.esd.length ≤ 1000000) (h2 : a.txt.length ≤ 1000000) (h3 : a.rld.length ≤ 1000000) : Sound Try.prog 21 [obA a, obA b] (.v (.bool (eqM a b))) := by
 refine zj9 Try.func21 rfl (by decide +kernel) (by simp [Try.f21]) (by simp [AV.rfL, AV.rf, strB]) (by simp [AV.tlL, AV.tl, strB]) (rs := [.tmp 4]) rfl ?_
 rw [show Try.f21.ntmps = 128 from rfl]
 refine yt9 [2, 3] (by simp; rfl) ?_
 refine (show Wt true 0 Try.prog _ _ ⟨128, [(2, .loc 0 0), (3, .loc 1 0)], [.cells 26 (obC a), .cells 26 (obC b)]⟩ from ?_)
 refine xv9 (fun σ => headE a b = true ∧ σ = ⟨128, [(2, .loc 0 0), (3, .loc 1 0)], [.cells 26 (obC a), .cells 26 (obC b)]⟩) ?_ ?_
 ·by_cases c1 : a.esd.length = b.esd.length
  ·have c1a : a.esd.length = b.esd.length := c1
   by_cases c2 : a.txt.length = b.txt.length
   ·have c2a : a.txt.length = b.txt.length := c2
    by_cases c3 : a.rld.length = b.rld.length
    ·have c3a : a.rld.length = b.rld.length := c3
     by_cases c4 : a.entry = b.entry
     ·have c4a : a.entry = b.entry := c4
      refine W_rK [2, 3, 39] ?_
      refine yq9 8 (by simp [obC, c1a, c2a, c3a, c4a]; rfl) rfl ?_
      refine yq9 8 (by simp [obC, c1a, c2a, c3a, c4a]; rfl) rfl ?_
      refine yq9 8 (by simp [obC, c1a, c2a, c3a, c4a]; rfl) rfl ?_
      refine yw9 (by simp [obC, strB, c1a, c2a, c3a, c4a]; rfl) ?_
      refine ys9 rfl (fun h => by simp at h) (fun h => ?_)
      refine ym9 [2, 3] ?_
      refine yk9 ?_
      exact ⟨by simp [headE, c1a, c2a, c3a, c4a], by simp [obC, strB, c1a, c2a, c3a, c4a]⟩
     have c4a : ¬ a.entry = b.entry := c4
     have c4b : (a.entry == b.entry) = false := beq_eq_false_iff_ne.2 c4
     refine W_rK [2, 3, 39] ?_
     refine yq9 8 (by simp [obC, c1a, c2a, c3a, c4a, c4b]; rfl) rfl ?_
     refine yq9 8 (by simp [obC, c1a, c2a, c3a, c4a, c4b]; rfl) rfl ?_
     refine yq9 8 (by simp [obC, c1a, c2a, c3a, c4a, c4b]; rfl) rfl ?_
     refine yw9 (by simp [obC, strB, c1a, c2a, c3a, c4a, c4b]; rfl) ?_
     refine ys9 rfl (fun h => ?_) (fun h => by simp at h)
     refine yt9 [4] (by simp; rfl) ?_
     refine zq9 ?_
     repeat (first | refine yg9 ?_ | refine yh9 ?_)
     simp [retQ, eqM, headE, c1a, c2a, c3a, c4a, c4b]
    have c3a : ¬ a.rld.length = b.rld.length := c3
    have c3b : (((a.rld.length : Nat) : Int) == (b.rld.length : Nat)) = false := by rw [beq_eq_false_iff_ne]; omega
    have c3c : (((a.rld.length : Nat) : Int) != (b.rld.length : Nat)) = true := by rw [bne_iff_ne]; omega
    refine W_rK [2, 3, 39] ?_
    refine yq9 8 (by simp [obC, c1a, c2a, c3a, c3b, c3c]; rfl) rfl ?_
    refine yq9 8 (by simp [obC, c1a, c2a, c3a, c3b, c3c]; rfl) rfl ?_
    refine yq9 8 (by simp [obC, c1a, c2a, c3a, c3b, c3c]; rfl) rfl ?_
    refine yw9 (by simp [obC, strB, c1a, c2a, c3a, c3b, c3c]; rfl) ?_
    refine ys9 rfl (fun h => ?_) (fun h => by simp at h)
    refine yt9 [4] (by simp; rfl) ?_
    refine zq9 ?_
    repeat (first | refine yg9 ?_ | refine yh9 ?_)
    simp [retQ, eqM, headE, c1a, c2a, c3a, c3b, c3c]
   have c2a : ¬ a.txt.length = b.txt.length := c2
   have c2b : (((a.txt.length : Nat) : Int) == (b.txt.length : Nat)) = false := by rw [beq_eq_false_iff_ne]; omega
   have c2c : (((a.txt.length : Nat) : Int) != (b.txt.length : Nat)) = true := by rw [bne_iff_ne]; omega
   refine W_rK [2, 3, 39] ?_
   refine yq9 8 (by simp [obC, c1a, c2a, c2b, c2c]; rfl) rfl ?_
   refine yq9 8 (by simp [obC, c1a, c2a, c2b, c2c]; rfl) rfl ?_
   refine yq9 8 (by simp [obC, c1a, c2a, c2b, c2c]; rfl) rfl ?_
   refine yw9 (by simp [obC, strB, c1a, c2a, c2b, c2c]; rfl) ?_
   refine ys9 rfl (fun h => ?_) (fun h => by simp at h)
   refine yt9 [4] (by simp; rfl) ?_
   refine zq9 ?_
   repeat (first | refine yg9 ?_ | refine yh9 ?_)
   simp [retQ, eqM, headE, c1a, c2a, c2b, c2c]
  have c1a : ¬ a.esd.length = b.esd.length := c1
  have c1b : (((a.esd.length : Nat) : Int) == (b.esd.length : Nat)) = false := by rw [beq_eq_false_iff_ne]; omega
  have c1c : (((a.esd.length : Nat) : Int) != (b.esd.length : Nat)) = true := by rw [bne_iff_ne]; omega
  refine W_rK [2, 3, 39] ?_
  refine yq9 8 (by simp [obC, c1a, c1b, c1c]; rfl) rfl ?_
  refine yq9 8 (by simp [obC, c1a, c1b, c1c]; rfl) rfl ?_
  refine yq9 8 (by simp [obC, c1a, c1b, c1c]; rfl) rfl ?_
  refine yw9 (by simp [obC, strB, c1a, c1b, c1c]; rfl) ?_
  refine ys9 rfl (fun h => ?_) (fun h => by simp at h)
  refine yt9 [4] (by simp; rfl) ?_
  refine zq9 ?_
  repeat (first | refine yg9 ?_ | refine yh9 ?_)
  simp [retQ, eqM, headE, c1a, c1b, c1c]
 rintro _ ⟨hhd, rfl⟩
 have hhd2 := hhd
 simp only [headE, Bool.and_eq_true, decide_eq_true_eq, beq_iff_eq] at hhd2
 obtain ⟨e1, e2, e3, e4⟩ := hhd2
 refine xv9 (fun σ => all2 esEq a.esd b.esd = true ∧ σ = ⟨128, [(2, .loc 0 0), (3, .loc 1 0)], [.cells 26 (obC a), .cells 26 (obC b)]⟩) ?_ ?_
 ·refine yt9 [2, 3, 42, 43] (by simp [obC]; rfl) ?_
  refine yp9 ?_
  refine zn9 (fun k σ => ∃ i : Nat, k = a.esd.length - i ∧ i ≤ a.esd.length ∧ all2 esEq a.esd b.esd = all2 esEq (a.esd.drop i) (b.esd.drop i) ∧ σ = ⟨128, [(2, .loc 0 0), (3, .loc 1 0), (42, .v (.int .i64 (a.esd.length : Nat))), (43, .v (.int .i64 (i : Nat)))], [.cells 26 (obC a), .cells 26 (obC b)]⟩) (k := a.esd.length) ⟨0, rfl, by omega, by simp, by simp [obC, strB]⟩ ?_
  rintro k σ ⟨i, rfl, hi, hall, rfl⟩
  by_cases c : i < a.esd.length
  ·have cb : i < b.esd.length := by omega
   have ci : (i : Int) < a.esd.length := by omega
   have cib : (i : Int) < b.esd.length := by omega
   obtain ⟨x, hs⟩ : ∃ x, a.esd[i]? = some x := ⟨_, List.getElem?_eq_getElem c⟩
   have hx2 : a.esd[i]'c = x := by rw [List.getElem?_eq_getElem c] at hs; exact Option.some.inj hs
   obtain ⟨y, hy⟩ : ∃ y, b.esd[i]? = some y := ⟨_, List.getElem?_eq_getElem cb⟩
   have hy2 : b.esd[i]'cb = y := by rw [List.getElem?_eq_getElem cb] at hy; exact Option.some.inj hy
   rw [List.drop_eq_getElem_cons c, hx2, List.drop_eq_getElem_cons cb, hy2, all2] at hall
   have wi := w64 (n := (i : Int) + 1) (by omega) (by omega)
   refine yt9 [2, 3, 42, 43, 44] (by simp [ci]; rfl) ?_
   refine yc9 ?_
   refine ys9 rfl (fun h => ?_) (fun h => by simp [c] at h)
   refine yk9 ?_
   refine yc9 ?_
   refine yp9 ?_
   refine yt9 [2, 3, 42, 43, 5] (by simp; rfl) ?_
   refine ws9 (fun σ => σ = ⟨128, [(2, .loc 0 0), (3, .loc 1 0), (42, .v (.int .i64 (a.esd.length : Nat))), (43, .v (.int .i64 (i : Nat))), (56, .v (.bool (!esEq x y)))], [.cells 26 (obC a), .cells 26 (obC b)]⟩) ?_ ?_
   ·refine vr9 [2, 3, 42, 43, 56] (W_drawP 10 mx (by decide +kernel) ?_)
    refine yr9 5 (by simp [obC, c, ci, hx2]; rfl) rfl ?_
    refine zf9 (by simp [obC, cb, cib, hy2]; rfl) ?_
    refine anyT_allG [10] (by decide +kernel) (by simp) ?_
    intro j hj
    simp only [List.mem_cons, List.not_mem_nil, or_false] at hj
    subst hj
    refine ⟨_, rfl, ?_⟩
    refine .inr ⟨rfl, ?_⟩
    refine stepW_neqAgg (t := 78) (k1 := 50) (k2 := 55) (us := esV x) (vs := esV y) (fs := fs78) rfl (by simp [esV, strB]) (by simp [esV, strB]) (by kernel_rfl) (by kernel_rfl) (by kernel_rfl) rfl (es_ok x y) ?_
    rw [es_eq]
    refine ⟨_, by simp; rfl, ?_⟩
    refine xj8 (by decide +kernel) ?_
    simp [yf9, wt8, obC, strB]
   rintro _ rfl
   by_cases hq : esEq x y = true
   rotate_left
   ·have hqf : esEq x y = false := by simpa using hq
    refine ys9 (t := true) (by simp [hqf]) (fun h => ?_) (fun h => by simp at h)
    refine yt9 [4] (by simp; rfl) ?_
    refine zq9 ?_
    repeat (first | refine yg9 ?_ | refine yh9 ?_)
    rw [hqf, Bool.false_and] at hall
    simp [retQ, eqM, hhd, hall]
   refine ys9 (t := false) (by simp [hq]) (fun h => by simp at h) (fun h => ?_)
   refine yk9 ?_
   rw [hq, Bool.true_and] at hall
   refine zd9 [2, 3, 42, 43] (by simp [wi]; rfl) ?_
   exact ⟨_, by omega, i + 1, rfl, by omega, hall, by simp [obC, strB]⟩
  have hie : i = a.esd.length := by omega
  rw [hie, List.drop_length] at hall
  refine yt9 [2, 3, 42, 43, 44] (by simp [c]; rfl) ?_
  refine yc9 ?_
  refine ys9 rfl (fun h => by simp [hie] at h) (fun h => ?_)
  refine ym9 [2, 3] ?_
  refine zc9 ?_
  exact ⟨by rw [hall]; rfl, by simp [obC, strB]⟩
 rintro _ ⟨ha1, rfl⟩
 refine xv9 (fun σ => all2 txEq a.txt b.txt = true ∧ σ = ⟨128, [(2, .loc 0 0), (3, .loc 1 0)], [.cells 26 (obC a), .cells 26 (obC b)]⟩) ?_ ?_
 ·refine yt9 [2, 3, 60, 61] (by simp [obC]; rfl) ?_
  refine yp9 ?_
  refine zn9 (fun k σ => ∃ i : Nat, k = a.txt.length - i ∧ i ≤ a.txt.length ∧ all2 txEq a.txt b.txt = all2 txEq (a.txt.drop i) (b.txt.drop i) ∧ σ = ⟨128, [(2, .loc 0 0), (3, .loc 1 0), (60, .v (.int .i64 (a.txt.length : Nat))), (61, .v (.int .i64 (i : Nat)))], [.cells 26 (obC a), .cells 26 (obC b)]⟩) (k := a.txt.length) ⟨0, rfl, by omega, by simp, by simp [obC, strB]⟩ ?_
  rintro k σ ⟨i, rfl, hi, hall, rfl⟩
  by_cases c : i < a.txt.length
  ·have cb : i < b.txt.length := by omega
   have ci : (i : Int) < a.txt.length := by omega
   have cib : (i : Int) < b.txt.length := by omega
   obtain ⟨x, hs⟩ : ∃ x, a.txt[i]? = some x := ⟨_, List.getElem?_eq_getElem c⟩
   have hx2 : a.txt[i]'c = x := by rw [List.getElem?_eq_getElem c] at hs; exact Option.some.inj hs
   obtain ⟨y, hy⟩ : ∃ y, b.txt[i]? = some y := ⟨_, List.getElem?_eq_getElem cb⟩
   have hy2 : b.txt[i]'cb = y := by rw [List.getElem?_eq_getElem cb] at hy; exact Option.some.inj hy
   rw [List.drop_eq_getElem_cons c, hx2, List.drop_eq_getElem_cons cb, hy2, all2] at hall
   have wi := w64 (n := (i : Int) + 1) (by omega) (by omega)
   refine yt9 [2, 3, 60, 61, 62] (by simp [ci]; rfl) ?_
   refine yc9 ?_
   refine ys9 rfl (fun h => ?_) (fun h => by simp [c] at h)
   refine yk9 ?_
   refine yc9 ?_
   refine yp9 ?_
   refine yt9 [2, 3, 60, 61, 6] (by simp; rfl) ?_
   refine ws9 (fun σ => σ = ⟨128, [(2, .loc 0 0), (3, .loc 1 0), (60, .v (.int .i64 (a.txt.length : Nat))), (61, .v (.int .i64 (i : Nat))), (108, .v (.bool (!txEq x y)))], [.cells 26 (obC a), .cells 26 (obC b)]⟩) ?_ ?_
   ·by_cases d1 : x.id = y.id
    ·have d1a : x.id = y.id := d1
     by_cases d2 : x.addr = y.addr
     ·have d2a : x.addr = y.addr := d2
      by_cases d3 : x.data = y.data
      ·have d3a : x.data = y.data := d3
       refine xt7 [2, 3, 60, 61, 108] mx (by decide +kernel) ?_
       refine yr9 6 (by simp [obC, c, ci, hx2, cb, cib, hy2, d1a, d2a, d3a]; rfl) rfl ?_
       refine yr9 6 (by simp [obC, c, ci, hx2, cb, cib, hy2, d1a, d2a, d3a]; rfl) rfl ?_
       refine yr9 8 (by simp [obC, c, ci, hx2, cb, cib, hy2, d1a, d2a, d3a]; rfl) rfl ?_
       refine yr9 8 (by simp [obC, c, ci, hx2, cb, cib, hy2, d1a, d2a, d3a]; rfl) rfl ?_
       refine yr9 8 (by simp [obC, c, ci, hx2, cb, cib, hy2, d1a, d2a, d3a]; rfl) rfl ?_
       refine zf9 (by simp [obC, c, ci, hx2, cb, cib, hy2, d1a, d2a, d3a]; rfl) ?_
       simp [yf9, txEq, obC, strB, d1a, d2a, d3a]
      have d3a : ¬ x.data = y.data := d3
      have d3b : (x.data == y.data) = false := beq_eq_false_iff_ne.2 d3
      have d3c : (x.data != y.data) = true := bne_iff_ne.2 d3
      refine xt7 [2, 3, 60, 61, 108] mx (by decide +kernel) ?_
      refine yr9 6 (by simp [obC, c, ci, hx2, cb, cib, hy2, d1a, d2a, d3a, d3b, d3c]; rfl) rfl ?_
      refine yr9 6 (by simp [obC, c, ci, hx2, cb, cib, hy2, d1a, d2a, d3a, d3b, d3c]; rfl) rfl ?_
      refine yr9 8 (by simp [obC, c, ci, hx2, cb, cib, hy2, d1a, d2a, d3a, d3b, d3c]; rfl) rfl ?_
      refine yr9 8 (by simp [obC, c, ci, hx2, cb, cib, hy2, d1a, d2a, d3a, d3b, d3c]; rfl) rfl ?_
      refine yr9 8 (by simp [obC, c, ci, hx2, cb, cib, hy2, d1a, d2a, d3a, d3b, d3c]; rfl) rfl ?_
      refine zf9 (by simp [obC, c, ci, hx2, cb, cib, hy2, d1a, d2a, d3a, d3b, d3c]; rfl) ?_
      simp [yf9, txEq, obC, strB, d1a, d2a, d3a, d3b, d3c]
     have d2a : ¬ x.addr = y.addr := d2
     have d2b : (x.addr == y.addr) = false := beq_eq_false_iff_ne.2 d2
     have d2c : (x.addr != y.addr) = true := bne_iff_ne.2 d2
     refine xt7 [2, 3, 60, 61, 108] mx (by decide +kernel) ?_
     refine yr9 6 (by simp [obC, c, ci, hx2, cb, cib, hy2, d1a, d2a, d2b, d2c]; rfl) rfl ?_
     refine yr9 6 (by simp [obC, c, ci, hx2, cb, cib, hy2, d1a, d2a, d2b, d2c]; rfl) rfl ?_
     refine yr9 8 (by simp [obC, c, ci, hx2, cb, cib, hy2, d1a, d2a, d2b, d2c]; rfl) rfl ?_
     refine yr9 8 (by simp [obC, c, ci, hx2, cb, cib, hy2, d1a, d2a, d2b, d2c]; rfl) rfl ?_
     refine yr9 8 (by simp [obC, c, ci, hx2, cb, cib, hy2, d1a, d2a, d2b, d2c]; rfl) rfl ?_
     refine zf9 (by simp [obC, c, ci, hx2, cb, cib, hy2, d1a, d2a, d2b, d2c]; rfl) ?_
     simp [yf9, txEq, obC, strB, d1a, d2a, d2b, d2c]
    have d1a : ¬ x.id = y.id := d1
    have d1b : (x.id == y.id) = false := beq_eq_false_iff_ne.2 d1
    have d1c : (x.id != y.id) = true := bne_iff_ne.2 d1
    refine xt7 [2, 3, 60, 61, 108] mx (by decide +kernel) ?_
    refine yr9 6 (by simp [obC, c, ci, hx2, cb, cib, hy2, d1a, d1b, d1c]; rfl) rfl ?_
    refine yr9 6 (by simp [obC, c, ci, hx2, cb, cib, hy2, d1a, d1b, d1c]; rfl) rfl ?_
    refine yr9 8 (by simp [obC, c, ci, hx2, cb, cib, hy2, d1a, d1b, d1c]; rfl) rfl ?_
    refine yr9 8 (by simp [obC, c, ci, hx2, cb, cib, hy2, d1a, d1b, d1c]; rfl) rfl ?_
    refine yr9 8 (by simp [obC, c, ci, hx2, cb, cib, hy2, d1a, d1b, d1c]; rfl) rfl ?_
    refine zf9 (by simp [obC, c, ci, hx2, cb, cib, hy2, d1a, d1b, d1c]; rfl) ?_
    simp [yf9, txEq, obC, strB, d1a, d1b, d1c]
   rintro _ rfl
   by_cases hq : txEq x y = true
   rotate_left
   ·have hqf : txEq x y = false := by simpa using hq
    refine ys9 (t := true) (by simp [hqf]) (fun h => ?_) (fun h => by simp at h)
    refine yt9 [4] (by simp; rfl) ?_
    refine zq9 ?_
    repeat (first | refine yg9 ?_ | refine yh9 ?_)
    rw [hqf, Bool.false_and] at hall
    simp [retQ, eqM, hhd, ha1, hall]
   refine ys9 (t := false) (by simp [hq]) (fun h => by simp at h) (fun h => ?_)
   refine yk9 ?_
   rw [hq, Bool.true_and] at hall
   refine zd9 [2, 3, 60, 61] (by simp [wi]; rfl) ?_
   exact ⟨_, by omega, i + 1, rfl, by omega, hall, by simp [obC, strB]⟩
  have hie : i = a.txt.length := by omega
  rw [hie, List.drop_length] at hall
  refine yt9 [2, 3, 60, 61, 62] (by simp [c]; rfl) ?_
  refine yc9 ?_
  refine ys9 rfl (fun h => by simp [hie] at h) (fun h => ?_)
  refine ym9 [2, 3] ?_
  refine zc9 ?_
  exact ⟨by rw [hall]; rfl, by simp [obC, strB]⟩
 rintro _ ⟨ha2, rfl⟩
 refine xv9 (fun σ => all2 rdEq a.rld b.rld = true ∧ σ = ⟨128, [(2, .loc 0 0), (3, .loc 1 0)], [.cells 26 (obC a), .cells 26 (obC b)]⟩) ?_ ?_
 ·refine yt9 [2, 3, 112, 113] (by simp [obC]; rfl) ?_
  refine yp9 ?_
  refine zn9 (fun k σ => ∃ i : Nat, k = a.rld.length - i ∧ i ≤ a.rld.length ∧ all2 rdEq a.rld b.rld = all2 rdEq (a.rld.drop i) (b.rld.drop i) ∧ σ = ⟨128, [(2, .loc 0 0), (3, .loc 1 0), (112, .v (.int .i64 (a.rld.length : Nat))), (113, .v (.int .i64 (i : Nat)))], [.cells 26 (obC a), .cells 26 (obC b)]⟩) (k := a.rld.length) ⟨0, rfl, by omega, by simp, by simp [obC, strB]⟩ ?_
  rintro k σ ⟨i, rfl, hi, hall, rfl⟩
  by_cases c : i < a.rld.length
  ·have cb : i < b.rld.length := by omega
   have ci : (i : Int) < a.rld.length := by omega
   have cib : (i : Int) < b.rld.length := by omega
   obtain ⟨x, hs⟩ : ∃ x, a.rld[i]? = some x := ⟨_, List.getElem?_eq_getElem c⟩
   have hx2 : a.rld[i]'c = x := by rw [List.getElem?_eq_getElem c] at hs; exact Option.some.inj hs
   obtain ⟨y, hy⟩ : ∃ y, b.rld[i]? = some y := ⟨_, List.getElem?_eq_getElem cb⟩
   have hy2 : b.rld[i]'cb = y := by rw [List.getElem?_eq_getElem cb] at hy; exact Option.some.inj hy
   rw [List.drop_eq_getElem_cons c, hx2, List.drop_eq_getElem_cons cb, hy2, all2] at hall
   have wi := w64 (n := (i : Int) + 1) (by omega) (by omega)
   refine yt9 [2, 3, 112, 113, 114] (by simp [ci]; rfl) ?_
   refine yc9 ?_
   refine ys9 rfl (fun h => ?_) (fun h => by simp [c] at h)
   refine yk9 ?_
   refine yc9 ?_
   refine yp9 ?_
   refine yt9 [2, 3, 112, 113, 7] (by simp; rfl) ?_
   refine ws9 (fun σ => σ = ⟨128, [(2, .loc 0 0), (3, .loc 1 0), (112, .v (.int .i64 (a.rld.length : Nat))), (113, .v (.int .i64 (i : Nat))), (126, .v (.bool (!rdEq x y)))], [.cells 26 (obC a), .cells 26 (obC b)]⟩) ?_ ?_
   ·refine vr9 [2, 3, 112, 113, 126] (W_drawP 10 mx (by decide +kernel) ?_)
    refine yr9 5 (by simp [obC, c, ci, hx2]; rfl) rfl ?_
    refine zf9 (by simp [obC, cb, cib, hy2]; rfl) ?_
    refine anyT_allG [10] (by decide +kernel) (by simp) ?_
    intro j hj
    simp only [List.mem_cons, List.not_mem_nil, or_false] at hj
    subst hj
    refine ⟨_, rfl, ?_⟩
    refine .inr ⟨rfl, ?_⟩
    refine stepW_neqAgg (t := 80) (k1 := 120) (k2 := 125) (us := rdV x) (vs := rdV y) (fs := fs80) rfl (by simp [rdV, strB]) (by simp [rdV, strB]) (by kernel_rfl) (by kernel_rfl) (by kernel_rfl) rfl (rd_ok x y) ?_
    rw [rd_eq]
    refine ⟨_, by simp; rfl, ?_⟩
    refine xj8 (by decide +kernel) ?_
    simp [yf9, wt8, obC, strB]
   rintro _ rfl
   by_cases hq : rdEq x y = true
   rotate_left
   ·have hqf : rdEq x y = false := by simpa using hq
    refine ys9 (t := true) (by simp [hqf]) (fun h => ?_) (fun h => by simp at h)
    refine yt9 [4] (by simp; rfl) ?_
    refine zq9 ?_
    repeat (first | refine yg9 ?_ | refine yh9 ?_)
    rw [hqf, Bool.false_and] at hall
    simp [retQ, eqM, hhd, ha1, ha2, hall]
   refine ys9 (t := false) (by simp [hq]) (fun h => by simp at h) (fun h => ?_)
   refine yk9 ?_
   rw [hq, Bool.true_and] at hall
   refine zd9 [2, 3, 112, 113] (by simp [wi]; rfl) ?_
   exact ⟨_, by omega, i + 1, rfl, by omega, hall, by simp [obC, strB]⟩
  have hie : i = a.rld.length := by omega
  rw [hie, List.drop_length] at hall
  refine yt9 [2, 3, 112, 113, 114] (by simp [c]; rfl) ?_
  refine yc9 ?_
  refine ys9 rfl (fun h => by simp [hie] at h) (fun h => ?_)
  refine ym9 [2, 3] ?_
  refine zc9 ?_
  exact ⟨by rw [hall]; rfl, by simp [obC, strB]⟩
 rintro _ ⟨ha3, rfl⟩
 refine yt9 [4] (by simp; rfl) ?_
 refine zq9 ?_
 repeat (first | refine yg9 ?_ | refine yh9 ?_)
 simp [retQ, eqM, hhd, ha1, ha2, ha3]
end Go.AM
