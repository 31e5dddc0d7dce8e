/- Parts of the walk: C31EF C31EK C31EM C31EN C31EO C31EP C31EL C31LA. -/
import Derived.Test.YtlhaljblcimnbaaG6
namespace Go.AM
open Go.RowKit Go.Proofs
set_option linter.unusedSimpArgs false
set_option linter.unusedVariables false
set_option maxHeartbeats 8000000
theorem encO_sound (o : OMod) (ho : OIn o) : Sound Try.prog 19 [obA o] (encOR o) := by
 refine yw8 Try.func19 rfl (by decide +kernel) (by simp [Try.f19]) (by simp [AV.rfL, AV.rf, strB]) (by simp [AV.tlL, AV.tl, strB]) (rs := [.tmp 2, .tmp 3]) rfl ?_
 rw [show Try.f19.ntmps = 176 from rfl]
 have hchk := zv7 o ho
 refine yt9 [1] (by simp; rfl) ?_
 refine (show Wt true 0 Try.prog _ _ ⟨176, [(1, .loc 0 0)], [.cells 26 (obC o)]⟩ from ?_)
 refine yk9 ?_
 refine W_rK [1, 27] ?_
 refine yq9 1 (by simp [obC]; rfl) rfl ?_
 refine yj9 (by simp) (by first | (simp; done) | (simp; rfl) | (simp [strB]; done) | (simp [strB]; rfl)) hchk (by simp; rfl) ?_
 by_cases hc : chkM o = true
 rotate_left
 ·refine yr9 (by simp [hc]; rfl) ?_
  refine yd9 rfl (fun h => ?_) (fun h => by simp at h)
  refine yt9 [2, 3] (by simp; rfl) ?_
  refine zr9 ?_
  repeat (first | refine yl9 ?_ | refine yc9 ?_)
  refine ⟨_, by simp [retQ]; exact ⟨rfl, by simp [AV.rf, AV.rfL]⟩, .inl fun T => ?_⟩
  simp [encOR, hc]
 have hk := chkM_ok hc
 refine yr9 (by simp [hc]; rfl) ?_
 refine yd9 rfl (fun h => by simp at h) (fun h => ?_)
 refine yh9 ?_
 refine yt9 [1, 4] (by simp; rfl) ?_
 refine yk9 ?_
 refine W_rK [1, 4, 30] ?_
 refine yq9 2 (by simp [obC]; rfl) rfl ?_
 refine zg9 (f := 44) (args := [.lst .any 5 (esL o.esd), .v (.int .i64 (3 : Nat))]) (by simp) (by simp [zp9, zf9]) ((grp44_callW o.esd 3 _ ?_).mono ?_)
 ·simp [yg9, AObj.under, AV.under, AV.underL, obC, strB]
 rintro r h' ⟨rfl, rfl⟩
 refine ⟨_, by simp; rfl, ?_⟩
 refine yr9 (by simp; rfl) ?_
 refine yf9 ?_
 obtain ⟨R1, hR1⟩ : ∃ R1, [] ++ egoE o.esd o.esd.length 0 = R1 := ⟨_, rfl⟩
 refine xp8 (Qc := fun _ h' => R1.length ≤ ([] : List (List UInt8)).length + 3000 ∧ h' = [.cells 26 (obC o), .cells 47 [.lst (.tip 27 147) 1 (bbL (R1))], .cells 22 [.lst .any 5 (esL o.esd)], .cells 3 [.v (.int .i64 (3 : Nat))], .loop 176 [(1, .loc 0 0), (4, .loc 1 0), (30, .fn (.func 81) [] [.loc 2 0, .loc 3 0])] [31, 32] (rfAn Try.f19 0) (rfBn Try.f19 0) .ready]) rfl (esd_all o hk [] R1 hR1 (by simp) rfl) ?_
 rintro _ _ ⟨hR1l, rfl⟩
 refine ⟨176, _, _, _, _, .ready, rfl, ?_⟩
 refine (show Wt true 0 Try.prog _ _ _ from ?_)
 refine zt9 [1, 4] ?_
 refine xd9 2 (Nat.zero_le _) (by simp) (by simp [yn9, AV.under, AV.underL]) (by simp [yg9, xs9, AV.under, AV.underL, zd9]) ?_
 refine (show Wt true 0 Try.prog _ _ ⟨176, [(1, .loc 0 0), (4, .loc 1 0)], [.cells 26 (obC o), .cells 47 [.lst (.tip 27 147) 1 (bbL R1)]]⟩ from ?_)
 have hl2 := hk.l2
 obtain ⟨R2, hR2⟩ : ∃ R2, R1 ++ o.txt.map zj8 = R2 := ⟨_, rfl⟩
 have hR2l : R2.length ≤ 6000 := by rw [← hR2]; simp at hR1l ⊢; omega
 refine xg9 (fun σ => σ = ⟨176, [(1, .loc 0 0), (4, .loc 1 0)], [.cells 26 (obC o), .cells 47 [.lst (.tip 27 147) 1 (bbL R2)]]⟩) ?_ ?_
 ·refine yt9 [1, 4, 75, 76, 77] (by simp [obC]; rfl) ?_
  refine yf9 ?_
  refine zn9 (fun kk σ => ∃ (i : Nat), kk = o.txt.length - i ∧ i ≤ o.txt.length ∧ σ = ⟨176, [(1, .loc 0 0), (4, .loc 1 0), (75, .lst .any 3 (txL o.txt)), (76, .v (.int .i64 (o.txt.length : Nat))), (77, .v (.int .i64 (i : Nat)))], [.cells 26 (obC o), .cells 47 [.lst (.tip 27 147) 1 (bbL (R1 ++ (o.txt.take i).map zj8))]]⟩) (k := o.txt.length) ⟨0, rfl, by omega, by simp [obC]⟩ ?_
  rintro kk σ ⟨i, rfl, hi, rfl⟩
  by_cases c : i < o.txt.length
  ·have ci : (i : Int) < o.txt.length := by omega
   obtain ⟨x, hs⟩ : ∃ x, o.txt[i]? = some x := ⟨_, List.getElem?_eq_getElem c⟩
   have hs2 : o.txt[i]'c = x := by rw [List.getElem?_eq_getElem c] at hs; exact Option.some.inj hs
   obtain ⟨i0, i1, a0, a1, d0, d1⟩ := hk.ts x (List.mem_of_getElem? hs)
   have wi := w64 (n := (i : Int) + 1) (by omega) (by omega)
   obtain ⟨acc, hacc⟩ : ∃ acc, R1 ++ (o.txt.take i).map zj8 = acc := ⟨_, rfl⟩
   have haccl : acc.length ≤ 6000 := by rw [← hacc]; simp at hR1l ⊢; omega
   have hacc2 : R1 ++ (o.txt.take (i + 1)).map zj8 = acc ++ [zj8 x] := by rw [← hacc, List.take_add_one, hs]; simp
   have happ : bbL acc ++ [.lst .any 1 (byL (zj8 x))] = bbL (acc ++ [zj8 x]) := by simp [ys8, yj7]
   have hq1 : acc.length ≤ 140737488355327 := by omega
   have hq2 : (acc.length + 1) * 24 ≤ 140737488355328 := by omega
   rw [hacc]
   have c0l := cardM_len wt8 (by decide +kernel)
   have hcT : putM (putM (putM (putM (vv9 wt8) 5 (numM 3 x.addr.toNat)) 10 (numM 2 x.data.length)) 14 (numM 2 x.id.toNat)) 16 x.data = zj8 x := rfl
   obtain ⟨c0, hc0⟩ : ∃ c, vv9 wt8 = c := ⟨_, rfl⟩
   rw [hc0] at c0l hcT
   refine yt9 [1, 4, 75, 76, 77, 78] (by simp [ci]; rfl) ?_
   refine yk9 ?_
   refine yd9 rfl (fun h => ?_) (fun h => by simp [c] at h)
   refine yh9 ?_
   refine yk9 ?_
   refine yf9 ?_
   refine yt9 [1, 4, 75, 76, 77, 13] (by simp [c, ci, hs2, ys9]; rfl) ?_
   refine W_rK [1, 4, 75, 76, 77, 13, 14, 15] ?_
   refine zg9 (f := 45) (args := [strB wt8]) (by simp) (by simp [zp9, zf9, strB, wt8]) ((zp8 wt8 (by simp [wt8]) (by decide +kernel) _ (by simp [yg9, xs9, AObj.under, yn9, AV.under, AV.underL, zd9, zj9])).mono ?_)
   rintro _ _ ⟨k, rfl, rfl⟩
   refine ⟨_, by simp; rfl, ?_⟩
   refine yr9 (by simp; rfl) ?_
   rw [hc0]
   refine W_rK [1, 4, 75, 76, 77, 13, 14, 15] ?_
   refine yq9 3 (by simp; rfl) rfl ?_
   refine yj9 (by simp) (by first | (simp; done) | (simp; rfl)) (numZ x.addr 3 a0 (by omega) (by omega)) (by simp; rfl) ?_
   refine zg9 (f := 83) (args := [.v (.int .i64 (5 : Nat)), .lst .any 1 (byL (numM 3 x.addr.toNat)), .loc 4 0]) (by simp) (by simp [zp9, zf9, wr9]) ((wl9 (5) 80 (numM 3 x.addr.toNat) c0 k c0l (by simp <;> omega) (by omega) (by omega) _ 4 3 (by simp) (by simp) (by simp [yg9, xs9, AObj.under, yn9, AV.under, AV.underL, zd9, zj9, txC])).mono ?_)
   rintro _ _ ⟨rfl, rfl⟩
   refine ⟨_, by simp; rfl, ?_⟩
   refine yr9 (by simp; rfl) ?_
   obtain ⟨c1, hc1⟩ : ∃ zz, putM c0 (5) (numM 3 x.addr.toNat) = zz := ⟨_, rfl⟩
   have c1l : c1.length = 80 := by rw [← hc1, zm9 _ _ _ (by simp <;> omega)]; exact c0l
   rw [hc1]
   rw [hc1] at hcT
   refine W_rK [1, 4, 75, 76, 77, 13, 14, 15] ?_
   refine yq9 4 (by simp; rfl) rfl ?_
   refine yj9 (by simp) (by first | (simp; done) | (simp; rfl)) (yq8 x.data.length 2 (by omega) (by omega)) (by simp; rfl) ?_
   refine zg9 (f := 83) (args := [.v (.int .i64 (10 : Nat)), .lst .any 1 (byL (numM 2 x.data.length)), .loc 4 0]) (by simp) (by simp [zp9, zf9, wr9]) ((wl9 (10) 80 (numM 2 x.data.length) c1 k c1l (by simp <;> omega) (by omega) (by omega) _ 4 3 (by simp) (by simp) (by simp [yg9, xs9, AObj.under, yn9, AV.under, AV.underL, zd9, zj9, txC])).mono ?_)
   rintro _ _ ⟨rfl, rfl⟩
   refine ⟨_, by simp; rfl, ?_⟩
   refine yr9 (by simp; rfl) ?_
   obtain ⟨c2, hc2⟩ : ∃ zz, putM c1 (10) (numM 2 x.data.length) = zz := ⟨_, rfl⟩
   have c2l : c2.length = 80 := by rw [← hc2, zm9 _ _ _ (by simp <;> omega)]; exact c1l
   rw [hc2]
   rw [hc2] at hcT
   refine W_rK [1, 4, 75, 76, 77, 13, 14, 15] ?_
   refine yq9 3 (by simp; rfl) rfl ?_
   refine yj9 (by simp) (by first | (simp; done) | (simp; rfl)) (numZ x.id 2 i0 (by omega) (by omega)) (by simp; rfl) ?_
   refine zg9 (f := 83) (args := [.v (.int .i64 (14 : Nat)), .lst .any 1 (byL (numM 2 x.id.toNat)), .loc 4 0]) (by simp) (by simp [zp9, zf9, wr9]) ((wl9 (14) 80 (numM 2 x.id.toNat) c2 k c2l (by simp <;> omega) (by omega) (by omega) _ 4 3 (by simp) (by simp) (by simp [yg9, xs9, AObj.under, yn9, AV.under, AV.underL, zd9, zj9, txC])).mono ?_)
   rintro _ _ ⟨rfl, rfl⟩
   refine ⟨_, by simp; rfl, ?_⟩
   refine yr9 (by simp; rfl) ?_
   obtain ⟨c3, hc3⟩ : ∃ zz, putM c2 (14) (numM 2 x.id.toNat) = zz := ⟨_, rfl⟩
   have c3l : c3.length = 80 := by rw [← hc3, zm9 _ _ _ (by simp <;> omega)]; exact c2l
   rw [hc3]
   rw [hc3] at hcT
   refine W_rK [1, 4, 75, 76, 77, 14] ?_
   refine yq9 3 (by simp; rfl) rfl ?_
   refine zg9 (f := 83) (args := [.v (.int .i64 (16 : Nat)), .lst .any 1 (byL (x.data)), .loc 4 0]) (by simp) (by simp [zp9, zf9, wr9]) ((wl9 (16) 80 (x.data) c3 k c3l (by omega) (by omega) (by omega) _ 4 3 (by simp) (by simp) (by simp [yg9, xs9, AObj.under, yn9, AV.under, AV.underL, zd9, zj9, txC])).mono ?_)
   rintro _ _ ⟨rfl, rfl⟩
   refine ⟨_, by simp; rfl, ?_⟩
   refine yr9 (by simp; rfl) ?_
   have cTl : (zj8 x).length = 80 := by rw [← hcT, zm9 _ _ _ (by omega)]; exact c3l
   rw [hcT]
   obtain ⟨fo, hfo, hfz⟩ := frz_room2 (h := [.cells 26 (obC o), .cells 47 [.lst (.tip 27 147) 1 (bbL acc)], .cells 73 [.v (.int .i64 x.id), .v (.int .i64 x.addr), .lst .any 1 (byL x.data)], .cells 5 (zj9 (zj8 x) k), .cells 27 [.arr 3 0 80 80]]) 3 80 (zj8 x) k rfl cTl
   refine W_frz 14 rfl (by decide) hfz ?_
   refine W_thenC (fun σ => σ = ⟨176, [(1, .loc 0 0), (4, .loc 1 0), (75, .lst .any 3 (txL o.txt)), (76, .v (.int .i64 (o.txt.length : Nat))), (77, .v (.int .i64 (i : Nat)))], [.cells 26 (obC o), .cells 47 [.lst (.tip 27 147) 1 (bbL (acc ++ [zj8 x]))], .cells 73 [.v (.int .i64 x.id), .v (.int .i64 x.addr), .lst .any 1 (byL x.data)], .froz 5 (byL (zj8 x)), .cells 27 [.arr 3 0 80 80]]⟩) ?_ ?_
   ·rcases hfo with rfl | rfl
    all_goals
     refine zs9 [1, 4, 75, 76, 77] (by simp [putF, ys9, catK, AV.cellsK, AV.kone, AV.koneL, hq1, hq2]; rfl) ?_
     simp [yp9, ← happ]
   rintro _ rfl
   refine xd9 2 (Nat.zero_le _) (by simp) (by simp [yn9, AV.under, AV.underL]) (by simp [yg9, xs9, AV.under, AV.underL, zd9]) ?_
   refine zs9 [1, 4, 75, 76, 77] (by simp [wi]; rfl) ?_
   exact ⟨_, by omega, i + 1, rfl, by omega, by rw [hacc2]; simp⟩
  have hie : i = o.txt.length := by omega
  refine yt9 [1, 4, 75, 76, 77, 78] (by simp [c]; rfl) ?_
  refine yk9 ?_
  refine yd9 rfl (fun h => by simp [hie] at h) (fun h => ?_)
  refine zt9 [1, 4] ?_
  refine zh9 ?_
  simp [yp9, hie, ← hR2, List.take_of_length_le]
 rintro _ rfl
 obtain ⟨R3, hR3⟩ : ∃ R3, R2 ++ egoR o.rld o.rld.length 0 = R3 := ⟨_, rfl⟩
 refine yk9 ?_
 refine W_rK [1, 4, 112] ?_
 refine yq9 2 (by simp [obC]; rfl) rfl ?_
 refine zg9 (f := 50) (args := [.lst .any 5 (rdL o.rld), .v (.int .i64 (7 : Nat))]) (by simp) (by simp [zp9, zf9]) ((grp50_callW o.rld 7 _ ?_).mono ?_)
 ·simp [yg9, AObj.under, AV.under, AV.underL, obC, strB]
 rintro r h' ⟨rfl, rfl⟩
 refine ⟨_, by simp; rfl, ?_⟩
 refine yr9 (by simp; rfl) ?_
 refine yf9 ?_
 refine xp8 (Qc := fun _ h' => R3.length ≤ R2.length + 3000 ∧ h' = [.cells 26 (obC o), .cells 47 [.lst (.tip 27 147) 1 (bbL (R3))], .cells 24 [.lst .any 5 (rdL o.rld)], .cells 3 [.v (.int .i64 (7 : Nat))], .loop 176 [(1, .loc 0 0), (4, .loc 1 0), (112, .fn (.func 84) [] [.loc 2 0, .loc 3 0])] [113, 114] (rfAn Try.f19 1) (rfBn Try.f19 1) .ready]) rfl (rld_all o hk R2 R3 hR3 (by omega)) ?_
 rintro _ _ ⟨hR3l, rfl⟩
 refine ⟨176, _, _, _, _, .ready, rfl, ?_⟩
 refine (show Wt true 0 Try.prog _ _ _ from ?_)
 refine zt9 [1, 4] ?_
 refine xd9 2 (Nat.zero_le _) (by simp) (by simp [yn9, AV.under, AV.underL]) (by simp [yg9, xs9, AV.under, AV.underL, zd9]) ?_
 refine (show Wt true 0 Try.prog _ _ ⟨176, [(1, .loc 0 0), (4, .loc 1 0)], [.cells 26 (obC o), .cells 47 [.lst (.tip 27 147) 1 (bbL R3)]]⟩ from ?_)
 have hcode := codeS_sound o.entry (by have := hk.en; omega)
 simp only [strB] at hcode
 have c0l := cardM_len vt8 (by decide +kernel)
 have hcN : putM (vv9 vt8) 16 (wr9 o.entry) = cardN o.entry := rfl
 have hcl := codeL_len o.entry
 have hen := hk.en
 obtain ⟨c0, hc0⟩ : ∃ c, vv9 vt8 = c := ⟨_, rfl⟩
 rw [hc0] at c0l hcN
 have hq1 : R3.length ≤ 140737488355327 := by omega
 have hq2 : (R3.length + 1) * 24 ≤ 140737488355328 := by omega
 have happ : bbL R3 ++ [.lst .any 1 (byL (cardN o.entry))] = bbL (R3 ++ [cardN o.entry]) := by simp [ys8, yj7]
 have henc : encO o = R3 ++ [cardN o.entry] := by rw [encO, ← hR3, ← hR2, ← hR1]; simp
 refine W_rK [1, 4, 23, 24] ?_
 refine zg9 (f := 45) (args := [strB vt8]) (by simp) (by simp [zp9, zf9, strB, vt8]) ((zp8 vt8 (by simp [vt8]) (by decide +kernel) _ (by simp [yg9, xs9, AObj.under, yn9, AV.under, AV.underL, zd9, zj9])).mono ?_)
 rintro _ _ ⟨k, rfl, rfl⟩
 refine ⟨_, by simp; rfl, ?_⟩
 refine yr9 (by simp; rfl) ?_
 rw [hc0]
 refine W_rK [1, 4, 23] ?_
 refine yq9 3 (by simp [obC, strB]; rfl) rfl ?_
 refine yj9 (by simp) (by first | (simp; done) | (simp; rfl)) hcode (by simp; rfl) ?_
 refine zg9 (f := 83) (args := [.v (.int .i64 (16 : Nat)), .lst .any 1 (byL (wr9 o.entry)), .loc 3 0]) (by simp) (by simp [zp9, zf9, wr9]) ((wl9 (16) 80 (wr9 o.entry) c0 k c0l (by omega) (by omega) (by omega) _ 3 2 (by simp) (by simp) (by simp [yg9, xs9, AObj.under, yn9, AV.under, AV.underL, zd9, zj9, obC, strB])).mono ?_)
 rintro _ _ ⟨rfl, rfl⟩
 refine ⟨_, by simp; rfl, ?_⟩
 refine yr9 (by simp; rfl) ?_
 have cNl : (cardN o.entry).length = 80 := by rw [← hcN, zm9 _ _ _ (by omega)]; exact c0l
 rw [hcN]
 refine (show Wt true 0 Try.prog _ _ ⟨176, [(1, .loc 0 0), (4, .loc 1 0), (23, .arr 2 0 80 80)], [.cells 26 (obC o), .cells 47 [.lst (.tip 27 147) 1 (bbL R3)], .cells 5 (zj9 (cardN o.entry) k), .cells 27 [.arr 2 0 80 80]]⟩ from ?_)
 obtain ⟨fo, hfo, hfz⟩ := frz_room2 (h := [.cells 26 (obC o), .cells 47 [.lst (.tip 27 147) 1 (bbL R3)], .cells 5 (zj9 (cardN o.entry) k), .cells 27 [.arr 2 0 80 80]]) 2 80 (cardN o.entry) k rfl cNl
 refine W_frz 23 rfl (by decide) hfz ?_
 rcases hfo with rfl | rfl
 all_goals
  refine yt9 [2, 3] (by simp [putF, ys9, catK, AV.cellsK, AV.kone, AV.koneL, hq1, hq2]; rfl) ?_
  refine zr9 ?_
  repeat (first | refine yl9 ?_ | refine yc9 ?_)
  rw [happ]
  refine ⟨_, by simp [retQ]; exact ⟨rfl, by simp [AV.rf, AV.rfL]⟩, .inr ?_⟩
  simp [AV.plain, AV.plainL, plainL_bbL31, encOR, hc, henc]
end Go.AM
namespace Go.AM
open Go.RowKit Go.Proofs
set_option linter.unusedSimpArgs false
set_option linter.unusedVariables false
set_option maxHeartbeats 1000000
def esdOf : AV → Option Esd
 | .agg [.v (.string s), .v (.int .i64 a), .v (.int .i64 b), .v (.int .i64 c), .v (.int .i64 d)] => some ⟨s.data.toList, a, b, c, d⟩
 | _ => none
theorem esdOf_eq {x : AV} {r : Esd} (h : esdOf x = some r) : x = esA r := by
 unfold esdOf at h
 split at h
 ·cases h; simp [strB]
 ·cases h
def rldOf : AV → Option Rld
 | .agg [.v (.int .i64 a), .v (.int .i64 b), .v (.int .i64 c), .v (.int .i64 d), .v (.bool e)] => some ⟨a, b, c, d, e⟩
 | _ => none
theorem rldOf_eq {x : AV} {r : Rld} (h : rldOf x = some r) : x = rdA r := by
 unfold rldOf at h
 split at h
 ·cases h; rfl
 ·cases h
def txtOf : AV → Option Txt
 | .agg [.v (.int .i64 a), .v (.int .i64 b), .lst .any 1 c] => (bytesOf c).map fun l => ⟨a, b, l⟩
 | _ => none
theorem txtOf_eq {x : AV} {r : Txt} (h : txtOf x = some r) : x = txA r := by
 unfold txtOf at h
 split at h
 ·obtain ⟨l, hl, rfl⟩ := Option.map_eq_some_iff.1 h
  rw [wl8 hl]; rfl
 ·cases h
def segOf : AV → Option Seg
 | .agg [.v (.int .i64 a), .v (.int .i64 b), .v (.int .i64 c), .v (.int .i64 d)] => some ⟨a, b, c, d⟩
 | _ => none
theorem segOf_eq {x : AV} {r : Seg} (h : segOf x = some r) : x = segA r := by
 unfold segOf at h
 split at h
 ·cases h; rfl
 ·cases h
def rloOf : AV → Option Rlo
 | .agg [.v (.int .i64 a), .v (.int .i64 b), .v (.bool c)] => some ⟨a, b, c⟩
 | _ => none
theorem rloOf_eq {x : AV} {r : Rlo} (h : rloOf x = some r) : x = rloA r := by
 unfold rloOf at h
 split at h
 ·cases h; rfl
 ·cases h
def listOf {α : Type} (f : AV → Option α) : List AV → Option (List α)
 | [] => some []
 | x :: xs => (f x).bind fun r => (listOf f xs).map fun l => r :: l
theorem zt7 {α : Type} {f : AV → Option α} {g : α → AV} (hf : ∀ x r, f x = some r → x = g r) : ∀ {xs : List AV} {l : List α}, listOf f xs = some l → xs = l.map g
 | [], l, h => by simp only [listOf, Option.some.injEq] at h; subst h; rfl
 | x :: xs, l, h => by
  simp only [listOf] at h
  obtain ⟨b, hb, h⟩ := Option.bind_eq_some_iff.1 h
  obtain ⟨l', hl, rfl⟩ := Option.map_eq_some_iff.1 h
  rw [List.map_cons, hf _ _ hb, zt7 hf hl]
def obOf : AV → Option OMod
 | .agg [.lst .any 5 a, .lst .any 3 b, .lst .any 5 c, .v (.string s)] => (listOf esdOf a).bind fun a' => (listOf txtOf b).bind fun b' => (listOf rldOf c).map fun c' => ⟨a', b', c', s.data.toList⟩
 | _ => none
theorem obOf_eq {x : AV} {o : OMod} (h : obOf x = some o) : x = obA o := by
 unfold obOf at h
 split at h
 ·obtain ⟨a', h1, h⟩ := Option.bind_eq_some_iff.1 h
  obtain ⟨b', h2, h⟩ := Option.bind_eq_some_iff.1 h
  obtain ⟨c', h3, rfl⟩ := Option.map_eq_some_iff.1 h
  rw [zt7 (fun _ _ => esdOf_eq) h1, zt7 (fun _ _ => txtOf_eq) h2, zt7 (fun _ _ => rldOf_eq) h3]
  simp [esL, txL, rdL, strB]
 ·cases h
def lmOf : AV → Option LMod
 | .agg [.lst .any 1 a, .lst .any 3 b, .lst .any 4 c, .v (.int .i64 e)] => (bytesOf a).bind fun a' => (listOf rloOf b).bind fun b' => (listOf segOf c).map fun c' => ⟨a', b', c', e⟩
 | _ => none
theorem lmOf_eq {x : AV} {m : LMod} (h : lmOf x = some m) : x = lmA m := by
 unfold lmOf at h
 split at h
 ·obtain ⟨a', h1, h⟩ := Option.bind_eq_some_iff.1 h
  obtain ⟨b', h2, h⟩ := Option.bind_eq_some_iff.1 h
  obtain ⟨c', h3, rfl⟩ := Option.map_eq_some_iff.1 h
  rw [wl8 h1, zt7 (fun _ _ => rloOf_eq) h2, zt7 (fun _ _ => segOf_eq) h3]
  simp [rlL, sgL]
 ·cases h
def i64b (x : Int) : Bool := decide (-9223372036854775808 ≤ x) && decide (x ≤ 9223372036854775807)
theorem i64b_ok {x : Int} (h : i64b x = true) : i64r x := by simpa [i64b, i64r] using h
def oinB (o : OMod) : Bool := (o.esd.all fun x => decide (x.name.length ≤ 9223372036854775807) && i64b x.addr) && ((o.txt.all fun t => i64b t.addr && decide (t.data.length ≤ 140737488355328)) && o.rld.all fun r => i64b r.addr)
theorem oinB_ok {o : OMod} (h : oinB o = true) : OIn o := by
 simp only [oinB, Bool.and_eq_true, List.all_eq_true, decide_eq_true_eq] at h
 exact ⟨fun x hx => ⟨(h.1 x hx).1, i64b_ok (h.1 x hx).2⟩, fun x hx => ⟨i64b_ok (h.2.1 x hx).1, (h.2.1 x hx).2⟩, fun x hx => i64b_ok (h.2.2 x hx)⟩
def kn31 : KnF := fun f args =>
 if f = 32 then match args with
  | [x] => (obOf x).bind fun o => if oinB o = true then some (.v (.int .i64 (if chkM o = true then 0 else 310))) else none
  | _ => none
 else if f = 19 then match args with
  | [x] => (obOf x).bind fun o => if oinB o = true then some (encOR o) else none
  | _ => none
 else if f = 61 then match args with
  | [.lst .any 1 x] => (bytesOf x).bind fun l => if l.length ≤ 100000 then some (strB (decM l)) else none
  | _ => none
 else if f = 65 then match args with
  | [.lst .any 1 x] => (bytesOf x).bind fun l => if l.length ≤ 100000 then some (strB (decM (trimM l))) else none
  | _ => none
 else if f = 34 then match args with
  | [x] => (lmOf x).bind fun m => if m.seg.length ≤ 100000 ∧ m.text.length ≤ 1000000 ∧ m.rel.length ≤ 1000000 then some (.v (.int .i64 (if ckM m = true then 0 else 310))) else none
  | _ => none
 else if f = 26 then match args with
  | [x] => (lmOf x).bind fun m => if m.seg.length ≤ 100000 ∧ m.text.length ≤ 1000000 ∧ m.rel.length ≤ 1000000 then some (encR m) else none
  | _ => none
 else none
theorem kn31_ok : KnOk Try.prog kn31 := by
 intro f args r h
 unfold kn31 at h
 split at h
 ·rename_i hf
  subst hf
  split at h
  ·obtain ⟨o, ho, h⟩ := Option.bind_eq_some_iff.1 h
   split at h
   ·rename_i hc
    cases h
    rw [obOf_eq ho]
    exact zv7 o (oinB_ok hc)
   ·cases h
  ·cases h
 split at h
 ·rename_i hf
  subst hf
  split at h
  ·obtain ⟨o, ho, h⟩ := Option.bind_eq_some_iff.1 h
   split at h
   ·rename_i hc
    cases h
    rw [obOf_eq ho]
    exact encO_sound o (oinB_ok hc)
   ·cases h
  ·cases h
 split at h
 ·rename_i hf
  subst hf
  split at h
  ·obtain ⟨l, hl, h⟩ := Option.bind_eq_some_iff.1 h
   split at h
   ·rename_i hc
    cases h
    rw [wl8 hl]
    exact yd7 l hc
   ·cases h
  ·cases h
 split at h
 ·rename_i hf
  subst hf
  split at h
  ·obtain ⟨l, hl, h⟩ := Option.bind_eq_some_iff.1 h
   split at h
   ·rename_i hc
    cases h
    rw [wl8 hl]
    exact trim_sound l hc
   ·cases h
  ·cases h
 split at h
 ·rename_i hf
  subst hf
  split at h
  ·obtain ⟨m, hm, h⟩ := Option.bind_eq_some_iff.1 h
   split at h
   ·rename_i hc
    cases h
    rw [lmOf_eq hm]
    exact checkLoad_sound m (by omega) (by omega) (by omega)
   ·cases h
  ·cases h
 split at h
 ·rename_i hf
  subst hf
  split at h
  ·obtain ⟨m, hm, h⟩ := Option.bind_eq_some_iff.1 h
   split at h
   ·rename_i hc
    cases h
    rw [lmOf_eq hm]
    exact encL_sound m (by omega) (by omega) (by omega)
   ·cases h
  ·cases h
 cases h
end Go.AM
namespace Go.AM
open Go.RowKit Go.Proofs
set_option linter.unusedSimpArgs false
set_option linter.unusedVariables false
set_option maxHeartbeats 4000000
def shP : List UInt8 → List (Nat × List UInt8) → List UInt8
 | c, [] => c
 | c, x :: l => shP (putM c x.1 x.2) l
def shF (name : List UInt8) (it : List (Nat × List UInt8)) : List UInt8 := shP (putM (wh9 80) 0 (2 :: name)) it
def ofsL (it : List (Nat × List UInt8)) : List AV := it.map fun x => .v (.int .i64 (x.1 : Nat))
def stsL (it : List (Nat × List UInt8)) : List AV := it.map fun x => strB x.2
@[simp] theorem ofsL_len (it) : (ofsL it).length = it.length := by simp [ofsL]
@[simp] theorem stsL_len (it) : (stsL it).length = it.length := by simp [stsL]
@[simp] theorem ofsL_getElem (l) (i : Nat) (h : i < (ofsL l).length) : (ofsL l)[i] = .v (.int .i64 ((l[i]'(by simpa using h)).1 : Nat)) := by simp [ofsL]
@[simp] theorem stsL_getElem (l) (i : Nat) (h : i < (stsL l).length) : (stsL l)[i] = strB (l[i]'(by simpa using h)).2 := by simp [stsL]
theorem strA_addB (a b : List UInt8) (hl : a.length + b.length ≤ 9223372036854775807) : strA .add ⟨a.toArray⟩ ⟨b.toArray⟩ = some (.v (.string ⟨(a ++ b).toArray⟩)) := by
 have h : (ByteArray.mk a.toArray ++ ByteArray.mk b.toArray) = ByteArray.mk (a ++ b).toArray := by
  apply ByteArray.ext
  rw [ByteArray.data_append]
  simp
 have h2 : ((ByteArray.mk a.toArray).size : Int) + (ByteArray.mk b.toArray).size ≤ 9223372036854775807 := by simp [ByteArray.size]; omega
 simp only [strA, h, if_pos h2]
theorem fillS (i n : Nat) (h : i < n) : ys9 (byL (List.replicate i 64 ++ List.replicate (n - i) 0)) i [.v (.int .u8 64)] = byL (List.replicate (i + 1) 64 ++ List.replicate (n - (i + 1)) 0) := by
 obtain ⟨m, rfl⟩ : ∃ m, n = i + 1 + m := ⟨n - (i + 1), by omega⟩
 have e1 : i + 1 + m - i = m + 1 := by omega
 have e2 : i + 1 + m - (i + 1) = m := by omega
 rw [e1, e2, xc9, ys9, List.replicate_succ' (n := i), List.replicate_succ (n := m), wt9, xc9, xc9]
 rw [List.take_append_of_le_length (by simp), List.take_of_length_le (by simp), List.drop_append]
 simp [byL]
theorem shows_sound (b name : List UInt8) (it : List (Nat × List UInt8)) (hn : name.length ≤ 79) (hb : b.length ≤ 1000000) (hl : it.length ≤ 1000) (hit : ∀ x ∈ it, x.1 + x.2.length ≤ 80 ∧ x.1 < 80) :
  Sound Try.prog 42 [.lst .any 1 (byL b), strB name, .lst .any 1 (ofsL it), .lst .any 1 (stsL it)] (.v (.bool (b == shF name it))) := by
 refine zl9 Try.func42 rfl (by decide +kernel) (by simp [Try.f42]) (by simp [AV.rfL, AV.rf, strB, ofsL, stsL]) (by simp [AV.tlL, AV.tl, strB]) (rs := [.tmp 8]) rfl ?_
 rw [show Try.f42.ntmps = 48 from rfl]
 simp only [strB]
 refine yt9 [0, 1, 2, 3] (by simp; rfl) ?_
 refine yt9 [0, 1, 2, 3, 9] (by simp; rfl) ?_
 refine yk9 ?_
 refine yt9 [0, 1, 2, 3, 9, 14, 15] (by simp; rfl) ?_
 refine yf9 ?_
 obtain ⟨n, hn80⟩ : ∃ n : Nat, n = 80 := ⟨_, rfl⟩
 refine zn9 (fun k σ => ∃ i : Nat, k = n - i ∧ i ≤ n ∧ σ = ⟨48, [(0, .lst .any 1 (byL b)), (1, .v (.string ⟨name.toArray⟩)), (2, .lst .any 1 (ofsL it)), (3, .lst .any 1 (stsL it)), (9, .arr 0 0 80 80), (14, .v (.int .i64 80)), (15, .v (.int .i64 (i : Nat)))], [.cells 5 (byL (List.replicate i 64 ++ List.replicate (n - i) 0))]⟩) (k := n) ⟨0, rfl, by omega, ?_⟩ ?_
 ·rw [repC_byL31]
  subst hn80
  rfl
 ·rintro k σ ⟨i, rfl, hi, rfl⟩
  by_cases c : i < n
  ·have ci : (i : Int) < 80 := by omega
   have ci2 : i < 80 := by omega
   have wi := w64 (n := (i : Int) + 1) (by omega) (by omega)
   have hL : (byL (List.replicate i 64 ++ List.replicate (n - i) 0)).length = 80 := by simp; omega
   have hf := fillS i n c
   obtain ⟨z, hz⟩ : ∃ z, byL (List.replicate i 64 ++ List.replicate (n - i) 0) = z := ⟨_, rfl⟩
   rw [hz] at hL hf ⊢
   have h1 : i + 1 ≤ z.length := by omega
   refine yt9 [0, 1, 2, 3, 9, 14, 15, 16] (by simp [ci]; rfl) ?_
   refine yk9 ?_
   refine yd9 rfl (fun h => ?_) (fun h => by simp at h)
   refine yh9 ?_
   refine yk9 ?_
   refine yf9 ?_
   refine yt9 [0, 1, 2, 3, 9, 14, 15, 10] (by simp; rfl) ?_
   refine zs9 [0, 1, 2, 3, 9, 14, 15] (by simp [ci, ci2, h1]; rfl) ?_
   refine zs9 [0, 1, 2, 3, 9, 14, 15] (by simp [wi]; rfl) ?_
   exact ⟨_, by omega, i + 1, rfl, by omega, by rw [← hf]; simp⟩
  have hie : i = 80 := by omega
  have hfin : byL (List.replicate i 64 ++ List.replicate (n - i) 0) = byL (wh9 80) := by
   rw [hie, hn80, Nat.sub_self, List.replicate_zero, List.append_nil]
   rfl
  rw [hfin]
  have ci : ¬ (i : Int) < 80 := by omega
  refine yt9 [0, 1, 2, 3, 9, 16] (by simp [ci]; rfl) ?_
  refine yk9 ?_
  refine yd9 rfl (fun h => by simp at h) (fun h => ?_)
  refine zh9 ?_
  have hroom : ∀ (c l : List UInt8) (at_ : Nat), at_ + l.length ≤ c.length → ys9 (byL c) at_ (byL l) = byL (putM c at_ l) := fun c l at_ h => by
   have := yr7 c l 0 at_ h
   simpa [zj9] using this
  have hadd := strA_addB [2] name (by simp; omega)
  simp only [List.singleton_append] at hadd
  have hsz1 : (ByteArray.mk (2 :: name).toArray).size = name.length + 1 := by simp [ByteArray.size]
  have hmin1 : min (ByteArray.mk (2 :: name).toArray).size 80 = name.length + 1 := by rw [hsz1]; omega
  have hl0 : (wh9 80).length = 80 := by simp
  refine W_rGK [0, 2, 3, 9] ?_
  refine runG_A 3 _ _ ?_
  refine yr9 (by simp [hadd]; rfl) ?_
  refine runG_W rfl ?_
  refine stepW_copyS (t := 27) (t' := 9) (e := 5) (id := 0) (off := 0) (len := 80) (cap := 80) (ag := false) (cs := byL (wh9 80)) (b := ⟨(2 :: name).toArray⟩) rfl rfl rfl rfl (by simp) (by simp) (by simp) (by simp) (by simp) ?_
  have hcp : ys9 (byL (wh9 80)) 0 (byL ((ByteArray.mk (2 :: name).toArray).data.toList.take (name.length + 1))) = byL (putM (wh9 80) 0 (2 :: name)) := by
   rw [show (ByteArray.mk (2 :: name).toArray).data.toList = 2 :: name from rfl, List.take_of_length_le (by simp), hroom _ _ 0 (by simp; omega)]
  rw [hmin1, hcp]
  refine ⟨_, by simp; rfl, ?_⟩
  obtain ⟨F, hF⟩ : ∃ F, shP (putM (wh9 80) 0 (2 :: name)) it = F := ⟨_, rfl⟩
  have hFd : shF name it = F := hF
  rw [hFd]
  refine xg9 (fun σ => F.length = 80 ∧ σ = ⟨48, [(0, .lst .any 1 (byL b)), (9, .arr 0 0 80 80)], [.cells 5 (byL F)]⟩) ?_ ?_
  ·refine yt9 [0, 2, 3, 9, 27, 28] (by simp; rfl) ?_
   refine yf9 ?_
   refine zn9 (fun k σ => ∃ (i : Nat) (cc : List UInt8), k = it.length - i ∧ i ≤ it.length ∧ cc.length = 80 ∧ shP cc (it.drop i) = F ∧ σ = ⟨48, [(0, .lst .any 1 (byL b)), (2, .lst .any 1 (ofsL it)), (3, .lst .any 1 (stsL it)), (9, .arr 0 0 80 80), (27, .v (.int .i64 (it.length : Nat))), (28, .v (.int .i64 (i : Nat)))], [.cells 5 (byL cc)]⟩) (k := it.length) ⟨0, _, rfl, by omega, by rw [zm9 _ _ _ (by simp; omega)]; simp, hF, by simp⟩ ?_
   rintro k σ ⟨i, cc, rfl, hi, hcl, hsh, rfl⟩
   by_cases c : i < it.length
   ·have ci : (i : Int) < it.length := by omega
    obtain ⟨x, hs⟩ : ∃ x, it[i]? = some x := ⟨_, List.getElem?_eq_getElem c⟩
    have hs2 : it[i]'c = x := by rw [List.getElem?_eq_getElem c] at hs; exact Option.some.inj hs
    have hdr : it.drop i = x :: it.drop (i + 1) := by rw [List.drop_eq_getElem_cons c, hs2]
    obtain ⟨q1, q2⟩ := hit x (List.mem_of_getElem? hs)
    obtain ⟨p, t⟩ := x
    simp only at q1 q2
    have wi := w64 (n := (i : Int) + 1) (by omega) (by omega)
    have p1 : (p : Int) ≤ 80 := by omega
    have p2 : p ≤ 80 := by omega
    have p3 : ¬ 80 = p := by omega
    have hsz2 : (ByteArray.mk t.toArray).size = t.length := by simp [ByteArray.size]
    have hmin2 : min (ByteArray.mk t.toArray).size (80 - p) = t.length := by rw [hsz2]; omega
    rw [hdr, shP] at hsh
    refine yt9 [0, 2, 3, 9, 27, 28, 29] (by simp [ci]; rfl) ?_
    refine yk9 ?_
    refine yd9 rfl (fun h => ?_) (fun h => by simp [c] at h)
    refine yh9 ?_
    refine yk9 ?_
    refine yf9 ?_
    refine yt9 [0, 2, 3, 9, 27, 28, 11] (by simp; rfl) ?_
    refine wq9 [0, 2, 3, 9, 27, 28] (W_drawP 10 mx (by decide +kernel) ?_)
    refine yw9 5 (by simp [c, ci, hs2]; rfl) rfl ?_
    refine yv9 (by simp [c, ci, hs2, p1, p2, p3, strB]; rfl) ?_
    refine zn7 [10] (by decide +kernel) (by simp) ?_
    intro j hj
    simp only [List.mem_cons, List.not_mem_nil, or_false] at hj
    subst hj
    refine ⟨_, rfl, ?_⟩
    refine .inr ⟨rfl, ?_⟩
    refine stepW_copyS (t := 27) (t' := 9) (e := 5) (id := 0) (off := p) (len := 80 - p) (cap := 80 - p) (ag := false) (cs := byL cc) (b := ⟨t.toArray⟩) rfl rfl rfl rfl (by simp) (by simp) (by simp) (by simp) (by simp; omega) ?_
    have hcp2 : ys9 (byL cc) p (byL ((ByteArray.mk t.toArray).data.toList.take t.length)) = byL (putM cc p t) := by
     rw [show (ByteArray.mk t.toArray).data.toList = t from rfl, List.take_of_length_le (by simp), hroom _ _ p (by omega)]
    rw [hmin2, hcp2]
    refine ⟨_, by simp; rfl, ?_⟩
    refine yk8 (by decide +kernel) ?_
    refine zs9 [0, 2, 3, 9, 27, 28] (by simp [wi]; rfl) ?_
    exact ⟨_, by omega, i + 1, putM cc p t, rfl, by omega, by rw [zm9 _ _ _ (by omega)]; exact hcl, hsh, by simp⟩
   have hie : i = it.length := by omega
   rw [hie, List.drop_length, shP] at hsh
   subst hsh
   refine yt9 [0, 9, 29] (by simp [c]; rfl) ?_
   refine yk9 ?_
   refine yd9 rfl (fun h => by simp [hie] at h) (fun h => ?_)
   refine zt9 [0, 9] ?_
   refine zh9 ?_
   exact ⟨hcl, by simp⟩
  rintro _ ⟨hFl, rfl⟩
  have hchunk : chunk false 1 80 (byL F) = byL F := by rw [vj8 _ _ (by omega), List.take_of_length_le (by omega)]
  refine W_rK [8] ?_
  refine yq9 3 (by simp; rfl) rfl ?_
  have htk : (byL F).take 80 = byL F := by rw [List.take_of_length_le (by simp; omega)]
  refine runA_b (by simp) ⟨_, by simp [evSame, evLent, hchunk, htk, hFl]; rfl, ?_⟩
  refine yr9 (by simp; rfl) ?_
  refine zr9 ?_
  repeat (first | refine yl9 ?_ | refine yc9 ?_)
  simp [retQ]
end Go.AM
namespace Go.AM
open Go.RowKit Go.Proofs
set_option linter.unusedSimpArgs false
set_option linter.unusedVariables false
set_option maxHeartbeats 1000000
def showOf : List AV → List AV → Option (List (Nat × List UInt8))
 | [], [] => some []
 | .v (.int .i64 (.ofNat n)) :: a, .v (.string t) :: b => (showOf a b).map fun l => (n, t.data.toList) :: l
 | _, _ => none
theorem showOf_eq : ∀ {a b : List AV} {l : List (Nat × List UInt8)}, showOf a b = some l → a = ofsL l ∧ b = stsL l
 | [], [], l, h => by simp only [showOf, Option.some.injEq] at h; subst h; exact ⟨rfl, rfl⟩
 | x :: a, y :: b, l, h => by
  unfold showOf at h
  split at h
  ·rename_i h1 _; cases h1
  ·rename_i n a' t b' h1 h2
   cases h1
   cases h2
   obtain ⟨l', hl, rfl⟩ := Option.map_eq_some_iff.1 h
   obtain ⟨rfl, rfl⟩ := showOf_eq hl
   exact ⟨rfl, rfl⟩
  ·cases h
 | [], _ :: _, l, h => by simp [showOf] at h
 | _ :: _, [], l, h => by simp [showOf] at h
def knS : KnF := fun f args =>
 if f = 42 then match args with
  | [.lst .any 1 x, .v (.string nm), .lst .any 1 a, .lst .any 1 b] => (bytesOf x).bind fun l => (showOf a b).bind fun it =>
    if (nm.data.toList.length ≤ 79 ∧ l.length ≤ 1000000 ∧ it.length ≤ 1000) ∧ (it.all fun x => decide (x.1 + x.2.length ≤ 80) && decide (x.1 < 80)) = true then some (.v (.bool (l == shF nm.data.toList it))) else none
  | _ => none
 else kn31 f args
theorem knS_ok : KnOk Try.prog knS := by
 intro f args r h
 unfold knS at h
 split at h
 ·rename_i hf
  subst hf
  split at h
  ·rename_i x nm a b
   obtain ⟨l, hl, h⟩ := Option.bind_eq_some_iff.1 h
   obtain ⟨it, hit, h⟩ := Option.bind_eq_some_iff.1 h
   split at h
   ·rename_i hc
    cases h
    obtain ⟨⟨h1, h2, h3⟩, h4⟩ := hc
    obtain ⟨rfl, rfl⟩ := showOf_eq hit
    rw [wl8 hl]
    have := shows_sound l nm.data.toList it h1 h2 h3 (fun x hx => by
     have := List.all_eq_true.1 h4 x hx
     simpa using this)
    simpa [strB] using this
   ·cases h
  ·cases h
 ·exact kn31_ok f args r h
end Go.AM
namespace Go.AM
open Go.RowKit Go.Proofs
set_option linter.unusedSimpArgs false
set_option linter.unusedVariables false
set_option maxHeartbeats 4000000
def all2 {α β : Type} (f : α → β → Bool) : List α → List β → Bool
 | x :: l, y :: m => f x y && all2 f l m
 | _, _ => true
def esV (x : Esd) : List Value := [.string ⟨x.name.toArray⟩, .int .i64 x.kind, .int .i64 x.id, .int .i64 x.addr, .int .i64 x.len]
def rdV (r : Rld) : List Value := [.int .i64 r.in_, .int .i64 r.to_, .int .i64 r.addr, .int .i64 r.len, .bool r.neg]
noncomputable def fs78 : List Field := (Try.prog.fieldsOf 78).toList
noncomputable def fs80 : List Field := (Try.prog.fieldsOf 80).toList
def esEq (x y : Esd) : Bool := x.name == y.name && (x.kind == y.kind && (x.id == y.id && (x.addr == y.addr && x.len == y.len)))
def rdEq (x y : Rld) : Bool := x.in_ == y.in_ && (x.to_ == y.to_ && (x.addr == y.addr && (x.len == y.len && x.neg == y.neg)))
def txEq (x y : Txt) : Bool := x.id == y.id && (x.addr == y.addr && x.data == y.data)
theorem es_eq (x y : Esd) : eqFv fs78 (esV x) (esV y) = esEq x y := by
 have hf : fs78.map (fun f => f.offset) = [0, 1, 2, 3, 4] := by kernel_rfl
 have key : ∀ us vs : List Value, eqFv fs78 us vs = (fs78.map fun f => f.offset).all fun i => pv (us.getD i undef) (vs.getD i undef) := by
  intro us vs; simp [eqFv, List.all_map, Function.comp_def]
 rw [key, hf]
 simp [esV, pv, esEq, Lib.toList_data]
theorem rd_eq (x y : Rld) : eqFv fs80 (rdV x) (rdV y) = rdEq x y := by
 have hf : fs80.map (fun f => f.offset) = [0, 1, 2, 3, 4] := by kernel_rfl
 have key : ∀ us vs : List Value, eqFv fs80 us vs = (fs80.map fun f => f.offset).all fun i => pv (us.getD i undef) (vs.getD i undef) := by
  intro us vs; simp [eqFv, List.all_map, Function.comp_def]
 rw [key, hf]
 simp [rdV, pv, rdEq]
theorem es_ok (x y : Esd) : okF Try.prog fs78 (esV x) (esV y) = true := by kernel_rfl
theorem rd_ok (x y : Rld) : okF Try.prog fs80 (rdV x) (rdV y) = true := by kernel_rfl
def headE (a b : OMod) : Bool := decide (a.esd.length = b.esd.length) && (decide (a.txt.length = b.txt.length) && (decide (a.rld.length = b.rld.length) && (a.entry == b.entry)))
def eqM (a b : OMod) : Bool := headE a b && (all2 esEq a.esd b.esd && (all2 txEq a.txt b.txt && all2 rdEq a.rld b.rld))
theorem objEqual_sound (a b : OMod) (h1 : a.esd.length ≤ 1000000) (h2 : a.txt.length ≤ 1000000) (h3 : a.rld.length ≤ 1000000) : Sound Try.prog 21 [obA a, obA b] (.v (.bool (eqM a b))) := by
 refine zl9 Try.func21 rfl (by decide +kernel) (by simp [Try.f21]) (by simp [AV.rfL, AV.rf, strB]) (by simp [AV.tlL, AV.tl, strB]) (rs := [.tmp 4]) rfl ?_
 rw [show Try.f21.ntmps = 128 from rfl]
 refine yt9 [2, 3] (by simp; rfl) ?_
 refine (show Wt true 0 Try.prog _ _ ⟨128, [(2, .loc 0 0), (3, .loc 1 0)], [.cells 26 (obC a), .cells 26 (obC b)]⟩ from ?_)
 refine ws9 (fun σ => headE a b = true ∧ σ = ⟨128, [(2, .loc 0 0), (3, .loc 1 0)], [.cells 26 (obC a), .cells 26 (obC b)]⟩) ?_ ?_
 ·by_cases c1 : a.esd.length = b.esd.length
  ·have c1a : a.esd.length = b.esd.length := c1
   by_cases c2 : a.txt.length = b.txt.length
   ·have c2a : a.txt.length = b.txt.length := c2
    by_cases c3 : a.rld.length = b.rld.length
    ·have c3a : a.rld.length = b.rld.length := c3
     by_cases c4 : a.entry = b.entry
     ·have c4a : a.entry = b.entry := c4
      refine W_rK [2, 3, 39] ?_
      refine yq9 8 (by simp [obC, c1a, c2a, c3a, c4a]; rfl) rfl ?_
      refine yq9 8 (by simp [obC, c1a, c2a, c3a, c4a]; rfl) rfl ?_
      refine yq9 8 (by simp [obC, c1a, c2a, c3a, c4a]; rfl) rfl ?_
      refine yr9 (by simp [obC, strB, c1a, c2a, c3a, c4a]; rfl) ?_
      refine yd9 rfl (fun h => by simp at h) (fun h => ?_)
      refine zt9 [2, 3] ?_
      refine yh9 ?_
      exact ⟨by simp [headE, c1a, c2a, c3a, c4a], by simp [obC, strB, c1a, c2a, c3a, c4a]⟩
     have c4a : ¬ a.entry = b.entry := c4
     have c4b : (a.entry == b.entry) = false := beq_eq_false_iff_ne.2 c4
     refine W_rK [2, 3, 39] ?_
     refine yq9 8 (by simp [obC, c1a, c2a, c3a, c4a, c4b]; rfl) rfl ?_
     refine yq9 8 (by simp [obC, c1a, c2a, c3a, c4a, c4b]; rfl) rfl ?_
     refine yq9 8 (by simp [obC, c1a, c2a, c3a, c4a, c4b]; rfl) rfl ?_
     refine yr9 (by simp [obC, strB, c1a, c2a, c3a, c4a, c4b]; rfl) ?_
     refine yd9 rfl (fun h => ?_) (fun h => by simp at h)
     refine yt9 [4] (by simp; rfl) ?_
     refine zr9 ?_
     repeat (first | refine yl9 ?_ | refine yc9 ?_)
     simp [retQ, eqM, headE, c1a, c2a, c3a, c4a, c4b]
    have c3a : ¬ a.rld.length = b.rld.length := c3
    have c3b : (((a.rld.length : Nat) : Int) == (b.rld.length : Nat)) = false := by rw [beq_eq_false_iff_ne]; omega
    have c3c : (((a.rld.length : Nat) : Int) != (b.rld.length : Nat)) = true := by rw [bne_iff_ne]; omega
    refine W_rK [2, 3, 39] ?_
    refine yq9 8 (by simp [obC, c1a, c2a, c3a, c3b, c3c]; rfl) rfl ?_
    refine yq9 8 (by simp [obC, c1a, c2a, c3a, c3b, c3c]; rfl) rfl ?_
    refine yq9 8 (by simp [obC, c1a, c2a, c3a, c3b, c3c]; rfl) rfl ?_
    refine yr9 (by simp [obC, strB, c1a, c2a, c3a, c3b, c3c]; rfl) ?_
    refine yd9 rfl (fun h => ?_) (fun h => by simp at h)
    refine yt9 [4] (by simp; rfl) ?_
    refine zr9 ?_
    repeat (first | refine yl9 ?_ | refine yc9 ?_)
    simp [retQ, eqM, headE, c1a, c2a, c3a, c3b, c3c]
   have c2a : ¬ a.txt.length = b.txt.length := c2
   have c2b : (((a.txt.length : Nat) : Int) == (b.txt.length : Nat)) = false := by rw [beq_eq_false_iff_ne]; omega
   have c2c : (((a.txt.length : Nat) : Int) != (b.txt.length : Nat)) = true := by rw [bne_iff_ne]; omega
   refine W_rK [2, 3, 39] ?_
   refine yq9 8 (by simp [obC, c1a, c2a, c2b, c2c]; rfl) rfl ?_
   refine yq9 8 (by simp [obC, c1a, c2a, c2b, c2c]; rfl) rfl ?_
   refine yq9 8 (by simp [obC, c1a, c2a, c2b, c2c]; rfl) rfl ?_
   refine yr9 (by simp [obC, strB, c1a, c2a, c2b, c2c]; rfl) ?_
   refine yd9 rfl (fun h => ?_) (fun h => by simp at h)
   refine yt9 [4] (by simp; rfl) ?_
   refine zr9 ?_
   repeat (first | refine yl9 ?_ | refine yc9 ?_)
   simp [retQ, eqM, headE, c1a, c2a, c2b, c2c]
  have c1a : ¬ a.esd.length = b.esd.length := c1
  have c1b : (((a.esd.length : Nat) : Int) == (b.esd.length : Nat)) = false := by rw [beq_eq_false_iff_ne]; omega
  have c1c : (((a.esd.length : Nat) : Int) != (b.esd.length : Nat)) = true := by rw [bne_iff_ne]; omega
  refine W_rK [2, 3, 39] ?_
  refine yq9 8 (by simp [obC, c1a, c1b, c1c]; rfl) rfl ?_
  refine yq9 8 (by simp [obC, c1a, c1b, c1c]; rfl) rfl ?_
  refine yq9 8 (by simp [obC, c1a, c1b, c1c]; rfl) rfl ?_
  refine yr9 (by simp [obC, strB, c1a, c1b, c1c]; rfl) ?_
  refine yd9 rfl (fun h => ?_) (fun h => by simp at h)
  refine yt9 [4] (by simp; rfl) ?_
  refine zr9 ?_
  repeat (first | refine yl9 ?_ | refine yc9 ?_)
  simp [retQ, eqM, headE, c1a, c1b, c1c]
 rintro _ ⟨hhd, rfl⟩
 have hhd2 := hhd
 simp only [headE, Bool.and_eq_true, decide_eq_true_eq, beq_iff_eq] at hhd2
 obtain ⟨e1, e2, e3, e4⟩ := hhd2
 refine ws9 (fun σ => all2 esEq a.esd b.esd = true ∧ σ = ⟨128, [(2, .loc 0 0), (3, .loc 1 0)], [.cells 26 (obC a), .cells 26 (obC b)]⟩) ?_ ?_
 ·refine yt9 [2, 3, 42, 43] (by simp [obC]; rfl) ?_
  refine yf9 ?_
  refine zn9 (fun k σ => ∃ i : Nat, k = a.esd.length - i ∧ i ≤ a.esd.length ∧ all2 esEq a.esd b.esd = all2 esEq (a.esd.drop i) (b.esd.drop i) ∧ σ = ⟨128, [(2, .loc 0 0), (3, .loc 1 0), (42, .v (.int .i64 (a.esd.length : Nat))), (43, .v (.int .i64 (i : Nat)))], [.cells 26 (obC a), .cells 26 (obC b)]⟩) (k := a.esd.length) ⟨0, rfl, by omega, by simp, by simp [obC, strB]⟩ ?_
  rintro k σ ⟨i, rfl, hi, hall, rfl⟩
  by_cases c : i < a.esd.length
  ·have cb : i < b.esd.length := by omega
   have ci : (i : Int) < a.esd.length := by omega
   have cib : (i : Int) < b.esd.length := by omega
   obtain ⟨x, hs⟩ : ∃ x, a.esd[i]? = some x := ⟨_, List.getElem?_eq_getElem c⟩
   have hx2 : a.esd[i]'c = x := by rw [List.getElem?_eq_getElem c] at hs; exact Option.some.inj hs
   obtain ⟨y, hy⟩ : ∃ y, b.esd[i]? = some y := ⟨_, List.getElem?_eq_getElem cb⟩
   have hy2 : b.esd[i]'cb = y := by rw [List.getElem?_eq_getElem cb] at hy; exact Option.some.inj hy
   rw [List.drop_eq_getElem_cons c, hx2, List.drop_eq_getElem_cons cb, hy2, all2] at hall
   have wi := w64 (n := (i : Int) + 1) (by omega) (by omega)
   refine yt9 [2, 3, 42, 43, 44] (by simp [ci]; rfl) ?_
   refine yk9 ?_
   refine yd9 rfl (fun h => ?_) (fun h => by simp [c] at h)
   refine yh9 ?_
   refine yk9 ?_
   refine yf9 ?_
   refine yt9 [2, 3, 42, 43, 5] (by simp; rfl) ?_
   refine xg9 (fun σ => σ = ⟨128, [(2, .loc 0 0), (3, .loc 1 0), (42, .v (.int .i64 (a.esd.length : Nat))), (43, .v (.int .i64 (i : Nat))), (56, .v (.bool (!esEq x y)))], [.cells 26 (obC a), .cells 26 (obC b)]⟩) ?_ ?_
   ·refine wq9 [2, 3, 42, 43, 56] (W_drawP 10 mx (by decide +kernel) ?_)
    refine yw9 5 (by simp [obC, c, ci, hx2]; rfl) rfl ?_
    refine yv9 (by simp [obC, cb, cib, hy2]; rfl) ?_
    refine zn7 [10] (by decide +kernel) (by simp) ?_
    intro j hj
    simp only [List.mem_cons, List.not_mem_nil, or_false] at hj
    subst hj
    refine ⟨_, rfl, ?_⟩
    refine .inr ⟨rfl, ?_⟩
    refine yw7 (t := 78) (k1 := 50) (k2 := 55) (us := esV x) (vs := esV y) (fs := fs78) rfl (by simp [esV, strB]) (by simp [esV, strB]) (by kernel_rfl) (by kernel_rfl) (by kernel_rfl) rfl (es_ok x y) ?_
    rw [es_eq]
    refine ⟨_, by simp; rfl, ?_⟩
    refine yk8 (by decide +kernel) ?_
    simp [yp9, zh8, obC, strB]
   rintro _ rfl
   by_cases hq : esEq x y = true
   rotate_left
   ·have hqf : esEq x y = false := by simpa using hq
    refine yd9 (t := true) (by simp [hqf]) (fun h => ?_) (fun h => by simp at h)
    refine yt9 [4] (by simp; rfl) ?_
    refine zr9 ?_
    repeat (first | refine yl9 ?_ | refine yc9 ?_)
    rw [hqf, Bool.false_and] at hall
    simp [retQ, eqM, hhd, hall]
   refine yd9 (t := false) (by simp [hq]) (fun h => by simp at h) (fun h => ?_)
   refine yh9 ?_
   rw [hq, Bool.true_and] at hall
   refine zs9 [2, 3, 42, 43] (by simp [wi]; rfl) ?_
   exact ⟨_, by omega, i + 1, rfl, by omega, hall, by simp [obC, strB]⟩
  have hie : i = a.esd.length := by omega
  rw [hie, List.drop_length] at hall
  refine yt9 [2, 3, 42, 43, 44] (by simp [c]; rfl) ?_
  refine yk9 ?_
  refine yd9 rfl (fun h => by simp [hie] at h) (fun h => ?_)
  refine zt9 [2, 3] ?_
  refine zh9 ?_
  exact ⟨by rw [hall]; rfl, by simp [obC, strB]⟩
 rintro _ ⟨ha1, rfl⟩
 refine ws9 (fun σ => all2 txEq a.txt b.txt = true ∧ σ = ⟨128, [(2, .loc 0 0), (3, .loc 1 0)], [.cells 26 (obC a), .cells 26 (obC b)]⟩) ?_ ?_
 ·refine yt9 [2, 3, 60, 61] (by simp [obC]; rfl) ?_
  refine yf9 ?_
  refine zn9 (fun k σ => ∃ i : Nat, k = a.txt.length - i ∧ i ≤ a.txt.length ∧ all2 txEq a.txt b.txt = all2 txEq (a.txt.drop i) (b.txt.drop i) ∧ σ = ⟨128, [(2, .loc 0 0), (3, .loc 1 0), (60, .v (.int .i64 (a.txt.length : Nat))), (61, .v (.int .i64 (i : Nat)))], [.cells 26 (obC a), .cells 26 (obC b)]⟩) (k := a.txt.length) ⟨0, rfl, by omega, by simp, by simp [obC, strB]⟩ ?_
  rintro k σ ⟨i, rfl, hi, hall, rfl⟩
  by_cases c : i < a.txt.length
  ·have cb : i < b.txt.length := by omega
   have ci : (i : Int) < a.txt.length := by omega
   have cib : (i : Int) < b.txt.length := by omega
   obtain ⟨x, hs⟩ : ∃ x, a.txt[i]? = some x := ⟨_, List.getElem?_eq_getElem c⟩
   have hx2 : a.txt[i]'c = x := by rw [List.getElem?_eq_getElem c] at hs; exact Option.some.inj hs
   obtain ⟨y, hy⟩ : ∃ y, b.txt[i]? = some y := ⟨_, List.getElem?_eq_getElem cb⟩
   have hy2 : b.txt[i]'cb = y := by rw [List.getElem?_eq_getElem cb] at hy; exact Option.some.inj hy
   rw [List.drop_eq_getElem_cons c, hx2, List.drop_eq_getElem_cons cb, hy2, all2] at hall
   have wi := w64 (n := (i : Int) + 1) (by omega) (by omega)
   refine yt9 [2, 3, 60, 61, 62] (by simp [ci]; rfl) ?_
   refine yk9 ?_
   refine yd9 rfl (fun h => ?_) (fun h => by simp [c] at h)
   refine yh9 ?_
   refine yk9 ?_
   refine yf9 ?_
   refine yt9 [2, 3, 60, 61, 6] (by simp; rfl) ?_
   refine xg9 (fun σ => σ = ⟨128, [(2, .loc 0 0), (3, .loc 1 0), (60, .v (.int .i64 (a.txt.length : Nat))), (61, .v (.int .i64 (i : Nat))), (108, .v (.bool (!txEq x y)))], [.cells 26 (obC a), .cells 26 (obC b)]⟩) ?_ ?_
   ·by_cases d1 : x.id = y.id
    ·have d1a : x.id = y.id := d1
     by_cases d2 : x.addr = y.addr
     ·have d2a : x.addr = y.addr := d2
      by_cases d3 : x.data = y.data
      ·have d3a : x.data = y.data := d3
       refine vh9 [2, 3, 60, 61, 108] mx (by decide +kernel) ?_
       refine yw9 6 (by simp [obC, c, ci, hx2, cb, cib, hy2, d1a, d2a, d3a]; rfl) rfl ?_
       refine yw9 6 (by simp [obC, c, ci, hx2, cb, cib, hy2, d1a, d2a, d3a]; rfl) rfl ?_
       refine yw9 8 (by simp [obC, c, ci, hx2, cb, cib, hy2, d1a, d2a, d3a]; rfl) rfl ?_
       refine yw9 8 (by simp [obC, c, ci, hx2, cb, cib, hy2, d1a, d2a, d3a]; rfl) rfl ?_
       refine yw9 8 (by simp [obC, c, ci, hx2, cb, cib, hy2, d1a, d2a, d3a]; rfl) rfl ?_
       refine yv9 (by simp [obC, c, ci, hx2, cb, cib, hy2, d1a, d2a, d3a]; rfl) ?_
       simp [yp9, txEq, obC, strB, d1a, d2a, d3a]
      have d3a : ¬ x.data = y.data := d3
      have d3b : (x.data == y.data) = false := beq_eq_false_iff_ne.2 d3
      have d3c : (x.data != y.data) = true := bne_iff_ne.2 d3
      refine vh9 [2, 3, 60, 61, 108] mx (by decide +kernel) ?_
      refine yw9 6 (by simp [obC, c, ci, hx2, cb, cib, hy2, d1a, d2a, d3a, d3b, d3c]; rfl) rfl ?_
      refine yw9 6 (by simp [obC, c, ci, hx2, cb, cib, hy2, d1a, d2a, d3a, d3b, d3c]; rfl) rfl ?_
      refine yw9 8 (by simp [obC, c, ci, hx2, cb, cib, hy2, d1a, d2a, d3a, d3b, d3c]; rfl) rfl ?_
      refine yw9 8 (by simp [obC, c, ci, hx2, cb, cib, hy2, d1a, d2a, d3a, d3b, d3c]; rfl) rfl ?_
      refine yw9 8 (by simp [obC, c, ci, hx2, cb, cib, hy2, d1a, d2a, d3a, d3b, d3c]; rfl) rfl ?_
      refine yv9 (by simp [obC, c, ci, hx2, cb, cib, hy2, d1a, d2a, d3a, d3b, d3c]; rfl) ?_
      simp [yp9, txEq, obC, strB, d1a, d2a, d3a, d3b, d3c]
     have d2a : ¬ x.addr = y.addr := d2
     have d2b : (x.addr == y.addr) = false := beq_eq_false_iff_ne.2 d2
     have d2c : (x.addr != y.addr) = true := bne_iff_ne.2 d2
     refine vh9 [2, 3, 60, 61, 108] mx (by decide +kernel) ?_
     refine yw9 6 (by simp [obC, c, ci, hx2, cb, cib, hy2, d1a, d2a, d2b, d2c]; rfl) rfl ?_
     refine yw9 6 (by simp [obC, c, ci, hx2, cb, cib, hy2, d1a, d2a, d2b, d2c]; rfl) rfl ?_
     refine yw9 8 (by simp [obC, c, ci, hx2, cb, cib, hy2, d1a, d2a, d2b, d2c]; rfl) rfl ?_
     refine yw9 8 (by simp [obC, c, ci, hx2, cb, cib, hy2, d1a, d2a, d2b, d2c]; rfl) rfl ?_
     refine yw9 8 (by simp [obC, c, ci, hx2, cb, cib, hy2, d1a, d2a, d2b, d2c]; rfl) rfl ?_
     refine yv9 (by simp [obC, c, ci, hx2, cb, cib, hy2, d1a, d2a, d2b, d2c]; rfl) ?_
     simp [yp9, txEq, obC, strB, d1a, d2a, d2b, d2c]
    have d1a : ¬ x.id = y.id := d1
    have d1b : (x.id == y.id) = false := beq_eq_false_iff_ne.2 d1
    have d1c : (x.id != y.id) = true := bne_iff_ne.2 d1
    refine vh9 [2, 3, 60, 61, 108] mx (by decide +kernel) ?_
    refine yw9 6 (by simp [obC, c, ci, hx2, cb, cib, hy2, d1a, d1b, d1c]; rfl) rfl ?_
    refine yw9 6 (by simp [obC, c, ci, hx2, cb, cib, hy2, d1a, d1b, d1c]; rfl) rfl ?_
    refine yw9 8 (by simp [obC, c, ci, hx2, cb, cib, hy2, d1a, d1b, d1c]; rfl) rfl ?_
    refine yw9 8 (by simp [obC, c, ci, hx2, cb, cib, hy2, d1a, d1b, d1c]; rfl) rfl ?_
    refine yw9 8 (by simp [obC, c, ci, hx2, cb, cib, hy2, d1a, d1b, d1c]; rfl) rfl ?_
    refine yv9 (by simp [obC, c, ci, hx2, cb, cib, hy2, d1a, d1b, d1c]; rfl) ?_
    simp [yp9, txEq, obC, strB, d1a, d1b, d1c]
   rintro _ rfl
   by_cases hq : txEq x y = true
   rotate_left
   ·have hqf : txEq x y = false := by simpa using hq
    refine yd9 (t := true) (by simp [hqf]) (fun h => ?_) (fun h => by simp at h)
    refine yt9 [4] (by simp; rfl) ?_
    refine zr9 ?_
    repeat (first | refine yl9 ?_ | refine yc9 ?_)
    rw [hqf, Bool.false_and] at hall
    simp [retQ, eqM, hhd, ha1, hall]
   refine yd9 (t := false) (by simp [hq]) (fun h => by simp at h) (fun h => ?_)
   refine yh9 ?_
   rw [hq, Bool.true_and] at hall
   refine zs9 [2, 3, 60, 61] (by simp [wi]; rfl) ?_
   exact ⟨_, by omega, i + 1, rfl, by omega, hall, by simp [obC, strB]⟩
  have hie : i = a.txt.length := by omega
  rw [hie, List.drop_length] at hall
  refine yt9 [2, 3, 60, 61, 62] (by simp [c]; rfl) ?_
  refine yk9 ?_
  refine yd9 rfl (fun h => by simp [hie] at h) (fun h => ?_)
  refine zt9 [2, 3] ?_
  refine zh9 ?_
  exact ⟨by rw [hall]; rfl, by simp [obC, strB]⟩
 rintro _ ⟨ha2, rfl⟩
 refine ws9 (fun σ => all2 rdEq a.rld b.rld = true ∧ σ = ⟨128, [(2, .loc 0 0), (3, .loc 1 0)], [.cells 26 (obC a), .cells 26 (obC b)]⟩) ?_ ?_
 ·refine yt9 [2, 3, 112, 113] (by simp [obC]; rfl) ?_
  refine yf9 ?_
  refine zn9 (fun k σ => ∃ i : Nat, k = a.rld.length - i ∧ i ≤ a.rld.length ∧ all2 rdEq a.rld b.rld = all2 rdEq (a.rld.drop i) (b.rld.drop i) ∧ σ = ⟨128, [(2, .loc 0 0), (3, .loc 1 0), (112, .v (.int .i64 (a.rld.length : Nat))), (113, .v (.int .i64 (i : Nat)))], [.cells 26 (obC a), .cells 26 (obC b)]⟩) (k := a.rld.length) ⟨0, rfl, by omega, by simp, by simp [obC, strB]⟩ ?_
  rintro k σ ⟨i, rfl, hi, hall, rfl⟩
  by_cases c : i < a.rld.length
  ·have cb : i < b.rld.length := by omega
   have ci : (i : Int) < a.rld.length := by omega
   have cib : (i : Int) < b.rld.length := by omega
   obtain ⟨x, hs⟩ : ∃ x, a.rld[i]? = some x := ⟨_, List.getElem?_eq_getElem c⟩
   have hx2 : a.rld[i]'c = x := by rw [List.getElem?_eq_getElem c] at hs; exact Option.some.inj hs
   obtain ⟨y, hy⟩ : ∃ y, b.rld[i]? = some y := ⟨_, List.getElem?_eq_getElem cb⟩
   have hy2 : b.rld[i]'cb = y := by rw [List.getElem?_eq_getElem cb] at hy; exact Option.some.inj hy
   rw [List.drop_eq_getElem_cons c, hx2, List.drop_eq_getElem_cons cb, hy2, all2] at hall
   have wi := w64 (n := (i : Int) + 1) (by omega) (by omega)
   refine yt9 [2, 3, 112, 113, 114] (by simp [ci]; rfl) ?_
   refine yk9 ?_
   refine yd9 rfl (fun h => ?_) (fun h => by simp [c] at h)
   refine yh9 ?_
   refine yk9 ?_
   refine yf9 ?_
   refine yt9 [2, 3, 112, 113, 7] (by simp; rfl) ?_
   refine xg9 (fun σ => σ = ⟨128, [(2, .loc 0 0), (3, .loc 1 0), (112, .v (.int .i64 (a.rld.length : Nat))), (113, .v (.int .i64 (i : Nat))), (126, .v (.bool (!rdEq x y)))], [.cells 26 (obC a), .cells 26 (obC b)]⟩) ?_ ?_
   ·refine wq9 [2, 3, 112, 113, 126] (W_drawP 10 mx (by decide +kernel) ?_)
    refine yw9 5 (by simp [obC, c, ci, hx2]; rfl) rfl ?_
    refine yv9 (by simp [obC, cb, cib, hy2]; rfl) ?_
    refine zn7 [10] (by decide +kernel) (by simp) ?_
    intro j hj
    simp only [List.mem_cons, List.not_mem_nil, or_false] at hj
    subst hj
    refine ⟨_, rfl, ?_⟩
    refine .inr ⟨rfl, ?_⟩
    refine yw7 (t := 80) (k1 := 120) (k2 := 125) (us := rdV x) (vs := rdV y) (fs := fs80) rfl (by simp [rdV, strB]) (by simp [rdV, strB]) (by kernel_rfl) (by kernel_rfl) (by kernel_rfl) rfl (rd_ok x y) ?_
    rw [rd_eq]
    refine ⟨_, by simp; rfl, ?_⟩
    refine yk8 (by decide +kernel) ?_
    simp [yp9, zh8, obC, strB]
   rintro _ rfl
   by_cases hq : rdEq x y = true
   rotate_left
   ·have hqf : rdEq x y = false := by simpa using hq
    refine yd9 (t := true) (by simp [hqf]) (fun h => ?_) (fun h => by simp at h)
    refine yt9 [4] (by simp; rfl) ?_
    refine zr9 ?_
    repeat (first | refine yl9 ?_ | refine yc9 ?_)
    rw [hqf, Bool.false_and] at hall
    simp [retQ, eqM, hhd, ha1, ha2, hall]
   refine yd9 (t := false) (by simp [hq]) (fun h => by simp at h) (fun h => ?_)
   refine yh9 ?_
   rw [hq, Bool.true_and] at hall
   refine zs9 [2, 3, 112, 113] (by simp [wi]; rfl) ?_
   exact ⟨_, by omega, i + 1, rfl, by omega, hall, by simp [obC, strB]⟩
  have hie : i = a.rld.length := by omega
  rw [hie, List.drop_length] at hall
  refine yt9 [2, 3, 112, 113, 114] (by simp [c]; rfl) ?_
  refine yk9 ?_
  refine yd9 rfl (fun h => by simp [hie] at h) (fun h => ?_)
  refine zt9 [2, 3] ?_
  refine zh9 ?_
  exact ⟨by rw [hall]; rfl, by simp [obC, strB]⟩
 rintro _ ⟨ha3, rfl⟩
 refine yt9 [4] (by simp; rfl) ?_
 refine zr9 ?_
 repeat (first | refine yl9 ?_ | refine yc9 ?_)
 simp [retQ, eqM, hhd, ha1, ha2, ha3]
end Go.AM
namespace Go.AM
open Go.RowKit Go.Proofs
set_option linter.unusedSimpArgs false
set_option linter.unusedVariables false
set_option maxHeartbeats 1000000
def knE : KnF := fun f args =>
 if f = 21 then match args with
  | [x, y] => (obOf x).bind fun a => (obOf y).bind fun b =>
    if a.esd.length ≤ 1000000 ∧ a.txt.length ≤ 1000000 ∧ a.rld.length ≤ 1000000 then some (.v (.bool (eqM a b))) else none
  | _ => none
 else knS f args
theorem knE_ok : KnOk Try.prog knE := by
 intro f args r h
 unfold knE at h
 split at h
 ·rename_i hf
  subst hf
  split at h
  ·obtain ⟨a, ha, h⟩ := Option.bind_eq_some_iff.1 h
   obtain ⟨b, hb, h⟩ := Option.bind_eq_some_iff.1 h
   split at h
   ·rename_i hc
    cases h
    rw [obOf_eq ha, obOf_eq hb]
    exact objEqual_sound a b hc.1 hc.2.1 hc.2.2
   ·cases h
  ·cases h
 ·exact knS_ok f args r h
end Go.AM
namespace Go.AM
open Go.RowKit Go.Proofs
set_option maxRecDepth 100000
set_option maxHeartbeats 4000000
theorem works_sound : Sound Try.prog 14 [] (.v (.bool true)) := HX.sound_execK (hb := fun t => t == 23) knE_ok mx 3000 (by kernel_rfl)
end Go.AM
namespace Go.AM
open Go.RowKit Go.Proofs
set_option linter.unusedSimpArgs false
set_option linter.unusedVariables false
set_option maxHeartbeats 4000000
def dB (b : List UInt8) (fr i : Nat) : UInt8 := if b = [] then UInt8.ofNat i else b.getD ((fr + i) % b.length) 0
def wd8 (b : List UInt8) (fr n : Nat) : List UInt8 := (List.range n).map (dB b fr)
@[simp] theorem dataM_len (b : List UInt8) (fr n : Nat) : (wd8 b fr n).length = n := by simp [wd8]
theorem setAt31 (p r : List UInt8) (z w : UInt8) : ys9 (byL (p ++ z :: r)) p.length [.v (.int .u8 w.toNat)] = byL (p ++ w :: r) := by
 rw [xc9, xc9, wt9, wt9, ys9, List.take_append_of_le_length (by simp), List.take_of_length_le (by simp), List.drop_append]
 simp
theorem data_sound (b : List UInt8) (fr n : Nat) (hb : b.length ≤ 9223372036854775000) (hf : fr ≤ 1000) (hn : n ≤ 100000) : Sound Try.prog 36 [.lst .any 1 (byL b), .v (.int .i64 fr), .v (.int .i64 n)] (.lst .any 1 (byL (wd8 b fr n))) := by
 refine yw8 Try.func36 rfl (by decide +kernel) (by simp [Try.f36]) rfl rfl (rs := [.tmp 6]) rfl ?_
 rw [show Try.f36.ntmps = 38 from rfl]
 have hn2 : (n : Int) ≤ 281474976710656 := by omega
 have hn3 : (n : Int) ≤ 9223372036854775807 := by omega
 refine yt9 [0, 1, 2] (by simp; rfl) ?_
 refine yt9 [0, 1, 7] (by simp [hn2, hn3]; rfl) ?_
 refine xg9 (fun σ => σ = ⟨38, [(7, .arr 0 0 n n)], [.cells 5 (byL (wd8 b fr n))]⟩) ?_ ?_
 ·refine yt9 [0, 1, 7, 12, 13] (by simp; rfl) ?_
  refine yf9 ?_
  refine zn9 (fun k σ => ∃ i : Nat, k = n - i ∧ i ≤ n ∧ σ = ⟨38, [(0, .lst .any 1 (byL b)), (1, .v (.int .i64 fr)), (7, .arr 0 0 n n), (12, .v (.int .i64 n)), (13, .v (.int .i64 (i : Nat)))], [.cells 5 (byL (wd8 b fr i ++ List.replicate (n - i) 0))]⟩) (k := n) ⟨0, rfl, by omega, ?_⟩ ?_
  ·simp [repC_byL31, wd8]
  rintro k σ ⟨i, rfl, hi, rfl⟩
  by_cases c : i < n
  ·have ci : (i : Int) < n := by omega
   have wi := w64 (n := (i : Int) + 1) (by omega) (by omega)
   have wf := w64 (n := (fr : Int) + i) (by omega) (by omega)
   obtain ⟨D, hD⟩ : ∃ D, wd8 b fr i = D := ⟨_, rfl⟩
   have hDl : D.length = i := by rw [← hD]; simp
   have hrep : List.replicate (n - i) (0 : UInt8) = 0 :: List.replicate (n - (i + 1)) 0 := by
    rw [show n - i = n - (i + 1) + 1 by omega, List.replicate_succ]
   have hsnoc : wd8 b fr (i + 1) = D ++ [dB b fr i] := by rw [wd8, List.range_succ, List.map_append, ← hD]; rfl
   have hfin : byL (wd8 b fr (i + 1) ++ List.replicate (n - (i + 1)) 0) = byL (D ++ dB b fr i :: List.replicate (n - (i + 1)) 0) := by rw [hsnoc]; simp
   rw [hD, hrep]
   have hlen : ∀ z : UInt8, i + 1 ≤ (byL (D ++ z :: List.replicate (n - (i + 1)) 0)).length := by intro z; simp [hDl] <;> omega
   obtain ⟨u0, hu0⟩ : ∃ u, UInt8.ofNat i = u := ⟨_, rfl⟩
   have s1 := setAt31 D (List.replicate (n - (i + 1)) 0) 0 u0
   rw [hDl] at s1
   have hu8 : IntKind.u8.wrap (i : Int) = (u0.toNat : Nat) := by rw [← hu0]; exact u8v i
   refine yt9 [0, 1, 7, 12, 13, 14] (by simp [ci]; rfl) ?_
   refine yk9 ?_
   refine yd9 rfl (fun h => ?_) (fun h => by simp [c] at h)
   refine yh9 ?_
   refine yk9 ?_
   refine yf9 ?_
   refine yt9 [0, 1, 7, 12, 13, 8] (by simp; rfl) ?_
   obtain ⟨z0, hz0⟩ : ∃ z, byL (D ++ 0 :: List.replicate (n - (i + 1)) 0) = z := ⟨_, rfl⟩
   have hl0 := hlen 0
   rw [hz0] at s1 hl0 ⊢
   refine yt9 [0, 1, 7, 12, 13, 8] (by simp [c, ci, hu8, hl0]; rfl) ?_
   rw [s1]
   refine W_thenC (fun σ => σ = ⟨38, [(0, .lst .any 1 (byL b)), (1, .v (.int .i64 fr)), (7, .arr 0 0 n n), (12, .v (.int .i64 n)), (13, .v (.int .i64 (i : Nat)))], [.cells 5 (byL (D ++ dB b fr i :: List.replicate (n - (i + 1)) 0))]⟩) ?_ ?_
   ·by_cases hb0 : b = []
    ·subst hb0
     refine W_cF [0, 1, 7, 12, 13, 8, 23] (by simp; rfl) rfl ?_
     refine zt9 [0, 1, 7, 12, 13] ?_
     refine yh9 ?_
     simp [yp9, inBlk, dB, hu0]
    ·have hpos : 0 < b.length := List.length_pos_iff.2 hb0
     have hpi : (0 : Int) < b.length := by omega
     obtain ⟨q, hq⟩ : ∃ q, (fr + i) % b.length = q := ⟨_, rfl⟩
     have hql : q < b.length := by rw [← hq]; exact Nat.mod_lt _ hpos
     have hqi : (q : Int) < b.length := by omega
     obtain ⟨y, hy⟩ : ∃ y, b[q]? = some y := ⟨_, List.getElem?_eq_getElem hql⟩
     have hy2 : b[q]'hql = y := by rw [List.getElem?_eq_getElem hql] at hy; exact Option.some.inj hy
     have hdb : dB b fr i = y := by rw [dB, if_neg hb0, hq, List.getD_eq_getElem?_getD, hy]; rfl
     have hrem : Int.tmod ((fr : Int) + i) b.length = q := by
      rw [show ((fr : Int) + i) = ((fr + i : Nat) : Int) by omega, ← hq]
      exact rfl
     have wq := w64 (n := (q : Int)) (by omega) (by omega)
     have s2 := setAt31 D (List.replicate (n - (i + 1)) 0) u0 y
     rw [hDl] at s2
     have hl1 := hlen u0
     obtain ⟨z1, hz1⟩ : ∃ z, byL (D ++ u0 :: List.replicate (n - (i + 1)) 0) = z := ⟨_, rfl⟩
     rw [hz1] at s2 hl1 ⊢
     rw [hdb]
     refine W_cT [0, 1, 7, 12, 13, 8, 23] (by simp [hpos, hpi]; rfl) rfl ?_
     refine W_rE [0, 1, 7, 12, 13] ?_
     refine yq9 8 (by simp [wf]; rfl) rfl ?_
     refine yq9 3 (by simp [hrem, wq, hb0, hql, hqi, hy2]; rfl) rfl ?_
     refine yr9 (by simp [c, ci, hl1]; rfl) ?_
     simp [yp9, inBlk, s2]
   rintro _ rfl
   refine zs9 [0, 1, 7, 12, 13] (by simp [wi]; rfl) ?_
   exact ⟨_, by omega, i + 1, rfl, by omega, by rw [hfin]; simp⟩
  have hie : i = n := by omega
  subst hie
  refine yt9 [7, 14] (by simp; rfl) ?_
  refine yk9 ?_
  refine yd9 rfl (fun h => by simp at h) (fun h => ?_)
  refine zt9 [7] ?_
  refine zh9 ?_
  simp [yp9]
 rintro _ rfl
 have hle : (wd8 b fr n).length = n := by simp
 refine yt9 [6] (by simp; rfl) ?_
 refine zr9 ?_
 repeat (first | refine yl9 ?_ | refine yc9 ?_)
 exact ⟨_, by simp [retQ, vl9, hle]; exact ⟨rfl, rfl⟩, .inr (by simp [hle, List.take_of_length_le (Nat.le_of_eq hle)])⟩
end Go.AM
