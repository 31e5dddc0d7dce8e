/- Parts of the walk: C31EP C31EL C31LA C31LB C31LC C31OI C31OL C31LD C31LF C31ON. -/
import Derived.Test.YtlhaljblcimnbaaG9
namespace Go.AM
open Go.RowKit Go.Proofs
set_option linter.unusedSimpArgs false
set_option linter.unusedVariables false
set_option maxHeartbeats 1000000
def knE : KnF := fun f args =>
 if f = 21 then match args with
  | [x, y] => (obOf x).bind fun a => (obOf y).bind fun b =>
    if a.esd.length ≤ 1000000 ∧ a.txt.length ≤ 1000000 ∧ a.rld.length ≤ 1000000 then some (.v (.bool (eqM a b))) else none
  | _ => none
 else knS f args
theorem knE_ok : KnOk Try.prog knE := by
 intro f args r h
 unfold knE at h
 split at h
 ·rename_i hf
  subst hf
  split at h
  ·obtain ⟨a, ha, h⟩ := Option.bind_eq_some_iff.1 h
   obtain ⟨b, hb, h⟩ := Option.bind_eq_some_iff.1 h
   split at h
   ·rename_i hc
    cases h
    rw [obOf_eq ha, obOf_eq hb]
    exact objEqual_sound a b hc.1 hc.2.1 hc.2.2
   ·cases h
  ·cases h
 ·exact knS_ok f args r h
end Go.AM
namespace Go.AM
open Go.RowKit Go.Proofs
set_option maxRecDepth 100000
set_option maxHeartbeats 4000000
theorem works_sound : Sound Try.prog 14 [] (.v (.bool true)) := HX.sound_execK (hb := fun t => t == 23) knE_ok mx 3000 (by kernel_rfl)
end Go.AM
namespace Go.AM
open Go.RowKit Go.Proofs
set_option linter.unusedSimpArgs false
set_option linter.unusedVariables false
set_option maxHeartbeats 4000000
def dB (b : List UInt8) (fr i : Nat) : UInt8 := if b = [] then UInt8.ofNat i else b.getD ((fr + i) % b.length) 0
def dataM (b : List UInt8) (fr n : Nat) : List UInt8 := (List.range n).map (dB b fr)
@[simp] theorem dataM_len (b : List UInt8) (fr n : Nat) : (dataM b fr n).length = n := by simp [dataM]
theorem setAt31 (p r : List UInt8) (z w : UInt8) : yd9 (byL (p ++ z :: r)) p.length [.v (.int .u8 w.toNat)] = byL (p ++ w :: r) := by
 rw [wh9, wh9, vf9, vf9, yd9, List.take_append_of_le_length (by simp), List.take_of_length_le (by simp), List.drop_append]
 simp
theorem data_sound (b : List UInt8) (fr n : Nat) (hb : b.length ≤ 9223372036854775000) (hf : fr ≤ 1000) (hn : n ≤ 100000) : Sound Try.prog 36 [.lst .any 1 (byL b), .v (.int .i64 fr), .v (.int .i64 n)] (.lst .any 1 (byL (dataM b fr n))) := by
 refine vg9 Try.func36 rfl (by decide +kernel) (by simp [Try.f36]) rfl rfl (rs := [.tmp 6]) rfl ?_
 rw [show Try.f36.ntmps = 38 from rfl]
 have hn2 : (n : Int) ≤ 281474976710656 := by omega
 have hn3 : (n : Int) ≤ 9223372036854775807 := by omega
 refine yt9 [0, 1, 2] (by simp; rfl) ?_
 refine yt9 [0, 1, 7] (by simp [hn2, hn3]; rfl) ?_
 refine ws9 (fun σ => σ = ⟨38, [(7, .arr 0 0 n n)], [.cells 5 (byL (dataM b fr n))]⟩) ?_ ?_
 ·refine yt9 [0, 1, 7, 12, 13] (by simp; rfl) ?_
  refine yp9 ?_
  refine zn9 (fun k σ => ∃ i : Nat, k = n - i ∧ i ≤ n ∧ σ = ⟨38, [(0, .lst .any 1 (byL b)), (1, .v (.int .i64 fr)), (7, .arr 0 0 n n), (12, .v (.int .i64 n)), (13, .v (.int .i64 (i : Nat)))], [.cells 5 (byL (dataM b fr i ++ List.replicate (n - i) 0))]⟩) (k := n) ⟨0, rfl, by omega, ?_⟩ ?_
  ·simp [repC_byL31, dataM]
  rintro k σ ⟨i, rfl, hi, rfl⟩
  by_cases c : i < n
  ·have ci : (i : Int) < n := by omega
   have wi := w64 (n := (i : Int) + 1) (by omega) (by omega)
   have wf := w64 (n := (fr : Int) + i) (by omega) (by omega)
   obtain ⟨D, hD⟩ : ∃ D, dataM b fr i = D := ⟨_, rfl⟩
   have hDl : D.length = i := by rw [← hD]; simp
   have hrep : List.replicate (n - i) (0 : UInt8) = 0 :: List.replicate (n - (i + 1)) 0 := by
    rw [show n - i = n - (i + 1) + 1 by omega, List.replicate_succ]
   have hsnoc : dataM b fr (i + 1) = D ++ [dB b fr i] := by rw [dataM, List.range_succ, List.map_append, ← hD]; rfl
   have hfin : byL (dataM b fr (i + 1) ++ List.replicate (n - (i + 1)) 0) = byL (D ++ dB b fr i :: List.replicate (n - (i + 1)) 0) := by rw [hsnoc]; simp
   rw [hD, hrep]
   have hlen : ∀ z : UInt8, i + 1 ≤ (byL (D ++ z :: List.replicate (n - (i + 1)) 0)).length := by intro z; simp [hDl] <;> omega
   obtain ⟨u0, hu0⟩ : ∃ u, UInt8.ofNat i = u := ⟨_, rfl⟩
   have s1 := setAt31 D (List.replicate (n - (i + 1)) 0) 0 u0
   rw [hDl] at s1
   have hu8 : IntKind.u8.wrap (i : Int) = (u0.toNat : Nat) := by rw [← hu0]; exact u8v i
   refine yt9 [0, 1, 7, 12, 13, 14] (by simp [ci]; rfl) ?_
   refine yc9 ?_
   refine ys9 rfl (fun h => ?_) (fun h => by simp [c] at h)
   refine yk9 ?_
   refine yc9 ?_
   refine yp9 ?_
   refine yt9 [0, 1, 7, 12, 13, 8] (by simp; rfl) ?_
   obtain ⟨z0, hz0⟩ : ∃ z, byL (D ++ 0 :: List.replicate (n - (i + 1)) 0) = z := ⟨_, rfl⟩
   have hl0 := hlen 0
   rw [hz0] at s1 hl0 ⊢
   refine yt9 [0, 1, 7, 12, 13, 8] (by simp [c, ci, hu8, hl0]; rfl) ?_
   rw [s1]
   refine W_thenC (fun σ => σ = ⟨38, [(0, .lst .any 1 (byL b)), (1, .v (.int .i64 fr)), (7, .arr 0 0 n n), (12, .v (.int .i64 n)), (13, .v (.int .i64 (i : Nat)))], [.cells 5 (byL (D ++ dB b fr i :: List.replicate (n - (i + 1)) 0))]⟩) ?_ ?_
   ·by_cases hb0 : b = []
    ·subst hb0
     refine W_cF [0, 1, 7, 12, 13, 8, 23] (by simp; rfl) rfl ?_
     refine ym9 [0, 1, 7, 12, 13] ?_
     refine yk9 ?_
     simp [yf9, inBlk, dB, hu0]
    ·have hpos : 0 < b.length := List.length_pos_iff.2 hb0
     have hpi : (0 : Int) < b.length := by omega
     obtain ⟨q, hq⟩ : ∃ q, (fr + i) % b.length = q := ⟨_, rfl⟩
     have hql : q < b.length := by rw [← hq]; exact Nat.mod_lt _ hpos
     have hqi : (q : Int) < b.length := by omega
     obtain ⟨y, hy⟩ : ∃ y, b[q]? = some y := ⟨_, List.getElem?_eq_getElem hql⟩
     have hy2 : b[q]'hql = y := by rw [List.getElem?_eq_getElem hql] at hy; exact Option.some.inj hy
     have hdb : dB b fr i = y := by rw [dB, if_neg hb0, hq, List.getD_eq_getElem?_getD, hy]; rfl
     have hrem : Int.tmod ((fr : Int) + i) b.length = q := by
      rw [show ((fr : Int) + i) = ((fr + i : Nat) : Int) by omega, ← hq]
      exact rfl
     have wq := w64 (n := (q : Int)) (by omega) (by omega)
     have s2 := setAt31 D (List.replicate (n - (i + 1)) 0) u0 y
     rw [hDl] at s2
     have hl1 := hlen u0
     obtain ⟨z1, hz1⟩ : ∃ z, byL (D ++ u0 :: List.replicate (n - (i + 1)) 0) = z := ⟨_, rfl⟩
     rw [hz1] at s2 hl1 ⊢
     rw [hdb]
     refine W_cT [0, 1, 7, 12, 13, 8, 23] (by simp [hpos, hpi]; rfl) rfl ?_
     refine W_rE [0, 1, 7, 12, 13] ?_
     refine yq9 8 (by simp [wf]; rfl) rfl ?_
     refine yq9 3 (by simp [hrem, wq, hb0, hql, hqi, hy2]; rfl) rfl ?_
     refine yw9 (by simp [c, ci, hl1]; rfl) ?_
     simp [yf9, inBlk, s2]
   rintro _ rfl
   refine zd9 [0, 1, 7, 12, 13] (by simp [wi]; rfl) ?_
   exact ⟨_, by omega, i + 1, rfl, by omega, by rw [hfin]; simp⟩
  have hie : i = n := by omega
  subst hie
  refine yt9 [7, 14] (by simp; rfl) ?_
  refine yc9 ?_
  refine ys9 rfl (fun h => by simp at h) (fun h => ?_)
  refine ym9 [7] ?_
  refine zc9 ?_
  simp [yf9]
 rintro _ rfl
 have hle : (dataM b fr n).length = n := by simp
 refine yt9 [6] (by simp; rfl) ?_
 refine zq9 ?_
 repeat (first | refine yg9 ?_ | refine yh9 ?_)
 exact ⟨_, by simp [retQ, wk9, hle]; exact ⟨rfl, rfl⟩, .inr (by simp [hle, List.take_of_length_le (Nat.le_of_eq hle)])⟩
end Go.AM
namespace Go.AM
open Go.RowKit Go.Proofs
set_option linter.unusedSimpArgs false
set_option linter.unusedVariables false
set_option maxHeartbeats 8000000
def u16L (l : List Nat) : List AV := l.map fun n => .v (.int .u16 (n : Nat))
@[simp] theorem u16L_length (l : List Nat) : (u16L l).length = l.length := by simp [u16L]
@[simp] theorem u16L_getElem (l : List Nat) (i : Nat) (h : i < (u16L l).length) : (u16L l)[i] = .v (.int .u16 (l[i]'(by simpa using h) : Nat)) := by simp [u16L]
@[simp] theorem dpL_u16L (l : List Nat) : AV.dpL (u16L l) = u16L l := by induction l <;> simp_all [u16L, AV.dpL, AV.dp]
structure SeedM where
 esds : List UInt8
 txts : List Nat
 rlds : List Nat
 entry : UInt8
 data : List UInt8
def zv9 (x : SeedM) : List AV := [.lst .any 1 (byL x.esds), .lst .any 1 (u16L x.txts), .lst .any 1 (u16L x.rlds), .v (.int .u8 x.entry.toNat), .lst .any 1 (byL x.data)]
@[simp] def seedA (x : SeedM) : AV := .agg [.lst .any 1 (byL x.esds), .lst .any 1 (u16L x.txts), .lst .any 1 (u16L x.rlds), .v (.int .u8 x.entry.toNat), .lst .any 1 (byL x.data)]
@[simp] theorem killL_seedC (t : Nat) (x : SeedM) : AV.killL t (zv9 x) = zv9 x := by simp [zv9, AV.killL, AV.kill]
theorem wg9 (t : Nat) (x : SeedM) : AV.underL t (zv9 x) = true := by simp [zv9, AV.underL, AV.under]
end Go.AM
namespace Go.AM
open Go.RowKit Go.Proofs
set_option linter.unusedSimpArgs false
set_option linter.unusedVariables false
set_option maxHeartbeats 4000000
structure LSm (m : LMod) : Prop where
 s : m.seg.length ≤ 100000
 t : m.text.length ≤ 10000000
 r : m.rel.length ≤ 10000000
end Go.AM
namespace Go.AM
open Go.RowKit Go.Proofs
set_option linter.unusedSimpArgs false
set_option linter.unusedVariables false
set_option maxHeartbeats 4000000
theorem chkM_EInv {o : OMod} (h : chkM o = true) : ∃ S N nx, xq8 o.esd [] [] 1 = some (S, N, nx) ∧ EInv o.esd S N nx := by
 simp only [chkM, Bool.and_eq_true] at h
 obtain ⟨h1, h2, h3⟩ := h
 cases hG : xq8 o.esd [] [] 1 with
 | none => rw [hG] at h2; simp [esdB] at h2
 | some p =>
  obtain ⟨S, N, nx⟩ := p
  exact ⟨S, N, nx, rfl, by simpa using esdGo_EInv o.esd [] [] S [] N 1 nx EInv.nil hG⟩
theorem chkM_ids {o : OMod} (h : chkM o = true) : ∀ x ∈ o.esd, x.kind ≠ 2 → 1 ≤ x.id := by
 obtain ⟨S, N, nx, _, hE⟩ := chkM_EInv h
 intro x hx hk
 have h1 := hE.t1 x.id
 have h2 : o.esd.any (isTg x.id) = true := List.any_eq_true.2 ⟨x, hx, by simp [isTg, hk]⟩
 rw [h2] at h1
 have h3 := h1.symm
 simp only [Bool.and_eq_true, decide_eq_true_eq] at h3
 exact h3.1
theorem egoR_length (l : List Rld) : ∀ (f i : Nat), (egoR l f i).length ≤ f
 | 0, i => by simp [egoR]
 | f + 1, i => by
  rw [egoR]
  split
  ·have := egoR_length l f (i + 7)
   simp
   omega
  ·simp
theorem encO_len (o : OMod) : (encO o).length ≤ o.esd.length + o.txt.length + o.rld.length + 1 := by
 have h1 := egoE_length o.esd o.esd.length 0
 have h2 := egoR_length o.rld o.rld.length 0
 simp [encO]
 omega
structure OSm (o : OMod) : Prop where
 i : OIn o
 e : o.esd.length ≤ 1000000
 t : o.txt.length ≤ 1000000
 r : o.rld.length ≤ 1000000
theorem zs8 (o : OMod) (ho : OSm o) : Sound Try.prog 11 [obA o] (.v (.bool true)) := by
 obtain ⟨hi, h1, h2, h3⟩ := ho
 refine zj9 Try.func11 rfl (by decide +kernel) (by simp [Try.f11, strB]) (by simp [AV.rfL, AV.rf, strB]) (by simp [AV.tlL, AV.tl, strB]) (rs := [.tmp 2]) rfl ?_
 rw [show Try.f11.ntmps = 38 from rfl]
 have he := encO_sound o hi
 have hr := rcheckObject_sound o hi ⟨h1, h2, h3⟩
 have hk := xw8 o hi
 have hlen := encO_len o
 have hsl := sameLists_sound (encO o) (encO o) (by omega)
 rw [show decide (encO o = encO o) = true by simp] at hsl
 refine yt9 [1] (by simp; rfl) ?_
 refine (show Wt true 0 Try.prog _ _ ⟨38, [(1, .loc 0 0)], [.cells 26 (obC o)]⟩ from ?_)
 by_cases hc : chkM o = true
 ·have hre := rencodeObject_sound o (chkM_ok hc) (chkM_ids hc)
  rw [encOR, if_pos hc] at he
  rw [hc] at hr hk
  simp only [if_true] at hk
  refine W_rK [1, 3, 4] ?_
  refine yq9 1 (by simp [obC, strB]; rfl) rfl ?_
  refine yj9 (by simp) (by first | (simp; done) | (simp; rfl) | (simp [strB]; done) | (simp [strB]; rfl)) he (by simp; rfl) ?_
  refine yw9 (by simp; rfl) ?_
  refine yc9 ?_
  refine W_rK [1, 3, 4, 12] ?_
  refine yq9 1 (by simp [obC, strB]; rfl) rfl ?_
  refine yj9 (by simp) (by first | (simp; done) | (simp; rfl) | (simp [strB]; done) | (simp [strB]; rfl)) hr (by simp; rfl) ?_
  refine yw9 (by simp; rfl) ?_
  refine ys9 rfl (fun h => by simp at h) (fun h => ?_)
  refine yk9 ?_
  refine W_rK [2] ?_
  refine yq9 1 (by simp [obC, strB]; rfl) rfl ?_
  refine yj9 (by simp) (by first | (simp; done) | (simp; rfl) | (simp [strB]; done) | (simp [strB]; rfl)) hk (by simp; rfl) ?_
  refine yq9 8 (by simp [obC, strB]; rfl) rfl ?_
  refine yj9 (by simp) (by first | (simp; done) | (simp; rfl) | (simp [strB]; done) | (simp [strB]; rfl)) hre (by simp; rfl) ?_
  refine yj9 (by simp) (by first | (simp; done) | (simp; rfl)) hsl (by simp; rfl) ?_
  refine yw9 (by simp; rfl) ?_
  refine zq9 ?_
  repeat (first | refine yg9 ?_ | refine yh9 ?_)
  simp [retQ]
 ·have hcf : chkM o = false := by simpa using hc
  rw [encOR, if_neg hc] at he
  rw [hcf] at hr hk
  simp only [Bool.false_eq_true, if_false] at hk
  refine W_rK [1, 3, 4] ?_
  refine yq9 1 (by simp [obC, strB]; rfl) rfl ?_
  refine yj9 (by simp) (by first | (simp; done) | (simp; rfl) | (simp [strB]; done) | (simp [strB]; rfl)) he (by simp; rfl) ?_
  refine yw9 (by simp; rfl) ?_
  refine yc9 ?_
  refine W_rK [1, 3, 4, 12] ?_
  refine yq9 1 (by simp [obC, strB]; rfl) rfl ?_
  refine yj9 (by simp) (by first | (simp; done) | (simp; rfl) | (simp [strB]; done) | (simp [strB]; rfl)) hr (by simp; rfl) ?_
  refine yw9 (by simp; rfl) ?_
  refine ys9 rfl (fun h => ?_) (fun h => by simp at h)
  refine W_rK [2] ?_
  refine yq9 1 (by simp [obC, strB]; rfl) rfl ?_
  refine yj9 (by simp) (by first | (simp; done) | (simp; rfl) | (simp [strB]; done) | (simp [strB]; rfl)) hk (by simp; rfl) ?_
  refine yq9 6 (by simp; rfl) rfl ?_
  refine yw9 (by simp; rfl) ?_
  refine zq9 ?_
  repeat (first | refine yg9 ?_ | refine yh9 ?_)
  simp [retQ]
def cutO (o : OMod) : OMod := ⟨o.esd.take (min o.esd.length 60), o.txt.take (min o.txt.length 60), o.rld.take (min o.rld.length 60), o.entry⟩
theorem txL_take31 (l : List Txt) (n : Nat) : txL (l.take n) = (txL l).take n := by simp [txL]
theorem cutObject_sound (o : OMod) : Sound Try.prog 12 [obA o] (obA (cutO o)) := by
 refine ym8 Try.func12 rfl (by decide +kernel) (by simp [Try.f12, strB]) (by simp [AV.rfL, AV.rf, strB]) (by simp [AV.tlL, AV.tl, strB]) (rs := [.cell 2 26]) rfl ?_
 rw [show Try.f12.ntmps = 28 from rfl]
 obtain ⟨a, ha⟩ : ∃ a, min o.esd.length 60 = a := ⟨_, rfl⟩
 obtain ⟨b, hb⟩ : ∃ b, min o.txt.length 60 = b := ⟨_, rfl⟩
 obtain ⟨c, hc⟩ : ∃ c, min o.rld.length 60 = c := ⟨_, rfl⟩
 have ma : (if (60 : Int) < o.esd.length then 60 else (o.esd.length : Int)) = (a : Nat) := by split <;> omega
 have mb : (if (60 : Int) < o.txt.length then 60 else (o.txt.length : Int)) = (b : Nat) := by split <;> omega
 have mc : (if (60 : Int) < o.rld.length then 60 else (o.rld.length : Int)) = (c : Nat) := by split <;> omega
 have la : a ≤ o.esd.length := by omega
 have lb : b ≤ o.txt.length := by omega
 have lc : c ≤ o.rld.length := by omega
 refine yt9 [1, 2] (by simp [strB]; rfl) ?_
 refine vk8 [1, 2] mx (by decide +kernel) ?_
 have la' : (a : Int) ≤ o.esd.length := by omega
 have lb' : (b : Int) ≤ o.txt.length := by omega
 have lc' : (c : Int) ≤ o.rld.length := by omega
 refine yr9 6 (by simp [ma, strB]; rfl) rfl ?_
 refine yr9 7 (by simp [mb, la, la', strB]; rfl) rfl ?_
 refine yr9 7 (by simp [mc, lb, lb', strB]; rfl) rfl ?_
 refine zf9 (by simp [lc, lc', yd9, strB]; rfl) ?_
 refine yt9 [2] (by simp [yd9, strB]; rfl) ?_
 refine zq9 ?_
 repeat (first | refine yg9 ?_ | refine yh9 ?_)
 rw [← esL_take, ← txL_take31, ← rdL_take]
 refine ⟨_, by simp [retQ]; exact ⟨rfl, by simp [AV.rf, AV.rfL]⟩, ?_⟩
 rw [cutO, ha, hb, hc]
 exact AV.Le.refl _
end Go.AM
namespace Go.AM
open Go.RowKit Go.Proofs
set_option linter.unusedSimpArgs false
set_option linter.unusedVariables false
set_option maxHeartbeats 4000000
theorem AV.Le.agg {P : Program} {xs ys : List AV} (hl : xs.length = ys.length) (h : ∀ (j : Nat) (x y : AV), xs[j]? = some x → ys[j]? = some y → AV.Le P x y) : AV.Le P (.agg xs) (.agg ys) := fun c w u T hT h1 h2 => by
 simp only [AV.norm] at h1 h2 ⊢
 obtain ⟨us, rfl, hul, hrr⟩ := agg_inv h1
 have hoo := own_agg h2
 have hln : ∀ l : List AV, (AV.normL T l).length = l.length := fun l => by induction l <;> simp_all [AV.normL]
 have key : ∀ j y, (AV.normL T ys)[j]? = some y → Rep c w y (us.getD j undef) ∧ Own P c w y (us.getD j undef) := by
  intro j y hj
  rw [xd8] at hj
  obtain ⟨y0, hy, rfl⟩ := Option.map_eq_some_iff.1 hj
  have hjl : j < xs.length := by rw [hl]; exact (List.getElem?_eq_some_iff.1 hy).1
  have hx : xs[j]? = some xs[j] := List.getElem?_eq_getElem hjl
  have hxn : (AV.normL T xs)[j]? = some (xs[j].norm T) := by rw [xd8, hx]; rfl
  exact h j _ _ hx hy c w _ T hT (hrr j _ hxn) (hoo j _ hxn)
 exact ⟨.agg (by rw [hln, ← hl, ← hul, hln]) fun j y hj => (key j y hj).1, .agg fun j y hj => (key j y hj).2⟩
structure OSn (o : OMod) : Prop where
 i : OIn o
 e : o.esd.length ≤ 1000
 t : o.txt.length ≤ 1000
 r : o.rld.length ≤ 1000
 d : ∀ t ∈ o.txt, t.data.length ≤ 1000
 n : ∀ x ∈ o.esd, x.name.length ≤ 1000
 en : o.entry.length ≤ 1000
 e0 : o.esd ≠ []
theorem OSn.sm {o : OMod} (h : OSn o) : OSm o := ⟨h.i, by have := h.e; omega, by have := h.t; omega, by have := h.r; omega⟩
def ordE : Ord := .one 10 (.one 11 (.one 12 .done))
def ordC : Ord := .one 1 (.one 5 (.one 8 (.one 2 (.one 6 (.one 9 (.two 0 4 (.two 3 4 (.one 4 (.one 7 ordE)) (.one 3 (.one 7 ordE))) (.one 0 (.one 3 (.one 7 ordE)))))))))
def ro0 (_ : Nat) : Bool := false
theorem xv8 (o : OMod) (ho : OSn o) : Sound Try.prog 40 [obA o] (.agg [.lst (.tip 78 1) 5 (esL o.esd), .lst (.tip 73 1) 3 (txL o.txt), .lst (.tip 80 1) 5 (rdL o.rld), strB o.entry]) := by
 have h1 := ho.e
 have h2 := ho.t
 have h3 := ho.r
 have q1 : o.esd.length * 48 ≤ 140737488355328 := by omega
 have q1' : o.esd.length ≤ 140737488355328 := by omega
 have q3 : o.rld.length * 40 ≤ 140737488355328 := by omega
 have q3' : o.rld.length ≤ 140737488355328 := by omega
 refine ym8 Try.func40 rfl (by decide +kernel) (by simp [Try.f40, strB]) (by simp [AV.rfL, AV.rf, strB]) (by simp [AV.tlL, AV.tl, strB]) (rs := [.cell 2 26]) rfl ?_
 rw [show Try.f40.ntmps = 37 from rfl]
 refine yt9 [1, 2] (by simp [strB]; rfl) ?_
 refine xv9 (fun σ => σ = ⟨37, [(1, .loc 0 0), (2, .loc 1 0), (3, .loc 2 0)], [.cells 26 (obC o), .cells 26 [.lst .nil 5 [], .lst .nil 3 [], .lst .nil 5 [], .v (.string ⟨#[]⟩)], .cells 26 [.lst (.tip 78 19) 5 (esL o.esd), .lst .nil 3 [], .lst (.tip 80 27) 5 (rdL o.rld), strB o.entry]]⟩) ?_ ?_
 ·refine vr9 [1, 2, 3] (W_ord ro0 ordC mx (by decide +kernel) ?_)
  refine evO_runO _ _ _ (by simp [evO, ordC, ordE, ro0, roAt, q1, q1', q3, q3', obC, tipA, yd9, strB]; rfl) ?_
  intro s' hs'
  simp only [List.mem_append, List.mem_singleton, List.mem_cons, List.not_mem_nil, or_false] at hs'
  rcases hs' with rfl | rfl | rfl
  all_goals exact ⟨_, Seen.refl _ _, by simp [obC, strB, yd9]⟩
 rintro _ rfl
 refine xv9 (fun σ => ∃ ft, (ft = .nil ∧ o.txt = [] ∨ ft = .tip 73 67) ∧ σ = ⟨37, [(2, .loc 1 0), (3, .loc 2 0)], [.cells 26 (obC o), .cells 26 [.lst .nil 5 [], .lst .nil 3 [], .lst .nil 5 [], .v (.string ⟨#[]⟩)], .cells 26 [.lst (.tip 78 19) 5 (esL o.esd), .lst ft 3 (txL o.txt), .lst (.tip 80 27) 5 (rdL o.rld), strB o.entry]]⟩) ?_ ?_
 ·refine yt9 [2, 3, 18, 19, 20] (by simp [obC]; rfl) ?_
  refine yp9 ?_
  refine zn9 (fun m σ => ∃ (i : Nat) (ft : Fl), m = o.txt.length - i ∧ i ≤ o.txt.length ∧ (ft = .nil ∧ o.txt.take i = [] ∨ ft = .tip 73 67) ∧ σ = ⟨37, [(2, .loc 1 0), (3, .loc 2 0), (18, .lst .any 3 (txL o.txt)), (19, .v (.int .i64 (o.txt.length : Nat))), (20, .v (.int .i64 (i : Nat)))], [.cells 26 (obC o), .cells 26 [.lst .nil 5 [], .lst .nil 3 [], .lst .nil 5 [], .v (.string ⟨#[]⟩)], .cells 26 [.lst (.tip 78 19) 5 (esL o.esd), .lst ft 3 (txL (o.txt.take i)), .lst (.tip 80 27) 5 (rdL o.rld), strB o.entry]]⟩) (k := o.txt.length) ⟨0, .nil, rfl, by omega, .inl ⟨rfl, rfl⟩, by simp [obC, txL]⟩ ?_
  rintro m σ ⟨i, ft, rfl, hi, hfl, rfl⟩
  by_cases c : i < o.txt.length
  ·have ci : (i : Int) < o.txt.length := by omega
   obtain ⟨x, hs⟩ : ∃ x, o.txt[i]? = some x := ⟨_, List.getElem?_eq_getElem c⟩
   have hs2 : o.txt[i]'c = x := by rw [List.getElem?_eq_getElem c] at hs; exact Option.some.inj hs
   have htk : o.txt.take (i + 1) = o.txt.take i ++ [x] := by rw [List.take_add_one, hs]; rfl
   have htl : (o.txt.take i).length = i := by simp; omega
   have hxd := ho.d x (List.mem_of_getElem? hs)
   have wi := w64 (n := (i : Int) + 1) (by omega) (by omega)
   have hd1 : x.data.length ≤ 140737488355328 := by omega
   obtain ⟨TK, hTK⟩ : ∃ t, o.txt.take i = t := ⟨_, rfl⟩
   rw [hTK] at htk htl hfl ⊢
   have hq2 : (TK.length + 1) * 40 ≤ 140737488355328 := by omega
   refine yt9 [2, 3, 18, 19, 20, 21] (by simp [ci]; rfl) ?_
   refine yc9 ?_
   refine ys9 rfl (fun h => ?_) (fun h => by simp [c] at h)
   refine yk9 ?_
   refine yc9 ?_
   refine yp9 ?_
   refine yt9 [2, 3, 18, 19, 20, 5] (by simp [c, ci, hs2, yd9, AV.weakL, AV.weak, AV.koneL, AV.kone]; rfl) ?_
   rcases hfl with ⟨rfl, h0⟩ | rfl
   ·subst h0
    refine yt9 [2, 3, 18, 19, 20, 5] (by simp [yd9, hd1, strB]; rfl) ?_
    refine zd9 [2, 3, 18, 19, 20] (by simp [yd9, catK, AV.cellsK, AV.kone, AV.koneL, AV.weak, AV.weakL, txL, strB]; rfl) ?_
    refine xk9 3 (Nat.zero_le _) (by simp) (by simp [yb9, AV.under, AV.underL]) (by simp [yl9, xd9, AObj.under, AV.under, AV.underL, zw9, strB]) ?_
    refine zd9 [2, 3, 18, 19, 20] (by simp [wi]; rfl) ?_
    exact ⟨_, by omega, i + 1, .tip 73 67, rfl, by omega, .inr rfl, by simp [htk, txL, strB]⟩
   ·refine yt9 [2, 3, 18, 19, 20, 5] (by simp [yd9, hd1, strB]; rfl) ?_
    refine zd9 [2, 3, 18, 19, 20] (by simp [yd9, catK, AV.cellsK, AV.kone, AV.koneL, AV.weak, AV.weakL, strB, hq2]; rfl) ?_
    refine xk9 3 (Nat.zero_le _) (by simp) (by simp [yb9, AV.under, AV.underL]) (by simp [yl9, xd9, AObj.under, AV.under, AV.underL, zw9, strB]) ?_
    refine zd9 [2, 3, 18, 19, 20] (by simp [wi]; rfl) ?_
    exact ⟨_, by omega, i + 1, .tip 73 67, rfl, by omega, .inr rfl, by simp [htk, txL, strB]⟩
  ·have e : i = o.txt.length := by omega
   subst e
   refine yt9 [2, 3, 18, 19, 20, 21] (by simp; rfl) ?_
   refine yc9 ?_
   refine ys9 rfl (fun h => by simp at h) (fun _ => ?_)
   refine ym9 [2, 3] ?_
   refine zc9 ?_
   exact ⟨ft, hfl.imp (fun h => ⟨h.1, by simpa using h.2⟩) id, by simp⟩
 rintro σ ⟨ft, hft, rfl⟩
 refine yt9 [2] (by simp [yd9, strB]; rfl) ?_
 refine zq9 ?_
 repeat (first | refine yg9 ?_ | refine yh9 ?_)
 refine ⟨.agg [.lst (.tip 78 19) 5 (esL o.esd), .lst ft 3 (txL o.txt), .lst (.tip 80 27) 5 (rdL o.rld), strB o.entry], ?_, AV.Le.agg (by rfl) fun j x y hx hy => ?_⟩
 ·rcases hft with ⟨rfl, h0⟩ | rfl
  ·simp [retQ, yd9, strB, AV.rf, AV.rfL]
  ·simp [retQ, yd9, strB, AV.rf, AV.rfL]
 match j with
 | 0 => simp at hx hy; subst hx hy; exact AV.Le.norm fun T => rfl
 | 1 =>
  simp at hx hy; subst hx hy
  rcases hft with ⟨rfl, h0⟩ | rfl
  ·rw [h0]; exact AV.Le.nil (by decide +kernel)
  ·exact AV.Le.norm fun T => rfl
 | 2 => simp at hx hy; subst hx hy; exact AV.Le.norm fun T => rfl
 | 3 => simp at hx hy; subst hx hy; exact AV.Le.refl _
 | j + 4 => simp at hx
end Go.AM
namespace Go.AM
open Go.RowKit Go.Proofs
set_option linter.unusedSimpArgs false
set_option linter.unusedVariables false
set_option maxHeartbeats 4000000
end Go.AM
namespace Go.AM
open Go.RowKit Go.Proofs
set_option linter.unusedSimpArgs false
set_option linter.unusedVariables false
set_option maxHeartbeats 4000000
def flC {α : Type} (F : α → List AV) (l : List α) : List AV := (l.map F).flatten
section
variable {α : Type} {F : α → List AV} {sz : Nat}
theorem vd9 (x : α) (l : List α) : flC F (x :: l) = F x ++ flC F l := rfl
theorem flC_length (hF : ∀ x, (F x).length = sz) (l : List α) : (flC F l).length = l.length * sz := by
 induction l with
 | nil => simp [flC]
 | cons r t ih => rw [vd9, List.length_append, ih, hF, List.length_cons, Nat.add_mul]; omega
theorem chunk_flC (hF : ∀ x, (F x).length = sz) (l : List α) (rs : List AV) : chunk true sz l.length (flC F l ++ rs) = l.map fun x => .agg (F x) := by
 induction l with
 | nil => rfl
 | cons r t ih =>
  show AV.agg ((F r ++ flC F t ++ rs).take sz) :: chunk true sz t.length ((F r ++ flC F t ++ rs).drop sz) = _
  rw [List.append_assoc, ← hF r, List.take_left', List.drop_left', hF r, ih]
  ·rfl
  ·rfl
  ·rfl
theorem flC_get (hF : ∀ x, (F x).length = sz) {l : List α} {k : Nat} {r : α} (h : l[k]? = some r) (rs : List AV) (j : Nat) (hj : j < sz) : (flC F l ++ rs)[k * sz + j]? = (F r)[j]? := by
 induction l generalizing k with
 | nil => simp at h
 | cons x t ih =>
  cases k with
  | zero =>
   simp at h
   subst h
   rw [vd9, List.append_assoc, Nat.zero_mul, Nat.zero_add, List.getElem?_append_left (by rw [hF]; exact hj)]
  | succ k =>
   have := ih (k := k) (by simpa using h)
   rw [vd9, List.append_assoc, List.getElem?_append_right (by rw [hF, Nat.add_mul]; omega), ← this]
   congr 1
   rw [hF, Nat.add_mul]
   omega
theorem setSeg_skip31 (a xs : List AV) (k : Nat) (ys : List AV) : yd9 (a ++ xs) (a.length + k) ys = a ++ yd9 xs k ys := by
 unfold yd9
 rw [List.take_append, List.drop_append, List.take_of_length_le (by omega), List.drop_eq_nil_of_le (by omega)]
 simp only [List.append_assoc, List.nil_append, Nat.add_sub_cancel_left]
 rw [show a.length + k + ys.length - a.length = k + ys.length by omega]
theorem flC_set (hF : ∀ x, (F x).length = sz) {l : List α} {k : Nat} {r r' : α} (h : l[k]? = some r) (rs : List AV) (j : Nat) (ys : List AV) (hr : yd9 (F r) j ys = F r') (hj : j + ys.length ≤ sz) : yd9 (flC F l ++ rs) (k * sz + j) ys = flC F (l.set k r') ++ rs := by
 induction l generalizing k with
 | nil => simp at h
 | cons x t ih =>
  cases k with
  | zero =>
   simp at h
   subst h
   have e : yd9 (F x ++ (flC F t ++ rs)) j ys = yd9 (F x) j ys ++ (flC F t ++ rs) := by
    have h4 := hF x
    unfold yd9
    rw [List.take_append_of_le_length (by omega), List.drop_append_of_le_length (by omega)]
    simp only [List.append_assoc]
   rw [vd9, List.append_assoc, Nat.zero_mul, Nat.zero_add, e, hr, List.set_cons_zero, vd9, List.append_assoc]
  | succ k =>
   rw [vd9, List.append_assoc, show (k + 1) * sz + j = (F x).length + (k * sz + j) by rw [hF, Nat.add_mul]; omega, setSeg_skip31, ih (by simpa using h), List.set_cons_succ, vd9, List.append_assoc]
end
theorem vals_all {l : List AV} (h : ∀ x ∈ l, ∃ v, x = .v v ∧ v.oneCell' = true) : AV.weakL l = l ∧ AV.shalL l = true ∧ AV.rfL l = true ∧ AV.koneL l = true ∧ ∀ t, AV.killL t l = l := by
 induction l with
 | nil => exact ⟨rfl, rfl, rfl, rfl, fun _ => rfl⟩
 | cons x l ih =>
  obtain ⟨v, rfl, hv⟩ := h x List.mem_cons_self
  obtain ⟨h1, h2, h3, h4, h5⟩ := ih fun y hy => h y (List.mem_cons_of_mem _ hy)
  refine ⟨?_, ?_, ?_, ?_, fun t => ?_⟩
  ·simp [AV.weakL, AV.weak, h1]
  ·exact List.all_eq_true.2 fun y hy => by obtain ⟨v, rfl, _⟩ := h y hy; rfl
  ·simp [AV.rfL, AV.rf, h3]
  ·simp [AV.koneL, AV.kone, h4, hv]
  ·simp [AV.killL, AV.kill, h5]
theorem flC_vals {α : Type} {F : α → List AV} (hF : ∀ x, ∀ y ∈ F x, ∃ v, y = .v v ∧ v.oneCell' = true) (l : List α) : ∀ y ∈ flC F l, ∃ v, y = .v v ∧ v.oneCell' = true := by
 intro y hy
 simp only [flC, List.mem_flatten, List.mem_map] at hy
 obtain ⟨_, ⟨x, _, rfl⟩, hy⟩ := hy
 exact hF x y hy
theorem weakL_rep31 (k : Nat) : AV.weakL (List.replicate k .any) = List.replicate k .any := by
 induction k with
 | zero => rfl
 | succ k ih => rw [List.replicate_succ, AV.weakL, ih]; rfl
end Go.AM
namespace Go.AM
open Go.RowKit Go.Proofs
set_option linter.unusedSimpArgs false
set_option linter.unusedVariables false
set_option maxHeartbeats 8000000
theorem frz_flG {α : Type} {F : α → List AV} {sz ty id k cap : Nat} {h : List AObj} {l : List α} (hid : h[id]? = some (.cells ty (flC F l ++ List.replicate k .any))) (hty : tyI Try.prog ty = some (true, sz)) (hsz : 0 < sz) (hF : ∀ x, (F x).length = sz)
  (a1 : AV.weakL (flC F l) = flC F l) (a3 : AV.rfL (flC F l) = true) (a4 : AV.koneL (flC F l) = true) : ∃ o h', wk9 Try.prog h 1 id 0 l.length cap = some (.lst o sz (l.map fun x => .agg (F x)), h') ∧ (o = .any ∨ o = .tip ty 1) := by
 have hlen := flC_length hF l
 have hw : AV.weakL (flC F l ++ List.replicate k .any) = flC F l ++ List.replicate k .any := by
  rw [vm8, a1]
  rw [weakL_rep31]
 have ht : (flC F l ++ List.replicate k AV.any).take (0 + l.length * sz) = flC F l := by rw [Nat.zero_add, ← hlen, List.take_left']; rfl
 unfold wk9
 simp only [hid, hty]
 split
 ·rw [hw, List.drop_zero, chunk_flC hF]
  refine ⟨_, _, rfl, ?_⟩
  split
  ·exact .inr rfl
  ·exact .inl rfl
 ·rw [if_pos (by rw [ht]; exact ⟨hsz, .inl trivial, by simp [hlen], a4, a3⟩), ht, a1, List.drop_zero]
  have hc := chunk_flC hF l []
  rw [List.append_nil] at hc
  rw [hc]
  exact ⟨_, _, rfl, .inl rfl⟩
theorem yg7 (s : Esd) : (esC s).length = 5 := rfl
theorem txC_len (s : Txt) : (txC s).length = 3 := rfl
theorem rdC_len (s : Rld) : (rdC s).length = 5 := rfl
theorem catK_esL (l : List Esd) : catK 5 (esL l) = some (flC esC l) := by
 induction l with
 | nil => rfl
 | cons r t ih =>
  show catK 5 (esA r :: esL t) = _
  rw [catK, ih]
  simp [AV.cellsK, AV.koneL, AV.kone, vd9, esC, strB]
theorem catK_rdL (l : List Rld) : catK 5 (rdL l) = some (flC rdC l) := by
 induction l with
 | nil => rfl
 | cons r t ih =>
  show catK 5 (rdA r :: rdL t) = _
  rw [catK, ih]
  simp [AV.cellsK, AV.koneL, AV.kone, vd9, rdC]
theorem catK_txL (l : List Txt) : catK 3 (txL l) = some (flC txC l) := by
 induction l with
 | nil => rfl
 | cons r t ih =>
  show catK 3 (txA r :: txL t) = _
  rw [catK, ih]
  simp [AV.cellsK, AV.koneL, AV.kone, vd9, txC]
theorem esC_vals (s : Esd) : ∀ y ∈ esC s, ∃ v, y = .v v ∧ v.oneCell' = true := by simp [esC, strB, Value.oneCell']
theorem rdC_vals (s : Rld) : ∀ y ∈ rdC s, ∃ v, y = .v v ∧ v.oneCell' = true := by simp [rdC, Value.oneCell']
@[simp] theorem weakL_flE (l : List Esd) : AV.weakL (flC esC l) = flC esC l := (vals_all (flC_vals esC_vals l)).1
@[simp] theorem rfL_flE (l : List Esd) : AV.rfL (flC esC l) = true := (vals_all (flC_vals esC_vals l)).2.2.1
@[simp] theorem koneL_flE (l : List Esd) : AV.koneL (flC esC l) = true := (vals_all (flC_vals esC_vals l)).2.2.2.1
@[simp] theorem weakL_flD (l : List Rld) : AV.weakL (flC rdC l) = flC rdC l := (vals_all (flC_vals rdC_vals l)).1
@[simp] theorem rfL_flD (l : List Rld) : AV.rfL (flC rdC l) = true := (vals_all (flC_vals rdC_vals l)).2.2.1
@[simp] theorem koneL_flD (l : List Rld) : AV.koneL (flC rdC l) = true := (vals_all (flC_vals rdC_vals l)).2.2.2.1
@[simp] theorem weakL_flT (l : List Txt) : AV.weakL (flC txC l) = flC txC l := by induction l <;> simp_all [flC, txC, AV.weakL, AV.weak]
@[simp] theorem rfL_flT (l : List Txt) : AV.rfL (flC txC l) = true := by induction l <;> simp_all [flC, txC, AV.rfL, AV.rf]
@[simp] theorem koneL_flT (l : List Txt) : AV.koneL (flC txC l) = true := by induction l <;> simp_all [flC, txC, AV.koneL, AV.kone, Value.oneCell']
theorem byL_u8 (l : List UInt8) : (byL l).all u8B = true := by induction l <;> simp_all [byL, u8B]
theorem cellT_flE (l : List Esd) : ∀ z ∈ flC esC l, cellT z = true := by
 intro z hz
 simp only [flC, List.mem_flatten, List.mem_map] at hz
 obtain ⟨_, ⟨x, _, rfl⟩, hz⟩ := hz
 simp [esC, strB] at hz
 rcases hz with rfl | rfl | rfl | rfl | rfl <;> rfl
theorem cellT_flD (l : List Rld) : ∀ z ∈ flC rdC l, cellT z = true := by
 intro z hz
 simp only [flC, List.mem_flatten, List.mem_map] at hz
 obtain ⟨_, ⟨x, _, rfl⟩, hz⟩ := hz
 simp [rdC] at hz
 rcases hz with rfl | rfl | rfl | rfl | rfl <;> rfl
theorem cellT_flT (l : List Txt) : ∀ z ∈ flC txC l, cellT z = true := by
 intro z hz
 simp only [flC, List.mem_flatten, List.mem_map] at hz
 obtain ⟨_, ⟨x, _, rfl⟩, hz⟩ := hz
 simp [txC] at hz
 rcases hz with rfl | rfl | rfl
 ·rfl
 ·rfl
 ·exact byL_u8 _
theorem cfT_esL (l : List Esd) : (esL l).all cfT = true := by induction l <;> simp_all [esL, cfT, inB, strB]
theorem cfT_rdL (l : List Rld) : (rdL l).all cfT = true := by induction l <;> simp_all [rdL, cfT, inB]
theorem cfT_txL (l : List Txt) : (txL l).all cfT = true := by
 simp only [txL, List.all_map, List.all_eq_true]
 intro x _
 simp [cfT, inB]
 exact fun y hy => List.all_eq_true.1 (byL_u8 _) y hy
theorem okT_lst {e e' T s : Nat} {ys : List AV} (h : e' ≠ e) (hy : ys.all cfT = true) : okT e (.lst (.tip e' T) s ys) = true := by
 cases ys with
 | nil => rfl
 | cons y ys => simp only [okT, Bool.and_eq_true, bne_iff_ne, ne_eq]; exact ⟨h, hy⟩
theorem sp_thawE {o : OMod} (ho : OSn o) {h : List AObj} {Q : AV → List AObj → Prop}
  (hQ : ∀ cap, o.esd.length ≤ cap → cap ≤ maxLen → Q (.agg [.arr h.length 0 o.esd.length cap, .lst .any 3 (txL o.txt), .lst .any 5 (rdL o.rld), strB o.entry]) (h ++ [.cells 78 (flC esC o.esd ++ List.replicate ((cap - o.esd.length) * 5) .any)])) :
  wq9 Try.prog 40 [obA o] h Q := by
 refine callW_thawB (e := 78) (T := 1) (sz := 5) (xs := esL o.esd) (fl := flC esC o.esd) (fs := [.lst (.tip 78 1) 5 (esL o.esd), .lst (.tip 73 1) 3 (txL o.txt), .lst (.tip 80 1) 5 (rdL o.rld), strB o.entry]) 0 (by simpa [strB, AV.dpL, AV.dp] using xv8 o ho) rfl ?_ (catK_esL _) (cellT_flE _) (by simpa [esL] using ho.e0) ?_
 ·intro j y hj hy
  match j, hj, hy with
  | 0, hj, _ => exact absurd rfl hj
  | 1, _, hy => cases hy; exact okT_lst (by decide) (cfT_txL _)
  | 2, _, hy => cases hy; exact okT_lst (by decide) (cfT_rdL _)
  | 3, _, hy => cases hy; rfl
  | j + 4, _, hy => simp at hy
 ·intro cap h1 h2
  have := hQ cap (by simpa using h1) h2
  simpa [weakS, strB] using this
theorem sp_thawT {o : OMod} (ho : OSn o) (hr : o.txt ≠ []) {h : List AObj} {Q : AV → List AObj → Prop}
  (hQ : ∀ cap, o.txt.length ≤ cap → cap ≤ maxLen → Q (.agg [.lst .any 5 (esL o.esd), .arr h.length 0 o.txt.length cap, .lst .any 5 (rdL o.rld), strB o.entry]) (h ++ [.cells 73 (flC txC o.txt ++ List.replicate ((cap - o.txt.length) * 3) .any)])) :
  wq9 Try.prog 40 [obA o] h Q := by
 refine callW_thawB (e := 73) (T := 1) (sz := 3) (xs := txL o.txt) (fl := flC txC o.txt) (fs := [.lst (.tip 78 1) 5 (esL o.esd), .lst (.tip 73 1) 3 (txL o.txt), .lst (.tip 80 1) 5 (rdL o.rld), strB o.entry]) 1 (by simpa [strB, AV.dpL, AV.dp] using xv8 o ho) rfl ?_ (catK_txL _) (cellT_flT _) (by simpa [txL] using hr) ?_
 ·intro j y hj hy
  match j, hj, hy with
  | 0, _, hy => cases hy; exact okT_lst (by decide) (cfT_esL _)
  | 1, hj, _ => exact absurd rfl hj
  | 2, _, hy => cases hy; exact okT_lst (by decide) (cfT_rdL _)
  | 3, _, hy => cases hy; rfl
  | j + 4, _, hy => simp at hy
 ·intro cap h1 h2
  have := hQ cap (by simpa using h1) h2
  simpa [weakS, strB] using this
theorem sp_thawD {o : OMod} (ho : OSn o) (hr : o.rld ≠ []) {h : List AObj} {Q : AV → List AObj → Prop}
  (hQ : ∀ cap, o.rld.length ≤ cap → cap ≤ maxLen → Q (.agg [.lst .any 5 (esL o.esd), .lst .any 3 (txL o.txt), .arr h.length 0 o.rld.length cap, strB o.entry]) (h ++ [.cells 80 (flC rdC o.rld ++ List.replicate ((cap - o.rld.length) * 5) .any)])) :
  wq9 Try.prog 40 [obA o] h Q := by
 refine callW_thawB (e := 80) (T := 1) (sz := 5) (xs := rdL o.rld) (fl := flC rdC o.rld) (fs := [.lst (.tip 78 1) 5 (esL o.esd), .lst (.tip 73 1) 3 (txL o.txt), .lst (.tip 80 1) 5 (rdL o.rld), strB o.entry]) 2 (by simpa [strB, AV.dpL, AV.dp] using xv8 o ho) rfl ?_ (catK_rdL _) (cellT_flD _) (by simpa [rdL] using hr) ?_
 ·intro j y hj hy
  match j, hj, hy with
  | 0, _, hy => cases hy; exact okT_lst (by decide) (cfT_esL _)
  | 1, _, hy => cases hy; exact okT_lst (by decide) (cfT_txL _)
  | 2, hj, _ => exact absurd rfl hj
  | 3, _, hy => cases hy; rfl
  | j + 4, _, hy => simp at hy
 ·intro cap h1 h2
  have := hQ cap (by simpa using h1) h2
  simpa [weakS, strB] using this
end Go.AM
