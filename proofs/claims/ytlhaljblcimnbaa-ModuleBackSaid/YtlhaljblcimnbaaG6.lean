/- Parts of the walk: C31Z C31EA C31EB C31EC C31ED C31EE. -/
import Derived.Test.YtlhaljblcimnbaaG5
namespace Go.AM
open Go.RowKit Go.Proofs
set_option linter.unusedSimpArgs false
set_option linter.unusedVariables false
set_option maxHeartbeats 4000000
structure Txt where
 id : Int
 addr : Int
 data : List UInt8
structure Rld where
 in_ : Int
 to_ : Int
 addr : Int
 len : Int
 neg : Bool
structure OMod where
 esd : List Esd
 txt : List Txt
 rld : List Rld
 entry : List UInt8
@[simp] def txA (t : Txt) : AV := .agg [.v (.int .i64 t.id), .v (.int .i64 t.addr), .lst .any 1 (byL t.data)]
def txC (t : Txt) : List AV := [.v (.int .i64 t.id), .v (.int .i64 t.addr), .lst .any 1 (byL t.data)]
@[simp] def rdA (r : Rld) : AV := .agg [.v (.int .i64 r.in_), .v (.int .i64 r.to_), .v (.int .i64 r.addr), .v (.int .i64 r.len), .v (.bool r.neg)]
def rdC (r : Rld) : List AV := [.v (.int .i64 r.in_), .v (.int .i64 r.to_), .v (.int .i64 r.addr), .v (.int .i64 r.len), .v (.bool r.neg)]
def txL (l : List Txt) : List AV := l.map txA
@[simp] theorem txL_length (l : List Txt) : (txL l).length = l.length := by simp [txL]
@[simp] theorem txL_getElem (l : List Txt) (i : Nat) (h : i < (txL l).length) : (txL l)[i] = txA (l[i]'(by simpa using h)) := by simp [txL]
@[simp] theorem dpL_txL (l : List Txt) : AV.dpL (txL l) = txL l := by induction l <;> simp_all [txL, AV.dpL, AV.dp]
def rdL (l : List Rld) : List AV := l.map rdA
@[simp] theorem rdL_length (l : List Rld) : (rdL l).length = l.length := by simp [rdL]
@[simp] theorem rdL_getElem (l : List Rld) (i : Nat) (h : i < (rdL l).length) : (rdL l)[i] = rdA (l[i]'(by simpa using h)) := by simp [rdL]
@[simp] theorem dpL_rdL (l : List Rld) : AV.dpL (rdL l) = rdL l := by induction l <;> simp_all [rdL, AV.dpL, AV.dp]
def obC (o : OMod) : List AV := [.lst .any 5 (esL o.esd), .lst .any 3 (txL o.txt), .lst .any 5 (rdL o.rld), strB o.entry]
@[simp] def obA (o : OMod) : AV := .agg [.lst .any 5 (esL o.esd), .lst .any 3 (txL o.txt), .lst .any 5 (rdL o.rld), strB o.entry]
theorem zd9 (m : Nat) (o : OMod) : AV.underL m (obC o) = true := by simp [obC, AV.underL, AV.under, strB]
def txB (S : List (Int × Esd)) (t : Txt) : Bool := decide (t.data.length < 1) || (decide (56 < t.data.length) || !liesM S t.id t.addr t.data.length)
def rdB (S : List (Int × Esd)) (nx : Int) (r : Rld) : Bool := decide (r.len < 1) || (decide (4 < r.len) || (decide (r.to_ < 1) || (decide (nx ≤ r.to_) || !liesM S r.in_ r.addr r.len)))
def bigB (o : OMod) : Bool := decide (2048 < o.esd.length) || (decide (2048 < o.txt.length) || decide (2048 < o.rld.length))
def entB (N : List (List UInt8 × Int)) (e : List UInt8) : Bool := !(e == []) && (!(getN e N).isSome || (getN e N).getD 0 == 3)
def restM (o : OMod) : Option (List (Int × Esd) × List (List UInt8 × Int) × Int) → Bool
 | none => false
 | some (S, N, nx) => o.txt.all (fun t => !txB S t) && (o.rld.all (fun r => !rdB S nx r) && !entB N o.entry)
def chkM (o : OMod) : Bool := !bigB o && (esdB o.esd (zw8 o.esd [] [] 1) && restM o (zw8 o.esd [] [] 1))
structure OIn (o : OMod) : Prop where
 e : ∀ x ∈ o.esd, x.name.length ≤ 9223372036854775807 ∧ i64r x.addr
 t : ∀ x ∈ o.txt, i64r x.addr ∧ x.data.length ≤ 140737488355328
 r : ∀ x ∈ o.rld, i64r x.addr
theorem zv7 (o : OMod) (ho : OIn o) : Sound Try.prog 32 [obA o] (.v (.int .i64 (if chkM o = true then 0 else 310))) := by
 refine zl9 Try.func32 rfl (by decide +kernel) (by simp [Try.f32, strB]) (by simp [AV.rfL, AV.rf, strB]) (by simp [AV.tlL, AV.tl, strB]) (rs := [.tmp 2]) rfl ?_
 rw [show Try.f32.ntmps = 129 from rfl]
 obtain ⟨he, ht, hr⟩ := ho
 refine yt9 [1] (by simp; rfl) ?_
 refine yt9 [1, 3] (by simp; rfl) ?_
 obtain ⟨G, hG⟩ : ∃ G, zw8 o.esd [] [] 1 = G := ⟨_, rfl⟩
 refine ws9 (fun σ => ∃ S N nx, bigB o = false ∧ G = some (S, N, nx) ∧ esdB o.esd G = true ∧ SOk S ∧ 1 ≤ nx ∧ nx ≤ 3000 ∧ σ = ⟨129, [(1, .loc 0 0), (3, .loc 3 0)], HC S N nx (obC o) []⟩) ?_ ?_
 ·by_cases c1 : 2048 < o.esd.length
  ·have c1a : 2048 < o.esd.length := c1
   have c1b : (2048 : Int) < (o.esd.length : Nat) := by omega
   refine W_rK [1, 3, 36] ?_
   refine yq9 6 (by simp [obC, c1a, c1b]; rfl) rfl ?_
   refine yq9 6 (by simp [obC, c1a, c1b]; rfl) rfl ?_
   refine yq9 8 (by simp [obC, c1a, c1b]; rfl) rfl ?_
   refine yr9 (by simp; rfl) ?_
   refine yd9 rfl (fun h => ?_) (fun h => by simp at h)
   refine yt9 [2] (by simp; rfl) ?_
   refine zr9 ?_
   repeat (first | refine yl9 ?_ | refine yc9 ?_)
   simp [retQ, chkM, bigB, c1a, c1b]
  have c1a : ¬ 2048 < o.esd.length := c1
  have c1b : ¬ (2048 : Int) < (o.esd.length : Nat) := by omega
  have c1c : o.esd.length ≤ 2048 := by omega
  by_cases c2 : 2048 < o.txt.length
  ·have c2a : 2048 < o.txt.length := c2
   have c2b : (2048 : Int) < (o.txt.length : Nat) := by omega
   refine W_rK [1, 3, 36] ?_
   refine yq9 6 (by simp [obC, c1a, c1b, c1c, c2a, c2b]; rfl) rfl ?_
   refine yq9 6 (by simp [obC, c1a, c1b, c1c, c2a, c2b]; rfl) rfl ?_
   refine yq9 8 (by simp [obC, c1a, c1b, c1c, c2a, c2b]; rfl) rfl ?_
   refine yr9 (by simp; rfl) ?_
   refine yd9 rfl (fun h => ?_) (fun h => by simp at h)
   refine yt9 [2] (by simp; rfl) ?_
   refine zr9 ?_
   repeat (first | refine yl9 ?_ | refine yc9 ?_)
   simp [retQ, chkM, bigB, c1a, c1b, c1c, c2a, c2b]
  have c2a : ¬ 2048 < o.txt.length := c2
  have c2b : ¬ (2048 : Int) < (o.txt.length : Nat) := by omega
  have c2c : o.txt.length ≤ 2048 := by omega
  by_cases c3 : 2048 < o.rld.length
  ·have c3a : 2048 < o.rld.length := c3
   have c3b : (2048 : Int) < (o.rld.length : Nat) := by omega
   refine W_rK [1, 3, 36] ?_
   refine yq9 6 (by simp [obC, c1a, c1b, c1c, c2a, c2b, c2c, c3a, c3b]; rfl) rfl ?_
   refine yq9 6 (by simp [obC, c1a, c1b, c1c, c2a, c2b, c2c, c3a, c3b]; rfl) rfl ?_
   refine yq9 8 (by simp [obC, c1a, c1b, c1c, c2a, c2b, c2c, c3a, c3b]; rfl) rfl ?_
   refine yr9 (by simp; rfl) ?_
   refine yd9 rfl (fun h => ?_) (fun h => by simp at h)
   refine yt9 [2] (by simp; rfl) ?_
   refine zr9 ?_
   repeat (first | refine yl9 ?_ | refine yc9 ?_)
   simp [retQ, chkM, bigB, c1a, c1b, c1c, c2a, c2b, c2c, c3a, c3b]
  have c3a : ¬ 2048 < o.rld.length := c3
  have c3b : ¬ (2048 : Int) < (o.rld.length : Nat) := by omega
  have c3c : o.rld.length ≤ 2048 := by omega
  refine W_rK [1, 3, 36] ?_
  refine yq9 6 (by simp [obC, c1a, c1b, c1c, c2a, c2b, c2c, c3a, c3b, c3c]; rfl) rfl ?_
  refine yq9 6 (by simp [obC, c1a, c1b, c1c, c2a, c2b, c2c, c3a, c3b, c3c]; rfl) rfl ?_
  refine yq9 8 (by simp [obC, c1a, c1b, c1c, c2a, c2b, c2c, c3a, c3b, c3c]; rfl) rfl ?_
  have hesd := esds_callW o.esd (obC o) (zd9 _ _) (by omega) he
  have hbig : bigB o = false := by simp [bigB, c1a, c1b, c1c, c2a, c2b, c2c, c3a, c3b, c3c]
  rw [hG] at hesd
  refine zg9 (f := 67) (args := [.loc 3 0, .lst .any 5 (esL o.esd)]) (by simp) (by simp [zp9, zf9, obC]) ((show wn9 Try.prog 67 [.loc 3 0, .lst .any 5 (esL o.esd)] (HC [] [] 1 (obC o) []) _ from hesd).mono ?_)
  rintro _ _ ⟨S, N, nx, rfl, rfl, hS, hn1, hn2, hGe⟩
  refine ⟨_, by simp; rfl, ?_⟩
  refine yr9 (by simp; rfl) ?_
  by_cases hB : esdB o.esd G = true
  ·refine yd9 (t := false) (by simp [hB]) (fun h => by simp at h) (fun h => ?_)
   refine zt9 [1, 3] ?_
   refine yh9 ?_
   exact ⟨S, N, nx, hbig, hGe hB, hB, hS, hn1, hn2, by simp⟩
  ·have hBf : esdB o.esd G = false := by simpa using hB
   refine yd9 (t := true) (by simp [hBf]) (fun h => ?_) (fun h => by simp at h)
   refine yt9 [2] (by simp; rfl) ?_
   refine zr9 ?_
   repeat (first | refine yl9 ?_ | refine yc9 ?_)
   simp [retQ, chkM, hG, hBf]
 rintro _ ⟨S, N, nx, hbig, hGe, hB, hS, hn1, hn2, rfl⟩
 have hmod : chkM o = restM o (some (S, N, nx)) := by rw [chkM, hG, hbig, hB, hGe]; simp
 have hbig2 := hbig
 simp only [bigB, Bool.or_eq_false_iff, decide_eq_false_iff_not] at hbig2
 obtain ⟨l1, l2, l3⟩ := hbig2
 refine ws9 (fun σ => o.txt.all (fun t => !txB S t) = true ∧ σ = ⟨129, [(1, .loc 0 0), (3, .loc 3 0)], HC S N nx (obC o) []⟩) ?_ ?_
 ·refine yt9 [1, 3, 38, 39, 40] (by simp [obC]; rfl) ?_
  refine yf9 ?_
  refine zn9 (fun k σ => ∃ (i : Nat), k = o.txt.length - i ∧ i ≤ o.txt.length ∧ o.txt.all (fun t => !txB S t) = (o.txt.drop i).all (fun t => !txB S t) ∧ σ = ⟨129, [(1, .loc 0 0), (3, .loc 3 0), (38, .lst .any 3 (txL o.txt)), (39, .v (.int .i64 (o.txt.length : Nat))), (40, .v (.int .i64 (i : Nat)))], HC S N nx (obC o) []⟩) (k := o.txt.length) ⟨0, rfl, by omega, by simp, by simp [obC]⟩ ?_
  rintro k σ ⟨i, rfl, hi, hall, rfl⟩
  by_cases c : i < o.txt.length
  ·have ci : (i : Int) < o.txt.length := by omega
   obtain ⟨x, hs⟩ : ∃ x, o.txt[i]? = some x := ⟨_, List.getElem?_eq_getElem c⟩
   have hs2 : o.txt[i]'c = x := by rw [List.getElem?_eq_getElem c] at hs; exact Option.some.inj hs
   have hdr : o.txt.drop i = x :: o.txt.drop (i + 1) := by rw [List.drop_eq_getElem_cons c, hs2]
   obtain ⟨hxa, hxd⟩ := ht x (List.mem_of_getElem? hs)
   have wi := w64 (n := (i : Int) + 1) (by omega) (by omega)
   rw [hdr, List.all_cons] at hall
   refine yt9 [1, 3, 38, 39, 40, 41] (by simp [ci]; rfl) ?_
   refine yk9 ?_
   refine yd9 rfl (fun h => ?_) (fun h => by simp [c] at h)
   refine yh9 ?_
   refine yk9 ?_
   refine yf9 ?_
   refine yt9 [1, 3, 38, 39, 40, 5] (by simp [c, ci, hs2, ys9]; rfl) ?_
   have hlies := lies_callW S N nx (obC o) 73 (txC x) x.id x.addr x.data.length hS hxa (zd9 _ _) (by simp [txC, AV.underL, AV.under])
   simp only [txC] at hlies
   refine xg9 (fun σ => σ = ⟨129, [(1, .loc 0 0), (3, .loc 3 0), (38, .lst .any 3 (txL o.txt)), (39, .v (.int .i64 (o.txt.length : Nat))), (40, .v (.int .i64 (i : Nat))), (65, .v (.bool (txB S x)))], HC S N nx (obC o) [.cells 73 (txC x)]⟩) ?_ ?_
   ·by_cases c1 : x.data.length < 1
    ·have c1a : x.data.length < 1 := c1
     have c1b : ((x.data.length : Nat) : Int) < 1 := by omega
     refine W_rE [1, 3, 38, 39, 40, 65] ?_
     refine yq9 6 (by simp [txC, c1a, c1b]; rfl) rfl ?_
     refine yq9 6 (by simp [txC, c1a, c1b]; rfl) rfl ?_
     refine yq9 7 (by simp [txC, c1a, c1b]; rfl) rfl ?_
     refine yr9 (by simp; rfl) ?_
     simp [yp9, txB, txC, AV.weak, c1a, c1b]
    have c1a : ¬ x.data.length < 1 := c1
    have c1b : ¬ ((x.data.length : Nat) : Int) < 1 := by omega
    by_cases c2 : 56 < x.data.length
    ·have c2a : 56 < x.data.length := c2
     have c2b : (56 : Int) < (x.data.length : Nat) := by omega
     refine W_rE [1, 3, 38, 39, 40, 65] ?_
     refine yq9 6 (by simp [txC, c1a, c1b, c2a, c2b]; rfl) rfl ?_
     refine yq9 6 (by simp [txC, c1a, c1b, c2a, c2b]; rfl) rfl ?_
     refine yq9 7 (by simp [txC, c1a, c1b, c2a, c2b]; rfl) rfl ?_
     refine yr9 (by simp; rfl) ?_
     simp [yp9, txB, txC, AV.weak, c1a, c1b, c2a, c2b]
    have c2a : ¬ 56 < x.data.length := c2
    have c2b : ¬ (56 : Int) < (x.data.length : Nat) := by omega
    have c2c : x.data.length ≤ 56 := by omega
    refine W_rE [1, 3, 38, 39, 40, 65] ?_
    refine yq9 6 (by simp [txC, c1a, c1b, c2a, c2b, c2c]; rfl) rfl ?_
    refine yq9 6 (by simp [txC, c1a, c1b, c2a, c2b, c2c]; rfl) rfl ?_
    refine yq9 7 (by simp [txC, c1a, c1b, c2a, c2b, c2c]; rfl) rfl ?_
    refine zg9 (f := 68) (args := [.loc 3 0, .v (.int .i64 x.id), .v (.int .i64 x.addr), .v (.int .i64 (x.data.length : Nat))]) (by simp) (by simp [zp9, zf9]) (hlies.mono ?_)
    rintro _ _ ⟨rfl, rfl⟩
    refine ⟨_, by simp; rfl, ?_⟩
    refine yr9 (by simp; rfl) ?_
    simp [yp9, txB, txC, AV.weak, c1a, c1b, c2a, c2b, c2c]
   rintro _ rfl
   by_cases hx : txB S x = true
   ·refine yd9 (t := true) (by simp [hx]) (fun h => ?_) (fun h => by simp at h)
    refine yt9 [2] (by simp; rfl) ?_
    refine zr9 ?_
    repeat (first | refine yl9 ?_ | refine yc9 ?_)
    have hall2 : o.txt.all (fun t => !txB S t) = false := by rw [hall, hx]; simp
    simp [retQ, hmod, restM, hall2]
   have hxf : txB S x = false := by simpa using hx
   refine yd9 (t := false) (by simp [hxf]) (fun h => by simp at h) (fun h => ?_)
   refine yh9 ?_
   refine xd9 4 (by simp) (by simp) (by simp [yn9, AV.under, AV.underL]) (by simp [yg9, AObj.under, AV.under, AV.underL, zd9, zc9, zv9]) ?_
   refine zs9 [1, 3, 38, 39, 40] (by simp [wi]; rfl) ?_
   exact ⟨_, by omega, i + 1, rfl, by omega, by rw [hall, hxf]; simp, by simp⟩
  have hie : i = o.txt.length := by omega
  rw [hie, List.drop_length, List.all_nil] at hall
  refine yt9 [1, 3, 38, 39, 40, 41] (by simp [c]; rfl) ?_
  refine yk9 ?_
  refine yd9 rfl (fun h => by simp [hie] at h) (fun h => ?_)
  refine zt9 [1, 3] ?_
  refine zh9 ?_
  exact ⟨hall, by simp⟩
 rintro _ ⟨hall1, rfl⟩
 refine ws9 (fun σ => o.rld.all (fun r => !rdB S nx r) = true ∧ σ = ⟨129, [(1, .loc 0 0), (3, .loc 3 0)], HC S N nx (obC o) []⟩) ?_ ?_
 ·refine yt9 [1, 3, 68, 69, 70] (by simp [obC]; rfl) ?_
  refine yf9 ?_
  refine zn9 (fun k σ => ∃ (i : Nat), k = o.rld.length - i ∧ i ≤ o.rld.length ∧ o.rld.all (fun r => !rdB S nx r) = (o.rld.drop i).all (fun r => !rdB S nx r) ∧ σ = ⟨129, [(1, .loc 0 0), (3, .loc 3 0), (68, .lst .any 5 (rdL o.rld)), (69, .v (.int .i64 (o.rld.length : Nat))), (70, .v (.int .i64 (i : Nat)))], HC S N nx (obC o) []⟩) (k := o.rld.length) ⟨0, rfl, by omega, by simp, by simp [obC]⟩ ?_
  rintro k σ ⟨i, rfl, hi, hall, rfl⟩
  by_cases c : i < o.rld.length
  ·have ci : (i : Int) < o.rld.length := by omega
   obtain ⟨x, hs⟩ : ∃ x, o.rld[i]? = some x := ⟨_, List.getElem?_eq_getElem c⟩
   have hs2 : o.rld[i]'c = x := by rw [List.getElem?_eq_getElem c] at hs; exact Option.some.inj hs
   have hdr : o.rld.drop i = x :: o.rld.drop (i + 1) := by rw [List.drop_eq_getElem_cons c, hs2]
   have hxa := hr x (List.mem_of_getElem? hs)
   have wi := w64 (n := (i : Int) + 1) (by omega) (by omega)
   rw [hdr, List.all_cons] at hall
   refine yt9 [1, 3, 68, 69, 70, 71] (by simp [ci]; rfl) ?_
   refine yk9 ?_
   refine yd9 rfl (fun h => ?_) (fun h => by simp [c] at h)
   refine yh9 ?_
   refine yk9 ?_
   refine yf9 ?_
   refine yt9 [1, 3, 68, 69, 70, 7] (by simp [c, ci, hs2, ys9]; rfl) ?_
   have hlies := lies_callW S N nx (obC o) 80 (rdC x) x.in_ x.addr x.len hS hxa (zd9 _ _) (by simp [rdC, AV.underL, AV.under])
   simp only [rdC] at hlies
   refine xg9 (fun σ => σ = ⟨129, [(1, .loc 0 0), (3, .loc 3 0), (68, .lst .any 5 (rdL o.rld)), (69, .v (.int .i64 (o.rld.length : Nat))), (70, .v (.int .i64 (i : Nat))), (106, .v (.bool (rdB S nx x)))], HC S N nx (obC o) [.cells 80 (rdC x)]⟩) ?_ ?_
   ·by_cases c1 : x.len < 1
    ·refine W_rsE 30 [1, 3, 68, 69, 70, 106] mx (by decide +kernel) ?_
     refine yw9 6 (by simp [rdC, c1]; rfl) rfl ?_
     refine yw9 6 (by simp [rdC, c1]; rfl) rfl ?_
     refine yw9 6 (by simp [rdC, c1]; rfl) rfl ?_
     refine yw9 6 (by simp [rdC, c1]; rfl) rfl ?_
     refine yv9 (by simp [rdC, c1]; rfl) ?_
     refine yr9 (by simp; rfl) ?_
     simp [yp9, rdB, rdC, AV.weak, c1]
    by_cases c2 : 4 < x.len
    ·refine W_rsE 30 [1, 3, 68, 69, 70, 106] mx (by decide +kernel) ?_
     refine yw9 6 (by simp [rdC, c1, c2]; rfl) rfl ?_
     refine yw9 6 (by simp [rdC, c1, c2]; rfl) rfl ?_
     refine yw9 6 (by simp [rdC, c1, c2]; rfl) rfl ?_
     refine yw9 6 (by simp [rdC, c1, c2]; rfl) rfl ?_
     refine yv9 (by simp [rdC, c1, c2]; rfl) ?_
     refine yr9 (by simp; rfl) ?_
     simp [yp9, rdB, rdC, AV.weak, c1, c2]
    by_cases c3 : x.to_ < 1
    ·refine W_rsE 30 [1, 3, 68, 69, 70, 106] mx (by decide +kernel) ?_
     refine yw9 6 (by simp [rdC, c1, c2, c3]; rfl) rfl ?_
     refine yw9 6 (by simp [rdC, c1, c2, c3]; rfl) rfl ?_
     refine yw9 6 (by simp [rdC, c1, c2, c3]; rfl) rfl ?_
     refine yw9 6 (by simp [rdC, c1, c2, c3]; rfl) rfl ?_
     refine yv9 (by simp [rdC, c1, c2, c3]; rfl) ?_
     refine yr9 (by simp; rfl) ?_
     simp [yp9, rdB, rdC, AV.weak, c1, c2, c3]
    by_cases c4 : nx ≤ x.to_
    ·refine W_rsE 30 [1, 3, 68, 69, 70, 106] mx (by decide +kernel) ?_
     refine yw9 6 (by simp [rdC, c1, c2, c3, c4]; rfl) rfl ?_
     refine yw9 6 (by simp [rdC, c1, c2, c3, c4]; rfl) rfl ?_
     refine yw9 6 (by simp [rdC, c1, c2, c3, c4]; rfl) rfl ?_
     refine yw9 6 (by simp [rdC, c1, c2, c3, c4]; rfl) rfl ?_
     refine yv9 (by simp [rdC, c1, c2, c3, c4]; rfl) ?_
     refine yr9 (by simp; rfl) ?_
     simp [yp9, rdB, rdC, AV.weak, c1, c2, c3, c4]
    refine W_rsE 30 [1, 3, 68, 69, 70, 106] mx (by decide +kernel) ?_
    refine yw9 6 (by simp [rdC, c1, c2, c3, c4]; rfl) rfl ?_
    refine yw9 6 (by simp [rdC, c1, c2, c3, c4]; rfl) rfl ?_
    refine yw9 6 (by simp [rdC, c1, c2, c3, c4]; rfl) rfl ?_
    refine yw9 6 (by simp [rdC, c1, c2, c3, c4]; rfl) rfl ?_
    refine yv9 (by simp [rdC, c1, c2, c3, c4]; rfl) ?_
    refine zg9 (f := 68) (args := [.loc 3 0, .v (.int .i64 x.in_), .v (.int .i64 x.addr), .v (.int .i64 x.len)]) (by simp) (by simp [zp9, zf9]) (hlies.mono ?_)
    rintro _ _ ⟨rfl, rfl⟩
    refine ⟨_, by simp; rfl, ?_⟩
    refine yr9 (by simp; rfl) ?_
    simp [yp9, rdB, rdC, AV.weak, c1, c2, c3, c4]
   rintro _ rfl
   by_cases hx : rdB S nx x = true
   ·refine yd9 (t := true) (by simp [hx]) (fun h => ?_) (fun h => by simp at h)
    refine yt9 [2] (by simp; rfl) ?_
    refine zr9 ?_
    repeat (first | refine yl9 ?_ | refine yc9 ?_)
    have hall2 : o.rld.all (fun r => !rdB S nx r) = false := by rw [hall, hx]; simp
    simp [retQ, hmod, restM, hall1, hall2]
   have hxf : rdB S nx x = false := by simpa using hx
   refine yd9 (t := false) (by simp [hxf]) (fun h => by simp at h) (fun h => ?_)
   refine yh9 ?_
   refine xd9 4 (by simp) (by simp) (by simp [yn9, AV.under, AV.underL]) (by simp [yg9, AObj.under, AV.under, AV.underL, zd9, zc9, zv9]) ?_
   refine zs9 [1, 3, 68, 69, 70] (by simp [wi]; rfl) ?_
   exact ⟨_, by omega, i + 1, rfl, by omega, by rw [hall, hxf]; simp, by simp⟩
  have hie : i = o.rld.length := by omega
  rw [hie, List.drop_length, List.all_nil] at hall
  refine yt9 [1, 3, 68, 69, 70, 71] (by simp [c]; rfl) ?_
  refine yk9 ?_
  refine yd9 rfl (fun h => by simp [hie] at h) (fun h => ?_)
  refine zt9 [1, 3] ?_
  refine zh9 ?_
  exact ⟨hall, by simp⟩
 rintro _ ⟨hall2, rfl⟩
 refine yk9 ?_
 refine xg9 (fun σ => σ = ⟨129, [(1, .loc 0 0), (8, .v (.int .i64 ((getN o.entry N).getD 0))), (9, .v (.bool (getN o.entry N).isSome))], HC S N nx (obC o) []⟩) ?_ ?_
 ·have hf := mfind_namE o.entry N
  cases hg : getN o.entry N with
  | none =>
   rw [hg] at hf
   refine wq9 [1, 8, 9] (W_drawP 6 mx (by decide +kernel) ?_)
   refine yv9 (by simp [obC, strB]; rfl) ?_
   refine vc9 [6] (by decide +kernel) (by simp) ?_
   intro i hi
   simp only [List.mem_cons, List.not_mem_nil, or_false] at hi
   subst hi
   refine ⟨_, rfl, ?_⟩
   refine (show runA Try.prog _ [_] _ _ from ?_)
   refine yr9 (by simp [xd8, mapOf, zf7, hf]; rfl) ?_
   refine xj9 7 rfl (by decide +kernel) (yp8 115 rfl rfl rfl) rfl ?_
   refine xj9 8 rfl (by decide +kernel) (wb9 108 rfl rfl rfl rfl) rfl ?_
   refine xj9 9 rfl (by decide +kernel) (wb9 108 rfl rfl rfl rfl) rfl ?_
   refine vc9 [10] (by decide +kernel) (by simp) ?_
   intro i hi
   simp only [List.mem_cons, List.not_mem_nil, or_false] at hi
   subst hi
   refine ⟨_, rfl, ?_⟩
   refine (show runA Try.prog _ [_] _ _ from ?_)
   refine yr9 (by simp; rfl) ?_
   refine vc9 [11] (by decide +kernel) (by simp) ?_
   intro i hi
   simp only [List.mem_cons, List.not_mem_nil, or_false] at hi
   subst hi
   refine ⟨_, rfl, ?_⟩
   refine (show runA Try.prog _ [_] _ _ from ?_)
   refine yr9 (by simp; rfl) ?_
   refine yk8 (by decide +kernel) ?_
   simp [yp9, obC, strB, zh8]
  | some k =>
   rw [hg] at hf
   refine wq9 [1, 8, 9] (W_drawP 6 mx (by decide +kernel) ?_)
   refine yv9 (by simp [obC, strB]; rfl) ?_
   refine vc9 [6] (by decide +kernel) (by simp) ?_
   intro i hi
   simp only [List.mem_cons, List.not_mem_nil, or_false] at hi
   subst hi
   refine ⟨_, rfl, ?_⟩
   refine (show runA Try.prog _ [_] _ _ from ?_)
   refine yr9 (by simp [xd8, mapOf, zf7, hf]; rfl) ?_
   refine xj9 7 rfl (by decide +kernel) (yp8 115 rfl rfl rfl) rfl ?_
   refine xj9 8 rfl (by decide +kernel) (wb9 108 rfl rfl rfl rfl) rfl ?_
   refine xj9 9 rfl (by decide +kernel) (wb9 108 rfl rfl rfl rfl) rfl ?_
   refine vc9 [10] (by decide +kernel) (by simp) ?_
   intro i hi
   simp only [List.mem_cons, List.not_mem_nil, or_false] at hi
   subst hi
   refine ⟨_, rfl, ?_⟩
   refine (show runA Try.prog _ [_] _ _ from ?_)
   refine yr9 (by simp; rfl) ?_
   refine vc9 [11] (by decide +kernel) (by simp) ?_
   intro i hi
   simp only [List.mem_cons, List.not_mem_nil, or_false] at hi
   subst hi
   refine ⟨_, rfl, ?_⟩
   refine (show runA Try.prog _ [_] _ _ from ?_)
   refine yr9 (by simp; rfl) ?_
   refine yk8 (by decide +kernel) ?_
   simp [yp9, obC, strB, zh8]
 rintro _ rfl
 refine xg9 (fun σ => σ = ⟨129, [(128, .v (.bool (entB N o.entry)))], HC S N nx (obC o) []⟩) ?_ ?_
 ·by_cases c1 : o.entry = []
  ·refine zs9 [128] (by simp [obC, strB, c1]; rfl) ?_
   simp [yp9, entB, c1, obC, strB]
  have c1b : (o.entry == []) = false := beq_eq_false_iff_ne.2 c1
  cases hg : (getN o.entry N).isSome with
  | false =>
   refine zs9 [128] (by simp [obC, strB, c1b]; rfl) ?_
   simp [yp9, entB, c1b, obC, strB, hg]
  | true =>
   refine zs9 [128] (by simp [obC, strB, c1b]; rfl) ?_
   simp [yp9, entB, c1b, obC, strB, hg]
 rintro _ rfl
 by_cases hE : entB N o.entry = true
 ·refine yd9 (t := true) (by simp [hE]) (fun h => ?_) (fun h => by simp at h)
  refine yt9 [2] (by simp; rfl) ?_
  refine zr9 ?_
  repeat (first | refine yl9 ?_ | refine yc9 ?_)
  simp [retQ, hmod, restM, hall1, hall2, hE]
 have hEf : entB N o.entry = false := by simpa using hE
 refine yd9 (t := false) (by simp [hEf]) (fun h => by simp at h) (fun h => ?_)
 refine yh9 ?_
 refine yt9 [2] (by simp; rfl) ?_
 refine zr9 ?_
 repeat (first | refine yl9 ?_ | refine yc9 ?_)
 simp [retQ, hmod, restM, hall1, hall2, hEf]
end Go.AM
namespace Go.AM
open Go.RowKit Go.Proofs
set_option linter.unusedSimpArgs false
set_option linter.unusedVariables false
set_option maxHeartbeats 4000000
theorem grp44_callW (t : List Esd) (n : Nat) (h : List AObj) (hh : yg9 (h.length + 2) h = true) : wn9 Try.prog 44 [.lst .any 5 (esL t), .v (.int .i64 n)] h fun r h' => r = .fn (.func 81) [] [.loc h.length 0, .loc (h.length + 1) 0] ∧ h' = h ++ [.cells 22 [.lst .any 5 (esL t)], .cells 3 [.v (.int .i64 n)]] := by
 refine zk9 Try.func44 rfl (by decide +kernel) (by simp [Try.f44]) (rs := [.tmp 4]) rfl ?_
 rw [show Try.f44.ntmps = 6 from rfl]
 refine yt9 [2, 3] (by simp; rfl) ?_
 refine yt9 [4] (by simp; rfl) ?_
 refine zr9 ?_
 repeat (first | refine yl9 ?_ | refine yc9 ?_)
 refine ⟨.inr rfl, .fn (.func 81) [] [.loc h.length 0, .loc (h.length + 1) 0], .fn (.func 81) [] [.loc h.length 0, .loc (h.length + 1) 0], h ++ [.cells 22 [.lst .any 5 (esL t)], .cells 3 [.v (.int .i64 n)]], h.length + 2, by simp, .inl ⟨rfl, by simp⟩, by omega, by simp, by simp [AV.under, AV.underL], ?_, rfl, ?_⟩
 ·rw [List.take_of_length_le (by simp), yb8, hh]
  simp [yg9, AObj.under, AV.under, AV.underL]
 ·rw [List.take_of_length_le (by simp)]
theorem grp50_callW (t : List Rld) (n : Nat) (h : List AObj) (hh : yg9 (h.length + 2) h = true) : wn9 Try.prog 50 [.lst .any 5 (rdL t), .v (.int .i64 n)] h fun r h' => r = .fn (.func 84) [] [.loc h.length 0, .loc (h.length + 1) 0] ∧ h' = h ++ [.cells 24 [.lst .any 5 (rdL t)], .cells 3 [.v (.int .i64 n)]] := by
 refine zk9 Try.func50 rfl (by decide +kernel) (by simp [Try.f50]) (rs := [.tmp 4]) rfl ?_
 rw [show Try.f50.ntmps = 6 from rfl]
 refine yt9 [2, 3] (by simp; rfl) ?_
 refine yt9 [4] (by simp; rfl) ?_
 refine zr9 ?_
 repeat (first | refine yl9 ?_ | refine yc9 ?_)
 refine ⟨.inr rfl, .fn (.func 84) [] [.loc h.length 0, .loc (h.length + 1) 0], .fn (.func 84) [] [.loc h.length 0, .loc (h.length + 1) 0], h ++ [.cells 24 [.lst .any 5 (rdL t)], .cells 3 [.v (.int .i64 n)]], h.length + 2, by simp, .inl ⟨rfl, by simp⟩, by omega, by simp, by simp [AV.under, AV.underL], ?_, rfl, ?_⟩
 ·rw [List.take_of_length_le (by simp), yb8, hh]
  simp [yg9, AObj.under, AV.under, AV.underL]
 ·rw [List.take_of_length_le (by simp)]
def ixE : Nat → List Esd → Int
 | _, [] => -1
 | i, x :: l => if x.kind = 2 then ixE (i + 1) l else i
theorem ne48_sound (x : Esd) : Sound Try.prog 48 [esA x] (.v (.bool (!(x.kind == 2)))) := by
 refine zl9 Try.func48 rfl (by decide +kernel) (by simp [Try.f48]) (by simp [AV.rfL, AV.rf, strB]) (by simp [AV.tlL, AV.tl, strB]) (rs := [.tmp 2]) rfl ?_
 rw [show Try.f48.ntmps = 6 from rfl]
 refine yt9 [1, 2] (by simp; rfl) ?_
 refine yt9 [2] (by simp; rfl) ?_
 refine zr9 ?_
 repeat (first | refine yl9 ?_ | refine yc9 ?_)
 simp [retQ]
 rfl
theorem if47_sound (l : List Esd) (hl : l.length ≤ 100000) : Sound Try.prog 47 [.lst .any 5 (esL l), .fn (.func 48) [] []] (.v (.int .i64 (ixE 0 l))) := by
 refine zl9 Try.func47 rfl (by decide +kernel) (by simp [Try.f47]) (by simp [AV.rfL, AV.rf]) (by simp [AV.tlL, AV.tl]) (rs := [.tmp 4]) rfl ?_
 rw [show Try.f47.ntmps = 19 from rfl]
 refine yt9 [0, 1] (by simp; rfl) ?_
 refine yk9 ?_
 refine yt9 [0, 1, 7, 8] (by simp; rfl) ?_
 refine yf9 ?_
 refine zn9 (fun k σ => ∃ i : Nat, k = l.length - i ∧ i ≤ l.length ∧ ixE i (l.drop i) = ixE 0 l ∧ σ = ⟨19, [(0, .lst .any 5 (esL l)), (1, .fn (.func 48) [] []), (7, .v (.int .i64 (l.length : Nat))), (8, .v (.int .i64 (i : Nat)))], []⟩) (k := l.length) ⟨0, rfl, by omega, rfl, by simp⟩ ?_
 rintro k σ ⟨i, rfl, hi, hix, rfl⟩
 by_cases c : i < l.length
 ·have ci : (i : Int) < l.length := by omega
  obtain ⟨s, hsi⟩ : ∃ s, l[i]? = some s := ⟨_, List.getElem?_eq_getElem c⟩
  have hs2 : l[i]'c = s := by rw [List.getElem?_eq_getElem c] at hsi; exact Option.some.inj hsi
  have hdr : l.drop i = s :: l.drop (i + 1) := by rw [List.drop_eq_getElem_cons c, hs2]
  have wi := w64 (n := (i : Int) + 1) (by omega) (by omega)
  have hne := ne48_sound s
  rw [hdr, ixE] at hix
  refine yt9 [0, 1, 7, 8, 9] (by simp [ci]; rfl) ?_
  refine yk9 ?_
  refine yd9 rfl (fun h => ?_) (fun h => by simp [c] at h)
  refine yh9 ?_
  refine yk9 ?_
  refine yf9 ?_
  refine yt9 [0, 1, 7, 8, 5] (by simp; rfl) ?_
  refine W_rK [0, 1, 7, 8, 5, 16] ?_
  refine yq9 5 (by simp [c, ci, hs2]; rfl) rfl ?_
  refine yj9 (by simp) (by first | (simp; done) | (simp; rfl) | (simp [strB]; done) | (simp [strB]; rfl)) hne (by simp; rfl) ?_
  refine yr9 (by simp; rfl) ?_
  by_cases hk : s.kind = 2
  ·rw [if_pos hk] at hix
   refine yd9 (t := false) (by simp [hk]) (fun h => by simp at h) (fun h => ?_)
   refine yh9 ?_
   refine zs9 [0, 1, 7, 8] (by simp [wi]; rfl) ?_
   exact ⟨_, by omega, i + 1, rfl, by omega, hix, by simp⟩
  ·rw [if_neg hk] at hix
   refine yd9 (t := true) (by simp [hk]) (fun h => ?_) (fun h => by simp at h)
   refine yt9 [4] (by simp; rfl) ?_
   refine zr9 ?_
   repeat (first | refine yl9 ?_ | refine yc9 ?_)
   simp [retQ, ← hix]
 have hie : i = l.length := by omega
 rw [hie, List.drop_length, ixE] at hix
 refine yt9 [0, 1, 7, 8, 9] (by simp [c]; rfl) ?_
 refine yk9 ?_
 refine yd9 rfl (fun h => by simp [hie] at h) (fun h => ?_)
 refine zh9 ?_
 refine yt9 [4] (by simp; rfl) ?_
 refine zr9 ?_
 repeat (first | refine yl9 ?_ | refine yc9 ?_)
 simp [retQ, ← hix]
theorem ixE_get : ∀ (l : List Esd) (i : Nat), ixE i l = -1 ∨ ∃ j x, l[j]? = some x ∧ ixE i l = ((i + j : Nat) : Int)
 | [], i => .inl rfl
 | x :: l, i => by
  rw [ixE]
  by_cases h : x.kind = 2
  ·rw [if_pos h]
   rcases ixE_get l (i + 1) with h1 | ⟨j, y, h1, h2⟩
   ·exact .inl h1
   ·exact .inr ⟨j + 1, y, by simpa using h1, by rw [h2]; congr 1; omega⟩
  ·rw [if_neg h]
   exact .inr ⟨0, x, rfl, rfl⟩
def xb8 : List UInt8 := [69, 83, 68]
def wt8 : List UInt8 := [84, 88, 84]
def vr8 : List UInt8 := [82, 76, 68]
def vt8 : List UInt8 := [69, 78, 68]
def yf8 : List Esd → Nat → List UInt8 → List UInt8
 | [], _, c => c
 | x :: l, i, c => yf8 l (i + 1) (putM c (16 + 16 * i) (xj8 x))
def card1 (g : List Esd) : List UInt8 := putM (vv9 xb8) 10 (numM 2 (16 * g.length))
def card2 (g : List Esd) : List UInt8 := if 0 ≤ ixE 0 g then putM (card1 g) 14 (numM 2 ((g[(ixE 0 g).toNat]?).elim 0 fun x => x.id.toNat)) else card1 g
def zb7 (g : List Esd) : List UInt8 := yf8 g 0 (card2 g)
theorem cardM_len (s : List UInt8) (h : (wr9 s).length ≤ 79) : (vv9 s).length = 80 := by
 rw [vv9, zm9 _ _ _ (by simp; omega)]; simp
theorem eItem_len (x : Esd) (h : (wr9 x.name).length ≤ 16) : (xj8 x).length = 16 := by
 have hb : (putM (wh9 16) 0 (wr9 x.name)).length = 16 := by rw [zm9 _ _ _ (by simp; omega)]; simp
 unfold xj8
 split
 ·rw [zm9 _ _ _ (by rw [zm9 _ _ _ (by simp [hb])]; simp [hb]), zm9 _ _ _ (by simp [hb])]; simpa using hb
 ·split
  ·rw [zm9 _ _ _ (by rw [zm9 _ _ _ (by simp [hb])]; simp [hb]), zm9 _ _ _ (by simp [hb])]; simpa using hb
  ·simpa using hb
@[simp] theorem killL_obC (t : Nat) (o : OMod) : AV.killL t (obC o) = obC o := by simp [obC, AV.killL, AV.kill, strB]
theorem xs9 (m : Nat) (ty : TypeId) (cs : List AV) : (AObj.cells ty cs).under m = AV.underL m cs := rfl
theorem frz_room2 {h : List AObj} (id n : Nat) (c : List UInt8) (k : Nat) (hid : h[id]? = some (.cells 5 (zj9 c k))) (hc : c.length = n) : ∃ (o : Fl), (o = .any ∨ o = .tip 5 1) ∧ vl9 Try.prog h 1 id 0 n n = some (.lst o 1 (byL c), h.set id (.froz 5 (byL c))) := by
 have e2 : tyI Try.prog 5 = some (false, 1) := by simp
 subst hc
 cases k with
 | zero =>
  have e0 : zj9 c 0 = byL c := by simp [zj9]
  rw [e0] at hid
  refine ⟨if 0 = 0 ∧ c.length = c.length ∧ c.length * 1 = (byL c).length then .tip 5 1 else .any, .inr (by simp), ?_⟩
  simp only [vl9, hid, e2]
  rw [if_pos ⟨by omega, .inr trivial, by simp, koneL_byL _, rfL_byL _⟩, weakL_byL, List.drop_zero, vj8 _ _ (by omega), List.take_of_length_le (by omega)]
 | succ k =>
  have e1 : (zj9 c (k + 1)).take (0 + c.length * 1) = byL c := by
   rw [zj9, Nat.zero_add, Nat.mul_one, List.take_append_of_le_length (by simp), List.take_of_length_le (by simp)]
  have e3 : AV.koneL (zj9 c (k + 1)) = false := by
   rw [zj9, koneL_app31, List.replicate_succ]
   simp [AV.koneL, AV.kone]
  refine ⟨.any, .inl rfl, ?_⟩
  simp only [vl9, hid, e2, e1]
  rw [if_neg (by rw [e3]; simp), if_pos ⟨by omega, .inr trivial, by simp [vw9], koneL_byL _, rfL_byL _⟩, weakL_byL, List.drop_zero, vj8 _ _ (by omega), List.take_of_length_le (by omega)]
end Go.AM
namespace Go.AM
open Go.RowKit Go.Proofs
set_option linter.unusedSimpArgs false
set_option linter.unusedVariables false
set_option maxHeartbeats 8000000
theorem esd_round {top : Bool} {kf : Nat} {Q : Exit → St → Prop} (hkf : kf ≤ 5) (o : OMod) (L g : List Esd) (hg : g.length ≤ 3) (hge : ∀ x ∈ g, EOk x) (acc : List (List UInt8)) (hacc : acc.length ≤ 100000) (fl : Fl) (hfl : (fl = .nil ∧ acc = []) ∨ fl = .tip 27 147)
  (hQ : ∀ X Y, Q .normal ⟨176, [(1, .loc 0 0), (4, .loc 1 0)], [.cells 26 (obC o), .cells 47 [.lst (.tip 27 147) 1 (bbL (acc ++ [zb7 g]))], .cells 22 [.lst .any 5 (esL L)], .cells 3 [.v (.int .i64 (3 : Nat))], .loop 176 [(1, .loc 0 0), (4, .loc 1 0), (30, .fn (.func 81) [] [.loc 2 0, .loc 3 0])] [31, 32] (rfAn Try.f19 0) (rfBn Try.f19 0) .busy, X, Y]⟩) :
  Wt top kf Try.prog (rfBn Try.f19 0) Q ⟨176, [(1, .loc 0 0), (4, .loc 1 0), (6, .lst .any 5 (esL g))], [.cells 26 (obC o), .cells 47 [.lst (fl) 1 (bbL (acc))], .cells 22 [.lst .any 5 (esL L)], .cells 3 [.v (.int .i64 (3 : Nat))], .loop 176 [(1, .loc 0 0), (4, .loc 1 0), (30, .fn (.func 81) [] [.loc 2 0, .loc 3 0])] [31, 32] (rfAn Try.f19 0) (rfBn Try.f19 0) .busy]⟩ := by
 have hif := if47_sound g (by omega)
 have w16 : IntKind.i64.wrap (16 * (g.length : Int)) = ((16 * g.length : Nat) : Int) := by rw [w64 (by omega) (by omega)]; omega
 have c0l := cardM_len xb8 (by decide +kernel)
 have hc2 : card2 g = if 0 ≤ ixE 0 g then putM (card1 g) 14 (numM 2 ((g[(ixE 0 g).toNat]?).elim 0 fun x => x.id.toNat)) else card1 g := rfl
 have hcd1 : card1 g = putM (vv9 xb8) 10 (numM 2 (16 * g.length)) := rfl
 have hcE : yf8 g 0 (card2 g) = zb7 g := rfl
 obtain ⟨c0, hc0⟩ : ∃ c, vv9 xb8 = c := ⟨_, rfl⟩
 have hq1 : acc.length ≤ 140737488355327 := by omega
 have hq2 : (acc.length + 1) * 24 ≤ 140737488355328 := by omega
 have happ : bbL acc ++ [.lst .any 1 (byL (zb7 g))] = bbL (acc ++ [zb7 g]) := by simp [ys8, yj7]
 rcases hfl with ⟨rfl, rfl⟩ | rfl
 ·refine yf9 ?_
  refine W_rK [1, 4, 6, 7, 8] ?_
  refine zg9 (f := 45) (args := [strB xb8]) (by simp) (by simp [zp9, zf9, strB, xb8]) ((zp8 xb8 (by simp [xb8]) (by decide +kernel) _ (by simp [yg9, xs9, AObj.under, yn9, AV.under, AV.underL, zd9, zj9])).mono ?_)
  rintro _ _ ⟨k, rfl, rfl⟩
  refine ⟨_, by simp; rfl, ?_⟩
  refine yr9 (by simp; rfl) ?_
  rw [hc0] at c0l hcd1 ⊢
  refine W_rK [1, 4, 6, 7, 8] ?_
  refine yq9 4 (by simp [w16]; rfl) rfl ?_
  refine yj9 (by simp) (by first | (simp; done) | (simp; rfl)) (yq8 (16 * g.length) 2 (by omega) (by omega)) (by simp; rfl) ?_
  refine zg9 (f := 83) (args := [.v (.int .i64 (10 : Nat)), .lst .any 1 (byL (numM 2 (16 * g.length))), .loc 6 0]) (by simp) (by simp [zp9, zf9]) ((wl9 (10) 80 (numM 2 (16 * g.length)) c0 k c0l (by simp <;> omega) (by omega) (by omega) _ 6 5 (by simp) (by simp) (by simp [yg9, xs9, AObj.under, yn9, AV.under, AV.underL, zd9, zj9])).mono ?_)
  rintro _ _ ⟨rfl, rfl⟩
  refine ⟨_, by simp; rfl, ?_⟩
  refine yr9 (by simp; rfl) ?_
  obtain ⟨c1, hc1⟩ : ∃ x, putM c0 (10) (numM 2 (16 * g.length)) = x := ⟨_, rfl⟩
  have c1l : c1.length = 80 := by rw [← hc1, zm9 _ _ _ (by simp <;> omega)]; exact c0l
  rw [hc1]
  rw [hc1] at hcd1
  have c2l : (card2 g).length = 80 := by
   rw [hc2, hcd1]
   split
   ·rw [zm9 _ _ _ (by simp; omega)]; exact c1l
   ·exact c1l
  refine xg9 (fun σ => σ = ⟨176, [(1, .loc 0 0), (4, .loc 1 0), (6, .lst .any 5 (esL g)), (7, .arr 5 0 80 80), (8, .fn (.func 83) [] [.loc 6 0])], [.cells 26 (obC o), .cells 47 [.lst (.nil) 1 (bbL ([]))], .cells 22 [.lst .any 5 (esL L)], .cells 3 [.v (.int .i64 (3 : Nat))], .loop 176 [(1, .loc 0 0), (4, .loc 1 0), (30, .fn (.func 81) [] [.loc 2 0, .loc 3 0])] [31, 32] (rfAn Try.f19 0) (rfBn Try.f19 0) .busy, .cells 5 (zj9 (card2 g) k), .cells 27 [.arr 5 0 80 80]]⟩) ?_ ?_
  ·rcases ixE_get g 0 with hm | ⟨j, x, hj, hix⟩
   ·rw [hm] at hif hc2
    refine W_rK [1, 4, 6, 7, 8, 9] ?_
    refine yq9 1 (by simp; rfl) rfl ?_
    refine yj9 (by simp) (by first | (simp; done) | (simp; rfl)) hif (by simp; rfl) ?_
    refine yr9 (by simp; rfl) ?_
    refine W_cF [1, 4, 6, 7, 8, 46] (by simp; rfl) rfl ?_
    refine zt9 [1, 4, 6, 7, 8] ?_
    refine yh9 ?_
    simp [yp9, hc2, hcd1]
   ·rw [Nat.zero_add] at hix
    rw [hix] at hif hc2
    have hjl : j < g.length := (List.getElem?_eq_some_iff.1 hj).1
    have hj2 : g[j]'hjl = x := by rw [List.getElem?_eq_getElem hjl] at hj; exact Option.some.inj hj
    obtain ⟨n1, n2, i0, i1, a0, a1, l0, l1⟩ := hge x (List.mem_of_getElem? hj)
    have hc2' : card2 g = putM c1 14 (numM 2 x.id.toNat) := by rw [hc2, if_pos (by omega), hcd1, Int.toNat_natCast, hj]; rfl
    refine W_rK [1, 4, 6, 7, 8, 9] ?_
    refine yq9 1 (by simp; rfl) rfl ?_
    refine yj9 (by simp) (by first | (simp; done) | (simp; rfl)) hif (by simp; rfl) ?_
    refine yr9 (by simp; rfl) ?_
    refine W_cT [1, 4, 6, 7, 8, 9, 46] (by simp; rfl) rfl ?_
    refine W_rE [1, 4, 6, 7, 8] ?_
    refine yq9 6 (by simp [hjl, hj2]; rfl) rfl ?_
    refine yj9 (by simp) (by first | (simp; done) | (simp; rfl)) (numZ x.id 2 i0 (by omega) (by omega)) (by simp; rfl) ?_
    refine zg9 (f := 83) (args := [.v (.int .i64 (14 : Nat)), .lst .any 1 (byL (numM 2 x.id.toNat)), .loc 6 0]) (by simp) (by simp [zp9, zf9]) ((wl9 (14) 80 (numM 2 x.id.toNat) c1 k c1l (by simp <;> omega) (by omega) (by omega) _ 6 5 (by simp) (by simp) (by simp [yg9, xs9, AObj.under, yn9, AV.under, AV.underL, zd9, zj9])).mono ?_)
    rintro _ _ ⟨rfl, rfl⟩
    refine ⟨_, by simp; rfl, ?_⟩
    refine yr9 (by simp; rfl) ?_
    simp [yp9, hc2']
  rintro _ rfl
  refine xg9 (fun σ => ∃ c, yf8 [] g.length c = zb7 g ∧ c.length = 80 ∧ σ = ⟨176, [(1, .loc 0 0), (4, .loc 1 0), (7, .arr 5 0 80 80)], [.cells 26 (obC o), .cells 47 [.lst (.nil) 1 (bbL ([]))], .cells 22 [.lst .any 5 (esL L)], .cells 3 [.v (.int .i64 (3 : Nat))], .loop 176 [(1, .loc 0 0), (4, .loc 1 0), (30, .fn (.func 81) [] [.loc 2 0, .loc 3 0])] [31, 32] (rfAn Try.f19 0) (rfBn Try.f19 0) .busy, .cells 5 (zj9 c k), .cells 27 [.arr 5 0 80 80]]⟩) ?_ ?_
  ·refine yt9 [1, 4, 7, 8, 55, 56, 57] (by simp; rfl) ?_
   refine yf9 ?_
   refine zn9 (fun kk σ => ∃ (i : Nat) (c : List UInt8), kk = g.length - i ∧ i ≤ g.length ∧ yf8 (g.drop i) i c = zb7 g ∧ c.length = 80 ∧ σ = ⟨176, [(1, .loc 0 0), (4, .loc 1 0), (7, .arr 5 0 80 80), (8, .fn (.func 83) [] [.loc 6 0]), (55, .lst .any 5 (esL g)), (56, .v (.int .i64 (g.length : Nat))), (57, .v (.int .i64 (i : Nat)))], [.cells 26 (obC o), .cells 47 [.lst (.nil) 1 (bbL ([]))], .cells 22 [.lst .any 5 (esL L)], .cells 3 [.v (.int .i64 (3 : Nat))], .loop 176 [(1, .loc 0 0), (4, .loc 1 0), (30, .fn (.func 81) [] [.loc 2 0, .loc 3 0])] [31, 32] (rfAn Try.f19 0) (rfBn Try.f19 0) .busy, .cells 5 (zj9 c k), .cells 27 [.arr 5 0 80 80]]⟩) (k := g.length) ⟨0, card2 g, rfl, by omega, hcE, c2l, by simp⟩ ?_
   rintro kk σ ⟨i, c, rfl, hi, hgo, cl, rfl⟩
   by_cases ci : i < g.length
   ·have cii : (i : Int) < g.length := by omega
    obtain ⟨x, hs⟩ : ∃ x, g[i]? = some x := ⟨_, List.getElem?_eq_getElem ci⟩
    have hs2 : g[i]'ci = x := by rw [List.getElem?_eq_getElem ci] at hs; exact Option.some.inj hs
    have hdr : g.drop i = x :: g.drop (i + 1) := by rw [List.drop_eq_getElem_cons ci, hs2]
    have hek := hge x (List.mem_of_getElem? hs)
    have hn1 := hek.n
    have hel := eItem_len x (by omega)
    have wi := w64 (n := (i : Int) + 1) (by omega) (by omega)
    have w1 := w64 (n := 16 * (i : Int)) (by omega) (by omega)
    have w2 := w64 (n := 16 + 16 * (i : Int)) (by omega) (by omega)
    rw [hdr, yf8] at hgo
    refine yt9 [1, 4, 7, 8, 55, 56, 57, 58] (by simp [cii]; rfl) ?_
    refine yk9 ?_
    refine yd9 rfl (fun h => ?_) (fun h => by simp [ci] at h)
    refine yh9 ?_
    refine yk9 ?_
    refine yf9 ?_
    refine yt9 [1, 4, 7, 8, 55, 56, 57, 10, 11] (by simp [ci, cii, hs2, ys9]; rfl) ?_
    refine W_rE [1, 4, 7, 8, 55, 56, 57] ?_
    refine yq9 5 (by simp [w1, w2]; rfl) rfl ?_
    refine yj9 (by simp) (by first | (simp; done) | (simp; rfl)) (esdItem_sound x hek) (by simp; rfl) ?_
    refine zg9 (f := 83) (args := [.v (.int .i64 (16 + 16 * i : Nat)), .lst .any 1 (byL (xj8 x)), .loc 6 0]) (by simp) (by simp [zp9, zf9]) ((wl9 (16 + 16 * i) 80 (xj8 x) c k cl (by simp [hel] <;> omega) (by omega) (by omega) _ 6 5 (by simp) (by simp) (by simp [yg9, xs9, AObj.under, yn9, AV.under, AV.underL, zd9, zj9, strB])).mono ?_)
    rintro _ _ ⟨rfl, rfl⟩
    refine ⟨_, by simp; rfl, ?_⟩
    refine yr9 (by simp; rfl) ?_
    refine xd9 7 (by omega) (by simp) (by simp [yn9, AV.under, AV.underL]) (by simp [yg9, xs9, AObj.under, yn9, AV.under, AV.underL, zd9, zj9]) ?_
    refine zs9 [1, 4, 7, 8, 55, 56, 57] (by simp [wi]; rfl) ?_
    exact ⟨_, by omega, i + 1, putM c (16 + 16 * i) (xj8 x), rfl, by omega, hgo, by rw [zm9 _ _ _ (by rw [hel, cl]; omega)]; exact cl, by simp⟩
   have hie : i = g.length := by omega
   rw [hie, List.drop_length] at hgo
   refine yt9 [1, 4, 7, 55, 56, 57, 58] (by simp [ci]; rfl) ?_
   refine yk9 ?_
   refine yd9 rfl (fun h => by simp [hie] at h) (fun h => ?_)
   refine zt9 [1, 4, 7] ?_
   refine zh9 ?_
   exact ⟨c, hgo, cl, by simp⟩
  rintro _ ⟨c, hgo, cl, rfl⟩
  rw [yf8] at hgo
  obtain ⟨fo, hfo, hfz⟩ := frz_room2 (h := [.cells 26 (obC o), .cells 47 [.lst (.nil) 1 (bbL ([]))], .cells 22 [.lst .any 5 (esL L)], .cells 3 [.v (.int .i64 (3 : Nat))], .loop 176 [(1, .loc 0 0), (4, .loc 1 0), (30, .fn (.func 81) [] [.loc 2 0, .loc 3 0])] [31, 32] (rfAn Try.f19 0) (rfBn Try.f19 0) .busy, .cells 5 (zj9 c k), .cells 27 [.arr 5 0 80 80]]) 5 80 c k rfl cl
  rw [hgo] at hfz ⊢
  refine W_frz 7 rfl (by decide) hfz ?_
  rcases hfo with rfl | rfl
  all_goals
   refine zs9 [1, 4] (by simp [putF, ys9, catK, AV.cellsK, AV.kone, AV.koneL, hq1, hq2]; rfl) ?_
   have hq := hQ (.froz 5 (byL (zb7 g))) (.cells 27 [.arr 5 0 80 80])
   rw [← happ] at hq
   simpa [inBlk] using hq
 refine yf9 ?_
 refine W_rK [1, 4, 6, 7, 8] ?_
 refine zg9 (f := 45) (args := [strB xb8]) (by simp) (by simp [zp9, zf9, strB, xb8]) ((zp8 xb8 (by simp [xb8]) (by decide +kernel) _ (by simp [yg9, xs9, AObj.under, yn9, AV.under, AV.underL, zd9, zj9])).mono ?_)
 rintro _ _ ⟨k, rfl, rfl⟩
 refine ⟨_, by simp; rfl, ?_⟩
 refine yr9 (by simp; rfl) ?_
 rw [hc0] at c0l hcd1 ⊢
 refine W_rK [1, 4, 6, 7, 8] ?_
 refine yq9 4 (by simp [w16]; rfl) rfl ?_
 refine yj9 (by simp) (by first | (simp; done) | (simp; rfl)) (yq8 (16 * g.length) 2 (by omega) (by omega)) (by simp; rfl) ?_
 refine zg9 (f := 83) (args := [.v (.int .i64 (10 : Nat)), .lst .any 1 (byL (numM 2 (16 * g.length))), .loc 6 0]) (by simp) (by simp [zp9, zf9]) ((wl9 (10) 80 (numM 2 (16 * g.length)) c0 k c0l (by simp <;> omega) (by omega) (by omega) _ 6 5 (by simp) (by simp) (by simp [yg9, xs9, AObj.under, yn9, AV.under, AV.underL, zd9, zj9])).mono ?_)
 rintro _ _ ⟨rfl, rfl⟩
 refine ⟨_, by simp; rfl, ?_⟩
 refine yr9 (by simp; rfl) ?_
 obtain ⟨c1, hc1⟩ : ∃ x, putM c0 (10) (numM 2 (16 * g.length)) = x := ⟨_, rfl⟩
 have c1l : c1.length = 80 := by rw [← hc1, zm9 _ _ _ (by simp <;> omega)]; exact c0l
 rw [hc1]
 rw [hc1] at hcd1
 have c2l : (card2 g).length = 80 := by
  rw [hc2, hcd1]
  split
  ·rw [zm9 _ _ _ (by simp; omega)]; exact c1l
  ·exact c1l
 refine xg9 (fun σ => σ = ⟨176, [(1, .loc 0 0), (4, .loc 1 0), (6, .lst .any 5 (esL g)), (7, .arr 5 0 80 80), (8, .fn (.func 83) [] [.loc 6 0])], [.cells 26 (obC o), .cells 47 [.lst (.tip 27 147) 1 (bbL (acc))], .cells 22 [.lst .any 5 (esL L)], .cells 3 [.v (.int .i64 (3 : Nat))], .loop 176 [(1, .loc 0 0), (4, .loc 1 0), (30, .fn (.func 81) [] [.loc 2 0, .loc 3 0])] [31, 32] (rfAn Try.f19 0) (rfBn Try.f19 0) .busy, .cells 5 (zj9 (card2 g) k), .cells 27 [.arr 5 0 80 80]]⟩) ?_ ?_
 ·rcases ixE_get g 0 with hm | ⟨j, x, hj, hix⟩
  ·rw [hm] at hif hc2
   refine W_rK [1, 4, 6, 7, 8, 9] ?_
   refine yq9 1 (by simp; rfl) rfl ?_
   refine yj9 (by simp) (by first | (simp; done) | (simp; rfl)) hif (by simp; rfl) ?_
   refine yr9 (by simp; rfl) ?_
   refine W_cF [1, 4, 6, 7, 8, 46] (by simp; rfl) rfl ?_
   refine zt9 [1, 4, 6, 7, 8] ?_
   refine yh9 ?_
   simp [yp9, hc2, hcd1]
  ·rw [Nat.zero_add] at hix
   rw [hix] at hif hc2
   have hjl : j < g.length := (List.getElem?_eq_some_iff.1 hj).1
   have hj2 : g[j]'hjl = x := by rw [List.getElem?_eq_getElem hjl] at hj; exact Option.some.inj hj
   obtain ⟨n1, n2, i0, i1, a0, a1, l0, l1⟩ := hge x (List.mem_of_getElem? hj)
   have hc2' : card2 g = putM c1 14 (numM 2 x.id.toNat) := by rw [hc2, if_pos (by omega), hcd1, Int.toNat_natCast, hj]; rfl
   refine W_rK [1, 4, 6, 7, 8, 9] ?_
   refine yq9 1 (by simp; rfl) rfl ?_
   refine yj9 (by simp) (by first | (simp; done) | (simp; rfl)) hif (by simp; rfl) ?_
   refine yr9 (by simp; rfl) ?_
   refine W_cT [1, 4, 6, 7, 8, 9, 46] (by simp; rfl) rfl ?_
   refine W_rE [1, 4, 6, 7, 8] ?_
   refine yq9 6 (by simp [hjl, hj2]; rfl) rfl ?_
   refine yj9 (by simp) (by first | (simp; done) | (simp; rfl)) (numZ x.id 2 i0 (by omega) (by omega)) (by simp; rfl) ?_
   refine zg9 (f := 83) (args := [.v (.int .i64 (14 : Nat)), .lst .any 1 (byL (numM 2 x.id.toNat)), .loc 6 0]) (by simp) (by simp [zp9, zf9]) ((wl9 (14) 80 (numM 2 x.id.toNat) c1 k c1l (by simp <;> omega) (by omega) (by omega) _ 6 5 (by simp) (by simp) (by simp [yg9, xs9, AObj.under, yn9, AV.under, AV.underL, zd9, zj9])).mono ?_)
   rintro _ _ ⟨rfl, rfl⟩
   refine ⟨_, by simp; rfl, ?_⟩
   refine yr9 (by simp; rfl) ?_
   simp [yp9, hc2']
 rintro _ rfl
 refine xg9 (fun σ => ∃ c, yf8 [] g.length c = zb7 g ∧ c.length = 80 ∧ σ = ⟨176, [(1, .loc 0 0), (4, .loc 1 0), (7, .arr 5 0 80 80)], [.cells 26 (obC o), .cells 47 [.lst (.tip 27 147) 1 (bbL (acc))], .cells 22 [.lst .any 5 (esL L)], .cells 3 [.v (.int .i64 (3 : Nat))], .loop 176 [(1, .loc 0 0), (4, .loc 1 0), (30, .fn (.func 81) [] [.loc 2 0, .loc 3 0])] [31, 32] (rfAn Try.f19 0) (rfBn Try.f19 0) .busy, .cells 5 (zj9 c k), .cells 27 [.arr 5 0 80 80]]⟩) ?_ ?_
 ·refine yt9 [1, 4, 7, 8, 55, 56, 57] (by simp; rfl) ?_
  refine yf9 ?_
  refine zn9 (fun kk σ => ∃ (i : Nat) (c : List UInt8), kk = g.length - i ∧ i ≤ g.length ∧ yf8 (g.drop i) i c = zb7 g ∧ c.length = 80 ∧ σ = ⟨176, [(1, .loc 0 0), (4, .loc 1 0), (7, .arr 5 0 80 80), (8, .fn (.func 83) [] [.loc 6 0]), (55, .lst .any 5 (esL g)), (56, .v (.int .i64 (g.length : Nat))), (57, .v (.int .i64 (i : Nat)))], [.cells 26 (obC o), .cells 47 [.lst (.tip 27 147) 1 (bbL (acc))], .cells 22 [.lst .any 5 (esL L)], .cells 3 [.v (.int .i64 (3 : Nat))], .loop 176 [(1, .loc 0 0), (4, .loc 1 0), (30, .fn (.func 81) [] [.loc 2 0, .loc 3 0])] [31, 32] (rfAn Try.f19 0) (rfBn Try.f19 0) .busy, .cells 5 (zj9 c k), .cells 27 [.arr 5 0 80 80]]⟩) (k := g.length) ⟨0, card2 g, rfl, by omega, hcE, c2l, by simp⟩ ?_
  rintro kk σ ⟨i, c, rfl, hi, hgo, cl, rfl⟩
  by_cases ci : i < g.length
  ·have cii : (i : Int) < g.length := by omega
   obtain ⟨x, hs⟩ : ∃ x, g[i]? = some x := ⟨_, List.getElem?_eq_getElem ci⟩
   have hs2 : g[i]'ci = x := by rw [List.getElem?_eq_getElem ci] at hs; exact Option.some.inj hs
   have hdr : g.drop i = x :: g.drop (i + 1) := by rw [List.drop_eq_getElem_cons ci, hs2]
   have hek := hge x (List.mem_of_getElem? hs)
   have hn1 := hek.n
   have hel := eItem_len x (by omega)
   have wi := w64 (n := (i : Int) + 1) (by omega) (by omega)
   have w1 := w64 (n := 16 * (i : Int)) (by omega) (by omega)
   have w2 := w64 (n := 16 + 16 * (i : Int)) (by omega) (by omega)
   rw [hdr, yf8] at hgo
   refine yt9 [1, 4, 7, 8, 55, 56, 57, 58] (by simp [cii]; rfl) ?_
   refine yk9 ?_
   refine yd9 rfl (fun h => ?_) (fun h => by simp [ci] at h)
   refine yh9 ?_
   refine yk9 ?_
   refine yf9 ?_
   refine yt9 [1, 4, 7, 8, 55, 56, 57, 10, 11] (by simp [ci, cii, hs2, ys9]; rfl) ?_
   refine W_rE [1, 4, 7, 8, 55, 56, 57] ?_
   refine yq9 5 (by simp [w1, w2]; rfl) rfl ?_
   refine yj9 (by simp) (by first | (simp; done) | (simp; rfl)) (esdItem_sound x hek) (by simp; rfl) ?_
   refine zg9 (f := 83) (args := [.v (.int .i64 (16 + 16 * i : Nat)), .lst .any 1 (byL (xj8 x)), .loc 6 0]) (by simp) (by simp [zp9, zf9]) ((wl9 (16 + 16 * i) 80 (xj8 x) c k cl (by simp [hel] <;> omega) (by omega) (by omega) _ 6 5 (by simp) (by simp) (by simp [yg9, xs9, AObj.under, yn9, AV.under, AV.underL, zd9, zj9, strB])).mono ?_)
   rintro _ _ ⟨rfl, rfl⟩
   refine ⟨_, by simp; rfl, ?_⟩
   refine yr9 (by simp; rfl) ?_
   refine xd9 7 (by omega) (by simp) (by simp [yn9, AV.under, AV.underL]) (by simp [yg9, xs9, AObj.under, yn9, AV.under, AV.underL, zd9, zj9]) ?_
   refine zs9 [1, 4, 7, 8, 55, 56, 57] (by simp [wi]; rfl) ?_
   exact ⟨_, by omega, i + 1, putM c (16 + 16 * i) (xj8 x), rfl, by omega, hgo, by rw [zm9 _ _ _ (by rw [hel, cl]; omega)]; exact cl, by simp⟩
  have hie : i = g.length := by omega
  rw [hie, List.drop_length] at hgo
  refine yt9 [1, 4, 7, 55, 56, 57, 58] (by simp [ci]; rfl) ?_
  refine yk9 ?_
  refine yd9 rfl (fun h => by simp [hie] at h) (fun h => ?_)
  refine zt9 [1, 4, 7] ?_
  refine zh9 ?_
  exact ⟨c, hgo, cl, by simp⟩
 rintro _ ⟨c, hgo, cl, rfl⟩
 rw [yf8] at hgo
 obtain ⟨fo, hfo, hfz⟩ := frz_room2 (h := [.cells 26 (obC o), .cells 47 [.lst (.tip 27 147) 1 (bbL (acc))], .cells 22 [.lst .any 5 (esL L)], .cells 3 [.v (.int .i64 (3 : Nat))], .loop 176 [(1, .loc 0 0), (4, .loc 1 0), (30, .fn (.func 81) [] [.loc 2 0, .loc 3 0])] [31, 32] (rfAn Try.f19 0) (rfBn Try.f19 0) .busy, .cells 5 (zj9 c k), .cells 27 [.arr 5 0 80 80]]) 5 80 c k rfl cl
 rw [hgo] at hfz ⊢
 refine W_frz 7 rfl (by decide) hfz ?_
 rcases hfo with rfl | rfl
 all_goals
  refine zs9 [1, 4] (by simp [putF, ys9, catK, AV.cellsK, AV.kone, AV.koneL, hq1, hq2]; rfl) ?_
  have hq := hQ (.froz 5 (byL (zb7 g))) (.cells 27 [.arr 5 0 80 80])
  rw [← happ] at hq
  simpa [inBlk] using hq
end Go.AM
namespace Go.AM
open Go.RowKit Go.Proofs
set_option linter.unusedSimpArgs false
set_option linter.unusedVariables false
set_option maxHeartbeats 8000000
structure ROk (r : Rld) : Prop where
 t0 : 0 ≤ r.to_
 t1 : r.to_ ≤ 1000000
 i0 : 0 ≤ r.in_
 i1 : r.in_ ≤ 1000000
 a0 : 0 ≤ r.addr
 a1 : r.addr ≤ 1000000
 l0 : 1 ≤ r.len
 l1 : r.len ≤ 4
def zm8 (r : Rld) : Nat := 4 * (r.len.toNat - 1) + if r.neg = true then 2 else 0
def vq8 (r : Rld) : List UInt8 := numM 2 r.to_.toNat ++ (numM 2 r.in_.toNat ++ (numM 1 (zm8 r) ++ numM 3 r.addr.toNat))
@[simp] theorem rItem_len (r : Rld) : (vq8 r).length = 8 := by simp [vq8]
def yl8 : List Rld → Nat → List UInt8 → List UInt8
 | [], _, c => c
 | x :: l, i, c => yl8 l (i + 1) (putM c (16 + 8 * i) (vq8 x))
def cardR (g : List Rld) : List UInt8 := yl8 g 0 (putM (vv9 vr8) 10 (numM 2 (8 * g.length)))
theorem rld_round {top : Bool} {kf : Nat} {Q : Exit → St → Prop} (hkf : kf ≤ 5) (o : OMod) (L g : List Rld) (hg : g.length ≤ 7) (hge : ∀ x ∈ g, ROk x) (acc : List (List UInt8)) (hacc : acc.length ≤ 100000)
  (hQ : ∀ X Y, Q .normal ⟨176, [(1, .loc 0 0), (4, .loc 1 0)], [.cells 26 (obC o), .cells 47 [.lst (.tip 27 147) 1 (bbL (acc ++ [cardR g]))], .cells 24 [.lst .any 5 (rdL L)], .cells 3 [.v (.int .i64 (7 : Nat))], .loop 176 [(1, .loc 0 0), (4, .loc 1 0), (112, .fn (.func 84) [] [.loc 2 0, .loc 3 0])] [113, 114] (rfAn Try.f19 1) (rfBn Try.f19 1) .busy, X, Y]⟩) :
  Wt top kf Try.prog (rfBn Try.f19 1) Q ⟨176, [(1, .loc 0 0), (4, .loc 1 0), (17, .lst .any 5 (rdL g))], [.cells 26 (obC o), .cells 47 [.lst (.tip 27 147) 1 (bbL (acc))], .cells 24 [.lst .any 5 (rdL L)], .cells 3 [.v (.int .i64 (7 : Nat))], .loop 176 [(1, .loc 0 0), (4, .loc 1 0), (112, .fn (.func 84) [] [.loc 2 0, .loc 3 0])] [113, 114] (rfAn Try.f19 1) (rfBn Try.f19 1) .busy]⟩ := by
 have w8 : IntKind.i64.wrap (8 * (g.length : Int)) = ((8 * g.length : Nat) : Int) := by rw [w64 (by omega) (by omega)]; omega
 have c0l := cardM_len vr8 (by decide +kernel)
 have hcE : yl8 g 0 (putM (vv9 vr8) 10 (numM 2 (8 * g.length))) = cardR g := rfl
 obtain ⟨c0, hc0⟩ : ∃ c, vv9 vr8 = c := ⟨_, rfl⟩
 have hq1 : acc.length ≤ 140737488355327 := by omega
 have hq2 : (acc.length + 1) * 24 ≤ 140737488355328 := by omega
 have happ : bbL acc ++ [.lst .any 1 (byL (cardR g))] = bbL (acc ++ [cardR g]) := by simp [ys8, yj7]
 refine yf9 ?_
 refine W_rK [1, 4, 17, 18, 19] ?_
 refine zg9 (f := 45) (args := [strB vr8]) (by simp) (by simp [zp9, zf9, strB, vr8]) ((zp8 vr8 (by simp [vr8]) (by decide +kernel) _ (by simp [yg9, xs9, AObj.under, yn9, AV.under, AV.underL, zd9, zj9])).mono ?_)
 rintro _ _ ⟨k, rfl, rfl⟩
 refine ⟨_, by simp; rfl, ?_⟩
 refine yr9 (by simp; rfl) ?_
 rw [hc0] at c0l hcE ⊢
 refine W_rK [1, 4, 17, 18, 19] ?_
 refine yq9 4 (by simp [w8]; rfl) rfl ?_
 refine yj9 (by simp) (by first | (simp; done) | (simp; rfl)) (yq8 (8 * g.length) 2 (by omega) (by omega)) (by simp; rfl) ?_
 refine zg9 (f := 83) (args := [.v (.int .i64 (10 : Nat)), .lst .any 1 (byL (numM 2 (8 * g.length))), .loc 6 0]) (by simp) (by simp [zp9, zf9]) ((wl9 (10) 80 (numM 2 (8 * g.length)) c0 k c0l (by simp <;> omega) (by omega) (by omega) _ 6 5 (by simp) (by simp) (by simp [yg9, xs9, AObj.under, yn9, AV.under, AV.underL, zd9, zj9])).mono ?_)
 rintro _ _ ⟨rfl, rfl⟩
 refine ⟨_, by simp; rfl, ?_⟩
 refine yr9 (by simp; rfl) ?_
 obtain ⟨c1, hc1⟩ : ∃ x, putM c0 (10) (numM 2 (8 * g.length)) = x := ⟨_, rfl⟩
 have c1l : c1.length = 80 := by rw [← hc1, zm9 _ _ _ (by simp <;> omega)]; exact c0l
 rw [hc1]
 rw [hc1] at hcE
 refine xg9 (fun σ => ∃ c, yl8 [] g.length c = cardR g ∧ c.length = 80 ∧ σ = ⟨176, [(1, .loc 0 0), (4, .loc 1 0), (18, .arr 5 0 80 80)], [.cells 26 (obC o), .cells 47 [.lst (.tip 27 147) 1 (bbL (acc))], .cells 24 [.lst .any 5 (rdL L)], .cells 3 [.v (.int .i64 (7 : Nat))], .loop 176 [(1, .loc 0 0), (4, .loc 1 0), (112, .fn (.func 84) [] [.loc 2 0, .loc 3 0])] [113, 114] (rfAn Try.f19 1) (rfBn Try.f19 1) .busy, .cells 5 (zj9 c k), .cells 27 [.arr 5 0 80 80]]⟩) ?_ ?_
 ·refine yt9 [1, 4, 18, 19, 125, 126, 127] (by simp; rfl) ?_
  refine yf9 ?_
  refine zn9 (fun kk σ => ∃ (i : Nat) (c : List UInt8), kk = g.length - i ∧ i ≤ g.length ∧ yl8 (g.drop i) i c = cardR g ∧ c.length = 80 ∧ σ = ⟨176, [(1, .loc 0 0), (4, .loc 1 0), (18, .arr 5 0 80 80), (19, .fn (.func 83) [] [.loc 6 0]), (125, .lst .any 5 (rdL g)), (126, .v (.int .i64 (g.length : Nat))), (127, .v (.int .i64 (i : Nat)))], [.cells 26 (obC o), .cells 47 [.lst (.tip 27 147) 1 (bbL (acc))], .cells 24 [.lst .any 5 (rdL L)], .cells 3 [.v (.int .i64 (7 : Nat))], .loop 176 [(1, .loc 0 0), (4, .loc 1 0), (112, .fn (.func 84) [] [.loc 2 0, .loc 3 0])] [113, 114] (rfAn Try.f19 1) (rfBn Try.f19 1) .busy, .cells 5 (zj9 c k), .cells 27 [.arr 5 0 80 80]]⟩) (k := g.length) ⟨0, c1, rfl, by omega, hcE, c1l, by simp⟩ ?_
  rintro kk σ ⟨i, c, rfl, hi, hgo, cl, rfl⟩
  by_cases ci : i < g.length
  ·have cii : (i : Int) < g.length := by omega
   obtain ⟨x, hs⟩ : ∃ x, g[i]? = some x := ⟨_, List.getElem?_eq_getElem ci⟩
   have hs2 : g[i]'ci = x := by rw [List.getElem?_eq_getElem ci] at hs; exact Option.some.inj hs
   have hdr : g.drop i = x :: g.drop (i + 1) := by rw [List.drop_eq_getElem_cons ci, hs2]
   obtain ⟨t0, t1, i0, i1, a0, a1, l0, l1⟩ := hge x (List.mem_of_getElem? hs)
   have wi := w64 (n := (i : Int) + 1) (by omega) (by omega)
   have w1 := w64 (n := 8 * (i : Int)) (by omega) (by omega)
   have w2 := w64 (n := 16 + 8 * (i : Int)) (by omega) (by omega)
   have w3 := w64 (n := x.len - 1) (by omega) (by omega)
   have w4 := w64 (n := 4 * (x.len - 1)) (by omega) (by omega)
   rw [hdr, yl8] at hgo
   refine yt9 [1, 4, 18, 19, 125, 126, 127, 128] (by simp [cii]; rfl) ?_
   refine yk9 ?_
   refine yd9 rfl (fun h => ?_) (fun h => by simp [ci] at h)
   refine yh9 ?_
   refine yk9 ?_
   refine yf9 ?_
   refine yt9 [1, 4, 18, 19, 125, 126, 127, 20, 21] (by simp [ci, cii, hs2, ys9]; rfl) ?_
   obtain ⟨v, hv⟩ : ∃ v, zm8 x = v := ⟨_, rfl⟩
   have hvl : v ≤ 14 := by rw [← hv, zm8]; split <;> omega
   refine yt9 [1, 4, 18, 19, 125, 126, 127, 20, 21, 22] (by simp [w3, w4]; rfl) ?_
   refine xg9 (fun σ => σ = ⟨176, [(1, .loc 0 0), (4, .loc 1 0), (18, .arr 5 0 80 80), (19, .fn (.func 83) [] [.loc 6 0]), (125, .lst .any 5 (rdL g)), (126, .v (.int .i64 (g.length : Nat))), (127, .v (.int .i64 (i : Nat))), (21, .loc 7 0), (20, .v (.int .i64 (i : Nat))), (22, .v (.int .i64 (v : Nat)))], [.cells 26 (obC o), .cells 47 [.lst (.tip 27 147) 1 (bbL (acc))], .cells 24 [.lst .any 5 (rdL L)], .cells 3 [.v (.int .i64 (7 : Nat))], .loop 176 [(1, .loc 0 0), (4, .loc 1 0), (112, .fn (.func 84) [] [.loc 2 0, .loc 3 0])] [113, 114] (rfAn Try.f19 1) (rfBn Try.f19 1) .busy, .cells 5 (zj9 c k), .cells 27 [.arr 5 0 80 80], .cells 80 (rdC x)]⟩) ?_ ?_
   ·by_cases hn : x.neg = true
    ·have hvz : 4 * (x.len - 1) + 2 = (v : Int) := by rw [← hv, zm8, if_pos hn]; omega
     have w5 : IntKind.i64.wrap (4 * (x.len - 1) + 2) = (v : Int) := by rw [w64 (by omega) (by omega)]; exact hvz
     refine W_cT [1, 4, 18, 19, 125, 126, 127, 20, 21, 22, 137] (by simp [hn]; rfl) rfl ?_
     refine zs9 [1, 4, 18, 19, 125, 126, 127, 20, 21, 22] (by simp [w5]; rfl) ?_
     simp [yp9, rdC, hn]
    ·have hnf : x.neg = false := by simpa using hn
     have hvz : 4 * (x.len - 1) = (v : Int) := by rw [← hv, zm8, if_neg hn]; omega
     refine W_cF [1, 4, 18, 19, 125, 126, 127, 20, 21, 22, 137] (by simp [hnf]; rfl) rfl ?_
     refine zt9 [1, 4, 18, 19, 125, 126, 127, 20, 21, 22] ?_
     refine yh9 ?_
     simp [yp9, rdC, hnf, hvz]
   rintro _ rfl
   have hcc : Sound Try.prog 51 [.lst .any 1 [.lst .any 1 (byL (numM 2 x.to_.toNat)), .lst .any 1 (byL (numM 2 x.in_.toNat)), .lst .any 1 (byL (numM 1 v)), .lst .any 1 (byL (numM 3 x.addr.toNat))]] (.lst .any 1 (byL (vq8 x))) := by
    have h := zq8 [numM 2 x.to_.toNat, numM 2 x.in_.toNat, numM 1 v, numM 3 x.addr.toNat] (by simp [total]) (by simp)
    simpa [bbL, vq8, hv] using h
   refine W_rsE 17 [1, 4, 18, 19, 125, 126, 127] mx (by decide +kernel) ?_
   refine yw9 6 (by simp [rdC, w1, w2]; rfl) rfl ?_
   refine yb9 (by simp) (by first | (simp; done) | (simp; rfl)) (numZ x.to_ 2 t0 (by omega) (by omega)) (by simp; rfl) ?_
   refine yw9 2 (by simp [rdC]; rfl) rfl ?_
   refine yb9 (by simp) (by first | (simp; done) | (simp; rfl)) (numZ x.in_ 2 i0 (by omega) (by omega)) (by simp; rfl) ?_
   refine yw9 1 (by simp [rdC]; rfl) rfl ?_
   refine yb9 (by simp) (by first | (simp; done) | (simp; rfl)) (yq8 v 1 (by omega) (by omega)) (by simp; rfl) ?_
   refine yw9 2 (by simp [rdC]; rfl) rfl ?_
   refine yb9 (by simp) (by first | (simp; done) | (simp; rfl)) (numZ x.addr 3 a0 (by omega) (by omega)) (by simp; rfl) ?_
   refine yw9 1 (by simp; rfl) rfl ?_
   refine yb9 (by simp) (by first | (simp; done) | (simp; rfl)) hcc (by simp; rfl) ?_
   refine zg9 (f := 83) (args := [.v (.int .i64 (16 + 8 * i : Nat)), .lst .any 1 (byL (vq8 x)), .loc 6 0]) (by simp) (by simp [zp9, zf9]) ((wl9 (16 + 8 * i) 80 (vq8 x) c k cl (by simp <;> omega) (by omega) (by omega) _ 6 5 (by simp) (by simp) (by simp [yg9, xs9, AObj.under, yn9, AV.under, AV.underL, zd9, zj9, rdC])).mono ?_)
   rintro _ _ ⟨rfl, rfl⟩
   refine ⟨_, by simp; rfl, ?_⟩
   refine yr9 (by simp; rfl) ?_
   refine xd9 7 (by omega) (by simp) (by simp [yn9, AV.under, AV.underL]) (by simp [yg9, xs9, AObj.under, yn9, AV.under, AV.underL, zd9, zj9]) ?_
   refine zs9 [1, 4, 18, 19, 125, 126, 127] (by simp [wi]; rfl) ?_
   exact ⟨_, by omega, i + 1, putM c (16 + 8 * i) (vq8 x), rfl, by omega, hgo, by rw [zm9 _ _ _ (by rw [rItem_len, cl]; omega)]; exact cl, by simp⟩
  have hie : i = g.length := by omega
  rw [hie, List.drop_length] at hgo
  refine yt9 [1, 4, 18, 125, 126, 127, 128] (by simp [ci]; rfl) ?_
  refine yk9 ?_
  refine yd9 rfl (fun h => by simp [hie] at h) (fun h => ?_)
  refine zt9 [1, 4, 18] ?_
  refine zh9 ?_
  exact ⟨c, hgo, cl, by simp⟩
 rintro _ ⟨c, hgo, cl, rfl⟩
 rw [yl8] at hgo
 obtain ⟨fo, hfo, hfz⟩ := frz_room2 (h := [.cells 26 (obC o), .cells 47 [.lst (.tip 27 147) 1 (bbL (acc))], .cells 24 [.lst .any 5 (rdL L)], .cells 3 [.v (.int .i64 (7 : Nat))], .loop 176 [(1, .loc 0 0), (4, .loc 1 0), (112, .fn (.func 84) [] [.loc 2 0, .loc 3 0])] [113, 114] (rfAn Try.f19 1) (rfBn Try.f19 1) .busy, .cells 5 (zj9 c k), .cells 27 [.arr 5 0 80 80]]) 5 80 c k rfl cl
 rw [hgo] at hfz ⊢
 refine W_frz 18 rfl (by decide) hfz ?_
 rcases hfo with rfl | rfl
 all_goals
  refine zs9 [1, 4] (by simp [putF, ys9, catK, AV.cellsK, AV.kone, AV.koneL, hq1, hq2]; rfl) ?_
  have hq := hQ (.froz 5 (byL (cardR g))) (.cells 27 [.arr 5 0 80 80])
  rw [← happ] at hq
  simpa [inBlk] using hq
end Go.AM
namespace Go.AM
open Go.RowKit Go.Proofs
set_option linter.unusedSimpArgs false
set_option linter.unusedVariables false
set_option maxHeartbeats 4000000
theorem codeL_len (s : List UInt8) : (wr9 s).length ≤ s.length := by
 unfold wr9 encM
 split
 ·simp [enc1]
 ·simp
theorem symM_len {s : List UInt8} (h : symM s = true) : s.length ≤ 8 := by
 simp only [symM, Bool.and_eq_true, decide_eq_true_eq] at h
 exact h.2.1
def EV (x : Esd) : Prop := x.name.length ≤ 8 ∧ ((x.kind ≠ 2 ∧ 1 ≤ x.id ∧ x.id ≤ 3000 ∧ 0 ≤ x.addr ∧ x.addr ≤ 65536 ∧ 0 ≤ x.len ∧ x.len ≤ 65536) ∨ (x.kind = 2 ∧ x.len = 0))
theorem ruleM_EV {nx : Int} {x : Esd} (h : xf8 nx x = true) (h1 : 1 ≤ nx) (h2 : nx ≤ 3000) : EV x := by
 unfold xf8 at h
 split at h
 ·rename_i hk
  simp only [rule1, Bool.and_eq_true, Bool.or_eq_true, decide_eq_true_eq] at h
  obtain ⟨a1, a2, a3, a4, a5, a6⟩ := h
  refine ⟨?_, .inl ⟨by omega, by omega, by omega, a2, a4, a3, by omega⟩⟩
  rcases a6 with h | h
  ·simp [h]
  ·exact symM_len h
 ·split at h
  ·rename_i hk
   simp only [rule2, Bool.and_eq_true, decide_eq_true_eq] at h
   exact ⟨symM_len h.2, .inr ⟨hk, h.1⟩⟩
  ·split at h
   ·rename_i hk
    simp only [rule3, Bool.and_eq_true, decide_eq_true_eq] at h
    obtain ⟨a1, a2, a3, a4⟩ := h
    exact ⟨symM_len a4, .inl ⟨by omega, by omega, by omega, by omega, by omega, by omega, by omega⟩⟩
   ·cases h
theorem getN_updN (s t : List UInt8) (k : Int) : ∀ N : List (List UInt8 × Int), getN s (updN t k N) = if s = t then some k else getN s N
 | [] => by simp only [updN, getN]
 | (u, m) :: N => by
  simp only [updN]
  by_cases h : t = u
  ·subst h
   rw [if_pos rfl]
   simp only [getN]
   by_cases h2 : s = t <;> simp [h2]
  ·rw [if_neg h]
   simp only [getN, getN_updN s t k N]
   by_cases h2 : s = u
   ·subst h2
    rw [if_pos rfl, if_neg (fun e => h e.symm), if_pos rfl]
   ·rw [if_neg h2]
    by_cases h3 : s = t <;> simp [h3, h2]
theorem esdGo_inv : ∀ (l : List Esd) (S S' : List (Int × Esd)) (N N' : List (List UInt8 × Int)) (nx nx' : Int), zw8 l S N nx = some (S', N', nx') → 1 ≤ nx → nx + l.length ≤ 3000 → SOk S → (∀ i y, getS i S = some y → 1 ≤ i ∧ i ≤ 3000) → (∀ s k, getN s N = some k → s.length ≤ 8) →
  SOk S' ∧ (∀ i y, getS i S' = some y → 1 ≤ i ∧ i ≤ 3000) ∧ (∀ s k, getN s N' = some k → s.length ≤ 8) ∧ nx ≤ nx' ∧ nx' ≤ nx + l.length ∧ ∀ x ∈ l, EV x
 | [], S, S', N, N', nx, nx', h, h1, h2, hS, hi, hn => by
  simp only [zw8, Option.some.injEq, Prod.mk.injEq] at h
  obtain ⟨rfl, rfl, rfl⟩ := h
  exact ⟨hS, hi, hn, by omega, by simp, by simp⟩
 | x :: l, S, S', N, N', nx, nx', h, h1, h2, hS, hi, hn => by
  rw [zw8] at h
  simp only [List.length_cons] at h2
  split at h
  ·rename_i hr
   split at h
   ·cases h
   ·have hev := ruleM_EV hr h1 (by omega)
    have hbd : nx ≤ nx1 nx x ∧ nx1 nx x ≤ nx + 1 := by unfold nx1; split <;> omega
    have := esdGo_inv l (S1 S x) S' (N1 N x) N' (nx1 nx x) nx' h (by omega) (by omega) (SOk_S1 hS hr) (fun i y hy => by
     unfold S1 at hy
     split at hy
     ·rename_i hk
      rw [getS_updS] at hy
      split at hy
      ·rename_i he
       rcases hev.2 with ⟨_, a1, a2, _⟩ | ⟨a, _⟩
       ·omega
       ·omega
      ·exact hi i y hy
     ·exact hi i y hy) (fun s k hs => by
     unfold N1 at hs
     rw [getN_updN] at hs
     split at hs
     ·rename_i he
      rw [he]; exact hev.1
     ·exact hn s k hs)
    obtain ⟨b1, b2, b3, b4, b5, b6⟩ := this
    refine ⟨b1, b2, b3, by omega, by simp only [List.length_cons]; omega, ?_⟩
    intro y hy
    rcases List.mem_cons.1 hy with rfl | hy
    ·exact hev
    ·exact b6 y hy
  ·cases h
structure OOk (o : OMod) : Prop where
 es : ∀ x ∈ o.esd, EOk x
 ts : ∀ t ∈ o.txt, 0 ≤ t.id ∧ t.id ≤ 1000000 ∧ 0 ≤ t.addr ∧ t.addr ≤ 1000000 ∧ 1 ≤ t.data.length ∧ t.data.length ≤ 56
 rs : ∀ r ∈ o.rld, ROk r
 en : o.entry.length ≤ 8
 ne : o.esd ≠ []
 l1 : o.esd.length ≤ 2048
 l2 : o.txt.length ≤ 2048
 l3 : o.rld.length ≤ 2048
theorem liesM_inv {S : List (Int × Esd)} {id at_ n : Int} (h : liesM S id at_ n = true) (hS : SOk S) (hi : ∀ i y, getS i S = some y → 1 ≤ i ∧ i ≤ 3000) : 1 ≤ id ∧ id ≤ 3000 ∧ 0 ≤ at_ ∧ at_ ≤ 200000 := by
 unfold liesM at h
 split at h
 ·rename_i x hx
  simp only [liesX, Bool.and_eq_true, decide_eq_true_eq] at h
  have h1 := hS id x hx
  have h2 := hi id x hx
  omega
 ·cases h
theorem chkM_ok {o : OMod} (h : chkM o = true) : OOk o := by
 unfold chkM at h
 simp only [Bool.and_eq_true, Bool.not_eq_true'] at h
 obtain ⟨hbig, hB, hR⟩ := h
 simp only [bigB, Bool.or_eq_false_iff, decide_eq_false_iff_not] at hbig
 obtain ⟨l1, l2, l3⟩ := hbig
 cases hg : zw8 o.esd [] [] 1 with
 | none => rw [hg] at hR; cases hR
 | some g =>
  obtain ⟨S, N, nx⟩ := g
  rw [hg] at hR hB
  have hinv := esdGo_inv o.esd [] S [] N 1 nx hg (by omega) (by omega) (fun i x h => by simp [getS] at h) (fun i y h => by simp [getS] at h) (fun s k h => by simp [getN] at h)
  obtain ⟨hS, hi, hn, n1, n2, hev⟩ := hinv
  simp only [restM, Bool.and_eq_true, Bool.not_eq_true', List.all_eq_true] at hR
  obtain ⟨hT, hRl, hE⟩ := hR
  simp only [esdB, Bool.and_eq_true, List.all_eq_true, decide_eq_true_eq] at hB
  obtain ⟨hent, hpos⟩ := hB
  refine ⟨fun x hx => ?_, fun t ht => ?_, fun r hr => ?_, ?_, ?_, by omega, by omega, by omega⟩
  ·obtain ⟨e1, e2⟩ := hev x hx
   have hc := codeL_len x.name
   rcases e2 with ⟨_, a1, a2, a3, a4, a5, a6⟩ | ⟨hk, hl⟩
   ·exact ⟨by omega, by omega, by omega, by omega, by omega, by omega, by omega, by omega⟩
   ·have he := hent x hx
    simp only [ent1, hk, Bool.or_eq_true, Bool.not_eq_true', decide_eq_false_iff_not] at he
    rcases he with he | he
    ·simp at he
    ·have := liesM_inv he hS hi
     exact ⟨by omega, by omega, by omega, by omega, by omega, by omega, by omega, by omega⟩
  ·have h1 := hT t ht
   simp only [txB, Bool.or_eq_false_iff, decide_eq_false_iff_not, Bool.not_eq_false'] at h1
   obtain ⟨a1, a2, a3⟩ := h1
   have := liesM_inv a3 hS hi
   exact ⟨by omega, by omega, by omega, by omega, by omega, by omega⟩
  ·have h1 := hRl r hr
   simp only [rdB, Bool.or_eq_false_iff, decide_eq_false_iff_not, Bool.not_eq_false'] at h1
   obtain ⟨a1, a2, a3, a4, a5⟩ := h1
   have := liesM_inv a5 hS hi
   exact ⟨by omega, by omega, by omega, by omega, by omega, by omega, by omega, by omega⟩
  ·unfold entB at hE
   by_cases h0 : o.entry = []
   ·simp [h0]
   ·have h0b : (o.entry == []) = false := by simpa using h0
    rw [h0b] at hE
    simp only [Bool.not_false, Bool.true_and, Bool.or_eq_false_iff, Bool.not_eq_false'] at hE
    obtain ⟨k, hk⟩ := Option.isSome_iff_exists.1 hE.1
    exact hn _ _ hk
  ·rintro he
   rw [he] at hg
   simp only [zw8, Option.some.injEq, Prod.mk.injEq] at hg
   rw [← hg.1] at hpos
   simp at hpos
end Go.AM
namespace Go.AM
open Go.RowKit Go.Proofs
set_option linter.unusedSimpArgs false
set_option linter.unusedVariables false
set_option maxHeartbeats 8000000
def zj8 (t : Txt) : List UInt8 := putM (putM (putM (putM (vv9 wt8) 5 (numM 3 t.addr.toNat)) 10 (numM 2 t.data.length)) 14 (numM 2 t.id.toNat)) 16 t.data
def cardN (e : List UInt8) : List UInt8 := putM (vv9 vt8) 16 (wr9 e)
def egoE (l : List Esd) : Nat → Nat → List (List UInt8)
 | 0, _ => []
 | f + 1, i => if i < l.length then zb7 ((l.drop i).take 3) :: egoE l f (i + 3) else []
def egoR (l : List Rld) : Nat → Nat → List (List UInt8)
 | 0, _ => []
 | f + 1, i => if i < l.length then cardR ((l.drop i).take 7) :: egoR l f (i + 7) else []
theorem egoE_end {l : List Esd} : ∀ (f i : Nat), l.length ≤ i → egoE l f i = []
 | 0, i, h => rfl
 | f + 1, i, h => by rw [egoE, if_neg (by omega)]
theorem egoR_end {l : List Rld} : ∀ (f i : Nat), l.length ≤ i → egoR l f i = []
 | 0, i, h => rfl
 | f + 1, i, h => by rw [egoR, if_neg (by omega)]
def encO (o : OMod) : List (List UInt8) := egoE o.esd o.esd.length 0 ++ (o.txt.map zj8 ++ (egoR o.rld o.rld.length 0 ++ [cardN o.entry]))
def encOR (o : OMod) : AV := if chkM o = true then .tup [.lst .any 1 (bbL (encO o)), .v (.int .i64 0)] else .tup [.lst .nil 1 [], .v (.int .i64 310)]
theorem esL_take (l : List Esd) (n : Nat) : esL (l.take n) = (esL l).take n := by simp [esL]
theorem esL_drop (l : List Esd) (n : Nat) : esL (l.drop n) = (esL l).drop n := by simp [esL]
theorem rdL_take (l : List Rld) (n : Nat) : rdL (l.take n) = (rdL l).take n := by simp [rdL]
theorem rdL_drop (l : List Rld) (n : Nat) : rdL (l.drop n) = (rdL l).drop n := by simp [rdL]
theorem esd_all (o : OMod) (hk : OOk o) (R0 R1 : List (List UInt8)) (hR1 : R0 ++ egoE o.esd o.esd.length 0 = R1) (hR0 : R0.length ≤ 6000) (h00 : R0 = []) :
  wn9 Try.prog 81 [.yld 4, .loc 2 0, .loc 3 0] [.cells 26 (obC o), .cells 47 [.lst (.nil) 1 (bbL (R0))], .cells 22 [.lst .any 5 (esL o.esd)], .cells 3 [.v (.int .i64 (3 : Nat))], .loop 176 [(1, .loc 0 0), (4, .loc 1 0), (30, .fn (.func 81) [] [.loc 2 0, .loc 3 0])] [31, 32] (rfAn Try.f19 0) (rfBn Try.f19 0) .ready] (fun _ h' => R1.length ≤ R0.length + 3000 ∧ h' = [.cells 26 (obC o), .cells 47 [.lst (.tip 27 147) 1 (bbL (R1))], .cells 22 [.lst .any 5 (esL o.esd)], .cells 3 [.v (.int .i64 (3 : Nat))], .loop 176 [(1, .loc 0 0), (4, .loc 1 0), (30, .fn (.func 81) [] [.loc 2 0, .loc 3 0])] [31, 32] (rfAn Try.f19 0) (rfBn Try.f19 0) .ready]) := by
 have hll := hk.l1
 refine zk9 Try.func81 rfl (by decide +kernel) (by simp [Try.f81]) (rs := []) rfl ?_
 rw [show Try.f81.ntmps = 25 from rfl]
 refine yt9 [0, 1, 2, 4] (by simp; rfl) ?_
 refine yf9 ?_
 refine zn9 (fun k σ => ∃ (i f : Nat) (acc : List (List UInt8)) (fl : Fl), k = o.esd.length - i ∧ o.esd.length ≤ i + f ∧ i ≤ o.esd.length + 3 ∧ acc ++ egoE o.esd f i = R1 ∧ acc.length ≤ R0.length + i ∧ ((i = 0 ∧ fl = .nil ∧ acc = []) ∨ (0 < i ∧ fl = .tip 27 147)) ∧ σ = ⟨25, [(0, .yld 4), (1, .loc 2 0), (2, .loc 3 0), (4, .v (.int .i64 (i : Nat)))], [.cells 26 (obC o), .cells 47 [.lst (fl) 1 (bbL (acc))], .cells 22 [.lst .any 5 (esL o.esd)], .cells 3 [.v (.int .i64 (3 : Nat))], .loop 176 [(1, .loc 0 0), (4, .loc 1 0), (30, .fn (.func 81) [] [.loc 2 0, .loc 3 0])] [31, 32] (rfAn Try.f19 0) (rfBn Try.f19 0) .ready]⟩) (k := o.esd.length) ⟨0, o.esd.length, R0, .nil, rfl, by omega, by omega, hR1, by simp, .inl ⟨rfl, rfl, h00⟩, ?_⟩ ?_
 ·simp
 rintro k σ ⟨i, f, acc, fl, rfl, hf, hi, hgo, hal, hfl, rfl⟩
 refine yk9 ?_
 by_cases c : i < o.esd.length
 ·have ci : (i : Int) < o.esd.length := by omega
  have wi := w64 (n := (i : Int) + 3) (by omega) (by omega)
  cases f with
  | zero => omega
  | succ f =>
  rw [egoE, if_pos c] at hgo
  obtain ⟨e, he⟩ : ∃ e, min (i + 3) o.esd.length = e := ⟨_, rfl⟩
  have hmin : (if (o.esd.length : Int) < (i : Int) + 3 then (o.esd.length : Int) else (i : Int) + 3) = (e : Nat) := by split <;> omega
  have hdt : (o.esd.take e).drop i = (o.esd.drop i).take 3 := by rw [← he]; exact dropmin _ _ _
  have e1 : i ≤ e := by omega
  have e2 : e ≤ o.esd.length := by omega
  have e1' : (i : Int) ≤ (e : Nat) := by omega
  have e2' : ((e : Nat) : Int) ≤ o.esd.length := by omega
  obtain ⟨G, hG⟩ : ∃ G, (o.esd.drop i).take 3 = G := ⟨_, rfl⟩
  have hGl : G.length ≤ 3 := by rw [← hG, List.length_take]; omega
  have hGm : ∀ x ∈ G, EOk x := fun x hx => hk.es x (by rw [← hG] at hx; exact List.mem_of_mem_drop (List.mem_of_mem_take hx))
  rw [hG] at hdt hgo
  rcases hfl with ⟨hi0, rfl, rfl⟩ | ⟨_, rfl⟩
  ·refine yt9 [0, 1, 2, 4, 8] (by simp [c]; rfl) ?_
   refine yd9 rfl (fun h => ?_) (fun h => by simp [c] at h)
   refine yh9 ?_
   refine yk9 ?_
   refine yf9 ?_
   refine W_rK [0, 1, 2, 4, 24] ?_
   refine yq9 6 (by simp [wi]; rfl) rfl ?_
   refine yq9 4 (by simp [wi, hmin]; rfl) rfl ?_
   refine yq9 1 (by simp [e1, e2, e1', e2']; rfl) rfl ?_
   rw [← esL_take, ← esL_drop, hdt]
   refine runA_y (by simp) ?_
   unfold callY
   dsimp only
   refine ⟨4, 176, _, _, _, _, [.v (.int .i64 (i : Nat)), .lst .any 5 (esL G)], by simp, rfl, by simp, by simp, by simp, by simp, ?_⟩
   refine (show Wt _ _ _ _ _ _ from ?_)
   refine zs9 [1, 4, 6] (by simp [setF]; rfl) ?_
   refine ⟨rfl, _, _, _, _, _, rfl, ?_⟩
   refine esd_round (by simp) o o.esd G hGl hGm [] (by simp) .nil (.inl ⟨rfl, rfl⟩) fun X Y => ?_
   refine ⟨176, _, _, _, _, .ready, true, 5, rfl, rfl, by simp, by simp, ?_, ?_⟩
   ·simp [yg9, yn9, AObj.under, AV.under, AV.underL, zd9]
   refine ⟨_, by simp; rfl, ?_⟩
   refine yr9 (by simp; rfl) ?_
   refine yd9 rfl (fun h => by simp at h) (fun h => ?_)
   refine yh9 ?_
   refine zs9 [0, 1, 2, 4] (by simp [wi]; rfl) ?_
   refine ⟨_, by omega, i + 3, f, [] ++ [zb7 G], .tip 27 147, rfl, by omega, by omega, by simpa using hgo, by simp; omega, .inr ⟨by omega, rfl⟩, by simp⟩
  ·refine yt9 [0, 1, 2, 4, 8] (by simp [c]; rfl) ?_
   refine yd9 rfl (fun h => ?_) (fun h => by simp [c] at h)
   refine yh9 ?_
   refine yk9 ?_
   refine yf9 ?_
   refine W_rK [0, 1, 2, 4, 24] ?_
   refine yq9 6 (by simp [wi]; rfl) rfl ?_
   refine yq9 4 (by simp [wi, hmin]; rfl) rfl ?_
   refine yq9 1 (by simp [e1, e2, e1', e2']; rfl) rfl ?_
   rw [← esL_take, ← esL_drop, hdt]
   refine runA_y (by simp) ?_
   unfold callY
   dsimp only
   refine ⟨4, 176, _, _, _, _, [.v (.int .i64 (i : Nat)), .lst .any 5 (esL G)], by simp, rfl, by simp, by simp, by simp, by simp, ?_⟩
   refine (show Wt _ _ _ _ _ _ from ?_)
   refine zs9 [1, 4, 6] (by simp [setF]; rfl) ?_
   refine ⟨rfl, _, _, _, _, _, rfl, ?_⟩
   refine esd_round (by simp) o o.esd G hGl hGm acc (by omega) _ (.inr rfl) fun X Y => ?_
   refine ⟨176, _, _, _, _, .ready, true, 5, rfl, rfl, by simp, by simp, ?_, ?_⟩
   ·simp [yg9, yn9, AObj.under, AV.under, AV.underL, zd9]
   refine ⟨_, by simp; rfl, ?_⟩
   refine yr9 (by simp; rfl) ?_
   refine yd9 rfl (fun h => by simp at h) (fun h => ?_)
   refine yh9 ?_
   refine zs9 [0, 1, 2, 4] (by simp [wi]; rfl) ?_
   refine ⟨_, by omega, i + 3, f, acc ++ [zb7 G], .tip 27 147, rfl, by omega, by omega, by simpa using hgo, by simp; omega, .inr ⟨by omega, rfl⟩, by simp⟩
 rcases hfl with ⟨hi0, _, _⟩ | ⟨_, rfl⟩
 ·exact absurd (List.eq_nil_of_length_eq_zero (by omega)) hk.ne
 rw [egoE_end _ _ (by omega), List.append_nil] at hgo
 subst hgo
 refine yt9 [0, 1, 2, 4, 8] (by simp [c]; rfl) ?_
 refine yd9 rfl (fun h => by simp [c] at h) (fun h => ?_)
 refine zh9 ?_
 refine ⟨.inl rfl, .tup [], .tup [], _, 5, rfl, .inl ⟨rfl, rfl⟩, by simp, by simp, rfl, ?_, ?_⟩
 ·simp [yg9, yn9, AObj.under, AV.under, AV.underL, zd9]
 ·exact ⟨by omega, by simp⟩
theorem rld_all (o : OMod) (hk : OOk o) (R0 R1 : List (List UInt8)) (hR1 : R0 ++ egoR o.rld o.rld.length 0 = R1) (hR0 : R0.length ≤ 6000) :
  wn9 Try.prog 84 [.yld 4, .loc 2 0, .loc 3 0] [.cells 26 (obC o), .cells 47 [.lst (.tip 27 147) 1 (bbL (R0))], .cells 24 [.lst .any 5 (rdL o.rld)], .cells 3 [.v (.int .i64 (7 : Nat))], .loop 176 [(1, .loc 0 0), (4, .loc 1 0), (112, .fn (.func 84) [] [.loc 2 0, .loc 3 0])] [113, 114] (rfAn Try.f19 1) (rfBn Try.f19 1) .ready] (fun _ h' => R1.length ≤ R0.length + 3000 ∧ h' = [.cells 26 (obC o), .cells 47 [.lst (.tip 27 147) 1 (bbL (R1))], .cells 24 [.lst .any 5 (rdL o.rld)], .cells 3 [.v (.int .i64 (7 : Nat))], .loop 176 [(1, .loc 0 0), (4, .loc 1 0), (112, .fn (.func 84) [] [.loc 2 0, .loc 3 0])] [113, 114] (rfAn Try.f19 1) (rfBn Try.f19 1) .ready]) := by
 have hll := hk.l3
 refine zk9 Try.func84 rfl (by decide +kernel) (by simp [Try.f84]) (rs := []) rfl ?_
 rw [show Try.f84.ntmps = 25 from rfl]
 refine yt9 [0, 1, 2, 4] (by simp; rfl) ?_
 refine yf9 ?_
 refine zn9 (fun k σ => ∃ (i f : Nat) (acc : List (List UInt8)), k = o.rld.length - i ∧ o.rld.length ≤ i + f ∧ i ≤ o.rld.length + 7 ∧ acc ++ egoR o.rld f i = R1 ∧ acc.length ≤ R0.length + i ∧ σ = ⟨25, [(0, .yld 4), (1, .loc 2 0), (2, .loc 3 0), (4, .v (.int .i64 (i : Nat)))], [.cells 26 (obC o), .cells 47 [.lst (.tip 27 147) 1 (bbL (acc))], .cells 24 [.lst .any 5 (rdL o.rld)], .cells 3 [.v (.int .i64 (7 : Nat))], .loop 176 [(1, .loc 0 0), (4, .loc 1 0), (112, .fn (.func 84) [] [.loc 2 0, .loc 3 0])] [113, 114] (rfAn Try.f19 1) (rfBn Try.f19 1) .ready]⟩) (k := o.rld.length) ⟨0, o.rld.length, R0, rfl, by omega, by omega, hR1, by simp, ?_⟩ ?_
 ·simp
 rintro k σ ⟨i, f, acc, rfl, hf, hi, hgo, hal, rfl⟩
 refine yk9 ?_
 by_cases c : i < o.rld.length
 ·have ci : (i : Int) < o.rld.length := by omega
  have wi := w64 (n := (i : Int) + 7) (by omega) (by omega)
  cases f with
  | zero => omega
  | succ f =>
  rw [egoR, if_pos c] at hgo
  obtain ⟨e, he⟩ : ∃ e, min (i + 7) o.rld.length = e := ⟨_, rfl⟩
  have hmin : (if (o.rld.length : Int) < (i : Int) + 7 then (o.rld.length : Int) else (i : Int) + 7) = (e : Nat) := by split <;> omega
  have hdt : (o.rld.take e).drop i = (o.rld.drop i).take 7 := by rw [← he]; exact dropmin _ _ _
  have e1 : i ≤ e := by omega
  have e2 : e ≤ o.rld.length := by omega
  have e1' : (i : Int) ≤ (e : Nat) := by omega
  have e2' : ((e : Nat) : Int) ≤ o.rld.length := by omega
  obtain ⟨G, hG⟩ : ∃ G, (o.rld.drop i).take 7 = G := ⟨_, rfl⟩
  have hGl : G.length ≤ 7 := by rw [← hG, List.length_take]; omega
  have hGm : ∀ x ∈ G, ROk x := fun x hx => hk.rs x (by rw [← hG] at hx; exact List.mem_of_mem_drop (List.mem_of_mem_take hx))
  rw [hG] at hdt hgo
  refine yt9 [0, 1, 2, 4, 8] (by simp [c]; rfl) ?_
  refine yd9 rfl (fun h => ?_) (fun h => by simp [c] at h)
  refine yh9 ?_
  refine yk9 ?_
  refine yf9 ?_
  refine W_rK [0, 1, 2, 4, 24] ?_
  refine yq9 6 (by simp [wi]; rfl) rfl ?_
  refine yq9 4 (by simp [wi, hmin]; rfl) rfl ?_
  refine yq9 1 (by simp [e1, e2, e1', e2']; rfl) rfl ?_
  rw [← rdL_take, ← rdL_drop, hdt]
  refine runA_y (by simp) ?_
  unfold callY
  dsimp only
  refine ⟨4, 176, _, _, _, _, [.v (.int .i64 (i : Nat)), .lst .any 5 (rdL G)], by simp, rfl, by simp, by simp, by simp, by simp, ?_⟩
  refine (show Wt _ _ _ _ _ _ from ?_)
  refine zs9 [1, 4, 17] (by simp [setF]; rfl) ?_
  refine ⟨rfl, _, _, _, _, _, rfl, ?_⟩
  refine rld_round (by simp) o o.rld G hGl hGm acc (by omega)  fun X Y => ?_
  refine ⟨176, _, _, _, _, .ready, true, 5, rfl, rfl, by simp, by simp, ?_, ?_⟩
  ·simp [yg9, yn9, AObj.under, AV.under, AV.underL, zd9]
  refine ⟨_, by simp; rfl, ?_⟩
  refine yr9 (by simp; rfl) ?_
  refine yd9 rfl (fun h => by simp at h) (fun h => ?_)
  refine yh9 ?_
  refine zs9 [0, 1, 2, 4] (by simp [wi]; rfl) ?_
  refine ⟨_, by omega, i + 7, f, acc ++ [cardR G], rfl, by omega, by omega, by simpa using hgo, by simp; omega, by simp⟩
 rw [egoR_end _ _ (by omega), List.append_nil] at hgo
 subst hgo
 refine yt9 [0, 1, 2, 4, 8] (by simp [c]; rfl) ?_
 refine yd9 rfl (fun h => by simp [c] at h) (fun h => ?_)
 refine zh9 ?_
 refine ⟨.inl rfl, .tup [], .tup [], _, 5, rfl, .inl ⟨rfl, rfl⟩, by simp, by simp, rfl, ?_, ?_⟩
 ·simp [yg9, yn9, AObj.under, AV.under, AV.underL, zd9]
 ·exact ⟨by omega, by simp⟩
end Go.AM
