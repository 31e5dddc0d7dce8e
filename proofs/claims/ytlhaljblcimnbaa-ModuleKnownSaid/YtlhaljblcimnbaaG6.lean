/- Parts of the walk: C31Z C31OA C31EA C31EB C31EC. -/
import Derived.Test.YtlhaljblcimnbaaG5
namespace Go.AM
open Go.RowKit Go.Proofs
set_option linter.unusedSimpArgs false
set_option linter.unusedVariables false
set_option maxHeartbeats 4000000
structure Txt where
 id : Int
 addr : Int
 data : List UInt8
structure Rld where
 in_ : Int
 to_ : Int
 addr : Int
 len : Int
 neg : Bool
structure OMod where
 esd : List Esd
 txt : List Txt
 rld : List Rld
 entry : List UInt8
@[simp] def txA (t : Txt) : AV := .agg [.v (.int .i64 t.id), .v (.int .i64 t.addr), .lst .any 1 (byL t.data)]
def txC (t : Txt) : List AV := [.v (.int .i64 t.id), .v (.int .i64 t.addr), .lst .any 1 (byL t.data)]
@[simp] def rdA (r : Rld) : AV := .agg [.v (.int .i64 r.in_), .v (.int .i64 r.to_), .v (.int .i64 r.addr), .v (.int .i64 r.len), .v (.bool r.neg)]
def rdC (r : Rld) : List AV := [.v (.int .i64 r.in_), .v (.int .i64 r.to_), .v (.int .i64 r.addr), .v (.int .i64 r.len), .v (.bool r.neg)]
def txL (l : List Txt) : List AV := l.map txA
@[simp] theorem txL_length (l : List Txt) : (txL l).length = l.length := by simp [txL]
@[simp] theorem txL_getElem (l : List Txt) (i : Nat) (h : i < (txL l).length) : (txL l)[i] = txA (l[i]'(by simpa using h)) := by simp [txL]
@[simp] theorem dpL_txL (l : List Txt) : AV.dpL (txL l) = txL l := by induction l <;> simp_all [txL, AV.dpL, AV.dp]
def rdL (l : List Rld) : List AV := l.map rdA
@[simp] theorem rdL_length (l : List Rld) : (rdL l).length = l.length := by simp [rdL]
@[simp] theorem rdL_getElem (l : List Rld) (i : Nat) (h : i < (rdL l).length) : (rdL l)[i] = rdA (l[i]'(by simpa using h)) := by simp [rdL]
@[simp] theorem dpL_rdL (l : List Rld) : AV.dpL (rdL l) = rdL l := by induction l <;> simp_all [rdL, AV.dpL, AV.dp]
def obC (o : OMod) : List AV := [.lst .any 5 (esL o.esd), .lst .any 3 (txL o.txt), .lst .any 5 (rdL o.rld), strB o.entry]
@[simp] def obA (o : OMod) : AV := .agg [.lst .any 5 (esL o.esd), .lst .any 3 (txL o.txt), .lst .any 5 (rdL o.rld), strB o.entry]
theorem yv9 (m : Nat) (o : OMod) : AV.underL m (obC o) = true := by simp [obC, AV.underL, AV.under, strB]
def txB (S : List (Int × Esd)) (t : Txt) : Bool := decide (t.data.length < 1) || (decide (56 < t.data.length) || !liesM S t.id t.addr t.data.length)
def rdB (S : List (Int × Esd)) (nx : Int) (r : Rld) : Bool := decide (r.len < 1) || (decide (4 < r.len) || (decide (r.to_ < 1) || (decide (nx ≤ r.to_) || !liesM S r.in_ r.addr r.len)))
def bigB (o : OMod) : Bool := decide (2048 < o.esd.length) || (decide (2048 < o.txt.length) || decide (2048 < o.rld.length))
def entB (N : List (List UInt8 × Int)) (e : List UInt8) : Bool := !(e == []) && (!(getN e N).isSome || (getN e N).getD 0 == 3)
def restM (o : OMod) : Option (List (Int × Esd) × List (List UInt8 × Int) × Int) → Bool
 | none => false
 | some (S, N, nx) => o.txt.all (fun t => !txB S t) && (o.rld.all (fun r => !rdB S nx r) && !entB N o.entry)
def chkM (o : OMod) : Bool := !bigB o && (esdB o.esd (yh8 o.esd [] [] 1) && restM o (yh8 o.esd [] [] 1))
structure OIn (o : OMod) : Prop where
 e : ∀ x ∈ o.esd, x.name.length ≤ 9223372036854775807 ∧ i64r x.addr
 t : ∀ x ∈ o.txt, i64r x.addr ∧ x.data.length ≤ 140737488355328
 r : ∀ x ∈ o.rld, i64r x.addr
theorem wn8 (o : OMod) (ho : OIn o) : Sound Try.prog 32 [obA o] (.v (.int .i64 (if chkM o = true then 0 else 310))) := by
 refine zj9 Try.func32 rfl (by decide +kernel) (by simp [Try.f32, strB]) (by simp [AV.rfL, AV.rf, strB]) (by simp [AV.tlL, AV.tl, strB]) (rs := [.tmp 2]) rfl ?_
 rw [show Try.f32.ntmps = 129 from rfl]
 obtain ⟨he, ht, hr⟩ := ho
 refine yt9 [1] (by simp; rfl) ?_
 refine yt9 [1, 3] (by simp; rfl) ?_
 obtain ⟨G, hG⟩ : ∃ G, yh8 o.esd [] [] 1 = G := ⟨_, rfl⟩
 refine wm8 (fun σ => ∃ S N nx, bigB o = false ∧ G = some (S, N, nx) ∧ esdB o.esd G = true ∧ SOk S ∧ 1 ≤ nx ∧ nx ≤ 3000 ∧ σ = ⟨129, [(1, .loc 0 0), (3, .loc 3 0)], HC S N nx (obC o) []⟩) ?_ ?_
 ·by_cases c1 : 2048 < o.esd.length
  ·have c1a : 2048 < o.esd.length := c1
   have c1b : (2048 : Int) < (o.esd.length : Nat) := by omega
   refine W_rK [1, 3, 36] ?_
   refine yq9 6 (by simp [obC, c1a, c1b]; rfl) rfl ?_
   refine yq9 6 (by simp [obC, c1a, c1b]; rfl) rfl ?_
   refine yq9 8 (by simp [obC, c1a, c1b]; rfl) rfl ?_
   refine yr9 (by simp; rfl) ?_
   refine yd9 rfl (fun h => ?_) (fun h => by simp at h)
   refine yt9 [2] (by simp; rfl) ?_
   refine zp9 ?_
   repeat (first | refine yh9 ?_ | refine yj9 ?_)
   simp [retQ, chkM, bigB, c1a, c1b]
  have c1a : ¬ 2048 < o.esd.length := c1
  have c1b : ¬ (2048 : Int) < (o.esd.length : Nat) := by omega
  have c1c : o.esd.length ≤ 2048 := by omega
  by_cases c2 : 2048 < o.txt.length
  ·have c2a : 2048 < o.txt.length := c2
   have c2b : (2048 : Int) < (o.txt.length : Nat) := by omega
   refine W_rK [1, 3, 36] ?_
   refine yq9 6 (by simp [obC, c1a, c1b, c1c, c2a, c2b]; rfl) rfl ?_
   refine yq9 6 (by simp [obC, c1a, c1b, c1c, c2a, c2b]; rfl) rfl ?_
   refine yq9 8 (by simp [obC, c1a, c1b, c1c, c2a, c2b]; rfl) rfl ?_
   refine yr9 (by simp; rfl) ?_
   refine yd9 rfl (fun h => ?_) (fun h => by simp at h)
   refine yt9 [2] (by simp; rfl) ?_
   refine zp9 ?_
   repeat (first | refine yh9 ?_ | refine yj9 ?_)
   simp [retQ, chkM, bigB, c1a, c1b, c1c, c2a, c2b]
  have c2a : ¬ 2048 < o.txt.length := c2
  have c2b : ¬ (2048 : Int) < (o.txt.length : Nat) := by omega
  have c2c : o.txt.length ≤ 2048 := by omega
  by_cases c3 : 2048 < o.rld.length
  ·have c3a : 2048 < o.rld.length := c3
   have c3b : (2048 : Int) < (o.rld.length : Nat) := by omega
   refine W_rK [1, 3, 36] ?_
   refine yq9 6 (by simp [obC, c1a, c1b, c1c, c2a, c2b, c2c, c3a, c3b]; rfl) rfl ?_
   refine yq9 6 (by simp [obC, c1a, c1b, c1c, c2a, c2b, c2c, c3a, c3b]; rfl) rfl ?_
   refine yq9 8 (by simp [obC, c1a, c1b, c1c, c2a, c2b, c2c, c3a, c3b]; rfl) rfl ?_
   refine yr9 (by simp; rfl) ?_
   refine yd9 rfl (fun h => ?_) (fun h => by simp at h)
   refine yt9 [2] (by simp; rfl) ?_
   refine zp9 ?_
   repeat (first | refine yh9 ?_ | refine yj9 ?_)
   simp [retQ, chkM, bigB, c1a, c1b, c1c, c2a, c2b, c2c, c3a, c3b]
  have c3a : ¬ 2048 < o.rld.length := c3
  have c3b : ¬ (2048 : Int) < (o.rld.length : Nat) := by omega
  have c3c : o.rld.length ≤ 2048 := by omega
  refine W_rK [1, 3, 36] ?_
  refine yq9 6 (by simp [obC, c1a, c1b, c1c, c2a, c2b, c2c, c3a, c3b, c3c]; rfl) rfl ?_
  refine yq9 6 (by simp [obC, c1a, c1b, c1c, c2a, c2b, c2c, c3a, c3b, c3c]; rfl) rfl ?_
  refine yq9 8 (by simp [obC, c1a, c1b, c1c, c2a, c2b, c2c, c3a, c3b, c3c]; rfl) rfl ?_
  have hesd := esds_callW o.esd (obC o) (yv9 _ _) (by omega) he
  have hbig : bigB o = false := by simp [bigB, c1a, c1b, c1c, c2a, c2b, c2c, c3a, c3b, c3c]
  rw [hG] at hesd
  refine zw9 (f := 67) (args := [.loc 3 0, .lst .any 5 (esL o.esd)]) (by simp) (by simp [yl9, yb9, obC]) ((show xl9 Try.prog 67 [.loc 3 0, .lst .any 5 (esL o.esd)] (HC [] [] 1 (obC o) []) _ from hesd).mono ?_)
  rintro _ _ ⟨S, N, nx, rfl, rfl, hS, hn1, hn2, hGe⟩
  refine ⟨_, by simp; rfl, ?_⟩
  refine yr9 (by simp; rfl) ?_
  by_cases hB : esdB o.esd G = true
  ·refine yd9 (t := false) (by simp [hB]) (fun h => by simp at h) (fun h => ?_)
   refine zc9 [1, 3] ?_
   refine yc9 ?_
   exact ⟨S, N, nx, hbig, hGe hB, hB, hS, hn1, hn2, by simp⟩
  ·have hBf : esdB o.esd G = false := by simpa using hB
   refine yd9 (t := true) (by simp [hBf]) (fun h => ?_) (fun h => by simp at h)
   refine yt9 [2] (by simp; rfl) ?_
   refine zp9 ?_
   repeat (first | refine yh9 ?_ | refine yj9 ?_)
   simp [retQ, chkM, hG, hBf]
 rintro _ ⟨S, N, nx, hbig, hGe, hB, hS, hn1, hn2, rfl⟩
 have hmod : chkM o = restM o (some (S, N, nx)) := by rw [chkM, hG, hbig, hB, hGe]; simp
 have hbig2 := hbig
 simp only [bigB, Bool.or_eq_false_iff, decide_eq_false_iff_not] at hbig2
 obtain ⟨l1, l2, l3⟩ := hbig2
 refine wm8 (fun σ => o.txt.all (fun t => !txB S t) = true ∧ σ = ⟨129, [(1, .loc 0 0), (3, .loc 3 0)], HC S N nx (obC o) []⟩) ?_ ?_
 ·refine yt9 [1, 3, 38, 39, 40] (by simp [obC]; rfl) ?_
  refine yg9 ?_
  refine xs9 (fun k σ => ∃ (i : Nat), k = o.txt.length - i ∧ i ≤ o.txt.length ∧ o.txt.all (fun t => !txB S t) = (o.txt.drop i).all (fun t => !txB S t) ∧ σ = ⟨129, [(1, .loc 0 0), (3, .loc 3 0), (38, .lst .any 3 (txL o.txt)), (39, .v (.int .i64 (o.txt.length : Nat))), (40, .v (.int .i64 (i : Nat)))], HC S N nx (obC o) []⟩) (k := o.txt.length) ⟨0, rfl, by omega, by simp, by simp [obC]⟩ ?_
  rintro k σ ⟨i, rfl, hi, hall, rfl⟩
  by_cases c : i < o.txt.length
  ·have ci : (i : Int) < o.txt.length := by omega
   obtain ⟨x, hs⟩ : ∃ x, o.txt[i]? = some x := ⟨_, List.getElem?_eq_getElem c⟩
   have hs2 : o.txt[i]'c = x := by rw [List.getElem?_eq_getElem c] at hs; exact Option.some.inj hs
   have hdr : o.txt.drop i = x :: o.txt.drop (i + 1) := by rw [List.drop_eq_getElem_cons c, hs2]
   obtain ⟨hxa, hxd⟩ := ht x (List.mem_of_getElem? hs)
   have wi := w64 (n := (i : Int) + 1) (by omega) (by omega)
   rw [hdr, List.all_cons] at hall
   refine yt9 [1, 3, 38, 39, 40, 41] (by simp [ci]; rfl) ?_
   refine yk9 ?_
   refine yd9 rfl (fun h => ?_) (fun h => by simp [c] at h)
   refine yc9 ?_
   refine yk9 ?_
   refine yg9 ?_
   refine yt9 [1, 3, 38, 39, 40, 5] (by simp [c, ci, hs2, yf9]; rfl) ?_
   have hlies := lies_callW S N nx (obC o) 73 (txC x) x.id x.addr x.data.length hS hxa (yv9 _ _) (by simp [txC, AV.underL, AV.under])
   simp only [txC] at hlies
   refine xg9 (fun σ => σ = ⟨129, [(1, .loc 0 0), (3, .loc 3 0), (38, .lst .any 3 (txL o.txt)), (39, .v (.int .i64 (o.txt.length : Nat))), (40, .v (.int .i64 (i : Nat))), (65, .v (.bool (txB S x)))], HC S N nx (obC o) [.cells 73 (txC x)]⟩) ?_ ?_
   ·by_cases c1 : x.data.length < 1
    ·have c1a : x.data.length < 1 := c1
     have c1b : ((x.data.length : Nat) : Int) < 1 := by omega
     refine W_rE [1, 3, 38, 39, 40, 65] ?_
     refine yq9 6 (by simp [txC, c1a, c1b]; rfl) rfl ?_
     refine yq9 6 (by simp [txC, c1a, c1b]; rfl) rfl ?_
     refine yq9 7 (by simp [txC, c1a, c1b]; rfl) rfl ?_
     refine yr9 (by simp; rfl) ?_
     simp [yp9, txB, txC, AV.weak, c1a, c1b]
    have c1a : ¬ x.data.length < 1 := c1
    have c1b : ¬ ((x.data.length : Nat) : Int) < 1 := by omega
    by_cases c2 : 56 < x.data.length
    ·have c2a : 56 < x.data.length := c2
     have c2b : (56 : Int) < (x.data.length : Nat) := by omega
     refine W_rE [1, 3, 38, 39, 40, 65] ?_
     refine yq9 6 (by simp [txC, c1a, c1b, c2a, c2b]; rfl) rfl ?_
     refine yq9 6 (by simp [txC, c1a, c1b, c2a, c2b]; rfl) rfl ?_
     refine yq9 7 (by simp [txC, c1a, c1b, c2a, c2b]; rfl) rfl ?_
     refine yr9 (by simp; rfl) ?_
     simp [yp9, txB, txC, AV.weak, c1a, c1b, c2a, c2b]
    have c2a : ¬ 56 < x.data.length := c2
    have c2b : ¬ (56 : Int) < (x.data.length : Nat) := by omega
    have c2c : x.data.length ≤ 56 := by omega
    refine W_rE [1, 3, 38, 39, 40, 65] ?_
    refine yq9 6 (by simp [txC, c1a, c1b, c2a, c2b, c2c]; rfl) rfl ?_
    refine yq9 6 (by simp [txC, c1a, c1b, c2a, c2b, c2c]; rfl) rfl ?_
    refine yq9 7 (by simp [txC, c1a, c1b, c2a, c2b, c2c]; rfl) rfl ?_
    refine zw9 (f := 68) (args := [.loc 3 0, .v (.int .i64 x.id), .v (.int .i64 x.addr), .v (.int .i64 (x.data.length : Nat))]) (by simp) (by simp [yl9, yb9]) (hlies.mono ?_)
    rintro _ _ ⟨rfl, rfl⟩
    refine ⟨_, by simp; rfl, ?_⟩
    refine yr9 (by simp; rfl) ?_
    simp [yp9, txB, txC, AV.weak, c1a, c1b, c2a, c2b, c2c]
   rintro _ rfl
   by_cases hx : txB S x = true
   ·refine yd9 (t := true) (by simp [hx]) (fun h => ?_) (fun h => by simp at h)
    refine yt9 [2] (by simp; rfl) ?_
    refine zp9 ?_
    repeat (first | refine yh9 ?_ | refine yj9 ?_)
    have hall2 : o.txt.all (fun t => !txB S t) = false := by rw [hall, hx]; simp
    simp [retQ, hmod, restM, hall2]
   have hxf : txB S x = false := by simpa using hx
   refine yd9 (t := false) (by simp [hxf]) (fun h => by simp at h) (fun h => ?_)
   refine yc9 ?_
   refine vl9 4 (by simp) (by simp) (by simp [yn9, AV.under, AV.underL]) (by simp [ys9, AObj.under, AV.under, AV.underL, yv9, zf9, zg9]) ?_
   refine zl9 [1, 3, 38, 39, 40] (by simp [wi]; rfl) ?_
   exact ⟨_, by omega, i + 1, rfl, by omega, by rw [hall, hxf]; simp, by simp⟩
  have hie : i = o.txt.length := by omega
  rw [hie, List.drop_length, List.all_nil] at hall
  refine yt9 [1, 3, 38, 39, 40, 41] (by simp [c]; rfl) ?_
  refine yk9 ?_
  refine yd9 rfl (fun h => by simp [hie] at h) (fun h => ?_)
  refine zc9 [1, 3] ?_
  refine xr9 ?_
  exact ⟨hall, by simp⟩
 rintro _ ⟨hall1, rfl⟩
 refine wm8 (fun σ => o.rld.all (fun r => !rdB S nx r) = true ∧ σ = ⟨129, [(1, .loc 0 0), (3, .loc 3 0)], HC S N nx (obC o) []⟩) ?_ ?_
 ·refine yt9 [1, 3, 68, 69, 70] (by simp [obC]; rfl) ?_
  refine yg9 ?_
  refine xs9 (fun k σ => ∃ (i : Nat), k = o.rld.length - i ∧ i ≤ o.rld.length ∧ o.rld.all (fun r => !rdB S nx r) = (o.rld.drop i).all (fun r => !rdB S nx r) ∧ σ = ⟨129, [(1, .loc 0 0), (3, .loc 3 0), (68, .lst .any 5 (rdL o.rld)), (69, .v (.int .i64 (o.rld.length : Nat))), (70, .v (.int .i64 (i : Nat)))], HC S N nx (obC o) []⟩) (k := o.rld.length) ⟨0, rfl, by omega, by simp, by simp [obC]⟩ ?_
  rintro k σ ⟨i, rfl, hi, hall, rfl⟩
  by_cases c : i < o.rld.length
  ·have ci : (i : Int) < o.rld.length := by omega
   obtain ⟨x, hs⟩ : ∃ x, o.rld[i]? = some x := ⟨_, List.getElem?_eq_getElem c⟩
   have hs2 : o.rld[i]'c = x := by rw [List.getElem?_eq_getElem c] at hs; exact Option.some.inj hs
   have hdr : o.rld.drop i = x :: o.rld.drop (i + 1) := by rw [List.drop_eq_getElem_cons c, hs2]
   have hxa := hr x (List.mem_of_getElem? hs)
   have wi := w64 (n := (i : Int) + 1) (by omega) (by omega)
   rw [hdr, List.all_cons] at hall
   refine yt9 [1, 3, 68, 69, 70, 71] (by simp [ci]; rfl) ?_
   refine yk9 ?_
   refine yd9 rfl (fun h => ?_) (fun h => by simp [c] at h)
   refine yc9 ?_
   refine yk9 ?_
   refine yg9 ?_
   refine yt9 [1, 3, 68, 69, 70, 7] (by simp [c, ci, hs2, yf9]; rfl) ?_
   have hlies := lies_callW S N nx (obC o) 80 (rdC x) x.in_ x.addr x.len hS hxa (yv9 _ _) (by simp [rdC, AV.underL, AV.under])
   simp only [rdC] at hlies
   refine xg9 (fun σ => σ = ⟨129, [(1, .loc 0 0), (3, .loc 3 0), (68, .lst .any 5 (rdL o.rld)), (69, .v (.int .i64 (o.rld.length : Nat))), (70, .v (.int .i64 (i : Nat))), (106, .v (.bool (rdB S nx x)))], HC S N nx (obC o) [.cells 80 (rdC x)]⟩) ?_ ?_
   ·by_cases c1 : x.len < 1
    ·refine W_rsE 30 [1, 3, 68, 69, 70, 106] mx (by decide +kernel) ?_
     refine yw9 6 (by simp [rdC, c1]; rfl) rfl ?_
     refine yw9 6 (by simp [rdC, c1]; rfl) rfl ?_
     refine yw9 6 (by simp [rdC, c1]; rfl) rfl ?_
     refine yw9 6 (by simp [rdC, c1]; rfl) rfl ?_
     refine zr9 (by simp [rdC, c1]; rfl) ?_
     refine yr9 (by simp; rfl) ?_
     simp [yp9, rdB, rdC, AV.weak, c1]
    by_cases c2 : 4 < x.len
    ·refine W_rsE 30 [1, 3, 68, 69, 70, 106] mx (by decide +kernel) ?_
     refine yw9 6 (by simp [rdC, c1, c2]; rfl) rfl ?_
     refine yw9 6 (by simp [rdC, c1, c2]; rfl) rfl ?_
     refine yw9 6 (by simp [rdC, c1, c2]; rfl) rfl ?_
     refine yw9 6 (by simp [rdC, c1, c2]; rfl) rfl ?_
     refine zr9 (by simp [rdC, c1, c2]; rfl) ?_
     refine yr9 (by simp; rfl) ?_
     simp [yp9, rdB, rdC, AV.weak, c1, c2]
    by_cases c3 : x.to_ < 1
    ·refine W_rsE 30 [1, 3, 68, 69, 70, 106] mx (by decide +kernel) ?_
     refine yw9 6 (by simp [rdC, c1, c2, c3]; rfl) rfl ?_
     refine yw9 6 (by simp [rdC, c1, c2, c3]; rfl) rfl ?_
     refine yw9 6 (by simp [rdC, c1, c2, c3]; rfl) rfl ?_
     refine yw9 6 (by simp [rdC, c1, c2, c3]; rfl) rfl ?_
     refine zr9 (by simp [rdC, c1, c2, c3]; rfl) ?_
     refine yr9 (by simp; rfl) ?_
     simp [yp9, rdB, rdC, AV.weak, c1, c2, c3]
    by_cases c4 : nx ≤ x.to_
    ·refine W_rsE 30 [1, 3, 68, 69, 70, 106] mx (by decide +kernel) ?_
     refine yw9 6 (by simp [rdC, c1, c2, c3, c4]; rfl) rfl ?_
     refine yw9 6 (by simp [rdC, c1, c2, c3, c4]; rfl) rfl ?_
     refine yw9 6 (by simp [rdC, c1, c2, c3, c4]; rfl) rfl ?_
     refine yw9 6 (by simp [rdC, c1, c2, c3, c4]; rfl) rfl ?_
     refine zr9 (by simp [rdC, c1, c2, c3, c4]; rfl) ?_
     refine yr9 (by simp; rfl) ?_
     simp [yp9, rdB, rdC, AV.weak, c1, c2, c3, c4]
    refine W_rsE 30 [1, 3, 68, 69, 70, 106] mx (by decide +kernel) ?_
    refine yw9 6 (by simp [rdC, c1, c2, c3, c4]; rfl) rfl ?_
    refine yw9 6 (by simp [rdC, c1, c2, c3, c4]; rfl) rfl ?_
    refine yw9 6 (by simp [rdC, c1, c2, c3, c4]; rfl) rfl ?_
    refine yw9 6 (by simp [rdC, c1, c2, c3, c4]; rfl) rfl ?_
    refine zr9 (by simp [rdC, c1, c2, c3, c4]; rfl) ?_
    refine zw9 (f := 68) (args := [.loc 3 0, .v (.int .i64 x.in_), .v (.int .i64 x.addr), .v (.int .i64 x.len)]) (by simp) (by simp [yl9, yb9]) (hlies.mono ?_)
    rintro _ _ ⟨rfl, rfl⟩
    refine ⟨_, by simp; rfl, ?_⟩
    refine yr9 (by simp; rfl) ?_
    simp [yp9, rdB, rdC, AV.weak, c1, c2, c3, c4]
   rintro _ rfl
   by_cases hx : rdB S nx x = true
   ·refine yd9 (t := true) (by simp [hx]) (fun h => ?_) (fun h => by simp at h)
    refine yt9 [2] (by simp; rfl) ?_
    refine zp9 ?_
    repeat (first | refine yh9 ?_ | refine yj9 ?_)
    have hall2 : o.rld.all (fun r => !rdB S nx r) = false := by rw [hall, hx]; simp
    simp [retQ, hmod, restM, hall1, hall2]
   have hxf : rdB S nx x = false := by simpa using hx
   refine yd9 (t := false) (by simp [hxf]) (fun h => by simp at h) (fun h => ?_)
   refine yc9 ?_
   refine vl9 4 (by simp) (by simp) (by simp [yn9, AV.under, AV.underL]) (by simp [ys9, AObj.under, AV.under, AV.underL, yv9, zf9, zg9]) ?_
   refine zl9 [1, 3, 68, 69, 70] (by simp [wi]; rfl) ?_
   exact ⟨_, by omega, i + 1, rfl, by omega, by rw [hall, hxf]; simp, by simp⟩
  have hie : i = o.rld.length := by omega
  rw [hie, List.drop_length, List.all_nil] at hall
  refine yt9 [1, 3, 68, 69, 70, 71] (by simp [c]; rfl) ?_
  refine yk9 ?_
  refine yd9 rfl (fun h => by simp [hie] at h) (fun h => ?_)
  refine zc9 [1, 3] ?_
  refine xr9 ?_
  exact ⟨hall, by simp⟩
 rintro _ ⟨hall2, rfl⟩
 refine yk9 ?_
 refine xg9 (fun σ => σ = ⟨129, [(1, .loc 0 0), (8, .v (.int .i64 ((getN o.entry N).getD 0))), (9, .v (.bool (getN o.entry N).isSome))], HC S N nx (obC o) []⟩) ?_ ?_
 ·have hf := mfind_namE o.entry N
  cases hg : getN o.entry N with
  | none =>
   rw [hg] at hf
   refine wk9 [1, 8, 9] (W_drawP 6 mx (by decide +kernel) ?_)
   refine zr9 (by simp [obC, strB]; rfl) ?_
   refine wj9 [6] (by decide +kernel) (by simp) ?_
   intro i hi
   simp only [List.mem_cons, List.not_mem_nil, or_false] at hi
   subst hi
   refine ⟨_, rfl, ?_⟩
   refine (show runA Try.prog _ [_] _ _ from ?_)
   refine yr9 (by simp [yc8, mapOf, wc8, hf]; rfl) ?_
   refine zm9 7 rfl (by decide +kernel) (wn9 115 rfl rfl rfl) rfl ?_
   refine zm9 8 rfl (by decide +kernel) (xn9 108 rfl rfl rfl rfl) rfl ?_
   refine zm9 9 rfl (by decide +kernel) (xn9 108 rfl rfl rfl rfl) rfl ?_
   refine wj9 [10] (by decide +kernel) (by simp) ?_
   intro i hi
   simp only [List.mem_cons, List.not_mem_nil, or_false] at hi
   subst hi
   refine ⟨_, rfl, ?_⟩
   refine (show runA Try.prog _ [_] _ _ from ?_)
   refine yr9 (by simp; rfl) ?_
   refine wj9 [11] (by decide +kernel) (by simp) ?_
   intro i hi
   simp only [List.mem_cons, List.not_mem_nil, or_false] at hi
   subst hi
   refine ⟨_, rfl, ?_⟩
   refine (show runA Try.prog _ [_] _ _ from ?_)
   refine yr9 (by simp; rfl) ?_
   refine ym8 (by decide +kernel) ?_
   simp [yp9, obC, strB, zs8]
  | some k =>
   rw [hg] at hf
   refine wk9 [1, 8, 9] (W_drawP 6 mx (by decide +kernel) ?_)
   refine zr9 (by simp [obC, strB]; rfl) ?_
   refine wj9 [6] (by decide +kernel) (by simp) ?_
   intro i hi
   simp only [List.mem_cons, List.not_mem_nil, or_false] at hi
   subst hi
   refine ⟨_, rfl, ?_⟩
   refine (show runA Try.prog _ [_] _ _ from ?_)
   refine yr9 (by simp [yc8, mapOf, wc8, hf]; rfl) ?_
   refine zm9 7 rfl (by decide +kernel) (wn9 115 rfl rfl rfl) rfl ?_
   refine zm9 8 rfl (by decide +kernel) (xn9 108 rfl rfl rfl rfl) rfl ?_
   refine zm9 9 rfl (by decide +kernel) (xn9 108 rfl rfl rfl rfl) rfl ?_
   refine wj9 [10] (by decide +kernel) (by simp) ?_
   intro i hi
   simp only [List.mem_cons, List.not_mem_nil, or_false] at hi
   subst hi
   refine ⟨_, rfl, ?_⟩
   refine (show runA Try.prog _ [_] _ _ from ?_)
   refine yr9 (by simp; rfl) ?_
   refine wj9 [11] (by decide +kernel) (by simp) ?_
   intro i hi
   simp only [List.mem_cons, List.not_mem_nil, or_false] at hi
   subst hi
   refine ⟨_, rfl, ?_⟩
   refine (show runA Try.prog _ [_] _ _ from ?_)
   refine yr9 (by simp; rfl) ?_
   refine ym8 (by decide +kernel) ?_
   simp [yp9, obC, strB, zs8]
 rintro _ rfl
 refine xg9 (fun σ => σ = ⟨129, [(128, .v (.bool (entB N o.entry)))], HC S N nx (obC o) []⟩) ?_ ?_
 ·by_cases c1 : o.entry = []
  ·refine zl9 [128] (by simp [obC, strB, c1]; rfl) ?_
   simp [yp9, entB, c1, obC, strB]
  have c1b : (o.entry == []) = false := beq_eq_false_iff_ne.2 c1
  cases hg : (getN o.entry N).isSome with
  | false =>
   refine zl9 [128] (by simp [obC, strB, c1b]; rfl) ?_
   simp [yp9, entB, c1b, obC, strB, hg]
  | true =>
   refine zl9 [128] (by simp [obC, strB, c1b]; rfl) ?_
   simp [yp9, entB, c1b, obC, strB, hg]
 rintro _ rfl
 by_cases hE : entB N o.entry = true
 ·refine yd9 (t := true) (by simp [hE]) (fun h => ?_) (fun h => by simp at h)
  refine yt9 [2] (by simp; rfl) ?_
  refine zp9 ?_
  repeat (first | refine yh9 ?_ | refine yj9 ?_)
  simp [retQ, hmod, restM, hall1, hall2, hE]
 have hEf : entB N o.entry = false := by simpa using hE
 refine yd9 (t := false) (by simp [hEf]) (fun h => by simp at h) (fun h => ?_)
 refine yc9 ?_
 refine yt9 [2] (by simp; rfl) ?_
 refine zp9 ?_
 repeat (first | refine yh9 ?_ | refine yj9 ?_)
 simp [retQ, hmod, restM, hall1, hall2, hEf]
end Go.AM
namespace Go.AM
open Go.RowKit Go.Proofs
set_option linter.unusedSimpArgs false
set_option linter.unusedVariables false
set_option maxHeartbeats 4000000
def isSec (id : Int) (x : Esd) : Bool := decide (x.kind = 1) && decide (x.id = id)
def isS1 (x : Esd) : Bool := decide (x.kind = 1)
def isTg (id : Int) (x : Esd) : Bool := !decide (x.kind = 2) && decide (x.id = id)
def isDf (n : List UInt8) (x : Esd) : Bool := !decide (x.kind = 3) && (x.name == n)
end Go.AM
namespace Go.AM
open Go.RowKit Go.Proofs
set_option linter.unusedSimpArgs false
set_option linter.unusedVariables false
set_option maxHeartbeats 4000000
theorem grp44_callW (t : List Esd) (n : Nat) (h : List AObj) (hh : ys9 (h.length + 2) h = true) : xl9 Try.prog 44 [.lst .any 5 (esL t), .v (.int .i64 n)] h fun r h' => r = .fn (.func 81) [] [.loc h.length 0, .loc (h.length + 1) 0] ∧ h' = h ++ [.cells 22 [.lst .any 5 (esL t)], .cells 3 [.v (.int .i64 n)]] := by
 refine zs9 Try.func44 rfl (by decide +kernel) (by simp [Try.f44]) (rs := [.tmp 4]) rfl ?_
 rw [show Try.f44.ntmps = 6 from rfl]
 refine yt9 [2, 3] (by simp; rfl) ?_
 refine yt9 [4] (by simp; rfl) ?_
 refine zp9 ?_
 repeat (first | refine yh9 ?_ | refine yj9 ?_)
 refine ⟨.inr rfl, .fn (.func 81) [] [.loc h.length 0, .loc (h.length + 1) 0], .fn (.func 81) [] [.loc h.length 0, .loc (h.length + 1) 0], h ++ [.cells 22 [.lst .any 5 (esL t)], .cells 3 [.v (.int .i64 n)]], h.length + 2, by simp, .inl ⟨rfl, by simp⟩, by omega, by simp, by simp [AV.under, AV.underL], ?_, rfl, ?_⟩
 ·rw [List.take_of_length_le (by simp), vf9, hh]
  simp [ys9, AObj.under, AV.under, AV.underL]
 ·rw [List.take_of_length_le (by simp)]
theorem grp50_callW (t : List Rld) (n : Nat) (h : List AObj) (hh : ys9 (h.length + 2) h = true) : xl9 Try.prog 50 [.lst .any 5 (rdL t), .v (.int .i64 n)] h fun r h' => r = .fn (.func 84) [] [.loc h.length 0, .loc (h.length + 1) 0] ∧ h' = h ++ [.cells 24 [.lst .any 5 (rdL t)], .cells 3 [.v (.int .i64 n)]] := by
 refine zs9 Try.func50 rfl (by decide +kernel) (by simp [Try.f50]) (rs := [.tmp 4]) rfl ?_
 rw [show Try.f50.ntmps = 6 from rfl]
 refine yt9 [2, 3] (by simp; rfl) ?_
 refine yt9 [4] (by simp; rfl) ?_
 refine zp9 ?_
 repeat (first | refine yh9 ?_ | refine yj9 ?_)
 refine ⟨.inr rfl, .fn (.func 84) [] [.loc h.length 0, .loc (h.length + 1) 0], .fn (.func 84) [] [.loc h.length 0, .loc (h.length + 1) 0], h ++ [.cells 24 [.lst .any 5 (rdL t)], .cells 3 [.v (.int .i64 n)]], h.length + 2, by simp, .inl ⟨rfl, by simp⟩, by omega, by simp, by simp [AV.under, AV.underL], ?_, rfl, ?_⟩
 ·rw [List.take_of_length_le (by simp), vf9, hh]
  simp [ys9, AObj.under, AV.under, AV.underL]
 ·rw [List.take_of_length_le (by simp)]
def ixE : Nat → List Esd → Int
 | _, [] => -1
 | i, x :: l => if x.kind = 2 then ixE (i + 1) l else i
theorem ne48_sound (x : Esd) : Sound Try.prog 48 [esA x] (.v (.bool (!(x.kind == 2)))) := by
 refine zj9 Try.func48 rfl (by decide +kernel) (by simp [Try.f48]) (by simp [AV.rfL, AV.rf, strB]) (by simp [AV.tlL, AV.tl, strB]) (rs := [.tmp 2]) rfl ?_
 rw [show Try.f48.ntmps = 6 from rfl]
 refine yt9 [1, 2] (by simp; rfl) ?_
 refine yt9 [2] (by simp; rfl) ?_
 refine zp9 ?_
 repeat (first | refine yh9 ?_ | refine yj9 ?_)
 simp [retQ]
 rfl
theorem if47_sound (l : List Esd) (hl : l.length ≤ 100000) : Sound Try.prog 47 [.lst .any 5 (esL l), .fn (.func 48) [] []] (.v (.int .i64 (ixE 0 l))) := by
 refine zj9 Try.func47 rfl (by decide +kernel) (by simp [Try.f47]) (by simp [AV.rfL, AV.rf]) (by simp [AV.tlL, AV.tl]) (rs := [.tmp 4]) rfl ?_
 rw [show Try.f47.ntmps = 19 from rfl]
 refine yt9 [0, 1] (by simp; rfl) ?_
 refine yk9 ?_
 refine yt9 [0, 1, 7, 8] (by simp; rfl) ?_
 refine yg9 ?_
 refine xs9 (fun k σ => ∃ i : Nat, k = l.length - i ∧ i ≤ l.length ∧ ixE i (l.drop i) = ixE 0 l ∧ σ = ⟨19, [(0, .lst .any 5 (esL l)), (1, .fn (.func 48) [] []), (7, .v (.int .i64 (l.length : Nat))), (8, .v (.int .i64 (i : Nat)))], []⟩) (k := l.length) ⟨0, rfl, by omega, rfl, by simp⟩ ?_
 rintro k σ ⟨i, rfl, hi, hix, rfl⟩
 by_cases c : i < l.length
 ·have ci : (i : Int) < l.length := by omega
  obtain ⟨s, hsi⟩ : ∃ s, l[i]? = some s := ⟨_, List.getElem?_eq_getElem c⟩
  have hs2 : l[i]'c = s := by rw [List.getElem?_eq_getElem c] at hsi; exact Option.some.inj hsi
  have hdr : l.drop i = s :: l.drop (i + 1) := by rw [List.drop_eq_getElem_cons c, hs2]
  have wi := w64 (n := (i : Int) + 1) (by omega) (by omega)
  have hne := ne48_sound s
  rw [hdr, ixE] at hix
  refine yt9 [0, 1, 7, 8, 9] (by simp [ci]; rfl) ?_
  refine yk9 ?_
  refine yd9 rfl (fun h => ?_) (fun h => by simp [c] at h)
  refine yc9 ?_
  refine yk9 ?_
  refine yg9 ?_
  refine yt9 [0, 1, 7, 8, 5] (by simp; rfl) ?_
  refine W_rK [0, 1, 7, 8, 5, 16] ?_
  refine yq9 5 (by simp [c, ci, hs2]; rfl) rfl ?_
  refine zq9 (by simp) (by first | (simp; done) | (simp; rfl) | (simp [strB]; done) | (simp [strB]; rfl)) hne (by simp; rfl) ?_
  refine yr9 (by simp; rfl) ?_
  by_cases hk : s.kind = 2
  ·rw [if_pos hk] at hix
   refine yd9 (t := false) (by simp [hk]) (fun h => by simp at h) (fun h => ?_)
   refine yc9 ?_
   refine zl9 [0, 1, 7, 8] (by simp [wi]; rfl) ?_
   exact ⟨_, by omega, i + 1, rfl, by omega, hix, by simp⟩
  ·rw [if_neg hk] at hix
   refine yd9 (t := true) (by simp [hk]) (fun h => ?_) (fun h => by simp at h)
   refine yt9 [4] (by simp; rfl) ?_
   refine zp9 ?_
   repeat (first | refine yh9 ?_ | refine yj9 ?_)
   simp [retQ, ← hix]
 have hie : i = l.length := by omega
 rw [hie, List.drop_length, ixE] at hix
 refine yt9 [0, 1, 7, 8, 9] (by simp [c]; rfl) ?_
 refine yk9 ?_
 refine yd9 rfl (fun h => by simp [hie] at h) (fun h => ?_)
 refine xr9 ?_
 refine yt9 [4] (by simp; rfl) ?_
 refine zp9 ?_
 repeat (first | refine yh9 ?_ | refine yj9 ?_)
 simp [retQ, ← hix]
theorem ixE_get : ∀ (l : List Esd) (i : Nat), ixE i l = -1 ∨ ∃ j x, l[j]? = some x ∧ ixE i l = ((i + j : Nat) : Int)
 | [], i => .inl rfl
 | x :: l, i => by
  rw [ixE]
  by_cases h : x.kind = 2
  ·rw [if_pos h]
   rcases ixE_get l (i + 1) with h1 | ⟨j, y, h1, h2⟩
   ·exact .inl h1
   ·exact .inr ⟨j + 1, y, by simpa using h1, by rw [h2]; congr 1; omega⟩
  ·rw [if_neg h]
   exact .inr ⟨0, x, rfl, rfl⟩
def nmESD : List UInt8 := [69, 83, 68]
def nmTXT : List UInt8 := [84, 88, 84]
def nmRLD : List UInt8 := [82, 76, 68]
def nmEND : List UInt8 := [69, 78, 68]
def xr8 : List Esd → Nat → List UInt8 → List UInt8
 | [], _, c => c
 | x :: l, i, c => xr8 l (i + 1) (putM c (16 + 16 * i) (yp7 x))
def card1 (g : List Esd) : List UInt8 := putM (zt7 nmESD) 10 (numM 2 (16 * g.length))
def card2 (g : List Esd) : List UInt8 := if 0 ≤ ixE 0 g then putM (card1 g) 14 (numM 2 ((g[(ixE 0 g).toNat]?).elim 0 fun x => x.id.toNat)) else card1 g
def cardE (g : List Esd) : List UInt8 := xr8 g 0 (card2 g)
theorem cardM_len (s : List UInt8) (h : (yw8 s).length ≤ 79) : (zt7 s).length = 80 := by
 rw [zt7, zh9 _ _ _ (by simp; omega)]; simp
theorem eItem_len (x : Esd) (h : (yw8 x.name).length ≤ 16) : (yp7 x).length = 16 := by
 have hb : (putM (wh9 16) 0 (yw8 x.name)).length = 16 := by rw [zh9 _ _ _ (by simp; omega)]; simp
 unfold yp7
 split
 ·rw [zh9 _ _ _ (by rw [zh9 _ _ _ (by simp [hb])]; simp [hb]), zh9 _ _ _ (by simp [hb])]; simpa using hb
 ·split
  ·rw [zh9 _ _ _ (by rw [zh9 _ _ _ (by simp [hb])]; simp [hb]), zh9 _ _ _ (by simp [hb])]; simpa using hb
  ·simpa using hb
@[simp] theorem killL_obC (t : Nat) (o : OMod) : AV.killL t (obC o) = obC o := by simp [obC, AV.killL, AV.kill, strB]
theorem wg9 (m : Nat) (ty : TypeId) (cs : List AV) : (AObj.cells ty cs).under m = AV.underL m cs := rfl
theorem yn7 {h : List AObj} (id n : Nat) (c : List UInt8) (k : Nat) (hid : h[id]? = some (.cells 5 (zt9 c k))) (hc : c.length = n) : ∃ (o : Fl), (o = .any ∨ o = .tip 5 1) ∧ wt9 Try.prog h 1 id 0 n n = some (.lst o 1 (byL c), h.set id (.froz 5 (byL c))) := by
 have e2 : tyI Try.prog 5 = some (false, 1) := by simp
 subst hc
 cases k with
 | zero =>
  have e0 : zt9 c 0 = byL c := by simp [zt9]
  rw [e0] at hid
  refine ⟨if 0 = 0 ∧ c.length = c.length ∧ c.length * 1 = (byL c).length then .tip 5 1 else .any, .inr (by simp), ?_⟩
  simp only [wt9, hid, e2]
  rw [if_pos ⟨by omega, .inr trivial, by simp, yv7 _, rfL_byL _⟩, ys7, List.drop_zero, xg8 _ _ (by omega), List.take_of_length_le (by omega)]
 | succ k =>
  have e1 : (zt9 c (k + 1)).take (0 + c.length * 1) = byL c := by
   rw [zt9, Nat.zero_add, Nat.mul_one, List.take_append_of_le_length (by simp), List.take_of_length_le (by simp)]
  have e3 : AV.koneL (zt9 c (k + 1)) = false := by
   rw [zt9, vj8, List.replicate_succ]
   simp [AV.koneL, AV.kone]
  refine ⟨.any, .inl rfl, ?_⟩
  simp only [wt9, hid, e2, e1]
  rw [if_neg (by rw [e3]; simp), if_pos ⟨by omega, .inr trivial, by simp [wq9], yv7 _, rfL_byL _⟩, ys7, List.drop_zero, xg8 _ _ (by omega), List.take_of_length_le (by omega)]
end Go.AM
namespace Go.AM
open Go.RowKit Go.Proofs
set_option linter.unusedSimpArgs false
set_option linter.unusedVariables false
set_option maxHeartbeats 8000000
theorem esd_round {top : Bool} {kf : Nat} {Q : Exit → St → Prop} (hkf : kf ≤ 5) (o : OMod) (L g : List Esd) (hg : g.length ≤ 3) (hge : ∀ x ∈ g, EOk x) (acc : List (List UInt8)) (hacc : acc.length ≤ 100000) (fl : Fl) (hfl : (fl = .nil ∧ acc = []) ∨ fl = .tip 27 147)
  (hQ : ∀ X Y, Q .normal ⟨176, [(1, .loc 0 0), (4, .loc 1 0)], [.cells 26 (obC o), .cells 47 [.lst (.tip 27 147) 1 (bbL (acc ++ [cardE g]))], .cells 22 [.lst .any 5 (esL L)], .cells 3 [.v (.int .i64 (3 : Nat))], .loop 176 [(1, .loc 0 0), (4, .loc 1 0), (30, .fn (.func 81) [] [.loc 2 0, .loc 3 0])] [31, 32] (rfAn Try.f19 0) (rfBn Try.f19 0) .busy, X, Y]⟩) :
  Wt top kf Try.prog (rfBn Try.f19 0) Q ⟨176, [(1, .loc 0 0), (4, .loc 1 0), (6, .lst .any 5 (esL g))], [.cells 26 (obC o), .cells 47 [.lst (fl) 1 (bbL (acc))], .cells 22 [.lst .any 5 (esL L)], .cells 3 [.v (.int .i64 (3 : Nat))], .loop 176 [(1, .loc 0 0), (4, .loc 1 0), (30, .fn (.func 81) [] [.loc 2 0, .loc 3 0])] [31, 32] (rfAn Try.f19 0) (rfBn Try.f19 0) .busy]⟩ := by
 have hif := if47_sound g (by omega)
 have w16 : IntKind.i64.wrap (16 * (g.length : Int)) = ((16 * g.length : Nat) : Int) := by rw [w64 (by omega) (by omega)]; omega
 have c0l := cardM_len nmESD (by decide +kernel)
 have hc2 : card2 g = if 0 ≤ ixE 0 g then putM (card1 g) 14 (numM 2 ((g[(ixE 0 g).toNat]?).elim 0 fun x => x.id.toNat)) else card1 g := rfl
 have hcd1 : card1 g = putM (zt7 nmESD) 10 (numM 2 (16 * g.length)) := rfl
 have hcE : xr8 g 0 (card2 g) = cardE g := rfl
 obtain ⟨c0, hc0⟩ : ∃ c, zt7 nmESD = c := ⟨_, rfl⟩
 have hq1 : acc.length ≤ 140737488355327 := by omega
 have hq2 : (acc.length + 1) * 24 ≤ 140737488355328 := by omega
 have happ : bbL acc ++ [.lst .any 1 (byL (cardE g))] = bbL (acc ++ [cardE g]) := by simp [yj8, wp8]
 rcases hfl with ⟨rfl, rfl⟩ | rfl
 ·refine yg9 ?_
  refine W_rK [1, 4, 6, 7, 8] ?_
  refine zw9 (f := 45) (args := [strB nmESD]) (by simp) (by simp [yl9, yb9, strB, nmESD]) ((vb9 nmESD (by simp [nmESD]) (by decide +kernel) _ (by simp [ys9, wg9, AObj.under, yn9, AV.under, AV.underL, yv9, zt9])).mono ?_)
  rintro _ _ ⟨k, rfl, rfl⟩
  refine ⟨_, by simp; rfl, ?_⟩
  refine yr9 (by simp; rfl) ?_
  rw [hc0] at c0l hcd1 ⊢
  refine W_rK [1, 4, 6, 7, 8] ?_
  refine yq9 4 (by simp [w16]; rfl) rfl ?_
  refine zq9 (by simp) (by first | (simp; done) | (simp; rfl)) (wc9 (16 * g.length) 2 (by omega) (by omega)) (by simp; rfl) ?_
  refine zw9 (f := 83) (args := [.v (.int .i64 (10 : Nat)), .lst .any 1 (byL (numM 2 (16 * g.length))), .loc 6 0]) (by simp) (by simp [yl9, yb9]) ((xb9 (10) 80 (numM 2 (16 * g.length)) c0 k c0l (by simp <;> omega) (by omega) (by omega) _ 6 5 (by simp) (by simp) (by simp [ys9, wg9, AObj.under, yn9, AV.under, AV.underL, yv9, zt9])).mono ?_)
  rintro _ _ ⟨rfl, rfl⟩
  refine ⟨_, by simp; rfl, ?_⟩
  refine yr9 (by simp; rfl) ?_
  obtain ⟨c1, hc1⟩ : ∃ x, putM c0 (10) (numM 2 (16 * g.length)) = x := ⟨_, rfl⟩
  have c1l : c1.length = 80 := by rw [← hc1, zh9 _ _ _ (by simp <;> omega)]; exact c0l
  rw [hc1]
  rw [hc1] at hcd1
  have c2l : (card2 g).length = 80 := by
   rw [hc2, hcd1]
   split
   ·rw [zh9 _ _ _ (by simp; omega)]; exact c1l
   ·exact c1l
  refine xg9 (fun σ => σ = ⟨176, [(1, .loc 0 0), (4, .loc 1 0), (6, .lst .any 5 (esL g)), (7, .arr 5 0 80 80), (8, .fn (.func 83) [] [.loc 6 0])], [.cells 26 (obC o), .cells 47 [.lst (.nil) 1 (bbL ([]))], .cells 22 [.lst .any 5 (esL L)], .cells 3 [.v (.int .i64 (3 : Nat))], .loop 176 [(1, .loc 0 0), (4, .loc 1 0), (30, .fn (.func 81) [] [.loc 2 0, .loc 3 0])] [31, 32] (rfAn Try.f19 0) (rfBn Try.f19 0) .busy, .cells 5 (zt9 (card2 g) k), .cells 27 [.arr 5 0 80 80]]⟩) ?_ ?_
  ·rcases ixE_get g 0 with hm | ⟨j, x, hj, hix⟩
   ·rw [hm] at hif hc2
    refine W_rK [1, 4, 6, 7, 8, 9] ?_
    refine yq9 1 (by simp; rfl) rfl ?_
    refine zq9 (by simp) (by first | (simp; done) | (simp; rfl)) hif (by simp; rfl) ?_
    refine yr9 (by simp; rfl) ?_
    refine W_cF [1, 4, 6, 7, 8, 46] (by simp; rfl) rfl ?_
    refine zc9 [1, 4, 6, 7, 8] ?_
    refine yc9 ?_
    simp [yp9, hc2, hcd1]
   ·rw [Nat.zero_add] at hix
    rw [hix] at hif hc2
    have hjl : j < g.length := (List.getElem?_eq_some_iff.1 hj).1
    have hj2 : g[j]'hjl = x := by rw [List.getElem?_eq_getElem hjl] at hj; exact Option.some.inj hj
    obtain ⟨n1, n2, i0, i1, a0, a1, l0, l1⟩ := hge x (List.mem_of_getElem? hj)
    have hc2' : card2 g = putM c1 14 (numM 2 x.id.toNat) := by rw [hc2, if_pos (by omega), hcd1, Int.toNat_natCast, hj]; rfl
    refine W_rK [1, 4, 6, 7, 8, 9] ?_
    refine yq9 1 (by simp; rfl) rfl ?_
    refine zq9 (by simp) (by first | (simp; done) | (simp; rfl)) hif (by simp; rfl) ?_
    refine yr9 (by simp; rfl) ?_
    refine W_cT [1, 4, 6, 7, 8, 9, 46] (by simp; rfl) rfl ?_
    refine W_rE [1, 4, 6, 7, 8] ?_
    refine yq9 6 (by simp [hjl, hj2]; rfl) rfl ?_
    refine zq9 (by simp) (by first | (simp; done) | (simp; rfl)) (numZ x.id 2 i0 (by omega) (by omega)) (by simp; rfl) ?_
    refine zw9 (f := 83) (args := [.v (.int .i64 (14 : Nat)), .lst .any 1 (byL (numM 2 x.id.toNat)), .loc 6 0]) (by simp) (by simp [yl9, yb9]) ((xb9 (14) 80 (numM 2 x.id.toNat) c1 k c1l (by simp <;> omega) (by omega) (by omega) _ 6 5 (by simp) (by simp) (by simp [ys9, wg9, AObj.under, yn9, AV.under, AV.underL, yv9, zt9])).mono ?_)
    rintro _ _ ⟨rfl, rfl⟩
    refine ⟨_, by simp; rfl, ?_⟩
    refine yr9 (by simp; rfl) ?_
    simp [yp9, hc2']
  rintro _ rfl
  refine xg9 (fun σ => ∃ c, xr8 [] g.length c = cardE g ∧ c.length = 80 ∧ σ = ⟨176, [(1, .loc 0 0), (4, .loc 1 0), (7, .arr 5 0 80 80)], [.cells 26 (obC o), .cells 47 [.lst (.nil) 1 (bbL ([]))], .cells 22 [.lst .any 5 (esL L)], .cells 3 [.v (.int .i64 (3 : Nat))], .loop 176 [(1, .loc 0 0), (4, .loc 1 0), (30, .fn (.func 81) [] [.loc 2 0, .loc 3 0])] [31, 32] (rfAn Try.f19 0) (rfBn Try.f19 0) .busy, .cells 5 (zt9 c k), .cells 27 [.arr 5 0 80 80]]⟩) ?_ ?_
  ·refine yt9 [1, 4, 7, 8, 55, 56, 57] (by simp; rfl) ?_
   refine yg9 ?_
   refine xs9 (fun kk σ => ∃ (i : Nat) (c : List UInt8), kk = g.length - i ∧ i ≤ g.length ∧ xr8 (g.drop i) i c = cardE g ∧ c.length = 80 ∧ σ = ⟨176, [(1, .loc 0 0), (4, .loc 1 0), (7, .arr 5 0 80 80), (8, .fn (.func 83) [] [.loc 6 0]), (55, .lst .any 5 (esL g)), (56, .v (.int .i64 (g.length : Nat))), (57, .v (.int .i64 (i : Nat)))], [.cells 26 (obC o), .cells 47 [.lst (.nil) 1 (bbL ([]))], .cells 22 [.lst .any 5 (esL L)], .cells 3 [.v (.int .i64 (3 : Nat))], .loop 176 [(1, .loc 0 0), (4, .loc 1 0), (30, .fn (.func 81) [] [.loc 2 0, .loc 3 0])] [31, 32] (rfAn Try.f19 0) (rfBn Try.f19 0) .busy, .cells 5 (zt9 c k), .cells 27 [.arr 5 0 80 80]]⟩) (k := g.length) ⟨0, card2 g, rfl, by omega, hcE, c2l, by simp⟩ ?_
   rintro kk σ ⟨i, c, rfl, hi, hgo, cl, rfl⟩
   by_cases ci : i < g.length
   ·have cii : (i : Int) < g.length := by omega
    obtain ⟨x, hs⟩ : ∃ x, g[i]? = some x := ⟨_, List.getElem?_eq_getElem ci⟩
    have hs2 : g[i]'ci = x := by rw [List.getElem?_eq_getElem ci] at hs; exact Option.some.inj hs
    have hdr : g.drop i = x :: g.drop (i + 1) := by rw [List.drop_eq_getElem_cons ci, hs2]
    have hek := hge x (List.mem_of_getElem? hs)
    have hn1 := hek.n
    have hel := eItem_len x (by omega)
    have wi := w64 (n := (i : Int) + 1) (by omega) (by omega)
    have w1 := w64 (n := 16 * (i : Int)) (by omega) (by omega)
    have w2 := w64 (n := 16 + 16 * (i : Int)) (by omega) (by omega)
    rw [hdr, xr8] at hgo
    refine yt9 [1, 4, 7, 8, 55, 56, 57, 58] (by simp [cii]; rfl) ?_
    refine yk9 ?_
    refine yd9 rfl (fun h => ?_) (fun h => by simp [ci] at h)
    refine yc9 ?_
    refine yk9 ?_
    refine yg9 ?_
    refine yt9 [1, 4, 7, 8, 55, 56, 57, 10, 11] (by simp [ci, cii, hs2, yf9]; rfl) ?_
    refine W_rE [1, 4, 7, 8, 55, 56, 57] ?_
    refine yq9 5 (by simp [w1, w2]; rfl) rfl ?_
    refine zq9 (by simp) (by first | (simp; done) | (simp; rfl)) (esdItem_sound x hek) (by simp; rfl) ?_
    refine zw9 (f := 83) (args := [.v (.int .i64 (16 + 16 * i : Nat)), .lst .any 1 (byL (yp7 x)), .loc 6 0]) (by simp) (by simp [yl9, yb9]) ((xb9 (16 + 16 * i) 80 (yp7 x) c k cl (by simp [hel] <;> omega) (by omega) (by omega) _ 6 5 (by simp) (by simp) (by simp [ys9, wg9, AObj.under, yn9, AV.under, AV.underL, yv9, zt9, strB])).mono ?_)
    rintro _ _ ⟨rfl, rfl⟩
    refine ⟨_, by simp; rfl, ?_⟩
    refine yr9 (by simp; rfl) ?_
    refine vl9 7 (by omega) (by simp) (by simp [yn9, AV.under, AV.underL]) (by simp [ys9, wg9, AObj.under, yn9, AV.under, AV.underL, yv9, zt9]) ?_
    refine zl9 [1, 4, 7, 8, 55, 56, 57] (by simp [wi]; rfl) ?_
    exact ⟨_, by omega, i + 1, putM c (16 + 16 * i) (yp7 x), rfl, by omega, hgo, by rw [zh9 _ _ _ (by rw [hel, cl]; omega)]; exact cl, by simp⟩
   have hie : i = g.length := by omega
   rw [hie, List.drop_length] at hgo
   refine yt9 [1, 4, 7, 55, 56, 57, 58] (by simp [ci]; rfl) ?_
   refine yk9 ?_
   refine yd9 rfl (fun h => by simp [hie] at h) (fun h => ?_)
   refine zc9 [1, 4, 7] ?_
   refine xr9 ?_
   exact ⟨c, hgo, cl, by simp⟩
  rintro _ ⟨c, hgo, cl, rfl⟩
  rw [xr8] at hgo
  obtain ⟨fo, hfo, hfz⟩ := yn7 (h := [.cells 26 (obC o), .cells 47 [.lst (.nil) 1 (bbL ([]))], .cells 22 [.lst .any 5 (esL L)], .cells 3 [.v (.int .i64 (3 : Nat))], .loop 176 [(1, .loc 0 0), (4, .loc 1 0), (30, .fn (.func 81) [] [.loc 2 0, .loc 3 0])] [31, 32] (rfAn Try.f19 0) (rfBn Try.f19 0) .busy, .cells 5 (zt9 c k), .cells 27 [.arr 5 0 80 80]]) 5 80 c k rfl cl
  rw [hgo] at hfz ⊢
  refine W_frz 7 rfl (by decide) hfz ?_
  rcases hfo with rfl | rfl
  all_goals
   refine zl9 [1, 4] (by simp [putF, yf9, catK, AV.cellsK, AV.kone, AV.koneL, hq1, hq2]; rfl) ?_
   have hq := hQ (.froz 5 (byL (cardE g))) (.cells 27 [.arr 5 0 80 80])
   rw [← happ] at hq
   simpa [inBlk] using hq
 refine yg9 ?_
 refine W_rK [1, 4, 6, 7, 8] ?_
 refine zw9 (f := 45) (args := [strB nmESD]) (by simp) (by simp [yl9, yb9, strB, nmESD]) ((vb9 nmESD (by simp [nmESD]) (by decide +kernel) _ (by simp [ys9, wg9, AObj.under, yn9, AV.under, AV.underL, yv9, zt9])).mono ?_)
 rintro _ _ ⟨k, rfl, rfl⟩
 refine ⟨_, by simp; rfl, ?_⟩
 refine yr9 (by simp; rfl) ?_
 rw [hc0] at c0l hcd1 ⊢
 refine W_rK [1, 4, 6, 7, 8] ?_
 refine yq9 4 (by simp [w16]; rfl) rfl ?_
 refine zq9 (by simp) (by first | (simp; done) | (simp; rfl)) (wc9 (16 * g.length) 2 (by omega) (by omega)) (by simp; rfl) ?_
 refine zw9 (f := 83) (args := [.v (.int .i64 (10 : Nat)), .lst .any 1 (byL (numM 2 (16 * g.length))), .loc 6 0]) (by simp) (by simp [yl9, yb9]) ((xb9 (10) 80 (numM 2 (16 * g.length)) c0 k c0l (by simp <;> omega) (by omega) (by omega) _ 6 5 (by simp) (by simp) (by simp [ys9, wg9, AObj.under, yn9, AV.under, AV.underL, yv9, zt9])).mono ?_)
 rintro _ _ ⟨rfl, rfl⟩
 refine ⟨_, by simp; rfl, ?_⟩
 refine yr9 (by simp; rfl) ?_
 obtain ⟨c1, hc1⟩ : ∃ x, putM c0 (10) (numM 2 (16 * g.length)) = x := ⟨_, rfl⟩
 have c1l : c1.length = 80 := by rw [← hc1, zh9 _ _ _ (by simp <;> omega)]; exact c0l
 rw [hc1]
 rw [hc1] at hcd1
 have c2l : (card2 g).length = 80 := by
  rw [hc2, hcd1]
  split
  ·rw [zh9 _ _ _ (by simp; omega)]; exact c1l
  ·exact c1l
 refine xg9 (fun σ => σ = ⟨176, [(1, .loc 0 0), (4, .loc 1 0), (6, .lst .any 5 (esL g)), (7, .arr 5 0 80 80), (8, .fn (.func 83) [] [.loc 6 0])], [.cells 26 (obC o), .cells 47 [.lst (.tip 27 147) 1 (bbL (acc))], .cells 22 [.lst .any 5 (esL L)], .cells 3 [.v (.int .i64 (3 : Nat))], .loop 176 [(1, .loc 0 0), (4, .loc 1 0), (30, .fn (.func 81) [] [.loc 2 0, .loc 3 0])] [31, 32] (rfAn Try.f19 0) (rfBn Try.f19 0) .busy, .cells 5 (zt9 (card2 g) k), .cells 27 [.arr 5 0 80 80]]⟩) ?_ ?_
 ·rcases ixE_get g 0 with hm | ⟨j, x, hj, hix⟩
  ·rw [hm] at hif hc2
   refine W_rK [1, 4, 6, 7, 8, 9] ?_
   refine yq9 1 (by simp; rfl) rfl ?_
   refine zq9 (by simp) (by first | (simp; done) | (simp; rfl)) hif (by simp; rfl) ?_
   refine yr9 (by simp; rfl) ?_
   refine W_cF [1, 4, 6, 7, 8, 46] (by simp; rfl) rfl ?_
   refine zc9 [1, 4, 6, 7, 8] ?_
   refine yc9 ?_
   simp [yp9, hc2, hcd1]
  ·rw [Nat.zero_add] at hix
   rw [hix] at hif hc2
   have hjl : j < g.length := (List.getElem?_eq_some_iff.1 hj).1
   have hj2 : g[j]'hjl = x := by rw [List.getElem?_eq_getElem hjl] at hj; exact Option.some.inj hj
   obtain ⟨n1, n2, i0, i1, a0, a1, l0, l1⟩ := hge x (List.mem_of_getElem? hj)
   have hc2' : card2 g = putM c1 14 (numM 2 x.id.toNat) := by rw [hc2, if_pos (by omega), hcd1, Int.toNat_natCast, hj]; rfl
   refine W_rK [1, 4, 6, 7, 8, 9] ?_
   refine yq9 1 (by simp; rfl) rfl ?_
   refine zq9 (by simp) (by first | (simp; done) | (simp; rfl)) hif (by simp; rfl) ?_
   refine yr9 (by simp; rfl) ?_
   refine W_cT [1, 4, 6, 7, 8, 9, 46] (by simp; rfl) rfl ?_
   refine W_rE [1, 4, 6, 7, 8] ?_
   refine yq9 6 (by simp [hjl, hj2]; rfl) rfl ?_
   refine zq9 (by simp) (by first | (simp; done) | (simp; rfl)) (numZ x.id 2 i0 (by omega) (by omega)) (by simp; rfl) ?_
   refine zw9 (f := 83) (args := [.v (.int .i64 (14 : Nat)), .lst .any 1 (byL (numM 2 x.id.toNat)), .loc 6 0]) (by simp) (by simp [yl9, yb9]) ((xb9 (14) 80 (numM 2 x.id.toNat) c1 k c1l (by simp <;> omega) (by omega) (by omega) _ 6 5 (by simp) (by simp) (by simp [ys9, wg9, AObj.under, yn9, AV.under, AV.underL, yv9, zt9])).mono ?_)
   rintro _ _ ⟨rfl, rfl⟩
   refine ⟨_, by simp; rfl, ?_⟩
   refine yr9 (by simp; rfl) ?_
   simp [yp9, hc2']
 rintro _ rfl
 refine xg9 (fun σ => ∃ c, xr8 [] g.length c = cardE g ∧ c.length = 80 ∧ σ = ⟨176, [(1, .loc 0 0), (4, .loc 1 0), (7, .arr 5 0 80 80)], [.cells 26 (obC o), .cells 47 [.lst (.tip 27 147) 1 (bbL (acc))], .cells 22 [.lst .any 5 (esL L)], .cells 3 [.v (.int .i64 (3 : Nat))], .loop 176 [(1, .loc 0 0), (4, .loc 1 0), (30, .fn (.func 81) [] [.loc 2 0, .loc 3 0])] [31, 32] (rfAn Try.f19 0) (rfBn Try.f19 0) .busy, .cells 5 (zt9 c k), .cells 27 [.arr 5 0 80 80]]⟩) ?_ ?_
 ·refine yt9 [1, 4, 7, 8, 55, 56, 57] (by simp; rfl) ?_
  refine yg9 ?_
  refine xs9 (fun kk σ => ∃ (i : Nat) (c : List UInt8), kk = g.length - i ∧ i ≤ g.length ∧ xr8 (g.drop i) i c = cardE g ∧ c.length = 80 ∧ σ = ⟨176, [(1, .loc 0 0), (4, .loc 1 0), (7, .arr 5 0 80 80), (8, .fn (.func 83) [] [.loc 6 0]), (55, .lst .any 5 (esL g)), (56, .v (.int .i64 (g.length : Nat))), (57, .v (.int .i64 (i : Nat)))], [.cells 26 (obC o), .cells 47 [.lst (.tip 27 147) 1 (bbL (acc))], .cells 22 [.lst .any 5 (esL L)], .cells 3 [.v (.int .i64 (3 : Nat))], .loop 176 [(1, .loc 0 0), (4, .loc 1 0), (30, .fn (.func 81) [] [.loc 2 0, .loc 3 0])] [31, 32] (rfAn Try.f19 0) (rfBn Try.f19 0) .busy, .cells 5 (zt9 c k), .cells 27 [.arr 5 0 80 80]]⟩) (k := g.length) ⟨0, card2 g, rfl, by omega, hcE, c2l, by simp⟩ ?_
  rintro kk σ ⟨i, c, rfl, hi, hgo, cl, rfl⟩
  by_cases ci : i < g.length
  ·have cii : (i : Int) < g.length := by omega
   obtain ⟨x, hs⟩ : ∃ x, g[i]? = some x := ⟨_, List.getElem?_eq_getElem ci⟩
   have hs2 : g[i]'ci = x := by rw [List.getElem?_eq_getElem ci] at hs; exact Option.some.inj hs
   have hdr : g.drop i = x :: g.drop (i + 1) := by rw [List.drop_eq_getElem_cons ci, hs2]
   have hek := hge x (List.mem_of_getElem? hs)
   have hn1 := hek.n
   have hel := eItem_len x (by omega)
   have wi := w64 (n := (i : Int) + 1) (by omega) (by omega)
   have w1 := w64 (n := 16 * (i : Int)) (by omega) (by omega)
   have w2 := w64 (n := 16 + 16 * (i : Int)) (by omega) (by omega)
   rw [hdr, xr8] at hgo
   refine yt9 [1, 4, 7, 8, 55, 56, 57, 58] (by simp [cii]; rfl) ?_
   refine yk9 ?_
   refine yd9 rfl (fun h => ?_) (fun h => by simp [ci] at h)
   refine yc9 ?_
   refine yk9 ?_
   refine yg9 ?_
   refine yt9 [1, 4, 7, 8, 55, 56, 57, 10, 11] (by simp [ci, cii, hs2, yf9]; rfl) ?_
   refine W_rE [1, 4, 7, 8, 55, 56, 57] ?_
   refine yq9 5 (by simp [w1, w2]; rfl) rfl ?_
   refine zq9 (by simp) (by first | (simp; done) | (simp; rfl)) (esdItem_sound x hek) (by simp; rfl) ?_
   refine zw9 (f := 83) (args := [.v (.int .i64 (16 + 16 * i : Nat)), .lst .any 1 (byL (yp7 x)), .loc 6 0]) (by simp) (by simp [yl9, yb9]) ((xb9 (16 + 16 * i) 80 (yp7 x) c k cl (by simp [hel] <;> omega) (by omega) (by omega) _ 6 5 (by simp) (by simp) (by simp [ys9, wg9, AObj.under, yn9, AV.under, AV.underL, yv9, zt9, strB])).mono ?_)
   rintro _ _ ⟨rfl, rfl⟩
   refine ⟨_, by simp; rfl, ?_⟩
   refine yr9 (by simp; rfl) ?_
   refine vl9 7 (by omega) (by simp) (by simp [yn9, AV.under, AV.underL]) (by simp [ys9, wg9, AObj.under, yn9, AV.under, AV.underL, yv9, zt9]) ?_
   refine zl9 [1, 4, 7, 8, 55, 56, 57] (by simp [wi]; rfl) ?_
   exact ⟨_, by omega, i + 1, putM c (16 + 16 * i) (yp7 x), rfl, by omega, hgo, by rw [zh9 _ _ _ (by rw [hel, cl]; omega)]; exact cl, by simp⟩
  have hie : i = g.length := by omega
  rw [hie, List.drop_length] at hgo
  refine yt9 [1, 4, 7, 55, 56, 57, 58] (by simp [ci]; rfl) ?_
  refine yk9 ?_
  refine yd9 rfl (fun h => by simp [hie] at h) (fun h => ?_)
  refine zc9 [1, 4, 7] ?_
  refine xr9 ?_
  exact ⟨c, hgo, cl, by simp⟩
 rintro _ ⟨c, hgo, cl, rfl⟩
 rw [xr8] at hgo
 obtain ⟨fo, hfo, hfz⟩ := yn7 (h := [.cells 26 (obC o), .cells 47 [.lst (.tip 27 147) 1 (bbL (acc))], .cells 22 [.lst .any 5 (esL L)], .cells 3 [.v (.int .i64 (3 : Nat))], .loop 176 [(1, .loc 0 0), (4, .loc 1 0), (30, .fn (.func 81) [] [.loc 2 0, .loc 3 0])] [31, 32] (rfAn Try.f19 0) (rfBn Try.f19 0) .busy, .cells 5 (zt9 c k), .cells 27 [.arr 5 0 80 80]]) 5 80 c k rfl cl
 rw [hgo] at hfz ⊢
 refine W_frz 7 rfl (by decide) hfz ?_
 rcases hfo with rfl | rfl
 all_goals
  refine zl9 [1, 4] (by simp [putF, yf9, catK, AV.cellsK, AV.kone, AV.koneL, hq1, hq2]; rfl) ?_
  have hq := hQ (.froz 5 (byL (cardE g))) (.cells 27 [.arr 5 0 80 80])
  rw [← happ] at hq
  simpa [inBlk] using hq
end Go.AM
namespace Go.AM
open Go.RowKit Go.Proofs
set_option linter.unusedSimpArgs false
set_option linter.unusedVariables false
set_option maxHeartbeats 8000000
structure ROk (r : Rld) : Prop where
 t0 : 0 ≤ r.to_
 t1 : r.to_ ≤ 1000000
 i0 : 0 ≤ r.in_
 i1 : r.in_ ≤ 1000000
 a0 : 0 ≤ r.addr
 a1 : r.addr ≤ 1000000
 l0 : 1 ≤ r.len
 l1 : r.len ≤ 4
def flagR (r : Rld) : Nat := 4 * (r.len.toNat - 1) + if r.neg = true then 2 else 0
def rItem (r : Rld) : List UInt8 := numM 2 r.to_.toNat ++ (numM 2 r.in_.toNat ++ (numM 1 (flagR r) ++ numM 3 r.addr.toNat))
@[simp] theorem rItem_len (r : Rld) : (rItem r).length = 8 := by simp [rItem]
def vp8 : List Rld → Nat → List UInt8 → List UInt8
 | [], _, c => c
 | x :: l, i, c => vp8 l (i + 1) (putM c (16 + 8 * i) (rItem x))
def cardR (g : List Rld) : List UInt8 := vp8 g 0 (putM (zt7 nmRLD) 10 (numM 2 (8 * g.length)))
theorem rld_round {top : Bool} {kf : Nat} {Q : Exit → St → Prop} (hkf : kf ≤ 5) (o : OMod) (L g : List Rld) (hg : g.length ≤ 7) (hge : ∀ x ∈ g, ROk x) (acc : List (List UInt8)) (hacc : acc.length ≤ 100000)
  (hQ : ∀ X Y, Q .normal ⟨176, [(1, .loc 0 0), (4, .loc 1 0)], [.cells 26 (obC o), .cells 47 [.lst (.tip 27 147) 1 (bbL (acc ++ [cardR g]))], .cells 24 [.lst .any 5 (rdL L)], .cells 3 [.v (.int .i64 (7 : Nat))], .loop 176 [(1, .loc 0 0), (4, .loc 1 0), (112, .fn (.func 84) [] [.loc 2 0, .loc 3 0])] [113, 114] (rfAn Try.f19 1) (rfBn Try.f19 1) .busy, X, Y]⟩) :
  Wt top kf Try.prog (rfBn Try.f19 1) Q ⟨176, [(1, .loc 0 0), (4, .loc 1 0), (17, .lst .any 5 (rdL g))], [.cells 26 (obC o), .cells 47 [.lst (.tip 27 147) 1 (bbL (acc))], .cells 24 [.lst .any 5 (rdL L)], .cells 3 [.v (.int .i64 (7 : Nat))], .loop 176 [(1, .loc 0 0), (4, .loc 1 0), (112, .fn (.func 84) [] [.loc 2 0, .loc 3 0])] [113, 114] (rfAn Try.f19 1) (rfBn Try.f19 1) .busy]⟩ := by
 have w8 : IntKind.i64.wrap (8 * (g.length : Int)) = ((8 * g.length : Nat) : Int) := by rw [w64 (by omega) (by omega)]; omega
 have c0l := cardM_len nmRLD (by decide +kernel)
 have hcE : vp8 g 0 (putM (zt7 nmRLD) 10 (numM 2 (8 * g.length))) = cardR g := rfl
 obtain ⟨c0, hc0⟩ : ∃ c, zt7 nmRLD = c := ⟨_, rfl⟩
 have hq1 : acc.length ≤ 140737488355327 := by omega
 have hq2 : (acc.length + 1) * 24 ≤ 140737488355328 := by omega
 have happ : bbL acc ++ [.lst .any 1 (byL (cardR g))] = bbL (acc ++ [cardR g]) := by simp [yj8, wp8]
 refine yg9 ?_
 refine W_rK [1, 4, 17, 18, 19] ?_
 refine zw9 (f := 45) (args := [strB nmRLD]) (by simp) (by simp [yl9, yb9, strB, nmRLD]) ((vb9 nmRLD (by simp [nmRLD]) (by decide +kernel) _ (by simp [ys9, wg9, AObj.under, yn9, AV.under, AV.underL, yv9, zt9])).mono ?_)
 rintro _ _ ⟨k, rfl, rfl⟩
 refine ⟨_, by simp; rfl, ?_⟩
 refine yr9 (by simp; rfl) ?_
 rw [hc0] at c0l hcE ⊢
 refine W_rK [1, 4, 17, 18, 19] ?_
 refine yq9 4 (by simp [w8]; rfl) rfl ?_
 refine zq9 (by simp) (by first | (simp; done) | (simp; rfl)) (wc9 (8 * g.length) 2 (by omega) (by omega)) (by simp; rfl) ?_
 refine zw9 (f := 83) (args := [.v (.int .i64 (10 : Nat)), .lst .any 1 (byL (numM 2 (8 * g.length))), .loc 6 0]) (by simp) (by simp [yl9, yb9]) ((xb9 (10) 80 (numM 2 (8 * g.length)) c0 k c0l (by simp <;> omega) (by omega) (by omega) _ 6 5 (by simp) (by simp) (by simp [ys9, wg9, AObj.under, yn9, AV.under, AV.underL, yv9, zt9])).mono ?_)
 rintro _ _ ⟨rfl, rfl⟩
 refine ⟨_, by simp; rfl, ?_⟩
 refine yr9 (by simp; rfl) ?_
 obtain ⟨c1, hc1⟩ : ∃ x, putM c0 (10) (numM 2 (8 * g.length)) = x := ⟨_, rfl⟩
 have c1l : c1.length = 80 := by rw [← hc1, zh9 _ _ _ (by simp <;> omega)]; exact c0l
 rw [hc1]
 rw [hc1] at hcE
 refine xg9 (fun σ => ∃ c, vp8 [] g.length c = cardR g ∧ c.length = 80 ∧ σ = ⟨176, [(1, .loc 0 0), (4, .loc 1 0), (18, .arr 5 0 80 80)], [.cells 26 (obC o), .cells 47 [.lst (.tip 27 147) 1 (bbL (acc))], .cells 24 [.lst .any 5 (rdL L)], .cells 3 [.v (.int .i64 (7 : Nat))], .loop 176 [(1, .loc 0 0), (4, .loc 1 0), (112, .fn (.func 84) [] [.loc 2 0, .loc 3 0])] [113, 114] (rfAn Try.f19 1) (rfBn Try.f19 1) .busy, .cells 5 (zt9 c k), .cells 27 [.arr 5 0 80 80]]⟩) ?_ ?_
 ·refine yt9 [1, 4, 18, 19, 125, 126, 127] (by simp; rfl) ?_
  refine yg9 ?_
  refine xs9 (fun kk σ => ∃ (i : Nat) (c : List UInt8), kk = g.length - i ∧ i ≤ g.length ∧ vp8 (g.drop i) i c = cardR g ∧ c.length = 80 ∧ σ = ⟨176, [(1, .loc 0 0), (4, .loc 1 0), (18, .arr 5 0 80 80), (19, .fn (.func 83) [] [.loc 6 0]), (125, .lst .any 5 (rdL g)), (126, .v (.int .i64 (g.length : Nat))), (127, .v (.int .i64 (i : Nat)))], [.cells 26 (obC o), .cells 47 [.lst (.tip 27 147) 1 (bbL (acc))], .cells 24 [.lst .any 5 (rdL L)], .cells 3 [.v (.int .i64 (7 : Nat))], .loop 176 [(1, .loc 0 0), (4, .loc 1 0), (112, .fn (.func 84) [] [.loc 2 0, .loc 3 0])] [113, 114] (rfAn Try.f19 1) (rfBn Try.f19 1) .busy, .cells 5 (zt9 c k), .cells 27 [.arr 5 0 80 80]]⟩) (k := g.length) ⟨0, c1, rfl, by omega, hcE, c1l, by simp⟩ ?_
  rintro kk σ ⟨i, c, rfl, hi, hgo, cl, rfl⟩
  by_cases ci : i < g.length
  ·have cii : (i : Int) < g.length := by omega
   obtain ⟨x, hs⟩ : ∃ x, g[i]? = some x := ⟨_, List.getElem?_eq_getElem ci⟩
   have hs2 : g[i]'ci = x := by rw [List.getElem?_eq_getElem ci] at hs; exact Option.some.inj hs
   have hdr : g.drop i = x :: g.drop (i + 1) := by rw [List.drop_eq_getElem_cons ci, hs2]
   obtain ⟨t0, t1, i0, i1, a0, a1, l0, l1⟩ := hge x (List.mem_of_getElem? hs)
   have wi := w64 (n := (i : Int) + 1) (by omega) (by omega)
   have w1 := w64 (n := 8 * (i : Int)) (by omega) (by omega)
   have w2 := w64 (n := 16 + 8 * (i : Int)) (by omega) (by omega)
   have w3 := w64 (n := x.len - 1) (by omega) (by omega)
   have w4 := w64 (n := 4 * (x.len - 1)) (by omega) (by omega)
   rw [hdr, vp8] at hgo
   refine yt9 [1, 4, 18, 19, 125, 126, 127, 128] (by simp [cii]; rfl) ?_
   refine yk9 ?_
   refine yd9 rfl (fun h => ?_) (fun h => by simp [ci] at h)
   refine yc9 ?_
   refine yk9 ?_
   refine yg9 ?_
   refine yt9 [1, 4, 18, 19, 125, 126, 127, 20, 21] (by simp [ci, cii, hs2, yf9]; rfl) ?_
   obtain ⟨v, hv⟩ : ∃ v, flagR x = v := ⟨_, rfl⟩
   have hvl : v ≤ 14 := by rw [← hv, flagR]; split <;> omega
   refine yt9 [1, 4, 18, 19, 125, 126, 127, 20, 21, 22] (by simp [w3, w4]; rfl) ?_
   refine xg9 (fun σ => σ = ⟨176, [(1, .loc 0 0), (4, .loc 1 0), (18, .arr 5 0 80 80), (19, .fn (.func 83) [] [.loc 6 0]), (125, .lst .any 5 (rdL g)), (126, .v (.int .i64 (g.length : Nat))), (127, .v (.int .i64 (i : Nat))), (21, .loc 7 0), (20, .v (.int .i64 (i : Nat))), (22, .v (.int .i64 (v : Nat)))], [.cells 26 (obC o), .cells 47 [.lst (.tip 27 147) 1 (bbL (acc))], .cells 24 [.lst .any 5 (rdL L)], .cells 3 [.v (.int .i64 (7 : Nat))], .loop 176 [(1, .loc 0 0), (4, .loc 1 0), (112, .fn (.func 84) [] [.loc 2 0, .loc 3 0])] [113, 114] (rfAn Try.f19 1) (rfBn Try.f19 1) .busy, .cells 5 (zt9 c k), .cells 27 [.arr 5 0 80 80], .cells 80 (rdC x)]⟩) ?_ ?_
   ·by_cases hn : x.neg = true
    ·have hvz : 4 * (x.len - 1) + 2 = (v : Int) := by rw [← hv, flagR, if_pos hn]; omega
     have w5 : IntKind.i64.wrap (4 * (x.len - 1) + 2) = (v : Int) := by rw [w64 (by omega) (by omega)]; exact hvz
     refine W_cT [1, 4, 18, 19, 125, 126, 127, 20, 21, 22, 137] (by simp [hn]; rfl) rfl ?_
     refine zl9 [1, 4, 18, 19, 125, 126, 127, 20, 21, 22] (by simp [w5]; rfl) ?_
     simp [yp9, rdC, hn]
    ·have hnf : x.neg = false := by simpa using hn
     have hvz : 4 * (x.len - 1) = (v : Int) := by rw [← hv, flagR, if_neg hn]; omega
     refine W_cF [1, 4, 18, 19, 125, 126, 127, 20, 21, 22, 137] (by simp [hnf]; rfl) rfl ?_
     refine zc9 [1, 4, 18, 19, 125, 126, 127, 20, 21, 22] ?_
     refine yc9 ?_
     simp [yp9, rdC, hnf, hvz]
   rintro _ rfl
   have hcc : Sound Try.prog 51 [.lst .any 1 [.lst .any 1 (byL (numM 2 x.to_.toNat)), .lst .any 1 (byL (numM 2 x.in_.toNat)), .lst .any 1 (byL (numM 1 v)), .lst .any 1 (byL (numM 3 x.addr.toNat))]] (.lst .any 1 (byL (rItem x))) := by
    have h := vj9 [numM 2 x.to_.toNat, numM 2 x.in_.toNat, numM 1 v, numM 3 x.addr.toNat] (by simp [total]) (by simp)
    simpa [bbL, rItem, hv] using h
   refine W_rsE 17 [1, 4, 18, 19, 125, 126, 127] mx (by decide +kernel) ?_
   refine yw9 6 (by simp [rdC, w1, w2]; rfl) rfl ?_
   refine zd9 (by simp) (by first | (simp; done) | (simp; rfl)) (numZ x.to_ 2 t0 (by omega) (by omega)) (by simp; rfl) ?_
   refine yw9 2 (by simp [rdC]; rfl) rfl ?_
   refine zd9 (by simp) (by first | (simp; done) | (simp; rfl)) (numZ x.in_ 2 i0 (by omega) (by omega)) (by simp; rfl) ?_
   refine yw9 1 (by simp [rdC]; rfl) rfl ?_
   refine zd9 (by simp) (by first | (simp; done) | (simp; rfl)) (wc9 v 1 (by omega) (by omega)) (by simp; rfl) ?_
   refine yw9 2 (by simp [rdC]; rfl) rfl ?_
   refine zd9 (by simp) (by first | (simp; done) | (simp; rfl)) (numZ x.addr 3 a0 (by omega) (by omega)) (by simp; rfl) ?_
   refine yw9 1 (by simp; rfl) rfl ?_
   refine zd9 (by simp) (by first | (simp; done) | (simp; rfl)) hcc (by simp; rfl) ?_
   refine zw9 (f := 83) (args := [.v (.int .i64 (16 + 8 * i : Nat)), .lst .any 1 (byL (rItem x)), .loc 6 0]) (by simp) (by simp [yl9, yb9]) ((xb9 (16 + 8 * i) 80 (rItem x) c k cl (by simp <;> omega) (by omega) (by omega) _ 6 5 (by simp) (by simp) (by simp [ys9, wg9, AObj.under, yn9, AV.under, AV.underL, yv9, zt9, rdC])).mono ?_)
   rintro _ _ ⟨rfl, rfl⟩
   refine ⟨_, by simp; rfl, ?_⟩
   refine yr9 (by simp; rfl) ?_
   refine vl9 7 (by omega) (by simp) (by simp [yn9, AV.under, AV.underL]) (by simp [ys9, wg9, AObj.under, yn9, AV.under, AV.underL, yv9, zt9]) ?_
   refine zl9 [1, 4, 18, 19, 125, 126, 127] (by simp [wi]; rfl) ?_
   exact ⟨_, by omega, i + 1, putM c (16 + 8 * i) (rItem x), rfl, by omega, hgo, by rw [zh9 _ _ _ (by rw [rItem_len, cl]; omega)]; exact cl, by simp⟩
  have hie : i = g.length := by omega
  rw [hie, List.drop_length] at hgo
  refine yt9 [1, 4, 18, 125, 126, 127, 128] (by simp [ci]; rfl) ?_
  refine yk9 ?_
  refine yd9 rfl (fun h => by simp [hie] at h) (fun h => ?_)
  refine zc9 [1, 4, 18] ?_
  refine xr9 ?_
  exact ⟨c, hgo, cl, by simp⟩
 rintro _ ⟨c, hgo, cl, rfl⟩
 rw [vp8] at hgo
 obtain ⟨fo, hfo, hfz⟩ := yn7 (h := [.cells 26 (obC o), .cells 47 [.lst (.tip 27 147) 1 (bbL (acc))], .cells 24 [.lst .any 5 (rdL L)], .cells 3 [.v (.int .i64 (7 : Nat))], .loop 176 [(1, .loc 0 0), (4, .loc 1 0), (112, .fn (.func 84) [] [.loc 2 0, .loc 3 0])] [113, 114] (rfAn Try.f19 1) (rfBn Try.f19 1) .busy, .cells 5 (zt9 c k), .cells 27 [.arr 5 0 80 80]]) 5 80 c k rfl cl
 rw [hgo] at hfz ⊢
 refine W_frz 18 rfl (by decide) hfz ?_
 rcases hfo with rfl | rfl
 all_goals
  refine zl9 [1, 4] (by simp [putF, yf9, catK, AV.cellsK, AV.kone, AV.koneL, hq1, hq2]; rfl) ?_
  have hq := hQ (.froz 5 (byL (cardR g))) (.cells 27 [.arr 5 0 80 80])
  rw [← happ] at hq
  simpa [inBlk] using hq
end Go.AM
