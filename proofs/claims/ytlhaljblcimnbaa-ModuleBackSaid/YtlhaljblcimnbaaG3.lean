/- Parts of the walk: C31N C31O C31P. -/
import Derived.Test.YtlhaljblcimnbaaG2
namespace Go.AM
open Go.RowKit Go.Proofs
set_option linter.unusedSimpArgs false
set_option linter.unusedVariables false
set_option maxHeartbeats 2000000
end Go.AM
namespace Go.AM
open Go.RowKit Go.Proofs
set_option linter.unusedSimpArgs false
set_option linter.unusedVariables false
set_option maxHeartbeats 4000000
def cov (r : Rlo) (s : Seg) : Bool := decide (s.frm ≤ r.at_) && decide (r.at_ + r.len ≤ s.frm + s.len)
def ixS (p : Seg → Bool) : Nat → List Seg → Int
 | _, [] => -1
 | i, s :: l => if p s = true then i else ixS p (i + 1) l
theorem ixS_any (p : Seg → Bool) : ∀ (l : List Seg) (i : Nat), decide (0 ≤ ixS p i l) = l.any p
 | [], i => by simp [ixS]
 | s :: l, i => by
  rw [ixS, List.any_cons]
  by_cases h : p s = true
  ·simp [h]
  ·rw [if_neg h, ixS_any p l (i + 1)]; simp [h]
def sOk (s : Seg) : Prop := 0 ≤ s.frm ∧ s.frm ≤ 1000000000000000000 ∧ 0 ≤ s.len ∧ s.len ≤ 65536
def rOk (r : Rlo) : Prop := 0 ≤ r.at_ ∧ r.at_ ≤ 1000000000000000000 ∧ 1 ≤ r.len ∧ r.len ≤ 4
abbrev HR (m : LMod) (r : Rlo) : List AObj := [.cells 40 (lmC m), .cells 85 [.v (.int .i64 r.at_), .v (.int .i64 r.len), .v (.bool r.neg)]]
theorem clos71_callW (m : LMod) (r : Rlo) (s : Seg) (hs : sOk s) (hr : rOk r) : wn9 Try.prog 71 [segA s, .loc 1 0] (HR m r) (fun v h => v = .v (.bool (cov r s)) ∧ h = HR m r) := by
 obtain ⟨s1, s2, s3, s4⟩ := hs
 obtain ⟨r1, r2, r3, r4⟩ := hr
 refine zk9 Try.func71 rfl (by decide +kernel) (by simp [Try.f71]) (rs := [.tmp 3]) rfl ?_
 rw [show Try.f71.ntmps = 22 from rfl]
 have w1 : IntKind.i64.wrap (r.at_ + r.len) = r.at_ + r.len := w64 (by omega) (by omega)
 have w2 : IntKind.i64.wrap (s.frm + s.len) = s.frm + s.len := w64 (by omega) (by omega)
 simp only [HR, lmC]
 refine yt9 [1, 2] (by simp; rfl) ?_
 by_cases c1 : s.frm ≤ r.at_
 ·by_cases c2 : r.at_ + r.len ≤ s.frm + s.len
  ·refine W_rK [3] ?_
   refine yq9 6 (by simp [w1, w2, c1, c2]; rfl) rfl ?_
   refine yq9 6 (by simp [w1, w2, c1, c2]; rfl) rfl ?_
   refine yq9 6 (by simp [w1, w2, c1, c2]; rfl) rfl ?_
   refine yr9 (by simp [w1, w2, c1, c2]; rfl) ?_
   refine zr9 ?_
   repeat (first | refine yl9 ?_ | refine yc9 ?_)
   exact xr9 2 (by simp [resA]; rfl) (by simp) (by simp) (by simp [AV.under, AV.underL, yg9, AObj.under]) (by simp [cov, c1, c2])
  refine W_rK [3] ?_
  refine yq9 6 (by simp [w1, w2, c1, c2]; rfl) rfl ?_
  refine yq9 6 (by simp [w1, w2, c1, c2]; rfl) rfl ?_
  refine yq9 6 (by simp [w1, w2, c1, c2]; rfl) rfl ?_
  refine yr9 (by simp [w1, w2, c1, c2]; rfl) ?_
  refine zr9 ?_
  repeat (first | refine yl9 ?_ | refine yc9 ?_)
  exact xr9 2 (by simp [resA]; rfl) (by simp) (by simp) (by simp [AV.under, AV.underL, yg9, AObj.under]) (by simp [cov, c1, c2])
 refine W_rK [3] ?_
 refine yq9 6 (by simp [w1, w2, c1]; rfl) rfl ?_
 refine yq9 6 (by simp [w1, w2, c1]; rfl) rfl ?_
 refine yq9 6 (by simp [w1, w2, c1]; rfl) rfl ?_
 refine yr9 (by simp [w1, w2, c1]; rfl) ?_
 refine zr9 ?_
 repeat (first | refine yl9 ?_ | refine yc9 ?_)
 exact xr9 2 (by simp [resA]; rfl) (by simp) (by simp) (by simp [AV.under, AV.underL, yg9, AObj.under]) (by simp [cov, c1])
theorem if95_callW (m : LMod) (r : Rlo) (hl : m.seg.length ≤ 100000) (hs : ∀ s ∈ m.seg, sOk s) (hr : rOk r) : wn9 Try.prog 95 [.lst .any 4 (sgL m.seg), .fn (.func 71) [] [.loc 1 0]] (HR m r) (fun v h => v = .v (.int .i64 (ixS (cov r) 0 m.seg)) ∧ h = HR m r) := by
 refine zk9 Try.func95 rfl (by decide +kernel) (by simp [Try.f95]) (rs := [.tmp 4]) rfl ?_
 rw [show Try.f95.ntmps = 19 from rfl]
 refine yt9 [0, 1] (by simp; rfl) ?_
 refine yk9 ?_
 refine yt9 [0, 1, 7, 8] (by simp; rfl) ?_
 refine yf9 ?_
 refine zn9 (fun k σ => ∃ i : Nat, k = m.seg.length - i ∧ i ≤ m.seg.length ∧ ixS (cov r) i (m.seg.drop i) = ixS (cov r) 0 m.seg ∧ σ = ⟨19, [(0, .lst .any 4 (sgL m.seg)), (1, .fn (.func 71) [] [.loc 1 0]), (7, .v (.int .i64 (m.seg.length : Nat))), (8, .v (.int .i64 (i : Nat)))], HR m r⟩) (k := m.seg.length) ⟨0, rfl, by omega, rfl, by simp⟩ ?_
 rintro k σ ⟨i, rfl, hi, hix, rfl⟩
 by_cases c : i < m.seg.length
 ·have ci : (i : Int) < m.seg.length := by omega
  obtain ⟨s, hsi⟩ : ∃ s, m.seg[i]? = some s := ⟨_, List.getElem?_eq_getElem c⟩
  have hs2 : m.seg[i]'c = s := by rw [List.getElem?_eq_getElem c] at hsi; exact Option.some.inj hsi
  have hdr : m.seg.drop i = s :: m.seg.drop (i + 1) := by rw [List.drop_eq_getElem_cons c, hs2]
  have wi := w64 (n := (i : Int) + 1) (by omega) (by omega)
  rw [hdr, ixS] at hix
  refine yt9 [0, 1, 7, 8, 9] (by simp [c]; rfl) ?_
  refine yk9 ?_
  refine yd9 rfl (fun h => ?_) (fun h => by simp at h)
  refine yh9 ?_
  refine yk9 ?_
  refine yf9 ?_
  refine yt9 [0, 1, 7, 8, 5] (by simp; rfl) ?_
  refine W_rK [0, 1, 7, 8, 5, 16] ?_
  refine yq9 5 (by simp [c, ci, hs2]; rfl) rfl ?_
  refine zg9 (by simp) (by first | (simp [zp9, zf9]; done) | (simp [zp9, zf9]; rfl)) ((clos71_callW m r s (hs s (List.mem_of_getElem? hsi)) hr).mono ?_)
  rintro _ _ ⟨rfl, rfl⟩
  refine ⟨_, rfl, ?_⟩
  refine yr9 (by simp; rfl) ?_
  by_cases hc : cov r s = true
  ·rw [if_pos hc] at hix
   refine yd9 (t := true) (by simp [hc]) (fun h => ?_) (fun h => by simp at h)
   refine yt9 [4] (by simp; rfl) ?_
   refine zr9 ?_
   repeat (first | refine yl9 ?_ | refine yc9 ?_)
   refine retW_mk (by simp [resA]; rfl) (by simp) (by simp [AV.under, AV.underL, yg9, AObj.under, lmC]) ⟨by simp [← hix], rfl⟩
  rw [if_neg hc] at hix
  refine yd9 (t := false) (by simp [hc]) (fun h => by simp at h) (fun h => ?_)
  refine yh9 ?_
  refine zs9 [0, 1, 7, 8] (by simp [wi]; rfl) ?_
  exact ⟨_, by omega, i + 1, rfl, by omega, hix, by simp⟩
 have hie : i = m.seg.length := by omega
 rw [hie, List.drop_length, ixS] at hix
 refine yt9 [0, 1, 7, 8, 9] (by simp [c]; rfl) ?_
 refine yk9 ?_
 refine yd9 rfl (fun h => by simp at h) (fun h => ?_)
 refine zh9 ?_
 refine yt9 [4] (by simp; rfl) ?_
 refine zr9 ?_
 repeat (first | refine yl9 ?_ | refine yc9 ?_)
 refine retW_mk (by simp [resA]; rfl) (by simp) (by simp [AV.under, AV.underL, yg9, AObj.under, lmC]) ⟨by simp [← hix], rfl⟩
theorem cf70_callW (m : LMod) (r : Rlo) (hl : m.seg.length ≤ 100000) (hs : ∀ s ∈ m.seg, sOk s) (hr : rOk r) : wn9 Try.prog 70 [.lst .any 4 (sgL m.seg), .fn (.func 71) [] [.loc 1 0]] (HR m r) (fun v h => v = .v (.bool (m.seg.any (cov r))) ∧ h = HR m r) := by
 refine zk9 Try.func70 rfl (by decide +kernel) (by simp [Try.f70]) (rs := [.tmp 4]) rfl ?_
 rw [show Try.f70.ntmps = 9 from rfl]
 refine yt9 [0, 1] (by simp; rfl) ?_
 refine W_rK [4] ?_
 refine yq9 2 (by simp; rfl) rfl ?_
 refine zg9 (by simp) (by first | (simp [zp9, zf9]; done) | (simp [zp9, zf9]; rfl)) ((if95_callW m r hl hs hr).mono ?_)
 rintro _ _ ⟨rfl, rfl⟩
 refine ⟨_, rfl, ?_⟩
 refine yr9 (by simp; rfl) ?_
 refine zr9 ?_
 repeat (first | refine yl9 ?_ | refine yc9 ?_)
 refine retW_mk (by simp [resA]; rfl) (by simp) (by simp [AV.under, AV.underL, yg9, AObj.under, lmC]) ⟨by simp [← ixS_any (cov r) m.seg 0], rfl⟩
theorem segGo_inv {l0 : List Seg} : ∀ (l : List Seg) (i : Nat) (fr e : Int), yr8 l0 i l fr = some e → 0 ≤ fr → fr ≤ e ∧ ∀ s ∈ l, 0 ≤ s.frm ∧ s.frm ≤ e ∧ 0 ≤ s.len ∧ s.len ≤ 65536
 | [], i, fr, e, h, h0 => by
  rw [yr8] at h
  injection h with h
  exact ⟨by omega, by simp⟩
 | s :: l, i, fr, e, h, h0 => by
  rw [yr8] at h
  split at h
  ·cases h
  rename_i h1
  split at h
  ·cases h
  obtain ⟨b1, b2, b3, b4, b5⟩ := seg1_ok (by simpa using h1)
  obtain ⟨k1, k2⟩ := segGo_inv l (i + 1) (fr + s.len) e h (by omega)
  refine ⟨by omega, fun t ht => ?_⟩
  rcases List.mem_cons.1 ht with rfl | ht
  ·exact ⟨by omega, by omega, by omega, by omega⟩
  ·exact k2 t ht
theorem segM_inv {m : LMod} (h : segM m = true) (ht : m.text.length ≤ 1000000000000000000) : 1 ≤ m.seg.length ∧ m.seg.length ≤ 64 ∧ ∀ s ∈ m.seg, sOk s := by
 rw [segM] at h
 cases hg : yr8 m.seg 0 m.seg 0 with
 | none => rw [hg] at h; cases h
 | some e =>
  rw [hg] at h
  simp only [segF, Bool.and_eq_true, decide_eq_true_eq] at h
  obtain ⟨h1, h2, h3⟩ := h
  obtain ⟨k1, k2⟩ := segGo_inv m.seg 0 0 e hg (by omega)
  refine ⟨h1, h2, fun s hs => ?_⟩
  obtain ⟨q1, q2, q3, q4⟩ := k2 s hs
  exact ⟨q1, by omega, q3, q4⟩
def ckB (m : LMod) : Bool := !segM m || (decide (8192 < m.rel.length) || (decide (m.entry < 0) || decide ((paS m.seg 0).len ≤ m.entry)))
def rl1 (m : LMod) (past : Int) (r : Rlo) : Bool := decide (r.at_ < past) || (decide ((m.text.length : Int) < r.at_) || (decide (r.len < 1) || decide (4 < r.len)))
def relGo (m : LMod) : List Rlo → Int → Bool
 | [], _ => true
 | r :: l, past => if rl1 m past r = true then false else if m.seg.any (cov r) = false then false else relGo m l (r.at_ + r.len)
def ckM (m : LMod) : Bool := !ckB m && relGo m m.rel 0
theorem checkLoad_sound (m : LMod) (hl : m.seg.length ≤ 100000) (ht : m.text.length ≤ 1000000000000000000) (hrl : m.rel.length ≤ 1000000000) : Sound Try.prog 34 [lmA m] (.v (.int .i64 (if ckM m = true then 0 else 310))) := by
 refine zl9 Try.func34 rfl (by decide +kernel) (by simp [Try.f34]) rfl rfl (rs := [.tmp 2]) rfl ?_
 rw [show Try.f34.ntmps = 70 from rfl]
 refine yt9 [1] (by simp; rfl) ?_
 refine yk9 ?_
 refine xg9 (fun σ => σ = ⟨70, [(1, .loc 0 0), (29, .v (.bool (ckB m)))], [.cells 40 (lmC m)]⟩) ?_ ?_
 ·by_cases a1 : segM m = true
  ·have a1t : segM m = true := a1
   have a1s : 1 ≤ m.seg.length := (segM_inv a1 ht).1
   have a1p : 0 < m.seg.length := a1s
   have a1q : (0 : Int) < m.seg.length := by omega
   obtain ⟨s0, hs0⟩ : ∃ s, m.seg[0]? = some s := ⟨_, List.getElem?_eq_getElem a1p⟩
   have hs0g : m.seg[0] = s0 := by rw [List.getElem?_eq_getElem a1p] at hs0; exact Option.some.inj hs0
   by_cases a2 : m.rel.length ≤ 8192
   ·have a20 : m.rel.length ≤ 8192 := a2
    have a2a : ((m.rel.length : Nat) : Int) ≤ 8192 := by omega
    have a2b : ¬ 8192 < m.rel.length := by omega
    have a2c : ¬ (8192 : Int) < (m.rel.length : Nat) := by omega
    by_cases a3 : m.entry < 0
    ·refine vh9 [1, 29] mx (by decide +kernel) ?_
     refine yw9 1 (by simp; rfl) rfl ?_
     refine yb9 (by simp) (by first | (simp; done) | (simp; rfl)) (yh8 m hl (by omega)) (by simp; rfl) ?_
     refine yw9 6 (by simp [lmC, a1t, a1s, a1p, a1q, hs0, hs0g, a20, a2a, a2b, a2c, a3]; rfl) rfl ?_
     refine yw9 6 (by simp [lmC, a1t, a1s, a1p, a1q, hs0, hs0g, a20, a2a, a2b, a2c, a3]; rfl) rfl ?_
     refine yw9 6 (by simp [lmC, a1t, a1s, a1p, a1q, hs0, hs0g, a20, a2a, a2b, a2c, a3]; rfl) rfl ?_
     refine yv9 (by simp [lmC, a1t, a1s, a1p, a1q, hs0, hs0g, a20, a2a, a2b, a2c, a3]; rfl) ?_
     simp [yp9, ckB, paS, lmC, a1t, a1s, a1p, a1q, hs0, hs0g, a20, a2a, a2b, a2c, a3]
    by_cases a4 : s0.len ≤ m.entry
    ·refine vh9 [1, 29] mx (by decide +kernel) ?_
     refine yw9 1 (by simp; rfl) rfl ?_
     refine yb9 (by simp) (by first | (simp; done) | (simp; rfl)) (yh8 m hl (by omega)) (by simp; rfl) ?_
     refine yw9 6 (by simp [lmC, a1t, a1s, a1p, a1q, hs0, hs0g, a20, a2a, a2b, a2c, a3, a4]; rfl) rfl ?_
     refine yw9 6 (by simp [lmC, a1t, a1s, a1p, a1q, hs0, hs0g, a20, a2a, a2b, a2c, a3, a4]; rfl) rfl ?_
     refine yw9 6 (by simp [lmC, a1t, a1s, a1p, a1q, hs0, hs0g, a20, a2a, a2b, a2c, a3, a4]; rfl) rfl ?_
     refine yv9 (by simp [lmC, a1t, a1s, a1p, a1q, hs0, hs0g, a20, a2a, a2b, a2c, a3, a4]; rfl) ?_
     simp [yp9, ckB, paS, lmC, a1t, a1s, a1p, a1q, hs0, hs0g, a20, a2a, a2b, a2c, a3, a4]
    have a4n : m.entry < s0.len := by omega
    have a4m : ¬ s0.len ≤ m.entry := a4
    refine vh9 [1, 29] mx (by decide +kernel) ?_
    refine yw9 1 (by simp; rfl) rfl ?_
    refine yb9 (by simp) (by first | (simp; done) | (simp; rfl)) (yh8 m hl (by omega)) (by simp; rfl) ?_
    refine yw9 6 (by simp [lmC, a1t, a1s, a1p, a1q, hs0, hs0g, a20, a2a, a2b, a2c, a3, a4n, a4m]; rfl) rfl ?_
    refine yw9 6 (by simp [lmC, a1t, a1s, a1p, a1q, hs0, hs0g, a20, a2a, a2b, a2c, a3, a4n, a4m]; rfl) rfl ?_
    refine yw9 6 (by simp [lmC, a1t, a1s, a1p, a1q, hs0, hs0g, a20, a2a, a2b, a2c, a3, a4n, a4m]; rfl) rfl ?_
    refine yv9 (by simp [lmC, a1t, a1s, a1p, a1q, hs0, hs0g, a20, a2a, a2b, a2c, a3, a4n, a4m]; rfl) ?_
    simp [yp9, ckB, paS, lmC, a1t, a1s, a1p, a1q, hs0, hs0g, a20, a2a, a2b, a2c, a3, a4n, a4m]
   have a20 : ¬ m.rel.length ≤ 8192 := a2
   have a2a : ¬ ((m.rel.length : Nat) : Int) ≤ 8192 := by omega
   have a2b : 8192 < m.rel.length := by omega
   have a2c : (8192 : Int) < (m.rel.length : Nat) := by omega
   refine vh9 [1, 29] mx (by decide +kernel) ?_
   refine yw9 1 (by simp; rfl) rfl ?_
   refine yb9 (by simp) (by first | (simp; done) | (simp; rfl)) (yh8 m hl (by omega)) (by simp; rfl) ?_
   refine yw9 6 (by simp [lmC, a1t, a1s, a1p, a1q, hs0, hs0g, a20, a2a, a2b, a2c]; rfl) rfl ?_
   refine yw9 6 (by simp [lmC, a1t, a1s, a1p, a1q, hs0, hs0g, a20, a2a, a2b, a2c]; rfl) rfl ?_
   refine yw9 6 (by simp [lmC, a1t, a1s, a1p, a1q, hs0, hs0g, a20, a2a, a2b, a2c]; rfl) rfl ?_
   refine yv9 (by simp [lmC, a1t, a1s, a1p, a1q, hs0, hs0g, a20, a2a, a2b, a2c]; rfl) ?_
   simp [yp9, ckB, paS, lmC, a1t, a1s, a1p, a1q, hs0, hs0g, a20, a2a, a2b, a2c]
  have a1f : segM m = false := by simpa using a1
  refine vh9 [1, 29] mx (by decide +kernel) ?_
  refine yw9 1 (by simp; rfl) rfl ?_
  refine yb9 (by simp) (by first | (simp; done) | (simp; rfl)) (yh8 m hl (by omega)) (by simp; rfl) ?_
  refine yw9 6 (by simp [lmC, a1f]; rfl) rfl ?_
  refine yw9 6 (by simp [lmC, a1f]; rfl) rfl ?_
  refine yw9 6 (by simp [lmC, a1f]; rfl) rfl ?_
  refine yv9 (by simp [lmC, a1f]; rfl) ?_
  simp [yp9, ckB, paS, lmC, a1f]
 rintro _ rfl
 by_cases hB : ckB m = true
 ·rw [hB]
  refine yd9 rfl (fun h => ?_) (fun h => by simp at h)
  refine yt9 [2] (by simp; rfl) ?_
  refine zr9 ?_
  repeat (first | refine yl9 ?_ | refine yc9 ?_)
  simp [retQ, ckM, hB]
 have hBf : ckB m = false := by simpa using hB
 have hsg : segM m = true := by
  simp only [ckB, Bool.or_eq_false_iff, Bool.not_eq_false'] at hBf
  exact hBf.1
 obtain ⟨g1, g2, hsok⟩ := segM_inv hsg ht
 rw [hBf]
 refine yd9 rfl (fun h => by simp at h) (fun h => ?_)
 refine yh9 ?_
 refine yt9 [1, 3] (by simp; rfl) ?_
 refine yk9 ?_
 refine yt9 [1, 3, 31, 32, 33] (by simp [lmC]; rfl) ?_
 refine yf9 ?_
 obtain ⟨R, hR⟩ : ∃ R, relGo m m.rel 0 = R := ⟨_, rfl⟩
 have hS : ckM m = R := by rw [ckM, hBf, hR]; rfl
 refine zn9 (fun k σ => ∃ (i : Nat) (past : Int), k = m.rel.length - i ∧ i ≤ m.rel.length ∧ relGo m (m.rel.drop i) past = R ∧ 0 ≤ past ∧ σ = ⟨70, [(1, .loc 0 0), (3, .v (.int .i64 past)), (31, .lst .any 3 (rlL m.rel)), (32, .v (.int .i64 (m.rel.length : Nat))), (33, .v (.int .i64 (i : Nat)))], [.cells 40 (lmC m)]⟩) (k := m.rel.length) ⟨0, 0, rfl, by omega, hR, by omega, by simp [lmC]⟩ ?_
 rintro k σ ⟨i, past, rfl, hi, hgo, hp0, rfl⟩
 by_cases c : i < m.rel.length
 ·have ci : (i : Int) < m.rel.length := by omega
  obtain ⟨r, hri⟩ : ∃ r, m.rel[i]? = some r := ⟨_, List.getElem?_eq_getElem c⟩
  have hr2 : m.rel[i]'c = r := by rw [List.getElem?_eq_getElem c] at hri; exact Option.some.inj hri
  have hdr : m.rel.drop i = r :: m.rel.drop (i + 1) := by rw [List.drop_eq_getElem_cons c, hr2]
  have wi := w64 (n := (i : Int) + 1) (by omega) (by omega)
  rw [hdr, relGo] at hgo
  have hret : R = false → ∀ (h : List AObj), retQ Try.prog [.tmp 2] (.v (.int .i64 (if ckM m = true then 0 else 310))) .ret ⟨70, [(2, .v (.int .i64 310))], h⟩ := by
   intro hR0 h
   simp [retQ, hS, hR0]
  refine yt9 [1, 3, 31, 32, 33, 34] (by simp [c]; rfl) ?_
  refine yk9 ?_
  refine yd9 rfl (fun h => ?_) (fun h => by simp at h)
  refine yh9 ?_
  refine yk9 ?_
  refine yf9 ?_
  refine yt9 [1, 3, 31, 32, 33, 5] (by simp [c, ci, hr2, lmC, ys9, AV.weakL, AV.weak, AV.koneL, AV.kone]; rfl) ?_
  refine yk9 ?_
  refine xg9 (fun σ => σ = ⟨70, [(1, .loc 0 0), (3, .v (.int .i64 past)), (31, .lst .any 3 (rlL m.rel)), (32, .v (.int .i64 (m.rel.length : Nat))), (33, .v (.int .i64 (i : Nat))), (5, .loc 1 0), (58, .v (.bool (rl1 m past r)))], HR m r⟩) ?_ ?_
  ·by_cases b1 : r.at_ < past
   ·refine W_rE [1, 3, 31, 32, 33, 5, 58] ?_
    refine yq9 6 (by simp [lmC, b1]; rfl) rfl ?_
    refine yq9 6 (by simp [lmC, b1]; rfl) rfl ?_
    refine yq9 6 (by simp [lmC, b1]; rfl) rfl ?_
    refine yr9 (by simp [lmC, b1]; rfl) ?_
    simp [yp9, rl1, lmC, b1]
   by_cases b2 : (m.text.length : Int) < r.at_
   ·refine W_rE [1, 3, 31, 32, 33, 5, 58] ?_
    refine yq9 6 (by simp [lmC, b1, b2]; rfl) rfl ?_
    refine yq9 6 (by simp [lmC, b1, b2]; rfl) rfl ?_
    refine yq9 6 (by simp [lmC, b1, b2]; rfl) rfl ?_
    refine yr9 (by simp [lmC, b1, b2]; rfl) ?_
    simp [yp9, rl1, lmC, b1, b2]
   by_cases b3 : r.len < 1
   ·refine W_rE [1, 3, 31, 32, 33, 5, 58] ?_
    refine yq9 6 (by simp [lmC, b1, b2, b3]; rfl) rfl ?_
    refine yq9 6 (by simp [lmC, b1, b2, b3]; rfl) rfl ?_
    refine yq9 6 (by simp [lmC, b1, b2, b3]; rfl) rfl ?_
    refine yr9 (by simp [lmC, b1, b2, b3]; rfl) ?_
    simp [yp9, rl1, lmC, b1, b2, b3]
   by_cases b4 : 4 < r.len
   ·refine W_rE [1, 3, 31, 32, 33, 5, 58] ?_
    refine yq9 6 (by simp [lmC, b1, b2, b3, b4]; rfl) rfl ?_
    refine yq9 6 (by simp [lmC, b1, b2, b3, b4]; rfl) rfl ?_
    refine yq9 6 (by simp [lmC, b1, b2, b3, b4]; rfl) rfl ?_
    refine yr9 (by simp [lmC, b1, b2, b3, b4]; rfl) ?_
    simp [yp9, rl1, lmC, b1, b2, b3, b4]
   refine W_rE [1, 3, 31, 32, 33, 5, 58] ?_
   refine yq9 6 (by simp [lmC, b1, b2, b3, b4]; rfl) rfl ?_
   refine yq9 6 (by simp [lmC, b1, b2, b3, b4]; rfl) rfl ?_
   refine yq9 6 (by simp [lmC, b1, b2, b3, b4]; rfl) rfl ?_
   refine yr9 (by simp [lmC, b1, b2, b3, b4]; rfl) ?_
   simp [yp9, rl1, lmC, b1, b2, b3, b4]
  rintro _ rfl
  by_cases h1 : rl1 m past r = true
  ·rw [if_pos h1] at hgo
   rw [h1]
   refine yd9 rfl (fun h => ?_) (fun h => by simp at h)
   refine yt9 [2] (by simp; rfl) ?_
   refine zr9 ?_
   repeat (first | refine yl9 ?_ | refine yc9 ?_)
   exact hret hgo.symm _
  have h1f : rl1 m past r = false := by simpa using h1
  rw [if_neg h1] at hgo
  have hrb := h1f
  simp only [rl1, Bool.or_eq_false_iff, decide_eq_false_iff_not] at hrb
  obtain ⟨b1, b2, b3, b4⟩ := hrb
  have hrok : rOk r := ⟨by omega, by omega, by omega, by omega⟩
  rw [h1f]
  refine yd9 rfl (fun h => by simp at h) (fun h => ?_)
  refine yh9 ?_
  refine yk9 ?_
  refine W_rK [1, 3, 31, 32, 33, 5, 63] ?_
  refine yq9 3 (by simp [lmC, AV.weakL, AV.weak]; rfl) rfl ?_
  refine zg9 (by simp) (by first | (simp [zp9, zf9]; done) | (simp [zp9, zf9]; rfl)) ((cf70_callW m r hl hsok hrok).mono ?_)
  rintro _ _ ⟨rfl, rfl⟩
  refine ⟨_, rfl, ?_⟩
  refine yr9 (by simp; rfl) ?_
  by_cases h2 : m.seg.any (cov r) = false
  ·rw [if_pos h2] at hgo
   refine yd9 (t := true) (by simp [h2]) (fun h => ?_) (fun h => by simp at h)
   refine yt9 [2] (by simp; rfl) ?_
   refine zr9 ?_
   repeat (first | refine yl9 ?_ | refine yc9 ?_)
   exact hret hgo.symm _
  rw [if_neg h2] at hgo
  have h2t : m.seg.any (cov r) = true := by simpa using h2
  have w7 : IntKind.i64.wrap (r.at_ + r.len) = r.at_ + r.len := w64 (by omega) (by omega)
  refine yd9 (t := false) (by simp [h2t]) (fun h => by simp at h) (fun h => ?_)
  refine yh9 ?_
  refine zs9 [1, 3, 31, 32, 33] (by simp [w7]; rfl) ?_
  refine xd9 1 (Nat.zero_le _) (by simp) (by simp [yn9, AV.under, AV.underL]) (by simp [yg9, AObj.under, lmC, AV.under, AV.underL]) ?_
  refine zs9 [1, 3, 31, 32, 33] (by simp [wi]; rfl) ?_
  exact ⟨_, by omega, i + 1, r.at_ + r.len, rfl, by omega, hgo, by omega, by simp [lmC]⟩
 have hie : i = m.rel.length := by omega
 rw [hie, List.drop_length, relGo] at hgo
 refine yt9 [1, 3, 31, 32, 33, 34] (by simp [c]; rfl) ?_
 refine yk9 ?_
 refine yd9 rfl (fun h => by simp at h) (fun h => ?_)
 refine zh9 ?_
 refine yt9 [2] (by simp; rfl) ?_
 refine zr9 ?_
 repeat (first | refine yl9 ?_ | refine yc9 ?_)
 simp [retQ, hS, ← hgo]
end Go.AM
namespace Go.AM
open Go.RowKit Go.Proofs
set_option linter.unusedSimpArgs false
set_option linter.unusedVariables false
set_option maxHeartbeats 4000000
def sA (s : Seg) : Bool := !decide (s.par = -1) || (!decide (s.org = 0) || decide (s.len < 1))
def sB (l : List Seg) (i : Nat) (s : Seg) : Bool := decide (s.par < 0) || (decide ((i : Int) ≤ s.par) || decide (s.org < (paS l s.par).org + (paS l s.par).len))
theorem seg2_eq (l : List Seg) (i : Nat) (s : Seg) : seg2 l i s = if i = 0 then sA s else sB l i s := rfl
end Go.AM
