/- Parts of the walk: C31O C31P C31Q. -/
import Derived.Test.YtlhaljblcimnbaaG3
namespace Go.AM
open Go.RowKit Go.Proofs
set_option linter.unusedSimpArgs false
set_option linter.unusedVariables false
set_option maxHeartbeats 4000000
def cov (r : Rlo) (s : Seg) : Bool := decide (s.frm ≤ r.at_) && decide (r.at_ + r.len ≤ s.frm + s.len)
def ixS (p : Seg → Bool) : Nat → List Seg → Int
 | _, [] => -1
 | i, s :: l => if p s = true then i else ixS p (i + 1) l
theorem ixS_any (p : Seg → Bool) : ∀ (l : List Seg) (i : Nat), decide (0 ≤ ixS p i l) = l.any p
 | [], i => by simp [ixS]
 | s :: l, i => by
  rw [ixS, List.any_cons]
  by_cases h : p s = true
  ·simp [h]
  ·rw [if_neg h, ixS_any p l (i + 1)]; simp [h]
def sOk (s : Seg) : Prop := 0 ≤ s.frm ∧ s.frm ≤ 1000000000000000000 ∧ 0 ≤ s.len ∧ s.len ≤ 65536
def rOk (r : Rlo) : Prop := 0 ≤ r.at_ ∧ r.at_ ≤ 1000000000000000000 ∧ 1 ≤ r.len ∧ r.len ≤ 4
abbrev HR (m : LMod) (r : Rlo) : List AObj := [.cells 40 (lmC m), .cells 85 [.v (.int .i64 r.at_), .v (.int .i64 r.len), .v (.bool r.neg)]]
theorem clos71_callW (m : LMod) (r : Rlo) (s : Seg) (hs : sOk s) (hr : rOk r) : CallW Try.prog 71 [segA s, .loc 1 0] (HR m r) (fun v h => v = .v (.bool (cov r s)) ∧ h = HR m r) := by
 obtain ⟨s1, s2, s3, s4⟩ := hs
 obtain ⟨r1, r2, r3, r4⟩ := hr
 refine callW_of_W Try.func71 rfl (by decide +kernel) (by simp [Try.f71]) (rs := [.tmp 3]) rfl ?_
 rw [show Try.f71.ntmps = 22 from rfl]
 have w1 : IntKind.i64.wrap (r.at_ + r.len) = r.at_ + r.len := w64 (by omega) (by omega)
 have w2 : IntKind.i64.wrap (s.frm + s.len) = s.frm + s.len := w64 (by omega) (by omega)
 simp only [HR, lmC]
 refine W_evK [1, 2] (by simp; rfl) ?_
 by_cases c1 : s.frm ≤ r.at_
 ·by_cases c2 : r.at_ + r.len ≤ s.frm + s.len
  ·refine W_rK [3] ?_
   refine runA_pre 6 (by simp [w1, w2, c1, c2]; rfl) rfl ?_
   refine runA_pre 6 (by simp [w1, w2, c1, c2]; rfl) rfl ?_
   refine runA_pre 6 (by simp [w1, w2, c1, c2]; rfl) rfl ?_
   refine runA_fin (by simp [w1, w2, c1, c2]; rfl) ?_
   refine W_ret ?_
   repeat (first | refine on_ret ?_ | refine in_ret ?_)
   exact retW_cut 2 (by simp [resA]; rfl) (by simp) (by simp) (by simp [AV.under, AV.underL, underH, AObj.under]) (by simp [cov, c1, c2])
  refine W_rK [3] ?_
  refine runA_pre 6 (by simp [w1, w2, c1, c2]; rfl) rfl ?_
  refine runA_pre 6 (by simp [w1, w2, c1, c2]; rfl) rfl ?_
  refine runA_pre 6 (by simp [w1, w2, c1, c2]; rfl) rfl ?_
  refine runA_fin (by simp [w1, w2, c1, c2]; rfl) ?_
  refine W_ret ?_
  repeat (first | refine on_ret ?_ | refine in_ret ?_)
  exact retW_cut 2 (by simp [resA]; rfl) (by simp) (by simp) (by simp [AV.under, AV.underL, underH, AObj.under]) (by simp [cov, c1, c2])
 refine W_rK [3] ?_
 refine runA_pre 6 (by simp [w1, w2, c1]; rfl) rfl ?_
 refine runA_pre 6 (by simp [w1, w2, c1]; rfl) rfl ?_
 refine runA_pre 6 (by simp [w1, w2, c1]; rfl) rfl ?_
 refine runA_fin (by simp [w1, w2, c1]; rfl) ?_
 refine W_ret ?_
 repeat (first | refine on_ret ?_ | refine in_ret ?_)
 exact retW_cut 2 (by simp [resA]; rfl) (by simp) (by simp) (by simp [AV.under, AV.underL, underH, AObj.under]) (by simp [cov, c1])
theorem if95_callW (m : LMod) (r : Rlo) (hl : m.seg.length ≤ 100000) (hs : ∀ s ∈ m.seg, sOk s) (hr : rOk r) : CallW Try.prog 95 [.lst .any 4 (sgL m.seg), .fn (.func 71) [] [.loc 1 0]] (HR m r) (fun v h => v = .v (.int .i64 (ixS (cov r) 0 m.seg)) ∧ h = HR m r) := by
 refine callW_of_W Try.func95 rfl (by decide +kernel) (by simp [Try.f95]) (rs := [.tmp 4]) rfl ?_
 rw [show Try.f95.ntmps = 19 from rfl]
 refine W_evK [0, 1] (by simp; rfl) ?_
 refine W_seq ?_
 refine W_evK [0, 1, 7, 8] (by simp; rfl) ?_
 refine W_block ?_
 refine W_loop (fun k σ => ∃ i : Nat, k = m.seg.length - i ∧ i ≤ m.seg.length ∧ ixS (cov r) i (m.seg.drop i) = ixS (cov r) 0 m.seg ∧ σ = ⟨19, [(0, .lst .any 4 (sgL m.seg)), (1, .fn (.func 71) [] [.loc 1 0]), (7, .v (.int .i64 (m.seg.length : Nat))), (8, .v (.int .i64 (i : Nat)))], HR m r⟩) (k := m.seg.length) ⟨0, rfl, by omega, rfl, by simp⟩ ?_
 rintro k σ ⟨i, rfl, hi, hix, rfl⟩
 by_cases c : i < m.seg.length
 ·have ci : (i : Int) < m.seg.length := by omega
  obtain ⟨s, hsi⟩ : ∃ s, m.seg[i]? = some s := ⟨_, List.getElem?_eq_getElem c⟩
  have hs2 : m.seg[i]'c = s := by rw [List.getElem?_eq_getElem c] at hsi; exact Option.some.inj hsi
  have hdr : m.seg.drop i = s :: m.seg.drop (i + 1) := by rw [List.drop_eq_getElem_cons c, hs2]
  have wi := w64 (n := (i : Int) + 1) (by omega) (by omega)
  rw [hdr, ixS] at hix
  refine W_evK [0, 1, 7, 8, 9] (by simp [c]; rfl) ?_
  refine W_seq ?_
  refine W_cond rfl (fun h => ?_) (fun h => by simp at h)
  refine W_skip ?_
  refine W_seq ?_
  refine W_block ?_
  refine W_evK [0, 1, 7, 8, 5] (by simp; rfl) ?_
  refine W_rK [0, 1, 7, 8, 5, 16] ?_
  refine runA_pre 5 (by simp [c, ci, hs2]; rfl) rfl ?_
  refine runA_obj (by simp) (by first | (simp [callArgsO, calleeA]; done) | (simp [callArgsO, calleeA]; rfl)) ((clos71_callW m r s (hs s (List.mem_of_getElem? hsi)) hr).mono ?_)
  rintro _ _ ⟨rfl, rfl⟩
  refine ⟨_, rfl, ?_⟩
  refine runA_fin (by simp; rfl) ?_
  by_cases hc : cov r s = true
  ·rw [if_pos hc] at hix
   refine W_cond (t := true) (by simp [hc]) (fun h => ?_) (fun h => by simp at h)
   refine W_evK [4] (by simp; rfl) ?_
   refine W_ret ?_
   repeat (first | refine on_ret ?_ | refine in_ret ?_)
   refine retW_mk (by simp [resA]; rfl) (by simp) (by simp [AV.under, AV.underL, underH, AObj.under, lmC]) ⟨by simp [← hix], rfl⟩
  rw [if_neg hc] at hix
  refine W_cond (t := false) (by simp [hc]) (fun h => by simp at h) (fun h => ?_)
  refine W_skip ?_
  refine W_evE [0, 1, 7, 8] (by simp [wi]; rfl) ?_
  exact ⟨_, by omega, i + 1, rfl, by omega, hix, by simp⟩
 have hie : i = m.seg.length := by omega
 rw [hie, List.drop_length, ixS] at hix
 refine W_evK [0, 1, 7, 8, 9] (by simp [c]; rfl) ?_
 refine W_seq ?_
 refine W_cond rfl (fun h => by simp at h) (fun h => ?_)
 refine W_exit ?_
 refine W_evK [4] (by simp; rfl) ?_
 refine W_ret ?_
 repeat (first | refine on_ret ?_ | refine in_ret ?_)
 refine retW_mk (by simp [resA]; rfl) (by simp) (by simp [AV.under, AV.underL, underH, AObj.under, lmC]) ⟨by simp [← hix], rfl⟩
theorem cf70_callW (m : LMod) (r : Rlo) (hl : m.seg.length ≤ 100000) (hs : ∀ s ∈ m.seg, sOk s) (hr : rOk r) : CallW Try.prog 70 [.lst .any 4 (sgL m.seg), .fn (.func 71) [] [.loc 1 0]] (HR m r) (fun v h => v = .v (.bool (m.seg.any (cov r))) ∧ h = HR m r) := by
 refine callW_of_W Try.func70 rfl (by decide +kernel) (by simp [Try.f70]) (rs := [.tmp 4]) rfl ?_
 rw [show Try.f70.ntmps = 9 from rfl]
 refine W_evK [0, 1] (by simp; rfl) ?_
 refine W_rK [4] ?_
 refine runA_pre 2 (by simp; rfl) rfl ?_
 refine runA_obj (by simp) (by first | (simp [callArgsO, calleeA]; done) | (simp [callArgsO, calleeA]; rfl)) ((if95_callW m r hl hs hr).mono ?_)
 rintro _ _ ⟨rfl, rfl⟩
 refine ⟨_, rfl, ?_⟩
 refine runA_fin (by simp; rfl) ?_
 refine W_ret ?_
 repeat (first | refine on_ret ?_ | refine in_ret ?_)
 refine retW_mk (by simp [resA]; rfl) (by simp) (by simp [AV.under, AV.underL, underH, AObj.under, lmC]) ⟨by simp [← ixS_any (cov r) m.seg 0], rfl⟩
theorem segGo_inv {l0 : List Seg} : ∀ (l : List Seg) (i : Nat) (fr e : Int), segGo l0 i l fr = some e → 0 ≤ fr → fr ≤ e ∧ ∀ s ∈ l, 0 ≤ s.frm ∧ s.frm ≤ e ∧ 0 ≤ s.len ∧ s.len ≤ 65536
 | [], i, fr, e, h, h0 => by
  rw [segGo] at h
  injection h with h
  exact ⟨by omega, by simp⟩
 | s :: l, i, fr, e, h, h0 => by
  rw [segGo] at h
  split at h
  ·cases h
  rename_i h1
  split at h
  ·cases h
  obtain ⟨b1, b2, b3, b4, b5⟩ := seg1_ok (by simpa using h1)
  obtain ⟨k1, k2⟩ := segGo_inv l (i + 1) (fr + s.len) e h (by omega)
  refine ⟨by omega, fun t ht => ?_⟩
  rcases List.mem_cons.1 ht with rfl | ht
  ·exact ⟨by omega, by omega, by omega, by omega⟩
  ·exact k2 t ht
theorem segM_inv {m : LMod} (h : segM m = true) (ht : m.text.length ≤ 1000000000000000000) : 1 ≤ m.seg.length ∧ m.seg.length ≤ 64 ∧ ∀ s ∈ m.seg, sOk s := by
 rw [segM] at h
 cases hg : segGo m.seg 0 m.seg 0 with
 | none => rw [hg] at h; cases h
 | some e =>
  rw [hg] at h
  simp only [segF, Bool.and_eq_true, decide_eq_true_eq] at h
  obtain ⟨h1, h2, h3⟩ := h
  obtain ⟨k1, k2⟩ := segGo_inv m.seg 0 0 e hg (by omega)
  refine ⟨h1, h2, fun s hs => ?_⟩
  obtain ⟨q1, q2, q3, q4⟩ := k2 s hs
  exact ⟨q1, by omega, q3, q4⟩
def ckB (m : LMod) : Bool := !segM m || (decide (8192 < m.rel.length) || (decide (m.entry < 0) || decide ((paS m.seg 0).len ≤ m.entry)))
def rl1 (m : LMod) (past : Int) (r : Rlo) : Bool := decide (r.at_ < past) || (decide ((m.text.length : Int) < r.at_) || (decide (r.len < 1) || decide (4 < r.len)))
def relGo (m : LMod) : List Rlo → Int → Bool
 | [], _ => true
 | r :: l, past => if rl1 m past r = true then false else if m.seg.any (cov r) = false then false else relGo m l (r.at_ + r.len)
def ckM (m : LMod) : Bool := !ckB m && relGo m m.rel 0
theorem checkLoad_sound (m : LMod) (hl : m.seg.length ≤ 100000) (ht : m.text.length ≤ 1000000000000000000) (hrl : m.rel.length ≤ 1000000000) : Sound Try.prog 34 [lmA m] (.v (.int .i64 (if ckM m = true then 0 else 310))) := by
 refine sound_of_W Try.func34 rfl (by decide +kernel) (by simp [Try.f34]) rfl rfl (rs := [.tmp 2]) rfl ?_
 rw [show Try.f34.ntmps = 70 from rfl]
 refine W_evK [1] (by simp; rfl) ?_
 refine W_seq ?_
 refine W_seqC (fun σ => σ = ⟨70, [(1, .loc 0 0), (29, .v (.bool (ckB m)))], [.cells 40 (lmC m)]⟩) ?_ ?_
 ·by_cases a1 : segM m = true
  ·have a1t : segM m = true := a1
   have a1s : 1 ≤ m.seg.length := (segM_inv a1 ht).1
   have a1p : 0 < m.seg.length := a1s
   have a1q : (0 : Int) < m.seg.length := by omega
   obtain ⟨s0, hs0⟩ : ∃ s, m.seg[0]? = some s := ⟨_, List.getElem?_eq_getElem a1p⟩
   have hs0g : m.seg[0] = s0 := by rw [List.getElem?_eq_getElem a1p] at hs0; exact Option.some.inj hs0
   by_cases a2 : m.rel.length ≤ 8192
   ·have a20 : m.rel.length ≤ 8192 := a2
    have a2a : ((m.rel.length : Nat) : Int) ≤ 8192 := by omega
    have a2b : ¬ 8192 < m.rel.length := by omega
    have a2c : ¬ (8192 : Int) < (m.rel.length : Nat) := by omega
    by_cases a3 : m.entry < 0
    ·refine W_rdE [1, 29] mx (by decide +kernel) ?_
     refine runD_pre 1 (by simp; rfl) rfl ?_
     refine runD_call (by simp) (by first | (simp; done) | (simp; rfl)) (validSeg_sound m hl (by omega)) (by simp; rfl) ?_
     refine runD_pre 6 (by simp [lmC, a1t, a1s, a1p, a1q, hs0, hs0g, a20, a2a, a2b, a2c, a3]; rfl) rfl ?_
     refine runD_pre 6 (by simp [lmC, a1t, a1s, a1p, a1q, hs0, hs0g, a20, a2a, a2b, a2c, a3]; rfl) rfl ?_
     refine runD_pre 6 (by simp [lmC, a1t, a1s, a1p, a1q, hs0, hs0g, a20, a2a, a2b, a2c, a3]; rfl) rfl ?_
     refine runD_fin (by simp [lmC, a1t, a1s, a1p, a1q, hs0, hs0g, a20, a2a, a2b, a2c, a3]; rfl) ?_
     simp [onNormal, ckB, paS, lmC, a1t, a1s, a1p, a1q, hs0, hs0g, a20, a2a, a2b, a2c, a3]
    by_cases a4 : s0.len ≤ m.entry
    ·refine W_rdE [1, 29] mx (by decide +kernel) ?_
     refine runD_pre 1 (by simp; rfl) rfl ?_
     refine runD_call (by simp) (by first | (simp; done) | (simp; rfl)) (validSeg_sound m hl (by omega)) (by simp; rfl) ?_
     refine runD_pre 6 (by simp [lmC, a1t, a1s, a1p, a1q, hs0, hs0g, a20, a2a, a2b, a2c, a3, a4]; rfl) rfl ?_
     refine runD_pre 6 (by simp [lmC, a1t, a1s, a1p, a1q, hs0, hs0g, a20, a2a, a2b, a2c, a3, a4]; rfl) rfl ?_
     refine runD_pre 6 (by simp [lmC, a1t, a1s, a1p, a1q, hs0, hs0g, a20, a2a, a2b, a2c, a3, a4]; rfl) rfl ?_
     refine runD_fin (by simp [lmC, a1t, a1s, a1p, a1q, hs0, hs0g, a20, a2a, a2b, a2c, a3, a4]; rfl) ?_
     simp [onNormal, ckB, paS, lmC, a1t, a1s, a1p, a1q, hs0, hs0g, a20, a2a, a2b, a2c, a3, a4]
    have a4n : m.entry < s0.len := by omega
    have a4m : ¬ s0.len ≤ m.entry := a4
    refine W_rdE [1, 29] mx (by decide +kernel) ?_
    refine runD_pre 1 (by simp; rfl) rfl ?_
    refine runD_call (by simp) (by first | (simp; done) | (simp; rfl)) (validSeg_sound m hl (by omega)) (by simp; rfl) ?_
    refine runD_pre 6 (by simp [lmC, a1t, a1s, a1p, a1q, hs0, hs0g, a20, a2a, a2b, a2c, a3, a4n, a4m]; rfl) rfl ?_
    refine runD_pre 6 (by simp [lmC, a1t, a1s, a1p, a1q, hs0, hs0g, a20, a2a, a2b, a2c, a3, a4n, a4m]; rfl) rfl ?_
    refine runD_pre 6 (by simp [lmC, a1t, a1s, a1p, a1q, hs0, hs0g, a20, a2a, a2b, a2c, a3, a4n, a4m]; rfl) rfl ?_
    refine runD_fin (by simp [lmC, a1t, a1s, a1p, a1q, hs0, hs0g, a20, a2a, a2b, a2c, a3, a4n, a4m]; rfl) ?_
    simp [onNormal, ckB, paS, lmC, a1t, a1s, a1p, a1q, hs0, hs0g, a20, a2a, a2b, a2c, a3, a4n, a4m]
   have a20 : ¬ m.rel.length ≤ 8192 := a2
   have a2a : ¬ ((m.rel.length : Nat) : Int) ≤ 8192 := by omega
   have a2b : 8192 < m.rel.length := by omega
   have a2c : (8192 : Int) < (m.rel.length : Nat) := by omega
   refine W_rdE [1, 29] mx (by decide +kernel) ?_
   refine runD_pre 1 (by simp; rfl) rfl ?_
   refine runD_call (by simp) (by first | (simp; done) | (simp; rfl)) (validSeg_sound m hl (by omega)) (by simp; rfl) ?_
   refine runD_pre 6 (by simp [lmC, a1t, a1s, a1p, a1q, hs0, hs0g, a20, a2a, a2b, a2c]; rfl) rfl ?_
   refine runD_pre 6 (by simp [lmC, a1t, a1s, a1p, a1q, hs0, hs0g, a20, a2a, a2b, a2c]; rfl) rfl ?_
   refine runD_pre 6 (by simp [lmC, a1t, a1s, a1p, a1q, hs0, hs0g, a20, a2a, a2b, a2c]; rfl) rfl ?_
   refine runD_fin (by simp [lmC, a1t, a1s, a1p, a1q, hs0, hs0g, a20, a2a, a2b, a2c]; rfl) ?_
   simp [onNormal, ckB, paS, lmC, a1t, a1s, a1p, a1q, hs0, hs0g, a20, a2a, a2b, a2c]
  have a1f : segM m = false := by simpa using a1
  refine W_rdE [1, 29] mx (by decide +kernel) ?_
  refine runD_pre 1 (by simp; rfl) rfl ?_
  refine runD_call (by simp) (by first | (simp; done) | (simp; rfl)) (validSeg_sound m hl (by omega)) (by simp; rfl) ?_
  refine runD_pre 6 (by simp [lmC, a1f]; rfl) rfl ?_
  refine runD_pre 6 (by simp [lmC, a1f]; rfl) rfl ?_
  refine runD_pre 6 (by simp [lmC, a1f]; rfl) rfl ?_
  refine runD_fin (by simp [lmC, a1f]; rfl) ?_
  simp [onNormal, ckB, paS, lmC, a1f]
 rintro _ rfl
 by_cases hB : ckB m = true
 ·rw [hB]
  refine W_cond rfl (fun h => ?_) (fun h => by simp at h)
  refine W_evK [2] (by simp; rfl) ?_
  refine W_ret ?_
  repeat (first | refine on_ret ?_ | refine in_ret ?_)
  simp [retQ, ckM, hB]
 have hBf : ckB m = false := by simpa using hB
 have hsg : segM m = true := by
  simp only [ckB, Bool.or_eq_false_iff, Bool.not_eq_false'] at hBf
  exact hBf.1
 obtain ⟨g1, g2, hsok⟩ := segM_inv hsg ht
 rw [hBf]
 refine W_cond rfl (fun h => by simp at h) (fun h => ?_)
 refine W_skip ?_
 refine W_evK [1, 3] (by simp; rfl) ?_
 refine W_seq ?_
 refine W_evK [1, 3, 31, 32, 33] (by simp [lmC]; rfl) ?_
 refine W_block ?_
 obtain ⟨R, hR⟩ : ∃ R, relGo m m.rel 0 = R := ⟨_, rfl⟩
 have hS : ckM m = R := by rw [ckM, hBf, hR]; rfl
 refine W_loop (fun k σ => ∃ (i : Nat) (past : Int), k = m.rel.length - i ∧ i ≤ m.rel.length ∧ relGo m (m.rel.drop i) past = R ∧ 0 ≤ past ∧ σ = ⟨70, [(1, .loc 0 0), (3, .v (.int .i64 past)), (31, .lst .any 3 (rlL m.rel)), (32, .v (.int .i64 (m.rel.length : Nat))), (33, .v (.int .i64 (i : Nat)))], [.cells 40 (lmC m)]⟩) (k := m.rel.length) ⟨0, 0, rfl, by omega, hR, by omega, by simp [lmC]⟩ ?_
 rintro k σ ⟨i, past, rfl, hi, hgo, hp0, rfl⟩
 by_cases c : i < m.rel.length
 ·have ci : (i : Int) < m.rel.length := by omega
  obtain ⟨r, hri⟩ : ∃ r, m.rel[i]? = some r := ⟨_, List.getElem?_eq_getElem c⟩
  have hr2 : m.rel[i]'c = r := by rw [List.getElem?_eq_getElem c] at hri; exact Option.some.inj hri
  have hdr : m.rel.drop i = r :: m.rel.drop (i + 1) := by rw [List.drop_eq_getElem_cons c, hr2]
  have wi := w64 (n := (i : Int) + 1) (by omega) (by omega)
  rw [hdr, relGo] at hgo
  have hret : R = false → ∀ (h : List AObj), retQ Try.prog [.tmp 2] (.v (.int .i64 (if ckM m = true then 0 else 310))) .ret ⟨70, [(2, .v (.int .i64 310))], h⟩ := by
   intro hR0 h
   simp [retQ, hS, hR0]
  refine W_evK [1, 3, 31, 32, 33, 34] (by simp [c]; rfl) ?_
  refine W_seq ?_
  refine W_cond rfl (fun h => ?_) (fun h => by simp at h)
  refine W_skip ?_
  refine W_seq ?_
  refine W_block ?_
  refine W_evK [1, 3, 31, 32, 33, 5] (by simp [c, ci, hr2, lmC, setSeg, AV.weakL, AV.weak, AV.koneL, AV.kone]; rfl) ?_
  refine W_seq ?_
  refine W_seqC (fun σ => σ = ⟨70, [(1, .loc 0 0), (3, .v (.int .i64 past)), (31, .lst .any 3 (rlL m.rel)), (32, .v (.int .i64 (m.rel.length : Nat))), (33, .v (.int .i64 (i : Nat))), (5, .loc 1 0), (58, .v (.bool (rl1 m past r)))], HR m r⟩) ?_ ?_
  ·by_cases b1 : r.at_ < past
   ·refine W_rE [1, 3, 31, 32, 33, 5, 58] ?_
    refine runA_pre 6 (by simp [lmC, b1]; rfl) rfl ?_
    refine runA_pre 6 (by simp [lmC, b1]; rfl) rfl ?_
    refine runA_pre 6 (by simp [lmC, b1]; rfl) rfl ?_
    refine runA_fin (by simp [lmC, b1]; rfl) ?_
    simp [onNormal, rl1, lmC, b1]
   by_cases b2 : (m.text.length : Int) < r.at_
   ·refine W_rE [1, 3, 31, 32, 33, 5, 58] ?_
    refine runA_pre 6 (by simp [lmC, b1, b2]; rfl) rfl ?_
    refine runA_pre 6 (by simp [lmC, b1, b2]; rfl) rfl ?_
    refine runA_pre 6 (by simp [lmC, b1, b2]; rfl) rfl ?_
    refine runA_fin (by simp [lmC, b1, b2]; rfl) ?_
    simp [onNormal, rl1, lmC, b1, b2]
   by_cases b3 : r.len < 1
   ·refine W_rE [1, 3, 31, 32, 33, 5, 58] ?_
    refine runA_pre 6 (by simp [lmC, b1, b2, b3]; rfl) rfl ?_
    refine runA_pre 6 (by simp [lmC, b1, b2, b3]; rfl) rfl ?_
    refine runA_pre 6 (by simp [lmC, b1, b2, b3]; rfl) rfl ?_
    refine runA_fin (by simp [lmC, b1, b2, b3]; rfl) ?_
    simp [onNormal, rl1, lmC, b1, b2, b3]
   by_cases b4 : 4 < r.len
   ·refine W_rE [1, 3, 31, 32, 33, 5, 58] ?_
    refine runA_pre 6 (by simp [lmC, b1, b2, b3, b4]; rfl) rfl ?_
    refine runA_pre 6 (by simp [lmC, b1, b2, b3, b4]; rfl) rfl ?_
    refine runA_pre 6 (by simp [lmC, b1, b2, b3, b4]; rfl) rfl ?_
    refine runA_fin (by simp [lmC, b1, b2, b3, b4]; rfl) ?_
    simp [onNormal, rl1, lmC, b1, b2, b3, b4]
   refine W_rE [1, 3, 31, 32, 33, 5, 58] ?_
   refine runA_pre 6 (by simp [lmC, b1, b2, b3, b4]; rfl) rfl ?_
   refine runA_pre 6 (by simp [lmC, b1, b2, b3, b4]; rfl) rfl ?_
   refine runA_pre 6 (by simp [lmC, b1, b2, b3, b4]; rfl) rfl ?_
   refine runA_fin (by simp [lmC, b1, b2, b3, b4]; rfl) ?_
   simp [onNormal, rl1, lmC, b1, b2, b3, b4]
  rintro _ rfl
  by_cases h1 : rl1 m past r = true
  ·rw [if_pos h1] at hgo
   rw [h1]
   refine W_cond rfl (fun h => ?_) (fun h => by simp at h)
   refine W_evK [2] (by simp; rfl) ?_
   refine W_ret ?_
   repeat (first | refine on_ret ?_ | refine in_ret ?_)
   exact hret hgo.symm _
  have h1f : rl1 m past r = false := by simpa using h1
  rw [if_neg h1] at hgo
  have hrb := h1f
  simp only [rl1, Bool.or_eq_false_iff, decide_eq_false_iff_not] at hrb
  obtain ⟨b1, b2, b3, b4⟩ := hrb
  have hrok : rOk r := ⟨by omega, by omega, by omega, by omega⟩
  rw [h1f]
  refine W_cond rfl (fun h => by simp at h) (fun h => ?_)
  refine W_skip ?_
  refine W_seq ?_
  refine W_rK [1, 3, 31, 32, 33, 5, 63] ?_
  refine runA_pre 3 (by simp [lmC, AV.weakL, AV.weak]; rfl) rfl ?_
  refine runA_obj (by simp) (by first | (simp [callArgsO, calleeA]; done) | (simp [callArgsO, calleeA]; rfl)) ((cf70_callW m r hl hsok hrok).mono ?_)
  rintro _ _ ⟨rfl, rfl⟩
  refine ⟨_, rfl, ?_⟩
  refine runA_fin (by simp; rfl) ?_
  by_cases h2 : m.seg.any (cov r) = false
  ·rw [if_pos h2] at hgo
   refine W_cond (t := true) (by simp [h2]) (fun h => ?_) (fun h => by simp at h)
   refine W_evK [2] (by simp; rfl) ?_
   refine W_ret ?_
   repeat (first | refine on_ret ?_ | refine in_ret ?_)
   exact hret hgo.symm _
  rw [if_neg h2] at hgo
  have h2t : m.seg.any (cov r) = true := by simpa using h2
  have w7 : IntKind.i64.wrap (r.at_ + r.len) = r.at_ + r.len := w64 (by omega) (by omega)
  refine W_cond (t := false) (by simp [h2t]) (fun h => by simp at h) (fun h => ?_)
  refine W_skip ?_
  refine W_evE [1, 3, 31, 32, 33] (by simp [w7]; rfl) ?_
  refine W_cutH 1 (Nat.zero_le _) (by simp) (by simp [frUnder, AV.under, AV.underL]) (by simp [underH, AObj.under, lmC, AV.under, AV.underL]) ?_
  refine W_evE [1, 3, 31, 32, 33] (by simp [wi]; rfl) ?_
  exact ⟨_, by omega, i + 1, r.at_ + r.len, rfl, by omega, hgo, by omega, by simp [lmC]⟩
 have hie : i = m.rel.length := by omega
 rw [hie, List.drop_length, relGo] at hgo
 refine W_evK [1, 3, 31, 32, 33, 34] (by simp [c]; rfl) ?_
 refine W_seq ?_
 refine W_cond rfl (fun h => by simp at h) (fun h => ?_)
 refine W_exit ?_
 refine W_evK [2] (by simp; rfl) ?_
 refine W_ret ?_
 repeat (first | refine on_ret ?_ | refine in_ret ?_)
 simp [retQ, hS, ← hgo]
end Go.AM
namespace Go.AM
open Go.RowKit Go.Proofs
set_option linter.unusedSimpArgs false
set_option linter.unusedVariables false
set_option maxHeartbeats 4000000
def sA (s : Seg) : Bool := !decide (s.par = -1) || (!decide (s.org = 0) || decide (s.len < 1))
def sB (l : List Seg) (i : Nat) (s : Seg) : Bool := decide (s.par < 0) || (decide ((i : Int) ≤ s.par) || decide (s.org < (paS l s.par).org + (paS l s.par).len))
theorem seg2_eq (l : List Seg) (i : Nat) (s : Seg) : seg2 l i s = if i = 0 then sA s else sB l i s := rfl
def sL (m : LMod) : Bool := decide (m.seg.length < 1) || decide (64 < m.seg.length)
theorem segM_L {m : LMod} (h : sL m = true) : segM m = false := by
 rw [segM]
 cases segGo m.seg 0 m.seg 0 with
 | none => rfl
 | some e =>
  simp only [sL, Bool.or_eq_true, decide_eq_true_eq] at h
  simp only [segF, Bool.and_eq_false_iff, decide_eq_false_iff_not]
  omega
theorem segF_L {m : LMod} (h : sL m = false) (e : Int) : segF m (some e) = decide (e = m.text.length) := by
 simp only [sL, Bool.or_eq_false_iff, decide_eq_false_iff_not] at h
 simp [segF, show 1 ≤ m.seg.length by omega, show m.seg.length ≤ 64 by omega]
theorem rsegs_sound (m : LMod) (hl : m.seg.length ≤ 100000) (ht : m.text.length ≤ 9223372036854775807) : Sound Try.prog 80 [lmA m] (.v (.bool (segM m))) := by
 refine sound_of_W Try.func80 rfl (by decide +kernel) (by simp [Try.f80]) rfl rfl (rs := [.tmp 2]) rfl ?_
 rw [show Try.f80.ntmps = 114 from rfl]
 refine W_evK [1] (by simp; rfl) ?_
 refine W_seq ?_
 refine W_seqC (fun σ => σ = ⟨114, [(1, .loc 0 0), (15, .v (.bool (sL m)))], [.cells 40 (lmC m)]⟩) ?_ ?_
 ·by_cases n1 : 1 ≤ m.seg.length
  ·have n10 : 1 ≤ m.seg.length := n1
   have n1a : (1 : Int) ≤ (m.seg.length : Nat) := by omega
   have n1b : ¬ m.seg.length < 1 := by omega
   have n1c : ¬ ((m.seg.length : Nat) : Int) < 1 := by omega
   by_cases n2 : m.seg.length ≤ 64
   ·have n20 : m.seg.length ≤ 64 := n2
    have n2a : ((m.seg.length : Nat) : Int) ≤ 64 := by omega
    have n2b : ¬ 64 < m.seg.length := by omega
    have n2c : ¬ (64 : Int) < (m.seg.length : Nat) := by omega
    refine W_rE [1, 15] ?_
    refine runA_pre 6 (by simp [lmC, n10, n1a, n1b, n1c, n20, n2a, n2b, n2c]; rfl) rfl ?_
    refine runA_fin (by simp [lmC, n10, n1a, n1b, n1c, n20, n2a, n2b, n2c]; rfl) ?_
    simp [onNormal, sL, lmC, n10, n1a, n1b, n1c, n20, n2a, n2b, n2c]
   have n20 : ¬ m.seg.length ≤ 64 := n2
   have n2a : ¬ ((m.seg.length : Nat) : Int) ≤ 64 := by omega
   have n2b : 64 < m.seg.length := by omega
   have n2c : (64 : Int) < (m.seg.length : Nat) := by omega
   refine W_rE [1, 15] ?_
   refine runA_pre 6 (by simp [lmC, n10, n1a, n1b, n1c, n20, n2a, n2b, n2c]; rfl) rfl ?_
   refine runA_fin (by simp [lmC, n10, n1a, n1b, n1c, n20, n2a, n2b, n2c]; rfl) ?_
   simp [onNormal, sL, lmC, n10, n1a, n1b, n1c, n20, n2a, n2b, n2c]
  have n10 : ¬ 1 ≤ m.seg.length := n1
  have n1a : ¬ (1 : Int) ≤ (m.seg.length : Nat) := by omega
  have n1b : m.seg.length < 1 := by omega
  have n1c : ((m.seg.length : Nat) : Int) < 1 := by omega
  refine W_rE [1, 15] ?_
  refine runA_pre 6 (by simp [lmC, n10, n1a, n1b, n1c]; rfl) rfl ?_
  refine runA_fin (by simp [lmC, n10, n1a, n1b, n1c]; rfl) ?_
  simp [onNormal, sL, lmC, n10, n1a, n1b, n1c]
 rintro _ rfl
 by_cases hL : sL m = true
 ·rw [hL]
  refine W_cond rfl (fun h => ?_) (fun h => by simp at h)
  refine W_evK [2] (by simp; rfl) ?_
  refine W_ret ?_
  repeat (first | refine on_ret ?_ | refine in_ret ?_)
  simp [retQ, segM_L hL]
 have hLf : sL m = false := by simpa using hL
 rw [hLf]
 refine W_cond rfl (fun h => by simp at h) (fun h => ?_)
 refine W_skip ?_
 refine W_evK [1, 3] (by simp; rfl) ?_
 refine W_seq ?_
 refine W_evK [1, 3, 4] (by simp; rfl) ?_
 refine W_block ?_
 obtain ⟨R, hR⟩ : ∃ R, segGo m.seg 0 m.seg 0 = R := ⟨_, rfl⟩
 have hS : segM m = segF m R := by rw [segM, hR]
 refine W_loop (fun k σ => ∃ (i : Nat) (fr : Int), k = m.seg.length - i ∧ i ≤ m.seg.length ∧ segGo m.seg i (m.seg.drop i) fr = R ∧ 0 ≤ fr ∧ fr ≤ 65536 * i ∧ (∀ (j : Nat) (s : Seg), j < i → m.seg[j]? = some s → 0 ≤ s.org ∧ s.org ≤ 65536 ∧ 0 ≤ s.len ∧ s.len ≤ 65536) ∧
  σ = ⟨114, [(1, .loc 0 0), (3, .v (.int .i64 fr)), (4, .v (.int .i64 (i : Nat)))], [.cells 40 (lmC m)]⟩) (k := m.seg.length) ⟨0, 0, rfl, by omega, hR, by omega, by omega, by simp, by simp [lmC]⟩ ?_
 rintro k σ ⟨i, fr, rfl, hi, hgo, hf0, hf1, hall, rfl⟩
 refine W_seq ?_
 by_cases c : i < m.seg.length
 ·have ci : (i : Int) < m.seg.length := by omega
  obtain ⟨s, hs⟩ : ∃ s, m.seg[i]? = some s := ⟨_, List.getElem?_eq_getElem c⟩
  have hs2 : m.seg[i]'c = s := by rw [List.getElem?_eq_getElem c] at hs; exact Option.some.inj hs
  have hdr : m.seg.drop i = s :: m.seg.drop (i + 1) := by rw [List.drop_eq_getElem_cons c, hs2]
  have wi := w64 (n := (i : Int) + 1) (by omega) (by omega)
  rw [hdr, segGo] at hgo
  have hret : R = none → ∀ (h : List AObj), retQ Try.prog [.tmp 2] (.v (.bool (segM m))) .ret ⟨114, [(2, .v (.bool false))], h⟩ := by
   intro hR0 h
   simp [retQ, hS, hR0, segF]
  refine W_evK [1, 3, 4, 20] (by simp [c, lmC]; rfl) ?_
  refine W_cond rfl (fun h => ?_) (fun h => by simp at h)
  refine W_skip ?_
  refine W_seq ?_
  refine W_block ?_
  refine W_evK [1, 3, 4, 5] (by simp [c, ci, hs2, lmC, setSeg, AV.weakL, AV.weak, AV.koneL, AV.kone]; rfl) ?_
  refine W_seq ?_
  have e5 : (s.frm != fr) = !decide (s.frm = fr) := by by_cases h : s.frm = fr <;> simp [h]
  have e6 : (s.par != -1) = !decide (s.par = -1) := by by_cases h : s.par = -1 <;> simp [h]
  have e7 : (s.org != 0) = !decide (s.org = 0) := by by_cases h : s.org = 0 <;> simp [h]
  refine W_seqC (fun σ => σ = ⟨114, [(1, .loc 0 0), (3, .v (.int .i64 fr)), (4, .v (.int .i64 (i : Nat))), (5, .loc 1 0), (54, .v (.bool (seg1 fr s)))], [.cells 40 (lmC m), .cells 83 [.v (.int .i64 s.par), .v (.int .i64 s.org), .v (.int .i64 s.frm), .v (.int .i64 s.len)]]⟩) ?_ ?_
  ·by_cases a1 : s.len < 0
   ·refine W_rE [1, 3, 4, 5, 54] ?_
    refine runA_pre 6 (by simp [lmC, e5, a1]; rfl) rfl ?_
    refine runA_pre 6 (by simp [lmC, e5, a1]; rfl) rfl ?_
    refine runA_pre 6 (by simp [lmC, e5, a1]; rfl) rfl ?_
    refine runA_pre 6 (by simp [lmC, e5, a1]; rfl) rfl ?_
    refine runA_fin (by simp [lmC, e5, a1]; rfl) ?_
    simp [onNormal, seg1, lmC, e5, a1]
   by_cases a2 : s.org < 0
   ·refine W_rE [1, 3, 4, 5, 54] ?_
    refine runA_pre 6 (by simp [lmC, e5, a1, a2]; rfl) rfl ?_
    refine runA_pre 6 (by simp [lmC, e5, a1, a2]; rfl) rfl ?_
    refine runA_pre 6 (by simp [lmC, e5, a1, a2]; rfl) rfl ?_
    refine runA_pre 6 (by simp [lmC, e5, a1, a2]; rfl) rfl ?_
    refine runA_fin (by simp [lmC, e5, a1, a2]; rfl) ?_
    simp [onNormal, seg1, lmC, e5, a1, a2]
   by_cases a3 : 65536 < s.org
   ·refine W_rE [1, 3, 4, 5, 54] ?_
    refine runA_pre 6 (by simp [lmC, e5, a1, a2, a3]; rfl) rfl ?_
    refine runA_pre 6 (by simp [lmC, e5, a1, a2, a3]; rfl) rfl ?_
    refine runA_pre 6 (by simp [lmC, e5, a1, a2, a3]; rfl) rfl ?_
    refine runA_pre 6 (by simp [lmC, e5, a1, a2, a3]; rfl) rfl ?_
    refine runA_fin (by simp [lmC, e5, a1, a2, a3]; rfl) ?_
    simp [onNormal, seg1, lmC, e5, a1, a2, a3]
   have a3n : ¬ 65536 < s.org := a3
   have w5 : IntKind.i64.wrap (65536 - s.org) = 65536 - s.org := w64 (by omega) (by omega)
   by_cases a4 : 65536 - s.org < s.len
   ·refine W_rE [1, 3, 4, 5, 54] ?_
    refine runA_pre 6 (by simp [lmC, e5, a1, a2, a3n, w5, a4]; rfl) rfl ?_
    refine runA_pre 6 (by simp [lmC, e5, a1, a2, a3n, w5, a4]; rfl) rfl ?_
    refine runA_pre 6 (by simp [lmC, e5, a1, a2, a3n, w5, a4]; rfl) rfl ?_
    refine runA_pre 6 (by simp [lmC, e5, a1, a2, a3n, w5, a4]; rfl) rfl ?_
    refine runA_fin (by simp [lmC, e5, a1, a2, a3n, w5, a4]; rfl) ?_
    simp [onNormal, seg1, lmC, e5, a1, a2, a3n, w5, a4]
   by_cases a5 : s.frm = fr
   ·refine W_rE [1, 3, 4, 5, 54] ?_
    refine runA_pre 6 (by simp [lmC, e5, a1, a2, a3n, w5, a4, a5]; rfl) rfl ?_
    refine runA_pre 6 (by simp [lmC, e5, a1, a2, a3n, w5, a4, a5]; rfl) rfl ?_
    refine runA_pre 6 (by simp [lmC, e5, a1, a2, a3n, w5, a4, a5]; rfl) rfl ?_
    refine runA_pre 6 (by simp [lmC, e5, a1, a2, a3n, w5, a4, a5]; rfl) rfl ?_
    refine runA_fin (by simp [lmC, e5, a1, a2, a3n, w5, a4, a5]; rfl) ?_
    simp [onNormal, seg1, lmC, e5, a1, a2, a3n, w5, a4, a5]
   refine W_rE [1, 3, 4, 5, 54] ?_
   refine runA_pre 6 (by simp [lmC, e5, a1, a2, a3n, w5, a4, a5]; rfl) rfl ?_
   refine runA_pre 6 (by simp [lmC, e5, a1, a2, a3n, w5, a4, a5]; rfl) rfl ?_
   refine runA_pre 6 (by simp [lmC, e5, a1, a2, a3n, w5, a4, a5]; rfl) rfl ?_
   refine runA_pre 6 (by simp [lmC, e5, a1, a2, a3n, w5, a4, a5]; rfl) rfl ?_
   refine runA_fin (by simp [lmC, e5, a1, a2, a3n, w5, a4, a5]; rfl) ?_
   simp [onNormal, seg1, lmC, e5, a1, a2, a3n, w5, a4, a5]
  rintro _ rfl
  by_cases h1 : seg1 fr s = true
  ·rw [if_pos h1] at hgo
   rw [h1]
   refine W_cond rfl (fun h => ?_) (fun h => by simp at h)
   refine W_evK [2] (by simp; rfl) ?_
   refine W_ret ?_
   repeat (first | refine on_ret ?_ | refine in_ret ?_)
   exact hret hgo.symm _
  have h1f : seg1 fr s = false := by simpa using h1
  rw [h1f]
  refine W_cond rfl (fun h => by simp at h) (fun h => ?_)
  refine W_skip ?_
  obtain ⟨b1, b2, b3, b4, b5⟩ := seg1_ok h1f
  rw [if_neg h1, seg2_eq] at hgo
  refine W_seq ?_
  refine W_seqC (fun σ => σ = ⟨114, [(1, .loc 0 0), (3, .v (.int .i64 fr)), (4, .v (.int .i64 (i : Nat))), (5, .loc 1 0), (71, .v (.bool (decide (i = 0) && sA s)))], [.cells 40 (lmC m), .cells 83 [.v (.int .i64 s.par), .v (.int .i64 s.org), .v (.int .i64 s.frm), .v (.int .i64 s.len)]]⟩) ?_ ?_
  ·by_cases i0 : i = 0
   ·have i0a : i = 0 := i0
    by_cases d1 : s.par = -1
    ·by_cases d2 : s.org = 0
     ·by_cases d3 : s.len < 1
      ·refine W_rE [1, 3, 4, 5, 71] ?_
       refine runA_pre 6 (by simp [lmC, e6, e7, i0a, d1, d2, d3]; rfl) rfl ?_
       refine runA_pre 6 (by simp [lmC, e6, e7, i0a, d1, d2, d3]; rfl) rfl ?_
       refine runA_fin (by simp [lmC, e6, e7, i0a, d1, d2, d3]; rfl) ?_
       simp [onNormal, sA, lmC, e6, e7, i0a, d1, d2, d3]
      refine W_rE [1, 3, 4, 5, 71] ?_
      refine runA_pre 6 (by simp [lmC, e6, e7, i0a, d1, d2, d3]; rfl) rfl ?_
      refine runA_pre 6 (by simp [lmC, e6, e7, i0a, d1, d2, d3]; rfl) rfl ?_
      refine runA_fin (by simp [lmC, e6, e7, i0a, d1, d2, d3]; rfl) ?_
      simp [onNormal, sA, lmC, e6, e7, i0a, d1, d2, d3]
     refine W_rE [1, 3, 4, 5, 71] ?_
     refine runA_pre 6 (by simp [lmC, e6, e7, i0a, d1, d2]; rfl) rfl ?_
     refine runA_pre 6 (by simp [lmC, e6, e7, i0a, d1, d2]; rfl) rfl ?_
     refine runA_fin (by simp [lmC, e6, e7, i0a, d1, d2]; rfl) ?_
     simp [onNormal, sA, lmC, e6, e7, i0a, d1, d2]
    refine W_rE [1, 3, 4, 5, 71] ?_
    refine runA_pre 6 (by simp [lmC, e6, e7, i0a, d1]; rfl) rfl ?_
    refine runA_pre 6 (by simp [lmC, e6, e7, i0a, d1]; rfl) rfl ?_
    refine runA_fin (by simp [lmC, e6, e7, i0a, d1]; rfl) ?_
    simp [onNormal, sA, lmC, e6, e7, i0a, d1]
   have i0a : ¬ i = 0 := i0
   have i0n : ¬ (i : Int) = 0 := by omega
   have i0b : ((i : Int) == 0) = false := beq_eq_false_iff_ne.2 i0n
   have i0c : 0 < i := by omega
   have i0d : (0 : Int) < i := by omega
   refine W_rE [1, 3, 4, 5, 71] ?_
   refine runA_pre 6 (by simp [lmC, e6, e7, i0a, i0n, i0b, i0c, i0d]; rfl) rfl ?_
   refine runA_pre 6 (by simp [lmC, e6, e7, i0a, i0n, i0b, i0c, i0d]; rfl) rfl ?_
   refine runA_fin (by simp [lmC, e6, e7, i0a, i0n, i0b, i0c, i0d]; rfl) ?_
   simp [onNormal, sA, lmC, e6, e7, i0a, i0n, i0b, i0c, i0d]
  rintro _ rfl
  by_cases h2 : (decide (i = 0) && sA s) = true
  ·simp only [Bool.and_eq_true, decide_eq_true_eq] at h2
   rw [if_pos (by rw [if_pos h2.1]; exact h2.2)] at hgo
   rw [show (decide (i = 0) && sA s) = true by simp [h2]]
   refine W_cond rfl (fun h => ?_) (fun h => by simp at h)
   refine W_evK [2] (by simp; rfl) ?_
   refine W_ret ?_
   repeat (first | refine on_ret ?_ | refine in_ret ?_)
   exact hret hgo.symm _
  have h2f : (decide (i = 0) && sA s) = false := by simpa using h2
  rw [h2f]
  refine W_cond rfl (fun h => by simp at h) (fun h => ?_)
  refine W_skip ?_
  refine W_seq ?_
  refine W_seqC (fun σ => σ = ⟨114, [(1, .loc 0 0), (3, .v (.int .i64 fr)), (4, .v (.int .i64 (i : Nat))), (5, .loc 1 0), (104, .v (.bool (!decide (i = 0) && sB m.seg i s)))], [.cells 40 (lmC m), .cells 83 [.v (.int .i64 s.par), .v (.int .i64 s.org), .v (.int .i64 s.frm), .v (.int .i64 s.len)]]⟩) ?_ ?_
  ·by_cases i0 : i = 0
   ·have i0a : i = 0 := i0
    refine W_rdE [1, 3, 4, 5, 104] mx (by decide +kernel) ?_
    refine runD_pre 6 (by simp [lmC, i0a]; rfl) rfl ?_
    refine runD_pre 6 (by simp [lmC, i0a]; rfl) rfl ?_
    refine runD_pre 6 (by simp [lmC, i0a]; rfl) rfl ?_
    refine runD_pre 6 (by simp [lmC, i0a]; rfl) rfl ?_
    refine runD_pre 6 (by simp [lmC, i0a]; rfl) rfl ?_
    refine runD_fin (by simp [lmC, i0a]; rfl) ?_
    simp [onNormal, sB, paS, lmC, i0a]
   have i0a : ¬ i = 0 := i0
   have i0n : ¬ (i : Int) = 0 := by omega
   have i0b : ((i : Int) == 0) = false := beq_eq_false_iff_ne.2 i0n
   have i0c : 0 < i := by omega
   have i0d : (0 : Int) < i := by omega
   by_cases d1 : s.par < 0
   ·refine W_rdE [1, 3, 4, 5, 104] mx (by decide +kernel) ?_
    refine runD_pre 6 (by simp [lmC, i0a, i0n, i0b, i0c, i0d, d1]; rfl) rfl ?_
    refine runD_pre 6 (by simp [lmC, i0a, i0n, i0b, i0c, i0d, d1]; rfl) rfl ?_
    refine runD_pre 6 (by simp [lmC, i0a, i0n, i0b, i0c, i0d, d1]; rfl) rfl ?_
    refine runD_pre 6 (by simp [lmC, i0a, i0n, i0b, i0c, i0d, d1]; rfl) rfl ?_
    refine runD_pre 6 (by simp [lmC, i0a, i0n, i0b, i0c, i0d, d1]; rfl) rfl ?_
    refine runD_fin (by simp [lmC, i0a, i0n, i0b, i0c, i0d, d1]; rfl) ?_
    simp [onNormal, sB, paS, lmC, i0a, i0n, i0b, i0c, i0d, d1]
   by_cases d2 : (i : Int) ≤ s.par
   ·refine W_rdE [1, 3, 4, 5, 104] mx (by decide +kernel) ?_
    refine runD_pre 6 (by simp [lmC, i0a, i0n, i0b, i0c, i0d, d1, d2]; rfl) rfl ?_
    refine runD_pre 6 (by simp [lmC, i0a, i0n, i0b, i0c, i0d, d1, d2]; rfl) rfl ?_
    refine runD_pre 6 (by simp [lmC, i0a, i0n, i0b, i0c, i0d, d1, d2]; rfl) rfl ?_
    refine runD_pre 6 (by simp [lmC, i0a, i0n, i0b, i0c, i0d, d1, d2]; rfl) rfl ?_
    refine runD_pre 6 (by simp [lmC, i0a, i0n, i0b, i0c, i0d, d1, d2]; rfl) rfl ?_
    refine runD_fin (by simp [lmC, i0a, i0n, i0b, i0c, i0d, d1, d2]; rfl) ?_
    simp [onNormal, sB, paS, lmC, i0a, i0n, i0b, i0c, i0d, d1, d2]
   obtain ⟨j, hj⟩ : ∃ j : Nat, s.par = j := ⟨s.par.toNat, by omega⟩
   have hji : j < i := by omega
   have hnij : ¬ i ≤ j := by omega
   have hj0 : ¬ (j : Int) < 0 := by omega
   have hjl : j < m.seg.length := by omega
   have hjz : (j : Int) < m.seg.length := by omega
   obtain ⟨p, hjp⟩ : ∃ p, m.seg[j]? = some p := ⟨_, List.getElem?_eq_getElem hjl⟩
   have hjg : m.seg[j] = p := by rw [List.getElem?_eq_getElem hjl] at hjp; exact Option.some.inj hjp
   have q1 := (hall j p hji hjp).1
   have q2 := (hall j p hji hjp).2.1
   have q3 := (hall j p hji hjp).2.2.1
   have q4 := (hall j p hji hjp).2.2.2
   have w6 : IntKind.i64.wrap (p.org + p.len) = p.org + p.len := w64 (by omega) (by omega)
   by_cases d3 : s.org < p.org + p.len
   ·refine W_rdE [1, 3, 4, 5, 104] mx (by decide +kernel) ?_
    refine runD_pre 6 (by simp [lmC, i0a, i0n, i0b, i0c, i0d, d1, hj, hji, hnij, hj0, hjl, hjz, hjp, hjg, q1, q2, q3, q4, w6, d3]; rfl) rfl ?_
    refine runD_pre 6 (by simp [lmC, i0a, i0n, i0b, i0c, i0d, d1, hj, hji, hnij, hj0, hjl, hjz, hjp, hjg, q1, q2, q3, q4, w6, d3]; rfl) rfl ?_
    refine runD_pre 6 (by simp [lmC, i0a, i0n, i0b, i0c, i0d, d1, hj, hji, hnij, hj0, hjl, hjz, hjp, hjg, q1, q2, q3, q4, w6, d3]; rfl) rfl ?_
    refine runD_pre 6 (by simp [lmC, i0a, i0n, i0b, i0c, i0d, d1, hj, hji, hnij, hj0, hjl, hjz, hjp, hjg, q1, q2, q3, q4, w6, d3]; rfl) rfl ?_
    refine runD_pre 6 (by simp [lmC, i0a, i0n, i0b, i0c, i0d, d1, hj, hji, hnij, hj0, hjl, hjz, hjp, hjg, q1, q2, q3, q4, w6, d3]; rfl) rfl ?_
    refine runD_fin (by simp [lmC, i0a, i0n, i0b, i0c, i0d, d1, hj, hji, hnij, hj0, hjl, hjz, hjp, hjg, q1, q2, q3, q4, w6, d3]; rfl) ?_
    simp [onNormal, sB, paS, lmC, i0a, i0n, i0b, i0c, i0d, d1, hj, hji, hnij, hj0, hjl, hjz, hjp, hjg, q1, q2, q3, q4, w6, d3]
   refine W_rdE [1, 3, 4, 5, 104] mx (by decide +kernel) ?_
   refine runD_pre 6 (by simp [lmC, i0a, i0n, i0b, i0c, i0d, d1, hj, hji, hnij, hj0, hjl, hjz, hjp, hjg, q1, q2, q3, q4, w6, d3]; rfl) rfl ?_
   refine runD_pre 6 (by simp [lmC, i0a, i0n, i0b, i0c, i0d, d1, hj, hji, hnij, hj0, hjl, hjz, hjp, hjg, q1, q2, q3, q4, w6, d3]; rfl) rfl ?_
   refine runD_pre 6 (by simp [lmC, i0a, i0n, i0b, i0c, i0d, d1, hj, hji, hnij, hj0, hjl, hjz, hjp, hjg, q1, q2, q3, q4, w6, d3]; rfl) rfl ?_
   refine runD_pre 6 (by simp [lmC, i0a, i0n, i0b, i0c, i0d, d1, hj, hji, hnij, hj0, hjl, hjz, hjp, hjg, q1, q2, q3, q4, w6, d3]; rfl) rfl ?_
   refine runD_pre 6 (by simp [lmC, i0a, i0n, i0b, i0c, i0d, d1, hj, hji, hnij, hj0, hjl, hjz, hjp, hjg, q1, q2, q3, q4, w6, d3]; rfl) rfl ?_
   refine runD_fin (by simp [lmC, i0a, i0n, i0b, i0c, i0d, d1, hj, hji, hnij, hj0, hjl, hjz, hjp, hjg, q1, q2, q3, q4, w6, d3]; rfl) ?_
   simp [onNormal, sB, paS, lmC, i0a, i0n, i0b, i0c, i0d, d1, hj, hji, hnij, hj0, hjl, hjz, hjp, hjg, q1, q2, q3, q4, w6, d3]
  rintro _ rfl
  by_cases h3 : (!decide (i = 0) && sB m.seg i s) = true
  ·simp only [Bool.and_eq_true, Bool.not_eq_true', decide_eq_false_iff_not] at h3
   rw [if_pos (by rw [if_neg h3.1]; exact h3.2)] at hgo
   rw [show (!decide (i = 0) && sB m.seg i s) = true by simp [h3]]
   refine W_cond rfl (fun h => ?_) (fun h => by simp at h)
   refine W_evK [2] (by simp; rfl) ?_
   refine W_ret ?_
   repeat (first | refine on_ret ?_ | refine in_ret ?_)
   exact hret hgo.symm _
  have h3f : (!decide (i = 0) && sB m.seg i s) = false := by simpa using h3
  rw [h3f]
  refine W_cond rfl (fun h => by simp at h) (fun h => ?_)
  refine W_skip ?_
  have hs2f : ¬ (if i = 0 then sA s else sB m.seg i s) = true := by
   intro hh
   by_cases h0 : i = 0
   ·rw [if_pos h0] at hh
    rw [hh, decide_eq_true h0] at h2f
    cases h2f
   ·rw [if_neg h0] at hh
    rw [hh, decide_eq_false h0] at h3f
    cases h3f
  rw [if_neg hs2f] at hgo
  have w7 : IntKind.i64.wrap (fr + s.len) = fr + s.len := w64 (by omega) (by omega)
  refine W_evE [1, 3, 4] (by simp [w7, lmC, setSeg, AV.weakL, AV.weak, AV.koneL, AV.kone]; rfl) ?_
  refine W_cutH 1 (Nat.zero_le _) (by simp) (by simp [frUnder, AV.under, AV.underL]) (by simp [underH, AObj.under, lmC, AV.under, AV.underL]) ?_
  refine W_evE [1, 3, 4] (by simp [wi]; rfl) ?_
  refine ⟨_, by omega, i + 1, fr + s.len, rfl, by omega, hgo, by omega, by omega, fun j t hj ht => ?_, by simp [lmC]⟩
  by_cases hjj : j < i
  ·exact hall j t hjj ht
  ·have : j = i := by omega
   subst this
   rw [hs] at ht
   obtain rfl := Option.some.inj ht
   exact ⟨by omega, by omega, by omega, by omega⟩
 have hie : i = m.seg.length := by omega
 have hRs : R = some fr := by rw [← hgo, hie, List.drop_length, segGo]
 rw [hRs, segF_L hLf] at hS
 refine W_evK [1, 3, 4, 20] (by simp [c, lmC]; rfl) ?_
 refine W_cond rfl (fun h => by simp at h) (fun h => ?_)
 refine W_exit ?_
 have e8 : (fr == (m.text.length : Int)) = decide (fr = m.text.length) := by rw [Bool.eq_iff_iff]; simp
 refine W_evK [2] (by simp [lmC, e8]; rfl) ?_
 refine W_ret ?_
 repeat (first | refine on_ret ?_ | refine in_ret ?_)
 simp [retQ, hS]
end Go.AM
namespace Go.AM
open Go.RowKit Go.Proofs
set_option linter.unusedSimpArgs false
set_option linter.unusedVariables false
set_option maxHeartbeats 4000000
theorem W_thenC {c : Code} {Q : Exit → St → Prop} {s : St} {top : Bool} {kf : Nat} {P : Program} (K : St → Prop) (h1 : Wt top kf P c (onNormal K fun _ _ => False) s) (h2 : ∀ s, K s → Q .normal s) : Wt top kf P c Q s := by
 refine h1.mono fun e s h => ?_
 cases e with
 | normal => exact h2 s h
 | _ => exact h.elim
def rl2 (m : LMod) (i : Nat) (past : Int) (r : Rlo) : Bool := decide (r.len < 1) || (decide (4 < r.len) || (decide (r.at_ < 0) || (decide ((m.text.length : Int) < r.at_) || (decide (0 < i) && decide (r.at_ < past)))))
theorem rl2_eq {m : LMod} {i : Nat} {past : Int} {r : Rlo} (h0 : 0 ≤ past) (hi : i = 0 → past = 0) : rl2 m i past r = rl1 m past r := by
 rw [Bool.eq_iff_iff]
 simp only [rl1, rl2, Bool.or_eq_true, Bool.and_eq_true, decide_eq_true_eq]
 by_cases h : i = 0
 ·have := hi h; omega
 ·omega
theorem rcheckLoad_sound (m : LMod) (hl : m.seg.length ≤ 100000) (ht : m.text.length ≤ 1000000000000000000) (hrl : m.rel.length ≤ 1000000000) : Sound Try.prog 43 [lmA m] (.v (.bool (ckM m))) := by
 refine sound_of_W Try.func43 rfl (by decide +kernel) (by simp [Try.f43]) rfl rfl (rs := [.tmp 2]) rfl ?_
 rw [show Try.f43.ntmps = 124 from rfl]
 refine W_evK [1] (by simp; rfl) ?_
 refine W_seq ?_
 refine W_seqC (fun σ => σ = ⟨124, [(1, .loc 0 0), (31, .v (.bool (ckB m)))], [.cells 40 (lmC m)]⟩) ?_ ?_
 ·by_cases a1 : segM m = true
  ·have a1t : segM m = true := a1
   have a1s : 1 ≤ m.seg.length := (segM_inv a1 ht).1
   have a1p : 0 < m.seg.length := a1s
   have a1q : (0 : Int) < m.seg.length := by omega
   obtain ⟨s0, hs0⟩ : ∃ s, m.seg[0]? = some s := ⟨_, List.getElem?_eq_getElem a1p⟩
   have hs0g : m.seg[0] = s0 := by rw [List.getElem?_eq_getElem a1p] at hs0; exact Option.some.inj hs0
   by_cases a2 : m.rel.length ≤ 8192
   ·have a20 : m.rel.length ≤ 8192 := a2
    have a2a : ((m.rel.length : Nat) : Int) ≤ 8192 := by omega
    have a2b : ¬ 8192 < m.rel.length := by omega
    have a2c : ¬ (8192 : Int) < (m.rel.length : Nat) := by omega
    by_cases a3 : m.entry < 0
    ·refine W_rdE [1, 31] mx (by decide +kernel) ?_
     refine runD_pre 1 (by simp; rfl) rfl ?_
     refine runD_call (by simp) (by first | (simp; done) | (simp; rfl)) (rsegs_sound m hl (by omega)) (by simp; rfl) ?_
     refine runD_pre 6 (by simp [lmC, a1t, a1s, a1p, a1q, hs0, hs0g, a20, a2a, a2b, a2c, a3]; rfl) rfl ?_
     refine runD_pre 6 (by simp [lmC, a1t, a1s, a1p, a1q, hs0, hs0g, a20, a2a, a2b, a2c, a3]; rfl) rfl ?_
     refine runD_pre 6 (by simp [lmC, a1t, a1s, a1p, a1q, hs0, hs0g, a20, a2a, a2b, a2c, a3]; rfl) rfl ?_
     refine runD_fin (by simp [lmC, a1t, a1s, a1p, a1q, hs0, hs0g, a20, a2a, a2b, a2c, a3]; rfl) ?_
     simp [onNormal, ckB, paS, lmC, a1t, a1s, a1p, a1q, hs0, hs0g, a20, a2a, a2b, a2c, a3]
    by_cases a4 : s0.len ≤ m.entry
    ·refine W_rdE [1, 31] mx (by decide +kernel) ?_
     refine runD_pre 1 (by simp; rfl) rfl ?_
     refine runD_call (by simp) (by first | (simp; done) | (simp; rfl)) (rsegs_sound m hl (by omega)) (by simp; rfl) ?_
     refine runD_pre 6 (by simp [lmC, a1t, a1s, a1p, a1q, hs0, hs0g, a20, a2a, a2b, a2c, a3, a4]; rfl) rfl ?_
     refine runD_pre 6 (by simp [lmC, a1t, a1s, a1p, a1q, hs0, hs0g, a20, a2a, a2b, a2c, a3, a4]; rfl) rfl ?_
     refine runD_pre 6 (by simp [lmC, a1t, a1s, a1p, a1q, hs0, hs0g, a20, a2a, a2b, a2c, a3, a4]; rfl) rfl ?_
     refine runD_fin (by simp [lmC, a1t, a1s, a1p, a1q, hs0, hs0g, a20, a2a, a2b, a2c, a3, a4]; rfl) ?_
     simp [onNormal, ckB, paS, lmC, a1t, a1s, a1p, a1q, hs0, hs0g, a20, a2a, a2b, a2c, a3, a4]
    have a4n : m.entry < s0.len := by omega
    have a4m : ¬ s0.len ≤ m.entry := a4
    refine W_rdE [1, 31] mx (by decide +kernel) ?_
    refine runD_pre 1 (by simp; rfl) rfl ?_
    refine runD_call (by simp) (by first | (simp; done) | (simp; rfl)) (rsegs_sound m hl (by omega)) (by simp; rfl) ?_
    refine runD_pre 6 (by simp [lmC, a1t, a1s, a1p, a1q, hs0, hs0g, a20, a2a, a2b, a2c, a3, a4n, a4m]; rfl) rfl ?_
    refine runD_pre 6 (by simp [lmC, a1t, a1s, a1p, a1q, hs0, hs0g, a20, a2a, a2b, a2c, a3, a4n, a4m]; rfl) rfl ?_
    refine runD_pre 6 (by simp [lmC, a1t, a1s, a1p, a1q, hs0, hs0g, a20, a2a, a2b, a2c, a3, a4n, a4m]; rfl) rfl ?_
    refine runD_fin (by simp [lmC, a1t, a1s, a1p, a1q, hs0, hs0g, a20, a2a, a2b, a2c, a3, a4n, a4m]; rfl) ?_
    simp [onNormal, ckB, paS, lmC, a1t, a1s, a1p, a1q, hs0, hs0g, a20, a2a, a2b, a2c, a3, a4n, a4m]
   have a20 : ¬ m.rel.length ≤ 8192 := a2
   have a2a : ¬ ((m.rel.length : Nat) : Int) ≤ 8192 := by omega
   have a2b : 8192 < m.rel.length := by omega
   have a2c : (8192 : Int) < (m.rel.length : Nat) := by omega
   refine W_rdE [1, 31] mx (by decide +kernel) ?_
   refine runD_pre 1 (by simp; rfl) rfl ?_
   refine runD_call (by simp) (by first | (simp; done) | (simp; rfl)) (rsegs_sound m hl (by omega)) (by simp; rfl) ?_
   refine runD_pre 6 (by simp [lmC, a1t, a1s, a1p, a1q, hs0, hs0g, a20, a2a, a2b, a2c]; rfl) rfl ?_
   refine runD_pre 6 (by simp [lmC, a1t, a1s, a1p, a1q, hs0, hs0g, a20, a2a, a2b, a2c]; rfl) rfl ?_
   refine runD_pre 6 (by simp [lmC, a1t, a1s, a1p, a1q, hs0, hs0g, a20, a2a, a2b, a2c]; rfl) rfl ?_
   refine runD_fin (by simp [lmC, a1t, a1s, a1p, a1q, hs0, hs0g, a20, a2a, a2b, a2c]; rfl) ?_
   simp [onNormal, ckB, paS, lmC, a1t, a1s, a1p, a1q, hs0, hs0g, a20, a2a, a2b, a2c]
  have a1f : segM m = false := by simpa using a1
  refine W_rdE [1, 31] mx (by decide +kernel) ?_
  refine runD_pre 1 (by simp; rfl) rfl ?_
  refine runD_call (by simp) (by first | (simp; done) | (simp; rfl)) (rsegs_sound m hl (by omega)) (by simp; rfl) ?_
  refine runD_pre 6 (by simp [lmC, a1f]; rfl) rfl ?_
  refine runD_pre 6 (by simp [lmC, a1f]; rfl) rfl ?_
  refine runD_pre 6 (by simp [lmC, a1f]; rfl) rfl ?_
  refine runD_fin (by simp [lmC, a1f]; rfl) ?_
  simp [onNormal, ckB, paS, lmC, a1f]
 rintro _ rfl
 by_cases hB : ckB m = true
 ·rw [hB]
  refine W_cond rfl (fun h => ?_) (fun h => by simp at h)
  refine W_evK [2] (by simp; rfl) ?_
  refine W_ret ?_
  repeat (first | refine on_ret ?_ | refine in_ret ?_)
  simp [retQ, ckM, hB]
 have hBf : ckB m = false := by simpa using hB
 have hsg : segM m = true := by
  simp only [ckB, Bool.or_eq_false_iff, Bool.not_eq_false'] at hBf
  exact hBf.1
 obtain ⟨g1, g2, hsok⟩ := segM_inv hsg ht
 rw [hBf]
 refine W_cond rfl (fun h => by simp at h) (fun h => ?_)
 refine W_skip ?_
 refine W_seq ?_
 refine W_evK [1, 3] (by simp; rfl) ?_
 refine W_block ?_
 obtain ⟨R, hR⟩ : ∃ R, relGo m m.rel 0 = R := ⟨_, rfl⟩
 have hS : ckM m = R := by rw [ckM, hBf, hR]; rfl
 refine W_loop (fun k σ => ∃ (i : Nat) (past : Int), k = m.rel.length - i ∧ i ≤ m.rel.length ∧ relGo m (m.rel.drop i) past = R ∧ 0 ≤ past ∧ (i = 0 → past = 0) ∧ (∀ (j : Nat) (p : Rlo), i = j + 1 → m.rel[j]? = some p → past = p.at_ + p.len ∧ past ≤ 2000000000000000000) ∧ σ = ⟨124, [(1, .loc 0 0), (3, .v (.int .i64 (i : Nat)))], [.cells 40 (lmC m)]⟩) (k := m.rel.length) ⟨0, 0, rfl, by omega, hR, by omega, fun _ => rfl, fun j p h => by omega, by simp [lmC]⟩ ?_
 rintro k σ ⟨i, past, rfl, hi, hgo, hp0, hpz, hpp, rfl⟩
 refine W_seq ?_
 by_cases c : i < m.rel.length
 ·have ci : (i : Int) < m.rel.length := by omega
  obtain ⟨r, hri⟩ : ∃ r, m.rel[i]? = some r := ⟨_, List.getElem?_eq_getElem c⟩
  have hr2 : m.rel[i]'c = r := by rw [List.getElem?_eq_getElem c] at hri; exact Option.some.inj hri
  have hdr : m.rel.drop i = r :: m.rel.drop (i + 1) := by rw [List.drop_eq_getElem_cons c, hr2]
  have wi := w64 (n := (i : Int) + 1) (by omega) (by omega)
  rw [hdr, relGo] at hgo
  have hret : R = false → ∀ (h : List AObj), retQ Try.prog [.tmp 2] (.v (.bool (ckM m))) .ret ⟨124, [(2, .v (.bool false))], h⟩ := by
   intro hR0 h
   simp [retQ, hS, hR0]
  refine W_evK [1, 3, 36] (by simp [c, lmC]; rfl) ?_
  refine W_cond rfl (fun h => ?_) (fun h => by simp at h)
  refine W_skip ?_
  refine W_seq ?_
  refine W_block ?_
  refine W_evK [1, 3, 4] (by simp [c, ci, hr2, lmC, setSeg, AV.weakL, AV.weak, AV.koneL, AV.kone]; rfl) ?_
  refine W_seq ?_
  refine W_seqC (fun σ => σ = ⟨124, [(1, .loc 0 0), (3, .v (.int .i64 (i : Nat))), (4, .loc 1 0), (88, .v (.bool (rl2 m i past r)))], HR m r⟩) ?_ ?_
  ·by_cases b1 : r.len < 1
   ·refine W_rdE [1, 3, 4, 88] mx (by decide +kernel) ?_
    refine runD_pre 6 (by simp [lmC, b1]; rfl) rfl ?_
    refine runD_pre 6 (by simp [lmC, b1]; rfl) rfl ?_
    refine runD_pre 6 (by simp [lmC, b1]; rfl) rfl ?_
    refine runD_pre 6 (by simp [lmC, b1]; rfl) rfl ?_
    refine runD_pre 6 (by simp [lmC, b1]; rfl) rfl ?_
    refine runD_pre 6 (by simp [lmC, b1]; rfl) rfl ?_
    refine runD_pre 6 (by simp [lmC, b1]; rfl) rfl ?_
    refine runD_fin (by simp [lmC, b1]; rfl) ?_
    simp [onNormal, rl2, lmC, b1]
   by_cases b2 : 4 < r.len
   ·refine W_rdE [1, 3, 4, 88] mx (by decide +kernel) ?_
    refine runD_pre 6 (by simp [lmC, b1, b2]; rfl) rfl ?_
    refine runD_pre 6 (by simp [lmC, b1, b2]; rfl) rfl ?_
    refine runD_pre 6 (by simp [lmC, b1, b2]; rfl) rfl ?_
    refine runD_pre 6 (by simp [lmC, b1, b2]; rfl) rfl ?_
    refine runD_pre 6 (by simp [lmC, b1, b2]; rfl) rfl ?_
    refine runD_pre 6 (by simp [lmC, b1, b2]; rfl) rfl ?_
    refine runD_pre 6 (by simp [lmC, b1, b2]; rfl) rfl ?_
    refine runD_fin (by simp [lmC, b1, b2]; rfl) ?_
    simp [onNormal, rl2, lmC, b1, b2]
   by_cases b3 : r.at_ < 0
   ·refine W_rdE [1, 3, 4, 88] mx (by decide +kernel) ?_
    refine runD_pre 6 (by simp [lmC, b1, b2, b3]; rfl) rfl ?_
    refine runD_pre 6 (by simp [lmC, b1, b2, b3]; rfl) rfl ?_
    refine runD_pre 6 (by simp [lmC, b1, b2, b3]; rfl) rfl ?_
    refine runD_pre 6 (by simp [lmC, b1, b2, b3]; rfl) rfl ?_
    refine runD_pre 6 (by simp [lmC, b1, b2, b3]; rfl) rfl ?_
    refine runD_pre 6 (by simp [lmC, b1, b2, b3]; rfl) rfl ?_
    refine runD_pre 6 (by simp [lmC, b1, b2, b3]; rfl) rfl ?_
    refine runD_fin (by simp [lmC, b1, b2, b3]; rfl) ?_
    simp [onNormal, rl2, lmC, b1, b2, b3]
   by_cases b4 : (m.text.length : Int) < r.at_
   ·refine W_rdE [1, 3, 4, 88] mx (by decide +kernel) ?_
    refine runD_pre 6 (by simp [lmC, b1, b2, b3, b4]; rfl) rfl ?_
    refine runD_pre 6 (by simp [lmC, b1, b2, b3, b4]; rfl) rfl ?_
    refine runD_pre 6 (by simp [lmC, b1, b2, b3, b4]; rfl) rfl ?_
    refine runD_pre 6 (by simp [lmC, b1, b2, b3, b4]; rfl) rfl ?_
    refine runD_pre 6 (by simp [lmC, b1, b2, b3, b4]; rfl) rfl ?_
    refine runD_pre 6 (by simp [lmC, b1, b2, b3, b4]; rfl) rfl ?_
    refine runD_pre 6 (by simp [lmC, b1, b2, b3, b4]; rfl) rfl ?_
    refine runD_fin (by simp [lmC, b1, b2, b3, b4]; rfl) ?_
    simp [onNormal, rl2, lmC, b1, b2, b3, b4]
   by_cases iz : 0 < i
   ·have iza : 0 < i := iz
    have izb : (0 : Int) < i := by omega
    obtain ⟨j, hj⟩ : ∃ j : Nat, i = j + 1 := ⟨i - 1, by omega⟩
    have hjl : j < m.rel.length := by omega
    have hjz : (j : Int) < m.rel.length := by omega
    obtain ⟨p, hjp⟩ : ∃ p, m.rel[j]? = some p := ⟨_, List.getElem?_eq_getElem hjl⟩
    have hjg : m.rel[j] = p := by rw [List.getElem?_eq_getElem hjl] at hjp; exact Option.some.inj hjp
    have hpe := (hpp j p hj hjp).1
    have hpf := (hpp j p hj hjp).2
    have w6 : IntKind.i64.wrap (p.at_ + p.len) = p.at_ + p.len := w64 (by omega) (by omega)
    have w8 : IntKind.i64.wrap ((i : Int) - 1) = (j : Int) := by rw [hj]; exact (w64 (by omega) (by omega)).trans (by omega)
    by_cases b5 : r.at_ < p.at_ + p.len
    ·refine W_rdE [1, 3, 4, 88] mx (by decide +kernel) ?_
     refine runD_pre 6 (by simp [lmC, b1, b2, b3, b4, iza, izb, hjl, hjz, hjp, hjg, hpe, w6, w8, b5]; rfl) rfl ?_
     refine runD_pre 6 (by simp [lmC, b1, b2, b3, b4, iza, izb, hjl, hjz, hjp, hjg, hpe, w6, w8, b5]; rfl) rfl ?_
     refine runD_pre 6 (by simp [lmC, b1, b2, b3, b4, iza, izb, hjl, hjz, hjp, hjg, hpe, w6, w8, b5]; rfl) rfl ?_
     refine runD_pre 6 (by simp [lmC, b1, b2, b3, b4, iza, izb, hjl, hjz, hjp, hjg, hpe, w6, w8, b5]; rfl) rfl ?_
     refine runD_pre 6 (by simp [lmC, b1, b2, b3, b4, iza, izb, hjl, hjz, hjp, hjg, hpe, w6, w8, b5]; rfl) rfl ?_
     refine runD_pre 6 (by simp [lmC, b1, b2, b3, b4, iza, izb, hjl, hjz, hjp, hjg, hpe, w6, w8, b5]; rfl) rfl ?_
     refine runD_pre 6 (by simp [lmC, b1, b2, b3, b4, iza, izb, hjl, hjz, hjp, hjg, hpe, w6, w8, b5]; rfl) rfl ?_
     refine runD_fin (by simp [lmC, b1, b2, b3, b4, iza, izb, hjl, hjz, hjp, hjg, hpe, w6, w8, b5]; rfl) ?_
     simp [onNormal, rl2, lmC, b1, b2, b3, b4, iza, izb, hjl, hjz, hjp, hjg, hpe, w6, w8, b5]
    refine W_rdE [1, 3, 4, 88] mx (by decide +kernel) ?_
    refine runD_pre 6 (by simp [lmC, b1, b2, b3, b4, iza, izb, hjl, hjz, hjp, hjg, hpe, w6, w8, b5]; rfl) rfl ?_
    refine runD_pre 6 (by simp [lmC, b1, b2, b3, b4, iza, izb, hjl, hjz, hjp, hjg, hpe, w6, w8, b5]; rfl) rfl ?_
    refine runD_pre 6 (by simp [lmC, b1, b2, b3, b4, iza, izb, hjl, hjz, hjp, hjg, hpe, w6, w8, b5]; rfl) rfl ?_
    refine runD_pre 6 (by simp [lmC, b1, b2, b3, b4, iza, izb, hjl, hjz, hjp, hjg, hpe, w6, w8, b5]; rfl) rfl ?_
    refine runD_pre 6 (by simp [lmC, b1, b2, b3, b4, iza, izb, hjl, hjz, hjp, hjg, hpe, w6, w8, b5]; rfl) rfl ?_
    refine runD_pre 6 (by simp [lmC, b1, b2, b3, b4, iza, izb, hjl, hjz, hjp, hjg, hpe, w6, w8, b5]; rfl) rfl ?_
    refine runD_pre 6 (by simp [lmC, b1, b2, b3, b4, iza, izb, hjl, hjz, hjp, hjg, hpe, w6, w8, b5]; rfl) rfl ?_
    refine runD_fin (by simp [lmC, b1, b2, b3, b4, iza, izb, hjl, hjz, hjp, hjg, hpe, w6, w8, b5]; rfl) ?_
    simp [onNormal, rl2, lmC, b1, b2, b3, b4, iza, izb, hjl, hjz, hjp, hjg, hpe, w6, w8, b5]
   have iza : ¬ 0 < i := iz
   have izb : i = 0 := by omega
   have izc : ¬ (0 : Int) < i := by omega
   refine W_rdE [1, 3, 4, 88] mx (by decide +kernel) ?_
   refine runD_pre 6 (by simp [lmC, b1, b2, b3, b4, iza, izb, izc]; rfl) rfl ?_
   refine runD_pre 6 (by simp [lmC, b1, b2, b3, b4, iza, izb, izc]; rfl) rfl ?_
   refine runD_pre 6 (by simp [lmC, b1, b2, b3, b4, iza, izb, izc]; rfl) rfl ?_
   refine runD_pre 6 (by simp [lmC, b1, b2, b3, b4, iza, izb, izc]; rfl) rfl ?_
   refine runD_pre 6 (by simp [lmC, b1, b2, b3, b4, iza, izb, izc]; rfl) rfl ?_
   refine runD_pre 6 (by simp [lmC, b1, b2, b3, b4, iza, izb, izc]; rfl) rfl ?_
   refine runD_pre 6 (by simp [lmC, b1, b2, b3, b4, iza, izb, izc]; rfl) rfl ?_
   refine runD_fin (by simp [lmC, b1, b2, b3, b4, iza, izb, izc]; rfl) ?_
   simp [onNormal, rl2, lmC, b1, b2, b3, b4, iza, izb, izc]
  rintro _ rfl
  rw [rl2_eq hp0 hpz]
  by_cases h1 : rl1 m past r = true
  ·rw [if_pos h1] at hgo
   rw [h1]
   refine W_cond rfl (fun h => ?_) (fun h => by simp at h)
   refine W_evK [2] (by simp; rfl) ?_
   refine W_ret ?_
   repeat (first | refine on_ret ?_ | refine in_ret ?_)
   exact hret hgo.symm _
  have h1f : rl1 m past r = false := by simpa using h1
  rw [h1f]
  refine W_cond rfl (fun h => by simp at h) (fun h => ?_)
  refine W_skip ?_
  rw [if_neg h1] at hgo
  have hrb := h1f
  simp only [rl1, Bool.or_eq_false_iff, decide_eq_false_iff_not] at hrb
  obtain ⟨b1, b2, b3, b4⟩ := hrb
  refine W_evK [1, 3, 4, 5] (by simp; rfl) ?_
  refine W_seqC (fun σ => σ = ⟨124, [(1, .loc 0 0), (3, .v (.int .i64 (i : Nat))), (4, .loc 1 0), (5, .v (.bool (m.seg.any (cov r))))], HR m r⟩) ?_ ?_
  ·refine W_evK [1, 3, 4, 5, 6] (by simp; rfl) ?_
   refine W_block ?_
   refine W_loop (fun k σ => ∃ (q : Nat), k = m.seg.length - q ∧ q ≤ m.seg.length ∧ σ = ⟨124, [(1, .loc 0 0), (3, .v (.int .i64 (i : Nat))), (4, .loc 1 0), (5, .v (.bool ((m.seg.take q).any (cov r)))), (6, .v (.int .i64 (q : Nat)))], HR m r⟩) (k := m.seg.length) ⟨0, rfl, by omega, by simp⟩ ?_
   rintro k σ ⟨q, rfl, hq, rfl⟩
   refine W_seq ?_
   by_cases c2 : q < m.seg.length
   ·have cq : (q : Int) < m.seg.length := by omega
    obtain ⟨s, hs⟩ : ∃ s, m.seg[q]? = some s := ⟨_, List.getElem?_eq_getElem c2⟩
    have hs2 : m.seg[q]'c2 = s := by rw [List.getElem?_eq_getElem c2] at hs; exact Option.some.inj hs
    have wq := w64 (n := (q : Int) + 1) (by omega) (by omega)
    obtain ⟨s1, s2, s3, s4⟩ := hsok s (List.mem_of_getElem? hs)
    have w1 : IntKind.i64.wrap (r.at_ + r.len) = r.at_ + r.len := w64 (by omega) (by omega)
    have w2 : IntKind.i64.wrap (s.frm + s.len) = s.frm + s.len := w64 (by omega) (by omega)
    have htk : (m.seg.take (q + 1)).any (cov r) = ((m.seg.take q).any (cov r) || cov r s) := by
     rw [List.take_add_one, hs, List.any_append]; simp
    refine W_evK [1, 3, 4, 5, 6, 93] (by simp [c2, lmC]; rfl) ?_
    refine W_cond rfl (fun h => ?_) (fun h => by simp at h)
    refine W_skip ?_
    refine W_seq ?_
    refine W_block ?_
    refine W_evK [1, 3, 4, 5, 6, 7] (by simp [c2, cq, hs2, lmC, setSeg, AV.weakL, AV.weak, AV.koneL, AV.kone]; rfl) ?_
    obtain ⟨fd, hfd⟩ : ∃ fd, (m.seg.take q).any (cov r) = fd := ⟨_, rfl⟩
    rw [hfd] at htk ⊢
    refine W_thenC (fun σ => σ = ⟨124, [(1, .loc 0 0), (3, .v (.int .i64 (i : Nat))), (4, .loc 1 0), (5, .v (.bool (fd || cov r s))), (6, .v (.int .i64 (q : Nat)))], [.cells 40 (lmC m), .cells 85 [.v (.int .i64 r.at_), .v (.int .i64 r.len), .v (.bool r.neg)], .cells 83 [.v (.int .i64 s.par), .v (.int .i64 s.org), .v (.int .i64 s.frm), .v (.int .i64 s.len)]]⟩) ?_ ?_
    ·by_cases fdt : fd = true
     ·refine W_rE [1, 3, 4, 5, 6] ?_
      refine runA_pre 6 (by simp [lmC, w1, w2, fdt]; rfl) rfl ?_
      refine runA_pre 6 (by simp [lmC, w1, w2, fdt]; rfl) rfl ?_
      refine runA_pre 6 (by simp [lmC, w1, w2, fdt]; rfl) rfl ?_
      refine runA_fin (by simp [lmC, w1, w2, fdt]; rfl) ?_
      simp [onNormal, cov, lmC, w1, w2, fdt]
     have fdf : fd = false := by simpa using fdt
     by_cases c1 : s.frm ≤ r.at_
     ·by_cases c3 : r.at_ + r.len ≤ s.frm + s.len
      ·refine W_rE [1, 3, 4, 5, 6] ?_
       refine runA_pre 6 (by simp [lmC, w1, w2, fdf, c1, c3]; rfl) rfl ?_
       refine runA_pre 6 (by simp [lmC, w1, w2, fdf, c1, c3]; rfl) rfl ?_
       refine runA_pre 6 (by simp [lmC, w1, w2, fdf, c1, c3]; rfl) rfl ?_
       refine runA_fin (by simp [lmC, w1, w2, fdf, c1, c3]; rfl) ?_
       simp [onNormal, cov, lmC, w1, w2, fdf, c1, c3]
      refine W_rE [1, 3, 4, 5, 6] ?_
      refine runA_pre 6 (by simp [lmC, w1, w2, fdf, c1, c3]; rfl) rfl ?_
      refine runA_pre 6 (by simp [lmC, w1, w2, fdf, c1, c3]; rfl) rfl ?_
      refine runA_pre 6 (by simp [lmC, w1, w2, fdf, c1, c3]; rfl) rfl ?_
      refine runA_fin (by simp [lmC, w1, w2, fdf, c1, c3]; rfl) ?_
      simp [onNormal, cov, lmC, w1, w2, fdf, c1, c3]
     refine W_rE [1, 3, 4, 5, 6] ?_
     refine runA_pre 6 (by simp [lmC, w1, w2, fdf, c1]; rfl) rfl ?_
     refine runA_pre 6 (by simp [lmC, w1, w2, fdf, c1]; rfl) rfl ?_
     refine runA_pre 6 (by simp [lmC, w1, w2, fdf, c1]; rfl) rfl ?_
     refine runA_fin (by simp [lmC, w1, w2, fdf, c1]; rfl) ?_
     simp [onNormal, cov, lmC, w1, w2, fdf, c1]
    rintro _ rfl
    refine W_cutH 2 (Nat.zero_le _) (by simp) (by simp [frUnder, AV.under, AV.underL]) (by simp [underH, AObj.under, lmC, AV.under, AV.underL]) ?_
    refine W_evE [1, 3, 4, 5, 6] (by simp [wq]; rfl) ?_
    exact ⟨_, by omega, q + 1, rfl, by omega, by simp [htk]⟩
   have hqe : q = m.seg.length := by omega
   refine W_evK [1, 3, 4, 5, 6, 93] (by simp [c2, lmC]; rfl) ?_
   refine W_cond rfl (fun h => by simp at h) (fun h => ?_)
   refine W_keepS [1, 3, 4, 5] ?_
   refine W_exit ?_
   simp [onNormal, hqe, lmC]
  rintro _ rfl
  by_cases h2 : m.seg.any (cov r) = false
  ·rw [if_pos h2] at hgo
   refine W_evK [1, 3, 123] (by simp [h2]; rfl) ?_
   refine W_cond rfl (fun h => ?_) (fun h => by simp at h)
   refine W_evK [2] (by simp; rfl) ?_
   refine W_ret ?_
   repeat (first | refine on_ret ?_ | refine in_ret ?_)
   exact hret hgo.symm _
  rw [if_neg h2] at hgo
  have h2t : m.seg.any (cov r) = true := by simpa using h2
  refine W_evK [1, 3, 123] (by simp [h2t]; rfl) ?_
  refine W_cond rfl (fun h => by simp at h) (fun h => ?_)
  refine W_skip ?_
  refine W_cutH 1 (Nat.zero_le _) (by simp) (by simp [frUnder, AV.under, AV.underL]) (by simp [underH, AObj.under, lmC, AV.under, AV.underL]) ?_
  refine W_evE [1, 3] (by simp [wi]; rfl) ?_
  refine ⟨_, by omega, i + 1, r.at_ + r.len, rfl, by omega, hgo, by omega, by omega, fun j p hj hp => ?_, by simp [lmC]⟩
  obtain rfl : j = i := by omega
  rw [hri] at hp
  obtain rfl := Option.some.inj hp
  exact ⟨rfl, by omega⟩
 have hie : i = m.rel.length := by omega
 rw [hie, List.drop_length, relGo] at hgo
 refine W_evK [1, 3, 36] (by simp [c, lmC]; rfl) ?_
 refine W_cond rfl (fun h => by simp at h) (fun h => ?_)
 refine W_exit ?_
 refine W_evK [2] (by simp; rfl) ?_
 refine W_ret ?_
 repeat (first | refine on_ret ?_ | refine in_ret ?_)
 simp [retQ, hS, ← hgo]
end Go.AM
