/- Parts of the walk: C31M C31N. -/
import Derived.Test.YtlhaljblcimnbaaG2
namespace Go.AM
open Go.RowKit Go.Proofs
set_option linter.unusedSimpArgs false
set_option linter.unusedVariables false
set_option maxHeartbeats 4000000
structure Seg where
 par : Int
 org : Int
 frm : Int
 len : Int
structure Rlo where
 at_ : Int
 len : Int
 neg : Bool
structure LMod where
 text : List UInt8
 rel : List Rlo
 seg : List Seg
 entry : Int
@[simp] def segA (s : Seg) : AV := .agg [.v (.int .i64 s.par), .v (.int .i64 s.org), .v (.int .i64 s.frm), .v (.int .i64 s.len)]
@[simp] def rloA (r : Rlo) : AV := .agg [.v (.int .i64 r.at_), .v (.int .i64 r.len), .v (.bool r.neg)]
def sgL (l : List Seg) : List AV := l.map segA
def rlL (l : List Rlo) : List AV := l.map rloA
@[simp] theorem sgL_length (l : List Seg) : (sgL l).length = l.length := by simp [sgL]
@[simp] theorem rlL_length (l : List Rlo) : (rlL l).length = l.length := by simp [rlL]
theorem sgL_get (l : List Seg) (i : Nat) : (sgL l)[i]? = (l[i]?).map segA := by simp [sgL]
theorem rlL_get (l : List Rlo) (i : Nat) : (rlL l)[i]? = (l[i]?).map rloA := by simp [rlL]
@[simp] theorem sgL_getElem (l : List Seg) (i : Nat) (h : i < (sgL l).length) : (sgL l)[i] = segA (l[i]'(by simpa using h)) := by simp [sgL]
@[simp] theorem rlL_getElem (l : List Rlo) (i : Nat) (h : i < (rlL l).length) : (rlL l)[i] = rloA (l[i]'(by simpa using h)) := by simp [rlL]
@[simp] theorem weakL_sgL (l : List Seg) : AV.weakL (sgL l) = sgL l := by induction l <;> simp_all [sgL, AV.weakL, AV.weak]
@[simp] theorem weakL_rlL (l : List Rlo) : AV.weakL (rlL l) = rlL l := by induction l <;> simp_all [rlL, AV.weakL, AV.weak]
@[simp] theorem dpL_sgL (l : List Seg) : AV.dpL (sgL l) = sgL l := by induction l <;> simp_all [sgL, AV.dpL, AV.dp]
@[simp] theorem dpL_rlL (l : List Rlo) : AV.dpL (rlL l) = rlL l := by induction l <;> simp_all [rlL, AV.dpL, AV.dp]
@[simp] theorem nlL_sgL (l : List Seg) : AV.nlL (sgL l) = sgL l := by induction l <;> simp_all [sgL, AV.nlL, AV.nl]
@[simp] theorem nlL_rlL (l : List Rlo) : AV.nlL (rlL l) = rlL l := by induction l <;> simp_all [rlL, AV.nlL, AV.nl]
@[simp] theorem rfL_sgL (l : List Seg) : AV.rfL (sgL l) = true := by induction l <;> simp_all [sgL, AV.rfL, AV.rf]
@[simp] theorem rfL_rlL (l : List Rlo) : AV.rfL (rlL l) = true := by induction l <;> simp_all [rlL, AV.rfL, AV.rf]
@[simp] theorem killL_sgL (t : Nat) (l : List Seg) : AV.killL t (sgL l) = sgL l := by induction l <;> simp_all [sgL, AV.killL, AV.kill]
@[simp] theorem killL_rlL (t : Nat) (l : List Rlo) : AV.killL t (rlL l) = rlL l := by induction l <;> simp_all [rlL, AV.killL, AV.kill]
def lmC (m : LMod) : List AV := [.lst .any 1 (byL m.text), .lst .any 3 (rlL m.rel), .lst .any 4 (sgL m.seg), .v (.int .i64 m.entry)]
@[simp] def lmA (m : LMod) : AV := .agg [.lst .any 1 (byL m.text), .lst .any 3 (rlL m.rel), .lst .any 4 (sgL m.seg), .v (.int .i64 m.entry)]
def paS (l : List Seg) (p : Int) : Seg := (l[p.toNat]?).getD ⟨0, 0, 0, 0⟩
def seg1 (fr : Int) (s : Seg) : Bool := decide (s.len < 0) || (decide (s.org < 0) || (decide (65536 < s.org) || (decide (65536 - s.org < s.len) || !decide (s.frm = fr))))
def seg2 (l : List Seg) (i : Nat) (s : Seg) : Bool :=
 if i = 0 then !decide (s.par = -1) || (!decide (s.org = 0) || decide (s.len < 1))
 else decide (s.par < 0) || (decide ((i : Int) ≤ s.par) || decide (s.org < (paS l s.par).org + (paS l s.par).len))
def segGo (l : List Seg) : Nat → List Seg → Int → Option Int
 | _, [], fr => some fr
 | i, s :: r, fr => if seg1 fr s = true then none else if seg2 l i s = true then none else segGo l (i + 1) r (fr + s.len)
def segF (m : LMod) : Option Int → Bool
 | none => false
 | some fr => decide (1 ≤ m.seg.length) && (decide (m.seg.length ≤ 64) && decide (fr = m.text.length))
def segM (m : LMod) : Bool := segF m (segGo m.seg 0 m.seg 0)
theorem seg1_ok {fr : Int} {s : Seg} (h : seg1 fr s = false) : 0 ≤ s.len ∧ 0 ≤ s.org ∧ s.org ≤ 65536 ∧ s.len ≤ 65536 - s.org ∧ s.frm = fr := by
 simp only [seg1, Bool.or_eq_false_iff, decide_eq_false_iff_not, Bool.not_eq_false', decide_eq_true_eq] at h
 obtain ⟨h1, h2, h3, h4, h5⟩ := h
 exact ⟨by omega, by omega, by omega, by omega, h5⟩
theorem validSeg_sound (m : LMod) (hl : m.seg.length ≤ 100000) (ht : m.text.length ≤ 9223372036854775807) : Sound Try.prog 69 [lmA m] (.v (.bool (segM m))) := by
 refine sound_of_W Try.func69 rfl (by decide +kernel) (by simp [Try.f69]) rfl rfl (rs := [.tmp 2]) rfl ?_
 rw [show Try.f69.ntmps = 107 from rfl]
 refine W_evK [1] (by simp; rfl) ?_
 refine W_evK [1, 3] (by simp; rfl) ?_
 refine W_seq ?_
 refine W_evK [1, 3, 7, 8, 9] (by simp; rfl) ?_
 refine W_block ?_
 obtain ⟨R, hR⟩ : ∃ R, segGo m.seg 0 m.seg 0 = R := ⟨_, rfl⟩
 have hS : segM m = segF m R := by rw [segM, hR]
 refine W_loop (fun k σ => ∃ (i : Nat) (fr : Int), k = m.seg.length - i ∧ i ≤ m.seg.length ∧ segGo m.seg i (m.seg.drop i) fr = R ∧ 0 ≤ fr ∧ fr ≤ 65536 * i ∧ (∀ (j : Nat) (s : Seg), j < i → m.seg[j]? = some s → 0 ≤ s.org ∧ s.org ≤ 65536 ∧ 0 ≤ s.len ∧ s.len ≤ 65536) ∧
  σ = ⟨107, [(1, .loc 0 0), (3, .v (.int .i64 fr)), (7, .lst .any 4 (sgL m.seg)), (8, .v (.int .i64 (m.seg.length : Nat))), (9, .v (.int .i64 (i : Nat)))], [.cells 40 (lmC m)]⟩) (k := m.seg.length) ⟨0, 0, rfl, by omega, hR, by omega, by omega, by simp, by simp [lmC]⟩ ?_
 rintro k σ ⟨i, fr, rfl, hi, hgo, hf0, hf1, hall, rfl⟩
 by_cases c : i < m.seg.length
 ·have ci : (i : Int) < m.seg.length := by omega
  obtain ⟨s, hs⟩ : ∃ s, m.seg[i]? = some s := ⟨_, List.getElem?_eq_getElem c⟩
  have hs2 : m.seg[i]'c = s := by rw [List.getElem?_eq_getElem c] at hs; exact Option.some.inj hs
  have hdr : m.seg.drop i = s :: m.seg.drop (i + 1) := by rw [List.drop_eq_getElem_cons c, hs2]
  have wi := w64 (n := (i : Int) + 1) (by omega) (by omega)
  rw [hdr, segGo] at hgo
  have hret : R = none → ∀ (h : List AObj), retQ Try.prog [.tmp 2] (.v (.bool (segM m))) .ret ⟨107, [(2, .v (.bool false))], h⟩ := by
   intro hR0 h
   simp [retQ, hS, hR0, segF]
  refine W_evK [1, 3, 7, 8, 9, 10] (by simp [c]; rfl) ?_
  refine W_seq ?_
  refine W_cond rfl (fun h => ?_) (fun h => by simp at h)
  refine W_skip ?_
  refine W_seq ?_
  refine W_block ?_
  refine W_evK [1, 3, 7, 8, 9, 5, 4] (by simp [c, ci, hs2, lmC, setSeg, AV.weakL, AV.weak, AV.koneL, AV.kone]; rfl) ?_
  refine W_seq ?_
  refine W_seqC (fun σ => σ = ⟨107, [(1, .loc 0 0), (3, .v (.int .i64 fr)), (7, .lst .any 4 (sgL m.seg)), (8, .v (.int .i64 (m.seg.length : Nat))), (9, .v (.int .i64 (i : Nat))), (5, .loc 1 0), (4, .v (.int .i64 (i : Nat))), (40, .v (.bool (seg1 fr s)))], [.cells 40 (lmC m), .cells 83 [.v (.int .i64 s.par), .v (.int .i64 s.org), .v (.int .i64 s.frm), .v (.int .i64 s.len)]]⟩) ?_ ?_
  ·have e5 : (s.frm != fr) = !decide (s.frm = fr) := by by_cases h : s.frm = fr <;> simp [h]
   by_cases a1 : s.len < 0
   ·refine W_rE [1, 3, 7, 8, 9, 5, 4, 40] ?_
    refine runA_pre 6 (by simp [lmC, a1, e5]; rfl) rfl ?_
    refine runA_pre 6 (by simp [lmC, a1, e5]; rfl) rfl ?_
    refine runA_pre 6 (by simp [lmC, a1, e5]; rfl) rfl ?_
    refine runA_pre 6 (by simp [lmC, a1, e5]; rfl) rfl ?_
    refine runA_fin (by simp [lmC, a1, e5]; rfl) ?_
    simp [onNormal, lmC, seg1, a1, e5]
   by_cases a2 : s.org < 0
   ·refine W_rE [1, 3, 7, 8, 9, 5, 4, 40] ?_
    refine runA_pre 6 (by simp [lmC, a1, a2, e5]; rfl) rfl ?_
    refine runA_pre 6 (by simp [lmC, a1, a2, e5]; rfl) rfl ?_
    refine runA_pre 6 (by simp [lmC, a1, a2, e5]; rfl) rfl ?_
    refine runA_pre 6 (by simp [lmC, a1, a2, e5]; rfl) rfl ?_
    refine runA_fin (by simp [lmC, a1, a2, e5]; rfl) ?_
    simp [onNormal, lmC, seg1, a1, a2, e5]
   by_cases a3 : 65536 < s.org
   ·refine W_rE [1, 3, 7, 8, 9, 5, 4, 40] ?_
    refine runA_pre 6 (by simp [lmC, a1, a2, a3, e5]; rfl) rfl ?_
    refine runA_pre 6 (by simp [lmC, a1, a2, a3, e5]; rfl) rfl ?_
    refine runA_pre 6 (by simp [lmC, a1, a2, a3, e5]; rfl) rfl ?_
    refine runA_pre 6 (by simp [lmC, a1, a2, a3, e5]; rfl) rfl ?_
    refine runA_fin (by simp [lmC, a1, a2, a3, e5]; rfl) ?_
    simp [onNormal, lmC, seg1, a1, a2, a3, e5]
   have a3n : ¬ 65536 < s.org := a3
   have w5 : IntKind.i64.wrap (65536 - s.org) = 65536 - s.org := w64 (by omega) (by omega)
   by_cases a4 : 65536 - s.org < s.len
   ·refine W_rE [1, 3, 7, 8, 9, 5, 4, 40] ?_
    refine runA_pre 6 (by simp [lmC, a1, a2, a3n, w5, a4, e5]; rfl) rfl ?_
    refine runA_pre 6 (by simp [lmC, a1, a2, a3n, w5, a4, e5]; rfl) rfl ?_
    refine runA_pre 6 (by simp [lmC, a1, a2, a3n, w5, a4, e5]; rfl) rfl ?_
    refine runA_pre 6 (by simp [lmC, a1, a2, a3n, w5, a4, e5]; rfl) rfl ?_
    refine runA_fin (by simp [lmC, a1, a2, a3n, w5, a4, e5]; rfl) ?_
    simp [onNormal, lmC, seg1, a1, a2, a3n, w5, a4, e5]
   refine W_rE [1, 3, 7, 8, 9, 5, 4, 40] ?_
   refine runA_pre 6 (by simp [lmC, a1, a2, a3n, w5, a4, e5]; rfl) rfl ?_
   refine runA_pre 6 (by simp [lmC, a1, a2, a3n, w5, a4, e5]; rfl) rfl ?_
   refine runA_pre 6 (by simp [lmC, a1, a2, a3n, w5, a4, e5]; rfl) rfl ?_
   refine runA_pre 6 (by simp [lmC, a1, a2, a3n, w5, a4, e5]; rfl) rfl ?_
   refine runA_fin (by simp [lmC, a1, a2, a3n, w5, a4, e5]; rfl) ?_
   simp [onNormal, lmC, seg1, a1, a2, a3n, w5, a4, e5]
  rintro _ rfl
  by_cases h1 : seg1 fr s = true
  ·rw [if_pos h1] at hgo
   rw [h1]
   refine W_cond rfl (fun h => ?_) (fun h => by simp at h)
   refine W_evK [2] (by simp; rfl) ?_
   refine W_ret ?_
   repeat (first | refine on_ret ?_ | refine in_ret ?_)
   exact hret hgo.symm _
  have h1f : seg1 fr s = false := by simpa using h1
  obtain ⟨b1, b2, b3, b4, b5⟩ := seg1_ok h1f
  rw [if_neg h1] at hgo
  rw [h1f]
  refine W_cond rfl (fun h => by simp at h) (fun h => ?_)
  refine W_skip ?_
  refine W_seqK (fun σ => seg2 m.seg i s = false ∧ σ = ⟨107, [(1, .loc 0 0), (3, .v (.int .i64 fr)), (7, .lst .any 4 (sgL m.seg)), (8, .v (.int .i64 (m.seg.length : Nat))), (9, .v (.int .i64 (i : Nat))), (5, .loc 1 0)], [.cells 40 (lmC m), .cells 83 [.v (.int .i64 s.par), .v (.int .i64 s.org), .v (.int .i64 s.frm), .v (.int .i64 s.len)]]⟩) ?_ ?_
  ·refine W_evK [1, 3, 7, 8, 9, 5, 4, 42] (by simp; rfl) ?_
   by_cases i0 : i = 0
   ·refine W_cond (by simp [i0]; rfl) (fun h => ?_) (fun h => by simp at h)
    refine W_seqC (fun σ => σ = ⟨107, [(1, .loc 0 0), (3, .v (.int .i64 fr)), (7, .lst .any 4 (sgL m.seg)), (8, .v (.int .i64 (m.seg.length : Nat))), (9, .v (.int .i64 (i : Nat))), (5, .loc 1 0), (55, .v (.bool (seg2 m.seg i s)))], [.cells 40 (lmC m), .cells 83 [.v (.int .i64 s.par), .v (.int .i64 s.org), .v (.int .i64 s.frm), .v (.int .i64 s.len)]]⟩) ?_ ?_
    ·have e6 : (s.par != -1) = !decide (s.par = -1) := by by_cases h : s.par = -1 <;> simp [h]
     have e7 : (s.org != 0) = !decide (s.org = 0) := by by_cases h : s.org = 0 <;> simp [h]
     by_cases d1 : ¬ s.par = -1
     ·refine W_rE [1, 3, 7, 8, 9, 5, 55] ?_
      refine runA_pre 6 (by simp [lmC, i0, e6, e7, d1]; rfl) rfl ?_
      refine runA_pre 6 (by simp [lmC, i0, e6, e7, d1]; rfl) rfl ?_
      refine runA_fin (by simp [lmC, i0, e6, e7, d1]; rfl) ?_
      simp [onNormal, lmC, seg2, i0, e6, e7, d1]
     have d1p : s.par = -1 := by omega
     by_cases d2 : ¬ s.org = 0
     ·refine W_rE [1, 3, 7, 8, 9, 5, 55] ?_
      refine runA_pre 6 (by simp [lmC, i0, e6, e7, d1p, d2]; rfl) rfl ?_
      refine runA_pre 6 (by simp [lmC, i0, e6, e7, d1p, d2]; rfl) rfl ?_
      refine runA_fin (by simp [lmC, i0, e6, e7, d1p, d2]; rfl) ?_
      simp [onNormal, lmC, seg2, i0, e6, e7, d1p, d2]
     have d2p : s.org = 0 := by omega
     by_cases d3 : s.len < 1
     ·refine W_rE [1, 3, 7, 8, 9, 5, 55] ?_
      refine runA_pre 6 (by simp [lmC, i0, e6, e7, d1p, d2p, d3]; rfl) rfl ?_
      refine runA_pre 6 (by simp [lmC, i0, e6, e7, d1p, d2p, d3]; rfl) rfl ?_
      refine runA_fin (by simp [lmC, i0, e6, e7, d1p, d2p, d3]; rfl) ?_
      simp [onNormal, lmC, seg2, i0, e6, e7, d1p, d2p, d3]
     refine W_rE [1, 3, 7, 8, 9, 5, 55] ?_
     refine runA_pre 6 (by simp [lmC, i0, e6, e7, d1p, d2p, d3]; rfl) rfl ?_
     refine runA_pre 6 (by simp [lmC, i0, e6, e7, d1p, d2p, d3]; rfl) rfl ?_
     refine runA_fin (by simp [lmC, i0, e6, e7, d1p, d2p, d3]; rfl) ?_
     simp [onNormal, lmC, seg2, i0, e6, e7, d1p, d2p, d3]
    rintro _ rfl
    by_cases h2 : seg2 m.seg i s = true
    ·rw [if_pos h2] at hgo
     rw [h2]
     refine W_cond rfl (fun h => ?_) (fun h => by simp at h)
     refine W_evK [2] (by simp; rfl) ?_
     refine W_ret ?_
     repeat (first | refine on_ret ?_ | refine in_ret ?_)
     exact hret hgo.symm _
    have h2f : seg2 m.seg i s = false := by simpa using h2
    rw [h2f]
    refine W_cond rfl (fun h => by simp at h) (fun h => ?_)
    refine W_keepS [1, 3, 7, 8, 9, 5] ?_
    refine W_skip ?_
    simp [onNormal, h2f]
   have i0' : ¬ (i : Int) = 0 := by omega
   refine W_cond (by simp [i0, i0']; rfl) (fun h => by simp [i0, i0'] at h) (fun h => ?_)
   refine W_seqC (fun σ => σ = ⟨107, [(1, .loc 0 0), (3, .v (.int .i64 fr)), (7, .lst .any 4 (sgL m.seg)), (8, .v (.int .i64 (m.seg.length : Nat))), (9, .v (.int .i64 (i : Nat))), (5, .loc 1 0), (84, .v (.bool (seg2 m.seg i s)))], [.cells 40 (lmC m), .cells 83 [.v (.int .i64 s.par), .v (.int .i64 s.org), .v (.int .i64 s.frm), .v (.int .i64 s.len)]]⟩) ?_ ?_
   ·by_cases d1 : s.par < 0
    ·refine W_rdE [1, 3, 7, 8, 9, 5, 84] mx (by decide +kernel) ?_
     refine runD_pre 6 (by simp [lmC, i0, d1]; rfl) rfl ?_
     refine runD_pre 6 (by simp [lmC, i0, d1]; rfl) rfl ?_
     refine runD_pre 6 (by simp [lmC, i0, d1]; rfl) rfl ?_
     refine runD_pre 6 (by simp [lmC, i0, d1]; rfl) rfl ?_
     refine runD_fin (by simp [lmC, i0, d1]; rfl) ?_
     simp [onNormal, lmC, seg2, paS, i0, d1]
    by_cases d2 : (i : Int) ≤ s.par
    ·refine W_rdE [1, 3, 7, 8, 9, 5, 84] mx (by decide +kernel) ?_
     refine runD_pre 6 (by simp [lmC, i0, d1, d2]; rfl) rfl ?_
     refine runD_pre 6 (by simp [lmC, i0, d1, d2]; rfl) rfl ?_
     refine runD_pre 6 (by simp [lmC, i0, d1, d2]; rfl) rfl ?_
     refine runD_pre 6 (by simp [lmC, i0, d1, d2]; rfl) rfl ?_
     refine runD_fin (by simp [lmC, i0, d1, d2]; rfl) ?_
     simp [onNormal, lmC, seg2, paS, i0, d1, d2]
    obtain ⟨j, hj⟩ : ∃ j : Nat, s.par = j := ⟨s.par.toNat, by omega⟩
    have hji : j < i := by omega
    have hnij : ¬ i ≤ j := by omega
    have hj0 : ¬ (j : Int) < 0 := by omega
    have hjl : j < m.seg.length := by omega
    have hjz : (j : Int) < m.seg.length := by omega
    obtain ⟨p, hjp⟩ : ∃ p, m.seg[j]? = some p := ⟨_, List.getElem?_eq_getElem hjl⟩
    have hjg : m.seg[j] = p := by rw [List.getElem?_eq_getElem hjl] at hjp; exact Option.some.inj hjp
    obtain ⟨q1, q2, q3, q4⟩ := hall j p hji hjp
    have w6 : IntKind.i64.wrap (p.org + p.len) = p.org + p.len := w64 (by omega) (by omega)
    by_cases d3 : s.org < p.org + p.len
    ·refine W_rdE [1, 3, 7, 8, 9, 5, 84] mx (by decide +kernel) ?_
     refine runD_pre 6 (by simp [lmC, i0, d1, hj, hji, hnij, hj0, hjl, hjz, hjp, hjg, w6, d3]; rfl) rfl ?_
     refine runD_pre 6 (by simp [lmC, i0, d1, hj, hji, hnij, hj0, hjl, hjz, hjp, hjg, w6, d3]; rfl) rfl ?_
     refine runD_pre 6 (by simp [lmC, i0, d1, hj, hji, hnij, hj0, hjl, hjz, hjp, hjg, w6, d3]; rfl) rfl ?_
     refine runD_pre 6 (by simp [lmC, i0, d1, hj, hji, hnij, hj0, hjl, hjz, hjp, hjg, w6, d3]; rfl) rfl ?_
     refine runD_fin (by simp [lmC, i0, d1, hj, hji, hnij, hj0, hjl, hjz, hjp, hjg, w6, d3]; rfl) ?_
     simp [onNormal, lmC, seg2, paS, i0, d1, hj, hji, hnij, hj0, hjl, hjz, hjp, hjg, w6, d3]
    refine W_rdE [1, 3, 7, 8, 9, 5, 84] mx (by decide +kernel) ?_
    refine runD_pre 6 (by simp [lmC, i0, d1, hj, hji, hnij, hj0, hjl, hjz, hjp, hjg, w6, d3]; rfl) rfl ?_
    refine runD_pre 6 (by simp [lmC, i0, d1, hj, hji, hnij, hj0, hjl, hjz, hjp, hjg, w6, d3]; rfl) rfl ?_
    refine runD_pre 6 (by simp [lmC, i0, d1, hj, hji, hnij, hj0, hjl, hjz, hjp, hjg, w6, d3]; rfl) rfl ?_
    refine runD_pre 6 (by simp [lmC, i0, d1, hj, hji, hnij, hj0, hjl, hjz, hjp, hjg, w6, d3]; rfl) rfl ?_
    refine runD_fin (by simp [lmC, i0, d1, hj, hji, hnij, hj0, hjl, hjz, hjp, hjg, w6, d3]; rfl) ?_
    simp [onNormal, lmC, seg2, paS, i0, d1, hj, hji, hnij, hj0, hjl, hjz, hjp, hjg, w6, d3]
   rintro _ rfl
   by_cases h2 : seg2 m.seg i s = true
   ·rw [if_pos h2] at hgo
    rw [h2]
    refine W_cond rfl (fun h => ?_) (fun h => by simp at h)
    refine W_evK [2] (by simp; rfl) ?_
    refine W_ret ?_
    repeat (first | refine on_ret ?_ | refine in_ret ?_)
    exact hret hgo.symm _
   have h2f : seg2 m.seg i s = false := by simpa using h2
   rw [h2f]
   refine W_cond rfl (fun h => by simp at h) (fun h => ?_)
   refine W_keepS [1, 3, 7, 8, 9, 5] ?_
   refine W_skip ?_
   simp [onNormal, h2f]
  rintro _ ⟨h2f, rfl⟩
  rw [if_neg (by simp [h2f])] at hgo
  have w7 : IntKind.i64.wrap (fr + s.len) = fr + s.len := w64 (by omega) (by omega)
  refine W_evE [1, 3, 7, 8, 9] (by simp [w7, lmC, setSeg, AV.weakL, AV.weak, AV.koneL, AV.kone]; rfl) ?_
  refine W_cutH 1 (Nat.zero_le _) (by simp) (by simp [frUnder, AV.under, AV.underL]) (by simp [underH, AObj.under, lmC, AV.under, AV.underL]) ?_
  refine W_evE [1, 3, 7, 8, 9] (by simp [wi]; rfl) ?_
  refine ⟨_, by omega, i + 1, fr + s.len, rfl, by omega, hgo, by omega, by omega, fun j t hj ht => ?_, by simp [lmC]⟩
  by_cases hjj : j < i
  ·exact hall j t hjj ht
  ·have : j = i := by omega
   subst this
   rw [hs] at ht
   obtain rfl := Option.some.inj ht
   exact ⟨by omega, by omega, by omega, by omega⟩
 have hie : i = m.seg.length := by omega
 have hRs : R = some fr := by rw [← hgo, hie, List.drop_length, segGo]
 rw [hRs] at hS
 refine W_evK [1, 3, 7, 8, 9, 10] (by simp [c]; rfl) ?_
 refine W_seq ?_
 refine W_cond rfl (fun h => by simp at h) (fun h => ?_)
 refine W_exit ?_
 refine W_seqC (fun σ => σ = ⟨107, [(2, .v (.bool (segM m)))], [.cells 40 (lmC m)]⟩) ?_ ?_
 ·by_cases z1 : ¬ 1 ≤ m.seg.length
  ·have z1i : ¬ (1 : Int) ≤ m.seg.length := by omega
   refine W_rE [2] ?_
   refine runA_pre 6 (by simp [lmC, z1, z1i]; rfl) rfl ?_
   refine runA_pre 6 (by simp [lmC, z1, z1i]; rfl) rfl ?_
   refine runA_pre 6 (by simp [lmC, z1, z1i]; rfl) rfl ?_
   refine runA_fin (by simp [lmC, z1, z1i]; rfl) ?_
   simp [onNormal, lmC, hS, segF, z1, z1i]
  have z1p : (1 : Int) ≤ m.seg.length := by omega
  have z1q : 1 ≤ m.seg.length := by omega
  by_cases z2 : ¬ m.seg.length ≤ 64
  ·have z2i : ¬ (m.seg.length : Int) ≤ 64 := by omega
   refine W_rE [2] ?_
   refine runA_pre 6 (by simp [lmC, z1p, z1q, z2, z2i]; rfl) rfl ?_
   refine runA_pre 6 (by simp [lmC, z1p, z1q, z2, z2i]; rfl) rfl ?_
   refine runA_pre 6 (by simp [lmC, z1p, z1q, z2, z2i]; rfl) rfl ?_
   refine runA_fin (by simp [lmC, z1p, z1q, z2, z2i]; rfl) ?_
   simp [onNormal, lmC, hS, segF, z1p, z1q, z2, z2i]
  have z2p : (m.seg.length : Int) ≤ 64 := by omega
  have z2q : m.seg.length ≤ 64 := by omega
  by_cases z3 : ¬ fr = (m.text.length : Int)
  ·refine W_rE [2] ?_
   refine runA_pre 6 (by simp [lmC, z1p, z1q, z2p, z2q, z3]; rfl) rfl ?_
   refine runA_pre 6 (by simp [lmC, z1p, z1q, z2p, z2q, z3]; rfl) rfl ?_
   refine runA_pre 6 (by simp [lmC, z1p, z1q, z2p, z2q, z3]; rfl) rfl ?_
   refine runA_fin (by simp [lmC, z1p, z1q, z2p, z2q, z3]; rfl) ?_
   simp [onNormal, lmC, hS, segF, z1p, z1q, z2p, z2q, z3]
  have z3p : fr = (m.text.length : Int) := by omega
  refine W_rE [2] ?_
  refine runA_pre 6 (by simp [lmC, z1p, z1q, z2p, z2q, z3p]; rfl) rfl ?_
  refine runA_pre 6 (by simp [lmC, z1p, z1q, z2p, z2q, z3p]; rfl) rfl ?_
  refine runA_pre 6 (by simp [lmC, z1p, z1q, z2p, z2q, z3p]; rfl) rfl ?_
  refine runA_fin (by simp [lmC, z1p, z1q, z2p, z2q, z3p]; rfl) ?_
  simp [onNormal, lmC, hS, segF, z1p, z1q, z2p, z2q, z3p]
 rintro _ rfl
 refine W_ret ?_
 repeat (first | refine on_ret ?_ | refine in_ret ?_)
 simp [retQ]
end Go.AM
namespace Go.AM
open Go.RowKit Go.Proofs
set_option linter.unusedSimpArgs false
set_option linter.unusedVariables false
set_option maxHeartbeats 2000000
def rsB (l : List UInt8) : Bool := decide (l.length < 1) || (decide (8 < l.length) || digB (l.headD 0))
theorem symM_rsB (l : List UInt8) : symM l = (!rsB l && l.all okB) := by
 rw [Bool.eq_iff_iff]
 simp only [symM, rsB, Bool.and_eq_true, Bool.not_eq_true', Bool.or_eq_false_iff, decide_eq_true_eq, decide_eq_false_iff_not]
 constructor
 ·rintro ⟨h1, h2, h3, h4⟩
  exact ⟨⟨by omega, by omega, h3⟩, h4⟩
 ·rintro ⟨⟨h1, h2, h3⟩, h4⟩
  exact ⟨by omega, by omega, h3, h4⟩
theorem rsymbol_sound (l : List UInt8) (hl : l.length ≤ 9223372036854775807) : Sound Try.prog 96 [strB l] (.v (.bool (symM l))) := by
 refine sound_of_W Try.func96 rfl (by decide +kernel) (by simp [Try.f96]) rfl rfl (rs := [.tmp 2]) rfl ?_
 rw [show Try.f96.ntmps = 59 from rfl]
 simp only [strB]
 refine W_evK [0] (by simp; rfl) ?_
 refine W_seq ?_
 refine W_seqC (fun σ => σ = ⟨59, [(0, .v (.string ⟨l.toArray⟩)), (22, .v (.bool (rsB l)))], []⟩) ?_ ?_
 ·by_cases n1 : 1 ≤ l.length
  ·have n10 : 1 ≤ l.length := n1
   have n1a : (1 : Int) ≤ (l.length : Nat) := by omega
   have n1b : ¬ l.length < 1 := by omega
   have n1c : ¬ ((l.length : Nat) : Int) < 1 := by omega
   have hpos : 0 < l.length := n1
   obtain ⟨b, hb⟩ : ∃ b, l[0]? = some b := ⟨_, List.getElem?_eq_getElem hpos⟩
   have hb2 : l[0] = b := by rw [List.getElem?_eq_getElem hpos] at hb; exact Option.some.inj hb
   have hhd : l.head?.getD 0 = b := by rw [List.head?_eq_getElem?, hb]; rfl
   by_cases n2 : l.length ≤ 8
   ·have n20 : l.length ≤ 8 := n2
    have n2a : ((l.length : Nat) : Int) ≤ 8 := by omega
    have n2b : ¬ 8 < l.length := by omega
    have n2c : ¬ (8 : Int) < (l.length : Nat) := by omega
    by_cases n3 : 48 ≤ b.toNat
    ·have n30 : 48 ≤ b.toNat := n3
     have n3a : (48 : Int) ≤ (b.toNat : Nat) := by omega
     have n3b : ¬ b.toNat < 48 := by omega
     have n3c : ¬ ((b.toNat : Nat) : Int) < 48 := by omega
     by_cases n4 : b.toNat ≤ 57
     ·have n40 : b.toNat ≤ 57 := n4
      have n4a : ((b.toNat : Nat) : Int) ≤ 57 := by omega
      have n4b : ¬ 57 < b.toNat := by omega
      have n4c : ¬ (57 : Int) < (b.toNat : Nat) := by omega
      refine W_rE [0, 22] ?_
      refine runA_pre 6 (by simp [n10, n1a, n1b, n1c, hpos, hb, hb2, hhd, n20, n2a, n2b, n2c, n30, n3a, n3b, n3c, n40, n4a, n4b, n4c]; rfl) rfl ?_
      refine runA_pre 6 (by simp [n10, n1a, n1b, n1c, hpos, hb, hb2, hhd, n20, n2a, n2b, n2c, n30, n3a, n3b, n3c, n40, n4a, n4b, n4c]; rfl) rfl ?_
      refine runA_fin (by simp [n10, n1a, n1b, n1c, hpos, hb, hb2, hhd, n20, n2a, n2b, n2c, n30, n3a, n3b, n3c, n40, n4a, n4b, n4c]; rfl) ?_
      simp [onNormal, rsB, digB, n10, n1a, n1b, n1c, hpos, hb, hb2, hhd, n20, n2a, n2b, n2c, n30, n3a, n3b, n3c, n40, n4a, n4b, n4c]
     have n40 : ¬ b.toNat ≤ 57 := n4
     have n4a : ¬ ((b.toNat : Nat) : Int) ≤ 57 := by omega
     have n4b : 57 < b.toNat := by omega
     have n4c : (57 : Int) < (b.toNat : Nat) := by omega
     refine W_rE [0, 22] ?_
     refine runA_pre 6 (by simp [n10, n1a, n1b, n1c, hpos, hb, hb2, hhd, n20, n2a, n2b, n2c, n30, n3a, n3b, n3c, n40, n4a, n4b, n4c]; rfl) rfl ?_
     refine runA_pre 6 (by simp [n10, n1a, n1b, n1c, hpos, hb, hb2, hhd, n20, n2a, n2b, n2c, n30, n3a, n3b, n3c, n40, n4a, n4b, n4c]; rfl) rfl ?_
     refine runA_fin (by simp [n10, n1a, n1b, n1c, hpos, hb, hb2, hhd, n20, n2a, n2b, n2c, n30, n3a, n3b, n3c, n40, n4a, n4b, n4c]; rfl) ?_
     simp [onNormal, rsB, digB, n10, n1a, n1b, n1c, hpos, hb, hb2, hhd, n20, n2a, n2b, n2c, n30, n3a, n3b, n3c, n40, n4a, n4b, n4c]
    have n30 : ¬ 48 ≤ b.toNat := n3
    have n3a : ¬ (48 : Int) ≤ (b.toNat : Nat) := by omega
    have n3b : b.toNat < 48 := by omega
    have n3c : ((b.toNat : Nat) : Int) < 48 := by omega
    refine W_rE [0, 22] ?_
    refine runA_pre 6 (by simp [n10, n1a, n1b, n1c, hpos, hb, hb2, hhd, n20, n2a, n2b, n2c, n30, n3a, n3b, n3c]; rfl) rfl ?_
    refine runA_pre 6 (by simp [n10, n1a, n1b, n1c, hpos, hb, hb2, hhd, n20, n2a, n2b, n2c, n30, n3a, n3b, n3c]; rfl) rfl ?_
    refine runA_fin (by simp [n10, n1a, n1b, n1c, hpos, hb, hb2, hhd, n20, n2a, n2b, n2c, n30, n3a, n3b, n3c]; rfl) ?_
    simp [onNormal, rsB, digB, n10, n1a, n1b, n1c, hpos, hb, hb2, hhd, n20, n2a, n2b, n2c, n30, n3a, n3b, n3c]
   have n20 : ¬ l.length ≤ 8 := n2
   have n2a : ¬ ((l.length : Nat) : Int) ≤ 8 := by omega
   have n2b : 8 < l.length := by omega
   have n2c : (8 : Int) < (l.length : Nat) := by omega
   refine W_rE [0, 22] ?_
   refine runA_pre 6 (by simp [n10, n1a, n1b, n1c, hpos, hb, hb2, hhd, n20, n2a, n2b, n2c]; rfl) rfl ?_
   refine runA_pre 6 (by simp [n10, n1a, n1b, n1c, hpos, hb, hb2, hhd, n20, n2a, n2b, n2c]; rfl) rfl ?_
   refine runA_fin (by simp [n10, n1a, n1b, n1c, hpos, hb, hb2, hhd, n20, n2a, n2b, n2c]; rfl) ?_
   simp [onNormal, rsB, digB, n10, n1a, n1b, n1c, hpos, hb, hb2, hhd, n20, n2a, n2b, n2c]
  have n10 : ¬ 1 ≤ l.length := n1
  have n1a : ¬ (1 : Int) ≤ (l.length : Nat) := by omega
  have n1b : l.length < 1 := by omega
  have n1c : ((l.length : Nat) : Int) < 1 := by omega
  refine W_rE [0, 22] ?_
  refine runA_pre 6 (by simp [n10, n1a, n1b, n1c]; rfl) rfl ?_
  refine runA_pre 6 (by simp [n10, n1a, n1b, n1c]; rfl) rfl ?_
  refine runA_fin (by simp [n10, n1a, n1b, n1c]; rfl) ?_
  simp [onNormal, rsB, digB, n10, n1a, n1b, n1c]
 rintro _ rfl
 by_cases hr : rsB l = true
 ·rw [hr]
  refine W_cond rfl (fun h => ?_) (fun h => by simp at h)
  refine W_evK [2] (by simp; rfl) ?_
  refine W_ret ?_
  repeat (first | refine on_ret ?_ | refine in_ret ?_)
  simp [retQ, symM_rsB, hr]
 have hrf : rsB l = false := by simpa using hr
 rw [hrf]
 refine W_cond rfl (fun h => by simp at h) (fun h => ?_)
 refine W_skip ?_
 refine W_seq ?_
 refine W_evK [0, 3] (by simp; rfl) ?_
 refine W_block ?_
 refine W_loop (fun k σ => ∃ i : Nat, k = l.length - i ∧ i ≤ l.length ∧ (l.take i).all okB = true ∧ σ = ⟨59, [(0, .v (.string ⟨l.toArray⟩)), (3, .v (.int .i64 (i : Nat)))], []⟩) (k := l.length) ⟨0, rfl, by omega, by simp, by simp⟩ ?_
 rintro k s ⟨i, rfl, hi, hall, rfl⟩
 refine W_seq ?_
 by_cases c : i < l.length
 ·have ci : (i : Int) < l.length := by omega
  obtain ⟨b, hb⟩ : ∃ b, l[i]? = some b := ⟨_, List.getElem?_eq_getElem c⟩
  have hb2 : l[i] = b := by rw [List.getElem?_eq_getElem c] at hb; exact Option.some.inj hb
  have wi := w64 (n := (i : Int) + 1) (by omega) (by omega)
  refine W_evK [0, 3, 26] (by simp [c, ci]; rfl) ?_
  refine W_cond rfl (fun h => ?_) (fun h => by simp at h)
  refine W_skip ?_
  refine W_seq ?_
  refine W_block ?_
  refine W_evK [0, 3, 4] (by simp [c, ci, hb, hb2]; rfl) ?_
  refine W_seqC (fun σ => σ = ⟨59, [(0, .v (.string ⟨l.toArray⟩)), (3, .v (.int .i64 (i : Nat))), (58, .v (.bool (!okB b)))], []⟩) ?_ ?_
  ·by_cases p1 : 65 ≤ b.toNat
   ·have p10 : 65 ≤ b.toNat := p1
    have p1a : (65 : Int) ≤ (b.toNat : Nat) := by omega
    have p1b : ¬ b.toNat < 65 := by omega
    have p1c : ¬ ((b.toNat : Nat) : Int) < 65 := by omega
    by_cases p2 : b.toNat ≤ 90
    ·have p20 : b.toNat ≤ 90 := p2
     have p2a : ((b.toNat : Nat) : Int) ≤ 90 := by omega
     have p2b : ¬ 90 < b.toNat := by omega
     have p2c : ¬ (90 : Int) < (b.toNat : Nat) := by omega
     refine W_rE [0, 3, 58] ?_
     refine runA_pre 6 (by simp [p10, p1a, p1b, p1c, p20, p2a, p2b, p2c]; rfl) rfl ?_
     refine runA_pre 6 (by simp [p10, p1a, p1b, p1c, p20, p2a, p2b, p2c]; rfl) rfl ?_
     refine runA_pre 6 (by simp [p10, p1a, p1b, p1c, p20, p2a, p2b, p2c]; rfl) rfl ?_
     refine runA_pre 6 (by simp [p10, p1a, p1b, p1c, p20, p2a, p2b, p2c]; rfl) rfl ?_
     refine runA_fin (by simp [p10, p1a, p1b, p1c, p20, p2a, p2b, p2c]; rfl) ?_
     simp [onNormal, okB, okC, p10, p1a, p1b, p1c, p20, p2a, p2b, p2c]
    have p20 : ¬ b.toNat ≤ 90 := p2
    have p2a : ¬ ((b.toNat : Nat) : Int) ≤ 90 := by omega
    have p2b : 90 < b.toNat := by omega
    have p2c : (90 : Int) < (b.toNat : Nat) := by omega
    by_cases p3 : 48 ≤ b.toNat
    ·have p30 : 48 ≤ b.toNat := p3
     have p3a : (48 : Int) ≤ (b.toNat : Nat) := by omega
     have p3b : ¬ b.toNat < 48 := by omega
     have p3c : ¬ ((b.toNat : Nat) : Int) < 48 := by omega
     by_cases p4 : b.toNat ≤ 57
     ·have p40 : b.toNat ≤ 57 := p4
      have p4a : ((b.toNat : Nat) : Int) ≤ 57 := by omega
      have p4b : ¬ 57 < b.toNat := by omega
      have p4c : ¬ (57 : Int) < (b.toNat : Nat) := by omega
      refine W_rE [0, 3, 58] ?_
      refine runA_pre 6 (by simp [p10, p1a, p1b, p1c, p20, p2a, p2b, p2c, p30, p3a, p3b, p3c, p40, p4a, p4b, p4c]; rfl) rfl ?_
      refine runA_pre 6 (by simp [p10, p1a, p1b, p1c, p20, p2a, p2b, p2c, p30, p3a, p3b, p3c, p40, p4a, p4b, p4c]; rfl) rfl ?_
      refine runA_pre 6 (by simp [p10, p1a, p1b, p1c, p20, p2a, p2b, p2c, p30, p3a, p3b, p3c, p40, p4a, p4b, p4c]; rfl) rfl ?_
      refine runA_pre 6 (by simp [p10, p1a, p1b, p1c, p20, p2a, p2b, p2c, p30, p3a, p3b, p3c, p40, p4a, p4b, p4c]; rfl) rfl ?_
      refine runA_fin (by simp [p10, p1a, p1b, p1c, p20, p2a, p2b, p2c, p30, p3a, p3b, p3c, p40, p4a, p4b, p4c]; rfl) ?_
      simp [onNormal, okB, okC, p10, p1a, p1b, p1c, p20, p2a, p2b, p2c, p30, p3a, p3b, p3c, p40, p4a, p4b, p4c]
     have p40 : ¬ b.toNat ≤ 57 := p4
     have p4a : ¬ ((b.toNat : Nat) : Int) ≤ 57 := by omega
     have p4b : 57 < b.toNat := by omega
     have p4c : (57 : Int) < (b.toNat : Nat) := by omega
     by_cases p5 : b.toNat = 64
     ·have p5a : ((b.toNat : Nat) : Int) = 64 := by omega
      refine W_rE [0, 3, 58] ?_
      refine runA_pre 6 (by simp [p10, p1a, p1b, p1c, p20, p2a, p2b, p2c, p30, p3a, p3b, p3c, p40, p4a, p4b, p4c, p5a]; rfl) rfl ?_
      refine runA_pre 6 (by simp [p10, p1a, p1b, p1c, p20, p2a, p2b, p2c, p30, p3a, p3b, p3c, p40, p4a, p4b, p4c, p5a]; rfl) rfl ?_
      refine runA_pre 6 (by simp [p10, p1a, p1b, p1c, p20, p2a, p2b, p2c, p30, p3a, p3b, p3c, p40, p4a, p4b, p4c, p5a]; rfl) rfl ?_
      refine runA_pre 6 (by simp [p10, p1a, p1b, p1c, p20, p2a, p2b, p2c, p30, p3a, p3b, p3c, p40, p4a, p4b, p4c, p5a]; rfl) rfl ?_
      refine runA_fin (by simp [p10, p1a, p1b, p1c, p20, p2a, p2b, p2c, p30, p3a, p3b, p3c, p40, p4a, p4b, p4c, p5a]; rfl) ?_
      simp [onNormal, okB, okC, p10, p1a, p1b, p1c, p20, p2a, p2b, p2c, p30, p3a, p3b, p3c, p40, p4a, p4b, p4c, p5a]
     have p50 : ¬ b.toNat = 64 := p5
     have p5a : ¬ ((b.toNat : Nat) : Int) = 64 := by omega
     have p5b : (((b.toNat : Nat) : Int) == 64) = false := beq_eq_false_iff_ne.2 (by omega)
     by_cases p6 : b.toNat = 35
     ·have p6a : ((b.toNat : Nat) : Int) = 35 := by omega
      refine W_rE [0, 3, 58] ?_
      refine runA_pre 6 (by simp [p10, p1a, p1b, p1c, p20, p2a, p2b, p2c, p30, p3a, p3b, p3c, p40, p4a, p4b, p4c, p50, p5a, p5b, p6a]; rfl) rfl ?_
      refine runA_pre 6 (by simp [p10, p1a, p1b, p1c, p20, p2a, p2b, p2c, p30, p3a, p3b, p3c, p40, p4a, p4b, p4c, p50, p5a, p5b, p6a]; rfl) rfl ?_
      refine runA_pre 6 (by simp [p10, p1a, p1b, p1c, p20, p2a, p2b, p2c, p30, p3a, p3b, p3c, p40, p4a, p4b, p4c, p50, p5a, p5b, p6a]; rfl) rfl ?_
      refine runA_pre 6 (by simp [p10, p1a, p1b, p1c, p20, p2a, p2b, p2c, p30, p3a, p3b, p3c, p40, p4a, p4b, p4c, p50, p5a, p5b, p6a]; rfl) rfl ?_
      refine runA_fin (by simp [p10, p1a, p1b, p1c, p20, p2a, p2b, p2c, p30, p3a, p3b, p3c, p40, p4a, p4b, p4c, p50, p5a, p5b, p6a]; rfl) ?_
      simp [onNormal, okB, okC, p10, p1a, p1b, p1c, p20, p2a, p2b, p2c, p30, p3a, p3b, p3c, p40, p4a, p4b, p4c, p50, p5a, p5b, p6a]
     have p60 : ¬ b.toNat = 35 := p6
     have p6a : ¬ ((b.toNat : Nat) : Int) = 35 := by omega
     have p6b : (((b.toNat : Nat) : Int) == 35) = false := beq_eq_false_iff_ne.2 (by omega)
     by_cases p7 : b.toNat = 36
     ·have p7a : ((b.toNat : Nat) : Int) = 36 := by omega
      refine W_rE [0, 3, 58] ?_
      refine runA_pre 6 (by simp [p10, p1a, p1b, p1c, p20, p2a, p2b, p2c, p30, p3a, p3b, p3c, p40, p4a, p4b, p4c, p50, p5a, p5b, p60, p6a, p6b, p7a]; rfl) rfl ?_
      refine runA_pre 6 (by simp [p10, p1a, p1b, p1c, p20, p2a, p2b, p2c, p30, p3a, p3b, p3c, p40, p4a, p4b, p4c, p50, p5a, p5b, p60, p6a, p6b, p7a]; rfl) rfl ?_
      refine runA_pre 6 (by simp [p10, p1a, p1b, p1c, p20, p2a, p2b, p2c, p30, p3a, p3b, p3c, p40, p4a, p4b, p4c, p50, p5a, p5b, p60, p6a, p6b, p7a]; rfl) rfl ?_
      refine runA_pre 6 (by simp [p10, p1a, p1b, p1c, p20, p2a, p2b, p2c, p30, p3a, p3b, p3c, p40, p4a, p4b, p4c, p50, p5a, p5b, p60, p6a, p6b, p7a]; rfl) rfl ?_
      refine runA_fin (by simp [p10, p1a, p1b, p1c, p20, p2a, p2b, p2c, p30, p3a, p3b, p3c, p40, p4a, p4b, p4c, p50, p5a, p5b, p60, p6a, p6b, p7a]; rfl) ?_
      simp [onNormal, okB, okC, p10, p1a, p1b, p1c, p20, p2a, p2b, p2c, p30, p3a, p3b, p3c, p40, p4a, p4b, p4c, p50, p5a, p5b, p60, p6a, p6b, p7a]
     have p70 : ¬ b.toNat = 36 := p7
     have p7a : ¬ ((b.toNat : Nat) : Int) = 36 := by omega
     have p7b : (((b.toNat : Nat) : Int) == 36) = false := beq_eq_false_iff_ne.2 (by omega)
     refine W_rE [0, 3, 58] ?_
     refine runA_pre 6 (by simp [p10, p1a, p1b, p1c, p20, p2a, p2b, p2c, p30, p3a, p3b, p3c, p40, p4a, p4b, p4c, p50, p5a, p5b, p60, p6a, p6b, p70, p7a, p7b]; rfl) rfl ?_
     refine runA_pre 6 (by simp [p10, p1a, p1b, p1c, p20, p2a, p2b, p2c, p30, p3a, p3b, p3c, p40, p4a, p4b, p4c, p50, p5a, p5b, p60, p6a, p6b, p70, p7a, p7b]; rfl) rfl ?_
     refine runA_pre 6 (by simp [p10, p1a, p1b, p1c, p20, p2a, p2b, p2c, p30, p3a, p3b, p3c, p40, p4a, p4b, p4c, p50, p5a, p5b, p60, p6a, p6b, p70, p7a, p7b]; rfl) rfl ?_
     refine runA_pre 6 (by simp [p10, p1a, p1b, p1c, p20, p2a, p2b, p2c, p30, p3a, p3b, p3c, p40, p4a, p4b, p4c, p50, p5a, p5b, p60, p6a, p6b, p70, p7a, p7b]; rfl) rfl ?_
     refine runA_fin (by simp [p10, p1a, p1b, p1c, p20, p2a, p2b, p2c, p30, p3a, p3b, p3c, p40, p4a, p4b, p4c, p50, p5a, p5b, p60, p6a, p6b, p70, p7a, p7b]; rfl) ?_
     simp [onNormal, okB, okC, p10, p1a, p1b, p1c, p20, p2a, p2b, p2c, p30, p3a, p3b, p3c, p40, p4a, p4b, p4c, p50, p5a, p5b, p60, p6a, p6b, p70, p7a, p7b]
    have p30 : ¬ 48 ≤ b.toNat := p3
    have p3a : ¬ (48 : Int) ≤ (b.toNat : Nat) := by omega
    have p3b : b.toNat < 48 := by omega
    have p3c : ((b.toNat : Nat) : Int) < 48 := by omega
    by_cases p5 : b.toNat = 64
    ·have p5a : ((b.toNat : Nat) : Int) = 64 := by omega
     refine W_rE [0, 3, 58] ?_
     refine runA_pre 6 (by simp [p10, p1a, p1b, p1c, p20, p2a, p2b, p2c, p30, p3a, p3b, p3c, p5a]; rfl) rfl ?_
     refine runA_pre 6 (by simp [p10, p1a, p1b, p1c, p20, p2a, p2b, p2c, p30, p3a, p3b, p3c, p5a]; rfl) rfl ?_
     refine runA_pre 6 (by simp [p10, p1a, p1b, p1c, p20, p2a, p2b, p2c, p30, p3a, p3b, p3c, p5a]; rfl) rfl ?_
     refine runA_pre 6 (by simp [p10, p1a, p1b, p1c, p20, p2a, p2b, p2c, p30, p3a, p3b, p3c, p5a]; rfl) rfl ?_
     refine runA_fin (by simp [p10, p1a, p1b, p1c, p20, p2a, p2b, p2c, p30, p3a, p3b, p3c, p5a]; rfl) ?_
     simp [onNormal, okB, okC, p10, p1a, p1b, p1c, p20, p2a, p2b, p2c, p30, p3a, p3b, p3c, p5a]
    have p50 : ¬ b.toNat = 64 := p5
    have p5a : ¬ ((b.toNat : Nat) : Int) = 64 := by omega
    have p5b : (((b.toNat : Nat) : Int) == 64) = false := beq_eq_false_iff_ne.2 (by omega)
    by_cases p6 : b.toNat = 35
    ·have p6a : ((b.toNat : Nat) : Int) = 35 := by omega
     refine W_rE [0, 3, 58] ?_
     refine runA_pre 6 (by simp [p10, p1a, p1b, p1c, p20, p2a, p2b, p2c, p30, p3a, p3b, p3c, p50, p5a, p5b, p6a]; rfl) rfl ?_
     refine runA_pre 6 (by simp [p10, p1a, p1b, p1c, p20, p2a, p2b, p2c, p30, p3a, p3b, p3c, p50, p5a, p5b, p6a]; rfl) rfl ?_
     refine runA_pre 6 (by simp [p10, p1a, p1b, p1c, p20, p2a, p2b, p2c, p30, p3a, p3b, p3c, p50, p5a, p5b, p6a]; rfl) rfl ?_
     refine runA_pre 6 (by simp [p10, p1a, p1b, p1c, p20, p2a, p2b, p2c, p30, p3a, p3b, p3c, p50, p5a, p5b, p6a]; rfl) rfl ?_
     refine runA_fin (by simp [p10, p1a, p1b, p1c, p20, p2a, p2b, p2c, p30, p3a, p3b, p3c, p50, p5a, p5b, p6a]; rfl) ?_
     simp [onNormal, okB, okC, p10, p1a, p1b, p1c, p20, p2a, p2b, p2c, p30, p3a, p3b, p3c, p50, p5a, p5b, p6a]
    have p60 : ¬ b.toNat = 35 := p6
    have p6a : ¬ ((b.toNat : Nat) : Int) = 35 := by omega
    have p6b : (((b.toNat : Nat) : Int) == 35) = false := beq_eq_false_iff_ne.2 (by omega)
    by_cases p7 : b.toNat = 36
    ·have p7a : ((b.toNat : Nat) : Int) = 36 := by omega
     refine W_rE [0, 3, 58] ?_
     refine runA_pre 6 (by simp [p10, p1a, p1b, p1c, p20, p2a, p2b, p2c, p30, p3a, p3b, p3c, p50, p5a, p5b, p60, p6a, p6b, p7a]; rfl) rfl ?_
     refine runA_pre 6 (by simp [p10, p1a, p1b, p1c, p20, p2a, p2b, p2c, p30, p3a, p3b, p3c, p50, p5a, p5b, p60, p6a, p6b, p7a]; rfl) rfl ?_
     refine runA_pre 6 (by simp [p10, p1a, p1b, p1c, p20, p2a, p2b, p2c, p30, p3a, p3b, p3c, p50, p5a, p5b, p60, p6a, p6b, p7a]; rfl) rfl ?_
     refine runA_pre 6 (by simp [p10, p1a, p1b, p1c, p20, p2a, p2b, p2c, p30, p3a, p3b, p3c, p50, p5a, p5b, p60, p6a, p6b, p7a]; rfl) rfl ?_
     refine runA_fin (by simp [p10, p1a, p1b, p1c, p20, p2a, p2b, p2c, p30, p3a, p3b, p3c, p50, p5a, p5b, p60, p6a, p6b, p7a]; rfl) ?_
     simp [onNormal, okB, okC, p10, p1a, p1b, p1c, p20, p2a, p2b, p2c, p30, p3a, p3b, p3c, p50, p5a, p5b, p60, p6a, p6b, p7a]
    have p70 : ¬ b.toNat = 36 := p7
    have p7a : ¬ ((b.toNat : Nat) : Int) = 36 := by omega
    have p7b : (((b.toNat : Nat) : Int) == 36) = false := beq_eq_false_iff_ne.2 (by omega)
    refine W_rE [0, 3, 58] ?_
    refine runA_pre 6 (by simp [p10, p1a, p1b, p1c, p20, p2a, p2b, p2c, p30, p3a, p3b, p3c, p50, p5a, p5b, p60, p6a, p6b, p70, p7a, p7b]; rfl) rfl ?_
    refine runA_pre 6 (by simp [p10, p1a, p1b, p1c, p20, p2a, p2b, p2c, p30, p3a, p3b, p3c, p50, p5a, p5b, p60, p6a, p6b, p70, p7a, p7b]; rfl) rfl ?_
    refine runA_pre 6 (by simp [p10, p1a, p1b, p1c, p20, p2a, p2b, p2c, p30, p3a, p3b, p3c, p50, p5a, p5b, p60, p6a, p6b, p70, p7a, p7b]; rfl) rfl ?_
    refine runA_pre 6 (by simp [p10, p1a, p1b, p1c, p20, p2a, p2b, p2c, p30, p3a, p3b, p3c, p50, p5a, p5b, p60, p6a, p6b, p70, p7a, p7b]; rfl) rfl ?_
    refine runA_fin (by simp [p10, p1a, p1b, p1c, p20, p2a, p2b, p2c, p30, p3a, p3b, p3c, p50, p5a, p5b, p60, p6a, p6b, p70, p7a, p7b]; rfl) ?_
    simp [onNormal, okB, okC, p10, p1a, p1b, p1c, p20, p2a, p2b, p2c, p30, p3a, p3b, p3c, p50, p5a, p5b, p60, p6a, p6b, p70, p7a, p7b]
   have p10 : ¬ 65 ≤ b.toNat := p1
   have p1a : ¬ (65 : Int) ≤ (b.toNat : Nat) := by omega
   have p1b : b.toNat < 65 := by omega
   have p1c : ((b.toNat : Nat) : Int) < 65 := by omega
   by_cases p3 : 48 ≤ b.toNat
   ·have p30 : 48 ≤ b.toNat := p3
    have p3a : (48 : Int) ≤ (b.toNat : Nat) := by omega
    have p3b : ¬ b.toNat < 48 := by omega
    have p3c : ¬ ((b.toNat : Nat) : Int) < 48 := by omega
    by_cases p4 : b.toNat ≤ 57
    ·have p40 : b.toNat ≤ 57 := p4
     have p4a : ((b.toNat : Nat) : Int) ≤ 57 := by omega
     have p4b : ¬ 57 < b.toNat := by omega
     have p4c : ¬ (57 : Int) < (b.toNat : Nat) := by omega
     refine W_rE [0, 3, 58] ?_
     refine runA_pre 6 (by simp [p10, p1a, p1b, p1c, p30, p3a, p3b, p3c, p40, p4a, p4b, p4c]; rfl) rfl ?_
     refine runA_pre 6 (by simp [p10, p1a, p1b, p1c, p30, p3a, p3b, p3c, p40, p4a, p4b, p4c]; rfl) rfl ?_
     refine runA_pre 6 (by simp [p10, p1a, p1b, p1c, p30, p3a, p3b, p3c, p40, p4a, p4b, p4c]; rfl) rfl ?_
     refine runA_pre 6 (by simp [p10, p1a, p1b, p1c, p30, p3a, p3b, p3c, p40, p4a, p4b, p4c]; rfl) rfl ?_
     refine runA_fin (by simp [p10, p1a, p1b, p1c, p30, p3a, p3b, p3c, p40, p4a, p4b, p4c]; rfl) ?_
     simp [onNormal, okB, okC, p10, p1a, p1b, p1c, p30, p3a, p3b, p3c, p40, p4a, p4b, p4c]
    have p40 : ¬ b.toNat ≤ 57 := p4
    have p4a : ¬ ((b.toNat : Nat) : Int) ≤ 57 := by omega
    have p4b : 57 < b.toNat := by omega
    have p4c : (57 : Int) < (b.toNat : Nat) := by omega
    by_cases p5 : b.toNat = 64
    ·have p5a : ((b.toNat : Nat) : Int) = 64 := by omega
     refine W_rE [0, 3, 58] ?_
     refine runA_pre 6 (by simp [p10, p1a, p1b, p1c, p30, p3a, p3b, p3c, p40, p4a, p4b, p4c, p5a]; rfl) rfl ?_
     refine runA_pre 6 (by simp [p10, p1a, p1b, p1c, p30, p3a, p3b, p3c, p40, p4a, p4b, p4c, p5a]; rfl) rfl ?_
     refine runA_pre 6 (by simp [p10, p1a, p1b, p1c, p30, p3a, p3b, p3c, p40, p4a, p4b, p4c, p5a]; rfl) rfl ?_
     refine runA_pre 6 (by simp [p10, p1a, p1b, p1c, p30, p3a, p3b, p3c, p40, p4a, p4b, p4c, p5a]; rfl) rfl ?_
     refine runA_fin (by simp [p10, p1a, p1b, p1c, p30, p3a, p3b, p3c, p40, p4a, p4b, p4c, p5a]; rfl) ?_
     simp [onNormal, okB, okC, p10, p1a, p1b, p1c, p30, p3a, p3b, p3c, p40, p4a, p4b, p4c, p5a]
    have p50 : ¬ b.toNat = 64 := p5
    have p5a : ¬ ((b.toNat : Nat) : Int) = 64 := by omega
    have p5b : (((b.toNat : Nat) : Int) == 64) = false := beq_eq_false_iff_ne.2 (by omega)
    by_cases p6 : b.toNat = 35
    ·have p6a : ((b.toNat : Nat) : Int) = 35 := by omega
     refine W_rE [0, 3, 58] ?_
     refine runA_pre 6 (by simp [p10, p1a, p1b, p1c, p30, p3a, p3b, p3c, p40, p4a, p4b, p4c, p50, p5a, p5b, p6a]; rfl) rfl ?_
     refine runA_pre 6 (by simp [p10, p1a, p1b, p1c, p30, p3a, p3b, p3c, p40, p4a, p4b, p4c, p50, p5a, p5b, p6a]; rfl) rfl ?_
     refine runA_pre 6 (by simp [p10, p1a, p1b, p1c, p30, p3a, p3b, p3c, p40, p4a, p4b, p4c, p50, p5a, p5b, p6a]; rfl) rfl ?_
     refine runA_pre 6 (by simp [p10, p1a, p1b, p1c, p30, p3a, p3b, p3c, p40, p4a, p4b, p4c, p50, p5a, p5b, p6a]; rfl) rfl ?_
     refine runA_fin (by simp [p10, p1a, p1b, p1c, p30, p3a, p3b, p3c, p40, p4a, p4b, p4c, p50, p5a, p5b, p6a]; rfl) ?_
     simp [onNormal, okB, okC, p10, p1a, p1b, p1c, p30, p3a, p3b, p3c, p40, p4a, p4b, p4c, p50, p5a, p5b, p6a]
    have p60 : ¬ b.toNat = 35 := p6
    have p6a : ¬ ((b.toNat : Nat) : Int) = 35 := by omega
    have p6b : (((b.toNat : Nat) : Int) == 35) = false := beq_eq_false_iff_ne.2 (by omega)
    by_cases p7 : b.toNat = 36
    ·have p7a : ((b.toNat : Nat) : Int) = 36 := by omega
     refine W_rE [0, 3, 58] ?_
     refine runA_pre 6 (by simp [p10, p1a, p1b, p1c, p30, p3a, p3b, p3c, p40, p4a, p4b, p4c, p50, p5a, p5b, p60, p6a, p6b, p7a]; rfl) rfl ?_
     refine runA_pre 6 (by simp [p10, p1a, p1b, p1c, p30, p3a, p3b, p3c, p40, p4a, p4b, p4c, p50, p5a, p5b, p60, p6a, p6b, p7a]; rfl) rfl ?_
     refine runA_pre 6 (by simp [p10, p1a, p1b, p1c, p30, p3a, p3b, p3c, p40, p4a, p4b, p4c, p50, p5a, p5b, p60, p6a, p6b, p7a]; rfl) rfl ?_
     refine runA_pre 6 (by simp [p10, p1a, p1b, p1c, p30, p3a, p3b, p3c, p40, p4a, p4b, p4c, p50, p5a, p5b, p60, p6a, p6b, p7a]; rfl) rfl ?_
     refine runA_fin (by simp [p10, p1a, p1b, p1c, p30, p3a, p3b, p3c, p40, p4a, p4b, p4c, p50, p5a, p5b, p60, p6a, p6b, p7a]; rfl) ?_
     simp [onNormal, okB, okC, p10, p1a, p1b, p1c, p30, p3a, p3b, p3c, p40, p4a, p4b, p4c, p50, p5a, p5b, p60, p6a, p6b, p7a]
    have p70 : ¬ b.toNat = 36 := p7
    have p7a : ¬ ((b.toNat : Nat) : Int) = 36 := by omega
    have p7b : (((b.toNat : Nat) : Int) == 36) = false := beq_eq_false_iff_ne.2 (by omega)
    refine W_rE [0, 3, 58] ?_
    refine runA_pre 6 (by simp [p10, p1a, p1b, p1c, p30, p3a, p3b, p3c, p40, p4a, p4b, p4c, p50, p5a, p5b, p60, p6a, p6b, p70, p7a, p7b]; rfl) rfl ?_
    refine runA_pre 6 (by simp [p10, p1a, p1b, p1c, p30, p3a, p3b, p3c, p40, p4a, p4b, p4c, p50, p5a, p5b, p60, p6a, p6b, p70, p7a, p7b]; rfl) rfl ?_
    refine runA_pre 6 (by simp [p10, p1a, p1b, p1c, p30, p3a, p3b, p3c, p40, p4a, p4b, p4c, p50, p5a, p5b, p60, p6a, p6b, p70, p7a, p7b]; rfl) rfl ?_
    refine runA_pre 6 (by simp [p10, p1a, p1b, p1c, p30, p3a, p3b, p3c, p40, p4a, p4b, p4c, p50, p5a, p5b, p60, p6a, p6b, p70, p7a, p7b]; rfl) rfl ?_
    refine runA_fin (by simp [p10, p1a, p1b, p1c, p30, p3a, p3b, p3c, p40, p4a, p4b, p4c, p50, p5a, p5b, p60, p6a, p6b, p70, p7a, p7b]; rfl) ?_
    simp [onNormal, okB, okC, p10, p1a, p1b, p1c, p30, p3a, p3b, p3c, p40, p4a, p4b, p4c, p50, p5a, p5b, p60, p6a, p6b, p70, p7a, p7b]
   have p30 : ¬ 48 ≤ b.toNat := p3
   have p3a : ¬ (48 : Int) ≤ (b.toNat : Nat) := by omega
   have p3b : b.toNat < 48 := by omega
   have p3c : ((b.toNat : Nat) : Int) < 48 := by omega
   by_cases p5 : b.toNat = 64
   ·have p5a : ((b.toNat : Nat) : Int) = 64 := by omega
    refine W_rE [0, 3, 58] ?_
    refine runA_pre 6 (by simp [p10, p1a, p1b, p1c, p30, p3a, p3b, p3c, p5a]; rfl) rfl ?_
    refine runA_pre 6 (by simp [p10, p1a, p1b, p1c, p30, p3a, p3b, p3c, p5a]; rfl) rfl ?_
    refine runA_pre 6 (by simp [p10, p1a, p1b, p1c, p30, p3a, p3b, p3c, p5a]; rfl) rfl ?_
    refine runA_pre 6 (by simp [p10, p1a, p1b, p1c, p30, p3a, p3b, p3c, p5a]; rfl) rfl ?_
    refine runA_fin (by simp [p10, p1a, p1b, p1c, p30, p3a, p3b, p3c, p5a]; rfl) ?_
    simp [onNormal, okB, okC, p10, p1a, p1b, p1c, p30, p3a, p3b, p3c, p5a]
   have p50 : ¬ b.toNat = 64 := p5
   have p5a : ¬ ((b.toNat : Nat) : Int) = 64 := by omega
   have p5b : (((b.toNat : Nat) : Int) == 64) = false := beq_eq_false_iff_ne.2 (by omega)
   by_cases p6 : b.toNat = 35
   ·have p6a : ((b.toNat : Nat) : Int) = 35 := by omega
    refine W_rE [0, 3, 58] ?_
    refine runA_pre 6 (by simp [p10, p1a, p1b, p1c, p30, p3a, p3b, p3c, p50, p5a, p5b, p6a]; rfl) rfl ?_
    refine runA_pre 6 (by simp [p10, p1a, p1b, p1c, p30, p3a, p3b, p3c, p50, p5a, p5b, p6a]; rfl) rfl ?_
    refine runA_pre 6 (by simp [p10, p1a, p1b, p1c, p30, p3a, p3b, p3c, p50, p5a, p5b, p6a]; rfl) rfl ?_
    refine runA_pre 6 (by simp [p10, p1a, p1b, p1c, p30, p3a, p3b, p3c, p50, p5a, p5b, p6a]; rfl) rfl ?_
    refine runA_fin (by simp [p10, p1a, p1b, p1c, p30, p3a, p3b, p3c, p50, p5a, p5b, p6a]; rfl) ?_
    simp [onNormal, okB, okC, p10, p1a, p1b, p1c, p30, p3a, p3b, p3c, p50, p5a, p5b, p6a]
   have p60 : ¬ b.toNat = 35 := p6
   have p6a : ¬ ((b.toNat : Nat) : Int) = 35 := by omega
   have p6b : (((b.toNat : Nat) : Int) == 35) = false := beq_eq_false_iff_ne.2 (by omega)
   by_cases p7 : b.toNat = 36
   ·have p7a : ((b.toNat : Nat) : Int) = 36 := by omega
    refine W_rE [0, 3, 58] ?_
    refine runA_pre 6 (by simp [p10, p1a, p1b, p1c, p30, p3a, p3b, p3c, p50, p5a, p5b, p60, p6a, p6b, p7a]; rfl) rfl ?_
    refine runA_pre 6 (by simp [p10, p1a, p1b, p1c, p30, p3a, p3b, p3c, p50, p5a, p5b, p60, p6a, p6b, p7a]; rfl) rfl ?_
    refine runA_pre 6 (by simp [p10, p1a, p1b, p1c, p30, p3a, p3b, p3c, p50, p5a, p5b, p60, p6a, p6b, p7a]; rfl) rfl ?_
    refine runA_pre 6 (by simp [p10, p1a, p1b, p1c, p30, p3a, p3b, p3c, p50, p5a, p5b, p60, p6a, p6b, p7a]; rfl) rfl ?_
    refine runA_fin (by simp [p10, p1a, p1b, p1c, p30, p3a, p3b, p3c, p50, p5a, p5b, p60, p6a, p6b, p7a]; rfl) ?_
    simp [onNormal, okB, okC, p10, p1a, p1b, p1c, p30, p3a, p3b, p3c, p50, p5a, p5b, p60, p6a, p6b, p7a]
   have p70 : ¬ b.toNat = 36 := p7
   have p7a : ¬ ((b.toNat : Nat) : Int) = 36 := by omega
   have p7b : (((b.toNat : Nat) : Int) == 36) = false := beq_eq_false_iff_ne.2 (by omega)
   refine W_rE [0, 3, 58] ?_
   refine runA_pre 6 (by simp [p10, p1a, p1b, p1c, p30, p3a, p3b, p3c, p50, p5a, p5b, p60, p6a, p6b, p70, p7a, p7b]; rfl) rfl ?_
   refine runA_pre 6 (by simp [p10, p1a, p1b, p1c, p30, p3a, p3b, p3c, p50, p5a, p5b, p60, p6a, p6b, p70, p7a, p7b]; rfl) rfl ?_
   refine runA_pre 6 (by simp [p10, p1a, p1b, p1c, p30, p3a, p3b, p3c, p50, p5a, p5b, p60, p6a, p6b, p70, p7a, p7b]; rfl) rfl ?_
   refine runA_pre 6 (by simp [p10, p1a, p1b, p1c, p30, p3a, p3b, p3c, p50, p5a, p5b, p60, p6a, p6b, p70, p7a, p7b]; rfl) rfl ?_
   refine runA_fin (by simp [p10, p1a, p1b, p1c, p30, p3a, p3b, p3c, p50, p5a, p5b, p60, p6a, p6b, p70, p7a, p7b]; rfl) ?_
   simp [onNormal, okB, okC, p10, p1a, p1b, p1c, p30, p3a, p3b, p3c, p50, p5a, p5b, p60, p6a, p6b, p70, p7a, p7b]
  rintro _ rfl
  by_cases ho : okB b = true
  ·rw [ho]
   refine W_cond rfl (fun h => by simp at h) (fun h => ?_)
   refine W_skip ?_
   refine W_evE [0, 3] (by simp [wi]; rfl) ?_
   exact ⟨_, by omega, i + 1, rfl, by omega, by rw [List.take_add_one, hb]; simp [ho]; simpa using hall, by simp⟩
  have hof : okB b = false := by simpa using ho
  rw [hof]
  refine W_cond rfl (fun h => ?_) (fun h => by simp at h)
  refine W_evK [2] (by simp; rfl) ?_
  refine W_ret ?_
  repeat (first | refine on_ret ?_ | refine in_ret ?_)
  have hna : l.all okB = false := by
   rw [List.all_eq_false]
   exact ⟨b, List.mem_of_getElem? hb, by simp [hof]⟩
  simp [retQ, symM_rsB, hna]
 have hie : i = l.length := by omega
 refine W_evK [0, 3, 26] (by simp [c]; rfl) ?_
 refine W_cond rfl (fun h => by simp at h) (fun h => ?_)
 refine W_exit ?_
 refine W_evK [2] (by simp; rfl) ?_
 refine W_ret ?_
 repeat (first | refine on_ret ?_ | refine in_ret ?_)
 have ha : l.all okB = true := by rw [hie, List.take_length] at hall; exact hall
 simp [retQ, symM_rsB, ha, hrf]
end Go.AM
