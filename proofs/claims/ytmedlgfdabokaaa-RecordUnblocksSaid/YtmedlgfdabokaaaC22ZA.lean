/- record.Key and its specification: their contracts. -/
import Derived.Test.YtmedlgfdabokaaaC22B
import Derived.Test.YtmedlgfdabokaaaC22D
import Derived.Test.YtmedlgfdabokaaaC22PC
import Derived.Test.YtmedlgfdabokaaaC22R
namespace Go.AM
open Go.RowKit Go.Proofs
set_option linter.unusedSimpArgs false
set_option linter.unusedVariables false
set_option maxHeartbeats 2000000

def hasK (d : Dcb) (n : Int) : Bool := decide (d.org = 3) && (decide (checkM d = 0) && fitsM d n)

def keyR (d : Dcb) (r : List UInt8) : List UInt8 := if hasK d r.length then (r.drop d.kpos.toNat).take d.klen.toNat else []

theorem hasK_facts {d : Dcb} {n : Nat} (h : hasK d n = true) : d.org = 3 ∧ checkM d = 0 ∧ fitsM d n = true ∧ d.fmt = 1 ∧ (n : Int) = d.lrecl ∧ n ≤ 1024 ∧ ∃ p k : Nat, d.kpos = p ∧ d.klen = k ∧ 1 ≤ k ∧ k ≤ 64 ∧ p + k ≤ n := by
  unfold hasK at h
  simp only [Bool.and_eq_true, decide_eq_true_eq] at h
  obtain ⟨h1, h2, h3⟩ := h
  obtain ⟨_, _, s1, s2, hl, hk⟩ := check_facts h2
  unfold keysM at hk
  rw [h1] at hk
  simp only [beq_self_eq_true, if_true] at hk
  split at hk
  case isFalse => cases hk
  rename_i hf
  have hf : d.fmt = 1 := by simpa using hf
  split at hk
  case isFalse => cases hk
  split at hk
  case isFalse => cases hk
  split at hk
  case isFalse => cases hk
  rename_i k1 k2 k3
  have hfit := h3
  unfold fitsM at hfit
  rw [hf] at hfit
  simp only [beq_self_eq_true, if_true] at hfit
  have hn : (n : Int) = d.lrecl := by simpa using hfit
  unfold lengthsM at hl
  rw [hf] at hl
  simp only [beq_self_eq_true, if_true] at hl
  split at hl
  · cases hl
  split at hl
  · cases hl
  rename_i l1 l2
  have hw : IntKind.i64.wrap (d.lrecl - d.klen) = d.lrecl - d.klen := w64 (by omega) (by omega)
  rw [hw] at hk
  have hk : d.kpos ≤ d.lrecl - d.klen := by simpa using hk
  refine ⟨h1, h2, h3, hf, hn, by omega, d.kpos.toNat, d.klen.toNat, by omega, by omega, by omega, by omega, by omega⟩

def resK (d : Dcb) (r : List UInt8) (e : TypeId) (T : Nat) : AV := .tup [.lst (.tip e T) 1 (byL (keyR d r)), .v (.bool (hasK d r.length))]

theorem le_nokey {d : Dcb} {r : List UInt8} (h : hasK d r.length = false) : AV.Le Try.prog (.tup [.lst .nil 1 [], .v (.bool false)]) (resK d r 5 1) := by
  unfold resK keyR
  rw [h]
  exact .tup2 (.nil (by decide +kernel)) (.refl _)

theorem key_sound (d : Dcb) (r : List UInt8) (hr : r.length ≤ 1000000) : Sound Try.prog 19 [dcbA d, .lst .any 1 (byL r)] (resK d r 5 1) := by
  refine sound_of_U Try.func19 rfl (by decide +kernel) (by simp [Try.f19]) rfl rfl (rs := [.tmp 4, .tmp 5]) rfl ?_
  rw [show Try.f19.ntmps = 25 from rfl]
  have hF := Fits_sound d r
  refine W_evK [1, 2] (by simp; rfl) ?_
  refine W_seq ?_
  by_cases h0 : d.org = 3
  · have h0n : (d.org != 3) = false := by simp [h0]
    have hFv : (decide (checkM d = 0) && fitsM d r.length) = hasK d r.length := by unfold hasK; simp [h0]
    rw [hFv] at hF
    refine W_rK [1, 2, 14] ?_
    refine runA_pre 6 (by simp [h0n]; rfl) rfl ?_
    refine runA_call (by simp) (by first | (simp; done) | (simp; rfl)) hF (by simp; rfl) ?_
    refine runA_fin (by simp; rfl) ?_
    by_cases hk : hasK d r.length = true
    · obtain ⟨_, _, _, _, _, hn, p, k, hp, hkl, k1, k2, k3⟩ := hasK_facts hk
      refine W_cond (by simp [hk]; rfl) (fun hx => by simp [hk] at hx) (fun _ => ?_)
      refine W_skip ?_
      have e : keyR d r = (r.drop p).take k := by unfold keyR; rw [hk, hp, hkl]; simp
      have w1 : IntKind.i64.wrap ((p : Int) + (k : Nat)) = ((p + k : Nat) : Int) := by rw [w64 (by omega) (by omega)]; omega
      have f1 : p ≤ p + k := by omega
      have hc := clone_sound ((r.drop p).take k) (by rw [List.length_take, List.length_drop]; omega)
      refine W_rK [4, 5] ?_
      refine runA_pre 6 (by simp [hp, hkl]; rfl) rfl ?_
      refine runA_pre 3 (by simp [hp, hkl, w1, k3, f1, -Int.natCast_add]; rfl) rfl ?_
      have hdp : AV.dpL (List.drop p (List.take (p + k) (byL r))) = byL (List.take k (List.drop p r)) := by rw [← byL_take, ← byL_drop, List.drop_take, show p + k - p = k by omega]; simp
      refine runA_call (by simp) (by first | (simp [hdp]; done) | (simp [hdp]; rfl)) hc (by simp; rfl) ?_
      refine runA_fin (by simp; rfl) ?_
      refine W_ret ?_
      repeat (first | refine on_ret ?_ | refine in_ret ?_)
      exact ⟨_, by simp [retQ]; exact ⟨rfl, by simp⟩, .norm fun T => by simp [resK, e, hk]⟩
    · have hk' : hasK d r.length = false := by simpa using hk
      refine W_cond (by simp [hk']; rfl) (fun _ => ?_) (fun hx => by simp [hk'] at hx)
      refine W_evK [4, 5] (by simp; rfl) ?_
      refine W_ret ?_
      repeat (first | refine on_ret ?_ | refine in_ret ?_)
      exact ⟨.tup [.lst .nil 1 [], .v (.bool false)], by simp [retQ], le_nokey hk'⟩
  · have h0n : (d.org != 3) = true := by simp [h0]
    have hk' : hasK d r.length = false := by unfold hasK; simp [h0]
    refine W_rK [1, 2, 14] ?_
    refine runA_pre 6 (by simp [h0n]; rfl) rfl ?_
    refine runA_fin (by simp; rfl) ?_
    refine W_cond rfl (fun _ => ?_) (fun hx => by simp at hx)
    refine W_evK [4, 5] (by simp; rfl) ?_
    refine W_ret ?_
    repeat (first | refine on_ret ?_ | refine in_ret ?_)
    exact ⟨.tup [.lst .nil 1 [], .v (.bool false)], by simp [retQ], le_nokey hk'⟩

theorem rkey_sound (d : Dcb) (r : List UInt8) (hr : r.length ≤ 1000000) : Sound Try.prog 20 [dcbA d, .lst .any 1 (byL r)] (resK d r 5 1) := by
  refine sound_of_U Try.func20 rfl (by decide +kernel) (by simp [Try.f20]) rfl rfl (rs := [.tmp 4, .tmp 5]) rfl ?_
  rw [show Try.f20.ntmps = 26 from rfl]
  have hF := rfits_sound d r
  have hFe : rfitsM d r.length = (decide (checkM d = 0) && fitsM d r.length) := by
    by_cases hc : checkM d = 0
    · rw [rfits_eq hc]; simp [hc]
    · unfold rfitsM; rw [valid_eq]; simp [hc]
  rw [hFe] at hF
  refine W_evK [1, 2] (by simp; rfl) ?_
  refine W_seq ?_
  by_cases h0 : d.org = 3
  · have h0n : (d.org != 3) = false := by simp [h0]
    have hFv : (decide (checkM d = 0) && fitsM d r.length) = hasK d r.length := by unfold hasK; simp [h0]
    rw [hFv] at hF
    refine W_rK [1, 2, 14] ?_
    refine runA_pre 6 (by simp [h0n]; rfl) rfl ?_
    refine runA_call (by simp) (by first | (simp; done) | (simp; rfl)) hF (by simp; rfl) ?_
    refine runA_fin (by simp; rfl) ?_
    by_cases hk : hasK d r.length = true
    · obtain ⟨_, _, _, _, _, hn, p, k, hp, hkl, k1, k2, k3⟩ := hasK_facts hk
      refine W_cond (by simp [hk]; rfl) (fun hx => by simp [hk] at hx) (fun _ => ?_)
      refine W_skip ?_
      have e : keyR d r = (r.drop p).take k := by unfold keyR; rw [hk, hp, hkl]; simp
      have w1 : IntKind.i64.wrap ((p : Int) + (k : Nat)) = ((p + k : Nat) : Int) := by rw [w64 (by omega) (by omega)]; omega
      have f1 : p ≤ p + k := by omega
      have b1 : k ≤ 140737488355328 := by omega
      have hlen : ((r.drop p).take k).length = k := by rw [List.length_take, List.length_drop]; omega
      refine W_rK [4, 5] ?_
      refine runA_pre 6 (by simp [hp, hkl]; rfl) rfl ?_
      refine runA_fin (by simp [hp, hkl, w1, k3, f1, b1, -Int.natCast_add, ← byL_drop, ← byL_take]; rfl) ?_
      refine W_ret ?_
      repeat (first | refine on_ret ?_ | refine in_ret ?_)
      exact ⟨_, by simp [retQ]; exact ⟨rfl, by simp⟩, .norm fun T => by simp [resK, e, hk, List.drop_take]⟩
    · have hk' : hasK d r.length = false := by simpa using hk
      refine W_cond (by simp [hk']; rfl) (fun _ => ?_) (fun hx => by simp [hk'] at hx)
      refine W_evK [4, 5] (by simp; rfl) ?_
      refine W_ret ?_
      repeat (first | refine on_ret ?_ | refine in_ret ?_)
      exact ⟨.tup [.lst .nil 1 [], .v (.bool false)], by simp [retQ], le_nokey hk'⟩
  · have h0n : (d.org != 3) = true := by simp [h0]
    have hk' : hasK d r.length = false := by unfold hasK; simp [h0]
    refine W_rK [1, 2, 14] ?_
    refine runA_pre 6 (by simp [h0n]; rfl) rfl ?_
    refine runA_fin (by simp; rfl) ?_
    refine W_cond rfl (fun _ => ?_) (fun hx => by simp at hx)
    refine W_evK [4, 5] (by simp; rfl) ?_
    refine W_ret ?_
    repeat (first | refine on_ret ?_ | refine in_ret ?_)
    exact ⟨.tup [.lst .nil 1 [], .v (.bool false)], by simp [retQ], le_nokey hk'⟩
end Go.AM
