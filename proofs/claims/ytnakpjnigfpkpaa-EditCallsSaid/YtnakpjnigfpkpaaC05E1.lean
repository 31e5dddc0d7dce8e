/- The small functions: same, lent, kept, plain. -/
import Derived.Test.YtnakpjnigfpkpaaC05F
namespace Go.AM
open Go.RowKit Go.Proofs
set_option linter.unusedSimpArgs false
set_option linter.unusedVariables false

theorem take_succ_eq {α : Type} {a b : List α} {i : Nat} (hi : i < a.length) (hj : i < b.length) (h : a.take i = b.take i) (hx : a[i] = b[i]) : a.take (i + 1) = b.take (i + 1) := by
  rw [List.take_succ_eq_append_getElem hi, List.take_succ_eq_append_getElem hj, h, hx]

theorem same_sound (a b : List UInt8) (ha : a.length ≤ 9000) : Sound Try.prog 14 [.lst .any 1 (byL a), .lst .any 1 (byL b)] (.v (.bool (decide (a = b)))) := by
  refine sound_of_W Try.func14 rfl (by decide +kernel) (by simp [Try.f14]) rfl rfl (rs := [.tmp 4]) rfl ?_
  rw [show Try.f14.ntmps = 26 from rfl]
  refine W_evK [0, 1] (by simp; rfl) ?_
  refine W_seq ?_
  refine W_evK [0, 1, 10] (by simp; rfl) ?_
  refine W_cond (by simp; rfl) (fun h => ?_) (fun h => ?_)
  · refine W_evK [4] (by simp; rfl) ?_
    refine W_ret ?_
    have : a ≠ b := by intro e; subst e; simp at h
    simp [retQ, this]
  have hl : a.length = b.length := by simp at h; omega
  refine W_skip ?_
  refine W_seq ?_
  refine W_evK [0, 1, 5] (by simp; rfl) ?_
  refine W_block ?_
  refine W_loop (fun k s => ∃ i : Nat, k = a.length - i ∧ i ≤ a.length ∧ a.take i = b.take i ∧ s = ⟨26, [(0, .lst .any 1 (byL a)), (1, .lst .any 1 (byL b)), (5, .v (.int .i64 i))], []⟩) (k := a.length) ⟨0, rfl, by omega, by simp, by simp⟩ ?_
  rintro k s ⟨i, rfl, hi, he, rfl⟩
  refine W_seq ?_
  refine W_evK [0, 1, 5, 14] (by simp; rfl) ?_
  refine W_cond (by simp; rfl) (fun h => ?_) (fun h => ?_)
  · have hi2 : i < a.length := by simpa using h
    have hi3 : i < b.length := by omega
    refine W_skip ?_
    refine W_seq ?_
    refine W_block ?_
    refine W_dvK [0, 1, 5, 25] mx (by decide +kernel) (by simp [byL_get, hi2, hi3]; rfl) ?_
    refine W_cond (by simp; rfl) (fun h => ?_) (fun h => ?_)
    · refine W_evK [4] (by simp; rfl) ?_
      refine W_ret ?_
      have : a ≠ b := by intro e; subst e; simp at h
      simp [retQ, this]
    refine W_skip ?_
    refine W_evE [0, 1, 5] (by simp; rfl) ?_
    have hx : a[i] = b[i] := by simp at h; exact UInt8.toNat_inj.1 (by omega)
    exact ⟨_, by omega, i + 1, rfl, by omega, take_succ_eq hi2 hi3 he hx, by simp (disch := omega) [w64]⟩
  refine W_exit ?_
  refine W_evK [4] (by simp; rfl) ?_
  refine W_ret ?_
  have : a = b := by
    have hi' : i = a.length := by simp at h; omega
    subst hi'
    rw [List.take_length] at he
    rw [he, hl, List.take_length]
  simp [retQ, this]

theorem plain_sound (c : UInt8) : Sound Try.prog 16 [.v (.int .u8 c.toNat)] (.v (.bool (decide (c.toNat < 32 ∨ 34 < c.toNat)))) := by
  refine sound_of_W Try.func16 rfl (by decide +kernel) (by simp [Try.f16]) rfl rfl (rs := [.tmp 2]) rfl ?_
  rw [show Try.f16.ntmps = 9 from rfl]
  refine W_evK [0] (by simp; rfl) ?_
  by_cases h : c.toNat < 32
  · have h1 : (c.toNat : Int) < 32 := by omega
    refine W_evK [2] (by simp [h1]; rfl) ?_
    refine W_ret ?_
    simp [retQ, h]
  · have h1 : ¬ (c.toNat : Int) < 32 := by omega
    refine W_evK [2] (by simp [h1]; rfl) ?_
    refine W_ret ?_
    simp [retQ, h]
    omega

theorem lent_sound (l : List UInt8) (hl : l.length ≤ 2000) : Sound Try.prog 11 [.lst .any 1 (byL l)] (.lst (.tip 5 15) 1 (byL (l ++ List.replicate 8 7))) := by
  refine sound_of_W Try.func11 rfl (by decide +kernel) (by simp [Try.f11]) rfl rfl (rs := [.tmp 2]) rfl ?_
  rw [show Try.f11.ntmps = 16 from rfl]
  refine W_evK [0] (by simp; rfl) ?_
  refine W_evK [3] (by simp [show l.length ≤ 140737488355328 by omega]; rfl) ?_
  refine W_seq ?_
  refine W_evK [3, 4] (by simp; rfl) ?_
  refine W_block ?_
  refine W_loop (fun k s => ∃ i : Nat, k = 8 - i ∧ i ≤ 8 ∧ s = ⟨16, [(3, .lst (.tip 5 15) 1 (byL (l ++ List.replicate i 7))), (4, .v (.int .i64 i))], []⟩) (k := 8) ⟨0, rfl, by omega, by simp⟩ ?_
  rintro k s ⟨i, rfl, hi, rfl⟩
  refine W_seq ?_
  refine W_evK [3, 4, 9] (by simp; rfl) ?_
  refine W_cond (by simp; rfl) (fun h => ?_) (fun h => ?_)
  · refine W_skip ?_
    refine W_seq ?_
    refine W_block ?_
    refine W_evE [3, 4] (by simp [show l.length + i + 1 ≤ 140737488355328 by omega]; rfl) ?_
    refine W_evE [3, 4] (by simp; rfl) ?_
    simp at h
    exact ⟨_, by omega, i + 1, rfl, by omega, by simp (disch := omega) [w64, List.replicate_succ', byL]⟩
  refine W_exit ?_
  refine W_evK [2] (by simp; rfl) ?_
  refine W_ret ?_
  have : i = 8 := by simp at h; omega
  subst this
  simp [retQ]

theorem kept_sound (b : List UInt8) (hb : b.length ≤ 2000) : Sound Try.prog 15 [.lst .any 1 (byL (b ++ List.replicate 8 7)), .lst .any 1 (byL b)] (.v (.bool true)) := by
  refine sound_of_W Try.func15 rfl (by decide +kernel) (by simp [Try.f15]) rfl rfl (rs := [.tmp 4]) rfl ?_
  rw [show Try.f15.ntmps = 25 from rfl]
  generalize ha : b ++ List.replicate 8 7 = a
  have hal : a.length = b.length + 8 := by subst ha; simp
  refine W_evK [0, 1] (by simp; rfl) ?_
  refine W_seq ?_
  refine W_evK [0, 1, 5] (by simp; rfl) ?_
  refine W_block ?_
  refine W_loop (fun k s => ∃ i : Nat, k = a.length - i ∧ b.length ≤ i ∧ i ≤ a.length ∧ s = ⟨25, [(0, .lst .any 1 (byL a)), (1, .lst .any 1 (byL b)), (5, .v (.int .i64 i))], []⟩) (k := a.length - b.length) ⟨b.length, rfl, by omega, by omega, by simp⟩ ?_
  rintro k s ⟨i, rfl, hi, hi', rfl⟩
  refine W_seq ?_
  refine W_evK [0, 1, 5, 11] (by simp; rfl) ?_
  refine W_cond (by simp; rfl) (fun h => ?_) (fun h => ?_)
  · have hi2 : i < a.length := by simpa using h
    have h7 : a[i] = 7 := by
      subst ha
      rw [List.getElem_append_right (by omega), List.getElem_replicate]
    refine W_skip ?_
    refine W_seq ?_
    refine W_block ?_
    refine W_evK [0, 1, 5, 18] (by simp [hi2, h7]; rfl) ?_
    refine W_cond (by simp; rfl) (fun h => ?_) (fun h => ?_)
    · cases h
    refine W_skip ?_
    refine W_evE [0, 1, 5] (by simp; rfl) ?_
    exact ⟨_, by omega, i + 1, rfl, by omega, by omega, by simp (disch := omega) [w64]⟩
  refine W_exit ?_
  refine W_rK [4] ?_
  refine runA_pre 5 (by simp [hal]; rfl) rfl ?_
  refine runA_call (by simp) (by simp [← byL_take]; rfl) (same_sound (a.take b.length) b (by simp; omega)) (by simp; rfl) ?_
  refine runA_fin (by simp; rfl) ?_
  refine W_ret ?_
  have : a.take b.length = b := by subst ha; simp
  simp [retQ, this]
end Go.AM
