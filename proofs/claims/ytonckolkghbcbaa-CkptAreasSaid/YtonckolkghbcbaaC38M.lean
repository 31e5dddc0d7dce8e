/- CkptAreas' walk. -/
import Derived.Test.YtonckolkghbcbaaC38V
namespace Go.AM
open Go.RowKit Go.Proofs
set_option linter.unusedSimpArgs false
set_option linter.unusedVariables false
set_option maxHeartbeats 1000000

theorem areas_sound (n : Int) (hn1 : -9223372036854775808 ≤ n) (hn2 : n ≤ 9223372036854775807) : Sound Try.prog 3 [.v (.int .i64 n)] (.v (.bool true)) := by
  refine sound_of_W Try.func3 rfl (by decide +kernel) (by simp [Try.f3]) rfl rfl (rs := [.tmp 2]) rfl ?_
  rw [show Try.f3.ntmps = 52 from rfl]
  refine W_evK [0] (by simp; rfl) ?_
  refine W_seq ?_
  refine W_rK [0, 10] ?_
  refine runA_pre 1 (by simp; rfl) rfl ?_
  refine runA_call (by simp) (by first | (simp; done) | (simp; rfl)) (cap9_sound n) (by simp; rfl) ?_
  refine runA_pre 1 (by simp; rfl) rfl ?_
  refine runA_call (by simp) (by first | (simp; done) | (simp; rfl)) (cap10_sound n) (by simp; rfl) ?_
  refine runA_fin (by simp; rfl) ?_
  refine W_cond rfl (fun h => by simp at h) (fun h => ?_)
  refine W_skip ?_
  have he := empty_sound n
  refine W_rK [0, 3, 4] ?_
  refine runA_pre 1 (by simp; rfl) rfl ?_
  by_cases c : capN n = 0
  · unfold resE at he
    rw [if_pos c] at he
    refine runA_call (by simp) (by first | (simp; done) | (simp; rfl)) he (by simp; rfl) ?_
    refine runA_fin (by simp; rfl) ?_
    refine W_seq ?_
    refine W_rK [0, 3, 4, 18] ?_
    refine runA_pre 1 (by simp; rfl) rfl ?_
    refine runA_call (by simp) (by first | (simp; done) | (simp; rfl)) (cap10_sound n) (by simp; rfl) ?_
    refine runA_fin (by simp [c]; rfl) ?_
    refine W_cond rfl (fun h => ?_) (fun h => by simp at h)
    refine W_rK [2] ?_
    refine runA_pre 8 (by simp; rfl) rfl ?_
    refine runA_call (by simp) (by first | (simp; done) | (simp; rfl)) works_sound (by simp; rfl) ?_
    refine runA_fin (by simp; rfl) ?_
    refine W_ret ?_
    repeat (first | refine on_ret ?_ | refine in_ret ?_)
    simp [retQ]
  have hn : 2 ≤ n ∧ n ≤ 512 := by
    unfold capN at c
    split at c
    · exact absurd rfl c
    · rename_i hc
      exact ⟨by omega, by omega⟩
  obtain ⟨m, rfl⟩ : ∃ m : Nat, n = m := ⟨n.toNat, by omega⟩
  have c' : (capN (m : Int) == 0) = false := beq_eq_false_iff_ne.2 c
  unfold resE at he
  rw [if_neg c, Int.toNat_natCast] at he
  have hem : (emM m).length = m := by simp [emM]
  refine runA_call (by simp) (by first | (simp; done) | (simp; rfl)) he (by simp; rfl) ?_
  refine runA_fin (by simp; rfl) ?_
  refine W_seq ?_
  refine W_rK [0, 3, 4, 18] ?_
  refine runA_pre 1 (by simp; rfl) rfl ?_
  refine runA_call (by simp) (by first | (simp; done) | (simp; rfl)) (cap10_sound m) (by simp; rfl) ?_
  refine runA_fin (by simp [c']; rfl) ?_
  refine W_cond rfl (fun h => by simp at h) (fun h => ?_)
  refine W_skip ?_
  refine W_seq ?_
  refine W_evK [0, 3, 4, 5] (by simp; rfl) ?_
  refine W_block ?_
  refine W_loop (fun k s => ∃ i : Nat, k = m - i ∧ i ≤ m ∧ s = ⟨52, [(0, .v (.int .i64 m)), (3, .lst (.tip 28 27) 1 (arL (emM m))), (4, .v (.int .i64 0)), (5, .v (.int .i64 i))], []⟩) (k := m) ⟨0, by simp, by omega, by simp⟩ ?_
  rintro k s ⟨i, rfl, hi, rfl⟩
  refine W_seq ?_
  refine W_evK [0, 3, 4, 5, 32] (by simp [hem]; rfl) ?_
  refine W_cond rfl (fun h => ?_) (fun h => ?_)
  · refine W_skip ?_
    refine W_seq ?_
    refine W_block ?_
    have hi2 : i < (emM m).length := by simp at h; omega
    have hi3 : (emM m)[i]'hi2 = [] := by simp [emM]
    have hi4 : i < m := by omega
    refine W_evK [0, 3, 4, 5, 40] (by simp [hem, hi3, hi4, hi2]; rfl) ?_
    refine W_cond rfl (fun h => by simp at h) (fun h => ?_)
    refine W_skip ?_
    refine W_evE [0, 3, 4, 5] (by simp [w64 (n := (i : Int) + 1) (by omega) (by omega)]; rfl) ?_
    exact ⟨_, by omega, i + 1, rfl, by omega, by simp⟩
  refine W_exit ?_
  refine W_rK [2] ?_
  refine runA_pre 6 (by simp [hem]; rfl) rfl ?_
  refine runA_pre 3 (by simp; rfl) rfl ?_
  refine runA_call (by simp) (by first | (simp; done) | (simp; rfl)) works_sound (by simp; rfl) ?_
  refine runA_fin (by simp; rfl) ?_
  refine W_ret ?_
  repeat (first | refine on_ret ?_ | refine in_ret ?_)
  simp [retQ]
end Go.AM
