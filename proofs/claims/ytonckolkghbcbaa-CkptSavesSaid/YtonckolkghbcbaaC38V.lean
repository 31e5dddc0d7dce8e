/- works. -/
import Derived.Test.YtonckolkghbcbaaC38T
namespace Go.AM
open Go.RowKit Go.Proofs
set_option linter.unusedSimpArgs false
set_option linter.unusedVariables false
set_option maxHeartbeats 1000000

def wantM : List Rec := [⟨1, [], [0, 0, 0, 1, 7, 8], false⟩, ⟨2, [], [195, 210, 215, 227, 0, 0, 0, 1, 0, 0, 0, 2], false⟩]
theorem new0 : newM [[], []] = ([], 0, 380) := by decide +kernel
theorem save0 : saveM [[], []] [7, 8] = (1, [wantM], 0) := by decide +kernel
theorem new1 : newM [[], wantM] = ([7, 8], 1, 0) := by decide +kernel
theorem cap2 : capN 2 = 1960 := by decide +kernel
theorem cap4 : capN 4 = 3920 := by decide +kernel
theorem cap3 : capN 3 = 0 := by decide +kernel

theorem empty_obj : CallW Try.prog 11 [.v (.int .i64 2)] [] fun r h' => r = .tup [.arr 0 0 2 2, .v (.int .i64 0)] ∧ h' = [.cells 28 [.lst .nil 4 [], .lst .nil 4 []]] := by
  refine callW_of_W Try.func11 rfl (by decide +kernel) (by simp [Try.f11]) (rs := [.tmp 2, .tmp 3]) rfl ?_
  rw [show Try.f11.ntmps = 9 from rfl]
  have hc := cap9_sound 2
  rw [cap2] at hc
  refine W_evK [0] (by simp; rfl) ?_
  refine W_seq ?_
  refine W_rK [0, 6] ?_
  refine runA_pre 1 (by simp; rfl) rfl ?_
  refine runA_call (by simp) (by first | (simp; done) | (simp; rfl)) hc (by simp; rfl) ?_
  refine runA_fin (by simp; rfl) ?_
  refine W_cond rfl (fun h => by simp at h) (fun _ => ?_)
  refine W_skip ?_
  refine W_evK [2, 3] (by simp [repC]; rfl) ?_
  refine W_ret ?_
  repeat (first | refine on_ret ?_ | refine in_ret ?_)
  refine retW_mk (by simp; rfl) (by simp) (by simp) ?_
  exact ⟨rfl, rfl⟩

theorem works_sound : Sound Try.prog 12 [] (.v (.bool true)) := by
  refine sound_of_W Try.func12 rfl (by decide +kernel) (by simp [Try.f12]) rfl rfl (rs := [.tmp 0]) rfl ?_
  rw [show Try.f12.ntmps = 93 from rfl]
  refine W_evK [] (by simp; rfl) ?_
  refine W_rK [1, 2] ?_
  refine runA_obj (by simp) (by first | (simp; done) | (simp; rfl)) (empty_obj.mono ?_)
  rintro r h' ⟨rfl, rfl⟩
  refine ⟨_, by simp; rfl, ?_⟩
  refine runA_fin (by simp; rfl) ?_
  refine W_seq ?_
  refine W_evK [1, 23] (by simp; rfl) ?_
  refine W_cond rfl (fun h => by simp at h) (fun h => ?_)
  refine W_skip ?_
  refine W_rK [1, 5] ?_
  refine runA_pre 1 (by simp; rfl) rfl ?_
  have n0 := newest_sound [[], []] (by simp)
  rw [new0] at n0
  refine runA_obj (by simp) (by first | (simp; done) | (simp; rfl)) (callW_lend (id := 0) (n := 2) (cap := 2) (rest := []) (cs := [.lst .nil 4 [], .lst .nil 4 []]) (sz := 1) (ag := false) n0 rfl (by omega) (.inr rfl) (by simp) rfl rfl (by simp) rfl ?_)
  refine ⟨_, by simp [resN]; rfl, ?_⟩
  refine runA_fin (by simp; rfl) ?_
  refine W_rK [1, 5, 6, 7, 8] ?_
  refine runA_pre 2 (by simp [setSeg]; rfl) rfl ?_
  have s0 := save_sound [[], []] [7, 8] (by simp) (by simp)
  rw [save0] at s0
  refine runA_obj (by simp) (by first | (simp; done) | (simp; rfl)) (callW_lend (id := 0) (n := 2) (cap := 2) (rest := [.lst (.tip 5 130) 1 [.v (.int .u8 7), .v (.int .u8 8)]]) (cs := [.lst .nil 4 [], .lst .nil 4 []]) (sz := 1) (ag := false) s0 rfl (by omega) (.inr rfl) (by simp) rfl rfl (by simp) rfl ?_)
  refine ⟨_, by simp [resS]; rfl, ?_⟩
  refine runA_fin (by simp; rfl) ?_
  refine W_evK [1, 5, 6, 7, 8, 9] (by simp [setSeg]; rfl) ?_
  refine W_seq ?_
  refine W_rK [1, 9, 64] ?_
  refine runA_pre 6 (by simp; rfl) rfl ?_
  refine runA_pre 6 (by simp; rfl) rfl ?_
  refine runA_pre 4 (by simp [arL]; rfl) rfl ?_
  refine runA_pre 4 (by simp [arL]; rfl) rfl ?_
  have st := same_track wantM wantM (by decide)
  refine runA_call (by simp) (by simp; exact ⟨rfl, rfl⟩) st (by simp; rfl) ?_
  refine runA_fin (by simp; rfl) ?_
  refine W_cond rfl (fun h => by simp at h) (fun h => ?_)
  refine W_skip ?_
  refine W_evK [1] (by simp [setSeg]; rfl) ?_
  refine W_rK [10, 11, 12] ?_
  refine runA_pre 1 (by simp; rfl) rfl ?_
  have n1 := newest_sound [[], wantM] (by simp)
  rw [new1] at n1
  refine runA_call (by simp) (by simp [frzArr, AV.koneL, AV.kone, chunk]; exact ⟨rfl, rfl⟩) n1 (by simp [resN]; rfl) ?_
  refine runA_fin (by simp; rfl) ?_
  refine W_rK [0] ?_
  refine runA_pre 6 (by simp; rfl) rfl ?_
  refine runA_pre 6 (by simp; rfl) rfl ?_
  have k4 := cap9_sound 4
  have k3 := cap9_sound 3
  rw [cap4] at k4
  rw [cap3] at k3
  refine runA_call (by simp) (by first | (simp; done) | (simp; rfl)) k4 (by simp; rfl) ?_
  refine runA_pre 3 (by simp; rfl) rfl ?_
  refine runA_call (by simp) (by first | (simp; done) | (simp; rfl)) k3 (by simp; rfl) ?_
  refine runA_fin (by simp; rfl) ?_
  refine W_ret ?_
  repeat (first | refine on_ret ?_ | refine in_ret ?_)
  simp [retQ]
end Go.AM
