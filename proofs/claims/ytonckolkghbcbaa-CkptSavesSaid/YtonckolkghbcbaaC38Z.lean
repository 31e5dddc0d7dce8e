/- The specification's Newest. -/
import Derived.Test.YtonckolkghbcbaaC38X
namespace Go.AM
open Go.RowKit Go.Proofs
set_option linter.unusedSimpArgs false
set_option linter.unusedVariables false
set_option maxHeartbeats 1000000

def newR (area : List (List Rec)) : List UInt8 × Nat × Nat :=
  if capN area.length = 0 then ([], 0, 1) else
  let a := slotM (area.take (area.length / 2)) 0
  let b := slotM (area.drop (area.length / 2)) 1
  if a.2 = 0 ∧ b.2 = 0 then ([], 0, 380) else if b.2 < a.2 then (a.1, a.2, 0) else (b.1, b.2, 0)
theorem small_take {a : List (List Rec)} (h : small a) (n : Nat) : small (a.take n) := ⟨by have := h.1; simp; omega, fun t ht => h.2 t (List.mem_of_mem_take ht)⟩
theorem small_drop {a : List (List Rec)} (h : small a) (n : Nat) : small (a.drop n) := ⟨by have := h.1; simp; omega, fun t ht => h.2 t (List.mem_of_mem_drop ht)⟩

theorem newest16 (area : List (List Rec)) (hs : small area) : Sound Try.prog 16 [.lst .any 1 (arL area)] (resN (newR area)) := by
  refine sound_of_U Try.func16 rfl (by decide +kernel) (by simp [Try.f16]) rfl rfl (rs := [.tmp 2, .tmp 3, .tmp 4]) rfl ?_
  rw [show Try.f16.ntmps = 44 from rfl]
  refine W_evK [0] (by simp; rfl) ?_
  refine W_seq ?_
  refine W_rK [0, 13] ?_
  refine runA_pre 2 (by simp; rfl) rfl ?_
  refine runA_call (by simp) (by first | (simp; done) | (simp; rfl)) (cap10_sound area.length) (by simp; rfl) ?_
  by_cases c : capN area.length = 0
  · have hR : newR area = ([], 0, 1) := by unfold newR; rw [if_pos c]
    refine runA_fin (by simp [c]; rfl) ?_
    refine W_cond rfl (fun _ => ?_) (fun h => by simp at h)
    refine W_evK [2, 3, 4] (by simp; rfl) ?_
    refine W_ret ?_
    repeat (first | refine on_ret ?_ | refine in_ret ?_)
    rw [hR]
    exact ⟨.tup [.lst .nil 1 [], .v (.int .i64 0), .v (.int .i64 1)], by simp [retQ], .tup3 (.nil (by decide +kernel)) (.refl _) (.refl _)⟩
  obtain ⟨k1, k2, k3, k4⟩ := capN_pos c
  have hdiv : (area.length : Int).tdiv 2 = ((area.length / 2 : Nat) : Int) := by rw [Int.tdiv_eq_ediv_of_nonneg (by omega)]; omega
  have hw : IntKind.i64.wrap ((area.length / 2 : Nat) : Int) = ((area.length / 2 : Nat) : Int) := w64 (by omega) (by omega)
  have c' : (capN area.length == 0) = false := beq_eq_false_iff_ne.2 c
  have hr1 := slot_sound (area.take (area.length / 2)) 0 (by omega) (by simp; omega) (small_take hs _)
  have hr2 := slot_sound (area.drop (area.length / 2)) 1 (by omega) (by simp; omega) (small_drop hs _)
  obtain ⟨a, ha⟩ : ∃ a, slotM (area.take (area.length / 2)) 0 = a := ⟨_, rfl⟩
  obtain ⟨b, hb⟩ : ∃ b, slotM (area.drop (area.length / 2)) 1 = b := ⟨_, rfl⟩
  have hM : newR area = (if a.2 = 0 ∧ b.2 = 0 then ([], 0, 380) else if b.2 < a.2 then (a.1, a.2, 0) else (b.1, b.2, 0)) := by
    unfold newR; rw [if_neg c, ha, hb]
  rw [ha] at hr1
  rw [hb] at hr2
  obtain ⟨a1, a2⟩ := a
  obtain ⟨b1, b2⟩ := b
  simp only at hM
  obtain ⟨m, hm⟩ : ∃ m, area.length / 2 = m := ⟨_, rfl⟩
  rw [hm] at hdiv hw hr1 hr2
  have l1 : m ≤ area.length := by omega
  have l1i : (m : Int) ≤ area.length := by omega
  refine runA_fin (by simp [c']; rfl) ?_
  refine W_cond rfl (fun h => by simp at h) (fun _ => ?_)
  refine W_skip ?_
  refine W_evK [0, 5] (by simp [hdiv, hw]; rfl) ?_
  refine W_rK [0, 5, 6, 7] ?_
  refine runA_pre 3 (by simp [l1, l1i, ← arL_take]; rfl) rfl ?_
  refine runA_call (by simp) (by first | (simp; done) | (simp; rfl)) hr1 (by simp [resR]; rfl) ?_
  refine runA_fin (by simp; rfl) ?_
  refine W_rK [6, 7, 8, 9] ?_
  refine runA_pre 3 (by simp [l1, l1i, ← arL_drop]; rfl) rfl ?_
  refine runA_call (by simp) (by first | (simp; done) | (simp; rfl)) hr2 (by simp [resR]; rfl) ?_
  refine runA_fin (by simp; rfl) ?_
  refine W_seq ?_
  by_cases e : a2 = 0 ∧ b2 = 0
  · obtain ⟨rfl, rfl⟩ := e
    have hR : newR area = ([], 0, 380) := by rw [hM, if_pos ⟨rfl, rfl⟩]
    refine W_evK [6, 7, 8, 9, 36] (by simp; rfl) ?_
    refine W_cond rfl (fun h => ?_) (fun h => by simp at h)
    refine W_evK [2, 3, 4] (by simp; rfl) ?_
    refine W_ret ?_
    repeat (first | refine on_ret ?_ | refine in_ret ?_)
    rw [hR]
    exact ⟨.tup [.lst .nil 1 [], .v (.int .i64 0), .v (.int .i64 380)], by simp [retQ], .tup3 (.nil (by decide +kernel)) (.refl _) (.refl _)⟩
  rw [if_neg e] at hM
  refine W_evK [6, 7, 8, 9, 36] (s' := ⟨44, [(6, .lst (.tip 5 43) 1 (byL a1)), (7, .v (.int .i64 a2)), (8, .lst (.tip 5 57) 1 (byL b1)), (9, .v (.int .i64 b2)), (36, .v (.bool false))], []⟩) (by
    by_cases f : a2 = 0
    · have g : b2 ≠ 0 := fun g => e ⟨f, g⟩
      have g' : ((b2 : Int) == 0) = false := by simp; omega
      simp [f, g']
    · have f' : ((a2 : Int) == 0) = false := by simp; omega
      simp [f']) ?_
  refine W_cond rfl (fun h => by simp at h) (fun h => ?_)
  refine W_skip ?_
  refine W_seq ?_
  by_cases g : b2 < a2
  · have hR : newR area = (a1, a2, 0) := by rw [hM, if_pos g]
    refine W_evK [6, 7, 8, 9, 39] (by simp [g]; rfl) ?_
    refine W_cond rfl (fun h => ?_) (fun h => by simp at h)
    refine W_evK [2, 3, 4] (by simp; rfl) ?_
    refine W_ret ?_
    repeat (first | refine on_ret ?_ | refine in_ret ?_)
    rw [hR]
    exact ⟨.tup [.lst (.tip 5 43) 1 (byL a1), .v (.int .i64 a2), .v (.int .i64 0)], by simp [retQ], .norm fun T => by simp [resN]⟩
  · have hR : newR area = (b1, b2, 0) := by rw [hM, if_neg g]
    refine W_evK [6, 7, 8, 9, 39] (by simp [g]; rfl) ?_
    refine W_cond rfl (fun h => by simp at h) (fun h => ?_)
    refine W_skip ?_
    refine W_evK [2, 3, 4] (by simp; rfl) ?_
    refine W_ret ?_
    repeat (first | refine on_ret ?_ | refine in_ret ?_)
    rw [hR]
    exact ⟨.tup [.lst (.tip 5 57) 1 (byL b1), .v (.int .i64 b2), .v (.int .i64 0)], by simp [retQ], .norm fun T => by simp [resN]⟩
end Go.AM
