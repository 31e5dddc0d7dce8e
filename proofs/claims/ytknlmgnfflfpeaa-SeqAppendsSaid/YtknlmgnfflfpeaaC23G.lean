/- Same, SameTracks. -/
import Derived.Test.YtknlmgnfflfpeaaC23E
namespace Go.AM
open Go.RowKit Go.Proofs
set_option linter.unusedSimpArgs false
set_option linter.unusedVariables false
set_option maxHeartbeats 1000000

theorem sameT_sound (a b : List Rec) (hl : a.length ≤ 100000000) : Sound Try.prog 34 [.lst .any 4 (trL a), .lst .any 4 (trL b)] (.v (.bool (decide (a = b)))) := by
  refine sound_of_W Try.func34 rfl (by decide +kernel) (by simp [Try.f34]) rfl rfl (rs := [.tmp 4]) rfl ?_
  rw [show Try.f34.ntmps = 27 from rfl]
  refine W_evK [0, 1] (by simp; rfl) ?_
  refine W_seq ?_
  by_cases c : a.length = b.length
  rotate_left
  · have hne : ¬ a = b := fun e => c (by rw [e])
    refine W_evK [0, 1, 10] (by simp [ne_nat, c]; rfl) ?_
    refine W_cond rfl (fun h => ?_) (fun h => by simp at h)
    refine W_evK [4] (by simp; rfl) ?_
    refine W_ret ?_
    repeat (first | refine on_ret ?_ | refine in_ret ?_)
    simp [retQ, hne]
  refine W_evK [0, 1, 10] (by simp [c]; rfl) ?_
  refine W_cond rfl (fun h => by simp at h) (fun h => ?_)
  refine W_skip ?_
  refine W_seq ?_
  refine W_evK [0, 1, 5] (by simp; rfl) ?_
  refine W_block ?_
  refine W_loop (fun k s => ∃ i : Nat, k = a.length - i ∧ i ≤ a.length ∧ a.take i = b.take i ∧ s = ⟨27, [(0, .lst .any 4 (trL a)), (1, .lst .any 4 (trL b)), (5, .v (.int .i64 i))], []⟩) (k := a.length) ⟨0, by simp, by omega, by simp, by simp⟩ ?_
  rintro k s ⟨i, rfl, hi, hab, rfl⟩
  refine W_seq ?_
  refine W_evK [0, 1, 5, 14] (by simp; rfl) ?_
  refine W_cond rfl (fun h => ?_) (fun h => ?_)
  · refine W_skip ?_
    refine W_seq ?_
    refine W_block ?_
    have hi2 : i < a.length := by simp at h; omega
    have hj2 : i < b.length := by omega
    have hi2' : (i : Int) < a.length := by omega
    have hj2' : (i : Int) < b.length := by omega
    obtain ⟨r, hr⟩ : ∃ r, a[i]? = some r := ⟨_, List.getElem?_eq_getElem hi2⟩
    obtain ⟨q, hq⟩ : ∃ q, b[i]? = some q := ⟨_, List.getElem?_eq_getElem hj2⟩
    have hr2 : a[i]'hi2 = r := by rw [List.getElem?_eq_getElem hi2] at hr; exact Option.some.inj hr
    have hq2 : b[i]'hj2 = q := by rw [List.getElem?_eq_getElem hj2] at hq; exact Option.some.inj hq
    have hst := sameRec_sound r q
    refine W_rdK [0, 1, 5, 26] mx (by decide +kernel) ?_
    refine runD_pre 8 (by simp [hi2, hi2', hj2, hj2', hr2, hq2]; rfl) rfl ?_
    refine runD_call (by simp) (by first | (simp; done) | (simp; rfl)) hst (by simp; rfl) ?_
    by_cases e : r = q
    · have wi := w64 (n := (i : Int) + 1) (by omega) (by omega)
      refine runD_fin (by simp [e]; rfl) ?_
      refine W_cond rfl (fun h => by simp at h) (fun h => ?_)
      refine W_skip ?_
      refine W_evE [0, 1, 5] (by simp [wi]; rfl) ?_
      exact ⟨_, by omega, i + 1, rfl, by omega, take_succ_eq hr (by rw [hq, e]) hab, by simp⟩
    · have hne : ¬ a = b := fun he => e (by rw [he, hq] at hr; exact (Option.some.inj hr).symm)
      refine runD_fin (by simp [e]; rfl) ?_
      refine W_cond rfl (fun h => ?_) (fun h => by simp at h)
      refine W_evK [4] (by simp; rfl) ?_
      refine W_ret ?_
      repeat (first | refine on_ret ?_ | refine in_ret ?_)
      simp [retQ, hne]
  refine W_exit ?_
  have hie : i = a.length := by simp at h; omega
  have hEq : a = b := by
    rw [hie, List.take_length] at hab
    rw [hab, c, List.take_length]
  refine W_evK [4] (by simp; rfl) ?_
  refine W_ret ?_
  repeat (first | refine on_ret ?_ | refine in_ret ?_)
  simp [retQ, hEq]

theorem sameTs_sound (a b : List (List Rec)) (hl : a.length ≤ 100000000) (ht : ∀ t ∈ a, t.length ≤ 100000000) : Sound Try.prog 15 [.lst .any 1 (arL a), .lst .any 1 (arL b)] (.v (.bool (decide (a = b)))) := by
  refine sound_of_W Try.func15 rfl (by decide +kernel) (by simp [Try.f15]) rfl rfl (rs := [.tmp 4]) rfl ?_
  rw [show Try.f15.ntmps = 27 from rfl]
  refine W_evK [0, 1] (by simp; rfl) ?_
  refine W_seq ?_
  by_cases c : a.length = b.length
  rotate_left
  · have hne : ¬ a = b := fun e => c (by rw [e])
    refine W_evK [0, 1, 10] (by simp [ne_nat, c]; rfl) ?_
    refine W_cond rfl (fun h => ?_) (fun h => by simp at h)
    refine W_evK [4] (by simp; rfl) ?_
    refine W_ret ?_
    repeat (first | refine on_ret ?_ | refine in_ret ?_)
    simp [retQ, hne]
  refine W_evK [0, 1, 10] (by simp [c]; rfl) ?_
  refine W_cond rfl (fun h => by simp at h) (fun h => ?_)
  refine W_skip ?_
  refine W_seq ?_
  refine W_evK [0, 1, 5] (by simp; rfl) ?_
  refine W_block ?_
  refine W_loop (fun k s => ∃ i : Nat, k = a.length - i ∧ i ≤ a.length ∧ a.take i = b.take i ∧ s = ⟨27, [(0, .lst .any 1 (arL a)), (1, .lst .any 1 (arL b)), (5, .v (.int .i64 i))], []⟩) (k := a.length) ⟨0, by simp, by omega, by simp, by simp⟩ ?_
  rintro k s ⟨i, rfl, hi, hab, rfl⟩
  refine W_seq ?_
  refine W_evK [0, 1, 5, 14] (by simp; rfl) ?_
  refine W_cond rfl (fun h => ?_) (fun h => ?_)
  · refine W_skip ?_
    refine W_seq ?_
    refine W_block ?_
    have hi2 : i < a.length := by simp at h; omega
    have hj2 : i < b.length := by omega
    have hi2' : (i : Int) < a.length := by omega
    have hj2' : (i : Int) < b.length := by omega
    obtain ⟨r, hr⟩ : ∃ r, a[i]? = some r := ⟨_, List.getElem?_eq_getElem hi2⟩
    obtain ⟨q, hq⟩ : ∃ q, b[i]? = some q := ⟨_, List.getElem?_eq_getElem hj2⟩
    have hr2 : a[i]'hi2 = r := by rw [List.getElem?_eq_getElem hi2] at hr; exact Option.some.inj hr
    have hq2 : b[i]'hj2 = q := by rw [List.getElem?_eq_getElem hj2] at hq; exact Option.some.inj hq
    have hst := sameT_sound r q (ht r (List.mem_of_getElem? hr))
    refine W_rdK [0, 1, 5, 26] mx (by decide +kernel) ?_
    refine runD_pre 8 (by simp [hi2, hi2', hj2, hj2', hr2, hq2]; rfl) rfl ?_
    refine runD_call (by simp) (by first | (simp; done) | (simp; rfl)) hst (by simp; rfl) ?_
    by_cases e : r = q
    · have wi := w64 (n := (i : Int) + 1) (by omega) (by omega)
      refine runD_fin (by simp [e]; rfl) ?_
      refine W_cond rfl (fun h => by simp at h) (fun h => ?_)
      refine W_skip ?_
      refine W_evE [0, 1, 5] (by simp [wi]; rfl) ?_
      exact ⟨_, by omega, i + 1, rfl, by omega, take_succ_eq hr (by rw [hq, e]) hab, by simp⟩
    · have hne : ¬ a = b := fun he => e (by rw [he, hq] at hr; exact (Option.some.inj hr).symm)
      refine runD_fin (by simp [e]; rfl) ?_
      refine W_cond rfl (fun h => ?_) (fun h => by simp at h)
      refine W_evK [4] (by simp; rfl) ?_
      refine W_ret ?_
      repeat (first | refine on_ret ?_ | refine in_ret ?_)
      simp [retQ, hne]
  refine W_exit ?_
  have hie : i = a.length := by simp at h; omega
  have hEq : a = b := by
    rw [hie, List.take_length] at hab
    rw [hab, c, List.take_length]
  refine W_evK [4] (by simp; rfl) ?_
  refine W_ret ?_
  repeat (first | refine on_ret ?_ | refine in_ret ?_)
  simp [retQ, hEq]

end Go.AM
