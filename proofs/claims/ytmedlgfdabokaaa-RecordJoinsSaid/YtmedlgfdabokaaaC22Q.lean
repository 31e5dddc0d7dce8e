/- RecordJoins' walk. -/
import Derived.Test.YtmedlgfdabokaaaC22O
namespace Go.AM
open Go.RowKit Go.Proofs
set_option linter.unusedSimpArgs false
set_option linter.unusedVariables false
set_option maxHeartbeats 1000000

theorem joins_sound (d : Dcb) (a b : List (List UInt8)) : Sound Try.prog 8 [dcbA d, .lst .any 1 (bbL a), .lst .any 1 (bbL b)] (.v (.bool true)) := by
  refine sound_of_W Try.func8 rfl (by decide +kernel) (by simp [Try.f8]) rfl rfl (rs := [.tmp 6]) rfl ?_
  rw [show Try.f8.ntmps = 79 from rfl]
  refine W_evK [1, 2, 3] (by simp; rfl) ?_
  refine W_seq ?_
  refine W_rK [1, 2, 3, 18] ?_
  refine runA_pre 1 (by simp; rfl) rfl ?_
  refine runA_call (by simp) (by first | (simp; done) | (simp; rfl)) (big_sound a) (by simp; rfl) ?_
  rcases Bool.eq_false_or_eq_true (bigL a) with hb | hb
  · refine runA_fin (by simp [hb]; rfl) ?_
    refine W_cond rfl (fun h => ?_) (fun h => by simp at h)
    refine W_evK [6] (by simp; rfl) ?_
    refine W_ret ?_
    repeat (first | refine on_ret ?_ | refine in_ret ?_)
    simp [retQ]
  refine runA_pre 2 (by simp [hb]; rfl) rfl ?_
  refine runA_call (by simp) (by first | (simp; done) | (simp; rfl)) (big_sound b) (by simp; rfl) ?_
  rcases Bool.eq_false_or_eq_true (bigL b) with hb2 | hb2
  · refine runA_fin (by simp [hb2]; rfl) ?_
    refine W_cond rfl (fun h => ?_) (fun h => by simp at h)
    refine W_evK [6] (by simp; rfl) ?_
    refine W_ret ?_
    repeat (first | refine on_ret ?_ | refine in_ret ?_)
    simp [retQ]
  refine runA_fin (by simp [hb2]; rfl) ?_
  refine W_cond rfl (fun h => by simp at h) (fun h => ?_)
  refine W_skip ?_
  obtain ⟨ha1, ha2⟩ := bigL_no hb
  obtain ⟨hc1, hc2⟩ := bigL_no hb2
  have hua := unb_sound d a (by omega) (fun r hr => by have := ha2 r hr; omega)
  have hub := unb_sound d b (by omega) (fun r hr => by have := hc2 r hr; omega)
  have hut := unb_sound d (a ++ b) (by simp; omega) (fun r hr => by
    rcases List.mem_append.1 hr with h | h
    · have := ha2 r h; omega
    · have := hc2 r h; omega)
  have hcp := copy_tip a (by omega) (fun r hr => by have := ha2 r hr; omega)
  obtain ⟨j1, j2⟩ := unbM_join d a b
  obtain ⟨pa, hpa⟩ : ∃ p, unbM d a = p := ⟨_, rfl⟩
  obtain ⟨pb, hpb⟩ : ∃ p, unbM d b = p := ⟨_, rfl⟩
  obtain ⟨pt, hpt⟩ : ∃ p, unbM d (a ++ b) = p := ⟨_, rfl⟩
  rw [hpa, hpb, hpt] at j1 j2
  rw [hpa] at hua
  rw [hpb] at hub
  rw [hpt] at hut
  obtain ⟨r, e⟩ := pa
  obtain ⟨s, f⟩ := pb
  obtain ⟨t, g⟩ := pt
  simp only [resB] at hua hub hut
  simp only at j1 j2
  have hbig : (a.length + b.length) * 24 ≤ 140737488355328 := by omega
  have hbig2 : 24 * (a.length + b.length) ≤ 140737488355328 := by omega
  refine W_rK [1, 2, 3, 7, 8] ?_
  refine runA_pre 2 (by simp; rfl) rfl ?_
  refine runA_call (by simp) (by first | (simp; done) | (simp; rfl)) hua (by simp; rfl) ?_
  refine runA_fin (by simp; rfl) ?_
  refine W_rK [1, 2, 3, 7, 8, 9, 10] ?_
  refine runA_pre 2 (by simp; rfl) rfl ?_
  refine runA_call (by simp) (by first | (simp; done) | (simp; rfl)) hub (by simp; rfl) ?_
  refine runA_fin (by simp; rfl) ?_
  refine W_rdK [7, 8, 9, 10, 11, 12] mx (by decide +kernel) ?_
  refine runD_pre 2 (by simp; rfl) rfl ?_
  refine runD_call (by simp) (by first | (simp; done) | (simp; rfl)) hcp (by simp; rfl) ?_
  refine runD_pre 2 (by simp [hbig, hbig2]; rfl) rfl ?_
  refine runD_call (by simp) (by first | (simp [← bbL_append]; done) | (simp [← bbL_append]; rfl)) hut (by simp; rfl) ?_
  refine runD_fin (by simp; rfl) ?_
  refine W_seq ?_
  by_cases c : e ≠ 0 ∨ f ≠ 0
  · obtain ⟨g0, t0⟩ := j1 c
    subst t0
    have g0' : (g != 0) = true := by simpa using g0
    refine W_seqC (fun s' => s' = ⟨79, [(7, .lst (.tip 35 45) 1 (bbL r)), (9, .lst (.tip 35 57) 1 (bbL s)), (11, .lst (.tip 35 75) 1 []), (12, .v (.int .i64 g)), (45, .v (.bool true))], [.cells 23 (dcbC d)]⟩) ?_ ?_
    · by_cases ce : e = 0
      · have cf : (f != 0) = true := by
          rcases c with h | h
          · exact absurd ce h
          · simpa using h
        subst ce
        refine W_evE [7, 9, 11, 12, 45] (by simp [cf]; rfl) ?_
        simp [onNormal, dcbC]
      · have ce' : (e != 0) = true := by simpa using ce
        refine W_evE [7, 9, 11, 12, 45] (by simp [ce']; rfl) ?_
        simp [onNormal, dcbC]
    rintro _ rfl
    refine W_cond rfl (fun h => ?_) (fun h => by simp at h)
    refine W_rK [6] ?_
    refine runA_pre 8 (by simp [g0']; rfl) rfl ?_
    refine runA_call (by simp) (by first | (simp; done) | (simp; exact ⟨rfl, rfl⟩) | (simp; rfl)) works_sound (by simp; rfl) ?_
    refine runA_fin (by simp; rfl) ?_
    refine W_ret ?_
    repeat (first | refine on_ret ?_ | refine in_ret ?_)
    simp [retQ]
  have ce : e = 0 := Classical.byContradiction fun h => c (.inl h)
  have cf : f = 0 := Classical.byContradiction fun h => c (.inr h)
  subst ce
  subst cf
  obtain ⟨j3, j4⟩ := j2 rfl rfl
  have hr4 : r.length ≤ 4096 ∧ s.length ≤ 4096 := by
    have key : ∀ (l o : List (List UInt8)), unbM d l = (o, 0) → o.length ≤ 4096 := by
      intro l o h
      by_cases hc : checkM d = 0
      · rw [unbM_ok hc] at h
        cases hq : unbGo d l [] with
        | none => rw [hq] at h; cases h
        | some A =>
          rw [hq] at h
          by_cases h1 : 4096 < A.length
          · rw [finU_b h1] at h; cases h
          · rw [finU_s h1] at h; cases h; omega
      · rw [unbM_bad hc] at h
        exact absurd (Prod.mk.inj h).2 hc
    exact ⟨key a r hpa, key b s hpb⟩
  have ws : IntKind.i64.wrap ((r.length : Int) + (s.length : Int)) = (r.length : Int) + (s.length : Int) := w64 (by omega) (by omega)
  refine W_evK [7, 9, 11, 12, 45] (by simp; rfl) ?_
  refine W_cond rfl (fun h => by simp at h) (fun h => ?_)
  refine W_skip ?_
  refine W_seq ?_
  by_cases z : 4096 < r.length + s.length
  · have zi : (4096 : Int) < (r.length : Int) + (s.length : Int) := by omega
    have hT := j3 z
    simp only [Prod.mk.injEq] at hT
    obtain ⟨rfl, rfl⟩ := hT
    refine W_evK [7, 9, 11, 12, 61] (by simp [ws, zi]; rfl) ?_
    refine W_cond rfl (fun h => ?_) (fun h => by simp at h)
    refine W_rK [6] ?_
    refine runA_pre 3 (by simp; rfl) rfl ?_
    refine runA_call (by simp) (by first | (simp; done) | (simp; exact ⟨rfl, rfl⟩) | (simp; rfl)) works_sound (by simp; rfl) ?_
    refine runA_fin (by simp; rfl) ?_
    refine W_ret ?_
    repeat (first | refine on_ret ?_ | refine in_ret ?_)
    simp [retQ]
  have zi : ¬ (4096 : Int) < (r.length : Int) + (s.length : Int) := by omega
  have hT := j4 z
  simp only [Prod.mk.injEq] at hT
  obtain ⟨rfl, rfl⟩ := hT
  have hbr : (r.length + s.length) * 24 ≤ 140737488355328 := by omega
  have hbr2 : 24 * (r.length + s.length) ≤ 140737488355328 := by omega
  have hsm := same_sound (r ++ s) (r ++ s) (by simp; omega)
  refine W_evK [7, 9, 11, 12, 61] (by simp [ws, zi]; rfl) ?_
  refine W_cond rfl (fun h => by simp at h) (fun h => ?_)
  refine W_skip ?_
  refine W_rK [6] ?_
  refine runA_pre 7 (by simp [hbr, hbr2]; rfl) rfl ?_
  refine runA_call (by simp) (by first | (simp [← bbL_append]; done) | (simp [← bbL_append]; rfl)) hsm (by simp; rfl) ?_
  refine runA_pre 2 (by simp; rfl) rfl ?_
  refine runA_call (by simp) (by first | (simp; done) | (simp; exact ⟨rfl, rfl⟩) | (simp; rfl)) works_sound (by simp; rfl) ?_
  refine runA_fin (by simp; rfl) ?_
  refine W_ret ?_
  repeat (first | refine on_ret ?_ | refine in_ret ?_)
  simp [retQ]
end Go.AM
