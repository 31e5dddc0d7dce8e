/- CkptSaves: the law's walk. -/
import Derived.Test.YtonckolkghbcbaaC38ZE
import Derived.Test.YtonckolkghbcbaaC38ZA
import Derived.Test.YtonckolkghbcbaaC38N
namespace Go.AM
open Go.RowKit Go.Proofs
set_option linter.unusedSimpArgs false
set_option linter.unusedVariables false
set_option maxHeartbeats 2000000

theorem ckptSaves_sound (area : List (List Rec)) (state : List UInt8) (hl : ∀ t ∈ area, t.length ≤ 9223372036854775807) (hsl : state.length ≤ 9223372036854775807) : Sound Try.prog 5 [.lst .any 1 (arL area), .lst .any 1 (byL state)] (.v (.bool true)) := by
  refine sound_of_W Try.func5 rfl (by decide +kernel) (by simp [Try.f5]) rfl rfl (rs := [.tmp 4]) rfl ?_
  rw [show Try.f5.ntmps = 68 from rfl]
  refine W_evK [0, 1] (by simp; rfl) ?_
  refine W_seq ?_
  have hbg := big_sound area hl
  refine W_rK [0, 1, 19] ?_
  refine runA_pre 1 (by simp; rfl) rfl ?_
  refine runA_call (by simp) (by first | (simp; done) | (simp; rfl)) hbg (by simp; rfl) ?_
  by_cases b1 : bigM area = true
  · refine runA_fin (by simp [b1]; rfl) ?_
    refine W_cond rfl (fun h => ?_) (fun h => by simp at h)
    refine W_evK [4] (by simp; rfl) ?_
    refine W_ret ?_
    repeat (first | refine on_ret ?_ | refine in_ret ?_)
    simp [retQ]
  have b1' : bigM area = false := by simpa using b1
  have hsm := small_of_big b1'
  by_cases b2 : 40000 < state.length
  · have b2' : (40000 : Int) < state.length := by omega
    refine runA_fin (by simp [b1', b2, b2']; rfl) ?_
    refine W_cond rfl (fun h => ?_) (fun h => by simp at h)
    refine W_evK [4] (by simp; rfl) ?_
    refine W_ret ?_
    repeat (first | refine on_ret ?_ | refine in_ret ?_)
    simp [retQ]
  have b2' : ¬ (40000 : Int) < state.length := by omega
  refine runA_fin (by simp [b1', b2, b2']; rfl) ?_
  refine W_cond rfl (fun h => by simp at h) (fun h => ?_)
  refine W_skip ?_
  refine W_rK [0, 1, 5] ?_
  refine runA_pre 1 (by simp; rfl) rfl ?_
  refine runA_call (by simp) (by first | (simp; done) | (simp; rfl)) (copy_sound area hsm) (by simp; rfl) ?_
  refine runA_fin (by simp; rfl) ?_
  have hbl : (byL state).length = state.length := by simp
  refine W_evK [0, 1, 5, 6] (by simp [show state.length ≤ 140737488355328 by omega]; rfl) ?_
  have hsv := save_callN area state (by have := hsm.1; omega) (by omega)
  have hrs := rsave_sound area state hsm (by omega)
  have hf := save_few area state (by omega)
  have hln := save_len area state
  have hst := same_tracks area area (by have := hsm.1; omega) (fun t ht => by have := (hsm.2 t ht).1; omega)
  obtain ⟨p, hp⟩ : ∃ p, saveM area state = p := ⟨_, rfl⟩
  rw [hp] at hsv hrs hf hln
  obtain ⟨at0, T, e⟩ := p
  simp only at hf hln
  have hss := same_tracks T T (by have := hsm.1; omega) (fun t ht => (hf t ht).1)
  simp only [decide_true] at hst hss
  have hsv' : CallW Try.prog 18 [.lst .any 1 (arL area), .lst (.tip 5 49) 1 (byL state)] [] (saveQ (at0, T, e)) := CallW.weakArgs (by simpa [AV.weakL, AV.weak, Fl.wk] using hsv)
  refine W_rK [0, 1, 5, 6, 7, 8, 9] ?_
  refine runA_pre 2 (by simp; rfl) rfl ?_
  refine runA_obj (f := 18) (args := [.lst .any 1 (arL area), .lst (.tip 5 49) 1 (byL state)]) (by simp) (by first | (simp; done) | (simp; exact ⟨rfl, rfl⟩)) (hsv'.mono ?_)
  rintro r h' ⟨x, rfl, ha⟩
  have hview := arrS_view ha
  simp only at hview
  rcases arrS_spT ha (fun t ht => ⟨by have := (hf t ht).1; omega, fun r hr => by have := (hf t ht).2 r hr; omega⟩) with ⟨hT, rfl⟩ | ⟨q, cap, cs, rfl, hsp⟩
  · refine ⟨_, by simp; rfl, ?_⟩
    refine runA_fin (by simp; rfl) ?_
    refine W_rK [0, 1, 5, 6, 7, 8, 9, 10, 11, 12] ?_
    refine runA_pre 2 (by simp; rfl) rfl ?_
    refine runA_call (by simp) (by first | (simp; done) | (simp; rfl)) hrs (by simp [resS]; rfl) ?_
    refine runA_fin (by simp; rfl) ?_
    refine W_seq ?_
    refine W_rK [0, 1, 5, 6, 8, 52] ?_
    refine runA_pre 6 (by simp; rfl) rfl ?_
    refine runA_pre 5 (by simp; rfl) rfl ?_
    refine runA_obj (f := 17) (args := [.lst .nil 1 [], .lst .any 1 (arL T)]) (by simp) (by first | (simp; done) | (simp; exact ⟨rfl, rfl⟩)) (callW_lendD3 (args1 := [.lst .any 1 (arL T), .lst .any 1 (arL T)]) (v := .bool true) (by simpa using hss) rfl (fun i x1 hi => ?_) ?_)
    · match i, hi with
      | 0, hi => simp at hi; subst hi; exact ⟨_, rfl, hview⟩
      | 1, hi => simp at hi; subst hi; exact ⟨_, rfl, .base (.inl (by simp))⟩
      | i + 2, hi => simp at hi
    refine ⟨_, by simp; rfl, ?_⟩
    refine runA_fin (by simp; rfl) ?_
    refine W_cond rfl (fun h => by simp at h) (fun h => ?_)
    refine W_skip ?_
    refine W_rK [0, 1, 5, 6] ?_
    refine runA_pre 1 (by simp; rfl) rfl ?_
    refine runA_obj (f := 20) (args := [.lst .nil 1 []]) (by simp) (by first | (simp; done) | (simp; exact ⟨rfl, rfl⟩)) ((spoilT_nil _).mono ?_)
    rintro r h2 rfl
    refine ⟨_, by simp; rfl, ?_⟩
    refine runA_fin (by simp; rfl) ?_
    refine W_rK [4] ?_
    refine runA_pre 2 (by simp; rfl) rfl ?_
    refine runA_call (by simp) (by first | (simp; done) | (simp; rfl)) hst (by simp; rfl) ?_
    refine runA_pre 8 (by simp; rfl) rfl ?_
    refine runA_call (by simp) (by first | (simp; done) | (simp; rfl)) works_sound (by simp; rfl) ?_
    refine runA_fin (by simp; rfl) ?_
    refine W_ret ?_
    repeat (first | refine on_ret ?_ | refine in_ret ?_)
    simp [retQ]
  · refine ⟨_, by simp; rfl, ?_⟩
    refine runA_fin (by simp; rfl) ?_
    refine W_rK [0, 1, 5, 6, 7, 8, 9, 10, 11, 12] ?_
    refine runA_pre 2 (by simp; rfl) rfl ?_
    refine runA_call (by simp) (by first | (simp; done) | (simp; rfl)) hrs (by simp [resS]; rfl) ?_
    refine runA_fin (by simp; rfl) ?_
    refine W_seq ?_
    refine W_rK [0, 1, 5, 6, 8, 52] ?_
    refine runA_pre 6 (by simp; rfl) rfl ?_
    refine runA_pre 5 (by simp; rfl) rfl ?_
    refine runA_obj (f := 17) (args := [.arr q 0 T.length cap, .lst .any 1 (arL T)]) (by simp) (by first | (simp; done) | (simp; exact ⟨rfl, rfl⟩)) (callW_lendD3 (args1 := [.lst .any 1 (arL T), .lst .any 1 (arL T)]) (v := .bool true) (by simpa using hss) rfl (fun i x1 hi => ?_) ?_)
    · match i, hi with
      | 0, hi => simp at hi; subst hi; exact ⟨_, rfl, hview⟩
      | 1, hi => simp at hi; subst hi; exact ⟨_, rfl, .base (.inl (by simp))⟩
      | i + 2, hi => simp at hi
    refine ⟨_, by simp; rfl, ?_⟩
    refine runA_fin (by simp; rfl) ?_
    refine W_cond rfl (fun h => by simp at h) (fun h => ?_)
    refine W_skip ?_
    refine W_rK [0, 1, 5, 6] ?_
    refine runA_pre 1 (by simp; rfl) rfl ?_
    refine runA_obj (f := 20) (args := [.arr q 0 T.length cap]) (by simp) (by first | (simp; done) | (simp; exact ⟨rfl, rfl⟩)) ((spoilT_callW _ q T.length cap cs hsp (by have := hsm.1; omega)).mono ?_)
    rintro r h2 rfl
    refine ⟨_, by simp; rfl, ?_⟩
    refine runA_fin (by simp; rfl) ?_
    refine W_rK [4] ?_
    refine runA_pre 2 (by simp; rfl) rfl ?_
    refine runA_call (by simp) (by first | (simp; done) | (simp; rfl)) hst (by simp; rfl) ?_
    refine runA_pre 8 (by simp; rfl) rfl ?_
    refine runA_call (by simp) (by first | (simp; done) | (simp; rfl)) works_sound (by simp; rfl) ?_
    refine runA_fin (by simp; rfl) ?_
    refine W_ret ?_
    repeat (first | refine on_ret ?_ | refine in_ret ?_)
    simp [retQ]
end Go.AM
