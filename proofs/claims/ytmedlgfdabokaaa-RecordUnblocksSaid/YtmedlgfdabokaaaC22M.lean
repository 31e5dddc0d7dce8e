/- RecordReturns' walk. -/
import Derived.Test.YtmedlgfdabokaaaC22L
import Derived.Test.YtmedlgfdabokaaaC22PB
namespace Go.AM
open Go.RowKit Go.Proofs
set_option linter.unusedSimpArgs false
set_option linter.unusedVariables false
set_option maxHeartbeats 1000000

theorem groups_len : ∀ gs : List (List (List UInt8)), (∀ g ∈ gs, g ≠ []) → gs.length ≤ gs.flatten.length
  | [], _ => by simp
  | g :: gs, h => by
    have h1 := h g (by simp)
    have h2 : g.length ≠ 0 := fun e => h1 (List.eq_nil_of_length_eq_zero e)
    have h3 := groups_len gs fun x hx => h x (by simp [hx])
    rw [List.flatten_cons, List.length_append, List.length_cons]
    omega
theorem returns_sound (d : Dcb) (l : List (List UInt8)) : Sound Try.prog 6 [dcbA d, .lst .any 1 (bbL l)] (.v (.bool true)) := by
  refine sound_of_W Try.func6 rfl (by decide +kernel) (by simp [Try.f6]) rfl rfl (rs := [.tmp 4]) rfl ?_
  rw [show Try.f6.ntmps = 41 from rfl]
  refine W_evK [1, 2] (by simp; rfl) ?_
  refine W_seq ?_
  refine W_rK [1, 2, 10] ?_
  refine runA_pre 1 (by simp; rfl) rfl ?_
  refine runA_call (by simp) (by first | (simp; done) | (simp; rfl)) (big_sound l) (by simp; rfl) ?_
  rcases Bool.eq_false_or_eq_true (bigL l) with hb | hb
  · refine runA_fin (by simp [hb]; rfl) ?_
    refine W_cond rfl (fun h => ?_) (fun h => by simp at h)
    refine W_evK [4] (by simp; rfl) ?_
    refine W_ret ?_
    repeat (first | refine on_ret ?_ | refine in_ret ?_)
    simp [retQ]
  obtain ⟨hl1, hl2⟩ := bigL_no hb
  refine runA_fin (by simp [hb]; rfl) ?_
  refine W_cond rfl (fun h => by simp at h) (fun h => ?_)
  refine W_skip ?_
  have hbk := block_sound d l (by omega) (fun r hr => by have := hl2 r hr; omega)
  have herr := blockM_err (d := d) (l := l)
  obtain ⟨p, hp⟩ : ∃ p, blockM d l = p := ⟨_, rfl⟩
  rw [hp] at hbk herr
  obtain ⟨bs, e⟩ := p
  simp only at herr
  simp only [resB] at hbk
  refine W_rK [1, 2, 5, 6] ?_
  refine runA_pre 2 (by simp; rfl) rfl ?_
  refine runA_call (by simp) (by first | (simp; done) | (simp; rfl)) hbk (by simp; rfl) ?_
  refine runA_fin (by simp; rfl) ?_
  refine W_seq ?_
  by_cases c : e = 0
  rotate_left
  · have c' : (e != 0) = true := by simpa using c
    have hb0 := herr c
    subst hb0
    refine W_evK [1, 2, 5, 18] (by simp [c']; rfl) ?_
    refine W_cond rfl (fun h => ?_) (fun h => by simp at h)
    refine W_rK [4] ?_
    refine runA_pre 4 (by simp; rfl) rfl ?_
    refine runA_call (by simp) (by first | (simp; done) | (simp; rfl)) works_sound (by simp; rfl) ?_
    refine runA_fin (by simp; rfl) ?_
    refine W_ret ?_
    repeat (first | refine on_ret ?_ | refine in_ret ?_)
    simp [retQ]
  subst c
  obtain ⟨hc, hll, gs, hbs, hfl, hg, _⟩ := blockM_groups hp
  have hret := returns hp
  have hbl : bs.length ≤ l.length := by
    rw [hbs, List.length_map, ← hfl]
    exact groups_len gs fun x hx => (hg x hx).ne
  have hbb : ∀ b ∈ bs, b.length ≤ 1000000000 := by
    intro b hb
    rw [hbs] at hb
    obtain ⟨g, hgm, rfl⟩ := List.mem_map.1 hb
    have := (hg g hgm).len
    have := (check_facts hc).2.2.2.1
    omega
  have hub := unb_sound d bs (by omega) hbb
  rw [hret] at hub
  simp only [resB] at hub
  refine W_evK [1, 2, 5, 18] (by simp; rfl) ?_
  refine W_cond rfl (fun h => by simp at h) (fun h => ?_)
  refine W_skip ?_
  refine W_rK [1, 7, 8] ?_
  refine runA_pre 2 (by simp; rfl) rfl ?_
  refine runA_call (by simp) (by first | (simp; done) | (simp; rfl)) hub (by simp; rfl) ?_
  refine runA_fin (by simp; rfl) ?_
  refine W_rK [4] ?_
  refine runA_pre 5 (by simp; rfl) rfl ?_
  refine runA_call (by simp) (by first | (simp; done) | (simp; rfl)) (same_sound l l (by omega)) (by simp; rfl) ?_
  refine runA_pre 2 (by simp; rfl) rfl ?_
  refine runA_call (by simp) (by first | (simp; done) | (simp; rfl)) works_sound (by simp; rfl) ?_
  refine runA_fin (by simp; rfl) ?_
  refine W_ret ?_
  repeat (first | refine on_ret ?_ | refine in_ret ?_)
  simp [retQ]
end Go.AM
