/- RecordBlocks: the law's walk. -/
import Derived.Test.YtmedlgfdabokaaaC22ZG
import Derived.Test.YtmedlgfdabokaaaC22O
import Derived.Test.YtmedlgfdabokaaaC22U
namespace Go.AM
open Go.RowKit Go.Proofs
set_option linter.unusedSimpArgs false
set_option linter.unusedVariables false
set_option maxHeartbeats 2000000

theorem blk_bounds {d : Dcb} {l bs : List (List UInt8)} {e : Int} (hp : blockM d l = (bs, e)) : bs.length ≤ l.length ∧ ∀ b ∈ bs, b.length ≤ 1000000000 := by
  by_cases c : e = 0
  · subst c
    obtain ⟨hc, hll, gs, hbs, hfl, hg, _⟩ := blockM_groups hp
    refine ⟨?_, fun b hb => ?_⟩
    · rw [hbs, List.length_map, ← hfl]
      exact groups_len gs fun x hx => (hg x hx).ne
    · rw [hbs] at hb
      obtain ⟨g, hgm, rfl⟩ := List.mem_map.1 hb
      have := (hg g hgm).len
      have := (check_facts hc).2.2.2.1
      omega
  · have := blockM_err (d := d) (l := l)
    rw [hp] at this
    have h0 : bs = [] := this c
    subst h0
    simp

theorem recordBlocks_sound (d : Dcb) (l : List (List UInt8)) : Sound Try.prog 3 [dcbA d, .lst .any 1 (bbL l)] (.v (.bool true)) := by
  refine sound_of_W Try.func3 rfl (by decide +kernel) (by simp [Try.f3]) rfl rfl (rs := [.tmp 4]) rfl ?_
  rw [show Try.f3.ntmps = 43 from rfl]
  refine W_evK [1, 2] (by simp; rfl) ?_
  refine W_seq ?_
  refine W_rK [1, 2, 11] ?_
  refine runA_pre 1 (by simp; rfl) rfl ?_
  refine runA_call (by simp) (by first | (simp; done) | (simp; rfl)) (big_sound l) (by simp; rfl) ?_
  rcases Bool.eq_false_or_eq_true (bigL l) with hb | hb
  · refine runA_fin (by simp [hb]; rfl) ?_
    refine W_cond rfl (fun h => ?_) (fun h => by simp at h)
    refine W_evK [4] (by simp; rfl) ?_
    refine W_ret ?_
    repeat (first | refine on_ret ?_ | refine in_ret ?_)
    simp [retQ]
  obtain ⟨hl1, hl2⟩ := bigL_no hb
  refine runA_fin (by simp [hb]; rfl) ?_
  refine W_cond rfl (fun h => by simp at h) (fun h => ?_)
  refine W_skip ?_
  have hl1' : l.length ≤ 60 := by omega
  have hl2' : ∀ r ∈ l, r.length ≤ 1000000000 := fun r hr => by have := hl2 r hr; omega
  have hcp : Sound Try.prog 11 [.lst .any 1 (bbL l)] (.lst .any 1 (bbL l)) := by
    have := (copy_tip l (by omega) (fun r hr => by have := hl2 r hr; omega)).weakR
    simpa using this
  refine W_rK [1, 2, 5] ?_
  refine runA_pre 1 (by simp; rfl) rfl ?_
  refine runA_call (by simp) (by first | (simp; done) | (simp; rfl)) hcp (by simp; rfl) ?_
  refine runA_fin (by simp; rfl) ?_
  have hbk := blockN_callW d l (by omega) hl2'
  have hrb := rblock_sound d l (by omega) hl2'
  obtain ⟨p, hp⟩ : ∃ p, blockM d l = p := ⟨_, rfl⟩
  rw [hp] at hbk hrb
  obtain ⟨bs, e⟩ := p
  obtain ⟨n1, n2⟩ := blk_bounds hp
  simp only [resB] at hrb
  have hsm : Sound Try.prog 14 [.lst .any 1 (bbL bs), .lst .any 1 (bbL bs)] (.v (.bool true)) := by
    have := same_sound bs bs (by omega)
    simpa using this
  have hsl : Sound Try.prog 14 [.lst .any 1 (bbL l), .lst .any 1 (bbL l)] (.v (.bool true)) := by
    have := same_sound l l (by omega)
    simpa using this
  refine W_rK [1, 2, 5, 6, 7] ?_
  refine runA_pre 2 (by simp; rfl) rfl ?_
  refine runA_obj (f := 12) (args := [dcbA d, .lst .any 1 (bbL l)]) (by simp) (by first | (simp; done) | (simp; exact ⟨rfl, rfl⟩)) (hbk.mono ?_)
  rintro r h' ⟨x, G, rfl, rfl, hown⟩
  simp only at hown
  rcases hown with ⟨rfl, rfl⟩ | ⟨hO0, q, cs, rfl, hq, hcl, hcm, hrow⟩
  · refine ⟨_, by simp; rfl, ?_⟩
    refine runA_fin (by simp; rfl) ?_
    refine W_rK [1, 5, 6, 7, 8, 9] ?_
    refine runA_pre 2 (by simp [dcbC]; rfl) rfl ?_
    refine runA_call (by simp) (by first | (simp; done) | (simp; rfl)) hrb (by simp; rfl) ?_
    refine runA_fin (by simp; rfl) ?_
    refine W_seq ?_
    refine W_rK [1, 5, 6, 34] ?_
    refine runA_pre 6 (by simp; rfl) rfl ?_
    refine runA_call (by simp) (by first | (simp; done) | (simp; rfl)) hsm (by simp; rfl) ?_
    refine runA_fin (by simp; rfl) ?_
    refine W_cond rfl (fun h => by simp at h) (fun h => ?_)
    refine W_skip ?_
    refine W_rK [1, 5] ?_
    refine runA_pre 1 (by simp; rfl) rfl ?_
    refine runA_obj (f := 15) (args := [.lst .nil 1 []]) (by simp) (by first | (simp; done) | (simp; exact ⟨rfl, rfl⟩)) ((spoil_nil _).mono ?_)
    rintro r h' rfl
    refine ⟨_, by simp; rfl, ?_⟩
    refine runA_fin (by simp; rfl) ?_
    refine W_rK [4] ?_
    refine runA_pre 2 (by simp; rfl) rfl ?_
    refine runA_call (by simp) (by first | (simp; done) | (simp; rfl)) hsl (by simp; rfl) ?_
    refine runA_pre 1 (by simp; rfl) rfl ?_
    refine runA_call (by simp) (by first | (simp; done) | (simp; rfl)) works_sound (by simp; rfl) ?_
    refine runA_fin (by simp; rfl) ?_
    refine W_ret ?_
    repeat (first | refine on_ret ?_ | refine in_ret ?_)
    simp [retQ]
  · refine ⟨_, by simp; rfl, ?_⟩
    refine runA_fin (by simp; rfl) ?_
    refine W_rK [1, 5, 6, 7, 8, 9] ?_
    refine runA_pre 2 (by simp [dcbC]; rfl) rfl ?_
    refine runA_call (by simp) (by first | (simp; done) | (simp; rfl)) hrb (by simp; rfl) ?_
    refine runA_fin (by simp; rfl) ?_
    refine W_seq ?_
    refine W_rK [1, 5, 6, 34] ?_
    refine runA_pre 6 (by simp; rfl) rfl ?_
    refine runA_obj (f := 14) (args := [.arr q 0 bs.length cs.length, .lst (.tip 35 47) 1 (bbL bs)]) (by simp) (by first | (simp; done) | (simp; exact ⟨rfl, rfl⟩)) (callW_lendN (args1 := [.lst .any 1 (bbL bs), .lst .any 1 (bbL bs)]) (v := .bool true) (by simpa using hsm) rfl (fun i x1 hi => ?_) ?_)
    · match i, hi with
      | 0, hi => simp at hi; subst hi; exact ⟨_, rfl, ownR_view hq hcl hrow⟩
      | 1, hi => simp at hi; subst hi; exact ⟨_, rfl, .inl (.inl (by simp))⟩
      | i + 2, hi => simp at hi
    refine ⟨_, by simp; rfl, ?_⟩
    refine runA_fin (by simp; rfl) ?_
    refine W_cond rfl (fun h => by simp at h) (fun h => ?_)
    refine W_skip ?_
    refine W_rK [1, 5] ?_
    refine runA_pre 1 (by simp; rfl) rfl ?_
    refine runA_obj (f := 15) (args := [.arr q 0 bs.length cs.length]) (by simp) (by first | (simp; done) | (simp; exact ⟨rfl, rfl⟩)) ((spoil_callW _ q bs.length cs.length cs (ownR_spO (fun B hB => by have := n2 B hB; omega) hq hcl hrow) (by omega)).mono ?_)
    rintro r h' rfl
    refine ⟨_, by simp; rfl, ?_⟩
    refine runA_fin (by simp; rfl) ?_
    refine W_rK [4] ?_
    refine runA_pre 2 (by simp; rfl) rfl ?_
    refine runA_call (by simp) (by first | (simp; done) | (simp; rfl)) hsl (by simp; rfl) ?_
    refine runA_pre 1 (by simp; rfl) rfl ?_
    refine runA_call (by simp) (by first | (simp; done) | (simp; rfl)) works_sound (by simp; rfl) ?_
    refine runA_fin (by simp; rfl) ?_
    refine W_ret ?_
    repeat (first | refine on_ret ?_ | refine in_ret ?_)
    simp [retQ]
end Go.AM
