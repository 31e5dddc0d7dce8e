/- The specification's Records, Append. -/
import Derived.Test.YtknlmgnfflfpeaaC23Z
namespace Go.AM
open Go.RowKit Go.Proofs
set_option linter.unusedSimpArgs false
set_option linter.unusedVariables false
set_option maxHeartbeats 1000000

theorem rrecords_sound (d : Dcb) (t : List (List Rec)) (ht : t.length ≤ 100000) (hs : ∀ l ∈ t, trSm l) (hb : (blocksM t).1.length ≤ 100000) (hr : ∀ b ∈ (blocksM t).1, b.length ≤ 1000000000) : Sound Try.prog 38 [dcbA d, .lst .any 1 (arL t)] (resB (recsM d t)) := by
  refine sound_of_U Try.func38 rfl (by decide +kernel) (by simp [Try.f38]) rfl rfl (rs := [.tmp 4, .tmp 5]) rfl ?_
  rw [show Try.f38.ntmps = 21 from rfl]
  have hB := rblocks_sound t ht hs
  have hU := runb_sound d (blocksM t).1 hb hr
  unfold recsM
  rcases hbm : blocksM t with ⟨bs, e⟩
  rw [hbm] at hB hU
  dsimp only at hU ⊢
  refine W_evK [1, 2] (by simp; rfl) ?_
  refine W_rK [2, 6, 7] ?_
  refine runA_pre 1 (by simp; rfl) rfl ?_
  refine runA_call (by simp) (by first | (simp; done) | (simp; rfl)) hB (by simp [resB]; rfl) ?_
  refine runA_fin (by simp [resB]; rfl) ?_
  refine W_seq ?_
  by_cases z : e = 0
  · subst z
    rw [if_pos rfl]
    rcases hum : unbM d bs with ⟨us, f⟩
    rw [hum] at hU
    refine W_evK [2, 6, 7, 14] (by simp; rfl) ?_
    refine W_cond rfl (fun h => by simp at h) (fun h => ?_)
    refine W_skip ?_
    refine W_rK [4, 5] ?_
    refine runA_pre 2 (by simp; rfl) rfl ?_
    refine runA_call (by simp) (by first | (simp; done) | (simp; rfl)) hU (by simp [resB]; rfl) ?_
    refine runA_fin (by simp [resB]; rfl) ?_
    refine W_ret ?_
    repeat (first | refine on_ret ?_ | refine in_ret ?_)
    exact ⟨_, by simp [retQ]; exact ⟨rfl, by simp⟩, .norm fun T => by simp [resB]⟩
  · rw [if_neg z]
    have zn : (e != 0) = true := by simpa using z
    refine W_evK [2, 6, 7, 14] (by simp [zn]; rfl) ?_
    refine W_cond rfl (fun h => ?_) (fun h => by simp at h)
    refine W_evK [4, 5] (by simp; rfl) ?_
    refine W_ret ?_
    repeat (first | refine on_ret ?_ | refine in_ret ?_)
    exact ⟨.tup [.lst .nil 1 [], .v (.int .i64 e)], by simp [retQ], .tup2 (.nil (by decide +kernel)) (.refl _)⟩
theorem rappend_sound (d : Dcb) (t : List (List Rec)) (l : List (List UInt8)) (ht : t.length ≤ 100000) (hs : ∀ l ∈ t, trSm l) (hb : (blocksM t).1.length ≤ 50000) (hr : ∀ b ∈ (blocksM t).1, b.length ≤ 1000000000)
    (hl : l.length ≤ 1000000) (hlr : ∀ r ∈ l, r.length ≤ 1000000000) : Sound Try.prog 21 [dcbA d, .lst .any 1 (arL t), .lst .any 1 (bbL l)] (resT (appendM d t l)) := by
  refine sound_of_U Try.func21 rfl (by decide +kernel) (by simp [Try.f21]) rfl rfl (rs := [.tmp 6, .tmp 7]) rfl ?_
  rw [show Try.f21.ntmps = 33 from rfl]
  have hB := rblocks_sound t ht hs
  have hM := rblock_sound d l hl hlr
  unfold appendM
  rcases hbm : blocksM t with ⟨bs, e⟩
  rw [hbm] at hB hb hr
  dsimp only at hb hr ⊢
  refine W_evK [1, 2, 3] (by simp; rfl) ?_
  refine W_rK [2, 3, 8, 9] ?_
  refine runA_pre 1 (by simp; rfl) rfl ?_
  refine runA_call (by simp) (by first | (simp; done) | (simp; rfl)) hB (by simp [resB]; rfl) ?_
  refine runA_fin (by simp [resB]; rfl) ?_
  refine W_seq ?_
  by_cases z : e = 0
  · subst z
    rw [if_pos rfl]
    refine W_evK [2, 3, 8, 9, 18] (by simp; rfl) ?_
    refine W_cond rfl (fun h => by simp at h) (fun h => ?_)
    refine W_skip ?_
    rcases hlm : blockM d l with ⟨us, f⟩
    rw [hlm] at hM
    refine W_rK [8, 10, 11] ?_
    refine runA_pre 2 (by simp; rfl) rfl ?_
    refine runA_call (by simp) (by first | (simp; done) | (simp; rfl)) hM (by simp [resB]; rfl) ?_
    refine runA_fin (by simp [resB]; rfl) ?_
    refine W_seq ?_
    by_cases y : f = 0
    · subst y
      obtain ⟨h1, h2⟩ := block_small hlm
      rw [if_pos rfl]
      have b1 : (bs.length + us.length) * 24 ≤ 140737488355328 := by omega
      have b2 : 24 * (bs.length + us.length) ≤ 140737488355328 := by omega
      refine W_evK [8, 10, 11, 27] (by simp; rfl) ?_
      refine W_cond rfl (fun h => by simp at h) (fun h => ?_)
      refine W_skip ?_
      have hy := rlayout_sound (bs ++ us) (by simp; omega) fun b hb => by
        rcases List.mem_append.1 hb with h | h
        · exact hr b h
        · have := (h2 b h).2; omega
      refine W_rK [6, 7] ?_
      refine runA_pre 3 (by simp [b1, b2]; rfl) rfl ?_
      refine runA_call (by simp) (by first | (simp [← bbL_append]; done) | (simp [← bbL_append]; rfl)) hy (by simp; rfl) ?_
      refine runA_fin (by simp; rfl) ?_
      refine W_ret ?_
      repeat (first | refine on_ret ?_ | refine in_ret ?_)
      exact ⟨_, by simp [retQ]; exact ⟨rfl, by simp⟩, .norm fun T => by simp [resT]⟩
    · rw [if_neg y]
      have yn : (f != 0) = true := by simpa using y
      refine W_evK [8, 10, 11, 27] (by simp [yn]; rfl) ?_
      refine W_cond rfl (fun h => ?_) (fun h => by simp at h)
      refine W_evK [6, 7] (by simp; rfl) ?_
      refine W_ret ?_
      repeat (first | refine on_ret ?_ | refine in_ret ?_)
      exact ⟨.tup [.lst .nil 1 [], .v (.int .i64 f)], by simp [retQ], .tup2 (.nil (by decide +kernel)) (.refl _)⟩
  · rw [if_neg z]
    have zn : (e != 0) = true := by simpa using z
    refine W_evK [2, 3, 8, 9, 18] (by simp [zn]; rfl) ?_
    refine W_cond rfl (fun h => ?_) (fun h => by simp at h)
    refine W_evK [6, 7] (by simp; rfl) ?_
    refine W_ret ?_
    repeat (first | refine on_ret ?_ | refine in_ret ?_)
    exact ⟨.tup [.lst .nil 1 [], .v (.int .i64 e)], by simp [retQ], .tup2 (.nil (by decide +kernel)) (.refl _)⟩
end Go.AM
