/- The law's reads: Blocks and Records and the specification's agree. -/
import Derived.Test.YtknlmgnfflfpeaaC23ZA
namespace Go.AM
open Go.RowKit Go.Proofs
set_option linter.unusedSimpArgs false
set_option linter.unusedVariables false
set_option maxHeartbeats 1000000

theorem reads_sound (d : Dcb) (t : List (List Rec)) (ht : t.length ≤ 100000) (hs : ∀ l ∈ t, trSm l) (hb : (blocksM t).1.length ≤ 100000) (hr : ∀ b ∈ (blocksM t).1, b.length ≤ 1000000000) (hu : (recsM d t).1.length ≤ 100000000) :
    Sound Try.prog 18 [dcbA d, .lst .any 1 (arL t)] (.v (.bool true)) := by
  refine sound_of_W Try.func18 rfl (by decide +kernel) (by simp [Try.f18]) rfl rfl (rs := [.tmp 4]) rfl ?_
  rw [show Try.f18.ntmps = 53 from rfl]
  have h1 := blocks_sound t ht hs
  have h2 := rblocks_sound t ht hs
  have h3 := records_sound d t ht hs hb hr
  have h4 := rrecords_sound d t ht hs hb hr
  rcases hB : blocksM t with ⟨bs, e⟩
  rcases hR : recsM d t with ⟨us, f⟩
  rw [hB] at h1 h2 hb
  rw [hR] at h3 h4 hu
  dsimp only at hb hu
  have h5 := same_sound bs bs (by omega)
  have h6 := same_sound us us hu
  rw [decide_eq_true rfl] at h5 h6
  refine W_evK [1, 2] (by simp; rfl) ?_
  refine W_rK [1, 2, 5, 6] ?_
  refine runA_pre 1 (by simp; rfl) rfl ?_
  refine runA_call (by simp) (by first | (simp; done) | (simp; rfl)) h1 (by simp [resB]; rfl) ?_
  refine runA_fin (by simp [resB]; rfl) ?_
  refine W_rK [1, 2, 5, 6, 7, 8] ?_
  refine runA_pre 1 (by simp; rfl) rfl ?_
  refine runA_call (by simp) (by first | (simp; done) | (simp; rfl)) h2 (by simp [resB]; rfl) ?_
  refine runA_fin (by simp [resB]; rfl) ?_
  refine W_rK [1, 2, 5, 6, 7, 8, 9, 10] ?_
  refine runA_pre 2 (by simp; rfl) rfl ?_
  refine runA_call (by simp) (by first | (simp; done) | (simp; rfl)) h3 (by simp [resB]; rfl) ?_
  refine runA_fin (by simp [resB]; rfl) ?_
  refine W_rK [5, 6, 7, 8, 9, 10, 11, 12] ?_
  refine runA_pre 2 (by simp; rfl) rfl ?_
  refine runA_call (by simp) (by first | (simp; done) | (simp; rfl)) h4 (by simp [resB]; rfl) ?_
  refine runA_fin (by simp [resB]; rfl) ?_
  refine W_rK [4] ?_
  refine runA_pre 2 (by simp; rfl) rfl ?_
  refine runA_call (by simp) (by first | (simp; done) | (simp; rfl)) h5 (by simp; rfl) ?_
  refine runA_pre 8 (by simp; rfl) rfl ?_
  refine runA_call (by simp) (by first | (simp; done) | (simp; rfl)) h6 (by simp; rfl) ?_
  refine runA_fin (by simp; rfl) ?_
  refine W_ret ?_
  repeat (first | refine on_ret ?_ | refine in_ret ?_)
  simp [retQ]
end Go.AM
