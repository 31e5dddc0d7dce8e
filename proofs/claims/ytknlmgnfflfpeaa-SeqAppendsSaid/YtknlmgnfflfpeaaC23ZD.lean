/- What follows the end-of-file record does not matter: the plain law of SeqAfter. -/
import Derived.Test.YtknlmgnfflfpeaaC23S
namespace Go.AM
open Go.RowKit Go.Proofs
set_option linter.unusedSimpArgs false
set_option linter.unusedVariables false
set_option maxHeartbeats 1000000

theorem trk_more : ∀ (t : List Rec) (n : Nat) (o : List (List UInt8)) (s : List Rec), (trk n t o).1 ≠ 0 → trk n (t ++ s) o = trk n t o
  | [], n, o, s, h => by simp [trk] at h
  | r :: t, n, o, s, h => by
    rw [List.cons_append]
    unfold trk at h ⊢
    split
    · rename_i h0
      rw [if_pos h0] at h
      rw [trk_more t _ _ s h]
    · rfl
theorem blk_after (g : List (List UInt8)) (hg : ∀ b ∈ g, b ≠ []) (s : List Rec) (tl : List (List Rec)) : ∀ (gs : List (List (List UInt8))) (o : List (List UInt8)), (∀ x ∈ gs, ∀ b ∈ x, b ≠ []) →
    blkGo (gs.map (mkT 0) ++ (mkT 0 (g ++ [[]]) ++ s) :: tl) o = (o ++ gs.flatten ++ g, 0)
  | [], o, _ => by
    have h1 : trk 0 (mkT 0 (g ++ [[]]) ++ s) o = (1, o ++ g) := by rw [trk_more _ _ _ _ (by rw [trk_end g 0 o hg]; simp), trk_end g 0 o hg]
    simp [blkGo, h1]
  | x :: gs, o, h => by
    rw [List.map_cons, List.cons_append, blkGo, trk_full x 0 o (h x List.mem_cons_self), if_pos rfl, blk_after g hg s tl gs _ fun y hy => h y (List.mem_cons_of_mem _ hy)]
    simp

theorem blocks_after {bs : List (List UInt8)} (hb : ∀ b ∈ bs, b ≠ [] ∧ b.length ≤ 1024) (s : List Rec) (tl : List (List Rec)) :
    ∃ (T0 : List (List Rec)) (t : List Rec), layM bs = T0 ++ [t] ∧ blocksM (T0 ++ [t ++ s] ++ tl) = (bs, 0) := by
  obtain ⟨gs, g, h1, h2, h3⟩ := lay_form hb
  refine ⟨gs.map (mkT 0), mkT 0 (g ++ [[]]), by rw [h1]; simp, ?_⟩
  have := blk_after g (fun b h => (hb b (by rw [← h2]; simp [h])).1) s tl gs [] fun x hx b h => (hb b (by rw [← h2]; exact List.mem_append_left _ (List.mem_flatten.2 ⟨x, hx, h⟩))).1
  unfold blocksM
  rw [List.append_assoc, List.singleton_append, this]
  simp [h2]
end Go.AM
