/- CkptNewest's walk. -/
import Derived.Test.YtonckolkghbcbaaC38PC
import Derived.Test.YtonckolkghbcbaaC38G
namespace Go.AM
open Go.RowKit Go.Proofs
set_option linter.unusedSimpArgs false
set_option linter.unusedVariables false
set_option maxHeartbeats 1000000

theorem small_of_big {area : List (List Rec)} (h : bigM area = false) : small area := by
  unfold bigM at h
  simp only [Bool.or_eq_false_iff, decide_eq_false_iff_not, List.any_eq_false] at h
  obtain ⟨h1, h2⟩ := h
  refine ⟨by omega, fun t ht => ?_⟩
  have h3 := h1 t (by rw [List.take_of_length_le (by omega)]; exact ht)
  unfold bt at h3
  simp only [Bool.or_eq_true, not_or, decide_eq_true_eq, List.any_eq_true, not_exists, not_and] at h3
  obtain ⟨h4, h5⟩ := h3
  refine ⟨by omega, fun r hr => ?_⟩
  have h6 := h5 r hr
  unfold br at h6
  simp only [Bool.or_eq_true, not_or, decide_eq_true_eq] at h6
  omega
theorem shalL_byL (l : List UInt8) : AV.shalL (byL l) = true := by
  unfold AV.shalL byL
  simp only [List.all_map, List.all_eq_true]
  intro b _
  rfl

theorem ckptNewest_sound (area : List (List Rec)) (hl : ∀ t ∈ area, t.length ≤ 9223372036854775807) : Sound Try.prog 4 [.lst .any 1 (arL area)] (.v (.bool true)) := by
  refine sound_of_W Try.func4 rfl (by decide +kernel) (by simp [Try.f4]) rfl rfl (rs := [.tmp 2]) rfl ?_
  rw [show Try.f4.ntmps = 60 from rfl]
  refine W_evK [0] (by simp; rfl) ?_
  refine W_seq ?_
  have hbg := big_sound area hl
  refine W_rK [0, 12] ?_
  refine runA_pre 1 (by simp; rfl) rfl ?_
  refine runA_call (by simp) (by first | (simp; done) | (simp; rfl)) hbg (by simp; rfl) ?_
  by_cases b1 : bigM area = true
  · refine runA_fin (by simp [b1]; rfl) ?_
    refine W_cond rfl (fun h => ?_) (fun h => by simp at h)
    refine W_evK [2] (by simp; rfl) ?_
    refine W_ret ?_
    repeat (first | refine on_ret ?_ | refine in_ret ?_)
    simp [retQ]
  have b1' : bigM area = false := by simpa using b1
  have hsm := small_of_big b1'
  refine runA_fin (by simp [b1']; rfl) ?_
  refine W_cond rfl (fun h => by simp at h) (fun h => ?_)
  refine W_skip ?_
  refine W_rK [0, 3] ?_
  refine runA_pre 1 (by simp; rfl) rfl ?_
  refine runA_call (by simp) (by first | (simp; done) | (simp; rfl)) (copy_sound area hsm) (by simp; rfl) ?_
  refine runA_fin (by simp; rfl) ?_
  have hnw := newest_sound area (by have := hsm.1; omega)
  have hnr := newest16 area hsm
  rw [new_eq area hsm.1] at hnr
  have hst := same_tracks area area (by have := hsm.1; omega) (fun t ht => by have := (hsm.2 t ht).1; omega)
  obtain ⟨nw, hN⟩ : ∃ nw, newM area = nw := ⟨_, rfl⟩
  rw [hN] at hnw hnr
  obtain ⟨s, seq, e⟩ := nw
  simp only [resN] at hnw hnr
  refine W_rK [0, 3, 4, 5, 6] ?_
  refine runA_pre 1 (by simp; rfl) rfl ?_
  refine runA_obj (f := 15) (args := [.lst .any 1 (arL area)]) (by simp) (by simp) (callW_thawT (vs := [.int .i64 seq, .int .i64 e]) (by simpa using hnw) (by simp) (thwL_shal (shalL_byL s)) (fun h0 => ?_) (fun cap h1 h2 => ?_))
  · have hs0 : s = [] := by cases s with | nil => rfl | cons x l => simp [byL] at h0
    subst hs0
    refine ⟨_, by simp; rfl, ?_⟩
    refine runA_fin (by simp; rfl) ?_
    refine W_rK [0, 3, 4, 5, 6, 7, 8, 9] ?_
    refine runA_pre 1 (by simp; rfl) rfl ?_
    refine runA_call (by simp) (by first | (simp; done) | (simp; rfl)) hnr (by simp; rfl) ?_
    refine runA_fin (by simp; rfl) ?_
    refine W_seq ?_
    refine W_rK [0, 3, 4, 41] ?_
    refine runA_pre 6 (by simp; rfl) rfl ?_
    refine runA_pre 6 (by simp; rfl) rfl ?_
    refine runA_fin (by simp; rfl) ?_
    refine W_cond rfl (fun h => by simp at h) (fun h => ?_)
    refine W_skip ?_
    refine W_seq ?_
    refine W_evK [0, 3, 4, 10] (by simp; rfl) ?_
    refine W_block ?_
    refine W_loop (fun k s => k = 0 ∧ s = ⟨60, [(0, .lst .any 1 (arL area)), (3, .lst .any 1 (arL area)), (4, .lst .nil 1 []), (10, .v (.int .i64 0))], []⟩) (k := 0) ⟨rfl, by simp⟩ ?_
    rintro k s ⟨rfl, rfl⟩
    refine W_seq ?_
    refine W_evK [0, 3, 4, 10, 45] (by simp; rfl) ?_
    refine W_cond rfl (fun h => by simp at h) (fun h => ?_)
    refine W_exit ?_
    refine W_rK [2] ?_
    refine runA_pre 2 (by simp; rfl) rfl ?_
    refine runA_call (by simp) (by first | (simp; done) | (simp; rfl)) hst (by simp; rfl) ?_
    refine runA_pre 1 (by simp; rfl) rfl ?_
    refine runA_call (by simp) (by first | (simp; done) | (simp; rfl)) works_sound (by simp; rfl) ?_
    refine runA_fin (by simp; rfl) ?_
    refine W_ret ?_
    repeat (first | refine on_ret ?_ | refine in_ret ?_)
    simp [retQ]
  · have hcl : (byL s).length = s.length := by simp
    rw [hcl] at h1
    have w1 : AV.weakL (byL s) = byL s := by simp
    rw [hcl, w1, Nat.mul_one]
    refine ⟨_, by simp; rfl, ?_⟩
    refine runA_fin (by simp; rfl) ?_
    refine W_rK [0, 3, 4, 5, 6, 7, 8, 9] ?_
    refine runA_pre 1 (by simp; rfl) rfl ?_
    refine runA_call (by simp) (by first | (simp; done) | (simp; rfl)) hnr (by simp; rfl) ?_
    refine runA_fin (by simp; rfl) ?_
    refine W_seq ?_
    refine W_rK [0, 3, 4, 41] ?_
    refine runA_pre 6 (by simp; rfl) rfl ?_
    refine runA_pre 4 (by simp; rfl) rfl ?_
    refine runA_b (by simp) ⟨_, by simp [evSame, evLent]; rfl, ?_⟩
    refine runA_fin (by simp; rfl) ?_
    refine W_cond rfl (fun h => by simp at h) (fun h => ?_)
    refine W_skip ?_
    refine W_seq ?_
    refine W_evK [0, 3, 4, 10] (by simp; rfl) ?_
    refine W_block ?_
    refine W_loop (fun k σ => ∃ (i : Nat) (cs : List AV), k = s.length - i ∧ i ≤ s.length ∧ s.length ≤ cs.length ∧ (∀ j, j < s.length → ∃ v : Int, cs[j]? = some (.v (.int .u8 v))) ∧
      σ = ⟨60, [(0, .lst .any 1 (arL area)), (3, .lst .any 1 (arL area)), (4, .arr 0 0 s.length cap), (10, .v (.int .i64 i))], [.cells 5 cs]⟩) (k := s.length) ⟨0, _, by simp, by omega, ?_, ?_, by simp; rfl⟩ ?_
    · simp
    · intro j hj
      exact ⟨s[j].toNat, by rw [List.getElem?_append_left (by simpa using hj)]; simp [byL, hj]⟩
    rintro k σ ⟨i, cs, rfl, hi, hcs, hv, rfl⟩
    refine W_seq ?_
    by_cases c : i < s.length
    · have ci : (i : Int) < s.length := by omega
      obtain ⟨v, hvi⟩ := hv i c
      have hc1 : i + 1 ≤ cs.length := by omega
      have hmx : maxLen ≤ 9223372036854775807 := by decide +kernel
      have wi := w64 (n := (i : Int) + 1) (by omega) (by omega)
      refine W_evK [0, 3, 4, 10, 45] (by simp [c]; rfl) ?_
      refine W_cond rfl (fun h => ?_) (fun h => by simp at h)
      refine W_skip ?_
      refine W_seq ?_
      refine W_block ?_
      refine W_evE [0, 3, 4, 10] (by simp [c, ci, hvi, hc1]; rfl) ?_
      refine W_evE [0, 3, 4, 10] (by simp [wi]; rfl) ?_
      refine ⟨_, by omega, i + 1, _, rfl, by omega, ?_, ?_, by simp; rfl⟩
      · rw [setSeg_length _ _ _ (by simpa using hc1)]; exact hcs
      · intro j hj
        rw [setSeg_get _ _ _ (by simpa using hc1)]
        split
        · rename_i h
          simp at h
          have : j = i := by omega
          subst this
          simp
        · exact hv j hj
    refine W_evK [0, 3, 4, 10, 45] (by simp [c]; rfl) ?_
    refine W_cond rfl (fun h => by simp at h) (fun h => ?_)
    refine W_exit ?_
    refine W_rK [2] ?_
    refine runA_pre 2 (by simp; rfl) rfl ?_
    refine runA_call (by simp) (by first | (simp; done) | (simp; rfl)) hst (by simp; rfl) ?_
    refine runA_pre 1 (by simp; rfl) rfl ?_
    refine runA_call (by simp) (by first | (simp; done) | (simp; rfl)) works_sound (by simp; rfl) ?_
    refine runA_fin (by simp; rfl) ?_
    refine W_ret ?_
    repeat (first | refine on_ret ?_ | refine in_ret ?_)
    simp [retQ]
end Go.AM
