/- The law's Few. -/
import Derived.Test.YtknlmgnfflfpeaaC23L
namespace Go.AM
open Go.RowKit Go.Proofs
set_option linter.unusedSimpArgs false
set_option linter.unusedVariables false
set_option maxHeartbeats 1000000

theorem few_sound (l : List (List UInt8)) (hl : l.length ≤ 9223372036854775807) : Sound Try.prog 11 [.lst .any 1 (bbL l)] (.lst (.tip 47 1) 1 (bbL (fewM l))) := by
  refine sound_of_U Try.func11 rfl (by decide +kernel) (by simp [Try.f11]) rfl rfl (rs := [.tmp 2]) rfl ?_
  rw [show Try.f11.ntmps = 30 from rfl]
  refine W_evK [0] (by simp; rfl) ?_
  refine W_evK [0, 3] (by simp; rfl) ?_
  refine W_seq ?_
  refine W_evK [0, 3, 4] (by simp; rfl) ?_
  refine W_block ?_
  refine W_loop (fun k s => ∃ (i : Nat) (x : AV), k = 150 - i ∧ i ≤ l.length ∧ i ≤ 150 ∧ ((i = 0 ∧ x = .lst .nil 1 []) ∨ (0 < i ∧ x = .lst (.tip 47 57) 1 (bbL ((l.take i).map cutB1)))) ∧
    s = ⟨30, [(0, .lst .any 1 (bbL l)), (3, x), (4, .v (.int .i64 i))], []⟩) (k := 150) ⟨0, _, rfl, by omega, by omega, .inl ⟨rfl, rfl⟩, by simp⟩ ?_
  rintro k s ⟨i, x, rfl, hi, hi2, hx, rfl⟩
  refine W_seq ?_
  by_cases c : i < l.length ∧ i < 150
  rotate_left
  · have htk : l.take 150 = l.take i := by
      rcases Nat.lt_or_ge i l.length with h | h
      · have : i = 150 := by omega
        rw [this]
      · rw [List.take_of_length_le (by omega), List.take_of_length_le (by omega)]
    have hfw : fewM l = (l.take i).map cutB1 := by rw [fewM, htk]
    rw [hfw]
    refine W_seqC (fun s => s = ⟨30, [(0, .lst .any 1 (bbL l)), (3, x), (4, .v (.int .i64 i)), (13, .v (.bool false))], []⟩) ?_ ?_
    · by_cases c1 : i < l.length
      · have c2 : ¬ i < 150 := fun h => c ⟨c1, h⟩
        have c1i : (i : Int) < l.length := by omega
        have c2i : ¬ (i : Int) < 150 := by omega
        refine W_evE [0, 3, 4, 13] (by simp [c1, c1i, c2, c2i]; rfl) ?_
        simp [onNormal]
      · refine W_evE [0, 3, 4, 13] (by simp [c1]; rfl) ?_
        simp [onNormal]
    rintro _ rfl
    refine W_cond rfl (fun h => by simp at h) (fun h => ?_)
    refine W_exit ?_
    refine W_evK [2] (by simp; rfl) ?_
    refine W_ret ?_
    repeat (first | refine on_ret ?_ | refine in_ret ?_)
    rcases hx with ⟨h0, rfl⟩ | ⟨h0, rfl⟩
    · subst h0
      exact ⟨.lst .nil 1 [], by simp [retQ], .nil (by decide +kernel)⟩
    · exact ⟨_, by simp [retQ]; exact ⟨rfl, by simp⟩, .norm fun T => by simp⟩
  obtain ⟨c1, c2⟩ := c
  have c1i : (i : Int) < l.length := by omega
  have c2i : (i : Int) < 150 := by omega
  obtain ⟨b, hbi⟩ : ∃ b, l[i]? = some b := ⟨_, List.getElem?_eq_getElem c1⟩
  have hb2 : l[i]'c1 = b := by rw [List.getElem?_eq_getElem c1] at hbi; exact Option.some.inj hbi
  have wi := w64 (n := (i : Int) + 1) (by omega) (by omega)
  have htk : (l.take (i + 1)).map cutB1 = (l.take i).map cutB1 ++ [cutB1 b] := by rw [List.take_add_one, hbi]; simp
  have b1 : (i + 1) * 24 ≤ 140737488355328 := by omega
  have b2 : 24 * (i + 1) ≤ 140737488355328 := by omega
  have hml : ((l.take i).map cutB1).length = i := by simp; omega
  refine W_evK [0, 3, 4, 13] (by simp [c1, c1i, c2, c2i]; rfl) ?_
  refine W_cond rfl (fun h => ?_) (fun h => by simp at h)
  refine W_skip ?_
  refine W_seq ?_
  refine W_block ?_
  refine W_evK [0, 3, 4, 5] (by simp [c1, c1i, hb2]; rfl) ?_
  refine W_seqC (fun s => s = ⟨30, [(0, .lst .any 1 (bbL l)), (3, x), (4, .v (.int .i64 i)), (5, .lst .any 1 (byL (cutB1 b)))], []⟩) ?_ ?_
  · by_cases z : 1100 < b.length
    · have zi : (1100 : Int) < b.length := by omega
      have zl : (1100 : Int) ≤ b.length := by omega
      refine W_evK [0, 3, 4, 5, 22] (by simp [z, zi]; rfl) ?_
      refine W_cond rfl (fun h => ?_) (fun h => by simp at h)
      refine W_evE [0, 3, 4, 5] (by simp [zl, ← byL_take]; rfl) ?_
      simp [onNormal, cutB1]
    · have zi : ¬ (1100 : Int) < b.length := by omega
      have hc : cutB1 b = b := List.take_of_length_le (by omega)
      rw [hc]
      refine W_evK [0, 3, 4, 5, 22] (by simp [z, zi]; rfl) ?_
      refine W_cond rfl (fun h => by simp at h) (fun h => ?_)
      refine W_keepS [0, 3, 4, 5] ?_
      refine W_skip ?_
      simp [onNormal]
  rintro _ rfl
  rcases hx with ⟨h0, rfl⟩ | ⟨h0, rfl⟩
  · subst h0
    refine W_evE [0, 3, 4] (by simp [catK, AV.cellsK, AV.kone, AV.koneL]; rfl) ?_
    refine W_evE [0, 3, 4] (by simp [show IntKind.i64.wrap 1 = 1 from rfl]; rfl) ?_
    exact ⟨_, by omega, 1, _, rfl, by omega, by omega, .inr ⟨by omega, rfl⟩, by rw [htk]; simp [bbL_cons]⟩
  · refine W_evE [0, 3, 4] (by simp [catK, AV.cellsK, AV.kone, AV.koneL, b1, b2, hml, Nat.min_eq_left hi]; rfl) ?_
    refine W_evE [0, 3, 4] (by simp [wi]; rfl) ?_
    exact ⟨_, by omega, i + 1, _, rfl, by omega, by omega, .inr ⟨by omega, rfl⟩, by rw [htk]; simp [bbL_append, bbL_cons]⟩
end Go.AM
