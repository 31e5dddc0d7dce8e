/- Copy. -/
import Derived.Test.YtonckolkghbcbaaC38R
namespace Go.AM
open Go.RowKit Go.Proofs
set_option linter.unusedSimpArgs false
set_option linter.unusedVariables false
set_option maxHeartbeats 1000000

def small (a : List (List Rec)) : Prop := a.length ≤ 1000 ∧ ∀ t ∈ a, t.length ≤ 1000 ∧ ∀ r ∈ t, r.key.length ≤ 100000 ∧ r.data.length ≤ 100000

theorem copy_tip (a : List (List Rec)) (hs : small a) : Sound Try.prog 14 [.lst .any 1 (arL a)] (.lst (.tip 28 1) 1 (arL a)) := by
  refine sound_of_U Try.func14 rfl (by decide +kernel) (by simp [Try.f14]) rfl rfl (rs := [.tmp 2]) rfl ?_
  rw [show Try.f14.ntmps = 49 from rfl]
  obtain ⟨hl, ht⟩ := hs
  refine W_evK [0] (by simp; rfl) ?_
  refine W_evK [0, 3] (by simp; rfl) ?_
  refine W_seq ?_
  refine W_evK [0, 3, 4] (by simp; rfl) ?_
  refine W_block ?_
  refine W_loop (fun k s => ∃ (i : Nat) (x : AV), k = a.length - i ∧ i ≤ a.length ∧ ((i = 0 ∧ x = .lst .nil 1 []) ∨ (0 < i ∧ x = .lst (.tip 28 95) 1 (arL (a.take i)))) ∧
    s = ⟨49, [(0, .lst .any 1 (arL a)), (3, x), (4, .v (.int .i64 i))], []⟩) (k := a.length) ⟨0, _, by simp, by omega, .inl ⟨rfl, rfl⟩, by simp⟩ ?_
  rintro k s ⟨i, x, rfl, hi, hx, rfl⟩
  refine W_seq ?_
  by_cases c : i < a.length
  rotate_left
  · refine W_evK [0, 3, 4, 11] (by simp [c]; rfl) ?_
    refine W_cond rfl (fun h => by simp at h) (fun h => ?_)
    refine W_exit ?_
    have hie : i = a.length := by omega
    subst hie
    rw [List.take_length] at hx
    refine W_evK [2] (by simp; rfl) ?_
    refine W_ret ?_
    repeat (first | refine on_ret ?_ | refine in_ret ?_)
    rcases hx with ⟨h0, rfl⟩ | ⟨h0, rfl⟩
    · have : a = [] := List.eq_nil_of_length_eq_zero h0
      subst this
      exact ⟨.lst .nil 1 [], by simp [retQ], .nil (by decide +kernel)⟩
    · exact ⟨_, by simp [retQ]; exact ⟨rfl, by simp⟩, .norm fun T => by simp⟩
  have ci : (i : Int) < a.length := by omega
  obtain ⟨t, hti⟩ : ∃ t, a[i]? = some t := ⟨_, List.getElem?_eq_getElem c⟩
  have ht2 : a[i]'c = t := by rw [List.getElem?_eq_getElem c] at hti; exact Option.some.inj hti
  obtain ⟨htl, htr⟩ := ht t (List.mem_of_getElem? hti)
  refine W_evK [0, 3, 4, 11] (by simp [c]; rfl) ?_
  refine W_cond rfl (fun h => ?_) (fun h => by simp at h)
  refine W_skip ?_
  refine W_seq ?_
  refine W_block ?_
  refine W_evK [0, 3, 4, 5] (by simp; rfl) ?_
  refine W_seq ?_
  refine W_evK [0, 3, 4, 5, 6] (by simp; rfl) ?_
  refine W_block ?_
  refine W_loop (fun k s => ∃ (j : Nat) (y : AV), k = t.length - j ∧ j ≤ t.length ∧ ((j = 0 ∧ y = .lst .nil 4 []) ∨ (0 < j ∧ y = .lst (.tip 52 87) 4 (trL (t.take j)))) ∧
    s = ⟨49, [(0, .lst .any 1 (arL a)), (3, x), (4, .v (.int .i64 i)), (5, y), (6, .v (.int .i64 j))], []⟩) (k := t.length) ⟨0, _, by simp, by omega, .inl ⟨rfl, rfl⟩, by simp⟩ ?_
  rintro k s ⟨j, y, rfl, hj, hy, rfl⟩
  refine W_seq ?_
  by_cases d : j < t.length
  rotate_left
  · refine W_evK [0, 3, 4, 5, 6, 20] (by simp [c, ci, ht2, d]; rfl) ?_
    refine W_cond rfl (fun h => by simp at h) (fun h => ?_)
    refine W_exit ?_
    have hje : j = t.length := by omega
    subst hje
    rw [List.take_length] at hy
    have wi := w64 (n := (i : Int) + 1) (by omega) (by omega)
    have htk : a.take (i + 1) = a.take i ++ [t] := by rw [List.take_add_one, hti]; rfl
    have b1 : i * 24 + 24 ≤ 140737488355328 := by omega
    have b2 : (i + 1) * 24 ≤ 140737488355328 := by omega
    have b2' : 24 * (i + 1) ≤ 140737488355328 := by omega
    have hat : arL [t] = [.lst .any 4 (trL t)] := rfl
    rcases hx with ⟨h0, rfl⟩ | ⟨h0, rfl⟩ <;> rcases hy with ⟨g0, rfl⟩ | ⟨g0, rfl⟩
    · subst h0
      have ht0 : t = [] := List.eq_nil_of_length_eq_zero g0
      refine W_evE [0, 3, 4] (by simp [catK, AV.cellsK, AV.kone]; rfl) ?_
      refine W_evE [0, 3, 4] (by simp [show IntKind.i64.wrap 1 = 1 from rfl]; rfl) ?_
      exact ⟨_, by omega, 1, _, rfl, by omega, .inr ⟨by omega, rfl⟩, by rw [htk, ht0]; simp [arL_append, show arL [[]] = [.lst .any 4 []] from rfl]⟩
    · subst h0
      refine W_evE [0, 3, 4] (by simp [catK, AV.cellsK, AV.kone]; rfl) ?_
      refine W_evE [0, 3, 4] (by simp [show IntKind.i64.wrap 1 = 1 from rfl]; rfl) ?_
      exact ⟨_, by omega, 1, _, rfl, by omega, .inr ⟨by omega, rfl⟩, by rw [htk]; simp [arL_append, hat]⟩
    · have ht0 : t = [] := List.eq_nil_of_length_eq_zero g0
      refine W_evE [0, 3, 4] (by simp [catK, AV.cellsK, AV.kone, b1, b2, b2', Nat.min_eq_left hi]; rfl) ?_
      refine W_evE [0, 3, 4] (by simp [wi]; rfl) ?_
      exact ⟨_, by omega, i + 1, _, rfl, by omega, .inr ⟨by omega, rfl⟩, by rw [htk, ht0]; simp [arL_append, show arL [[]] = [.lst .any 4 []] from rfl]⟩
    · refine W_evE [0, 3, 4] (by simp [catK, AV.cellsK, AV.kone, b1, b2, b2', Nat.min_eq_left hi]; rfl) ?_
      refine W_evE [0, 3, 4] (by simp [wi]; rfl) ?_
      exact ⟨_, by omega, i + 1, _, rfl, by omega, .inr ⟨by omega, rfl⟩, by rw [htk]; simp [arL_append, hat]⟩
  have di : (j : Int) < t.length := by omega
  obtain ⟨r, hr⟩ : ∃ r, t[j]? = some r := ⟨_, List.getElem?_eq_getElem d⟩
  have hr2 : t[j]'d = r := by rw [List.getElem?_eq_getElem d] at hr; exact Option.some.inj hr
  obtain ⟨hrk, hrd⟩ := htr r (List.mem_of_getElem? hr)
  have wj := w64 (n := (j : Int) + 1) (by omega) (by omega)
  have htk : t.take (j + 1) = t.take j ++ [r] := by rw [List.take_add_one, hr]; rfl
  refine W_evK [0, 3, 4, 5, 6, 20] (by simp [c, ci, ht2, d]; rfl) ?_
  refine W_cond rfl (fun h => ?_) (fun h => by simp at h)
  refine W_skip ?_
  refine W_seq ?_
  refine W_block ?_
  refine W_evK [0, 3, 4, 5, 6, 7] (by simp [c, ci, ht2, d, di, hr2, setSeg]; rfl) ?_
  have k1 : r.key.length ≤ 140737488355328 := by omega
  have k2 : r.data.length ≤ 140737488355328 := by omega
  refine W_evK [0, 3, 4, 5, 6, 7] (by simp [k1, setSeg]; rfl) ?_
  refine W_evK [0, 3, 4, 5, 6, 7] (by simp [k2, setSeg]; rfl) ?_
  have b1 : (j + 1) * 64 ≤ 140737488355328 := by omega
  have b1' : 64 * (j + 1) ≤ 140737488355328 := by omega
  have hkx : ∀ T, T ≠ 95 → AV.kill T x = x := by
    intro T hT
    rcases hx with ⟨_, rfl⟩ | ⟨_, rfl⟩
    · simp [AV.kill]
    · simp [AV.kill]
      intro h; omega
  have z1 := hkx 122 (by omega)
  have z2 := hkx 142 (by omega)
  have z3 := hkx 87 (by omega)
  rcases hy with ⟨h0, rfl⟩ | ⟨h0, rfl⟩
  · subst h0
    refine W_evE [0, 3, 4, 5, 6] (by simp [catK, AV.cellsK, AV.kone, AV.koneL]; rfl) ?_
    refine W_cutH 0 (Nat.le_refl _) (Nat.zero_le _) (by rcases hx with ⟨_, rfl⟩ | ⟨_, rfl⟩ <;> simp [frUnder, AV.under, AV.underL]) rfl ?_
    refine W_evE [0, 3, 4, 5, 6] (by simp [show IntKind.i64.wrap 1 = 1 from rfl]; rfl) ?_
    exact ⟨_, by omega, 1, _, rfl, by omega, .inr ⟨by omega, rfl⟩, by rw [htk]; simp [trL_cons, z1, z2, z3]⟩
  · refine W_evE [0, 3, 4, 5, 6] (by simp [catK, AV.cellsK, AV.kone, AV.koneL, b1, b1', Nat.min_eq_left hj]; rfl) ?_
    refine W_cutH 0 (Nat.le_refl _) (Nat.zero_le _) (by rcases hx with ⟨_, rfl⟩ | ⟨_, rfl⟩ <;> simp [frUnder, AV.under, AV.underL]) rfl ?_
    refine W_evE [0, 3, 4, 5, 6] (by simp [wj]; rfl) ?_
    exact ⟨_, by omega, j + 1, _, rfl, by omega, .inr ⟨by omega, rfl⟩, by rw [htk]; simp [trL_cons, trL_append, z1, z2, z3]⟩
theorem copy_sound (a : List (List Rec)) (hs : small a) : Sound Try.prog 14 [.lst .any 1 (arL a)] (.lst .any 1 (arL a)) := by
  have := (copy_tip a hs).weakR
  simpa [AV.plain] using this
end Go.AM
