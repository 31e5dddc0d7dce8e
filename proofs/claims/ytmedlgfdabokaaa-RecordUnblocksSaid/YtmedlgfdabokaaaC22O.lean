/- Copy; the plain law of joined blocks. -/
import Derived.Test.YtmedlgfdabokaaaC22M
namespace Go.AM
open Go.RowKit Go.Proofs
set_option linter.unusedSimpArgs false
set_option linter.unusedVariables false
set_option maxHeartbeats 1000000

theorem copy_tip (a : List (List UInt8)) (ha : a.length ≤ 1000000) (hr : ∀ r ∈ a, r.length ≤ 1000000) : Sound Try.prog 11 [.lst .any 1 (bbL a)] (.lst (.tip 35 1) 1 (bbL a)) := by
  refine sound_of_U Try.func11 rfl (by decide +kernel) (by simp [Try.f11]) rfl rfl (rs := [.tmp 2]) rfl ?_
  rw [show Try.f11.ntmps = 21 from rfl]
  refine W_evK [0] (by simp; rfl) ?_
  refine W_evK [0, 3] (by simp; rfl) ?_
  refine W_seq ?_
  refine W_evK [0, 3, 4] (by simp; rfl) ?_
  refine W_block ?_
  refine W_loop (fun k s => ∃ (i : Nat) (x : AV), k = a.length - i ∧ i ≤ a.length ∧ ((i = 0 ∧ x = .lst .nil 1 []) ∨ (0 < i ∧ x = .lst (.tip 35 39) 1 (bbL (a.take i)))) ∧
    s = ⟨21, [(0, .lst .any 1 (bbL a)), (3, x), (4, .v (.int .i64 i))], []⟩) (k := a.length) ⟨0, _, by simp, by omega, .inl ⟨rfl, rfl⟩, by simp⟩ ?_
  rintro k s ⟨i, x, rfl, hi, hx, rfl⟩
  refine W_seq ?_
  by_cases c : i < a.length
  rotate_left
  · refine W_evK [0, 3, 4, 8] (by simp [c]; rfl) ?_
    refine W_cond rfl (fun h => by simp at h) (fun h => ?_)
    refine W_exit ?_
    have hie : i = a.length := by omega
    subst hie
    rw [List.take_length] at hx
    refine W_evK [2] (by simp; rfl) ?_
    refine W_ret ?_
    repeat (first | refine on_ret ?_ | refine in_ret ?_)
    rcases hx with ⟨h0, rfl⟩ | ⟨h0, rfl⟩
    · have : a = [] := List.eq_nil_of_length_eq_zero h0
      subst this
      exact ⟨.lst .nil 1 [], by simp [retQ], .nil (by decide +kernel)⟩
    · exact ⟨_, by simp [retQ]; exact ⟨rfl, by simp⟩, .norm fun T => by simp⟩
  have ci : (i : Int) < a.length := by omega
  obtain ⟨t, hti⟩ : ∃ t, a[i]? = some t := ⟨_, List.getElem?_eq_getElem c⟩
  have ht2 : a[i]'c = t := by rw [List.getElem?_eq_getElem c] at hti; exact Option.some.inj hti
  have htl := hr t (List.mem_of_getElem? hti)
  have wi := w64 (n := (i : Int) + 1) (by omega) (by omega)
  have htk : a.take (i + 1) = a.take i ++ [t] := by rw [List.take_add_one, hti]; rfl
  have b0 : t.length ≤ 140737488355328 := by omega
  have b1 : (i + 1) * 24 ≤ 140737488355328 := by omega
  have b2 : 24 * (i + 1) ≤ 140737488355328 := by omega
  refine W_evK [0, 3, 4, 8] (by simp [c]; rfl) ?_
  refine W_cond rfl (fun h => ?_) (fun h => by simp at h)
  refine W_skip ?_
  refine W_seq ?_
  refine W_block ?_
  rcases hx with ⟨h0, rfl⟩ | ⟨h0, rfl⟩
  · subst h0
    refine W_evE [0, 3, 4] (by simp [c, ci, ht2, b0, catK, AV.cellsK, AV.kone, AV.koneL]; rfl) ?_
    refine W_evE [0, 3, 4] (by simp [show IntKind.i64.wrap 1 = 1 from rfl]; rfl) ?_
    exact ⟨_, by omega, 1, _, rfl, by omega, .inr ⟨by omega, rfl⟩, by rw [htk]; simp [bbL_cons]⟩
  · refine W_evE [0, 3, 4] (by simp [c, ci, ht2, b0, catK, AV.cellsK, AV.kone, AV.koneL, b1, b2, Nat.min_eq_left hi]; rfl) ?_
    refine W_evE [0, 3, 4] (by simp [wi]; rfl) ?_
    exact ⟨_, by omega, i + 1, _, rfl, by omega, .inr ⟨by omega, rfl⟩, by rw [htk]; simp [bbL_append, bbL_cons]⟩

theorem splitGo_app (d : Dcb) : ∀ (k : Nat) (b : List UInt8) (O : List (List UInt8)), splitGo d k b O = (O ++ (splitGo d k b []).1, (splitGo d k b []).2)
  | 0, b, O => by simp [splitGo]
  | k + 1, b, O => by
    rw [splitGo, splitGo]
    split
    · simp
    · split
      · simp
      · rw [splitGo_app d k _ (O ++ _), splitGo_app d k _ ([] ++ _)]
        simp
theorem splitM_app (d : Dcb) (b : List UInt8) (O : List (List UInt8)) : splitM d b O = (O ++ (splitM d b []).1, (splitM d b []).2) := by
  unfold splitM
  split
  · simp
  · split
    · split
      · exact splitGo_app d _ _ O
      · simp
    · exact splitGo_app d _ _ O
theorem unbStep_app (d : Dcb) (O X : List (List UInt8)) (ok : Bool) : unbStep d O.length (O ++ X, ok) = unbStep d 0 (X, ok) := by
  unfold unbStep
  simp only [List.length_append]
  have e1 : (O.length + X.length == O.length) = (X.length == 0) := by rw [Bool.eq_iff_iff]; simp
  have e2 : decide (O.length + 1 < O.length + X.length) = decide (0 + 1 < X.length) := by rw [Bool.eq_iff_iff]; simp
  rw [e1, e2]
theorem unbGo_off (d : Dcb) : ∀ (l : List (List UInt8)) (O : List (List UInt8)), unbGo d l O = (unbGo d l []).map (O ++ ·)
  | [], O => by simp [unbGo]
  | b :: l, O => by
    rw [unbGo, unbGo, splitM_app d b O, unbStep_app, List.length_nil]
    split
    · rfl
    · rw [unbGo_off d l (O ++ _), unbGo_off d l (splitM d b []).1]
      cases unbGo d l [] with
      | none => rfl
      | some s => simp
theorem unbGo_join (d : Dcb) : ∀ (a b : List (List UInt8)) (O : List (List UInt8)), unbGo d (a ++ b) O = (unbGo d a O).bind (unbGo d b)
  | [], b, O => by simp [unbGo]
  | x :: a, b, O => by
    rw [List.cons_append, unbGo, unbGo]
    split
    · rfl
    · exact unbGo_join d a b _
theorem finU_b {O : List (List UInt8)} (h : 4096 < O.length) : finU (some O) = ([], 2) := if_pos h
theorem finU_s {O : List (List UInt8)} (h : ¬ 4096 < O.length) : finU (some O) = (O, 0) := if_neg h
theorem unbM_ok {d : Dcb} (hc : checkM d = 0) (l : List (List UInt8)) : unbM d l = finU (unbGo d l []) := if_pos hc
theorem unbM_bad {d : Dcb} (hc : ¬ checkM d = 0) (l : List (List UInt8)) : unbM d l = ([], checkM d) := if_neg hc
theorem unbM_join (d : Dcb) (a b : List (List UInt8)) :
    (((unbM d a).2 ≠ 0 ∨ (unbM d b).2 ≠ 0) → (unbM d (a ++ b)).2 ≠ 0 ∧ (unbM d (a ++ b)).1 = []) ∧
    ((unbM d a).2 = 0 → (unbM d b).2 = 0 → (4096 < (unbM d a).1.length + (unbM d b).1.length → unbM d (a ++ b) = ([], 2)) ∧ (¬ 4096 < (unbM d a).1.length + (unbM d b).1.length → unbM d (a ++ b) = ((unbM d a).1 ++ (unbM d b).1, 0))) := by
  by_cases hc : checkM d = 0
  rotate_left
  · rw [unbM_bad hc, unbM_bad hc, unbM_bad hc]
    exact ⟨fun _ => ⟨hc, rfl⟩, fun h => absurd h hc⟩
  rw [unbM_ok hc, unbM_ok hc, unbM_ok hc, unbGo_join]
  cases ha : unbGo d a [] with
  | none => exact ⟨fun _ => ⟨(by decide : (220 : Int) ≠ 0), rfl⟩, fun h => absurd h (by decide : (220 : Int) ≠ 0)⟩
  | some A =>
    rw [Option.bind_some, unbGo_off d b A]
    cases hb : unbGo d b [] with
    | none => exact ⟨fun _ => ⟨(by decide : (220 : Int) ≠ 0), rfl⟩, fun _ h => absurd h (by decide : (220 : Int) ≠ 0)⟩
    | some B =>
      rw [Option.map_some]
      have hl : (A ++ B).length = A.length + B.length := List.length_append
      by_cases h1 : 4096 < A.length
      · rw [finU_b h1, finU_b (O := A ++ B) (by omega)]
        exact ⟨fun _ => ⟨(by decide : (2 : Int) ≠ 0), rfl⟩, fun h => absurd h (by decide : (2 : Int) ≠ 0)⟩
      · by_cases h2 : 4096 < B.length
        · rw [finU_b h2, finU_b (O := A ++ B) (by omega)]
          exact ⟨fun _ => ⟨(by decide : (2 : Int) ≠ 0), rfl⟩, fun _ h => absurd h (by decide : (2 : Int) ≠ 0)⟩
        · rw [finU_s h1, finU_s h2]
          refine ⟨fun h => by rcases h with h | h <;> exact absurd rfl h, fun _ _ => ⟨fun h3 => ?_, fun h3 => ?_⟩⟩
          · exact finU_b (O := A ++ B) (by rw [hl]; exact h3)
          · exact finU_s (O := A ++ B) (by rw [hl]; exact h3)
theorem unbM_err {d : Dcb} {l : List (List UInt8)} (h : (unbM d l).2 ≠ 0) : (unbM d l).1 = [] := by
  by_cases hc : checkM d = 0
  · rw [unbM_ok hc] at h ⊢
    cases hq : unbGo d l [] with
    | none => rfl
    | some A =>
      rw [hq] at h
      by_cases h1 : 4096 < A.length
      · rw [finU_b h1]
      · rw [finU_s h1] at h; exact absurd rfl h
  · rw [unbM_bad hc]
end Go.AM
