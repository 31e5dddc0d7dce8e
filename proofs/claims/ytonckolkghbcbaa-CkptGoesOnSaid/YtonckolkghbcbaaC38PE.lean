/- The plain law of several saves: what an area is like after each. -/
import Derived.Test.YtonckolkghbcbaaC38PD
import Derived.Test.YtonckolkghbcbaaC38Q
namespace Go.AM
open Go.RowKit Go.Proofs
set_option linter.unusedSimpArgs false
set_option linter.unusedVariables false
set_option maxHeartbeats 1000000

theorem wrM_mem (most : Nat) (bad : Bool) : ∀ (l a : List (List Rec)) (p n : Nat) (t : List Rec), t ∈ wrM a p n most bad l → t ∈ a ∨ ∃ u ∈ l, ∃ m k, k ≤ u.length ∧ t = wtr u m most bad k
  | [], a, p, n, t, h => .inl h
  | u :: l, a, p, n, t, h => by
    rw [wrM] at h
    rcases wrM_mem most bad l _ _ _ _ h with h | ⟨v, hv, r⟩
    · rcases List.mem_or_eq_of_mem_set h with h | h
      · exact .inl h
      · unfold wr1 at h
        split at h
        · rcases Nat.lt_or_ge p a.length with g | g
          · left
            rw [h, List.getD_eq_getElem?_getD, List.getElem?_eq_getElem g, Option.getD_some]
            exact List.getElem_mem g
          · rw [List.set_eq_of_length_le g] at *
            rename_i hm
            exact .inl (by assumption)
        · exact .inr ⟨u, by simp, n, _, by unfold cnt; omega, h⟩
    · exact .inr ⟨v, by simp [hv], r⟩
theorem wtr_mem {most : Nat} {bad : Bool} {r : Rec} : ∀ (t : List Rec) (n k : Nat), r ∈ wtr t n most bad k → ∃ r0 ∈ t, r.key = r0.key ∧ r.data = r0.data
  | _, n, 0, h => by simp [wtr] at h
  | [], n, k + 1, h => by simp [wtr] at h
  | x :: t, n, k + 1, h => by
    rw [wtr] at h
    rcases List.mem_cons.1 h with h | h
    · exact ⟨x, by simp, by rw [h]; rfl, by rw [h]; rfl⟩
    · obtain ⟨r0, h1, h2⟩ := wtr_mem t (n + 1) k h
      exact ⟨r0, by simp [h1], h2⟩
def okA (a : List (List Rec)) : Prop := ∀ t ∈ a, t.length ≤ 2 ∧ ∀ r ∈ t, r.key = [] ∧ r.data.length ≤ 2048
theorem data_le_sum {t : List Rec} {r : Rec} (h : r ∈ t) : r.data.length ≤ sumT t := by
  unfold sumT
  induction t with
  | nil => simp at h
  | cons x t ih =>
    simp only [List.map_cons, List.sum_cons]
    rcases List.mem_cons.1 h with rfl | h
    · omega
    · have := ih h; omega
theorem okA_small {a : List (List Rec)} (h : okA a) (hl : a.length ≤ 1000) : small a := ⟨hl, fun t ht => ⟨by have := (h t ht).1; omega, fun r hr => by
  obtain ⟨h1, h2⟩ := (h t ht).2 r hr
  rw [h1]
  exact ⟨by simp, by omega⟩⟩⟩
theorem after_ok {area tks : List (List Rec)} {state : List UInt8} {p most : Nat} {bad : Bool} (hsv : saveM area state = (p, tks, 0)) (h : okA area) : okA (wrM area p 0 most bad tks) := by
  intro t ht
  rcases wrM_mem most bad _ _ _ _ _ ht with h1 | ⟨u, hu, m, k, hk, rfl⟩
  · exact h t h1
  · have hf : fits u := by
      unfold saveM at hsv
      split at hsv
      · cases hsv
      · split at hsv
        · cases hsv
        · split at hsv
          · cases hsv
          · cases hsv
            obtain ⟨i, hi⟩ := List.mem_iff_getElem?.1 hu
            exact fits_tks _ _ _ i u hi
    refine ⟨by rw [wtr_length _ _ _ _ _ hk]; have := hf.1; omega, fun r hr => ?_⟩
    obtain ⟨r0, h1, h2, h3⟩ := wtr_mem _ _ _ hr
    obtain ⟨j, hj⟩ := List.mem_iff_getElem?.1 h1
    refine ⟨by rw [h2]; exact (hf.2.2 j r0 hj).1, ?_⟩
    rw [h3]
    have := data_le_sum h1
    have := hf.2.1
    omega
theorem nx_foldl_bd {B : Nat} : ∀ (l : List (List Rec)) (n : Nat), n ≤ B → (∀ t ∈ l, ∀ r rest, t = r :: rest → r.bad = false → 4 ≤ r.data.length → val4 r.data ≤ B) → l.foldl nxS n ≤ B
  | [], n, h, _ => h
  | t :: l, n, h, hl => by
    refine nx_foldl_bd l _ ?_ fun u hu => hl u (by simp [hu])
    unfold nxS
    split
    · exact h
    · rename_i r rest
      split
      · rename_i hc
        have := hl _ (by simp) r rest rfl hc.1 hc.2
        omega
      · exact h
theorem nxM_le (area : List (List Rec)) : nxM area ≤ area.foldl nxS 0 + 2 := by
  unfold nxM
  simp only
  split <;> omega
theorem nxM_ge (area : List (List Rec)) : area.foldl nxS 0 < nxM area := by
  unfold nxM
  simp only
  split <;> omega
theorem after_fold {area tks : List (List Rec)} {state : List UInt8} {p most : Nat} {bad : Bool} (hsv : saveM area state = (p, tks, 0)) : (wrM area p 0 most bad tks).foldl nxS 0 ≤ nxM area := by
  have hge := nxM_ge area
  refine nx_foldl_bd _ _ (Nat.zero_le _) fun t ht r rest htr hb hd => ?_
  rcases wrM_mem most bad _ _ _ _ _ ht with h1 | ⟨u, hu, m, k, hk, rfl⟩
  · obtain ⟨j, hj⟩ := List.mem_iff_getElem?.1 h1
    rw [htr] at hj
    have := nx_foldl_ge area 0 j r rest hj hb hd
    omega
  · unfold saveM at hsv
    split at hsv
    · cases hsv
    · split at hsv
      · cases hsv
      · split at hsv
        · cases hsv
        · rename_i hnx
          cases hsv
          obtain ⟨i, hi⟩ := List.mem_iff_getElem?.1 hu
          have him : i < area.length / 2 := by
            have := (List.getElem?_eq_some_iff.1 hi).1
            rwa [tksM_length] at this
          rw [tksM_get him] at hi
          have hpl : ∃ l, u = pcM (nxM area) state i :: l := by
            have := Option.some.inj hi
            rw [← this]
            split
            · exact ⟨_, rfl⟩
            · exact ⟨_, rfl⟩
          obtain ⟨l, rfl⟩ := hpl
          cases k with
          | zero => simp [wtr] at htr
          | succ k =>
            rw [wtr] at htr
            have h2 := (List.cons.inj htr).1
            have h3 : r.data = (pcM (nxM area) state i).data := by rw [← h2]; rfl
            rw [h3, pcM_data, val4_be4 (by omega)]
            exact Nat.le_refl _
theorem emM_ok (n : Nat) : okA (emM n) := fun t ht => by
  have := (List.mem_replicate.1 ht).2
  subst this
  simp
theorem emM_fold (n : Nat) : (emM n).foldl nxS 0 = 0 := by
  have := nx_foldl_bd (B := 0) (emM n) 0 (Nat.le_refl _) fun t ht r rest htr => by
    have := (List.mem_replicate.1 ht).2
    rw [this] at htr; cases htr
  omega
theorem emM_new {h : Nat} (hh : h < 4) : newM (emM (2 + 2 * h)) = ([], 0, 380) := by
  match h, hh with
  | 0, _ => decide +kernel
  | 1, _ => decide +kernel
  | 2, _ => decide +kernel
  | 3, _ => decide +kernel
theorem save_ok {area : List (List Rec)} {state : List UInt8} (hc : capN area.length ≠ 0) (hl : ¬ capN area.length < state.length) (hn : nxM area ≤ 2147483647) : ∃ p tks, saveM area state = (p, tks, 0) := by
  unfold saveM
  rw [if_neg hc, if_neg hl, if_neg (by omega)]
  exact ⟨_, _, rfl⟩
end Go.AM
