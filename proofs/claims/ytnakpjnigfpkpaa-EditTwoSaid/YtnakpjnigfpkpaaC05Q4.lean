/- Numbers, in plain words: two numbers edited in one pattern. -/
import Derived.Test.YtnakpjnigfpkpaaC05Q3
namespace Go.AM
set_option linter.unusedSimpArgs false
set_option linter.unusedVariables false

theorem step_sep {src : List UInt8} {p0 c : UInt8} {i at_ : Nat} {on sm : Bool} {T R : List UInt8} {x : UInt8} {mark : Int} (hc : c.toNat = 34) (hT : T.length = i) :
    stepM src p0 i c ⟨at_, on, sm, T ++ x :: R, mark⟩ = (0, ⟨at_, false, false, T ++ p0 :: R, mark⟩) := by
  unfold stepM sepM
  dsimp only
  rw [if_neg (by omega), if_neg (by omega), if_pos hc, set_mid hT]

theorem packM_len2 (ds : List UInt8) (neg : Bool) : 2 * (packM ds neg).length = (digM ds).length + 1 := by
  have h1 := digM_len ds
  have h2 := digM_odd ds
  have h := packP_len (((digM ds).length + 1) / 2) (digM ds ++ [sgnM neg]) (by simp; omega)
  rw [List.take_of_length_le (by simp; omega)] at h
  unfold packM
  omega

theorem edM_two {da ta db tb : List UInt8} {na nb : Bool} {fill : UInt8} (hf : plainM fill = true) (hlen : (patM fill (-1) da ta ++ patM 34 (-1) db tb).length ≤ 256) :
    edM (patM fill (-1) da ta ++ patM 34 (-1) db tb) (packM da na ++ packM db nb) =
      (textM fill (fromM (zerM (digM da)) (-1)) (onF (-1) da na) da ta ++ textM fill (fromM (zerM (digM db)) (-1)) (onF (-1) db nb) db tb,
       (if zerM (digM db) < (digM db).length then (if onF (-1) db nb then 1 else 2) else 0),
       markM (zerM (digM db)) (-1) ((textM fill (fromM (zerM (digM da)) (-1)) (onF (-1) da na) da ta).length + 1) (markM (zerM (digM da)) (-1) 1 (-1) (digM da).length) (digM db).length, 0) := by
  have hp2 := packM_len2 da na
  obtain ⟨LA, hLA⟩ : ∃ n, n = (digM da).length + (tailM ta).length := ⟨_, rfl⟩
  obtain ⟨LB, hLB⟩ : ∃ n, n = (digM db).length + (tailM tb).length := ⟨_, rfl⟩
  have hla : (patM fill (-1) da ta).length = LA + 1 := by simp [patM, hLA]
  have hlb : (patM 34 (-1) db tb).length = LB + 1 := by simp [patM, hLB]
  have htl : (textM fill (fromM (zerM (digM da)) (-1)) (onF (-1) da na) da ta).length = LA + 1 := by simp [textM, hLA]
  rw [List.length_append, hla, hlb] at hlen
  unfold edM
  rw [if_neg (by rw [List.length_append, hla, hlb]; omega)]
  have hp0 : (patM fill (-1) da ta ++ patM 34 (-1) db tb).headD 0 = fill := rfl
  have hsrc1 : ∀ j b, (packM da na)[j]? = some b → (packM da na ++ packM db nb)[0 + j]? = some b := fun j b h => by
    rw [Nat.zero_add, List.getElem?_append_left (List.getElem?_eq_some_iff.1 h).1]; exact h
  have hsrc2 : ∀ j b, (packM db nb)[j]? = some b → (packM da na ++ packM db nb)[(packM da na).length + j]? = some b := fun j b h => by
    rw [List.getElem?_append_right (Nat.le_add_right _ _), Nat.add_sub_cancel_left]; exact h
  have hs := step_plain (src := packM da na ++ packM db nb) (p0 := fill) (c := fill) (i := 0) (at_ := 0) (on := false) (sm := false) (T := []) (R := List.replicate LA 0 ++ List.replicate (LB + 1) 0) (x := 0) (mark := -1) hf rfl
  have hr1 := num_run (src := packM da na ++ packM db nb) (p := 0) (ds := da) (neg := na) hsrc1 fill (-1) ta (patM 34 (-1) db tb) [fill] (List.replicate LA 0) (List.replicate (LB + 1) 0) 1 (-1) rfl (by simp [hLA])
  obtain ⟨A, hA⟩ : ∃ A, A = textM fill (fromM (zerM (digM da)) (-1)) (onF (-1) da na) da ta := ⟨_, rfl⟩
  have hA' : [fill] ++ (textP (digM da) (fromM (zerM (digM da)) (-1)) fill (digM da).length ++ behP (onF (-1) da na) fill (tailM ta)) = A := by rw [hA]; simp [textM]
  rw [hA', ← hLA] at hr1
  rw [← hA] at htl ⊢
  obtain ⟨m1, hm1⟩ : ∃ m, m = markM (zerM (digM da)) (-1) 1 (-1) (digM da).length := ⟨_, rfl⟩
  rw [← hm1] at hr1 ⊢
  have hsep := step_sep (src := packM da na ++ packM db nb) (p0 := fill) (c := 34) (i := 1 + LA) (at_ := 2 * 0 + (digM da).length + 1) (on := onF (-1) da na) (sm := decide (zerM (digM da) < (digM da).length)) (T := A) (R := List.replicate LB 0) (x := 0) (mark := m1) rfl (by omega)
  have hr2 := num_run (src := packM da na ++ packM db nb) (p := (packM da na).length) (ds := db) (neg := nb) hsrc2 fill (-1) tb [] (A ++ [fill]) (List.replicate LB 0) [] (LA + 1 + 1) m1 (by simp [htl]) (by simp [hLB])
  have hrun : runM (packM da na ++ packM db nb) fill (patM fill (-1) da ta ++ patM 34 (-1) db tb) 0 (ed0 (patM fill (-1) da ta ++ patM 34 (-1) db tb).length) =
      (0, ⟨2 * (packM da na).length + (digM db).length + 1, onF (-1) db nb, decide (zerM (digM db) < (digM db).length), A ++ textM fill (fromM (zerM (digM db)) (-1)) (onF (-1) db nb) db tb, markM (zerM (digM db)) (-1) (LA + 1 + 1) m1 (digM db).length⟩) := by
    have he : ed0 (patM fill (-1) da ta ++ patM 34 (-1) db tb).length = ⟨0, false, false, [] ++ 0 :: (List.replicate LA 0 ++ List.replicate (LB + 1) 0), -1⟩ := by
      rw [List.length_append, hla, hlb, List.replicate_append_replicate]
      simp only [ed0, List.nil_append, ← List.replicate_succ]
      congr 2
      omega
    rw [he]
    rw [show patM fill (-1) da ta = fill :: (selP (-1) (digM da).length ++ tailM ta) from rfl]
    simp only [List.cons_append, runM]
    rw [hs]
    simp only [ne_eq, not_true, if_false, List.nil_append, Bool.false_eq_true] at hr1 ⊢
    rw [show (0 : Nat) + 1 = 1 from rfl]
    rw [show (⟨0, false, false, fill :: (List.replicate LA 0 ++ List.replicate (LB + 1) 0), -1⟩ : Ed) = ⟨2 * 0, false, false, [fill] ++ (List.replicate LA 0 ++ List.replicate (LB + 1) 0), -1⟩ from rfl]
    rw [hr1]
    rw [show patM 34 (-1) db tb = 34 :: (selP (-1) (digM db).length ++ tailM tb) from rfl, List.replicate_succ]
    simp only [runM]
    rw [hsep]
    simp only [ne_eq, not_true, if_false]
    simp only [List.append_nil] at hr2
    rw [show 1 + LA + 1 = LA + 1 + 1 by omega, show 2 * 0 + (digM da).length + 1 = 2 * (packM da na).length by omega,
      show A ++ fill :: List.replicate LB 0 = A ++ [fill] ++ List.replicate LB 0 by simp, hr2]
    simp [runM, textM]
  rw [hp0, hrun]
  simp only [ne_eq, not_true, if_false, codeM, decide_eq_true_eq, htl]
end Go.AM
