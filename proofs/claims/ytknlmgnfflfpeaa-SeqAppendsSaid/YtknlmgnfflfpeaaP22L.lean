/- The law's helpers: Same, Big, Copy, the examples. -/
import Derived.Test.YtknlmgnfflfpeaaP22U
namespace Go.AM
open Go.RowKit Go.Proofs
set_option linter.unusedSimpArgs false
set_option linter.unusedVariables false
set_option maxHeartbeats 1000000

set_option maxHeartbeats 1000000

theorem baLoop (l : List UInt8) : ∀ (k i : Nat) (r : List UInt8), l.length - i = k → ByteArray.toList.loop ⟨l.toArray⟩ i r = r.reverse ++ l.drop i := by
  intro k
  induction k with
  | zero =>
    intro i r h
    unfold ByteArray.toList.loop
    have : ¬ i < (⟨l.toArray⟩ : ByteArray).size := by show ¬ i < l.length; omega
    rw [if_neg this, List.drop_eq_nil_of_le (by omega), List.append_nil]
  | succ k ih =>
    intro i r h
    unfold ByteArray.toList.loop
    have hi : i < l.length := by omega
    have : i < (⟨l.toArray⟩ : ByteArray).size := hi
    rw [if_pos this, ih (i + 1) _ (by omega), List.drop_eq_getElem_cons hi]
    have : (⟨l.toArray⟩ : ByteArray).get! i = l[i] := by
      show l.toArray[i]! = l[i]
      simp [hi]
    rw [this]
    simp
@[simp] theorem ba_toList (l : List UInt8) : (⟨l.toArray⟩ : ByteArray).toList = l := by
  unfold ByteArray.toList
  rw [baLoop l l.length 0 [] (by omega)]
  simp
@[simp] theorem bytesA_byL (l : List UInt8) : bytesA (byL l) = some l := by
  induction l with
  | nil => rfl
  | cons b l ih => rw [byL_cons]; simp [bytesA, ih]
theorem ne_nat (n m : Nat) : ((n : Int) != (m : Int)) = !decide (n = m) := by
  rw [Bool.eq_iff_iff]; simp; omega
theorem take_succ_eq {α : Type} {a b : List α} {i : Nat} {x : α} (ha : a[i]? = some x) (hb : b[i]? = some x) (h : a.take i = b.take i) : a.take (i + 1) = b.take (i + 1) := by
  rw [List.take_add_one, List.take_add_one, ha, hb, h]

theorem same_sound (a b : List (List UInt8)) (hl : a.length ≤ 100000000) : Sound Try.prog 39 [.lst .any 1 (bbL a), .lst .any 1 (bbL b)] (.v (.bool (decide (a = b)))) := by
  refine sound_of_W Try.func39 rfl (by decide +kernel) (by simp [Try.f39]) rfl rfl (rs := [.tmp 4]) rfl ?_
  rw [show Try.f39.ntmps = 28 from rfl]
  refine W_evK [0, 1] (by simp; rfl) ?_
  refine W_seq ?_
  by_cases c : a.length = b.length
  rotate_left
  · have hne : ¬ a = b := fun e => c (by rw [e])
    refine W_evK [0, 1, 10] (by simp [ne_nat, c]; rfl) ?_
    refine W_cond rfl (fun h => ?_) (fun h => by simp at h)
    refine W_evK [4] (by simp; rfl) ?_
    refine W_ret ?_
    repeat (first | refine on_ret ?_ | refine in_ret ?_)
    simp [retQ, hne]
  refine W_evK [0, 1, 10] (by simp [c]; rfl) ?_
  refine W_cond rfl (fun h => by simp at h) (fun h => ?_)
  refine W_skip ?_
  refine W_seq ?_
  refine W_evK [0, 1, 5] (by simp; rfl) ?_
  refine W_block ?_
  refine W_loop (fun k s => ∃ i : Nat, k = a.length - i ∧ i ≤ a.length ∧ a.take i = b.take i ∧ s = ⟨28, [(0, .lst .any 1 (bbL a)), (1, .lst .any 1 (bbL b)), (5, .v (.int .i64 i))], []⟩) (k := a.length) ⟨0, by simp, by omega, by simp, by simp⟩ ?_
  rintro k s ⟨i, rfl, hi, hab, rfl⟩
  refine W_seq ?_
  refine W_evK [0, 1, 5, 14] (by simp; rfl) ?_
  refine W_cond rfl (fun h => ?_) (fun h => ?_)
  · refine W_skip ?_
    refine W_seq ?_
    refine W_block ?_
    have hi2 : i < a.length := by simp at h; omega
    have hj2 : i < b.length := by omega
    have hi2' : (i : Int) < a.length := by omega
    have hj2' : (i : Int) < b.length := by omega
    obtain ⟨r, hr⟩ : ∃ r, a[i]? = some r := ⟨_, List.getElem?_eq_getElem hi2⟩
    obtain ⟨q, hq⟩ : ∃ q, b[i]? = some q := ⟨_, List.getElem?_eq_getElem hj2⟩
    have hr2 : a[i]'hi2 = r := by rw [List.getElem?_eq_getElem hi2] at hr; exact Option.some.inj hr
    have hq2 : b[i]'hj2 = q := by rw [List.getElem?_eq_getElem hj2] at hq; exact Option.some.inj hq
    refine W_rdK [0, 1, 5, 27] mx (by decide +kernel) ?_
    refine runD_pre 5 (by simp [hi2, hi2', hr2]; rfl) rfl ?_
    by_cases e : r = q
    · subst e
      have wi := w64 (n := (i : Int) + 1) (by omega) (by omega)
      refine runD_fin (by simp [hj2, hj2', hq2, strA]; rfl) ?_
      refine W_cond rfl (fun h => by simp at h) (fun h => ?_)
      refine W_skip ?_
      refine W_evE [0, 1, 5] (by simp [wi]; rfl) ?_
      exact ⟨_, by omega, i + 1, rfl, by omega, take_succ_eq hr hq hab, by simp⟩
    · have hne : ¬ a = b := fun he => e (by rw [he, hq] at hr; exact (Option.some.inj hr).symm)
      have e2 : (r == q) = false := by simpa using e
      refine runD_fin (by simp [hj2, hj2', hq2, e2, strA]; rfl) ?_
      refine W_cond rfl (fun h => ?_) (fun h => by simp at h)
      refine W_evK [4] (by simp; rfl) ?_
      refine W_ret ?_
      repeat (first | refine on_ret ?_ | refine in_ret ?_)
      simp [retQ, hne]
  refine W_exit ?_
  have hie : i = a.length := by simp at h; omega
  have hEq : a = b := by
    rw [hie, List.take_length] at hab
    rw [hab, c, List.take_length]
  refine W_evK [4] (by simp; rfl) ?_
  refine W_ret ?_
  repeat (first | refine on_ret ?_ | refine in_ret ?_)
  simp [retQ, hEq]

end Go.AM
