/- The law's helpers: Same, Big, Copy, the examples. -/
import Derived.Test.YtmedlgfdabokaaaC22J
namespace Go.AM
open Go.RowKit Go.Proofs
set_option linter.unusedSimpArgs false
set_option linter.unusedVariables false
set_option maxHeartbeats 1000000

set_option maxHeartbeats 1000000

theorem baLoop (l : List UInt8) : ∀ (k i : Nat) (r : List UInt8), l.length - i = k → ByteArray.toList.loop ⟨l.toArray⟩ i r = r.reverse ++ l.drop i := by
  intro k
  induction k with
  | zero =>
    intro i r h
    unfold ByteArray.toList.loop
    have : ¬ i < (⟨l.toArray⟩ : ByteArray).size := by show ¬ i < l.length; omega
    rw [if_neg this, List.drop_eq_nil_of_le (by omega), List.append_nil]
  | succ k ih =>
    intro i r h
    unfold ByteArray.toList.loop
    have hi : i < l.length := by omega
    have : i < (⟨l.toArray⟩ : ByteArray).size := hi
    rw [if_pos this, ih (i + 1) _ (by omega), List.drop_eq_getElem_cons hi]
    have : (⟨l.toArray⟩ : ByteArray).get! i = l[i] := by
      show l.toArray[i]! = l[i]
      simp [hi]
    rw [this]
    simp
@[simp] theorem ba_toList (l : List UInt8) : (⟨l.toArray⟩ : ByteArray).toList = l := by
  unfold ByteArray.toList
  rw [baLoop l l.length 0 [] (by omega)]
  simp
@[simp] theorem bytesA_byL (l : List UInt8) : bytesA (byL l) = some l := by
  induction l with
  | nil => rfl
  | cons b l ih => rw [byL_cons]; simp [bytesA, ih]
theorem ne_nat (n m : Nat) : ((n : Int) != (m : Int)) = !decide (n = m) := by
  rw [Bool.eq_iff_iff]; simp; omega
theorem take_succ_eq {α : Type} {a b : List α} {i : Nat} {x : α} (ha : a[i]? = some x) (hb : b[i]? = some x) (h : a.take i = b.take i) : a.take (i + 1) = b.take (i + 1) := by
  rw [List.take_add_one, List.take_add_one, ha, hb, h]

theorem same_sound (a b : List (List UInt8)) (hl : a.length ≤ 100000000) : Sound Try.prog 14 [.lst .any 1 (bbL a), .lst .any 1 (bbL b)] (.v (.bool (decide (a = b)))) := by
  refine sound_of_W Try.func14 rfl (by decide +kernel) (by simp [Try.f14]) rfl rfl (rs := [.tmp 4]) rfl ?_
  rw [show Try.f14.ntmps = 28 from rfl]
  refine W_evK [0, 1] (by simp; rfl) ?_
  refine W_seq ?_
  by_cases c : a.length = b.length
  rotate_left
  · have hne : ¬ a = b := fun e => c (by rw [e])
    refine W_evK [0, 1, 10] (by simp [ne_nat, c]; rfl) ?_
    refine W_cond rfl (fun h => ?_) (fun h => by simp at h)
    refine W_evK [4] (by simp; rfl) ?_
    refine W_ret ?_
    repeat (first | refine on_ret ?_ | refine in_ret ?_)
    simp [retQ, hne]
  refine W_evK [0, 1, 10] (by simp [c]; rfl) ?_
  refine W_cond rfl (fun h => by simp at h) (fun h => ?_)
  refine W_skip ?_
  refine W_seq ?_
  refine W_evK [0, 1, 5] (by simp; rfl) ?_
  refine W_block ?_
  refine W_loop (fun k s => ∃ i : Nat, k = a.length - i ∧ i ≤ a.length ∧ a.take i = b.take i ∧ s = ⟨28, [(0, .lst .any 1 (bbL a)), (1, .lst .any 1 (bbL b)), (5, .v (.int .i64 i))], []⟩) (k := a.length) ⟨0, by simp, by omega, by simp, by simp⟩ ?_
  rintro k s ⟨i, rfl, hi, hab, rfl⟩
  refine W_seq ?_
  refine W_evK [0, 1, 5, 14] (by simp; rfl) ?_
  refine W_cond rfl (fun h => ?_) (fun h => ?_)
  · refine W_skip ?_
    refine W_seq ?_
    refine W_block ?_
    have hi2 : i < a.length := by simp at h; omega
    have hj2 : i < b.length := by omega
    have hi2' : (i : Int) < a.length := by omega
    have hj2' : (i : Int) < b.length := by omega
    obtain ⟨r, hr⟩ : ∃ r, a[i]? = some r := ⟨_, List.getElem?_eq_getElem hi2⟩
    obtain ⟨q, hq⟩ : ∃ q, b[i]? = some q := ⟨_, List.getElem?_eq_getElem hj2⟩
    have hr2 : a[i]'hi2 = r := by rw [List.getElem?_eq_getElem hi2] at hr; exact Option.some.inj hr
    have hq2 : b[i]'hj2 = q := by rw [List.getElem?_eq_getElem hj2] at hq; exact Option.some.inj hq
    refine W_rdK [0, 1, 5, 27] mx (by decide +kernel) ?_
    refine runD_pre 5 (by simp [hi2, hi2', hr2]; rfl) rfl ?_
    by_cases e : r = q
    · subst e
      have wi := w64 (n := (i : Int) + 1) (by omega) (by omega)
      refine runD_fin (by simp [hj2, hj2', hq2, strA]; rfl) ?_
      refine W_cond rfl (fun h => by simp at h) (fun h => ?_)
      refine W_skip ?_
      refine W_evE [0, 1, 5] (by simp [wi]; rfl) ?_
      exact ⟨_, by omega, i + 1, rfl, by omega, take_succ_eq hr hq hab, by simp⟩
    · have hne : ¬ a = b := fun he => e (by rw [he, hq] at hr; exact (Option.some.inj hr).symm)
      have e2 : (r == q) = false := by simpa using e
      refine runD_fin (by simp [hj2, hj2', hq2, e2, strA]; rfl) ?_
      refine W_cond rfl (fun h => ?_) (fun h => by simp at h)
      refine W_evK [4] (by simp; rfl) ?_
      refine W_ret ?_
      repeat (first | refine on_ret ?_ | refine in_ret ?_)
      simp [retQ, hne]
  refine W_exit ?_
  have hie : i = a.length := by simp at h; omega
  have hEq : a = b := by
    rw [hie, List.take_length] at hab
    rw [hab, c, List.take_length]
  refine W_evK [4] (by simp; rfl) ?_
  refine W_ret ?_
  repeat (first | refine on_ret ?_ | refine in_ret ?_)
  simp [retQ, hEq]

def bigL (l : List (List UInt8)) : Bool := (l.take 60).any (fun b => decide (1100 < b.length)) || decide (60 < l.length)
theorem bigL_of {l : List (List UInt8)} {i : Nat} {t : List UInt8} (h : l[i]? = some t) (hi : i < 60) (hb : 1100 < t.length) : bigL l = true := by
  unfold bigL
  have : (l.take 60).any (fun b => decide (1100 < b.length)) = true := by
    rw [List.any_eq_true]
    refine ⟨t, List.mem_of_getElem? (i := i) ?_, by simpa using hb⟩
    rw [List.getElem?_take, if_pos hi, h]
  simp [this]
theorem bigL_end {l : List (List UInt8)} {i : Nat} (hi : i = l.length ∨ i = 60) (h : ∀ (j : Nat) (t : List UInt8), j < i → l[j]? = some t → ¬ 1100 < t.length) : bigL l = decide (60 < l.length) := by
  unfold bigL
  have : (l.take 60).any (fun b => decide (1100 < b.length)) = false := by
    rw [List.any_eq_false]
    intro t ht
    obtain ⟨j, hj, rfl⟩ := List.mem_iff_getElem.1 ht
    have hj2 : j < 60 ∧ j < l.length := by simp at hj; omega
    have := h j l[j] (by omega) (List.getElem?_eq_getElem hj2.2)
    rw [List.getElem_take]
    simpa using this
  simp [this]
theorem bigL_no {l : List (List UInt8)} (h : bigL l = false) : l.length ≤ 60 ∧ ∀ b ∈ l, b.length ≤ 1100 := by
  unfold bigL at h
  simp only [Bool.or_eq_false_iff, decide_eq_false_iff_not, List.any_eq_false] at h
  obtain ⟨h1, h2⟩ := h
  refine ⟨by omega, fun t ht => ?_⟩
  have h3 := h1 t (by rw [List.take_of_length_le (by omega)]; exact ht)
  simp at h3
  omega
theorem big_sound (l : List (List UInt8)) : Sound Try.prog 10 [.lst .any 1 (bbL l)] (.v (.bool (bigL l))) := by
  refine sound_of_W Try.func10 rfl (by decide +kernel) (by simp [Try.f10]) rfl rfl (rs := [.tmp 2]) rfl ?_
  rw [show Try.f10.ntmps = 23 from rfl]
  refine W_evK [0] (by simp; rfl) ?_
  refine W_seq ?_
  refine W_evK [0, 3] (by simp; rfl) ?_
  refine W_block ?_
  refine W_loop (fun k s => ∃ i : Nat, k = 60 - i ∧ i ≤ l.length ∧ i ≤ 60 ∧ (∀ j t, j < i → l[j]? = some t → ¬ 1100 < t.length) ∧ s = ⟨23, [(0, .lst .any 1 (bbL l)), (3, .v (.int .i64 i))], []⟩) (k := 60) ⟨0, by simp, by omega, by omega, by omega, by simp⟩ ?_
  rintro k s ⟨i, rfl, hi, hi60, hbt, rfl⟩
  refine W_seq ?_
  by_cases c1 : i < l.length
  rotate_left
  · refine W_evK [0, 3, 11] (by simp [c1]; rfl) ?_
    refine W_cond rfl (fun h => by simp at h) (fun h => ?_)
    refine W_exit ?_
    have hR := bigL_end (l := l) (i := i) (by omega) hbt
    refine W_evK [2] (by simp; rfl) ?_
    refine W_ret ?_
    repeat (first | refine on_ret ?_ | refine in_ret ?_)
    simp [retQ, hR]
    omega
  have c1i : (i : Int) < l.length := by omega
  by_cases c2 : i < 60
  rotate_left
  · have c2i : ¬ (i : Int) < 60 := by omega
    refine W_evK [0, 3, 11] (by simp [c1, c2i]; rfl) ?_
    refine W_cond rfl (fun h => by simp at h) (fun h => ?_)
    refine W_exit ?_
    have hR := bigL_end (l := l) (i := i) (by omega) hbt
    refine W_evK [2] (by simp; rfl) ?_
    refine W_ret ?_
    repeat (first | refine on_ret ?_ | refine in_ret ?_)
    simp [retQ, hR]
    omega
  have c2i : (i : Int) < 60 := by omega
  obtain ⟨r, hr⟩ : ∃ r, l[i]? = some r := ⟨_, List.getElem?_eq_getElem c1⟩
  have hr2 : l[i]'c1 = r := by rw [List.getElem?_eq_getElem c1] at hr; exact Option.some.inj hr
  refine W_evK [0, 3, 11] (by simp [c1, c2i]; rfl) ?_
  refine W_cond rfl (fun h => ?_) (fun h => by simp at h)
  refine W_skip ?_
  refine W_seq ?_
  refine W_block ?_
  by_cases c3 : 1100 < r.length
  · have c3i : (1100 : Int) < r.length := by omega
    refine W_evK [0, 3, 19] (by simp [c1, c1i, hr2, c3i]; rfl) ?_
    refine W_cond rfl (fun h => ?_) (fun h => by simp at h)
    refine W_evK [2] (by simp; rfl) ?_
    refine W_ret ?_
    repeat (first | refine on_ret ?_ | refine in_ret ?_)
    simp [retQ, bigL_of hr c2 c3]
  have c3i : ¬ (1100 : Int) < r.length := by omega
  refine W_evK [0, 3, 19] (by simp [c1, c1i, hr2, c3i]; rfl) ?_
  refine W_cond rfl (fun h => by simp at h) (fun h => ?_)
  refine W_skip ?_
  refine W_evE [0, 3] (by simp [w64 (n := (i : Int) + 1) (by omega) (by omega)]; rfl) ?_
  refine ⟨_, by omega, i + 1, rfl, by omega, by omega, ?_, by simp⟩
  intro j t hj ht
  rcases Nat.lt_or_ge j i with h1 | h1
  · exact hbt j t h1 ht
  · have : j = i := by omega
    subst this
    rw [hr] at ht
    cases ht
    exact c3

def varD : Dcb := ⟨1, 2, true, false, 10, 16, 0, 0⟩
theorem var_sound : Sound Try.prog 31 [] (dcbA varD) := by
  refine sound_of_W Try.func31 rfl (by decide +kernel) (by simp [Try.f31]) rfl rfl (rs := [.cell 0 23]) rfl ?_
  rw [show Try.f31.ntmps = 2 from rfl]
  refine W_evK [0] (by simp; rfl) ?_
  refine W_evK [0] (by simp [setSeg]; rfl) ?_
  refine W_ret ?_
  repeat (first | refine on_ret ?_ | refine in_ret ?_)
  simp [retQ, varD]

theorem works_sound : Sound Try.prog 16 [] (.v (.bool true)) := by
  refine sound_of_W Try.func16 rfl (by decide +kernel) (by simp [Try.f16]) rfl rfl (rs := [.tmp 0]) rfl ?_
  rw [show Try.f16.ntmps = 56 from rfl]
  have hb : Sound Try.prog 12 [dcbA varD, .lst .any 1 (bbL [[1, 2], [3], [4, 5]])] (resB ([[0, 15, 0, 0, 0, 6, 0, 0, 1, 2, 0, 5, 0, 0, 3], [0, 10, 0, 0, 0, 6, 0, 0, 4, 5]], 0)) := by
    have := block_sound varD [[1, 2], [3], [4, 5]] (by decide) (by decide)
    rwa [show blockM varD [[1, 2], [3], [4, 5]] = ([[0, 15, 0, 0, 0, 6, 0, 0, 1, 2, 0, 5, 0, 0, 3], [0, 10, 0, 0, 0, 6, 0, 0, 4, 5]], 0) by decide +kernel] at this
  have hu : Sound Try.prog 17 [dcbA varD, .lst .any 1 (bbL [[0, 9, 0, 0, 0, 5, 0, 0, 3], [0, 10, 0, 0, 0, 6, 0, 0, 4, 5]])] (resB ([[3], [4, 5]], 0)) := by
    have := unb_sound varD [[0, 9, 0, 0, 0, 5, 0, 0, 3], [0, 10, 0, 0, 0, 6, 0, 0, 4, 5]] (by decide) (by decide)
    rwa [show unbM varD [[0, 9, 0, 0, 0, 5, 0, 0, 3], [0, 10, 0, 0, 0, 6, 0, 0, 4, 5]] = ([[3], [4, 5]], 0) by decide +kernel] at this
  have hu2 : Sound Try.prog 17 [dcbA varD, .lst .any 1 (bbL [[0, 8, 0, 0, 0, 4, 0, 0]])] (resB ([], 220)) := by
    have := unb_sound varD [[0, 8, 0, 0, 0, 4, 0, 0]] (by decide) (by decide)
    rwa [show unbM varD [[0, 8, 0, 0, 0, 4, 0, 0]] = ([], 220) by decide +kernel] at this
  have hs1 := same_sound [[0, 15, 0, 0, 0, 6, 0, 0, 1, 2, 0, 5, 0, 0, 3], [0, 10, 0, 0, 0, 6, 0, 0, 4, 5]] [[0, 15, 0, 0, 0, 6, 0, 0, 1, 2, 0, 5, 0, 0, 3], [0, 10, 0, 0, 0, 6, 0, 0, 4, 5]] (by decide)
  have hs2 := same_sound [[3], [4, 5]] [[3], [4, 5]] (by decide)
  refine W_evK [] (by simp; rfl) ?_
  refine W_evK [1] (by simp; rfl) ?_
  refine W_rK [1, 2, 3] ?_
  refine runA_call (by simp) (by first | (simp; done) | (simp; exact ⟨rfl, rfl⟩) | (simp; rfl)) var_sound (by simp; rfl) ?_
  refine runA_pre 1 (by simp; rfl) rfl ?_
  refine runA_call (by simp) (by first | (simp; done) | (simp; exact ⟨rfl, rfl⟩) | (simp; rfl)) hb (by simp [resB]; rfl) ?_
  refine runA_fin (by simp; rfl) ?_
  refine W_rK [1, 2, 3, 4, 5] ?_
  refine runA_call (by simp) (by first | (simp; done) | (simp; exact ⟨rfl, rfl⟩) | (simp; rfl)) var_sound (by simp; rfl) ?_
  refine runA_pre 3 (by simp; rfl) rfl ?_
  refine runA_call (by simp) (by first | (simp; done) | (simp; exact ⟨rfl, rfl⟩) | (simp; rfl)) hu (by simp [resB]; rfl) ?_
  refine runA_fin (by simp; rfl) ?_
  refine W_rK [1, 2, 3, 4, 5, 7] ?_
  refine runA_call (by simp) (by first | (simp; done) | (simp; exact ⟨rfl, rfl⟩) | (simp; rfl)) var_sound (by simp; rfl) ?_
  refine runA_pre 2 (by simp; rfl) rfl ?_
  refine runA_call (by simp) (by first | (simp; done) | (simp; exact ⟨rfl, rfl⟩) | (simp; rfl)) hu2 (by simp [resB]; rfl) ?_
  refine runA_fin (by simp; rfl) ?_
  refine W_rK [0] ?_
  refine runA_pre 7 (by simp; rfl) rfl ?_
  refine runA_call (by simp) (by first | (simp; done) | (simp; exact ⟨rfl, rfl⟩) | (simp; rfl)) hs1 (by simp; rfl) ?_
  refine runA_pre 6 (by simp; rfl) rfl ?_
  refine runA_pre 3 (by simp; rfl) rfl ?_
  refine runA_call (by simp) (by first | (simp; done) | (simp; exact ⟨rfl, rfl⟩) | (simp; rfl)) hs2 (by simp; rfl) ?_
  refine runA_fin (by simp; rfl) ?_
  refine W_ret ?_
  repeat (first | refine on_ret ?_ | refine in_ret ?_)
  simp [retQ]
end Go.AM
