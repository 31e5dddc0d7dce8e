/- SameTrack, SameTracks, the other Capacity. -/
import Derived.Test.YtonckolkghbcbaaC38S
import Derived.Test.YtonckolkghbcbaaAmC
namespace Go.AM
open Go.RowKit Go.Proofs
set_option linter.unusedSimpArgs false
set_option linter.unusedVariables false
set_option maxHeartbeats 1000000

theorem take_succ_eq {α : Type} {a b : List α} {i : Nat} {x : α} (ha : a[i]? = some x) (hb : b[i]? = some x) (h : a.take i = b.take i) : a.take (i + 1) = b.take (i + 1) := by
  rw [List.take_add_one, List.take_add_one, ha, hb, h]

theorem same_track (a b : List Rec) (hl : a.length ≤ 100000000) : Sound Try.prog 22 [.lst .any 4 (trL a), .lst .any 4 (trL b)] (.v (.bool (decide (a = b)))) := by
  refine sound_of_W Try.func22 rfl (by decide +kernel) (by simp [Try.f22]) rfl rfl (rs := [.tmp 4]) rfl ?_
  rw [show Try.f22.ntmps = 71 from rfl]
  refine W_evK [0, 1] (by simp; rfl) ?_
  refine W_seq ?_
  by_cases c : a.length = b.length
  rotate_left
  · have hne : ¬ a = b := fun e => c (by rw [e])
    refine W_evK [0, 1, 10] (by simp [ne_nat, c]; rfl) ?_
    refine W_cond rfl (fun h => ?_) (fun h => by simp at h)
    refine W_evK [4] (by simp; rfl) ?_
    refine W_ret ?_
    repeat (first | refine on_ret ?_ | refine in_ret ?_)
    simp [retQ, hne]
  refine W_evK [0, 1, 10] (by simp [c]; rfl) ?_
  refine W_cond rfl (fun h => by simp at h) (fun h => ?_)
  refine W_skip ?_
  refine W_seq ?_
  refine W_evK [0, 1, 5] (by simp; rfl) ?_
  refine W_block ?_
  refine W_loop (fun k s => ∃ i : Nat, k = a.length - i ∧ i ≤ a.length ∧ a.take i = b.take i ∧ s = ⟨71, [(0, .lst .any 4 (trL a)), (1, .lst .any 4 (trL b)), (5, .v (.int .i64 i))], []⟩) (k := a.length) ⟨0, by simp, by omega, by simp, by simp⟩ ?_
  rintro k s ⟨i, rfl, hi, hab, rfl⟩
  refine W_seq ?_
  refine W_evK [0, 1, 5, 14] (by simp; rfl) ?_
  refine W_cond rfl (fun h => ?_) (fun h => ?_)
  · refine W_skip ?_
    refine W_seq ?_
    refine W_block ?_
    have hi2 : i < a.length := by simp at h; omega
    have hj2 : i < b.length := by omega
    have hi2' : (i : Int) < a.length := by omega
    have hj2' : (i : Int) < b.length := by omega
    obtain ⟨r, hr⟩ : ∃ r, a[i]? = some r := ⟨_, List.getElem?_eq_getElem hi2⟩
    obtain ⟨q, hq⟩ : ∃ q, b[i]? = some q := ⟨_, List.getElem?_eq_getElem hj2⟩
    have hr2 : a[i]'hi2 = r := by rw [List.getElem?_eq_getElem hi2] at hr; exact Option.some.inj hr
    have hq2 : b[i]'hj2 = q := by rw [List.getElem?_eq_getElem hj2] at hq; exact Option.some.inj hq
    have hneq : r ≠ q → ¬ a = b := fun hn e => hn (by rw [e, hq] at hr; exact (Option.some.inj hr).symm)
    refine W_rdK [0, 1, 5, 70] mx (by decide +kernel) ?_
    by_cases e1 : r.R = q.R
    rotate_left
    · have hne := hneq (fun e => e1 (by rw [e]))
      have e1' : (r.R != q.R) = true := by simp [e1]
      refine runD_pre 5 (by simp [hi2, hj2, hi2', hj2', hr2, hq2]; rfl) rfl ?_
      refine runD_pre 6 (by simp [hi2, hj2, hi2', hj2', hr2, hq2, e1']; rfl) rfl ?_
      refine runD_pre 6 (by simp [hi2, hj2, hi2', hj2', hr2, hq2]; rfl) rfl ?_
      refine runD_pre 6 (by simp [hi2, hj2, hi2', hj2', hr2, hq2]; rfl) rfl ?_
      refine runD_pre 6 (by simp [hi2, hj2, hi2', hj2', hr2, hq2]; rfl) rfl ?_
      refine runD_pre 6 (by simp [hi2, hj2, hi2', hj2', hr2, hq2]; rfl) rfl ?_
      refine runD_pre 6 (by simp [hi2, hj2, hi2', hj2', hr2, hq2]; rfl) rfl ?_
      refine runD_pre 6 (by simp [hi2, hj2, hi2', hj2', hr2, hq2]; rfl) rfl ?_
      refine runD_pre 6 (by simp [hi2, hj2, hi2', hj2', hr2, hq2]; rfl) rfl ?_
      refine runD_fin (by simp [hi2, hj2, hi2', hj2', hr2, hq2]; rfl) ?_
      refine W_cond rfl (fun _ => ?_) (fun h => by simp at h)
      refine W_evK [4] (by simp; rfl) ?_
      refine W_ret ?_
      repeat (first | refine on_ret ?_ | refine in_ret ?_)
      simp [retQ, hne]
    by_cases e2 : r.bad = q.bad
    rotate_left
    · have hne := hneq (fun e => e2 (by rw [e]))
      have e2x : r.bad = !q.bad := by
        cases h1 : r.bad <;> cases h2 : q.bad <;> simp_all
      refine runD_pre 5 (by simp [hi2, hj2, hi2', hj2', hr2, hq2]; rfl) rfl ?_
      refine runD_pre 6 (by simp [hi2, hj2, hi2', hj2', hr2, hq2, e1]; rfl) rfl ?_
      refine runD_pre 6 (by simp [hi2, hj2, hi2', hj2', hr2, hq2]; rfl) rfl ?_
      refine runD_pre 6 (by simp [hi2, hj2, hi2', hj2', hr2, hq2, e2x]; rfl) rfl ?_
      refine runD_pre 6 (by simp [hi2, hj2, hi2', hj2', hr2, hq2]; rfl) rfl ?_
      refine runD_pre 6 (by simp [hi2, hj2, hi2', hj2', hr2, hq2]; rfl) rfl ?_
      refine runD_pre 6 (by simp [hi2, hj2, hi2', hj2', hr2, hq2]; rfl) rfl ?_
      refine runD_pre 6 (by simp [hi2, hj2, hi2', hj2', hr2, hq2]; rfl) rfl ?_
      refine runD_pre 6 (by simp [hi2, hj2, hi2', hj2', hr2, hq2]; rfl) rfl ?_
      refine runD_fin (by simp [hi2, hj2, hi2', hj2', hr2, hq2]; rfl) ?_
      refine W_cond rfl (fun _ => ?_) (fun h => by simp at h)
      refine W_evK [4] (by simp; rfl) ?_
      refine W_ret ?_
      repeat (first | refine on_ret ?_ | refine in_ret ?_)
      simp [retQ, hne]
    by_cases e3 : r.key = q.key
    rotate_left
    · have hne := hneq (fun e => e3 (by rw [e]))
      have e3' : (r.key == q.key) = false := beq_eq_false_iff_ne.2 e3
      refine runD_pre 5 (by simp [hi2, hj2, hi2', hj2', hr2, hq2]; rfl) rfl ?_
      refine runD_pre 6 (by simp [hi2, hj2, hi2', hj2', hr2, hq2, e1]; rfl) rfl ?_
      refine runD_pre 6 (by simp [hi2, hj2, hi2', hj2', hr2, hq2]; rfl) rfl ?_
      refine runD_pre 6 (by simp [hi2, hj2, hi2', hj2', hr2, hq2, e2]; rfl) rfl ?_
      refine runD_pre 8 (by simp [hi2, hj2, hi2', hj2', hr2, hq2]; rfl) rfl ?_
      refine runD_pre 7 (by simp [hi2, hj2, hi2', hj2', hr2, hq2, strA, e3']; rfl) rfl ?_
      refine runD_pre 6 (by simp [hi2, hj2, hi2', hj2', hr2, hq2]; rfl) rfl ?_
      refine runD_pre 6 (by simp [hi2, hj2, hi2', hj2', hr2, hq2]; rfl) rfl ?_
      refine runD_fin (by simp [hi2, hj2, hi2', hj2', hr2, hq2]; rfl) ?_
      refine W_cond rfl (fun _ => ?_) (fun h => by simp at h)
      refine W_evK [4] (by simp; rfl) ?_
      refine W_ret ?_
      repeat (first | refine on_ret ?_ | refine in_ret ?_)
      simp [retQ, hne]
    by_cases e4 : r.data = q.data
    rotate_left
    · have hne := hneq (fun e => e4 (by rw [e]))
      have e4' : (r.data == q.data) = false := beq_eq_false_iff_ne.2 e4
      refine runD_pre 5 (by simp [hi2, hj2, hi2', hj2', hr2, hq2]; rfl) rfl ?_
      refine runD_pre 6 (by simp [hi2, hj2, hi2', hj2', hr2, hq2, e1]; rfl) rfl ?_
      refine runD_pre 6 (by simp [hi2, hj2, hi2', hj2', hr2, hq2]; rfl) rfl ?_
      refine runD_pre 6 (by simp [hi2, hj2, hi2', hj2', hr2, hq2, e2]; rfl) rfl ?_
      refine runD_pre 8 (by simp [hi2, hj2, hi2', hj2', hr2, hq2]; rfl) rfl ?_
      refine runD_pre 7 (by simp [hi2, hj2, hi2', hj2', hr2, hq2, strA, e3]; rfl) rfl ?_
      refine runD_pre 8 (by simp [hi2, hj2, hi2', hj2', hr2, hq2]; rfl) rfl ?_
      refine runD_fin (by simp [hi2, hj2, hi2', hj2', hr2, hq2, strA, e4']; rfl) ?_
      refine W_cond rfl (fun _ => ?_) (fun h => by simp at h)
      refine W_evK [4] (by simp; rfl) ?_
      refine W_ret ?_
      repeat (first | refine on_ret ?_ | refine in_ret ?_)
      simp [retQ, hne]
    have he : r = q := by
      obtain ⟨r1, r2, r3, r4⟩ := r
      obtain ⟨q1, q2, q3, q4⟩ := q
      simp only at e1 e2 e3 e4
      rw [e1, e2, e3, e4]
    have wi := w64 (n := (i : Int) + 1) (by omega) (by omega)
    refine runD_pre 5 (by simp [hi2, hj2, hi2', hj2', hr2, hq2]; rfl) rfl ?_
    refine runD_pre 6 (by simp [hi2, hj2, hi2', hj2', hr2, hq2, e1]; rfl) rfl ?_
    refine runD_pre 6 (by simp [hi2, hj2, hi2', hj2', hr2, hq2]; rfl) rfl ?_
    refine runD_pre 6 (by simp [hi2, hj2, hi2', hj2', hr2, hq2, e2]; rfl) rfl ?_
    refine runD_pre 8 (by simp [hi2, hj2, hi2', hj2', hr2, hq2]; rfl) rfl ?_
    refine runD_pre 7 (by simp [hi2, hj2, hi2', hj2', hr2, hq2, strA, e3]; rfl) rfl ?_
    refine runD_pre 8 (by simp [hi2, hj2, hi2', hj2', hr2, hq2]; rfl) rfl ?_
    refine runD_fin (by simp [hi2, hj2, hi2', hj2', hr2, hq2, strA, e4]; rfl) ?_
    refine W_cond rfl (fun h => by simp at h) (fun h => ?_)
    refine W_skip ?_
    refine W_evE [0, 1, 5] (by simp [wi]; rfl) ?_
    exact ⟨_, by omega, i + 1, rfl, by omega, take_succ_eq hr (by rw [hq, he]) hab, by simp⟩
  refine W_exit ?_
  have hie : i = a.length := by simp at h; omega
  have hEq : a = b := by
    rw [hie, List.take_length] at hab
    rw [hab, c, List.take_length]
  refine W_evK [4] (by simp; rfl) ?_
  refine W_ret ?_
  repeat (first | refine on_ret ?_ | refine in_ret ?_)
  simp [retQ, hEq]

theorem cap10_sound (n : Int) : Sound Try.prog 10 [.v (.int .i64 n)] (.v (.int .i64 (capN n))) := by
  refine sound_of_W Try.func10 rfl (by decide +kernel) (by simp [Try.f10]) rfl rfl (rs := [.tmp 2]) rfl ?_
  rw [show Try.f10.ntmps = 17 from rfl]
  refine W_evK [0] (by simp; rfl) ?_
  refine W_seq ?_
  by_cases h1 : n < 2
  · refine W_evK [0, 13] (by simp [h1]; rfl) ?_
    refine W_cond rfl (fun h => ?_) (fun h => by simp at h)
    refine W_evK [2] (by simp; rfl) ?_
    refine W_ret ?_
    repeat (first | refine on_ret ?_ | refine in_ret ?_)
    simp [retQ, capN, h1]
  by_cases h2 : 512 < n
  · refine W_evK [0, 13] (by simp [h1, h2]; rfl) ?_
    refine W_cond rfl (fun h => ?_) (fun h => by simp at h)
    refine W_evK [2] (by simp; rfl) ?_
    refine W_ret ?_
    repeat (first | refine on_ret ?_ | refine in_ret ?_)
    simp [retQ, capN, h1, h2]
  by_cases h3 : n.tmod 2 = 0
  · refine W_evK [0, 13] (by simp [h1, h2, h3]; rfl) ?_
    refine W_cond rfl (fun h => by simp [h3] at h) (fun h => ?_)
    refine W_skip ?_
    have e : n.tdiv 2 * 1960 ≤ 9223372036854775807 ∧ -9223372036854775808 ≤ n.tdiv 2 * 1960 := by
      rw [Int.tdiv_eq_ediv_of_nonneg (by omega)]; omega
    have e2 : n.tdiv 2 ≤ 9223372036854775807 ∧ -9223372036854775808 ≤ n.tdiv 2 := by
      rw [Int.tdiv_eq_ediv_of_nonneg (by omega)]; omega
    refine W_evK [2] (by simp [w64 e.2 e.1, w64 e2.2 e2.1]; rfl) ?_
    refine W_ret ?_
    repeat (first | refine on_ret ?_ | refine in_ret ?_)
    simp [retQ, capN, h1, h2, h3]
  · refine W_evK [0, 13] (by simp [h1, h2, h3]; rfl) ?_
    refine W_cond rfl (fun h => ?_) (fun h => by simp [h3] at h)
    refine W_evK [2] (by simp; rfl) ?_
    refine W_ret ?_
    repeat (first | refine on_ret ?_ | refine in_ret ?_)
    simp [retQ, capN, h1, h2, h3]
end Go.AM
