/- CkptFits' walk. -/
import Derived.Test.YtonckolkghbcbaaC38G
namespace Go.AM
open Go.RowKit Go.Proofs
set_option linter.unusedSimpArgs false
set_option linter.unusedVariables false
set_option maxHeartbeats 1000000

def sumT (t : List Rec) : Nat := (t.map fun r => 32 + r.data.length).sum
theorem sumT_take {t : List Rec} {j : Nat} {r : Rec} (h : t[j]? = some r) : sumT (t.take (j + 1)) = sumT (t.take j) + (32 + r.data.length) := by
  unfold sumT
  rw [List.take_add_one, h]
  simp
theorem sumT_le (t : List Rec) (j : Nat) : sumT (t.take j) ≤ sumT t := by
  have : sumT t = sumT (t.take j) + sumT (t.drop j) := by
    unfold sumT
    rw [← List.sum_append, ← List.map_append, List.take_append_drop]
  omega

def fits (t : List Rec) : Prop := t.length ≤ 2 ∧ sumT t ≤ 2048 ∧ ∀ (j : Nat) (r : Rec), t[j]? = some r → r.key = [] ∧ r.R = ((j + 1 : Nat) : Int) ∧ r.bad = false
theorem pc_len (seq : Nat) (state : List UInt8) (i : Nat) : (pcM seq state i).data.length ≤ 1964 := by
  simp only [pcM, List.length_append, be4_length, List.length_drop, List.length_take]
  omega
theorem fits_tks (m seq : Nat) (state : List UInt8) : ∀ (i : Nat) (t : List Rec), (tksM m seq state)[i]? = some t → fits t := by
  intro i t h
  unfold tksM at h
  rw [List.getElem?_map] at h
  obtain ⟨j, _, rfl⟩ := Option.map_eq_some_iff.1 h
  have hp := pc_len seq state j
  split
  · refine ⟨by simp, by simp [sumT, hdR]; omega, ?_⟩
    intro k r hk
    match k with
    | 0 => simp at hk; subst hk; simp [pcM]
    | 1 => simp at hk; subst hk; simp [hdR]
    | k + 2 => simp at hk
  · refine ⟨by simp, by simp [sumT]; omega, ?_⟩
    intro k r hk
    match k with
    | 0 => simp at hk; subst hk; simp [pcM]
    | k + 1 => simp at hk

theorem fits_sound (area : List (List Rec)) (state : List UInt8) (hl : ∀ t ∈ area, t.length ≤ 9223372036854775807) : Sound Try.prog 8 [.lst .any 1 (arL area), .lst .any 1 (byL state)] (.v (.bool true)) := by
  refine sound_of_W Try.func8 rfl (by decide +kernel) (by simp [Try.f8]) rfl rfl (rs := [.tmp 4]) rfl ?_
  rw [show Try.f8.ntmps = 99 from rfl]
  refine W_evK [0, 1] (by simp; rfl) ?_
  refine W_seq ?_
  have hbg := big_sound area hl
  refine W_rK [0, 1, 17] ?_
  refine runA_pre 1 (by simp; rfl) rfl ?_
  refine runA_call (by simp) (by first | (simp; done) | (simp; rfl)) hbg (by simp; rfl) ?_
  by_cases b1 : bigM area = true
  · refine runA_fin (by simp [b1]; rfl) ?_
    refine W_cond rfl (fun h => ?_) (fun h => by simp at h)
    refine W_evK [4] (by simp; rfl) ?_
    refine W_ret ?_
    repeat (first | refine on_ret ?_ | refine in_ret ?_)
    simp [retQ]
  have b1' : bigM area = false := by simpa using b1
  have hal : area.length ≤ 20 := by
    unfold bigM at b1'
    simp at b1'
    omega
  by_cases b2 : 40000 < state.length
  · have b2i : (40000 : Int) < state.length := by omega
    refine runA_fin (by simp [b1', b2i]; rfl) ?_
    refine W_cond rfl (fun h => ?_) (fun h => by simp at h)
    refine W_evK [4] (by simp; rfl) ?_
    refine W_ret ?_
    repeat (first | refine on_ret ?_ | refine in_ret ?_)
    simp [retQ]
  have b2i : ¬ (40000 : Int) < state.length := by omega
  refine runA_fin (by simp [b1', b2i]; rfl) ?_
  refine W_cond rfl (fun h => by simp at h) (fun h => ?_)
  refine W_skip ?_
  have hsv := save_sound area state (by omega) (by omega)
  obtain ⟨sv, hsvE⟩ : ∃ sv, saveM area state = sv := ⟨_, rfl⟩
  rw [hsvE] at hsv
  obtain ⟨at_, tks, e⟩ := sv
  refine W_rK [0, 6, 7] ?_
  refine runA_pre 2 (by simp; rfl) rfl ?_
  refine runA_call (by simp) (by first | (simp; done) | (simp; rfl)) hsv (by simp [resS]; rfl) ?_
  refine runA_fin (by simp; rfl) ?_
  refine W_seq ?_
  by_cases c : e = 0
  rotate_left
  · have c' : ((e : Int) != 0) = true := by simp; omega
    refine W_evK [0, 6, 26] (by simp [c']; rfl) ?_
    refine W_cond rfl (fun h => ?_) (fun h => by simp at h)
    refine W_rK [4] ?_
    refine runA_call (by simp) (by first | (simp; done) | (simp; rfl)) works_sound (by simp; rfl) ?_
    refine runA_fin (by simp; rfl) ?_
    refine W_ret ?_
    repeat (first | refine on_ret ?_ | refine in_ret ?_)
    simp [retQ]
  subst c

  have htk : ∃ m nx, tks = tksM m nx state ∧ 2 * m = area.length := by
    unfold saveM at hsvE
    split at hsvE
    · cases hsvE
    · rename_i hc
      split at hsvE
      · cases hsvE
      · split at hsvE
        · cases hsvE
        · cases hsvE
          obtain ⟨k1, k2, k3, k4⟩ := capN_pos hc
          exact ⟨_, _, rfl, by omega⟩
  obtain ⟨m, nx, rfl, hm⟩ := htk
  have hfit := fits_tks m nx state
  obtain ⟨T, hT⟩ : ∃ T, tksM m nx state = T := ⟨_, rfl⟩
  have hTl : T.length = m := by rw [← hT]; simp [tksM]
  rw [hT] at hfit
  rw [hT]
  refine W_evK [0, 6, 26] (by simp; rfl) ?_
  refine W_cond rfl (fun h => by simp at h) (fun h => ?_)
  refine W_skip ?_
  refine W_seq ?_
  refine W_evK [0, 6, 8] (by simp; rfl) ?_
  refine W_block ?_
  refine W_loop (fun k s => ∃ i : Nat, k = m - i ∧ i ≤ m ∧ s = ⟨99, [(0, .lst .any 1 (arL area)), (6, .lst .any 1 (arL T)), (8, .v (.int .i64 i))], []⟩) (k := m) ⟨0, by simp, by omega, by simp⟩ ?_
  rintro k s ⟨i, rfl, hi, rfl⟩
  refine W_seq ?_
  by_cases d : i < m
  rotate_left
  · refine W_evK [0, 6, 8, 31] (by simp [hTl, d]; rfl) ?_
    refine W_cond rfl (fun h => by simp at h) (fun h => ?_)
    refine W_exit ?_
    have w2 : IntKind.i64.wrap (2 * (m : Int)) = (area.length : Int) := by rw [w64 (by omega) (by omega)]; omega
    refine W_rK [4] ?_
    refine runA_pre 7 (by simp [hTl, w2]; rfl) rfl ?_
    refine runA_call (by simp) (by first | (simp; done) | (simp; rfl)) works_sound (by simp; rfl) ?_
    refine runA_fin (by simp; rfl) ?_
    refine W_ret ?_
    repeat (first | refine on_ret ?_ | refine in_ret ?_)
    simp [retQ]
  have di : i < T.length := by omega
  have dii : (i : Int) < T.length := by omega
  obtain ⟨t, ht⟩ : ∃ t, T[i]? = some t := ⟨_, List.getElem?_eq_getElem di⟩
  have ht2 : T[i]'di = t := by rw [List.getElem?_eq_getElem di] at ht; exact Option.some.inj ht
  obtain ⟨f1, f2, f3⟩ := hfit i t ht
  refine W_evK [0, 6, 8, 31] (by simp [hTl, d]; rfl) ?_
  refine W_cond rfl (fun h => ?_) (fun h => by simp at h)
  refine W_skip ?_
  refine W_seq ?_
  refine W_block ?_
  refine W_evK [0, 6, 8, 9] (by simp; rfl) ?_
  refine W_seq ?_
  refine W_evK [0, 6, 8, 9, 10] (by simp; rfl) ?_
  refine W_block ?_
  refine W_loop (fun k s => ∃ j : Nat, k = t.length - j ∧ j ≤ t.length ∧ s = ⟨99, [(0, .lst .any 1 (arL area)), (6, .lst .any 1 (arL T)), (8, .v (.int .i64 i)), (9, .v (.int .i64 (sumT (t.take j) : Nat))), (10, .v (.int .i64 j))], []⟩) (k := t.length) ⟨0, by simp, by omega, by simp [sumT]⟩ ?_
  rintro k s ⟨j, rfl, hj, rfl⟩
  refine W_seq ?_
  by_cases g : j < t.length
  rotate_left
  · refine W_evK [0, 6, 8, 9, 10, 40] (by simp [di, dii, ht2, g]; rfl) ?_
    refine W_cond rfl (fun h => by simp at h) (fun h => ?_)
    refine W_exit ?_
    have hle := sumT_le t j
    have hsi : ¬ (2048 : Int) < (sumT (t.take j) : Nat) := by omega
    refine W_evK [0, 6, 8, 89] (by simp [hsi]; rfl) ?_
    refine W_cond rfl (fun h => by simp at h) (fun h => ?_)
    refine W_skip ?_
    refine W_evE [0, 6, 8] (by simp [w64 (n := (i : Int) + 1) (by omega) (by omega)]; rfl) ?_
    exact ⟨_, by omega, i + 1, rfl, by omega, by simp⟩
  have gi : (j : Int) < t.length := by omega
  obtain ⟨r, hr⟩ : ∃ r, t[j]? = some r := ⟨_, List.getElem?_eq_getElem g⟩
  have hr2 : t[j]'g = r := by rw [List.getElem?_eq_getElem g] at hr; exact Option.some.inj hr
  obtain ⟨r1, r2, r3⟩ := f3 j r hr
  have hsum := sumT_take hr
  have hle := sumT_le t (j + 1)
  have wj : IntKind.i64.wrap ((j : Int) + 1) = (j : Int) + 1 := w64 (by omega) (by omega)
  have r2' : r.R = (j : Int) + 1 := by rw [r2]; rfl
  refine W_evK [0, 6, 8, 9, 10, 40] (by simp [di, dii, ht2, g]; rfl) ?_
  refine W_cond rfl (fun h => ?_) (fun h => by simp at h)
  refine W_skip ?_
  refine W_seq ?_
  refine W_block ?_
  refine W_seq ?_
  refine W_rK [0, 6, 8, 9, 10, 75] ?_
  refine runA_pre 6 (by simp [di, dii, ht2, g, gi, hr2]; rfl) rfl ?_
  refine runA_pre 6 (by simp [r1]; rfl) rfl ?_
  refine runA_pre 6 (by simp [di, dii, ht2, g, gi, hr2]; rfl) rfl ?_
  refine runA_pre 6 (by simp [wj, r2']; rfl) rfl ?_
  refine runA_pre 6 (by simp [di, dii, ht2, g, gi, hr2]; rfl) rfl ?_
  refine runA_fin (by simp [r3]; rfl) ?_
  refine W_cond rfl (fun h => by simp at h) (fun h => ?_)
  refine W_skip ?_
  have ws1 : IntKind.i64.wrap ((sumT (t.take j) : Nat) + 32 : Int) = (sumT (t.take j) : Nat) + 32 := w64 (by omega) (by omega)
  have ws2 : IntKind.i64.wrap ((sumT (t.take j) : Nat) + 32 + (r.data.length : Int)) = (sumT (t.take (j + 1)) : Nat) := by rw [w64 (by omega) (by omega), hsum]; omega
  refine W_rE [0, 6, 8, 9, 10] ?_
  refine runA_pre 6 (by simp [di, dii, ht2, g, gi, hr2, ws1]; rfl) rfl ?_
  refine runA_fin (by simp [di, dii, ht2, g, gi, hr2, ws2]; rfl) ?_
  refine W_evE [0, 6, 8, 9, 10] (by simp [wj]; rfl) ?_
  exact ⟨_, by omega, j + 1, rfl, by omega, by simp⟩
end Go.AM
