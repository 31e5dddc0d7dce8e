/- CkptKeeps' walk. -/
import Derived.Test.YtonckolkghbcbaaC38PD
import Derived.Test.YtonckolkghbcbaaC38I
import Derived.Test.YtonckolkghbcbaaC38N
namespace Go.AM
open Go.RowKit Go.Proofs
set_option linter.unusedSimpArgs false
set_option linter.unusedVariables false
set_option maxHeartbeats 1000000

theorem save_shape {area tks : List (List Rec)} {state : List UInt8} {p e : Nat} (h : saveM area state = (p, tks, e)) : (e ≠ 0 → tks = []) ∧ (e = 0 → p + tks.length ≤ area.length ∧ 0 < area.length ∧ 2 * tks.length = area.length ∧ sumL tks = tks.length + 1) := by
  unfold saveM at h
  split at h
  · cases h; simp
  rename_i hc
  split at h
  · cases h; simp
  split at h
  · cases h; simp
  cases h
  obtain ⟨k1, k2, k3, k4⟩ := capN_pos hc
  refine ⟨fun h => absurd rfl h, fun _ => ⟨?_, by omega, by rw [tksM_length]; omega, by rw [tksM_length, sumL_tks' (by omega)]⟩⟩
  rw [tksM_length]
  rcases Nat.mod_two_eq_zero_or_one (nxM area) with h | h <;> rw [h] <;> omega

theorem wu64 {n : Int} (h1 : 0 ≤ n) (h2 : n < 18446744073709551616) : IntKind.u64.wrap n = n := by
  simp [IntKind.wrap, IntKind.signed, IntKind.bits]; omega
theorem wu64_ge (n : Int) : 0 ≤ IntKind.u64.wrap n := by
  simp [IntKind.wrap, IntKind.signed, IntKind.bits]; omega

theorem modN (cm : Int) (k : Nat) (hk : 0 < k) (hk2 : k < 1000000) : ∃ M : Nat, IntKind.i64.wrap ((IntKind.u64.wrap cm).tmod (k : Int)) = M ∧ M < k := by
  have h1 := wu64_ge cm
  rw [Int.tmod_eq_emod_of_nonneg h1]
  have h2 := Int.emod_nonneg (IntKind.u64.wrap cm) (show (k : Int) ≠ 0 by omega)
  have h3 := Int.emod_lt_of_pos (IntKind.u64.wrap cm) (show (0 : Int) < k by omega)
  rw [w64 (by omega) (by omega)]
  exact ⟨(IntKind.u64.wrap cm % k).toNat, by omega, by omega⟩

theorem keeps_sound (area : List (List Rec)) (state : List UInt8) (cm : Int) (cb : Bool) (hl : ∀ t ∈ area, t.length ≤ 9223372036854775807) :
    Sound Try.prog 6 [.lst .any 1 (arL area), .lst .any 1 (byL state), .agg [.v (.int .i64 cm), .v (.bool cb)]] (.v (.bool true)) := by
  refine sound_of_W Try.func6 rfl (by decide +kernel) (by simp [Try.f6]) rfl rfl (rs := [.tmp 6]) rfl ?_
  rw [show Try.f6.ntmps = 118 from rfl]
  refine W_evK [0, 1, 5] (by simp; rfl) ?_
  refine W_seq ?_
  have hbg := big_sound area hl
  refine W_rK [0, 1, 5, 24] ?_
  refine runA_pre 1 (by simp; rfl) rfl ?_
  refine runA_call (by simp) (by first | (simp; done) | (simp; rfl)) hbg (by simp; rfl) ?_
  by_cases b1 : bigM area = true
  · refine runA_fin (by simp [b1]; rfl) ?_
    refine W_cond rfl (fun h => ?_) (fun h => by simp at h)
    refine W_evK [6] (by simp; rfl) ?_
    refine W_ret ?_
    repeat (first | refine on_ret ?_ | refine in_ret ?_)
    simp [retQ]
  have b1' : bigM area = false := by simpa using b1
  have hsm := small_of_big b1'
  by_cases b2 : 40000 < state.length
  · have b2i : (40000 : Int) < state.length := by omega
    refine runA_fin (by simp [b1', b2i]; rfl) ?_
    refine W_cond rfl (fun h => ?_) (fun h => by simp at h)
    refine W_evK [6] (by simp; rfl) ?_
    refine W_ret ?_
    repeat (first | refine on_ret ?_ | refine in_ret ?_)
    simp [retQ]
  have b2i : ¬ (40000 : Int) < state.length := by omega
  refine runA_fin (by simp [b1', b2i]; rfl) ?_
  refine W_cond rfl (fun h => by simp at h) (fun h => ?_)
  refine W_skip ?_
  have hnw := newest_sound area (by have := hsm.1; omega)
  obtain ⟨nw, hN⟩ : ∃ nw, newM area = nw := ⟨_, rfl⟩
  rw [hN] at hnw
  obtain ⟨s0, seq, e0⟩ := nw
  simp only [resN] at hnw
  refine W_rK [0, 1, 5, 7, 8, 9] ?_
  refine runA_pre 1 (by simp; rfl) rfl ?_
  refine runA_call (by simp) (by first | (simp; done) | (simp; rfl)) hnw (by simp; rfl) ?_
  refine runA_fin (by simp; rfl) ?_
  have hsv := save_sound area state (by have := hsm.1; omega) (by omega)
  obtain ⟨sv, hsvE⟩ : ∃ sv, saveM area state = sv := ⟨_, rfl⟩
  rw [hsvE] at hsv
  obtain ⟨p, tks, e⟩ := sv
  obtain ⟨hsh1, hsh2⟩ := save_shape hsvE
  refine W_rK [0, 1, 5, 7, 8, 9, 10, 11, 12] ?_
  refine runA_pre 2 (by simp; rfl) rfl ?_
  refine runA_call (by simp) (by first | (simp; done) | (simp; rfl)) hsv (by simp [resS]; rfl) ?_
  refine runA_fin (by simp; rfl) ?_
  refine W_seq ?_
  by_cases c : e = 0
  rotate_left
  · have c' : ((e : Int) != 0) = true := by simp; omega
    have ht := hsh1 c
    subst ht
    refine W_evK [0, 1, 5, 7, 8, 9, 10, 11, 39] (by simp [c']; rfl) ?_
    refine W_cond rfl (fun h => ?_) (fun h => by simp at h)
    refine W_rK [6] ?_
    refine runA_pre 4 (by simp; rfl) rfl ?_
    refine runA_call (by simp) (by first | (simp; done) | (simp; rfl)) works_sound (by simp; rfl) ?_
    refine runA_fin (by simp; rfl) ?_
    refine W_ret ?_
    repeat (first | refine on_ret ?_ | refine in_ret ?_)
    simp [retQ]
  subst c
  obtain ⟨q1, q2, q3, q4⟩ := hsh2 rfl
  have ha := hsm.1
  have p0 : ¬ ((p : Int) < 0) := by omega
  have wp : IntKind.i64.wrap ((p : Int) + (tks.length : Int)) = (p : Int) + (tks.length : Int) := w64 (by omega) (by omega)
  have p1 : ¬ ((area.length : Int) < (p : Int) + (tks.length : Int)) := by omega
  refine W_evK [0, 1, 5, 7, 8, 9, 10, 11, 39] (by simp; rfl) ?_
  refine W_cond rfl (fun h => by simp at h) (fun h => ?_)
  refine W_skip ?_
  refine W_seq ?_
  refine W_rK [0, 1, 5, 7, 8, 9, 10, 11, 56] ?_
  refine runA_pre 6 (by simp [p0]; rfl) rfl ?_
  refine runA_fin (by simp [wp, p1]; rfl) ?_
  refine W_cond rfl (fun h => by simp at h) (fun h => ?_)
  refine W_skip ?_
  refine W_rdK [1, 7, 8, 9, 13, 14] mx (by decide +kernel) ?_
  refine runD_pre 6 (by simp; rfl) rfl ?_
  have hu1 : IntKind.u64.wrap (tks.length : Int) = tks.length := wu64 (by omega) (by omega)
  have hu2 : IntKind.u64.wrap ((tks.length : Int) + 3) = (tks.length : Int) + 3 := wu64 (by omega) (by omega)
  have hu3 : ¬ (tks.length : Int) + 3 = 0 := by omega
  obtain ⟨M, hM, hM2⟩ := modN cm (tks.length + 3) (by omega) (by omega)
  have hM' : IntKind.i64.wrap ((IntKind.u64.wrap cm).tmod ((tks.length : Int) + 3)) = M := by rw [← hM]; rfl
  have hwr := written_sound area tks p M cb hsm q1 q2 (by omega) (by omega)
  obtain ⟨kp1, kp2, kp3⟩ := keeps hsvE M cb (by omega)
  obtain ⟨after, hafter⟩ : ∃ after, wrM area p 0 M cb tks = after := ⟨_, rfl⟩
  obtain ⟨whole, hwhole⟩ : ∃ whole, (decide (min M (sumL tks) = sumL tks) && !(cb && decide (M = sumL tks))) = whole := ⟨_, rfl⟩
  rw [hafter, hwhole] at hwr kp2 kp3
  have hal : after.length = area.length := by rw [← hafter, wrM_length]
  have hn2 := newest_sound after (by omega)
  refine runD_pre 8 (by simp [hu1, hu2, hu3, hM']; rfl) rfl ?_
  refine runD_call (by simp) (by first | (simp; done) | (simp; rfl)) hwr (by simp; rfl) ?_
  refine runD_fin (by simp; rfl) ?_
  obtain ⟨nw2, hN2⟩ : ∃ nw, newM after = nw := ⟨_, rfl⟩
  rw [hN2] at hn2 kp2 kp3
  obtain ⟨s1, n1, e1⟩ := nw2
  simp only [resN] at hn2
  refine W_rK [1, 7, 8, 9, 14, 15, 16, 17] ?_
  refine runA_pre 1 (by simp; rfl) rfl ?_
  refine runA_call (by simp) (by first | (simp; done) | (simp; rfl)) hn2 (by simp; rfl) ?_
  refine runA_fin (by simp; rfl) ?_
  refine W_seq ?_
  rw [hN] at kp1
  simp only at kp1
  cases whole with
  | true =>
    have hk := kp2 rfl
    simp only [Prod.mk.injEq] at hk
    obtain ⟨rfl, rfl, rfl⟩ := hk
    refine W_rK [7, 8, 9, 14, 15, 16, 17, 94] ?_
    refine runA_pre 6 (by simp; rfl) rfl ?_
    refine runA_fin (by simp [kp1]; rfl) ?_
    refine W_cond rfl (fun h => ?_) (fun h => by simp at h)
    refine W_rK [6] ?_
    refine runA_call (by simp) (by first | (simp; done) | (simp; rfl)) works_sound (by simp; rfl) ?_
    refine runA_fin (by simp; rfl) ?_
    refine W_ret ?_
    repeat (first | refine on_ret ?_ | refine in_ret ?_)
    simp [retQ]
  | false =>
    have hk := kp3 rfl
    rw [hN] at hk
    simp only [Prod.mk.injEq] at hk
    obtain ⟨rfl, rfl, rfl⟩ := hk
    by_cases z : e1 = 0
    · subst z
      refine W_rK [7, 8, 9, 14, 15, 16, 17, 94] ?_
      refine runA_pre 6 (by simp; rfl) rfl ?_
      refine runA_fin (by simp; rfl) ?_
      refine W_cond rfl (fun h => by simp at h) (fun h => ?_)
      refine W_skip ?_
      refine W_rK [6] ?_
      refine runA_pre 6 (by simp; rfl) rfl ?_
      refine runA_pre 6 (by simp; rfl) rfl ?_
      refine runA_pre 8 (by simp; rfl) rfl ?_
      refine runA_call (by simp) (by first | (simp; done) | (simp; rfl)) works_sound (by simp; rfl) ?_
      refine runA_fin (by simp; rfl) ?_
      refine W_ret ?_
      repeat (first | refine on_ret ?_ | refine in_ret ?_)
      simp [retQ]
    · have z' : ((e1 : Int) == 0) = false := beq_eq_false_iff_ne.2 (by omega)
      refine W_rK [7, 8, 9, 14, 15, 16, 17, 94] ?_
      refine runA_pre 6 (by simp [z']; rfl) rfl ?_
      refine runA_fin (by simp; rfl) ?_
      refine W_cond rfl (fun h => by simp at h) (fun h => ?_)
      refine W_skip ?_
      refine W_rK [6] ?_
      refine runA_pre 6 (by simp; rfl) rfl ?_
      refine runA_pre 6 (by simp; rfl) rfl ?_
      refine runA_pre 8 (by simp; rfl) rfl ?_
      refine runA_call (by simp) (by first | (simp; done) | (simp; rfl)) works_sound (by simp; rfl) ?_
      refine runA_fin (by simp; rfl) ?_
      refine W_ret ?_
      repeat (first | refine on_ret ?_ | refine in_ret ?_)
      simp [retQ]
end Go.AM
