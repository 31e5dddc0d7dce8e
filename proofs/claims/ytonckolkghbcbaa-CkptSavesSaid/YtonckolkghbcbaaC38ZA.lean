/- The specification's Save. -/
import Derived.Test.YtonckolkghbcbaaC38PC
import Derived.Test.YtonckolkghbcbaaC38S
import Derived.Test.YtonckolkghbcbaaC38T
import Derived.Test.YtonckolkghbcbaaC38R
import Derived.Test.YtonckolkghbcbaaC38U
import Derived.Test.YtonckolkghbcbaaAmC
namespace Go.AM
open Go.RowKit Go.Proofs
set_option linter.unusedSimpArgs false
set_option linter.unusedVariables false
set_option maxHeartbeats 2000000

theorem rsave_sound (area : List (List Rec)) (state : List UInt8) (hs : small area) (hst : state.length ≤ 100000000) : Sound Try.prog 19 [.lst .any 1 (arL area), .lst .any 1 (byL state)] (resS (saveM area state)) := by
  have hl : area.length ≤ 1000 := hs.1
  refine sound_of_U Try.func19 rfl (by decide +kernel) (by simp [Try.f19]) rfl rfl (rs := [.tmp 4, .tmp 5, .tmp 6]) rfl ?_
  rw [show Try.f19.ntmps = 107 from rfl]
  have hnw := newest16 area hs
  rw [new_eq area hl] at hnw
  refine W_evK [0, 1] (by simp; rfl) ?_
  refine W_rK [0, 1, 7] ?_
  refine runA_pre 2 (by simp; rfl) rfl ?_
  refine runA_call (by simp) (by first | (simp; done) | (simp; rfl)) (cap10_sound area.length) (by simp; rfl) ?_
  refine runA_fin (by simp; rfl) ?_
  refine W_seq ?_
  by_cases c : capN area.length = 0
  · have hR : saveM area state = (0, [], 1) := by unfold saveM; rw [if_pos c]
    refine W_evK [0, 1, 7, 18] (by simp [c]; rfl) ?_
    refine W_cond rfl (fun _ => ?_) (fun h => by simp at h)
    refine W_evK [4, 5, 6] (by simp; rfl) ?_
    refine W_ret ?_
    repeat (first | refine on_ret ?_ | refine in_ret ?_)
    rw [hR]
    exact ⟨.tup [.v (.int .i64 0), .lst .nil 1 [], .v (.int .i64 1)], by simp [retQ], .plain _⟩
  obtain ⟨k1, k2, k3, k4⟩ := capN_pos c
  have c' : (capN area.length == 0) = false := beq_eq_false_iff_ne.2 c
  refine W_evK [0, 1, 7, 18] (by simp [c']; rfl) ?_
  refine W_cond rfl (fun h => by simp at h) (fun _ => ?_)
  refine W_skip ?_
  refine W_seq ?_
  by_cases d : capN area.length < state.length
  · have hR : saveM area state = (0, [], 2) := by unfold saveM; rw [if_neg c, if_pos d]
    refine W_evK [0, 1, 22] (by simp [d]; rfl) ?_
    refine W_cond rfl (fun _ => ?_) (fun h => by simp at h)
    refine W_evK [4, 5, 6] (by simp; rfl) ?_
    refine W_ret ?_
    repeat (first | refine on_ret ?_ | refine in_ret ?_)
    rw [hR]
    exact ⟨.tup [.v (.int .i64 0), .lst .nil 1 [], .v (.int .i64 2)], by simp [retQ], .plain _⟩
  refine W_evK [0, 1, 22] (by simp [d]; rfl) ?_
  refine W_cond rfl (fun h => by simp at h) (fun _ => ?_)
  refine W_skip ?_
  obtain ⟨s, hsn⟩ : ∃ s, newM area = s := ⟨_, rfl⟩
  have hMd : nxM area = if s.2.2 = 0 ∧ (area.foldl nxS 0 + 1) % 2 = s.2.1 % 2 then area.foldl nxS 0 + 1 + 1 else area.foldl nxS 0 + 1 := by unfold nxM; rw [hsn]
  rw [hsn] at hnw
  obtain ⟨s1, s2, s3⟩ := s
  simp only at hMd
  refine W_rK [0, 1, 9, 10] ?_
  refine runA_pre 1 (by simp; rfl) rfl ?_
  refine runA_call (by simp) (by first | (simp; done) | (simp; rfl)) hnw (by simp [resN]; rfl) ?_
  refine runA_fin (by simp; rfl) ?_
  refine W_evK [0, 1, 9, 10, 11] (by simp; rfl) ?_
  refine W_seq ?_
  refine W_evK [0, 1, 9, 10, 11, 12] (by simp; rfl) ?_
  refine W_block ?_
  refine W_loop (fun k s => ∃ (i N : Nat), k = area.length - i ∧ i ≤ area.length ∧ 1 ≤ N ∧ N ≤ 4294967296 ∧ area.foldl nxS 0 = (area.drop i).foldl nxS (N - 1) ∧
    s = ⟨107, [(0, .lst .any 1 (arL area)), (1, .lst .any 1 (byL state)), (9, .v (.int .i64 s2)), (10, .v (.int .i64 s3)), (11, .v (.int .i64 (N : Int))), (12, .v (.int .i64 i))], []⟩) (k := area.length) ⟨0, 1, by simp, by omega, by omega, by omega, by simp, by simp⟩ ?_
  rintro k s ⟨i, N, rfl, hi, hN1, hN2, hfd, rfl⟩
  obtain ⟨n, hN⟩ : ∃ n, n + 1 = N := ⟨N - 1, by omega⟩
  rw [show N - 1 = n by omega] at hfd
  have hn : n < 4294967296 := by omega
  refine W_seq ?_
  by_cases a : i < area.length
  · have ai : (i : Int) < area.length := by omega
    obtain ⟨t, ht⟩ : ∃ t, area[i]? = some t := ⟨_, List.getElem?_eq_getElem a⟩
    have ht2 : area[i]'a = t := by rw [List.getElem?_eq_getElem a] at ht; exact Option.some.inj ht
    have hstep : (area.drop i).foldl nxS n = (area.drop (i + 1)).foldl nxS (nxS n t) := by
      rw [List.drop_eq_getElem_cons a, ht2]; rfl
    rw [hstep] at hfd
    have hlt := nxS_lt t hn
    have wi := w64 (n := (i : Int) + 1) (by omega) (by omega)
    refine W_evK [0, 1, 9, 10, 11, 12, 32] (by simp [a]; rfl) ?_
    refine W_cond rfl (fun h => ?_) (fun h => by simp at h)
    refine W_skip ?_
    refine W_seq ?_
    refine W_block ?_
    have hskip : ∀ (s' : St), nxS n t = n → s' = ⟨107, [(0, .lst .any 1 (arL area)), (1, .lst .any 1 (byL state)), (9, .v (.int .i64 s2)), (10, .v (.int .i64 s3)), (11, .v (.int .i64 (N : Int))), (12, .v (.int .i64 ((i + 1 : Nat) : Int)))], []⟩ →
        ∃ k, k < area.length - i ∧ ∃ (i N : Nat), k = area.length - i ∧ i ≤ area.length ∧ 1 ≤ N ∧ N ≤ 4294967296 ∧ area.foldl nxS 0 = (area.drop i).foldl nxS (N - 1) ∧
          s' = ⟨107, [(0, .lst .any 1 (arL area)), (1, .lst .any 1 (byL state)), (9, .v (.int .i64 s2)), (10, .v (.int .i64 s3)), (11, .v (.int .i64 (N : Int))), (12, .v (.int .i64 i))], []⟩ := by
      intro s' h1 h2
      rw [h1] at hfd
      exact ⟨_, by omega, i + 1, N, rfl, by omega, hN1, hN2, by rw [show N - 1 = n by omega]; exact hfd, h2⟩
    refine W_rK [0, 1, 9, 10, 11, 12, 73] ?_
    cases t with
    | nil =>
      refine runA_pre 6 (by simp [a, ai, ht2]; rfl) rfl ?_
      refine runA_pre 6 (by simp; rfl) rfl ?_
      refine runA_pre 6 (by simp; rfl) rfl ?_
      refine runA_pre 6 (by simp; rfl) rfl ?_
      refine runA_pre 6 (by simp; rfl) rfl ?_
      refine runA_fin (by simp; rfl) ?_
      refine W_cond rfl (fun h => by simp at h) (fun h => ?_)
      refine W_skip ?_
      refine W_evE [0, 1, 9, 10, 11, 12] (by simp [wi]; rfl) ?_
      exact hskip _ rfl (by simp)
    | cons r l =>
    by_cases c1 : r.bad = true
    · refine runA_pre 6 (by simp [a, ai, ht2, trL_cons]; rfl) rfl ?_
      refine runA_pre 6 (by simp [a, ai, ht2, trL_cons]; rfl) rfl ?_
      refine runA_pre 6 (by simp [c1]; rfl) rfl ?_
      refine runA_pre 6 (by simp; rfl) rfl ?_
      refine runA_pre 6 (by simp; rfl) rfl ?_
      refine runA_fin (by simp; rfl) ?_
      refine W_cond rfl (fun h => by simp at h) (fun h => ?_)
      refine W_skip ?_
      refine W_evE [0, 1, 9, 10, 11, 12] (by simp [wi]; rfl) ?_
      exact hskip _ (by simp [nxS, c1]) (by simp)
    have c1' : r.bad = false := by simpa using c1
    by_cases c2 : 4 ≤ r.data.length
    rotate_left
    · have c2i : ¬ (4 : Int) ≤ r.data.length := by omega
      refine runA_pre 6 (by simp [a, ai, ht2, trL_cons]; rfl) rfl ?_
      refine runA_pre 6 (by simp [a, ai, ht2, trL_cons]; rfl) rfl ?_
      refine runA_pre 6 (by simp [c1', a, ai, ht2]; rfl) rfl ?_
      refine runA_pre 6 (by simp [a, ai, ht2, trL_cons]; rfl) rfl ?_
      refine runA_pre 6 (by simp [c2, c2i]; rfl) rfl ?_
      refine runA_fin (by simp; rfl) ?_
      refine W_cond rfl (fun h => by simp at h) (fun h => ?_)
      refine W_skip ?_
      refine W_evE [0, 1, 9, 10, 11, 12] (by simp [wi]; rfl) ?_
      exact hskip _ (by simp [nxS, c2]) (by simp)
    have c2i : (4 : Int) ≤ r.data.length := by omega
    have hE : nxS n (r :: l) = max n (val4 r.data) := by simp [nxS, c1', c2]
    have hvl := val4_lt r.data
    have hv := value29 r.data c2
    obtain ⟨V, hV⟩ : ∃ V, val4 r.data = V := ⟨_, rfl⟩
    rw [hV] at hE hv hvl
    by_cases c3 : N ≤ V
    · have c3i : (N : Int) ≤ V := by omega
      have wV : IntKind.i64.wrap ((V : Int) + 1) = ((V + 1 : Nat) : Int) := by rw [w64 (by omega) (by omega)]; omega
      refine runA_pre 6 (by simp [a, ai, ht2, trL_cons]; rfl) rfl ?_
      refine runA_pre 6 (by simp [a, ai, ht2, trL_cons]; rfl) rfl ?_
      refine runA_pre 6 (by simp [c1', a, ai, ht2]; rfl) rfl ?_
      refine runA_pre 6 (by simp [a, ai, ht2, trL_cons]; rfl) rfl ?_
      refine runA_pre 6 (by simp [c2, c2i]; rfl) rfl ?_
      refine runA_pre 5 (by simp [a, ai, ht2, trL_cons]; rfl) rfl ?_
      refine runA_call (by simp) (by first | (simp; done) | (simp; rfl)) hv (by simp; rfl) ?_
      refine runA_fin (by simp [c3, c3i]; rfl) ?_
      refine W_cond rfl (fun h => ?_) (fun h => by simp at h)
      refine W_rE [0, 1, 9, 10, 11, 12] ?_
      refine runA_pre 7 (by simp [a, ai, ht2, trL_cons]; rfl) rfl ?_
      refine runA_call (by simp) (by first | (simp; done) | (simp; rfl)) hv (by simp; rfl) ?_
      refine runA_fin (by simp [wV, -Int.natCast_add]; rfl) ?_
      refine W_evE [0, 1, 9, 10, 11, 12] (by simp [wi]; rfl) ?_
      rw [hE, show max n V = V by omega] at hfd
      exact ⟨_, by omega, i + 1, V + 1, rfl, by omega, by omega, by omega, hfd, by simp⟩
    · have c3i : ¬ (N : Int) ≤ V := by omega
      refine runA_pre 6 (by simp [a, ai, ht2, trL_cons]; rfl) rfl ?_
      refine runA_pre 6 (by simp [a, ai, ht2, trL_cons]; rfl) rfl ?_
      refine runA_pre 6 (by simp [c1', a, ai, ht2]; rfl) rfl ?_
      refine runA_pre 6 (by simp [a, ai, ht2, trL_cons]; rfl) rfl ?_
      refine runA_pre 6 (by simp [c2, c2i]; rfl) rfl ?_
      refine runA_pre 5 (by simp [a, ai, ht2, trL_cons]; rfl) rfl ?_
      refine runA_call (by simp) (by first | (simp; done) | (simp; rfl)) hv (by simp; rfl) ?_
      refine runA_fin (by simp [c3, c3i]; rfl) ?_
      refine W_cond rfl (fun h => by simp at h) (fun h => ?_)
      refine W_skip ?_
      refine W_evE [0, 1, 9, 10, 11, 12] (by simp [wi]; rfl) ?_
      exact hskip _ (by rw [hE]; omega) (by simp)
  refine W_evK [0, 1, 9, 10, 11, 12, 32] (by simp [a]; rfl) ?_
  refine W_cond rfl (fun h => by simp at h) (fun h => ?_)
  refine W_exit ?_
  have hin : i = area.length := by omega
  rw [hin, List.drop_length] at hfd
  have hfd' : area.foldl nxS 0 = n := hfd
  rw [hfd'] at hMd
  rw [hN] at hMd
  have m1 : (N : Int).tmod 2 = ((N % 2 : Nat) : Int) := by rw [Int.tmod_eq_emod_of_nonneg (by omega)]; omega
  have m2 : (s2 : Int).tmod 2 = ((s2 % 2 : Nat) : Int) := by rw [Int.tmod_eq_emod_of_nonneg (by omega)]; omega
  have wN : IntKind.i64.wrap ((N : Int) + 1) = ((N + 1 : Nat) : Int) := by rw [w64 (by omega) (by omega)]; omega
  have e1 : ((s3 : Int) == 0) = decide (s3 = 0) := by rw [Bool.eq_iff_iff]; simp
  have e2 : (((N % 2 : Nat) : Int) == ((s2 % 2 : Nat) : Int)) = decide (N % 2 = s2 % 2) := by rw [Bool.eq_iff_iff]; simp only [beq_iff_eq, decide_eq_true_eq]; omega
  refine W_seqC (fun s => s = ⟨107, [(0, .lst .any 1 (arL area)), (1, .lst .any 1 (byL state)), (11, .v (.int .i64 (nxM area : Nat)))], []⟩) ?_ ?_
  · by_cases d1 : s3 = 0
    rotate_left
    · refine W_evK [0, 1, 11, 91] (by simp [e1, d1]; rfl) ?_
      refine W_cond rfl (fun h => by simp at h) (fun h => ?_)
      refine W_keepS [0, 1, 11] (W_skip ?_)
      simp [onNormal, hMd, d1]
    by_cases d2 : N % 2 = s2 % 2
    · refine W_evK [0, 1, 11, 91] (by simp only [e1, d1]; simp [m1, m2, d2, -Int.natCast_emod]; rfl) ?_
      refine W_cond rfl (fun h => ?_) (fun h => by simp at h)
      refine W_evE [0, 1, 11] (by simp [wN, -Int.natCast_add]; rfl) ?_
      simp [onNormal, hMd, d1, d2]
    · have d2' : (((N % 2 : Nat) : Int) == ((s2 % 2 : Nat) : Int)) = false := by rw [e2]; simp [d2]
      refine W_evK [0, 1, 11, 91] (by simp only [e1, d1]; simp [m1, m2, d2', -Int.natCast_emod]; rfl) ?_
      refine W_cond rfl (fun h => by simp at h) (fun h => ?_)
      refine W_keepS [0, 1, 11] (W_skip ?_)
      simp [onNormal, hMd, d1, d2]
  rintro _ rfl
  have hnn : nxM area ≤ 5000000000 := by rw [hMd]; split <;> omega
  clear hMd
  obtain ⟨nx, hnx⟩ : ∃ nx, nxM area = nx := ⟨_, rfl⟩
  rw [hnx] at hnn ⊢
  refine W_seq ?_
  by_cases e : 2147483647 < nx
  · have hR : saveM area state = (0, [], 7) := by unfold saveM; rw [if_neg c, if_neg d, if_pos (by rw [hnx]; exact e)]
    have e' : (2147483647 : Int) < nx := by omega
    refine W_evK [0, 1, 11, 95] (by simp [e, e']; rfl) ?_
    refine W_cond rfl (fun _ => ?_) (fun h => by simp at h)
    refine W_evK [4, 5, 6] (by simp; rfl) ?_
    refine W_ret ?_
    repeat (first | refine on_ret ?_ | refine in_ret ?_)
    rw [hR]
    exact ⟨.tup [.v (.int .i64 0), .lst .nil 1 [], .v (.int .i64 7)], by simp [retQ], .plain _⟩
  have e' : ¬ (2147483647 : Int) < nx := by omega
  have hM : saveM area state = (nx % 2 * (area.length / 2), tksM (area.length / 2) nx state, 0) := by unfold saveM; rw [if_neg c, if_neg d, hnx, if_neg e]
  refine W_evK [0, 1, 11, 95] (by simp [e, e']; rfl) ?_
  refine W_cond rfl (fun h => by simp at h) (fun _ => ?_)
  refine W_skip ?_
  obtain ⟨m, hm⟩ : ∃ m, area.length / 2 = m := ⟨_, rfl⟩
  have hdiv : (area.length : Int).tdiv 2 = (m : Int) := by rw [Int.tdiv_eq_ediv_of_nonneg (by omega)]; omega
  have hmw := w64 (n := (m : Int)) (by omega) (by omega)
  rw [hm] at hM
  refine W_evK [1, 11, 13] (by simp [hdiv, hmw]; rfl) ?_
  have m3 : (nx : Int).tmod 2 = ((nx % 2 : Nat) : Int) := by rw [Int.tmod_eq_emod_of_nonneg (by omega)]; omega
  obtain ⟨pr, hpr⟩ : ∃ pr, nx % 2 = pr := ⟨_, rfl⟩
  have hprl : pr < 2 := by omega
  rw [hpr] at m3 hM
  have hml : m * pr ≤ m * 1 := Nat.mul_le_mul_left _ (by omega)
  have m4 : IntKind.i64.wrap ((m : Int) * (pr : Int)) = ((pr * m : Nat) : Int) := by
    rw [← Int.natCast_mul, Nat.mul_comm pr m]
    exact w64 (by omega) (by omega)
  have htk := tracks_sound m nx state (by omega) (by omega) hst
  refine W_rK [4, 5, 6] ?_
  refine runA_pre 7 (by simp [m3, m4, -Int.natCast_mul]; rfl) rfl ?_
  refine runA_call (by simp) (by first | (simp; done) | (simp; rfl)) htk (by simp; rfl) ?_
  refine runA_fin (by simp; rfl) ?_
  refine W_ret ?_
  repeat (first | refine on_ret ?_ | refine in_ret ?_)
  rw [hM]
  exact ⟨resS (pr * m, tksM m nx state, 0), by simp [retQ, resS], .refl _⟩
end Go.AM
