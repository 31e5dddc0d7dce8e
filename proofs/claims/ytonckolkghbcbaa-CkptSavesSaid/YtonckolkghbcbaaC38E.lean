/- Newest, next, Empty. -/
import Derived.Test.YtonckolkghbcbaaC38D
namespace Go.AM
open Go.RowKit Go.Proofs
set_option linter.unusedSimpArgs false
set_option linter.unusedVariables false
set_option maxHeartbeats 1000000

theorem capN_pos {n : Nat} (h : capN n ≠ 0) : 2 ≤ n ∧ n ≤ 512 ∧ n % 2 = 0 ∧ capN n = ((n / 2 * 1960 : Nat) : Int) := by
  unfold capN at *
  split at h
  · exact absurd rfl h
  · rename_i hc
    rw [if_neg hc]
    have h1 : ¬ ((n : Int) < 2) := fun e => hc (.inl e)
    have h2 : ¬ (512 < (n : Int)) := fun e => hc (.inr (.inl e))
    have h3 : (n : Int).tmod 2 = 0 := Classical.byContradiction fun e => hc (.inr (.inr e))
    rw [Int.tmod_eq_emod_of_nonneg (by omega)] at h3
    rw [Int.tdiv_eq_ediv_of_nonneg (by omega)]
    exact ⟨by omega, by omega, by omega, by omega⟩

def newM (area : List (List Rec)) : List UInt8 × Nat × Nat :=
  if capN area.length = 0 then ([], 0, 1) else
  let a := readM (area.take (area.length / 2)) 0
  let b := readM (area.drop (area.length / 2)) 1
  let r := if a.2 < b.2 then b else a
  if r.2 = 0 then ([], 0, 380) else (r.1, r.2, 0)
def resN (p : List UInt8 × Nat × Nat) : AV := .tup [.lst (.tip 5 1) 1 (byL p.1), .v (.int .i64 (p.2.1 : Nat)), .v (.int .i64 (p.2.2 : Nat))]

theorem newest_sound (area : List (List Rec)) (hl : area.length ≤ 100000) : Sound Try.prog 15 [.lst .any 1 (arL area)] (resN (newM area)) := by
  refine sound_of_U Try.func15 rfl (by decide +kernel) (by simp [Try.f15]) rfl rfl (rs := [.tmp 2, .tmp 3, .tmp 4]) rfl ?_
  rw [show Try.f15.ntmps = 40 from rfl]
  refine W_evK [0] (by simp; rfl) ?_
  refine W_seq ?_
  refine W_rK [0, 12] ?_
  refine runA_pre 2 (by simp; rfl) rfl ?_
  refine runA_call (by simp) (by first | (simp; done) | (simp; rfl)) (cap9_sound area.length) (by simp; rfl) ?_
  by_cases c : capN area.length = 0
  · have hR : newM area = ([], 0, 1) := by unfold newM; rw [if_pos c]
    refine runA_fin (by simp [c]; rfl) ?_
    refine W_cond rfl (fun _ => ?_) (fun h => by simp at h)
    refine W_evK [2, 3, 4] (by simp; rfl) ?_
    refine W_ret ?_
    repeat (first | refine on_ret ?_ | refine in_ret ?_)
    rw [hR]
    exact ⟨.tup [.lst .nil 1 [], .v (.int .i64 0), .v (.int .i64 1)], by simp [retQ], .tup3 (.nil (by decide +kernel)) (.refl _) (.refl _)⟩
  obtain ⟨k1, k2, k3, k4⟩ := capN_pos c
  have hdiv : (area.length : Int).tdiv 2 = ((area.length / 2 : Nat) : Int) := by rw [Int.tdiv_eq_ediv_of_nonneg (by omega)]; omega
  have hw : IntKind.i64.wrap ((area.length / 2 : Nat) : Int) = ((area.length / 2 : Nat) : Int) := w64 (by omega) (by omega)
  have c' : (capN area.length == 0) = false := beq_eq_false_iff_ne.2 c
  have hr1 := read_sound (area.take (area.length / 2)) 0 (by omega) (by simp; omega) (by simp; omega)
  have hr2 := read_sound (area.drop (area.length / 2)) 1 (by omega) (by simp; omega) (by simp; omega)
  obtain ⟨a, ha⟩ : ∃ a, readM (area.take (area.length / 2)) 0 = a := ⟨_, rfl⟩
  obtain ⟨b, hb⟩ : ∃ b, readM (area.drop (area.length / 2)) 1 = b := ⟨_, rfl⟩
  have hM : newM area = (let r := if a.2 < b.2 then b else a; if r.2 = 0 then ([], 0, 380) else (r.1, r.2, 0)) := by
    unfold newM; rw [if_neg c, ha, hb]
  rw [ha] at hr1
  rw [hb] at hr2
  obtain ⟨a1, a2⟩ := a
  obtain ⟨b1, b2⟩ := b
  simp only at hM
  have l1 : area.length / 2 ≤ area.length := by omega
  have l1i : ((area.length / 2 : Nat) : Int) ≤ area.length := by omega
  refine runA_fin (by simp [c']; rfl) ?_
  refine W_cond rfl (fun h => by simp at h) (fun _ => ?_)
  refine W_skip ?_
  refine W_rK [0, 5, 6] ?_
  refine runA_pre 5 (by simp [hdiv, hw, l1, l1i, ← arL_take, -Int.natCast_ediv]; rfl) rfl ?_
  refine runA_call (by simp) (by first | (simp; done) | (simp; rfl)) hr1 (by simp [resR]; rfl) ?_
  refine runA_fin (by simp; rfl) ?_
  refine W_seq ?_
  refine W_rK [5, 6, 7, 8] ?_
  refine runA_pre 5 (by simp [hdiv, hw, l1, l1i, ← arL_drop, -Int.natCast_ediv]; rfl) rfl ?_
  refine runA_call (by simp) (by first | (simp; done) | (simp; rfl)) hr2 (by simp [resR]; rfl) ?_
  refine runA_fin (by simp; rfl) ?_
  refine W_evK [5, 6, 7, 8, 33] (by simp; rfl) ?_
  refine W_cond rfl (fun h => ?_) (fun h => ?_)
  · have h' : a2 < b2 := by simpa using h
    rw [if_pos h'] at hM
    have hb0 : b2 ≠ 0 := by omega
    have hb0' : ((b2 : Int) == 0) = false := by simp; omega
    have hR : newM area = (b1, b2, 0) := by rw [hM]; simp [hb0]
    refine W_evE [5, 6] (by simp; rfl) ?_
    refine W_seq ?_
    refine W_evK [5, 6, 37] (by simp [hb0']; rfl) ?_
    refine W_cond rfl (fun h => by simp at h) (fun h => ?_)
    refine W_skip ?_
    refine W_evK [2, 3, 4] (by simp; rfl) ?_
    refine W_ret ?_
    repeat (first | refine on_ret ?_ | refine in_ret ?_)
    rw [hR]
    exact ⟨.tup [.lst (.tip 5 57) 1 (byL b1), .v (.int .i64 b2), .v (.int .i64 0)], by simp [retQ], .norm fun T => by simp [resN]⟩
  have h' : ¬ a2 < b2 := by simpa using h
  rw [if_neg h'] at hM
  refine W_skip ?_
  refine W_seq ?_
  by_cases h0 : a2 = 0
  · have hR : newM area = ([], 0, 380) := by rw [hM]; simp [h0]
    refine W_evK [5, 6, 37] (by simp [h0]; rfl) ?_
    refine W_cond rfl (fun h => ?_) (fun h => by simp at h)
    refine W_evK [2, 3, 4] (by simp; rfl) ?_
    refine W_ret ?_
    repeat (first | refine on_ret ?_ | refine in_ret ?_)
    rw [hR]
    exact ⟨.tup [.lst .nil 1 [], .v (.int .i64 0), .v (.int .i64 380)], by simp [retQ], .tup3 (.nil (by decide +kernel)) (.refl _) (.refl _)⟩
  have ha0' : ((a2 : Int) == 0) = false := by simp; omega
  have hR : newM area = (a1, a2, 0) := by rw [hM]; simp [h0]
  refine W_evK [5, 6, 37] (by simp [ha0']; rfl) ?_
  refine W_cond rfl (fun h => by simp at h) (fun h => ?_)
  refine W_skip ?_
  refine W_evK [2, 3, 4] (by simp; rfl) ?_
  refine W_ret ?_
  repeat (first | refine on_ret ?_ | refine in_ret ?_)
  rw [hR]
  exact ⟨.tup [.lst (.tip 5 39) 1 (byL a1), .v (.int .i64 a2), .v (.int .i64 0)], by simp [retQ], .norm fun T => by simp [resN]⟩

def nxS (n : Nat) (t : List Rec) : Nat := match t with
  | [] => n
  | r :: _ => if r.bad = false ∧ 4 ≤ r.data.length then max n (val4 r.data) else n
def nxM (area : List (List Rec)) : Nat :=
  let n := area.foldl nxS 0 + 1
  if (newM area).2.2 = 0 ∧ n % 2 = (newM area).2.1 % 2 then n + 1 else n
theorem nxS_lt {n : Nat} (t : List Rec) (h : n < 4294967296) : nxS n t < 4294967296 := by
  unfold nxS
  split
  · exact h
  · rename_i r _
    have := val4_lt r.data
    split <;> omega
theorem nx_foldl_lt : ∀ (l : List (List Rec)) (n : Nat), n < 4294967296 → l.foldl nxS n < 4294967296
  | [], n, h => h
  | t :: l, n, h => nx_foldl_lt l _ (nxS_lt t h)

theorem chunk1 : ∀ (l : List AV), chunk false 1 l.length l = l
  | [] => rfl
  | x :: l => by simp only [chunk, List.length_cons, List.headD_cons, List.drop_succ_cons, List.drop_zero, Bool.false_eq_true, if_false]; rw [chunk1 l]
def emM (n : Nat) : List (List Rec) := List.replicate n []
theorem repC_nil (n : Nat) : repC n [AV.lst .nil 4 []] = List.replicate n (.lst .nil 4 []) := by
  induction n with
  | zero => rfl
  | succ n ih => simp [repC, List.replicate_succ] at ih ⊢; try exact ih
theorem arL_em (n : Nat) : arL (emM n) = List.replicate n (.lst .any 4 []) := by simp [arL, emM]
def resE (n : Int) : AV := if capN n = 0 then .tup [.lst (.tip 28 1) 1 [], .v (.int .i64 1)] else .tup [.lst (.tip 28 1) 1 (arL (emM n.toNat)), .v (.int .i64 0)]
theorem empty_sound (n : Int) : Sound Try.prog 11 [.v (.int .i64 n)] (resE n) := by
  refine sound_of_U Try.func11 rfl (by decide +kernel) (by simp [Try.f11]) rfl rfl (rs := [.tmp 2, .tmp 3]) rfl ?_
  rw [show Try.f11.ntmps = 9 from rfl]
  refine W_evK [0] (by simp; rfl) ?_
  refine W_seq ?_
  refine W_rK [0, 6] ?_
  refine runA_pre 1 (by simp; rfl) rfl ?_
  refine runA_call (by simp) (by first | (simp; done) | (simp; rfl)) (cap9_sound n) (by simp; rfl) ?_
  by_cases c : capN n = 0
  · refine runA_fin (by simp [c]; rfl) ?_
    refine W_cond rfl (fun _ => ?_) (fun h => by simp at h)
    refine W_evK [2, 3] (by simp; rfl) ?_
    refine W_ret ?_
    repeat (first | refine on_ret ?_ | refine in_ret ?_)
    unfold resE
    rw [if_pos c]
    exact ⟨.tup [.lst .nil 1 [], .v (.int .i64 1)], by simp [retQ], .tup2 (.nil (by decide +kernel)) (.refl _)⟩
  have c' : (capN n == 0) = false := beq_eq_false_iff_ne.2 c
  refine runA_fin (by simp [c']; rfl) ?_
  refine W_cond rfl (fun h => by simp at h) (fun _ => ?_)
  refine W_skip ?_
  have hn : 2 ≤ n ∧ n ≤ 512 := by
    unfold capN at c
    split at c
    · exact absurd rfl c
    · rename_i hc
      exact ⟨by omega, by omega⟩
  obtain ⟨m, rfl⟩ : ∃ m : Nat, n = m := ⟨n.toNat, by omega⟩
  have g1 : (m : Int) ≤ 11728124029610 := by omega
  have g2 : 24 * (m : Int) ≤ 281474976710656 := by omega
  have g3 : (m : Int) ≤ 9223372036854775807 := by omega
  refine W_evK [2, 3] (by simp [g1, g2, g3, repC_nil]; rfl) ?_
  refine W_ret ?_
  repeat (first | refine on_ret ?_ | refine in_ret ?_)
  unfold resE
  rw [if_neg c]
  refine ⟨.tup [.lst (.tip 28 1) 1 (List.replicate m (.lst .any 4 [])), .v (.int .i64 0)], ?_, .norm fun T => by simp [arL_em]⟩
  have w1 : ∀ m, AV.weakL (List.replicate m (AV.lst .nil 4 [])) = List.replicate m (AV.lst .any 4 []) := fun m => by induction m <;> simp_all [List.replicate_succ, AV.weakL, AV.weak, Fl.wk]
  have w2 : ∀ m, AV.koneL (List.replicate m (AV.lst .nil 4 [])) = true := fun m => by induction m <;> simp_all [List.replicate_succ, AV.koneL, AV.kone]
  have w3 : ∀ m, AV.rfL (List.replicate m (AV.lst .nil 4 [])) = true := fun m => by induction m <;> simp_all [List.replicate_succ, AV.rfL, AV.rf]
  have w4 := chunk1 (List.replicate m (AV.lst .any 4 []))
  rw [List.length_replicate] at w4
  simp [retQ, frzArr, w1, w2, w3, w4]

theorem next_sound (area : List (List Rec)) (hl : area.length ≤ 100000) : Sound Try.prog 25 [.lst .any 1 (arL area)] (.v (.int .i64 (nxM area : Nat))) := by
  refine sound_of_W Try.func25 rfl (by decide +kernel) (by simp [Try.f25]) rfl rfl (rs := [.tmp 2]) rfl ?_
  rw [show Try.f25.ntmps = 61 from rfl]
  refine W_evK [0] (by simp; rfl) ?_
  refine W_evK [0, 3] (by simp; rfl) ?_
  refine W_seq ?_
  refine W_evK [0, 3, 9, 10, 11] (by simp; rfl) ?_
  refine W_block ?_
  refine W_loop (fun k s => ∃ (i n : Nat), k = area.length - i ∧ i ≤ area.length ∧ n < 4294967296 ∧ area.foldl nxS 0 = (area.drop i).foldl nxS n ∧
    s = ⟨61, [(0, .lst .any 1 (arL area)), (3, .v (.int .i64 n)), (9, .lst .any 1 (arL area)), (10, .v (.int .i64 area.length)), (11, .v (.int .i64 i))], []⟩) (k := area.length) ⟨0, 0, by simp, by omega, by omega, by simp, by simp⟩ ?_
  rintro k s ⟨i, n, rfl, hi, hn, hfd, rfl⟩
  refine W_evK [0, 3, 9, 10, 11, 12] (by simp; rfl) ?_
  refine W_seq ?_
  refine W_cond rfl (fun h => ?_) (fun h => ?_)
  · refine W_skip ?_
    refine W_seq ?_
    refine W_block ?_
    have hi2 : i < area.length := by simp at h; omega
    obtain ⟨t, ht⟩ : ∃ t, area[i]? = some t := ⟨_, List.getElem?_eq_getElem hi2⟩
    have ht2 : area[i]'hi2 = t := by rw [List.getElem?_eq_getElem hi2] at ht; exact Option.some.inj ht
    have hstep : (area.drop i).foldl nxS n = (area.drop (i + 1)).foldl nxS (nxS n t) := by
      rw [List.drop_eq_getElem_cons hi2, ht2]; rfl
    rw [hstep] at hfd
    have hlt := nxS_lt t hn
    have wi := w64 (n := (i : Int) + 1) (by omega) (by omega)
    refine W_evK [0, 3, 9, 10, 11, 5] (by simp [hi2, ht2]; rfl) ?_
    refine W_rK [0, 3, 9, 10, 11, 5, 32] ?_
    cases t with
    | nil =>
      refine runA_pre 6 (by simp; rfl) rfl ?_
      refine runA_pre 6 (by simp; rfl) rfl ?_
      refine runA_fin (by simp; rfl) ?_
      refine W_cond rfl (fun h => by simp at h) (fun h => ?_)
      refine W_skip ?_
      refine W_evE [0, 3, 9, 10, 11] (by simp [wi]; rfl) ?_
      exact ⟨_, by omega, i + 1, n, rfl, by omega, hn, hfd, by simp⟩
    | cons r l =>
    by_cases c1 : r.bad = true
    · have hE : nxS n (r :: l) = n := by simp [nxS, c1]
      rw [hE] at hfd
      refine runA_pre 6 (by simp [trL_cons]; rfl) rfl ?_
      refine runA_pre 6 (by simp [c1]; rfl) rfl ?_
      refine runA_fin (by simp; rfl) ?_
      refine W_cond rfl (fun h => by simp at h) (fun h => ?_)
      refine W_skip ?_
      refine W_evE [0, 3, 9, 10, 11] (by simp [wi]; rfl) ?_
      exact ⟨_, by omega, i + 1, n, rfl, by omega, hn, hfd, by simp [trL_cons]⟩
    have c1' : r.bad = false := by simpa using c1
    by_cases c2 : 4 ≤ r.data.length
    · have hE : nxS n (r :: l) = max n (val4 r.data) := by simp [nxS, c1', c2]
      have c2i : (4 : Int) ≤ r.data.length := by omega
      rw [hE] at hfd hlt
      refine runA_pre 6 (by simp [trL_cons]; rfl) rfl ?_
      refine runA_pre 6 (by simp [c1']; rfl) rfl ?_
      refine runA_fin (by simp [trL_cons, c2, c2i]; rfl) ?_
      refine W_cond rfl (fun h => ?_) (fun h => by simp at h)
      refine W_rE [0, 3, 9, 10, 11] ?_
      refine runA_pre 5 (by simp [trL_cons]; rfl) rfl ?_
      refine runA_call (by simp) (by first | (simp; done) | (simp; rfl)) (value_sound' r.data c2) (by simp; rfl) ?_
      refine runA_fin (by simp; rfl) ?_
      refine W_evE [0, 3, 9, 10, 11] (by simp [wi]; rfl) ?_
      have hmx : (if (n : Int) < (val4 r.data : Int) then (val4 r.data : Int) else (n : Int)) = ((max n (val4 r.data) : Nat) : Int) := by split <;> omega
      exact ⟨_, by omega, i + 1, max n (val4 r.data), rfl, by omega, hlt, hfd, by simp [trL_cons]; try omega⟩
    · have hE : nxS n (r :: l) = n := by simp [nxS, c2]
      have c2i : ¬ (4 : Int) ≤ r.data.length := by omega
      rw [hE] at hfd
      refine runA_pre 6 (by simp [trL_cons]; rfl) rfl ?_
      refine runA_pre 6 (by simp [c1']; rfl) rfl ?_
      refine runA_fin (by simp [trL_cons, c2, c2i]; rfl) ?_
      refine W_cond rfl (fun h => by simp at h) (fun h => ?_)
      refine W_skip ?_
      refine W_evE [0, 3, 9, 10, 11] (by simp [wi]; rfl) ?_
      exact ⟨_, by omega, i + 1, n, rfl, by omega, hn, hfd, by simp [trL_cons]⟩
  refine W_exit ?_
  have hin : i = area.length := by simp at h; omega
  rw [hin, List.drop_length] at hfd
  have hfd' : area.foldl nxS 0 = n := hfd
  have wn := w64 (n := (n : Int) + 1) (by omega) (by omega)
  refine W_evK [0, 3] (by simp [wn]; rfl) ?_
  refine W_seq ?_
  obtain ⟨s, hs⟩ : ∃ s, newM area = s := ⟨_, rfl⟩
  have hnw := newest_sound area hl
  have hM : nxM area = if s.2.2 = 0 ∧ (n + 1) % 2 = s.2.1 % 2 then n + 1 + 1 else n + 1 := by unfold nxM; rw [hfd', hs]
  rw [hs] at hnw
  obtain ⟨s1, s2, s3⟩ := s
  refine W_rK [3, 7, 8] ?_
  refine runA_pre 1 (by simp; rfl) rfl ?_
  refine runA_call (by simp) (by first | (simp; done) | (simp; rfl)) hnw (by simp [resN]; rfl) ?_
  refine runA_fin (by simp; rfl) ?_
  have m1 : ((n : Int) + 1).tmod 2 = (((n + 1) % 2 : Nat) : Int) := by rw [Int.tmod_eq_emod_of_nonneg (by omega)]; omega
  have m2 : (s2 : Int).tmod 2 = ((s2 % 2 : Nat) : Int) := by rw [Int.tmod_eq_emod_of_nonneg (by omega)]; omega
  simp only at hM
  have wn2 := w64 (n := (n : Int) + 1 + 1) (by omega) (by omega)
  have e1 : ((s3 : Int) == 0) = decide (s3 = 0) := by rw [Bool.eq_iff_iff]; simp
  have e2 : ((((n + 1) % 2 : Nat) : Int) == ((s2 % 2 : Nat) : Int)) = decide ((n + 1) % 2 = s2 % 2) := by rw [Bool.eq_iff_iff]; simp only [beq_iff_eq, decide_eq_true_eq]; omega
  by_cases d1 : s3 = 0
  rotate_left
  · refine W_evK [3, 57] (by simp [e1, d1]; rfl) ?_
    refine W_cond rfl (fun h => by simp at h) (fun h => ?_)
    refine W_skip ?_
    refine W_evK [2] (by simp; rfl) ?_
    refine W_ret ?_
    repeat (first | refine on_ret ?_ | refine in_ret ?_)
    simp [retQ, hM, d1]
  by_cases d2 : (n + 1) % 2 = s2 % 2
  · have d2' : ((((n + 1) % 2 : Nat) : Int) == ((s2 % 2 : Nat) : Int)) = true := by rw [e2]; simp [d2]
    refine W_evK [3, 57] (by simp only [e1, d1]; simp [m1, m2, d2, -Int.natCast_emod]; rfl) ?_
    refine W_cond rfl (fun h => ?_) (fun h => by simp at h)
    refine W_evE [3] (by simp [wn2]; rfl) ?_
    refine W_evK [2] (by simp; rfl) ?_
    refine W_ret ?_
    repeat (first | refine on_ret ?_ | refine in_ret ?_)
    simp [retQ, hM, d1, d2]
  · have d2' : ((((n + 1) % 2 : Nat) : Int) == ((s2 % 2 : Nat) : Int)) = false := by rw [e2]; simp [d2]
    refine W_evK [3, 57] (by simp only [e1, d1]; simp [m1, m2, d2', -Int.natCast_emod]; rfl) ?_
    refine W_cond rfl (fun h => by simp at h) (fun h => ?_)
    refine W_skip ?_
    refine W_evK [2] (by simp; rfl) ?_
    refine W_ret ?_
    repeat (first | refine on_ret ?_ | refine in_ret ?_)
    simp [retQ, hM, d1, d2]
end Go.AM
