/- Unblock. -/
import Derived.Test.YtmedlgfdabokaaaC22I
namespace Go.AM
open Go.RowKit Go.Proofs
set_option linter.unusedSimpArgs false
set_option linter.unusedVariables false
set_option maxHeartbeats 1000000

def unbStep (d : Dcb) (n : Nat) (p : List (List UInt8) × Bool) : Bool := !p.2 || (p.1.length == n || (!d.blk && decide (n + 1 < p.1.length)))
def unbGo (d : Dcb) : List (List UInt8) → List (List UInt8) → Option (List (List UInt8))
  | [], O => some O
  | b :: l, O => if unbStep d O.length (splitM d b O) = true then none else unbGo d l (splitM d b O).1
def finU : Option (List (List UInt8)) → List (List UInt8) × Int
  | none => ([], 220)
  | some O => if 4096 < O.length then ([], 2) else (O, 0)
def unbM (d : Dcb) (l : List (List UInt8)) : List (List UInt8) × Int := if checkM d = 0 then finU (unbGo d l []) else ([], checkM d)
theorem splitGo_len (d : Dcb) : ∀ (k : Nat) (b : List UInt8) (O : List (List UInt8)), (splitGo d k b O).1.length ≤ O.length + k
  | 0, b, O => by simp [splitGo]
  | k + 1, b, O => by
    rw [splitGo]
    split
    · simp
    · split
      · simp
      · have := splitGo_len d k ((cutB d b).drop (cutN d b).toNat) (O ++ [(cutB d b).take (cutN d b).toNat])
        simp at this
        omega
theorem splitM_len {d : Dcb} (hc : checkM d = 0) (b : List UInt8) (O : List (List UInt8)) : (splitM d b O).1.length ≤ O.length + 1024 := by
  obtain ⟨_, _, _, c4, _, _⟩ := check_facts hc
  unfold splitM
  split
  · simp
  · rename_i h
    have hl : b.length ≤ 1024 := by omega
    split
    · split
      · have := splitGo_len d b.length (b.drop 4) O; omega
      · simp
    · have := splitGo_len d b.length b O; omega
theorem chunk1 : ∀ (l : List AV), chunk false 1 l.length l = l
  | [] => rfl
  | x :: l => by simp only [chunk, List.length_cons, List.headD_cons, List.drop_succ_cons, List.drop_zero, Bool.false_eq_true, if_false]; rw [chunk1 l]
theorem recs_take (O : List (List UInt8)) (cap : Nat) : (recsC O cap).take (O.length * 1) = bbL O := by
  have hb : (bbL O).length = O.length := by simp
  rw [Nat.mul_one, recsC, ← hb, List.take_left]

theorem unb_sound (d : Dcb) (l : List (List UInt8)) (hl : l.length ≤ 100000) (hr : ∀ r ∈ l, r.length ≤ 1000000000) : Sound Try.prog 17 [dcbA d, .lst .any 1 (bbL l)] (resB (unbM d l)) := by
  refine sound_of_U Try.func17 rfl (by decide +kernel) (by simp [Try.f17]) rfl rfl (rs := [.tmp 4, .tmp 5]) rfl ?_
  rw [show Try.f17.ntmps = 57 from rfl]
  refine W_evK [1, 2] (by simp; rfl) ?_
  refine W_seq ?_
  refine W_rK [1, 2, 6] ?_
  refine runA_pre 1 (by simp; rfl) rfl ?_
  refine runA_call (by simp) (by first | (simp; done) | (simp; rfl)) (check_sound d) (by simp; rfl) ?_
  refine runA_fin (by simp; rfl) ?_
  by_cases hc : checkM d = 0
  rotate_left
  · have hcn : (checkM d != 0) = true := by simpa using hc
    refine W_evK [1, 2, 6, 15] (by simp [hcn]; rfl) ?_
    refine W_cond rfl (fun h => ?_) (fun h => by simp at h)
    refine W_evK [4, 5] (by simp; rfl) ?_
    refine W_ret ?_
    repeat (first | refine on_ret ?_ | refine in_ret ?_)
    have e : unbM d l = ([], checkM d) := by unfold unbM; rw [if_neg hc]
    rw [e]
    exact ⟨.tup [.lst .nil 1 [], .v (.int .i64 (checkM d))], by simp [retQ], .tup2 (.nil (by decide +kernel)) (.refl _)⟩
  have hcn : (checkM d != 0) = false := by simpa using hc
  have hbm : unbM d l = finU (unbGo d l []) := by unfold unbM; rw [if_pos hc]
  refine W_evK [1, 2, 6, 15] (by simp [hcn]; rfl) ?_
  refine W_cond rfl (fun h => by simp at h) (fun h => ?_)
  refine W_skip ?_
  refine W_evK [1, 2, 7] (by simp; rfl) ?_
  refine W_seq ?_
  refine W_evK [2, 7, 17, 18, 19] (by simp; rfl) ?_
  refine W_block ?_
  refine W_loop (fun k s => ∃ (i : Nat) (O : List (List UInt8)) (x : AV) (H : List AObj), k = l.length - i ∧ i ≤ l.length ∧ unbGo d l [] = unbGo d (l.drop i) O ∧ O.length ≤ 1024 * i ∧ recsOk [0] H x O ∧ inertR H ∧ H[0]? = some (.cells 23 (dcbC d)) ∧
      s = ⟨57, [(2, .loc 0 0), (7, x), (17, .lst .any 1 (bbL l)), (18, .v (.int .i64 (l.length : Nat))), (19, .v (.int .i64 (i : Nat)))], H⟩)
    (k := l.length) ⟨0, [], .lst .nil 1 [], [.cells 23 (dcbC d)], rfl, by omega, rfl, by simp, .inl ⟨rfl, rfl⟩, (fun o ho => by rw [List.mem_singleton.1 ho]; exact dcb_inert d), rfl, by simp [dcbC]⟩ ?_
  rintro k s ⟨i, O, x, H, rfl, hi, hgo, hOl, hx, hiH, hH0, rfl⟩
  by_cases a : i < l.length
  rotate_left
  · refine W_evK [2, 7, 17, 18, 19, 20] (by simp [a]; rfl) ?_
    refine W_seq ?_
    refine W_cond rfl (fun h => by simp at h) (fun h => ?_)
    refine W_exit ?_
    have hie : i = l.length := by omega
    subst hie
    rw [List.drop_length, unbGo] at hgo
    rw [hgo] at hbm
    simp only [finU] at hbm
    refine W_seq ?_
    by_cases z : 4096 < O.length
    · have zi : (4096 : Int) < O.length := by omega
      rw [if_pos z] at hbm
      refine W_seqC (fun s => ∃ H, s = ⟨57, [(7, x), (55, .v (.bool true))], H⟩) ?_ ?_
      · rcases hx with ⟨g1, rfl⟩ | ⟨g1, id, cap, g2, rfl, g4, g5, g6⟩
        · rw [g1] at z; simp at z
        · refine W_evE [7, 55] (by simp [zi, z]; rfl) ?_
          exact ⟨_, by simp; rfl⟩
      rintro _ ⟨H, rfl⟩
      refine W_cond rfl (fun h => ?_) (fun h => by simp at h)
      refine W_evK [4, 5] (by simp; rfl) ?_
      refine W_ret ?_
      repeat (first | refine on_ret ?_ | refine in_ret ?_)
      rw [hbm]
      exact ⟨.tup [.lst .nil 1 [], .v (.int .i64 2)], by simp [retQ], .tup2 (.nil (by decide +kernel)) (.refl _)⟩
    have zi : ¬ (4096 : Int) < O.length := by omega
    rw [if_neg z] at hbm
    rw [hbm]
    rcases hx with ⟨g1, rfl⟩ | ⟨g1, id, cap, g2, rfl, g4, g5, g6⟩
    · rw [g1]
      refine W_evK [7, 55] (by simp; rfl) ?_
      refine W_cond rfl (fun h => by simp at h) (fun h => ?_)
      refine W_skip ?_
      refine W_evK [4, 5] (by simp; rfl) ?_
      refine W_ret ?_
      repeat (first | refine on_ret ?_ | refine in_ret ?_)
      exact ⟨.tup [.lst .nil 1 [], .v (.int .i64 0)], by simp [retQ], .tup2 (.nil (by decide +kernel)) (.refl _)⟩
    · refine W_evK [7, 55] (by simp [zi, z]; rfl) ?_
      refine W_cond rfl (fun h => by simp at h) (fun h => ?_)
      refine W_skip ?_
      refine W_keepS [7] ?_
      refine W_tip 7 (tk := 1) (ty := 35) (sz := 1) (ag := false) rfl (by decide) g4 (by simp) (by omega) (.inr rfl) (by simp [recsC, nils]; omega) (by rw [recs_take]; simp) (by rw [recs_take]; simp) ?_
      have hch : chunk false 1 O.length (bbL O) = bbL O := by
        have := chunk1 (bbL O)
        rwa [bbL_length] at this
      rw [recs_take, weakL_bbL, hch]
      refine W_evK [4, 5] (by simp [putF]; rfl) ?_
      refine W_ret ?_
      repeat (first | refine on_ret ?_ | refine in_ret ?_)
      exact ⟨.tup [.lst (.tip 35 1) 1 (bbL O), .v (.int .i64 0)], by simp [retQ], .refl _⟩
  have ai : (i : Int) < l.length := by omega
  obtain ⟨b, hbi⟩ : ∃ b, l[i]? = some b := ⟨_, List.getElem?_eq_getElem a⟩
  have hb2 : l[i]'a = b := by rw [List.getElem?_eq_getElem a] at hbi; exact Option.some.inj hbi
  have hbl := hr b (List.mem_of_getElem? hbi)
  rw [List.drop_eq_getElem_cons a, hb2, unbGo] at hgo
  refine W_evK [2, 7, 17, 18, 19, 20] (by simp [a]; rfl) ?_
  refine W_seq ?_
  refine W_cond rfl (fun h => ?_) (fun h => by simp at h)
  refine W_skip ?_
  refine W_seq ?_
  refine W_block ?_
  refine W_evK [2, 7, 17, 18, 19, 9] (by simp [a, ai, hb2]; rfl) ?_
  refine W_seqC (fun s => s = ⟨57, [(2, .loc 0 0), (7, x), (17, .lst .any 1 (bbL l)), (18, .v (.int .i64 (l.length : Nat))), (19, .v (.int .i64 (i : Nat))), (9, .lst .any 1 (byL b)), (10, .v (.int .i64 (O.length : Nat)))], H⟩) ?_ ?_
  · rcases hx with ⟨g1, rfl⟩ | ⟨g1, id, cap, g2, rfl, g4, g5, g6⟩
    · rw [g1]
      refine W_evE [2, 7, 17, 18, 19, 9, 10] (by simp; rfl) ?_
      simp [onNormal]
    · refine W_evE [2, 7, 17, 18, 19, 9, 10] (by simp; rfl) ?_
      simp [onNormal]
  rintro _ rfl
  refine W_evK [2, 7, 17, 18, 19, 9, 10] (by simp; rfl) ?_
  have h0 : 0 < H.length := (List.getElem?_eq_some_iff.1 hH0).1
  have hsc := split_callW d b O x H hc hbl (by omega) hiH h0 hx
  have hspl := splitM_len hc b O
  obtain ⟨p, hp⟩ : ∃ p, splitM d b O = p := ⟨_, rfl⟩
  rw [hp] at hsc hgo hspl
  obtain ⟨O2, ok⟩ := p
  simp only at hgo hspl
  refine W_rK [2, 7, 17, 18, 19, 10, 11] ?_
  refine runA_pre 3 (by simp [hH0, dcbC]; rfl) rfl ?_
  refine runA_obj (f := 32) (args := [dcbA d, .lst .any 1 (byL b), x]) (by simp) (by simp) (hsc.mono ?_)
  rintro r h' ⟨x2, rfl, hx2, hi2, h02, hl2⟩
  have h0' : h'[0]? = some (.cells 23 (dcbC d)) := h02.trans hH0
  simp only at hx2
  refine ⟨_, by simp; rfl, ?_⟩
  refine runA_fin (by simp; rfl) ?_
  refine W_lastK (fun s => unbStep d O.length (O2, ok) = false ∧ s = ⟨57, [(2, .loc 0 0), (7, x2), (17, .lst .any 1 (bbL l)), (18, .v (.int .i64 (l.length : Nat))), (19, .v (.int .i64 (i : Nat)))], h'⟩) ?_ ?_
  · have hfail : unbStep d O.length (O2, ok) = true → unbM d l = ([], 220) := by
      intro h
      rw [hbm, hgo, if_pos h]; rfl
    cases ok with
    | false =>
      have hst : unbStep d O.length (O2, false) = true := rfl
      refine W_rK [2, 7, 17, 18, 19, 51] ?_
      refine runA_pre 6 (by simp; rfl) rfl ?_
      refine runA_pre 6 (by simp; rfl) rfl ?_
      refine runA_fin (by simp; rfl) ?_
      refine W_cond rfl (fun h => ?_) (fun h => by simp at h)
      refine W_evK [4, 5] (by simp; rfl) ?_
      refine W_ret ?_
      repeat (first | refine on_ret ?_ | refine in_ret ?_)
      rw [hfail hst]
      exact ⟨.tup [.lst .nil 1 [], .v (.int .i64 220)], by simp [retQ], .tup2 (.nil (by decide +kernel)) (.refl _)⟩
    | true =>
      have hst : unbStep d O.length (O2, true) = (O2.length == O.length || (!d.blk && decide (O.length + 1 < O2.length))) := rfl
      obtain ⟨n2, hn2⟩ : ∃ n2, O2.length = n2 := ⟨_, rfl⟩
      rw [hn2] at hst hspl
      refine W_seqC (fun s => s = ⟨57, [(2, .loc 0 0), (7, x2), (17, .lst .any 1 (bbL l)), (18, .v (.int .i64 (l.length : Nat))), (19, .v (.int .i64 (i : Nat))), (51, .v (.bool (unbStep d O.length (O2, true))))], h'⟩) ?_ ?_
      · have w1 : IntKind.i64.wrap ((O.length : Int) + 1) = ((O.length + 1 : Nat) : Int) := by rw [w64 (by omega) (by omega)]; omega
        rw [hst]
        obtain ⟨m, hm⟩ : ∃ m, O.length = m := ⟨_, rfl⟩
        rw [hm] at w1 ⊢
        have e0 : ((n2 : Int) == (m : Int)) = (n2 == m) := by rw [Bool.eq_iff_iff]; simp; omega
        have e3 : decide (((m + 1 : Nat) : Int) < (n2 : Int)) = decide (m + 1 < n2) := by rw [Bool.eq_iff_iff]; simp; omega
        rcases hx2 with ⟨g1, rfl⟩ | ⟨g1, id, cap, g2, rfl, g4, g5, g6⟩
        · have n0 : n2 = 0 := by rw [← hn2, g1]; rfl
          subst n0
          have e4 : (((0 : Nat) : Int) == (m : Int)) = (0 == m) := e0
          rcases Bool.eq_false_or_eq_true (0 == m) with q | q
          · simp only [q, Bool.true_or] at e4 ⊢
            simp at e4
            refine W_rE [2, 7, 17, 18, 19, 51] ?_
            refine runA_pre 6 (by simp; rfl) rfl ?_
            refine runA_pre 6 (by simp [← e4]; rfl) rfl ?_
            refine runA_fin (by simp; rfl) ?_
            simp [onNormal]
          · have q' : ¬ 0 = m := by simpa using q
            have q2 : ((0 : Int) == (m : Int)) = false := by simp; omega
            have q3 : ¬ m + 1 < 0 := by omega
            simp only [q, Bool.false_or, decide_eq_false q3, Bool.and_false]
            rcases Bool.eq_false_or_eq_true d.blk with hb | hb
            · refine W_rE [2, 7, 17, 18, 19, 51] ?_
              refine runA_pre 6 (by simp; rfl) rfl ?_
              refine runA_pre 6 (by simp [q2, h0', dcbC]; rfl) rfl ?_
              refine runA_fin (by simp [hb]; rfl) ?_
              simp [onNormal]
            · have q5 : ¬ ((m : Int) + 1 < 0) := by omega
              refine W_rE [2, 7, 17, 18, 19, 51] ?_
              refine runA_pre 6 (by simp; rfl) rfl ?_
              refine runA_pre 6 (by simp [q2, h0', dcbC]; rfl) rfl ?_
              refine runA_fin (by simp [hb, w1, q5]; rfl) ?_
              simp [onNormal]
        · rw [hn2]
          rcases Bool.eq_false_or_eq_true (n2 == m) with q | q
          · rw [q] at e0
            simp only [q, Bool.true_or]
            refine W_rE [2, 7, 17, 18, 19, 51] ?_
            refine runA_pre 6 (by simp; rfl) rfl ?_
            refine runA_pre 6 (by simp [e0]; rfl) rfl ?_
            refine runA_fin (by simp; rfl) ?_
            simp [onNormal]
          · rw [q] at e0
            simp only [q, Bool.false_or]
            rcases Bool.eq_false_or_eq_true d.blk with hb | hb
            · refine W_rE [2, 7, 17, 18, 19, 51] ?_
              refine runA_pre 6 (by simp; rfl) rfl ?_
              refine runA_pre 6 (by simp [e0, h0', dcbC]; rfl) rfl ?_
              refine runA_fin (by simp [hb]; rfl) ?_
              simp [onNormal, hb]
            · rw [hb, ← e3]
              obtain ⟨m1, hm1⟩ : ∃ m1, m + 1 = m1 := ⟨_, rfl⟩
              rw [hm1] at w1 ⊢
              refine W_rE [2, 7, 17, 18, 19, 51] ?_
              refine runA_pre 6 (by simp; rfl) rfl ?_
              refine runA_pre 6 (by simp [e0, h0', dcbC]; rfl) rfl ?_
              refine runA_fin (by simp [hb, w1]; rfl) ?_
              simp [onNormal]
      rintro _ rfl
      rcases Bool.eq_false_or_eq_true (unbStep d O.length (O2, true)) with q | q
      · rw [q]
        refine W_cond rfl (fun h => ?_) (fun h => by simp at h)
        refine W_evK [4, 5] (by simp; rfl) ?_
        refine W_ret ?_
        repeat (first | refine on_ret ?_ | refine in_ret ?_)
        rw [hfail q]
        exact ⟨.tup [.lst .nil 1 [], .v (.int .i64 220)], by simp [retQ], .tup2 (.nil (by decide +kernel)) (.refl _)⟩
      · rw [q]
        refine W_cond rfl (fun h => by simp at h) (fun h => ?_)
        refine W_keepS [2, 7, 17, 18, 19] (W_skip ?_)
        exact ⟨rfl, by simp⟩
  rintro _ ⟨hst, rfl⟩
  rw [hst] at hgo
  simp only [Bool.false_eq_true, if_false] at hgo
  refine W_evE [2, 7, 17, 18, 19] (by simp [w64 (n := (i : Int) + 1) (by omega) (by omega)]; rfl) ?_
  exact ⟨_, by omega, i + 1, O2, x2, h', rfl, by omega, hgo, by omega, hx2, hi2, h0', by simp⟩
end Go.AM
