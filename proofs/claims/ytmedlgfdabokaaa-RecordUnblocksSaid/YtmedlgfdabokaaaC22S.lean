/- The specification's length, one, Unblock. -/
import Derived.Test.YtmedlgfdabokaaaC22R
namespace Go.AM
open Go.RowKit Go.Proofs
set_option linter.unusedSimpArgs false
set_option linter.unusedVariables false
set_option maxHeartbeats 1000000

theorem descd_short {b : List UInt8} (h : b.length < 4) : descd b = -1 := by
  match b, h with
  | [], _ => rfl
  | [_], _ => rfl
  | [_, _], _ => rfl
  | [_, _, _], _ => rfl
  | _ :: _ :: _ :: _ :: _, h => simp at h; omega
theorem pieceM_no {b : List UInt8} {at' n : Nat} (h : b.length < at' + n) : pieceM b at' n = ([], false) := by
  unfold pieceM; rw [if_neg (by omega), if_pos (by omega)]
theorem pieceM_ok {b : List UInt8} {at' n : Nat} (h : at' + n ≤ b.length) : pieceM b at' n = ((b.drop at').take n, true) := by
  unfold pieceM; rw [if_neg (by omega), if_neg (by omega)]; rfl
theorem pieceM_neg {b : List UInt8} {at' : Nat} {n : Int} (h : n < 0) : pieceM b at' n = ([], false) := by
  unfold pieceM; rw [if_pos h]

theorem rlen_sound (b : List UInt8) (at' : Nat) (hb : b.length ≤ 1000000000) (ha : at' ≤ 1000000000) : Sound Try.prog 40 [.lst .any 1 (byL b), .v (.int .i64 at')] (.v (.int .i64 (descd (b.drop at')))) := by
  refine sound_of_W Try.func40 rfl (by decide +kernel) (by simp [Try.f40]) rfl rfl (rs := [.tmp 4]) rfl ?_
  rw [show Try.f40.ntmps = 37 from rfl]
  refine W_evK [0, 1] (by simp; rfl) ?_
  have hp := piece_sound b at' 4 hb ha (by omega)
  by_cases c : b.length < at' + 4
  · rw [show (4 : Int) = ((4 : Nat) : Int) from rfl, pieceM_no c] at hp
    have hd : descd (b.drop at') = -1 := descd_short (by rw [List.length_drop]; omega)
    rw [hd]
    refine W_rK [5, 6] ?_
    refine runA_pre 2 (by simp; rfl) rfl ?_
    refine runA_call (by simp) (by first | (simp; done) | (simp; rfl)) hp (by simp [resP]; rfl) ?_
    refine runA_fin (by simp [resP]; rfl) ?_
    refine W_seq ?_
    refine W_rK [5, 26] ?_
    refine runA_pre 6 (by simp; rfl) rfl ?_
    refine runA_pre 6 (by simp; rfl) rfl ?_
    refine runA_fin (by simp; rfl) ?_
    refine W_cond rfl (fun h => ?_) (fun h => by simp at h)
    refine W_evK [4] (by simp; rfl) ?_
    refine W_ret ?_
    repeat (first | refine on_ret ?_ | refine in_ret ?_)
    simp [retQ]
  rw [show (4 : Int) = ((4 : Nat) : Int) from rfl, pieceM_ok (by omega)] at hp
  obtain ⟨d, hd⟩ : ∃ d, b.drop at' = d := ⟨_, rfl⟩
  have hdl : ¬ d.length < 4 := by rw [← hd, List.length_drop]; omega
  rw [hd] at hp ⊢
  match d, hdl with
  | [], h => exact absurd (by simp) h
  | [_], h => exact absurd (by simp) h
  | [_, _], h => exact absurd (by simp) h
  | [_, _, _], h => exact absurd (by simp) h
  | b0 :: b1 :: b2 :: b3 :: l, h4 =>
    simp only [List.take_succ_cons, List.take_zero] at hp
    refine W_rK [5, 6] ?_
    refine runA_pre 2 (by simp; rfl) rfl ?_
    refine runA_call (by simp) (by first | (simp; done) | (simp; rfl)) hp (by simp [resP]; rfl) ?_
    refine runA_fin (by simp [resP]; rfl) ?_
    refine W_seq ?_
    by_cases h2 : b2 = 0
    rotate_left
    · have hz := u8z h2
      refine W_rK [5, 26] ?_
      refine runA_pre 6 (by simp [byL_cons]; rfl) rfl ?_
      refine runA_pre 6 (by simp [hz]; rfl) rfl ?_
      refine runA_fin (by simp; rfl) ?_
      refine W_cond rfl (fun h => ?_) (fun h => by simp at h)
      refine W_evK [4] (by simp; rfl) ?_
      refine W_ret ?_
      repeat (first | refine on_ret ?_ | refine in_ret ?_)
      simp [retQ, descd, h2]
    subst h2
    by_cases h3 : b3 = 0
    rotate_left
    · have hz := u8z h3
      refine W_rK [5, 26] ?_
      refine runA_pre 6 (by simp [byL_cons]; rfl) rfl ?_
      refine runA_pre 6 (by simp; rfl) rfl ?_
      refine runA_fin (by simp [hz]; rfl) ?_
      refine W_cond rfl (fun h => ?_) (fun h => by simp at h)
      refine W_evK [4] (by simp; rfl) ?_
      refine W_ret ?_
      repeat (first | refine on_ret ?_ | refine in_ret ?_)
      simp [retQ, descd, h3]
    subst h3
    have h0 := b0.toNat_lt
    have h1 := b1.toNat_lt
    have c0 : IntKind.i64.wrap ((b0.toNat : Int)) = b0.toNat := w64 (by omega) (by omega)
    have c1 : IntKind.i64.wrap ((b1.toNat : Int)) = b1.toNat := w64 (by omega) (by omega)
    have s0 : IntKind.i64.wrap (256 * (b0.toNat : Int)) = ((b0.toNat * 256 : Nat) : Int) := by rw [w64 (by omega) (by omega)]; omega
    have r1 : IntKind.i64.wrap (((b0.toNat * 256 : Nat) : Int) + b1.toNat) = ((b0.toNat * 256 + b1.toNat : Nat) : Int) := by rw [w64 (by omega) (by omega)]; omega
    refine W_rK [5, 26] ?_
    refine runA_pre 6 (by simp [byL_cons]; rfl) rfl ?_
    refine runA_pre 6 (by simp; rfl) rfl ?_
    refine runA_fin (by simp; rfl) ?_
    refine W_cond rfl (fun h => by simp at h) (fun h => ?_)
    refine W_skip ?_
    refine W_rdK [4] mx (by decide +kernel) ?_
    refine runD_pre 5 (by simp [byL_cons, c0, s0, -Int.natCast_mul, -Int.natCast_add]; rfl) rfl ?_
    refine runD_fin (by simp [byL_cons, c1, r1, -Int.natCast_mul, -Int.natCast_add]; rfl) ?_
    refine W_ret ?_
    repeat (first | refine on_ret ?_ | refine in_ret ?_)
    simp [retQ, descd]

def resO (p : List (List UInt8) × Bool) : AV := .tup [.lst (.tip 35 1) 1 (bbL p.1), .v (.bool p.2)]

def outR (T : Nat) (x : AV) (O : List (List UInt8)) : Prop := (O = [] ∧ x = .lst .nil 1 []) ∨ x = .lst (.tip 35 T) 1 (bbL O)
theorem le_out {T : Nat} (hT : T % 2 = 1) {x : AV} {O : List (List UInt8)} (h : outR T x O) {y : AV} : ∃ z, frzV Try.prog 1 [] x = some (z, []) ∧ AV.Le Try.prog z (.lst (.tip 35 1) 1 (bbL O)) := by
  rcases h with ⟨rfl, rfl⟩ | rfl
  · exact ⟨_, rfl, .nil (by decide +kernel)⟩
  · exact ⟨_, rfl, .norm fun T => by simp⟩
theorem one_sound (d : Dcb) (b : List UInt8) (hd : checkM d = 0) (hb : b.length ≤ 1000000000) : Sound Try.prog 33 [dcbA d, .lst .any 1 (byL b)] (resO (oneM d b)) := by
  refine sound_of_U Try.func33 rfl (by decide +kernel) (by simp [Try.f33]) rfl rfl (rs := [.tmp 4, .tmp 5]) rfl ?_
  rw [show Try.f33.ntmps = 79 from rfl]
  obtain ⟨hc1, hc2, hs1, hs2, hlen, hkey⟩ := check_facts hd
  have hfail : retU Try.prog [.tmp 4, .tmp 5] (resO ([], false)) .ret ⟨79, [(4, .lst .nil 1 []), (5, .v (.bool false))], [.cells 23 (dcbC d)]⟩ :=
    ⟨.tup [.lst .nil 1 [], .v (.bool false)], by simp [retQ], .tup2 (.nil (by decide +kernel)) (.refl _)⟩
  refine W_evK [1, 2] (by simp; rfl) ?_
  refine W_seq ?_
  by_cases z : d.size < b.length
  · have e : oneM d b = ([], false) := by unfold oneM splitM; rw [if_pos z]; simp
    rw [e]
    refine W_evK [1, 2, 15] (by simp [z]; rfl) ?_
    refine W_cond rfl (fun h => ?_) (fun h => by simp at h)
    refine W_evK [4, 5] (by simp; rfl) ?_
    refine W_ret ?_
    repeat (first | refine on_ret ?_ | refine in_ret ?_)
    exact hfail
  refine W_evK [1, 2, 15] (by simp [z]; rfl) ?_
  refine W_cond rfl (fun h => by simp at h) (fun h => ?_)
  refine W_skip ?_
  refine W_evK [1, 2, 6] (by simp; rfl) ?_
  refine W_evK [1, 2, 6, 7] (by simp; rfl) ?_
  refine W_seqK (fun s => ∃ (k at' : Nat), at' ≤ b.length ∧ b.length - at' ≤ k ∧ splitM d b [] = splitGo d k (b.drop at') [] ∧ (d.fmt ≠ 1 → d.fmt ≠ 2 → at' = 0) ∧
      s = ⟨79, [(1, .lst .any 1 (byL b)), (2, .loc 0 0), (6, .lst .nil 1 []), (7, .v (.int .i64 at'))], [.cells 23 (dcbC d)]⟩) ?_ ?_
  · rcases Bool.eq_false_or_eq_true (d.fmt == 2) with f2 | f2
    · refine W_evK [1, 2, 6, 7, 18] (by simp [dcbC, f2]; rfl) ?_
      refine W_cond rfl (fun h => ?_) (fun h => by simp at h)
      refine W_seq ?_
      have hl := rlen_sound b 0 hb (by omega)
      rw [List.drop_zero] at hl
      refine W_rK [1, 2, 6, 23] ?_
      refine runA_pre 1 (by simp; rfl) rfl ?_
      refine runA_call (by simp) (by first | (simp; done) | (simp; rfl)) hl (by simp; rfl) ?_
      by_cases q : descd b = b.length
      · refine runA_fin (by simp [q]; rfl) ?_
        refine W_cond rfl (fun h => by simp at h) (fun h => ?_)
        refine W_skip ?_
        refine W_evE [1, 2, 6, 7] (by simp; rfl) ?_
        have h4 := descd_len (b := b) (by omega)
        exact ⟨b.length, 4, h4, by omega, by unfold splitM; rw [if_neg z, if_pos f2, if_pos q], fun _ h => absurd (by simpa using f2) h, by simp [dcbC]⟩
      · have qn : (descd b != (b.length : Int)) = true := by simpa using q
        refine runA_fin (by simp [qn]; rfl) ?_
        refine W_cond rfl (fun h => ?_) (fun h => by simp at h)
        refine W_evK [4, 5] (by simp; rfl) ?_
        refine W_ret ?_
        repeat (first | refine on_ret ?_ | refine in_ret ?_)
        have e : oneM d b = ([], false) := by unfold oneM splitM; rw [if_neg z, if_pos f2, if_neg q]; simp
        rw [e]
        exact hfail
    · refine W_evK [1, 2, 6, 7, 18] (by simp [dcbC, f2]; rfl) ?_
      refine W_cond rfl (fun h => by simp at h) (fun h => ?_)
      refine W_keepS [1, 2, 6, 7] ?_
      refine W_skip ?_
      exact ⟨b.length, 0, by omega, by omega, by unfold splitM; rw [if_neg z, f2, List.drop_zero]; rfl, fun _ _ => rfl, by simp [dcbC]⟩
  rintro _ ⟨k0, at0, ha0, hk0, hsp, hat0, rfl⟩
  refine W_seq ?_
  refine W_block ?_
  refine W_loop (fun k s => ∃ (at' : Nat) (O : List (List UInt8)) (x : AV), at' ≤ b.length ∧ b.length - at' ≤ k ∧ splitM d b [] = splitGo d k (b.drop at') O ∧ outR 125 x O ∧ O.length + (b.length - at') ≤ b.length ∧ (d.fmt ≠ 1 → d.fmt ≠ 2 → at' = 0 ∨ at' = b.length) ∧
      s = ⟨79, [(1, .lst .any 1 (byL b)), (2, .loc 0 0), (6, x), (7, .v (.int .i64 at'))], [.cells 23 (dcbC d)]⟩) (k := k0) ⟨at0, [], _, ha0, hk0, hsp, .inl ⟨rfl, rfl⟩, by simp, fun h1 h2 => .inl (hat0 h1 h2), rfl⟩ ?_
  rintro k s ⟨at', O, x, hat, hk, hgo, hx, hOl, hf3, rfl⟩
  refine W_seq ?_
  by_cases c : at' < b.length
  rotate_left
  · have hE : splitM d b [] = (O, true) := by
      rw [hgo]
      have : b.drop at' = [] := List.drop_eq_nil_of_le (by omega)
      rw [this]
      cases k <;> simp [splitGo]
    have e : oneM d b = (O, decide (O.length = 1) || (d.blk && decide (1 < O.length))) := by unfold oneM; rw [hE]; rfl
    rw [e]
    refine W_evK [1, 2, 6, 7, 27] (by simp [c]; rfl) ?_
    refine W_cond rfl (fun h => by simp at h) (fun h => ?_)
    refine W_exit ?_
    have fin : ∀ (z : AV) (B : Bool) (cs : List AV), B = (decide (O.length = 1) || (d.blk && decide (1 < O.length))) → (z = .lst .nil 1 [] ∧ O = [] ∨ z = .lst (.tip 35 125) 1 (bbL O)) → retU Try.prog [.tmp 4, .tmp 5] (resO (O, decide (O.length = 1) || (d.blk && decide (1 < O.length)))) .ret
        ⟨79, [(4, z), (5, .v (.bool B))], [.cells 23 cs]⟩ := by
      rintro z B cs rfl (⟨rfl, rfl⟩ | rfl)
      · exact ⟨.tup [.lst .nil 1 [], .v (.bool (decide (([] : List (List UInt8)).length = 1) || (d.blk && decide (1 < ([] : List (List UInt8)).length))))], by simp [retQ], .tup2 (.nil (by decide +kernel)) (.refl _)⟩
      · exact ⟨_, by simp [retQ]; exact ⟨rfl, by simp⟩, .norm fun T => by simp [resO]⟩
    rcases hx with ⟨h0, rfl⟩ | rfl
    · subst h0
      rcases Bool.eq_false_or_eq_true d.blk with hk2 | hk2
      · refine W_rK [4, 5] ?_
        refine runA_pre 6 (by simp [dcbC, hk2]; rfl) rfl ?_
        refine runA_pre 6 (by simp [dcbC, hk2]; rfl) rfl ?_
        refine runA_fin (by simp; rfl) ?_
        refine W_ret ?_
        repeat (first | refine on_ret ?_ | refine in_ret ?_)
        refine fin _ _ _ ?_ (.inl ⟨rfl, rfl⟩)
        simp
      · refine W_rK [4, 5] ?_
        refine runA_pre 6 (by simp [dcbC, hk2]; rfl) rfl ?_
        refine runA_pre 6 (by simp [dcbC, hk2]; rfl) rfl ?_
        refine runA_fin (by simp; rfl) ?_
        refine W_ret ?_
        repeat (first | refine on_ret ?_ | refine in_ret ?_)
        refine fin _ _ _ ?_ (.inl ⟨rfl, rfl⟩)
        simp
    · by_cases e1 : O.length = 1
      · refine W_rK [4, 5] ?_
        refine runA_pre 6 (by simp [dcbC, e1]; rfl) rfl ?_
        refine runA_pre 6 (by simp [dcbC, e1]; rfl) rfl ?_
        refine runA_fin (by simp; rfl) ?_
        refine W_ret ?_
        repeat (first | refine on_ret ?_ | refine in_ret ?_)
        refine fin _ _ _ ?_ (.inr rfl)
        simp [e1]
      have e1b : ((O.length : Int) == 1) = false := by simp; omega
      rcases Bool.eq_false_or_eq_true d.blk with hk2 | hk2
      · have e2 : decide ((1 : Int) < (O.length : Int)) = decide (1 < O.length) := by rw [Bool.eq_iff_iff]; simp; omega
        refine W_rK [4, 5] ?_
        refine runA_pre 6 (by simp [dcbC, e1b, hk2]; rfl) rfl ?_
        refine runA_pre 6 (by simp [dcbC, e1b, hk2]; rfl) rfl ?_
        refine runA_fin (by simp; rfl) ?_
        refine W_ret ?_
        repeat (first | refine on_ret ?_ | refine in_ret ?_)
        refine fin _ _ _ ?_ (.inr rfl)
        simp [e1, hk2, e2]
      · refine W_rK [4, 5] ?_
        refine runA_pre 6 (by simp [dcbC, e1b, hk2]; rfl) rfl ?_
        refine runA_pre 6 (by simp [dcbC, e1b, hk2]; rfl) rfl ?_
        refine runA_fin (by simp; rfl) ?_
        refine W_ret ?_
        repeat (first | refine on_ret ?_ | refine in_ret ?_)
        refine fin _ _ _ ?_ (.inr rfl)
        simp [e1, hk2]
  have ci : (at' : Int) < b.length := by omega
  obtain ⟨k, rfl⟩ : ∃ k', k = k' + 1 := ⟨k - 1, by omega⟩
  have hne : b.drop at' ≠ [] := by
    intro e
    have := congrArg List.length e
    rw [List.length_drop] at this
    simp at this
    omega
  rw [splitGo, if_neg hne] at hgo
  refine W_evK [1, 2, 6, 7, 27] (by simp [c]; rfl) ?_
  refine W_cond rfl (fun h => ?_) (fun h => by simp at h)
  refine W_skip ?_
  refine W_block ?_
  refine W_evK [1, 2, 6, 7, 8] (by simp; rfl) ?_
  have hdl : (b.drop at').length = b.length - at' := List.length_drop
  refine W_seqC (fun s => ∃ at2 : Nat, at' ≤ at2 ∧ at2 ≤ at' + 4 ∧ cutB d (b.drop at') = b.drop at2 ∧ (0 ≤ cutN d (b.drop at') → at2 ≤ b.length) ∧ cutN d (b.drop at') ≤ 1000000000 ∧ -1000 ≤ cutN d (b.drop at') ∧ (d.fmt ≠ 1 → d.fmt ≠ 2 → at2 = 0 ∧ cutN d (b.drop at') = b.length) ∧
      s = ⟨79, [(1, .lst .any 1 (byL b)), (2, .loc 0 0), (6, x), (7, .v (.int .i64 at2)), (8, .v (.int .i64 (cutN d (b.drop at'))))], [.cells 23 (dcbC d)]⟩) ?_ ?_
  · refine W_evK [1, 2, 6, 7, 8, 31] (by simp [dcbC]; rfl) ?_
    refine W_block ?_
    rcases lens_facts hs1 hs2 hlen with ⟨f, l1, l2⟩ | ⟨f, l1, l2⟩ | ⟨f, l1, l2⟩
    · have g1 : (d.fmt == 1) = true := by simp [f]
      have g2 : (d.fmt == 2) = false := by simp [f]
      have hn : cutN d (b.drop at') = d.lrecl := by unfold cutN; rw [if_pos g1]
      have hB : cutB d (b.drop at') = b.drop at' := by unfold cutB; rw [g2]; rfl
      refine W_evK [1, 2, 6, 7, 8, 31, 32] (by simp [g1]; rfl) ?_
      refine W_cond rfl (fun h => ?_) (fun h => by simp at h)
      refine W_evE [1, 2, 6, 7, 8] (by simp [dcbC]; rfl) ?_
      exact ⟨at', by omega, by omega, hB, fun _ => by omega, by omega, by omega, fun h => absurd f h, by rw [hn]; simp [dcbC]⟩
    · have g1 : (d.fmt == 1) = false := by simp [f]
      have g2 : (d.fmt == 2) = true := by simp [f]
      have hn : cutN d (b.drop at') = descd (b.drop at') - 4 := by unfold cutN; rw [g1, if_neg (by simp), if_pos g2]
      have hB : cutB d (b.drop at') = b.drop (at' + 4) := by unfold cutB; rw [if_pos g2, List.drop_drop]
      have hr := descd_rng (b.drop at')
      have w1 : IntKind.i64.wrap (descd (b.drop at') - 4) = descd (b.drop at') - 4 := w64 (by omega) (by omega)
      have w2 : IntKind.i64.wrap ((at' : Int) + 4) = ((at' + 4 : Nat) : Int) := by rw [w64 (by omega) (by omega)]; omega
      refine W_evK [1, 2, 6, 7, 8, 31, 32] (by simp [g1]; rfl) ?_
      refine W_cond rfl (fun h => by simp at h) (fun h => ?_)
      refine W_evK [1, 2, 6, 7, 8, 36] (by simp [g2]; rfl) ?_
      refine W_cond rfl (fun h => ?_) (fun h => by simp at h)
      refine W_rK [1, 2, 6, 7, 8] ?_
      refine runA_pre 2 (by simp; rfl) rfl ?_
      refine runA_call (by simp) (by first | (simp; done) | (simp; rfl)) (rlen_sound b at' hb (by omega)) (by simp; rfl) ?_
      refine runA_fin (by simp [w1]; rfl) ?_
      refine W_evE [1, 2, 6, 7, 8] (by simp [w2, -Int.natCast_add]; rfl) ?_
      refine ⟨at' + 4, by omega, by omega, hB, fun h => ?_, by omega, by omega, fun _ h => absurd f h, by rw [hn]; simp [dcbC]⟩
      have := descd_len (b := b.drop at') (by omega)
      omega
    · have g1 : (d.fmt == 1) = false := by simp [f]
      have g2 : (d.fmt == 2) = false := by simp [f]
      have h0 : at' = 0 := by
        rcases hf3 (by omega) (by omega) with h | h
        · exact h
        · omega
      subst h0
      have hn : cutN d (b.drop 0) = b.length := by unfold cutN; rw [g1, g2]; simp
      have hB : cutB d (b.drop 0) = b.drop 0 := by unfold cutB; rw [g2]; rfl
      refine W_evK [1, 2, 6, 7, 8, 31, 32] (by simp [g1]; rfl) ?_
      refine W_cond rfl (fun h => by simp at h) (fun h => ?_)
      refine W_evK [1, 2, 6, 7, 8, 36] (by simp [g2]; rfl) ?_
      refine W_cond rfl (fun h => by simp at h) (fun h => ?_)
      refine W_keepS [1, 2, 6, 7, 8] ?_
      refine W_skip ?_
      exact ⟨0, by omega, by omega, hB, fun _ => by omega, by omega, by omega, fun _ _ => ⟨rfl, hn⟩, by rw [hn]; simp [dcbC]⟩
  rintro _ ⟨at2, ha1, ha2, hB, hn0, hn1, hn2, hf3', rfl⟩
  obtain ⟨n, hn⟩ : ∃ n, cutN d (b.drop at') = n := ⟨_, rfl⟩
  rw [hn, hB] at hgo
  rw [hn] at hn0 hn1 hn2 hf3'
  rw [hn]
  have hp := piece_sound b at2 n hb (by omega) hn1
  by_cases bad : n < 0 ∨ ((b.drop at2).length : Int) < n
  · rw [if_pos (by rcases bad with h | h; exact .inl h; exact .inr (.inl h))] at hgo
    have e : oneM d b = ([], false) := by unfold oneM; rw [hgo]; simp
    rw [e]
    have hq : pieceM b at2 n = ([], false) := by
      by_cases h : n < 0
      · exact pieceM_neg h
      · have h2 := bad.resolve_left h
        have := hn0 (by omega)
        rw [List.length_drop] at h2
        unfold pieceM
        rw [if_neg h, if_pos (by omega)]
    rw [hq] at hp
    refine W_rK [1, 2, 6, 7, 8, 9, 10] ?_
    refine runA_pre 3 (by simp; rfl) rfl ?_
    refine runA_call (by simp) (by first | (simp; done) | (simp; rfl)) hp (by simp [resP]; rfl) ?_
    refine runA_fin (by simp [resP]; rfl) ?_
    refine W_seq ?_
    refine W_rK [1, 2, 6, 7, 8, 9, 58] ?_
    refine runA_pre 5 (by simp; rfl) rfl ?_
    refine runA_fin (by simp; rfl) ?_
    refine W_cond rfl (fun h => ?_) (fun h => by simp at h)
    refine W_evK [4, 5] (by simp; rfl) ?_
    refine W_ret ?_
    repeat (first | refine on_ret ?_ | refine in_ret ?_)
    exact hfail
  have hpos : 0 ≤ n := Int.not_lt.1 fun h => bad (.inl h)
  have hle2 := hn0 hpos
  obtain ⟨m, rfl⟩ := Int.eq_ofNat_of_zero_le hpos
  have hm : at2 + m ≤ b.length := by
    have h2 : ¬ ((b.drop at2).length : Int) < (m : Nat) := fun h => bad (.inr h)
    rw [List.length_drop] at h2
    omega
  rw [pieceM_ok hm] at hp
  obtain ⟨r, hr⟩ : ∃ r, (b.drop at2).take m = r := ⟨_, rfl⟩
  have hrl : r.length = m := by rw [← hr, List.length_take, List.length_drop]; omega
  rw [hr] at hp
  have hfs := rfits_sound d r
  rw [rfits_eq hd, hrl] at hfs
  refine W_rK [1, 2, 6, 7, 8, 9, 10] ?_
  refine runA_pre 3 (by simp; rfl) rfl ?_
  refine runA_call (by simp) (by first | (simp; done) | (simp; rfl)) hp (by simp [resP]; rfl) ?_
  refine runA_fin (by simp [resP]; rfl) ?_
  refine W_seq ?_
  by_cases hfit : fitsM d m = true
  rotate_left
  · have hfit : fitsM d m = false := by simpa using hfit
    rw [if_pos (.inr (.inr hfit))] at hgo
    have e : oneM d b = ([], false) := by unfold oneM; rw [hgo]; simp
    rw [e]
    rw [hfit] at hfs
    refine W_rK [1, 2, 6, 7, 8, 9, 58] ?_
    refine runA_pre 5 (by simp [dcbC]; rfl) rfl ?_
    refine runA_call (by simp) (by first | (simp; done) | (simp; rfl)) hfs (by simp; rfl) ?_
    refine runA_fin (by simp; rfl) ?_
    refine W_cond rfl (fun h => ?_) (fun h => by simp at h)
    refine W_evK [4, 5] (by simp; rfl) ?_
    refine W_ret ?_
    repeat (first | refine on_ret ?_ | refine in_ret ?_)
    exact hfail
  have hff := fits_facts hd hfit
  rw [if_neg (by rintro (h | h | h); exact bad (.inl h); exact bad (.inr h); rw [hfit] at h; cases h), Int.toNat_natCast, hr, List.drop_drop] at hgo
  rw [hfit] at hfs
  refine W_rK [1, 2, 6, 7, 8, 9, 58] ?_
  refine runA_pre 5 (by simp [dcbC]; rfl) rfl ?_
  refine runA_call (by simp) (by first | (simp; done) | (simp; rfl)) hfs (by simp; rfl) ?_
  refine runA_fin (by simp; rfl) ?_
  refine W_cond rfl (fun h => by simp at h) (fun h => ?_)
  refine W_skip ?_
  have w3 : IntKind.i64.wrap ((at2 : Int) + (m : Nat)) = ((at2 + m : Nat) : Int) := by rw [w64 (by omega) (by omega)]; omega
  have b1 : (O.length + 1) * 24 ≤ 140737488355328 := by omega
  have b2 : 24 * (O.length + 1) ≤ 140737488355328 := by omega
  have hend : ∀ (x2 : AV), outR 125 x2 (O ++ [r]) → ∃ k', k' < k + 1 ∧ ∃ (at' : Nat) (O : List (List UInt8)) (x : AV), at' ≤ b.length ∧ b.length - at' ≤ k' ∧ splitM d b [] = splitGo d k' (b.drop at') O ∧ outR 125 x O ∧ O.length + (b.length - at') ≤ b.length ∧ (d.fmt ≠ 1 → d.fmt ≠ 2 → at' = 0 ∨ at' = b.length) ∧
      (⟨79, [(1, .lst .any 1 (byL b)), (2, .loc 0 0), (6, x2), (7, .v (.int .i64 (at2 + m : Nat)))], [.cells 23 (dcbC d)]⟩ : St) = ⟨79, [(1, .lst .any 1 (byL b)), (2, .loc 0 0), (6, x), (7, .v (.int .i64 at'))], [.cells 23 (dcbC d)]⟩ := fun x2 h2 =>
    ⟨k, by omega, at2 + m, O ++ [r], x2, hm, by omega, hgo, h2, by simp; omega, fun h1 h2 => by have := hf3' h1 h2; right; omega, rfl⟩
  rcases hx with ⟨h0, rfl⟩ | rfl
  · subst h0
    refine W_evK [1, 2, 6, 7, 8] (by simp [catK, AV.cellsK, AV.kone, AV.koneL]; rfl) ?_
    refine W_evE [1, 2, 6, 7] (by simp [w3, -Int.natCast_add]; rfl) ?_
    exact hend _ (.inr (by simp [bbL_cons]))
  · refine W_evK [1, 2, 6, 7, 8] (by simp [catK, AV.cellsK, AV.kone, AV.koneL, b1, b2]; rfl) ?_
    refine W_evE [1, 2, 6, 7] (by simp [w3, -Int.natCast_add]; rfl) ?_
    exact hend _ (.inr (by simp [bbL_append, bbL_cons]))
end Go.AM
