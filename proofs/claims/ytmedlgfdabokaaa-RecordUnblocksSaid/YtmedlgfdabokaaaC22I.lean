/- split's walk. -/
import Derived.Test.YtmedlgfdabokaaaC22H
namespace Go.AM
open Go.RowKit Go.Proofs
set_option linter.unusedSimpArgs false
set_option linter.unusedVariables false
set_option maxHeartbeats 1000000

def splitQ (h : List AObj) (p : List (List UInt8) × Bool) (r : AV) (h' : List AObj) : Prop :=
  ∃ x', r = .tup [x', .v (.bool p.2)] ∧ recsOk [0] h' x' p.1 ∧ inertR h' ∧ h'[0]? = h[0]? ∧ h.length ≤ h'.length
theorem recs_under {F : List Nat} {h : List AObj} {x : AV} {O : List (List UInt8)} (hx : recsOk F h x O) : x.under h.length = true := by
  rcases hx with ⟨_, rfl⟩ | ⟨_, id, cap, _, rfl, hj, _⟩
  · simp [AV.under]
  · simp only [AV.under, decide_eq_true_eq]
    exact (List.getElem?_eq_some_iff.1 hj).1
theorem recs_sub {F G : List Nat} {h : List AObj} {x : AV} {O : List (List UInt8)} (hx : recsOk F h x O) (hs : ∀ i ∈ G, i ∈ F) : recsOk G h x O := by
  rcases hx with h0 | ⟨h1, id, cap, h2, h3⟩
  · exact .inl h0
  · exact .inr ⟨h1, id, cap, fun hh => h2 (hs _ hh), h3⟩

theorem split_callW (d : Dcb) (b : List UInt8) (O : List (List UInt8)) (x : AV) (hp : List AObj) (hd : checkM d = 0) (hb : b.length ≤ 1000000000) (hO : O.length ≤ 1000000000) (hh : inertR hp) (h0 : 0 < hp.length) (hx : recsOk [0] hp x O) :
    CallW Try.prog 32 [dcbA d, .lst .any 1 (byL b), x] hp (splitQ hp (splitM d b O)) := by
  refine callW_of_W Try.func32 rfl (by decide +kernel) (by simp [Try.f32]) (rs := [.tmp 6, .tmp 7]) rfl ?_
  rw [show Try.f32.ntmps = 69 from rfl]
  have hret : ∀ (H : List AObj) (x' : AV) (O' : List (List UInt8)) (ok : Bool), splitM d b O = (O', ok) → inertR H → recsOk [0] H x' O' → H[0]? = hp[0]? → hp.length ≤ H.length →
      retW Try.prog [.tmp 6, .tmp 7] hp.length (splitQ hp (splitM d b O)) .ret ⟨69, [(6, x'), (7, .v (.bool ok))], H⟩ := by
    intro H x' O' ok hsp h1 h2 h3 h4
    refine ⟨.inr rfl, .tup [x', .v (.bool ok)], .tup [x', .v (.bool ok)], H, H.length, by simp [resA, resL], .inl ⟨rfl, rfl⟩, h4, Nat.le_refl _, ?_, ?_, ?_⟩
    · simp only [AV.under, AV.underL, recs_under h2, Bool.and_true]
    · rw [List.take_length]; exact inertR_under h1 _
    · rw [List.take_length, hsp]
      exact ⟨x', rfl, h2, h1, h3, h4⟩
  obtain ⟨c1, c2, c3, c4, c5, c6⟩ := check_facts hd
  have hlf := lens_facts c3 c4 c5

  obtain ⟨H0, hH0⟩ : ∃ H0, hp ++ [AObj.cells 23 (dcbC d)] = H0 := ⟨_, rfl⟩
  have hH0l : H0.length = hp.length + 1 := by rw [← hH0]; simp
  have hi0 : inertR H0 := by rw [← hH0]; exact inertR_push hh (dcb_inert d)
  have hg0 : H0[hp.length]? = some (.cells 23 (dcbC d)) := by rw [← hH0]; simp
  have h00 : H0[0]? = hp[0]? := by rw [← hH0]; exact List.getElem?_append_left h0
  have hx0 : recsOk [0, hp.length] H0 x O := by
    rcases hx with h1 | ⟨h1, id, cap, h2, h3, h4, h5⟩
    · exact .inl h1
    · have hid := (List.getElem?_eq_some_iff.1 h4).1
      refine .inr ⟨h1, id, cap, ?_, h3, ?_, h5⟩
      · simp at h2 ⊢; omega
      · rw [← hH0]; rw [List.getElem?_append_left hid]; exact h4
  have hx00 : recsOk [0] H0 x O := recs_sub hx0 (by simp)
  refine W_seqC (fun s => s = ⟨69, [(1, .lst .any 1 (byL b)), (2, x), (3, .loc hp.length 0)], H0⟩) ?_ ?_
  · refine W_evE [1, 2, 3] (by simp; rfl) ?_
    simp [onNormal, ← hH0, dcbC]
  rintro _ rfl
  refine W_seq ?_
  by_cases a1 : d.size < b.length
  · have hsp : splitM d b O = (O, false) := by unfold splitM; rw [if_pos a1]
    refine W_evK [1, 2, 3, 13] (by simp [hg0, dcbC, a1]; rfl) ?_
    refine W_cond rfl (fun h => ?_) (fun h => by simp at h)
    refine W_evK [6, 7] (by simp; rfl) ?_
    refine W_ret ?_
    repeat (first | refine on_ret ?_ | refine in_ret ?_)
    exact hret H0 x O false hsp hi0 hx00 h00 (by omega)
  refine W_evK [1, 2, 3, 13] (by simp [hg0, dcbC, a1]; rfl) ?_
  refine W_cond rfl (fun h => by simp at h) (fun h => ?_)
  refine W_skip ?_
  refine W_seqK (fun s => ∃ b1, splitM d b O = splitGo d b.length b1 O ∧ b1.length ≤ b.length ∧ s = ⟨69, [(1, .lst .any 1 (byL b1)), (2, x), (3, .loc hp.length 0)], H0⟩) ?_ ?_
  · rcases Bool.eq_false_or_eq_true (d.fmt == 2) with h1 | h1
    · refine W_evK [1, 2, 3, 17] (by simp [hg0, dcbC, h1]; rfl) ?_
      refine W_cond rfl (fun h => ?_) (fun h => by simp at h)
      refine W_seq ?_
      by_cases a2 : descd b = b.length
      · have h4 : 4 ≤ b.length := descd_len (by omega)
        have hsp : splitM d b O = splitGo d b.length (b.drop 4) O := by unfold splitM; rw [if_neg a1, if_pos h1, if_pos a2]
        refine W_rK [1, 2, 3, 22] ?_
        refine runA_pre 1 (by simp; rfl) rfl ?_
        refine runA_call (by simp) (by first | (simp; done) | (simp; rfl)) (descd_sound b) (by simp; rfl) ?_
        refine runA_fin (by simp [a2]; rfl) ?_
        refine W_cond rfl (fun h => by simp at h) (fun h => ?_)
        refine W_skip ?_
        have h4i : (4 : Int) ≤ b.length := by omega
        refine W_evE [1, 2, 3] (by simp [h4, h4i, ← byL_drop]; rfl) ?_
        exact ⟨_, hsp, by simp, by simp⟩
      · have hsp : splitM d b O = (O, false) := by unfold splitM; rw [if_neg a1, if_pos h1, if_neg a2]
        have a2' : (descd b != (b.length : Int)) = true := by simpa using a2
        refine W_rK [1, 2, 3, 22] ?_
        refine runA_pre 1 (by simp; rfl) rfl ?_
        refine runA_call (by simp) (by first | (simp; done) | (simp; rfl)) (descd_sound b) (by simp; rfl) ?_
        refine runA_fin (by simp [a2']; rfl) ?_
        refine W_cond rfl (fun h => ?_) (fun h => by simp at h)
        refine W_evK [6, 7] (by simp; rfl) ?_
        refine W_ret ?_
        repeat (first | refine on_ret ?_ | refine in_ret ?_)
        exact hret H0 x O false hsp hi0 hx00 h00 (by omega)
    · have hsp : splitM d b O = splitGo d b.length b O := by unfold splitM; rw [if_neg a1, h1]; rfl
      refine W_evK [1, 2, 3, 17] (by simp [hg0, dcbC, h1]; rfl) ?_
      refine W_cond rfl (fun h => by simp at h) (fun h => ?_)
      refine W_keepS [1, 2, 3] (W_skip ?_)
      exact ⟨_, hsp, Nat.le_refl _, by simp⟩
  rintro _ ⟨b1, hsp, hb1, rfl⟩
  refine W_seq ?_
  refine W_block ?_
  refine W_loop (fun k s => ∃ (b2 : List UInt8) (O2 : List (List UInt8)) (x2 : AV) (H : List AObj), b2.length ≤ k ∧ b2.length ≤ b.length ∧ splitM d b O = splitGo d k b2 O2 ∧ O2.length + k ≤ O.length + b.length ∧ recsOk [0, hp.length] H x2 O2 ∧ inertR H ∧ H[0]? = hp[0]? ∧ H[hp.length]? = some (.cells 23 (dcbC d)) ∧ hp.length < H.length ∧
      s = ⟨69, [(1, .lst .any 1 (byL b2)), (2, x2), (3, .loc hp.length 0)], H⟩) (k := b.length) ⟨b1, O, x, H0, hb1, hb1, hsp, Nat.le_refl _, hx0, hi0, h00, hg0, by omega, by simp⟩ ?_
  clear hsp hb1 hx0 hi0 h00 hg0 hx00 hH0l hH0
  rintro k s ⟨b2, O2, x2, H, hk, hb2, hsp, hOl, hx2, hiH, hH00, hg, hHl, rfl⟩
  have hx20 : recsOk [0] H x2 O2 := recs_sub hx2 (by simp)
  refine W_seq ?_
  by_cases e : b2 = []
  · subst e
    have hsp2 : splitM d b O = (O2, true) := by
      rw [hsp]
      cases k with
      | zero => rfl
      | succ k => rw [splitGo, if_pos rfl]
    refine W_evK [1, 2, 3, 28] (by simp; rfl) ?_
    refine W_cond rfl (fun h => by simp at h) (fun h => ?_)
    refine W_exit ?_
    refine W_evK [6, 7] (by simp; rfl) ?_
    refine W_ret ?_
    repeat (first | refine on_ret ?_ | refine in_ret ?_)
    exact hret H x2 O2 true hsp2 hiH hx20 hH00 (by omega)
  have hlen : b2.length ≠ 0 := fun h => e (List.eq_nil_of_length_eq_zero h)
  have hleni : (0 : Int) < b2.length := by omega
  have hlenn : 0 < b2.length := by omega
  obtain ⟨k, rfl⟩ : ∃ m, k = m + 1 := ⟨k - 1, by omega⟩
  rw [splitGo, if_neg e] at hsp
  refine W_evK [1, 2, 3, 28] (by simp [hleni, hlenn]; rfl) ?_
  refine W_cond rfl (fun h => ?_) (fun h => by simp at h)
  refine W_skip ?_
  refine W_block ?_
  refine W_evK [1, 2, 3, 8] (by simp; rfl) ?_
  have hrg := descd_rng b2
  refine W_seqK (fun s => ¬ cutN d b2 < 0 ∧ (cutB d b2).length ≤ b2.length ∧ s = ⟨69, [(1, .lst .any 1 (byL (cutB d b2))), (2, x2), (3, .loc hp.length 0), (8, .v (.int .i64 (cutN d b2)))], H⟩) ?_ ?_
  · rcases hlf with ⟨e1, e2, e3⟩ | ⟨e1, e2, e3⟩ | ⟨e1, e2, e3⟩
    · have hN : cutN d b2 = d.lrecl := by unfold cutN; rw [if_pos (by simpa using e1)]
      have hB : cutB d b2 = b2 := by unfold cutB; rw [e1]; rfl
      rw [hN, hB]
      have e1b : (d.fmt == 1) = true := by simpa using e1
      refine W_evK [1, 2, 3, 8, 32] (by simp [hg, dcbC]; rfl) ?_
      refine W_block ?_
      refine W_evK [1, 2, 3, 8, 32, 33] (by simp [e1b]; rfl) ?_
      refine W_cond rfl (fun h => ?_) (fun h => by simp at h)
      refine W_evE [1, 2, 3, 8] (by simp [hg, dcbC]; rfl) ?_
      exact ⟨by omega, Nat.le_refl _, by simp⟩
    · have hN : cutN d b2 = descd b2 - 4 := by unfold cutN; rw [e1]; rfl
      have hB : cutB d b2 = b2.drop 4 := by unfold cutB; rw [e1]; rfl
      have e1b : (d.fmt == 1) = false := by rw [e1]; rfl
      have e2b : (d.fmt == 2) = true := by simpa using e1
      have wd : IntKind.i64.wrap (descd b2 - 4) = descd b2 - 4 := w64 (by omega) (by omega)
      refine W_evK [1, 2, 3, 8, 32] (by simp [hg, dcbC]; rfl) ?_
      refine W_block ?_
      refine W_evK [1, 2, 3, 8, 32, 33] (by simp [e1b]; rfl) ?_
      refine W_cond rfl (fun h => by simp at h) (fun h => ?_)
      refine W_evK [1, 2, 3, 8, 37] (by simp [e2b]; rfl) ?_
      refine W_cond rfl (fun h => ?_) (fun h => by simp at h)
      refine W_rK [1, 2, 3, 8] ?_
      refine runA_pre 1 (by simp; rfl) rfl ?_
      refine runA_call (by simp) (by first | (simp; done) | (simp; rfl)) (descd_sound b2) (by simp; rfl) ?_
      refine runA_fin (by simp [wd]; rfl) ?_
      refine W_seq ?_
      by_cases z : descd b2 - 4 < 0
      · have hsp2 : splitM d b O = (O2, false) := by rw [hsp, if_pos (.inl (by rw [hN]; exact z))]
        refine W_evK [1, 2, 3, 8, 43] (by simp [z]; rfl) ?_
        refine W_cond rfl (fun h => ?_) (fun h => by simp at h)
        refine W_evK [6, 7] (by simp; rfl) ?_
        refine W_ret ?_
        repeat (first | refine on_ret ?_ | refine in_ret ?_)
        exact hret H x2 O2 false hsp2 hiH hx20 hH00 (by omega)
      have h4 : 4 ≤ b2.length := descd_len (by omega)
      have h4i : (4 : Int) ≤ b2.length := by omega
      refine W_evK [1, 2, 3, 8, 43] (by simp [z]; rfl) ?_
      refine W_cond rfl (fun h => by simp at h) (fun h => ?_)
      refine W_skip ?_
      refine W_evE [1, 2, 3, 8] (by simp [h4, h4i, ← byL_drop]; rfl) ?_
      rw [hN, hB]
      exact ⟨z, by simp, by simp⟩
    · have hN : cutN d b2 = b2.length := by unfold cutN; rw [e1]; rfl
      have hB : cutB d b2 = b2 := by unfold cutB; rw [e1]; rfl
      have e1b : (d.fmt == 1) = false := by rw [e1]; rfl
      have e2b : (d.fmt == 2) = false := by rw [e1]; rfl
      rw [hN, hB]
      refine W_evK [1, 2, 3, 8, 32] (by simp [hg, dcbC]; rfl) ?_
      refine W_block ?_
      refine W_evK [1, 2, 3, 8, 32, 33] (by simp [e1b]; rfl) ?_
      refine W_cond rfl (fun h => by simp at h) (fun h => ?_)
      refine W_evK [1, 2, 3, 8, 37] (by simp [e2b]; rfl) ?_
      refine W_cond rfl (fun h => by simp at h) (fun h => ?_)
      refine W_keepS [1, 2, 3, 8] (W_skip ?_)
      exact ⟨by omega, Nat.le_refl _, by simp⟩
  rintro _ ⟨hN0, hBl, rfl⟩
  obtain ⟨n, hn⟩ : ∃ n : Nat, cutN d b2 = n := ⟨(cutN d b2).toNat, by omega⟩
  obtain ⟨B, hB⟩ : ∃ B, cutB d b2 = B := ⟨_, rfl⟩
  rw [hn, hB] at hsp ⊢
  rw [hB] at hBl
  refine W_seq ?_
  by_cases a3 : B.length < n
  · have a3i : (B.length : Int) < n := by omega
    have hsp2 : splitM d b O = (O2, false) := by rw [hsp, if_pos (.inr (.inl a3i))]
    refine W_rK [1, 2, 3, 8, 56] ?_
    refine runA_pre 7 (by simp [a3, a3i]; rfl) rfl ?_
    refine runA_fin (by simp; rfl) ?_
    refine W_cond rfl (fun h => ?_) (fun h => by simp at h)
    refine W_evK [6, 7] (by simp; rfl) ?_
    refine W_ret ?_
    repeat (first | refine on_ret ?_ | refine in_ret ?_)
    exact hret H x2 O2 false hsp2 hiH hx20 hH00 (by omega)
  have a3i : ¬ (B.length : Int) < n := by omega
  refine W_rK [1, 2, 3, 8, 56] ?_
  refine runA_pre 7 (by simp [a3, a3i, hg, dcbC]; rfl) rfl ?_
  refine runA_call (by simp) (by first | (simp; done) | (simp; rfl)) (fits_sound d n) (by simp; rfl) ?_
  rcases Bool.eq_false_or_eq_true (fitsM d n) with hf | hf
  rotate_left
  · have hsp2 : splitM d b O = (O2, false) := by rw [hsp, if_pos (.inr (.inr hf))]
    refine runA_fin (by simp [hf]; rfl) ?_
    refine W_cond rfl (fun h => ?_) (fun h => by simp at h)
    refine W_evK [6, 7] (by simp; rfl) ?_
    refine W_ret ?_
    repeat (first | refine on_ret ?_ | refine in_ret ?_)
    exact hret H x2 O2 false hsp2 hiH hx20 hH00 (by omega)
  obtain ⟨f1, f2, f3, f4⟩ := fits_facts hd hf
  rw [if_neg (by rintro (h1 | h1 | h1); exact absurd h1 (by omega); exact a3i h1; rw [hf] at h1; cases h1), Int.toNat_natCast] at hsp
  refine runA_fin (by simp [hf]; rfl) ?_
  refine W_cond rfl (fun h => by simp at h) (fun h => ?_)
  refine W_skip ?_
  have hnB : n ≤ B.length := by omega
  have hnBi : (n : Int) ≤ B.length := by omega
  have hcl := clone_sound (B.take n) (by simp; omega)
  obtain ⟨c, hc⟩ : ∃ c, B.take n = c := ⟨_, rfl⟩
  rw [hc] at hcl hsp
  have hOl2 : O2.length ≤ 2000000000 := by omega
  have hdl : (B.drop n).length + 1 ≤ b2.length := by simp; omega
  have hFl : ∀ i ∈ [0, hp.length], i < H.length := by
    intro i hi
    simp at hi
    rcases hi with rfl | rfl <;> omega
  refine W_seqC (fun s => ∃ x3 H3, recsOk [0, hp.length] H3 x3 (O2 ++ [c]) ∧ inertR H3 ∧ H3[0]? = hp[0]? ∧ H3[hp.length]? = some (.cells 23 (dcbC d)) ∧ hp.length < H3.length ∧ s = ⟨69, [(1, .lst .any 1 (byL B)), (2, x3), (3, .loc hp.length 0), (8, .v (.int .i64 n))], H3⟩) ?_ ?_
  · rcases hx2 with ⟨g1, rfl⟩ | ⟨g1, id, cap, g2, rfl, g4, g5, g6⟩
    · rw [g1, List.nil_append]
      refine W_rE [1, 2, 3, 8] ?_
      refine runA_pre 4 (by simp [hnB, hnBi, ← byL_take, hc]; rfl) rfl ?_
      refine runA_call (by simp) (by first | (simp; done) | (simp; rfl)) hcl (by simp; rfl) ?_
      refine runA_pre 1 (by simp; rfl) rfl ?_
      refine runA_nil (s0 := 1) (x0 := []) (oy := .tip 35 254) (ys := [.lst .any 1 (byL c)]) (by simp) rfl rfl rfl rfl (by simp) (by simp) s24 a35 z35 (by simp) (by simp [catK, AV.cellsK, AV.kone, AV.koneL]; rfl) (by simp) (by simp) ?_
      intro cap' hc1 hc2
      refine ⟨_, by simp; rfl, ?_⟩
      refine runA_fin (by simp; rfl) ?_
      have hrc : AV.weakL [AV.lst Fl.any 1 (byL c)] ++ repC (cap' - [AV.lst Fl.any 1 (byL c)].length) (AV.lst .nil 1 []).cells = recsC [c] cap' := by
        rw [show (AV.lst .nil 1 []).cells = [AV.lst .nil 1 []] from rfl, repC_nils]
        simp [recsC, bbL_cons, AV.weakL, AV.weak, Fl.wk]
      have hn := recs_new (F := [0, hp.length]) (h := H) (c := c) (cap := cap') hFl (by simpa using hc1) hc2
      refine ⟨_, _, hn, inertR_push hiH (recs_inert _ _), ?_, ?_, by simp; omega, by rw [← hrc]; simp⟩
      · rw [List.getElem?_append_left (by omega)]; exact hH00
      · rw [List.getElem?_append_left hHl]; exact hg
    · refine W_rE [1, 2, 3, 8] ?_
      refine runA_pre 4 (by simp [hnB, hnBi, ← byL_take, hc]; rfl) rfl ?_
      refine runA_call (by simp) (by first | (simp; done) | (simp; rfl)) hcl (by simp; rfl) ?_
      refine runA_pre 1 (by simp; rfl) rfl ?_
      refine runA_app (id := id) (len := O2.length) (cap := cap) (oy := .tip 35 254) (ys := [.lst .any 1 (byL c)]) (cs := recsC O2 cap) (by simp) rfl rfl rfl rfl (by simp) (by simp) s24 a35 z35 (by simp) (by simp [g4]) (by simp [recsC, nils]; omega) (by simp [catK, AV.cellsK, AV.kone, AV.koneL]; rfl) (by simp; omega) ?_
      intro s1 x1' happ
      obtain ⟨H', rfl, j1, j2, j3, j4⟩ := recs_app (F := [0, hp.length]) (c := c) hiH (fun i hi => hFl i hi) g2 g1 g4 g5 g6 happ
      have hx1 : ∃ id' cap', x1' = .arr id' 0 (O2 ++ [c]).length cap' := by
        rcases j2 with ⟨z, _⟩ | ⟨_, id', cap', _, z, _⟩
        · simp at z
        · exact ⟨id', cap', z⟩
      obtain ⟨id', cap', rfl⟩ := hx1
      refine ⟨_, by simp; rfl, ?_⟩
      refine runA_fin (by simp; rfl) ?_
      refine ⟨_, H', j2, j1, (j3 0 (by simp)).trans hH00, (j3 hp.length (by simp)).trans hg, Nat.lt_of_lt_of_le hHl j4, by simp⟩
  rintro _ ⟨x3, H3, k1, k2, k3, k4, k5, rfl⟩
  refine W_evE [1, 2, 3] (by simp [hnB, hnBi, ← byL_drop]; rfl) ?_
  refine ⟨_, Nat.lt_succ_self k, B.drop n, O2 ++ [c], x3, H3, by omega, by omega, hsp, by simp; omega, k1, k2, k3, k4, k5, by simp⟩
end Go.AM
