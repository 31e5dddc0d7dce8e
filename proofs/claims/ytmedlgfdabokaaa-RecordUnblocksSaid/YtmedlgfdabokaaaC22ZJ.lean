/- split once more: its rows are made slices that nobody shares. -/
import Derived.Test.YtmedlgfdabokaaaC22I
import Derived.Test.YtmedlgfdabokaaaC22ZG
import Derived.Test.YtmedlgfdabokaaaC22ZB
namespace Go.AM
open Go.RowKit Go.Proofs
set_option linter.unusedSimpArgs false
set_option linter.unusedVariables false
set_option maxHeartbeats 2000000

def rowS (h : List AObj) (c : AV) (B : List UInt8) : Prop := ∃ (j cap : Nat) (bs : List AV), c = .arr j 0 B.length cap ∧ h[j]? = some (.cells 5 bs) ∧ bs.take B.length = byL B ∧ B.length ≤ 1024

def recsN (F : List Nat) (h : List AObj) (x : AV) (O : List (List UInt8)) : Prop :=
  (O = [] ∧ x = .lst .nil 1 []) ∨ (O ≠ [] ∧ ∃ (id : Nat) (cs : List AV), id ∉ F ∧ x = .arr id 0 O.length cs.length ∧ h[id]? = some (.cells 35 cs) ∧ O.length ≤ cs.length ∧ cs.length ≤ maxLen ∧
    ∀ (k : Nat) (B : List UInt8), O[k]? = some B → ∃ c, cs[k]? = some c ∧ rowS h c B)
theorem recsN_keep {F G : List Nat} {h h' : List AObj} {x : AV} {O : List (List UInt8)} (hx : recsN F h x O) (hk : ∀ (i : Nat) (o : AObj), h[i]? = some o → h'[i]? = some o) (hG : ∀ id, id ∉ F → id < h.length → id ∉ G) : recsN G h' x O := by
  rcases hx with h0 | ⟨h1, id, cs, h2, h3, h4, h5, h6, h7⟩
  · exact .inl h0
  · refine .inr ⟨h1, id, cs, hG id h2 (List.getElem?_eq_some_iff.1 h4).1, h3, hk _ _ h4, h5, h6, fun k B hB => ?_⟩
    obtain ⟨c, k1, j, cap, bs, k2, k3, k4⟩ := h7 k B hB
    exact ⟨c, k1, j, cap, bs, k2, hk _ _ k3, k4⟩
theorem recsN_sub {F G : List Nat} {h : List AObj} {x : AV} {O : List (List UInt8)} (hx : recsN F h x O) (hs : ∀ i ∈ G, i ∈ F) : recsN G h x O :=
  recsN_keep hx (fun _ _ h => h) fun id hid _ hg => hid (hs _ hg)
def keepB (hp H : List AObj) : Prop := H[0]? = hp[0]? ∧ H[1]? = hp[1]?

theorem recsN_app {F : List Nat} {h h' : List AObj} {O : List (List UInt8)} {c : List UInt8} {cs cs' bs : List AV} {id' j cap : Nat}
    (hrow : ∀ (k : Nat) (B : List UInt8), O[k]? = some B → ∃ c, cs[k]? = some c ∧ rowS h c B)
    (hkeep : ∀ (i : Nat) (bs : List AV), h[i]? = some (.cells 5 bs) → h'[i]? = some (.cells 5 bs)) (hid : id' ∉ F)
    (hq' : h'[id']? = some (.cells 35 cs')) (hl : O.length + 1 ≤ cs'.length) (hm : cs'.length ≤ maxLen)
    (hcs : ∀ k, k < O.length → cs'[k]? = cs[k]?) (hnew : cs'[O.length]? = some (.arr j 0 c.length cap)) (hj : h'[j]? = some (.cells 5 bs)) (htk : bs.take c.length = byL c) (hc : c.length ≤ 1024) :
    recsN F h' (.arr id' 0 (O.length + 1) cs'.length) (O ++ [c]) := by
  refine .inr ⟨by simp, id', cs', hid, by simp, hq', by simpa using hl, hm, fun k B hB => ?_⟩
  rcases Nat.lt_trichotomy k O.length with g | g | g
  · rw [List.getElem?_append_left g] at hB
    obtain ⟨c0, h1, j2, cap2, bs2, rfl, h3, h4⟩ := hrow k B hB
    exact ⟨_, (hcs k g).trans h1, j2, cap2, bs2, rfl, hkeep _ _ h3, h4⟩
  · subst g
    rw [List.getElem?_append_right (Nat.le_refl _), Nat.sub_self] at hB
    simp at hB
    subst hB
    exact ⟨_, hnew, j, cap, bs, rfl, hj, htk, hc⟩
  · rw [List.getElem?_eq_none (by simp; omega)] at hB
    cases hB
def splitQN (h : List AObj) (p : List (List UInt8) × Bool) (r : AV) (h' : List AObj) : Prop :=
  ∃ x', r = .tup [x', .v (.bool p.2)] ∧ recsN [0, 1] h' x' p.1 ∧ keepB h h' ∧ h.length ≤ h'.length

theorem split_callN (d : Dcb) (b : List UInt8) (O : List (List UInt8)) (x : AV) (hp : List AObj) (hd : checkM d = 0) (hb : b.length ≤ 1000000000) (hO : O.length ≤ 1000000000) (h0 : 1 < hp.length) (hx : recsN [0, 1] hp x O) :
    CallW Try.prog 32 [dcbA d, .lst .any 1 (byL b), x] hp (splitQN hp (splitM d b O)) := by
  refine callW_of_F Try.func32 rfl (by decide +kernel) (by simp [Try.f32]) (rs := [.tmp 6, .tmp 7]) rfl ?_
  rw [show Try.f32.ntmps = 69 from rfl]
  have hret : ∀ (H : List AObj) (x' : AV) (O' : List (List UInt8)) (ok : Bool), splitM d b O = (O', ok) → recsN [0, 1] H x' O' → keepB hp H → hp.length ≤ H.length →
      retF Try.prog [.tmp 6, .tmp 7] (splitQN hp (splitM d b O)) .ret ⟨69, [(6, x'), (7, .v (.bool ok))], H⟩ := by
    intro H x' O' ok hsp h2 h3 h4
    refine ⟨.inr rfl, .tup [x', .v (.bool ok)], by simp [resA, resL], ?_⟩
    rw [hsp]
    exact ⟨x', rfl, h2, h3, h4⟩
  obtain ⟨c1, c2, c3, c4, c5, c6⟩ := check_facts hd
  have hlf := lens_facts c3 c4 c5

  obtain ⟨H0, hH0⟩ : ∃ H0, hp ++ [AObj.cells 23 (dcbC d)] = H0 := ⟨_, rfl⟩
  have hH0l : H0.length = hp.length + 1 := by rw [← hH0]; simp
  have hg0 : H0[hp.length]? = some (.cells 23 (dcbC d)) := by rw [← hH0]; simp
  have h00 : keepB hp H0 := by rw [← hH0]; exact ⟨List.getElem?_append_left (by omega), List.getElem?_append_left h0⟩
  have hx0 : recsN [0, 1, hp.length] H0 x O := by
    refine recsN_keep hx (fun i o hi => ?_) (fun id h2 h3 => ?_)
    · rw [← hH0, List.getElem?_append_left (List.getElem?_eq_some_iff.1 hi).1]; exact hi
    · simp at h2 ⊢; omega
  have hx00 : recsN [0, 1] H0 x O := recsN_sub hx0 (by simp)
  refine W_seqC (fun s => s = ⟨69, [(1, .lst .any 1 (byL b)), (2, x), (3, .loc hp.length 0)], H0⟩) ?_ ?_
  · refine W_evE [1, 2, 3] (by simp; rfl) ?_
    simp [onNormal, ← hH0, dcbC]
  rintro _ rfl
  refine W_seq ?_
  by_cases a1 : d.size < b.length
  · have hsp : splitM d b O = (O, false) := by unfold splitM; rw [if_pos a1]
    refine W_evK [1, 2, 3, 13] (by simp [hg0, dcbC, a1]; rfl) ?_
    refine W_cond rfl (fun h => ?_) (fun h => by simp at h)
    refine W_evK [6, 7] (by simp; rfl) ?_
    refine W_ret ?_
    repeat (first | refine on_ret ?_ | refine in_ret ?_)
    exact hret H0 x O false hsp hx00 h00 (by omega)
  refine W_evK [1, 2, 3, 13] (by simp [hg0, dcbC, a1]; rfl) ?_
  refine W_cond rfl (fun h => by simp at h) (fun h => ?_)
  refine W_skip ?_
  refine W_seqK (fun s => ∃ b1, splitM d b O = splitGo d b.length b1 O ∧ b1.length ≤ b.length ∧ s = ⟨69, [(1, .lst .any 1 (byL b1)), (2, x), (3, .loc hp.length 0)], H0⟩) ?_ ?_
  · rcases Bool.eq_false_or_eq_true (d.fmt == 2) with h1 | h1
    · refine W_evK [1, 2, 3, 17] (by simp [hg0, dcbC, h1]; rfl) ?_
      refine W_cond rfl (fun h => ?_) (fun h => by simp at h)
      refine W_seq ?_
      by_cases a2 : descd b = b.length
      · have h4 : 4 ≤ b.length := descd_len (by omega)
        have hsp : splitM d b O = splitGo d b.length (b.drop 4) O := by unfold splitM; rw [if_neg a1, if_pos h1, if_pos a2]
        refine W_rK [1, 2, 3, 22] ?_
        refine runA_pre 1 (by simp; rfl) rfl ?_
        refine runA_call (by simp) (by first | (simp; done) | (simp; rfl)) (descd_sound b) (by simp; rfl) ?_
        refine runA_fin (by simp [a2]; rfl) ?_
        refine W_cond rfl (fun h => by simp at h) (fun h => ?_)
        refine W_skip ?_
        have h4i : (4 : Int) ≤ b.length := by omega
        refine W_evE [1, 2, 3] (by simp [h4, h4i, ← byL_drop]; rfl) ?_
        exact ⟨_, hsp, by simp, by simp⟩
      · have hsp : splitM d b O = (O, false) := by unfold splitM; rw [if_neg a1, if_pos h1, if_neg a2]
        have a2' : (descd b != (b.length : Int)) = true := by simpa using a2
        refine W_rK [1, 2, 3, 22] ?_
        refine runA_pre 1 (by simp; rfl) rfl ?_
        refine runA_call (by simp) (by first | (simp; done) | (simp; rfl)) (descd_sound b) (by simp; rfl) ?_
        refine runA_fin (by simp [a2']; rfl) ?_
        refine W_cond rfl (fun h => ?_) (fun h => by simp at h)
        refine W_evK [6, 7] (by simp; rfl) ?_
        refine W_ret ?_
        repeat (first | refine on_ret ?_ | refine in_ret ?_)
        exact hret H0 x O false hsp hx00 h00 (by omega)
    · have hsp : splitM d b O = splitGo d b.length b O := by unfold splitM; rw [if_neg a1, h1]; rfl
      refine W_evK [1, 2, 3, 17] (by simp [hg0, dcbC, h1]; rfl) ?_
      refine W_cond rfl (fun h => by simp at h) (fun h => ?_)
      refine W_keepS [1, 2, 3] (W_skip ?_)
      exact ⟨_, hsp, Nat.le_refl _, by simp⟩
  rintro _ ⟨b1, hsp, hb1, rfl⟩
  refine W_seq ?_
  refine W_block ?_
  refine W_loop (fun k s => ∃ (b2 : List UInt8) (O2 : List (List UInt8)) (x2 : AV) (H : List AObj), b2.length ≤ k ∧ b2.length ≤ b.length ∧ splitM d b O = splitGo d k b2 O2 ∧ O2.length + k ≤ O.length + b.length ∧ recsN [0, 1, hp.length] H x2 O2 ∧ keepB hp H ∧ H[hp.length]? = some (.cells 23 (dcbC d)) ∧ hp.length < H.length ∧
      s = ⟨69, [(1, .lst .any 1 (byL b2)), (2, x2), (3, .loc hp.length 0)], H⟩) (k := b.length) ⟨b1, O, x, H0, hb1, hb1, hsp, Nat.le_refl _, hx0, h00, hg0, by omega, by simp⟩ ?_
  clear hsp hb1 hx0 h00 hg0 hx00 hH0l hH0
  rintro k s ⟨b2, O2, x2, H, hk, hb2, hsp, hOl, hx2, hH00, hg, hHl, rfl⟩
  have hx20 : recsN [0, 1] H x2 O2 := recsN_sub hx2 (by simp)
  refine W_seq ?_
  by_cases e : b2 = []
  · subst e
    have hsp2 : splitM d b O = (O2, true) := by
      rw [hsp]
      cases k with
      | zero => rfl
      | succ k => rw [splitGo, if_pos rfl]
    refine W_evK [1, 2, 3, 28] (by simp; rfl) ?_
    refine W_cond rfl (fun h => by simp at h) (fun h => ?_)
    refine W_exit ?_
    refine W_evK [6, 7] (by simp; rfl) ?_
    refine W_ret ?_
    repeat (first | refine on_ret ?_ | refine in_ret ?_)
    exact hret H x2 O2 true hsp2 hx20 hH00 (by omega)
  have hlen : b2.length ≠ 0 := fun h => e (List.eq_nil_of_length_eq_zero h)
  have hleni : (0 : Int) < b2.length := by omega
  have hlenn : 0 < b2.length := by omega
  obtain ⟨k, rfl⟩ : ∃ m, k = m + 1 := ⟨k - 1, by omega⟩
  rw [splitGo, if_neg e] at hsp
  refine W_evK [1, 2, 3, 28] (by simp [hleni, hlenn]; rfl) ?_
  refine W_cond rfl (fun h => ?_) (fun h => by simp at h)
  refine W_skip ?_
  refine W_block ?_
  refine W_evK [1, 2, 3, 8] (by simp; rfl) ?_
  have hrg := descd_rng b2
  refine W_seqK (fun s => ¬ cutN d b2 < 0 ∧ (cutB d b2).length ≤ b2.length ∧ s = ⟨69, [(1, .lst .any 1 (byL (cutB d b2))), (2, x2), (3, .loc hp.length 0), (8, .v (.int .i64 (cutN d b2)))], H⟩) ?_ ?_
  · rcases hlf with ⟨e1, e2, e3⟩ | ⟨e1, e2, e3⟩ | ⟨e1, e2, e3⟩
    · have hN : cutN d b2 = d.lrecl := by unfold cutN; rw [if_pos (by simpa using e1)]
      have hB : cutB d b2 = b2 := by unfold cutB; rw [e1]; rfl
      rw [hN, hB]
      have e1b : (d.fmt == 1) = true := by simpa using e1
      refine W_evK [1, 2, 3, 8, 32] (by simp [hg, dcbC]; rfl) ?_
      refine W_block ?_
      refine W_evK [1, 2, 3, 8, 32, 33] (by simp [e1b]; rfl) ?_
      refine W_cond rfl (fun h => ?_) (fun h => by simp at h)
      refine W_evE [1, 2, 3, 8] (by simp [hg, dcbC]; rfl) ?_
      exact ⟨by omega, Nat.le_refl _, by simp⟩
    · have hN : cutN d b2 = descd b2 - 4 := by unfold cutN; rw [e1]; rfl
      have hB : cutB d b2 = b2.drop 4 := by unfold cutB; rw [e1]; rfl
      have e1b : (d.fmt == 1) = false := by rw [e1]; rfl
      have e2b : (d.fmt == 2) = true := by simpa using e1
      have wd : IntKind.i64.wrap (descd b2 - 4) = descd b2 - 4 := w64 (by omega) (by omega)
      refine W_evK [1, 2, 3, 8, 32] (by simp [hg, dcbC]; rfl) ?_
      refine W_block ?_
      refine W_evK [1, 2, 3, 8, 32, 33] (by simp [e1b]; rfl) ?_
      refine W_cond rfl (fun h => by simp at h) (fun h => ?_)
      refine W_evK [1, 2, 3, 8, 37] (by simp [e2b]; rfl) ?_
      refine W_cond rfl (fun h => ?_) (fun h => by simp at h)
      refine W_rK [1, 2, 3, 8] ?_
      refine runA_pre 1 (by simp; rfl) rfl ?_
      refine runA_call (by simp) (by first | (simp; done) | (simp; rfl)) (descd_sound b2) (by simp; rfl) ?_
      refine runA_fin (by simp [wd]; rfl) ?_
      refine W_seq ?_
      by_cases z : descd b2 - 4 < 0
      · have hsp2 : splitM d b O = (O2, false) := by rw [hsp, if_pos (.inl (by rw [hN]; exact z))]
        refine W_evK [1, 2, 3, 8, 43] (by simp [z]; rfl) ?_
        refine W_cond rfl (fun h => ?_) (fun h => by simp at h)
        refine W_evK [6, 7] (by simp; rfl) ?_
        refine W_ret ?_
        repeat (first | refine on_ret ?_ | refine in_ret ?_)
        exact hret H x2 O2 false hsp2 hx20 hH00 (by omega)
      have h4 : 4 ≤ b2.length := descd_len (by omega)
      have h4i : (4 : Int) ≤ b2.length := by omega
      refine W_evK [1, 2, 3, 8, 43] (by simp [z]; rfl) ?_
      refine W_cond rfl (fun h => by simp at h) (fun h => ?_)
      refine W_skip ?_
      refine W_evE [1, 2, 3, 8] (by simp [h4, h4i, ← byL_drop]; rfl) ?_
      rw [hN, hB]
      exact ⟨z, by simp, by simp⟩
    · have hN : cutN d b2 = b2.length := by unfold cutN; rw [e1]; rfl
      have hB : cutB d b2 = b2 := by unfold cutB; rw [e1]; rfl
      have e1b : (d.fmt == 1) = false := by rw [e1]; rfl
      have e2b : (d.fmt == 2) = false := by rw [e1]; rfl
      rw [hN, hB]
      refine W_evK [1, 2, 3, 8, 32] (by simp [hg, dcbC]; rfl) ?_
      refine W_block ?_
      refine W_evK [1, 2, 3, 8, 32, 33] (by simp [e1b]; rfl) ?_
      refine W_cond rfl (fun h => by simp at h) (fun h => ?_)
      refine W_evK [1, 2, 3, 8, 37] (by simp [e2b]; rfl) ?_
      refine W_cond rfl (fun h => by simp at h) (fun h => ?_)
      refine W_keepS [1, 2, 3, 8] (W_skip ?_)
      exact ⟨by omega, Nat.le_refl _, by simp⟩
  rintro _ ⟨hN0, hBl, rfl⟩
  obtain ⟨n, hn⟩ : ∃ n : Nat, cutN d b2 = n := ⟨(cutN d b2).toNat, by omega⟩
  obtain ⟨B, hB⟩ : ∃ B, cutB d b2 = B := ⟨_, rfl⟩
  rw [hn, hB] at hsp ⊢
  rw [hB] at hBl
  refine W_seq ?_
  by_cases a3 : B.length < n
  · have a3i : (B.length : Int) < n := by omega
    have hsp2 : splitM d b O = (O2, false) := by rw [hsp, if_pos (.inr (.inl a3i))]
    refine W_rK [1, 2, 3, 8, 56] ?_
    refine runA_pre 7 (by simp [a3, a3i]; rfl) rfl ?_
    refine runA_fin (by simp; rfl) ?_
    refine W_cond rfl (fun h => ?_) (fun h => by simp at h)
    refine W_evK [6, 7] (by simp; rfl) ?_
    refine W_ret ?_
    repeat (first | refine on_ret ?_ | refine in_ret ?_)
    exact hret H x2 O2 false hsp2 hx20 hH00 (by omega)
  have a3i : ¬ (B.length : Int) < n := by omega
  refine W_rK [1, 2, 3, 8, 56] ?_
  refine runA_pre 7 (by simp [a3, a3i, hg, dcbC]; rfl) rfl ?_
  refine runA_call (by simp) (by first | (simp; done) | (simp; rfl)) (fits_sound d n) (by simp; rfl) ?_
  rcases Bool.eq_false_or_eq_true (fitsM d n) with hf | hf
  rotate_left
  · have hsp2 : splitM d b O = (O2, false) := by rw [hsp, if_pos (.inr (.inr hf))]
    refine runA_fin (by simp [hf]; rfl) ?_
    refine W_cond rfl (fun h => ?_) (fun h => by simp at h)
    refine W_evK [6, 7] (by simp; rfl) ?_
    refine W_ret ?_
    repeat (first | refine on_ret ?_ | refine in_ret ?_)
    exact hret H x2 O2 false hsp2 hx20 hH00 (by omega)
  obtain ⟨f1, f2, f3, f4⟩ := fits_facts hd hf
  rw [if_neg (by rintro (h1 | h1 | h1); exact absurd h1 (by omega); exact a3i h1; rw [hf] at h1; cases h1), Int.toNat_natCast] at hsp
  refine runA_fin (by simp [hf]; rfl) ?_
  refine W_cond rfl (fun h => by simp at h) (fun h => ?_)
  refine W_skip ?_
  have hnB : n ≤ B.length := by omega
  have hnBi : (n : Int) ≤ B.length := by omega
  have hcl := clone_sound (B.take n) (by simp; omega)
  obtain ⟨c, hc⟩ : ∃ c, B.take n = c := ⟨_, rfl⟩
  rw [hc] at hcl hsp
  have hOl2 : O2.length ≤ 2000000000 := by omega
  have hdl : (B.drop n).length + 1 ≤ b2.length := by simp; omega
  have hcl1 : c.length = n := by rw [← hc, List.length_take]; omega
  have hcb : c ≠ [] := fun e => by rw [e] at hcl1; simp at hcl1; omega
  have hHl1 : 1 < H.length := by omega
  refine W_seqC (fun s => ∃ x3 H3, recsN [0, 1, hp.length] H3 x3 (O2 ++ [c]) ∧ keepB hp H3 ∧ H3[hp.length]? = some (.cells 23 (dcbC d)) ∧ hp.length < H3.length ∧ s = ⟨69, [(1, .lst .any 1 (byL B)), (2, x3), (3, .loc hp.length 0), (8, .v (.int .i64 n))], H3⟩) ?_ ?_
  · refine W_rE [1, 2, 3, 8] ?_
    refine runA_pre 4 (by simp [hnB, hnBi, ← byL_take, hc]; rfl) rfl ?_
    refine runA_obj (f := 34) (args := [.lst .any 1 (byL c)]) (by simp) (by first | (simp; done) | (simp; exact ⟨rfl, rfl⟩)) (callW_thaw (by simpa using hcl) (by simp) (thwL_shal (shalL_byL22 c)) (fun h0 => ?_) (fun capc hc1 hc2 => ?_))
    · exfalso; cases c with | nil => exact hcb rfl | cons x l => simp [byL] at h0
    have hcl2 : (byL c).length = c.length := by simp
    have w1 : AV.weakL (byL c) = byL c := by simp
    rw [hcl2, w1, Nat.mul_one]
    have htk : (byL c ++ List.replicate (capc - c.length) AV.any).take c.length = byL c := List.take_left' hcl2
    obtain ⟨bs, hbs⟩ : ∃ bs, byL c ++ List.replicate (capc - c.length) AV.any = bs := ⟨_, rfl⟩
    rw [hbs] at htk ⊢
    refine ⟨_, by simp; rfl, ?_⟩
    refine runA_b (by simp) ⟨_, by simp [evSame, evBsO, catK, AV.cellsK, AV.kone, AV.koneL]; rfl, ?_⟩
    rcases hx2 with ⟨g1, rfl⟩ | ⟨g1, id, cs, g2, rfl, g4, g5, g6, g7⟩
    · rw [g1, List.nil_append]
      refine runA_nilA (t := 24) (e := 35) (sz := 1) (by_ := 24) (m := 1) (s0 := 1) (x0 := []) (yc := [AV.arr H.length 0 c.length capc]) (by simp) rfl rfl rfl rfl (by simp) (by simp [srcA]) s24 a35 z35 (by simp) (by omega) (by omega) ?_
      intro cap' h1 h2
      refine ⟨_, by simp; rfl, ?_⟩
      refine runA_fin (by simp; rfl) ?_
      have hl3 : (AV.arr H.length 0 c.length capc :: repC (cap' - 1) [AV.lst .nil 1 []]).length = cap' := by simp [repC_length]; omega
      have hr := recsN_app (F := [0, 1, hp.length]) (h := H) (h' := H ++ [AObj.cells 5 bs, AObj.cells 35 [AV.arr H.length 0 c.length capc], AObj.cells 35 (AV.arr H.length 0 c.length capc :: repC (cap' - 1) [AV.lst .nil 1 []])]) (O := []) (c := c) (cs := []) (cs' := AV.arr H.length 0 c.length capc :: repC (cap' - 1) [AV.lst .nil 1 []]) (bs := bs) (id' := H.length + 2) (j := H.length) (cap := capc) (fun k B h => by simp at h)
        (fun i bs hi => by rw [List.getElem?_append_left (List.getElem?_eq_some_iff.1 hi).1]; exact hi) (by simp; omega) (by simp) (by rw [hl3]; exact h1) (by rw [hl3]; exact h2) (fun k hk => by simp at hk) (by simp) (by simp) htk (by omega)
      rw [hl3] at hr
      refine ⟨_, _, hr, ⟨?_, ?_⟩, ?_, ?_, by simp⟩
      · rw [List.getElem?_append_left (by omega)]; exact hH00.1
      · rw [List.getElem?_append_left (by omega)]; exact hH00.2
      · rw [List.getElem?_append_left hHl]; exact hg
      · simp; omega
    · have hidl : id < H.length := (List.getElem?_eq_some_iff.1 g4).1
      have g4' : ∀ X, (H ++ X)[id]? = some (AObj.cells 35 cs) := fun X => by rw [List.getElem?_append_left hidl]; exact g4
      refine runA_appA (t := 24) (e := 35) (sz := 1) (by_ := 24) (id := id) (len := O2.length) (cap := cs.length) (m := 1) (cs := cs) (yc := [AV.arr H.length 0 c.length capc]) (by simp) rfl rfl rfl rfl (by simp) (by simp [srcA]) s24 a35 z35 (by simp) (by simp [g4']) (by simp) (by omega) ?_
      intro s1 x1 hqq
      rcases hqq with ⟨h1, rfl, rfl⟩ | ⟨h1, cap', h2, h3, rfl, rfl⟩
      · have hsl : (setSeg cs (O2.length * 1) [AV.arr H.length 0 c.length capc]).length = cs.length := setSeg_length _ _ _ (by simpa using h1)
        refine ⟨_, by simp; rfl, ?_⟩
        refine runA_fin (by simp; rfl) ?_
        have hr := recsN_app (F := [0, 1, hp.length]) (h := H) (h' := (H ++ [AObj.cells 5 bs, AObj.cells 35 [AV.arr H.length 0 c.length capc]]).set id (AObj.cells 35 (setSeg cs (O2.length * 1) [AV.arr H.length 0 c.length capc]))) (O := O2) (c := c) (cs := cs) (cs' := setSeg cs (O2.length * 1) [AV.arr H.length 0 c.length capc]) (bs := bs) (id' := id) (j := H.length) (cap := capc) g7
          (fun i bs hi => by
            have hie : id ≠ i := by rintro rfl; rw [g4] at hi; cases hi
            rw [List.getElem?_set_ne hie, List.getElem?_append_left (List.getElem?_eq_some_iff.1 hi).1]; exact hi)
          g2 (by rw [List.getElem?_set_self (by simp; omega)]) (by rw [hsl]; exact h1) (by rw [hsl]; exact g6)
          (fun k hk => by rw [setSeg_get _ _ _ (by simpa using h1), if_neg (by omega)])
          (by rw [setSeg_get _ _ _ (by simpa using h1), if_pos (by simp)]; simp)
          (by rw [List.getElem?_set_ne (by omega)]; simp) htk (by omega)
        rw [hsl] at hr
        simp at g2
        refine ⟨_, _, hr, ⟨?_, ?_⟩, ?_, ?_, by simp⟩
        · rw [List.getElem?_set_ne (by omega), List.getElem?_append_left (by omega)]; exact hH00.1
        · rw [List.getElem?_set_ne (by omega), List.getElem?_append_left (by omega)]; exact hH00.2
        · rw [List.getElem?_set_ne (by omega), List.getElem?_append_left hHl]; exact hg
        · simp; omega
      · refine ⟨_, by simp; rfl, ?_⟩
        refine runA_fin (by simp; rfl) ?_
        have hl3 : (cs.take (O2.length * 1) ++ [AV.arr H.length 0 c.length capc] ++ repC (cap' - (O2.length + 1)) [AV.lst .nil 1 []]).length = cap' := by simp [repC_length]; omega
        have hr := recsN_app (F := [0, 1, hp.length]) (h := H) (h' := H ++ [AObj.cells 5 bs, AObj.cells 35 [AV.arr H.length 0 c.length capc], AObj.cells 35 (cs.take (O2.length * 1) ++ [AV.arr H.length 0 c.length capc] ++ repC (cap' - (O2.length + 1)) [AV.lst .nil 1 []])]) (O := O2) (c := c) (cs := cs) (cs' := cs.take (O2.length * 1) ++ [AV.arr H.length 0 c.length capc] ++ repC (cap' - (O2.length + 1)) [AV.lst .nil 1 []]) (bs := bs) (id' := H.length + 2) (j := H.length) (cap := capc) g7
          (fun i bs hi => by rw [List.getElem?_append_left (List.getElem?_eq_some_iff.1 hi).1]; exact hi) (by simp; omega) (by simp) (by rw [hl3]; exact h2) (by rw [hl3]; exact h3)
          (fun k hk => by rw [List.append_assoc, List.getElem?_append_left (by simp; omega), List.getElem?_take, if_pos (by omega)])
          (by rw [List.append_assoc, List.getElem?_append_right (by simp; omega)]; simp [Nat.min_eq_left g5]) (by simp) htk (by omega)
        rw [hl3] at hr
        refine ⟨_, _, hr, ⟨?_, ?_⟩, ?_, ?_, by simp⟩
        · rw [List.getElem?_append_left (by omega)]; exact hH00.1
        · rw [List.getElem?_append_left (by omega)]; exact hH00.2
        · rw [List.getElem?_append_left hHl]; exact hg
        · simp; omega
  rintro _ ⟨x3, H3, k1, k3, k4, k5, rfl⟩
  refine W_evE [1, 2, 3] (by simp [hnB, hnBi, ← byL_drop]; rfl) ?_
  refine ⟨_, Nat.lt_succ_self k, B.drop n, O2 ++ [c], x3, H3, by omega, by omega, hsp, by simp; omega, k1, k3, k4, k5, by simp⟩
end Go.AM
