/- The specification's Blocks. -/
import Derived.Test.YtknlmgnfflfpeaaC23R
namespace Go.AM
open Go.RowKit Go.Proofs
set_option linter.unusedSimpArgs false
set_option linter.unusedVariables false
set_option maxHeartbeats 1000000

def outC (x : AV) (O : List (List UInt8)) : Prop := (O = [] ∧ x = .lst .nil 1 []) ∨ x = .lst (.tip 47 113) 1 (bbL O)
theorem rblocks_sound (t : List (List Rec)) (ht : t.length ≤ 100000) (hs : ∀ l ∈ t, trSm l) : Sound Try.prog 37 [.lst .any 1 (arL t)] (resB (blocksM t)) := by
  refine sound_of_U Try.func37 rfl (by decide +kernel) (by simp [Try.f37]) rfl rfl (rs := [.tmp 2, .tmp 3]) rfl ?_
  rw [show Try.f37.ntmps = 57 from rfl]
  obtain ⟨B, hB⟩ : ∃ B, blocksM t = B := ⟨_, rfl⟩
  rw [hB]
  refine W_evK [0] (by simp; rfl) ?_
  refine W_evK [0, 4] (by simp; rfl) ?_
  refine W_seq ?_
  refine W_evK [0, 4, 5] (by simp; rfl) ?_
  refine W_block ?_
  refine W_loop (fun k s => ∃ (i : Nat) (o : List (List UInt8)) (x : AV), k = t.length - i ∧ i ≤ t.length ∧ blkGo (t.drop i) o = B ∧ outC x o ∧ o.length ≤ 1000000 * i ∧
      s = ⟨57, [(0, .lst .any 1 (arL t)), (4, x), (5, .v (.int .i64 (i : Nat)))], []⟩) (k := t.length) ⟨0, [], _, rfl, by omega, hB, .inl ⟨rfl, rfl⟩, by simp, by simp⟩ ?_
  rintro k s ⟨i, o, x, rfl, hi, hgo, hx, ho, rfl⟩
  refine W_seq ?_
  by_cases c : i < t.length
  rotate_left
  · refine W_evK [0, 4, 5, 11] (by simp [c]; rfl) ?_
    refine W_cond rfl (fun h => by simp at h) (fun h => ?_)
    refine W_exit ?_
    have hie : i = t.length := by omega
    subst hie
    rw [List.drop_length, blkGo] at hgo
    subst hgo
    refine W_evK [2, 3] (by simp; rfl) ?_
    refine W_ret ?_
    repeat (first | refine on_ret ?_ | refine in_ret ?_)
    exact ⟨.tup [.lst .nil 1 [], .v (.int .i64 5)], by simp [retQ], .tup2 (.nil (by decide +kernel)) (.refl _)⟩
  have ci : (i : Int) < t.length := by omega
  obtain ⟨l, hli⟩ : ∃ l, t[i]? = some l := ⟨_, List.getElem?_eq_getElem c⟩
  have hl2 : t[i]'c = l := by rw [List.getElem?_eq_getElem c] at hli; exact Option.some.inj hli
  have hsm := hs l (List.mem_of_getElem? hli)
  have wi := w64 (n := (i : Int) + 1) (by omega) (by omega)
  have hdr : t.drop i = l :: t.drop (i + 1) := by rw [List.drop_eq_getElem_cons c, hl2]
  rw [hdr, blkGo] at hgo
  refine W_evK [0, 4, 5, 11] (by simp [c]; rfl) ?_
  refine W_cond rfl (fun h => ?_) (fun h => by simp at h)
  refine W_skip ?_
  refine W_seq ?_
  refine W_block ?_
  refine W_evK [0, 4, 5, 6] (by simp; rfl) ?_
  refine W_block ?_
  refine W_loop (fun k s => ∃ (j : Nat) (o' : List (List UInt8)) (x' : AV), k = l.length - j ∧ j ≤ l.length ∧ trk 0 l o = trk j (l.drop j) o' ∧ outC x' o' ∧ o'.length ≤ o.length + j ∧
    s = ⟨57, [(0, .lst .any 1 (arL t)), (4, x'), (5, .v (.int .i64 (i : Nat))), (6, .v (.int .i64 (j : Nat)))], []⟩) (k := l.length) ⟨0, o, x, rfl, by omega, rfl, hx, by omega, by simp⟩ ?_
  rintro k s ⟨j, o', x', rfl, hj, htr, hx', ho', rfl⟩
  refine W_seq ?_
  by_cases d : j < l.length
  rotate_left
  · refine W_evK [0, 4, 5, 6, 20] (by simp [c, ci, hl2, d]; rfl) ?_
    refine W_cond rfl (fun h => by simp at h) (fun h => ?_)
    refine W_exit ?_
    have hje : j = l.length := by omega
    subst hje
    rw [List.drop_length, trk] at htr
    rw [htr, if_pos rfl] at hgo
    refine W_evE [0, 4, 5] (by simp [wi]; rfl) ?_
    exact ⟨_, by omega, i + 1, o', x', rfl, by omega, hgo, hx', by have := hsm.1; omega, by simp⟩
  have dj : (j : Int) < l.length := by omega
  obtain ⟨r, hrj⟩ : ∃ r, l[j]? = some r := ⟨_, List.getElem?_eq_getElem d⟩
  have hr2 : l[j]'d = r := by rw [List.getElem?_eq_getElem d] at hrj; exact Option.some.inj hrj
  have hrs := hsm.2 r (List.mem_of_getElem? hrj)
  have wj := w64 (n := (j : Int) + 1) (by omega) (by have := hsm.1; omega)
  have hdl : l.drop j = r :: l.drop (j + 1) := by rw [List.drop_eq_getElem_cons d, hr2]
  rw [hdl, trk] at htr
  refine W_evK [0, 4, 5, 6, 20] (by simp [c, ci, hl2, d, dj]; rfl) ?_
  refine W_cond rfl (fun h => ?_) (fun h => by simp at h)
  refine W_skip ?_
  refine W_seq ?_
  refine W_block ?_
  refine W_evK [0, 4, 5, 6, 7] (by simp [c, ci, hl2, d, dj, hr2, setSeg]; rfl) ?_
  refine W_seq ?_
  refine W_seqC (fun s => s = ⟨57, [(0, .lst .any 1 (arL t)), (4, x'), (5, .v (.int .i64 (i : Nat))), (6, .v (.int .i64 (j : Nat))), (7, .loc 0 0), (44, .v (.bool (decide (rk (j + 1) r = 2))))], [.cells 49 [.v (.int .i64 r.R), .lst .any 1 (byL r.key), .lst .any 1 (byL r.data), .v (.bool r.bad)]]⟩) ?_ ?_
  · by_cases e1 : r.bad = true
    · have hk : rk (j + 1) r = 2 := by simp [rk, e1]
      refine W_rE [0, 4, 5, 6, 7, 44] ?_
      refine runA_pre 6 (by simp [e1]; rfl) rfl ?_
      refine runA_pre 6 (by simp [e1]; rfl) rfl ?_
      refine runA_fin (by simp; rfl) ?_
      simp [onNormal, hk, e1]
    · have e1' : r.bad = false := by simpa using e1
      by_cases e2 : r.key = []
      · by_cases e3 : r.R = (j : Int) + 1
        · have hk : rk (j + 1) r ≠ 2 := by simp [rk, e1', e2, e3]; split <;> simp
          refine W_rE [0, 4, 5, 6, 7, 44] ?_
          refine runA_pre 6 (by simp [e1', e2]; rfl) rfl ?_
          refine runA_pre 6 (by simp [e1', e2, e3]; rfl) rfl ?_
          refine runA_fin (by simp [e3, wj]; rfl) ?_
          simp [onNormal, hk, e1', e2, e3]
        · have e3' : (r.R != (j : Int) + 1) = true := by simpa using e3
          have hk : rk (j + 1) r = 2 := by simp [rk]; intro _ _ h; exact absurd h e3
          refine W_rE [0, 4, 5, 6, 7, 44] ?_
          refine runA_pre 6 (by simp [e1', e2]; rfl) rfl ?_
          refine runA_pre 6 (by simp [e1', e2]; rfl) rfl ?_
          refine runA_fin (by simp [e3', wj]; rfl) ?_
          simp [onNormal, hk, e1', e2, e3']
      · have e2' : 0 < r.key.length := List.length_pos_iff.2 e2
        have hk : rk (j + 1) r = 2 := by simp [rk, e2]
        refine W_rE [0, 4, 5, 6, 7, 44] ?_
        refine runA_pre 6 (by simp [e1', e2']; rfl) rfl ?_
        refine runA_pre 6 (by simp [e1', e2, e2']; rfl) rfl ?_
        refine runA_fin (by simp; rfl) ?_
        simp [onNormal, hk, e1', e2]
  rintro _ rfl
  by_cases e4 : rk (j + 1) r = 2
  · rw [if_neg (by omega), e4] at htr
    rw [htr, if_neg (by simp), if_neg (by simp)] at hgo
    subst hgo
    rw [decide_eq_true e4]
    refine W_cond rfl (fun h => ?_) (fun h => by simp at h)
    refine W_evK [2, 3] (by simp; rfl) ?_
    refine W_ret ?_
    repeat (first | refine on_ret ?_ | refine in_ret ?_)
    exact ⟨.tup [.lst .nil 1 [], .v (.int .i64 5)], by simp [retQ], .tup2 (.nil (by decide +kernel)) (.refl _)⟩
  have hb3 : r.bad = false ∧ r.key = [] ∧ r.R = (j : Int) + 1 := by
    refine ⟨?_, ?_, ?_⟩ <;> (refine Classical.byContradiction fun h => e4 ?_) <;> simp [rk, h]
    all_goals (intro _ _ h2; exact absurd h2 h)
  rw [decide_eq_false e4]
  refine W_cond rfl (fun h => by simp at h) (fun h => ?_)
  refine W_skip ?_
  refine W_seq ?_
  by_cases e5 : r.data = []
  · have hk : rk (j + 1) r = 1 := by simp [rk, hb3, e5]
    rw [hk, if_neg (by omega)] at htr
    rw [htr, if_neg (by simp), if_pos rfl] at hgo
    subst hgo
    refine W_seq ?_
    refine W_evE [4, 48] (by simp [e5]; rfl) ?_
    refine W_cond rfl (fun h => ?_) (fun h => by simp at h)
    rcases hx' with ⟨h0, rfl⟩ | rfl
    · subst h0
      refine W_evK [2, 3] (by simp; rfl) ?_
      refine W_ret ?_
      repeat (first | refine on_ret ?_ | refine in_ret ?_)
      exact ⟨.tup [.lst .nil 1 [], .v (.int .i64 0)], by simp [retQ], .tup2 (.nil (by decide +kernel)) (.refl _)⟩
    · refine W_evK [2, 3] (by simp; rfl) ?_
      refine W_ret ?_
      repeat (first | refine on_ret ?_ | refine in_ret ?_)
      exact ⟨_, by simp [retQ]; exact ⟨rfl, by simp⟩, .norm fun T => by simp [resB]⟩
  · have hk : rk (j + 1) r = 0 := by simp [rk, hb3, e5]
    rw [hk, if_pos rfl] at htr
    have e5' : (r.data.length == 0) = false := by simpa using e5
    refine W_seq ?_
    refine W_evE [0, 4, 5, 6, 7, 48] (by simp [e5']; rfl) ?_
    refine W_cond rfl (fun h => by simp at h; exact absurd h e5) (fun h => ?_)
    refine W_skip ?_
    have h2 := hrs.2
    have bd : r.data.length ≤ 140737488355328 := by omega
    have bo : (o'.length + 1) * 24 ≤ 140737488355328 := by have := hsm.1; omega
    have bo' : 24 * (o'.length + 1) ≤ 140737488355328 := by omega
    rcases hx' with ⟨h0, rfl⟩ | rfl
    · subst h0
      refine W_evE [0, 4, 5, 6] (by simp [bd, catK, AV.cellsK, AV.kone, AV.koneL]; rfl) ?_
      refine W_cutH 0 (by omega) (by omega) (by simp [frUnder, AV.under, AV.underL]) (by simp [underH]) ?_
      refine W_evE [0, 4, 5, 6] (by simp [wj]; rfl) ?_
      refine ⟨_, by omega, j + 1, _, _, rfl, by omega, htr, .inr rfl, by simp; omega, ?_⟩
      simp [bbL_append, bbL_cons]
    · refine W_evE [0, 4, 5, 6] (by simp [bd, catK, AV.cellsK, AV.kone, AV.koneL, bo, bo']; rfl) ?_
      refine W_cutH 0 (by omega) (by omega) (by simp [frUnder, AV.under, AV.underL]) (by simp [underH]) ?_
      refine W_evE [0, 4, 5, 6] (by simp [wj]; rfl) ?_
      refine ⟨_, by omega, j + 1, _, _, rfl, by omega, htr, .inr rfl, by simp; omega, ?_⟩
      simp [bbL_append, bbL_cons]
end Go.AM
