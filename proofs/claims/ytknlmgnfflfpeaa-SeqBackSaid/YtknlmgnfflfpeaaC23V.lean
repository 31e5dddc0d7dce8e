/- SeqBack: the law's walk. -/
import Derived.Test.YtknlmgnfflfpeaaC23S
namespace Go.AM
open Go.RowKit Go.Proofs
set_option linter.unusedSimpArgs false
set_option linter.unusedVariables false
set_option maxHeartbeats 1000000

theorem back_sound (d : Dcb) (l : List (List UInt8)) (hl : l.length ≤ 9223372036854775807) : Sound Try.prog 6 [dcbA d, .lst .any 1 (bbL l)] (.v (.bool true)) := by
  refine sound_of_W Try.func6 rfl (by decide +kernel) (by simp [Try.f6]) rfl rfl (rs := [.tmp 4]) rfl ?_
  rw [show Try.f6.ntmps = 139 from rfl]
  obtain ⟨f1, f2⟩ := few_small l
  obtain ⟨L, hL⟩ : ∃ L, fewM l = L := ⟨_, rfl⟩
  have hfew := few_sound l hl
  rw [hL] at hfew f1 f2
  have hr : ∀ r ∈ L, r.length ≤ 1000000000 := fun r hr => by have := f2 r hr; omega
  have ht := tracks_sound d L (by omega) hr
  have htk := tracks_ok d L
  refine W_evK [1, 2] (by simp; rfl) ?_
  refine W_seq ?_
  refine W_rK [1, 2, 14] ?_
  refine runA_call (by simp) (by first | (simp; done) | (simp; rfl)) works_sound (by simp; rfl) ?_
  refine runA_fin (by simp; rfl) ?_
  refine W_cond rfl (fun h => by simp at h) (fun h => ?_)
  refine W_skip ?_
  refine W_rK [1, 2] ?_
  refine runA_pre 1 (by simp; rfl) rfl ?_
  refine runA_call (by simp) (by first | (simp; done) | (simp; rfl)) hfew (by simp; rfl) ?_
  refine runA_fin (by simp; rfl) ?_
  rcases hbm : blockM d L with ⟨bs, e⟩
  have hT : tracksM d L = if e = 0 then (layM bs, 0) else ([], e) := by unfold tracksM; rw [hbm]
  by_cases z : e = 0
  rotate_left
  · rw [hT, if_neg z] at ht
    refine W_rK [1, 2, 5, 6] ?_
    refine runA_pre 2 (by simp; rfl) rfl ?_
    refine runA_call (by simp) (by first | (simp; done) | (simp; rfl)) ht (by simp [resT]; rfl) ?_
    refine runA_fin (by simp [resT]; rfl) ?_
    have zn : (e != 0) = true := by simpa using z
    refine W_seq ?_
    refine W_evK [1, 2, 5, 24] (by simp [zn]; rfl) ?_
    refine W_cond rfl (fun h => ?_) (fun h => by simp at h)
    refine W_evK [4] (by simp; rfl) ?_
    refine W_ret ?_
    repeat (first | refine on_ret ?_ | refine in_ret ?_)
    simp [retQ]
  subst z
  obtain ⟨hc1, hsm⟩ := block_small hbm
  rw [hT, if_pos rfl] at ht htk
  have hbk := back_ok hsm
  have hblk := blocks_lay hsm []
  rw [List.append_nil] at hblk
  have hret := returns hbm
  obtain ⟨T, hTT⟩ : ∃ T, layM bs = T := ⟨_, rfl⟩
  rw [hTT] at ht htk hbk hblk
  have hT1 : T.length ≤ 100000 := htk.1
  have hT2 : ∀ t ∈ T, trSm t := fun t h => ⟨by have := (htk.2 t h).1; omega, (htk.2 t h).2⟩
  have hrec := records_sound d T hT1 hT2 (by rw [hblk]; simp; omega) (by rw [hblk]; intro b hb; have := (hsm b hb).2; omega)
  have hrm : recsM d T = (L, 0) := by unfold recsM; rw [hblk]; simp [hret]
  rw [hrm] at hrec
  have hsame := lsame_sound L L (by omega)
  rw [decide_eq_true rfl] at hsame
  have hTn : T ≠ [] := hbk.ne
  have hTp : 0 < T.length := List.length_pos_iff.2 hTn
  refine W_rK [1, 2, 5, 6] ?_
  refine runA_pre 2 (by simp; rfl) rfl ?_
  refine runA_call (by simp) (by first | (simp; done) | (simp; rfl)) ht (by simp [resT]; rfl) ?_
  refine runA_fin (by simp [resT]; rfl) ?_
  refine W_seq ?_
  refine W_evK [1, 2, 5, 24] (by simp; rfl) ?_
  refine W_cond rfl (fun h => by simp at h) (fun h => ?_)
  refine W_skip ?_
  refine W_any 5 rfl ?_
  refine W_rK [1, 5, 7, 8] ?_
  refine runA_pre 2 (by simp [putF]; rfl) rfl ?_
  refine runA_call (by simp) (by first | (simp; done) | (simp; rfl)) hrec (by simp [resB]; rfl) ?_
  refine runA_fin (by simp [resB]; rfl) ?_
  refine W_seq ?_
  have hTi : ((T.length : Int) == 0) = false := by simp [hTn]
  refine W_rK [5, 46] ?_
  refine runA_pre 5 (by simp; rfl) rfl ?_
  refine runA_call (by simp) (by first | (simp; done) | (simp; rfl)) hsame (by simp; rfl) ?_
  refine runA_fin (by simp [hTi, hTn]; rfl) ?_
  refine W_cond rfl (fun h => by simp at h) (fun h => ?_)
  refine W_skip ?_
  refine W_seq ?_
  refine W_evK [5, 48, 49] (by simp; rfl) ?_
  refine W_block ?_
  refine W_cutH 0 (by omega) (by omega) rfl (by simp [underH]) ?_
  refine W_loop (fun k s => ∃ i : Nat, k = T.length - i ∧ i ≤ T.length ∧ s = ⟨139, [(5, .lst .any 1 (arL T)), (48, .v (.int .i64 (T.length : Nat))), (49, .v (.int .i64 (i : Nat)))], []⟩) (k := T.length) ⟨0, rfl, by omega, by simp [putF]⟩ ?_
  rintro k s ⟨i, rfl, hi, rfl⟩
  by_cases c : i < T.length
  rotate_left
  · refine W_evK [5, 48, 49, 50] (by simp [c]; rfl) ?_
    refine W_seq ?_
    refine W_cond rfl (fun h => by simp at h) (fun h => ?_)
    refine W_exit ?_
    refine W_evK [4] (by simp; rfl) ?_
    refine W_ret ?_
    repeat (first | refine on_ret ?_ | refine in_ret ?_)
    simp [retQ]
  have ci : (i : Int) < T.length := by omega
  obtain ⟨t, hti⟩ : ∃ t, T[i]? = some t := ⟨_, List.getElem?_eq_getElem c⟩
  have ht2 : T[i]'c = t := by rw [List.getElem?_eq_getElem c] at hti; exact Option.some.inj hti
  have hmt := List.mem_of_getElem? hti
  obtain ⟨hval, hne⟩ := hbk.val t hmt
  have htp : 0 < t.length := List.length_pos_iff.2 hne
  have hts := hT2 t hmt
  have htl := (htk.2 t hmt).1
  have hvs := valid_sound15 t hts
  rw [hval] at hvs
  have wi := w64 (n := (i : Int) + 1) (by omega) (by omega)
  have hti0 : ((t.length : Int) == 0) = false := by simp [hne]
  refine W_evK [5, 48, 49, 50] (by simp [c]; rfl) ?_
  refine W_seq ?_
  refine W_cond rfl (fun h => ?_) (fun h => by simp at h)
  refine W_skip ?_
  refine W_seq ?_
  refine W_block ?_
  refine W_evK [5, 48, 49, 9] (by simp; rfl) ?_
  refine W_seq ?_
  refine W_rK [5, 48, 49, 9, 65] ?_
  refine runA_pre 4 (by simp [c, ci, ht2]; rfl) rfl ?_
  refine runA_call (by simp) (by first | (simp; done) | (simp; rfl)) hvs (by simp; rfl) ?_
  refine runA_pre 6 (by simp [c, ci, ht2]; rfl) rfl ?_
  refine runA_fin (by simp [c, ci, ht2, hti0, hne]; rfl) ?_
  refine W_cond rfl (fun h => by simp at h) (fun h => ?_)
  refine W_skip ?_
  refine W_seq ?_
  refine W_evK [5, 48, 49, 9, 70, 71] (by simp [c, ci, ht2]; rfl) ?_
  refine W_block ?_
  refine W_loop (fun k s => ∃ j : Nat, k = t.length - j ∧ j ≤ t.length ∧ s = ⟨139, [(5, .lst .any 1 (arL T)), (48, .v (.int .i64 (T.length : Nat))), (49, .v (.int .i64 (i : Nat))), (9, .v (.int .i64 (i : Nat))), (70, .v (.int .i64 (t.length : Nat))), (71, .v (.int .i64 (j : Nat)))], []⟩) (k := t.length) ⟨0, rfl, by omega, by simp⟩ ?_
  rintro k s ⟨j, rfl, hj, rfl⟩
  by_cases e : j < t.length
  · have ej : (j : Int) < t.length := by omega
    obtain ⟨r, hrj⟩ : ∃ r, t[j]? = some r := ⟨_, List.getElem?_eq_getElem e⟩
    have hr2 : t[j]'e = r := by rw [List.getElem?_eq_getElem e] at hrj; exact Option.some.inj hrj
    obtain ⟨hn1, hn2⟩ := hbk.num i t j r hti hrj
    have hn1' : r.R = (j : Int) + 1 := by omega
    have wj := w64 (n := (j : Int) + 1) (by omega) (by omega)
    have wT := w64 (n := (T.length : Int) - 1) (by omega) (by omega)
    have wt := w64 (n := (t.length : Int) - 1) (by omega) (by omega)
    refine W_evK [5, 48, 49, 9, 70, 71, 72] (by simp [e]; rfl) ?_
    refine W_seq ?_
    refine W_cond rfl (fun h => ?_) (fun h => by simp at h)
    refine W_skip ?_
    refine W_seq ?_
    refine W_block ?_
    refine W_evK [5, 48, 49, 9, 70, 71, 10] (by simp; rfl) ?_
    refine W_seqC (fun s => s = ⟨139, [(5, .lst .any 1 (arL T)), (48, .v (.int .i64 (T.length : Nat))), (49, .v (.int .i64 (i : Nat))), (9, .v (.int .i64 (i : Nat))), (70, .v (.int .i64 (t.length : Nat))), (71, .v (.int .i64 (j : Nat))), (10, .v (.int .i64 (j : Nat))), (11, .v (.bool (decide (r.data = []))))], []⟩) ?_ ?_
    · by_cases y1 : i + 1 = T.length
      · have y1' : ((i : Int) == (T.length : Int) - 1) = true := by simp; omega
        by_cases y2 : j + 1 = t.length
        · have y2' : ((j : Int) == (t.length : Int) - 1) = true := by simp; omega
          have hd : r.data = [] := hn2.2 ⟨y1, y2⟩
          refine W_rE [5, 48, 49, 9, 70, 71, 10, 11] ?_
          refine runA_pre 6 (by simp [wT, y1']; rfl) rfl ?_
          refine runA_pre 6 (by simp [c, ci, ht2]; rfl) rfl ?_
          refine runA_fin (by simp [wt, y2']; rfl) ?_
          simp [onNormal, hd]
        · have y2' : ((j : Int) == (t.length : Int) - 1) = false := by simp; omega
          have hd : ¬ r.data = [] := fun h => y2 (hn2.1 h).2
          refine W_rE [5, 48, 49, 9, 70, 71, 10, 11] ?_
          refine runA_pre 6 (by simp [wT, y1']; rfl) rfl ?_
          refine runA_pre 6 (by simp [c, ci, ht2]; rfl) rfl ?_
          refine runA_fin (by simp [wt, y2']; rfl) ?_
          simp [onNormal, hd]
      · have y1' : ((i : Int) == (T.length : Int) - 1) = false := by simp; omega
        have hd : ¬ r.data = [] := fun h => y1 (hn2.1 h).1
        refine W_rE [5, 48, 49, 9, 70, 71, 10, 11] ?_
        refine runA_pre 6 (by simp [wT, y1']; rfl) rfl ?_
        refine runA_pre 6 (by simp [c, ci, ht2]; rfl) rfl ?_
        refine runA_fin (by simp; rfl) ?_
        simp [onNormal, hd]
    rintro _ rfl
    have hne1 : (r.R != (j : Int) + 1) = false := by simp [hn1']
    by_cases hd : r.data = []
    · refine W_rK [5, 48, 49, 9, 70, 71, 113] ?_
      refine runA_pre 6 (by simp [c, ci, ht2, e, ej, hr2]; rfl) rfl ?_
      refine runA_pre 6 (by simp [wj, hne1, c, ci, ht2, e, ej, hr2]; rfl) rfl ?_
      refine runA_pre 6 (by simp [c, ci, ht2, e, ej, hr2]; rfl) rfl ?_
      refine runA_fin (by simp [hd]; rfl) ?_
      refine W_cond rfl (fun h => by simp at h) (fun h => ?_)
      refine W_skip ?_
      refine W_evE [5, 48, 49, 9, 70, 71] (by simp [wj]; rfl) ?_
      exact ⟨_, by omega, j + 1, rfl, by omega, by simp⟩
    · have hd0 : ((r.data.length : Int) == 0) = false := by simp [hd]
      refine W_rK [5, 48, 49, 9, 70, 71, 113] ?_
      refine runA_pre 6 (by simp [c, ci, ht2, e, ej, hr2]; rfl) rfl ?_
      refine runA_pre 6 (by simp [wj, hne1, c, ci, ht2, e, ej, hr2]; rfl) rfl ?_
      refine runA_pre 6 (by simp [c, ci, ht2, e, ej, hr2]; rfl) rfl ?_
      refine runA_fin (by simp [hd, hd0]; rfl) ?_
      refine W_cond rfl (fun h => by simp [hd, hd0] at h) (fun h => ?_)
      refine W_skip ?_
      refine W_evE [5, 48, 49, 9, 70, 71] (by simp [wj]; rfl) ?_
      exact ⟨_, by omega, j + 1, rfl, by omega, by simp⟩
  · refine W_evK [5, 48, 49, 9, 70, 71, 72] (by simp [e]; rfl) ?_
    refine W_seq ?_
    refine W_cond rfl (fun h => by simp at h) (fun h => ?_)
    refine W_exit ?_
    cases i with
    | zero =>
      refine W_evK [5, 48, 49, 9, 116] (by simp; rfl) ?_
      refine W_cond rfl (fun h => by simp at h) (fun h => ?_)
      refine W_skip ?_
      refine W_evE [5, 48, 49] (by simp [show IntKind.i64.wrap 1 = 1 from rfl]; rfl) ?_
      exact ⟨_, by omega, 1, rfl, by omega, by simp⟩
    | succ m =>
      have cm : m < T.length := by omega
      have cmi : (m : Int) < T.length := by omega
      obtain ⟨u, hui⟩ : ∃ u, T[m]? = some u := ⟨_, List.getElem?_eq_getElem cm⟩
      have hu2 : T[m]'cm = u := by rw [List.getElem?_eq_getElem cm] at hui; exact Option.some.inj hui
      obtain ⟨q, hq⟩ : ∃ q, t[0]? = some q := ⟨_, List.getElem?_eq_getElem htp⟩
      have hq2 : t[0]'htp = q := by rw [List.getElem?_eq_getElem htp] at hq; exact Option.some.inj hq
      have hfit := hbk.fit m u t q hui hti hq
      have hmu := List.mem_of_getElem? hui
      have hfs := fits15_sound u ⟨((u.length + 1 : Nat) : Int), q.key, q.data, q.bad⟩ (hT2 u hmu) (hts.2 q (List.mem_of_getElem? hq))
      rw [hfit] at hfs
      have hul := (htk.2 u hmu).1
      have wu := w64 (n := (u.length : Int) + 1) (by omega) (by omega)
      have wm := w64 (n := (m : Int)) (by omega) (by omega)
      have z1 : (0 : Int) < (m : Int) + 1 := by omega
      have z2 : (m : Int) + 1 - 1 = m := by omega
      have tn : ((m : Int) + 1).toNat = m + 1 := by omega
      have nn : (0 : Int) ≤ (m : Int) + 1 := by omega
      have ci2 : (m : Int) + 1 < T.length := by omega
      refine W_evK [5, 48, 49, 9, 116] (by simp [z1]; rfl) ?_
      refine W_cond rfl (fun h => ?_) (fun h => by simp at h)
      refine W_evK [5, 48, 49, 9, 12] (by simp [c, ci2, tn, nn, ht2, htp, hne, hq2, setSeg]; rfl) ?_
      refine W_evK [5, 48, 49, 9, 12] (by simp [cm, cmi, hu2, wm, wu, z2, setSeg]; rfl) ?_
      refine W_seq ?_
      refine W_rdE [5, 48, 49, 137] mx (by decide +kernel) ?_
      refine runD_pre 6 (by simp [cm, cmi, hu2, wm, z2]; rfl) rfl ?_
      refine runD_call (by simp) (by first | (simp; done) | (simp; rfl)) hfs (by simp; rfl) ?_
      refine runD_fin (by simp; rfl) ?_
      refine W_cond rfl (fun h => by simp at h) (fun h => ?_)
      refine W_skip ?_
      refine W_keepS [5, 48, 49] ?_
      refine W_cutH 0 (by omega) (by omega) rfl (by simp [underH]) ?_
      have wi2 : IntKind.i64.wrap ((m : Int) + 1 + 1) = (m : Int) + 2 := by rw [w64 (by omega) (by omega)]; omega
      refine W_evE [5, 48, 49] (by simp [wi2]; rfl) ?_
      exact ⟨_, by omega, m + 2, rfl, by omega, by simp [wi2]⟩
end Go.AM
