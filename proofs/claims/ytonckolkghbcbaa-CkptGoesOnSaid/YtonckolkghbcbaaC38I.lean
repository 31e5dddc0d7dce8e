/- written. -/
import Derived.Test.YtonckolkghbcbaaC38H
namespace Go.AM
open Go.RowKit Go.Proofs
set_option linter.unusedSimpArgs false
set_option linter.unusedVariables false
set_option maxHeartbeats 1000000

theorem sumL_take {l : List (List Rec)} {i : Nat} {t : List Rec} (h : l[i]? = some t) : sumL (l.take (i + 1)) = sumL (l.take i) + t.length := by
  unfold sumL
  rw [List.take_add_one, h]
  simp
theorem sumL_le (l : List (List Rec)) (i : Nat) : sumL (l.take i) ≤ sumL l := by
  have : sumL l = sumL (l.take i) + sumL (l.drop i) := by
    unfold sumL
    rw [← List.sum_append, ← List.map_append, List.take_append_drop]
  omega

theorem AR.take {T r : Nat} {cs : List AV} {M : List (List Rec)} (h : AR T r cs M) : AR T 0 (cs.take M.length) M := by
  refine ⟨by have := h.len; simp; omega, fun j t hj => ?_, fun j h1 h2 => by simp at h2; omega⟩
  obtain ⟨x, h1, h2⟩ := h.cell j t hj
  have := (List.getElem?_eq_some_iff.1 hj).1
  exact ⟨x, by rw [List.getElem?_take, if_pos this, h1], h2⟩
theorem AR.frz {r cap : Nat} {cs : List AV} {M : List (List Rec)} (h : AR 189 r cs M) (N : Nat) (hN : M.length = N) : ∃ o H, frzArr Try.prog [.cells 28 cs] 1 0 0 N cap = some (.lst o 1 (arL M), H) := by
  subst hN
  have hl := h.len
  have ht : tyI Try.prog 28 = some (false, 1) := by simp
  simp only [frzArr, List.getElem?_cons_zero, ht]
  by_cases hk : AV.koneL cs = true
  · rw [if_pos ⟨by omega, by simp, by omega, hk, h.rf⟩, List.drop_zero, h.chunk (by decide)]
    exact ⟨_, _, rfl⟩
  · rw [if_neg (fun hh => hk hh.2.2.2.1), Nat.mul_one, Nat.zero_add, if_pos ⟨by omega, by simp, by omega, h.kone, h.take.rf⟩, List.drop_zero, h.take.chunk (by decide)]
    exact ⟨_, _, rfl⟩

theorem written_sound (area l : List (List Rec)) (p most : Nat) (bad : Bool) (hs : small area) (hp : p + l.length ≤ area.length) (h0 : 0 < area.length) (hm : most ≤ 100000000) (hl : sumL l ≤ 100000000) :
    Sound Try.prog 21 [.lst .any 1 (arL area), .v (.int .i64 p), .lst .any 1 (arL l), .v (.int .i64 most), .v (.bool bad)]
      (.tup [.lst .any 1 (arL (wrM area p 0 most bad l)), .v (.bool (decide (min most (sumL l) = sumL l) && !(bad && decide (most = sumL l))))]) := by
  refine sound_of_N Try.func21 rfl (by decide +kernel) (by simp [Try.f21]) rfl rfl (rs := [.tmp 10, .tmp 11]) rfl ?_
  rw [show Try.f21.ntmps = 109 from rfl]
  obtain ⟨ha1, ha2⟩ := hs
  refine W_evK [0, 1, 2, 3, 4] (by simp; rfl) ?_
  refine W_rK [1, 2, 3, 4, 12] ?_
  refine runA_pre 1 (by simp; rfl) rfl ?_
  refine runA_obj (f := 14) (args := [.lst .any 1 (arL area)]) (by simp) (by simp) (callW_thaw (by simpa using copy_tip area ⟨ha1, ha2⟩) (by simp) (thwL_arL area) (fun h => ?_) (fun cap h1 h2 => ?_))
  · have : area.length = 0 := by simpa using congrArg List.length h
    omega
  rw [arL_length, weakL_arL, Nat.mul_one]
  rw [arL_length] at h1
  have hAR0 := AR.init 189 (cap - area.length) area
  obtain ⟨cs0, hcs0⟩ : ∃ cs0, arL area ++ List.replicate (cap - area.length) AV.any = cs0 := ⟨_, rfl⟩
  rw [hcs0] at hAR0 ⊢
  refine ⟨_, by simp; rfl, ?_⟩
  refine runA_fin (by simp; rfl) ?_
  refine W_evK [1, 2, 3, 4, 12, 13, 14] (by simp; rfl) ?_
  refine W_seq ?_
  refine W_evK [1, 2, 3, 4, 12, 13, 14, 15] (by simp; rfl) ?_
  refine W_block ?_
  refine W_loop (fun k s => ∃ (i n : Nat) (M : List (List Rec)) (cs : List AV), k = l.length - i ∧ i ≤ l.length ∧ M.length = area.length ∧ AR 189 (cap - area.length) cs M ∧ n ≤ most ∧
    wrM area p 0 most bad l = wrM M (p + i) n most bad (l.drop i) ∧ cntL 0 most l = cntL n most (l.drop i) ∧
    s = ⟨109, [(1, .v (.int .i64 p)), (2, .lst .any 1 (arL l)), (3, .v (.int .i64 most)), (4, .v (.bool bad)), (12, .arr 0 0 area.length cap), (13, .v (.int .i64 n)), (14, .v (.int .i64 (sumL (l.take i) : Nat))), (15, .v (.int .i64 i))], [.cells 28 cs]⟩)
    (k := l.length) ⟨0, 0, area, cs0, rfl, by omega, rfl, hAR0, by omega, rfl, rfl, by simp [sumL]⟩ ?_
  rintro k s ⟨i, n, M, cs, rfl, hi, hML, hAR, hn, hW, hC, rfl⟩
  refine W_seq ?_
  by_cases c : i < l.length
  rotate_left
  · refine W_evK [1, 2, 3, 4, 12, 13, 14, 15, 23] (by simp [c]; rfl) ?_
    refine W_cond rfl (fun h => by simp at h) (fun h => ?_)
    refine W_exit ?_
    have hie : i = l.length := by omega
    subst hie
    rw [List.drop_length] at hW hC
    rw [List.take_length]
    simp only [wrM, cntL] at hW hC
    rw [cntL_eq 0 most l (by omega), Nat.zero_add] at hC
    rw [hW]
    obtain ⟨S, hS⟩ : ∃ S, sumL l = S := ⟨_, rfl⟩
    rw [hS] at hC ⊢
    rw [hC]
    obtain ⟨o, H, hfz⟩ := hAR.frz (cap := cap) area.length hML
    have hret : ∀ b : Bool, retN Try.prog [ResultVar.tmp 10, ResultVar.tmp 11] (.tup [.lst .any 1 (arL M), .v (.bool b)]) .ret ⟨109, [(10, .arr 0 0 area.length cap), (11, .v (.bool b))], [.cells 28 cs]⟩ := by
      intro b
      refine ⟨.tup [.lst o 1 (arL M), .v (.bool b)], ⟨.inr rfl, _, H, by simp; rfl, by simp [frzV, frzL, hfz], by simp⟩, .inr rfl⟩
    by_cases e1 : n = S
    rotate_left
    · have e1b : ((n : Int) == (S : Int)) = false := beq_eq_false_iff_ne.2 (by omega)
      have e1d : decide (n = S) = false := decide_eq_false e1
      rw [e1d]
      refine W_rK [10, 11] ?_
      refine runA_pre 6 (by simp [e1b]; rfl) rfl ?_
      refine runA_fin (by simp [e1b]; rfl) ?_
      refine W_ret ?_
      repeat (first | refine on_ret ?_ | refine in_ret ?_)
      exact hret _
    subst e1
    have e1d : decide (n = n) = true := decide_eq_true rfl
    rw [e1d]
    cases bad with
    | false =>
      refine W_rK [10, 11] ?_
      refine runA_pre 6 (by simp; rfl) rfl ?_
      refine runA_pre 6 (by simp; rfl) rfl ?_
      refine runA_fin (by simp; rfl) ?_
      refine W_ret ?_
      repeat (first | refine on_ret ?_ | refine in_ret ?_)
      exact hret _
    | true =>
      have e2 : ((most : Int) == (n : Int)) = decide (most = n) := by
        rw [Bool.eq_iff_iff]; simp; omega
      refine W_rK [10, 11] ?_
      refine runA_pre 6 (by simp; rfl) rfl ?_
      refine runA_pre 6 (by simp [e2]; rfl) rfl ?_
      refine runA_fin (by simp; rfl) ?_
      refine W_ret ?_
      repeat (first | refine on_ret ?_ | refine in_ret ?_)
      exact hret _
  have ci : (i : Int) < l.length := by omega
  obtain ⟨t, ht⟩ : ∃ t, l[i]? = some t := ⟨_, List.getElem?_eq_getElem c⟩
  have ht2 : l[i]'c = t := by rw [List.getElem?_eq_getElem c] at ht; exact Option.some.inj ht
  have hst := sumL_take ht
  have hsl := sumL_le l (i + 1)
  have htd : l.drop i = t :: l.drop (i + 1) := by rw [List.drop_eq_getElem_cons c, ht2]
  rw [htd] at hW hC
  simp only [wrM, cntL] at hW hC
  obtain ⟨q, hqq⟩ : ∃ q, p + i = q := ⟨_, rfl⟩
  rw [hqq] at hW
  have hq : q < M.length := by omega
  have hq2 : q < area.length := by omega
  have wq : IntKind.i64.wrap ((p : Int) + (i : Int)) = (q : Int) := by rw [w64 (by omega) (by omega)]; omega
  have hqi : (q : Int) < (area.length : Int) := by omega
  refine W_evK [1, 2, 3, 4, 12, 13, 14, 15, 23] (by simp [c]; rfl) ?_
  refine W_cond rfl (fun h => ?_) (fun h => by simp at h)
  refine W_skip ?_
  refine W_seq ?_
  refine W_block ?_
  have ws : IntKind.i64.wrap ((sumL (l.take i) : Nat) + (t.length : Int)) = (sumL (l.take (i + 1)) : Nat) := by rw [w64 (by omega) (by omega), hst]; omega
  refine W_evK [1, 2, 3, 4, 12, 13, 14, 15] (by simp [c, ci, ht2, ws]; rfl) ?_
  refine W_evK [1, 2, 3, 4, 12, 13, 14, 15, 16] (by simp; rfl) ?_
  refine W_block ?_
  refine W_loop (fun m s => ∃ (k : Nat) (cs : List AV), m = t.length - k ∧ k ≤ cnt t n most ∧ AR 189 (cap - area.length) cs (if k = 0 then M else M.set q (wtr t n most bad k)) ∧ (k ≠ 0 → cs[q]? = some (.lst (.tip 52 189) 4 (trL (wtr t n most bad k)))) ∧
    s = ⟨109, [(1, .v (.int .i64 p)), (2, .lst .any 1 (arL l)), (3, .v (.int .i64 most)), (4, .v (.bool bad)), (12, .arr 0 0 area.length cap), (13, .v (.int .i64 (n + k : Nat))), (14, .v (.int .i64 (sumL (l.take (i + 1)) : Nat))), (15, .v (.int .i64 i)), (16, .v (.int .i64 k))], [.cells 28 cs]⟩)
    (k := t.length) ⟨0, cs, rfl, by omega, by simpa using hAR, by simp, by simp⟩ ?_
  rintro k s ⟨k, cs, rfl, hk, hAR, htip, rfl⟩
  refine W_seq ?_
  have hcnt : cnt t n most ≤ t.length ∧ cnt t n most ≤ most - n := by unfold cnt; omega

  have hend : k = cnt t n most → ∃ M2 n2, M2.length = area.length ∧ AR 189 (cap - area.length) cs M2 ∧ n2 ≤ most ∧ n2 = n + k ∧ wrM area p 0 most bad l = wrM M2 (p + (i + 1)) n2 most bad (l.drop (i + 1)) ∧ cntL 0 most l = cntL n2 most (l.drop (i + 1)) := by
    intro hkc
    refine ⟨_, _, ?_, hAR, ?_, rfl, ?_, ?_⟩
    · split <;> simp [hML]
    · omega
    · rw [hW, ← hkc, show p + (i + 1) = q + 1 by omega]
      congr 1
      unfold wr1
      rw [← hkc]
      by_cases h : k = 0
      · rw [if_pos h, if_pos h, List.getD_eq_getElem?_getD, List.getElem?_eq_getElem hq, Option.getD_some, List.set_getElem_self]
      · rw [if_neg h, if_neg h]
    · rw [hC, ← hkc]
  by_cases d : k < t.length
  rotate_left
  · have hkc : k = cnt t n most := by unfold cnt at hk ⊢; omega
    obtain ⟨M2, n2, g1, g2, g3, rfl, g5, g6⟩ := hend hkc
    refine W_rK [1, 2, 3, 4, 12, 13, 14, 15, 16, 52] ?_
    refine runA_pre 6 (by simp [c, ci, ht2, d]; rfl) rfl ?_
    refine runA_pre 6 (by simp [d]; rfl) rfl ?_
    refine runA_fin (by simp; rfl) ?_
    refine W_cond rfl (fun h => by simp at h) (fun h => ?_)
    refine W_exit ?_
    refine W_evE [1, 2, 3, 4, 12, 13, 14, 15] (by simp [w64 (n := (i : Int) + 1) (by omega) (by omega)]; rfl) ?_
    exact ⟨_, by omega, i + 1, _, M2, cs, rfl, by omega, g1, g2, g3, g5, g6, by simp⟩
  have di : (k : Int) < t.length := by omega
  by_cases e : n + k < most
  rotate_left
  · have hkc : k = cnt t n most := by unfold cnt at hk ⊢; omega
    obtain ⟨M2, n2, g1, g2, g3, g4, g5, g6⟩ := hend hkc
    obtain ⟨nk, hnk⟩ : ∃ nk, n + k = nk := ⟨_, rfl⟩
    rw [hnk] at e g4 ⊢
    subst g4
    have ei : ¬ (n2 : Int) < (most : Int) := by omega
    refine W_rK [1, 2, 3, 4, 12, 13, 14, 15, 16, 52] ?_
    refine runA_pre 6 (by simp [c, ci, ht2, d, di]; rfl) rfl ?_
    refine runA_pre 6 (by simp [d, di, e, ei]; rfl) rfl ?_
    refine runA_fin (by simp; rfl) ?_
    refine W_cond rfl (fun h => by simp at h) (fun h => ?_)
    refine W_exit ?_
    refine W_evE [1, 2, 3, 4, 12, 13, 14, 15] (by simp [w64 (n := (i : Int) + 1) (by omega) (by omega)]; rfl) ?_
    exact ⟨_, by omega, i + 1, _, M2, cs, rfl, by omega, g1, g2, g3, g5, g6, by simp⟩
  obtain ⟨nk, hnk⟩ : ∃ nk, n + k = nk := ⟨_, rfl⟩
  rw [hnk] at e ⊢
  have ei : (nk : Int) < (most : Int) := by omega
  obtain ⟨r, hr⟩ : ∃ r, t[k]? = some r := ⟨_, List.getElem?_eq_getElem d⟩
  have hr2 : t[k]'d = r := by rw [List.getElem?_eq_getElem d] at hr; exact Option.some.inj hr
  have hws := wtr_succ t n most bad k hr
  rw [hnk] at hws
  refine W_rK [1, 2, 3, 4, 12, 13, 14, 15, 16, 52] ?_
  refine runA_pre 6 (by simp [c, ci, ht2, d, di]; rfl) rfl ?_
  refine runA_pre 6 (by simp [d, di, e, ei]; rfl) rfl ?_
  refine runA_fin (by simp [wq, hq2, hqi]; rfl) ?_
  refine W_cond rfl (fun h => ?_) (fun h => by simp at h)
  refine W_skip ?_
  refine W_seq ?_
  refine W_block ?_
  have wn : IntKind.i64.wrap ((nk : Int) + 1) = ((nk + 1 : Nat) : Int) := by rw [w64 (by omega) (by omega)]; omega
  refine W_evK [1, 2, 3, 4, 12, 13, 14, 15, 16, 17] (by simp [c, ci, ht2, d, di, hr2, setSeg]; rfl) ?_
  refine W_evK [1, 2, 3, 4, 12, 13, 14, 15, 16, 17] (by simp [wn]; rfl) ?_
  refine W_rK [1, 2, 3, 4, 12, 13, 14, 15, 16, 17] ?_
  refine runA_mono (K := fun s => keepS [1, 2, 3, 4, 12, 13, 14, 15, 16, 17] s = ⟨109, [(1, .v (.int .i64 p)), (2, .lst .any 1 (arL l)), (3, .v (.int .i64 most)), (4, .v (.bool bad)), (12, .arr 0 0 area.length cap), (13, .v (.int .i64 (nk + 1 : Nat))), (14, .v (.int .i64 (sumL (l.take (i + 1)) : Nat))), (15, .v (.int .i64 i)), (16, .v (.int .i64 k)), (17, .loc 1 0)], [.cells 28 cs, .cells 52 [.v (.int .i64 r.R), .lst .any 1 (byL r.key), .lst .any 1 (byL r.data), .v (.bool (r.bad || (bad && decide (nk + 1 = most))))]]⟩) (fun s hs => ?_) ?_
  rotate_left
  · obtain ⟨rR, rk, rd, rb⟩ := r
    cases rb with
    | true =>
      refine runA_pre 6 (by simp; rfl) rfl ?_
      refine runA_fin (by simp [setSeg]; rfl) ?_
      simp
    | false =>
      cases bad with
      | false =>
        refine runA_pre 6 (by simp; rfl) rfl ?_
        refine runA_fin (by simp [setSeg]; rfl) ?_
        simp
      | true =>
        have e2 : (((nk : Int) + 1) == (most : Int)) = decide (nk + 1 = most) := by
          rw [Bool.eq_iff_iff]; simp; omega
        refine runA_pre 6 (by simp; rfl) rfl ?_
        refine runA_fin (by simp [e2, setSeg]; rfl) ?_
        simp
  rw [hs]
  have hb1 : q + 1 ≤ cs.length := by have := hAR.len; split at this <;> (try simp at this) <;> omega
  obtain ⟨B, hB⟩ : ∃ B, (r.bad || (bad && decide (nk + 1 = most))) = B := ⟨_, rfl⟩
  have hbd : bd r (bad && decide (nk + 1 = most)) = ⟨r.R, r.key, r.data, B⟩ := by simp only [bd, hB]
  rw [hbd] at hws
  rw [hB]
  have wk : IntKind.i64.wrap ((k : Int) + 1) = ((k + 1 : Nat) : Int) := by rw [w64 (by omega) (by omega)]; omega
  refine W_seq ?_
  by_cases g : k = 0
  · subst g
    rw [if_pos rfl] at hAR
    have hws' : wtr t n most bad 1 = [⟨r.R, r.key, r.data, B⟩] := by simpa [wtr] using hws
    refine W_evK [1, 2, 3, 4, 12, 13, 14, 15, 16, 17, 76] (by simp; rfl) ?_
    refine W_cond rfl (fun h => ?_) (fun h => by simp at h)
    refine W_evE [1, 2, 3, 4, 12, 13, 14, 15, 16, 17] (by simp [wq, hq2, hqi, hb1]; rfl) ?_
    refine W_rdE [1, 2, 3, 4, 12, 13, 14, 15, 16] mx (by decide +kernel) ?_
    have hAR1 := hAR.set hq (x := .lst .nil 4 []) (t := []) (.inr (.inr ⟨rfl, rfl⟩))
    obtain ⟨cs1, hcs1⟩ : ∃ cs1, setSeg cs q [AV.lst Fl.nil 4 []] = cs1 := ⟨_, rfl⟩
    have hg1 : cs1[q]? = some (AV.lst Fl.nil 4 []) := by
      rw [← hcs1, setSeg_get _ _ _ (by simpa using hb1), if_pos (by simp)]; simp
    rw [hcs1] at hAR1 ⊢
    have hb2 : q + 1 ≤ cs1.length := by have := hAR1.len; simp at this; omega
    refine runD_pre 10 (by simp [wq, hq2, hqi, hg1, hb2]; rfl) rfl ?_
    refine runD_fin (by simp [wq, hq2, hqi, hg1, hb2, catK, AV.cellsK, AV.kone, AV.koneL]; rfl) ?_
    have hAR2 := hAR1.set (p := q) (by simpa using hq) (x := .lst (.tip 52 189) 4 (trL [⟨r.R, r.key, r.data, B⟩])) (t := [⟨r.R, r.key, r.data, B⟩]) (.inr (.inl rfl))
    have hu := hAR2.under 1
    rw [List.set_set] at hAR2
    rw [trL_cons, trL_nil] at hu hAR2
    simp only [recA] at hu hAR2
    refine W_cutH 1 (Nat.zero_le _) (by simp) (by simp [frUnder, AV.under, AV.underL]) (by simp [underH, AObj.under, hu]) ?_
    refine W_evE [1, 2, 3, 4, 12, 13, 14, 15, 16] (by simp [wk]; rfl) ?_
    refine ⟨_, by omega, 1, _, rfl, ?_, by rw [if_neg (by omega), hws']; exact hAR2, fun _ => ?_, by simp [← hnk, show IntKind.i64.wrap 1 = 1 from rfl]⟩
    · unfold cnt; omega
    · rw [hws', trL_cons, trL_nil, setSeg_get _ _ _ (by simpa using hb2), if_pos (by simp)]; simp
  rw [if_neg g] at hAR
  have hgt := htip g
  have k0 : ((k : Int) == 0) = false := beq_eq_false_iff_ne.2 (by omega)
  have hlen := wtr_length t n most bad k (by omega)
  refine W_evK [1, 2, 3, 4, 12, 13, 14, 15, 16, 17, 76] (by simp [k0]; rfl) ?_
  refine W_cond rfl (fun h => by simp at h) (fun h => ?_)
  refine W_skip ?_
  have hAR1 := hAR.kill (by decide)
  obtain ⟨cs1, hcs1⟩ : ∃ cs1, AV.killL 189 cs = cs1 := ⟨_, rfl⟩
  rw [hcs1] at hAR1
  have hb2 : q + 1 ≤ cs1.length := by have := hAR1.len; simp at this; omega
  have hbig : (k + 1) * 64 ≤ 140737488355328 := by omega
  have hbig2 : 64 * (k + 1) ≤ 140737488355328 := by omega
  refine W_rdE [1, 2, 3, 4, 12, 13, 14, 15, 16] mx (by decide +kernel) ?_
  refine runD_pre 10 (by simp [wq, hq2, hqi, hgt, hb1]; rfl) rfl ?_
  refine runD_fin (by simp [wq, hq2, hqi, hb2, hcs1, catK, AV.cellsK, AV.kone, AV.koneL, hlen, hbig, hbig2]; rfl) ?_
  have hAR2 := hAR1.set (p := q) (by simpa using hq) (x := .lst (.tip 52 189) 4 (trL (wtr t n most bad k) ++ trL [⟨r.R, r.key, r.data, B⟩])) (t := wtr t n most bad (k + 1)) (.inr (.inl (by rw [hws, trL_append])))
  have hu := hAR2.under 1
  rw [List.set_set] at hAR2
  rw [trL_cons, trL_nil] at hu hAR2
  simp only [recA] at hu hAR2
  refine W_cutH 1 (Nat.zero_le _) (by simp) (by simp [frUnder, AV.under, AV.underL]) (by simp [underH, AObj.under, hu]) ?_
  refine W_evE [1, 2, 3, 4, 12, 13, 14, 15, 16] (by simp [wk]; rfl) ?_
  refine ⟨_, by omega, k + 1, _, rfl, ?_, by rw [if_neg (by omega)]; exact hAR2, fun _ => ?_, by simp [← hnk]; omega⟩
  · unfold cnt at hk ⊢; omega
  · rw [hws, trL_append, trL_cons, trL_nil, setSeg_get _ _ _ (by simpa using hb2), if_pos (by simp)]; simp
end Go.AM
