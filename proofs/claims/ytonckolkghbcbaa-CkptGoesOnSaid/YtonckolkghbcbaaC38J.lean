/- CkptGoesOn's walk. -/
import Derived.Test.YtonckolkghbcbaaC38PE
import Derived.Test.YtonckolkghbcbaaAmC
namespace Go.AM
open Go.RowKit Go.Proofs
set_option linter.unusedSimpArgs false
set_option linter.unusedVariables false
set_option maxHeartbeats 1000000

structure Trl where
  len : Int
  byte : UInt8
  most : Int
  bad : Bool
@[simp] def trlA (t : Trl) : AV := .agg [.v (.int .i64 t.len), .v (.int .u8 t.byte.toNat), .v (.int .i64 t.most), .v (.bool t.bad)]
def tyL (l : List Trl) : List AV := l.map trlA
@[simp] theorem tyL_length (L : List Trl) : (tyL L).length = L.length := by simp [tyL]
@[simp] theorem tyL_getElem (L : List Trl) (i : Nat) (h : i < (tyL L).length) : (tyL L)[i] = trlA (L[i]'(by simpa using h)) := by simp [tyL]
@[simp] theorem rfL_tyL (L : List Trl) : AV.rfL (tyL L) = true := by induction L <;> simp_all [tyL, AV.rfL, AV.rf]
@[simp] theorem tlL_tyL (L : List Trl) : AV.tlL (tyL L) = true := by induction L <;> simp_all [tyL, AV.tlL, AV.tl]
@[simp] theorem toksL_tyL (L : List Trl) : AV.toksL (tyL L) = [] := by induction L <;> simp_all [tyL, AV.toksL, AV.toks]
@[simp] theorem underL_tyL (m : Nat) (L : List Trl) : AV.underL m (tyL L) = true := by induction L <;> simp_all [tyL, AV.underL, AV.under]
@[simp] theorem killSL_tyL (T : List Nat) (L : List Trl) : AV.killSL T (tyL L) = tyL L := killSL_tl _ (tlL_tyL L)
@[simp] theorem killL_tyL (T : Nat) (L : List Trl) : AV.killL T (tyL L) = tyL L := killL_tl _ (tlL_tyL L)
@[simp] theorem weakL_tyL (L : List Trl) : AV.weakL (tyL L) = tyL L := by induction L <;> simp_all [tyL, AV.weakL, AV.weak]
@[simp] theorem dpL_tyL (L : List Trl) : AV.dpL (tyL L) = tyL L := by induction L <;> simp_all [tyL, AV.dpL, AV.dp]
@[simp] theorem normL_tyL (T : Nat) (L : List Trl) : AV.normL T (tyL L) = tyL L := by induction L <;> simp_all [tyL, AV.normL, AV.norm]

theorem W_seqC {c1 c2 : Code} {Q : Exit → St → Prop} {s : St} {top : Bool} {kf : Nat} {P : Program} (K : St → Prop) (h1 : Wt top kf P c1 (onNormal K fun _ _ => False) s) (h2 : ∀ s, K s → Wt top kf P c2 Q s) : Wt top kf P (.seq c1 c2) Q s := by
  refine W_seq (h1.mono fun e s h => ?_)
  cases e with
  | normal => exact h2 s h
  | _ => exact h.elim

theorem W_perm {c1 : Code} {Q : Exit → St → Prop} {n : Nat} {fr fr' : List (Nat × AV)} {h : List AObj} {top : Bool} {kf : Nat} {P : Program} (hg : ∀ i, getF fr' i = getF fr i) (h1 : Wt top kf P c1 Q ⟨n, fr', h⟩) : Wt top kf P c1 Q ⟨n, fr, h⟩ :=
  W_conv (t := ⟨n, fr', h⟩) (fun c w a hs => ⟨hs.n, hs.base, fun i x hx => hs.fr i x (by rw [← hg i]; exact hx), hs.h, hs.dfr⟩) h1

def mayX (x : AV) (may : List (List UInt8)) : Prop := (may = [] ∧ x = .lst .nil 1 []) ∨ x = .lst (.tip 32 257) 1 (bbL may)
theorem set_u8 (st : List UInt8) (k : Nat) (y : Int) (hk : k < st.length) : setSeg (byL st) k [.v (.int .u8 (IntKind.u8.wrap y))] = byL (st.set k (UInt8.ofNat (IntKind.u8.wrap y).toNat)) := by
  have h1 : 0 ≤ IntKind.u8.wrap y ∧ IntKind.u8.wrap y ≤ 255 := by
    simp [IntKind.wrap, IntKind.signed, IntKind.bits]; omega
  have h2 : ((UInt8.ofNat (IntKind.u8.wrap y).toNat).toNat : Int) = IntKind.u8.wrap y := by
    rw [UInt8.toNat_ofNat']; omega
  have := setSeg_byL st k (UInt8.ofNat (IntKind.u8.wrap y).toNat) hk
  rw [h2] at this
  exact this

theorem goesOn_sound (half : Int) (l : List Trl) (hlm : l.length ≤ 9223372036854775807) : Sound Try.prog 7 [.v (.int .i64 half), .lst .any 4 (tyL l)] (.v (.bool true)) := by
  refine sound_of_W Try.func7 rfl (by decide +kernel) (by simp [Try.f7]) rfl rfl (rs := [.tmp 4]) rfl ?_
  rw [show Try.f7.ntmps = 173 from rfl]
  refine W_evK [0, 1] (by simp; rfl) ?_
  refine W_seq ?_
  by_cases a1 : 12 < l.length
  · have a1i : (12 : Int) < l.length := by omega
    refine W_evK [0, 1, 25] (by simp [a1i]; rfl) ?_
    refine W_cond rfl (fun h => ?_) (fun h => by simp at h)
    refine W_evK [4] (by simp; rfl) ?_
    refine W_ret ?_
    repeat (first | refine on_ret ?_ | refine in_ret ?_)
    simp [retQ]
  have a1i : ¬ (12 : Int) < l.length := by omega
  refine W_evK [0, 1, 25] (by simp [a1i]; rfl) ?_
  refine W_cond rfl (fun h => by simp at h) (fun h => ?_)
  refine W_skip ?_
  obtain ⟨h4, hh4, hh4l⟩ := modN half 4 (by omega) (by omega)
  have hh4' : IntKind.i64.wrap ((IntKind.u64.wrap half).tmod 4) = (h4 : Int) := by rw [← hh4]; rfl
  have w1 : IntKind.i64.wrap (2 * (h4 : Int)) = 2 * (h4 : Int) := w64 (by omega) (by omega)
  obtain ⟨n, hn⟩ : ∃ n, 2 + 2 * h4 = n := ⟨_, rfl⟩
  have w2 : IntKind.i64.wrap (2 + 2 * (h4 : Int)) = (n : Int) := by rw [w64 (by omega) (by omega)]; omega
  refine W_evK [1, 5] (by simp [hh4', w1, w2]; rfl) ?_
  have hem := empty_sound n
  have hcap : capN n = ((n / 2 * 1960 : Nat) : Int) ∧ capN n ≠ 0 := by
    have hc : ¬ (((n : Int) < 2) ∨ 512 < (n : Int) ∨ (n : Int).tmod 2 ≠ 0) := by
      rw [Int.tmod_eq_emod_of_nonneg (by omega)]; omega
    have e1 : capN n = ((n / 2 * 1960 : Nat) : Int) := by
      have : (n : Int).tdiv 2 = ((n / 2 : Nat) : Int) := by rw [Int.tdiv_eq_ediv_of_nonneg (by omega)]; omega
      unfold capN
      rw [if_neg hc, this]
      omega
    exact ⟨e1, by rw [e1]; omega⟩
  unfold resE at hem
  rw [if_neg hcap.2, Int.toNat_natCast] at hem
  refine W_rK [1, 5, 6, 7] ?_
  refine runA_pre 1 (by simp; rfl) rfl ?_
  refine runA_call (by simp) (by first | (simp; done) | (simp; rfl)) hem.weakR (by simp [AV.plain, AV.plainL]; rfl) ?_
  refine runA_fin (by simp; rfl) ?_
  refine W_seq ?_
  refine W_evK [1, 5, 6, 38] (by simp; rfl) ?_
  refine W_cond rfl (fun h => by simp at h) (fun h => ?_)
  refine W_skip ?_
  refine W_evK [1, 5, 6, 8] (by simp; rfl) ?_
  refine W_evK [1, 5, 6, 8, 9] (by simp; rfl) ?_
  refine W_seq ?_
  refine W_evK [1, 5, 6, 8, 9, 10] (by simp; rfl) ?_
  refine W_block ?_
  have hem0 := emM_new hh4l
  rw [hn] at hem0
  refine W_loop (fun k s => ∃ (i : Nat) (area : List (List Rec)) (xm : AV) (may : List (List UInt8)) (held : Bool), k = l.length - i ∧ i ≤ l.length ∧ area.length = n ∧ okA area ∧ area.foldl nxS 0 ≤ 2 * i ∧ mayX xm may ∧ may.length ≤ i ∧
      (((newM area).2.2 = 380 ∧ held = false) ∨ ((newM area).2.2 = 0 ∧ (newM area).1 ∈ may)) ∧
      s = ⟨173, [(1, .lst .any 4 (tyL l)), (5, .v (.int .i64 n)), (6, .lst .any 1 (arL area)), (8, xm), (9, .v (.bool held)), (10, .v (.int .i64 i))], []⟩)
    (k := l.length) ⟨0, emM n, .lst .nil 1 [], [], false, by simp, by omega, by simp [emM], emM_ok n, by rw [emM_fold]; omega, .inl ⟨rfl, rfl⟩, by simp, .inl ⟨by rw [hem0], rfl⟩, by simp⟩ ?_
  rintro k s ⟨i, area, xm, may, held, rfl, hi, hal, hok, hfo, hmx, hml, hcnd, rfl⟩
  refine W_seq ?_
  by_cases c : i < l.length
  rotate_left
  · refine W_evK [1, 5, 6, 8, 9, 10, 42] (by simp [c]; rfl) ?_
    refine W_cond rfl (fun h => by simp at h) (fun h => ?_)
    refine W_exit ?_
    refine W_rK [4] ?_
    refine runA_call (by simp) (by first | (simp; done) | (simp; rfl)) works_sound (by simp; rfl) ?_
    refine runA_fin (by simp; rfl) ?_
    refine W_ret ?_
    repeat (first | refine on_ret ?_ | refine in_ret ?_)
    simp [retQ]
  have ci : (i : Int) < l.length := by omega
  obtain ⟨t, ht⟩ : ∃ t, l[i]? = some t := ⟨_, List.getElem?_eq_getElem c⟩
  have ht2 : l[i]'c = t := by rw [List.getElem?_eq_getElem c] at ht; exact Option.some.inj ht
  refine W_evK [1, 5, 6, 8, 9, 10, 42] (by simp [c]; rfl) ?_
  refine W_cond rfl (fun h => ?_) (fun h => by simp at h)
  refine W_skip ?_
  refine W_seq ?_
  refine W_block ?_
  obtain ⟨N, hN, hN2⟩ := modN t.len 3001 (by omega) (by omega)
  have hN' : IntKind.i64.wrap ((IntKind.u64.wrap t.len).tmod 3001) = (N : Int) := by rw [← hN]; rfl
  have m1 : (N : Int) ≤ 281474976710656 := by omega
  have m2 : (N : Int) ≤ 9223372036854775807 := by omega
  refine W_evK [1, 5, 6, 8, 9, 10, 11] (by simp [c, ci, ht2, hN', m1, m2, repC_bytes]; rfl) ?_
  refine W_seq ?_
  refine W_evK [1, 5, 6, 8, 9, 10, 11, 12] (by simp; rfl) ?_
  refine W_block ?_
  refine W_loop (fun m s => ∃ (k : Nat) (st : List UInt8), m = N - k ∧ k ≤ N ∧ st.length = N ∧ s = ⟨173, [(1, .lst .any 4 (tyL l)), (5, .v (.int .i64 n)), (6, .lst .any 1 (arL area)), (8, xm), (9, .v (.bool held)), (10, .v (.int .i64 i)), (11, .arr 0 0 N N), (12, .v (.int .i64 k))], [.cells 5 (byL st)]⟩)
    (k := N) ⟨0, List.replicate N 0, by omega, by omega, by simp, by simp⟩ ?_
  rintro m s ⟨k, st, rfl, hk, hst, rfl⟩
  refine W_seq ?_
  by_cases d : k < N
  · have di : (k : Int) < N := by omega
    have dl : k + 1 ≤ st.length := by omega
    refine W_evK [1, 5, 6, 8, 9, 10, 11, 12, 57] (by simp [d]; rfl) ?_
    refine W_cond rfl (fun h => ?_) (fun h => by simp at h)
    refine W_skip ?_
    refine W_seq ?_
    refine W_block ?_
    refine W_rE [1, 5, 6, 8, 9, 10, 11, 12] ?_
    refine runA_pre 6 (by simp [c, ci, ht2]; rfl) rfl ?_
    refine runA_fin (by simp [d, di, dl, set_u8 st k _ (show k < st.length by omega)]; rfl) ?_
    refine W_evE [1, 5, 6, 8, 9, 10, 11, 12] (by simp [w64 (n := (k : Int) + 1) (by omega) (by omega)]; rfl) ?_
    refine ⟨_, by omega, k + 1, _, rfl, by omega, ?_, congrArg (fun z => St.mk _ _ [AObj.cells 5 z]) rfl⟩
    rw [List.length_set]; exact hst
  refine W_evK [1, 5, 6, 8, 9, 10, 11, 12, 57] (by simp [d]; rfl) ?_
  refine W_cond rfl (fun h => by simp at h) (fun h => ?_)
  refine W_exit ?_
  clear d hk

  subst hst
  have hfz : frzArr Try.prog [.cells 5 (byL st)] 1 0 0 st.length st.length = some (.lst (.tip 5 1) 1 (byL st), [.froz 5 (byL st)]) := by
    simp [frzArr]
  refine W_frz 11 rfl (by decide) hfz ?_
  simp only [putF]
  refine W_cutH 0 (Nat.le_refl _) (Nat.zero_le _) (by rcases hmx with ⟨_, rfl⟩ | rfl <;> simp [frUnder, AV.under, AV.underL]) rfl ?_
  simp only [List.take_zero]
  have hsv := save_sound area st (by omega) (by omega)
  have hca : capN (area.length : Nat) = ((n / 2 * 1960 : Nat) : Int) := by rw [hal]; exact hcap.1
  obtain ⟨sv, hsvE⟩ : ∃ sv, saveM area st = sv := ⟨_, rfl⟩
  rw [hsvE] at hsv
  obtain ⟨p, tks, e⟩ := sv
  refine W_rK [1, 5, 6, 8, 9, 10, 11, 13, 14, 15] ?_
  refine runA_pre 2 (by simp; rfl) rfl ?_
  refine runA_call (by simp) (by first | (simp; done) | (simp; rfl)) hsv (by simp [resS]; rfl) ?_
  refine runA_fin (by simp; rfl) ?_
  refine W_seq ?_
  refine W_rK [1, 5, 6, 8, 9, 10, 11, 13, 14, 15, 82] ?_
  refine runA_pre 3 (by simp; rfl) rfl ?_
  refine runA_call (by simp) (by first | (simp; done) | (simp; rfl)) (cap9_sound n) (by simp; rfl) ?_
  rw [hcap.1]
  by_cases z : n / 2 * 1960 < st.length
  · have zi : ((n / 2 * 1960 : Nat) : Int) < st.length := by omega
    have he : e = 2 := by
      unfold saveM at hsvE
      rw [if_neg (by rw [hca]; omega), if_pos (by rw [hca]; omega)] at hsvE
      cases hsvE; rfl
    subst he
    obtain ⟨cp, hcp⟩ : ∃ cp, n / 2 * 1960 = cp := ⟨_, rfl⟩
    rw [hcp] at zi ⊢
    refine runA_fin (by simp [zi, hcp ▸ z]; rfl) ?_
    refine W_cond rfl (fun h => ?_) (fun h => by simp at h)
    refine W_seq ?_
    refine W_evK [1, 5, 6, 8, 9, 10, 84] (by simp; rfl) ?_
    refine W_cond rfl (fun h => by simp at h) (fun h => ?_)
    refine W_skip ?_
    refine W_exit ?_
    refine W_evE [1, 5, 6, 8, 9, 10] (by simp [w64 (n := (i : Int) + 1) (by omega) (by omega)]; rfl) ?_
    exact ⟨_, by omega, i + 1, area, xm, may, held, rfl, by omega, hal, hok, by omega, hmx, by omega, hcnd, by simp⟩
  have zi : ¬ ((n / 2 * 1960 : Nat) : Int) < st.length := by omega
  have hnx : nxM area ≤ 2147483647 := by have := nxM_le area; omega
  obtain ⟨p', tks', hsvE'⟩ := save_ok (area := area) (state := st) (by rw [hal]; exact hcap.2) (by rw [hca]; omega) hnx
  rw [hsvE'] at hsvE
  simp only [Prod.mk.injEq] at hsvE
  obtain ⟨rfl, rfl, rfl⟩ := hsvE
  obtain ⟨q1, q2, q3, q4⟩ := (save_shape hsvE').2 rfl
  have hcp0 : ∃ cp, n / 2 * 1960 = cp := ⟨_, rfl⟩
  obtain ⟨cp, hcp⟩ := hcp0
  rw [hcp] at zi z ⊢
  refine runA_fin (by simp [zi, z]; rfl) ?_
  refine W_cond rfl (fun h => by simp at h) (fun h => ?_)
  refine W_skip ?_
  refine W_seq ?_
  have p0 : ¬ ((p' : Int) < 0) := by omega
  have wp : IntKind.i64.wrap ((p' : Int) + (tks'.length : Int)) = (p' : Int) + (tks'.length : Int) := w64 (by omega) (by omega)
  have p1 : ¬ ((n : Int) < (p' : Int) + (tks'.length : Int)) := by omega
  refine W_rK [1, 5, 6, 8, 9, 10, 11, 13, 14, 98] ?_
  refine runA_pre 6 (by simp [p0]; rfl) rfl ?_
  refine runA_fin (by simp [p0, wp, p1]; rfl) ?_
  refine W_cond rfl (fun h => by simp at h) (fun h => ?_)
  refine W_skip ?_
  have hu1 : IntKind.u64.wrap (tks'.length : Int) = tks'.length := wu64 (by omega) (by omega)
  have hu2 : IntKind.u64.wrap ((tks'.length : Int) + 3) = (tks'.length : Int) + 3 := wu64 (by omega) (by omega)
  have hu3 : ¬ (tks'.length : Int) + 3 = 0 := by omega
  obtain ⟨M, hM, hM2⟩ := modN t.most (tks'.length + 3) (by omega) (by omega)
  have hM' : IntKind.i64.wrap ((IntKind.u64.wrap t.most).tmod ((tks'.length : Int) + 3)) = M := by rw [← hM]; rfl
  have hwr := written_sound area tks' p' M t.bad (okA_small hok (by omega)) q1 q2 (by omega) (by omega)
  obtain ⟨kp1, kp2, kp3⟩ := keeps hsvE' M t.bad (by omega)
  have hao := after_ok (most := M) (bad := t.bad) hsvE' hok
  have haf := after_fold (most := M) (bad := t.bad) hsvE'
  have hnle := nxM_le area
  have hal2 : (wrM area p' 0 M t.bad tks').length = n := by rw [wrM_length, hal]
  obtain ⟨after, hafter⟩ : ∃ after, wrM area p' 0 M t.bad tks' = after := ⟨_, rfl⟩
  obtain ⟨whole, hwhole⟩ : ∃ whole, (decide (min M (sumL tks') = sumL tks') && !(t.bad && decide (M = sumL tks'))) = whole := ⟨_, rfl⟩
  rw [hafter, hwhole] at hwr kp2 kp3
  rw [hafter] at hao haf hal2
  refine W_rdK [1, 5, 8, 9, 10, 11, 16, 17] mx (by decide +kernel) ?_
  refine runD_pre 6 (by simp [c, ci, ht2]; rfl) rfl ?_
  refine runD_pre 6 (by simp [c, ci, ht2, hu1]; rfl) rfl ?_
  refine runD_pre 8 (by simp [c, ci, ht2, hu1, hu2, hu3, hM']; rfl) rfl ?_
  refine runD_call (by simp) (by first | (simp; done) | (simp; rfl)) hwr (by simp; rfl) ?_
  refine runD_fin (by simp; rfl) ?_
  refine W_evK [1, 5, 8, 9, 10, 11, 17, 6] (by simp; rfl) ?_

  have hmay : ∃ may1 held1 xm1, mayX xm1 may1 ∧ may1.length ≤ i ∧ ((whole = true → (newM after).2.2 = 0) ∧ (((newM after).2.2 = 380 ∧ held1 = false) ∨ ((newM after).2.2 = 0 ∧ (newM after).1 ∈ may1 ++ [st]))) ∧ (xm1, held1) = (if whole then (.lst .nil 1 [], true) else (xm, held)) := by
    cases whole with
    | true =>
      have := kp2 rfl
      exact ⟨[], true, .lst .nil 1 [], .inl ⟨rfl, rfl⟩, by simp, ⟨fun _ => by rw [this], .inr ⟨by rw [this], by rw [this]; simp⟩⟩, rfl⟩
    | false =>
      have := kp3 rfl
      refine ⟨may, held, xm, hmx, hml, ⟨fun h => (by cases h), ?_⟩, rfl⟩
      rw [this]
      rcases hcnd with h | ⟨h1, h2⟩
      · exact .inl h
      · exact .inr ⟨h1, by simp [h2]⟩
  obtain ⟨may1, held1, xm1, hmx1, hml1, ⟨hw0, hcnd1⟩, hif⟩ := hmay
  refine W_seqC (fun s => s = ⟨173, [(1, .lst .any 4 (tyL l)), (5, .v (.int .i64 n)), (8, xm1), (9, .v (.bool held1)), (10, .v (.int .i64 i)), (11, .lst (.tip 5 1) 1 (byL st)), (17, .v (.bool whole)), (6, .lst .any 1 (arL after))], []⟩) ?_ ?_
  · refine W_evK [1, 5, 8, 9, 10, 11, 17, 6, 124] (by simp; rfl) ?_
    cases whole with
    | true =>
      simp only [if_true, Prod.mk.injEq] at hif
      obtain ⟨rfl, rfl⟩ := hif
      refine W_cond rfl (fun h => ?_) (fun h => by simp at h)
      refine W_evK [1, 5, 8, 9, 10, 11, 17, 6] (by simp; rfl) ?_
      refine W_evE [1, 5, 8, 9, 10, 11, 17, 6] (by simp; rfl) ?_
      simp [onNormal]
    | false =>
      simp only [Bool.false_eq_true, if_false, Prod.mk.injEq] at hif
      obtain ⟨rfl, rfl⟩ := hif
      refine W_cond rfl (fun h => by simp at h) (fun h => ?_)
      refine W_keepS [1, 5, 8, 9, 10, 11, 17, 6] (W_skip ?_)
      simp [onNormal]
  rintro _ rfl
  have hstl : AV.weakL (byL st) = byL st := by simp
  refine W_seqC (fun s => s = ⟨173, [(1, .lst .any 4 (tyL l)), (5, .v (.int .i64 n)), (8, .lst (.tip 32 257) 1 (bbL (may1 ++ [st]))), (9, .v (.bool held1)), (10, .v (.int .i64 i)), (17, .v (.bool whole)), (6, .lst .any 1 (arL after))], []⟩) ?_ ?_
  · have g1 : (may1.length + 1) * 24 ≤ 140737488355328 := by omega
    have g2 : 24 * (may1.length + 1) ≤ 140737488355328 := by omega
    rcases hmx1 with ⟨rfl, rfl⟩ | rfl
    · refine W_evE [1, 5, 8, 9, 10, 17, 6] (by simp [catK, AV.cellsK, AV.kone, AV.koneL]; rfl) ?_
      simp [onNormal, bbL_cons]
    · refine W_evE [1, 5, 8, 9, 10, 17, 6] (by simp [catK, AV.cellsK, AV.kone, AV.koneL, g1, g2]; rfl) ?_
      simp [onNormal, bbL_cons, bbL_append]
  rintro _ rfl
  obtain ⟨may2, hmay2⟩ : ∃ may2, may1 ++ [st] = may2 := ⟨_, rfl⟩
  have hml2 : may2.length ≤ i + 1 := by rw [← hmay2]; simp; exact hml1
  rw [hmay2] at hcnd1 ⊢
  have hn2 := newest_sound after (by omega)
  obtain ⟨nw2, hN2⟩ : ∃ nw, newM after = nw := ⟨_, rfl⟩
  rw [hN2] at hn2 hcnd1 hw0
  obtain ⟨s1, n1, e1⟩ := nw2
  simp only [resN] at hn2
  simp only at hcnd1 hw0
  refine W_rK [1, 5, 8, 9, 10, 17, 6, 18, 20] ?_
  refine runA_pre 1 (by simp; rfl) rfl ?_
  refine runA_call (by simp) (by first | (simp; done) | (simp; rfl)) hn2 (by simp; rfl) ?_
  refine runA_fin (by simp; rfl) ?_
  obtain ⟨B, hB⟩ : ∃ B, (decide (e1 = 380) && !held1) = B := ⟨_, rfl⟩
  refine W_seqC (fun s => s = ⟨173, [(1, .lst .any 4 (tyL l)), (5, .v (.int .i64 n)), (8, .lst (.tip 32 257) 1 (bbL may2)), (9, .v (.bool held1)), (10, .v (.int .i64 i)), (17, .v (.bool whole)), (6, .lst .any 1 (arL after)), (18, .lst (.tip 5 263) 1 (byL s1)), (20, .v (.int .i64 e1)), (21, .v (.bool B))], []⟩) ?_ ?_
  · by_cases y : e1 = 380
    · subst y
      cases held1 with
      | true =>
        subst hB
        refine W_evE [1, 5, 8, 9, 10, 17, 6, 18, 20, 21] (by simp; rfl) ?_
        simp [onNormal]
      | false =>
        subst hB
        refine W_evE [1, 5, 8, 9, 10, 17, 6, 18, 20, 21] (by simp; rfl) ?_
        simp [onNormal]
    · have y' : ((e1 : Int) == 380) = false := beq_eq_false_iff_ne.2 (by omega)
      have yB : B = false := by rw [← hB, decide_eq_false y]; rfl
      subst yB
      refine W_evE [1, 5, 8, 9, 10, 17, 6, 18, 20, 21] (by simp [y']; rfl) ?_
      simp [onNormal]
  rintro _ rfl
  refine W_seq ?_
  refine W_evK [1, 5, 8, 9, 10, 17, 6, 18, 20, 21, 22] (by simp; rfl) ?_
  refine W_block ?_
  refine W_loop (fun m s => ∃ (k : Nat) (b : Bool), m = may2.length - k ∧ k ≤ may2.length ∧ (b = false → e1 = 0 ∧ s1 ∈ may2.drop k) ∧ s = ⟨173, [(1, .lst .any 4 (tyL l)), (5, .v (.int .i64 n)), (8, .lst (.tip 32 257) 1 (bbL may2)), (9, .v (.bool held1)), (10, .v (.int .i64 i)), (17, .v (.bool whole)), (6, .lst .any 1 (arL after)), (18, .lst (.tip 5 263) 1 (byL s1)), (20, .v (.int .i64 e1)), (21, .v (.bool b)), (22, .v (.int .i64 k))], []⟩)
    (k := may2.length) ⟨0, B, by omega, by omega, ?_, by simp⟩ ?_
  · intro hb
    rw [hb] at hB
    rcases hcnd1 with ⟨h1, h2⟩ | ⟨h1, h2⟩
    · rw [h1, h2] at hB; cases hB
    · exact ⟨h1, h2⟩
  rintro m s ⟨k, b, rfl, hk, hkb, rfl⟩
  refine W_seq ?_
  cases b with
  | true =>
    refine W_seqC (fun s => s = ⟨173, [(1, .lst .any 4 (tyL l)), (5, .v (.int .i64 n)), (8, .lst (.tip 32 257) 1 (bbL may2)), (9, .v (.bool held1)), (10, .v (.int .i64 i)), (17, .v (.bool whole)), (6, .lst .any 1 (arL after)), (18, .lst (.tip 5 263) 1 (byL s1)), (20, .v (.int .i64 e1)), (21, .v (.bool true)), (22, .v (.int .i64 k)), (148, .v (.bool false))], []⟩) ?_ ?_
    · by_cases y : k < may2.length
      · refine W_evE [1, 5, 8, 9, 10, 17, 6, 18, 20, 21, 22, 148] (by simp [y]; rfl) ?_
        simp [onNormal]
      · refine W_evE [1, 5, 8, 9, 10, 17, 6, 18, 20, 21, 22, 148] (by simp [y]; rfl) ?_
        simp [onNormal]
    rintro _ rfl
    refine W_cond rfl (fun h => by simp at h) (fun h => ?_)
    refine W_exit ?_
    refine W_seqC (fun s => s = ⟨173, [(1, .lst .any 4 (tyL l)), (5, .v (.int .i64 n)), (8, .lst (.tip 32 257) 1 (bbL may2)), (9, .v (.bool held1)), (10, .v (.int .i64 i)), (6, .lst .any 1 (arL after)), (171, .v (.bool false))], []⟩) ?_ ?_
    · cases whole with
      | true =>
        have := hw0 rfl
        subst this
        refine W_evE [1, 5, 8, 9, 10, 6, 171] (by simp; rfl) ?_
        simp [onNormal]
      | false =>
        refine W_evE [1, 5, 8, 9, 10, 6, 171] (by simp; rfl) ?_
        simp [onNormal]
    rintro _ rfl
    refine W_cond rfl (fun h => by simp at h) (fun h => ?_)
    refine W_skip ?_
    refine W_perm (fr' := [(1, .lst .any 4 (tyL l)), (5, .v (.int .i64 n)), (6, .lst .any 1 (arL after)), (8, .lst (.tip 32 257) 1 (bbL may2)), (9, .v (.bool held1)), (10, .v (.int .i64 i)), (171, .v (.bool false))]) (fun j => ?_) ?_
    · simp only [getF]
      by_cases h1 : j = 6
      · subst h1; rfl
      · simp only [h1, if_false]
    refine W_evE [1, 5, 6, 8, 9, 10] (by simp [w64 (n := (i : Int) + 1) (by omega) (by omega)]; rfl) ?_
    exact ⟨_, by omega, i + 1, after, _, may2, held1, rfl, by omega, hal2, hao, by omega, .inr rfl, hml2, by rw [hN2]; exact hcnd1, by simp⟩
  | false =>
    obtain ⟨rfl, hmem⟩ := hkb rfl
    have y : k < may2.length := by
      refine Classical.byContradiction fun hh => ?_
      rw [List.drop_eq_nil_of_le (by omega)] at hmem
      cases hmem
    have yi : (k : Int) < may2.length := by omega
    refine W_evK [1, 5, 8, 9, 10, 17, 6, 18, 20, 21, 22, 148] (by simp [y]; rfl) ?_
    refine W_cond rfl (fun h => ?_) (fun h => by simp at h)
    refine W_skip ?_
    refine W_seq ?_
    refine W_block ?_
    refine W_rdE [1, 5, 8, 9, 10, 17, 6, 18, 20, 21, 22] mx (by decide +kernel) ?_
    refine runD_pre 6 (by simp; rfl) rfl ?_
    refine runD_fin (by simp [y, yi]; rfl) ?_
    refine W_evE [1, 5, 8, 9, 10, 17, 6, 18, 20, 21, 22] (by simp [w64 (n := (k : Int) + 1) (by omega) (by omega)]; rfl) ?_
    refine ⟨_, ?_, k + 1, _, rfl, by omega, ?_, by simp; rfl⟩
    · omega
    · intro hb
      refine ⟨rfl, ?_⟩
      rw [List.drop_eq_getElem_cons y] at hmem
      rcases List.mem_cons.1 hmem with h1 | h1
      · rw [h1] at hb; simp at hb
      · exact h1
end Go.AM
