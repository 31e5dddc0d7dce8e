/- The plain law of saves that stop before their end. -/
import Derived.Test.YtonckolkghbcbaaC38PC
import Derived.Test.YtonckolkghbcbaaC38H
namespace Go.AM
open Go.RowKit Go.Proofs
set_option linter.unusedSimpArgs false
set_option linter.unusedVariables false
set_option maxHeartbeats 1000000

theorem wrM_length (most : Nat) (bad : Bool) : ∀ (l a : List (List Rec)) (p n : Nat), (wrM a p n most bad l).length = a.length
  | [], a, p, n => rfl
  | t :: l, a, p, n => by rw [wrM, wrM_length most bad l, List.length_set]
theorem wrM_lt (most : Nat) (bad : Bool) : ∀ (l a : List (List Rec)) (p n j : Nat), j < p → (wrM a p n most bad l)[j]? = a[j]?
  | [], a, p, n, j, h => rfl
  | t :: l, a, p, n, j, h => by rw [wrM, wrM_lt most bad l _ _ _ _ (by omega), List.getElem?_set_ne (by omega)]
theorem wrM_ge (most : Nat) (bad : Bool) : ∀ (l a : List (List Rec)) (p n j : Nat), p + l.length ≤ j → (wrM a p n most bad l)[j]? = a[j]?
  | [], a, p, n, j, h => rfl
  | t :: l, a, p, n, j, h => by
    simp only [List.length_cons] at h
    rw [wrM, wrM_ge most bad l _ _ _ _ (by omega), List.getElem?_set_ne (by omega)]
theorem wrM_in (most : Nat) (bad : Bool) : ∀ (l a : List (List Rec)) (p n j : Nat) (t o : List Rec), n ≤ most → l[j]? = some t → a[p + j]? = some o →
    (wrM a p n most bad l)[p + j]? = some (wr1 t (min most (n + sumL (l.take j))) most bad o)
  | [], a, p, n, j, t, o, hn, h1, h2 => by simp at h1
  | u :: l, a, p, n, 0, t, o, hn, h1, h2 => by
    simp at h1
    subst h1
    simp only [Nat.add_zero] at h2 ⊢
    have hp := (List.getElem?_eq_some_iff.1 h2).1
    rw [wrM, wrM_lt most bad l _ _ _ _ (by omega), List.getElem?_set_self hp, List.getD_eq_getElem?_getD, h2, Option.getD_some]
    simp only [List.take_zero, sumL, List.map_nil, List.sum_nil, Nat.add_zero]
    rw [Nat.min_eq_right hn]
  | u :: l, a, p, n, j + 1, t, o, hn, h1, h2 => by
    have hc : n + cnt u n most = min most (n + u.length) := by unfold cnt; omega
    have h3 : (a.set p (wr1 u n most bad (a.getD p [])))[p + 1 + j]? = some o := by
      rw [List.getElem?_set_ne (by omega), show p + 1 + j = p + (j + 1) by omega]; exact h2
    have := wrM_in most bad l (a.set p (wr1 u n most bad (a.getD p []))) (p + 1) (n + cnt u n most) j t o (by omega) (by simpa using h1) h3
    rw [wrM, show p + (j + 1) = p + 1 + j by omega, this, hc]
    congr 2
    have : sumL ((u :: l).take (j + 1)) = u.length + sumL (l.take j) := by simp [sumL]
    rw [this]
    omega

theorem wtr_all (t : List Rec) (n most : Nat) (k : Nat) (hk : k = t.length) (bad : Bool) (h : bad = true → n + t.length < most) : wtr t n most bad k = t := by
  induction t generalizing n k with
  | nil => subst hk; rfl
  | cons r t ih =>
    subst hk
    simp only [List.length_cons] at h ⊢
    rw [wtr, ih (n + 1) t.length rfl (fun hb => by have := h hb; omega)]
    have : (bad && decide (n + 1 = most)) = false := by
      cases bad with
      | false => rfl
      | true => have := h rfl; simp; omega
    rw [this]
    simp [bd]

theorem sumL_tks {m seq : Nat} {st : List UInt8} (hm : 0 < m) : ∀ i, i ≤ m → sumL ((tksM m seq st).take i) = if i = m then m + 1 else i
  | 0, _ => by rw [if_neg (by omega)]; rfl
  | i + 1, h => by
    have hg := tksM_get (seq := seq) (st := st) (i := i) (m := m) (by omega)
    have : sumL ((tksM m seq st).take (i + 1)) = sumL ((tksM m seq st).take i) + (if i + 1 = m then 2 else 1) := by
      unfold sumL
      rw [List.take_add_one, hg]
      simp
      split <;> rfl
    rw [this, sumL_tks hm i (by omega), if_neg (show ¬ i = m by omega)]
    split <;> omega
theorem sumL_tks' {m seq : Nat} {st : List UInt8} (hm : 0 < m) : sumL (tksM m seq st) = m + 1 := by
  have := sumL_tks (seq := seq) (st := st) hm m (Nat.le_refl _)
  rw [if_pos rfl, List.take_of_length_le (by rw [tksM_length]; omega)] at this
  exact this

theorem pc_seq {a b : Nat} {s t : List UInt8} {i j : Nat} (ha : a < 4294967296) (hb : b < 4294967296) (h : (pcM a s i).data = (pcM b t j).data) : a = b := by
  have h1 : val4 (pcM a s i).data = a := by rw [pcM_data]; exact val4_be4 ha _
  have h2 : val4 (pcM b t j).data = b := by rw [pcM_data]; exact val4_be4 hb _
  rw [← h1, h, h2]

theorem slot_under {S old : List (List Rec)} {m nx par most : Nat} {st : List UInt8} {bad : Bool} (hm : 0 < m) (hSl : S.length = m) (hol : old.length = m) (hnx : nx < 4294967296)
    (hold : ∀ r rest, old[m - 1]? = some (r :: rest) → r.bad = false → 4 ≤ r.data.length → val4 r.data < nx)
    (hS : ∀ j t o, (tksM m nx st)[j]? = some t → old[j]? = some o → S[j]? = some (wr1 t (min most (sumL ((tksM m nx st).take j))) most bad o))
    (h0 : 0 < most) (hw : ¬ (m + 1 ≤ most ∧ (bad = true → m + 1 < most))) : readM S par = ([], 0) := by
  refine readM_zero ?_
  refine Classical.byContradiction fun hne => ?_
  obtain ⟨sst, sq, hrd⟩ : ∃ sst sq, readM S par = (sst, sq) := ⟨_, _, rfl⟩
  rw [hrd] at hne
  simp only at hne
  obtain ⟨i1, i2, i3, i4, i5⟩ := readM_inv (by omega) hrd hne
  rw [hSl] at i5

  have hf := tksM_get (seq := nx) (st := st) (i := 0) hm
  obtain ⟨o0, ho0⟩ : ∃ o, old[0]? = some o := ⟨_, List.getElem?_eq_getElem (by omega)⟩
  have hS0 := hS 0 _ o0 hf ho0
  have hf2 := tksM_get (seq := sq) (st := sst) (i := 0) hm
  rw [i5, hf2] at hS0
  have hS0 := Option.some.inj hS0
  have e0 : min most (sumL ((tksM m nx st).take 0)) = 0 := by simp [sumL]
  rw [e0] at hS0
  have hseq : sq = nx := by
    have hpl : ∃ l, (if 0 + 1 = m then [pcM nx st 0, hdR nx st.length] else [pcM nx st 0]) = pcM nx st 0 :: l := by
      split
      · exact ⟨_, rfl⟩
      · exact ⟨_, rfl⟩
    obtain ⟨l, hl⟩ := hpl
    have hpl2 : ∃ l, (if 0 + 1 = m then [pcM sq sst 0, hdR sq sst.length] else [pcM sq sst 0]) = pcM sq sst 0 :: l := by
      split
      · exact ⟨_, rfl⟩
      · exact ⟨_, rfl⟩
    obtain ⟨l2, hl2⟩ := hpl2
    rw [hl, hl2] at hS0
    have hcn : cnt (pcM nx st 0 :: l) 0 most ≠ 0 := by unfold cnt; simp; omega
    unfold wr1 at hS0
    rw [if_neg hcn] at hS0
    obtain ⟨q, hq⟩ : ∃ q, cnt (pcM nx st 0 :: l) 0 most = q + 1 := ⟨_, (Nat.succ_pred_eq_of_ne_zero hcn).symm⟩
    rw [hq, wtr] at hS0
    have h1 := (List.cons.inj hS0).1
    have h2 : (pcM sq sst 0).data = (pcM nx st 0).data := by rw [h1]; rfl
    exact pc_seq (by omega) hnx h2
  subst hseq

  have hlt := tksM_get (seq := sq) (st := st) (i := m - 1) (m := m) (by omega)
  have hlt2 := tksM_get (seq := sq) (st := sst) (i := m - 1) (m := m) (by omega)
  rw [if_pos (by omega)] at hlt hlt2
  obtain ⟨oz, hoz⟩ : ∃ o, old[m - 1]? = some o := ⟨_, List.getElem?_eq_getElem (by omega)⟩
  have hSz := hS (m - 1) _ oz hlt hoz
  rw [i5, hlt2] at hSz
  have hSz := Option.some.inj hSz
  rw [sumL_tks hm (m - 1) (by omega), if_neg (by omega)] at hSz
  rcases Nat.lt_or_ge most m with g | g
  ·
    have hcn : cnt [pcM sq st (m - 1), hdR sq st.length] (min most (m - 1)) most = 0 := by unfold cnt; simp; omega
    unfold wr1 at hSz
    rw [if_pos hcn] at hSz
    have := hold (pcM sq sst (m - 1)) [hdR sq sst.length] (by rw [hoz, hSz]) rfl (by rw [pcM_data]; simp)
    rw [pcM_data, val4_be4 hnx] at this
    omega
  · have hmin : min most (m - 1) = m - 1 := by omega
    rw [hmin] at hSz
    rcases Nat.lt_or_ge most (m + 1) with g2 | g2
    ·
      have hcn : cnt [pcM sq st (m - 1), hdR sq st.length] (m - 1) most = 1 := by unfold cnt; simp; omega
      unfold wr1 at hSz
      rw [hcn, if_neg (by omega)] at hSz
      simp [wtr] at hSz
    ·
      have hcn : cnt [pcM sq st (m - 1), hdR sq st.length] (m - 1) most = 2 := by unfold cnt; simp; omega
      have hb : bad = true ∧ most = m + 1 := by
        refine Classical.byContradiction fun hh => hw ⟨g2, fun hb => ?_⟩
        have : ¬ most = m + 1 := fun e => hh ⟨hb, e⟩
        omega
      obtain ⟨rfl, rfl⟩ := hb
      unfold wr1 at hSz
      rw [hcn, if_neg (by omega)] at hSz
      have e : m - 1 + 1 + 1 = m + 1 := by omega
      simp [wtr, e, bd, hdR] at hSz

theorem nx_foldl_le : ∀ (l : List (List Rec)) (n : Nat), n ≤ l.foldl nxS n
  | [], n => Nat.le_refl _
  | t :: l, n => by
    refine Nat.le_trans ?_ (nx_foldl_le l (nxS n t))
    unfold nxS
    split
    · exact Nat.le_refl _
    · split <;> omega
theorem nx_foldl_ge : ∀ (l : List (List Rec)) (n j : Nat) (r : Rec) (rest : List Rec), l[j]? = some (r :: rest) → r.bad = false → 4 ≤ r.data.length → val4 r.data ≤ l.foldl nxS n
  | [], n, j, r, rest, h, _, _ => by simp at h
  | t :: l, n, 0, r, rest, h, hb, hd => by
    simp at h
    subst h
    refine Nat.le_trans ?_ (nx_foldl_le l _)
    simp only [nxS, hb, hd, and_self, if_true]
    omega
  | t :: l, n, j + 1, r, rest, h, hb, hd => nx_foldl_ge l _ j r rest (by simpa using h) hb hd
theorem nxM_gt {area : List (List Rec)} {j : Nat} {r : Rec} {rest : List Rec} (h : area[j]? = some (r :: rest)) (hb : r.bad = false) (hd : 4 ≤ r.data.length) : val4 r.data < nxM area := by
  have := nx_foldl_ge area 0 j r rest h hb hd
  unfold nxM
  simp only
  split <;> omega
theorem nxM_pos (area : List (List Rec)) : 1 ≤ nxM area := by
  unfold nxM
  simp only
  split <;> omega

theorem half_lt {area S : List (List Rec)} {p par sq : Nat} {st : List UInt8} (hp : ∀ t, S[0]? = some t → area[p]? = some t) (hl : 0 < S.length) (h : readM S par = (st, sq)) : sq < nxM area := by
  rcases Nat.eq_zero_or_pos sq with e | e
  · subst e; exact nxM_pos area
  · obtain ⟨i1, i2, i3, i4, i5⟩ := readM_inv hl h (by omega)
    have hg := tksM_get (seq := sq) (st := st) (i := 0) hl
    rw [← i5] at hg
    have ha := hp _ hg
    have hpl : ∃ l, (if 0 + 1 = S.length then [pcM sq st 0, hdR sq st.length] else [pcM sq st 0]) = pcM sq st 0 :: l := by
      split
      · exact ⟨_, rfl⟩
      · exact ⟨_, rfl⟩
    obtain ⟨l, hl2⟩ := hpl
    rw [hl2] at ha
    have := nxM_gt ha rfl (by rw [pcM_data]; simp)
    rwa [pcM_data, val4_be4 (by omega)] at this

theorem whole_iff (S most : Nat) (bad : Bool) : (decide (min most S = S) && !(bad && decide (most = S))) = true ↔ S ≤ most ∧ (bad = true → S < most) := by
  cases bad
  · simp
    omega
  · simp
    omega
def pick1 (r : List UInt8 × Nat) : List UInt8 × Nat × Nat := if r.2 = 0 then ([], 0, 380) else (r.1, r.2, 0)
def pick2 (a b : List UInt8 × Nat) : List UInt8 × Nat × Nat := pick1 (if a.2 < b.2 then b else a)
theorem pick2_b {a b : List UInt8 × Nat} (h : a.2 < b.2) : pick2 a b = (b.1, b.2, 0) := by
  unfold pick2
  rw [if_pos h]
  exact if_neg (by omega)
theorem pick2_a {a b : List UInt8 × Nat} (h : b.2 ≤ a.2) (h2 : a.2 ≠ 0) : pick2 a b = (a.1, a.2, 0) := by
  unfold pick2
  rw [if_neg (by omega)]
  exact if_neg h2
theorem pick2_0 {a b : List UInt8 × Nat} (h : a.2 = 0) (h2 : b.2 = 0) : pick2 a b = ([], 0, 380) := by
  unfold pick2
  rw [if_neg (by omega)]
  exact if_pos h

theorem keeps {area tks : List (List Rec)} {state : List UInt8} {p : Nat} (hsv : saveM area state = (p, tks, 0)) (most : Nat) (bad : Bool) (hm2 : most ≤ sumL tks + 2) :
    (newM area).2.1 < nxM area ∧
    ((decide (min most (sumL tks) = sumL tks) && !(bad && decide (most = sumL tks))) = true → newM (wrM area p 0 most bad tks) = (state, nxM area, 0)) ∧
    ((decide (min most (sumL tks) = sumL tks) && !(bad && decide (most = sumL tks))) = false → newM (wrM area p 0 most bad tks) = newM area) := by
  unfold saveM at hsv
  split at hsv
  · cases hsv
  rename_i hc
  split at hsv
  · cases hsv
  rename_i hcl
  split at hsv
  · cases hsv
  rename_i hnx
  obtain ⟨k1, k2, k3, k4⟩ := capN_pos hc
  obtain ⟨m, hm⟩ : ∃ m, area.length / 2 = m := ⟨_, rfl⟩
  have h2m : area.length = 2 * m := by omega
  rw [k4, hm] at hcl
  rw [hm] at hsv
  obtain ⟨nx, hnxe⟩ : ∃ nx, nxM area = nx := ⟨_, rfl⟩
  rw [hnxe] at hnx hsv ⊢
  simp only [Prod.mk.injEq, and_true] at hsv
  obtain ⟨hp, rfl⟩ := hsv
  have hm0 : 0 < m := by omega
  have hst : state.length ≤ m * 1960 := by omega
  have hS := sumL_tks' (seq := nx) (st := state) hm0
  rw [hS] at hm2 ⊢
  have hpos := nxM_pos area
  rw [hnxe] at hpos
  obtain ⟨a, ha⟩ : ∃ a, readM (area.take m) 0 = a := ⟨_, rfl⟩
  obtain ⟨b, hb⟩ : ∃ b, readM (area.drop m) 1 = b := ⟨_, rfl⟩
  have hN : newM area = pick2 a b := by
    unfold newM; rw [if_neg hc, hm, ha, hb]; rfl
  have hla : (area.take m).length = m := by simp; omega
  have hlb : (area.drop m).length = m := by simp; omega
  have hlta : a.2 < nx := by
    rw [← hnxe]
    exact half_lt (area := area) (S := area.take m) (p := 0) (fun t h => by rwa [List.getElem?_take, if_pos hm0] at h) (by omega) (by rw [ha])
  have hltb : b.2 < nx := by
    rw [← hnxe]
    exact half_lt (area := area) (S := area.drop m) (p := m) (fun t h => by rwa [List.getElem?_drop] at h) (by omega) (by rw [hb])
  have hpa : a.2 % 2 = 0 := by
    rcases Nat.eq_zero_or_pos a.2 with e | e
    · rw [e]
    · exact (readM_inv (par := 0) (by omega) (show readM (area.take m) 0 = (a.1, a.2) from ha) (by omega)).2.2.1
  have hpb : b.2 = 0 ∨ b.2 % 2 = 1 := by
    rcases Nat.eq_zero_or_pos b.2 with e | e
    · exact .inl e
    · exact .inr (readM_inv (par := 1) (by omega) (show readM (area.drop m) 1 = (b.1, b.2) from hb) (by omega)).2.2.1
  have hpar : (newM area).2.2 = 0 → nx % 2 ≠ (newM area).2.1 % 2 := by
    intro h
    rw [← hnxe]
    unfold nxM
    simp only
    split
    · rename_i h2; omega
    · rename_i h2; intro h3; exact h2 ⟨h, h3⟩
  have hza := readM_zero (l := area.take m) (par := 0)
  have hzb := readM_zero (l := area.drop m) (par := 1)
  rw [ha] at hza
  rw [hb] at hzb
  refine ⟨?_, ?_⟩
  · rw [hN]
    unfold pick2
    have h1 : (if a.2 < b.2 then b else a).2 < nx := by split <;> assumption
    generalize (if a.2 < b.2 then b else a) = r at h1 ⊢
    unfold pick1
    split
    · show 0 < nx; omega
    · exact h1

  obtain ⟨W, hW⟩ : ∃ W, wrM area p 0 most bad (tksM m nx state) = W := ⟨_, rfl⟩
  have hWl : W.length = area.length := by rw [← hW, wrM_length]
  have hNW : newM W = pick2 (readM (W.take m) 0) (readM (W.drop m) 1) := by
    unfold newM; rw [hWl, if_neg hc, hm]; rfl
  rw [hW]

  have hwritten : ∀ (S old : List (List Rec)) (par : Nat), nx % 2 = par → S.length = m → old.length = m →
      (∀ (j : Nat) (t : List Rec), old[j]? = some t → ∃ i : Nat, area[i]? = some t) →
      (∀ (j : Nat) (t o : List Rec), (tksM m nx state)[j]? = some t → old[j]? = some o → S[j]? = some (wr1 t (min most (sumL ((tksM m nx state).take j))) most bad o)) →
      ((decide (min most (m + 1) = m + 1) && !(bad && decide (most = m + 1))) = true → readM S par = (state, nx)) ∧
      ((decide (min most (m + 1) = m + 1) && !(bad && decide (most = m + 1))) = false → (most = 0 ∧ S = old) ∨ readM S par = ([], 0)) := by
    intro S old par hpp hSl hol hoa hSo
    refine ⟨fun hwh => ?_, fun hwh => ?_⟩
    · have hw2 := (whole_iff (m + 1) most bad).1 hwh
      have hSe : S = tksM m nx state := by
        refine List.ext_getElem? fun j => ?_
        rcases Nat.lt_or_ge j m with hj | hj
        · have hg := tksM_get (seq := nx) (st := state) hj
          have := hSo j _ _ hg (List.getElem?_eq_getElem (by omega))
          have hmin : min most j = j := by have := hw2.1; omega
          rw [this, hg, sumL_tks hm0 j (by omega), if_neg (show ¬ j = m by omega), hmin]
          congr 1
          have hc1 : cnt (if j + 1 = m then [pcM nx state j, hdR nx state.length] else [pcM nx state j]) j most = (if j + 1 = m then [pcM nx state j, hdR nx state.length] else [pcM nx state j]).length := by
            have := hw2.1
            unfold cnt
            split <;> simp <;> omega
          unfold wr1
          rw [hc1, if_neg (by split <;> simp)]
          refine wtr_all _ _ _ _ rfl _ fun hb' => ?_
          have := hw2.2 hb'
          split <;> simp <;> omega
        · rw [List.getElem?_eq_none (by omega), List.getElem?_eq_none (by rw [tksM_length]; omega)]
      rw [hSe]
      exact readM_tks hm0 hpos (by omega) hpp hst (by omega)
    · rcases Nat.eq_zero_or_pos most with h0 | h0
      · refine .inl ⟨h0, ?_⟩
        refine List.ext_getElem? fun j => ?_
        rcases Nat.lt_or_ge j m with hj | hj
        · have hg := tksM_get (seq := nx) (st := state) hj
          have := hSo j _ _ hg (List.getElem?_eq_getElem (by omega))
          rw [this, List.getElem?_eq_getElem (by omega)]
          congr 1
          unfold wr1 cnt
          rw [if_pos (by rw [h0]; omega)]
        · rw [List.getElem?_eq_none (by omega), List.getElem?_eq_none (by omega)]
      · refine .inr (slot_under hm0 hSl hol (by omega) ?_ hSo h0 ?_)
        · intro r rest hr hb' hd
          obtain ⟨i, hi⟩ := hoa _ _ hr
          rw [← hnxe]
          exact nxM_gt hi hb' hd
        · intro hh
          rw [(whole_iff (m + 1) most bad).2 hh] at hwh
          cases hwh
  rcases Nat.mod_two_eq_zero_or_one nx with hpr | hpr
  ·
    rw [hpr, Nat.zero_mul] at hp
    subst hp
    have hWd : W.drop m = area.drop m := by
      refine List.ext_getElem? fun j => ?_
      rw [List.getElem?_drop, List.getElem?_drop, ← hW]
      exact wrM_ge most bad _ _ _ _ _ (by rw [tksM_length]; omega)
    rw [hWd, hb] at hNW
    have hwr := hwritten (W.take m) (area.take m) 0 hpr (by simp; omega) hla (fun j t h => ⟨j, by
      rw [List.getElem?_take] at h
      split at h
      · exact h
      · cases h⟩) (fun j t o ht ho => by
      have hj : j < m := by rw [← tksM_length m nx state]; exact (List.getElem?_eq_some_iff.1 ht).1
      rw [List.getElem?_take, if_pos hj] at ho ⊢
      rw [← hW]
      have := wrM_in most bad (tksM m nx state) area 0 0 j t o (by omega) ht (by simpa using ho)
      simpa using this)
    refine ⟨fun h => ?_, fun h => ?_⟩
    · rw [hNW, hwr.1 h]
      exact pick2_a (by show b.2 ≤ nx; omega) (by show nx ≠ 0; omega)
    · rcases hwr.2 h with ⟨h0, hSe⟩ | h1
      · rw [hNW, hSe, ha, hN]
      · rw [hNW, h1, hN]
        rcases Nat.lt_or_ge a.2 b.2 with g | g
        · rw [pick2_b g, pick2_b (show 0 < b.2 by omega)]
        · have ha0 : a.2 = 0 := by
            refine Classical.byContradiction fun hne => ?_
            have hN2 : newM area = (a.1, a.2, 0) := by rw [hN]; exact pick2_a g hne
            have := hpar (by rw [hN2])
            rw [hN2] at this
            simp only at this
            omega
          rw [pick2_0 ha0 (by omega), pick2_0 rfl (by omega)]
  ·
    rw [hpr, Nat.one_mul] at hp
    subst hp
    have hWt : W.take m = area.take m := by
      refine List.ext_getElem? fun j => ?_
      rw [List.getElem?_take, List.getElem?_take, ← hW]
      split
      · rename_i hj
        exact wrM_lt most bad _ _ _ _ _ hj
      · rfl
    rw [hWt, ha] at hNW
    have hwr := hwritten (W.drop m) (area.drop m) 1 hpr (by simp; omega) hlb (fun j t h => ⟨m + j, by rwa [List.getElem?_drop] at h⟩) (fun j t o ht ho => by
      rw [List.getElem?_drop] at ho ⊢
      rw [← hW]
      have := wrM_in most bad (tksM m nx state) area m 0 j t o (by omega) ht ho
      simpa using this)
    refine ⟨fun h => ?_, fun h => ?_⟩
    · rw [hNW, hwr.1 h]
      exact pick2_b (show a.2 < nx by omega)
    · rcases hwr.2 h with ⟨h0, hSe⟩ | h1
      · rw [hNW, hSe, hb, hN]
      · rw [hNW, h1, hN]
        rcases Nat.lt_or_ge a.2 b.2 with g | g
        · have hN2 : newM area = (b.1, b.2, 0) := by rw [hN]; exact pick2_b g
          have := hpar (by rw [hN2])
          rw [hN2] at this
          simp only at this
          omega
        · rcases Nat.eq_zero_or_pos a.2 with e | e
          · rw [pick2_0 e rfl, pick2_0 e (by omega)]
          · rw [pick2_a g (by omega), pick2_a (Nat.zero_le _) (by omega)]
end Go.AM
