/- Tracks that nobody shares: what they read as, and that they can be written. -/
import Derived.Test.YtonckolkghbcbaaC38ZC
import Derived.Test.YtonckolkghbcbaaC38ZD
import Derived.Test.YtonckolkghbcbaaC38PA
import Derived.Test.YtonckolkghbcbaaAmC
namespace Go.AM
open Go.RowKit Go.Proofs
set_option linter.unusedSimpArgs false
set_option linter.unusedVariables false
set_option maxHeartbeats 2000000

theorem CallW.weakArgs {P : Program} {f : FuncId} {args : List AV} {h : List AObj} {Q : AV → List AObj → Prop} (hc : CallW P f (AV.weakL args) h Q) : CallW P f args h Q :=
  ⟨hc.1, fun F n c w vals h1 h2 h3 h4 h5 h6 => hc.2 F n c w vals h1 h2 h3 h4 h5 h6.weak⟩

theorem spoilT_nil (h : List AObj) : CallW Try.prog 20 [.lst .nil 1 []] h fun r _ => r = .tup [] := by
  refine callW_of_F Try.func20 rfl (by decide +kernel) (by simp [Try.f20]) (rs := []) rfl ?_
  rw [show Try.f20.ntmps = 57 from rfl]
  refine W_evK [0, 2] (by simp; rfl) ?_
  refine W_block ?_
  refine W_loop (fun k s => k = 0 ∧ s = ⟨57, [(0, .lst .nil 1 []), (2, .v (.int .i64 0))], h⟩) (k := 0) ⟨rfl, by simp⟩ ?_
  rintro k s ⟨rfl, rfl⟩
  refine W_seq ?_
  refine W_evK [0, 2, 8] (by simp; rfl) ?_
  refine W_cond rfl (fun h => by simp at h) (fun h => ?_)
  refine W_exit ?_
  exact ⟨.inl rfl, .tup [], rfl, rfl⟩

def recC4 (r : Rec) : List AV := [.v (.int .i64 r.R), .lst .any 1 (byL r.key), .lst .any 1 (byL r.data), .v (.bool r.bad)]
theorem flat4_get : ∀ (t : List Rec) (k : Nat) (y : AV), (t.flatMap recC4)[k]? = some y → ∃ (m j : Nat) (r : Rec), t[m]? = some r ∧ k = m * 4 + j ∧ (recC4 r)[j]? = some y
  | [], k, y, h => by simp at h
  | r :: t, k, y, h => by
    rw [List.flatMap_cons] at h
    have hl : (recC4 r).length = 4 := rfl
    by_cases c : k < 4
    · rw [List.getElem?_append_left (by omega)] at h
      exact ⟨0, k, r, rfl, by omega, h⟩
    · rw [List.getElem?_append_right (by omega), hl] at h
      obtain ⟨m, j, r2, h1, h2, h3⟩ := flat4_get t (k - 4) y h
      exact ⟨m + 1, j, r2, h1, by omega, h3⟩
theorem flat4_length (t : List Rec) : (t.flatMap recC4).length = t.length * 4 := by
  induction t with
  | nil => rfl
  | cons r t ih => rw [List.flatMap_cons, List.length_append, ih, List.length_cons]; show 4 + _ = _; omega
theorem flat4_kone (t : List Rec) : AV.koneL (t.flatMap recC4) = true := by
  induction t with
  | nil => rfl
  | cons r t ih => rw [List.flatMap_cons]; simp [recC4, AV.koneL, AV.kone, ih]
theorem flat4_rf (t : List Rec) : AV.rfL (t.flatMap recC4) = true := by
  induction t with
  | nil => rfl
  | cons r t ih => rw [List.flatMap_cons]; simp [recC4, AV.rfL, AV.rf, ih]
theorem flat4_chunk (t : List Rec) : chunk true 4 t.length (t.flatMap recC4) = trL t := by
  induction t with
  | nil => rfl
  | cons r t ih =>
    rw [List.flatMap_cons, List.length_cons, chunk]
    have h1 : (recC4 r ++ t.flatMap recC4).take 4 = recC4 r := List.take_left' rfl
    have h2 : (recC4 r ++ t.flatMap recC4).drop 4 = t.flatMap recC4 := List.drop_left' rfl
    rw [h1, h2, ih]
    rfl

theorem trkS_view {h : List AObj} {c : AV} {t : List Rec} (ht : trkS h c t) : VwD Try.prog h c (.lst .any 4 (trL t)) := by
  obtain ⟨jt, cap, cs, rfl, h1, h2, h3⟩ := ht
  have := VwD.row (P := Try.prog) (h := h) (id := jt) (len := t.length) (cap := cap) (sz := 4) (ag := true) (ty := 52) (cs := cs) (ys := t.flatMap recC4) (fun k => cs.getD k .any) h1 (by decide) (.inl rfl) h2 (flat4_length t) (flat4_kone t) (flat4_rf t)
    (fun k y hk => by
      have := (List.getElem?_eq_some_iff.1 hk).1
      rw [flat4_length] at this
      rw [List.getD_eq_getElem?_getD, List.getElem?_eq_getElem (by omega)]
      rfl)
    (fun k y hk => by
      obtain ⟨m, j, r, k1, rfl, k3⟩ := flat4_get t k y hk
      obtain ⟨jd, capd, bs, p0, p1, p2, p3, p4, p5, p6⟩ := h3 m r k1
      match j, k3 with
      | 0, k3 =>
        simp [recC4] at k3
        subst k3
        rw [Nat.add_zero, List.getD_eq_getElem?_getD, p0]
        exact .base (.inl rfl)
      | 1, k3 =>
        simp [recC4] at k3
        subst k3
        rw [List.getD_eq_getElem?_getD, p1]
        rw [p4]
        exact .base (.inl (by simp))
      | 2, k3 =>
        simp [recC4] at k3
        subst k3
        rw [List.getD_eq_getElem?_getD, p2]
        have hle : r.data.length ≤ bs.length := by
          have := congrArg List.length p6
          simp at this
          omega
        refine .base (.inr ⟨jd, 0, r.data.length, capd, 5, bs, false, 1, rfl, p5, by simp, by decide, .inr rfl, by simpa using hle, ?_, ?_, ?_⟩)
        · rw [Nat.zero_add, Nat.mul_one, p6]; simp
        · rw [Nat.zero_add, Nat.mul_one, p6]; simp
        · simp only [Nat.zero_add, Nat.mul_one, List.drop_zero]
          rw [p6, weakL_byL, chunk_byL _ _ (Nat.le_refl _), List.take_length]
      | 3, k3 =>
        simp [recC4] at k3
        subst k3
        rw [List.getD_eq_getElem?_getD, p3]
        exact .base (.inl rfl)
      | j + 4, k3 => simp [recC4] at k3)
  rw [flat4_chunk] at this
  exact this

theorem arL_kone (T : List (List Rec)) : AV.koneL (arL T) = true := by simp
theorem arL_rf (T : List (List Rec)) : AV.rfL (arL T) = true := by simp
theorem arrS_view {h : List AObj} {x : AV} {T : List (List Rec)} (ha : arrS h x T) : VwD Try.prog h x (.lst .any 1 (arL T)) := by
  rcases ha with ⟨rfl, rfl⟩ | ⟨hT, q, cap, cs, rfl, h1, h2, h3⟩
  · exact .base (.inl (by simp))
  · have := VwD.row (P := Try.prog) (h := h) (id := q) (len := T.length) (cap := cap) (sz := 1) (ag := false) (ty := 28) (cs := cs) (ys := arL T) (fun k => cs.getD k .any) h1 (by decide) (.inr rfl) (by simpa using h2) (by simp) (arL_kone T) (arL_rf T)
      (fun k y hk => by
        have := (List.getElem?_eq_some_iff.1 hk).1
        rw [arL_length] at this
        rw [List.getD_eq_getElem?_getD, List.getElem?_eq_getElem (by omega)]
        rfl)
      (fun k y hk => by
        have hkl := (List.getElem?_eq_some_iff.1 hk).1
        rw [arL_length] at hkl
        obtain ⟨c, h4, h5⟩ := h3 k T[k] (List.getElem?_eq_getElem hkl)
        have : y = .lst .any 4 (trL T[k]) := by
          simp [arL, hkl] at hk
          exact hk.symm
        subst this
        rw [List.getD_eq_getElem?_getD, h4]
        exact trkS_view h5)
    rw [chunk_one _ _ (by simp)] at this
    rw [List.take_of_length_le (by simp)] at this
    exact this

theorem arrS_spT {h : List AObj} {x : AV} {T : List (List Rec)} (ha : arrS h x T) (hT : ∀ t ∈ T, t.length ≤ 1000000000000 ∧ ∀ r ∈ t, r.data.length ≤ 1000000000000) : (T = [] ∧ x = .lst .nil 1 []) ∨ ∃ (q cap : Nat) (cs : List AV), x = .arr q 0 T.length cap ∧ spT h q cs T.length := by
  rcases ha with ⟨rfl, rfl⟩ | ⟨hne, q, cap, cs, rfl, h1, h2, h3⟩
  · exact .inl ⟨rfl, rfl⟩
  refine .inr ⟨q, cap, cs, rfl, h1, h2, fun k hk => ?_⟩
  obtain ⟨c, k1, jt, cap2, cs5, rfl, k3, k4, k5⟩ := h3 k T[k] (List.getElem?_eq_getElem hk)
  obtain ⟨b1, b2⟩ := hT T[k] (List.getElem_mem hk)
  refine ⟨_, k1, jt, _, cap2, cs5, rfl, k3, k4, b1, fun m hm => ?_⟩
  obtain ⟨jd, capd, bs, p0, p1, p2, p3, p4, p5, p6⟩ := k5 m T[k][m] (List.getElem?_eq_getElem hm)
  have hle : T[k][m].data.length ≤ bs.length := by
    have := congrArg List.length p6
    simp at this
    omega
  refine ⟨_, jd, _, capd, bs, p0, p2, p5, hle, b2 _ (List.getElem_mem hm), fun i hi => ⟨T[k][m].data[i].toNat, ?_⟩⟩
  have : (bs.take T[k][m].data.length)[i]? = some (.v (.int .u8 T[k][m].data[i].toNat)) := by rw [p6]; simp [byL, hi]
  rw [List.getElem?_take, if_pos hi] at this
  exact this

theorem hdM_le (a b : Nat) : (hdM a b).length ≤ 100 := by
  simp [hdM]
  try omega
theorem save_few (area : List (List Rec)) (state : List UInt8) (hs : state.length ≤ 100000000) : ∀ t ∈ (saveM area state).2.1, t.length ≤ 100000000 ∧ ∀ r ∈ t, r.data.length ≤ 1000000000 := by
  have key : ∀ m n, ∀ t ∈ tksM m n state, t.length ≤ 100000000 ∧ ∀ r ∈ t, r.data.length ≤ 1000000000 := by
    intro m n t ht
    obtain ⟨i, hi, rfl⟩ := List.mem_map.1 ht
    have h1 : (pcM n state i).data.length ≤ 1000000000 := by
      simp [pcM, be4]
      omega
    have h2 : (hdR n state.length).data.length ≤ 1000000000 := by
      have := hdM_le n state.length
      simp only [hdR]
      omega
    split
    · refine ⟨by simp, fun r hr => ?_⟩
      simp at hr
      rcases hr with rfl | rfl <;> assumption
    · refine ⟨by simp, fun r hr => ?_⟩
      simp at hr
      subst hr
      exact h1
  unfold saveM
  split
  · simp
  split
  · simp
  split
  · simp
  exact key _ _
theorem save_len (area : List (List Rec)) (state : List UInt8) : (saveM area state).2.1.length ≤ area.length := by
  unfold saveM
  split
  · simp
  split
  · simp
  split
  · simp
  simp only [tksM_length]
  omega
end Go.AM
