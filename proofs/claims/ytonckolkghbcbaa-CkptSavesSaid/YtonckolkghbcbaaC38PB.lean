/- The plain law of slots: what reads is what was saved. -/
import Derived.Test.YtonckolkghbcbaaC38PA
namespace Go.AM
open Go.RowKit Go.Proofs
set_option linter.unusedSimpArgs false
set_option linter.unusedVariables false
set_option maxHeartbeats 1000000

theorem plain1_inv {t : List Rec} (h : (plainM t 1).2 = true) : ∃ r rest, t = r :: rest ∧ r.R = 1 ∧ r.key = [] ∧ r.bad = false ∧ (plainM t 1).1 = r.data := by
  cases t with
  | nil => simp [plainM] at h
  | cons r rest =>
    simp [plainM] at h
    exact ⟨r, rest, rfl, h.1.1, h.1.2, h.2, by simp [plainM]⟩

theorem readL_inv {N sq sz : Nat} : ∀ (l : List (List Rec)) (i : Nat) (acc st : List UInt8), readL N sq sz l i acc = some st → acc.length = min (i * 1960) sz →
    st.length = min ((i + l.length) * 1960) sz ∧ (∃ tail, st = acc ++ tail) ∧ ∀ (j : Nat) (t : List Rec), l[j]? = some t →
      ∃ r rest, t = r :: rest ∧ r.R = 1 ∧ r.key = [] ∧ r.bad = false ∧ r.data = be4 sq ++ (st.take (min ((i + j + 1) * 1960) sz)).drop (min ((i + j) * 1960) sz) ∧ (i + j + 1 < N → rest = [])
  | [], i, acc, st, h, hacc => by
    simp only [readL, Option.some.injEq] at h
    subst h
    exact ⟨by simpa using hacc, ⟨[], by simp⟩, by simp⟩
  | t :: l, i, acc, st, h, hacc => by
    simp only [readL] at h
    split at h
    · rename_i hok
      unfold tkOk at hok
      simp only [Bool.and_eq_true, decide_eq_true_eq] at hok
      obtain ⟨⟨⟨o1, o2⟩, o3, o4⟩, o5⟩ := hok
      obtain ⟨r, rest, rfl, p1, p2, p3, p4⟩ := plain1_inv o1
      rw [p4] at h o3 o4 o5
      simp only [be4_length] at o3 o4
      have hacc2 : (acc ++ r.data.drop 4).length = min ((i + 1) * 1960) sz := by
        simp only [List.length_append, List.length_drop]
        omega
      obtain ⟨q1, ⟨tail, q2⟩, q3⟩ := readL_inv l (i + 1) _ st h hacc2
      refine ⟨by rw [q1]; simp only [List.length_cons]; congr 2; omega, ⟨r.data.drop 4 ++ tail, by rw [q2, List.append_assoc]⟩, ?_⟩
      intro j t hj
      cases j with
      | zero =>
        simp only [List.getElem?_cons_zero, Option.some.injEq] at hj
        subst hj
        refine ⟨r, rest, rfl, p1, p2, p3, ?_, fun h => ?_⟩
        · have e1 : st.take (min ((i + 0 + 1) * 1960) sz) = acc ++ r.data.drop 4 := by
            rw [q2, Nat.add_zero, ← hacc2, List.take_left' rfl]
          rw [e1, Nat.add_zero, ← hacc, List.drop_left' rfl, ← o4, List.take_append_drop]
        · have := o2 h
          simpa using this
      | succ j =>
        obtain ⟨r', rest', s1, s2, s3, s4, s5, s6⟩ := q3 j t (by simpa using hj)
        have e : i + 1 + j = i + (j + 1) := by omega
        rw [e] at s5 s6
        exact ⟨r', rest', s1, s2, s3, s4, s5, s6⟩
    · cases h

theorem readM_inv {l : List (List Rec)} {par sq : Nat} {st : List UInt8} (hl : 0 < l.length) (h : readM l par = (st, sq)) (hs : sq ≠ 0) :
    1 ≤ sq ∧ sq ≤ 2147483647 ∧ sq % 2 = par ∧ st.length ≤ l.length * 1960 ∧ l = tksM l.length sq st := by
  obtain ⟨last, hlast⟩ : ∃ t, l[l.length - 1]? = some t := ⟨_, List.getElem?_eq_getElem (by omega)⟩
  unfold readM at h
  simp only [hlast, Option.getD_some] at h
  split at h
  · rename_i k1
    split at h
    · rename_i k2
      split at h
      · rw [Prod.mk.injEq] at h; exact absurd h.2.symm hs
      · rename_i st' hrd
        rw [Prod.mk.injEq] at h
        obtain ⟨rfl, hsq⟩ := h
        unfold sqOk at k2
        rw [hsq] at k2 hrd
        simp only [Bool.and_eq_true, decide_eq_true_eq] at k2
        obtain ⟨⟨⟨⟨m1, m2⟩, m3⟩, m4⟩, m5⟩ := k2
        obtain ⟨sz, hsz⟩ : ∃ sz, val4 ((plainM last 2).1.drop 8) = sz := ⟨_, rfl⟩
        rw [hsz] at m4 m5 hrd
        obtain ⟨q1, _, q3⟩ := readL_inv l 0 [] st' hrd (by simp)
        have hstl : st'.length = sz := by rw [q1]; omega
        unfold hdOk at k1
        simp only [Bool.and_eq_true, decide_eq_true_eq] at k1
        obtain ⟨⟨n1, n2⟩, n3⟩ := k1
        refine ⟨m1, m2, m3, by omega, ?_⟩
        apply List.ext_getElem?
        intro i
        rcases Nat.lt_or_ge i l.length with hi | hi
        · rw [tksM_get hi]
          obtain ⟨t, ht⟩ : ∃ t, l[i]? = some t := ⟨_, List.getElem?_eq_getElem hi⟩
          obtain ⟨r, rest, rfl, s2, s3, s4, s5, s6⟩ := q3 i t ht
          have hr : r = pcM sq st' i := by
            obtain ⟨r1, r2, r3, r4⟩ := r
            simp only at s2 s3 s4 s5
            rw [s2, s3, s4, s5]
            simp only [Nat.zero_add, ← hstl]
            have := pcM_data (seq := sq) (st := st') (i := i)
            rw [← this]; rfl
          rw [ht]
          congr 1
          split
          · rename_i he
            have hii : i = l.length - 1 := by omega
            rw [hii, hlast] at ht
            cases ht
            simp only [List.length_cons] at n2
            obtain ⟨q, rfl⟩ : ∃ q, rest = [q] := by
              match rest, n2 with
              | [q], _ => exact ⟨q, rfl⟩
            have hq : q = hdR sq st'.length := by
              simp [plainM] at n1 m5
              obtain ⟨q1, q2, q3, q4⟩ := q
              simp only at n1 m5
              rw [hdR, hstl, n1.1.1, n1.1.2, n1.2, m5]
            rw [hr, hq]
          · rename_i he
            rw [s6 (by omega), hr]
        · rw [List.getElem?_eq_none hi, List.getElem?_eq_none (by rw [tksM_length]; exact hi)]
    · rw [Prod.mk.injEq] at h; exact absurd h.2.symm hs
  · rw [Prod.mk.injEq] at h; exact absurd h.2.symm hs
end Go.AM
