/- The plain law of slots and of the newest state. -/
import Derived.Test.YtonckolkghbcbaaC38PB
namespace Go.AM
open Go.RowKit Go.Proofs
set_option linter.unusedSimpArgs false
set_option linter.unusedVariables false
set_option maxHeartbeats 1000000

theorem fd_pc (seq : Nat) (st : List UInt8) (i : Nat) (l : List Rec) : fdM (pcM seq st i :: l) = some (pcM seq st i).data := by
  have : 4 ≤ (pcM seq st i).data.length := by rw [pcM_data]; simp
  simp [fdM, this]

theorem slotL_tks {N seq : Nat} {st : List UInt8} : ∀ (n i : Nat), i + n = N →
    slotL ((tksM N seq st).drop i) (st.take (min (i * 1960) st.length)) = some (st.take (min (N * 1960) st.length))
  | 0, i, h => by
    have : i = N := by omega
    subst this
    rw [List.drop_eq_nil_of_le (by rw [tksM_length]; omega)]
    rfl
  | n + 1, i, h => by
    have hi : i < N := by omega
    have hi2 : i < (tksM N seq st).length := by rw [tksM_length]; exact hi
    have hg := tksM_get (seq := seq) (st := st) hi
    rw [List.getElem?_eq_getElem hi2] at hg
    have hg2 := Option.some.inj hg
    have hpl : ∃ l, (if i + 1 = N then [pcM seq st i, hdR seq st.length] else [pcM seq st i]) = pcM seq st i :: l := by
      split
      · exact ⟨_, rfl⟩
      · exact ⟨_, rfl⟩
    obtain ⟨l, hl⟩ := hpl
    rw [List.drop_eq_getElem_cons hi2, hg2, hl]
    simp only [slotL, fd_pc]
    have hd : (pcM seq st i).data.drop 4 = (st.take (min ((i + 1) * 1960) st.length)).drop (min (i * 1960) st.length) := by rw [pcM_data]; rfl
    rw [hd]
    have hap : st.take (min (i * 1960) st.length) ++ (st.take (min ((i + 1) * 1960) st.length)).drop (min (i * 1960) st.length) = st.take (min ((i + 1) * 1960) st.length) := by
      have : st.take (min (i * 1960) st.length) = (st.take (min ((i + 1) * 1960) st.length)).take (min (i * 1960) st.length) := by
        rw [List.take_take]; congr 1; omega
      rw [this, List.take_append_drop]
    rw [hap]
    exact slotL_tks n (i + 1) (by omega)

theorem slotL_tks0 (N seq : Nat) (st : List UInt8) : slotL (tksM N seq st) [] = some (st.take (min (N * 1960) st.length)) := by
  have := slotL_tks (seq := seq) (st := st) (N := N) N 0 (by omega)
  simpa using this

theorem slotM_tks {N seq par : Nat} {st : List UInt8} (hN : 0 < N) (h1 : 1 ≤ seq) (h2 : seq ≤ 2147483647) (h3 : seq % 2 = par) (hlen : st.length ≤ N * 1960) : slotM (tksM N seq st) par = (st, seq) := by
  unfold slotM
  rw [slotL_tks0]
  have e : st.take (min (N * 1960) st.length) = st := List.take_of_length_le (by omega)
  rw [e]
  have hg := tksM_get (seq := seq) (st := st) (i := 0) (m := N) hN
  have hf : fdM (((tksM N seq st)[0]?).getD []) = some (pcM seq st 0).data := by
    rw [hg, Option.getD_some]
    split <;> exact fd_pc _ _ _ _
  have hv : val4 (pcM seq st 0).data = seq := by rw [pcM_data]; exact val4_be4 (by omega) _
  simp only [hf, Option.getD_some, hv, tksM_length]
  rw [if_pos ⟨h1, h2, h3, trivial⟩]

theorem slotM_inv {l : List (List Rec)} {par sq : Nat} {st : List UInt8} (h : slotM l par = (st, sq)) (hs : sq ≠ 0) :
    1 ≤ sq ∧ sq ≤ 2147483647 ∧ sq % 2 = par ∧ st.length ≤ l.length * 1960 ∧ l = tksM l.length sq st := by
  unfold slotM at h
  split at h
  · rw [Prod.mk.injEq] at h; exact absurd h.2.symm hs
  · rename_i st' hsl
    simp only at h
    split at h
    · rename_i hc
      rw [Prod.mk.injEq] at h
      obtain ⟨rfl, hsq⟩ := h
      rw [hsq] at hc
      obtain ⟨c1, c2, c3, c4⟩ := hc
      refine ⟨c1, c2, c3, ?_, c4⟩
      have := slotL_tks0 l.length sq st'
      rw [← c4, hsl] at this
      have h2 := congrArg List.length (Option.some.inj this)
      rw [List.length_take] at h2
      omega
    · rw [Prod.mk.injEq] at h; exact absurd h.2.symm hs

theorem readM_zero {l : List (List Rec)} {par : Nat} (h : (readM l par).2 = 0) : readM l par = ([], 0) := by
  unfold readM at *
  simp only at *
  split at h
  · rename_i k1
    rw [if_pos k1]
    split at h
    · rename_i k2
      rw [if_pos k2]
      split at h
      · rfl
      · unfold sqOk at k2
        simp only [Bool.and_eq_true, decide_eq_true_eq] at k2
        simp only at h
        omega
    · rename_i k2; rw [if_neg k2]
  · rename_i k1; rw [if_neg k1]
theorem slotM_zero {l : List (List Rec)} {par : Nat} (h : (slotM l par).2 = 0) : slotM l par = ([], 0) := by
  unfold slotM at *
  split at h
  · rfl
  · rename_i st k
    simp only at h ⊢
    split at h
    · rename_i hc
      simp only at h
      omega
    · rename_i hc; rw [if_neg hc]

theorem slot_read (l : List (List Rec)) (par : Nat) (hl : 0 < l.length) (hl2 : l.length ≤ 1000) : slotM l par = readM l par := by
  by_cases a : (slotM l par).2 = 0
  · by_cases b : (readM l par).2 = 0
    · rw [slotM_zero a, readM_zero b]
    · obtain ⟨h1, h2, h3, h4, h5⟩ := readM_inv hl (Prod.eta _).symm b
      have := slotM_tks hl h1 h2 h3 h4
      rw [← h5] at this
      rw [this]
  · obtain ⟨h1, h2, h3, h4, h5⟩ := slotM_inv (Prod.eta _).symm a
    have := readM_tks hl h1 h2 h3 h4 hl2
    rw [← h5] at this
    rw [this]

theorem new_eq (area : List (List Rec)) (hl : area.length ≤ 1000) : newR area = newM area := by
  unfold newR newM
  split
  · rfl
  · rename_i c
    obtain ⟨k1, k2, k3, k4⟩ := capN_pos c
    have e1 := slot_read (area.take (area.length / 2)) 0 (by simp; omega) (by simp; omega)
    have e2 := slot_read (area.drop (area.length / 2)) 1 (by simp; omega) (by simp; omega)
    simp only [e1, e2]
    obtain ⟨a, ha⟩ : ∃ a, readM (area.take (area.length / 2)) 0 = a := ⟨_, rfl⟩
    obtain ⟨b, hb⟩ : ∃ b, readM (area.drop (area.length / 2)) 1 = b := ⟨_, rfl⟩
    have pa : a.2 ≠ 0 → a.2 % 2 = 0 := fun h => by
      have := readM_inv (l := area.take (area.length / 2)) (par := 0) (st := a.1) (sq := a.2) (by simp; omega) (by rw [ha]) h
      exact this.2.2.1
    have pb : b.2 ≠ 0 → b.2 % 2 = 1 := fun h => by
      have := readM_inv (l := area.drop (area.length / 2)) (par := 1) (st := b.1) (sq := b.2) (by simp; omega) (by rw [hb]) h
      exact this.2.2.1
    rw [ha, hb]
    by_cases h1 : a.2 < b.2
    · have h2 : ¬ (a.2 = 0 ∧ b.2 = 0) := by omega
      have h3 : ¬ b.2 < a.2 := by omega
      have h4 : ¬ b.2 = 0 := by omega
      simp only [h1, if_true, h3, h4, and_false, if_false]
    · by_cases h5 : a.2 = 0
      · have h6 : b.2 = 0 := by omega
        simp [h5, h6]
      · have h7 : b.2 < a.2 := by
          rcases Nat.lt_or_ge b.2 a.2 with h | h
          · exact h
          · have := pa h5
            have := pb (by omega)
            omega
        simp [h1, h5, h7]
end Go.AM
