/- The plain law of slots: reading saved tracks. -/
import Derived.Test.YtonckolkghbcbaaC38Z
namespace Go.AM
open Go.RowKit Go.Proofs
set_option linter.unusedSimpArgs false
set_option linter.unusedVariables false
set_option maxHeartbeats 1000000

theorem val4_be4 {n : Nat} (h : n < 4294967296) (l : List UInt8) : val4 (be4 n ++ l) = n := by
  simp only [be4, List.cons_append, val4, UInt8.toNat_ofNat']
  omega
theorem hdM_drop4 (a b : Nat) : (hdM a b).drop 4 = be4 a ++ be4 b := rfl
theorem hdM_drop8 (a b : Nat) : (hdM a b).drop 8 = be4 b ++ [] := rfl
theorem tksM_length (m seq : Nat) (st : List UInt8) : (tksM m seq st).length = m := by simp [tksM]
theorem tksM_get {m seq : Nat} {st : List UInt8} {i : Nat} (h : i < m) : (tksM m seq st)[i]? = some (if i + 1 = m then [pcM seq st i, hdR seq st.length] else [pcM seq st i]) := by
  simp [tksM, h]
theorem pcM_data {seq : Nat} {st : List UInt8} {i : Nat} : (pcM seq st i).data = be4 seq ++ (st.take (min ((i + 1) * 1960) st.length)).drop (min (i * 1960) st.length) := by
  simp only [pcM]
  congr 3
  omega
theorem plain_pc (seq : Nat) (st : List UInt8) (i : Nat) (l : List Rec) : plainM (pcM seq st i :: l) 1 = ((pcM seq st i).data, true) := by
  simp [plainM, pcM]

theorem readL_tks {N seq : Nat} {st : List UInt8} (hlen : st.length ≤ N * 1960) : ∀ (n i : Nat), i + n = N →
    readL N seq st.length ((tksM N seq st).drop i) i (st.take (min (i * 1960) st.length)) = some st
  | 0, i, h => by
    have : i = N := by omega
    subst this
    rw [List.drop_eq_nil_of_le (by rw [tksM_length]; omega)]
    simp only [readL]
    rw [List.take_of_length_le (by omega)]
  | n + 1, i, h => by
    have hi : i < N := by omega
    have hi2 : i < (tksM N seq st).length := by rw [tksM_length]; exact hi
    have hg := tksM_get (seq := seq) (st := st) hi
    rw [List.getElem?_eq_getElem hi2] at hg
    have hg2 := Option.some.inj hg
    have hpl : ∃ l, (if i + 1 = N then [pcM seq st i, hdR seq st.length] else [pcM seq st i]) = pcM seq st i :: l ∧ (i + 1 < N → l = []) := by
      split
      · exact ⟨_, rfl, fun h => by omega⟩
      · exact ⟨_, rfl, fun _ => rfl⟩
    obtain ⟨l, hl, hl2⟩ := hpl
    rw [List.drop_eq_getElem_cons hi2, hg2, hl]
    simp only [readL, plain_pc]
    have hd : (pcM seq st i).data.drop 4 = (st.take (min ((i + 1) * 1960) st.length)).drop (min (i * 1960) st.length) := by rw [pcM_data]; rfl
    have hok : tkOk N seq st.length i (pcM seq st i :: l) (st.take (min (i * 1960) st.length)) = true := by
      unfold tkOk
      rw [plain_pc]
      have e1 : i + 1 < N → (pcM seq st i :: l).length = 1 := fun h => by rw [hl2 h]; rfl
      have e2 : (be4 seq).length ≤ (pcM seq st i).data.length ∧ (pcM seq st i).data.take (be4 seq).length = be4 seq := by
        rw [pcM_data]
        exact ⟨by simp, List.take_left' rfl⟩
      have e3 : (pcM seq st i).data.length - 4 = min 1960 (st.length - (st.take (min (i * 1960) st.length)).length) := by
        rw [pcM_data]
        simp only [List.length_append, be4_length, List.length_drop, List.length_take]
        omega
      simp only [decide_eq_true e1, decide_eq_true e2, decide_eq_true e3, Bool.and_self]
    rw [if_pos hok, hd]
    have hap : st.take (min (i * 1960) st.length) ++ (st.take (min ((i + 1) * 1960) st.length)).drop (min (i * 1960) st.length) = st.take (min ((i + 1) * 1960) st.length) := by
      have : st.take (min (i * 1960) st.length) = (st.take (min ((i + 1) * 1960) st.length)).take (min (i * 1960) st.length) := by
        rw [List.take_take]; congr 1; omega
      rw [this, List.take_append_drop]
    rw [hap]
    exact readL_tks hlen n (i + 1) (by omega)

theorem readM_tks {N seq par : Nat} {st : List UInt8} (hN : 0 < N) (h1 : 1 ≤ seq) (h2 : seq ≤ 2147483647) (h3 : seq % 2 = par) (hlen : st.length ≤ N * 1960) (hN2 : N ≤ 1000) : readM (tksM N seq st) par = (st, seq) := by
  unfold readM
  have hg := tksM_get (seq := seq) (st := st) (i := N - 1) (m := N) (by omega)
  rw [if_pos (by omega)] at hg
  simp only [tksM_length, hg, Option.getD_some]
  have hp2 : plainM [pcM seq st (N - 1), hdR seq st.length] 2 = (hdM seq st.length, true) := by simp [plainM, hdR]
  have e4 : val4 ((hdM seq st.length).drop 4) = seq := by rw [hdM_drop4]; exact val4_be4 (by omega) _
  have e8 : val4 ((hdM seq st.length).drop 8) = st.length := by rw [hdM_drop8]; exact val4_be4 (by omega) _
  have k1 : hdOk [pcM seq st (N - 1), hdR seq st.length] = true := by unfold hdOk; rw [hp2]; rfl
  have k2 : sqOk N par (hdM seq st.length) = true := by
    unfold sqOk
    rw [e4, e8]
    simp [h1, h2, h3, hlen]
  rw [if_pos k1, hp2]
  simp only
  rw [if_pos k2, e4, e8]
  have := readL_tks (seq := seq) hlen N 0 (by omega)
  simp only [Nat.zero_mul, Nat.zero_min, List.take_zero, List.drop_zero] at this
  rw [this]
end Go.AM
