/- Edit: more bytes of the source, and prefixes of the pattern, in plain words. -/
import Derived.Test.YtnakpjnigfpkpaaC05P2
namespace Go.AM
set_option linter.unusedSimpArgs false
set_option linter.unusedVariables false

theorem takeM_ext {src : List UInt8} (more : List UInt8) {k : Nat} (h : (takeM src k).2.2.1 ≠ 5) : takeM (src ++ more) k = takeM src k := by
  unfold takeM at *
  cases hb : src[k / 2]? with
  | none => rw [hb] at h; exact absurd rfl h
  | some b =>
    rw [List.getElem?_append_left (List.getElem?_eq_some_iff.1 hb).1, hb]
theorem showM_ext {src : List UInt8} (more : List UInt8) {i : Nat} {e : Ed} (h : (showM src i e).2.1 ≠ 5) : showM (src ++ more) i e = showM src i e := by
  unfold showM at *
  dsimp only at *
  have : (takeM src e.at_).2.2.1 ≠ 5 := by
    intro h5
    rw [if_pos (by omega)] at h
    exact h h5
  rw [takeM_ext more this]
theorem stepM_ext {src : List UInt8} (more : List UInt8) {p0 c : UInt8} {i : Nat} {e : Ed} (h : (stepM src p0 i c e).1 ≠ 5) : stepM (src ++ more) p0 i c e = stepM src p0 i c e := by
  unfold stepM digitM startM at *
  dsimp only at *
  by_cases h1 : c.toNat = 32
  · rw [if_pos h1] at h ⊢; rw [if_pos h1, showM_ext more h]
  · rw [if_neg h1] at h ⊢; rw [if_neg h1]
    by_cases h2 : c.toNat = 33
    · rw [if_pos h2] at h ⊢; rw [if_pos h2, showM_ext more h]
    · rw [if_neg h2, if_neg h2]
theorem runM_ext {src : List UInt8} (more : List UInt8) {p0 : UInt8} : ∀ (l : List UInt8) (i : Nat) (e : Ed), (runM src p0 l i e).1 ≠ 5 → runM (src ++ more) p0 l i e = runM src p0 l i e
  | [], _, _, _ => rfl
  | c :: l, i, e, h => by
    simp only [runM] at *
    by_cases h1 : (stepM src p0 i c e).1 ≠ 0
    · rw [if_pos h1] at h
      rw [stepM_ext more h, if_pos h1, if_pos h1]
    · rw [if_neg h1] at h
      have h5 : (stepM src p0 i c e).1 ≠ 5 := by omega
      rw [stepM_ext more h5, if_neg h1, if_neg h1]
      exact runM_ext more l _ _ h
theorem edM_ext {pat src : List UInt8} (more : List UInt8) (h : (edM pat src).2.2.2 ≠ 5) : edM pat (src ++ more) = edM pat src := by
  unfold edM at *
  by_cases h1 : pat.length = 0 ∨ 256 < pat.length
  · rw [if_pos h1, if_pos h1]
  · rw [if_neg h1] at h ⊢
    rw [if_neg h1]
    dsimp only at h ⊢
    have : (runM src (pat.headD 0) pat 0 (ed0 pat.length)).1 ≠ 5 := by
      intro h5
      rw [if_pos (by omega)] at h
      exact h h5
    rw [runM_ext more _ _ _ this]

def cut (k : Nat) (e : Ed) : Ed := { e with text := e.text.take k }
theorem showM_cut (src : List UInt8) (k i : Nat) (e : Ed) : showM src i (cut k e) = ((showM src i e).1, (showM src i e).2.1, cut k (showM src i e).2.2) := by
  unfold showM cut
  dsimp only
  split
  · rfl
  · split <;> dsimp only <;> split <;> simp [List.take_set]
theorem stepM_cut (src : List UInt8) (p0 c : UInt8) (k i : Nat) (e : Ed) : stepM src p0 i c (cut k e) = ((stepM src p0 i c e).1, cut k (stepM src p0 i c e).2) := by
  have h := showM_cut src k i { e with text := e.text.set i p0 }
  have hc : ({ cut k e with text := (cut k e).text.set i p0 } : Ed) = cut k { e with text := e.text.set i p0 } := by simp [cut, List.take_set]
  rw [← hc] at h
  unfold stepM digitM startM sepM
  dsimp only
  by_cases h1 : c.toNat = 32
  · rw [if_pos h1, if_pos h1, h]; rfl
  · rw [if_neg h1, if_neg h1]
    by_cases h2 : c.toNat = 33
    · rw [if_pos h2, if_pos h2, h]; rfl
    · rw [if_neg h2, if_neg h2]
      by_cases h3 : c.toNat = 34
      · rw [if_pos h3, if_pos h3]; simp [cut, List.take_set]
      · rw [if_neg h3, if_neg h3]
        cases ho : e.on <;> simp [cut, List.take_set, ho]
theorem take_set_ge {l : List UInt8} {k i : Nat} {a : UInt8} (h : k ≤ i) : (l.set i a).take k = l.take k := by
  rw [List.take_set, List.set_eq_of_length_le (by rw [List.length_take]; omega)]
theorem showM_keep (src : List UInt8) {k i : Nat} (hk : k ≤ i) (e : Ed) : (showM src i e).2.2.text.take k = e.text.take k := by
  unfold showM
  dsimp only
  split
  · rfl
  · split <;> dsimp only <;> split <;> simp [take_set_ge hk]
theorem stepM_keep (src : List UInt8) (p0 c : UInt8) {k i : Nat} (hk : k ≤ i) (e : Ed) : (stepM src p0 i c e).2.text.take k = e.text.take k := by
  have h := showM_keep src hk { e with text := e.text.set i p0 }
  simp only [take_set_ge hk] at h
  unfold stepM digitM startM sepM
  dsimp only
  split
  · exact h
  · split
    · exact h
    · split
      · simp [take_set_ge hk]
      · split <;> simp [take_set_ge hk]
theorem runM_keep (src : List UInt8) (p0 : UInt8) {k : Nat} : ∀ (l : List UInt8) (i : Nat) (e : Ed), k ≤ i → (runM src p0 l i e).2.text.take k = e.text.take k
  | [], _, _, _ => rfl
  | c :: l, i, e, h => by
    simp only [runM]
    split
    · exact stepM_keep src p0 c h e
    · rw [runM_keep src p0 l (i + 1) _ (by omega), stepM_keep src p0 c h e]
theorem runM_prefix (src : List UInt8) (p0 : UInt8) {k : Nat} (post : List UInt8) : ∀ (pre : List UInt8) (i : Nat) (e : Ed), i + pre.length = k → (runM src p0 (pre ++ post) i e).1 = 0 →
    (runM src p0 pre i (cut k e)).1 = 0 ∧ (runM src p0 pre i (cut k e)).2.text = (runM src p0 (pre ++ post) i e).2.text.take k
  | [], i, e, hk, h => by
    simp only [List.nil_append, List.length_nil, Nat.add_zero] at *
    exact ⟨rfl, by rw [runM_keep src p0 post i e (by omega)]; rfl⟩
  | c :: pre, i, e, hk, h => by
    simp only [List.cons_append, runM] at *
    rw [stepM_cut]
    by_cases h1 : (stepM src p0 i c e).1 ≠ 0
    · rw [if_pos h1] at h; exact absurd h h1
    · rw [if_neg h1] at h ⊢
      rw [if_neg h1]
      exact runM_prefix src p0 post pre (i + 1) _ (by simp only [List.length_cons] at hk; omega) h
theorem edM_prefix {pat src : List UInt8} {k : Nat} (hk : 1 ≤ k) (hk2 : k ≤ pat.length) (h : (edM pat src).2.2.2 = 0) : (edM (pat.take k) src).2.2.2 = 0 ∧ (edM (pat.take k) src).1 = (edM pat src).1.take k := by
  unfold edM at *
  by_cases h1 : pat.length = 0 ∨ 256 < pat.length
  · rw [if_pos h1] at h; cases h
  · rw [if_neg h1] at h
    have hl : (pat.take k).length = k := by rw [List.length_take]; omega
    rw [if_neg (by omega), if_neg h1]
    dsimp only at h ⊢
    have hp0 : (pat.take k).headD 0 = pat.headD 0 := by
      cases pat with
      | nil => simp at h1
      | cons a b => cases k with
        | zero => omega
        | succ k => rfl
    have h0 : (runM src (pat.headD 0) pat 0 (ed0 pat.length)).1 = 0 := by
      apply Classical.byContradiction
      intro h2
      rw [if_pos h2] at h
      exact h2 h
    have := runM_prefix src (pat.headD 0) (k := k) (pat.drop k) (pat.take k) 0 (ed0 pat.length) (by omega) (by rw [List.take_append_drop]; exact h0)
    rw [List.take_append_drop] at this
    have hc : cut k (ed0 pat.length) = ed0 k := by simp [cut, ed0]; omega
    rw [hc] at this
    rw [hp0, hl, if_neg (fun h => h this.1), if_neg (fun h => h h0)]
    exact ⟨rfl, this.2⟩
end Go.AM
