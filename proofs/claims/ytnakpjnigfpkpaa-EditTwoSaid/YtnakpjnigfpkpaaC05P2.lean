/- What Edit answers, in plain words, continued. -/
import Derived.Test.YtnakpjnigfpkpaaC05P1
namespace Go.AM
set_option linter.unusedSimpArgs false
set_option linter.unusedVariables false

theorem EdInv.fill {pat src : List UInt8} {i : Nat} {e : Ed} (h : EdInv pat src i e) (b : UInt8) : EdInv pat src i { e with text := e.text.set i b } where
  len := by simpa using h.len
  odd := h.odd
  good j hj := goodB_set (by omega) (h.good j hj)
  lo := h.lo
  hi := h.hi
  mkd hm := by
    obtain ⟨q, t, h1, h2, h3⟩ := h.mkd hm
    have := h.hi
    exact ⟨q, t, h1, by dsimp only at hm this ⊢; rw [List.getElem?_set_ne (by omega)]; exact h2, h3⟩
theorem EdInv.turn {pat src : List UInt8} {i : Nat} {e : Ed} (h : EdInv pat src i e) (a b : Bool) : EdInv pat src i { e with on := a, some_ := b } := ⟨h.len, h.odd, h.good, h.lo, h.hi, h.mkd⟩
theorem EdInv.next {pat src : List UInt8} {i : Nat} {e : Ed} (h : EdInv pat src i e) (hg : goodB pat e.text i) : EdInv pat src (i + 1) e :=
  ⟨h.len, h.odd, fun j hj => if hji : j = i then by rw [hji]; exact hg else h.good j (by omega), h.lo, by have := h.hi; omega, h.mkd⟩

theorem stepM_inv {pat src : List UInt8} {i : Nat} {e : Ed} {p0 c : UInt8} (hp : pat[i]? = some c) (hp0 : pat.head? = some p0) (h : EdInv pat src i e) (hc : (stepM src p0 i c e).1 = 0) : EdInv pat src (i + 1) (stepM src p0 i c e).2 := by
  have hil : i < pat.length := (List.getElem?_eq_some_iff.1 hp).1
  have h0 := h.fill p0
  have hfill : ∃ q, pat.head? = some q ∧ ({ e with text := e.text.set i p0 } : Ed).text[i]? = some q := ⟨p0, hp0, by rw [List.getElem?_set_self (by rw [h.len]; exact hil)]⟩
  unfold stepM at *
  dsimp only at *
  by_cases h32 : c.toNat = 32
  · rw [if_pos h32] at hc ⊢
    exact (showM_inv hp (.inl h32) h0 hfill hc).turn _ _
  rw [if_neg h32] at hc ⊢
  by_cases h33 : c.toNat = 33
  · rw [if_pos h33] at hc ⊢
    exact (showM_inv hp (.inr h33) h0 hfill hc).turn _ _
  rw [if_neg h33] at hc ⊢
  have gfill : goodB pat (e.text.set i p0) i := by
    intro q t hq ht
    rw [List.getElem?_set_self (by rw [h.len]; exact hil)] at ht
    cases ht
    exact .inl ⟨p0, hp0, rfl⟩
  by_cases h34 : c.toNat = 34
  · rw [if_pos h34]
    exact (h0.next gfill).turn _ _
  rw [if_neg h34]
  dsimp only
  split
  · refine (h0.fill c).next ?_
    dsimp only
    intro q t hq ht
    rw [hp] at hq; cases hq
    rw [List.getElem?_set_self (by rw [List.length_set, h.len]; exact hil)] at ht
    cases ht
    exact .inr (.inr ⟨h32, h33, h34, rfl⟩)
  · exact h0.next gfill

theorem showM_codes (src : List UInt8) (i : Nat) (e : Ed) : (showM src i e).2.1 = 0 ∨ (showM src i e).2.1 = 5 ∨ (showM src i e).2.1 = 7 := by
  have := takeM_codes src e.at_
  unfold showM
  dsimp only
  split
  · exact this
  · simp
theorem stepM_codes (src : List UInt8) (p0 : UInt8) (i : Nat) (c : UInt8) (e : Ed) : (stepM src p0 i c e).1 = 0 ∨ (stepM src p0 i c e).1 = 5 ∨ (stepM src p0 i c e).1 = 7 := by
  have := showM_codes src i { e with text := e.text.set i p0 }
  unfold stepM digitM startM sepM
  dsimp only
  split
  · exact this
  · split
    · exact this
    · split <;> simp
theorem runM_codes (src : List UInt8) (p0 : UInt8) : ∀ (l : List UInt8) (i : Nat) (e : Ed), (runM src p0 l i e).1 = 0 ∨ (runM src p0 l i e).1 = 5 ∨ (runM src p0 l i e).1 = 7
  | [], _, _ => .inl rfl
  | c :: l, i, e => by
    simp only [runM]
    split
    · exact stepM_codes src p0 i c e
    · exact runM_codes src p0 l _ _
theorem runM_inv {pat src : List UInt8} {p0 : UInt8} (hp0 : pat.head? = some p0) : ∀ (l : List UInt8) (i : Nat) (e : Ed), pat.drop i = l → EdInv pat src i e → (runM src p0 l i e).1 = 0 → EdInv pat src pat.length (runM src p0 l i e).2
  | [], i, e, hl, h, _ => by
    have : pat.length ≤ i := by simpa using hl
    exact ⟨h.len, h.odd, fun j hj => h.good j (by omega), h.lo, by
      simp only [runM]
      rcases Int.lt_or_le e.mark 0 with h1 | h1
      · omega
      · obtain ⟨q, t, h2, _⟩ := h.mkd h1
        have := (List.getElem?_eq_some_iff.1 h2).1
        omega, h.mkd⟩
  | c :: l, i, e, hl, h, hc => by
    have hil : i < pat.length := by
      rcases Nat.lt_or_ge i pat.length with h1 | h1
      · exact h1
      · rw [List.drop_eq_nil_of_le h1] at hl; cases hl
    have hdrop := List.drop_eq_getElem_cons hil
    rw [hl] at hdrop
    have hci : pat[i]? = some c := by
      rw [List.getElem?_eq_getElem hil]
      exact congrArg some (List.cons.inj hdrop).1.symm
    simp only [runM] at hc ⊢
    by_cases h1 : (stepM src p0 i c e).1 ≠ 0
    · rw [if_pos h1] at hc; exact absurd hc h1
    · rw [if_neg h1] at hc ⊢
      exact runM_inv hp0 l (i + 1) _ (List.cons.inj hdrop).2.symm (stepM_inv hci hp0 h (by simpa using h1)) hc

theorem edM_bad {pat src : List UInt8} (h : (edM pat src).2.2.2 ≠ 0) : (edM pat src).1 = [] ∧ (edM pat src).2.1 = 0 ∧ (edM pat src).2.2.1 = 0 ∧
    (((edM pat src).2.2.2 = 6 ∧ (pat.length = 0 ∨ 256 < pat.length)) ∨ (((edM pat src).2.2.2 = 5 ∨ (edM pat src).2.2.2 = 7) ∧ 0 < pat.length ∧ pat.length ≤ 256)) := by
  unfold edM at *
  by_cases h1 : pat.length = 0 ∨ 256 < pat.length
  · rw [if_pos h1]; exact ⟨rfl, rfl, rfl, .inl ⟨rfl, h1⟩⟩
  · rw [if_neg h1] at h ⊢
    dsimp only at h ⊢
    have := runM_codes src (pat.headD 0) pat 0 (ed0 pat.length)
    by_cases h2 : (runM src (pat.headD 0) pat 0 (ed0 pat.length)).1 ≠ 0
    · rw [if_pos h2]
      exact ⟨rfl, rfl, rfl, .inr ⟨by dsimp only; omega, by omega, by omega⟩⟩
    · rw [if_neg h2] at h; exact absurd rfl h
theorem edM_good {pat src : List UInt8} (h : (edM pat src).2.2.2 = 0) : ∃ e : Ed, EdInv pat src pat.length e ∧ (edM pat src).1 = e.text ∧ (edM pat src).2.1 = codeM e ∧ (edM pat src).2.2.1 = e.mark ∧ 0 < pat.length ∧ pat.length ≤ 256 := by
  unfold edM at *
  by_cases h1 : pat.length = 0 ∨ 256 < pat.length
  · rw [if_pos h1] at h; cases h
  · rw [if_neg h1] at h ⊢
    dsimp only at h ⊢
    by_cases h2 : (runM src (pat.headD 0) pat 0 (ed0 pat.length)).1 ≠ 0
    · rw [if_pos h2] at h; exact absurd h h2
    · rw [if_neg h2]
      refine ⟨_, runM_inv (p0 := pat.headD 0) ?_ pat 0 _ rfl ?_ (by simpa using h2), rfl, rfl, rfl, by omega, by omega⟩
      · cases pat with
        | nil => simp at h1
        | cons a b => rfl
      · exact ⟨by simp [ed0], fun h => by simp [ed0] at h, fun j hj => by omega, by simp [ed0], by simp [ed0], fun h => by simp [ed0] at h⟩
theorem codeM_le (e : Ed) : codeM e ≤ 2 := by unfold codeM; split <;> (try split) <;> omega
end Go.AM
