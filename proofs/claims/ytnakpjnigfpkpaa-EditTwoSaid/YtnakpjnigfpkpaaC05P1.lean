/- What Edit answers, in plain words. -/
import Derived.Test.YtnakpjnigfpkpaaC05E5
namespace Go.AM
set_option linter.unusedSimpArgs false
set_option linter.unusedVariables false

def OddOk (src : List UInt8) (k : Nat) : Prop := k % 2 = 1 → ∀ b, src[k / 2]? = some b → b.toNat % 16 ≤ 9

theorem takeM_ok {src : List UInt8} {k : Nat} (h : OddOk src k) (hc : (takeM src k).2.2.1 = 0) : (takeM src k).1 ≤ 9 ∧ OddOk src (takeM src k).2.2.2 := by
  unfold takeM at *
  cases hb : src[k / 2]? with
  | none => rw [hb] at hc; simp at hc
  | some b =>
    rw [hb] at hc
    dsimp only at hc ⊢
    by_cases h1 : (k + 1) % 2 = 0
    · rw [if_pos h1]
      exact ⟨h (by omega) b hb, fun h2 => by dsimp only at h2; omega⟩
    · rw [if_neg h1] at hc ⊢
      by_cases h2 : 9 < b.toNat / 16
      · rw [if_pos h2] at hc; simp at hc
      · rw [if_neg h2] at hc ⊢
        by_cases h3 : 9 < b.toNat % 16
        · rw [if_pos h3]
          exact ⟨by dsimp only; omega, fun h4 => by dsimp only at h4; omega⟩
        · rw [if_neg h3]
          refine ⟨by dsimp only; omega, fun h4 c hc' => ?_⟩
          dsimp only at h4 hc'
          rw [show (k + 1) / 2 = k / 2 by omega, hb] at hc'
          cases hc'
          omega

theorem takeM_codes (src : List UInt8) (k : Nat) : (takeM src k).2.2.1 = 0 ∨ (takeM src k).2.2.1 = 5 ∨ (takeM src k).2.2.1 = 7 := by
  unfold takeM
  split
  · simp
  · split
    · simp
    · split
      · simp
      · split <;> simp

def goodB (pat text : List UInt8) (j : Nat) : Prop :=
  ∀ p t, pat[j]? = some p → text[j]? = some t →
    (∃ p0, pat.head? = some p0 ∧ t = p0) ∨ ((p.toNat = 32 ∨ p.toNat = 33) ∧ 240 ≤ t.toNat ∧ t.toNat ≤ 249) ∨ (p.toNat ≠ 32 ∧ p.toNat ≠ 33 ∧ p.toNat ≠ 34 ∧ t = p)
structure EdInv (pat src : List UInt8) (i : Nat) (e : Ed) : Prop where
  len : e.text.length = pat.length
  odd : OddOk src e.at_
  good : ∀ j, j < i → goodB pat e.text j
  lo : -1 ≤ e.mark
  hi : e.mark < i
  mkd : 0 ≤ e.mark → ∃ p t, pat[e.mark.toNat]? = some p ∧ e.text[e.mark.toNat]? = some t ∧ (p.toNat = 32 ∨ p.toNat = 33) ∧ 240 < t.toNat ∧ t.toNat ≤ 249

theorem goodB_set {pat text : List UInt8} {i j : Nat} {b : UInt8} (hne : j ≠ i) (h : goodB pat text j) : goodB pat (text.set i b) j := by
  intro p t hp ht
  rw [List.getElem?_set_ne (fun e => hne e.symm)] at ht
  exact h p t hp ht

theorem showM_inv {pat src : List UInt8} {i : Nat} {e : Ed} {p : UInt8} (hp : pat[i]? = some p) (hpc : p.toNat = 32 ∨ p.toNat = 33) (h : EdInv pat src i e) (hfill : ∃ p0, pat.head? = some p0 ∧ e.text[i]? = some p0)
    (hc : (showM src i e).2.1 = 0) : EdInv pat src (i + 1) (showM src i e).2.2 := by
  have hil : i < pat.length := (List.getElem?_eq_some_iff.1 hp).1
  have hlen := h.len
  unfold showM at *
  dsimp only at *
  by_cases h0 : (takeM src e.at_).2.2.1 ≠ 0
  · rw [if_pos h0] at hc; exact absurd hc h0
  rw [if_neg h0] at hc ⊢
  obtain ⟨hd, hodd⟩ := takeM_ok h.odd (by simpa using h0)
  obtain ⟨p0, hp0, hf⟩ := hfill
  dsimp only
  have e240 : (UInt8.ofNat (240 + (takeM src e.at_).1)).toNat = 240 + (takeM src e.at_).1 := by rw [UInt8.toNat_ofNat']; omega
  have gi : ∀ text : List UInt8, text = e.text.set i (UInt8.ofNat (240 + (takeM src e.at_).1)) → ∀ j, j < i + 1 → goodB pat text j := by
    rintro text rfl j hj
    by_cases hji : j = i
    · subst hji
      intro q t hq ht
      rw [hp] at hq; cases hq
      rw [List.getElem?_set_self (by omega)] at ht
      cases ht
      exact .inr (.inl ⟨hpc, by rw [e240]; omega, by rw [e240]; omega⟩)
    · exact goodB_set hji (h.good j (by omega))
  have gk : ∀ j, j < i + 1 → goodB pat e.text j := by
    intro j hj
    by_cases hji : j = i
    · subst hji
      intro q t hq ht
      rw [hf] at ht; cases ht
      exact .inl ⟨p0, hp0, rfl⟩
    · exact h.good j (by omega)
  have mk' : ∀ m : Int, m = e.mark → 0 ≤ m → ∃ p t, pat[m.toNat]? = some p ∧ (e.text.set i (UInt8.ofNat (240 + (takeM src e.at_).1)))[m.toNat]? = some t ∧ (p.toNat = 32 ∨ p.toNat = 33) ∧ 240 < t.toNat ∧ t.toNat ≤ 249 := by
    rintro m rfl hm
    obtain ⟨q, t, h1, h2, h3⟩ := h.mkd hm
    have := h.hi
    exact ⟨q, t, h1, by rw [List.getElem?_set_ne (by omega)]; exact h2, h3⟩
  by_cases hd0 : 0 < (takeM src e.at_).1
  · simp only [hd0, if_true]
    refine ⟨by simpa using hlen, hodd, gi _ rfl, ?_, ?_, ?_⟩
    · dsimp only; split
      · exact h.lo
      · omega
    · dsimp only; have := h.hi; split <;> omega
    · dsimp only
      intro hm
      by_cases ho : e.on = true
      · simp only [ho, if_true] at hm ⊢
        exact mk' _ rfl hm
      · have ho' : e.on = false := by simpa using ho
        simp only [ho', Bool.false_eq_true, if_false] at hm ⊢
        refine ⟨p, _, by simpa using hp, by rw [Int.toNat_natCast, List.getElem?_set_self (by omega)], hpc, by rw [e240]; omega, by rw [e240]; omega⟩
  · simp only [hd0, if_false]
    have hi' := h.hi
    by_cases ho : e.on = true
    · simp only [ho, if_true]
      exact ⟨by simpa using hlen, hodd, gi _ rfl, h.lo, by dsimp only; omega, mk' _ rfl⟩
    · have ho' : e.on = false := by simpa using ho
      simp only [ho', Bool.false_eq_true, if_false]
      exact ⟨hlen, hodd, gk, h.lo, by dsimp only; omega, h.mkd⟩
end Go.AM
