/- Numbers, in plain words: the digits that take hands out of a packed number. -/
import Derived.Test.YtnakpjnigfpkpaaC05N5
import Derived.Test.YtnakpjnigfpkpaaC05P3
namespace Go.AM
set_option linter.unusedSimpArgs false
set_option linter.unusedVariables false

theorem packP_get : ∀ (j : Nat) (l : List Int) (a b : Int), l[2 * j]? = some a → l[2 * j + 1]? = some b → (packP l)[j]? = some (UInt8.ofNat (16 * a + b).toNat)
  | 0, l, a, b, ha, hb => by
    match l, ha, hb with
    | x :: y :: l, ha, hb => simp at ha hb; subst ha hb; simp [packP]
    | [x], _, hb => simp at hb
    | [], ha, _ => simp at ha
  | j + 1, l, a, b, ha, hb => by
    match l, ha, hb with
    | x :: y :: l, ha, hb =>
      have := packP_get j l a b (by simpa [show 2 * (j + 1) = 2 * j + 1 + 1 by omega] using ha) (by simpa [show 2 * (j + 1) + 1 = 2 * j + 1 + 1 + 1 by omega] using hb)
      simpa [packP] using this
    | [x], ha, _ => simp [show 2 * (j + 1) = 2 * j + 1 + 1 by omega] at ha
    | [], ha, _ => simp at ha

theorem take_num {src : List UInt8} {p : Nat} {ds : List UInt8} {neg : Bool} (hsrc : ∀ j b, (packM ds neg)[j]? = some b → src[p + j]? = some b) {i : Nat} {d : Int} (hd : (digM ds)[i]? = some d) :
    takeM src (2 * p + i) = (d.toNat, (decide (i + 1 = (digM ds).length) && !neg), 0, if i + 1 = (digM ds).length then 2 * p + i + 2 else 2 * p + i + 1) := by
  have hodd := digM_odd ds
  have hil : i < (digM ds).length := (List.getElem?_eq_some_iff.1 hd).1
  have hr := digM_range ds d (List.mem_of_getElem? hd)
  have hget : ∀ k, k ≤ (digM ds).length → ∃ x, (digM ds ++ [sgnM neg])[k]? = some x ∧ 0 ≤ x ∧ (k < (digM ds).length → x ≤ 9 ∧ (digM ds)[k]? = some x) ∧ (k = (digM ds).length → x = sgnM neg) := by
    intro k hk
    rcases Nat.lt_or_ge k (digM ds).length with h | h
    · refine ⟨(digM ds)[k], ?_, (digM_range ds _ (List.getElem_mem h)).1, fun _ => ⟨(digM_range ds _ (List.getElem_mem h)).2, List.getElem?_eq_getElem h⟩, fun h' => by omega⟩
      rw [List.getElem?_append_left h, List.getElem?_eq_getElem h]
    · have : k = (digM ds).length := by omega
      subst this
      refine ⟨sgnM neg, ?_, by unfold sgnM; split <;> omega, fun h => by omega, fun _ => rfl⟩
      rw [List.getElem?_append_right (Nat.le_refl _), Nat.sub_self]; rfl
  obtain ⟨j, hj⟩ : ∃ j, j = i / 2 := ⟨_, rfl⟩
  obtain ⟨a, ha, ha0, ha9, _⟩ := hget (2 * j) (by omega)
  obtain ⟨b, hb, hb0, hb9, hbs⟩ := hget (2 * j + 1) (by omega)
  have hbyte := hsrc j _ (packP_get j _ a b ha hb)
  have hs13 : sgnM neg ≤ 13 := by unfold sgnM; split <;> omega
  have ha9' := (ha9 (by omega)).1
  have hb13 : b ≤ 13 := by
    rcases Nat.lt_or_ge (2 * j + 1) (digM ds).length with h | h
    · have := (hb9 h).1; omega
    · rw [hbs (by omega)]; exact hs13
  have hval : (UInt8.ofNat (16 * a + b).toNat).toNat = (16 * a + b).toNat := by rw [UInt8.toNat_ofNat']; omega
  have hdiv : (16 * a + b).toNat / 16 = a.toNat := by omega
  have hmod : (16 * a + b).toNat % 16 = b.toNat := by omega
  unfold takeM
  rw [show (2 * p + i) / 2 = p + j by omega, hbyte]
  dsimp only
  rw [hval, hdiv, hmod]
  by_cases hio : i % 2 = 1
  · have h2 : 2 * j + 1 = i := by omega
    have hbd : b = d := by
      have := (hb9 (by omega)).2
      rw [h2, hd] at this
      exact (Option.some.inj this).symm
    subst hbd
    rw [if_pos (by omega), if_neg (by omega)]
    simp [show ¬ i + 1 = (digM ds).length by omega]
  · have h2 : 2 * j = i := by omega
    have had : a = d := by
      have := (ha9 (by omega)).2
      rw [h2, hd] at this
      exact (Option.some.inj this).symm
    subst had
    rw [if_neg (by omega), if_neg (by omega)]
    by_cases hl : i + 1 = (digM ds).length
    · have hbs' := hbs (by omega)
      have h9 : 9 < b.toNat := by rw [hbs']; unfold sgnM; split <;> omega
      rw [if_pos h9, if_pos hl, hbs']
      cases neg <;> simp [sgnM, hl]
    · have := (hb9 (by omega)).1
      rw [if_neg (by omega), if_neg hl]
      simp [hl]

theorem set_mid {T R : List UInt8} {x y : UInt8} {i : Nat} (h : T.length = i) : (T ++ x :: R).set i y = T ++ y :: R := by
  subst h
  rw [List.set_append_right _ _ (Nat.le_refl _), Nat.sub_self, List.set_cons_zero]

theorem step_digit {src : List UInt8} {p0 c : UInt8} {i at_ at' d : Nat} {plus on sm : Bool} {T R : List UInt8} {x : UInt8} {mark : Int} (st : Bool) (hc : c.toNat = if st then 33 else 32) (hT : T.length = i) (ht : takeM src at_ = (d, plus, 0, at')) :
    stepM src p0 i c ⟨at_, on, sm, T ++ x :: R, mark⟩ = (0, ⟨at', (if st then !plus else ((on || decide (0 < d)) && !plus)), sm || decide (0 < d), T ++ (if on || decide (0 < d) then UInt8.ofNat (240 + d) else p0) :: R, if 0 < d ∧ on = false then i else mark⟩) := by
  unfold stepM digitM startM showM
  dsimp only
  rw [ht]
  dsimp only
  rw [set_mid hT]
  cases st with
  | true =>
    rw [if_neg (by simp [hc]), if_pos (by simp [hc])]
    by_cases hd : 0 < d <;> cases on <;> simp [hd, set_mid hT]
  | false =>
    rw [if_pos (by simp [hc])]
    by_cases hd : 0 < d <;> cases on <;> simp [hd, set_mid hT]

theorem step_plain {src : List UInt8} {p0 c : UInt8} {i at_ : Nat} {on sm : Bool} {T R : List UInt8} {x : UInt8} {mark : Int} (hc : plainM c = true) (hT : T.length = i) :
    stepM src p0 i c ⟨at_, on, sm, T ++ x :: R, mark⟩ = (0, ⟨at_, on, sm, T ++ (if on then c else p0) :: R, mark⟩) := by
  have : c.toNat < 32 ∨ 34 < c.toNat := by simpa [plainM] using hc
  unfold stepM
  dsimp only
  rw [if_neg (by omega), if_neg (by omega), if_neg (by omega), set_mid hT]
  cases on <;> simp [set_mid hT]
end Go.AM
