/- Numbers, in plain words: a run over a number's part of a pattern. -/
import Derived.Test.YtnakpjnigfpkpaaC05Q1
namespace Go.AM
set_option linter.unusedSimpArgs false
set_option linter.unusedVariables false

theorem run_tail (src : List UInt8) (p0 : UInt8) (rest : List UInt8) (at_ : Nat) (on sm : Bool) (mark : Int) (S : List UInt8) : ∀ (t T R : List UInt8) (i : Nat), (∀ c ∈ t, plainM c = true) → T.length = i → R.length = t.length →
    runM src p0 (t ++ rest) i ⟨at_, on, sm, T ++ (R ++ S), mark⟩ = runM src p0 rest (i + t.length) ⟨at_, on, sm, T ++ (behP on p0 t ++ S), mark⟩
  | [], T, R, i, _, _, hR => by
    have : R = [] := List.eq_nil_of_length_eq_zero (by simpa using hR)
    subst this
    cases on <;> simp [behP]
  | c :: t, T, R, i, hp, hT, hR => by
    match R, hR with
    | x :: R, hR =>
      have hs := step_plain (src := src) (p0 := p0) (at_ := at_) (on := on) (sm := sm) (T := T) (R := R ++ S) (x := x) (mark := mark) (hp c List.mem_cons_self) hT
      have ih := run_tail src p0 rest at_ on sm mark S t (T ++ [if on then c else p0]) R (i + 1) (fun c hc => hp c (List.mem_cons_of_mem _ hc)) (by simp [hT]) (by simpa using hR)
      simp only [List.cons_append, runM]
      rw [hs]
      simp only [ne_eq, not_true, if_false]
      simp only [List.append_assoc, List.singleton_append] at ih
      rw [ih, List.length_cons, show i + 1 + t.length = i + (t.length + 1) by omega]
      congr 3
      cases on <;> simp [behP, List.replicate_succ]
    | [], hR => simp at hR

def fromM (z : Nat) (k : Int) : Int := if 0 ≤ k ∧ k < z then k + 1 else z
def onM (z : Nat) (k : Int) (i : Nat) : Bool := decide (z < i) || decide (0 ≤ k ∧ k < i)
def markM (z : Nat) (k : Int) (b : Nat) (m0 : Int) (i : Nat) : Int := if z < i ∧ ¬ (0 ≤ k ∧ k < z) then (b + z : Nat) else m0

theorem run_digits {src : List UInt8} {p : Nat} {ds : List UInt8} {neg : Bool} (hsrc : ∀ j b, (packM ds neg)[j]? = some b → src[p + j]? = some b) (p0 : UInt8) (k : Int) (rest T S : List UInt8) (b : Nat) (m0 : Int) (hT : T.length = b) :
    ∀ (m i : Nat) (R : List UInt8), i + m = (digM ds).length → R.length = m →
      runM src p0 ((selP k (digM ds).length).drop i ++ rest) (b + i)
        ⟨if i = (digM ds).length then 2 * p + (digM ds).length + 1 else 2 * p + i, onM (zerM (digM ds)) k i && (decide (i < (digM ds).length) || neg), decide (zerM (digM ds) < i),
          T ++ textP (digM ds) (fromM (zerM (digM ds)) k) p0 i ++ (R ++ S), markM (zerM (digM ds)) k b m0 i⟩ =
      runM src p0 rest (b + (digM ds).length)
        ⟨2 * p + (digM ds).length + 1, onM (zerM (digM ds)) k (digM ds).length && neg, decide (zerM (digM ds) < (digM ds).length),
          T ++ textP (digM ds) (fromM (zerM (digM ds)) k) p0 (digM ds).length ++ S, markM (zerM (digM ds)) k b m0 (digM ds).length⟩
  | 0, i, R, hi, hR => by
    have : R = [] := List.eq_nil_of_length_eq_zero hR
    subst this
    have hi' : i = (digM ds).length := by omega
    subst hi'
    rw [List.drop_of_length_le (by simp)]
    simp
  | m + 1, i, R, hi, hR => by
    match R, hR with
    | x :: R, hR =>
      have hil : i < (digM ds).length := by omega
      obtain ⟨d, hd⟩ : ∃ d, (digM ds)[i]? = some d := ⟨_, List.getElem?_eq_getElem hil⟩
      have hdr := digM_range ds d (List.mem_of_getElem? hd)
      have ht := take_num hsrc hd
      have hz1 : i < zerM (digM ds) → d = 0 := fun h => zerM_zero _ _ _ h hd
      have hz2 : i = zerM (digM ds) → d ≠ 0 := fun h => zerM_next (digM ds) d (by rw [← h]; exact hd)
      have ih := run_digits hsrc p0 k rest T S b m0 hT m (i + 1) R (by omega) (by simpa using hR)
      have hdrop : (selP k (digM ds).length).drop i = (if (i : Int) = k then 33 else 32) :: (selP k (digM ds).length).drop (i + 1) := by
        rw [List.drop_eq_getElem_cons (by simpa using hil)]
        simp [selP]
      have hpos : decide (0 < d.toNat) = decide (d ≠ 0) := decide_eq_decide.2 (by omega)
      generalize hz : zerM (digM ds) = z at *
      generalize hn : (digM ds).length = n at *
      have hstep := step_digit (src := src) (p0 := p0) (c := if (i : Int) = k then 33 else 32) (i := b + i) (on := onM z k i && (decide (i < n) || neg)) (sm := decide (z < i)) (T := T ++ textP (digM ds) (fromM z k) p0 i) (R := R ++ S) (x := x) (mark := markM z k b m0 i) (decide ((i : Int) = k)) (by by_cases h : (i : Int) = k <;> simp [h]) (by simp [hT]) ht
      rw [hdrop, List.cons_append, if_neg (show ¬ i = n by omega)]
      simp only [runM, List.cons_append]
      rw [hstep]
      simp only [ne_eq, not_true, if_false]
      rw [show b + i + 1 = b + (i + 1) by omega, ← ih]
      have e240 : (if fromM z k ≤ (i : Int) then UInt8.ofNat (240 + ((digM ds)[i]?).getD 0).toNat else p0) = (if (onM z k i && (decide (i < n) || neg)) || decide (0 < d.toNat) then UInt8.ofNat (240 + d.toNat) else p0) := by
        rw [hd, Option.getD_some]
        have h1 : (240 + d).toNat = 240 + d.toNat := by omega
        rw [h1]
        have h2 : decide (fromM z k ≤ (i : Int)) = ((onM z k i && (decide (i < n) || neg)) || decide (0 < d.toNat)) := by
          rw [hpos]
          simp only [hil, decide_true, Bool.true_or, Bool.and_true, onM, ← Bool.decide_or]
          refine decide_eq_decide.2 ?_
          unfold fromM
          constructor
          · intro h
            by_cases hk : 0 ≤ k ∧ k < z
            · rw [if_pos hk] at h; left; right; omega
            · rw [if_neg hk] at h
              rcases Nat.lt_or_ge z i with h3 | h3
              · left; left; exact h3
              · right; exact hz2 (by omega)
          · intro h
            have h3 : d ≠ 0 → z ≤ i := fun h4 => by
              rcases Nat.lt_or_ge i z with h5 | h5
              · exact absurd (hz1 h5) h4
              · exact h5
            split <;> omega
        rw [← h2]
        by_cases h : fromM z k ≤ (i : Int) <;> simp [h]
      have hnext := textP_next (digM ds) (fromM z k) p0 i
      rw [e240] at hnext
      rw [hnext]
      have hon : (if decide ((i : Int) = k) = true then !(decide (i + 1 = n) && !neg) else (((onM z k i && (decide (i < n) || neg)) || decide (0 < d.toNat)) && !(decide (i + 1 = n) && !neg))) = (onM z k (i + 1) && (decide (i + 1 < n) || neg)) := by
        have hl : (!(decide (i + 1 = n) && !neg)) = (decide (i + 1 < n) || neg) := by
          by_cases h : i + 1 = n
          · have h' : ¬ i + 1 < n := by omega
            rw [decide_eq_true h, decide_eq_false h']; cases neg <;> rfl
          · have h' : i + 1 < n := by omega
            rw [decide_eq_false h, decide_eq_true h']; cases neg <;> rfl
        rw [hl, hpos]
        have h3 : d ≠ 0 → z ≤ i := fun h4 => by
          rcases Nat.lt_or_ge i z with h5 | h5
          · exact absurd (hz1 h5) h4
          · exact h5
        by_cases hk : (i : Int) = k
        · have : onM z k (i + 1) = true := by simp [onM]; right; omega
          simp [hk, this]
        · have : onM z k (i + 1) = ((onM z k i && (decide (i < n) || neg)) || decide (d ≠ 0)) := by
            simp only [hil, decide_true, Bool.true_or, Bool.and_true, onM, ← Bool.decide_or]
            refine decide_eq_decide.2 ?_
            constructor
            · rintro (h | h)
              · rcases Nat.lt_or_ge z i with h4 | h4
                · left; left; exact h4
                · right; exact hz2 (by omega)
              · left; right; omega
            · rintro ((h | h) | h)
              · left; omega
              · right; omega
              · left; have := h3 h; omega
          rw [this]
          simp [hk]
      have hsm : (decide (z < i) || decide (0 < d.toNat)) = decide (z < i + 1) := by
        rw [hpos, ← Bool.decide_or]
        refine decide_eq_decide.2 ?_
        constructor
        · rintro (h | h)
          · omega
          · rcases Nat.lt_or_ge i z with h5 | h5
            · exact absurd (hz1 h5) h
            · omega
        · intro h
          rcases Nat.lt_or_ge z i with h4 | h4
          · exact .inl h4
          · exact .inr (hz2 (by omega))
      have hmk : (if 0 < d.toNat ∧ (onM z k i && (decide (i < n) || neg)) = false then ((b + i : Nat) : Int) else markM z k b m0 i) = markM z k b m0 (i + 1) := by
        have hd0 : 0 < d.toNat ↔ d ≠ 0 := by omega
        have ho : ((onM z k i && (decide (i < n) || neg)) = false) ↔ ¬ (z < i ∨ (0 ≤ k ∧ k < i)) := by
          simp only [hil, decide_true, Bool.true_or, Bool.and_true, onM, ← Bool.decide_or, decide_eq_false_iff_not]
        simp only [hd0, ho]
        unfold markM
        have h3 : d ≠ 0 → z ≤ i := fun h4 => by
          rcases Nat.lt_or_ge i z with h5 | h5
          · exact absurd (hz1 h5) h4
          · exact h5
        by_cases hdz : d ≠ 0
        · have := h3 hdz
          by_cases hzi : z = i
          · subst hzi
            by_cases hk : 0 ≤ k ∧ k < (z : Int)
            · rw [if_neg (by omega), if_neg (by omega), if_neg (by omega)]
            · rw [if_pos (by refine ⟨hdz, ?_⟩; omega), if_pos (by omega)]
          · by_cases hk : 0 ≤ k ∧ k < (z : Int)
            · rw [if_neg (by omega), if_neg (by omega), if_neg (by omega)]
            · rw [if_neg (by omega), if_pos (by omega), if_pos (by omega)]
        · have hiz : i ≠ z := fun h => hdz (hz2 h)
          rw [if_neg (by omega)]
          by_cases hzi : z < i
          · by_cases hk : 0 ≤ k ∧ k < (z : Int)
            · rw [if_neg (by omega), if_neg (by omega)]
            · rw [if_pos (by omega), if_pos (by omega)]
          · rw [if_neg (by omega), if_neg (by omega)]
      rw [hon, hsm, hmk]
      congr 2
      · split <;> omega
      · simp
    | [], hR => simp at hR
end Go.AM
