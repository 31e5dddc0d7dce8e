/- The plain law of blocks: blocks are groups of records. -/
import Derived.Test.YtmedlgfdabokaaaC22J
namespace Go.AM
open Go.RowKit Go.Proofs
set_option linter.unusedSimpArgs false
set_option linter.unusedVariables false
set_option maxHeartbeats 1000000

def item (d : Dcb) (r : List UInt8) : List UInt8 := if d.fmt == 2 then desc (r.length + 4) ++ r else r
def body (d : Dcb) (g : List (List UInt8)) : List UInt8 := (g.map (item d)).flatten
def enc (d : Dcb) (g : List (List UInt8)) : List UInt8 := if d.fmt == 2 then desc ((body d g).length + 4) ++ body d g else body d g
def raw (d : Dcb) (g : List (List UInt8)) : List UInt8 := if g = [] then [] else if d.fmt == 2 then [0, 0, 0, 0] ++ body d g else body d g
theorem body_snoc (d : Dcb) (g : List (List UInt8)) (r : List UInt8) : body d (g ++ [r]) = body d g ++ item d r := by simp [body]
theorem body_cons (d : Dcb) (g : List (List UInt8)) (r : List UInt8) : body d (r :: g) = item d r ++ body d g := by simp [body]
theorem item_len (d : Dcb) (r : List UInt8) : (item d r).length = lenM d r := by unfold item lenM; split <;> simp; omega
structure GroupOk (d : Dcb) (g : List (List UInt8)) : Prop where
  ne : g ≠ []
  fit : ∀ r ∈ g, fitsM d r.length = true
  len : ((enc d g).length : Int) ≤ d.size
  one : d.blk = false → g.length = 1
theorem raw_len {d : Dcb} {g : List (List UInt8)} (h : g ≠ []) : (raw d g).length = (enc d g).length := by
  unfold raw enc
  rw [if_neg h]
  split
  · simp; omega
  · rfl
theorem body_pos {d : Dcb} (hc : checkM d = 0) {g : List (List UInt8)} (h : g ≠ []) (hf : ∀ r ∈ g, fitsM d r.length = true) : 0 < (body d g).length := by
  cases g with
  | nil => exact absurd rfl h
  | cons r g =>
    have := fits_facts hc (hf r (by simp))
    rw [body_cons, List.length_append, item_len]
    unfold lenM
    split <;> omega
theorem raw_ne {d : Dcb} (hc : checkM d = 0) {g : List (List UInt8)} (h : g ≠ []) (hf : ∀ r ∈ g, fitsM d r.length = true) : raw d g ≠ [] := by
  intro e
  have h1 := body_pos hc h hf
  have h2 : (raw d g).length = 0 := by rw [e]; rfl
  unfold raw at h2
  rw [if_neg h] at h2
  split at h2
  · simp at h2
  · omega
theorem flush_raw {d : Dcb} {g : List (List UInt8)} (h : g ≠ []) : flushB d (raw d g) = enc d g := by
  unfold flushB raw enc
  rw [if_neg h]
  split
  · have e : ([0, 0, 0, 0] ++ body d g).length = (body d g).length + 4 := by simp
    rw [e]
    rfl
  · rfl
theorem head_raw {d : Dcb} (hc : checkM d = 0) {g : List (List UInt8)} (r : List UInt8) (hf : ∀ r ∈ g, fitsM d r.length = true) : headB d (raw d g) r ++ r = raw d (g ++ [r]) := by
  have hne : g ++ [r] ≠ [] := by simp
  unfold headB startB
  rcases Bool.eq_false_or_eq_true (d.fmt == 2) with h1 | h1
  · rw [if_pos h1, if_pos h1]
    by_cases hg : g = []
    · subst hg
      simp [raw, body, item, h1]
    · rw [if_neg (raw_ne hc hg hf)]
      unfold raw
      rw [if_neg hg, if_neg hne, if_pos h1, if_pos h1, body_snoc]
      simp [item, h1]
  · rw [h1]
    unfold raw
    rw [if_neg hne, h1, body_snoc]
    have hi : item d r = r := by unfold item; rw [h1]; rfl
    rw [hi]
    by_cases hg : g = []
    · subst hg; simp [body]
    · rw [if_neg hg]; simp

def FullI (d : Dcb) (gs : List (List (List UInt8))) : Prop := ∀ (i : Nat) (a b : List (List UInt8)), gs[i]? = some a → gs[i + 1]? = some b → ∃ r rest, b = r :: rest ∧ fullM d (raw d a) r = true
theorem full_snoc {d : Dcb} {gs : List (List (List UInt8))} {x : List (List UInt8)} (h : FullI d gs) (hx : ∀ a, gs[gs.length - 1]? = some a → gs ≠ [] → ∃ r rest, x = r :: rest ∧ fullM d (raw d a) r = true) : FullI d (gs ++ [x]) := by
  intro i a b ha hb
  have hlt := (List.getElem?_eq_some_iff.1 hb).1
  simp at hlt
  rcases Nat.lt_or_ge (i + 1) gs.length with h1 | h1
  · rw [List.getElem?_append_left (by omega)] at ha
    rw [List.getElem?_append_left h1] at hb
    exact h i a b ha hb
  · have hi : i + 1 = gs.length := by omega
    rw [List.getElem?_append_left (by omega)] at ha
    rw [List.getElem?_append_right (by omega), hi, Nat.sub_self] at hb
    simp at hb
    subst hb
    exact hx a (by rw [show gs.length - 1 = i by omega]; exact ha) (by intro e; rw [e] at hi; simp at hi)
theorem full_init {d : Dcb} {gs : List (List (List UInt8))} {x : List (List UInt8)} (h : FullI d (gs ++ [x])) : FullI d gs := by
  intro i a b ha hb
  have h1 := (List.getElem?_eq_some_iff.1 ha).1
  have h2 := (List.getElem?_eq_some_iff.1 hb).1
  exact h i a b (by rw [List.getElem?_append_left h1]; exact ha) (by rw [List.getElem?_append_left h2]; exact hb)

theorem one_ok {d : Dcb} (hc : checkM d = 0) {r : List UInt8} (hf : fitsM d r.length = true) : GroupOk d [r] := by
  have := fits_facts hc hf
  refine ⟨by simp, by simpa using hf, ?_, fun _ => rfl⟩
  unfold enc
  rcases Bool.eq_false_or_eq_true (d.fmt == 2) with h1 | h1
  · rw [if_pos h1]
    have h2 : d.fmt = 2 := by simpa using h1
    have := (this.2.2.1 h2).2
    simp [body, item, h1]
    omega
  · rw [h1]
    simp [body, item, h1]
    omega

structure Groups (d : Dcb) (gs : List (List (List UInt8))) (g : List (List UInt8)) : Prop where
  ok : ∀ x ∈ gs, GroupOk d x
  cur : g ≠ [] → GroupOk d g
  first : g = [] → gs = []
  full : FullI d (if g = [] then gs else gs ++ [g])
theorem goB_groups {d : Dcb} (hc : checkM d = 0) : ∀ (l : List (List UInt8)) (gs : List (List (List UInt8))) (g : List (List UInt8)) (p : List (List UInt8) × List UInt8), Groups d gs g →
    goB d l (gs.map (enc d)) (raw d g) = some p → ∃ gs' g', Groups d gs' g' ∧ p = (gs'.map (enc d), raw d g') ∧ gs'.flatten ++ g' = gs.flatten ++ g ++ l ∧ (∀ r ∈ l, fitsM d r.length = true)
  | [], gs, g, p, hG, h => by
    rw [goB] at h
    cases h
    exact ⟨gs, g, hG, rfl, by simp, by simp⟩
  | r :: l, gs, g, p, hG, h => by
    rw [goB] at h
    split at h
    · cases h
    rename_i hf
    have hf : fitsM d r.length = true := by simpa using hf
    have hgf : ∀ r ∈ g, fitsM d r.length = true := fun x hx => (hG.cur (fun e => by rw [e] at hx; cases hx)).fit x hx
    split at h
    · rename_i hfu

      have e2 : headB d [] r ++ r = raw d [r] := by
        have := head_raw hc (g := []) r (by simp)
        simpa [raw] using this
      rw [e2] at h
      by_cases hg : g = []
      · subst hg
        have hgs := hG.first rfl
        subst hgs
        have e1 : flushM d (([] : List (List (List UInt8))).map (enc d)) (raw d []) = ([] : List (List (List UInt8))).map (enc d) := by unfold flushM; rw [if_pos (by simp [raw])]
        rw [e1] at h
        obtain ⟨gs', g', k1, k2, k3, k4⟩ := goB_groups hc l [] [r] p ⟨by simp, fun _ => one_ok hc hf, by simp, by intro i a b ha hb; simp at hb⟩ h
        exact ⟨gs', g', k1, k2, by simpa using k3, by intro x hx; rcases List.mem_cons.1 hx with rfl | hx; exact hf; exact k4 x hx⟩
      · have e1 : flushM d (gs.map (enc d)) (raw d g) = (gs ++ [g]).map (enc d) := by unfold flushM; rw [if_neg (raw_ne hc hg hgf), flush_raw hg]; simp
        rw [e1] at h
        have hfull := hG.full
        rw [if_neg hg] at hfull
        obtain ⟨gs', g', k1, k2, k3, k4⟩ := goB_groups hc l (gs ++ [g]) [r] p ⟨fun x hx => by
          rcases List.mem_append.1 hx with h1 | h1
          · exact hG.ok x h1
          · rw [List.mem_singleton.1 h1]; exact hG.cur hg, fun _ => one_ok hc hf, by simp, by
          rw [if_neg (by simp)]
          refine full_snoc hfull fun a ha _ => ⟨r, [], rfl, ?_⟩
          rw [List.getElem?_append_right (by simp)] at ha
          simp at ha
          rw [← ha]
          exact hfu⟩ h
        exact ⟨gs', g', k1, k2, by simpa using k3, by intro x hx; rcases List.mem_cons.1 hx with rfl | hx; exact hf; exact k4 x hx⟩
    · rename_i hfu
      rw [head_raw hc r hgf] at h
      have hfu2 : d.blk = true ∧ ¬ d.size < ((raw d g).length + lenM d r : Nat) := by
        unfold fullM at hfu
        simp only [Bool.or_eq_true, not_or, decide_eq_true_eq] at hfu
        exact ⟨by simpa using hfu.1, hfu.2⟩
      have hok : GroupOk d (g ++ [r]) := by
        by_cases hg : g = []
        · subst hg; exact one_ok hc hf
        · refine ⟨by simp, fun x hx => ?_, ?_, fun hb => by rw [hfu2.1] at hb; cases hb⟩
          · rcases List.mem_append.1 hx with h1 | h1
            · exact hgf x h1
            · rw [List.mem_singleton.1 h1]; exact hf
          · have h3 : (enc d (g ++ [r])).length = (enc d g).length + lenM d r := by
              unfold enc
              split
              · simp [body_snoc, item_len]; omega
              · simp [body_snoc, item_len]
            rw [h3, ← raw_len hg]
            have := hfu2.2
            omega
      obtain ⟨gs', g', k1, k2, k3, k4⟩ := goB_groups hc l gs (g ++ [r]) p ⟨hG.ok, fun _ => hok, by simp, by
        rw [if_neg (by simp)]
        by_cases hg : g = []
        · have := hG.first hg
          rw [this]
          intro i a b ha hb
          simp at hb
        · have hfull := hG.full
          rw [if_neg hg] at hfull
          refine full_snoc (full_init hfull) fun a ha hne => ?_
          have hgl : gs.length ≠ 0 := fun e => hne (List.eq_nil_of_length_eq_zero e)
          obtain ⟨r0, rest, e, h5⟩ := hfull (gs.length - 1) a g (by rw [List.getElem?_append_left (by omega)]; exact ha) (by rw [List.getElem?_append_right (by omega)]; simp [show gs.length - 1 + 1 - gs.length = 0 by omega])
          exact ⟨r0, rest ++ [r], by rw [e]; rfl, h5⟩⟩ h
      exact ⟨gs', g', k1, k2, by simpa using k3, by intro x hx; rcases List.mem_cons.1 hx with rfl | hx; exact hf; exact k4 x hx⟩

theorem blockM_groups {d : Dcb} {l bs : List (List UInt8)} (h : blockM d l = (bs, 0)) : checkM d = 0 ∧ l.length ≤ 4096 ∧ ∃ gs, bs = gs.map (enc d) ∧ gs.flatten = l ∧ (∀ x ∈ gs, GroupOk d x) ∧ FullI d gs := by
  unfold blockM at h
  split at h
  · rename_i hc
    split at h
    · cases h
    · rename_i hl
      refine ⟨hc, by omega, ?_⟩
      obtain ⟨q, hq⟩ : ∃ q, goB d l [] [] = q := ⟨_, rfl⟩
      rw [hq] at h
      cases q with
      | none => cases h
      | some p =>
        obtain ⟨gs', g', k1, k2, k3, _⟩ := goB_groups hc l [] [] p ⟨by simp, by simp, by simp, by intro i a b ha hb; simp at hb⟩ (by simpa [raw] using hq)
        subst k2
        simp only [finB, Prod.mk.injEq, and_true] at h
        simp at k3
        by_cases hg : g' = []
        · have := k1.first hg
          subst hg
          subst this
          refine ⟨[], ?_, by simpa using k3, by simp, by intro i a b ha hb; simp at hb⟩
          rw [← h]
          simp [flushM, raw]
        · have hgf := (k1.cur hg).fit
          refine ⟨gs' ++ [g'], ?_, by simpa using k3, fun x hx => ?_, ?_⟩
          · rw [← h]
            unfold flushM
            rw [if_neg (raw_ne hc hg hgf), flush_raw hg]
            simp
          · rcases List.mem_append.1 hx with h1 | h1
            · exact k1.ok x h1
            · rw [List.mem_singleton.1 h1]; exact k1.cur hg
          · have := k1.full
            rwa [if_neg hg] at this
  · rename_i hc
    exact absurd (Prod.mk.inj h).2 hc
theorem blockM_err {d : Dcb} {l : List (List UInt8)} (h : (blockM d l).2 ≠ 0) : (blockM d l).1 = [] := by
  unfold blockM at h ⊢
  split
  · rename_i hc
    rw [if_pos hc] at h
    split
    · rfl
    · rename_i hl
      simp only [hl, if_false] at h
      generalize goB d l [] [] = q at h ⊢
      cases q with
      | none => rfl
      | some p => exact absurd rfl h
  · rfl
end Go.AM
