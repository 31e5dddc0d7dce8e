/- The plain law of blocks: taking them apart. -/
import Derived.Test.YtmedlgfdabokaaaC22PA
namespace Go.AM
open Go.RowKit Go.Proofs
set_option linter.unusedSimpArgs false
set_option linter.unusedVariables false
set_option maxHeartbeats 1000000

theorem descd_desc {n : Nat} (h : n < 65536) (l : List UInt8) : descd (desc n ++ l) = n := by
  simp only [desc, List.cons_append, descd, if_true, UInt8.toNat_ofNat']
  omega
theorem splitGo_nil (d : Dcb) (k : Nat) (O : List (List UInt8)) : splitGo d k [] O = (O, true) := by
  cases k with
  | zero => rfl
  | succ k => rw [splitGo, if_pos rfl]
theorem splitGo_body {d : Dcb} (hc : checkM d = 0) (hm : d.fmt = 1 ∨ d.fmt = 2) : ∀ (g : List (List UInt8)) (k : Nat) (O : List (List UInt8)), (body d g).length ≤ k → (∀ r ∈ g, fitsM d r.length = true) → splitGo d k (body d g) O = (O ++ g, true)
  | [], k, O, _, _ => by rw [show body d [] = [] from rfl, splitGo_nil]; simp
  | r :: g, k, O, hk, hf => by
    have hr := hf r (by simp)
    obtain ⟨f1, f2, f3, f4⟩ := fits_facts hc hr
    have hpos := body_pos hc (g := r :: g) (by simp) hf
    obtain ⟨k, rfl⟩ : ∃ m, k = m + 1 := ⟨k - 1, by omega⟩
    have hne : body d (r :: g) ≠ [] := fun e => by rw [e] at hpos; simp at hpos
    rw [splitGo, if_neg hne, body_cons]
    have hN : cutN d (item d r ++ body d g) = r.length := by
      unfold cutN
      rcases hm with e | e
      · rw [if_pos (by simpa using e)]
        have : fitsM d r.length = ((r.length : Int) == d.lrecl) := by unfold fitsM; rw [if_pos (by simpa using e)]
        rw [this] at hr
        exact (beq_iff_eq.1 hr).symm
      · have e2 : (d.fmt == 2) = true := by simpa using e
        rw [if_neg (by rw [e]; decide), if_pos e2]
        unfold item
        rw [if_pos e2, List.append_assoc, descd_desc (by omega)]
        omega
    have hB : cutB d (item d r ++ body d g) = r ++ body d g := by
      unfold cutB item
      split
      · rw [List.append_assoc, List.drop_left' (desc_length _)]
      · rfl
    rw [hN, hB, if_neg (by rintro (h | h | h); omega; (simp at h; omega); rw [hr] at h; cases h), Int.toNat_natCast, List.take_left, List.drop_left]
    have hl : (body d g).length ≤ k := by
      rw [body_cons, List.length_append, item_len] at hk
      unfold lenM at hk
      split at hk <;> omega
    rw [splitGo_body hc hm g k (O ++ [r]) hl fun x hx => hf x (by simp [hx])]
    simp

theorem split_enc {d : Dcb} (hc : checkM d = 0) {g : List (List UInt8)} (h : GroupOk d g) (O : List (List UInt8)) : splitM d (enc d g) O = (O ++ g, true) := by
  obtain ⟨c1, c2, c3, c4, c5, c6⟩ := check_facts hc
  have hlen := h.len
  unfold splitM
  rw [if_neg (by omega)]
  rcases lens_facts c3 c4 c5 with ⟨e1, _, _⟩ | ⟨e1, _, _⟩ | ⟨e1, _, e3⟩
  · have e2 : (d.fmt == 2) = false := by rw [e1]; rfl
    rw [e2]
    have he : enc d g = body d g := by unfold enc; rw [e2]; rfl
    simp only [Bool.false_eq_true, if_false]
    rw [he]
    exact splitGo_body hc (.inl e1) g _ O (Nat.le_refl _) h.fit
  · have e2 : (d.fmt == 2) = true := by simpa using e1
    have he : enc d g = desc ((body d g).length + 4) ++ body d g := by unfold enc; rw [if_pos e2]
    have hl2 : (enc d g).length = (body d g).length + 4 := by rw [he]; simp; omega
    rw [if_pos e2, hl2, he, descd_desc (by omega), if_pos rfl, List.drop_left' (desc_length _)]
    exact splitGo_body hc (.inr e1) g _ O (by omega) h.fit
  · have e2 : (d.fmt == 2) = false := by rw [e1]; rfl
    have e4 : (d.fmt == 1) = false := by rw [e1]; rfl
    rw [e2]
    have h1 := h.one e3
    match g, h1 with
    | [r], _ =>
      have hr := h.fit r (by simp)
      obtain ⟨f1, f2, f3, f4⟩ := fits_facts hc hr
      have he : enc d [r] = r := by unfold enc; rw [e2]; simp [body, item, e2]
      simp only [Bool.false_eq_true, if_false]
      rw [he]
      obtain ⟨k, hk⟩ : ∃ m, r.length = m + 1 := ⟨r.length - 1, by omega⟩
      have hN : cutN d r = r.length := by unfold cutN; rw [e4, e2]; rfl
      have hB : cutB d r = r := by unfold cutB; rw [e2]; rfl
      rw [hk, splitGo, if_neg (fun e => by rw [e] at hk; simp at hk), hN, hB, if_neg (by rintro (h | h | h); omega; omega; rw [hr] at h; cases h), Int.toNat_natCast, List.take_length, List.drop_length, splitGo_nil]

theorem unbGo_enc {d : Dcb} (hc : checkM d = 0) : ∀ (gs : List (List (List UInt8))) (O : List (List UInt8)), (∀ g ∈ gs, GroupOk d g) → unbGo d (gs.map (enc d)) O = some (O ++ gs.flatten)
  | [], O, _ => by simp [unbGo]
  | g :: gs, O, h => by
    have hg := h g (by simp)
    have hne : g.length ≠ 0 := fun e => hg.ne (List.eq_nil_of_length_eq_zero e)
    rw [List.map_cons, unbGo, split_enc hc hg]
    have hst : unbStep d O.length (O ++ g, true) = false := by
      unfold unbStep
      have e1 : ((O ++ g).length == O.length) = false := by rw [List.length_append]; exact beq_false_of_ne (by omega)
      rw [e1]
      cases hb : d.blk with
      | true => rfl
      | false =>
        have := hg.one hb
        simp
        omega
    rw [hst]
    simp only [Bool.false_eq_true, if_false]
    rw [unbGo_enc hc gs (O ++ g) fun x hx => h x (by simp [hx])]
    simp
theorem unbM_enc {d : Dcb} (hc : checkM d = 0) {gs : List (List (List UInt8))} (h : ∀ g ∈ gs, GroupOk d g) (hl : gs.flatten.length ≤ 4096) : unbM d (gs.map (enc d)) = (gs.flatten, 0) := by
  unfold unbM
  rw [if_pos hc, unbGo_enc hc gs [] h]
  simp only [List.nil_append, finU]
  rw [if_neg (by omega)]

theorem returns {d : Dcb} {l bs : List (List UInt8)} (h : blockM d l = (bs, 0)) : unbM d bs = (l, 0) := by
  obtain ⟨hc, hl, gs, rfl, rfl, hg, _⟩ := blockM_groups h
  exact unbM_enc hc hg hl
end Go.AM
