/- SeqLays: the law's walk. -/
import Derived.Test.YtknlmgnfflfpeaaC23O
namespace Go.AM
open Go.RowKit Go.Proofs
set_option linter.unusedSimpArgs false
set_option linter.unusedVariables false
set_option maxHeartbeats 1000000

theorem few_small (l : List (List UInt8)) : (fewM l).length ≤ 150 ∧ ∀ r ∈ fewM l, r.length ≤ 1100 := by
  refine ⟨by simp [fewM]; omega, fun r hr => ?_⟩
  obtain ⟨b, _, rfl⟩ := List.mem_map.1 hr
  simp [cutB1]; omega
theorem foldl_place_len (l : List (List UInt8)) : ∀ p : List (List Rec) × List Rec, (l.foldl placeM p).1.length ≤ p.1.length + l.length ∧ (l.foldl placeM p).2.length ≤ p.2.length + l.length := by
  induction l with
  | nil => intro p; simp
  | cons b l ih =>
    intro p
    have h1 := ih (placeM p b)
    have h2 := place_len p b
    simp only [List.foldl_cons, List.length_cons]
    omega

def tksOk (a : List (List Rec)) : Prop := a.length ≤ 100000 ∧ ∀ t ∈ a, t.length ≤ 100000 ∧ ∀ r ∈ t, recSm r
theorem place_ok {n : Nat} {p : List (List Rec) × List Rec} {b : List UInt8} (hb : b.length ≤ 1000000000) (h : p.1.length ≤ n ∧ p.2.length ≤ n ∧ (∀ r ∈ p.2, recSm r) ∧ ∀ t ∈ p.1, t.length ≤ n ∧ ∀ r ∈ t, recSm r) :
    (placeM p b).1.length ≤ n + 1 ∧ (placeM p b).2.length ≤ n + 1 ∧ (∀ r ∈ (placeM p b).2, recSm r) ∧ ∀ t ∈ (placeM p b).1, t.length ≤ n + 1 ∧ ∀ r ∈ t, recSm r := by
  obtain ⟨h1, h2, h3, h4⟩ := h
  have hl := place_len p b
  refine ⟨by omega, by omega, place_sm h3 hb, fun t ht => ?_⟩
  unfold placeM at ht
  split at ht
  · exact ⟨by have := (h4 t ht).1; omega, (h4 t ht).2⟩
  · rcases List.mem_append.1 ht with h | h
    · exact ⟨by have := (h4 t h).1; omega, (h4 t h).2⟩
    · rw [List.mem_singleton.1 h]
      exact ⟨by omega, h3⟩
theorem fold_ok : ∀ (l : List (List UInt8)) (n : Nat) (p : List (List Rec) × List Rec), (∀ b ∈ l, b.length ≤ 1000000000) → (p.1.length ≤ n ∧ p.2.length ≤ n ∧ (∀ r ∈ p.2, recSm r) ∧ ∀ t ∈ p.1, t.length ≤ n ∧ ∀ r ∈ t, recSm r) →
    ((l.foldl placeM p).1.length ≤ n + l.length ∧ (l.foldl placeM p).2.length ≤ n + l.length ∧ (∀ r ∈ (l.foldl placeM p).2, recSm r) ∧ ∀ t ∈ (l.foldl placeM p).1, t.length ≤ n + l.length ∧ ∀ r ∈ t, recSm r)
  | [], n, p, _, h => by simpa using h
  | b :: l, n, p, hb, h => by
    have h1 := place_ok (hb b List.mem_cons_self) h
    have h2 := fold_ok l (n + 1) (placeM p b) (fun x hx => hb x (List.mem_cons_of_mem _ hx)) h1
    simp only [List.foldl_cons, List.length_cons]
    obtain ⟨k1, k2, k3, k4⟩ := h2
    exact ⟨by omega, by omega, k3, fun t ht => ⟨by have := (k4 t ht).1; omega, (k4 t ht).2⟩⟩
theorem lay_ok {l : List (List UInt8)} (hl : l.length ≤ 50000) (hb : ∀ b ∈ l, b.length ≤ 1000000000) : tksOk (layM l) := by
  have h := fold_ok (l ++ [[]]) 0 ([], []) (fun b hb' => by
    rcases List.mem_append.1 hb' with h | h
    · exact hb b h
    · rw [List.mem_singleton.1 h]; simp) (by simp)
  obtain ⟨k1, k2, k3, k4⟩ := h
  simp at k1 k2
  unfold layM tksOk
  dsimp only
  refine ⟨by simp; omega, fun t ht => ?_⟩
  rcases List.mem_append.1 ht with h | h
  · have := k4 t h
    simp only [List.length_append, List.length_singleton] at this
    exact ⟨by omega, this.2⟩
  · rw [List.mem_singleton.1 h]
    exact ⟨by simp; omega, by simpa using k3⟩
theorem tracks_ok (d : Dcb) (l : List (List UInt8)) : tksOk (tracksM d l).1 := by
  rcases hbm : blockM d l with ⟨bs, e⟩
  have hT : tracksM d l = if e = 0 then (layM bs, 0) else ([], e) := by unfold tracksM; rw [hbm]
  rw [hT]
  split
  · rename_i z
    subst z
    obtain ⟨h1, h2⟩ := block_small hbm
    exact lay_ok (by omega) fun b hb => by have := (h2 b hb).2; omega
  · exact ⟨by simp, by simp⟩

theorem lays_sound (d : Dcb) (l : List (List UInt8)) (hl : l.length ≤ 9223372036854775807) : Sound Try.prog 3 [dcbA d, .lst .any 1 (bbL l)] (.v (.bool true)) := by
  refine sound_of_W Try.func3 rfl (by decide +kernel) (by simp [Try.f3]) rfl rfl (rs := [.tmp 4]) rfl ?_
  rw [show Try.f3.ntmps = 53 from rfl]
  obtain ⟨f1, f2⟩ := few_small l
  obtain ⟨L, hL⟩ : ∃ L, fewM l = L := ⟨_, rfl⟩
  have hfew := few_sound l hl
  rw [hL] at hfew f1 f2
  have hr : ∀ r ∈ L, r.length ≤ 1000000000 := fun r hr => by have := f2 r hr; omega
  have ht := tracks_sound d L (by omega) hr
  have hn := need_sound d L (by omega) hr
  have hrt := rtracks_sound d L (by omega) hr
  have htk := tracks_ok d L
  rcases hq : tracksM d L with ⟨a, e⟩
  rw [hq] at ht hn hrt htk
  have hs := sameTs_sound a a (by have := htk.1; simp only at this; omega) (fun t ht => by have := (htk.2 t ht).1; omega)
  rw [decide_eq_true rfl] at hs
  refine W_evK [1, 2] (by simp; rfl) ?_
  refine W_rK [1, 2] ?_
  refine runA_pre 1 (by simp; rfl) rfl ?_
  refine runA_call (by simp) (by first | (simp; done) | (simp; rfl)) hfew (by simp; rfl) ?_
  refine runA_fin (by simp; rfl) ?_
  refine W_rK [1, 2, 5, 6] ?_
  refine runA_pre 2 (by simp; rfl) rfl ?_
  refine runA_call (by simp) (by first | (simp; done) | (simp; rfl)) ht (by simp [resT]; rfl) ?_
  refine runA_fin (by simp [resT]; rfl) ?_
  refine W_rK [1, 2, 5, 6, 7, 8] ?_
  refine runA_pre 2 (by simp; rfl) rfl ?_
  refine runA_call (by simp) (by first | (simp; done) | (simp; rfl)) hn (by simp; rfl) ?_
  refine runA_fin (by simp; rfl) ?_
  refine W_rK [5, 6, 7, 8, 9, 10] ?_
  refine runA_pre 2 (by simp; rfl) rfl ?_
  refine runA_call (by simp) (by first | (simp; done) | (simp; rfl)) hrt (by simp [resT]; rfl) ?_
  refine runA_fin (by simp [resT]; rfl) ?_
  refine W_rK [4] ?_
  refine runA_pre 2 (by simp; rfl) rfl ?_
  refine runA_call (by simp) (by first | (simp; done) | (simp; rfl)) hs (by simp; rfl) ?_
  refine runA_pre 6 (by simp; rfl) rfl ?_
  refine runA_pre 6 (by simp; rfl) rfl ?_
  refine runA_pre 5 (by simp; rfl) rfl ?_
  refine runA_call (by simp) (by first | (simp; done) | (simp; rfl)) works_sound (by simp; rfl) ?_
  refine runA_fin (by simp; rfl) ?_
  refine W_ret ?_
  repeat (first | refine on_ret ?_ | refine in_ret ?_)
  simp [retQ]
end Go.AM
