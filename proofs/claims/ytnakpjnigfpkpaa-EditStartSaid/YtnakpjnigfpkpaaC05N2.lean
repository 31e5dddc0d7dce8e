/- Number: zeros, code, packed. -/
import Derived.Test.YtnakpjnigfpkpaaC05N1
namespace Go.AM
open Go.RowKit Go.Proofs
set_option linter.unusedSimpArgs false
set_option linter.unusedVariables false
set_option maxHeartbeats 1000000

def zerM : List Int → Nat
  | [] => 0
  | d :: l => if d = 0 then zerM l + 1 else 0
theorem zerM_le : ∀ l, zerM l ≤ l.length
  | [] => by simp [zerM]
  | d :: l => by have := zerM_le l; simp only [zerM, List.length_cons]; split <;> omega
theorem zerM_zero : ∀ (l : List Int) (i : Nat) (d : Int), i < zerM l → l[i]? = some d → d = 0
  | [], i, d, h, _ => by simp [zerM] at h
  | e :: l, i, d, h, hd => by
    simp only [zerM] at h
    split at h
    · rename_i he
      cases i with
      | zero => simp at hd; omega
      | succ i => exact zerM_zero l i d (by omega) (by simpa using hd)
    · omega
theorem zerM_next : ∀ (l : List Int) (d : Int), l[zerM l]? = some d → d ≠ 0
  | [], d, h => by simp at h
  | e :: l, d, h => by
    simp only [zerM] at h
    split at h
    · exact zerM_next l d (by simpa using h)
    · rename_i he; simp at h; omega
theorem digM_range (ds : List UInt8) : ∀ d ∈ digM ds, 0 ≤ d ∧ d ≤ 9 := by
  have hp : ∀ d ∈ digP ds, 0 ≤ d ∧ d ≤ 9 := by
    intro d hd
    simp only [digP, List.mem_map] at hd
    obtain ⟨b, _, rfl⟩ := hd
    omega
  intro d hd
  unfold digM at hd
  split at hd
  · rcases List.mem_append.1 hd with h | h
    · exact hp d h
    · simp at h; omega
  · exact hp d hd
theorem digM_odd (ds : List UInt8) : (digM ds).length % 2 = 1 := by
  unfold digM
  split
  · rw [List.length_append, List.length_singleton]; omega
  · omega

theorem zeros_sound (ds : List UInt8) (neg : Bool) (tl : List UInt8) : Sound Try.prog 20 [numA ds neg tl] (.v (.int .i64 (zerM (digM ds)))) := by
  refine sound_of_W Try.func20 rfl (by decide +kernel) (by simp [Try.f20]) rfl rfl (rs := [.tmp 2]) rfl ?_
  rw [show Try.f20.ntmps = 21 from rfl]
  refine W_evK [1] (by simp; rfl) ?_
  refine W_rK [3] ?_
  refine runA_pre 1 (by simp; rfl) rfl ?_
  refine runA_call (by simp) (by simp; rfl) (digits_sound ds neg tl) (by simp; rfl) ?_
  refine runA_fin (by simp; rfl) ?_
  have hz := zerM_le (digM ds)
  have hlen := digM_len ds
  refine W_evK [3, 4] (by simp; rfl) ?_
  refine W_seq ?_
  refine W_block ?_
  refine W_loop (fun k s => ∃ i : Nat, k = (digM ds).length - i ∧ i ≤ zerM (digM ds) ∧ s = ⟨21, [(3, .lst (.tip 3 13) 1 (inL (digM ds))), (4, .v (.int .i64 i))], [.cells 37 [.lst .any 1 (byL ds), .v (.bool neg), .lst .any 1 (byL tl)]]⟩) (k := (digM ds).length) ⟨0, rfl, by omega, by simp⟩ ?_
  rintro k s ⟨i, rfl, hi, rfl⟩
  refine W_seq ?_
  by_cases h1 : i < (digM ds).length
  · obtain ⟨d, hd⟩ : ∃ d, (digM ds)[i]? = some d := ⟨_, List.getElem?_eq_getElem h1⟩
    have hb : (inL (digM ds))[i]? = some (.v (.int .i64 d)) := by rw [inL_get, hd]; rfl
    have h1' : (i : Int) < (digM ds).length := by omega
    have hg : (digM ds)[i] = d := (List.getElem?_eq_some_iff.1 hd).2
    by_cases h2 : i < zerM (digM ds)
    · have := zerM_zero _ _ _ h2 hd
      subst this
      refine W_evK [3, 4, 17] (by simp [h1, h1', hb, hg]; rfl) ?_
      refine W_cond rfl (fun h => ?_) (fun h => by cases h)
      refine W_skip ?_
      refine W_block ?_
      refine W_evE [3, 4] (by simp; rfl) ?_
      exact ⟨_, by omega, i + 1, rfl, by omega, by simp (disch := first | omega | simp) [w64]⟩
    · have hiz : i = zerM (digM ds) := by omega
      have hne := zerM_next (digM ds) d (by rw [← hiz]; exact hd)
      have hne' : (d == 0) = false := by simpa using hne
      refine W_evK [3, 4, 17] (by simp [h1, h1', hb, hne, hne', hg]; rfl) ?_
      refine W_cond rfl (fun h => by cases h) (fun h => ?_)
      refine W_exit ?_
      refine W_evK [2] (by simp; rfl) ?_
      refine W_ret ?_
      rw [← hiz]
      simp [retQ]
  · have hiz : i = zerM (digM ds) := by omega
    have h1' : ¬ (i : Int) < (digM ds).length := by omega
    refine W_evK [3, 4, 17] (by simp [h1, h1']; rfl) ?_
    refine W_cond rfl (fun h => by cases h) (fun h => ?_)
    refine W_exit ?_
    refine W_evK [2] (by simp; rfl) ?_
    refine W_ret ?_
    rw [← hiz]
    simp [retQ]

def ncodeM (ds : List UInt8) (neg : Bool) : Nat := if zerM (digM ds) = (digM ds).length then 0 else if neg then 1 else 2
theorem ncode_sound (ds : List UInt8) (neg : Bool) (tl : List UInt8) : Sound Try.prog 19 [numA ds neg tl] (.v (.int .i64 (ncodeM ds neg))) := by
  refine sound_of_W Try.func19 rfl (by decide +kernel) (by simp [Try.f19]) rfl rfl (rs := [.tmp 2]) rfl ?_
  rw [show Try.f19.ntmps = 11 from rfl]
  refine W_evK [1] (by simp; rfl) ?_
  refine W_seq ?_
  have he : ((zerM (digM ds) : Int) == (digM ds).length) = decide (zerM (digM ds) = (digM ds).length) := by
    by_cases h : zerM (digM ds) = (digM ds).length <;> simp [h]; omega
  refine W_rdK [1, 8] mx (by decide +kernel) ?_
  refine runD_pre 1 (by simp; rfl) rfl ?_
  refine runD_call (by simp) (by first | (simp; done) | (simp; rfl)) (zeros_sound ds neg tl) (by simp; rfl) ?_
  refine runD_pre 1 (by simp; rfl) rfl ?_
  refine runD_call (by simp) (by first | (simp; done) | (simp; rfl)) (digits_sound ds neg tl) (by simp; rfl) ?_
  refine runD_fin (by simp [he]; rfl) ?_
  unfold ncodeM
  refine W_cond rfl (fun h => ?_) (fun h => ?_)
  · rw [if_pos (by simpa using h)]
    refine W_evK [2] (by simp; rfl) ?_
    refine W_ret ?_
    repeat (first | refine on_ret ?_ | refine in_ret ?_)
    simp [retQ, *]
  rw [if_neg (by simpa using h)]
  refine W_skip ?_
  refine W_seq ?_
  refine W_evK [1, 10] (by simp; rfl) ?_
  cases neg with
  | true =>
    refine W_cond rfl (fun h => ?_) (fun h => by cases h)
    refine W_evK [2] (by simp; rfl) ?_
    refine W_ret ?_
    repeat (first | refine on_ret ?_ | refine in_ret ?_)
    simp [retQ, *]
  | false =>
    refine W_cond rfl (fun h => by cases h) (fun h => ?_)
    refine W_skip ?_
    refine W_evK [2] (by simp; rfl) ?_
    refine W_ret ?_
    repeat (first | refine on_ret ?_ | refine in_ret ?_)
    simp [retQ, *]
end Go.AM
