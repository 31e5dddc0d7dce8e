/- RecordUnblocks: the law's walk. -/
import Derived.Test.YtmedlgfdabokaaaC22ZK
import Derived.Test.YtmedlgfdabokaaaC22ZG
import Derived.Test.YtmedlgfdabokaaaC22O
import Derived.Test.YtmedlgfdabokaaaC22U
namespace Go.AM
open Go.RowKit Go.Proofs
set_option linter.unusedSimpArgs false
set_option linter.unusedVariables false
set_option maxHeartbeats 2000000

theorem unb_len (d : Dcb) (l : List (List UInt8)) : (unbM d l).1.length ≤ 4096 := by
  unfold unbM
  split
  · unfold finU
    split
    · simp
    · split
      · simp
      · simp only; omega
  · simp
theorem recsN_spO {h : List AObj} {q : Nat} {cs : List AV} {O : List (List UInt8)} (hq : h[q]? = some (.cells 35 cs)) (hl : O.length ≤ cs.length)
    (hr : ∀ (k : Nat) (B : List UInt8), O[k]? = some B → ∃ c, cs[k]? = some c ∧ rowS h c B) : spO h q cs O.length := by
  refine ⟨hq, hl, fun k hk => ?_⟩
  obtain ⟨B, hB⟩ : ∃ B, O[k]? = some B := ⟨_, List.getElem?_eq_getElem hk⟩
  obtain ⟨c, k0, j, cap, bs, rfl, k2, k3, k4⟩ := hr k B hB
  have hle : B.length ≤ bs.length := by
    have := congrArg List.length k3
    rw [List.length_take, byL_length] at this
    omega
  refine ⟨j, B.length, cap, bs, k0, k2, hle, by omega, fun i hi => ⟨B[i].toNat, ?_⟩⟩
  have : (bs.take B.length)[i]? = (byL B)[i]? := by rw [k3]
  rw [List.getElem?_take, if_pos hi] at this
  rw [this]
  simp [byL, hi]
theorem recsN_view {h : List AObj} {q cap : Nat} {cs : List AV} {O : List (List UInt8)} (hq : h[q]? = some (.cells 35 cs)) (hl : O.length ≤ cs.length)
    (hr : ∀ (k : Nat) (B : List UInt8), O[k]? = some B → ∃ c, cs[k]? = some c ∧ rowS h c B) : VwN Try.prog h (.arr q 0 O.length cap) (.lst .any 1 (bbL O)) := by
  refine .inr ⟨q, O.length, cap, 35, cs, bbL O, rfl, hq, hl, by simp, by simp, by simp, fun k y hy => ?_, rfl⟩
  have hk : k < O.length := by
    have := (List.getElem?_eq_some_iff.1 hy).1
    simpa using this
  obtain ⟨B, hB⟩ : ∃ B, O[k]? = some B := ⟨_, List.getElem?_eq_getElem hk⟩
  obtain ⟨c, k0, j, cap2, bs, rfl, k2, k3, k4⟩ := hr k B hB
  have hle : B.length ≤ bs.length := by
    have := congrArg List.length k3
    rw [List.length_take, byL_length] at this
    omega
  have hyB : y = .lst .any 1 (byL B) := by
    have : (bbL O)[k]? = some (.lst .any 1 (byL B)) := by simp [bbL, hB]
    rw [this] at hy
    exact (Option.some.inj hy).symm
  subst hyB
  refine ⟨_, k0, .inr ⟨j, 0, B.length, cap2, 5, bs, false, 1, rfl, k2, by simp, by decide, .inr rfl, by simpa using hle, ?_, ?_, ?_⟩⟩
  · rw [Nat.zero_add, Nat.mul_one, k3]; simp
  · rw [Nat.zero_add, Nat.mul_one, k3]; simp
  · simp only [Nat.zero_add, Nat.mul_one, List.drop_zero]
    rw [k3, weakL_byL, chunk_byL _ _ (Nat.le_refl _), List.take_length]

theorem recordUnblocks_sound (d : Dcb) (l : List (List UInt8)) : Sound Try.prog 4 [dcbA d, .lst .any 1 (bbL l)] (.v (.bool true)) := by
  refine sound_of_W Try.func4 rfl (by decide +kernel) (by simp [Try.f4]) rfl rfl (rs := [.tmp 4]) rfl ?_
  rw [show Try.f4.ntmps = 43 from rfl]
  refine W_evK [1, 2] (by simp; rfl) ?_
  refine W_seq ?_
  refine W_rK [1, 2, 11] ?_
  refine runA_pre 1 (by simp; rfl) rfl ?_
  refine runA_call (by simp) (by first | (simp; done) | (simp; rfl)) (big_sound l) (by simp; rfl) ?_
  rcases Bool.eq_false_or_eq_true (bigL l) with hb | hb
  · refine runA_fin (by simp [hb]; rfl) ?_
    refine W_cond rfl (fun h => ?_) (fun h => by simp at h)
    refine W_evK [4] (by simp; rfl) ?_
    refine W_ret ?_
    repeat (first | refine on_ret ?_ | refine in_ret ?_)
    simp [retQ]
  obtain ⟨hl1, hl2⟩ := bigL_no hb
  refine runA_fin (by simp [hb]; rfl) ?_
  refine W_cond rfl (fun h => by simp at h) (fun h => ?_)
  refine W_skip ?_
  have hl1' : l.length ≤ 60 := by omega
  have hl2' : ∀ r ∈ l, r.length ≤ 1000000000 := fun r hr => by have := hl2 r hr; omega
  have hcp : Sound Try.prog 11 [.lst .any 1 (bbL l)] (.lst .any 1 (bbL l)) := by
    have := (copy_tip l (by omega) (fun r hr => by have := hl2 r hr; omega)).weakR
    simpa using this
  refine W_rK [1, 2, 5] ?_
  refine runA_pre 1 (by simp; rfl) rfl ?_
  refine runA_call (by simp) (by first | (simp; done) | (simp; rfl)) hcp (by simp; rfl) ?_
  refine runA_fin (by simp; rfl) ?_
  have hbk := unb_callN d l (by omega) hl2'
  have hrb := runb_sound d l (by omega) hl2'
  obtain ⟨p, hp⟩ : ∃ p, unbM d l = p := ⟨_, rfl⟩
  rw [hp] at hbk hrb
  have n1 := unb_len d l
  rw [hp] at n1
  obtain ⟨bs, e⟩ := p
  simp only at n1
  simp only [resB] at hrb
  have hsm : Sound Try.prog 14 [.lst .any 1 (bbL bs), .lst .any 1 (bbL bs)] (.v (.bool true)) := by
    have := same_sound bs bs (by omega)
    simpa using this
  have hsl : Sound Try.prog 14 [.lst .any 1 (bbL l), .lst .any 1 (bbL l)] (.v (.bool true)) := by
    have := same_sound l l (by omega)
    simpa using this
  refine W_rK [1, 2, 5, 6, 7] ?_
  refine runA_pre 2 (by simp; rfl) rfl ?_
  refine runA_obj (f := 17) (args := [dcbA d, .lst .any 1 (bbL l)]) (by simp) (by first | (simp; done) | (simp; exact ⟨rfl, rfl⟩)) (hbk.mono ?_)
  rintro r h' ⟨x, F, rfl, hh0, hown⟩
  simp only at hown
  rcases hown with ⟨rfl, rfl⟩ | ⟨hO0, q, cs, hqF, rfl, hq, hcl, hcm, hrow⟩
  · refine ⟨_, by simp; rfl, ?_⟩
    refine runA_fin (by simp; rfl) ?_
    refine W_rK [1, 5, 6, 7, 8, 9] ?_
    refine runA_pre 2 (by simp [hh0, dcbC]; rfl) rfl ?_
    refine runA_call (by simp) (by first | (simp; done) | (simp; rfl)) hrb (by simp; rfl) ?_
    refine runA_fin (by simp; rfl) ?_
    refine W_seq ?_
    refine W_rK [1, 5, 6, 34] ?_
    refine runA_pre 6 (by simp; rfl) rfl ?_
    refine runA_call (by simp) (by first | (simp; done) | (simp; rfl)) hsm (by simp; rfl) ?_
    refine runA_fin (by simp; rfl) ?_
    refine W_cond rfl (fun h => by simp at h) (fun h => ?_)
    refine W_skip ?_
    refine W_rK [1, 5] ?_
    refine runA_pre 1 (by simp; rfl) rfl ?_
    refine runA_obj (f := 15) (args := [.lst .nil 1 []]) (by simp) (by first | (simp; done) | (simp; exact ⟨rfl, rfl⟩)) ((spoil_nil _).mono ?_)
    rintro r h' rfl
    refine ⟨_, by simp; rfl, ?_⟩
    refine runA_fin (by simp; rfl) ?_
    refine W_rK [4] ?_
    refine runA_pre 2 (by simp; rfl) rfl ?_
    refine runA_call (by simp) (by first | (simp; done) | (simp; rfl)) hsl (by simp; rfl) ?_
    refine runA_pre 1 (by simp; rfl) rfl ?_
    refine runA_call (by simp) (by first | (simp; done) | (simp; rfl)) works_sound (by simp; rfl) ?_
    refine runA_fin (by simp; rfl) ?_
    refine W_ret ?_
    repeat (first | refine on_ret ?_ | refine in_ret ?_)
    simp [retQ]
  · refine ⟨_, by simp; rfl, ?_⟩
    refine runA_fin (by simp; rfl) ?_
    refine W_rK [1, 5, 6, 7, 8, 9] ?_
    refine runA_pre 2 (by simp [hh0, dcbC]; rfl) rfl ?_
    refine runA_call (by simp) (by first | (simp; done) | (simp; rfl)) hrb (by simp; rfl) ?_
    refine runA_fin (by simp; rfl) ?_
    refine W_seq ?_
    refine W_rK [1, 5, 6, 34] ?_
    refine runA_pre 6 (by simp; rfl) rfl ?_
    refine runA_obj (f := 14) (args := [.arr q 0 bs.length cs.length, .lst (.tip 35 47) 1 (bbL bs)]) (by simp) (by first | (simp; done) | (simp; exact ⟨rfl, rfl⟩)) (callW_lendN (args1 := [.lst .any 1 (bbL bs), .lst .any 1 (bbL bs)]) (v := .bool true) (by simpa using hsm) rfl (fun i x1 hi => ?_) ?_)
    · match i, hi with
      | 0, hi => simp at hi; subst hi; exact ⟨_, rfl, recsN_view hq hcl hrow⟩
      | 1, hi => simp at hi; subst hi; exact ⟨_, rfl, .inl (.inl (by simp))⟩
      | i + 2, hi => simp at hi
    refine ⟨_, by simp; rfl, ?_⟩
    refine runA_fin (by simp; rfl) ?_
    refine W_cond rfl (fun h => by simp at h) (fun h => ?_)
    refine W_skip ?_
    refine W_rK [1, 5] ?_
    refine runA_pre 1 (by simp; rfl) rfl ?_
    refine runA_obj (f := 15) (args := [.arr q 0 bs.length cs.length]) (by simp) (by first | (simp; done) | (simp; exact ⟨rfl, rfl⟩)) ((spoil_callW _ q bs.length cs.length cs (recsN_spO hq hcl hrow) (by omega)).mono ?_)
    rintro r h' rfl
    refine ⟨_, by simp; rfl, ?_⟩
    refine runA_fin (by simp; rfl) ?_
    refine W_rK [4] ?_
    refine runA_pre 2 (by simp; rfl) rfl ?_
    refine runA_call (by simp) (by first | (simp; done) | (simp; rfl)) hsl (by simp; rfl) ?_
    refine runA_pre 1 (by simp; rfl) rfl ?_
    refine runA_call (by simp) (by first | (simp; done) | (simp; rfl)) works_sound (by simp; rfl) ?_
    refine runA_fin (by simp; rfl) ?_
    refine W_ret ?_
    repeat (first | refine on_ret ?_ | refine in_ret ?_)
    simp [retQ]
end Go.AM
