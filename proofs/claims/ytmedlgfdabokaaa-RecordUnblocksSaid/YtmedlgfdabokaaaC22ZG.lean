/- Spoil: the rows of what was handed back are written. -/
import Derived.Test.YtmedlgfdabokaaaC22ZF
import Derived.Test.YtmedlgfdabokaaaAmC
namespace Go.AM
open Go.RowKit Go.Proofs
set_option linter.unusedSimpArgs false
set_option linter.unusedVariables false
set_option maxHeartbeats 2000000

def spO (h : List AObj) (q : Nat) (cs : List AV) (n : Nat) : Prop := h[q]? = some (.cells 35 cs) ∧ n ≤ cs.length ∧
  ∀ k, k < n → ∃ (j len cap : Nat) (bs : List AV), cs[k]? = some (.arr j 0 len cap) ∧ h[j]? = some (.cells 5 bs) ∧ len ≤ bs.length ∧ len ≤ 9223372036854775806 ∧ ∀ i, i < len → ∃ v : Int, bs[i]? = some (.v (.int .u8 v))
theorem spO_set {h : List AObj} {q n j len i : Nat} {cs bs : List AV} {v : Int} (hs : spO h q cs n) (hj : h[j]? = some (.cells 5 bs)) (hi : i + 1 ≤ bs.length) : spO (h.set j (.cells 5 (setSeg bs i [.v (.int .u8 v)]))) q cs n := by
  obtain ⟨h1, h2, h3⟩ := hs
  have hqj : j ≠ q := by rintro rfl; rw [h1] at hj; cases hj
  refine ⟨by rw [List.getElem?_set_ne hqj]; exact h1, h2, fun k hk => ?_⟩
  obtain ⟨j2, len2, cap2, bs2, k1, k2, k3, k5, k4⟩ := h3 k hk
  by_cases e : j = j2
  · subst e
    rw [hj] at k2
    cases k2
    refine ⟨j, len2, cap2, _, k1, List.getElem?_set_self (List.getElem?_eq_some_iff.1 hj).1, by rw [setSeg_length _ _ _ (by simpa using hi)]; exact k3, k5, fun i2 hi2 => ?_⟩
    rw [setSeg_get _ _ _ (by simpa using hi)]
    split
    · rename_i hh
      simp at hh
      have : i2 = i := by omega
      subst this
      exact ⟨v, by simp⟩
    · exact k4 i2 hi2
  · exact ⟨j2, len2, cap2, bs2, k1, by rw [List.getElem?_set_ne e]; exact k2, k3, k5, k4⟩

theorem spoil_callW (h : List AObj) (q n cap : Nat) (cs : List AV) (hs : spO h q cs n) (hn : n ≤ 9223372036854775806) : CallW Try.prog 15 [.arr q 0 n cap] h fun r _ => r = .tup [] := by
  refine callW_of_F Try.func15 rfl (by decide +kernel) (by simp [Try.f15]) (rs := []) rfl ?_
  rw [show Try.f15.ntmps = 28 from rfl]
  refine W_evK [0, 2] (by simp; rfl) ?_
  refine W_block ?_
  refine W_loop (fun k s => ∃ (i : Nat) (H : List AObj), k = n - i ∧ i ≤ n ∧ spO H q cs n ∧ s = ⟨28, [(0, .arr q 0 n cap), (2, .v (.int .i64 i))], H⟩) (k := n) ⟨0, h, by simp, by omega, hs, by simp⟩ ?_
  rintro k s ⟨i, H, rfl, hi, hsp, rfl⟩
  refine W_seq ?_
  by_cases c : i < n
  rotate_left
  · refine W_evK [0, 2, 7] (by simp [c]; rfl) ?_
    refine W_cond rfl (fun h => by simp at h) (fun h => ?_)
    refine W_exit ?_
    exact ⟨.inl rfl, .tup [], rfl, rfl⟩
  have ci : (i : Int) < n := by omega
  have wi := w64 (n := (i : Int) + 1) (by omega) (by omega)
  refine W_evK [0, 2, 7] (by simp [c]; rfl) ?_
  refine W_cond rfl (fun h => ?_) (fun h => by simp at h)
  refine W_skip ?_
  refine W_seq ?_
  refine W_block ?_
  refine W_evK [0, 2, 3] (by simp; rfl) ?_
  refine W_block ?_
  obtain ⟨j, len, cap2, bs0, r1, r2, r3, r5, r4⟩ := hsp.2.2 i c
  have hcl : i + 1 ≤ cs.length := by have := hsp.2.1; omega
  refine W_loop (fun k s => ∃ (m : Nat) (H : List AObj) (bs : List AV), k = len - m ∧ m ≤ len ∧ spO H q cs n ∧ H[j]? = some (.cells 5 bs) ∧ len ≤ bs.length ∧ (∀ i, i < len → ∃ v : Int, bs[i]? = some (.v (.int .u8 v))) ∧
    s = ⟨28, [(0, .arr q 0 n cap), (2, .v (.int .i64 i)), (3, .v (.int .i64 m))], H⟩) (k := len) ⟨0, H, bs0, by simp, by omega, hsp, r2, r3, r4, by simp⟩ ?_
  clear hsp r2 r3 r4
  rintro k s ⟨m, H, bs, rfl, hm, hsp, r2, r3, r4, rfl⟩
  have r0 := hsp.1
  refine W_seq ?_
  by_cases c2 : m < len
  rotate_left
  · refine W_evK [0, 2, 3, 16] (by simp [c, ci, c2, r0, r1, hcl]; rfl) ?_
    refine W_cond rfl (fun h => by simp at h) (fun h => ?_)
    refine W_exit ?_
    refine W_evE [0, 2] (by simp [wi]; rfl) ?_
    exact ⟨_, by omega, i + 1, H, rfl, by omega, hsp, by simp⟩
  have cm : (m : Int) < len := by omega
  have wm := w64 (n := (m : Int) + 1) (by omega) (by omega)
  obtain ⟨v, hv⟩ := r4 m c2
  have hml : m + 1 ≤ bs.length := by omega
  refine W_evK [0, 2, 3, 16] (by simp [c, ci, c2, r0, r1, hcl]; rfl) ?_
  refine W_cond rfl (fun h => ?_) (fun h => by simp at h)
  refine W_skip ?_
  refine W_seq ?_
  refine W_block ?_
  refine W_evE [0, 2, 3] (by simp [c, ci, c2, cm, r0, r1, r2, hcl, hml, hv]; rfl) ?_
  refine W_evE [0, 2, 3] (by simp [wm]; rfl) ?_
  have hsp2 := spO_set (len := len) (v := IntKind.u8.wrap (v + 1)) hsp r2 hml
  refine ⟨_, by omega, m + 1, _, _, rfl, by omega, hsp2, List.getElem?_set_self (List.getElem?_eq_some_iff.1 r2).1, by rw [setSeg_length _ _ _ (by simpa using hml)]; exact r3, fun i2 hi2 => ?_, by simp⟩
  rw [setSeg_get _ _ _ (by simpa using hml)]
  split
  · rename_i hh
    simp at hh
    have : i2 = m := by omega
    subst this
    exact ⟨_, by simp; rfl⟩
  · exact r4 i2 hi2
theorem spoil_nil (h : List AObj) : CallW Try.prog 15 [.lst .nil 1 []] h fun r _ => r = .tup [] := by
  refine callW_of_F Try.func15 rfl (by decide +kernel) (by simp [Try.f15]) (rs := []) rfl ?_
  rw [show Try.f15.ntmps = 28 from rfl]
  refine W_evK [0, 2] (by simp; rfl) ?_
  refine W_block ?_
  refine W_loop (fun k s => k = 0 ∧ s = ⟨28, [(0, .lst .nil 1 []), (2, .v (.int .i64 0))], h⟩) (k := 0) ⟨rfl, by simp⟩ ?_
  rintro k s ⟨rfl, rfl⟩
  refine W_seq ?_
  refine W_evK [0, 2, 7] (by simp; rfl) ?_
  refine W_cond rfl (fun h => by simp at h) (fun h => ?_)
  refine W_exit ?_
  exact ⟨.inl rfl, .tup [], rfl, rfl⟩

theorem ownR_spO {h : List AObj} {q : Nat} {cs : List AV} {O : List (List UInt8)} (hO : ∀ B ∈ O, B.length ≤ 9223372036854775806) (hq : h[q]? = some (.cells 35 cs)) (hl : O.length ≤ cs.length)
    (hr : ∀ (k : Nat) (B : List UInt8), O[k]? = some B → ∃ (j cap : Nat) (Bf : List UInt8), cs[k]? = some (.arr j 0 B.length cap) ∧ h[j]? = some (.cells 5 (byL Bf)) ∧ Bf.take B.length = B) : spO h q cs O.length := by
  refine ⟨hq, hl, fun k hk => ?_⟩
  obtain ⟨B, hB⟩ : ∃ B, O[k]? = some B := ⟨_, List.getElem?_eq_getElem hk⟩
  obtain ⟨j, cap, Bf, k1, k2, k3⟩ := hr k B hB
  have hle : B.length ≤ Bf.length := by rw [← k3, List.length_take]; omega
  refine ⟨j, B.length, cap, byL Bf, k1, k2, by simpa using hle, hO B (List.mem_of_getElem? hB), fun i hi => ?_⟩
  have hib : i < Bf.length := by omega
  exact ⟨Bf[i].toNat, by simp [byL, hib]⟩
theorem ownR_view {h : List AObj} {q cap : Nat} {cs : List AV} {O : List (List UInt8)} (hq : h[q]? = some (.cells 35 cs)) (hl : O.length ≤ cs.length)
    (hr : ∀ (k : Nat) (B : List UInt8), O[k]? = some B → ∃ (j cap : Nat) (Bf : List UInt8), cs[k]? = some (.arr j 0 B.length cap) ∧ h[j]? = some (.cells 5 (byL Bf)) ∧ Bf.take B.length = B) :
    VwN Try.prog h (.arr q 0 O.length cap) (.lst .any 1 (bbL O)) := by
  refine .inr ⟨q, O.length, cap, 35, cs, bbL O, rfl, hq, hl, by simp, by simp, by simp, fun k y hy => ?_, rfl⟩
  have hk : k < O.length := by
    have := (List.getElem?_eq_some_iff.1 hy).1
    simpa using this
  obtain ⟨B, hB⟩ : ∃ B, O[k]? = some B := ⟨_, List.getElem?_eq_getElem hk⟩
  obtain ⟨j, cap2, Bf, k1, k2, k3⟩ := hr k B hB
  have hle : B.length ≤ Bf.length := by rw [← k3, List.length_take]; omega
  have hyB : y = .lst .any 1 (byL B) := by
    have : (bbL O)[k]? = some (.lst .any 1 (byL B)) := by simp [bbL, hB]
    rw [this] at hy
    exact (Option.some.inj hy).symm
  subst hyB
  refine ⟨_, k1, .inr ⟨j, 0, B.length, cap2, 5, byL Bf, false, 1, rfl, k2, by simp, by decide, .inr rfl, by simpa using hle, ?_, ?_, ?_⟩⟩
  · rw [← byL_take]; simp
  · rw [← byL_take]; simp
  · simp only [Nat.zero_add, Nat.mul_one, List.drop_zero]
    rw [← byL_take, k3, weakL_byL, chunk_byL _ _ (Nat.le_refl _), List.take_length]
end Go.AM
