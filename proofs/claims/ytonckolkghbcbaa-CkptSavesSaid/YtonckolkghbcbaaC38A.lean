/- slices.Grow out of nil, slices.Concat. -/
import Derived.Test.YtonckolkghbcbaaC38F
namespace Go.AM
open Go.RowKit Go.Proofs
set_option linter.unusedSimpArgs false
set_option linter.unusedVariables false
set_option maxHeartbeats 1000000

theorem u3 : Try.prog.underlying 3 = some (.int .i64) := by kernel_rfl

theorem grow_callW (n : Nat) (hn : n ≤ 100000000) : CallW Try.prog 35 [.lst .nil 1 [], .v (.int .i64 n)] [] fun r h' =>
    (n = 0 ∧ r = .lst .nil 1 [] ∧ h' = []) ∨ (0 < n ∧ ∃ cap, n ≤ cap ∧ cap ≤ maxLen ∧ r = .arr 0 0 0 cap ∧ h' = [.cells 5 (byL (List.replicate cap 0))]) := by
  refine callW_of_W Try.func35 rfl (by decide +kernel) (by simp [Try.f35]) (rs := [.tmp 4]) rfl ?_
  rw [show Try.f35.ntmps = 27 from rfl]
  have h0 : ¬ (n : Int) < 0 := by omega
  have hw0 : IntKind.i64.wrap (n : Int) = n := w64 (by omega) (by omega)
  have hw00 : IntKind.i64.wrap 0 = 0 := rfl
  refine W_evK [0, 1] (by simp; rfl) ?_
  refine W_seq ?_
  refine W_evK [0, 1, 6] (by simp [h0]; rfl) ?_
  refine W_cond rfl (fun h => by cases h) (fun h => ?_)
  refine W_skip ?_
  refine W_seq ?_
  refine W_evK [0, 1] (by simp [hw0, hw00]; rfl) ?_
  by_cases hp : 0 < n
  · refine W_evK [0, 1, 16] (by simp [hp]; rfl) ?_
    refine W_cond rfl (fun h => ?_) (fun h => by cases h)
    refine W_rE [0] ?_
    refine runA_pre 5 (by simp; rfl) rfl ?_
    refine runA_zeros (n := n) (by simp) rfl rfl rfl rfl (by simp; exact ⟨rfl, rfl⟩) (by simp; rfl) s32 u3 a5 z5 (by simp) hp (by omega) ?_
    intro cap h1 h2
    refine ⟨_, by simp; rfl, ?_⟩
    refine runA_fin (by simp; rfl) ?_
    refine W_evK [4] (by simp; rfl) ?_
    refine W_ret ?_
    refine retW_mk (by simp; rfl) (by simp) (by simp [repC_bytes]) ?_
    refine .inr ⟨hp, cap, h1, h2, ?_, ?_⟩
    · by_cases hc : cap = 0
      · omega
      · simp [hc]
    · simp [repC_bytes]
  · have : n = 0 := by omega
    subst this
    refine W_evK [0, 1, 16] (by simp; rfl) ?_
    refine W_cond rfl (fun h => by cases h) (fun h => ?_)
    refine W_skip ?_
    refine W_evK [4] (by simp; rfl) ?_
    refine W_ret ?_
    refine retW_mk (by simp; rfl) (by simp) (by simp) ?_
    exact .inl ⟨rfl, rfl, rfl⟩

theorem wrap00 : IntKind.i64.wrap 0 = 0 := rfl
def total (L : List (List UInt8)) : Nat := L.flatten.length
@[simp] theorem total_nil : total [] = 0 := rfl
theorem total_take {L : List (List UInt8)} {i : Nat} {b : List UInt8} (h : L[i]? = some b) : total (L.take (i + 1)) = total (L.take i) + b.length := by
  unfold total; rw [List.take_add_one, h]; simp
theorem flat_take {L : List (List UInt8)} {i : Nat} {b : List UInt8} (h : L[i]? = some b) : (L.take (i + 1)).flatten = (L.take i).flatten ++ b := by
  rw [List.take_add_one, h]; simp
theorem total_le (L : List (List UInt8)) (i : Nat) : total (L.take i) ≤ total L := by
  unfold total
  have : L.flatten = (L.take i).flatten ++ (L.drop i).flatten := by rw [← List.flatten_append, List.take_append_drop]
  rw [this, List.length_append]; omega

theorem concat_sound (L : List (List UInt8)) (hL : total L ≤ 100000000) (hl : L.length ≤ 100000000) : Sound Try.prog 26 [.lst .any 1 (bbL L)] (.lst .any 1 (byL L.flatten)) := by
  refine sound_of_N Try.func26 rfl (by decide +kernel) (by simp [Try.f26]) (by simp [AV.rfL, AV.rf]) rfl (rs := [.tmp 2]) rfl ?_
  rw [show Try.f26.ntmps = 36 from rfl]
  refine W_evK [0] (by simp; rfl) ?_
  refine W_evK [0, 3] (by simp; rfl) ?_
  refine W_seq ?_
  refine W_evK [0, 3, 9, 10, 11] (by simp; rfl) ?_
  refine W_block ?_
  refine W_loop (fun k s => ∃ i : Nat, k = L.length - i ∧ i ≤ L.length ∧ s = ⟨36, [(0, .lst .any 1 (bbL L)), (3, .v (.int .i64 (total (L.take i) : Nat))), (9, .lst .any 1 (bbL L)), (10, .v (.int .i64 (L.length : Nat))), (11, .v (.int .i64 (i : Nat)))], []⟩) (k := L.length) ⟨0, rfl, by omega, by simp⟩ ?_
  rintro k s ⟨i, rfl, hi, rfl⟩
  by_cases h1 : i < L.length
  · obtain ⟨b, hb⟩ : ∃ b, L[i]? = some b := ⟨_, List.getElem?_eq_getElem h1⟩
    have hbb : (bbL L)[i]? = some (.lst .any 1 (byL b)) := by rw [bbL_get, hb]; rfl
    have hg : L[i] = b := (List.getElem?_eq_some_iff.1 hb).2
    have h1' : (i : Int) < L.length := by omega
    have ht := total_take hb
    have hle := total_le L (i + 1)
    have hw : IntKind.i64.wrap ((total (L.take i) : Nat) + (b.length : Int)) = (total (L.take (i + 1)) : Nat) := by rw [w64 (by omega) (by omega)]; omega
    have hw2 : IntKind.i64.wrap ((i : Int) + 1) = (i + 1 : Nat) := w64 (by omega) (by omega)
    have h0 : ¬ ((total (L.take (i + 1)) : Nat) : Int) < 0 := by omega
    refine W_evK [0, 3, 9, 10, 11, 12] (by simp [h1, h1']; rfl) ?_
    refine W_seq ?_
    refine W_cond rfl (fun h => ?_) (fun h => by cases h)
    refine W_skip ?_
    refine W_seq ?_
    refine W_block ?_
    refine W_evK [0, 3, 9, 10, 11, 5] (by simp [h1, hbb, hg]; rfl) ?_
    refine W_evK [0, 3, 9, 10, 11] (by simp [hw]; rfl) ?_
    refine W_evK [0, 3, 9, 10, 11, 20] (by simp [h0]; rfl) ?_
    refine W_cond rfl (fun h => by cases h) (fun h => ?_)
    refine W_skip ?_
    refine W_evE [0, 3, 9, 10, 11] (by simp [hw2]; rfl) ?_
    exact ⟨_, by omega, i + 1, rfl, by omega, rfl⟩
  have hie : i = L.length := by omega
  subst hie
  rw [List.take_length]
  refine W_evK [0, 3, 9, 10, 11, 12] (by simp; rfl) ?_
  refine W_seq ?_
  refine W_cond rfl (fun h => by cases h) (fun h => ?_)
  refine W_exit ?_
  refine W_rK [0, 6] ?_
  refine runA_pre 1 (by simp; rfl) rfl ?_
  refine runA_obj (by simp) (by first | (simp; done) | (simp; rfl)) ((grow_callW (total L) hL).mono ?_)
  rintro r h' (⟨hz, rfl, rfl⟩ | ⟨hp, cap, hc1, hc2, rfl, rfl⟩)
  ·
    refine ⟨_, by simp; rfl, ?_⟩
    refine runA_fin (by simp; rfl) ?_
    have hflat : L.flatten = [] := List.eq_nil_of_length_eq_zero hz
    have hall : ∀ i b, L[i]? = some b → b = [] := fun i b hb => by
      have := List.flatten_eq_nil_iff.1 hflat b (List.mem_of_getElem? hb)
      exact this
    rw [hflat]
    refine W_seq ?_
    refine W_evK [6, 25, 26, 27] (by simp; rfl) ?_
    refine W_block ?_
    refine W_loop (fun k s => ∃ (i : Nat) (fl : Fl), k = L.length - i ∧ i ≤ L.length ∧ (fl = .nil ∨ fl = .tip 5 67) ∧ s = ⟨36, [(6, .lst fl 1 []), (25, .lst .any 1 (bbL L)), (26, .v (.int .i64 (L.length : Nat))), (27, .v (.int .i64 (i : Nat)))], []⟩) (k := L.length) ⟨0, .nil, rfl, by omega, .inl rfl, by simp⟩ ?_
    rintro k s ⟨i, fl, rfl, hi, hfl, rfl⟩
    by_cases h1 : i < L.length
    · obtain ⟨b, hb⟩ : ∃ b, L[i]? = some b := ⟨_, List.getElem?_eq_getElem h1⟩
      have hbb : (bbL L)[i]? = some (.lst .any 1 (byL b)) := by rw [bbL_get, hb]; rfl
      have hg : L[i] = b := (List.getElem?_eq_some_iff.1 hb).2
      have hbe := hall i b hb
      subst hbe
      have h1' : (i : Int) < L.length := by omega
      have hw2 : IntKind.i64.wrap ((i : Int) + 1) = (i + 1 : Nat) := w64 (by omega) (by omega)
      refine W_evK [6, 25, 26, 27, 28] (by simp [h1, h1']; rfl) ?_
      refine W_seq ?_
      refine W_cond rfl (fun h => ?_) (fun h => by cases h)
      refine W_skip ?_
      refine W_seq ?_
      refine W_block ?_
      refine W_evK [6, 25, 26, 27, 8] (by simp [h1, hbb, hg]; rfl) ?_
      rcases hfl with rfl | rfl
      · refine W_evE [6, 25, 26, 27] (by simp; rfl) ?_
        refine W_evE [6, 25, 26, 27] (by simp [hw2]; rfl) ?_
        exact ⟨_, by omega, i + 1, _, rfl, by omega, .inr rfl, rfl⟩
      · refine W_evE [6, 25, 26, 27] (by simp; rfl) ?_
        refine W_evE [6, 25, 26, 27] (by simp [hw2]; rfl) ?_
        exact ⟨_, by omega, i + 1, _, rfl, by omega, .inr rfl, rfl⟩
    have hie : i = L.length := by omega
    subst hie
    refine W_evK [6, 25, 26, 27, 28] (by simp; rfl) ?_
    refine W_seq ?_
    refine W_cond rfl (fun h => by cases h) (fun h => ?_)
    refine W_exit ?_
    rcases hfl with rfl | rfl
    all_goals
      refine W_evK [2] (by simp; rfl) ?_
      refine W_ret ?_
      repeat (first | refine on_ret ?_ | refine in_ret ?_)
      exact ⟨_, by simp [retQ]; exact ⟨rfl, by simp⟩, .inr rfl⟩
  ·
    refine ⟨_, by simp; rfl, ?_⟩
    refine runA_fin (by simp; rfl) ?_
    refine W_seq ?_
    refine W_evK [6, 25, 26, 27] (by simp; rfl) ?_
    refine W_block ?_
    refine W_loop (fun k s => ∃ (i : Nat) (B : List UInt8), k = L.length - i ∧ i ≤ L.length ∧ B.length = cap ∧ B.take (total (L.take i)) = (L.take i).flatten ∧
      s = ⟨36, [(6, .arr 0 0 (total (L.take i)) cap), (25, .lst .any 1 (bbL L)), (26, .v (.int .i64 (L.length : Nat))), (27, .v (.int .i64 (i : Nat)))], [.cells 5 (byL B)]⟩) (k := L.length) ⟨0, List.replicate cap 0, rfl, by omega, by simp, by simp, by simp⟩ ?_
    rintro k s ⟨i, B, rfl, hi, hB, hBt, rfl⟩
    by_cases h1 : i < L.length
    · obtain ⟨b, hb⟩ : ∃ b, L[i]? = some b := ⟨_, List.getElem?_eq_getElem h1⟩
      have hbb : (bbL L)[i]? = some (.lst .any 1 (byL b)) := by rw [bbL_get, hb]; rfl
      have hg : L[i] = b := (List.getElem?_eq_some_iff.1 hb).2
      have h1' : (i : Int) < L.length := by omega
      have hw2 : IntKind.i64.wrap ((i : Int) + 1) = (i + 1 : Nat) := w64 (by omega) (by omega)
      have ht := total_take hb
      have hf := flat_take hb
      have hle := total_le L (i + 1)
      refine W_evK [6, 25, 26, 27, 28] (by simp [h1, h1']; rfl) ?_
      refine W_seq ?_
      refine W_cond rfl (fun h => ?_) (fun h => by cases h)
      refine W_skip ?_
      refine W_seq ?_
      refine W_block ?_
      refine W_evK [6, 25, 26, 27, 8] (by simp [h1, hbb, hg]; rfl) ?_
      refine W_rE [6, 25, 26, 27] ?_
      refine runA_pre 2 (by simp; rfl) rfl ?_
      refine runA_app (id := 0) (len := total (L.take i)) (cap := cap) (oy := .any) (ys := byL b) (cs := byL B) (by simp) rfl rfl rfl rfl (by simp) (by simp) s32 a5 z5 (by simp) (by simp) (by simp [hB]) (catK_byL _) (by simp; omega) ?_
      rintro s1 x1 (⟨_, rfl, rfl⟩ | ⟨hbad, _⟩)
      · refine ⟨_, by simp; rfl, ?_⟩
        refine runA_fin (by simp; rfl) ?_
        refine W_evE [6, 25, 26, 27] (by simp [hw2]; rfl) ?_
        refine ⟨_, by omega, i + 1, B.take (total (L.take i)) ++ b ++ B.drop (total (L.take i) + b.length), rfl, by omega, ?_, ?_, ?_⟩
        · simp; omega
        · rw [ht, hf, ← hBt]
          rw [List.take_append_of_le_length (by simp; omega)]
          rw [List.take_of_length_le (by simp; omega)]
        · rw [← setSeg_bytes, ht]; simp
      · exfalso
        simp at hbad
        omega
    have hie : i = L.length := by omega
    subst hie
    rw [List.take_length] at hBt ⊢
    refine W_evK [6, 25, 26, 27, 28] (by simp; rfl) ?_
    refine W_seq ?_
    refine W_cond rfl (fun h => by cases h) (fun h => ?_)
    refine W_exit ?_
    refine W_evK [2] (by simp; rfl) ?_
    refine W_ret ?_
    repeat (first | refine on_ret ?_ | refine in_ret ?_)
    have hc := chunk_bytes (total L) B (by omega)
    rw [hBt] at hc
    exact ⟨_, by simp [retQ, frzArr, hB, hc, hc1]; exact ⟨rfl, by simp⟩, .inr (by simp [AV.weak])⟩
end Go.AM
