/- The law's FewTracks. -/
import Derived.Test.YtknlmgnfflfpeaaC23R
namespace Go.AM
open Go.RowKit Go.Proofs
set_option linter.unusedSimpArgs false
set_option linter.unusedVariables false
set_option maxHeartbeats 1000000

theorem oneR2_sound (r : Rec) (b1 : r.key.length ≤ 140737488355328) (b2 : r.data.length ≤ 140737488355328) : Sound Try.prog 36 [recA r] (recA r) := by
  refine sound_of_N Try.func36 rfl (by decide +kernel) (by simp [Try.f36]) rfl rfl (rs := [.cell 2 49]) rfl ?_
  rw [show Try.f36.ntmps = 14 from rfl]
  refine W_evK [1, 2] (by simp; rfl) ?_
  refine W_evK [1, 2] (by simp [b1, setSeg]; rfl) ?_
  refine W_evK [1, 2] (by simp [b2, setSeg]; rfl) ?_
  refine W_evK [2] (by simp [setSeg]; rfl) ?_
  refine W_ret ?_
  repeat (first | refine on_ret ?_ | refine in_ret ?_)
  exact ⟨.agg [.v (.int .i64 r.R), .lst (.tip 5 13) 1 (byL r.key), .lst (.tip 5 23) 1 (byL r.data), .v (.bool r.bad)], by simp [retQ], .inr (by simp [AV.plain, AV.plainL])⟩
def cutR (r : Rec) : Rec := ⟨r.R, r.key.take 40, r.data.take 1100, r.bad⟩
def cutT (t : List Rec) : List Rec := (t.take 40).map cutR
def fewT (a : List (List Rec)) : List (List Rec) := (a.take 20).map cutT
theorem fewT_ok (a : List (List Rec)) : tksOk (fewT a) := by
  refine ⟨by simp [fewT]; omega, fun t ht => ?_⟩
  obtain ⟨u, _, rfl⟩ := List.mem_map.1 ht
  refine ⟨by simp [cutT]; omega, fun r hr => ?_⟩
  obtain ⟨q, _, rfl⟩ := List.mem_map.1 hr
  exact ⟨by simp [cutR]; omega, by simp [cutR]; omega⟩
theorem min_cut {α : Type} (l : List α) (n : Nat) : (if (l.length : Int) < (n : Int) then (l.length : Int) else n) = ((min l.length n : Nat) : Int) := by split <;> omega
theorem take_min {α : Type} (l : List α) (n : Nat) : l.take (min l.length n) = l.take n := by
  rcases Nat.le_total l.length n with h | h
  · rw [Nat.min_eq_left h, List.take_length, List.take_of_length_le h]
  · rw [Nat.min_eq_right h]
theorem fewT_sound (a : List (List Rec)) (ha : a.length ≤ 9223372036854775807) (hs : ∀ t ∈ a, t.length ≤ 9223372036854775807 ∧ ∀ r ∈ t, r.key.length ≤ 140737488355328 ∧ r.data.length ≤ 140737488355328) : Sound Try.prog 17 [.lst .any 1 (arL a)] (.lst (.tip 46 1) 1 (arL (fewT a))) := by
  refine sound_of_U Try.func17 rfl (by decide +kernel) (by simp [Try.f17]) rfl rfl (rs := [.tmp 2]) rfl ?_
  rw [show Try.f17.ntmps = 64 from rfl]
  refine W_evK [0] (by simp; rfl) ?_
  refine W_evK [0, 3] (by simp; rfl) ?_
  refine W_seq ?_
  refine W_evK [0, 3, 4] (by simp; rfl) ?_
  refine W_block ?_
  refine W_loop (fun k s => ∃ (i : Nat) (x : AV), k = 20 - i ∧ i ≤ a.length ∧ i ≤ 20 ∧ ((i = 0 ∧ x = .lst .nil 1 []) ∨ (0 < i ∧ x = .lst (.tip 46 125) 1 (arL ((a.take i).map cutT)))) ∧
    s = ⟨64, [(0, .lst .any 1 (arL a)), (3, x), (4, .v (.int .i64 i))], []⟩) (k := 20) ⟨0, _, rfl, by omega, by omega, .inl ⟨rfl, rfl⟩, by simp⟩ ?_
  rintro k s ⟨i, x, rfl, hi, hi2, hx, rfl⟩
  refine W_seq ?_
  by_cases c : i < a.length ∧ i < 20
  rotate_left
  · have htk : a.take 20 = a.take i := by
      rcases Nat.lt_or_ge i a.length with h | h
      · have : i = 20 := by omega
        rw [this]
      · rw [List.take_of_length_le (by omega), List.take_of_length_le (by omega)]
    have hfw : fewT a = (a.take i).map cutT := by rw [fewT, htk]
    rw [hfw]
    refine W_seqC (fun s => s = ⟨64, [(0, .lst .any 1 (arL a)), (3, x), (4, .v (.int .i64 i)), (15, .v (.bool false))], []⟩) ?_ ?_
    · by_cases c1 : i < a.length
      · have c2 : ¬ i < 20 := fun h => c ⟨c1, h⟩
        have c1i : (i : Int) < a.length := by omega
        have c2i : ¬ (i : Int) < 20 := by omega
        refine W_evE [0, 3, 4, 15] (by simp [c1, c1i, c2, c2i]; rfl) ?_
        simp [onNormal]
      · refine W_evE [0, 3, 4, 15] (by simp [c1]; rfl) ?_
        simp [onNormal]
    rintro _ rfl
    refine W_cond rfl (fun h => by simp at h) (fun h => ?_)
    refine W_exit ?_
    refine W_evK [2] (by simp; rfl) ?_
    refine W_ret ?_
    repeat (first | refine on_ret ?_ | refine in_ret ?_)
    rcases hx with ⟨h0, rfl⟩ | ⟨h0, rfl⟩
    · subst h0
      exact ⟨.lst .nil 1 [], by simp [retQ], .nil (by decide +kernel)⟩
    · exact ⟨_, by simp [retQ]; exact ⟨rfl, by simp⟩, .norm fun T => by simp⟩
  obtain ⟨c1, c2⟩ := c
  have c1i : (i : Int) < a.length := by omega
  have c2i : (i : Int) < 20 := by omega
  obtain ⟨t, hti⟩ : ∃ t, a[i]? = some t := ⟨_, List.getElem?_eq_getElem c1⟩
  have ht2 : a[i]'c1 = t := by rw [List.getElem?_eq_getElem c1] at hti; exact Option.some.inj hti
  obtain ⟨htl, hts⟩ := hs t (List.mem_of_getElem? hti)
  have wi := w64 (n := (i : Int) + 1) (by omega) (by omega)
  have htk : (a.take (i + 1)).map cutT = (a.take i).map cutT ++ [cutT t] := by rw [List.take_add_one, hti]; simp
  have b1 : (i + 1) * 24 ≤ 140737488355328 := by omega
  have b2 : 24 * (i + 1) ≤ 140737488355328 := by omega
  have hml : ((a.take i).map cutT).length = i := by simp; omega
  refine W_evK [0, 3, 4, 15] (by simp [c1, c1i, c2, c2i]; rfl) ?_
  refine W_cond rfl (fun h => ?_) (fun h => by simp at h)
  refine W_skip ?_
  refine W_seq ?_
  refine W_block ?_
  refine W_evK [0, 3, 4, 5] (by simp; rfl) ?_
  refine W_seq ?_
  refine W_evK [0, 3, 4, 5, 6] (by simp; rfl) ?_
  refine W_block ?_
  refine W_loop (fun k s => ∃ (j : Nat) (y : AV), k = 40 - j ∧ j ≤ t.length ∧ j ≤ 40 ∧ ((j = 0 ∧ y = .lst .nil 4 []) ∨ (0 < j ∧ y = .lst (.tip 49 117) 4 (trL ((t.take j).map cutR)))) ∧
    s = ⟨64, [(0, .lst .any 1 (arL a)), (3, x), (4, .v (.int .i64 i)), (5, y), (6, .v (.int .i64 j))], []⟩) (k := 40) ⟨0, _, rfl, by omega, by omega, .inl ⟨rfl, rfl⟩, by simp⟩ ?_
  rintro k s ⟨j, y, rfl, hj, hj2, hy, rfl⟩
  refine W_seq ?_
  by_cases e : j < t.length ∧ j < 40
  · obtain ⟨e1, e2⟩ := e
    have e1i : (j : Int) < t.length := by omega
    have e2i : (j : Int) < 40 := by omega
    obtain ⟨r, hrj⟩ : ∃ r, t[j]? = some r := ⟨_, List.getElem?_eq_getElem e1⟩
    have hr2 : t[j]'e1 = r := by rw [List.getElem?_eq_getElem e1] at hrj; exact Option.some.inj hrj
    obtain ⟨k1, k2⟩ := hts r (List.mem_of_getElem? hrj)
    have wj := w64 (n := (j : Int) + 1) (by omega) (by omega)
    have htj : (t.take (j + 1)).map cutR = (t.take j).map cutR ++ [cutR r] := by rw [List.take_add_one, hrj]; simp
    have d1 : (j + 1) * 64 ≤ 140737488355328 := by omega
    have d2 : 64 * (j + 1) ≤ 140737488355328 := by omega
    have hmj : ((t.take j).map cutR).length = j := by simp; omega
    refine W_evK [0, 3, 4, 5, 6, 28] (by simp [c1, c1i, ht2, e1, e1i, e2, e2i]; rfl) ?_
    refine W_cond rfl (fun h => ?_) (fun h => by simp at h)
    refine W_skip ?_
    refine W_seq ?_
    refine W_block ?_
    refine W_rK [0, 3, 4, 5, 6, 7] ?_
    refine runA_pre 7 (by simp [c1, c1i, ht2, e1, e1i, hr2]; rfl) rfl ?_
    refine runA_call (by simp) (by first | (simp; done) | (simp; rfl)) (oneR2_sound r k1 k2) (by simp; rfl) ?_
    refine runA_fin (by simp [setSeg]; rfl) ?_
    refine W_seqC (fun s => s = ⟨64, [(0, .lst .any 1 (arL a)), (3, x), (4, .v (.int .i64 i)), (5, y), (6, .v (.int .i64 j)), (7, .loc 0 0)], [.cells 49 [.v (.int .i64 r.R), .lst .any 1 (byL (r.key.take 40)), .lst .any 1 (byL (r.data.take 1100)), .v (.bool r.bad)]]⟩) ?_ ?_
    · obtain ⟨m1, hm1⟩ : ∃ m, min r.key.length 40 = m := ⟨_, rfl⟩
      obtain ⟨m2, hm2⟩ : ∃ m, min r.data.length 1100 = m := ⟨_, rfl⟩
      have q1 : (if (40 : Int) < (r.key.length : Int) then (40 : Int) else (r.key.length : Int)) = (m1 : Int) := by split <;> omega
      have q2 : (if (1100 : Int) < (r.data.length : Int) then (1100 : Int) else (r.data.length : Int)) = (m2 : Int) := by split <;> omega
      have q3 : m1 ≤ r.key.length := by omega
      have q4 : m2 ≤ r.data.length := by omega
      have q5 : r.key.take 40 = r.key.take m1 := by rw [← hm1, take_min]
      have q6 : r.data.take 1100 = r.data.take m2 := by rw [← hm2, take_min]
      rw [q5, q6]
      refine W_rdE [0, 3, 4, 5, 6, 7] mx (by decide +kernel) ?_
      refine runD_pre 6 (by simp; rfl) rfl ?_
      refine runD_pre 6 (by simp [q1, q3, ← byL_take]; rfl) rfl ?_
      refine runD_fin (by simp [q2, q4, ← byL_take, setSeg]; rfl) ?_
      simp [onNormal]
    rintro _ rfl
    have hxk : x.kill 117 = x := by rcases hx with ⟨_, rfl⟩ | ⟨_, rfl⟩ <;> simp [AV.kill]
    have hxu : x.under 0 = true := by rcases hx with ⟨_, rfl⟩ | ⟨_, rfl⟩ <;> simp [AV.under, AV.underL]
    rcases hy with ⟨h0, rfl⟩ | ⟨h0, rfl⟩
    · subst h0
      refine W_evE [0, 3, 4, 5, 6] (by simp [catK, AV.cellsK, AV.kone, AV.koneL, hxk]; rfl) ?_
      refine W_cutH 0 (by omega) (by omega) (by simp [frUnder, AV.under, AV.underL, hxu]) (by simp [underH]) ?_
      refine W_evE [0, 3, 4, 5, 6] (by simp [show IntKind.i64.wrap 1 = 1 from rfl]; rfl) ?_
      exact ⟨_, by omega, 1, _, rfl, by omega, by omega, .inr ⟨by omega, rfl⟩, by rw [htj]; simp [trL_cons, cutR]⟩
    · refine W_evE [0, 3, 4, 5, 6] (by simp [catK, AV.cellsK, AV.kone, AV.koneL, d1, d2, hmj, Nat.min_eq_left hj, hxk]; rfl) ?_
      refine W_cutH 0 (by omega) (by omega) (by simp [frUnder, AV.under, AV.underL, hxu]) (by simp [underH]) ?_
      refine W_evE [0, 3, 4, 5, 6] (by simp [wj]; rfl) ?_
      exact ⟨_, by omega, j + 1, _, rfl, by omega, by omega, .inr ⟨by omega, rfl⟩, by rw [htj]; simp [trL_append, trL_cons, cutR]⟩
  · have htj : t.take 40 = t.take j := by
      rcases Nat.lt_or_ge j t.length with h | h
      · have : j = 40 := by omega
        rw [this]
      · rw [List.take_of_length_le (by omega), List.take_of_length_le (by omega)]
    have hcw : cutT t = (t.take j).map cutR := by rw [cutT, htj]
    rw [hcw] at htk
    refine W_seqC (fun s => s = ⟨64, [(0, .lst .any 1 (arL a)), (3, x), (4, .v (.int .i64 i)), (5, y), (6, .v (.int .i64 j)), (28, .v (.bool false))], []⟩) ?_ ?_
    · by_cases e1 : j < t.length
      · have e2 : ¬ j < 40 := fun h => e ⟨e1, h⟩
        have e1i : (j : Int) < t.length := by omega
        have e2i : ¬ (j : Int) < 40 := by omega
        refine W_evE [0, 3, 4, 5, 6, 28] (by simp [c1, c1i, ht2, e1, e1i, e2, e2i]; rfl) ?_
        simp [onNormal]
      · refine W_evE [0, 3, 4, 5, 6, 28] (by simp [c1, c1i, ht2, e1]; rfl) ?_
        simp [onNormal]
    rintro _ rfl
    refine W_cond rfl (fun h => by simp at h) (fun h => ?_)
    refine W_exit ?_
    rcases hy with ⟨h0, rfl⟩ | ⟨h0, rfl⟩
    · subst h0
      rcases hx with ⟨g0, rfl⟩ | ⟨g0, rfl⟩
      · subst g0
        refine W_evE [0, 3, 4] (by simp [catK, AV.cellsK, AV.kone, AV.koneL]; rfl) ?_
        refine W_evE [0, 3, 4] (by simp [show IntKind.i64.wrap 1 = 1 from rfl]; rfl) ?_
        exact ⟨_, by omega, 1, _, rfl, by omega, by omega, .inr ⟨by omega, rfl⟩, by rw [htk]; simp [arL_cons]⟩
      · refine W_evE [0, 3, 4] (by simp [catK, AV.cellsK, AV.kone, AV.koneL, b1, b2, hml, Nat.min_eq_left hi]; rfl) ?_
        refine W_evE [0, 3, 4] (by simp [wi]; rfl) ?_
        exact ⟨_, by omega, i + 1, _, rfl, by omega, by omega, .inr ⟨by omega, rfl⟩, by rw [htk]; simp [arL_append, arL_cons]⟩
    · rcases hx with ⟨g0, rfl⟩ | ⟨g0, rfl⟩
      · subst g0
        refine W_evE [0, 3, 4] (by simp [catK, AV.cellsK, AV.kone, AV.koneL]; rfl) ?_
        refine W_evE [0, 3, 4] (by simp [show IntKind.i64.wrap 1 = 1 from rfl]; rfl) ?_
        exact ⟨_, by omega, 1, _, rfl, by omega, by omega, .inr ⟨by omega, rfl⟩, by rw [htk]; simp [arL_cons]⟩
      · refine W_evE [0, 3, 4] (by simp [catK, AV.cellsK, AV.kone, AV.koneL, b1, b2, hml, Nat.min_eq_left hi]; rfl) ?_
        refine W_evE [0, 3, 4] (by simp [wi]; rfl) ?_
        exact ⟨_, by omega, i + 1, _, rfl, by omega, by omega, .inr ⟨by omega, rfl⟩, by rw [htk]; simp [arL_append, arL_cons]⟩
end Go.AM
