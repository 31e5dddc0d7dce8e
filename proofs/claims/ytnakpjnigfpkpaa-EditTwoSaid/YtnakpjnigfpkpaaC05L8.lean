/- EditTwo: its walk. -/
import Derived.Test.YtnakpjnigfpkpaaC05Q4
import Derived.Test.YtnakpjnigfpkpaaC05L7
namespace Go.AM
open Go.RowKit Go.Proofs
set_option linter.unusedSimpArgs false
set_option linter.unusedVariables false
set_option maxHeartbeats 1000000

theorem cc_eq (ds : List UInt8) (neg : Bool) : (if zerM (digM ds) < (digM ds).length then (if onF (-1) ds neg then 1 else 2) else 0 : Nat) = ncodeM ds neg := by
  have hz := zerM_le (digM ds)
  unfold ncodeM
  by_cases h : zerM (digM ds) = (digM ds).length
  · simp [h]
  · have hlt : zerM (digM ds) < (digM ds).length := by omega
    rw [if_pos hlt, if_neg h]
    simp [onF, onM, hlt]

theorem editTwo_sound (da : List UInt8) (na : Bool) (ta db : List UInt8) (nb : Bool) (tb : List UInt8) (fill0 : UInt8) : Sound Try.prog 8 [numA da na ta, numA db nb tb, .v (.int .u8 fill0.toNat)] (.v (.bool true)) := by
  refine sound_of_W Try.func8 rfl (by decide +kernel) (by simp [Try.f8]) rfl rfl (rs := [.tmp 6]) rfl ?_
  rw [show Try.f8.ntmps = 103 from rfl]
  refine W_evK [2, 3, 4] (by simp; rfl) ?_
  refine W_cut (fun s => ∃ (fill : UInt8), plainM fill = true ∧ s = ⟨103, [(2, .v (.int .u8 fill.toNat)), (3, .loc 0 0), (4, .loc 1 0)], [.cells 37 [.lst .any 1 (byL da), .v (.bool na), .lst .any 1 (byL ta)], .cells 37 [.lst .any 1 (byL db), .v (.bool nb), .lst .any 1 (byL tb)]]⟩) ?_ ?_
  · have hpl := plain_sound fill0
    by_cases hp : plainM fill0 = true
    · rw [show decide (fill0.toNat < 32 ∨ 34 < fill0.toNat) = true from hp] at hpl
      refine W_rK [2, 3, 4, 17] ?_
      refine runA_pre 1 (by simp; rfl) rfl ?_
      refine runA_call (by simp) (by simp; rfl) hpl (by simp; rfl) ?_
      refine runA_fin (by simp; rfl) ?_
      refine W_cond rfl (fun h => by cases h) (fun h => ?_)
      refine W_keepS [2, 3, 4] ?_
      refine W_skip ?_
      exact ⟨fill0, hp, rfl⟩
    · rw [show decide (fill0.toNat < 32 ∨ 34 < fill0.toNat) = false by simpa [plainM] using hp] at hpl
      refine W_rK [2, 3, 4, 17] ?_
      refine runA_pre 1 (by simp; rfl) rfl ?_
      refine runA_call (by simp) (by simp; rfl) hpl (by simp; rfl) ?_
      refine runA_fin (by simp; rfl) ?_
      refine W_cond rfl (fun h => ?_) (fun h => by cases h)
      refine W_evE [2, 3, 4] (by simp; rfl) ?_
      exact ⟨64, by decide, rfl⟩
  rintro _ ⟨fill, hf, rfl⟩
  have hpatA := pattern_sound da na ta fill (-1)
  have hpatB := pattern_sound db nb tb fill (-1)
  have hpatS := pattern_sound db nb tb 34 (-1)
  have hpackA := packed_sound da na ta
  have hpackB := packed_sound db nb tb
  have hlA := packM_len da na
  have hlB := packM_len db nb
  have hpA := patM_len fill (-1) da ta
  have hpB := patM_len fill (-1) db tb
  have hpS := patM_len 34 (-1) db tb
  have h2A := packM_len2 da na
  have h2B := packM_len2 db nb
  have h1A := edM_one (ds := da) (tl := ta) (neg := na) (k := -1) hf
  have h1B := edM_one (ds := db) (tl := tb) (neg := nb) (k := -1) hf
  rw [cc_eq] at h1A h1B
  have hedA := edit_sound (patM fill (-1) da ta) (packM da na) (by omega) (by omega)
  have hedB := edit_any (patM fill (-1) db tb) (packM db nb) (by omega) (by omega)
  have hed2 := edit_any (patM fill (-1) da ta ++ patM 34 (-1) db tb) (packM da na ++ packM db nb) (by simp; omega) (by simp; omega)
  have htwo := fun h => edM_two (da := da) (ta := ta) (db := db) (tb := tb) (na := na) (nb := nb) hf h
  rw [cc_eq] at htwo
  rw [h1A] at hedA
  simp only [if_true] at hedA
  rw [h1B] at hedB
  have htA := textM_len fill (fromM (zerM (digM da)) (-1)) (onF (-1) da na) da ta
  have htB := textM_len fill (fromM (zerM (digM db)) (-1)) (onF (-1) db nb) db tb
  have hzA := zerM_le (digM da)
  have hzB := zerM_le (digM db)
  have hmA : markM (zerM (digM da)) (-1) 1 (-1) (digM da).length = if zerM (digM da) < (digM da).length then ((1 + zerM (digM da) : Nat) : Int) else -1 := by simp [markM]
  have hmB : markM (zerM (digM db)) (-1) 1 (-1) (digM db).length = if zerM (digM db) < (digM db).length then ((1 + zerM (digM db) : Nat) : Int) else -1 := by simp [markM]
  have hm2 : ∀ b m0, markM (zerM (digM db)) (-1) b m0 (digM db).length = if zerM (digM db) < (digM db).length then ((b + zerM (digM db) : Nat) : Int) else m0 := by intro b m0; simp [markM]
  rw [hm2] at htwo
  rw [hmB] at hedB
  dsimp only at hedA hedB
  have hlenB := digM_len db
  have hMM : ∃ MB M2 : Int, MB = (if zerM (digM db) < (digM db).length then ((1 + zerM (digM db) : Nat) : Int) else -1) ∧ M2 = (if zerM (digM db) < (digM db).length then (((textM fill (fromM (zerM (digM da)) (-1)) (onF (-1) da na) da ta).length + 1 + zerM (digM db) : Nat) : Int) else markM (zerM (digM da)) (-1) 1 (-1) (digM da).length) := ⟨_, _, rfl, rfl⟩
  obtain ⟨MB, M2, hMB, hM2⟩ := hMM
  rw [← hMB] at hedB
  rw [← hM2] at htwo
  have hlpat : (patM fill (-1) da ta ++ patM 34 (-1) db tb).length = (patM fill (-1) da ta).length + (patM 34 (-1) db tb).length := List.length_append
  generalize hTA : textM fill (fromM (zerM (digM da)) (-1)) (onF (-1) da na) da ta = TA at *
  generalize hTB : textM fill (fromM (zerM (digM db)) (-1)) (onF (-1) db nb) db tb = TB at *
  generalize hMA : markM (zerM (digM da)) (-1) 1 (-1) (digM da).length = MA at *
  generalize hCA : ncodeM da na = CA at *
  generalize hCB : ncodeM db nb = CB at *
  generalize hzz : zerM (digM db) = z at *
  generalize hdd : (digM db).length = n at *
  generalize hPA : patM fill (-1) da ta = PA at *
  generalize hPB : patM fill (-1) db tb = PB at *
  generalize hPS : patM 34 (-1) db tb = PS at *
  generalize hKA : packM da na = KA at *
  generalize hKB : packM db nb = KB at *
  refine W_rdK [2, 3, 4, 7] mx (by decide +kernel) ?_
  refine runD_pre 2 (by simp; rfl) rfl ?_
  refine runD_call (by simp) (by first | (simp; done) | (simp; rfl)) hpatA (by simp; rfl) ?_
  refine runD_pre 1 (by simp; rfl) rfl ?_
  refine runD_call (by simp) (by first | (simp; done) | (simp; rfl)) hpatS (by simp; rfl) ?_
  refine runD_fin (by simp [show PA.length + PS.length ≤ 140737488355328 by omega]; rfl) ?_
  refine W_seq ?_
  by_cases h256 : 256 < PA.length + PS.length
  · have h256' : (256 : Int) < (PA.length : Int) + (PS.length : Int) := by omega
    refine W_evK [6, 26] (by simp [h256, h256']; rfl) ?_
    refine W_cond rfl (fun h => ?_) (fun h => by cases h)
    refine W_rK [6] ?_
    refine runA_call (by simp) (by first | (simp; done) | (simp; rfl)) works_sound (by simp; rfl) ?_
    refine runA_fin (by simp; rfl) ?_
    refine W_ret ?_
    repeat (first | refine on_ret ?_ | refine in_ret ?_)
    simp [retQ]
  have h256' : ¬ (256 : Int) < (PA.length : Int) + (PS.length : Int) := by omega
  rw [htwo (by omega)] at hed2
  dsimp only at hed2
  refine W_evK [2, 3, 4, 7, 26] (by simp [h256, h256']; rfl) ?_
  refine W_cond rfl (fun h => by cases h) (fun h => ?_)
  refine W_skip ?_
  refine W_rdK [2, 3, 4, 7, 8, 9] mx (by decide +kernel) ?_
  refine runD_pre 2 (by simp; rfl) rfl ?_
  refine runD_call (by simp) (by first | (simp; done) | (simp; rfl)) hpatA (by simp; rfl) ?_
  refine runD_pre 1 (by simp; rfl) rfl ?_
  refine runD_call (by simp) (by first | (simp; done) | (simp; rfl)) hpackA (by simp; rfl) ?_
  refine runD_call (by simp) (by first | (simp; done) | (simp; rfl)) hedA (by simp; rfl) ?_
  refine runD_fin (by simp [setSeg]; rfl) ?_
  refine W_rdK [2, 3, 4, 7, 8, 9, 10, 11] mx (by decide +kernel) ?_
  refine runD_pre 2 (by simp; rfl) rfl ?_
  refine runD_call (by simp) (by first | (simp; done) | (simp; rfl)) hpatB (by simp; rfl) ?_
  refine runD_pre 1 (by simp; rfl) rfl ?_
  refine runD_call (by simp) (by first | (simp; done) | (simp; rfl)) hpackB (by simp; rfl) ?_
  refine runD_call (by simp) (by first | (simp; done) | (simp; rfl)) hedB (by simp; rfl) ?_
  refine runD_fin (by simp [setSeg]; rfl) ?_
  refine W_rdK [8, 9, 10, 11, 12, 13] mx (by decide +kernel) ?_
  refine runD_pre 2 (by simp; rfl) rfl ?_
  refine runD_call (by simp) (by first | (simp; done) | (simp; rfl)) hpackA (by simp; rfl) ?_
  refine runD_pre 1 (by simp; rfl) rfl ?_
  refine runD_call (by simp) (by first | (simp; done) | (simp; rfl)) hpackB (by simp; rfl) ?_
  refine runD_pre 1 (by simp [show KA.length + KB.length ≤ 140737488355328 by omega]; rfl) rfl ?_
  rw [byL_append, byL_append, byL_append] at hed2
  refine runD_call (by simp) (by first | (simp; done) | (simp; rfl)) hed2 (by simp; rfl) ?_
  refine runD_fin (by simp [setSeg]; rfl) ?_
  refine W_evK [8, 9, 10, 11, 12, 13, 14] (by simp; rfl) ?_
  refine W_cut (fun s => s = ⟨103, [(8, .loc 2 0), (9, .v (.int .i64 0)), (10, .loc 3 0), (11, .v (.int .i64 0)), (12, .loc 4 0), (13, .v (.int .i64 0)), (14, .v (.int .i64 M2))], [.cells 37 [.lst .any 1 (byL da), .v (.bool na), .lst .any 1 (byL ta)], .cells 37 [.lst .any 1 (byL db), .v (.bool nb), .lst .any 1 (byL tb)],
      .cells 26 [.lst (.tip 5 69) 1 (byL TA), .v (.int .i64 CA), .v (.int .i64 MA)], .cells 26 [.lst .any 1 (byL TB), .v (.int .i64 CB), .v (.int .i64 MB)], .cells 26 [.lst .any 1 (byL TA ++ byL TB), .v (.int .i64 CB), .v (.int .i64 M2)]]⟩) ?_ ?_
  · by_cases hzn : z < n
    · rw [if_pos hzn] at hMB hM2
      have h0 : (0 : Int) ≤ MB := by omega
      refine W_evK [8, 9, 10, 11, 12, 13, 14, 60] (by simp [h0]; rfl) ?_
      refine W_cond rfl (fun h => ?_) (fun h => by cases h)
      have hw : IntKind.i64.wrap ((TA.length : Int) + MB) = M2 := by rw [w64 (by omega) (by omega)]; omega
      refine W_evE [8, 9, 10, 11, 12, 13, 14] (by simp [hw]; rfl) ?_
      rfl
    · rw [if_neg hzn] at hMB hM2
      have h0 : ¬ (0 : Int) ≤ MB := by omega
      refine W_evK [8, 9, 10, 11, 12, 13, 14, 60] (by simp [h0]; rfl) ?_
      refine W_cond rfl (fun h => by cases h) (fun h => ?_)
      refine W_keepS [8, 9, 10, 11, 12, 13, 14] ?_
      refine W_skip ?_
      subst hM2
      rfl
  rintro _ rfl
  have hsame := same_sound (TA ++ TB) (TA ++ TB) (by simp; omega)
  rw [byL_append] at hsame
  refine W_rdK [6] mx (by decide +kernel) ?_
  refine runD_pre 6 (by simp; rfl) rfl ?_
  refine runD_pre 6 (by simp; rfl) rfl ?_
  refine runD_pre 6 (by simp [show TA.length + TB.length ≤ 140737488355328 by omega]; rfl) rfl ?_
  refine runD_call (by simp) (by first | (simp; done) | (simp; rfl)) hsame (by simp; rfl) ?_
  refine runD_pre 6 (by simp; rfl) rfl ?_
  refine runD_pre 6 (by simp; rfl) rfl ?_
  refine runD_pre 3 (by simp; rfl) rfl ?_
  refine runD_call (by simp) (by first | (simp; done) | (simp; rfl)) works_sound (by simp; rfl) ?_
  refine runD_fin (by simp; rfl) ?_
  refine W_ret ?_
  repeat (first | refine on_ret ?_ | refine in_ret ?_)
  simp [retQ]
end Go.AM
