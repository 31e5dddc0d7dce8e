/- EditOne: its walk. -/
import Derived.Test.YtnakpjnigfpkpaaC05Q3
import Derived.Test.YtnakpjnigfpkpaaC05W
import Derived.Test.YtnakpjnigfpkpaaC05L5
namespace Go.AM
open Go.RowKit Go.Proofs
set_option linter.unusedSimpArgs false
set_option linter.unusedVariables false
set_option maxHeartbeats 1000000

theorem patM_len (fill : UInt8) (k : Int) (ds tl : List UInt8) : (patM fill k ds tl).length ≤ 151 := by
  have := digM_len ds; have := tailM_len tl
  simp [patM]; omega
theorem textM_len (fill : UInt8) (fr : Int) (b : Bool) (ds tl : List UInt8) : (textM fill fr b ds tl).length ≤ 151 := by
  have := digM_len ds; have := tailM_len tl
  simp [textM]; omega

theorem editOne_sound (ds : List UInt8) (neg : Bool) (tl : List UInt8) (fill0 : UInt8) : Sound Try.prog 6 [numA ds neg tl, .v (.int .u8 fill0.toNat)] (.v (.bool true)) := by
  refine sound_of_W Try.func6 rfl (by decide +kernel) (by simp [Try.f6]) rfl rfl (rs := [.tmp 4]) rfl ?_
  rw [show Try.f6.ntmps = 62 from rfl]
  refine W_evK [1, 2] (by simp; rfl) ?_
  refine W_cut (fun s => ∃ (fill : UInt8) (b : Bool), plainM fill = true ∧ s = ⟨62, [(1, .v (.int .u8 fill.toNat)), (2, .loc 0 0), (11, .v (.bool b))], [.cells 37 [.lst .any 1 (byL ds), .v (.bool neg), .lst .any 1 (byL tl)]]⟩) ?_ ?_
  · have hpl := plain_sound fill0
    by_cases hp : plainM fill0 = true
    · rw [show decide (fill0.toNat < 32 ∨ 34 < fill0.toNat) = true from hp] at hpl
      refine W_rK [1, 2, 11] ?_
      refine runA_pre 1 (by simp; rfl) rfl ?_
      refine runA_call (by simp) (by simp; rfl) hpl (by simp; rfl) ?_
      refine runA_fin (by simp; rfl) ?_
      refine W_cond rfl (fun h => by cases h) (fun h => ?_)
      refine W_skip ?_
      exact ⟨fill0, false, hp, rfl⟩
    · rw [show decide (fill0.toNat < 32 ∨ 34 < fill0.toNat) = false by simpa [plainM] using hp] at hpl
      refine W_rK [1, 2, 11] ?_
      refine runA_pre 1 (by simp; rfl) rfl ?_
      refine runA_call (by simp) (by simp; rfl) hpl (by simp; rfl) ?_
      refine runA_fin (by simp; rfl) ?_
      refine W_cond rfl (fun h => ?_) (fun h => by cases h)
      refine W_evE [1, 2, 11] (by simp; rfl) ?_
      exact ⟨64, true, by decide, rfl⟩
  rintro _ ⟨fill, b, hf, rfl⟩
  have hone := edM_one (ds := ds) (tl := tl) (neg := neg) (k := -1) hf
  have hed := edit_any (patM fill (-1) ds tl) (packM ds neg) (by have := packM_len ds neg; omega) (by have := patM_len fill (-1) ds tl; omega)
  rw [hone] at hed
  have hz := zerM_le (digM ds)
  have hcode := ncode_sound ds neg tl
  have hzer := zeros_sound ds neg tl
  have htext := text_sound ds neg tl fill
  have hfrom : fromM (zerM (digM ds)) (-1) = zerM (digM ds) := by simp [fromM]
  dsimp only at hed
  rw [hfrom] at hed
  have hmark : markM (zerM (digM ds)) (-1) 1 (-1) (digM ds).length = if zerM (digM ds) < (digM ds).length then ((1 + zerM (digM ds) : Nat) : Int) else -1 := by simp [markM]
  have hon : onF (-1) ds neg = (decide (zerM (digM ds) < (digM ds).length) && neg) := by simp [onF, onM]
  rw [hmark, hon] at hed
  have htl := textM_len fill (zerM (digM ds)) (decide (zerM (digM ds) < (digM ds).length) && neg) ds tl
  unfold ncodeM at hcode
  have hlen := digM_len ds
  generalize hzz : zerM (digM ds) = z at *
  have hw : IntKind.i64.wrap (1 + (z : Int)) = (1 + z : Nat) := by rw [w64 (by omega) (by omega)]; omega
  by_cases hzn : z = (digM ds).length
  · have hlt : ¬ z < (digM ds).length := by omega
    simp only [hlt, decide_false, Bool.false_and, if_false] at hed htl
    rw [if_pos hzn] at hcode
    have htx := htext z false
    have hsame := same_sound (textM fill z false ds tl) (textM fill z false ds tl) (by omega)
    refine W_rdK [1, 2, 5, 6] mx (by decide +kernel) ?_
    refine runD_pre 2 (by simp; rfl) rfl ?_
    refine runD_call (by simp) (by first | (simp; done) | (simp; rfl)) (pattern_sound ds neg tl fill (-1)) (by simp; rfl) ?_
    refine runD_pre 1 (by simp; rfl) rfl ?_
    refine runD_call (by simp) (by first | (simp; done) | (simp; rfl)) (packed_sound ds neg tl) (by simp; rfl) ?_
    refine runD_call (by simp) (by first | (simp; done) | (simp; rfl)) hed (by simp; rfl) ?_
    refine runD_fin (by simp [setSeg]; rfl) ?_
    refine W_rK [1, 2, 5, 6, 7] ?_
    refine runA_pre 1 (by simp; rfl) rfl ?_
    refine runA_call (by simp) (by first | (simp; done) | (simp; rfl)) hcode (by simp; rfl) ?_
    refine runA_fin (by simp; rfl) ?_
    refine W_rK [1, 2, 5, 6, 7, 8] ?_
    refine runA_pre 1 (by simp; rfl) rfl ?_
    refine runA_call (by simp) (by first | (simp; done) | (simp; rfl)) hzer (by simp; rfl) ?_
    refine runA_fin (by simp [hw]; rfl) ?_
    refine W_seq ?_
    refine W_evK [1, 2, 5, 6, 7, 8, 27] (by simp; rfl) ?_
    refine W_cond rfl (fun h => ?_) (fun h => by cases h)
    refine W_evE [1, 2, 5, 6, 7, 8] (by simp; rfl) ?_
    cases neg with
    | true =>
      refine W_rdK [4] mx (by decide +kernel) ?_
      refine runD_pre 6 (by simp; rfl) rfl ?_
      refine runD_pre 2 (by simp; rfl) rfl ?_
      refine runD_call (by simp) (by first | (simp; done) | (simp; rfl)) hzer (by simp; rfl) ?_
      refine runD_pre 6 (by simp; rfl) rfl ?_
      refine runD_call (by simp) (by first | (simp; done) | (simp; rfl)) htx (by simp; rfl) ?_
      refine runD_call (by simp) (by first | (simp; done) | (simp; rfl)) hsame (by simp; rfl) ?_
      refine runD_pre 5 (by simp; rfl) rfl ?_
      refine runD_call (by simp) (by first | (simp; done) | (simp; rfl)) hcode (by simp; rfl) ?_
      refine runD_pre 6 (by simp; rfl) rfl ?_
      refine runD_pre 3 (by simp; rfl) rfl ?_
      refine runD_call (by simp) (by first | (simp; done) | (simp; rfl)) works_sound (by simp; rfl) ?_
      refine runD_fin (by simp; rfl) ?_
      refine W_ret ?_
      repeat (first | refine on_ret ?_ | refine in_ret ?_)
      simp [retQ]
    | false =>
      refine W_rdK [4] mx (by decide +kernel) ?_
      refine runD_pre 6 (by simp; rfl) rfl ?_
      refine runD_pre 2 (by simp; rfl) rfl ?_
      refine runD_call (by simp) (by first | (simp; done) | (simp; rfl)) hzer (by simp; rfl) ?_
      refine runD_pre 6 (by simp; rfl) rfl ?_
      refine runD_call (by simp) (by first | (simp; done) | (simp; rfl)) htx (by simp; rfl) ?_
      refine runD_call (by simp) (by first | (simp; done) | (simp; rfl)) hsame (by simp; rfl) ?_
      refine runD_pre 5 (by simp; rfl) rfl ?_
      refine runD_call (by simp) (by first | (simp; done) | (simp; rfl)) hcode (by simp; rfl) ?_
      refine runD_pre 6 (by simp; rfl) rfl ?_
      refine runD_pre 3 (by simp; rfl) rfl ?_
      refine runD_call (by simp) (by first | (simp; done) | (simp; rfl)) works_sound (by simp; rfl) ?_
      refine runD_fin (by simp; rfl) ?_
      refine W_ret ?_
      repeat (first | refine on_ret ?_ | refine in_ret ?_)
      simp [retQ]
  · have hlt : z < (digM ds).length := by omega
    simp only [hlt, decide_true, Bool.true_and, if_true] at hed htl
    rw [if_neg hzn] at hcode
    have htx := htext z neg
    have hsame := same_sound (textM fill z neg ds tl) (textM fill z neg ds tl) (by omega)
    refine W_rdK [1, 2, 5, 6] mx (by decide +kernel) ?_
    refine runD_pre 2 (by simp; rfl) rfl ?_
    refine runD_call (by simp) (by first | (simp; done) | (simp; rfl)) (pattern_sound ds neg tl fill (-1)) (by simp; rfl) ?_
    refine runD_pre 1 (by simp; rfl) rfl ?_
    refine runD_call (by simp) (by first | (simp; done) | (simp; rfl)) (packed_sound ds neg tl) (by simp; rfl) ?_
    refine runD_call (by simp) (by first | (simp; done) | (simp; rfl)) hed (by simp; rfl) ?_
    refine runD_fin (by simp [setSeg]; rfl) ?_
    refine W_rK [1, 2, 5, 6, 7] ?_
    refine runA_pre 1 (by simp; rfl) rfl ?_
    refine runA_call (by simp) (by first | (simp; done) | (simp; rfl)) hcode (by simp; rfl) ?_
    refine runA_fin (by simp; rfl) ?_
    refine W_rK [1, 2, 5, 6, 7, 8] ?_
    refine runA_pre 1 (by simp; rfl) rfl ?_
    refine runA_call (by simp) (by first | (simp; done) | (simp; rfl)) hzer (by simp; rfl) ?_
    refine runA_fin (by simp [hw]; rfl) ?_
    refine W_seq ?_
    refine W_evK [1, 2, 5, 6, 7, 8, 27] (by simp; rfl) ?_
    have hc0 : decide (((if neg = true then 1 else 2 : Nat) : Int) = 0) = false := by cases neg <;> rfl
    refine W_cond (t := false) (by cases neg <;> rfl) (fun h => by cases h) (fun h => ?_)
    refine W_skip ?_
    cases neg with
    | true =>
      refine W_rdK [4] mx (by decide +kernel) ?_
      refine runD_pre 6 (by simp; rfl) rfl ?_
      refine runD_pre 2 (by simp; rfl) rfl ?_
      refine runD_call (by simp) (by first | (simp; done) | (simp; rfl)) hzer (by simp; rfl) ?_
      refine runD_pre 6 (by simp; rfl) rfl ?_
      refine runD_call (by simp) (by first | (simp; done) | (simp; rfl)) htx (by simp; rfl) ?_
      refine runD_call (by simp) (by first | (simp; done) | (simp; rfl)) hsame (by simp; rfl) ?_
      refine runD_pre 5 (by simp; rfl) rfl ?_
      refine runD_call (by simp) (by first | (simp; done) | (simp; rfl)) hcode (by simp; rfl) ?_
      refine runD_pre 6 (by simp; rfl) rfl ?_
      refine runD_pre 3 (by simp; rfl) rfl ?_
      refine runD_call (by simp) (by first | (simp; done) | (simp; rfl)) works_sound (by simp; rfl) ?_
      refine runD_fin (by simp; rfl) ?_
      refine W_ret ?_
      repeat (first | refine on_ret ?_ | refine in_ret ?_)
      simp [retQ]
    | false =>
      refine W_rdK [4] mx (by decide +kernel) ?_
      refine runD_pre 6 (by simp; rfl) rfl ?_
      refine runD_pre 2 (by simp; rfl) rfl ?_
      refine runD_call (by simp) (by first | (simp; done) | (simp; rfl)) hzer (by simp; rfl) ?_
      refine runD_pre 6 (by simp; rfl) rfl ?_
      refine runD_call (by simp) (by first | (simp; done) | (simp; rfl)) htx (by simp; rfl) ?_
      refine runD_call (by simp) (by first | (simp; done) | (simp; rfl)) hsame (by simp; rfl) ?_
      refine runD_pre 5 (by simp; rfl) rfl ?_
      refine runD_call (by simp) (by first | (simp; done) | (simp; rfl)) hcode (by simp; rfl) ?_
      refine runD_pre 6 (by simp; rfl) rfl ?_
      refine runD_pre 3 (by simp; rfl) rfl ?_
      refine runD_call (by simp) (by first | (simp; done) | (simp; rfl)) works_sound (by simp; rfl) ?_
      refine runD_fin (by simp; rfl) ?_
      refine W_ret ?_
      repeat (first | refine on_ret ?_ | refine in_ret ?_)
      simp [retQ]
end Go.AM
