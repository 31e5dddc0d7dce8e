/- EditStart: its walk. -/
import Derived.Test.YtnakpjnigfpkpaaC05L6
namespace Go.AM
open Go.RowKit Go.Proofs
set_option linter.unusedSimpArgs false
set_option linter.unusedVariables false
set_option maxHeartbeats 1000000

theorem digM_pos (ds : List UInt8) : 0 < (digM ds).length := by have := digM_odd ds; omega

theorem editStart_sound (ds : List UInt8) (neg : Bool) (tl : List UInt8) (fill0 at_ : UInt8) : Sound Try.prog 7 [numA ds neg tl, .v (.int .u8 fill0.toNat), .v (.int .u8 at_.toNat)] (.v (.bool true)) := by
  refine sound_of_W Try.func7 rfl (by decide +kernel) (by simp [Try.f7]) rfl rfl (rs := [.tmp 6]) rfl ?_
  rw [show Try.f7.ntmps = 71 from rfl]
  refine W_evK [1, 2, 3] (by simp; rfl) ?_
  refine W_cut (fun s => ∃ (fill : UInt8) (b : Bool), plainM fill = true ∧ s = ⟨71, [(1, .v (.int .u8 fill.toNat)), (2, .v (.int .u8 at_.toNat)), (3, .loc 0 0), (15, .v (.bool b))], [.cells 37 [.lst .any 1 (byL ds), .v (.bool neg), .lst .any 1 (byL tl)]]⟩) ?_ ?_
  · have hpl := plain_sound fill0
    by_cases hp : plainM fill0 = true
    · rw [show decide (fill0.toNat < 32 ∨ 34 < fill0.toNat) = true from hp] at hpl
      refine W_rK [1, 2, 3, 15] ?_
      refine runA_pre 1 (by simp; rfl) rfl ?_
      refine runA_call (by simp) (by simp; rfl) hpl (by simp; rfl) ?_
      refine runA_fin (by simp; rfl) ?_
      refine W_cond rfl (fun h => by cases h) (fun h => ?_)
      refine W_skip ?_
      exact ⟨fill0, false, hp, rfl⟩
    · rw [show decide (fill0.toNat < 32 ∨ 34 < fill0.toNat) = false by simpa [plainM] using hp] at hpl
      refine W_rK [1, 2, 3, 15] ?_
      refine runA_pre 1 (by simp; rfl) rfl ?_
      refine runA_call (by simp) (by simp; rfl) hpl (by simp; rfl) ?_
      refine runA_fin (by simp; rfl) ?_
      refine W_cond rfl (fun h => ?_) (fun h => by cases h)
      refine W_evE [1, 2, 3, 15] (by simp; rfl) ?_
      exact ⟨64, true, by decide, rfl⟩
  rintro _ ⟨fill, b, hf, rfl⟩
  have hpos := digM_pos ds
  have hlen := digM_len ds
  have hat := at_.toNat_lt
  obtain ⟨k, hk⟩ : ∃ k : Nat, k = at_.toNat % (digM ds).length := ⟨_, rfl⟩
  have hkl : k < (digM ds).length := by rw [hk]; exact Nat.mod_lt _ hpos
  have hrem : ((at_.toNat : Int).tmod ((digM ds).length : Int)) = (k : Nat) := by rw [hk]; rfl
  have hone := edM_one (ds := ds) (tl := tl) (neg := neg) (k := k) hf
  have hed := edit_any (patM fill k ds tl) (packM ds neg) (by have := packM_len ds neg; omega) (by have := patM_len fill k ds tl; omega)
  rw [hone] at hed
  have hz := zerM_le (digM ds)
  have hcode := ncode_sound ds neg tl
  have hzer := zeros_sound ds neg tl
  have hdig := digits_sound ds neg tl
  have hpat := pattern_sound ds neg tl fill k
  have hpack := packed_sound ds neg tl
  dsimp only at hed
  have hon : onF k ds neg = neg := by simp [onF, onM, hkl]
  rw [hon] at hed
  have hw0 : IntKind.i64.wrap ((at_.toNat : Int)) = at_.toNat := w64 (by omega) (by omega)
  have hw1 : IntKind.i64.wrap ((k : Int)) = k := w64 (by omega) (by omega)
  have htl := textM_len fill (fromM (zerM (digM ds)) k) neg ds tl
  have htx := text_sound ds neg tl fill (fromM (zerM (digM ds)) k) neg
  have hsame := same_sound (textM fill (fromM (zerM (digM ds)) k) neg ds tl) (textM fill (fromM (zerM (digM ds)) k) neg ds tl) (by omega)
  have hcc : (if zerM (digM ds) < (digM ds).length then (if neg = true then 1 else 2) else 0 : Nat) = ncodeM ds neg := by
    unfold ncodeM
    by_cases h : zerM (digM ds) = (digM ds).length
    · simp [h]
    · rw [if_pos (by omega), if_neg h]
  rw [hcc] at hed
  generalize hnc : ncodeM ds neg = nc at *
  generalize hT : textM fill (fromM (zerM (digM ds)) k) neg ds tl = T at *
  generalize hpp : patM fill k ds tl = pp at *
  generalize hpk : packM ds neg = pk at *
  generalize hzz : zerM (digM ds) = z at *
  generalize hdd : digM ds = dd at *
  refine W_rK [1, 2, 3, 7] ?_
  refine runA_pre 1 (by simp; rfl) rfl ?_
  refine runA_call (by simp) (by first | (simp; done) | (simp; rfl)) hdig (by simp; rfl) ?_
  refine runA_fin (by simp; rfl) ?_
  have hd0 : dd ≠ [] := by intro h; rw [h] at hpos; simp at hpos
  refine W_evK [1, 3, 8] (by simp [hw0, hrem, hw1, hd0]; rfl) ?_
  refine W_rdK [1, 3, 8, 9, 10] mx (by decide +kernel) ?_
  refine runD_pre 3 (by simp; rfl) rfl ?_
  refine runD_call (by simp) (by first | (simp; done) | (simp; rfl)) hpat (by simp; rfl) ?_
  refine runD_pre 1 (by simp; rfl) rfl ?_
  refine runD_call (by simp) (by first | (simp; done) | (simp; rfl)) hpack (by simp; rfl) ?_
  refine runD_call (by simp) (by first | (simp; done) | (simp; rfl)) hed (by simp; rfl) ?_
  refine runD_fin (by simp [setSeg]; rfl) ?_
  refine W_rK [1, 3, 8, 9, 10, 11] ?_
  refine runA_pre 1 (by simp; rfl) rfl ?_
  refine runA_call (by simp) (by first | (simp; done) | (simp; rfl)) hzer (by simp; rfl) ?_
  refine runA_fin (by simp; rfl) ?_
  have hw : IntKind.i64.wrap (1 + (z : Int)) = (z + 1 : Nat) := by rw [w64 (by omega) (by omega)]; omega
  refine W_evK [1, 3, 8, 9, 10, 11, 12] (by simp [hw]; rfl) ?_
  refine W_cut (fun s => s = ⟨71, [(1, .v (.int .u8 fill.toNat)), (3, .loc 0 0), (9, .loc 1 0), (10, .v (.int .i64 0)), (11, .v (.int .i64 (fromM z k))), (12, .v (.int .i64 (markM z k 1 (-1) dd.length)))], [.cells 37 [.lst .any 1 (byL ds), .v (.bool neg), .lst .any 1 (byL tl)], .cells 26 [.lst .any 1 (byL T), .v (.int .i64 nc), .v (.int .i64 (markM z k 1 (-1) dd.length))]]⟩) ?_ ?_
  · by_cases hzk : (k : Int) < z
    · have hzk' : k < z := by omega
      have hw2 : IntKind.i64.wrap ((k : Int) + 1) = (k : Int) + 1 := w64 (by omega) (by omega)
      have h1 : fromM z k = (k : Int) + 1 := by simp [fromM, hzk']
      have h2 : markM z k 1 (-1) dd.length = -1 := by simp [markM, hzk']
      rw [h1, h2]
      refine W_evK [1, 3, 8, 9, 10, 11, 12, 39] (by simp [hzk, hzk']; rfl) ?_
      refine W_cond rfl (fun h => ?_) (fun h => by cases h)
      refine W_evK [1, 3, 9, 10, 11] (by simp [hw2]; rfl) ?_
      refine W_evE [1, 3, 9, 10, 11, 12] (by simp; rfl) ?_
      rfl
    · have hzk' : ¬ k < z := by omega
      have h1 : fromM z k = z := by simp [fromM, hzk']
      have h2 : markM z k 1 (-1) dd.length = (z + 1 : Nat) := by
        unfold markM
        rw [if_pos (by omega), Nat.add_comm]
      rw [h1, h2]
      refine W_evK [1, 3, 9, 10, 11, 12, 39] (by simp [hzk, hzk']; rfl) ?_
      refine W_cond rfl (fun h => by cases h) (fun h => ?_)
      refine W_keepS [1, 3, 9, 10, 11, 12] ?_
      refine W_skip ?_
      rfl
  rintro _ rfl
  generalize hmm : markM z k 1 (-1) dd.length = mm at *
  generalize hff : fromM z k = ff at *
  refine W_rdK [6] mx (by decide +kernel) ?_
  refine runD_pre 6 (by simp; rfl) rfl ?_
  refine runD_pre 4 (by simp; rfl) rfl ?_
  refine runD_call (by simp) (by first | (simp; done) | (simp; rfl)) htx (by simp; rfl) ?_
  refine runD_call (by simp) (by first | (simp; done) | (simp; rfl)) hsame (by simp; rfl) ?_
  refine runD_pre 5 (by simp; rfl) rfl ?_
  refine runD_call (by simp) (by first | (simp; done) | (simp; rfl)) hcode (by simp; rfl) ?_
  refine runD_pre 6 (by simp; rfl) rfl ?_
  refine runD_pre 3 (by simp; rfl) rfl ?_
  refine runD_call (by simp) (by first | (simp; done) | (simp; rfl)) works_sound (by simp; rfl) ?_
  refine runD_fin (by simp; rfl) ?_
  refine W_ret ?_
  repeat (first | refine on_ret ?_ | refine in_ret ?_)
  simp [retQ]
end Go.AM
