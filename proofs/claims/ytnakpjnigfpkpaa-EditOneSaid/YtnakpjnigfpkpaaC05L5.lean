/- EditPrefixes: its walk. -/
import Derived.Test.YtnakpjnigfpkpaaC05P3
import Derived.Test.YtnakpjnigfpkpaaC05W
import Derived.Test.YtnakpjnigfpkpaaAmC
namespace Go.AM
open Go.RowKit Go.Proofs
set_option linter.unusedSimpArgs false
set_option linter.unusedVariables false
set_option maxHeartbeats 1000000

theorem edit_any (pat src : List UInt8) (hs : src.length ≤ 9000) (hp : pat.length ≤ 9000) :
    Sound Try.prog 12 [.lst .any 1 (byL pat), .lst .any 1 (byL src)]
      (.tup [.agg [.lst .any 1 (byL (edM pat src).1), .v (.int .i64 ((edM pat src).2.1 : Nat)), .v (.int .i64 (edM pat src).2.2.1)], .v (.int .i64 ((edM pat src).2.2.2 : Nat))]) := by
  simpa [AV.weak, AV.weakL] using (edit_sound pat src hs hp).weakR

theorem editPrefixes_sound (pat src more : List UInt8) (n : UInt8) : Sound Try.prog 5 [.lst .any 1 (byL pat), .lst .any 1 (byL src), .agg [.lst .any 1 (byL more), .v (.int .u8 n.toNat)]] (.v (.bool true)) := by
  refine sound_of_W Try.func5 rfl (by decide +kernel) (by simp [Try.f5]) rfl rfl (rs := [.tmp 6]) rfl ?_
  rw [show Try.f5.ntmps = 113 from rfl]
  refine W_evK [0, 1, 5] (by simp; rfl) ?_
  refine W_evK [0, 1, 5, 7] (by simp; rfl) ?_
  refine W_seq ?_
  refine W_rK [0, 1, 5, 7, 18] ?_
  refine runA_call (by simp) (by simp; rfl) works_sound (by simp; rfl) ?_
  refine runA_fin (by simp; rfl) ?_
  refine W_cond rfl (fun h => by cases h) (fun h => ?_)
  refine W_skip ?_
  refine W_seq ?_
  refine W_cut (fun s => s = ⟨113, [(0, .lst .any 1 (byL pat)), (1, .lst .any 1 (byL src)), (5, .loc 0 0), (7, .lst .any 1 (byL more)), (36, .v (.bool (decide (2000 < pat.length ∨ 2000 < src.length ∨ 2000 < more.length ∨ pat.length = 0))))], [.cells 34 [.lst .any 1 (byL more), .v (.int .u8 n.toNat)]]⟩) ?_ ?_
  · by_cases h1 : 2000 < pat.length
    · have h1' : (2000 : Int) < pat.length := by omega
      refine W_rE [0, 1, 5, 7, 36] ?_
      refine runA_pre 6 (by simp [h1']; rfl) rfl ?_
      refine runA_pre 6 (by simp; rfl) rfl ?_
      refine runA_fin (by simp; rfl) ?_
      simp [h1]
    have h1' : ¬ (2000 : Int) < pat.length := by omega
    by_cases h2 : 2000 < src.length
    · have h2' : (2000 : Int) < src.length := by omega
      refine W_rE [0, 1, 5, 7, 36] ?_
      refine runA_pre 6 (by simp [h1']; rfl) rfl ?_
      refine runA_pre 6 (by simp [h2']; rfl) rfl ?_
      refine runA_fin (by simp; rfl) ?_
      simp [h2]
    have h2' : ¬ (2000 : Int) < src.length := by omega
    by_cases h3 : 2000 < more.length
    · have h3' : (2000 : Int) < more.length := by omega
      refine W_rE [0, 1, 5, 7, 36] ?_
      refine runA_pre 6 (by simp [h1']; rfl) rfl ?_
      refine runA_pre 6 (by simp [h2', h3']; rfl) rfl ?_
      refine runA_fin (by simp [h3']; rfl) ?_
      simp [h3]
    have h3' : ¬ (2000 : Int) < more.length := by omega
    have e0 : ((pat.length : Int) == 0) = decide (pat.length = 0) := by by_cases hh : pat.length = 0 <;> simp [hh]
    refine W_rE [0, 1, 5, 7, 36] ?_
    refine runA_pre 6 (by simp [h1']; rfl) rfl ?_
    refine runA_pre 6 (by simp [h2', h3']; rfl) rfl ?_
    refine runA_fin (by simp [h3', e0]; rfl) ?_
    simp [h1, h2, h3]
  rintro _ rfl
  refine W_cond rfl (fun h => ?_) (fun h => ?_)
  · refine W_evK [6] (by simp; rfl) ?_
    refine W_ret ?_
    repeat (first | refine on_ret ?_ | refine in_ret ?_)
    simp [retQ]
  have hh : ¬ (2000 < pat.length ∨ 2000 < src.length ∨ 2000 < more.length ∨ pat.length = 0) := by simpa using h
  have hp1 : 0 < pat.length := by omega
  have hpl : (0 : Int) < pat.length := by omega
  refine W_skip ?_
  obtain ⟨k, hk⟩ : ∃ k, k = n.toNat % pat.length + 1 := ⟨_, rfl⟩
  have hk1 : 1 ≤ k := by omega
  have hk2 : k ≤ pat.length := by have := Nat.mod_lt n.toNat hp1; omega
  refine W_cut (fun s => s = ⟨113, [(0, .lst .any 1 (byL pat)), (1, .lst .any 1 (byL src)), (7, .lst .any 1 (byL more)), (8, .v (.int .i64 k))], [.cells 34 [.lst .any 1 (byL more), .v (.int .u8 n.toNat)]]⟩) ?_ ?_
  · have hn := n.toNat_lt
    have hne : pat ≠ [] := by rintro rfl; simp at hp1
    have hw : IntKind.i64.wrap (n.toNat : Int) = n.toNat := w64 (by omega) (by omega)
    have hm : (n.toNat : Int).tmod pat.length = (n.toNat % pat.length : Nat) := (Int.ofNat_tmod _ _).symm
    obtain ⟨j, hj⟩ : ∃ j, j = n.toNat % pat.length := ⟨_, rfl⟩
    rw [← hj] at hm hk
    have hw2 : IntKind.i64.wrap ((j : Int) + 1) = k := by rw [w64 (by omega) (by omega)]; omega
    refine W_evE [0, 1, 7, 8] (by simp [hne, hw, hm, hw2]; rfl) ?_
    simp
  rintro _ rfl
  have hed := edit_any pat src (by omega) (by omega)
  have hed2 := edit_any (pat.take k) src (by omega) (by rw [List.length_take]; omega)
  have hed3 := edit_any pat (src ++ more) (by rw [List.length_append]; omega) (by omega)
  have hpre := @edM_prefix pat src k hk1 hk2
  have hext := @edM_ext pat src more
  have hgood := @edM_good pat src
  have hbad := @edM_bad pat src
  have hbad2 := @edM_bad (pat.take k) src
  generalize hm : edM pat src = r at *
  generalize hm2 : edM (pat.take k) src = r2 at *
  generalize hm3 : edM pat (src ++ more) = r3 at *
  obtain ⟨text, cc, mark, code⟩ := r
  obtain ⟨text2, cc2, mark2, code2⟩ := r2
  obtain ⟨text3, cc3, mark3, code3⟩ := r3
  dsimp only at *
  refine W_rK [0, 1, 7, 8, 9, 10] ?_
  refine runA_pre 2 (by simp; rfl) rfl ?_
  refine runA_call (by simp) (by simp; rfl) hed (by simp; rfl) ?_
  refine runA_fin (by simp [setSeg]; rfl) ?_
  refine W_rK [0, 1, 7, 8, 9, 10, 11, 12] ?_
  refine runA_pre 4 (by simp [hk2]; rfl) rfl ?_
  refine runA_call (by simp) (by simp [← byL_take]; rfl) hed2 (by simp; rfl) ?_
  refine runA_fin (by simp [setSeg]; rfl) ?_
  refine W_seq ?_

  have hsm := same_sound text2 (text.take k)
  refine W_cut (fun s => s = ⟨113, [(0, .lst .any 1 (byL pat)), (1, .lst .any 1 (byL src)), (7, .lst .any 1 (byL more)), (9, .loc 1 0), (10, .v (.int .i64 (code : Nat))), (73, .v (.bool false))], [.cells 34 [.lst .any 1 (byL more), .v (.int .u8 n.toNat)], .cells 26 [.lst .any 1 (byL text), .v (.int .i64 (cc : Nat)), .v (.int .i64 mark)], .cells 26 [.lst .any 1 (byL text2), .v (.int .i64 (cc2 : Nat)), .v (.int .i64 mark2)]]⟩) ?_ ?_
  · by_cases hc : code = 0
    · subst hc
      obtain ⟨rfl, rfl⟩ := hpre rfl
      obtain ⟨e, hinv, rfl, rfl, rfl, _, h256⟩ := hgood rfl
      have hlen := hinv.len
      have hkl : k ≤ e.text.length := by omega
      refine W_rdE [0, 1, 7, 9, 10, 73] mx (by decide +kernel) ?_
      refine runD_pre 6 (by simp; rfl) rfl ?_
      refine runD_pre 6 (by simp [hkl]; rfl) rfl ?_
      refine runD_call (by simp) (by simp [← byL_take]) (hsm (by rw [List.length_take]; omega)) (by simp; rfl) ?_
      refine runD_fin (by simp; rfl) ?_
      simp
    · have hc' : ((code : Int) == 0) = false := by simpa using hc
      refine W_rdE [0, 1, 7, 9, 10, 73] mx (by decide +kernel) ?_
      refine runD_pre 6 (by simp [hc']; rfl) rfl ?_
      refine runD_pre 6 (by simp; rfl) rfl ?_
      refine runD_fin (by simp; rfl) ?_
      simp
  rintro _ rfl
  refine W_cond rfl (fun h => by cases h) (fun h => ?_)
  refine W_skip ?_
  refine W_rK [9, 10, 13, 14] ?_
  refine runA_pre 6 (by simp [← byL_append, show src.length ≤ 140737488355328 by omega, show src.length + more.length ≤ 140737488355328 by omega]; rfl) rfl ?_
  refine runA_call (by simp) (by simp; rfl) hed3 (by simp; rfl) ?_
  refine runA_fin (by simp [setSeg]; rfl) ?_
  refine W_seq ?_
  by_cases hc5 : code = 5
  · subst hc5
    refine W_rK [112] ?_
    refine runA_pre 6 (by simp; rfl) rfl ?_
    refine runA_pre 6 (by simp; rfl) rfl ?_
    refine runA_pre 6 (by simp; rfl) rfl ?_
    refine runA_pre 7 (by simp; rfl) rfl ?_
    refine runA_skip (by simp; rfl) (by simp; rfl) ?_
    refine runA_fin (by simp; rfl) ?_
    refine W_cond rfl (fun h => by cases h) (fun h => ?_)
    refine W_skip ?_
    refine W_evK [6] (by simp; rfl) ?_
    refine W_ret ?_
    repeat (first | refine on_ret ?_ | refine in_ret ?_)
    simp [retQ]
  · have := hext hc5
    cases this
    have hc5' : ((code : Int) != 5) = true := by simp; omega
    have hlen : text.length ≤ 9000 := by
      by_cases hc : code = 0
      · obtain ⟨e, hinv, rfl, rfl, rfl, _, h256⟩ := hgood hc
        have := hinv.len
        omega
      · rw [(hbad hc).1]; simp
    refine W_rK [112] ?_
    refine runA_pre 6 (by simp [hc5']; rfl) rfl ?_
    refine runA_pre 6 (by simp; rfl) rfl ?_
    refine runA_pre 6 (by simp; rfl) rfl ?_
    refine runA_pre 7 (by simp; rfl) rfl ?_
    refine runA_call (by simp) (by simp; rfl) (same_sound text text hlen) (by simp; rfl) ?_
    refine runA_fin (by simp; rfl) ?_
    refine W_cond rfl (fun h => by cases h) (fun h => ?_)
    refine W_skip ?_
    refine W_evK [6] (by simp; rfl) ?_
    refine W_ret ?_
    repeat (first | refine on_ret ?_ | refine in_ret ?_)
    simp [retQ]
end Go.AM
