/- EditBytes: its walk. -/
import Derived.Test.YtnakpjnigfpkpaaC05P2
import Derived.Test.YtnakpjnigfpkpaaC05W
namespace Go.AM
open Go.RowKit Go.Proofs
set_option linter.unusedSimpArgs false
set_option linter.unusedVariables false
set_option maxHeartbeats 1000000

theorem editBytes_sound (pat src : List UInt8) : Sound Try.prog 4 [.lst .any 1 (byL pat), .lst .any 1 (byL src)] (.v (.bool true)) := by
  refine sound_of_W Try.func4 rfl (by decide +kernel) (by simp [Try.f4]) rfl rfl (rs := [.tmp 4]) rfl ?_
  rw [show Try.f4.ntmps = 213 from rfl]
  refine W_evK [0, 1] (by simp; rfl) ?_
  refine W_seq ?_
  refine W_rK [0, 1, 13] ?_
  refine runA_call (by simp) (by simp; rfl) works_sound (by simp; rfl) ?_
  refine runA_fin (by simp; rfl) ?_
  refine W_cond rfl (fun h => by cases h) (fun h => ?_)
  refine W_skip ?_
  refine W_seq ?_
  by_cases hbig : 2000 < pat.length ∨ 2000 < src.length
  · have : ∃ b : Bool, b = true ∧ True := ⟨true, rfl, trivial⟩
    by_cases h1 : 2000 < pat.length
    · have h1' : (2000 : Int) < pat.length := by omega
      refine W_evK [0, 1, 21] (by simp [h1']; rfl) ?_
      refine W_cond rfl (fun h => ?_) (fun h => by cases h)
      refine W_evK [4] (by simp; rfl) ?_
      refine W_ret ?_
      repeat (first | refine on_ret ?_ | refine in_ret ?_)
      simp [retQ]
    · have h1' : ¬ (2000 : Int) < pat.length := by omega
      have h2' : (2000 : Int) < src.length := by omega
      refine W_evK [0, 1, 21] (by simp [h1', h2']; rfl) ?_
      refine W_cond rfl (fun h => ?_) (fun h => by cases h)
      refine W_evK [4] (by simp; rfl) ?_
      refine W_ret ?_
      repeat (first | refine on_ret ?_ | refine in_ret ?_)
      simp [retQ]
  have h1' : ¬ (2000 : Int) < pat.length := by omega
  have h2' : ¬ (2000 : Int) < src.length := by omega
  refine W_evK [0, 1, 21] (by simp [h1', h2']; rfl) ?_
  refine W_cond rfl (fun h => by cases h) (fun h => ?_)
  refine W_skip ?_
  have hed := edit_sound pat src (by omega) (by omega)
  have hbad := @edM_bad pat src
  have hgood := @edM_good pat src
  generalize hm : edM pat src = r at *
  obtain ⟨text, cc, mark, code⟩ := r
  dsimp only at *
  by_cases hc : code = 0
  · subst hc
    obtain ⟨e, hinv, rfl, rfl, rfl, hp1, hp2⟩ := hgood rfl
    have hlen := hinv.len
    have hcc := codeM_le e
    obtain ⟨p0, pt, hpat⟩ : ∃ p0 pt, pat = p0 :: pt := by
      cases pat with
      | nil => simp at hp1
      | cons a b => exact ⟨a, b, rfl⟩
    have hp0 : (byL pat)[0]? = some (.v (.int .u8 p0.toNat)) := by rw [hpat]; rfl
    have hp0h : pat.head? = some p0 := by rw [hpat]; rfl
    refine W_rK [0, 5, 6] ?_
    refine runA_pre 2 (by simp; rfl) rfl ?_
    refine runA_call (by simp) (by simp; rfl) hed (by simp; rfl) ?_
    refine runA_fin (by simp [setSeg]; rfl) ?_
    refine W_seq ?_
    refine W_evK [0, 5, 6, 29] (by simp; rfl) ?_
    refine W_cond rfl (fun h => by cases h) (fun h => ?_)
    refine W_skip ?_
    refine W_seq ?_
    have c1 : ¬ (2 : Int) < (codeM e : Nat) := by omega
    have c2 : ¬ e.mark < -1 := by have := hinv.lo; omega
    have c3 : ¬ (pat.length : Int) ≤ e.mark := by have := hinv.hi; omega
    have c4 : ¬ ((codeM e : Nat) : Int) < 0 := by omega
    refine W_rK [0, 5, 104] ?_
    refine runA_pre 6 (by simp [hlen, c1, c2, c3, c4]; rfl) rfl ?_
    refine runA_pre 6 (by simp [hlen, c1, c2, c3, c4]; rfl) rfl ?_
    refine runA_pre 6 (by simp [hlen, c1, c2, c3, c4]; rfl) rfl ?_
    refine runA_pre 6 (by simp [hlen, c1, c2, c3, c4]; rfl) rfl ?_
    refine runA_fin (by simp [hlen, c1, c2, c3, c4]; rfl) ?_
    refine W_cond rfl (fun h => by cases h) (fun h => ?_)
    refine W_skip ?_
    refine W_seq ?_
    refine W_evK [0, 5, 8] (by simp; rfl) ?_
    refine W_block ?_
    refine W_loop (fun k s => ∃ i : Nat, k = pat.length - i ∧ i ≤ pat.length ∧ s = ⟨213, [(0, .lst .any 1 (byL pat)), (5, .loc 0 0), (8, .v (.int .i64 i))], [.cells 26 [.lst (.tip 5 51) 1 (byL e.text), .v (.int .i64 (codeM e : Nat)), .v (.int .i64 e.mark)]]⟩) (k := pat.length) ⟨0, rfl, by omega, by simp⟩ ?_
    rintro k s ⟨i, rfl, hi, rfl⟩
    refine W_seq ?_
    refine W_evK [0, 5, 8, 108] (by simp; rfl) ?_
    refine W_cond rfl (fun h => ?_) (fun h => ?_)
    · have hil : i < pat.length := by simpa using h
      have hit : i < e.text.length := by omega
      obtain ⟨p, hp⟩ : ∃ p, pat[i]? = some p := ⟨pat[i], by simp [hil]⟩
      obtain ⟨t, ht⟩ : ∃ t, e.text[i]? = some t := ⟨e.text[i], by simp [hit]⟩
      have hbp : (byL pat)[i]? = some (.v (.int .u8 p.toNat)) := by simp [byL_get, hp]
      have hbt : (byL e.text)[i]? = some (.v (.int .u8 t.toNat)) := by simp [byL_get, ht]
      have hg := hinv.good i hil p t hp ht
      refine W_skip ?_
      refine W_seq ?_
      refine W_block ?_

      refine W_cut (fun s => s = ⟨213, [(0, .lst .any 1 (byL pat)), (5, .loc 0 0), (8, .v (.int .i64 i)), (9, .v (.bool (decide (p.toNat = 32 ∨ p.toNat = 33))))], [.cells 26 [.lst (.tip 5 51) 1 (byL e.text), .v (.int .i64 (codeM e : Nat)), .v (.int .i64 e.mark)]]⟩) ?_ ?_
      · by_cases h32 : p.toNat = 32
        · have e32 : (p.toNat : Int) = 32 := by omega
          refine W_rE [0, 5, 8, 9] ?_
          refine runA_pre 6 (by simp [hbp, e32]; rfl) rfl ?_
          refine runA_fin (by simp [hbp, e32]; rfl) ?_
          simp [h32]
        · have e32 : ((p.toNat : Int) == 32) = false := by simp; omega
          have e33 : ((p.toNat : Int) == 33) = decide (p.toNat = 33) := by by_cases hh : p.toNat = 33 <;> simp [hh]; omega
          refine W_rE [0, 5, 8, 9] ?_
          refine runA_pre 6 (by simp [hbp, e32]; rfl) rfl ?_
          refine runA_fin (by simp [hbp, e32, e33]; rfl) ?_
          simp [h32]
      rintro _ rfl

      refine W_cut (fun s => s = ⟨213, [(0, .lst .any 1 (byL pat)), (5, .loc 0 0), (8, .v (.int .i64 i)), (9, .v (.bool (decide (p.toNat = 32 ∨ p.toNat = 33)))), (10, .v (.bool (decide ((p.toNat = 32 ∨ p.toNat = 33) ∧ 240 ≤ t.toNat ∧ t.toNat ≤ 249))))], [.cells 26 [.lst (.tip 5 51) 1 (byL e.text), .v (.int .i64 (codeM e : Nat)), .v (.int .i64 e.mark)]]⟩) ?_ ?_
      · by_cases htk : p.toNat = 32 ∨ p.toNat = 33
        · by_cases h240 : 240 ≤ t.toNat
          · have e1 : (240 : Int) ≤ t.toNat := by omega
            have e2 : decide ((t.toNat : Int) ≤ 249) = decide (t.toNat ≤ 249) := decide_eq_decide.2 (by omega)
            refine W_rE [0, 5, 8, 9, 10] ?_
            refine runA_pre 6 (by simp [htk, hbt]; rfl) rfl ?_
            refine runA_pre 6 (by simp [hbt, e1]; rfl) rfl ?_
            refine runA_fin (by simp [hbt, e2]; rfl) ?_
            simp [htk, h240]
          · have e1 : ¬ (240 : Int) ≤ t.toNat := by omega
            refine W_rE [0, 5, 8, 9, 10] ?_
            refine runA_pre 6 (by simp [htk, hbt]; rfl) rfl ?_
            refine runA_pre 6 (by simp [hbt, e1]; rfl) rfl ?_
            refine runA_fin (by simp [hbt]; rfl) ?_
            simp [htk, h240]
        · refine W_rE [0, 5, 8, 9, 10] ?_
          refine runA_pre 6 (by simp [htk, hbt]; rfl) rfl ?_
          refine runA_pre 6 (by simp [hbt]; rfl) rfl ?_
          refine runA_fin (by simp [hbt]; rfl) ?_
          simp [htk]
      rintro _ rfl

      refine W_cut (fun s => s = ⟨213, [(0, .lst .any 1 (byL pat)), (5, .loc 0 0), (8, .v (.int .i64 i)), (10, .v (.bool (decide ((p.toNat = 32 ∨ p.toNat = 33) ∧ 240 ≤ t.toNat ∧ t.toNat ≤ 249)))), (11, .v (.bool (decide (¬ (p.toNat = 32 ∨ p.toNat = 33) ∧ p.toNat ≠ 34 ∧ t = p))))], [.cells 26 [.lst (.tip 5 51) 1 (byL e.text), .v (.int .i64 (codeM e : Nat)), .v (.int .i64 e.mark)]]⟩) ?_ ?_
      · generalize decide ((p.toNat = 32 ∨ p.toNat = 33) ∧ 240 ≤ t.toNat ∧ t.toNat ≤ 249) = dg
        by_cases htk : p.toNat = 32 ∨ p.toNat = 33
        · refine W_rdE [0, 5, 8, 10, 11] mx (by decide +kernel) ?_
          refine runD_pre 6 (by simp [htk, hbp]; rfl) rfl ?_
          refine runD_pre 6 (by simp [hbp]; rfl) rfl ?_
          refine runD_pre 6 (by simp [hbp]; rfl) rfl ?_
          refine runD_fin (by simp [hbp]; rfl) ?_
          simp [htk]
        · by_cases h34 : p.toNat = 34
          · have e34 : (p.toNat : Int) = 34 := by omega
            refine W_rdE [0, 5, 8, 10, 11] mx (by decide +kernel) ?_
            refine runD_pre 6 (by simp [htk, hbp]; rfl) rfl ?_
            refine runD_pre 6 (by simp [hbp, e34]; rfl) rfl ?_
            refine runD_pre 6 (by simp [hbp]; rfl) rfl ?_
            refine runD_fin (by simp [hbp]; rfl) ?_
            simp [htk, h34]
          · have e34 : ((p.toNat : Int) != 34) = true := by simp; omega
            have ept : ((t.toNat : Int) == p.toNat) = decide (t = p) := by
              by_cases hh : t = p
              · subst hh; simp
              · have : (t.toNat : Int) ≠ p.toNat := fun e => hh (UInt8.toNat_inj.1 (by omega))
                simp [hh, this]
            refine W_rdE [0, 5, 8, 10, 11] mx (by decide +kernel) ?_
            refine runD_pre 6 (by simp [htk, hbp]; rfl) rfl ?_
            refine runD_pre 6 (by simp [hbp, e34, hbt]; rfl) rfl ?_
            refine runD_pre 6 (by simp [hbp, hbt]; rfl) rfl ?_
            refine runD_fin (by simp [hbp, ept]; rfl) ?_
            simp [htk, h34]
      rintro _ rfl

      have fin : ∀ s', evRunD Try.prog [] [] ⟨213, [], []⟩ = some s' → True := fun _ _ => trivial
      have next : W Try.prog Code.skip (fun e s => True) ⟨213, [], []⟩ := W_skip trivial
      refine W_cut (fun s => s = ⟨213, [(0, .lst .any 1 (byL pat)), (5, .loc 0 0), (8, .v (.int .i64 i)), (177, .v (.bool false))], [.cells 26 [.lst (.tip 5 51) 1 (byL e.text), .v (.int .i64 (codeM e : Nat)), .v (.int .i64 e.mark)]]⟩) ?_ ?_
      · by_cases hne : t = p0
        · subst hne
          refine W_rdE [0, 5, 8, 177] mx (by decide +kernel) ?_
          refine runD_pre 6 (by simp [hbt]; rfl) rfl ?_
          refine runD_pre 6 (by simp [hp0]; rfl) rfl ?_
          refine runD_fin (by simp; rfl) ?_
          simp
        · have hne' : ((t.toNat : Int) != p0.toNat) = true := by
            simp
            exact fun e => hne (UInt8.toNat_inj.1 (by omega))
          rcases hg with ⟨q, hq, rfl⟩ | ⟨h3, h4, h5⟩ | ⟨h3, h4, h5, h6⟩
          · rw [hp0h] at hq; cases hq; exact absurd rfl hne
          · have hdg : decide ((p.toNat = 32 ∨ p.toNat = 33) ∧ 240 ≤ t.toNat ∧ t.toNat ≤ 249) = true := decide_eq_true ⟨h3, h4, h5⟩
            rw [hdg]
            generalize decide (¬ (p.toNat = 32 ∨ p.toNat = 33) ∧ p.toNat ≠ 34 ∧ t = p) = mg
            refine W_rdE [0, 5, 8, 177] mx (by decide +kernel) ?_
            refine runD_pre 6 (by simp [hbt]; rfl) rfl ?_
            refine runD_pre 6 (by simp [hp0, hne']; rfl) rfl ?_
            refine runD_fin (by simp; rfl) ?_
            simp
          · have hmg : decide (¬ (p.toNat = 32 ∨ p.toNat = 33) ∧ p.toNat ≠ 34 ∧ t = p) = true := by simp [h3, h4, h5, h6]
            rw [hmg]
            generalize decide ((p.toNat = 32 ∨ p.toNat = 33) ∧ 240 ≤ t.toNat ∧ t.toNat ≤ 249) = dg
            refine W_rdE [0, 5, 8, 177] mx (by decide +kernel) ?_
            refine runD_pre 6 (by simp [hbt]; rfl) rfl ?_
            cases dg <;>
            · refine runD_pre 6 (by simp [hp0, hne']; rfl) rfl ?_
              refine runD_fin (by simp; rfl) ?_
              simp
      rintro _ rfl
      refine W_cond rfl (fun h => by cases h) (fun h => ?_)
      refine W_skip ?_
      refine W_evE [0, 5, 8] (by simp; rfl) ?_
      exact ⟨pat.length - (i + 1), by omega, i + 1, rfl, by omega, by simp (disch := first | omega | simp) [w64]⟩
    refine W_exit ?_
    refine W_seq ?_
    refine W_evK [0, 5, 180] (by simp; rfl) ?_
    refine W_cond rfl (fun h => ?_) (fun h => ?_)
    · have hm0 : 0 ≤ e.mark := by simpa using h
      obtain ⟨p, t, h1, h2, h3, h4, h5⟩ := hinv.mkd hm0
      obtain ⟨m, hmm⟩ : ∃ m : Nat, e.mark = m := ⟨e.mark.toNat, by omega⟩
      rw [hmm] at h1 h2 ⊢
      rw [Int.toNat_natCast] at h1 h2
      have hbp : (byL pat)[m]? = some (.v (.int .u8 p.toNat)) := by simp [byL_get, h1]
      have hbt : (byL e.text)[m]? = some (.v (.int .u8 t.toNat)) := by simp [byL_get, h2]
      have e1 : (240 : Int) < t.toNat := by omega
      have e2 : (t.toNat : Int) ≤ 249 := by omega
      have e33 : ((p.toNat : Int) == 32) = false → (p.toNat : Int) = 33 := by simp; omega
      by_cases h32 : p.toNat = 32
      · have e32 : (p.toNat : Int) = 32 := by omega
        refine W_rK [4] ?_
        refine runA_pre 6 (by simp [hbt]; rfl) rfl ?_
        refine runA_pre 6 (by simp [hbt, e1]; rfl) rfl ?_
        refine runA_pre 6 (by simp [hbt, e2]; rfl) rfl ?_
        refine runA_pre 6 (by simp [hbp, e32]; rfl) rfl ?_
        refine runA_pre 6 (by simp [hbp]; rfl) rfl ?_
        refine runA_fin (by simp; rfl) ?_
        refine W_ret ?_
        repeat (first | refine on_ret ?_ | refine in_ret ?_)
        simp [retQ]
      · have e32 : ((p.toNat : Int) == 32) = false := by simp; omega
        have e33' := e33 e32
        refine W_rK [4] ?_
        refine runA_pre 6 (by simp [hbt]; rfl) rfl ?_
        refine runA_pre 6 (by simp [hbt, e1]; rfl) rfl ?_
        refine runA_pre 6 (by simp [hbt, e2]; rfl) rfl ?_
        refine runA_pre 6 (by simp [hbp, e33']; rfl) rfl ?_
        refine runA_pre 6 (by simp [hbp, e33']; rfl) rfl ?_
        refine runA_fin (by simp; rfl) ?_
        refine W_ret ?_
        repeat (first | refine on_ret ?_ | refine in_ret ?_)
        simp [retQ]
    refine W_skip ?_
    refine W_evK [4] (by simp; rfl) ?_
    refine W_ret ?_
    repeat (first | refine on_ret ?_ | refine in_ret ?_)
    simp [retQ]
  · obtain ⟨rfl, rfl, rfl, hcases⟩ := hbad hc
    have hc' : ((code : Int) != 0) = true := by simpa using hc
    rw [if_neg hc] at hed
    refine W_rK [0, 5, 6] ?_
    refine runA_pre 2 (by simp; rfl) rfl ?_
    refine runA_call (by simp) (by simp; rfl) hed (by simp; rfl) ?_
    refine runA_fin (by simp [setSeg]; rfl) ?_
    refine W_seq ?_
    refine W_evK [0, 5, 6, 29] (by simp; rfl) ?_
    refine W_cond rfl (fun h => ?_) (fun h => absurd h (by simpa using hc))
    refine W_cut (fun s => s = ⟨213, [(5, .loc 0 0), (7, .v (.bool true))], [.cells 26 [.lst .nil 1 [], .v (.int .i64 0), .v (.int .i64 0)]]⟩) ?_ ?_
    · rcases hcases with ⟨rfl, hl⟩ | ⟨hcode, hl1, hl2⟩
      · by_cases hl0 : pat.length = 0
        · refine W_rE [5, 7] ?_
          refine runA_pre 6 (by simp [hl0]; rfl) rfl ?_
          refine runA_pre 6 (by simp; rfl) rfl ?_
          refine runA_pre 6 (by simp; rfl) rfl ?_
          refine runA_pre 6 (by simp; rfl) rfl ?_
          refine runA_fin (by simp; rfl) ?_
          simp
        · have e0 : ((pat.length : Int) == 0) = false := by simpa using hl0
          have e256 : (256 : Int) < pat.length := by omega
          refine W_rE [5, 7] ?_
          refine runA_pre 6 (by simp [e0]; rfl) rfl ?_
          refine runA_pre 6 (by simp [e256]; rfl) rfl ?_
          refine runA_pre 6 (by simp; rfl) rfl ?_
          refine runA_pre 6 (by simp; rfl) rfl ?_
          refine runA_fin (by simp; rfl) ?_
          simp
      · have e0 : (0 : Int) < pat.length := by omega
        have e256 : (pat.length : Int) ≤ 256 := by omega
        have hl1 : 0 < pat.length := by omega
        have hl2 : pat.length ≤ 256 := by omega
        rcases hcode with rfl | rfl
        · refine W_rE [5, 7] ?_
          refine runA_pre 6 (by simp [e0, e256, hl1, hl2]; rfl) rfl ?_
          refine runA_pre 6 (by simp [e0, e256, hl1, hl2]; rfl) rfl ?_
          refine runA_pre 6 (by simp [e0, e256, hl1, hl2]; rfl) rfl ?_
          refine runA_pre 6 (by simp [e0, e256, hl1, hl2]; rfl) rfl ?_
          refine runA_fin (by simp [e0, e256, hl1, hl2]; rfl) ?_
          simp
        · refine W_rE [5, 7] ?_
          refine runA_pre 6 (by simp [e0, e256, hl1, hl2]; rfl) rfl ?_
          refine runA_pre 6 (by simp [e0, e256, hl1, hl2]; rfl) rfl ?_
          refine runA_pre 6 (by simp [e0, e256, hl1, hl2]; rfl) rfl ?_
          refine runA_pre 6 (by simp [e0, e256, hl1, hl2]; rfl) rfl ?_
          refine runA_fin (by simp [e0, e256, hl1, hl2]; rfl) ?_
          simp
    rintro _ rfl
    refine W_rK [4] ?_
    refine runA_pre 6 (by simp; rfl) rfl ?_
    refine runA_pre 6 (by simp; rfl) rfl ?_
    refine runA_fin (by simp; rfl) ?_
    refine W_ret ?_
    repeat (first | refine on_ret ?_ | refine in_ret ?_)
    simp [retQ]
end Go.AM
