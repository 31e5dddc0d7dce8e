/- EditCalls: the law's walk. -/
import Derived.Test.YtnakpjnigfpkpaaC05R3
import Derived.Test.YtnakpjnigfpkpaaC05W
import Derived.Test.YtnakpjnigfpkpaaAmC
namespace Go.AM
open Go.RowKit Go.Proofs
set_option linter.unusedSimpArgs false
set_option linter.unusedVariables false
set_option maxHeartbeats 2000000

theorem shalL_byL05 (l : List UInt8) : AV.shalL (byL l) = true := by
  unfold AV.shalL byL
  simp only [List.all_map, List.all_eq_true]
  intro b _
  rfl
theorem runM_len (src : List UInt8) (p0 : UInt8) : ∀ (cs : List UInt8) (i : Nat) (e : Ed), (runM src p0 cs i e).2.text.length = e.text.length ∧ (runM src p0 cs i e).1 ≤ 7
  | [], i, e => by simp [runM]
  | c :: cs, i, e => by
    have h1 := stepM_text src p0 i c e
    unfold runM
    split
    · exact ⟨h1.1, h1.2.2⟩
    · have h2 := runM_len src p0 cs (i + 1) (stepM src p0 i c e).2
      exact ⟨h2.1.trans h1.1, h2.2⟩
theorem edM_len (pat src : List UInt8) : (edM pat src).1.length ≤ 256 ∧ ((edM pat src).2.2.2 ≠ 0 → (edM pat src).1 = []) := by
  unfold edM
  split
  · simp
  · rename_i h
    have h1 := runM_len src (pat.headD 0) pat 0 (ed0 pat.length)
    dsimp only
    split
    · simp
    · refine ⟨?_, fun h => absurd rfl h⟩
      have : (ed0 pat.length).text.length = pat.length := by simp [ed0]
      dsimp only
      omega

theorem swL_byL (i j : Nat) (l : List UInt8) (n : Nat) : AV.swL i j (byL l ++ List.replicate n .any) = byL l ++ List.replicate n .any := by
  induction l with
  | nil =>
    induction n with
    | zero => rfl
    | succ n ih => simp only [byL, List.map_nil, List.nil_append, List.replicate_succ, AV.swL] at ih ⊢; rw [ih]; rfl
  | cons b l ih => simp only [byL, List.map_cons, List.cons_append, AV.swL] at ih ⊢; rw [ih]; rfl
@[simp] theorem toksL_anys (l : List UInt8) (n : Nat) : AV.toksL (byL l ++ List.replicate n AV.any) = [] := by
  induction l with
  | nil =>
    induction n with
    | zero => rfl
    | succ n ih => simpa [byL, List.replicate_succ, AV.toksL, AV.toks] using ih
  | cons b l ih => simpa [byL, AV.toksL, AV.toks] using ih
def frE (pat src : List UInt8) (b : Nat) : List (Nat × AV) := [(0, .lst .any 1 (byL pat)), (1, .lst .any 1 (byL src)), (5, .lst (.tip 5 47) 1 (byL (pat ++ List.replicate 8 7))), (6, .lst (.tip 5 51) 1 (byL (src ++ List.replicate 8 7))), (7, .loc b 0), (8, .v (.int .i64 0))]
def stA (pat src text : List UInt8) (cc : Nat) (mark : Int) (cap : Nat) : St := ⟨94, frE pat src 1, [.cells 5 (byL text ++ List.replicate (cap - text.length) .any), .cells 26 [.arr 0 0 text.length cap, .v (.int .i64 cc), .v (.int .i64 mark)]]⟩
def stB (pat src text : List UInt8) (cc : Nat) (mark : Int) (cap : Nat) : St := ⟨94, frE pat src 0, [.cells 26 [.arr 1 0 text.length cap, .v (.int .i64 cc), .v (.int .i64 mark)], .cells 5 (byL text ++ List.replicate (cap - text.length) .any)]⟩
def stN (pat src : List UInt8) (cc : Nat) (mark : Int) : St := ⟨94, frE pat src 0, [.cells 26 [.lst .nil 1 [], .v (.int .i64 cc), .v (.int .i64 mark)]]⟩
theorem st_swap (pat src text : List UInt8) (cc : Nat) (mark : Int) (cap : Nat) : swSt 0 1 (stA pat src text cc mark cap) = stB pat src text cc mark cap := by
  simp [swSt, stA, stB, frE, AObj.sw, AV.sw, AV.swL, swL_byL, sw]
theorem editCalls_sound (pat src : List UInt8) : Sound Try.prog 3 [.lst .any 1 (byL pat), .lst .any 1 (byL src)] (.v (.bool true)) := by
  refine sound_of_W Try.func3 rfl (by decide +kernel) (by simp [Try.f3]) rfl rfl (rs := [.tmp 4]) rfl ?_
  rw [show Try.f3.ntmps = 94 from rfl]
  refine W_evK [0, 1] (by simp; rfl) ?_
  refine W_seq ?_
  refine W_rK [0, 1, 13] ?_
  refine runA_call (by simp) (by simp; rfl) works_sound (by simp; rfl) ?_
  refine runA_fin (by simp; rfl) ?_
  refine W_cond rfl (fun h => by cases h) (fun h => ?_)
  refine W_skip ?_
  refine W_seq ?_
  by_cases h1 : 2000 < pat.length
  · have h1' : (2000 : Int) < pat.length := by omega
    refine W_evK [0, 1, 21] (by simp [h1, h1']; rfl) ?_
    refine W_cond rfl (fun h => ?_) (fun h => by simp at h)
    refine W_evK [4] (by simp; rfl) ?_
    refine W_ret ?_
    repeat (first | refine on_ret ?_ | refine in_ret ?_)
    simp [retQ]
  by_cases h2 : 2000 < src.length
  · have h1' : ¬ (2000 : Int) < pat.length := by omega
    have h2' : (2000 : Int) < src.length := by omega
    refine W_evK [0, 1, 21] (by simp [h1, h1', h2, h2']; rfl) ?_
    refine W_cond rfl (fun h => ?_) (fun h => by simp at h)
    refine W_evK [4] (by simp; rfl) ?_
    refine W_ret ?_
    repeat (first | refine on_ret ?_ | refine in_ret ?_)
    simp [retQ]
  have h1' : ¬ (2000 : Int) < pat.length := by omega
  have h2' : ¬ (2000 : Int) < src.length := by omega
  refine W_evK [0, 1, 21] (by simp [h1, h1', h2, h2']; rfl) ?_
  refine W_cond rfl (fun h => by simp at h) (fun h => ?_)
  refine W_skip ?_
  refine W_rK [0, 1, 5] ?_
  refine runA_pre 1 (by simp; rfl) rfl ?_
  refine runA_call (by simp) (by first | (simp; done) | (simp; rfl)) (lent_sound pat (by omega)) (by simp; rfl) ?_
  refine runA_fin (by simp; rfl) ?_
  refine W_rK [0, 1, 5, 6] ?_
  refine runA_pre 1 (by simp; rfl) rfl ?_
  refine runA_call (by simp) (by first | (simp; done) | (simp; rfl)) (lent_sound src (by omega)) (by simp; rfl) ?_
  refine runA_fin (by simp; rfl) ?_
  have hed := edit_sound pat src (by omega) (by omega)
  have hrd := redit_sound pat src (by omega) (by omega)
  rw [redM_eq] at hrd
  obtain ⟨hl1, hl2⟩ := edM_len pat src
  have k1 := kept_sound pat (by omega)
  have k2 := kept_sound src (by omega)
  have e8 : List.replicate 8 (7 : UInt8) = [7, 7, 7, 7, 7, 7, 7, 7] := rfl
  generalize hm : edM pat src = r at *
  obtain ⟨text, cc, mark, code⟩ := r
  simp only at hed hl1 hl2
  by_cases hc : code = 0
  · subst hc
    simp only [if_true] at hed
    have hb5 : (byL text).length = text.length := by simp
    refine W_seqV (fun σ => (text = [] ∧ σ = stN pat src cc mark) ∨ ∃ cap, text.length ≤ cap ∧ cap ≤ maxLen ∧ (σ = stA pat src text cc mark cap ∨ σ = stB pat src text cc mark cap)) (fun σ => (text = [] ∧ σ = stN pat src cc mark) ∨ ∃ cap, text.length ≤ cap ∧ cap ≤ maxLen ∧ σ = stB pat src text cc mark cap) ?_ ?_ ?_
    · refine W_forget [0, 1, 5, 6, 7, 8] (W_anyT mx ?_)
      refine anyT_take 0 rfl (by decide +kernel) (gives_move 5 rfl rfl rfl) rfl ?_
      refine anyT_take 1 rfl (by decide +kernel) (gives_move 0 rfl rfl rfl) rfl ?_
      refine anyT_take 2 rfl (by decide +kernel) (gives_len 28 rfl rfl rfl rfl rfl k22 rfl) rfl ?_
      refine anyT_take 3 rfl (by decide +kernel) (gives_sliceHi 27 29 rfl rfl s22 k22 rfl (by simp; rfl) (z := .lst .any 1 (byL pat)) (by simp [sliceA, Fl.keepNil, show (pat.length : Int) ≤ (pat.length : Int) + 8 by omega, ← byL_take])) rfl ?_
      refine anyT_take 4 rfl (by decide +kernel) (gives_move 6 rfl rfl rfl) rfl ?_
      refine anyT_take 5 rfl (by decide +kernel) (gives_move 1 rfl rfl rfl) rfl ?_
      refine anyT_take 6 rfl (by decide +kernel) (gives_len 32 rfl rfl rfl rfl rfl k22 rfl) rfl ?_
      refine anyT_take 7 rfl (by decide +kernel) (gives_sliceHi 31 33 rfl rfl s22 k22 rfl (by simp; rfl) (z := .lst .any 1 (byL src)) (by simp [sliceA, Fl.keepNil, show (src.length : Int) ≤ (src.length : Int) + 8 by omega, ← byL_take])) rfl ?_
      have t0 : text = [] → AV.weakL (byL text) = [] := fun h => by simp [h]
      have w1 : AV.weakL (byL text) = byL text := by simp
      refine anyT_all [8, 12] (by decide +kernel) (by simp) ?_
      intro i hi
      simp only [List.mem_cons, List.not_mem_nil, or_false] at hi
      rcases hi with rfl | rfl
      · refine ⟨_, rfl, ?_⟩
        refine (show runA Try.prog _ [_] _ _ from ?_)
        refine runA_obj (f := 12) (args := [.lst .any 1 (byL pat), .lst .any 1 (byL src)]) (by simp) (by first | (simp; done) | (simp; exact ⟨rfl, rfl⟩)) (callW_thawA (vs := [.int .i64 cc, .int .i64 mark]) (ws := [.int .i64 0]) (by simpa using hed) (by simp) (thwL_shal (shalL_byL05 text)) (fun h0 => ?_) (fun cap g1 g2 => ?_))
        · have ht0 : text = [] := by cases text with | nil => rfl | cons x l => simp [byL] at h0
          refine ⟨_, by simp; rfl, ?_⟩
          refine (show AnyT _ _ _ _ _ _ _ from ?_)
          refine anyT_take 9 rfl (by decide +kernel) (gives_move 35 rfl rfl rfl) rfl ?_
          refine anyT_take 10 rfl (by decide +kernel) (gives_extract 26 rfl rfl rfl rfl) rfl ?_
          refine anyT_take 11 rfl (by decide +kernel) (gives_extract 26 rfl rfl rfl rfl) rfl ?_
          refine anyT_all [12] (by decide +kernel) (by simp) ?_
          intro i hi
          simp only [List.mem_cons, List.not_mem_nil, or_false] at hi
          subst hi
          refine ⟨_, rfl, ?_⟩
          refine (show runA Try.prog _ [_] _ _ from ?_)
          refine runA_fin (by simp [setSeg]; rfl) ?_
          refine anyT_all [13] (by decide +kernel) (by simp) ?_
          intro i hi
          simp only [List.mem_cons, List.not_mem_nil, or_false] at hi
          subst hi
          refine ⟨_, rfl, ?_⟩
          refine (show runA Try.prog _ [_] _ _ from ?_)
          refine runA_fin (by simp [setSeg]; rfl) ?_
          refine anyT_all [14] (by decide +kernel) (by simp) ?_
          intro i hi
          simp only [List.mem_cons, List.not_mem_nil, or_false] at hi
          subst hi
          refine ⟨_, rfl, ?_⟩
          refine (show runA Try.prog _ [_] _ _ from ?_)
          refine runA_fin (by simp [setSeg]; rfl) ?_
          refine anyT_done (by decide +kernel) ?_
          exact .inl ⟨ht0, by simp [keepS, keepF, stN, frE]⟩
        · rw [w1]
          rw [hb5] at g1 ⊢
          refine ⟨_, by simp; rfl, ?_⟩
          refine (show AnyT _ _ _ _ _ _ _ from ?_)
          refine anyT_take 9 rfl (by decide +kernel) (gives_move 35 rfl rfl rfl) rfl ?_
          refine anyT_take 10 rfl (by decide +kernel) (gives_extract 26 rfl rfl rfl rfl) rfl ?_
          refine anyT_take 11 rfl (by decide +kernel) (gives_extract 26 rfl rfl rfl rfl) rfl ?_
          refine anyT_all [12] (by decide +kernel) (by simp) ?_
          intro i hi
          simp only [List.mem_cons, List.not_mem_nil, or_false] at hi
          subst hi
          refine ⟨_, rfl, ?_⟩
          refine (show runA Try.prog _ [_] _ _ from ?_)
          refine runA_fin (by simp [setSeg]; rfl) ?_
          refine anyT_all [13] (by decide +kernel) (by simp) ?_
          intro i hi
          simp only [List.mem_cons, List.not_mem_nil, or_false] at hi
          subst hi
          refine ⟨_, rfl, ?_⟩
          refine (show runA Try.prog _ [_] _ _ from ?_)
          refine runA_fin (by simp [setSeg]; rfl) ?_
          refine anyT_all [14] (by decide +kernel) (by simp) ?_
          intro i hi
          simp only [List.mem_cons, List.not_mem_nil, or_false] at hi
          subst hi
          refine ⟨_, rfl, ?_⟩
          refine (show runA Try.prog _ [_] _ _ from ?_)
          refine runA_fin (by simp [setSeg]; rfl) ?_
          refine anyT_done (by decide +kernel) ?_
          exact .inr ⟨cap, g1, g2, .inl (by simp [keepS, keepF, stA, frE])⟩
      · refine ⟨_, rfl, ?_⟩
        refine (show runA Try.prog _ [_] _ _ from ?_)
        refine runA_fin (by simp [setSeg]; rfl) ?_
        refine anyT_all [8] (by decide +kernel) (by simp) ?_
        intro i hi
        simp only [List.mem_cons, List.not_mem_nil, or_false] at hi
        subst hi
        refine ⟨_, rfl, ?_⟩
        refine (show runA Try.prog _ [_] _ _ from ?_)
        refine runA_obj (f := 12) (args := [.lst .any 1 (byL pat), .lst .any 1 (byL src)]) (by simp) (by first | (simp; done) | (simp; exact ⟨rfl, rfl⟩)) (callW_thawA (vs := [.int .i64 cc, .int .i64 mark]) (ws := [.int .i64 0]) (by simpa using hed) (by simp) (thwL_shal (shalL_byL05 text)) (fun h0 => ?_) (fun cap g1 g2 => ?_))
        · have ht0 : text = [] := by cases text with | nil => rfl | cons x l => simp [byL] at h0
          refine ⟨_, by simp; rfl, ?_⟩
          refine (show AnyT _ _ _ _ _ _ _ from ?_)
          refine anyT_take 9 rfl (by decide +kernel) (gives_move 35 rfl rfl rfl) rfl ?_
          refine anyT_take 10 rfl (by decide +kernel) (gives_extract 26 rfl rfl rfl rfl) rfl ?_
          refine anyT_take 11 rfl (by decide +kernel) (gives_extract 26 rfl rfl rfl rfl) rfl ?_
          refine anyT_all [13] (by decide +kernel) (by simp) ?_
          intro i hi
          simp only [List.mem_cons, List.not_mem_nil, or_false] at hi
          subst hi
          refine ⟨_, rfl, ?_⟩
          refine (show runA Try.prog _ [_] _ _ from ?_)
          refine runA_fin (by simp [setSeg]; rfl) ?_
          refine anyT_all [14] (by decide +kernel) (by simp) ?_
          intro i hi
          simp only [List.mem_cons, List.not_mem_nil, or_false] at hi
          subst hi
          refine ⟨_, rfl, ?_⟩
          refine (show runA Try.prog _ [_] _ _ from ?_)
          refine runA_fin (by simp [setSeg]; rfl) ?_
          refine anyT_done (by decide +kernel) ?_
          exact .inl ⟨ht0, by simp [keepS, keepF, stN, frE]⟩
        · rw [w1]
          rw [hb5] at g1 ⊢
          refine ⟨_, by simp; rfl, ?_⟩
          refine (show AnyT _ _ _ _ _ _ _ from ?_)
          refine anyT_take 9 rfl (by decide +kernel) (gives_move 35 rfl rfl rfl) rfl ?_
          refine anyT_take 10 rfl (by decide +kernel) (gives_extract 26 rfl rfl rfl rfl) rfl ?_
          refine anyT_take 11 rfl (by decide +kernel) (gives_extract 26 rfl rfl rfl rfl) rfl ?_
          refine anyT_all [13] (by decide +kernel) (by simp) ?_
          intro i hi
          simp only [List.mem_cons, List.not_mem_nil, or_false] at hi
          subst hi
          refine ⟨_, rfl, ?_⟩
          refine (show runA Try.prog _ [_] _ _ from ?_)
          refine runA_fin (by simp [setSeg]; rfl) ?_
          refine anyT_all [14] (by decide +kernel) (by simp) ?_
          intro i hi
          simp only [List.mem_cons, List.not_mem_nil, or_false] at hi
          subst hi
          refine ⟨_, rfl, ?_⟩
          refine (show runA Try.prog _ [_] _ _ from ?_)
          refine runA_fin (by simp [setSeg]; rfl) ?_
          refine anyT_done (by decide +kernel) ?_
          exact .inr ⟨cap, g1, g2, .inr (by simp [keepS, keepF, stB, frE])⟩
    · rintro σ (⟨h0, rfl⟩ | ⟨cap, g1, g2, rfl | rfl⟩)
      · exact ⟨_, .inl ⟨h0, rfl⟩, fun _ _ h => h⟩
      · refine ⟨_, .inr ⟨cap, g1, g2, rfl⟩, fun c2 Q h => ?_⟩
        refine W_swap 0 1 (by omega) (by omega) (by simp [stA]) (by simp [stA]) ?_
        rw [st_swap]
        exact h
      · exact ⟨_, .inr ⟨cap, g1, g2, rfl⟩, fun _ _ h => h⟩
    · have hsame : Sound Try.prog 14 [.lst .any 1 (byL text), .lst .any 1 (byL text)] (.v (.bool true)) := by
        have := same_sound text text (by omega)
        simpa using this
      rintro σ (⟨h0, rfl⟩ | ⟨cap, g1, g2, rfl⟩)
      · subst h0
        refine W_rK [0, 1, 5, 6, 7, 8, 9, 10] ?_
        refine runA_pre 2 (by simp [stB, stN, frE]; rfl) rfl ?_
        refine runA_call (by simp) (by first | (simp; done) | (simp; rfl)) hrd (by simp [resE]; rfl) ?_
        refine runA_fin (by simp [setSeg]; rfl) ?_
        refine W_seq ?_
        refine W_rK [0, 1, 5, 6, 7, 68] ?_
        refine runA_pre 6 (by simp; rfl) rfl ?_
        refine runA_pre 6 (by simp; rfl) rfl ?_
        refine runA_pre 6 (by simp; rfl) rfl ?_
        refine runA_pre 4 (by simp; rfl) rfl ?_
        refine runA_call (by simp) (by first | (simp; done) | (simp; rfl)) (show Sound Try.prog 14 [.lst .any 1 [], .lst .any 1 []] (.v (.bool true)) by simpa using hsame) (by simp; rfl) ?_
        refine runA_fin (by simp; rfl) ?_
        refine W_cond rfl (fun h => by simp at h) (fun h => ?_)
        refine W_skip ?_
        refine W_seq ?_
        refine W_evK [0, 1, 5, 6, 7, 11] (by simp; rfl) ?_
        refine W_block ?_
        refine W_loop (fun k s => k = 0 ∧ s = ⟨94, [(0, .lst .any 1 (byL pat)), (1, .lst .any 1 (byL src)), (5, .lst (.tip 5 47) 1 (byL (pat ++ List.replicate 8 7))), (6, .lst (.tip 5 51) 1 (byL (src ++ List.replicate 8 7))), (7, .loc 0 0), (11, .v (.int .i64 0))],
            [.cells 26 [.lst .nil 1 [], .v (.int .i64 cc), .v (.int .i64 mark)], .cells 29 [.lst .any 1 [], .v (.int .i64 cc), .v (.int .i64 mark)]]⟩) (k := 0) ⟨rfl, by simp⟩ ?_
        rintro k s ⟨rfl, rfl⟩
        refine W_seq ?_
        refine W_evK [0, 1, 5, 6, 7, 11, 73] (by simp; rfl) ?_
        refine W_cond rfl (fun h => by simp at h) (fun h => ?_)
        refine W_exit ?_
        refine W_rK [4] ?_
        refine runA_pre 2 (by simp; rfl) rfl ?_
        refine runA_call (by simp) (by first | (simp; done) | (simp; rfl)) k1 (by simp; rfl) ?_
        refine runA_pre 3 (by simp; rfl) rfl ?_
        refine runA_call (by simp) (by first | (simp; done) | (simp; rfl)) k2 (by simp; rfl) ?_
        refine runA_fin (by simp; rfl) ?_
        refine W_ret ?_
        repeat (first | refine on_ret ?_ | refine in_ret ?_)
        simp [retQ]
      · refine W_rK [0, 1, 5, 6, 7, 8, 9, 10] ?_
        refine runA_pre 2 (by simp [stB, stN, frE]; rfl) rfl ?_
        refine runA_call (by simp) (by first | (simp; done) | (simp; rfl)) hrd (by simp [resE]; rfl) ?_
        refine runA_fin (by simp [setSeg]; rfl) ?_
        refine W_seq ?_
        refine W_rK [0, 1, 5, 6, 7, 68] ?_
        refine runA_pre 6 (by simp; rfl) rfl ?_
        refine runA_pre 6 (by simp; rfl) rfl ?_
        refine runA_pre 6 (by simp; rfl) rfl ?_
        refine runA_pre 4 (by simp; rfl) rfl ?_
        refine runA_obj (f := 14) (args := [.arr 1 0 text.length cap, .lst .any 1 (byL text)]) (by simp) (by first | (simp; done) | (simp; exact ⟨rfl, rfl⟩)) (callW_lendN (args1 := [.lst .any 1 (byL text), .lst .any 1 (byL text)]) (v := .bool true) (by simpa using hsame) rfl (fun i x1 hi => ?_) ?_)
        · match i, hi with
          | 0, hi =>
            simp at hi
            subst hi
            refine ⟨_, rfl, .inl (.inr ⟨1, 0, text.length, cap, 5, byL text ++ List.replicate (cap - text.length) .any, false, 1, rfl, rfl, by simp, by decide, .inr rfl, by simp, ?_, ?_, ?_⟩)⟩
            · rw [Nat.zero_add, Nat.mul_one, List.take_left' hb5]; simp
            · rw [Nat.zero_add, Nat.mul_one, List.take_left' hb5]; simp
            · simp only [Nat.zero_add, Nat.mul_one, List.drop_zero]
              rw [List.take_left' hb5, weakL_byL, chunk_byL _ _ (Nat.le_refl _), List.take_length]
          | 1, hi => simp at hi; subst hi; exact ⟨_, rfl, .inl (.inl (by simp))⟩
          | i + 2, hi => simp at hi
        refine ⟨_, by simp; rfl, ?_⟩
        refine runA_fin (by simp; rfl) ?_
        refine W_cond rfl (fun h => by simp at h) (fun h => ?_)
        refine W_skip ?_
        refine W_seq ?_
        refine W_evK [0, 1, 5, 6, 7, 11] (by simp; rfl) ?_
        refine W_block ?_
        refine W_loop (fun k s => ∃ (i : Nat) (cs : List AV), k = text.length - i ∧ i ≤ text.length ∧ text.length ≤ cs.length ∧ (∀ j, j < text.length → ∃ v : Int, cs[j]? = some (.v (.int .u8 v))) ∧
            s = ⟨94, [(0, .lst .any 1 (byL pat)), (1, .lst .any 1 (byL src)), (5, .lst (.tip 5 47) 1 (byL (pat ++ List.replicate 8 7))), (6, .lst (.tip 5 51) 1 (byL (src ++ List.replicate 8 7))), (7, .loc 0 0), (11, .v (.int .i64 (i : Nat)))],
            [.cells 26 [.arr 1 0 text.length cap, .v (.int .i64 cc), .v (.int .i64 mark)], .cells 5 cs, .cells 29 [.lst .any 1 (byL text), .v (.int .i64 cc), .v (.int .i64 mark)]]⟩) (k := text.length) ⟨0, byL text ++ List.replicate (cap - text.length) .any, by simp, by omega, by simp, ?_, by simp⟩ ?_
        · intro j hj
          exact ⟨text[j].toNat, by rw [List.getElem?_append_left (by simpa using hj)]; simp [byL, hj]⟩
        rintro k s ⟨i, cs, rfl, hi, hcs, hv, rfl⟩
        refine W_seq ?_
        by_cases c : i < text.length
        · have ci : (i : Int) < text.length := by omega
          obtain ⟨v, hvi⟩ := hv i c
          have hc1 : i + 1 ≤ cs.length := by omega
          have wi := w64 (n := (i : Int) + 1) (by omega) (by omega)
          refine W_evK [0, 1, 5, 6, 7, 11, 73] (by simp [c]; rfl) ?_
          refine W_cond rfl (fun h => ?_) (fun h => by simp at h)
          refine W_skip ?_
          refine W_seq ?_
          refine W_block ?_
          refine W_dvE [0, 1, 5, 6, 7, 11] mx (by decide +kernel) (by simp [c, ci, hvi, hc1]; rfl) ?_
          refine W_evE [0, 1, 5, 6, 7, 11] (by simp [wi]; rfl) ?_
          refine ⟨_, by omega, i + 1, _, rfl, by omega, ?_, ?_, by simp; rfl⟩
          · rw [setSeg_length _ _ _ (by simpa using hc1)]; exact hcs
          · intro j hj
            rw [setSeg_get _ _ _ (by simpa using hc1)]
            split
            · rename_i h
              simp at h
              have : j = i := by omega
              subst this
              simp
            · exact hv j hj
        refine W_evK [0, 1, 5, 6, 7, 11, 73] (by simp [c]; rfl) ?_
        refine W_cond rfl (fun h => by simp at h) (fun h => ?_)
        refine W_exit ?_
        refine W_rK [4] ?_
        refine runA_pre 2 (by simp; rfl) rfl ?_
        refine runA_call (by simp) (by first | (simp; done) | (simp; rfl)) k1 (by simp; rfl) ?_
        refine runA_pre 3 (by simp; rfl) rfl ?_
        refine runA_call (by simp) (by first | (simp; done) | (simp; rfl)) k2 (by simp; rfl) ?_
        refine runA_fin (by simp; rfl) ?_
        refine W_ret ?_
        repeat (first | refine on_ret ?_ | refine in_ret ?_)
        simp [retQ]
  · have ht : text = [] := hl2 hc
    subst ht
    rw [if_neg hc] at hed
    refine W_rdK [0, 1, 5, 6, 7, 8] mx (by decide +kernel) ?_
    refine runD_pre 8 (by simp [← byL_take]; rfl) rfl ?_
    refine runD_call (by simp) (by first | (simp; done) | (simp; rfl)) (show Sound Try.prog 12 [.lst .any 1 (byL pat), .lst .any 1 (byL src)] (.tup [.agg [.lst .nil 1 [], .v (.int .i64 (cc : Nat)), .v (.int .i64 mark)], .v (.int .i64 (code : Nat))]) by simpa using hed) (by simp; rfl) ?_
    refine runD_fin (by simp [setSeg]; rfl) ?_
    have hsame : Sound Try.prog 14 [.lst .any 1 [], .lst .any 1 []] (.v (.bool true)) := by
      have := same_sound [] [] (by simp)
      simpa using this
    refine W_rK [0, 1, 5, 6, 7, 8, 9, 10] ?_
    refine runA_pre 2 (by simp [stB, stN, frE]; rfl) rfl ?_
    refine runA_call (by simp) (by first | (simp; done) | (simp; rfl)) hrd (by simp [resE]; rfl) ?_
    refine runA_fin (by simp [setSeg]; rfl) ?_
    refine W_seq ?_
    refine W_rK [0, 1, 5, 6, 7, 68] ?_
    refine runA_pre 6 (by simp; rfl) rfl ?_
    refine runA_pre 6 (by simp; rfl) rfl ?_
    refine runA_pre 6 (by simp; rfl) rfl ?_
    refine runA_pre 4 (by simp; rfl) rfl ?_
    refine runA_call (by simp) (by first | (simp; done) | (simp; rfl)) (show Sound Try.prog 14 [.lst .any 1 [], .lst .any 1 []] (.v (.bool true)) by simpa using hsame) (by simp; rfl) ?_
    refine runA_fin (by simp; rfl) ?_
    refine W_cond rfl (fun h => by simp at h) (fun h => ?_)
    refine W_skip ?_
    refine W_seq ?_
    refine W_evK [0, 1, 5, 6, 7, 11] (by simp; rfl) ?_
    refine W_block ?_
    refine W_loop (fun k s => k = 0 ∧ s = ⟨94, [(0, .lst .any 1 (byL pat)), (1, .lst .any 1 (byL src)), (5, .lst (.tip 5 47) 1 (byL (pat ++ List.replicate 8 7))), (6, .lst (.tip 5 51) 1 (byL (src ++ List.replicate 8 7))), (7, .loc 0 0), (11, .v (.int .i64 0))],
        [.cells 26 [.lst .nil 1 [], .v (.int .i64 cc), .v (.int .i64 mark)], .cells 29 [.lst .any 1 [], .v (.int .i64 cc), .v (.int .i64 mark)]]⟩) (k := 0) ⟨rfl, by simp⟩ ?_
    rintro k s ⟨rfl, rfl⟩
    refine W_seq ?_
    refine W_evK [0, 1, 5, 6, 7, 11, 73] (by simp; rfl) ?_
    refine W_cond rfl (fun h => by simp at h) (fun h => ?_)
    refine W_exit ?_
    refine W_rK [4] ?_
    refine runA_pre 2 (by simp; rfl) rfl ?_
    refine runA_call (by simp) (by first | (simp; done) | (simp; rfl)) k1 (by simp; rfl) ?_
    refine runA_pre 3 (by simp; rfl) rfl ?_
    refine runA_call (by simp) (by first | (simp; done) | (simp; rfl)) k2 (by simp; rfl) ?_
    refine runA_fin (by simp; rfl) ?_
    refine W_ret ?_
    repeat (first | refine on_ret ?_ | refine in_ret ?_)
    simp [retQ]
end Go.AM
