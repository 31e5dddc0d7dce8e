/- Block's walk. -/
import Derived.Test.YtmedlgfdabokaaaC22D
namespace Go.AM
open Go.RowKit Go.Proofs
set_option linter.unusedSimpArgs false
set_option linter.unusedVariables false
set_option maxHeartbeats 1000000

def blkFr (l : List (List UInt8)) (i : Nat) : List (Nat × AV) := [(2, .loc 0 0), (7, .loc 1 0), (8, .loc 2 0), (9, .fn (.func 25) [] [.loc 2 0, .loc 0 0, .loc 1 0]), (21, .lst .any 1 (bbL l)), (22, .v (.int .i64 (l.length : Nat))), (23, .v (.int .i64 (i : Nat)))]

theorem block_sound (d : Dcb) (l : List (List UInt8)) (hl : l.length ≤ 1000000) (hr : ∀ r ∈ l, r.length ≤ 1000000000) : Sound Try.prog 12 [dcbA d, .lst .any 1 (bbL l)] (resB (blockM d l)) := by
  refine sound_of_U Try.func12 rfl (by decide +kernel) (by simp [Try.f12]) rfl rfl (rs := [.tmp 4, .tmp 5]) rfl ?_
  rw [show Try.f12.ntmps = 68 from rfl]
  refine W_evK [1, 2] (by simp; rfl) ?_
  refine W_seq ?_
  refine W_rK [1, 2, 6] ?_
  refine runA_pre 1 (by simp; rfl) rfl ?_
  refine runA_call (by simp) (by first | (simp; done) | (simp; rfl)) (check_sound d) (by simp; rfl) ?_
  refine runA_fin (by simp; rfl) ?_
  by_cases hc : checkM d = 0
  rotate_left
  · have hcn : (checkM d != 0) = true := by simpa using hc
    refine W_evK [1, 2, 6, 15] (by simp [hcn]; rfl) ?_
    refine W_cond rfl (fun h => ?_) (fun h => by simp at h)
    refine W_evK [4, 5] (by simp; rfl) ?_
    refine W_ret ?_
    repeat (first | refine on_ret ?_ | refine in_ret ?_)
    have e : blockM d l = ([], checkM d) := by unfold blockM; rw [if_neg hc]
    rw [e]
    exact ⟨.tup [.lst .nil 1 [], .v (.int .i64 (checkM d))], by simp [retQ], .tup2 (.nil (by decide +kernel)) (.refl _)⟩
  have hcn : (checkM d != 0) = false := by simpa using hc
  refine W_evK [1, 2, 6, 15] (by simp [hcn]; rfl) ?_
  refine W_cond rfl (fun h => by simp at h) (fun h => ?_)
  refine W_skip ?_
  refine W_seq ?_
  by_cases h4 : 4096 < l.length
  · have h4i : (4096 : Int) < l.length := by omega
    refine W_evK [1, 2, 19] (by simp [h4i]; rfl) ?_
    refine W_cond rfl (fun h => ?_) (fun h => by simp at h)
    refine W_evK [4, 5] (by simp; rfl) ?_
    refine W_ret ?_
    repeat (first | refine on_ret ?_ | refine in_ret ?_)
    have e : blockM d l = ([], 2) := by unfold blockM; rw [if_pos hc, if_pos h4]
    rw [e]
    exact ⟨.tup [.lst .nil 1 [], .v (.int .i64 2)], by simp [retQ], .tup2 (.nil (by decide +kernel)) (.refl _)⟩
  have h4i : ¬ (4096 : Int) < l.length := by omega
  have hbm : blockM d l = finB d (goB d l [] []) := by unfold blockM; rw [if_pos hc, if_neg h4]
  refine W_evK [1, 2, 19] (by simp [h4i]; rfl) ?_
  refine W_cond rfl (fun h => by simp at h) (fun h => ?_)
  refine W_skip ?_
  refine W_evK [1, 2, 7] (by simp; rfl) ?_
  refine W_evK [1, 2, 7, 8] (by simp; rfl) ?_
  refine W_evK [1, 2, 7, 8, 9] (by simp; rfl) ?_
  refine W_seq ?_
  refine W_evK [2, 7, 8, 9, 21, 22, 23] (by simp; rfl) ?_
  refine W_block ?_
  obtain ⟨c1, c2, c3, c4, c5, c6⟩ := check_facts hc
  refine W_loop (fun k s => ∃ (i : Nat) (O : List (List UInt8)) (B : List UInt8) (x y : AV) (rest : List AObj), k = l.length - i ∧ i ≤ l.length ∧ goB d l [] [] = goB d (l.drop i) O B ∧ outOk x O ∧ blkOk rest y B ∧ shutR rest ∧ O.length ≤ i ∧ B.length ≤ 1040 ∧
      ((d.fmt == 2) = true → B = [] ∨ 4 ≤ B.length) ∧ s = ⟨68, blkFr l i, bookH d x y rest⟩)
    (k := l.length) ⟨0, [], [], .lst .nil 1 [], .lst .nil 1 [], [], rfl, by omega, rfl, .inl ⟨rfl, rfl⟩, .inl ⟨rfl, rfl⟩, (fun _ h => by cases h), by simp, by simp, fun _ => .inl rfl, by simp [blkFr, bookH, dcbC]⟩ ?_
  rintro k s ⟨i, O, B, x, y, rest, rfl, hi, hgo, hx, hy, hs, hO, hB, hB4, rfl⟩
  by_cases a : i < l.length
  rotate_left
  · refine W_evK [2, 7, 8, 9, 21, 22, 23, 24] (by simp [blkFr, a]; rfl) ?_
    refine W_seq ?_
    refine W_cond rfl (fun h => by simp at h) (fun h => ?_)
    refine W_exit ?_
    have hie : i = l.length := by omega
    subst hie
    rw [List.drop_length, goB] at hgo
    rw [hgo] at hbm
    simp only [finB] at hbm
    refine W_rK [7] ?_
    refine runA_pre 1 (by simp; rfl) rfl ?_
    refine runA_obj (by simp) (by first | (simp; done) | (simp; exact ⟨rfl, rfl⟩)) ((flush_callW d O B x y rest hx hy hs (by omega) (by omega) hB4).mono ?_)
    rintro r h' ⟨rfl, x', rest', hx', hs', rfl⟩
    refine ⟨_, by simp; rfl, ?_⟩
    refine runA_fin (by simp; rfl) ?_
    rw [hbm]
    rcases hx' with ⟨h0, rfl⟩ | rfl
    · rw [h0]
      refine W_evK [4, 5] (by simp [bookH, dcbC]; rfl) ?_
      refine W_ret ?_
      repeat (first | refine on_ret ?_ | refine in_ret ?_)
      exact ⟨.tup [.lst .nil 1 [], .v (.int .i64 0)], by simp [retQ], .tup2 (.nil (by decide +kernel)) (.refl _)⟩
    · refine W_evK [4, 5] (by simp [bookH, dcbC]; rfl) ?_
      refine W_ret ?_
      repeat (first | refine on_ret ?_ | refine in_ret ?_)
      exact ⟨.tup [.lst (.tip 35 35) 1 (bbL (flushM d O B)), .v (.int .i64 0)], by simp [retQ], .norm fun T => by simp [resB]⟩
  have ai : (i : Int) < l.length := by omega
  obtain ⟨r, hri⟩ : ∃ r, l[i]? = some r := ⟨_, List.getElem?_eq_getElem a⟩
  have hr2 : l[i]'a = r := by rw [List.getElem?_eq_getElem a] at hri; exact Option.some.inj hri
  have hrl := hr r (List.mem_of_getElem? hri)
  rw [List.drop_eq_getElem_cons a, hr2, goB] at hgo
  refine W_evK [2, 7, 8, 9, 21, 22, 23, 24] (by simp [blkFr, a]; rfl) ?_
  refine W_seq ?_
  refine W_cond rfl (fun h => ?_) (fun h => by simp at h)
  refine W_skip ?_
  refine W_seq ?_
  refine W_block ?_
  refine W_evK [2, 7, 8, 9, 21, 22, 23, 11] (by simp [a, ai, hr2]; rfl) ?_
  refine W_seq ?_
  refine W_rK [2, 7, 8, 9, 21, 22, 23, 11, 31] ?_
  refine runA_pre 3 (by simp [bookH, dcbC]; rfl) rfl ?_
  refine runA_call (by simp) (by first | (simp; done) | (simp; rfl)) (fits_sound d r.length) (by simp; rfl) ?_
  rcases Bool.eq_false_or_eq_true (fitsM d r.length) with hf | hf
  rotate_left
  · rw [if_pos hf] at hgo
    rw [hgo] at hbm
    simp only [finB] at hbm
    refine runA_fin (by simp [hf]; rfl) ?_
    refine W_cond rfl (fun h => ?_) (fun h => by simp at h)
    refine W_evK [4, 5] (by simp; rfl) ?_
    refine W_ret ?_
    repeat (first | refine on_ret ?_ | refine in_ret ?_)
    rw [hbm]
    exact ⟨.tup [.lst .nil 1 [], .v (.int .i64 220)], by simp [retQ], .tup2 (.nil (by decide +kernel)) (.refl _)⟩
  rw [if_neg (by rw [hf]; simp)] at hgo
  obtain ⟨f1, f2, f3, f4⟩ := fits_facts hc hf
  refine runA_fin (by simp [hf]; rfl) ?_
  refine W_cond rfl (fun h => by simp at h) (fun h => ?_)
  refine W_skip ?_
  obtain ⟨OB, hOB⟩ : ∃ OB : List (List UInt8) × List UInt8, OB = (if fullM d B r = true then (flushM d O B, []) else (O, B)) := ⟨_, rfl⟩
  have hgo1 : goB d l [] [] = goB d (l.drop (i + 1)) OB.1 (headB d OB.2 r ++ r) := by
    rw [hgo, hOB]
    split <;> rfl
  have hO1 : OB.1.length ≤ i + 1 ∧ OB.2.length ≤ 1040 ∧ ((d.fmt == 2) = true → OB.2 = [] ∨ 4 ≤ OB.2.length) ∧ OB.2.length + r.length ≤ 1032 ∧ ((d.fmt == 2) = true → OB.2 = [] ∨ OB.2.length + r.length + 4 ≤ 1024) := by
    rw [hOB]
    split
    · refine ⟨?_, by simp, fun _ => .inl rfl, by simp; omega, fun _ => .inl rfl⟩
      simp only [flushM]
      split
      · omega
      · simp; omega
    · rename_i hfu
      unfold fullM at hfu
      simp only [Bool.or_eq_true, not_or, decide_eq_true_eq] at hfu
      have h2 : (B.length + lenM d r : Nat) ≤ d.size := by omega
      refine ⟨by simp; omega, hB, hB4, ?_, fun h1 => .inr ?_⟩
      · simp only; unfold lenM at h2; split at h2 <;> omega
      · simp only; unfold lenM at h2; rw [if_pos h1] at h2; omega
  refine W_seqC (fun s => ∃ x1 y1 rest1, outOk x1 OB.1 ∧ blkOk rest1 y1 OB.2 ∧ shutR rest1 ∧ s = ⟨68, blkFr l i ++ [(11, .lst .any 1 (byL r))], bookH d x1 y1 rest1⟩) ?_ ?_
  · refine W_seqC (fun s => s = ⟨68, blkFr l i ++ [(11, .lst .any 1 (byL r)), (45, .v (.bool (fullM d B r)))], bookH d x y rest⟩) ?_ ?_
    · have hln := len_sound d r (by omega)
      have wl : IntKind.i64.wrap ((B.length : Int) + (lenM d r : Nat)) = ((B.length + lenM d r : Nat) : Int) := by
        have : lenM d r ≤ 1100 := by unfold lenM; split <;> omega
        rw [w64 (by omega) (by omega)]; omega
      rcases Bool.eq_false_or_eq_true d.blk with hb | hb
      · have hfu : fullM d B r = decide (d.size < (B.length + lenM d r : Nat)) := by simp [fullM, hb]
        simp only [dcbA, hb] at hln
        rw [hfu]
        obtain ⟨N, hN⟩ : ∃ N, B.length + lenM d r = N := ⟨_, rfl⟩
        rw [hN] at wl ⊢
        rcases hy with ⟨rfl, rfl⟩ | ⟨hne, j, cap, Bf, rfl, hj, hcap, htk, hmx⟩
        · refine W_rdE [2, 7, 8, 9, 21, 22, 23, 11, 45] mx (by decide +kernel) ?_
          refine runD_pre 8 (by simp [bookH, dcbC, hb]; rfl) rfl ?_
          refine runD_call (by simp) (by first | (simp; done) | (simp; rfl)) hln (by simp; rfl) ?_
          simp at wl
          refine runD_fin (by simp [wl]; rfl) ?_
          simp [onNormal, bookH, dcbC, blkFr, hb]
        · refine W_rdE [2, 7, 8, 9, 21, 22, 23, 11, 45] mx (by decide +kernel) ?_
          refine runD_pre 8 (by simp [bookH, dcbC, hb]; rfl) rfl ?_
          refine runD_call (by simp) (by first | (simp; done) | (simp; rfl)) hln (by simp; rfl) ?_
          refine runD_fin (by simp [wl]; rfl) ?_
          simp [onNormal, bookH, dcbC, blkFr, hb]
      · have hfu : fullM d B r = true := by simp [fullM, hb]
        rw [hfu]
        refine W_rdE [2, 7, 8, 9, 21, 22, 23, 11, 45] mx (by decide +kernel) ?_
        refine runD_pre 6 (by simp [bookH, dcbC, hb]; rfl) rfl ?_
        refine runD_fin (by simp; rfl) ?_
        simp [onNormal, bookH, dcbC, blkFr, hb]
    rintro _ rfl
    rcases Bool.eq_false_or_eq_true (fullM d B r) with hfu | hfu
    · rw [hfu] at hOB ⊢
      refine W_cond rfl (fun h => ?_) (fun h => by simp at h)
      refine W_rE [2, 7, 8, 9, 21, 22, 23, 11] ?_
      refine runA_pre 1 (by simp [blkFr]; rfl) rfl ?_
      refine runA_obj (by simp) (by first | (simp; done) | (simp; exact ⟨rfl, rfl⟩)) ((flush_callW d O B x y rest hx hy hs (by omega) (by omega) hB4).mono ?_)
      rintro _ h' ⟨rfl, x', rest', hx', hs', rfl⟩
      refine ⟨_, by simp; rfl, ?_⟩
      rw [hOB]
      refine ⟨x', .lst .nil 1 [], rest', hx', .inl ⟨rfl, rfl⟩, hs', by simp [blkFr]⟩
    · rw [hfu] at hOB ⊢
      refine W_cond rfl (fun h => by simp at h) (fun h => ?_)
      refine W_keepS [2, 7, 8, 9, 21, 22, 23, 11] (W_skip ?_)
      rw [hOB]
      exact ⟨x, y, rest, hx, hy, hs, by simp [blkFr]⟩
  rintro _ ⟨x1, y1, rest1, hx1, hy1, hs1, rfl⟩
  clear hx hy hs hO hB hB4 hgo hOB
  obtain ⟨O1, B1⟩ := OB
  obtain ⟨e1, e2, e3, e4, e5⟩ := hO1
  simp only at hx1 hy1 e1 e2 e3 e4 e5 hgo1
  have hdl : (byL (desc (r.length + 4))).length = 4 := by simp
  refine W_seqC (fun s => ∃ y2 rest2, blkOk rest2 y2 (headB d B1 r) ∧ shutR rest2 ∧ s = ⟨68, blkFr l i ++ [(11, .lst .any 1 (byL r))], bookH d x1 y2 rest2⟩) ?_ ?_
  · rcases Bool.eq_false_or_eq_true (d.fmt == 2) with h1 | h1
    · refine W_evK [2, 7, 8, 9, 21, 22, 23, 11, 50] (by simp [bookH, dcbC, blkFr, h1]; rfl) ?_
      refine W_cond rfl (fun h => ?_) (fun h => by simp at h)
      have hhd : headB d B1 r = startB d B1 ++ desc (r.length + 4) := by unfold headB; rw [if_pos h1]
      rw [hhd]
      refine W_seqC (fun s => ∃ y2 rest2, startB d B1 ≠ [] ∧ blkOk rest2 y2 (startB d B1) ∧ shutR rest2 ∧ s = ⟨68, blkFr l i ++ [(11, .lst .any 1 (byL r))], bookH d x1 y2 rest2⟩) ?_ ?_
      · rcases hy1 with ⟨rfl, rfl⟩ | ⟨hne, j, cap, Bf, rfl, hj, hcap, htk, hmx⟩
        · have hst : startB d [] = [0, 0, 0, 0] := by unfold startB; rw [if_pos h1, if_pos rfl]
          rw [hst]
          refine W_evK [2, 7, 8, 9, 21, 22, 23, 11, 53] (by simp [bookH, dcbC, blkFr]; rfl) ?_
          refine W_cond rfl (fun h => ?_) (fun h => by simp at h)
          refine W_evE [2, 7, 8, 9, 21, 22, 23, 11] (by simp [setSeg]; rfl) ?_
          obtain ⟨n1, n2⟩ := blk_new (ys := [0, 0, 0, 0]) (cap := 4) hs1 (by simp) (by simp) (by decide)
          exact ⟨_, _, by simp, n1, n2, by simp [blkFr, bookH, dcbC, repC_bytes]⟩
        · have hst : startB d B1 = B1 := by unfold startB; rw [if_pos h1, if_neg hne]
          rw [hst]
          have hBi : ((B1.length : Int) == 0) = false := beq_eq_false_iff_ne.2 (by have : B1.length ≠ 0 := fun e => hne (List.eq_nil_of_length_eq_zero e); omega)
          refine W_evK [2, 7, 8, 9, 21, 22, 23, 11, 53] (by simp [bookH, dcbC, blkFr, hBi, hne]; rfl) ?_
          refine W_cond rfl (fun h => by simp at h) (fun h => ?_)
          refine W_keepS [2, 7, 8, 9, 21, 22, 23, 11] (W_skip ?_)
          exact ⟨_, rest1, hne, .inr ⟨hne, j, cap, Bf, rfl, hj, hcap, htk, hmx⟩, hs1, by simp [blkFr, bookH, dcbC]⟩
      rintro _ ⟨y2, rest2, hne, hy2, hs2, rfl⟩
      obtain ⟨S, hS⟩ : ∃ S, startB d B1 = S := ⟨_, rfl⟩
      have hSl : S.length ≤ 1040 := by
        rw [← hS]; unfold startB; rw [if_pos h1]; split
        · simp
        · exact e2
      rw [hS] at hne hy2 ⊢
      rcases hy2 with ⟨h0, _⟩ | ⟨_, j, cap, Bf, rfl, hj, hcap, htk, hmx⟩
      · exact absurd h0 hne
      have wr : IntKind.i64.wrap ((r.length : Int) + 4) = ((r.length + 4 : Nat) : Int) := by rw [w64 (by omega) (by omega)]; omega
      have hds := desc_sound (r.length + 4)
      obtain ⟨rl, hrlq⟩ : ∃ rl, r.length + 4 = rl := ⟨_, rfl⟩
      rw [hrlq] at wr hds hdl ⊢
      refine W_rsE 5 [2, 7, 8, 9, 21, 22, 23, 11] mx (by decide +kernel) ?_
      refine runD_pre 4 (by simp [bookH, dcbC, blkFr, wr]; rfl) rfl ?_
      refine runD_call (by simp) (by first | (simp; done) | (simp; rfl)) hds (by simp; rfl) ?_
      refine runA_app (id := j + 3) (len := S.length) (cap := cap) (oy := .any) (ys := byL (desc rl)) (cs := byL Bf) (by simp) rfl rfl rfl rfl (by simp) (by simp) s35 a5 z5 (by simp) (by simp [hj]) (by simp [hcap]) (catK_byL _) (by rw [hdl]; omega) ?_
      intro s1 x1' happ
      obtain ⟨rest3, rfl, hb3, hs3⟩ := blk_app (d := d) (x := x1) (y0 := .arr (j + 3) 0 S.length cap) rfl hs2 hj hcap htk hmx hne happ
      obtain ⟨id', cap', rfl⟩ := hb3.arr (by simp [hne])
      refine ⟨_, by simp; rfl, ?_⟩
      refine runA_fin (by simp [bookH, setSeg]; rfl) ?_
      exact ⟨_, rest3, hb3, hs3, by simp [blkFr, bookH, dcbC]⟩
    · refine W_evK [2, 7, 8, 9, 21, 22, 23, 11, 50] (by simp [bookH, dcbC, blkFr, h1]; rfl) ?_
      refine W_cond rfl (fun h => by simp at h) (fun h => ?_)
      have hhd : headB d B1 r = B1 := by unfold headB; rw [h1]; rfl
      rw [hhd]
      refine W_keepS [2, 7, 8, 9, 21, 22, 23, 11] (W_skip ?_)
      exact ⟨y1, rest1, hy1, hs1, by simp [blkFr, bookH, dcbC]⟩
  rintro _ ⟨y2, rest2, hy2, hs2, rfl⟩
  have hrne : r ≠ [] := fun e => by rw [e] at f1; simp at f1
  obtain ⟨H, hH⟩ : ∃ H, headB d B1 r = H := ⟨_, rfl⟩
  have hHl : H.length ≤ 1100 := by
    rw [← hH]; unfold headB startB
    split
    · split <;> simp <;> omega
    · omega
  have hHr : H.length + r.length ≤ 1040 := by
    rw [← hH]; unfold headB startB
    rcases Bool.eq_false_or_eq_true (d.fmt == 2) with h1 | h1
    · have h2 : d.fmt = 2 := by simpa using h1
      have := (f3 h2).2
      rw [if_pos h1, if_pos h1]
      split
      · simp; omega
      · rename_i hn; have := (e5 h1).resolve_left hn; simp; omega
    · rw [h1]; simp; omega
  have hH4 : (d.fmt == 2) = true → 4 ≤ H.length := by
    intro h1
    rw [← hH]; unfold headB
    rw [if_pos h1]
    simp
  rw [hH] at hy2 hgo1
  have wi : IntKind.i64.wrap ((i : Int) + 1) = ((i + 1 : Nat) : Int) := by rw [w64 (by omega) (by omega)]; omega
  refine W_lastC (fun s => ∃ y3 rest3, blkOk rest3 y3 (H ++ r) ∧ shutR rest3 ∧ s = ⟨68, blkFr l i, bookH d x1 y3 rest3⟩) ?_ ?_
  · have hrl2 : (byL r).length = r.length := by simp
    rcases hy2 with ⟨h0, rfl⟩ | ⟨hne, j, cap, Bf, rfl, hj, hcap, htk, hmx⟩
    · rw [h0, List.nil_append]
      refine W_rE [2, 7, 8, 9, 21, 22, 23] ?_
      refine runA_pre 2 (by simp [bookH, dcbC, blkFr]; rfl) rfl ?_
      refine runA_nil (s0 := 1) (x0 := []) (oy := .any) (ys := byL r) (by simp) rfl rfl rfl rfl (by simp) (by simp) s35 a5 z5 (by simp) (catK_byL _) (by intro e; exact hrne (by cases r with | nil => rfl | cons b l => simp [byL] at e)) (by rw [hrl2]; omega) ?_
      intro cap' hc1 hc2
      rw [hrl2] at hc1
      refine ⟨_, by simp; rfl, ?_⟩
      refine runA_fin (by simp [setSeg]; rfl) ?_
      obtain ⟨n1, n2⟩ := blk_new (ys := r) (cap := cap') hs2 hrne hc1 hc2
      exact ⟨_, _, n1, n2, by simp [blkFr, bookH, dcbC, repC_bytes, byL_append]⟩
    · refine W_rE [2, 7, 8, 9, 21, 22, 23] ?_
      refine runA_pre 2 (by simp [bookH, dcbC, blkFr]; rfl) rfl ?_
      refine runA_app (id := j + 3) (len := H.length) (cap := cap) (oy := .any) (ys := byL r) (cs := byL Bf) (by simp) rfl rfl rfl rfl (by simp) (by simp) s35 a5 z5 (by simp) (by simp [hj]) (by simp [hcap]) (catK_byL _) (by rw [hrl2]; omega) ?_
      intro s1 x1' happ
      obtain ⟨rest3, rfl, hb3, hs3⟩ := blk_app (d := d) (x := x1) (y0 := .arr (j + 3) 0 H.length cap) rfl hs2 hj hcap htk hmx hne happ
      obtain ⟨id', cap', rfl⟩ := hb3.arr (by simp [hne])
      refine ⟨_, by simp; rfl, ?_⟩
      refine runA_fin (by simp [bookH, setSeg]; rfl) ?_
      exact ⟨_, rest3, hb3, hs3, by simp [blkFr, bookH, dcbC]⟩
  rintro _ ⟨y3, rest3, hy3, hs3, rfl⟩
  refine W_evE [2, 7, 8, 9, 21, 22, 23] (by simp [blkFr, wi]; rfl) ?_
  exact ⟨_, by omega, i + 1, O1, H ++ r, x1, y3, rest3, rfl, by omega, hgo1, hx1, hy3, hs3, e1, by simp; omega, fun h1 => .inr (by have := hH4 h1; simp; omega), by simp [blkFr]⟩
end Go.AM
