/- Block once more: its rows are made slices that nobody shares: the walk. -/
import Derived.Test.YtmedlgfdabokaaaC22ZE
import Derived.Test.YtmedlgfdabokaaaC22E
namespace Go.AM
open Go.RowKit Go.Proofs
set_option linter.unusedSimpArgs false
set_option linter.unusedVariables false
set_option maxHeartbeats 2000000

def ownR (h : List AObj) (x : AV) (O : List (List UInt8)) : Prop :=
  (O = [] ∧ x = .lst .nil 1 []) ∨ (O ≠ [] ∧ ∃ (q : Nat) (cs : List AV), x = .arr q 0 O.length cs.length ∧ h[q]? = some (.cells 35 cs) ∧ O.length ≤ cs.length ∧ cs.length ≤ maxLen ∧
    ∀ (k : Nat) (B : List UInt8), O[k]? = some B → ∃ (j cap : Nat) (Bf : List UInt8), cs[k]? = some (.arr j 0 B.length cap) ∧ h[j]? = some (.cells 5 (byL Bf)) ∧ Bf.take B.length = B)
def ownQ (d : Dcb) (p : List (List UInt8) × Int) (r : AV) (h : List AObj) : Prop := ∃ x G, r = .tup [x, .v (.int .i64 p.2)] ∧ h = .cells 23 (dcbC d) :: G ∧ ownR h x p.1
theorem outN_own {d : Dcb} {F : Nat} {x y : AV} {rest : List AObj} {O : List (List UInt8)} (h : outN F rest x O) : ownR (bookN d x y rest) x O := by
  rcases h.2 with h | ⟨h0, q, cs, h1, h2, h3, h4, h5, h6⟩
  · exact .inl h
  · refine .inr ⟨h0, q + 4, cs, h1, by simpa [bookN] using h3, h4, h5, fun k B hB => ?_⟩
    obtain ⟨c, k1, j, cap, Bf, k2, k3, k4, k5⟩ := h6 k B hB
    exact ⟨j + 4, cap, Bf, by rw [k1, k2], by simpa [bookN] using k4, k5⟩

def blkFrN (l : List (List UInt8)) (i : Nat) : List (Nat × AV) := [(2, .loc 1 0), (7, .loc 2 0), (8, .loc 3 0), (9, .fn (.func 25) [] [.loc 3 0, .loc 1 0, .loc 2 0]), (21, .lst .any 1 (bbL l)), (22, .v (.int .i64 (l.length : Nat))), (23, .v (.int .i64 (i : Nat)))]

theorem blockN_callW (d : Dcb) (l : List (List UInt8)) (hl : l.length ≤ 1000000) (hr : ∀ r ∈ l, r.length ≤ 1000000000) : CallW Try.prog 12 [dcbA d, .lst .any 1 (bbL l)] [.cells 23 (dcbC d)] (ownQ d (blockM d l)) := by
  refine callW_of_F Try.func12 rfl (by decide +kernel) (by simp [Try.f12]) (rs := [.tmp 4, .tmp 5]) rfl ?_
  rw [show Try.f12.ntmps = 68 from rfl, show ([AObj.cells 23 (dcbC d)] : List AObj).length = 1 from rfl]
  refine W_evK [1, 2] (by simp; rfl) ?_
  refine W_seq ?_
  refine W_rK [1, 2, 6] ?_
  refine runA_pre 1 (by simp; rfl) rfl ?_
  refine runA_call (by simp) (by first | (simp; done) | (simp; rfl)) (check_sound d) (by simp; rfl) ?_
  refine runA_fin (by simp; rfl) ?_
  by_cases hc : checkM d = 0
  rotate_left
  · have hcn : (checkM d != 0) = true := by simpa using hc
    refine W_evK [1, 2, 6, 15] (by simp [hcn]; rfl) ?_
    refine W_cond rfl (fun h => ?_) (fun h => by simp at h)
    refine W_evK [4, 5] (by simp; rfl) ?_
    refine W_ret ?_
    repeat (first | refine on_ret ?_ | refine in_ret ?_)
    have e : blockM d l = ([], checkM d) := by unfold blockM; rw [if_neg hc]
    rw [e]
    exact ⟨.inr rfl, .tup [.lst .nil 1 [], .v (.int .i64 (checkM d))], by simp [retQ, resA], .lst .nil 1 [], _, rfl, by simp [dcbC]; rfl, .inl ⟨rfl, rfl⟩⟩
  have hcn : (checkM d != 0) = false := by simpa using hc
  refine W_evK [1, 2, 6, 15] (by simp [hcn]; rfl) ?_
  refine W_cond rfl (fun h => by simp at h) (fun h => ?_)
  refine W_skip ?_
  refine W_seq ?_
  by_cases h4 : 4096 < l.length
  · have h4i : (4096 : Int) < l.length := by omega
    refine W_evK [1, 2, 19] (by simp [h4i]; rfl) ?_
    refine W_cond rfl (fun h => ?_) (fun h => by simp at h)
    refine W_evK [4, 5] (by simp; rfl) ?_
    refine W_ret ?_
    repeat (first | refine on_ret ?_ | refine in_ret ?_)
    have e : blockM d l = ([], 2) := by unfold blockM; rw [if_pos hc, if_pos h4]
    rw [e]
    exact ⟨.inr rfl, .tup [.lst .nil 1 [], .v (.int .i64 2)], by simp [retQ, resA], .lst .nil 1 [], _, rfl, by simp [dcbC]; rfl, .inl ⟨rfl, rfl⟩⟩
  have h4i : ¬ (4096 : Int) < l.length := by omega
  have hbm : blockM d l = finB d (goB d l [] []) := by unfold blockM; rw [if_pos hc, if_neg h4]
  refine W_evK [1, 2, 19] (by simp [h4i]; rfl) ?_
  refine W_cond rfl (fun h => by simp at h) (fun h => ?_)
  refine W_skip ?_
  refine W_evK [1, 2, 7] (by simp; rfl) ?_
  refine W_evK [1, 2, 7, 8] (by simp; rfl) ?_
  refine W_evK [1, 2, 7, 8, 9] (by simp; rfl) ?_
  refine W_seq ?_
  refine W_evK [2, 7, 8, 9, 21, 22, 23] (by simp; rfl) ?_
  refine W_block ?_
  obtain ⟨c1, c2, c3, c4, c5, c6⟩ := check_facts hc
  refine W_loop (fun k s => ∃ (i : Nat) (O : List (List UInt8)) (B : List UInt8) (F : Nat) (x y : AV) (rest : List AObj), k = l.length - i ∧ i ≤ l.length ∧ goB d l [] [] = goB d (l.drop i) O B ∧ outN F rest x O ∧ blkN F rest y B ∧ O.length ≤ i ∧ B.length ≤ 1040 ∧
      ((d.fmt == 2) = true → B = [] ∨ 4 ≤ B.length) ∧ s = ⟨68, blkFrN l i, bookN d x y rest⟩)
    (k := l.length) ⟨0, [], [], 0, .lst .nil 1 [], .lst .nil 1 [], [], rfl, by omega, rfl, ⟨Nat.le_refl _, .inl ⟨rfl, rfl⟩⟩, .inl ⟨rfl, rfl⟩, by simp, by simp, fun _ => .inl rfl, by simp [blkFrN, bookN, dcbC]⟩ ?_
  rintro k s ⟨i, O, B, F, x, y, rest, rfl, hi, hgo, hs, hy, hO, hB, hB4, rfl⟩
  by_cases a : i < l.length
  rotate_left
  · refine W_evK [2, 7, 8, 9, 21, 22, 23, 24] (by simp [blkFrN, a]; rfl) ?_
    refine W_seq ?_
    refine W_cond rfl (fun h => by simp at h) (fun h => ?_)
    refine W_exit ?_
    have hie : i = l.length := by omega
    subst hie
    rw [List.drop_length, goB] at hgo
    rw [hgo] at hbm
    simp only [finB] at hbm
    refine W_rK [7] ?_
    refine runA_pre 1 (by simp; rfl) rfl ?_
    refine runA_obj (by simp) (by first | (simp; done) | (simp; exact ⟨rfl, rfl⟩)) ((flush_callN d O B F x y rest hs hy (by omega) (by omega) hB4).mono ?_)
    rintro r h' ⟨rfl, F', x', rest', hs', rfl⟩
    refine ⟨_, by simp; rfl, ?_⟩
    refine runA_fin (by simp; rfl) ?_
    rw [hbm]
    have hx2 : x' = .lst .nil 1 [] ∨ ∃ q n c, x' = .arr q 0 n c := by
      rcases hs'.2 with h | ⟨_, q, cs, h, _⟩
      · exact .inl h.2
      · exact .inr ⟨_, _, _, h⟩
    rcases hx2 with rfl | ⟨q, n, c, rfl⟩
    · refine W_evK [4, 5] (by simp [bookN, dcbC]; rfl) ?_
      refine W_ret ?_
      repeat (first | refine on_ret ?_ | refine in_ret ?_)
      exact ⟨.inr rfl, .tup [_, .v (.int .i64 0)], by simp [resA], _, _, rfl, by simp [dcbC]; rfl, outN_own (y := .lst .nil 1 []) hs'⟩
    · refine W_evK [4, 5] (by simp [bookN, dcbC]; rfl) ?_
      refine W_ret ?_
      repeat (first | refine on_ret ?_ | refine in_ret ?_)
      exact ⟨.inr rfl, .tup [_, .v (.int .i64 0)], by simp [resA], _, _, rfl, by simp [dcbC]; rfl, outN_own (y := .lst .nil 1 []) hs'⟩
  have ai : (i : Int) < l.length := by omega
  obtain ⟨r, hri⟩ : ∃ r, l[i]? = some r := ⟨_, List.getElem?_eq_getElem a⟩
  have hr2 : l[i]'a = r := by rw [List.getElem?_eq_getElem a] at hri; exact Option.some.inj hri
  have hrl := hr r (List.mem_of_getElem? hri)
  rw [List.drop_eq_getElem_cons a, hr2, goB] at hgo
  refine W_evK [2, 7, 8, 9, 21, 22, 23, 24] (by simp [blkFrN, a]; rfl) ?_
  refine W_seq ?_
  refine W_cond rfl (fun h => ?_) (fun h => by simp at h)
  refine W_skip ?_
  refine W_seq ?_
  refine W_block ?_
  refine W_evK [2, 7, 8, 9, 21, 22, 23, 11] (by simp [a, ai, hr2]; rfl) ?_
  refine W_seq ?_
  refine W_rK [2, 7, 8, 9, 21, 22, 23, 11, 31] ?_
  refine runA_pre 3 (by simp [bookN, dcbC]; rfl) rfl ?_
  refine runA_call (by simp) (by first | (simp; done) | (simp; rfl)) (fits_sound d r.length) (by simp; rfl) ?_
  rcases Bool.eq_false_or_eq_true (fitsM d r.length) with hf | hf
  rotate_left
  · rw [if_pos hf] at hgo
    rw [hgo] at hbm
    simp only [finB] at hbm
    refine runA_fin (by simp [hf]; rfl) ?_
    refine W_cond rfl (fun h => ?_) (fun h => by simp at h)
    refine W_evK [4, 5] (by simp; rfl) ?_
    refine W_ret ?_
    repeat (first | refine on_ret ?_ | refine in_ret ?_)
    rw [hbm]
    exact ⟨.inr rfl, .tup [.lst .nil 1 [], .v (.int .i64 220)], by simp [retQ, resA], .lst .nil 1 [], _, rfl, by simp [dcbC]; rfl, .inl ⟨rfl, rfl⟩⟩
  rw [if_neg (by rw [hf]; simp)] at hgo
  obtain ⟨f1, f2, f3, f4⟩ := fits_facts hc hf
  refine runA_fin (by simp [hf]; rfl) ?_
  refine W_cond rfl (fun h => by simp at h) (fun h => ?_)
  refine W_skip ?_
  obtain ⟨OB, hOB⟩ : ∃ OB : List (List UInt8) × List UInt8, OB = (if fullM d B r = true then (flushM d O B, []) else (O, B)) := ⟨_, rfl⟩
  have hgo1 : goB d l [] [] = goB d (l.drop (i + 1)) OB.1 (headB d OB.2 r ++ r) := by
    rw [hgo, hOB]
    split <;> rfl
  have hO1 : OB.1.length ≤ i + 1 ∧ OB.2.length ≤ 1040 ∧ ((d.fmt == 2) = true → OB.2 = [] ∨ 4 ≤ OB.2.length) ∧ OB.2.length + r.length ≤ 1032 ∧ ((d.fmt == 2) = true → OB.2 = [] ∨ OB.2.length + r.length + 4 ≤ 1024) := by
    rw [hOB]
    split
    · refine ⟨?_, by simp, fun _ => .inl rfl, by simp; omega, fun _ => .inl rfl⟩
      simp only [flushM]
      split
      · omega
      · simp; omega
    · rename_i hfu
      unfold fullM at hfu
      simp only [Bool.or_eq_true, not_or, decide_eq_true_eq] at hfu
      have h2 : (B.length + lenM d r : Nat) ≤ d.size := by omega
      refine ⟨by simp; omega, hB, hB4, ?_, fun h1 => .inr ?_⟩
      · simp only; unfold lenM at h2; split at h2 <;> omega
      · simp only; unfold lenM at h2; rw [if_pos h1] at h2; omega
  refine W_seqC (fun s => ∃ F1 x1 y1 rest1, outN F1 rest1 x1 OB.1 ∧ blkN F1 rest1 y1 OB.2 ∧ s = ⟨68, blkFrN l i ++ [(11, .lst .any 1 (byL r))], bookN d x1 y1 rest1⟩) ?_ ?_
  · refine W_seqC (fun s => s = ⟨68, blkFrN l i ++ [(11, .lst .any 1 (byL r)), (45, .v (.bool (fullM d B r)))], bookN d x y rest⟩) ?_ ?_
    · have hln := len_sound d r (by omega)
      have wl : IntKind.i64.wrap ((B.length : Int) + (lenM d r : Nat)) = ((B.length + lenM d r : Nat) : Int) := by
        have : lenM d r ≤ 1100 := by unfold lenM; split <;> omega
        rw [w64 (by omega) (by omega)]; omega
      rcases Bool.eq_false_or_eq_true d.blk with hb | hb
      · have hfu : fullM d B r = decide (d.size < (B.length + lenM d r : Nat)) := by simp [fullM, hb]
        simp only [dcbA, hb] at hln
        rw [hfu]
        obtain ⟨N, hN⟩ : ∃ N, B.length + lenM d r = N := ⟨_, rfl⟩
        rw [hN] at wl ⊢
        rcases hy with ⟨rfl, rfl⟩ | ⟨hne, j, cap, Bf, rfl, hFj, hj, hcap, htk, hmx⟩
        · refine W_rdE [2, 7, 8, 9, 21, 22, 23, 11, 45] mx (by decide +kernel) ?_
          refine runD_pre 8 (by simp [bookN, dcbC, hb]; rfl) rfl ?_
          refine runD_call (by simp) (by first | (simp; done) | (simp; rfl)) hln (by simp; rfl) ?_
          simp at wl
          refine runD_fin (by simp [wl]; rfl) ?_
          simp [onNormal, bookN, dcbC, blkFrN, hb]
        · refine W_rdE [2, 7, 8, 9, 21, 22, 23, 11, 45] mx (by decide +kernel) ?_
          refine runD_pre 8 (by simp [bookN, dcbC, hb]; rfl) rfl ?_
          refine runD_call (by simp) (by first | (simp; done) | (simp; rfl)) hln (by simp; rfl) ?_
          refine runD_fin (by simp [wl]; rfl) ?_
          simp [onNormal, bookN, dcbC, blkFrN, hb]
      · have hfu : fullM d B r = true := by simp [fullM, hb]
        rw [hfu]
        refine W_rdE [2, 7, 8, 9, 21, 22, 23, 11, 45] mx (by decide +kernel) ?_
        refine runD_pre 6 (by simp [bookN, dcbC, hb]; rfl) rfl ?_
        refine runD_fin (by simp; rfl) ?_
        simp [onNormal, bookN, dcbC, blkFrN, hb]
    rintro _ rfl
    rcases Bool.eq_false_or_eq_true (fullM d B r) with hfu | hfu
    · rw [hfu] at hOB ⊢
      refine W_cond rfl (fun h => ?_) (fun h => by simp at h)
      refine W_rE [2, 7, 8, 9, 21, 22, 23, 11] ?_
      refine runA_pre 1 (by simp [blkFrN]; rfl) rfl ?_
      refine runA_obj (by simp) (by first | (simp; done) | (simp; exact ⟨rfl, rfl⟩)) ((flush_callN d O B F x y rest hs hy (by omega) (by omega) hB4).mono ?_)
      rintro _ h' ⟨rfl, F', x', rest', hs', rfl⟩
      refine ⟨_, by simp; rfl, ?_⟩
      rw [hOB]
      refine ⟨F', x', .lst .nil 1 [], rest', hs', .inl ⟨rfl, rfl⟩, by simp [blkFrN]⟩
    · rw [hfu] at hOB ⊢
      refine W_cond rfl (fun h => by simp at h) (fun h => ?_)
      refine W_keepS [2, 7, 8, 9, 21, 22, 23, 11] (W_skip ?_)
      rw [hOB]
      exact ⟨F, x, y, rest, hs, hy, by simp [blkFrN]⟩
  rintro _ ⟨F1, x1, y1, rest1, hs1, hy1, rfl⟩
  clear hy hs hO hB hB4 hgo hOB
  obtain ⟨O1, B1⟩ := OB
  obtain ⟨e1, e2, e3, e4, e5⟩ := hO1
  simp only at hs1 hy1 e1 e2 e3 e4 e5 hgo1
  have hdl : (byL (desc (r.length + 4))).length = 4 := by simp
  refine W_seqC (fun s => ∃ y2 rest2, blkN F1 rest2 y2 (headB d B1 r) ∧ outN F1 rest2 x1 O1 ∧ s = ⟨68, blkFrN l i ++ [(11, .lst .any 1 (byL r))], bookN d x1 y2 rest2⟩) ?_ ?_
  · rcases Bool.eq_false_or_eq_true (d.fmt == 2) with h1 | h1
    · refine W_evK [2, 7, 8, 9, 21, 22, 23, 11, 50] (by simp [bookN, dcbC, blkFrN, h1]; rfl) ?_
      refine W_cond rfl (fun h => ?_) (fun h => by simp at h)
      have hhd : headB d B1 r = startB d B1 ++ desc (r.length + 4) := by unfold headB; rw [if_pos h1]
      rw [hhd]
      refine W_seqC (fun s => ∃ y2 rest2, startB d B1 ≠ [] ∧ blkN F1 rest2 y2 (startB d B1) ∧ outN F1 rest2 x1 O1 ∧ s = ⟨68, blkFrN l i ++ [(11, .lst .any 1 (byL r))], bookN d x1 y2 rest2⟩) ?_ ?_
      · rcases hy1 with ⟨rfl, rfl⟩ | ⟨hne, j, cap, Bf, rfl, hFj, hj, hcap, htk, hmx⟩
        · have hst : startB d [] = [0, 0, 0, 0] := by unfold startB; rw [if_pos h1, if_pos rfl]
          rw [hst]
          refine W_evK [2, 7, 8, 9, 21, 22, 23, 11, 53] (by simp [bookN, dcbC, blkFrN]; rfl) ?_
          refine W_cond rfl (fun h => ?_) (fun h => by simp at h)
          refine W_evE [2, 7, 8, 9, 21, 22, 23, 11] (by simp [setSeg]; rfl) ?_
          obtain ⟨n1, n2⟩ := blk_newN (ys := [0, 0, 0, 0]) (cap := 4) hs1 (by simp) (by simp) (by decide)
          exact ⟨_, _, by simp, n1, n2, by simp [blkFrN, bookN, dcbC, repC_bytes]⟩
        · have hst : startB d B1 = B1 := by unfold startB; rw [if_pos h1, if_neg hne]
          rw [hst]
          have hBi : ((B1.length : Int) == 0) = false := beq_eq_false_iff_ne.2 (by have : B1.length ≠ 0 := fun e => hne (List.eq_nil_of_length_eq_zero e); omega)
          refine W_evK [2, 7, 8, 9, 21, 22, 23, 11, 53] (by simp [bookN, dcbC, blkFrN, hBi, hne]; rfl) ?_
          refine W_cond rfl (fun h => by simp at h) (fun h => ?_)
          refine W_keepS [2, 7, 8, 9, 21, 22, 23, 11] (W_skip ?_)
          exact ⟨_, rest1, hne, .inr ⟨hne, j, cap, Bf, rfl, hFj, hj, hcap, htk, hmx⟩, hs1, by simp [blkFrN, bookN, dcbC]⟩
      rintro _ ⟨y2, rest2, hne, hy2, hs2, rfl⟩
      obtain ⟨S, hS⟩ : ∃ S, startB d B1 = S := ⟨_, rfl⟩
      have hSl : S.length ≤ 1040 := by
        rw [← hS]; unfold startB; rw [if_pos h1]; split
        · simp
        · exact e2
      rw [hS] at hne hy2 ⊢
      rcases hy2 with ⟨h0, _⟩ | ⟨_, j, cap, Bf, rfl, hFj, hj, hcap, htk, hmx⟩
      · exact absurd h0 hne
      have wr : IntKind.i64.wrap ((r.length : Int) + 4) = ((r.length + 4 : Nat) : Int) := by rw [w64 (by omega) (by omega)]; omega
      have hds := desc_sound (r.length + 4)
      obtain ⟨rl, hrlq⟩ : ∃ rl, r.length + 4 = rl := ⟨_, rfl⟩
      rw [hrlq] at wr hds hdl ⊢
      refine W_rsE 5 [2, 7, 8, 9, 21, 22, 23, 11] mx (by decide +kernel) ?_
      refine runD_pre 4 (by simp [bookN, dcbC, blkFrN, wr]; rfl) rfl ?_
      refine runD_call (by simp) (by first | (simp; done) | (simp; rfl)) hds (by simp; rfl) ?_
      refine runA_app (id := j + 4) (len := S.length) (cap := cap) (oy := .any) (ys := byL (desc rl)) (cs := byL Bf) (by simp) rfl rfl rfl rfl (by simp) (by simp) s35 a5 z5 (by simp) (by simp [hj]) (by simp [hcap]) (catK_byL _) (by rw [hdl]; omega) ?_
      intro s1 x1' happ
      obtain ⟨rest3, rfl, hb3, hs3⟩ := blk_appN (d := d) (x := x1) (y0 := .arr (j + 4) 0 S.length cap) rfl hs2 hFj hj hcap htk hmx hne happ
      obtain ⟨id', cap', rfl⟩ := hb3.arr (by simp [hne])
      refine ⟨_, by simp; rfl, ?_⟩
      refine runA_fin (by simp [bookN, setSeg]; rfl) ?_
      exact ⟨_, rest3, hb3, hs3, by simp [blkFrN, bookN, dcbC]⟩
    · refine W_evK [2, 7, 8, 9, 21, 22, 23, 11, 50] (by simp [bookN, dcbC, blkFrN, h1]; rfl) ?_
      refine W_cond rfl (fun h => by simp at h) (fun h => ?_)
      have hhd : headB d B1 r = B1 := by unfold headB; rw [h1]; rfl
      rw [hhd]
      refine W_keepS [2, 7, 8, 9, 21, 22, 23, 11] (W_skip ?_)
      exact ⟨y1, rest1, hy1, hs1, by simp [blkFrN, bookN, dcbC]⟩
  rintro _ ⟨y2, rest2, hy2, hs2, rfl⟩
  have hrne : r ≠ [] := fun e => by rw [e] at f1; simp at f1
  obtain ⟨H, hH⟩ : ∃ H, headB d B1 r = H := ⟨_, rfl⟩
  have hHl : H.length ≤ 1100 := by
    rw [← hH]; unfold headB startB
    split
    · split <;> simp <;> omega
    · omega
  have hHr : H.length + r.length ≤ 1040 := by
    rw [← hH]; unfold headB startB
    rcases Bool.eq_false_or_eq_true (d.fmt == 2) with h1 | h1
    · have h2 : d.fmt = 2 := by simpa using h1
      have := (f3 h2).2
      rw [if_pos h1, if_pos h1]
      split
      · simp; omega
      · rename_i hn; have := (e5 h1).resolve_left hn; simp; omega
    · rw [h1]; simp; omega
  have hH4 : (d.fmt == 2) = true → 4 ≤ H.length := by
    intro h1
    rw [← hH]; unfold headB
    rw [if_pos h1]
    simp
  rw [hH] at hy2 hgo1
  have wi : IntKind.i64.wrap ((i : Int) + 1) = ((i + 1 : Nat) : Int) := by rw [w64 (by omega) (by omega)]; omega
  refine W_lastC (fun s => ∃ y3 rest3, blkN F1 rest3 y3 (H ++ r) ∧ outN F1 rest3 x1 O1 ∧ s = ⟨68, blkFrN l i, bookN d x1 y3 rest3⟩) ?_ ?_
  · have hrl2 : (byL r).length = r.length := by simp
    rcases hy2 with ⟨h0, rfl⟩ | ⟨hne, j, cap, Bf, rfl, hFj, hj, hcap, htk, hmx⟩
    · rw [h0, List.nil_append]
      refine W_rE [2, 7, 8, 9, 21, 22, 23] ?_
      refine runA_pre 2 (by simp [bookN, dcbC, blkFrN]; rfl) rfl ?_
      refine runA_nil (s0 := 1) (x0 := []) (oy := .any) (ys := byL r) (by simp) rfl rfl rfl rfl (by simp) (by simp) s35 a5 z5 (by simp) (catK_byL _) (by intro e; exact hrne (by cases r with | nil => rfl | cons b l => simp [byL] at e)) (by rw [hrl2]; omega) ?_
      intro cap' hc1 hc2
      rw [hrl2] at hc1
      refine ⟨_, by simp; rfl, ?_⟩
      refine runA_fin (by simp [setSeg]; rfl) ?_
      obtain ⟨n1, n2⟩ := blk_newN (ys := r) (cap := cap') hs2 hrne hc1 hc2
      exact ⟨_, _, n1, n2, by simp [blkFrN, bookN, dcbC, repC_bytes, byL_append]⟩
    · refine W_rE [2, 7, 8, 9, 21, 22, 23] ?_
      refine runA_pre 2 (by simp [bookN, dcbC, blkFrN]; rfl) rfl ?_
      refine runA_app (id := j + 4) (len := H.length) (cap := cap) (oy := .any) (ys := byL r) (cs := byL Bf) (by simp) rfl rfl rfl rfl (by simp) (by simp) s35 a5 z5 (by simp) (by simp [hj]) (by simp [hcap]) (catK_byL _) (by rw [hrl2]; omega) ?_
      intro s1 x1' happ
      obtain ⟨rest3, rfl, hb3, hs3⟩ := blk_appN (d := d) (x := x1) (y0 := .arr (j + 4) 0 H.length cap) rfl hs2 hFj hj hcap htk hmx hne happ
      obtain ⟨id', cap', rfl⟩ := hb3.arr (by simp [hne])
      refine ⟨_, by simp; rfl, ?_⟩
      refine runA_fin (by simp [bookN, setSeg]; rfl) ?_
      exact ⟨_, rest3, hb3, hs3, by simp [blkFrN, bookN, dcbC]⟩
  rintro _ ⟨y3, rest3, hy3, hs3, rfl⟩
  refine W_evE [2, 7, 8, 9, 21, 22, 23] (by simp [blkFrN, wi]; rfl) ?_
  exact ⟨_, by omega, i + 1, O1, H ++ r, F1, x1, y3, rest3, rfl, by omega, hgo1, hs3, hy3, e1, by simp; omega, fun h1 => .inr (by have := hH4 h1; simp; omega), by simp [blkFrN]⟩
end Go.AM
