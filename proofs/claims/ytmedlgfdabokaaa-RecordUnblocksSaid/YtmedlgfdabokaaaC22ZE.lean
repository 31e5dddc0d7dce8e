/- Block once more: its rows are made slices that nobody shares. -/
import Derived.Test.YtmedlgfdabokaaaC22D
import Derived.Test.YtmedlgfdabokaaaAmC
namespace Go.AM
open Go.RowKit Go.Proofs
set_option linter.unusedSimpArgs false
set_option linter.unusedVariables false
set_option maxHeartbeats 2000000

def rowN (F : Nat) (rest : List AObj) (c : AV) (B : List UInt8) : Prop := ∃ (j cap : Nat) (Bf : List UInt8), c = .arr (j + 4) 0 B.length cap ∧ j < F ∧ rest[j]? = some (.cells 5 (byL Bf)) ∧ Bf.take B.length = B
def outN (F : Nat) (rest : List AObj) (x : AV) (O : List (List UInt8)) : Prop :=
  F ≤ rest.length ∧ ((O = [] ∧ x = .lst .nil 1 []) ∨ (O ≠ [] ∧ ∃ (q : Nat) (cs : List AV), x = .arr (q + 4) 0 O.length cs.length ∧ q < F ∧ rest[q]? = some (.cells 35 cs) ∧ O.length ≤ cs.length ∧ cs.length ≤ maxLen ∧
    ∀ (k : Nat) (B : List UInt8), O[k]? = some B → ∃ c, cs[k]? = some c ∧ rowN F rest c B))
theorem rowN_keep {F F' : Nat} {rest rest' : List AObj} {c : AV} {B : List UInt8} (h : rowN F rest c B) (hF : F ≤ F') (hk : ∀ i o, i < F → rest[i]? = some o → rest'[i]? = some o) : rowN F' rest' c B := by
  obtain ⟨j, cap, Bf, h1, h2, h3, h4⟩ := h
  exact ⟨j, cap, Bf, h1, by omega, hk _ _ h2 h3, h4⟩
theorem outN_keep {F : Nat} {rest rest' : List AObj} {x : AV} {O : List (List UInt8)} (h : outN F rest x O) (hk : ∀ i o, i < F → rest[i]? = some o → rest'[i]? = some o) (hl : F ≤ rest'.length) : outN F rest' x O := by
  obtain ⟨_, h⟩ := h
  refine ⟨hl, ?_⟩
  rcases h with h | ⟨h0, q, cs, h1, h2, h3, h4, h5, h6⟩
  · exact .inl h
  · exact .inr ⟨h0, q, cs, h1, h2, hk _ _ h2 h3, h4, h5, fun k B hB => by
      obtain ⟨c, k1, k2⟩ := h6 k B hB
      exact ⟨c, k1, rowN_keep k2 (Nat.le_refl _) hk⟩⟩
theorem outN_set {F : Nat} {rest : List AObj} {x : AV} {O : List (List UInt8)} (h : outN F rest x O) {j : Nat} (hj : F ≤ j) (o : AObj) : outN F (rest.set j o) x O :=
  outN_keep h (fun i o hi ho => by rw [List.getElem?_set_ne (by omega)]; exact ho) (by rw [List.length_set]; exact h.1)
theorem outN_push {F : Nat} {rest : List AObj} {x : AV} {O : List (List UInt8)} (h : outN F rest x O) (X : List AObj) : outN F (rest ++ X) x O :=
  outN_keep h (fun i o hi ho => by rw [List.getElem?_append_left (List.getElem?_eq_some_iff.1 ho).1]; exact ho) (by have := h.1; rw [List.length_append]; omega)
def blkN (F : Nat) (rest : List AObj) (x : AV) (B : List UInt8) : Prop :=
  (B = [] ∧ x = .lst .nil 1 []) ∨ (B ≠ [] ∧ ∃ (j cap : Nat) (Bf : List UInt8), x = .arr (j + 4) 0 B.length cap ∧ F ≤ j ∧ rest[j]? = some (.cells 5 (byL Bf)) ∧ Bf.length = cap ∧ Bf.take B.length = B ∧ cap ≤ maxLen)
def bookN (d : Dcb) (x y : AV) (rest : List AObj) : List AObj := .cells 23 (dcbC d) :: .cells 23 (dcbC d) :: .cells 24 [x] :: .cells 35 [y] :: rest
theorem blkN.arr {F : Nat} {rest : List AObj} {x : AV} {B : List UInt8} (h : blkN F rest x B) (hne : B ≠ []) : ∃ id cap, x = .arr id 0 B.length cap := by
  rcases h with ⟨h0, _⟩ | ⟨_, j, cap, Bf, rfl, _⟩
  · exact absurd h0 hne
  · exact ⟨_, _, rfl⟩
theorem len_bookN (d : Dcb) (x y : AV) (rest : List AObj) : (bookN d x y rest).length = rest.length + 4 := by simp [bookN]
theorem blk_appN {d : Dcb} {F : Nat} {O : List (List UInt8)} {x y0 x1 : AV} {rest : List AObj} {B ys Bf : List UInt8} {j cap : Nat} {s s1 : St} (hh : s.h = bookN d x y0 rest) (hr : outN F rest x O) (hFj : F ≤ j) (hj : rest[j]? = some (.cells 5 (byL Bf))) (hcap : Bf.length = cap) (htk : Bf.take B.length = B) (hmx : cap ≤ maxLen) (hne : B ≠ [])
    (h : appQ s 5 1 (j + 4) B.length cap (byL ys).length (byL ys) (byL Bf) (AV.v (.int .u8 0)).cells s1 x1) : ∃ rest', s1 = ⟨s.n, s.fr, bookN d x y0 rest'⟩ ∧ blkN F rest' x1 (B ++ ys) ∧ outN F rest' x O := by
  have hle : B.length ≤ cap := by rw [← htk, List.length_take]; omega
  have hne2 : B ++ ys ≠ [] := by simp [hne]
  unfold appQ at h
  rw [byL_length, weakL_byL, Nat.mul_one, z5c] at h
  rcases h with ⟨h1, rfl, rfl⟩ | ⟨h1, cap', h2, h3, rfl, rfl⟩
  · refine ⟨rest.set j (.cells 5 (byL (Bf.take B.length ++ ys ++ Bf.drop (B.length + ys.length)))), ?_, .inr ⟨hne2, j, cap, Bf.take B.length ++ ys ++ Bf.drop (B.length + ys.length), by rw [List.length_append], hFj, ?_, ?_, ?_, hmx⟩, outN_set hr hFj _⟩
    · rw [hh, setSeg_bytes]
      simp [bookN]
    · exact List.getElem?_set_self (List.getElem?_eq_some_iff.1 hj).1
    · simp; omega
    · rw [htk, List.length_append, ← List.length_append, List.take_left]
  · refine ⟨rest ++ [.cells 5 (byL (B ++ ys ++ List.replicate (cap' - (B.length + ys.length)) 0))], ?_, .inr ⟨hne2, rest.length, cap', B ++ ys ++ List.replicate (cap' - (B.length + ys.length)) 0, by rw [hh, len_bookN, List.length_append], hr.1, ?_, ?_, ?_, h3⟩, outN_push hr _⟩
    · rw [hh, ← byL_take, htk, repC_bytes, ← byL_append, ← byL_append]
      simp [bookN]
    · simp
    · simp; omega
    · rw [List.take_left]
theorem blk_newN {F : Nat} {x : AV} {O : List (List UInt8)} {rest : List AObj} {ys : List UInt8} {cap : Nat} (hr : outN F rest x O) (hne : ys ≠ []) (h1 : ys.length ≤ cap) (hm : cap ≤ maxLen) :
    blkN F (rest ++ [.cells 5 (byL (ys ++ List.replicate (cap - ys.length) 0))]) (.arr (rest.length + 4) 0 ys.length cap) ys ∧ outN F (rest ++ [.cells 5 (byL (ys ++ List.replicate (cap - ys.length) 0))]) x O :=
  ⟨.inr ⟨hne, rest.length, cap, ys ++ List.replicate (cap - ys.length) 0, rfl, hr.1, by simp, by simp; omega, List.take_left, hm⟩, outN_push hr _⟩

theorem rows_app {F : Nat} {rest rest' : List AObj} {O : List (List UInt8)} {B' : List UInt8} {cs cs' : List AV} {q' j cap : Nat} {Bf1 : List UInt8}
    (hrow : ∀ (k : Nat) (B : List UInt8), O[k]? = some B → ∃ c, cs[k]? = some c ∧ rowN F rest c B)
    (hkeep : ∀ i Bf, i < F → rest[i]? = some (.cells 5 (byL Bf)) → rest'[i]? = some (.cells 5 (byL Bf)))
    (hF : F ≤ rest'.length) (hq' : rest'[q']? = some (.cells 35 cs')) (hl : O.length + 1 ≤ cs'.length) (hm : cs'.length ≤ maxLen)
    (hcs : ∀ k, k < O.length → cs'[k]? = cs[k]?) (hnew : cs'[O.length]? = some (.arr (j + 4) 0 B'.length cap)) (hj : rest'[j]? = some (.cells 5 (byL Bf1))) (htk : Bf1.take B'.length = B') :
    outN rest'.length rest' (.arr (q' + 4) 0 (O.length + 1) cs'.length) (O ++ [B']) := by
  refine ⟨Nat.le_refl _, .inr ⟨by simp, q', cs', by simp, (List.getElem?_eq_some_iff.1 hq').1, hq', by simpa using hl, hm, fun k B hB => ?_⟩⟩
  rcases Nat.lt_trichotomy k O.length with h | h | h
  · rw [List.getElem?_append_left h] at hB
    obtain ⟨c, h1, j2, cap2, Bf2, rfl, h3, h4, h5⟩ := hrow k B hB
    exact ⟨_, (hcs k h).trans h1, j2, cap2, Bf2, rfl, by omega, hkeep _ _ h3 h4, h5⟩
  · subst h
    rw [List.getElem?_append_right (Nat.le_refl _), Nat.sub_self] at hB
    simp at hB
    subst hB
    exact ⟨_, hnew, j, cap, Bf1, rfl, (List.getElem?_eq_some_iff.1 hj).1, hj, htk⟩
  · rw [List.getElem?_eq_none (by simp; omega)] at hB
    cases hB

theorem flush_callN (d : Dcb) (O : List (List UInt8)) (B : List UInt8) (F : Nat) (x y : AV) (rest : List AObj) (hs : outN F rest x O) (hy : blkN F rest y B) (hO : O.length ≤ 1000000) (hB : B.length ≤ 1000000000) (h4 : (d.fmt == 2) = true → B = [] ∨ 4 ≤ B.length) :
    CallW Try.prog 25 [.loc 3 0, .loc 1 0, .loc 2 0] (bookN d x y rest) fun r h' => r = .tup [] ∧ ∃ F' x' rest', outN F' rest' x' (flushM d O B) ∧ h' = bookN d x' (.lst .nil 1 []) rest' := by
  refine callW_of_F Try.func25 rfl (by decide +kernel) (by simp [Try.f25]) (rs := []) rfl ?_
  rw [show Try.f25.ntmps = 18 from rfl]
  have hl : (bookN d x y rest).length = rest.length + 4 := by simp [bookN]
  rw [hl]
  refine W_seq ?_
  rcases hy with ⟨rfl, rfl⟩ | ⟨hne, j, cap, Bf, rfl, hFj, hj, hcap, htk, hmx⟩
  · refine W_evK [0, 1, 2, 5] (by simp [bookN, dcbC]; rfl) ?_
    refine W_cond rfl (fun h => ?_) (fun h => by simp at h)
    refine W_ret ?_
    repeat (first | refine on_ret ?_ | refine in_ret ?_)
    exact ⟨.inr rfl, .tup [], rfl, rfl, F, x, rest, by simpa [flushM] using hs, rfl⟩
  have hBl : B.length ≠ 0 := fun e => hne (List.eq_nil_of_length_eq_zero e)
  have hBi : ((B.length : Int) == 0) = false := beq_eq_false_iff_ne.2 (by omega)
  have hle : B.length ≤ cap := by rw [← htk, List.length_take]; omega
  refine W_evK [0, 1, 2, 5] (by simp [bookN, dcbC, hBi, hne]; rfl) ?_
  refine W_cond rfl (fun h => by simp at h) (fun h => ?_)
  refine W_skip ?_
  have hfl : ∃ Bf1 rest1, rest1[j]? = some (.cells 5 (byL Bf1)) ∧ Bf1.length = cap ∧ Bf1.take B.length = flushB d B ∧ outN F rest1 x O ∧ rest1.length = rest.length ∧ (rest1, Bf1) = (if d.fmt == 2 then (rest.set j (.cells 5 (byL (desc B.length ++ Bf.drop 4))), desc B.length ++ Bf.drop 4) else (rest, Bf)) := by
    unfold flushB
    rcases Bool.eq_false_or_eq_true (d.fmt == 2) with h1 | h1
    · have h5 := (h4 h1).resolve_left hne
      rw [h1]
      have hjl := (List.getElem?_eq_some_iff.1 hj).1
      refine ⟨_, _, by rw [List.getElem?_set_self hjl], ?_, ?_, outN_set hs hFj _, by simp, rfl⟩
      · simp; omega
      · rw [if_pos rfl, List.take_append, desc_length, List.take_of_length_le (show (desc B.length).length ≤ B.length by simp; omega), ← List.drop_take, htk]
    · rw [h1]
      exact ⟨Bf, rest, hj, hcap, by simpa using htk, hs, rfl, rfl⟩
  obtain ⟨Bf1, rest1, g1, g2, g3, g4, g5, hif⟩ := hfl
  refine W_seqC (fun s => s = ⟨18, [(0, .loc 3 0), (2, .loc 2 0)], bookN d x (.arr (j + 4) 0 B.length cap) rest1⟩) ?_ ?_
  · rcases Bool.eq_false_or_eq_true (d.fmt == 2) with h1 | h1
    · have h5 := (h4 h1).resolve_left hne
      rw [h1] at hif
      simp only [if_true, Prod.mk.injEq] at hif
      obtain ⟨rfl, rfl⟩ := hif
      refine W_evK [0, 2, 8] (by simp [bookN, dcbC, h1]; rfl) ?_
      refine W_cond rfl (fun h => ?_) (fun h => by simp at h)
      refine W_rsE 4 [0, 2] mx (by decide +kernel) ?_
      refine runD_pre 3 (by simp [bookN, dcbC]; rfl) rfl ?_
      refine runD_call (by simp) (by first | (simp; done) | (simp; rfl)) (desc_sound B.length) (by simp; rfl) ?_
      refine runA_copy (t := 35) (t' := 35) (e := 5) (sz := 1) (id := j + 4) (off := 0) (len := B.length) (cap := cap) (ag := false) (oy := .any) (cs := byL Bf) (ys := byL (desc B.length)) (yc := byL (desc B.length)) (by simp) rfl rfl rfl rfl (by simp) (by simp) s35 (by omega) (by simp [bookN, hj]) (by simp; omega) (by rw [List.take_of_length_le (by simp; omega)]; exact catK_byL _) ?_
      refine ⟨_, by simp; rfl, ?_⟩
      simp [runA, onNormal, bookN, dcbC, setSeg_bytes]
    · rw [h1] at hif
      simp only [Bool.false_eq_true, if_false, Prod.mk.injEq] at hif
      obtain ⟨rfl, rfl⟩ := hif
      refine W_evK [0, 2, 8] (by simp [bookN, dcbC, h1]; rfl) ?_
      refine W_cond rfl (fun h => by simp at h) (fun h => ?_)
      refine W_keepS [0, 2] (W_skip ?_)
      simp [onNormal, bookN, dcbC]
  rintro _ rfl
  have hfl2 : (flushB d B).length = B.length := by rw [← g3, List.length_take]; omega
  have hfm : flushM d O B = O ++ [flushB d B] := by unfold flushM; rw [if_neg hne]
  rw [hfm]
  obtain ⟨fb, hfb⟩ : ∃ fb, flushB d B = fb := ⟨_, rfl⟩
  rw [hfb] at hfl2 g3 ⊢
  have hjl : j < rest1.length := (List.getElem?_eq_some_iff.1 g1).1
  obtain ⟨gF, hg⟩ := g4
  refine W_rK [0] ?_
  rcases hg with ⟨rfl, rfl⟩ | ⟨hO0, q, cs, rfl, hqF, hq, hcl, hcm, hrow⟩
  · refine runA_pre 2 (by simp [bookN, dcbC]; rfl) rfl ?_
    refine runA_b (by simp) ⟨_, by simp [evSame, evBsO, catK, AV.cellsK, AV.kone, AV.koneL]; rfl, ?_⟩
    refine runA_nilA (t := 24) (e := 35) (sz := 1) (by_ := 24) (m := 1) (s0 := 1) (x0 := []) (yc := [AV.arr (j + 4) 0 B.length cap]) (by simp) rfl rfl rfl rfl (by simp [bookN]) (by simp [srcA, bookN]) s24 a35 z35 (by simp) (by omega) (by omega) ?_
    intro cap' h1 h2
    refine ⟨_, by simp; rfl, ?_⟩
    refine runA_fin (by simp [bookN, dcbC]; rfl) ?_
    refine W_evE [] (by simp; rfl) ?_
    refine ⟨.inl rfl, .tup [], rfl, rfl, _, _, rest1 ++ [AObj.cells 35 [AV.arr (j + 4) 0 B.length cap], AObj.cells 35 (AV.arr (j + 4) 0 B.length cap :: repC (cap' - 1) [AV.lst .nil 1 []])], rows_app (F := F) (rest := rest1) (O := []) (cs := []) (cs' := .arr (j + 4) 0 B.length cap :: repC (cap' - 1) [AV.lst .nil 1 []]) (q' := rest1.length + 1) (j := j) (cap := cap) (Bf1 := Bf1) (fun k B h => by simp at h) (fun i Bf hi h => by rw [List.getElem?_append_left (by omega)]; exact h) (by simp; omega) (by simp) (by simp) (by simp [repC_length]; omega) (fun k h => by simp at h) (by simp [hfl2]) (by rw [List.getElem?_append_left hjl]; exact g1) (by rw [hfl2]; exact g3), ?_⟩
    simp [bookN, dcbC, setSeg, repC_length]
    omega
  · have hql : q < rest1.length := (List.getElem?_eq_some_iff.1 hq).1
    have hqj : q ≠ j := by omega
    refine runA_pre 2 (by simp [bookN, dcbC]; rfl) rfl ?_
    refine runA_b (by simp) ⟨_, by simp [evSame, evBsO, catK, AV.cellsK, AV.kone, AV.koneL]; rfl, ?_⟩
    refine runA_appA (t := 24) (e := 35) (sz := 1) (by_ := 24) (id := q + 4) (len := O.length) (cap := cs.length) (m := 1) (cs := cs) (yc := [AV.arr (j + 4) 0 B.length cap]) (by simp) rfl rfl rfl rfl (by simp [bookN]) (by simp [srcA, bookN]) s24 a35 z35 (by simp) (by simp [bookN, List.getElem?_append_left hql, hq]) (by simp) (by omega) ?_
    intro s1 x1 hqq
    rcases hqq with ⟨h1, rfl, rfl⟩ | ⟨h1, cap', h2, h3, rfl, rfl⟩
    · have hsl : (setSeg cs (O.length * 1) [AV.arr (j + 4) 0 B.length cap]).length = cs.length := setSeg_length _ _ _ (by simpa using h1)
      refine ⟨_, by simp; rfl, ?_⟩
      refine runA_fin (by simp [bookN, dcbC]; rfl) ?_
      refine W_evE [] (by simp; rfl) ?_
      have hr := rows_app (F := F) (rest := rest1) (rest' := (rest1 ++ [AObj.cells 35 [AV.arr (j + 4) 0 B.length cap]]).set q (AObj.cells 35 (setSeg cs (O.length * 1) [AV.arr (j + 4) 0 B.length cap]))) (O := O) (B' := fb) (cs := cs) (cs' := setSeg cs (O.length * 1) [AV.arr (j + 4) 0 B.length cap]) (q' := q) (j := j) (cap := cap) (Bf1 := Bf1) hrow
        (fun i Bf hi h => by
          have hiq : q ≠ i := by rintro rfl; rw [hq] at h; cases h
          rw [List.getElem?_set_ne hiq, List.getElem?_append_left (by omega)]; exact h)
        (by simp; omega) (by rw [List.getElem?_set_self (by simp; omega)]) (by rw [hsl]; exact h1) (by rw [hsl]; exact hcm)
        (fun k hk => by rw [setSeg_get _ _ _ (by simpa using h1), if_neg (by omega)])
        (by rw [setSeg_get _ _ _ (by simpa using h1), if_pos (by simp)]; simp [hfl2])
        (by rw [List.getElem?_set_ne hqj, List.getElem?_append_left hjl]; exact g1) (by rw [hfl2]; exact g3)
      rw [hsl] at hr
      refine ⟨.inl rfl, .tup [], rfl, rfl, _, _, _, hr, ?_⟩
      simp [bookN, dcbC, setSeg]
    · refine ⟨_, by simp; rfl, ?_⟩
      refine runA_fin (by simp [bookN, dcbC]; rfl) ?_
      refine W_evE [] (by simp; rfl) ?_
      have hl3 : (cs.take (O.length * 1) ++ [AV.arr (j + 4) 0 B.length cap] ++ repC (cap' - (O.length + 1)) [AV.lst .nil 1 []]).length = cap' := by simp [repC_length]; omega
      have hr := rows_app (F := F) (rest := rest1) (rest' := rest1 ++ [AObj.cells 35 [AV.arr (j + 4) 0 B.length cap], AObj.cells 35 (cs.take (O.length * 1) ++ [AV.arr (j + 4) 0 B.length cap] ++ repC (cap' - (O.length + 1)) [AV.lst .nil 1 []])]) (O := O) (B' := fb) (cs := cs) (cs' := cs.take (O.length * 1) ++ [AV.arr (j + 4) 0 B.length cap] ++ repC (cap' - (O.length + 1)) [AV.lst .nil 1 []]) (q' := rest1.length + 1) (j := j) (cap := cap) (Bf1 := Bf1) hrow
        (fun i Bf hi h => by rw [List.getElem?_append_left (by omega)]; exact h)
        (by simp; omega) (by simp) (by rw [hl3]; exact h2) (by rw [hl3]; exact h3)
        (fun k hk => by rw [List.append_assoc, List.getElem?_append_left (by simp; omega), List.getElem?_take, if_pos (by omega)])
        (by rw [List.append_assoc, List.getElem?_append_right (by simp; omega)]; simp [hfl2, Nat.min_eq_left hcl])
        (by rw [List.getElem?_append_left hjl]; exact g1) (by rw [hfl2]; exact g3)
      rw [hl3] at hr
      refine ⟨.inl rfl, .tup [], rfl, rfl, _, _, _, hr, ?_⟩
      simp [bookN, dcbC, setSeg]
end Go.AM
