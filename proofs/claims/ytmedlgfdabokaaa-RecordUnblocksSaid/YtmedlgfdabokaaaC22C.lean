/- The block that is being made; Block's flush. -/
import Derived.Test.YtmedlgfdabokaaaC22B
namespace Go.AM
open Go.RowKit Go.Proofs
set_option linter.unusedSimpArgs false
set_option linter.unusedVariables false
set_option maxHeartbeats 1000000

def blkOk (rest : List AObj) (x : AV) (B : List UInt8) : Prop :=
  (B = [] ∧ x = .lst .nil 1 []) ∨ (B ≠ [] ∧ ∃ (j cap : Nat) (Bf : List UInt8), x = .arr (j + 3) 0 B.length cap ∧ rest[j]? = some (.cells 5 (byL Bf)) ∧ Bf.length = cap ∧ Bf.take B.length = B ∧ cap ≤ maxLen)
def outOk (x : AV) (O : List (List UInt8)) : Prop := (O = [] ∧ x = .lst .nil 1 []) ∨ x = .lst (.tip 35 35) 1 (bbL O)
def dcbC (d : Dcb) : List AV := [.v (.int .i64 d.org), .v (.int .i64 d.fmt), .v (.bool d.blk), .v (.bool d.asa), .v (.int .i64 d.lrecl), .v (.int .i64 d.size), .v (.int .i64 d.klen), .v (.int .i64 d.kpos)]
def bookH (d : Dcb) (x y : AV) (rest : List AObj) : List AObj := .cells 23 (dcbC d) :: .cells 24 [x] :: .cells 35 [y] :: rest
def datO (o : AObj) : Prop := ∃ Bf, o = .cells 5 (byL Bf) ∨ o = .froz 5 (byL Bf)
def shutR (rest : List AObj) : Prop := ∀ o ∈ rest, datO o
theorem shutR_set {rest : List AObj} (h : shutR rest) (j : Nat) {o : AObj} (ho : datO o) : shutR (rest.set j o) := by
  intro x hx
  rcases List.mem_or_eq_of_mem_set hx with h1 | h1
  · exact h x h1
  · rw [h1]; exact ho
theorem shutR_push {rest : List AObj} (h : shutR rest) {o : AObj} (ho : datO o) : shutR (rest ++ [o]) := by
  intro x hx
  rcases List.mem_append.1 hx with h1 | h1
  · exact h x h1
  · rw [List.mem_singleton.1 h1]; exact ho
theorem shutR_kill {rest : List AObj} (h : shutR rest) (T : Nat) : rest.map (AObj.kill T) = rest := by
  have : rest.map (AObj.kill T) = rest.map id := List.map_congr_left fun o ho => by
    obtain ⟨Bf, rfl | rfl⟩ := h o ho
    · simp [AObj.kill]
    · rfl
  rw [this, List.map_id]
theorem shutR_under {rest : List AObj} (h : shutR rest) (m : Nat) : underH m rest = true := by
  induction rest with
  | nil => rfl
  | cons o l ih =>
    have h1 : o.under m = true := by
      obtain ⟨Bf, rfl | rfl⟩ := h o (by simp) <;> simp [AObj.under]
    simp only [underH, h1, ih fun x hx => h x (by simp [hx]), Bool.and_self]
theorem underH_book {d : Dcb} {x y : AV} {rest : List AObj} {O : List (List UInt8)} {m : Nat} (hx : outOk x O) (hm : m = rest.length + 3) (hy : y.under m = true) (hr : shutR rest) : underH m (bookH d x y rest) = true := by
  subst hm
  unfold bookH dcbC
  have : x.under (rest.length + 3) = true := by
    rcases hx with ⟨_, rfl⟩ | rfl <;> simp [AV.under, AV.underL]
  simp only [underH, AObj.under, AV.underL, AV.under, this, hy, Bool.and_true, Bool.true_and]
  exact shutR_under hr _
def flushB (d : Dcb) (B : List UInt8) : List UInt8 := if d.fmt == 2 then desc B.length ++ B.drop 4 else B
def flushM (d : Dcb) (O : List (List UInt8)) (B : List UInt8) : List (List UInt8) := if B = [] then O else O ++ [flushB d B]

theorem flush_callW (d : Dcb) (O : List (List UInt8)) (B : List UInt8) (x y : AV) (rest : List AObj) (hx : outOk x O) (hy : blkOk rest y B) (hs : shutR rest) (hO : O.length ≤ 1000000) (hB : B.length ≤ 1000000000) (h4 : (d.fmt == 2) = true → B = [] ∨ 4 ≤ B.length) :
    CallW Try.prog 25 [.loc 2 0, .loc 0 0, .loc 1 0] (bookH d x y rest) fun r h' => r = .tup [] ∧ ∃ x' rest', outOk x' (flushM d O B) ∧ shutR rest' ∧ h' = bookH d x' (.lst .nil 1 []) rest' := by
  refine callW_of_W Try.func25 rfl (by decide +kernel) (by simp [Try.f25]) (rs := []) rfl ?_
  rw [show Try.f25.ntmps = 18 from rfl]
  have hl : (bookH d x y rest).length = rest.length + 3 := by simp [bookH]
  rw [hl]
  refine W_seq ?_
  rcases hy with ⟨rfl, rfl⟩ | ⟨hne, j, cap, Bf, rfl, hj, hcap, htk, hmx⟩
  · refine W_evK [0, 1, 2, 5] (by simp [bookH, dcbC]; rfl) ?_
    refine W_cond rfl (fun h => ?_) (fun h => by simp at h)
    refine W_ret ?_
    repeat (first | refine on_ret ?_ | refine in_ret ?_)
    refine ⟨.inr rfl, .tup [], .tup [], bookH d x (.lst .nil 1 []) rest, rest.length + 3, rfl, .inl ⟨rfl, rfl⟩, by omega, by simp [bookH], rfl, ?_, rfl, x, rest, by simpa [flushM] using hx, hs, by rw [List.take_of_length_le (by simp [bookH])]⟩
    rw [List.take_of_length_le (by simp [bookH])]
    exact underH_book hx rfl rfl hs
  have hBl : B.length ≠ 0 := fun e => hne (List.eq_nil_of_length_eq_zero e)
  have hBi : ((B.length : Int) == 0) = false := beq_eq_false_iff_ne.2 (by omega)
  have hle : B.length ≤ cap := by rw [← htk, List.length_take]; omega
  refine W_evK [0, 1, 2, 5] (by simp [bookH, dcbC, hBi, hne]; rfl) ?_
  refine W_cond rfl (fun h => by simp at h) (fun h => ?_)
  refine W_skip ?_
  have hfl : ∃ Bf1 rest1, rest1[j]? = some (.cells 5 (byL Bf1)) ∧ Bf1.length = cap ∧ Bf1.take B.length = flushB d B ∧ shutR rest1 ∧ rest1.length = rest.length ∧ (rest1, Bf1) = (if d.fmt == 2 then (rest.set j (.cells 5 (byL (desc B.length ++ Bf.drop 4))), desc B.length ++ Bf.drop 4) else (rest, Bf)) := by
    unfold flushB
    rcases Bool.eq_false_or_eq_true (d.fmt == 2) with h1 | h1
    · have h5 := (h4 h1).resolve_left hne
      rw [h1]
      have hjl := (List.getElem?_eq_some_iff.1 hj).1
      refine ⟨_, _, by rw [List.getElem?_set_self hjl], ?_, ?_, shutR_set hs j ⟨_, .inl rfl⟩, by simp, rfl⟩
      · simp; omega
      · rw [if_pos rfl, List.take_append, desc_length, List.take_of_length_le (show (desc B.length).length ≤ B.length by simp; omega), ← List.drop_take, htk]
    · rw [h1]
      exact ⟨Bf, rest, hj, hcap, by simpa using htk, hs, rfl, rfl⟩
  obtain ⟨Bf1, rest1, g1, g2, g3, g4, g5, hif⟩ := hfl
  refine W_seqC (fun s => s = ⟨18, [(0, .loc 2 0), (2, .loc 1 0)], bookH d x (.arr (j + 3) 0 B.length cap) rest1⟩) ?_ ?_
  · rcases Bool.eq_false_or_eq_true (d.fmt == 2) with h1 | h1
    · have h5 := (h4 h1).resolve_left hne
      rw [h1] at hif
      simp only [if_true, Prod.mk.injEq] at hif
      obtain ⟨rfl, rfl⟩ := hif
      refine W_evK [0, 2, 8] (by simp [bookH, dcbC, h1]; rfl) ?_
      refine W_cond rfl (fun h => ?_) (fun h => by simp at h)
      refine W_rsE 4 [0, 2] mx (by decide +kernel) ?_
      refine runD_pre 3 (by simp [bookH, dcbC]; rfl) rfl ?_
      refine runD_call (by simp) (by first | (simp; done) | (simp; rfl)) (desc_sound B.length) (by simp; rfl) ?_
      refine runA_copy (t := 35) (t' := 35) (e := 5) (sz := 1) (id := j + 3) (off := 0) (len := B.length) (cap := cap) (ag := false) (oy := .any) (cs := byL Bf) (ys := byL (desc B.length)) (yc := byL (desc B.length)) (by simp) rfl rfl rfl rfl (by simp) (by simp) s35 (by omega) (by simp [bookH, hj]) (by simp; omega) (by rw [List.take_of_length_le (by simp; omega)]; exact catK_byL _) ?_
      refine ⟨_, by simp; rfl, ?_⟩
      simp [runA, onNormal, bookH, dcbC, setSeg_bytes]
    · rw [h1] at hif
      simp only [Bool.false_eq_true, if_false, Prod.mk.injEq] at hif
      obtain ⟨rfl, rfl⟩ := hif
      refine W_evK [0, 2, 8] (by simp [bookH, dcbC, h1]; rfl) ?_
      refine W_cond rfl (fun h => by simp at h) (fun h => ?_)
      refine W_keepS [0, 2] (W_skip ?_)
      simp [onNormal, bookH, dcbC]
  rintro _ rfl
  have hfz : ∃ o, frzArr Try.prog (bookH d x (.arr (j + 3) 0 B.length cap) rest1) 1 (j + 3) 0 B.length cap = some (.lst o 1 (byL (flushB d B)), bookH d x (.arr (j + 3) 0 B.length cap) (rest1.set j (.froz 5 (byL Bf1)))) := by
    have e1 : (bookH d x (.arr (j + 3) 0 B.length cap) rest1)[j + 3]? = some (.cells 5 (byL Bf1)) := by simp [bookH, g1]
    have e2 : tyI Try.prog 5 = some (false, 1) := by simp
    have e3 : chunk false 1 B.length (byL Bf1) = byL (flushB d B) := by rw [chunk_byL _ _ (by omega), g3]
    have e4 : (bookH d x (.arr (j + 3) 0 B.length cap) rest1).set (j + 3) (.froz 5 (byL Bf1)) = bookH d x (.arr (j + 3) 0 B.length cap) (rest1.set j (.froz 5 (byL Bf1))) := by simp [bookH]
    refine ⟨if 0 = 0 ∧ B.length = cap ∧ cap * 1 = (byL Bf1).length then .tip 5 1 else .any, ?_⟩
    simp only [frzArr, e1, e2]
    rw [if_pos ⟨by omega, .inr trivial, by simp; omega, koneL_byL _, rfL_byL _⟩, weakL_byL, List.drop_zero, e3, e4]
  obtain ⟨o, hfz⟩ := hfz
  refine W_frzP 2 0 (cs := [.arr (j + 3) 0 B.length cap]) rfl rfl (by omega) (by decide) hfz ?_
  have hjl : j < rest1.length := (List.getElem?_eq_some_iff.1 g1).1
  have hs2 := shutR_set g4 j (o := .froz 5 (byL Bf1)) ⟨_, .inr rfl⟩
  obtain ⟨rest2, hr2⟩ : ∃ rest2, rest1.set j (.froz 5 (byL Bf1)) = rest2 := ⟨_, rfl⟩
  have hr2l : rest2.length = rest.length := by rw [← hr2, List.length_set]; exact g5
  rw [hr2] at hs2 ⊢
  have hfin : ∀ x', outOk x' (flushM d O B) → retW Try.prog [] (rest.length + 3) (fun r h' => r = .tup [] ∧ ∃ x' rest', outOk x' (flushM d O B) ∧ shutR rest' ∧ h' = bookH d x' (.lst .nil 1 []) rest') .normal ⟨18, [], bookH d x' (.lst .nil 1 []) rest2⟩ := by
    intro x' hx'
    refine ⟨.inl rfl, .tup [], .tup [], bookH d x' (.lst .nil 1 []) rest2, rest2.length + 3, rfl, .inl ⟨rfl, rfl⟩, by omega, by simp [bookH], rfl, ?_, rfl, x', rest2, hx', hs2, by rw [List.take_of_length_le (by simp [bookH])]⟩
    rw [List.take_of_length_le (by simp [bookH])]
    exact underH_book hx' rfl rfl hs2
  have b1 : (O.length + 1) * 24 ≤ 140737488355328 := by omega
  have b2 : 24 * (O.length + 1) ≤ 140737488355328 := by omega
  have hfm : flushM d O B = O ++ [flushB d B] := by unfold flushM; rw [if_neg hne]
  rw [hfm] at hfin ⊢
  rcases hx with ⟨rfl, rfl⟩ | rfl
  · refine W_evK [0] (by simp [bookH, dcbC, AV.plain, catK, AV.cellsK, AV.kone, AV.koneL]; rfl) ?_
    refine W_evE [] (by simp; rfl) ?_
    have := hfin (.lst (.tip 35 35) 1 (bbL [flushB d B])) (.inr rfl)
    simpa [bookH, dcbC, bbL_cons, setSeg] using this
  · refine W_evK [0] (by simp [bookH, dcbC, AV.plain, catK, AV.cellsK, AV.kone, AV.koneL, b1, b2, shutR_kill hs2]; rfl) ?_
    refine W_evE [] (by simp; rfl) ?_
    have := hfin (.lst (.tip 35 35) 1 (bbL (O ++ [flushB d B]))) (.inr rfl)
    simpa [bookH, dcbC, bbL_append, bbL_cons, setSeg] using this
end Go.AM
