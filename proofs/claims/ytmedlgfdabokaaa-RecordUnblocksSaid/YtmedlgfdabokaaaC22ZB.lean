/- RecordChecks: the law's walk. -/
import Derived.Test.YtmedlgfdabokaaaC22ZA
import Derived.Test.YtmedlgfdabokaaaC22L
import Derived.Test.YtmedlgfdabokaaaAmC
namespace Go.AM
open Go.RowKit Go.Proofs
set_option linter.unusedSimpArgs false
set_option linter.unusedVariables false
set_option maxHeartbeats 2000000

theorem shalL_byL22 (l : List UInt8) : AV.shalL (byL l) = true := by
  unfold AV.shalL byL
  simp only [List.all_map, List.all_eq_true]
  intro b _
  rfl
@[simp] theorem eqb22 (a b : Bool) : eqA Try.prog 4 (.v (.bool a)) (.v (.bool b)) = some (a == b) := by
  unfold eqA
  simp
@[simp] theorem strn22 (a : ByteArray) : strA .neq a a = some (.v (.bool false)) := by simp [strA]
@[simp] theorem stre22 (a : ByteArray) : strA .eql a a = some (.v (.bool true)) := by simp [strA]
@[simp] theorem bytesA_nil22 : bytesA [] = some [] := rfl
theorem rcheck_eq (d : Dcb) : checkM d = if validM d then 0 else 5 := by
  rw [valid_eq]
  by_cases h : checkM d = 0
  · simp [h]
  · simp only [h, decide_false, Bool.false_eq_true, if_false]
    unfold checkM at h ⊢
    repeat' split
    all_goals first | rfl | (exfalso; simp_all)

theorem checks_sound (d : Dcb) (r : List UInt8) (hl : r.length ≤ 9223372036854775807) : Sound Try.prog 9 [dcbA d, .lst .any 1 (byL r)] (.v (.bool true)) := by
  refine sound_of_W Try.func9 rfl (by decide +kernel) (by simp [Try.f9]) rfl rfl (rs := [.tmp 4]) rfl ?_
  rw [show Try.f9.ntmps = 75 from rfl]
  refine W_evK [1, 2] (by simp; rfl) ?_
  refine W_seq ?_
  by_cases b1 : 1100 < r.length
  · have b1' : (1100 : Int) < r.length := by omega
    refine W_evK [1, 2, 13] (by simp [b1, b1']; rfl) ?_
    refine W_cond rfl (fun h => ?_) (fun h => by simp at h)
    refine W_evK [4] (by simp; rfl) ?_
    refine W_ret ?_
    repeat (first | refine on_ret ?_ | refine in_ret ?_)
    simp [retQ]
  have b1' : ¬ (1100 : Int) < r.length := by omega
  refine W_evK [1, 2, 13] (by simp [b1, b1']; rfl) ?_
  refine W_cond rfl (fun h => by simp at h) (fun h => ?_)
  refine W_skip ?_
  have b2 : r.length ≤ 140737488355328 := by omega
  refine W_evK [1, 2, 5] (by simp [b2]; rfl) ?_
  have hK := key_sound d r (by omega)
  have hR := rkey_sound d r (by omega)
  have hC := check_sound d
  have hC2 := rcheck_sound d
  rw [← rcheck_eq] at hC2
  have hF := Fits_sound d r
  have hF2 := rfits_sound d r
  have hFe : rfitsM d r.length = (decide (checkM d = 0) && fitsM d r.length) := by
    by_cases hc : checkM d = 0
    · rw [rfits_eq hc]; simp [hc]
    · unfold rfitsM; rw [valid_eq]; simp [hc]
  rw [hFe] at hF2
  obtain ⟨fv, hfv⟩ : ∃ fv, (decide (checkM d = 0) && fitsM d r.length) = fv := ⟨_, rfl⟩
  rw [hfv] at hF hF2
  obtain ⟨cv, hcv⟩ : ∃ cv, checkM d = cv := ⟨_, rfl⟩
  rw [hcv] at hC hC2
  have hkl : (keyR d r).length ≤ 1100 := by
    unfold keyR
    split
    · rw [List.length_take, List.length_drop]; omega
    · simp
  unfold resK at hK hR
  obtain ⟨ks, hks⟩ : ∃ ks, keyR d r = ks := ⟨_, rfl⟩
  obtain ⟨hv, hhv⟩ : ∃ hv, hasK d r.length = hv := ⟨_, rfl⟩
  rw [hks, hhv] at hK hR
  rw [hks] at hkl
  refine W_rK [1, 2, 5, 6, 7] ?_
  refine runA_pre 2 (by simp; rfl) rfl ?_
  refine runA_obj (f := 19) (args := [dcbA d, .lst (.tip 5 33) 1 (byL r)]) (by simp) (by simp) (callW_thawT (vs := [.bool hv]) (by simpa using hK) (by simp) (thwL_shal (shalL_byL22 ks)) (fun h0 => ?_) (fun cap h1 h2 => ?_))
  · have hs0 : ks = [] := by cases ks with | nil => rfl | cons x l => simp [byL] at h0
    subst hs0
    refine ⟨_, by simp; rfl, ?_⟩
    refine runA_fin (by simp; rfl) ?_
    refine W_rK [1, 2, 5, 6, 7, 8, 9] ?_
    refine runA_pre 2 (by simp; rfl) rfl ?_
    refine runA_call (by simp) (by first | (simp; done) | (simp; rfl)) hR (by simp; rfl) ?_
    refine runA_fin (by simp; rfl) ?_
    refine W_seq ?_
    refine W_rdK [1, 5, 6, 54] mx (by decide +kernel) ?_
    refine runD_pre 6 (by simp; rfl) rfl ?_
    refine runD_pre 6 (by simp; rfl) rfl ?_
    refine runD_call (by simp) (by first | (simp; done) | (simp; rfl)) hC (by simp; rfl) ?_
    refine runD_pre 1 (by simp; rfl) rfl ?_
    refine runD_call (by simp) (by first | (simp; done) | (simp; rfl)) hC2 (by simp; rfl) ?_
    refine runD_pre 5 (by simp; rfl) rfl ?_
    refine runD_call (by simp) (by first | (simp; done) | (simp; rfl)) hF (by simp; rfl) ?_
    refine runD_pre 2 (by simp; rfl) rfl ?_
    refine runD_call (by simp) (by first | (simp; done) | (simp; rfl)) hF2 (by simp; rfl) ?_
    refine runD_fin (by simp; rfl) ?_
    refine W_cond rfl (fun h => by simp at h) (fun h => ?_)
    refine W_skip ?_
    refine W_seq ?_
    refine W_evK [1, 5, 6, 10] (by simp; rfl) ?_
    refine W_block ?_
    refine W_loop (fun k σ => k = 0 ∧ σ = ⟨75, [(1, .lst .any 1 (byL r)), (5, .lst .any 1 (byL r)), (6, .lst .nil 1 []), (10, .v (.int .i64 0))], [.cells 23 [.v (.int .i64 d.org), .v (.int .i64 d.fmt), .v (.bool d.blk), .v (.bool d.asa), .v (.int .i64 d.lrecl), .v (.int .i64 d.size), .v (.int .i64 d.klen), .v (.int .i64 d.kpos)]]⟩) (k := 0) ⟨rfl, by simp⟩ ?_
    rintro k s ⟨rfl, rfl⟩
    refine W_seq ?_
    refine W_evK [1, 5, 6, 10, 58] (by simp; rfl) ?_
    refine W_cond rfl (fun h => by simp at h) (fun h => ?_)
    refine W_exit ?_
    refine W_rK [4] ?_
    refine runA_pre 6 (by simp; rfl) rfl ?_
    refine runA_call (by simp) (by first | (simp; done) | (simp; rfl)) works_sound (by simp; rfl) ?_
    refine runA_fin (by simp; rfl) ?_
    refine W_ret ?_
    repeat (first | refine on_ret ?_ | refine in_ret ?_)
    simp [retQ]
  · have hcl : (byL ks).length = ks.length := by simp
    rw [hcl] at h1
    have w1 : AV.weakL (byL ks) = byL ks := by simp
    rw [hcl, w1, Nat.mul_one]
    refine ⟨_, by simp; rfl, ?_⟩
    refine runA_fin (by simp; rfl) ?_
    refine W_rK [1, 2, 5, 6, 7, 8, 9] ?_
    refine runA_pre 2 (by simp; rfl) rfl ?_
    refine runA_call (by simp) (by first | (simp; done) | (simp; rfl)) hR (by simp; rfl) ?_
    refine runA_fin (by simp; rfl) ?_
    refine W_seq ?_
    refine W_seq (W_pureD [(1, .lst .any 1 (byL r)), (2, .loc 0 0), (5, .lst .any 1 (byL r)), (6, .lst .any 1 (byL ks)), (7, .v (.bool hv)), (8, .lst .any 1 (byL ks)), (9, .v (.bool hv))] mx (by decide +kernel) ?_ ?_)
    · have ht : List.take ks.length (byL ks ++ List.replicate (cap - ks.length) AV.any) = byL ks := List.take_left' (by simp)
      intro i x1 hx
      simp only [getF] at hx
      split at hx
      · cases hx; subst i; exact ⟨_, rfl, .inl (by simp)⟩
      split at hx
      · cases hx; subst i; exact ⟨_, rfl, .inl (by simp)⟩
      split at hx
      · cases hx; subst i; exact ⟨_, rfl, .inl (by simp)⟩
      split at hx
      · cases hx; subst i
        refine ⟨_, rfl, .inr ⟨1, 0, ks.length, cap, 5, byL ks ++ List.replicate (cap - ks.length) .any, false, 1, rfl, rfl, by simp, by decide, .inr rfl, by simp, ?_, ?_, ?_⟩⟩
        · simp [ht]
        · simp [ht]
        · simp [ht]
      split at hx
      · cases hx; subst i; exact ⟨_, rfl, .inl (by simp)⟩
      split at hx
      · cases hx; subst i; exact ⟨_, rfl, .inl (by simp)⟩
      split at hx
      · cases hx; subst i; exact ⟨_, rfl, .inl (by simp)⟩
      cases hx
    simp only [lendH, lendO, List.map, AV.weakL, AV.weak]
    refine runD_pre 6 (by simp; rfl) rfl ?_
    refine runD_pre 6 (by simp; rfl) rfl ?_
    refine runD_call (by simp) (by first | (simp; done) | (simp; rfl)) hC (by simp; rfl) ?_
    refine runD_pre 1 (by simp; rfl) rfl ?_
    refine runD_call (by simp) (by first | (simp; done) | (simp; rfl)) hC2 (by simp; rfl) ?_
    refine runD_pre 5 (by simp; rfl) rfl ?_
    refine runD_call (by simp) (by first | (simp; done) | (simp; rfl)) hF (by simp; rfl) ?_
    refine runD_pre 2 (by simp; rfl) rfl ?_
    refine runD_call (by simp) (by first | (simp; done) | (simp; rfl)) hF2 (by simp; rfl) ?_
    refine runD_fin (by simp; rfl) ?_
    refine ⟨rfl, [(1, .lst .any 1 (byL r)), (5, .lst .any 1 (byL r)), (6, .arr 1 0 ks.length cap), (54, .v (.bool false))], ?_, ?_⟩
    · refine ⟨.inr ⟨rfl, by decide +kernel⟩, .inr ⟨rfl, by decide +kernel⟩, .inr ⟨rfl, by decide +kernel⟩, .inl ⟨_, rfl, rfl⟩, trivial⟩
    refine W_cond rfl (fun h => by simp at h) (fun h => ?_)
    refine W_skip ?_
    refine W_seq ?_
    refine W_evK [1, 5, 6, 10] (by simp; rfl) ?_
    refine W_block ?_
    refine W_loop (fun k σ => ∃ (i : Nat) (cs : List AV), k = ks.length - i ∧ i ≤ ks.length ∧ ks.length ≤ cs.length ∧ (∀ j, j < ks.length → ∃ v : Int, cs[j]? = some (.v (.int .u8 v))) ∧
      σ = ⟨75, [(1, .lst .any 1 (byL r)), (5, .lst .any 1 (byL r)), (6, .arr 1 0 ks.length cap), (10, .v (.int .i64 i))], [.cells 23 [.v (.int .i64 d.org), .v (.int .i64 d.fmt), .v (.bool d.blk), .v (.bool d.asa), .v (.int .i64 d.lrecl), .v (.int .i64 d.size), .v (.int .i64 d.klen), .v (.int .i64 d.kpos)], .cells 5 cs]⟩) (k := ks.length) ⟨0, _, by simp, by omega, ?_, ?_, by simp; rfl⟩ ?_
    · simp
    · intro j hj
      exact ⟨ks[j].toNat, by rw [List.getElem?_append_left (by simpa using hj)]; simp [byL, hj]⟩
    rintro k σ ⟨i, cs, rfl, hi, hcs, hv, rfl⟩
    refine W_seq ?_
    by_cases c : i < ks.length
    · have ci : (i : Int) < ks.length := by omega
      obtain ⟨v, hvi⟩ := hv i c
      have hc1 : i + 1 ≤ cs.length := by omega
      have hmx : maxLen ≤ 9223372036854775807 := by decide +kernel
      have wi := w64 (n := (i : Int) + 1) (by omega) (by omega)
      refine W_evK [1, 5, 6, 10, 58] (by simp [c]; rfl) ?_
      refine W_cond rfl (fun h => ?_) (fun h => by simp at h)
      refine W_skip ?_
      refine W_seq ?_
      refine W_block ?_
      refine W_evE [1, 5, 6, 10] (by simp [c, ci, hvi, hc1]; rfl) ?_
      refine W_evE [1, 5, 6, 10] (by simp [wi]; rfl) ?_
      refine ⟨_, by omega, i + 1, _, rfl, by omega, ?_, ?_, by simp; rfl⟩
      · rw [setSeg_length _ _ _ (by simpa using hc1)]; exact hcs
      · intro j hj
        rw [setSeg_get _ _ _ (by simpa using hc1)]
        split
        · rename_i h
          simp at h
          have : j = i := by omega
          subst this
          simp
        · exact hv j hj
    refine W_evK [1, 5, 6, 10, 58] (by simp [c]; rfl) ?_
    refine W_cond rfl (fun h => by simp at h) (fun h => ?_)
    refine W_exit ?_
    refine W_rK [4] ?_
    refine runA_pre 6 (by simp; rfl) rfl ?_
    refine runA_call (by simp) (by first | (simp; done) | (simp; rfl)) works_sound (by simp; rfl) ?_
    refine runA_fin (by simp; rfl) ?_
    refine W_ret ?_
    repeat (first | refine on_ret ?_ | refine in_ret ?_)
    simp [retQ]
end Go.AM
