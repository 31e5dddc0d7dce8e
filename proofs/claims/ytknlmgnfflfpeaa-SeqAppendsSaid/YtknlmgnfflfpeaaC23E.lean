/- The specification's Fits; SameRec, Same, SameTracks. -/
import Derived.Test.YtknlmgnfflfpeaaC23D
namespace Go.AM
open Go.RowKit Go.Proofs
set_option linter.unusedSimpArgs false
set_option linter.unusedVariables false
set_option maxHeartbeats 1000000

def lastR : Option Int → List Rec → Option Int
  | p, [] => p
  | _, r :: t => lastR (some r.R) t
theorem lastR_snoc (q : Rec) : ∀ (t : List Rec) (p : Option Int), lastR p (t ++ [q]) = some q.R
  | [], _ => rfl
  | r :: t, p => by rw [List.cons_append, lastR]; exact lastR_snoc q t _
theorem prevR_last (t : List Rec) : prevR t t.length = lastR none t := by
  rcases List.eq_nil_or_concat t with rfl | ⟨u, q, rfl⟩
  · rfl
  · rw [List.concat_eq_append, lastR_snoc]
    simp [prevR]
theorem vgo_snoc (r : Rec) : ∀ (t : List Rec) (p : Option Int), vgo p (t ++ [r]) = (vgo p t && !badR (lastR p t) r)
  | [], p => by rw [List.nil_append, vgo_cons, vgo_nil, vgo_nil, lastR]; cases p <;> simp [badR]
  | q :: t, p => by rw [List.cons_append, vgo_cons, vgo_cons, vgo_snoc r t, lastR]; simp only [Bool.and_assoc]
theorem vtrk_snoc (t : List Rec) (r : Rec) : vtrk (t ++ [r]) = fitsT t r := by
  unfold vtrk fitsT vtrk
  rw [vgo_snoc, usedM_snoc, prevR_last]
  by_cases h : usedM t + costM r ≤ 2048
  · have : usedM t ≤ 2048 := by omega
    simp [h, this]
  · simp [h]
theorem trL_snoc (t : List Rec) (r : Rec) : trL t ++ [AV.agg [.v (.int .i64 r.R), .lst .any 1 (byL r.key), .lst .any 1 (byL r.data), .v (.bool r.bad)]] = trL (t ++ [r]) := by simp [trL_append, trL_cons]
theorem rfits15_sound (t : List Rec) (r : Rec) (ht : trSm t) (hr : recSm r) (hl : t.length < 1000000) : Sound Try.prog 67 [.lst .any 4 (trL t), recA r] (.v (.bool (fitsT t r))) := by
  rw [← vtrk_snoc]
  refine sound_of_W Try.func67 rfl (by decide +kernel) (by simp [Try.f67]) rfl rfl (rs := [.tmp 4]) rfl ?_
  rw [show Try.f67.ntmps = 11 from rfl]
  have h2 : trSm (t ++ [r]) := ⟨by simp; omega, fun x hx => by rcases List.mem_append.1 hx with h | h; exact ht.2 x h; rw [List.mem_singleton.1 h]; exact hr⟩
  have b1 : (t.length + 1) * 64 ≤ 140737488355328 := by omega
  have b2 : 64 * (t.length + 1) ≤ 140737488355328 := by omega
  have hv := rvalid_sound15 (t ++ [r]) h2
  refine W_evK [0, 3] (by simp; rfl) ?_
  refine W_rdK [4] mx (by decide +kernel) ?_
  refine runD_pre 1 (by simp; rfl) rfl ?_
  refine runD_call (by simp) (by first | (simp; done) | (simp; rfl)) (copyT_sound t ht) (by simp; rfl) ?_
  refine runD_pre 3 (by simp [catK, AV.cellsK, AV.kone, AV.koneL, b1, b2, trL_snoc]; rfl) rfl ?_
  refine runD_call (by simp) (by first | (simp; done) | (simp; rfl)) hv (by simp; rfl) ?_
  refine runD_fin (by simp; rfl) ?_
  refine W_ret ?_
  repeat (first | refine on_ret ?_ | refine in_ret ?_)
  simp [retQ]

theorem sameRec_sound (a b : Rec) : Sound Try.prog 57 [recA a, recA b] (.v (.bool (decide (a = b)))) := by
  refine sound_of_W Try.func57 rfl (by decide +kernel) (by simp [Try.f57]) rfl rfl (rs := [.tmp 4]) rfl ?_
  rw [show Try.f57.ntmps = 35 from rfl]
  refine W_evK [2, 3] (by simp; rfl) ?_
  by_cases e1 : a.R = b.R
  rotate_left
  · have hne : ¬ a = b := fun e => e1 (by rw [e])
    have e1' : (a.R == b.R) = false := by simp [e1]
    refine W_rK [4] ?_
    refine runA_pre 6 (by simp [e1']; rfl) rfl ?_
    refine runA_pre 6 (by simp; rfl) rfl ?_
    refine runA_pre 6 (by simp; rfl) rfl ?_
    refine runA_pre 6 (by simp; rfl) rfl ?_
    refine runA_fin (by simp; rfl) ?_
    refine W_ret ?_
    repeat (first | refine on_ret ?_ | refine in_ret ?_)
    simp [retQ, hne]
  by_cases e2 : a.bad = b.bad
  rotate_left
  · have hne : ¬ a = b := fun e => e2 (by rw [e])
    have e2x : a.bad = !b.bad := by
      cases h1 : a.bad <;> cases h2 : b.bad <;> simp_all
    refine W_rK [4] ?_
    refine runA_pre 6 (by simp [e1]; rfl) rfl ?_
    refine runA_pre 6 (by simp [e2x]; rfl) rfl ?_
    refine runA_pre 6 (by simp; rfl) rfl ?_
    refine runA_pre 6 (by simp; rfl) rfl ?_
    refine runA_fin (by simp; rfl) ?_
    refine W_ret ?_
    repeat (first | refine on_ret ?_ | refine in_ret ?_)
    simp [retQ, hne]
  by_cases e3 : a.key = b.key
  rotate_left
  · have hne : ¬ a = b := fun e => e3 (by rw [e])
    have e3' : (a.key == b.key) = false := beq_eq_false_iff_ne.2 e3
    refine W_rK [4] ?_
    refine runA_pre 6 (by simp [e1]; rfl) rfl ?_
    refine runA_pre 6 (by simp [e2]; rfl) rfl ?_
    refine runA_pre 8 (by simp [strA, e3']; rfl) rfl ?_
    refine runA_pre 6 (by simp; rfl) rfl ?_
    refine runA_fin (by simp; rfl) ?_
    refine W_ret ?_
    repeat (first | refine on_ret ?_ | refine in_ret ?_)
    simp [retQ, hne]
  by_cases e4 : a.data = b.data
  rotate_left
  · have hne : ¬ a = b := fun e => e4 (by rw [e])
    have e4' : (a.data == b.data) = false := beq_eq_false_iff_ne.2 e4
    refine W_rK [4] ?_
    refine runA_pre 6 (by simp [e1]; rfl) rfl ?_
    refine runA_pre 6 (by simp [e2]; rfl) rfl ?_
    refine runA_pre 8 (by simp [strA, e3]; rfl) rfl ?_
    refine runA_pre 6 (by simp [strA, e4']; rfl) rfl ?_
    refine runA_fin (by simp [strA, e4']; rfl) ?_
    refine W_ret ?_
    repeat (first | refine on_ret ?_ | refine in_ret ?_)
    simp [retQ, hne]
  have heq : a = b := by cases a; cases b; simp_all
  refine W_rK [4] ?_
  refine runA_pre 6 (by simp [e1]; rfl) rfl ?_
  refine runA_pre 6 (by simp [e2]; rfl) rfl ?_
  refine runA_pre 8 (by simp [strA, e3]; rfl) rfl ?_
  refine runA_pre 6 (by simp [strA, e4]; rfl) rfl ?_
  refine runA_fin (by simp [strA, e4]; rfl) ?_
  refine W_ret ?_
  repeat (first | refine on_ret ?_ | refine in_ret ?_)
  simp [retQ, heq]
end Go.AM
