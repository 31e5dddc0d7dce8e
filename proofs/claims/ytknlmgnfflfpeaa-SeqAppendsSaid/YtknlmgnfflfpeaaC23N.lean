/- The law's alike. -/
import Derived.Test.YtknlmgnfflfpeaaC23M
import Derived.Test.YtknlmgnfflfpeaaAmC
namespace Go.AM
open Go.RowKit Go.Proofs
set_option linter.unusedSimpArgs false
set_option linter.unusedVariables false
set_option maxHeartbeats 1000000

def ord11 : Ord := .one 0 <| .one 1 <| .one 2 <| .one 3 <| .one 4 <| .one 5 <| .one 6 <| .one 7 <| .one 8 <| .one 9 <| .one 10 <| .one 11 <| .one 12 <| .one 13 <|
  .two 14 15 (.one 15 <| .one 16 <| .one 17 .done) (.one 14 <| .one 16 <| .one 17 .done)
def ro11 (k : Nat) : Bool := k == 3 || k == 6 || k == 10 || k == 13
theorem recA_len (r : Rec) : True := trivial

theorem alike_sound (a b : List (List Rec)) (hl : a.length ≤ 100000000) (ht : ∀ t ∈ a, t.length ≤ 100000000) : Sound Try.prog 26 [.lst .any 1 (arL a), .lst .any 1 (arL b)] (.v (.bool (decide (a = b)))) := by
  refine sound_of_W Try.func26 rfl (by decide +kernel) (by simp [Try.f26]) rfl rfl (rs := [.tmp 4]) rfl ?_
  rw [show Try.f26.ntmps = 84 from rfl]
  refine W_evK [0, 1] (by simp; rfl) ?_
  refine W_seq ?_
  by_cases c : a.length = b.length
  rotate_left
  · have hne : ¬ a = b := fun e => c (by rw [e])
    refine W_evK [0, 1, 13] (by simp [ne_nat, c]; rfl) ?_
    refine W_cond rfl (fun h => ?_) (fun h => by simp at h)
    refine W_evK [4] (by simp; rfl) ?_
    refine W_ret ?_
    repeat (first | refine on_ret ?_ | refine in_ret ?_)
    simp [retQ, hne]
  refine W_evK [0, 1, 13] (by simp [c]; rfl) ?_
  refine W_cond rfl (fun h => by simp at h) (fun h => ?_)
  refine W_skip ?_
  refine W_seq ?_
  refine W_evK [0, 1, 15, 16] (by simp; rfl) ?_
  refine W_block ?_
  refine W_loop (fun k s => ∃ i : Nat, k = a.length - i ∧ i ≤ a.length ∧ a.take i = b.take i ∧ s = ⟨84, [(0, .lst .any 1 (arL a)), (1, .lst .any 1 (arL b)), (15, .v (.int .i64 (a.length : Nat))), (16, .v (.int .i64 (i : Nat)))], []⟩) (k := a.length) ⟨0, by simp, by omega, by simp, by simp⟩ ?_
  rintro k s ⟨i, rfl, hi, hab, rfl⟩
  by_cases hi2 : i < a.length
  rotate_left
  · refine W_evK [0, 1, 15, 16, 17] (by simp [hi2]; rfl) ?_
    refine W_seq ?_
    refine W_cond rfl (fun h => by simp at h) (fun h => ?_)
    refine W_exit ?_
    have hie : i = a.length := by omega
    have hEq : a = b := by
      rw [hie, List.take_length] at hab
      rw [hab, c, List.take_length]
    refine W_evK [4] (by simp; rfl) ?_
    refine W_ret ?_
    repeat (first | refine on_ret ?_ | refine in_ret ?_)
    simp [retQ, hEq]
  have hj2 : i < b.length := by omega
  have hi2' : (i : Int) < a.length := by omega
  have hj2' : (i : Int) < b.length := by omega
  obtain ⟨r, hr⟩ : ∃ r, a[i]? = some r := ⟨_, List.getElem?_eq_getElem hi2⟩
  obtain ⟨q, hq⟩ : ∃ q, b[i]? = some q := ⟨_, List.getElem?_eq_getElem hj2⟩
  have hr2 : a[i]'hi2 = r := by rw [List.getElem?_eq_getElem hi2] at hr; exact Option.some.inj hr
  have hq2 : b[i]'hj2 = q := by rw [List.getElem?_eq_getElem hj2] at hq; exact Option.some.inj hq
  have htr := ht r (List.mem_of_getElem? hr)
  have hneq : r ≠ q → ¬ a = b := fun hn e => hn (by rw [e, hq] at hr; exact (Option.some.inj hr).symm)
  have wi := w64 (n := (i : Int) + 1) (by omega) (by omega)
  refine W_evK [0, 1, 15, 16, 17] (by simp [hi2]; rfl) ?_
  refine W_seq ?_
  refine W_cond rfl (fun h => ?_) (fun h => by simp at h)
  refine W_skip ?_
  refine W_seq ?_
  refine W_block ?_
  refine W_evK [0, 1, 15, 16, 5] (by simp; rfl) ?_
  refine W_seq ?_
  by_cases cl : r.length = q.length
  rotate_left
  · have hne := hneq (fun e => cl (by rw [e]))
    refine W_dvK [0, 1, 15, 16, 5, 29] mx (by decide +kernel) (by simp [hi2, hi2', hj2, hj2', hr2, hq2, ne_nat, cl]; rfl) ?_
    refine W_cond rfl (fun h => ?_) (fun h => by simp at h)
    refine W_evK [4] (by simp; rfl) ?_
    refine W_ret ?_
    repeat (first | refine on_ret ?_ | refine in_ret ?_)
    simp [retQ, hne]
  refine W_dvK [0, 1, 15, 16, 5, 29] mx (by decide +kernel) (by simp [hi2, hi2', hj2, hj2', hr2, hq2, ne_nat, cl]; rfl) ?_
  refine W_cond rfl (fun h => by simp at h) (fun h => ?_)
  refine W_skip ?_
  refine W_evK [0, 1, 15, 16, 5, 34, 35] (by simp [hi2, hi2', hr2]; rfl) ?_
  refine W_block ?_
  refine W_loop (fun k s => ∃ j : Nat, k = r.length - j ∧ j ≤ r.length ∧ r.take j = q.take j ∧ s = ⟨84, [(0, .lst .any 1 (arL a)), (1, .lst .any 1 (arL b)), (15, .v (.int .i64 (a.length : Nat))), (16, .v (.int .i64 (i : Nat))), (5, .v (.int .i64 (i : Nat))), (34, .v (.int .i64 (r.length : Nat))), (35, .v (.int .i64 (j : Nat)))], []⟩) (k := r.length) ⟨0, by simp, by omega, by simp, by simp⟩ ?_
  rintro k s ⟨j, rfl, hj, hrq, rfl⟩
  by_cases hj3 : j < r.length
  rotate_left
  · refine W_evK [0, 1, 15, 16, 5, 34, 35, 36] (by simp [hj3]; rfl) ?_
    refine W_seq ?_
    refine W_cond rfl (fun h => by simp at h) (fun h => ?_)
    refine W_exit ?_
    have hie : j = r.length := by omega
    have hEq : r = q := by
      rw [hie, List.take_length] at hrq
      rw [hrq, cl, List.take_length]
    refine W_evE [0, 1, 15, 16] (by simp [wi]; rfl) ?_
    exact ⟨_, by omega, i + 1, rfl, by omega, take_succ_eq hr (by rw [hq, hEq]) hab, by simp⟩
  have hj4 : j < q.length := by omega
  have hj3' : (j : Int) < r.length := by omega
  have hj4' : (j : Int) < q.length := by omega
  obtain ⟨x, hx⟩ : ∃ x, r[j]? = some x := ⟨_, List.getElem?_eq_getElem hj3⟩
  obtain ⟨y, hy⟩ : ∃ y, q[j]? = some y := ⟨_, List.getElem?_eq_getElem hj4⟩
  have hx2 : r[j]'hj3 = x := by rw [List.getElem?_eq_getElem hj3] at hx; exact Option.some.inj hx
  have hy2 : q[j]'hj4 = y := by rw [List.getElem?_eq_getElem hj4] at hy; exact Option.some.inj hy
  have wj := w64 (n := (j : Int) + 1) (by omega) (by omega)
  have hneq2 : x ≠ y → ¬ a = b := fun hn => hneq fun e => hn (by rw [e, hy] at hx; exact (Option.some.inj hx).symm)
  refine W_evK [0, 1, 15, 16, 5, 34, 35, 36] (by simp [hj3]; rfl) ?_
  refine W_seq ?_
  refine W_cond rfl (fun h => ?_) (fun h => by simp at h)
  refine W_skip ?_
  refine W_seq ?_
  refine W_block ?_
  refine W_evK [0, 1, 15, 16, 5, 34, 35, 6] (by simp; rfl) ?_
  refine W_seqC (fun s => ∃ fr, s = ⟨84, fr, [.cells 49 (recC x), .cells 49 (recC y)]⟩ ∧ FrOk [(0, .lst .any 1 (arL a)), (1, .lst .any 1 (arL b)), (15, .v (.int .i64 (a.length : Nat))), (16, .v (.int .i64 (i : Nat))), (5, .v (.int .i64 (i : Nat))), (34, .v (.int .i64 (r.length : Nat))), (35, .v (.int .i64 (j : Nat))), (7, .loc 0 0), (8, .loc 1 0)] fr) ?_ ?_
  · refine W_ord ro11 ord11 mx (by decide +kernel) ?_
    refine evO_runO _ _ _ (by simp [evO, ord11, ro11, roAt, hi2, hi2', hj2, hj2', hr2, hq2, hj3, hj3', hj4, hj4', hx2, hy2, setSeg]; rfl) ?_
    intro s' hs'
    simp only [List.mem_append, List.mem_singleton, List.mem_cons, List.not_mem_nil, or_false] at hs'
    rcases hs' with rfl | rfl
    · exact ⟨_, Seen.refl _ _, _, rfl, by simp [FrOk, getF]⟩
    · exact ⟨swSt 0 1 _, Seen.sw (by simp) (by simp) (by simp) (by simp), _, rfl, by simp [FrOk, getF, AV.sw, sw]⟩
  rintro _ ⟨fr, rfl, hfr⟩
  refine W_at (n := 84) (l := [(0, .lst .any 1 (arL a)), (1, .lst .any 1 (arL b)), (15, .v (.int .i64 (a.length : Nat))), (16, .v (.int .i64 (i : Nat))), (5, .v (.int .i64 (i : Nat))), (34, .v (.int .i64 (r.length : Nat))), (35, .v (.int .i64 (j : Nat))), (7, .loc 0 0), (8, .loc 1 0)]) (H := [.cells 49 (recC x), .cells 49 (recC y)]) ⟨rfl, rfl, hfr⟩ ?_
  refine W_seqC (fun s => ∃ H, s = ⟨84, [(0, .lst .any 1 (arL a)), (1, .lst .any 1 (arL b)), (15, .v (.int .i64 (a.length : Nat))), (16, .v (.int .i64 (i : Nat))), (5, .v (.int .i64 (i : Nat))), (34, .v (.int .i64 (r.length : Nat))), (35, .v (.int .i64 (j : Nat))), (81, .v (.bool (decide (x ≠ y))))], H⟩) ?_ ?_
  · by_cases e1 : x.R = y.R
    rotate_left
    · have hB : decide (x ≠ y) = true := decide_eq_true fun e => e1 (by rw [e])
      have e1' : (x.R != y.R) = true := by simp [e1]
      rw [hB]
      refine W_rE [0, 1, 15, 16, 5, 34, 35, 81] ?_
      refine runA_pre 6 (by simp [recC, e1']; rfl) rfl ?_
      refine runA_pre 6 (by simp; rfl) rfl ?_
      refine runA_pre 6 (by simp; rfl) rfl ?_
      refine runA_pre 6 (by simp; rfl) rfl ?_
      refine runA_fin (by simp; rfl) ?_
      exact ⟨_, by simp; rfl⟩
    by_cases e2 : x.bad = y.bad
    rotate_left
    · have hB : decide (x ≠ y) = true := decide_eq_true fun e => e2 (by rw [e])
      have e2x : x.bad = !y.bad := by
        cases h1 : x.bad <;> cases h2 : y.bad <;> simp_all
      rw [hB]
      refine W_rE [0, 1, 15, 16, 5, 34, 35, 81] ?_
      refine runA_pre 6 (by simp [recC, e1]; rfl) rfl ?_
      refine runA_pre 6 (by simp [e2x]; rfl) rfl ?_
      refine runA_pre 6 (by simp; rfl) rfl ?_
      refine runA_pre 6 (by simp; rfl) rfl ?_
      refine runA_fin (by simp; rfl) ?_
      exact ⟨_, by simp; rfl⟩
    by_cases e3 : x.key = y.key
    rotate_left
    · have hB : decide (x ≠ y) = true := decide_eq_true fun e => e3 (by rw [e])
      have e3' : (x.key == y.key) = false := beq_eq_false_iff_ne.2 e3
      rw [hB]
      refine W_rE [0, 1, 15, 16, 5, 34, 35, 81] ?_
      refine runA_pre 6 (by simp [recC, e1]; rfl) rfl ?_
      refine runA_pre 6 (by simp [e2]; rfl) rfl ?_
      refine runA_pre 8 (by simp [strA, e3']; rfl) rfl ?_
      refine runA_pre 6 (by simp [strA, e3']; rfl) rfl ?_
      refine runA_fin (by simp; rfl) ?_
      exact ⟨_, by simp; rfl⟩
    by_cases e4 : x.data = y.data
    rotate_left
    · have hB : decide (x ≠ y) = true := decide_eq_true fun e => e4 (by rw [e])
      have e4' : (x.data == y.data) = false := beq_eq_false_iff_ne.2 e4
      rw [hB]
      refine W_rE [0, 1, 15, 16, 5, 34, 35, 81] ?_
      refine runA_pre 6 (by simp [recC, e1]; rfl) rfl ?_
      refine runA_pre 6 (by simp [e2]; rfl) rfl ?_
      refine runA_pre 8 (by simp [strA, e3]; rfl) rfl ?_
      refine runA_pre 6 (by simp [strA, e3, e4']; rfl) rfl ?_
      refine runA_fin (by simp [strA, e4']; rfl) ?_
      exact ⟨_, by simp; rfl⟩
    have heq : x = y := by cases x; cases y; simp_all
    have hB : decide (x ≠ y) = false := decide_eq_false fun h => h heq
    rw [hB]
    refine W_rE [0, 1, 15, 16, 5, 34, 35, 81] ?_
    refine runA_pre 6 (by simp [recC, e1]; rfl) rfl ?_
    refine runA_pre 6 (by simp [e2]; rfl) rfl ?_
    refine runA_pre 8 (by simp [strA, e3]; rfl) rfl ?_
    refine runA_pre 6 (by simp [strA, e3, e4]; rfl) rfl ?_
    refine runA_fin (by simp [strA, e4]; rfl) ?_
    exact ⟨_, by simp; rfl⟩
  rintro _ ⟨H, rfl⟩
  by_cases hxy : x = y
  · have hB : decide (x ≠ y) = false := decide_eq_false fun h => h hxy
    rw [hB]
    refine W_cond rfl (fun h => by simp at h) (fun h => ?_)
    refine W_keepS [0, 1, 15, 16, 5, 34, 35] ?_
    refine W_cutH 0 (by omega) (by omega) rfl (by simp [underH]) ?_
    refine W_skip ?_
    refine W_evE [0, 1, 15, 16, 5, 34, 35] (by simp [wj]; rfl) ?_
    exact ⟨_, by omega, j + 1, rfl, by omega, take_succ_eq hx (by rw [hy, hxy]) hrq, by simp⟩
  · have hB : decide (x ≠ y) = true := decide_eq_true hxy
    have hne := hneq2 hxy
    rw [hB]
    refine W_cond rfl (fun h => ?_) (fun h => by simp at h)
    refine W_evK [4] (by simp; rfl) ?_
    refine W_ret ?_
    repeat (first | refine on_ret ?_ | refine in_ret ?_)
    simp [retQ, hne]
end Go.AM
