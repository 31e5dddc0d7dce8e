/- The specification's slot. -/
import Derived.Test.YtonckolkghbcbaaC38U
namespace Go.AM
open Go.RowKit Go.Proofs
set_option linter.unusedSimpArgs false
set_option linter.unusedVariables false
set_option maxHeartbeats 1000000

def fdM : List Rec → Option (List UInt8)
  | [] => none
  | r :: _ => if 4 ≤ r.data.length then some r.data else none
def slotL : List (List Rec) → List UInt8 → Option (List UInt8)
  | [], st => some st
  | t :: l, st => match fdM t with
    | none => none
    | some d => slotL l (st ++ d.drop 4)
def slotM (l : List (List Rec)) (par : Nat) : List UInt8 × Nat :=
  match slotL l [] with
  | none => ([], 0)
  | some st =>
    let seq := val4 ((fdM (l[0]?.getD [])).getD [])
    if 1 ≤ seq ∧ seq ≤ 2147483647 ∧ seq % 2 = par ∧ l = tksM l.length seq st then (st, seq) else ([], 0)
theorem le_nilR2 {T : Nat} {st : List UInt8} {q : Nat} : AV.Le Try.prog (.tup [.lst (.tip 5 T) 1 (byL st), .v (.int .i64 q)]) (resR (st, q)) := .norm fun T' => by simp [resR]

theorem slot_sound (l : List (List Rec)) (par : Nat) (hpar : par < 2) (hl0 : 0 < l.length) (hs : small l) : Sound Try.prog 24 [.lst .any 1 (arL l), .v (.int .i64 (par : Nat))] (resR (slotM l par)) := by
  refine sound_of_U Try.func24 rfl (by decide +kernel) (by simp [Try.f24]) rfl rfl (rs := [.tmp 4, .tmp 5]) rfl ?_
  rw [show Try.f24.ntmps = 73 from rfl]
  obtain ⟨hl, ht⟩ := hs
  refine W_evK [0, 1] (by simp; rfl) ?_
  refine W_evK [0, 1, 6] (by simp; rfl) ?_
  refine W_seq ?_
  refine W_evK [0, 1, 6, 7] (by simp; rfl) ?_
  refine W_block ?_
  refine W_loop (fun k s => ∃ (i : Nat) (st : List UInt8) (x : AV), k = l.length - i ∧ i ≤ l.length ∧ slotL l [] = slotL (l.drop i) st ∧ st.length ≤ i * 100000 ∧ (0 < i → ∃ d, fdM (l[0]?.getD []) = some d) ∧
    ((i = 0 ∧ st = [] ∧ x = .lst .nil 1 []) ∨ x = .lst (.tip 5 83) 1 (byL st)) ∧
    s = ⟨73, [(0, .lst .any 1 (arL l)), (1, .v (.int .i64 (par : Nat))), (6, x), (7, .v (.int .i64 i))], []⟩) (k := l.length) ⟨0, [], _, by simp, by omega, rfl, by simp, by omega, .inl ⟨rfl, rfl, rfl⟩, by simp⟩ ?_
  rintro k s ⟨i, st, x, rfl, hi, hst, hsl, h0d, hx, rfl⟩
  refine W_seq ?_
  by_cases c : i < l.length
  · have ci : (i : Int) < l.length := by omega
    obtain ⟨t, hti⟩ : ∃ t, l[i]? = some t := ⟨_, List.getElem?_eq_getElem c⟩
    have ht2 : l[i]'c = t := by rw [List.getElem?_eq_getElem c] at hti; exact Option.some.inj hti
    obtain ⟨htl, htr⟩ := ht t (List.mem_of_getElem? hti)
    have hstep : slotL (l.drop i) st = match fdM t with
        | none => none
        | some d => slotL (l.drop (i + 1)) (st ++ d.drop 4) := by rw [List.drop_eq_getElem_cons c, ht2]; rfl
    rw [hstep] at hst
    refine W_evK [0, 1, 6, 7, 12] (by simp [c]; rfl) ?_
    refine W_cond rfl (fun h => ?_) (fun h => by simp at h)
    refine W_skip ?_
    refine W_seq ?_
    refine W_block ?_
    refine W_seq ?_
    refine W_rK [0, 1, 6, 7, 31] ?_
    cases t with
    | nil =>
      have hR : slotM l par = ([], 0) := by unfold slotM; rw [hst]; rfl
      refine runA_pre 6 (by simp [c, ci, ht2]; rfl) rfl ?_
      refine runA_pre 6 (by simp; rfl) rfl ?_
      refine runA_fin (by simp; rfl) ?_
      refine W_cond rfl (fun _ => ?_) (fun h => by simp at h)
      refine W_evK [4, 5] (by simp; rfl) ?_
      refine W_ret ?_
      repeat (first | refine on_ret ?_ | refine in_ret ?_)
      rw [hR]
      exact ⟨_, by simp [retQ], le_nilR⟩
    | cons r t' =>
    obtain ⟨_, hrd⟩ := htr r (by simp)
    have hz0 : ((t'.length : Int) + 1 == 0) = false := by simp; omega
    by_cases d : 4 ≤ r.data.length
    rotate_left
    · have hf : fdM (r :: t') = none := by simp [fdM, d]
      have hR : slotM l par = ([], 0) := by unfold slotM; rw [hst, hf]
      have di : (r.data.length : Int) < 4 := by omega
      refine runA_pre 6 (by simp [c, ci, ht2, hz0]; rfl) rfl ?_
      refine runA_pre 6 (by simp [c, ci, ht2, trL_cons]; rfl) rfl ?_
      refine runA_fin (by simp [di]; rfl) ?_
      refine W_cond rfl (fun _ => ?_) (fun h => by simp at h)
      refine W_evK [4, 5] (by simp; rfl) ?_
      refine W_ret ?_
      repeat (first | refine on_ret ?_ | refine in_ret ?_)
      rw [hR]
      exact ⟨_, by simp [retQ], le_nilR⟩
    have hf : fdM (r :: t') = some r.data := by simp [fdM, d]
    have di : ¬ (r.data.length : Int) < 4 := by omega
    have d4 : (4 : Int) ≤ r.data.length := by omega
    have wi := w64 (n := (i : Int) + 1) (by omega) (by omega)
    rw [hf] at hst
    have hl4 : r.data.length - 4 ≤ 100000 := by omega
    have b0 : r.data.length - 4 ≤ 140737488355328 := by omega
    have hmul : (i + 1) * 100000 = i * 100000 + 100000 := by omega
    have b1 : st.length + (r.data.length - 4) ≤ 140737488355328 := by omega
    refine runA_pre 6 (by simp [c, ci, ht2, hz0]; rfl) rfl ?_
    refine runA_pre 6 (by simp [c, ci, ht2, trL_cons]; rfl) rfl ?_
    refine runA_fin (by simp [di]; rfl) ?_
    refine W_cond rfl (fun h => by simp at h) (fun h => ?_)
    refine W_skip ?_
    have h0d' : ∃ d, fdM (l[0]?.getD []) = some d := by
      rcases Nat.eq_zero_or_pos i with e | e
      · subst e; rw [hti]; exact ⟨_, hf⟩
      · exact h0d e
    rcases hx with ⟨_, rfl, rfl⟩ | rfl
    · refine W_evE [0, 1, 6, 7] (by simp [c, ci, ht2, trL_cons, d4, b0, ← byL_drop]; rfl) ?_
      refine W_evE [0, 1, 6, 7] (by simp [wi]; rfl) ?_
      exact ⟨_, by omega, i + 1, [] ++ r.data.drop 4, _, rfl, by omega, hst, by simp; omega, fun _ => h0d', .inr rfl, by simp [trL_cons]⟩
    · refine W_evE [0, 1, 6, 7] (by simp [c, ci, ht2, trL_cons, d4, b1, ← byL_drop]; rfl) ?_
      refine W_evE [0, 1, 6, 7] (by simp [wi]; rfl) ?_
      exact ⟨_, by omega, i + 1, st ++ r.data.drop 4, _, rfl, by omega, hst, by simp; omega, fun _ => h0d', .inr rfl, by simp [trL_cons, byL_append]⟩
  have hie : i = l.length := by omega
  subst hie
  rw [List.drop_length] at hst
  have hst' : slotL l [] = some st := hst
  rcases hx with ⟨h00, _⟩ | rfl
  · omega
  obtain ⟨d, hd⟩ := h0d hl0
  have hl0i : (0 : Int) < l.length := by omega
  obtain ⟨t0, ht0⟩ : ∃ t, l[0]? = some t := ⟨_, List.getElem?_eq_getElem hl0⟩
  have ht02 : l[0]'hl0 = t0 := by rw [List.getElem?_eq_getElem hl0] at ht0; exact Option.some.inj ht0
  rw [ht0, Option.getD_some] at hd
  cases t0 with
  | nil => simp [fdM] at hd
  | cons r t' =>
  have hd2 : r.data = d ∧ 4 ≤ d.length := by
    by_cases h4 : 4 ≤ r.data.length
    · simp only [fdM, if_pos h4, Option.some.injEq] at hd
      exact ⟨hd, hd ▸ h4⟩
    · simp [fdM, h4] at hd
  obtain ⟨hrd, hd4⟩ := hd2
  obtain ⟨sq, hsq⟩ : ∃ q, val4 d = q := ⟨_, rfl⟩
  have hv := value29 d hd4
  have hsq1 := val4_lt d
  rw [hsq] at hv hsq1
  have hM : slotM l par = if 1 ≤ sq ∧ sq ≤ 2147483647 ∧ sq % 2 = par ∧ l = tksM l.length sq st then (st, sq) else ([], 0) := by
    unfold slotM
    rw [hst', ht0, Option.getD_some, hd, Option.getD_some, hsq]
  refine W_evK [0, 1, 6, 7, 12] (by simp; rfl) ?_
  refine W_cond rfl (fun h => by simp at h) (fun h => ?_)
  refine W_exit ?_
  refine W_rK [0, 1, 6, 8] ?_
  refine runA_pre 6 (by simp [hl0, hl0i, ht02, trL_cons, hrd]; rfl) rfl ?_
  refine runA_call (by simp) (by first | (simp; done) | (simp; rfl)) hv (by simp; rfl) ?_
  refine runA_fin (by simp; rfl) ?_
  refine W_seq ?_
  refine W_rK [6, 8, 70] ?_
  by_cases d1 : 1 ≤ sq
  rotate_left
  · have hR : slotM l par = ([], 0) := by rw [hM, if_neg (fun h => d1 h.1)]
    have e1 : (sq : Int) < 1 := by omega
    refine runA_pre 6 (by simp [e1]; rfl) rfl ?_
    refine runA_pre 6 (by simp [e1]; rfl) rfl ?_
    refine runA_pre 6 (by simp [e1]; rfl) rfl ?_
    refine runA_fin (by simp [e1]; rfl) ?_
    refine W_cond rfl (fun _ => ?_) (fun h => by simp at h)
    refine W_evK [4, 5] (by simp; rfl) ?_
    refine W_ret ?_
    repeat (first | refine on_ret ?_ | refine in_ret ?_)
    rw [hR]
    exact ⟨_, by simp [retQ], le_nilR⟩
  have e1 : ¬ (sq : Int) < 1 := by omega
  by_cases d2 : sq ≤ 2147483647
  rotate_left
  · have hR : slotM l par = ([], 0) := by rw [hM, if_neg (fun h => d2 h.2.1)]
    have e2 : (2147483647 : Int) < sq := by omega
    refine runA_pre 6 (by simp [e1, e2]; rfl) rfl ?_
    refine runA_pre 6 (by simp [e1, e2]; rfl) rfl ?_
    refine runA_pre 6 (by simp [e1, e2]; rfl) rfl ?_
    refine runA_fin (by simp [e1, e2]; rfl) ?_
    refine W_cond rfl (fun _ => ?_) (fun h => by simp at h)
    refine W_evK [4, 5] (by simp; rfl) ?_
    refine W_ret ?_
    repeat (first | refine on_ret ?_ | refine in_ret ?_)
    rw [hR]
    exact ⟨_, by simp [retQ], le_nilR⟩
  have e2 : ¬ (2147483647 : Int) < sq := by omega
  have hmod : (sq : Int).tmod 2 = ((sq % 2 : Nat) : Int) := by rw [Int.tmod_eq_emod_of_nonneg (by omega)]; omega
  by_cases d3 : sq % 2 = par
  rotate_left
  · have hR : slotM l par = ([], 0) := by rw [hM, if_neg (fun h => d3 h.2.2.1)]
    have e3 : (((sq % 2 : Nat) : Int) != (par : Int)) = true := by rw [ne_nat]; simp [d3]
    refine runA_pre 6 (by simp [e1, e2]; rfl) rfl ?_
    refine runA_pre 5 (by simp [hmod, e3, -Int.natCast_emod]; rfl) rfl ?_
    refine runA_pre 6 (by simp; rfl) rfl ?_
    refine runA_fin (by simp; rfl) ?_
    refine W_cond rfl (fun _ => ?_) (fun h => by simp at h)
    refine W_evK [4, 5] (by simp; rfl) ?_
    refine W_ret ?_
    repeat (first | refine on_ret ?_ | refine in_ret ?_)
    rw [hR]
    exact ⟨_, by simp [retQ], le_nilR⟩
  have e3 : (((sq % 2 : Nat) : Int) != (par : Int)) = false := by rw [ne_nat]; simp [d3]
  have htr := tracks_sound l.length sq st (by omega) (by omega) (by omega)
  have hst2 := same_tracks l (tksM l.length sq st) (by omega) (fun t h => Nat.le_trans (ht t h).1 (by omega))
  refine runA_pre 6 (by simp [e1, e2]; rfl) rfl ?_
  refine runA_pre 5 (by simp [hmod, e3, -Int.natCast_emod]; rfl) rfl ?_
  refine runA_pre 7 (by simp; rfl) rfl ?_
  refine runA_call (by simp) (by first | (simp; done) | (simp; rfl)) htr (by simp; rfl) ?_
  refine runA_call (by simp) (by first | (simp; done) | (simp; rfl)) hst2 (by simp; rfl) ?_
  by_cases d4 : l = tksM l.length sq st
  rotate_left
  · have hR : slotM l par = ([], 0) := by rw [hM, if_neg (fun h => d4 h.2.2.2)]
    refine runA_fin (by simp [decide_eq_false d4]; rfl) ?_
    refine W_cond rfl (fun _ => ?_) (fun h => by simp at h)
    refine W_evK [4, 5] (by simp; rfl) ?_
    refine W_ret ?_
    repeat (first | refine on_ret ?_ | refine in_ret ?_)
    rw [hR]
    exact ⟨_, by simp [retQ], le_nilR⟩
  have hR : slotM l par = (st, sq) := by rw [hM, if_pos ⟨d1, d2, d3, d4⟩]
  refine runA_fin (by simp only [decide_eq_true d4]; simp; rfl) ?_
  refine W_cond rfl (fun h => by simp at h) (fun h => ?_)
  refine W_skip ?_
  refine W_evK [4, 5] (by simp; rfl) ?_
  refine W_ret ?_
  repeat (first | refine on_ret ?_ | refine in_ret ?_)
  rw [hR]
  exact ⟨.tup [.lst (.tip 5 83) 1 (byL st), .v (.int .i64 sq)], by simp [retQ], le_nilR2⟩
end Go.AM
