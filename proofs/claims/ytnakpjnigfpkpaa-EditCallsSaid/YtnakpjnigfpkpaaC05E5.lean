/- Edit. -/
import Derived.Test.YtnakpjnigfpkpaaC05E4
namespace Go.AM
open Go.RowKit Go.Proofs
set_option linter.unusedSimpArgs false
set_option linter.unusedVariables false
set_option maxHeartbeats 1000000

def stepM (src : List UInt8) (p0 : UInt8) (i : Nat) (c : UInt8) (e : Ed) : Nat × Ed :=
  let e0 : Ed := { e with text := e.text.set i p0 }
  if c.toNat = 32 then digitM src i e0 else if c.toNat = 33 then startM src i e0 else if c.toNat = 34 then sepM e0
  else (0, if e0.on then { e0 with text := e0.text.set i c } else e0)
def runM (src : List UInt8) (p0 : UInt8) : List UInt8 → Nat → Ed → Nat × Ed
  | [], _, e => (0, e)
  | c :: cs, i, e => if (stepM src p0 i c e).1 ≠ 0 then stepM src p0 i c e else runM src p0 cs (i + 1) (stepM src p0 i c e).2
def ed0 (n : Nat) : Ed := ⟨0, false, false, List.replicate n 0, -1⟩

def edM (pat src : List UInt8) : List UInt8 × Nat × Int × Nat :=
  if pat.length = 0 ∨ 256 < pat.length then ([], 0, 0, 6)
  else
    let r := runM src (pat.headD 0) pat 0 (ed0 pat.length)
    if r.1 ≠ 0 then ([], 0, 0, r.1) else (r.2.text, codeM r.2, r.2.mark, 0)

theorem showM_text (src : List UInt8) (i : Nat) (e : Ed) : (showM src i e).2.2.text.length = e.text.length ∧ (showM src i e).2.2.at_ ≤ e.at_ + 2 ∧ (showM src i e).2.1 ≤ 7 := by
  have := takeM_code src e.at_
  unfold showM
  dsimp only
  split
  · simp; omega
  · split <;> split <;> simp <;> omega
theorem stepM_text (src : List UInt8) (p0 : UInt8) (i : Nat) (c : UInt8) (e : Ed) : (stepM src p0 i c e).2.text.length = e.text.length ∧ (stepM src p0 i c e).2.at_ ≤ e.at_ + 2 ∧ (stepM src p0 i c e).1 ≤ 7 := by
  have := showM_text src i { e with text := e.text.set i p0 }
  simp only [List.length_set] at this
  unfold stepM digitM startM sepM
  dsimp only
  split
  · exact this
  · split
    · exact this
    · split
      · simp
      · split <;> simp

theorem repC_byL (n : Nat) : repC n [AV.v (.int .u8 0)] = byL (List.replicate n 0) := by
  induction n with
  | zero => rfl
  | succ n ih => simp only [repC, ih, List.replicate_succ, byL_cons]; rfl

theorem edit_sound (pat src : List UInt8) (hs : src.length ≤ 9000) (hp : pat.length ≤ 9000) :
    Sound Try.prog 12 [.lst .any 1 (byL pat), .lst .any 1 (byL src)]
      (.tup [.agg [.lst (if (edM pat src).2.2.2 = 0 then .tip 5 1 else .nil) 1 (byL (edM pat src).1), .v (.int .i64 ((edM pat src).2.1 : Nat)), .v (.int .i64 (edM pat src).2.2.1)], .v (.int .i64 ((edM pat src).2.2.2 : Nat))]) := by
  refine sound_of_W Try.func12 rfl (by decide +kernel) (by simp [Try.f12]) rfl rfl (rs := [.cell 4 26, .tmp 5]) rfl ?_
  rw [show Try.f12.ntmps = 86 from rfl]
  refine W_evK [0, 1, 4] (by simp; rfl) ?_
  refine W_seq ?_
  by_cases h0 : pat.length = 0
  · refine W_evK [0, 1, 4, 20] (by simp [h0]; rfl) ?_
    refine W_cond rfl (fun h => ?_) (fun h => by cases h)
    refine W_evK [4, 5] (by simp [setSeg]; rfl) ?_
    refine W_ret ?_
    repeat (first | refine on_ret ?_ | refine in_ret ?_)
    simp [retQ, edM, h0]
  have h0' : ((pat.length : Int) == 0) = false := by simpa using h0
  by_cases h1 : 256 < pat.length
  · refine W_evK [0, 1, 4, 20] (by simp [h0']; rfl) ?_
    refine W_cond rfl (fun h => ?_) (fun h => by rw [decide_eq_false_iff_not] at h; omega)
    refine W_evK [4, 5] (by simp [setSeg]; rfl) ?_
    refine W_ret ?_
    repeat (first | refine on_ret ?_ | refine in_ret ?_)
    simp [retQ, edM, h1]
  have h1' : ¬ (256 : Int) < pat.length := by omega
  refine W_evK [0, 1, 4, 20] (by simp [h0']; rfl) ?_
  refine W_cond rfl (fun h => absurd h (by simp; omega)) (fun h => ?_)
  refine W_skip ?_
  have hb1 : (pat.length : Int) ≤ 281474976710656 := by omega
  have hb2 : (pat.length : Int) ≤ 9223372036854775807 := by omega
  obtain ⟨p0, pt, hpat⟩ : ∃ p0 pt, pat = p0 :: pt := by
    cases pat with
    | nil => simp at h0
    | cons a b => exact ⟨a, b, rfl⟩
  have hp0 : (byL pat)[0]? = some (.v (.int .u8 p0.toNat)) := by rw [hpat]; rfl
  have hp0' : pat.headD 0 = p0 := by rw [hpat]; rfl
  generalize hn : pat.length = n at *
  refine W_evK [0, 4, 6] (by simp [hb1, hb2, hn, setSeg]; rfl) ?_
  refine W_evK [0, 4, 6, 7] (by simp; rfl) ?_
  have hedM : edM pat src = if (runM src p0 pat 0 (ed0 n)).1 ≠ 0 then ([], 0, 0, (runM src p0 pat 0 (ed0 n)).1) else ((runM src p0 pat 0 (ed0 n)).2.text, codeM (runM src p0 pat 0 (ed0 n)).2, (runM src p0 pat 0 (ed0 n)).2.mark, 0) := by
    unfold edM
    rw [if_neg (by omega), hp0', hn]
  refine W_seq ?_
  refine W_evK [0, 4, 6, 7, 31, 32, 33] (by simp [hn]; rfl) ?_
  refine W_block ?_
  refine W_loop (fun k s => ∃ (i : Nat) (e : Ed), k = n - i ∧ i ≤ n ∧ e.text.length = n ∧ e.at_ ≤ 2 * i ∧ runM src p0 pat 0 (ed0 n) = runM src p0 (pat.drop i) i e ∧
    s = ⟨86, [(0, .lst .any 1 (byL pat)), (4, .loc 0 0), (6, .loc 2 0), (7, .mp 3), (31, .lst .any 1 (byL pat)), (32, .v (.int .i64 n)), (33, .v (.int .i64 i))], edH src n e⟩) (k := n)
    ⟨0, ed0 n, rfl, by omega, by simp [ed0], by simp [ed0], by simp, by simp [ed0, repC_byL]⟩ ?_
  rintro k s ⟨i, e, rfl, hi, het, hea, hrun, rfl⟩
  refine W_evK [0, 4, 6, 7, 31, 32, 33, 34] (by simp; rfl) ?_
  refine W_seq ?_
  refine W_cond rfl (fun h => ?_) (fun h => ?_)
  · have hin : i < n := by simp at h; omega
    have hil : i < pat.length := by omega
    generalize hc : pat[i] = c
    have hci : (byL pat)[i]? = some (.v (.int .u8 c.toNat)) := by simp [byL_get, hil, hc]
    have hdrop : pat.drop i = c :: pat.drop (i + 1) := by rw [List.drop_eq_getElem_cons hil, hc]
    have hseg : setSeg (byL e.text) i [.v (.int .u8 p0.toNat)] = byL (e.text.set i p0) := setSeg_byL _ _ _ (by omega)
    have hi1 : i + 1 ≤ n := hin
    have hst := stepM_text src p0 i c e
    rw [hdrop] at hrun
    simp only [runM] at hrun
    refine W_skip ?_
    refine W_seq ?_
    refine W_block ?_
    refine W_evK [0, 4, 6, 7, 31, 32, 33, 8, 9] (by simp [hci]; rfl) ?_
    obtain ⟨e0, he0⟩ : ∃ e0 : Ed, e0 = { e with text := e.text.set i p0 } := ⟨_, rfl⟩
    have het0 : e0.text.length = n := by subst he0; simp [het]
    have hea0 : e0.at_ ≤ 20000 := by subst he0; simp; omega
    have hstep : stepM src p0 i c e = if c.toNat = 32 then digitM src i e0 else if c.toNat = 33 then startM src i e0 else if c.toNat = 34 then sepM e0 else (0, if e0.on then { e0 with text := e0.text.set i c } else e0) := by
      subst he0; rfl
    refine W_dvK (s' := ⟨86, [(0, .lst .any 1 (byL pat)), (4, .loc 0 0), (6, .loc 2 0), (7, .mp 3), (31, .lst .any 1 (byL pat)), (32, .v (.int .i64 n)), (33, .v (.int .i64 i)), (8, .v (.int .i64 i)), (9, .v (.int .u8 c.toNat))], edH src n e0⟩)
      [0, 4, 6, 7, 31, 32, 33, 8, 9] mx (by decide +kernel) (by simp [hp0, hin, hi1, hseg, het, he0]) ?_
    by_cases hctl : c.toNat = 32 ∨ c.toNat = 33 ∨ c.toNat = 34
    · obtain ⟨f, r, hcall, hsr, hlook⟩ : ∃ (f : FuncId) (r : Nat × Ed), CallW Try.prog f [.loc 2 0, .v (.int .i64 i)] (edH src n e0) (fun x h' => x = .v (.int .i64 (r.1 : Nat)) ∧ h' = edH src n r.2) ∧ stepM src p0 i c e = r ∧
          mfind (.int .u8) (.int .u8 c.toNat) [(.int .u8 32, .fn (.func 23) [] []), (.int .u8 33, .fn (.func 24) [] []), (.int .u8 34, .fn (.func 25) [] [])] = some (some (.fn (.func f) [] [])) := by
        rcases hctl with h1 | h1 | h1
        · exact ⟨23, _, digit_sound src n i e0 hs hea0 het0 hin (by omega), by rw [hstep, if_pos h1], by simp [h1]⟩
        · exact ⟨24, _, start_sound src n i e0 hs hea0 het0 hin (by omega), by rw [hstep, if_neg (by omega), if_pos h1], by simp [h1]⟩
        · exact ⟨25, _, sep_sound src n i e0, by rw [hstep, if_neg (by omega), if_neg (by omega), if_pos h1], by simp [h1]⟩
      obtain ⟨code, e1⟩ := r
      rw [hsr] at hst hrun
      refine W_evK [0, 4, 6, 7, 31, 32, 33, 8, 9, 10, 11] (by simp [-mfind, hlook]; rfl) ?_
      refine W_evK [0, 4, 6, 7, 31, 32, 33, 8, 9, 10, 54] (by simp; rfl) ?_
      refine W_cond rfl (fun h => ?_) (fun h => by cases h)
      refine W_rK [0, 4, 6, 7, 31, 32, 33, 12] ?_
      refine runA_pre 3 (by simp; rfl) rfl ?_
      refine runA_obj (by simp) (by simp) (hcall.mono ?_)
      rintro r h' ⟨rfl, rfl⟩
      refine ⟨_, by simp; rfl, ?_⟩
      refine runA_fin (by simp; rfl) ?_
      refine W_evK [0, 4, 6, 7, 31, 32, 33, 12, 60] (by simp; rfl) ?_
      refine W_cond rfl (fun h => ?_) (fun h => ?_)
      · have hc0 : code ≠ 0 := by simp at h; omega
        have hres : edM pat src = ([], 0, 0, code) := by
          rw [hedM, hrun]; simp [hc0]
        refine W_evK [4, 5] (by simp [setSeg]; rfl) ?_
        refine W_ret ?_
        repeat (first | refine on_ret ?_ | refine in_ret ?_)
        rw [hres]
        simp [retQ, hc0]
      have hc0 : code = 0 := by simp at h; omega
      subst hc0
      refine W_skip ?_
      refine W_evE [0, 4, 6, 7, 31, 32, 33] (by simp; rfl) ?_
      refine ⟨n - (i + 1), by omega, i + 1, e1, rfl, by omega, by simp at hst; omega, by simp at hst; omega, by simpa using hrun, ?_⟩
      simp (disch := first | omega | simp) [w64]
    · have hs32 : ((c.toNat : Int) == 32) = false := by simp; omega
      have hs33 : ((c.toNat : Int) == 33) = false := by simp; omega
      have hs34 : ((c.toNat : Int) == 34) = false := by simp; omega
      have hst0 : stepM src p0 i c e = (0, if e0.on then { e0 with text := e0.text.set i c } else e0) := by
        rw [hstep, if_neg (by omega), if_neg (by omega), if_neg (by omega)]
      rw [hst0] at hrun
      have hseg2 : setSeg (byL e0.text) i [.v (.int .u8 c.toNat)] = byL (e0.text.set i c) := setSeg_byL _ _ _ (by omega)
      obtain ⟨at1, on1, some1, text1, mark1⟩ := e0
      refine W_evK [0, 4, 6, 7, 31, 32, 33, 8, 9, 10, 11] (by simp [hs32, hs33, hs34]; rfl) ?_
      refine W_evK [0, 4, 6, 7, 31, 32, 33, 8, 9, 10, 54] (by simp; rfl) ?_
      refine W_cond rfl (fun h => by cases h) (fun h => ?_)
      have hat1 : at1 = e.at_ := congrArg Ed.at_ he0
      cases on1 with
      | true =>
        refine W_evK [0, 4, 6, 7, 31, 32, 33, 8, 9, 66] (by simp; rfl) ?_
        refine W_cond rfl (fun h => ?_) (fun h => by cases h)
        refine W_evE [0, 4, 6, 7, 31, 32, 33] (by simp [hin, hi1, hseg2, het0]; rfl) ?_
        refine W_evE [0, 4, 6, 7, 31, 32, 33] (by simp; rfl) ?_
        refine ⟨n - (i + 1), by omega, i + 1, ⟨at1, true, some1, text1.set i c, mark1⟩, rfl, by omega, by simpa using het0, by simp; omega, by simpa using hrun, ?_⟩
        simp (disch := first | omega | simp) [w64]
      | false =>
        refine W_evK [0, 4, 6, 7, 31, 32, 33, 8, 9, 66] (by simp; rfl) ?_
        refine W_cond rfl (fun h => by cases h) (fun h => ?_)
        refine W_skip ?_
        refine W_evE [0, 4, 6, 7, 31, 32, 33] (by simp; rfl) ?_
        refine ⟨n - (i + 1), by omega, i + 1, ⟨at1, false, some1, text1, mark1⟩, rfl, by omega, by simpa using het0, by simp; omega, by simpa using hrun, ?_⟩
        simp (disch := first | omega | simp) [w64]
  refine W_exit ?_
  have hin : i = n := by simp at h; omega
  have hdrop : pat.drop i = [] := by rw [hin, ← hn, List.drop_length]
  rw [hdrop] at hrun
  simp only [runM] at hrun
  have hres : edM pat src = (e.text, codeM e, e.mark, 0) := by rw [hedM, hrun]; simp
  refine W_rK [4, 6] ?_
  refine runA_pre 2 (by simp; rfl) rfl ?_
  refine runA_obj (by simp) (by simp) ((code_sound src n e).mono ?_)
  rintro r h' ⟨rfl, rfl⟩
  refine ⟨_, by simp; rfl, ?_⟩
  refine runA_fin (by simp [setSeg]; rfl) ?_
  refine W_evK [4, 5] (by simp [setSeg]; rfl) ?_
  refine W_ret ?_
  repeat (first | refine on_ret ?_ | refine in_ret ?_)
  rw [hres]
  simp [retQ, frzArr, het]
  rw [List.take_of_length_le (by omega)]
end Go.AM
