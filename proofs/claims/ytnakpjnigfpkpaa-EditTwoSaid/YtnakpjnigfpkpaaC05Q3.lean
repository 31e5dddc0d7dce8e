/- Numbers, in plain words: a number edited, two numbers edited. -/
import Derived.Test.YtnakpjnigfpkpaaC05Q2
namespace Go.AM
set_option linter.unusedSimpArgs false
set_option linter.unusedVariables false

def onF (k : Int) (ds : List UInt8) (neg : Bool) : Bool := onM (zerM (digM ds)) k (digM ds).length && neg
theorem num_run {src : List UInt8} {p : Nat} {ds : List UInt8} {neg : Bool} (hsrc : ∀ j b, (packM ds neg)[j]? = some b → src[p + j]? = some b) (p0 : UInt8) (k : Int) (tl rest T R S : List UInt8) (b : Nat) (m0 : Int) (hT : T.length = b)
    (hR : R.length = (digM ds).length + (tailM tl).length) :
    runM src p0 (selP k (digM ds).length ++ tailM tl ++ rest) b ⟨2 * p, false, false, T ++ (R ++ S), m0⟩ =
      runM src p0 rest (b + ((digM ds).length + (tailM tl).length))
        ⟨2 * p + (digM ds).length + 1, onF k ds neg, decide (zerM (digM ds) < (digM ds).length),
          T ++ (textP (digM ds) (fromM (zerM (digM ds)) k) p0 (digM ds).length ++ behP (onF k ds neg) p0 (tailM tl)) ++ S, markM (zerM (digM ds)) k b m0 (digM ds).length⟩ := by
  have hodd := digM_odd ds
  have h1 := run_digits hsrc p0 k (tailM tl ++ rest) T (R.drop (digM ds).length ++ S) b m0 hT (digM ds).length 0 (R.take (digM ds).length) (by omega) (by rw [List.length_take]; omega)
  rw [if_neg (by omega)] at h1
  have hR2 : R.take (digM ds).length ++ (R.drop (digM ds).length ++ S) = R ++ S := by rw [← List.append_assoc, List.take_append_drop]
  have hon0 : onM (zerM (digM ds)) k 0 = false := by simp [onM]
  have hm0 : markM (zerM (digM ds)) k b m0 0 = m0 := by simp [markM]
  have ht0 : textP (digM ds) (fromM (zerM (digM ds)) k) p0 0 = [] := rfl
  rw [hR2, hon0, hm0, ht0] at h1
  simp only [List.drop_zero, Bool.false_and, Nat.not_lt_zero, decide_false, Nat.add_zero, List.append_nil] at h1
  rw [List.append_assoc, h1]
  have h2 := run_tail src p0 rest (2 * p + (digM ds).length + 1) (onF k ds neg) (decide (zerM (digM ds) < (digM ds).length)) (markM (zerM (digM ds)) k b m0 (digM ds).length) S (tailM tl)
    (T ++ textP (digM ds) (fromM (zerM (digM ds)) k) p0 (digM ds).length) (R.drop (digM ds).length) (b + (digM ds).length) (fun c hc => (List.mem_filter.1 hc).2) (by simp [hT]) (by simp [hR])
  unfold onF at h2 ⊢
  rw [h2, Nat.add_assoc]
  simp only [List.append_assoc]

theorem edM_one {ds tl : List UInt8} {neg : Bool} {fill : UInt8} {k : Int} (hf : plainM fill = true) :
    edM (patM fill k ds tl) (packM ds neg) = (textM fill (fromM (zerM (digM ds)) k) (onF k ds neg) ds tl,
      (if zerM (digM ds) < (digM ds).length then (if onF k ds neg then 1 else 2) else 0), markM (zerM (digM ds)) k 1 (-1) (digM ds).length, 0) := by
  have hn := digM_len ds
  have ht := tailM_len tl
  have hlen : (patM fill k ds tl).length = 1 + ((digM ds).length + (tailM tl).length) := by simp [patM]; omega
  unfold edM
  rw [if_neg (by omega)]
  have hp0 : (patM fill k ds tl).headD 0 = fill := rfl
  have hs := step_plain (src := packM ds neg) (p0 := fill) (c := fill) (i := 0) (at_ := 0) (on := false) (sm := false) (T := []) (R := List.replicate ((digM ds).length + (tailM tl).length) 0) (x := 0) (mark := -1) hf rfl
  have hr := num_run (src := packM ds neg) (p := 0) (ds := ds) (neg := neg) (fun j b h => by simpa using h) fill k tl [] [fill] (List.replicate ((digM ds).length + (tailM tl).length) 0) [] 1 (-1) rfl (by simp)
  have hrun : runM (packM ds neg) fill (patM fill k ds tl) 0 (ed0 (patM fill k ds tl).length) = (0, ⟨(digM ds).length + 1, onF k ds neg, decide (zerM (digM ds) < (digM ds).length), textM fill (fromM (zerM (digM ds)) k) (onF k ds neg) ds tl, markM (zerM (digM ds)) k 1 (-1) (digM ds).length⟩) := by
    rw [hlen]
    have he : ed0 (1 + ((digM ds).length + (tailM tl).length)) = ⟨0, false, false, [] ++ 0 :: List.replicate ((digM ds).length + (tailM tl).length) 0, -1⟩ := by
      simp [ed0, Nat.add_comm 1, List.replicate_succ]
    rw [he]
    unfold patM
    simp only [List.cons_append, runM]
    rw [hs]
    simp only [ne_eq, not_true, if_false, List.nil_append, List.append_nil, Nat.zero_add, Nat.mul_zero, List.singleton_append, Bool.false_eq_true] at hr ⊢
    rw [hr]
    simp [runM, textM]
  rw [hp0, hrun]
  simp only [ne_eq, not_true, if_false, codeM, decide_eq_true_eq]
end Go.AM
