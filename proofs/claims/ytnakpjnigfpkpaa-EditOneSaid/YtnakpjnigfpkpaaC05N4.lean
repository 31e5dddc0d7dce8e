/- Number: pattern, text. -/
import Derived.Test.YtnakpjnigfpkpaaC05N3
namespace Go.AM
open Go.RowKit Go.Proofs
set_option linter.unusedSimpArgs false
set_option linter.unusedVariables false
set_option maxHeartbeats 1000000

def selP (start : Int) (n : Nat) : List UInt8 := (List.range n).map fun (i : Nat) => if (i : Int) = start then 33 else 32
def patM (first : UInt8) (start : Int) (ds tl : List UInt8) : List UInt8 := first :: selP start (digM ds).length ++ tailM tl
theorem selP_next (start : Int) (n : Nat) : selP start (n + 1) = selP start n ++ [if (n : Int) = start then 33 else 32] := by simp [selP, List.range_succ]
@[simp] theorem selP_len (start : Int) (n : Nat) : (selP start n).length = n := by simp [selP]

theorem pattern_sound (ds : List UInt8) (neg : Bool) (tl : List UInt8) (first : UInt8) (start : Int) : Sound Try.prog 17 [numA ds neg tl, .v (.int .u8 first.toNat), .v (.int .i64 start)] (.lst (.tip 5 1) 1 (byL (patM first start ds tl))) := by
  refine sound_of_N Try.func17 rfl (by decide +kernel) (by simp [Try.f17]) rfl rfl (rs := [.tmp 6]) rfl ?_
  rw [show Try.f17.ntmps = 33 from rfl]
  have hlen := digM_len ds
  have htl := tailM_len tl
  refine W_evK [1, 2, 3] (by simp; rfl) ?_
  refine W_evK [2, 3, 7] (by simp; rfl) ?_
  refine W_rK [2, 3, 7, 8] ?_
  refine runA_pre 1 (by simp; rfl) rfl ?_
  refine runA_call (by simp) (by simp; rfl) (digits_sound ds neg tl) (by simp; rfl) ?_
  refine runA_fin (by simp; rfl) ?_
  refine W_seq ?_
  refine W_evK [2, 3, 7, 8, 9] (by simp; rfl) ?_
  refine W_block ?_
  refine W_loop (fun k s => ∃ i : Nat, k = (digM ds).length - i ∧ i ≤ (digM ds).length ∧ s = ⟨33, [(2, .v (.int .i64 start)), (3, .loc 0 0), (7, .lst (.tip 5 23) 1 (byL (first :: selP start i))), (8, .lst (.tip 3 27) 1 (inL (digM ds))), (9, .v (.int .i64 i))], [.cells 37 [.lst .any 1 (byL ds), .v (.bool neg), .lst .any 1 (byL tl)]]⟩) (k := (digM ds).length) ⟨0, rfl, by omega, by simp [selP, byL_cons]⟩ ?_
  rintro k s ⟨i, rfl, hi, rfl⟩
  refine W_seq ?_
  by_cases h1 : i < (digM ds).length
  · have h1' : (i : Int) < (digM ds).length := by omega
    have hcap : i + 1 + 1 ≤ 140737488355328 := by omega
    have hnx := selP_next start i
    have hw : IntKind.i64.wrap ((i : Int) + 1) = (i + 1 : Nat) := w64 (by omega) (by omega)
    refine W_evK [2, 3, 7, 8, 9, 17] (by simp [h1, h1']; rfl) ?_
    refine W_cond rfl (fun h => ?_) (fun h => by cases h)
    refine W_skip ?_
    refine W_seq ?_
    refine W_block ?_
    by_cases he : (i : Int) = start
    · rw [if_pos he] at hnx
      have hw' : IntKind.i64.wrap (start + 1) = (i + 1 : Nat) := by rw [← he]; exact hw
      refine W_evK [2, 3, 7, 8, 9, 22] (by simp [he]; rfl) ?_
      refine W_cond rfl (fun h => ?_) (fun h => by cases h)
      refine W_evE [2, 3, 7, 8, 9] (by simp [hcap]; rfl) ?_
      refine W_evE [2, 3, 7, 8, 9] (by simp; rfl) ?_
      refine ⟨_, by omega, i + 1, rfl, by omega, ?_⟩
      rw [hnx, byL_cons, byL_cons, byL_append, hw']; rfl
    · rw [if_neg he] at hnx
      have he' : ((i : Int) == start) = false := by simpa using he
      refine W_evK [2, 3, 7, 8, 9, 22] (by simp [he, he']; rfl) ?_
      refine W_cond rfl (fun h => by cases h) (fun h => ?_)
      refine W_evE [2, 3, 7, 8, 9] (by simp [hcap]; rfl) ?_
      refine W_evE [2, 3, 7, 8, 9] (by simp; rfl) ?_
      refine ⟨_, by omega, i + 1, rfl, by omega, ?_⟩
      rw [hnx, byL_cons, byL_cons, byL_append, hw]; rfl
  · have h1' : ¬ (i : Int) < (digM ds).length := by omega
    have hie : i = (digM ds).length := by omega
    subst hie
    refine W_evK [2, 3, 7, 8, 9, 17] (by simp; rfl) ?_
    refine W_cond rfl (fun h => by cases h) (fun h => ?_)
    refine W_exit ?_
    refine W_rK [6] ?_
    refine runA_pre 2 (by simp; rfl) rfl ?_
    refine runA_call (by simp) (by simp; rfl) (tail_sound ds neg tl) (by simp; rfl) ?_
    have hcap2 : (digM ds).length + 1 + (tailM tl).length ≤ 140737488355328 := by omega
    refine runA_fin (by simp [hcap2]; rfl) ?_
    refine W_ret ?_
    exact ⟨_, by simp [retQ]; exact ⟨rfl, by simp⟩, .inl fun T => by simp [AV.norm, patM, byL_append, byL_cons]⟩
end Go.AM
