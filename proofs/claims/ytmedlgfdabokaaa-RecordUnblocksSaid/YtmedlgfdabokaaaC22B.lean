/- descriptor, length, Clone; the block that is being made; Block's flush. -/
import Derived.Test.YtmedlgfdabokaaaC22A
namespace Go.AM
open Go.RowKit Go.Proofs
set_option linter.unusedSimpArgs false
set_option linter.unusedVariables false
set_option maxHeartbeats 1000000

def desc (n : Nat) : List UInt8 := [UInt8.ofNat (n / 256), UInt8.ofNat n, 0, 0]
@[simp] theorem desc_length (n : Nat) : (desc n).length = 4 := rfl
theorem u8w (n : Nat) : IntKind.u8.wrap (n : Int) = ((UInt8.ofNat n).toNat : Nat) := by
  rw [UInt8.toNat_ofNat']
  simp only [IntKind.wrap_u8]
  omega
theorem shr_nat (n k : Nat) (hk : k ≤ 64) : ((n : Int).fdiv (2 ^ min k IntKind.i64.bits)) = ((n / 2 ^ k : Nat) : Int) := by
  have : min k IntKind.i64.bits = k := by rw [show IntKind.i64.bits = 64 from rfl]; omega
  rw [this, Int.fdiv_eq_ediv_of_nonneg _ (by exact_mod_cast Nat.zero_le _)]
  norm_cast

theorem desc_sound (n : Nat) : Sound Try.prog 26 [.v (.int .i64 n)] (.lst .any 1 (byL (desc n))) := by
  refine sound_of_N Try.func26 rfl (by decide +kernel) (by simp [Try.f26]) rfl rfl (rs := [.tmp 2]) rfl ?_
  rw [show Try.f26.ntmps = 9 from rfl]
  have h3 := u8w (n / 256)
  have h4 := u8w n
  refine W_evK [0] (by simp; rfl) ?_
  refine W_rK [2] ?_
  refine runA_pre 4 (by simp; rfl) rfl ?_
  refine runA_fin (by simp; rfl) ?_
  refine W_ret ?_
  repeat (first | refine on_ret ?_ | refine in_ret ?_)
  exact ⟨_, by simp [retQ]; exact ⟨rfl, by simp⟩, .inr (by
    simp only [AV.plain]
    have e3 := shr_nat n 8 (by omega)
    simp only [Nat.reducePow] at e3
    rw [e3, h3, h4]
    rfl)⟩

def lenM (d : Dcb) (r : List UInt8) : Nat := if d.fmt == 2 then r.length + 4 else r.length
theorem len_sound (d : Dcb) (r : List UInt8) (hr : r.length ≤ 1000000000) : Sound Try.prog 28 [dcbA d, .lst .any 1 (byL r)] (.v (.int .i64 (lenM d r : Nat))) := by
  refine sound_of_W Try.func28 rfl (by decide +kernel) (by simp [Try.f28]) rfl rfl (rs := [.tmp 4]) rfl ?_
  rw [show Try.f28.ntmps = 13 from rfl]
  refine W_evK [1, 2] (by simp; rfl) ?_
  refine W_seq ?_
  have w1 : IntKind.i64.wrap ((r.length : Int) + 4) = (r.length : Int) + 4 := w64 (by omega) (by omega)
  rcases Bool.eq_false_or_eq_true (d.fmt == 2) with h1 | h1
  · refine W_evK [1, 7] (by simp [h1]; rfl) ?_
    refine W_cond rfl (fun h => ?_) (fun h => by simp at h)
    refine W_evK [4] (by simp [w1]; rfl) ?_
    refine W_ret ?_
    repeat (first | refine on_ret ?_ | refine in_ret ?_)
    simp [retQ, lenM, h1]
  · refine W_evK [1, 7] (by simp [h1]; rfl) ?_
    refine W_cond rfl (fun h => by simp at h) (fun h => ?_)
    refine W_skip ?_
    refine W_evK [4] (by simp; rfl) ?_
    refine W_ret ?_
    repeat (first | refine on_ret ?_ | refine in_ret ?_)
    simp [retQ, lenM, h1]

theorem clone_sound (l : List UInt8) (hl : l.length ≤ 1000000000) : Sound Try.prog 34 [.lst .any 1 (byL l)] (.lst (.tip 5 1) 1 (byL l)) := by
  refine sound_of_U Try.func34 rfl (by decide +kernel) (by simp [Try.f34]) rfl rfl (rs := [.tmp 2]) rfl ?_
  rw [show Try.f34.ntmps = 8 from rfl]
  have hb : l.length ≤ 140737488355328 := by omega
  refine W_evK [0] (by simp; rfl) ?_
  refine W_seq ?_
  cases l with
  | cons x l =>
    refine W_evK [0, 4] (by simp [byL_cons]; rfl) ?_
    refine W_cond rfl (fun h => by simp at h) (fun h => ?_)
    refine W_skip ?_
    rw [← byL_cons]
    refine W_evK [2] (by simp at hb; simp [hb]; rfl) ?_
    refine W_ret ?_
    repeat (first | refine on_ret ?_ | refine in_ret ?_)
    exact ⟨_, by simp [retQ]; exact ⟨rfl, by simp⟩, .norm fun T => by simp⟩
  | nil =>
    refine W_nilCases 0 (sz := 1) rfl ?_ fun ad cap hc => ?_
    · refine W_evK [0, 4] (by simp [putF]; rfl) ?_
      refine W_cond rfl (fun h => ?_) (fun h => by simp at h)
      refine W_evK [2] (by simp; rfl) ?_
      refine W_ret ?_
      repeat (first | refine on_ret ?_ | refine in_ret ?_)
      exact ⟨.lst .nil 1 [], by simp [retQ], .nil (by decide +kernel)⟩
    · refine W_evK [0, 4] (by simp [putF]; rfl) ?_
      refine W_cond rfl (fun h => by simp at h) (fun h => ?_)
      refine W_skip ?_
      refine W_keepS [0] ?_
      refine W_unnil 0 1 (by simp; rfl) hc ?_
      refine W_evK [2] (by simp [putF]; rfl) ?_
      refine W_ret ?_
      repeat (first | refine on_ret ?_ | refine in_ret ?_)
      exact ⟨_, by simp [retQ]; exact ⟨rfl, by simp⟩, .norm fun T => by simp⟩
end Go.AM
