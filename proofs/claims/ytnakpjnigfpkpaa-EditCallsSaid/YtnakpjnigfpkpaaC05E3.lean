/- The methods of the editor, continued. -/
import Derived.Test.YtnakpjnigfpkpaaC05E2
namespace Go.AM
open Go.RowKit Go.Proofs
set_option linter.unusedSimpArgs false
set_option linter.unusedVariables false
set_option maxHeartbeats 1000000

theorem takeM_le (src : List UInt8) (k : Nat) : (takeM src k).1 ≤ 15 := by
  unfold takeM
  split
  · simp
  · rename_i b _
    have := b.toNat_lt
    split
    · dsimp only; omega
    · split
      · simp
      · split <;> dsimp only <;> omega
theorem takeM_code (src : List UInt8) (k : Nat) : (takeM src k).2.2.1 ≤ 7 ∧ k ≤ (takeM src k).2.2.2 ∧ (takeM src k).2.2.2 ≤ k + 2 := by
  unfold takeM
  split
  · simp
  · split
    · simp
    · split
      · simp
      · split <;> simp

def showM (src : List UInt8) (i : Nat) (e : Ed) : Bool × Nat × Ed :=
  let t := takeM src e.at_
  if t.2.2.1 ≠ 0 then (false, t.2.2.1, { e with at_ := t.2.2.2 })
  else
    let e1 : Ed := if 0 < t.1 then { e with at_ := t.2.2.2, on := true, some_ := true, mark := if e.on then e.mark else i } else { e with at_ := t.2.2.2 }
    (t.2.1, 0, if e1.on then { e1 with text := e1.text.set i (UInt8.ofNat (240 + t.1)) } else e1)

theorem show_sound (src : List UInt8) (n i : Nat) (e : Ed) (hs : src.length ≤ 9000) (hk : e.at_ ≤ 20000) (hn : e.text.length = n) (hi : i < n) (hn2 : n ≤ 300) :
    CallW Try.prog 29 [.loc 2 0, .v (.int .i64 i)] (edH src n e) fun r h' =>
      r = .tup [.v (.bool (showM src i e).1), .v (.int .i64 ((showM src i e).2.1 : Nat))] ∧ h' = edH src n (showM src i e).2.2 := by
  have ht := take_sound src n e hs hk
  have hd15 := takeM_le src e.at_
  have hc7 := takeM_code src e.at_
  unfold showM
  generalize htm : takeM src e.at_ = t at *
  obtain ⟨d, plus, code, k⟩ := t
  obtain ⟨at_, on, some_, text, mark⟩ := e
  dsimp only at *
  refine callW_of_W Try.func29 rfl (by decide +kernel) (by simp [Try.f29]) (rs := [.tmp 4, .tmp 5]) rfl ?_
  rw [show Try.f29.ntmps = 48 from rfl]
  refine W_evK [0, 1] (by simp; rfl) ?_
  refine W_rK [0, 1, 6, 4, 5] ?_
  refine runA_pre 1 (by simp; rfl) rfl ?_
  refine runA_obj (by simp) (by simp) (ht.mono ?_)
  rintro r h' ⟨rfl, rfl⟩
  refine ⟨_, by simp; rfl, ?_⟩
  refine runA_fin (by simp; rfl) ?_
  refine W_seq ?_
  refine W_evK [0, 1, 6, 4, 5, 14] (by simp; rfl) ?_
  refine W_cond rfl (fun h => ?_) (fun h => ?_)
  · have hc : code ≠ 0 := by simp at h; omega
    refine W_evK [4, 5] (by simp; rfl) ?_
    refine W_ret ?_
    repeat (first | refine on_ret ?_ | refine in_ret ?_)
    refine retW_mk (by simp; rfl) (by simp) (by simp) ?_
    simp [hc]
  have hc : code = 0 := by simp at h; omega
  subst hc
  refine W_skip ?_
  have e240 : ((UInt8.ofNat (240 + d)).toNat : Int) = 240 + d := by rw [UInt8.toNat_ofNat']; omega
  have hseg : setSeg (byL text) i [.v (.int .u8 (240 + (d : Int)))] = byL (text.set i (UInt8.ofNat (240 + d))) := by
    rw [← e240]; exact setSeg_byL _ _ _ (by omega)
  have w240 : IntKind.u8.wrap (240 + (d : Int)) = 240 + d := wu8 (by omega) (by omega)
  have hi1 : i + 1 ≤ n := hi
  refine W_seq ?_
  refine W_evK [0, 1, 6, 4, 17] (by simp; rfl) ?_
  refine W_cond rfl (fun h => ?_) (fun h => ?_)
  · have hd : 0 < d := by simp at h; omega
    refine W_seq ?_
    cases on with
    | true =>
      refine W_evK [0, 1, 6, 4, 22] (by simp; rfl) ?_
      refine W_cond rfl (fun h => by cases h) (fun h => ?_)
      refine W_skip ?_
      refine W_evE [0, 1, 6, 4] (by simp [setSeg]; rfl) ?_
      refine W_seq ?_
      refine W_evK [0, 1, 6, 4, 37] (by simp; rfl) ?_
      refine W_cond rfl (fun h => ?_) (fun h => by cases h)
      refine W_evE [4] (by simp [w240, hn, hi, hi1, hseg]; rfl) ?_
      refine W_evK [4, 5] (by simp; rfl) ?_
      refine W_ret ?_
      repeat (first | refine on_ret ?_ | refine in_ret ?_)
      refine retW_mk (by simp; rfl) (by simp) (by simp) ?_
      simp [hd]
    | false =>
      refine W_evK [0, 1, 6, 4, 22] (by simp; rfl) ?_
      refine W_cond rfl (fun h => ?_) (fun h => by cases h)
      refine W_evE [0, 1, 6, 4] (by simp [setSeg]; rfl) ?_
      refine W_evE [0, 1, 6, 4] (by simp [setSeg]; rfl) ?_
      refine W_seq ?_
      refine W_evK [0, 1, 6, 4, 37] (by simp; rfl) ?_
      refine W_cond rfl (fun h => ?_) (fun h => by cases h)
      refine W_evE [4] (by simp [w240, hn, hi, hi1, hseg]; rfl) ?_
      refine W_evK [4, 5] (by simp; rfl) ?_
      refine W_ret ?_
      repeat (first | refine on_ret ?_ | refine in_ret ?_)
      refine retW_mk (by simp; rfl) (by simp) (by simp) ?_
      simp [hd]
  have hd : ¬ 0 < d := by simp at h; omega
  refine W_skip ?_
  refine W_seq ?_
  cases on with
  | true =>
    refine W_evK [0, 1, 6, 4, 37] (by simp; rfl) ?_
    refine W_cond rfl (fun h => ?_) (fun h => by cases h)
    refine W_evE [4] (by simp [w240, hn, hi, hi1, hseg]; rfl) ?_
    refine W_evK [4, 5] (by simp; rfl) ?_
    refine W_ret ?_
    repeat (first | refine on_ret ?_ | refine in_ret ?_)
    refine retW_mk (by simp; rfl) (by simp) (by simp) ?_
    simp [hd]
  | false =>
    refine W_evK [0, 1, 6, 4, 37] (by simp; rfl) ?_
    refine W_cond rfl (fun h => by cases h) (fun h => ?_)
    refine W_skip ?_
    refine W_evK [4, 5] (by simp; rfl) ?_
    refine W_ret ?_
    repeat (first | refine on_ret ?_ | refine in_ret ?_)
    refine retW_mk (by simp; rfl) (by simp) (by simp) ?_
    simp [hd]
end Go.AM
