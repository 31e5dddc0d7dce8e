/- The methods of the editor. -/
import Derived.Test.YtnakpjnigfpkpaaC05E1
namespace Go.AM
open Go.RowKit Go.Proofs
set_option linter.unusedSimpArgs false
set_option linter.unusedVariables false
set_option maxHeartbeats 1000000

structure Ed where
  at_ : Nat
  on : Bool
  some_ : Bool
  text : List UInt8
  mark : Int

def resCell : AObj := .cells 26 [.lst .nil 1 [], .v (.int .i64 0), .v (.int .i64 0)]
def ctlMap : AObj := .map [(.int .u8 32, .fn (.func 23) [] []), (.int .u8 33, .fn (.func 24) [] []), (.int .u8 34, .fn (.func 25) [] [])]
def edObj (src : List UInt8) (n : Nat) (e : Ed) : AObj :=
  .cells 50 [.lst .any 1 (byL src), .v (.int .i64 e.at_), .v (.bool e.on), .v (.bool e.some_), .arr 1 0 n n, .v (.int .i64 0), .v (.int .i64 e.mark)]
@[simp] def edH (src : List UInt8) (n : Nat) (e : Ed) : List AObj :=
  [.cells 26 [.lst .nil 1 [], .v (.int .i64 0), .v (.int .i64 0)], .cells 5 (byL e.text),
   .cells 50 [.lst .any 1 (byL src), .v (.int .i64 e.at_), .v (.bool e.on), .v (.bool e.some_), .arr 1 0 n n, .v (.int .i64 0), .v (.int .i64 e.mark)],
   .map [(.int .u8 32, .fn (.func 23) [] []), (.int .u8 33, .fn (.func 24) [] []), (.int .u8 34, .fn (.func 25) [] [])]]

def takeM (src : List UInt8) (k : Nat) : Nat × Bool × Nat × Nat :=
  match src[k / 2]? with
  | none => (0, false, 5, k)
  | some b =>
    if (k + 1) % 2 = 0 then (b.toNat % 16, false, 0, k + 1)
    else if 9 < b.toNat / 16 then (0, false, 7, k + 1)
    else if 9 < b.toNat % 16 then (b.toNat / 16, decide (b.toNat % 16 ≠ 11 ∧ b.toNat % 16 ≠ 13), 0, k + 2)
    else (b.toNat / 16, false, 0, k + 1)

theorem and15 (b : UInt8) : IntKind.u8.wrap (((((b.toNat : Int) % 2 ^ IntKind.u8.bits).toNat &&& ((15 : Int) % 2 ^ IntKind.u8.bits).toNat : Nat) : Nat) : Int) = (b.toNat % 16 : Nat) := by
  have : ∀ n : Nat, n < 256 → IntKind.u8.wrap (((((n : Int) % 2 ^ IntKind.u8.bits).toNat &&& ((15 : Int) % 2 ^ IntKind.u8.bits).toNat : Nat) : Nat) : Int) = (n % 16 : Nat) := by decide +kernel
  exact this _ b.toNat_lt
theorem shr4 (b : UInt8) : (b.toNat : Int).fdiv (2 ^ min 4 IntKind.u8.bits) = (b.toNat / 16 : Nat) := by
  have : ∀ n : Nat, n < 256 → (n : Int).fdiv (2 ^ min 4 IntKind.u8.bits) = (n / 16 : Nat) := by decide +kernel
  exact this _ b.toNat_lt

theorem take_sound (src : List UInt8) (n : Nat) (e : Ed) (hs : src.length ≤ 9000) (hk : e.at_ ≤ 20000) :
    CallW Try.prog 30 [.loc 2 0] (edH src n e) fun r h' =>
      r = .tup [.v (.int .u8 ((takeM src e.at_).1 : Nat)), .v (.bool (takeM src e.at_).2.1), .v (.int .i64 ((takeM src e.at_).2.2.1 : Nat))] ∧ h' = edH src n { e with at_ := (takeM src e.at_).2.2.2 } := by
  refine callW_of_W Try.func30 rfl (by decide +kernel) (by simp [Try.f30]) (rs := [.tmp 2, .tmp 3, .tmp 4]) rfl ?_
  rw [show Try.f30.ntmps = 68 from rfl]
  obtain ⟨j, hj⟩ : ∃ j, j = e.at_ / 2 := ⟨_, rfl⟩
  have hq : ((e.at_ : Int).tdiv 2) = (j : Int) := by rw [Int.tdiv_eq_ediv_of_nonneg (by omega)]; omega
  refine W_evK [0] (by simp; rfl) ?_
  refine W_seq ?_
  refine W_dvK [0, 17] mx (by decide +kernel) (by simp (disch := first | omega | simp) [hq, w64]; rfl) ?_
  refine W_cond (by simp; rfl) (fun h => ?_) (fun h => ?_)
  · refine W_evK [2, 3, 4] (by simp; rfl) ?_
    have hn : src[j]? = none := by simp at h ⊢; omega
    refine W_ret ?_
    repeat (first | refine on_ret ?_ | refine in_ret ?_)
    refine retW_mk (by simp; rfl) (by simp) (by simp) ?_
    simp [takeM, ← hj, hn]
  have hlt : j < src.length := by simp at h; omega
  generalize hb : src[j] = b
  have hb' : src[j]? = some b := by rw [List.getElem?_eq_getElem hlt, hb]
  have hbj : (byL src)[j]? = some (.v (.int .u8 b.toNat)) := by simp [byL_get, hb']
  have hm : ((e.at_ : Int) + 1).tmod 2 = ((e.at_ + 1) % 2 : Nat) := by rw [Int.tmod_eq_emod_of_nonneg (by omega)]; omega
  have hb256 := b.toNat_lt
  refine W_skip ?_
  refine W_dvK [0, 5] mx (by decide +kernel) (by simp (disch := first | omega | simp) [hq, w64, hbj]; rfl) ?_
  refine W_evK [0, 5] (by simp (disch := first | omega | simp) [w64, setSeg]; rfl) ?_
  refine W_seq ?_
  refine W_evK [0, 5, 41] (by simp (disch := first | omega | simp) [w64, hm]; rfl) ?_
  refine W_cond (by simp; rfl) (fun h => ?_) (fun h => ?_)
  · refine W_evK [2, 3, 4] (by simp [bitsA, and15]; rfl) ?_
    have h2 : (e.at_ + 1) % 2 = 0 := by simp at h; omega
    refine W_ret ?_
    repeat (first | refine on_ret ?_ | refine in_ret ?_)
    refine retW_mk (by simp; rfl) (by simp) (by simp) ?_
    simp [takeM, ← hj, hb', h2]
  have h2 : ¬ (e.at_ + 1) % 2 = 0 := by simp at h; omega
  refine W_skip ?_
  refine W_seq ?_
  refine W_evK [0, 5, 46] (by simp [shr4]; rfl) ?_
  refine W_cond (by simp; rfl) (fun h => ?_) (fun h => ?_)
  · refine W_evK [2, 3, 4] (by simp; rfl) ?_
    have h3 : 9 < b.toNat / 16 := by simp at h; omega
    refine W_ret ?_
    repeat (first | refine on_ret ?_ | refine in_ret ?_)
    refine retW_mk (by simp; rfl) (by simp) (by simp) ?_
    simp [takeM, ← hj, hb', h2, h3]
  have h3 : ¬ 9 < b.toNat / 16 := by simp at h; omega
  refine W_skip ?_
  refine W_seq ?_
  refine W_evK [0, 5, 6] (by simp [bitsA, and15]; rfl) ?_
  refine W_evK [0, 5, 6, 50] (by simp; rfl) ?_
  refine W_cond (by simp; rfl) (fun h => ?_) (fun h => ?_)
  · have h4 : 9 < b.toNat % 16 := by simp at h; omega
    refine W_evK [5, 6] (by simp (disch := first | omega | simp) [w64, setSeg]; rfl) ?_
    by_cases h5 : b.toNat % 16 = 11
    · have h5' : (b.toNat : Int) % 16 = 11 := by omega
      refine W_evK [2, 3, 4] (by simp [shr4, h5']; rfl) ?_
      refine W_ret ?_
      repeat (first | refine on_ret ?_ | refine in_ret ?_)
      refine retW_mk (by simp; rfl) (by simp) (by simp) ?_
      simp [takeM, ← hj, hb', h2, h3, h4, h5] <;> omega
    · have h5' : ((b.toNat : Int) % 16 != 11) = true := by simp; omega
      refine W_evK [2, 3, 4] (by simp [shr4, h5']; rfl) ?_
      refine W_ret ?_
      repeat (first | refine on_ret ?_ | refine in_ret ?_)
      refine retW_mk (by simp; rfl) (by simp) (by simp) ?_
      simp [takeM, ← hj, hb', h2, h3, h4, h5]
      refine ⟨?_, by omega⟩
      by_cases h6 : b.toNat % 16 = 13
      · have : (b.toNat : Int) % 16 = 13 := by omega
        simp [h6, this]
      · have : ((b.toNat : Int) % 16 != 13) = true := by simp; omega
        simp [h6, this]
  have h4 : ¬ 9 < b.toNat % 16 := by simp at h; omega
  refine W_skip ?_
  refine W_evK [2, 3, 4] (by simp [shr4]; rfl) ?_
  refine W_ret ?_
  repeat (first | refine on_ret ?_ | refine in_ret ?_)
  refine retW_mk (by simp; rfl) (by simp) (by simp) ?_
  simp [takeM, ← hj, hb', h2, h3, h4]
end Go.AM
