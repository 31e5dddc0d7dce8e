/- The methods of the editor, continued: digit, start, separate, code. -/
import Derived.Test.YtnakpjnigfpkpaaC05E3
namespace Go.AM
open Go.RowKit Go.Proofs
set_option linter.unusedSimpArgs false
set_option linter.unusedVariables false
set_option maxHeartbeats 1000000

def digitM (src : List UInt8) (i : Nat) (e : Ed) : Nat × Ed := ((showM src i e).2.1, { (showM src i e).2.2 with on := (showM src i e).2.2.on && !(showM src i e).1 })
def startM (src : List UInt8) (i : Nat) (e : Ed) : Nat × Ed := ((showM src i e).2.1, { (showM src i e).2.2 with on := !(showM src i e).1 })
def sepM (e : Ed) : Nat × Ed := (0, { e with on := false, some_ := false })
def codeM (e : Ed) : Nat := if e.some_ then (if e.on then 1 else 2) else 0

theorem digit_sound (src : List UInt8) (n i : Nat) (e : Ed) (hs : src.length ≤ 9000) (hk : e.at_ ≤ 20000) (hn : e.text.length = n) (hi : i < n) (hn2 : n ≤ 300) :
    CallW Try.prog 23 [.loc 2 0, .v (.int .i64 i)] (edH src n e) fun r h' => r = .v (.int .i64 ((digitM src i e).1 : Nat)) ∧ h' = edH src n (digitM src i e).2 := by
  have ht := show_sound src n i e hs hk hn hi hn2
  unfold digitM
  generalize showM src i e = t at *
  obtain ⟨plus, code, at_, on, some_, text, mark⟩ := t
  dsimp only at *
  refine callW_of_W Try.func23 rfl (by decide +kernel) (by simp [Try.f23]) (rs := [.tmp 4]) rfl ?_
  rw [show Try.f23.ntmps = 25 from rfl]
  refine W_evK [0, 1] (by simp; rfl) ?_
  refine W_rK [0, 5, 6] ?_
  refine runA_pre 2 (by simp; rfl) rfl ?_
  refine runA_obj (by simp) (by simp) (ht.mono ?_)
  rintro r h' ⟨rfl, rfl⟩
  refine ⟨_, by simp; rfl, ?_⟩
  refine runA_fin (by simp; rfl) ?_
  cases on with
  | true =>
    refine W_evK [6] (by simp [setSeg]; rfl) ?_
    refine W_evK [4] (by simp; rfl) ?_
    refine W_ret ?_
    refine retW_mk (by simp; rfl) (by simp) (by simp) ?_
    simp
  | false =>
    refine W_evK [6] (by simp [setSeg]; rfl) ?_
    refine W_evK [4] (by simp; rfl) ?_
    refine W_ret ?_
    refine retW_mk (by simp; rfl) (by simp) (by simp) ?_
    simp

theorem start_sound (src : List UInt8) (n i : Nat) (e : Ed) (hs : src.length ≤ 9000) (hk : e.at_ ≤ 20000) (hn : e.text.length = n) (hi : i < n) (hn2 : n ≤ 300) :
    CallW Try.prog 24 [.loc 2 0, .v (.int .i64 i)] (edH src n e) fun r h' => r = .v (.int .i64 ((startM src i e).1 : Nat)) ∧ h' = edH src n (startM src i e).2 := by
  have ht := show_sound src n i e hs hk hn hi hn2
  unfold startM
  generalize showM src i e = t at *
  obtain ⟨plus, code, at_, on, some_, text, mark⟩ := t
  dsimp only at *
  refine callW_of_W Try.func24 rfl (by decide +kernel) (by simp [Try.f24]) (rs := [.tmp 4]) rfl ?_
  rw [show Try.f24.ntmps = 19 from rfl]
  refine W_evK [0, 1] (by simp; rfl) ?_
  refine W_rK [0, 5, 6] ?_
  refine runA_pre 2 (by simp; rfl) rfl ?_
  refine runA_obj (by simp) (by simp) (ht.mono ?_)
  rintro r h' ⟨rfl, rfl⟩
  refine ⟨_, by simp; rfl, ?_⟩
  refine runA_fin (by simp; rfl) ?_
  refine W_evK [6] (by simp [setSeg]; rfl) ?_
  refine W_evK [4] (by simp; rfl) ?_
  refine W_ret ?_
  refine retW_mk (by simp; rfl) (by simp) (by simp) ?_
  simp

theorem sep_sound (src : List UInt8) (n i : Nat) (e : Ed) :
    CallW Try.prog 25 [.loc 2 0, .v (.int .i64 i)] (edH src n e) fun r h' => r = .v (.int .i64 ((sepM e).1 : Nat)) ∧ h' = edH src n (sepM e).2 := by
  refine callW_of_W Try.func25 rfl (by decide +kernel) (by simp [Try.f25]) (rs := [.tmp 4]) rfl ?_
  rw [show Try.f25.ntmps = 11 from rfl]
  refine W_evK [0] (by simp; rfl) ?_
  refine W_evK [] (by simp [setSeg]; rfl) ?_
  refine W_evK [4] (by simp; rfl) ?_
  refine W_ret ?_
  refine retW_mk (by simp; rfl) (by simp) (by simp) ?_
  simp [sepM]

theorem code_sound (src : List UInt8) (n : Nat) (e : Ed) :
    CallW Try.prog 26 [.loc 2 0] (edH src n e) fun r h' => r = .v (.int .i64 (codeM e : Nat)) ∧ h' = edH src n e := by
  obtain ⟨at_, on, some_, text, mark⟩ := e
  refine callW_of_W Try.func26 rfl (by decide +kernel) (by simp [Try.f26]) (rs := [.tmp 2]) rfl ?_
  rw [show Try.f26.ntmps = 14 from rfl]
  refine W_evK [0] (by simp; rfl) ?_
  refine W_seq ?_
  refine W_block ?_
  cases some_ with
  | false =>
    refine W_evK [0, 3] (by simp; rfl) ?_
    refine W_cond rfl (fun h => ?_) (fun h => by cases h)
    refine W_evK [2] (by simp; rfl) ?_
    refine W_ret ?_
    repeat (first | refine on_ret ?_ | refine in_ret ?_)
    refine retW_mk (by simp; rfl) (by simp) (by simp) ?_
    simp [codeM]
  | true =>
    refine W_evK [0, 3] (by simp; rfl) ?_
    refine W_cond rfl (fun h => by cases h) (fun h => ?_)
    cases on with
    | true =>
      refine W_evK [9] (by simp; rfl) ?_
      refine W_cond rfl (fun h => ?_) (fun h => by cases h)
      refine W_evK [2] (by simp; rfl) ?_
      refine W_ret ?_
      repeat (first | refine on_ret ?_ | refine in_ret ?_)
      refine retW_mk (by simp; rfl) (by simp) (by simp) ?_
      simp [codeM]
    | false =>
      refine W_evK [9] (by simp; rfl) ?_
      refine W_cond rfl (fun h => by cases h) (fun h => ?_)
      refine W_skip ?_
      refine W_evK [2] (by simp; rfl) ?_
      refine W_ret ?_
      repeat (first | refine on_ret ?_ | refine in_ret ?_)
      refine retW_mk (by simp; rfl) (by simp) (by simp) ?_
      simp [codeM]
end Go.AM
