/- Descriptions: which are valid, and which records fit. -/
import Derived.Test.YtmedlgfdabokaaaC22F
import Derived.Test.YtmedlgfdabokaaaAmC
namespace Go.AM
open Go.RowKit Go.Proofs
set_option linter.unusedSimpArgs false
set_option linter.unusedVariables false
set_option maxHeartbeats 1000000

structure Dcb where
  org : Int
  fmt : Int
  blk : Bool
  asa : Bool
  lrecl : Int
  size : Int
  klen : Int
  kpos : Int
@[simp] def dcbA (d : Dcb) : AV := .agg [.v (.int .i64 d.org), .v (.int .i64 d.fmt), .v (.bool d.blk), .v (.bool d.asa), .v (.int .i64 d.lrecl), .v (.int .i64 d.size), .v (.int .i64 d.klen), .v (.int .i64 d.kpos)]

def lengthsM (d : Dcb) : Bool :=
  if d.fmt == 1 then (if d.lrecl < 1 then false else if d.size < d.lrecl then false else if d.blk then d.size.tmod d.lrecl == 0 else d.size == d.lrecl)
  else if d.fmt == 2 then (if (4 : Int) < d.lrecl then decide (d.lrecl ≤ IntKind.i64.wrap (d.size - 4)) else false)
  else if d.fmt == 3 then (if d.lrecl == 0 then !d.blk else false) else false
def keysM (d : Dcb) : Bool :=
  if d.org == 3 then
    (if d.fmt == 1 then if (1 : Int) ≤ d.klen then if d.klen ≤ 64 then if (0 : Int) ≤ d.kpos then decide (d.kpos ≤ IntKind.i64.wrap (d.lrecl - d.klen)) else false else false else false else false)
  else if d.klen == 0 then d.kpos == 0 else false
def checkM (d : Dcb) : Int :=
  if d.org < 1 then 5 else if (3 : Int) < d.org then 5 else if d.size < 1 then 5 else if (1024 : Int) < d.size then 5 else if lengthsM d = false then 5 else if keysM d = false then 5 else 0
def fitsM (d : Dcb) (n : Int) : Bool :=
  if d.fmt == 1 then n == d.lrecl else if d.fmt == 2 then (if (1 : Int) ≤ n then decide (n ≤ IntKind.i64.wrap (d.lrecl - 4)) else false)
  else if (1 : Int) ≤ n then decide (n ≤ d.size) else false

def inM (a b c : Int) : Bool := if b ≤ a then decide (a ≤ c) else false
def validM (d : Dcb) : Bool :=
  if inM d.org 1 3 = false then false else if (1024 : Int) < d.size then false else
  if (if d.org == 3 then (d.fmt == 1 && inM d.klen 1 64 && inM d.kpos 0 (IntKind.i64.wrap (d.lrecl - d.klen))) else (d.klen == 0 && d.kpos == 0)) = false then false else
  if d.fmt == 1 then (if inM d.lrecl 1 d.size = false then false else if d.size == d.lrecl then true else if d.blk then d.size.tmod d.lrecl == 0 else false)
  else if d.fmt == 2 then (if (9 : Int) ≤ d.size then inM d.lrecl 5 (IntKind.i64.wrap (d.size - 4)) else false)
  else if d.fmt == 3 then (if (1 : Int) ≤ d.size then if d.lrecl == 0 then !d.blk else false else false) else false
def rfitsM (d : Dcb) (n : Int) : Bool :=
  if validM d = false then false else if d.fmt == 1 then n == d.lrecl else if d.fmt == 2 then inM n 1 (IntKind.i64.wrap (d.lrecl - 4)) else inM n 1 d.size

theorem lengths_sound (d : Dcb) : Sound Try.prog 35 [dcbA d] (.v (.bool (lengthsM d))) := by
  refine sound_of_W Try.func35 rfl (by decide +kernel) (by simp [Try.f35]) rfl rfl (rs := [.tmp 2]) rfl ?_
  rw [show Try.f35.ntmps = 53 from rfl]
  refine W_evK [1] (by simp; rfl) ?_
  refine W_seq ?_
  refine W_evK [1, 4] (by simp; rfl) ?_
  refine W_block ?_
  refine W_evK [1, 4, 5] (by simp; rfl) ?_
  rcases Bool.eq_false_or_eq_true (d.fmt == 1) with h1 | h1
  · skip
    have h1n : (d.fmt != 1) = false := by simp only [bne, h1]; rfl
    have h1p : d.fmt = 1 := by simpa using h1
    refine W_cond (by simp [h1, h1n, h1p]; rfl) (fun _ => ?_) (fun hx => by simp [h1, h1n, h1p] at hx)
    refine W_seq ?_
    by_cases h2 : d.lrecl < 1
    · skip
      refine W_evK [1, 16] (by simp [h1, h1n, h1p, h2]; rfl) ?_
      refine W_cond rfl (fun _ => ?_) (fun hx => by simp at hx)
      refine W_evK [2] (by simp [h1, h1n, h1p, h2]; rfl) ?_
      refine W_ret ?_
      repeat (first | refine on_ret ?_ | refine in_ret ?_)
      simp [retQ, lengthsM, h1, h1n, h1p, h2]
    · skip
      refine W_evK [1, 16] (by simp [h1, h1n, h1p, h2]; rfl) ?_
      by_cases h3 : d.size < d.lrecl
      · skip
        refine W_cond (by simp [h1, h1n, h1p, h2, h3]; rfl) (fun _ => ?_) (fun hx => by simp [h1, h1n, h1p, h2, h3] at hx)
        refine W_evK [2] (by simp [h1, h1n, h1p, h2, h3]; rfl) ?_
        refine W_ret ?_
        repeat (first | refine on_ret ?_ | refine in_ret ?_)
        simp [retQ, lengthsM, h1, h1n, h1p, h2, h3]
      · skip
        refine W_cond (by simp [h1, h1n, h1p, h2, h3]; rfl) (fun hx => by simp [h1, h1n, h1p, h2, h3] at hx) (fun _ => ?_)
        refine W_skip ?_
        refine W_seq ?_
        refine W_evK [1, 18] (by simp [h1, h1n, h1p, h2, h3]; rfl) ?_
        rcases Bool.eq_false_or_eq_true (d.blk) with h4 | h4
        · skip
          refine W_cond (by simp [h1, h1n, h1p, h2, h3, h4]; rfl) (fun _ => ?_) (fun hx => by simp [h1, h1n, h1p, h2, h3, h4] at hx)
          have h5 : ¬ d.lrecl = 0 := by first | omega | (simp only [inM] at *; split at * <;> simp_all <;> omega)
          refine W_evK [2] (by simp [h1, h1n, h1p, h2, h3, h4, h5]; rfl) ?_
          refine W_ret ?_
          repeat (first | refine on_ret ?_ | refine in_ret ?_)
          simp [retQ, lengthsM, h1, h1n, h1p, h2, h3, h4, h5]
        · skip
          refine W_cond (by simp [h1, h1n, h1p, h2, h3, h4]; rfl) (fun hx => by simp [h1, h1n, h1p, h2, h3, h4] at hx) (fun _ => ?_)
          refine W_skip ?_
          refine W_evK [2] (by simp [h1, h1n, h1p, h2, h3, h4]; rfl) ?_
          refine W_ret ?_
          repeat (first | refine on_ret ?_ | refine in_ret ?_)
          simp [retQ, lengthsM, h1, h1n, h1p, h2, h3, h4]
  · skip
    have h1n : (d.fmt != 1) = true := by simp only [bne, h1]; rfl
    have h1p : ¬ d.fmt = 1 := by simpa using h1
    refine W_cond (by simp [h1, h1n, h1p]; rfl) (fun hx => by simp [h1, h1n, h1p] at hx) (fun _ => ?_)
    refine W_evK [1, 4, 30] (by simp [h1, h1n, h1p]; rfl) ?_
    rcases Bool.eq_false_or_eq_true (d.fmt == 2) with h6 | h6
    · skip
      have h6n : (d.fmt != 2) = false := by simp only [bne, h6]; rfl
      have h6p : d.fmt = 2 := by simpa using h6
      refine W_cond (by simp [h1, h1n, h1p, h6, h6n, h6p]; rfl) (fun _ => ?_) (fun hx => by simp [h1, h1n, h1p, h6, h6n, h6p] at hx)
      by_cases h7 : (4 : Int) < d.lrecl
      · skip
        refine W_rK [2] ?_
        refine runA_pre 6 (by simp [h1, h1n, h1p, h6, h6n, h6p, h7]; rfl) rfl ?_
        refine runA_fin (by simp [h1, h1n, h1p, h6, h6n, h6p, h7]; rfl) ?_
        refine W_ret ?_
        repeat (first | refine on_ret ?_ | refine in_ret ?_)
        simp [retQ, lengthsM, h1, h1n, h1p, h6, h6n, h6p, h7]
      · skip
        refine W_rK [2] ?_
        refine runA_pre 6 (by simp [h1, h1n, h1p, h6, h6n, h6p, h7]; rfl) rfl ?_
        refine runA_fin (by simp [h1, h1n, h1p, h6, h6n, h6p, h7]; rfl) ?_
        refine W_ret ?_
        repeat (first | refine on_ret ?_ | refine in_ret ?_)
        simp [retQ, lengthsM, h1, h1n, h1p, h6, h6n, h6p, h7]
    · skip
      have h6n : (d.fmt != 2) = true := by simp only [bne, h6]; rfl
      have h6p : ¬ d.fmt = 2 := by simpa using h6
      refine W_cond (by simp [h1, h1n, h1p, h6, h6n, h6p]; rfl) (fun hx => by simp [h1, h1n, h1p, h6, h6n, h6p] at hx) (fun _ => ?_)
      refine W_evK [1, 43] (by simp [h1, h1n, h1p, h6, h6n, h6p]; rfl) ?_
      rcases Bool.eq_false_or_eq_true (d.fmt == 3) with h8 | h8
      · skip
        have h8n : (d.fmt != 3) = false := by simp only [bne, h8]; rfl
        have h8p : d.fmt = 3 := by simpa using h8
        refine W_cond (by simp [h1, h1n, h1p, h6, h6n, h6p, h8, h8n, h8p]; rfl) (fun _ => ?_) (fun hx => by simp [h1, h1n, h1p, h6, h6n, h6p, h8, h8n, h8p] at hx)
        rcases Bool.eq_false_or_eq_true (d.lrecl == 0) with h9 | h9
        · skip
          have h9n : (d.lrecl != 0) = false := by simp only [bne, h9]; rfl
          have h9p : d.lrecl = 0 := by simpa using h9
          refine W_evK [2] (by simp [h1, h1n, h1p, h6, h6n, h6p, h8, h8n, h8p, h9, h9n, h9p]; rfl) ?_
          refine W_ret ?_
          repeat (first | refine on_ret ?_ | refine in_ret ?_)
          simp [retQ, lengthsM, h1, h1n, h1p, h6, h6n, h6p, h8, h8n, h8p, h9, h9n, h9p]
        · skip
          have h9n : (d.lrecl != 0) = true := by simp only [bne, h9]; rfl
          have h9p : ¬ d.lrecl = 0 := by simpa using h9
          refine W_evK [2] (by simp [h1, h1n, h1p, h6, h6n, h6p, h8, h8n, h8p, h9, h9n, h9p]; rfl) ?_
          refine W_ret ?_
          repeat (first | refine on_ret ?_ | refine in_ret ?_)
          simp [retQ, lengthsM, h1, h1n, h1p, h6, h6n, h6p, h8, h8n, h8p, h9, h9n, h9p]
      · skip
        have h8n : (d.fmt != 3) = true := by simp only [bne, h8]; rfl
        have h8p : ¬ d.fmt = 3 := by simpa using h8
        refine W_cond (by simp [h1, h1n, h1p, h6, h6n, h6p, h8, h8n, h8p]; rfl) (fun hx => by simp [h1, h1n, h1p, h6, h6n, h6p, h8, h8n, h8p] at hx) (fun _ => ?_)
        refine W_skip ?_
        refine W_evK [2] (by simp [h1, h1n, h1p, h6, h6n, h6p, h8, h8n, h8p]; rfl) ?_
        refine W_ret ?_
        repeat (first | refine on_ret ?_ | refine in_ret ?_)
        simp [retQ, lengthsM, h1, h1n, h1p, h6, h6n, h6p, h8, h8n, h8p]

theorem keys_sound (d : Dcb) : Sound Try.prog 36 [dcbA d] (.v (.bool (keysM d))) := by
  refine sound_of_W Try.func36 rfl (by decide +kernel) (by simp [Try.f36]) rfl rfl (rs := [.tmp 2]) rfl ?_
  rw [show Try.f36.ntmps = 42 from rfl]
  refine W_evK [1] (by simp; rfl) ?_
  refine W_seq ?_
  refine W_evK [1, 5] (by simp; rfl) ?_
  rcases Bool.eq_false_or_eq_true (d.org == 3) with h1 | h1
  · skip
    have h1n : (d.org != 3) = false := by simp only [bne, h1]; rfl
    have h1p : d.org = 3 := by simpa using h1
    refine W_cond (by simp [h1, h1n, h1p]; rfl) (fun hx => by simp [h1, h1n, h1p] at hx) (fun _ => ?_)
    refine W_skip ?_
    rcases Bool.eq_false_or_eq_true (d.fmt == 1) with h2 | h2
    · skip
      have h2n : (d.fmt != 1) = false := by simp only [bne, h2]; rfl
      have h2p : d.fmt = 1 := by simpa using h2
      by_cases h3 : (1 : Int) ≤ d.klen
      · skip
        by_cases h4 : d.klen ≤ 64
        · skip
          by_cases h5 : (0 : Int) ≤ d.kpos
          · skip
            refine W_rK [2] ?_
            refine runA_pre 6 (by simp [h1, h1n, h1p, h2, h2n, h2p, h3, h4, h5]; rfl) rfl ?_
            refine runA_pre 6 (by simp [h1, h1n, h1p, h2, h2n, h2p, h3, h4, h5]; rfl) rfl ?_
            refine runA_pre 6 (by simp [h1, h1n, h1p, h2, h2n, h2p, h3, h4, h5]; rfl) rfl ?_
            refine runA_pre 6 (by simp [h1, h1n, h1p, h2, h2n, h2p, h3, h4, h5]; rfl) rfl ?_
            refine runA_fin (by simp [h1, h1n, h1p, h2, h2n, h2p, h3, h4, h5]; rfl) ?_
            refine W_ret ?_
            repeat (first | refine on_ret ?_ | refine in_ret ?_)
            simp [retQ, keysM, h1, h1n, h1p, h2, h2n, h2p, h3, h4, h5]
          · skip
            refine W_rK [2] ?_
            refine runA_pre 6 (by simp [h1, h1n, h1p, h2, h2n, h2p, h3, h4, h5]; rfl) rfl ?_
            refine runA_pre 6 (by simp [h1, h1n, h1p, h2, h2n, h2p, h3, h4, h5]; rfl) rfl ?_
            refine runA_pre 6 (by simp [h1, h1n, h1p, h2, h2n, h2p, h3, h4, h5]; rfl) rfl ?_
            refine runA_pre 6 (by simp [h1, h1n, h1p, h2, h2n, h2p, h3, h4, h5]; rfl) rfl ?_
            refine runA_fin (by simp [h1, h1n, h1p, h2, h2n, h2p, h3, h4, h5]; rfl) ?_
            refine W_ret ?_
            repeat (first | refine on_ret ?_ | refine in_ret ?_)
            simp [retQ, keysM, h1, h1n, h1p, h2, h2n, h2p, h3, h4, h5]
        · skip
          refine W_rK [2] ?_
          refine runA_pre 6 (by simp [h1, h1n, h1p, h2, h2n, h2p, h3, h4]; rfl) rfl ?_
          refine runA_pre 6 (by simp [h1, h1n, h1p, h2, h2n, h2p, h3, h4]; rfl) rfl ?_
          refine runA_pre 6 (by simp [h1, h1n, h1p, h2, h2n, h2p, h3, h4]; rfl) rfl ?_
          refine runA_pre 6 (by simp [h1, h1n, h1p, h2, h2n, h2p, h3, h4]; rfl) rfl ?_
          refine runA_fin (by simp [h1, h1n, h1p, h2, h2n, h2p, h3, h4]; rfl) ?_
          refine W_ret ?_
          repeat (first | refine on_ret ?_ | refine in_ret ?_)
          simp [retQ, keysM, h1, h1n, h1p, h2, h2n, h2p, h3, h4]
      · skip
        refine W_rK [2] ?_
        refine runA_pre 6 (by simp [h1, h1n, h1p, h2, h2n, h2p, h3]; rfl) rfl ?_
        refine runA_pre 6 (by simp [h1, h1n, h1p, h2, h2n, h2p, h3]; rfl) rfl ?_
        refine runA_pre 6 (by simp [h1, h1n, h1p, h2, h2n, h2p, h3]; rfl) rfl ?_
        refine runA_pre 6 (by simp [h1, h1n, h1p, h2, h2n, h2p, h3]; rfl) rfl ?_
        refine runA_fin (by simp [h1, h1n, h1p, h2, h2n, h2p, h3]; rfl) ?_
        refine W_ret ?_
        repeat (first | refine on_ret ?_ | refine in_ret ?_)
        simp [retQ, keysM, h1, h1n, h1p, h2, h2n, h2p, h3]
    · skip
      have h2n : (d.fmt != 1) = true := by simp only [bne, h2]; rfl
      have h2p : ¬ d.fmt = 1 := by simpa using h2
      refine W_rK [2] ?_
      refine runA_pre 6 (by simp [h1, h1n, h1p, h2, h2n, h2p]; rfl) rfl ?_
      refine runA_pre 6 (by simp [h1, h1n, h1p, h2, h2n, h2p]; rfl) rfl ?_
      refine runA_pre 6 (by simp [h1, h1n, h1p, h2, h2n, h2p]; rfl) rfl ?_
      refine runA_pre 6 (by simp [h1, h1n, h1p, h2, h2n, h2p]; rfl) rfl ?_
      refine runA_fin (by simp [h1, h1n, h1p, h2, h2n, h2p]; rfl) ?_
      refine W_ret ?_
      repeat (first | refine on_ret ?_ | refine in_ret ?_)
      simp [retQ, keysM, h1, h1n, h1p, h2, h2n, h2p]
  · skip
    have h1n : (d.org != 3) = true := by simp only [bne, h1]; rfl
    have h1p : ¬ d.org = 3 := by simpa using h1
    refine W_cond (by simp [h1, h1n, h1p]; rfl) (fun _ => ?_) (fun hx => by simp [h1, h1n, h1p] at hx)
    rcases Bool.eq_false_or_eq_true (d.klen == 0) with h6 | h6
    · skip
      have h6n : (d.klen != 0) = false := by simp only [bne, h6]; rfl
      have h6p : d.klen = 0 := by simpa using h6
      refine W_evK [2] (by simp [h1, h1n, h1p, h6, h6n, h6p]; rfl) ?_
      refine W_ret ?_
      repeat (first | refine on_ret ?_ | refine in_ret ?_)
      simp [retQ, keysM, h1, h1n, h1p, h6, h6n, h6p]
    · skip
      have h6n : (d.klen != 0) = true := by simp only [bne, h6]; rfl
      have h6p : ¬ d.klen = 0 := by simpa using h6
      refine W_evK [2] (by simp [h1, h1n, h1p, h6, h6n, h6p]; rfl) ?_
      refine W_ret ?_
      repeat (first | refine on_ret ?_ | refine in_ret ?_)
      simp [retQ, keysM, h1, h1n, h1p, h6, h6n, h6p]

theorem check_sound (d : Dcb) : Sound Try.prog 21 [dcbA d] (.v (.int .i64 (checkM d))) := by
  refine sound_of_W Try.func21 rfl (by decide +kernel) (by simp [Try.f21]) rfl rfl (rs := [.tmp 2]) rfl ?_
  rw [show Try.f21.ntmps = 31 from rfl]
  refine W_evK [1] (by simp; rfl) ?_
  refine W_seq ?_
  by_cases h1 : d.org < 1
  · skip
    refine W_rK [30] ?_
    refine runA_pre 6 (by simp [h1]; rfl) rfl ?_
    refine runA_pre 6 (by simp [h1]; rfl) rfl ?_
    refine runA_pre 6 (by simp [h1]; rfl) rfl ?_
    refine runA_pre 6 (by simp [h1]; rfl) rfl ?_
    refine runA_fin (by simp [h1]; rfl) ?_
    refine W_cond rfl (fun _ => ?_) (fun hx => by simp at hx)
    refine W_evK [2] (by simp [h1]; rfl) ?_
    refine W_ret ?_
    repeat (first | refine on_ret ?_ | refine in_ret ?_)
    simp [retQ, checkM, h1]
  · skip
    by_cases h2 : (3 : Int) < d.org
    · skip
      refine W_rK [30] ?_
      refine runA_pre 6 (by simp [h1, h2]; rfl) rfl ?_
      refine runA_pre 6 (by simp [h1, h2]; rfl) rfl ?_
      refine runA_pre 6 (by simp [h1, h2]; rfl) rfl ?_
      refine runA_pre 6 (by simp [h1, h2]; rfl) rfl ?_
      refine runA_fin (by simp [h1, h2]; rfl) ?_
      refine W_cond rfl (fun _ => ?_) (fun hx => by simp at hx)
      refine W_evK [2] (by simp [h1, h2]; rfl) ?_
      refine W_ret ?_
      repeat (first | refine on_ret ?_ | refine in_ret ?_)
      simp [retQ, checkM, h1, h2]
    · skip
      by_cases h3 : d.size < 1
      · skip
        refine W_rK [30] ?_
        refine runA_pre 6 (by simp [h1, h2, h3]; rfl) rfl ?_
        refine runA_pre 6 (by simp [h1, h2, h3]; rfl) rfl ?_
        refine runA_pre 6 (by simp [h1, h2, h3]; rfl) rfl ?_
        refine runA_pre 6 (by simp [h1, h2, h3]; rfl) rfl ?_
        refine runA_fin (by simp [h1, h2, h3]; rfl) ?_
        refine W_cond rfl (fun _ => ?_) (fun hx => by simp at hx)
        refine W_evK [2] (by simp [h1, h2, h3]; rfl) ?_
        refine W_ret ?_
        repeat (first | refine on_ret ?_ | refine in_ret ?_)
        simp [retQ, checkM, h1, h2, h3]
      · skip
        by_cases h4 : (1024 : Int) < d.size
        · skip
          refine W_rK [30] ?_
          refine runA_pre 6 (by simp [h1, h2, h3, h4]; rfl) rfl ?_
          refine runA_pre 6 (by simp [h1, h2, h3, h4]; rfl) rfl ?_
          refine runA_pre 6 (by simp [h1, h2, h3, h4]; rfl) rfl ?_
          refine runA_pre 6 (by simp [h1, h2, h3, h4]; rfl) rfl ?_
          refine runA_fin (by simp [h1, h2, h3, h4]; rfl) ?_
          refine W_cond rfl (fun _ => ?_) (fun hx => by simp at hx)
          refine W_evK [2] (by simp [h1, h2, h3, h4]; rfl) ?_
          refine W_ret ?_
          repeat (first | refine on_ret ?_ | refine in_ret ?_)
          simp [retQ, checkM, h1, h2, h3, h4]
        · skip
          rcases Bool.eq_false_or_eq_true (lengthsM d) with h5 | h5
          · skip
            refine W_rK [30] ?_
            refine runA_pre 6 (by simp [h1, h2, h3, h4, h5]; rfl) rfl ?_
            refine runA_pre 6 (by simp [h1, h2, h3, h4, h5]; rfl) rfl ?_
            refine runA_pre 8 (by simp [h1, h2, h3, h4, h5]; rfl) rfl ?_
            refine runA_call (by simp) (by first | (simp; done) | (simp; rfl)) (lengths_sound d) (by simp; rfl) ?_
            refine runA_pre 4 (by simp [h1, h2, h3, h4, h5]; rfl) rfl ?_
            refine runA_call (by simp) (by first | (simp; done) | (simp; rfl)) (keys_sound d) (by simp; rfl) ?_
            refine runA_fin (by simp [h1, h2, h3, h4, h5]; rfl) ?_
            rcases Bool.eq_false_or_eq_true (keysM d) with h6 | h6
            · skip
              refine W_cond (by simp [h1, h2, h3, h4, h5, h6]; rfl) (fun hx => by simp [h1, h2, h3, h4, h5, h6] at hx) (fun _ => ?_)
              refine W_skip ?_
              refine W_evK [2] (by simp [h1, h2, h3, h4, h5, h6]; rfl) ?_
              refine W_ret ?_
              repeat (first | refine on_ret ?_ | refine in_ret ?_)
              simp [retQ, checkM, h1, h2, h3, h4, h5, h6]
            · skip
              refine W_cond (by simp [h1, h2, h3, h4, h5, h6]; rfl) (fun _ => ?_) (fun hx => by simp [h1, h2, h3, h4, h5, h6] at hx)
              refine W_evK [2] (by simp [h1, h2, h3, h4, h5, h6]; rfl) ?_
              refine W_ret ?_
              repeat (first | refine on_ret ?_ | refine in_ret ?_)
              simp [retQ, checkM, h1, h2, h3, h4, h5, h6]
          · skip
            refine W_rK [30] ?_
            refine runA_pre 6 (by simp [h1, h2, h3, h4, h5]; rfl) rfl ?_
            refine runA_pre 6 (by simp [h1, h2, h3, h4, h5]; rfl) rfl ?_
            refine runA_pre 8 (by simp [h1, h2, h3, h4, h5]; rfl) rfl ?_
            refine runA_call (by simp) (by first | (simp; done) | (simp; rfl)) (lengths_sound d) (by simp; rfl) ?_
            refine runA_fin (by simp [h1, h2, h3, h4, h5]; rfl) ?_
            refine W_cond rfl (fun _ => ?_) (fun hx => by simp at hx)
            refine W_evK [2] (by simp [h1, h2, h3, h4, h5]; rfl) ?_
            refine W_ret ?_
            repeat (first | refine on_ret ?_ | refine in_ret ?_)
            simp [retQ, checkM, h1, h2, h3, h4, h5]

theorem fits_sound (d : Dcb) (n : Int) : Sound Try.prog 27 [dcbA d, .v (.int .i64 n)] (.v (.bool (fitsM d n))) := by
  refine sound_of_W Try.func27 rfl (by decide +kernel) (by simp [Try.f27]) rfl rfl (rs := [.tmp 4]) rfl ?_
  rw [show Try.f27.ntmps = 32 from rfl]
  refine W_evK [1, 2] (by simp; rfl) ?_
  refine W_seq ?_
  refine W_evK [1, 2, 6] (by simp; rfl) ?_
  refine W_block ?_
  refine W_evK [1, 2, 6, 7] (by simp; rfl) ?_
  rcases Bool.eq_false_or_eq_true (d.fmt == 1) with h1 | h1
  · skip
    have h1n : (d.fmt != 1) = false := by simp only [bne, h1]; rfl
    have h1p : d.fmt = 1 := by simpa using h1
    refine W_cond (by simp [h1, h1n, h1p]; rfl) (fun _ => ?_) (fun hx => by simp [h1, h1n, h1p] at hx)
    refine W_evK [4] (by simp [h1, h1n, h1p]; rfl) ?_
    refine W_ret ?_
    repeat (first | refine on_ret ?_ | refine in_ret ?_)
    simp [retQ, fitsM, h1, h1n, h1p]
  · skip
    have h1n : (d.fmt != 1) = true := by simp only [bne, h1]; rfl
    have h1p : ¬ d.fmt = 1 := by simpa using h1
    refine W_cond (by simp [h1, h1n, h1p]; rfl) (fun hx => by simp [h1, h1n, h1p] at hx) (fun _ => ?_)
    refine W_evK [1, 2, 13] (by simp [h1, h1n, h1p]; rfl) ?_
    rcases Bool.eq_false_or_eq_true (d.fmt == 2) with h2 | h2
    · skip
      have h2n : (d.fmt != 2) = false := by simp only [bne, h2]; rfl
      have h2p : d.fmt = 2 := by simpa using h2
      refine W_cond (by simp [h1, h1n, h1p, h2, h2n, h2p]; rfl) (fun _ => ?_) (fun hx => by simp [h1, h1n, h1p, h2, h2n, h2p] at hx)
      by_cases h3 : (1 : Int) ≤ n
      · skip
        refine W_evK [4] (by simp [h1, h1n, h1p, h2, h2n, h2p, h3]; rfl) ?_
        refine W_ret ?_
        repeat (first | refine on_ret ?_ | refine in_ret ?_)
        simp [retQ, fitsM, h1, h1n, h1p, h2, h2n, h2p, h3]
      · skip
        refine W_evK [4] (by simp [h1, h1n, h1p, h2, h2n, h2p, h3]; rfl) ?_
        refine W_ret ?_
        repeat (first | refine on_ret ?_ | refine in_ret ?_)
        simp [retQ, fitsM, h1, h1n, h1p, h2, h2n, h2p, h3]
    · skip
      have h2n : (d.fmt != 2) = true := by simp only [bne, h2]; rfl
      have h2p : ¬ d.fmt = 2 := by simpa using h2
      refine W_cond (by simp [h1, h1n, h1p, h2, h2n, h2p]; rfl) (fun hx => by simp [h1, h1n, h1p, h2, h2n, h2p] at hx) (fun _ => ?_)
      refine W_skip ?_
      by_cases h4 : (1 : Int) ≤ n
      · skip
        refine W_evK [4] (by simp [h1, h1n, h1p, h2, h2n, h2p, h4]; rfl) ?_
        refine W_ret ?_
        repeat (first | refine on_ret ?_ | refine in_ret ?_)
        simp [retQ, fitsM, h1, h1n, h1p, h2, h2n, h2p, h4]
      · skip
        refine W_evK [4] (by simp [h1, h1n, h1p, h2, h2n, h2p, h4]; rfl) ?_
        refine W_ret ?_
        repeat (first | refine on_ret ?_ | refine in_ret ?_)
        simp [retQ, fitsM, h1, h1n, h1p, h2, h2n, h2p, h4]

theorem in_sound (a b c : Int) : Sound Try.prog 37 [.v (.int .i64 a), .v (.int .i64 b), .v (.int .i64 c)] (.v (.bool (inM a b c))) := by
  refine sound_of_W Try.func37 rfl (by decide +kernel) (by simp [Try.f37]) rfl rfl (rs := [.tmp 6]) rfl ?_
  rw [show Try.f37.ntmps = 15 from rfl]
  refine W_evK [0, 1, 2] (by simp; rfl) ?_
  by_cases h1 : b ≤ a
  · skip
    refine W_evK [6] (by simp [h1]; rfl) ?_
    refine W_ret ?_
    repeat (first | refine on_ret ?_ | refine in_ret ?_)
    simp [retQ, inM, h1]
  · skip
    refine W_evK [6] (by simp [h1]; rfl) ?_
    refine W_ret ?_
    repeat (first | refine on_ret ?_ | refine in_ret ?_)
    simp [retQ, inM, h1]

theorem valid_sound (d : Dcb) : Sound Try.prog 29 [dcbA d] (.v (.bool (validM d))) := by
  refine sound_of_W Try.func29 rfl (by decide +kernel) (by simp [Try.f29]) rfl rfl (rs := [.tmp 2]) rfl ?_
  rw [show Try.f29.ntmps = 98 from rfl]
  refine W_evK [1] (by simp; rfl) ?_
  refine W_seq ?_
  rcases Bool.eq_false_or_eq_true (inM d.org 1 3) with h1 | h1
  · skip
    refine W_rK [1, 11] ?_
    refine runA_pre 2 (by simp [h1]; rfl) rfl ?_
    refine runA_call (by simp) (by first | (simp; done) | (simp; rfl)) (in_sound d.org 1 3) (by simp; rfl) ?_
    refine runA_fin (by simp [h1]; rfl) ?_
    by_cases h2 : (1024 : Int) < d.size
    · skip
      refine W_cond (by simp [h1, h2]; rfl) (fun _ => ?_) (fun hx => by simp [h1, h2] at hx)
      refine W_evK [2] (by simp [h1, h2]; rfl) ?_
      refine W_ret ?_
      repeat (first | refine on_ret ?_ | refine in_ret ?_)
      simp [retQ, validM, show inM 3 1 3 = true from rfl, h1, h2]
    · skip
      refine W_cond (by simp [h1, h2]; rfl) (fun hx => by simp [h1, h2] at hx) (fun _ => ?_)
      refine W_skip ?_
      refine W_seq ?_
      refine W_evK [1, 14] (by simp [h1, h2]; rfl) ?_
      rcases Bool.eq_false_or_eq_true (d.org == 3) with h3 | h3
      · skip
        have h3n : (d.org != 3) = false := by simp only [bne, h3]; rfl
        have h3p : d.org = 3 := by simpa using h3
        refine W_cond (by simp [h1, h2, h3, h3n, h3p]; rfl) (fun _ => ?_) (fun hx => by simp [h1, h2, h3, h3n, h3p] at hx)
        rcases Bool.eq_false_or_eq_true (d.fmt == 1) with h4 | h4
        · skip
          have h4n : (d.fmt != 1) = false := by simp only [bne, h4]; rfl
          have h4p : d.fmt = 1 := by simpa using h4
          rcases Bool.eq_false_or_eq_true (inM d.klen 1 64) with h5 | h5
          · skip
            refine W_rK [1, 34] ?_
            refine runA_pre 6 (by simp [h1, h2, h3, h3n, h3p, h4, h4n, h4p, h5]; rfl) rfl ?_
            refine runA_call (by simp) (by first | (simp; done) | (simp; rfl)) (in_sound d.klen 1 64) (by simp; rfl) ?_
            refine runA_pre 6 (by simp [h1, h2, h3, h3n, h3p, h4, h4n, h4p, h5]; rfl) rfl ?_
            refine runA_pre 4 (by simp [h1, h2, h3, h3n, h3p, h4, h4n, h4p, h5]; rfl) rfl ?_
            refine runA_call (by simp) (by first | (simp; done) | (simp; rfl)) (in_sound d.kpos 0 (IntKind.i64.wrap (d.lrecl - d.klen))) (by simp; rfl) ?_
            refine runA_fin (by simp [h1, h2, h3, h3n, h3p, h4, h4n, h4p, h5]; rfl) ?_
            rcases Bool.eq_false_or_eq_true (inM d.kpos 0 (IntKind.i64.wrap (d.lrecl - d.klen))) with h6 | h6
            · skip
              refine W_cond (by simp [h1, h2, h3, h3n, h3p, h4, h4n, h4p, h5, h6]; rfl) (fun hx => by simp [h1, h2, h3, h3n, h3p, h4, h4n, h4p, h5, h6] at hx) (fun _ => ?_)
              refine W_skip ?_
              refine W_seq ?_
              refine W_evK [1, 44] (by simp [h1, h2, h3, h3n, h3p, h4, h4n, h4p, h5, h6]; rfl) ?_
              refine W_block ?_
              refine W_evK [1, 44, 45] (by simp [h1, h2, h3, h3n, h3p, h4, h4n, h4p, h5, h6]; rfl) ?_
              refine W_cond rfl (fun _ => ?_) (fun hx => by simp at hx)
              refine W_seq ?_
              refine W_rK [1, 52] ?_
              refine runA_pre 4 (by simp [h1, h2, h3, h3n, h3p, h4, h4n, h4p, h5, h6]; rfl) rfl ?_
              refine runA_call (by simp) (by first | (simp; done) | (simp; rfl)) (in_sound d.lrecl 1 d.size) (by simp; rfl) ?_
              refine runA_fin (by simp [h1, h2, h3, h3n, h3p, h4, h4n, h4p, h5, h6]; rfl) ?_
              rcases Bool.eq_false_or_eq_true (inM d.lrecl 1 d.size) with h7 | h7
              · skip
                refine W_cond (by simp [h1, h2, h3, h3n, h3p, h4, h4n, h4p, h5, h6, h7]; rfl) (fun hx => by simp [h1, h2, h3, h3n, h3p, h4, h4n, h4p, h5, h6, h7] at hx) (fun _ => ?_)
                refine W_skip ?_
                rcases Bool.eq_false_or_eq_true (d.size == d.lrecl) with h8 | h8
                · skip
                  have h8n : (d.size != d.lrecl) = false := by simp only [bne, h8]; rfl
                  refine W_rK [2] ?_
                  refine runA_pre 6 (by simp [h1, h2, h3, h3n, h3p, h4, h4n, h4p, h5, h6, h7, h8, h8n]; rfl) rfl ?_
                  refine runA_pre 6 (by simp [h1, h2, h3, h3n, h3p, h4, h4n, h4p, h5, h6, h7, h8, h8n]; rfl) rfl ?_
                  refine runA_fin (by simp [h1, h2, h3, h3n, h3p, h4, h4n, h4p, h5, h6, h7, h8, h8n]; rfl) ?_
                  refine W_ret ?_
                  repeat (first | refine on_ret ?_ | refine in_ret ?_)
                  simp [retQ, validM, show inM 3 1 3 = true from rfl, h1, h2, h3, h3n, h3p, h4, h4n, h4p, h5, h6, h7, h8, h8n]
                · skip
                  have h8n : (d.size != d.lrecl) = true := by simp only [bne, h8]; rfl
                  have h8p : ¬ d.size = d.lrecl := by simpa using h8
                  rcases Bool.eq_false_or_eq_true (d.blk) with h9 | h9
                  · skip
                    have h10 : ¬ d.lrecl = 0 := by first | omega | (simp only [inM] at *; split at * <;> simp_all <;> omega)
                    refine W_rK [2] ?_
                    refine runA_pre 6 (by simp [h1, h2, h3, h3n, h3p, h4, h4n, h4p, h5, h6, h7, h8, h8n, h8p, h9, h10]; rfl) rfl ?_
                    refine runA_pre 6 (by simp [h1, h2, h3, h3n, h3p, h4, h4n, h4p, h5, h6, h7, h8, h8n, h8p, h9, h10]; rfl) rfl ?_
                    refine runA_fin (by simp [h1, h2, h3, h3n, h3p, h4, h4n, h4p, h5, h6, h7, h8, h8n, h8p, h9, h10]; rfl) ?_
                    refine W_ret ?_
                    repeat (first | refine on_ret ?_ | refine in_ret ?_)
                    simp [retQ, validM, show inM 3 1 3 = true from rfl, h1, h2, h3, h3n, h3p, h4, h4n, h4p, h5, h6, h7, h8, h8n, h8p, h9, h10]
                  · skip
                    refine W_rK [2] ?_
                    refine runA_pre 6 (by simp [h1, h2, h3, h3n, h3p, h4, h4n, h4p, h5, h6, h7, h8, h8n, h8p, h9]; rfl) rfl ?_
                    refine runA_pre 6 (by simp [h1, h2, h3, h3n, h3p, h4, h4n, h4p, h5, h6, h7, h8, h8n, h8p, h9]; rfl) rfl ?_
                    refine runA_fin (by simp [h1, h2, h3, h3n, h3p, h4, h4n, h4p, h5, h6, h7, h8, h8n, h8p, h9]; rfl) ?_
                    refine W_ret ?_
                    repeat (first | refine on_ret ?_ | refine in_ret ?_)
                    simp [retQ, validM, show inM 3 1 3 = true from rfl, h1, h2, h3, h3n, h3p, h4, h4n, h4p, h5, h6, h7, h8, h8n, h8p, h9]
              · skip
                refine W_cond (by simp [h1, h2, h3, h3n, h3p, h4, h4n, h4p, h5, h6, h7]; rfl) (fun _ => ?_) (fun hx => by simp [h1, h2, h3, h3n, h3p, h4, h4n, h4p, h5, h6, h7] at hx)
                refine W_evK [2] (by simp [h1, h2, h3, h3n, h3p, h4, h4n, h4p, h5, h6, h7]; rfl) ?_
                refine W_ret ?_
                repeat (first | refine on_ret ?_ | refine in_ret ?_)
                simp [retQ, validM, show inM 3 1 3 = true from rfl, h1, h2, h3, h3n, h3p, h4, h4n, h4p, h5, h6, h7]
            · skip
              refine W_cond (by simp [h1, h2, h3, h3n, h3p, h4, h4n, h4p, h5, h6]; rfl) (fun _ => ?_) (fun hx => by simp [h1, h2, h3, h3n, h3p, h4, h4n, h4p, h5, h6] at hx)
              refine W_evK [2] (by simp [h1, h2, h3, h3n, h3p, h4, h4n, h4p, h5, h6]; rfl) ?_
              refine W_ret ?_
              repeat (first | refine on_ret ?_ | refine in_ret ?_)
              simp [retQ, validM, show inM 3 1 3 = true from rfl, h1, h2, h3, h3n, h3p, h4, h4n, h4p, h5, h6]
          · skip
            refine W_rK [1, 34] ?_
            refine runA_pre 6 (by simp [h1, h2, h3, h3n, h3p, h4, h4n, h4p, h5]; rfl) rfl ?_
            refine runA_call (by simp) (by first | (simp; done) | (simp; rfl)) (in_sound d.klen 1 64) (by simp; rfl) ?_
            refine runA_pre 6 (by simp [h1, h2, h3, h3n, h3p, h4, h4n, h4p, h5]; rfl) rfl ?_
            refine runA_fin (by simp [h1, h2, h3, h3n, h3p, h4, h4n, h4p, h5]; rfl) ?_
            refine W_cond rfl (fun _ => ?_) (fun hx => by simp at hx)
            refine W_evK [2] (by simp [h1, h2, h3, h3n, h3p, h4, h4n, h4p, h5]; rfl) ?_
            refine W_ret ?_
            repeat (first | refine on_ret ?_ | refine in_ret ?_)
            simp [retQ, validM, show inM 3 1 3 = true from rfl, h1, h2, h3, h3n, h3p, h4, h4n, h4p, h5]
        · skip
          have h4n : (d.fmt != 1) = true := by simp only [bne, h4]; rfl
          have h4p : ¬ d.fmt = 1 := by simpa using h4
          refine W_rK [1, 34] ?_
          refine runA_pre 6 (by simp [h1, h2, h3, h3n, h3p, h4, h4n, h4p]; rfl) rfl ?_
          refine runA_pre 6 (by simp [h1, h2, h3, h3n, h3p, h4, h4n, h4p]; rfl) rfl ?_
          refine runA_fin (by simp [h1, h2, h3, h3n, h3p, h4, h4n, h4p]; rfl) ?_
          refine W_cond rfl (fun _ => ?_) (fun hx => by simp at hx)
          refine W_evK [2] (by simp [h1, h2, h3, h3n, h3p, h4, h4n, h4p]; rfl) ?_
          refine W_ret ?_
          repeat (first | refine on_ret ?_ | refine in_ret ?_)
          simp [retQ, validM, show inM 3 1 3 = true from rfl, h1, h2, h3, h3n, h3p, h4, h4n, h4p]
      · skip
        have h3n : (d.org != 3) = true := by simp only [bne, h3]; rfl
        have h3p : ¬ d.org = 3 := by simpa using h3
        refine W_cond (by simp [h1, h2, h3, h3n, h3p]; rfl) (fun hx => by simp [h1, h2, h3, h3n, h3p] at hx) (fun _ => ?_)
        rcases Bool.eq_false_or_eq_true (d.klen == 0) with h11 | h11
        · skip
          have h11n : (d.klen != 0) = false := by simp only [bne, h11]; rfl
          have h11p : d.klen = 0 := by simpa using h11
          refine W_evK [1, 42] (by simp [h1, h2, h3, h3n, h3p, h11, h11n, h11p]; rfl) ?_
          rcases Bool.eq_false_or_eq_true (d.kpos == 0) with h12 | h12
          · skip
            have h12n : (d.kpos != 0) = false := by simp only [bne, h12]; rfl
            have h12p : d.kpos = 0 := by simpa using h12
            refine W_cond (by simp [h1, h2, h3, h3n, h3p, h11, h11n, h11p, h12, h12n, h12p]; rfl) (fun hx => by simp [h1, h2, h3, h3n, h3p, h11, h11n, h11p, h12, h12n, h12p] at hx) (fun _ => ?_)
            refine W_skip ?_
            refine W_seq ?_
            refine W_evK [1, 44] (by simp [h1, h2, h3, h3n, h3p, h11, h11n, h11p, h12, h12n, h12p]; rfl) ?_
            refine W_block ?_
            refine W_evK [1, 44, 45] (by simp [h1, h2, h3, h3n, h3p, h11, h11n, h11p, h12, h12n, h12p]; rfl) ?_
            rcases Bool.eq_false_or_eq_true (d.fmt == 1) with h13 | h13
            · skip
              have h13n : (d.fmt != 1) = false := by simp only [bne, h13]; rfl
              have h13p : d.fmt = 1 := by simpa using h13
              refine W_cond (by simp [h1, h2, h3, h3n, h3p, h11, h11n, h11p, h12, h12n, h12p, h13, h13n, h13p]; rfl) (fun _ => ?_) (fun hx => by simp [h1, h2, h3, h3n, h3p, h11, h11n, h11p, h12, h12n, h12p, h13, h13n, h13p] at hx)
              refine W_seq ?_
              refine W_rK [1, 52] ?_
              refine runA_pre 4 (by simp [h1, h2, h3, h3n, h3p, h11, h11n, h11p, h12, h12n, h12p, h13, h13n, h13p]; rfl) rfl ?_
              refine runA_call (by simp) (by first | (simp; done) | (simp; rfl)) (in_sound d.lrecl 1 d.size) (by simp; rfl) ?_
              refine runA_fin (by simp [h1, h2, h3, h3n, h3p, h11, h11n, h11p, h12, h12n, h12p, h13, h13n, h13p]; rfl) ?_
              rcases Bool.eq_false_or_eq_true (inM d.lrecl 1 d.size) with h14 | h14
              · skip
                refine W_cond (by simp [h1, h2, h3, h3n, h3p, h11, h11n, h11p, h12, h12n, h12p, h13, h13n, h13p, h14]; rfl) (fun hx => by simp [h1, h2, h3, h3n, h3p, h11, h11n, h11p, h12, h12n, h12p, h13, h13n, h13p, h14] at hx) (fun _ => ?_)
                refine W_skip ?_
                rcases Bool.eq_false_or_eq_true (d.size == d.lrecl) with h15 | h15
                · skip
                  have h15n : (d.size != d.lrecl) = false := by simp only [bne, h15]; rfl
                  refine W_rK [2] ?_
                  refine runA_pre 6 (by simp [h1, h2, h3, h3n, h3p, h11, h11n, h11p, h12, h12n, h12p, h13, h13n, h13p, h14, h15, h15n]; rfl) rfl ?_
                  refine runA_pre 6 (by simp [h1, h2, h3, h3n, h3p, h11, h11n, h11p, h12, h12n, h12p, h13, h13n, h13p, h14, h15, h15n]; rfl) rfl ?_
                  refine runA_fin (by simp [h1, h2, h3, h3n, h3p, h11, h11n, h11p, h12, h12n, h12p, h13, h13n, h13p, h14, h15, h15n]; rfl) ?_
                  refine W_ret ?_
                  repeat (first | refine on_ret ?_ | refine in_ret ?_)
                  simp [retQ, validM, show inM 3 1 3 = true from rfl, h1, h2, h3, h3n, h3p, h11, h11n, h11p, h12, h12n, h12p, h13, h13n, h13p, h14, h15, h15n]
                · skip
                  have h15n : (d.size != d.lrecl) = true := by simp only [bne, h15]; rfl
                  have h15p : ¬ d.size = d.lrecl := by simpa using h15
                  rcases Bool.eq_false_or_eq_true (d.blk) with h16 | h16
                  · skip
                    have h17 : ¬ d.lrecl = 0 := by first | omega | (simp only [inM] at *; split at * <;> simp_all <;> omega)
                    refine W_rK [2] ?_
                    refine runA_pre 6 (by simp [h1, h2, h3, h3n, h3p, h11, h11n, h11p, h12, h12n, h12p, h13, h13n, h13p, h14, h15, h15n, h15p, h16, h17]; rfl) rfl ?_
                    refine runA_pre 6 (by simp [h1, h2, h3, h3n, h3p, h11, h11n, h11p, h12, h12n, h12p, h13, h13n, h13p, h14, h15, h15n, h15p, h16, h17]; rfl) rfl ?_
                    refine runA_fin (by simp [h1, h2, h3, h3n, h3p, h11, h11n, h11p, h12, h12n, h12p, h13, h13n, h13p, h14, h15, h15n, h15p, h16, h17]; rfl) ?_
                    refine W_ret ?_
                    repeat (first | refine on_ret ?_ | refine in_ret ?_)
                    simp [retQ, validM, show inM 3 1 3 = true from rfl, h1, h2, h3, h3n, h3p, h11, h11n, h11p, h12, h12n, h12p, h13, h13n, h13p, h14, h15, h15n, h15p, h16, h17]
                  · skip
                    refine W_rK [2] ?_
                    refine runA_pre 6 (by simp [h1, h2, h3, h3n, h3p, h11, h11n, h11p, h12, h12n, h12p, h13, h13n, h13p, h14, h15, h15n, h15p, h16]; rfl) rfl ?_
                    refine runA_pre 6 (by simp [h1, h2, h3, h3n, h3p, h11, h11n, h11p, h12, h12n, h12p, h13, h13n, h13p, h14, h15, h15n, h15p, h16]; rfl) rfl ?_
                    refine runA_fin (by simp [h1, h2, h3, h3n, h3p, h11, h11n, h11p, h12, h12n, h12p, h13, h13n, h13p, h14, h15, h15n, h15p, h16]; rfl) ?_
                    refine W_ret ?_
                    repeat (first | refine on_ret ?_ | refine in_ret ?_)
                    simp [retQ, validM, show inM 3 1 3 = true from rfl, h1, h2, h3, h3n, h3p, h11, h11n, h11p, h12, h12n, h12p, h13, h13n, h13p, h14, h15, h15n, h15p, h16]
              · skip
                refine W_cond (by simp [h1, h2, h3, h3n, h3p, h11, h11n, h11p, h12, h12n, h12p, h13, h13n, h13p, h14]; rfl) (fun _ => ?_) (fun hx => by simp [h1, h2, h3, h3n, h3p, h11, h11n, h11p, h12, h12n, h12p, h13, h13n, h13p, h14] at hx)
                refine W_evK [2] (by simp [h1, h2, h3, h3n, h3p, h11, h11n, h11p, h12, h12n, h12p, h13, h13n, h13p, h14]; rfl) ?_
                refine W_ret ?_
                repeat (first | refine on_ret ?_ | refine in_ret ?_)
                simp [retQ, validM, show inM 3 1 3 = true from rfl, h1, h2, h3, h3n, h3p, h11, h11n, h11p, h12, h12n, h12p, h13, h13n, h13p, h14]
            · skip
              have h13n : (d.fmt != 1) = true := by simp only [bne, h13]; rfl
              have h13p : ¬ d.fmt = 1 := by simpa using h13
              refine W_cond (by simp [h1, h2, h3, h3n, h3p, h11, h11n, h11p, h12, h12n, h12p, h13, h13n, h13p]; rfl) (fun hx => by simp [h1, h2, h3, h3n, h3p, h11, h11n, h11p, h12, h12n, h12p, h13, h13n, h13p] at hx) (fun _ => ?_)
              refine W_evK [1, 44, 70] (by simp [h1, h2, h3, h3n, h3p, h11, h11n, h11p, h12, h12n, h12p, h13, h13n, h13p]; rfl) ?_
              rcases Bool.eq_false_or_eq_true (d.fmt == 2) with h18 | h18
              · skip
                have h18n : (d.fmt != 2) = false := by simp only [bne, h18]; rfl
                have h18p : d.fmt = 2 := by simpa using h18
                refine W_cond (by simp [h1, h2, h3, h3n, h3p, h11, h11n, h11p, h12, h12n, h12p, h13, h13n, h13p, h18, h18n, h18p]; rfl) (fun _ => ?_) (fun hx => by simp [h1, h2, h3, h3n, h3p, h11, h11n, h11p, h12, h12n, h12p, h13, h13n, h13p, h18, h18n, h18p] at hx)
                by_cases h19 : (9 : Int) ≤ d.size
                · skip
                  refine W_rK [2] ?_
                  refine runA_pre 6 (by simp [h1, h2, h3, h3n, h3p, h11, h11n, h11p, h12, h12n, h12p, h13, h13n, h13p, h18, h18n, h18p, h19]; rfl) rfl ?_
                  refine runA_pre 3 (by simp [h1, h2, h3, h3n, h3p, h11, h11n, h11p, h12, h12n, h12p, h13, h13n, h13p, h18, h18n, h18p, h19]; rfl) rfl ?_
                  refine runA_call (by simp) (by first | (simp; done) | (simp; rfl)) (in_sound d.lrecl 5 (IntKind.i64.wrap (d.size - 4))) (by simp; rfl) ?_
                  refine runA_fin (by simp [h1, h2, h3, h3n, h3p, h11, h11n, h11p, h12, h12n, h12p, h13, h13n, h13p, h18, h18n, h18p, h19]; rfl) ?_
                  refine W_ret ?_
                  repeat (first | refine on_ret ?_ | refine in_ret ?_)
                  simp [retQ, validM, show inM 3 1 3 = true from rfl, h1, h2, h3, h3n, h3p, h11, h11n, h11p, h12, h12n, h12p, h13, h13n, h13p, h18, h18n, h18p, h19]
                · skip
                  refine W_rK [2] ?_
                  refine runA_pre 6 (by simp [h1, h2, h3, h3n, h3p, h11, h11n, h11p, h12, h12n, h12p, h13, h13n, h13p, h18, h18n, h18p, h19]; rfl) rfl ?_
                  refine runA_fin (by simp [h1, h2, h3, h3n, h3p, h11, h11n, h11p, h12, h12n, h12p, h13, h13n, h13p, h18, h18n, h18p, h19]; rfl) ?_
                  refine W_ret ?_
                  repeat (first | refine on_ret ?_ | refine in_ret ?_)
                  simp [retQ, validM, show inM 3 1 3 = true from rfl, h1, h2, h3, h3n, h3p, h11, h11n, h11p, h12, h12n, h12p, h13, h13n, h13p, h18, h18n, h18p, h19]
              · skip
                have h18n : (d.fmt != 2) = true := by simp only [bne, h18]; rfl
                have h18p : ¬ d.fmt = 2 := by simpa using h18
                refine W_cond (by simp [h1, h2, h3, h3n, h3p, h11, h11n, h11p, h12, h12n, h12p, h13, h13n, h13p, h18, h18n, h18p]; rfl) (fun hx => by simp [h1, h2, h3, h3n, h3p, h11, h11n, h11p, h12, h12n, h12p, h13, h13n, h13p, h18, h18n, h18p] at hx) (fun _ => ?_)
                refine W_evK [1, 83] (by simp [h1, h2, h3, h3n, h3p, h11, h11n, h11p, h12, h12n, h12p, h13, h13n, h13p, h18, h18n, h18p]; rfl) ?_
                rcases Bool.eq_false_or_eq_true (d.fmt == 3) with h20 | h20
                · skip
                  have h20n : (d.fmt != 3) = false := by simp only [bne, h20]; rfl
                  have h20p : d.fmt = 3 := by simpa using h20
                  refine W_cond (by simp [h1, h2, h3, h3n, h3p, h11, h11n, h11p, h12, h12n, h12p, h13, h13n, h13p, h18, h18n, h18p, h20, h20n, h20p]; rfl) (fun _ => ?_) (fun hx => by simp [h1, h2, h3, h3n, h3p, h11, h11n, h11p, h12, h12n, h12p, h13, h13n, h13p, h18, h18n, h18p, h20, h20n, h20p] at hx)
                  by_cases h21 : (1 : Int) ≤ d.size
                  · skip
                    rcases Bool.eq_false_or_eq_true (d.lrecl == 0) with h22 | h22
                    · skip
                      have h22n : (d.lrecl != 0) = false := by simp only [bne, h22]; rfl
                      have h22p : d.lrecl = 0 := by simpa using h22
                      refine W_rK [2] ?_
                      refine runA_pre 6 (by simp [h1, h2, h3, h3n, h3p, h11, h11n, h11p, h12, h12n, h12p, h13, h13n, h13p, h18, h18n, h18p, h20, h20n, h20p, h21, h22, h22n, h22p]; rfl) rfl ?_
                      refine runA_fin (by simp [h1, h2, h3, h3n, h3p, h11, h11n, h11p, h12, h12n, h12p, h13, h13n, h13p, h18, h18n, h18p, h20, h20n, h20p, h21, h22, h22n, h22p]; rfl) ?_
                      refine W_ret ?_
                      repeat (first | refine on_ret ?_ | refine in_ret ?_)
                      simp [retQ, validM, show inM 3 1 3 = true from rfl, h1, h2, h3, h3n, h3p, h11, h11n, h11p, h12, h12n, h12p, h13, h13n, h13p, h18, h18n, h18p, h20, h20n, h20p, h21, h22, h22n, h22p]
                    · skip
                      have h22n : (d.lrecl != 0) = true := by simp only [bne, h22]; rfl
                      have h22p : ¬ d.lrecl = 0 := by simpa using h22
                      refine W_rK [2] ?_
                      refine runA_pre 6 (by simp [h1, h2, h3, h3n, h3p, h11, h11n, h11p, h12, h12n, h12p, h13, h13n, h13p, h18, h18n, h18p, h20, h20n, h20p, h21, h22, h22n, h22p]; rfl) rfl ?_
                      refine runA_fin (by simp [h1, h2, h3, h3n, h3p, h11, h11n, h11p, h12, h12n, h12p, h13, h13n, h13p, h18, h18n, h18p, h20, h20n, h20p, h21, h22, h22n, h22p]; rfl) ?_
                      refine W_ret ?_
                      repeat (first | refine on_ret ?_ | refine in_ret ?_)
                      simp [retQ, validM, show inM 3 1 3 = true from rfl, h1, h2, h3, h3n, h3p, h11, h11n, h11p, h12, h12n, h12p, h13, h13n, h13p, h18, h18n, h18p, h20, h20n, h20p, h21, h22, h22n, h22p]
                  · skip
                    refine W_rK [2] ?_
                    refine runA_pre 6 (by simp [h1, h2, h3, h3n, h3p, h11, h11n, h11p, h12, h12n, h12p, h13, h13n, h13p, h18, h18n, h18p, h20, h20n, h20p, h21]; rfl) rfl ?_
                    refine runA_fin (by simp [h1, h2, h3, h3n, h3p, h11, h11n, h11p, h12, h12n, h12p, h13, h13n, h13p, h18, h18n, h18p, h20, h20n, h20p, h21]; rfl) ?_
                    refine W_ret ?_
                    repeat (first | refine on_ret ?_ | refine in_ret ?_)
                    simp [retQ, validM, show inM 3 1 3 = true from rfl, h1, h2, h3, h3n, h3p, h11, h11n, h11p, h12, h12n, h12p, h13, h13n, h13p, h18, h18n, h18p, h20, h20n, h20p, h21]
                · skip
                  have h20n : (d.fmt != 3) = true := by simp only [bne, h20]; rfl
                  have h20p : ¬ d.fmt = 3 := by simpa using h20
                  refine W_cond (by simp [h1, h2, h3, h3n, h3p, h11, h11n, h11p, h12, h12n, h12p, h13, h13n, h13p, h18, h18n, h18p, h20, h20n, h20p]; rfl) (fun hx => by simp [h1, h2, h3, h3n, h3p, h11, h11n, h11p, h12, h12n, h12p, h13, h13n, h13p, h18, h18n, h18p, h20, h20n, h20p] at hx) (fun _ => ?_)
                  refine W_skip ?_
                  refine W_evK [2] (by simp [h1, h2, h3, h3n, h3p, h11, h11n, h11p, h12, h12n, h12p, h13, h13n, h13p, h18, h18n, h18p, h20, h20n, h20p]; rfl) ?_
                  refine W_ret ?_
                  repeat (first | refine on_ret ?_ | refine in_ret ?_)
                  simp [retQ, validM, show inM 3 1 3 = true from rfl, h1, h2, h3, h3n, h3p, h11, h11n, h11p, h12, h12n, h12p, h13, h13n, h13p, h18, h18n, h18p, h20, h20n, h20p]
          · skip
            have h12n : (d.kpos != 0) = true := by simp only [bne, h12]; rfl
            have h12p : ¬ d.kpos = 0 := by simpa using h12
            refine W_cond (by simp [h1, h2, h3, h3n, h3p, h11, h11n, h11p, h12, h12n, h12p]; rfl) (fun _ => ?_) (fun hx => by simp [h1, h2, h3, h3n, h3p, h11, h11n, h11p, h12, h12n, h12p] at hx)
            refine W_evK [2] (by simp [h1, h2, h3, h3n, h3p, h11, h11n, h11p, h12, h12n, h12p]; rfl) ?_
            refine W_ret ?_
            repeat (first | refine on_ret ?_ | refine in_ret ?_)
            simp [retQ, validM, show inM 3 1 3 = true from rfl, h1, h2, h3, h3n, h3p, h11, h11n, h11p, h12, h12n, h12p]
        · skip
          have h11n : (d.klen != 0) = true := by simp only [bne, h11]; rfl
          have h11p : ¬ d.klen = 0 := by simpa using h11
          refine W_evK [1, 42] (by simp [h1, h2, h3, h3n, h3p, h11, h11n, h11p]; rfl) ?_
          refine W_cond rfl (fun _ => ?_) (fun hx => by simp at hx)
          refine W_evK [2] (by simp [h1, h2, h3, h3n, h3p, h11, h11n, h11p]; rfl) ?_
          refine W_ret ?_
          repeat (first | refine on_ret ?_ | refine in_ret ?_)
          simp [retQ, validM, show inM 3 1 3 = true from rfl, h1, h2, h3, h3n, h3p, h11, h11n, h11p]
  · skip
    refine W_rK [1, 11] ?_
    refine runA_pre 2 (by simp [h1]; rfl) rfl ?_
    refine runA_call (by simp) (by first | (simp; done) | (simp; rfl)) (in_sound d.org 1 3) (by simp; rfl) ?_
    refine runA_fin (by simp [h1]; rfl) ?_
    refine W_cond rfl (fun _ => ?_) (fun hx => by simp at hx)
    refine W_evK [2] (by simp [h1]; rfl) ?_
    refine W_ret ?_
    repeat (first | refine on_ret ?_ | refine in_ret ?_)
    simp [retQ, validM, show inM 3 1 3 = true from rfl, h1]

theorem rcheck_sound (d : Dcb) : Sound Try.prog 22 [dcbA d] (.v (.int .i64 (if validM d then 0 else 5))) := by
  refine sound_of_W Try.func22 rfl (by decide +kernel) (by simp [Try.f22]) rfl rfl (rs := [.tmp 2]) rfl ?_
  rw [show Try.f22.ntmps = 5 from rfl]
  refine W_evK [1] (by simp; rfl) ?_
  refine W_seq ?_
  refine W_rK [4] ?_
  refine runA_pre 1 (by simp; rfl) rfl ?_
  refine runA_call (by simp) (by first | (simp; done) | (simp; rfl)) (valid_sound d) (by simp; rfl) ?_
  refine runA_fin (by simp; rfl) ?_
  rcases Bool.eq_false_or_eq_true (validM d) with h1 | h1
  · skip
    refine W_cond (by simp [h1]; rfl) (fun _ => ?_) (fun hx => by simp [h1] at hx)
    refine W_evK [2] (by simp [h1]; rfl) ?_
    refine W_ret ?_
    repeat (first | refine on_ret ?_ | refine in_ret ?_)
    simp [retQ, h1]
  · skip
    refine W_cond (by simp [h1]; rfl) (fun hx => by simp [h1] at hx) (fun _ => ?_)
    refine W_skip ?_
    refine W_evK [2] (by simp [h1]; rfl) ?_
    refine W_ret ?_
    repeat (first | refine on_ret ?_ | refine in_ret ?_)
    simp [retQ, h1]

theorem rfits_sound (d : Dcb) (r : List UInt8) : Sound Try.prog 24 [dcbA d, .lst .any 1 (byL r)] (.v (.bool (rfitsM d r.length))) := by
  refine sound_of_W Try.func24 rfl (by decide +kernel) (by simp [Try.f24]) rfl rfl (rs := [.tmp 4]) rfl ?_
  rw [show Try.f24.ntmps = 30 from rfl]
  refine W_evK [1, 2] (by simp; rfl) ?_
  refine W_seq ?_
  refine W_rK [1, 2, 7] ?_
  refine runA_pre 1 (by simp; rfl) rfl ?_
  refine runA_call (by simp) (by first | (simp; done) | (simp; rfl)) (valid_sound d) (by simp; rfl) ?_
  refine runA_fin (by simp; rfl) ?_
  rcases Bool.eq_false_or_eq_true (validM d) with h1 | h1
  · skip
    refine W_cond (by simp [h1]; rfl) (fun hx => by simp [h1] at hx) (fun _ => ?_)
    refine W_skip ?_
    refine W_seq ?_
    refine W_evK [1, 2, 9] (by simp [h1]; rfl) ?_
    refine W_block ?_
    refine W_evK [1, 2, 9, 10] (by simp [h1]; rfl) ?_
    rcases Bool.eq_false_or_eq_true (d.fmt == 1) with h2 | h2
    · skip
      have h2n : (d.fmt != 1) = false := by simp only [bne, h2]; rfl
      have h2p : d.fmt = 1 := by simpa using h2
      refine W_cond (by simp [h1, h2, h2n, h2p]; rfl) (fun _ => ?_) (fun hx => by simp [h1, h2, h2n, h2p] at hx)
      refine W_evK [4] (by simp [h1, h2, h2n, h2p]; rfl) ?_
      refine W_ret ?_
      repeat (first | refine on_ret ?_ | refine in_ret ?_)
      simp [retQ, rfitsM, h1, h2, h2n, h2p]
    · skip
      have h2n : (d.fmt != 1) = true := by simp only [bne, h2]; rfl
      have h2p : ¬ d.fmt = 1 := by simpa using h2
      refine W_cond (by simp [h1, h2, h2n, h2p]; rfl) (fun hx => by simp [h1, h2, h2n, h2p] at hx) (fun _ => ?_)
      refine W_evK [1, 2, 17] (by simp [h1, h2, h2n, h2p]; rfl) ?_
      rcases Bool.eq_false_or_eq_true (d.fmt == 2) with h3 | h3
      · skip
        have h3n : (d.fmt != 2) = false := by simp only [bne, h3]; rfl
        have h3p : d.fmt = 2 := by simpa using h3
        refine W_cond (by simp [h1, h2, h2n, h2p, h3, h3n, h3p]; rfl) (fun _ => ?_) (fun hx => by simp [h1, h2, h2n, h2p, h3, h3n, h3p] at hx)
        refine W_rK [4] ?_
        refine runA_pre 5 (by simp [h1, h2, h2n, h2p, h3, h3n, h3p]; rfl) rfl ?_
        refine runA_call (by simp) (by first | (simp; done) | (simp; rfl)) (in_sound (r.length : Int) 1 (IntKind.i64.wrap (d.lrecl - 4))) (by simp; rfl) ?_
        refine runA_fin (by simp [h1, h2, h2n, h2p, h3, h3n, h3p]; rfl) ?_
        refine W_ret ?_
        repeat (first | refine on_ret ?_ | refine in_ret ?_)
        simp [retQ, rfitsM, h1, h2, h2n, h2p, h3, h3n, h3p]
      · skip
        have h3n : (d.fmt != 2) = true := by simp only [bne, h3]; rfl
        have h3p : ¬ d.fmt = 2 := by simpa using h3
        refine W_cond (by simp [h1, h2, h2n, h2p, h3, h3n, h3p]; rfl) (fun hx => by simp [h1, h2, h2n, h2p, h3, h3n, h3p] at hx) (fun _ => ?_)
        refine W_skip ?_
        refine W_rK [4] ?_
        refine runA_pre 4 (by simp [h1, h2, h2n, h2p, h3, h3n, h3p]; rfl) rfl ?_
        refine runA_call (by simp) (by first | (simp; done) | (simp; rfl)) (in_sound (r.length : Int) 1 d.size) (by simp; rfl) ?_
        refine runA_fin (by simp [h1, h2, h2n, h2p, h3, h3n, h3p]; rfl) ?_
        refine W_ret ?_
        repeat (first | refine on_ret ?_ | refine in_ret ?_)
        simp [retQ, rfitsM, h1, h2, h2n, h2p, h3, h3n, h3p]
  · skip
    refine W_cond (by simp [h1]; rfl) (fun _ => ?_) (fun hx => by simp [h1] at hx)
    refine W_evK [4] (by simp [h1]; rfl) ?_
    refine W_ret ?_
    repeat (first | refine on_ret ?_ | refine in_ret ?_)
    simp [retQ, rfitsM, h1]

theorem Fits_sound (d : Dcb) (r : List UInt8) : Sound Try.prog 23 [dcbA d, .lst .any 1 (byL r)] (.v (.bool (decide (checkM d = 0) && fitsM d r.length))) := by
  refine sound_of_W Try.func23 rfl (by decide +kernel) (by simp [Try.f23]) rfl rfl (rs := [.tmp 4]) rfl ?_
  rw [show Try.f23.ntmps = 14 from rfl]
  refine W_evK [1, 2] (by simp; rfl) ?_
  rcases Bool.eq_false_or_eq_true ((checkM d) == 0) with h1 | h1
  · skip
    have h1n : ((checkM d) != 0) = false := by simp only [bne, h1]; rfl
    have h1p : (checkM d) = 0 := by simpa using h1
    refine W_rK [4] ?_
    refine runA_pre 1 (by simp [h1, h1n, h1p]; rfl) rfl ?_
    refine runA_call (by simp) (by first | (simp; done) | (simp; rfl)) (check_sound d) (by simp; rfl) ?_
    refine runA_pre 5 (by simp [h1, h1n, h1p]; rfl) rfl ?_
    refine runA_call (by simp) (by first | (simp; done) | (simp; rfl)) (fits_sound d (r.length : Int)) (by simp; rfl) ?_
    refine runA_fin (by simp [h1, h1n, h1p]; rfl) ?_
    refine W_ret ?_
    repeat (first | refine on_ret ?_ | refine in_ret ?_)
    simp [retQ, h1, h1n, h1p]
  · skip
    have h1n : ((checkM d) != 0) = true := by simp only [bne, h1]; rfl
    have h1p : ¬ (checkM d) = 0 := by simpa using h1
    refine W_rK [4] ?_
    refine runA_pre 1 (by simp [h1, h1n, h1p]; rfl) rfl ?_
    refine runA_call (by simp) (by first | (simp; done) | (simp; rfl)) (check_sound d) (by simp; rfl) ?_
    refine runA_fin (by simp [h1, h1n, h1p]; rfl) ?_
    refine W_ret ?_
    repeat (first | refine on_ret ?_ | refine in_ret ?_)
    simp [retQ, h1, h1n, h1p]

end Go.AM
