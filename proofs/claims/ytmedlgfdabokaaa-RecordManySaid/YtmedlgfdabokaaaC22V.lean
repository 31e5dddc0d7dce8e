/- RecordMany: what Block and Unblock give for many records of one byte. -/
import Derived.Test.YtmedlgfdabokaaaC22PB
namespace Go.AM
open Go.RowKit Go.Proofs
set_option linter.unusedSimpArgs false
set_option linter.unusedVariables false
set_option maxHeartbeats 1000000

def d1 : Dcb := ⟨1, 1, true, false, 1, 1024, 0, 0⟩
theorem d1_ok : checkM d1 = 0 := by decide
theorem d1_fit : fitsM d1 1 = true := by decide

def full (x : UInt8) : List UInt8 := List.replicate 1024 x
theorem full_length (x : UInt8) : (full x).length = 1024 := List.length_replicate
theorem full_eq (x : UInt8) : List.replicate 1024 x = full x := rfl
def fullG (x : UInt8) : List (List UInt8) := List.replicate 1024 [x]
theorem fullG_length (x : UInt8) : (fullG x).length = 1024 := List.length_replicate

def bl (x : UInt8) (i : Nat) : List (List UInt8) := if i = 0 then [] else List.replicate ((i - 1) / 1024) (full x) ++ [List.replicate ((i - 1) % 1024 + 1) x]
theorem bl_zero (x : UInt8) : bl x 0 = [] := rfl
theorem bl_length (x : UInt8) (i : Nat) : (bl x i).length = if i = 0 then 0 else (i - 1) / 1024 + 1 := by
  unfold bl
  split <;> simp
theorem bl_ne {x : UInt8} {i : Nat} (h : 0 < i) : bl x i ≠ [] := by
  unfold bl
  rw [if_neg (by omega)]
  simp

theorem bl_new (x : UInt8) {i : Nat} (h : i % 1024 = 0) : bl x (i + 1) = bl x i ++ [[x]] := by
  unfold bl
  rw [if_neg (by omega)]
  by_cases h0 : i = 0
  · subst h0; simp
  · rw [if_neg h0]
    have e1 : (i + 1 - 1) / 1024 = (i - 1) / 1024 + 1 := by omega
    have e2 : (i + 1 - 1) % 1024 = 0 := by omega
    have e3 : (i - 1) % 1024 + 1 = 1024 := by omega
    rw [e1, e2, e3, full_eq, List.replicate_succ']
    simp

theorem bl_more (x : UInt8) {i : Nat} (h : i % 1024 ≠ 0) : bl x (i + 1) = List.replicate ((i - 1) / 1024) (full x) ++ [List.replicate ((i - 1) % 1024 + 1) x ++ [x]] := by
  unfold bl
  rw [if_neg (by omega)]
  have e1 : (i + 1 - 1) / 1024 = (i - 1) / 1024 := by omega
  have e2 : (i + 1 - 1) % 1024 = (i - 1) % 1024 + 1 := by omega
  rw [e1, e2, ← List.replicate_succ']
theorem bl_last (x : UInt8) {i : Nat} (h : 0 < i) : bl x i = List.replicate ((i - 1) / 1024) (full x) ++ [List.replicate ((i - 1) % 1024 + 1) x] := by
  unfold bl; rw [if_neg (by omega)]
def og (x : UInt8) (i : Nat) : List (List UInt8) × List UInt8 := if i = 0 then ([], []) else (List.replicate ((i - 1) / 1024) (full x), List.replicate ((i - 1) % 1024 + 1) x)
theorem go_many (x : UInt8) : ∀ (n i : Nat), goB d1 (List.replicate n [x]) (og x i).1 (og x i).2 = some (og x (i + n))
  | 0, i => by simp [goB]
  | n + 1, i => by
    rw [List.replicate_succ, goB]
    have hf : fitsM d1 (([x] : List UInt8).length : Nat) = true := d1_fit
    rw [hf]
    simp only [Bool.true_eq_false, if_false]
    have hh : ∀ B, headB d1 B [x] = B := fun B => rfl
    have hfl : ∀ O B, B ≠ [] → flushM d1 O B = O ++ [B] := fun O B h => by unfold flushM; rw [if_neg h]; rfl
    have hlen : ∀ B : List UInt8, fullM d1 B [x] = decide (1024 < B.length + 1) := fun B => by
      unfold fullM
      have : lenM d1 [x] = 1 := rfl
      rw [this]
      simp only [d1, Bool.not_true, Bool.false_or]
      congr 1
      simp
      omega
    rw [hlen, hh, hh]
    have ih := go_many x n (i + 1)
    rw [show i + (n + 1) = i + 1 + n by omega, ← ih]
    by_cases h0 : i = 0
    · subst h0
      simp [og]
    · by_cases hm : i % 1024 = 0
      · have e3 : (i - 1) % 1024 + 1 = 1024 := by omega
        have e1 : (i + 1 - 1) / 1024 = (i - 1) / 1024 + 1 := by omega
        have e2 : (i + 1 - 1) % 1024 = 0 := by omega
        have hB : (og x i).2 = full x := by unfold og; rw [if_neg h0]; simp only [e3]; rfl
        rw [hB, if_pos (by rw [full_length]; decide), hfl _ _ (fun h => by have := full_length x; rw [h] at this; simp at this)]
        have : og x (i + 1) = ((og x i).1 ++ [full x], [x]) := by
          unfold og
          rw [if_neg (by omega), if_neg h0, e1, e2, List.replicate_succ']
          rfl
        rw [this]
        rfl
      · have e1 : (i + 1 - 1) / 1024 = (i - 1) / 1024 := by omega
        have e2 : (i + 1 - 1) % 1024 = (i - 1) % 1024 + 1 := by omega
        have hB : (og x i).2.length < 1024 := by unfold og; rw [if_neg h0]; simp; omega
        rw [if_neg (by simp; omega)]
        have : og x (i + 1) = ((og x i).1, (og x i).2 ++ [x]) := by
          unfold og
          rw [if_neg (by omega), if_neg h0, e1, e2, ← List.replicate_succ']
        rw [this]
theorem block_many (x : UInt8) {n : Nat} (hn : 0 < n) : blockM d1 (List.replicate n [x]) = if 4096 < n then ([], 2) else (bl x n, 0) := by
  unfold blockM
  rw [if_pos d1_ok, List.length_replicate]
  split
  · rfl
  · have := go_many x n 0
    rw [show (og x 0) = ([], []) from rfl, Nat.zero_add] at this
    rw [this]
    have e : og x n = (List.replicate ((n - 1) / 1024) (full x), List.replicate ((n - 1) % 1024 + 1) x) := by unfold og; rw [if_neg (by omega)]
    rw [e]
    simp only [finB]
    unfold flushM
    rw [if_neg (by simp), bl_last x hn]
    rfl
def gr (x : UInt8) (i : Nat) : List (List (List UInt8)) := List.replicate ((i - 1) / 1024) (fullG x) ++ [List.replicate ((i - 1) % 1024 + 1) [x]]
theorem enc_rep (x : UInt8) (k : Nat) : enc d1 (List.replicate k [x]) = List.replicate k x := by
  show (List.map (item d1) (List.replicate k [x])).flatten = _
  rw [List.map_replicate, show item d1 [x] = [x] from rfl]
  induction k with
  | zero => rfl
  | succ k ih => rw [List.replicate_succ, List.flatten_cons, ih, List.replicate_succ]; rfl
theorem gr_enc (x : UInt8) {n : Nat} (hn : 0 < n) : (gr x n).map (enc d1) = bl x n := by
  rw [bl_last x hn, gr, List.map_append, List.map_replicate, show enc d1 (fullG x) = full x from enc_rep x 1024]
  simp [enc_rep]
theorem rep_ok (x : UInt8) {k : Nat} (h0 : 0 < k) (h1 : k ≤ 1024) : GroupOk d1 (List.replicate k [x]) where
  ne := by simp; omega
  fit := fun r hr => by rw [List.eq_of_mem_replicate hr]; exact d1_fit
  len := by rw [enc_rep]; simp [d1]; omega
  one := fun h => by cases h
theorem gr_ok (x : UInt8) (n : Nat) : ∀ g ∈ gr x n, GroupOk d1 g := fun g hg => by
  rcases List.mem_append.1 hg with h | h
  · rw [List.eq_of_mem_replicate h]; exact rep_ok x (k := 1024) (by omega) (by omega)
  · rw [List.mem_singleton.1 h]; exact rep_ok x (by omega) (by omega)
theorem gr_len (x : UInt8) {n : Nat} (hn : 0 < n) : (gr x n).flatten.length = n := by
  unfold gr
  have : ∀ m, ((List.replicate m (fullG x)).flatten).length = m * 1024 := fun m => by
    induction m with
    | zero => rfl
    | succ m ih => rw [List.replicate_succ, List.flatten_cons, List.length_append, ih, fullG_length]; omega
  rw [List.flatten_append, List.length_append, this]
  simp
  omega
theorem unb_many (x : UInt8) {n : Nat} (hn : 0 < n) : ∃ l : List (List UInt8), unbM d1 (bl x n) = (if 4096 < n then ([], 2) else (l, 0)) ∧ l.length = n := by
  refine ⟨(gr x n).flatten, ?_, gr_len x hn⟩
  unfold unbM
  rw [if_pos d1_ok, ← gr_enc x hn, unbGo_enc d1_ok _ [] (gr_ok x n)]
  simp only [List.nil_append, finU, gr_len x hn]
theorem unbGo_app {d : Dcb} (hc : checkM d = 0) (s : List (List UInt8)) : ∀ (gs : List (List (List UInt8))) (O : List (List UInt8)), (∀ g ∈ gs, GroupOk d g) → unbGo d (gs.map (enc d) ++ s) O = unbGo d s (O ++ gs.flatten)
  | [], O, _ => by simp
  | g :: gs, O, h => by
    have hg := h g (by simp)
    have hne : g.length ≠ 0 := fun e => hg.ne (List.eq_nil_of_length_eq_zero e)
    rw [List.map_cons, List.cons_append, unbGo, split_enc hc hg]
    have hst : unbStep d O.length (O ++ g, true) = false := by
      unfold unbStep
      have e1 : ((O ++ g).length == O.length) = false := by rw [List.length_append]; exact beq_false_of_ne (by omega)
      rw [e1]
      cases hb : d.blk with
      | true => rfl
      | false =>
        have := hg.one hb
        simp
        omega
    rw [hst]
    simp only [Bool.false_eq_true, if_false]
    rw [unbGo_app hc s gs (O ++ g) fun x hx => h x (by simp [hx])]
    simp
theorem unb_bad (x : UInt8) {n : Nat} (hn : 0 < n) : unbM d1 (bl x n ++ [[]]) = ([], 220) := by
  unfold unbM
  rw [if_pos d1_ok, ← gr_enc x hn, unbGo_app d1_ok _ _ [] (gr_ok x n)]
  rw [unbGo]
  have : ∀ O, splitM d1 [] O = (O, true) := fun O => by simp [splitM, d1, splitGo]
  rw [this]
  simp [unbStep, finU]
theorem block_none (l : List (List UInt8)) : blockM ⟨0, 0, false, false, 0, 0, 0, 0⟩ l = ([], 5) := by
  unfold blockM
  rw [if_neg (by decide)]
  rfl
end Go.AM
