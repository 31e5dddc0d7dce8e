/- Number: text. -/
import Derived.Test.YtnakpjnigfpkpaaC05N4
namespace Go.AM
open Go.RowKit Go.Proofs
set_option linter.unusedSimpArgs false
set_option linter.unusedVariables false
set_option maxHeartbeats 1000000

def textP (l : List Int) (fr : Int) (fill : UInt8) (n : Nat) : List UInt8 := (List.range n).map fun (i : Nat) => if fr ≤ (i : Int) then UInt8.ofNat (240 + (l[i]?).getD 0).toNat else fill
theorem textP_next (l : List Int) (fr : Int) (fill : UInt8) (n : Nat) : textP l fr fill (n + 1) = textP l fr fill n ++ [if fr ≤ (n : Int) then UInt8.ofNat (240 + (l[n]?).getD 0).toNat else fill] := by simp [textP, List.range_succ]
@[simp] theorem textP_len (l : List Int) (fr : Int) (fill : UInt8) (n : Nat) : (textP l fr fill n).length = n := by simp [textP]
def behP (behind : Bool) (fill : UInt8) (t : List UInt8) : List UInt8 := if behind then t else List.replicate t.length fill
@[simp] theorem behP_len (behind : Bool) (fill : UInt8) (t : List UInt8) : (behP behind fill t).length = t.length := by unfold behP; split <;> simp
def textM (fill : UInt8) (fr : Int) (behind : Bool) (ds tl : List UInt8) : List UInt8 := (fill :: textP (digM ds) fr fill (digM ds).length) ++ behP behind fill (tailM tl)

theorem text_sound (ds : List UInt8) (neg : Bool) (tl : List UInt8) (fill : UInt8) (fr : Int) (behind : Bool) : Sound Try.prog 21 [numA ds neg tl, .v (.int .u8 fill.toNat), .v (.int .i64 fr), .v (.bool behind)] (.lst (.tip 5 1) 1 (byL (textM fill fr behind ds tl))) := by
  refine sound_of_N Try.func21 rfl (by decide +kernel) (by simp [Try.f21]) rfl rfl (rs := [.tmp 8]) rfl ?_
  rw [show Try.f21.ntmps = 61 from rfl]
  have hlen := digM_len ds
  have htl := tailM_len tl
  have hrng := digM_range ds
  refine W_evK [1, 2, 3, 4] (by simp; rfl) ?_
  refine W_evK [1, 2, 3, 4, 9] (by simp; rfl) ?_
  refine W_rK [1, 2, 3, 4, 9, 10] ?_
  refine runA_pre 1 (by simp; rfl) rfl ?_
  refine runA_call (by simp) (by simp; rfl) (digits_sound ds neg tl) (by simp; rfl) ?_
  refine runA_fin (by simp; rfl) ?_
  refine W_seq ?_
  refine W_evK [1, 2, 3, 4, 9, 10, 11] (by simp; rfl) ?_
  refine W_block ?_
  refine W_loop (fun k s => ∃ i : Nat, k = (digM ds).length - i ∧ i ≤ (digM ds).length ∧ s = ⟨61, [(1, .v (.int .u8 fill.toNat)), (2, .v (.int .i64 fr)), (3, .v (.bool behind)), (4, .loc 0 0), (9, .lst (.tip 5 31) 1 (byL (fill :: textP (digM ds) fr fill i))), (10, .lst (.tip 3 35) 1 (inL (digM ds))), (11, .v (.int .i64 i))], [.cells 37 [.lst .any 1 (byL ds), .v (.bool neg), .lst .any 1 (byL tl)]]⟩) (k := (digM ds).length) ⟨0, rfl, by omega, by simp [textP, byL_cons]⟩ ?_
  rintro k s ⟨i, rfl, hi, rfl⟩
  refine W_seq ?_
  by_cases h1 : i < (digM ds).length
  · have h1' : (i : Int) < (digM ds).length := by omega
    have hcap : i + 1 + 1 ≤ 140737488355328 := by omega
    have hnx := textP_next (digM ds) fr fill i
    have hw : IntKind.i64.wrap ((i : Int) + 1) = (i + 1 : Nat) := w64 (by omega) (by omega)
    obtain ⟨d, hd⟩ : ∃ d, (digM ds)[i]? = some d := ⟨_, List.getElem?_eq_getElem h1⟩
    have hg : (digM ds)[i] = d := (List.getElem?_eq_some_iff.1 hd).2
    have hdr := hrng d (List.mem_of_getElem? hd)
    have hm1 : IntKind.i64.wrap (240 + d) = 240 + d := w64 (by omega) (by omega)
    have hm2 : IntKind.u8.wrap (240 + d) = 240 + d := wu8 (by omega) (by omega)
    have hby : AV.v (.int .u8 (240 + d)) = .v (.int .u8 ((UInt8.ofNat (240 + d).toNat).toNat : Nat)) := by
      congr 2
      rw [UInt8.toNat_ofNat']; omega
    refine W_evK [1, 2, 3, 4, 9, 10, 11, 21] (by simp [h1, h1']; rfl) ?_
    refine W_cond rfl (fun h => ?_) (fun h => by cases h)
    refine W_skip ?_
    refine W_seq ?_
    refine W_block ?_
    by_cases he : fr ≤ (i : Int)
    · rw [if_pos he, hd] at hnx
      refine W_evK [1, 2, 3, 4, 9, 10, 11, 26] (by simp [he]; rfl) ?_
      refine W_cond rfl (fun h => ?_) (fun h => by cases h)
      refine W_evE [1, 2, 3, 4, 9, 10, 11] (by simp [h1, hg, hm1, hm2, hcap]; rfl) ?_
      refine W_evE [1, 2, 3, 4, 9, 10, 11] (by simp; rfl) ?_
      refine ⟨_, by omega, i + 1, rfl, by omega, ?_⟩
      rw [hnx, byL_cons, byL_cons, byL_append, hw, Option.getD_some, byL_cons, byL_nil, ← hby]; rfl
    · rw [if_neg he] at hnx
      refine W_evK [1, 2, 3, 4, 9, 10, 11, 26] (by simp [he]; rfl) ?_
      refine W_cond rfl (fun h => by cases h) (fun h => ?_)
      refine W_evE [1, 2, 3, 4, 9, 10, 11] (by simp [hcap]; rfl) ?_
      refine W_evE [1, 2, 3, 4, 9, 10, 11] (by simp; rfl) ?_
      refine ⟨_, by omega, i + 1, rfl, by omega, ?_⟩
      rw [hnx, byL_cons, byL_cons, byL_append, hw]; rfl
  have h1' : ¬ (i : Int) < (digM ds).length := by omega
  have hie : i = (digM ds).length := by omega
  subst hie
  refine W_evK [1, 2, 3, 4, 9, 10, 11, 21] (by simp; rfl) ?_
  refine W_cond rfl (fun h => by cases h) (fun h => ?_)
  refine W_exit ?_
  refine W_rK [1, 3, 9, 12] ?_
  refine runA_pre 1 (by simp; rfl) rfl ?_
  refine runA_call (by simp) (by simp; rfl) (tail_sound ds neg tl) (by simp; rfl) ?_
  refine runA_fin (by simp; rfl) ?_
  refine W_seq ?_
  refine W_evK [1, 3, 9, 12, 13] (by simp; rfl) ?_
  refine W_block ?_
  obtain ⟨a, ha⟩ : ∃ a, a = fill :: textP (digM ds) fr fill (digM ds).length := ⟨_, rfl⟩
  have hal : a.length ≤ 101 := by rw [ha]; simp; omega
  rw [← ha]
  obtain ⟨t, ht⟩ : ∃ t, t = tailM tl := ⟨_, rfl⟩
  unfold textM
  rw [← ht, ← ha]
  rw [← ht] at htl
  refine W_loop (fun k s => ∃ i : Nat, k = t.length - i ∧ i ≤ t.length ∧ s = ⟨61, [(1, .v (.int .u8 fill.toNat)), (3, .v (.bool behind)), (9, .lst (.tip 5 31) 1 (byL (a ++ behP behind fill (t.take i)))), (12, .lst .any 1 (byL t)), (13, .v (.int .i64 i))], [.cells 37 [.lst .any 1 (byL ds), .v (.bool neg), .lst .any 1 (byL tl)]]⟩) (k := t.length) ⟨0, rfl, by omega, by simp [behP]⟩ ?_
  rintro k s ⟨i, rfl, hi, rfl⟩
  refine W_seq ?_
  by_cases h1 : i < t.length
  · have h1' : (i : Int) < t.length := by omega
    have hcap : a.length + i + 1 ≤ 140737488355328 := by omega
    have hcap' : (a ++ behP behind fill (t.take i)).length + 1 ≤ 140737488355328 := by simp; omega
    have hw : IntKind.i64.wrap ((i : Int) + 1) = (i + 1 : Nat) := w64 (by omega) (by omega)
    obtain ⟨d, hd⟩ : ∃ d, t[i]? = some d := ⟨_, List.getElem?_eq_getElem h1⟩
    have hg : t[i] = d := (List.getElem?_eq_some_iff.1 hd).2
    have htn := take_next hd
    have hnx : behP behind fill (t.take (i + 1)) = behP behind fill (t.take i) ++ [if behind then d else fill] := by
      rw [htn]; cases behind <;> simp [behP, List.replicate_succ']
    generalize hu : behP behind fill (t.take i) = u at *
    refine W_evK [1, 3, 9, 12, 13, 45] (by simp [h1, h1']; rfl) ?_
    refine W_cond rfl (fun h => ?_) (fun h => by cases h)
    refine W_skip ?_
    refine W_seq ?_
    refine W_block ?_
    refine W_evK [1, 3, 9, 12, 13, 48] (by simp; rfl) ?_
    cases behind with
    | true =>
      refine W_cond rfl (fun h => ?_) (fun h => by cases h)
      refine W_evE [1, 3, 9, 12, 13] (by simp [h1, hg, show a.length + u.length + 1 ≤ 140737488355328 by simpa using hcap']; rfl) ?_
      refine W_evE [1, 3, 9, 12, 13] (by simp; rfl) ?_
      refine ⟨_, by omega, i + 1, rfl, by omega, ?_⟩
      rw [hnx, hw]; simp [byL_append, byL_cons]
    | false =>
      refine W_cond rfl (fun h => by cases h) (fun h => ?_)
      refine W_evE [1, 3, 9, 12, 13] (by simp [h1, show a.length + u.length + 1 ≤ 140737488355328 by simpa using hcap']; rfl) ?_
      refine W_evE [1, 3, 9, 12, 13] (by simp; rfl) ?_
      refine ⟨_, by omega, i + 1, rfl, by omega, ?_⟩
      rw [hnx, hw]; simp [byL_append, byL_cons]
  have hie : i = t.length := by omega
  subst hie
  refine W_evK [1, 3, 9, 12, 13, 45] (by simp; rfl) ?_
  refine W_cond rfl (fun h => by cases h) (fun h => ?_)
  refine W_exit ?_
  refine W_evK [8] (by simp; rfl) ?_
  refine W_ret ?_
  exact ⟨_, by simp [retQ]; exact ⟨rfl, by simp⟩, .inl fun T => by simp [AV.norm]⟩
end Go.AM
