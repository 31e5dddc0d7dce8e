/- The laws' arguments: records, tracks, lists of tracks. -/
import Derived.Test.YtknlmgnfflfpeaaP22T
import Derived.Test.YtknlmgnfflfpeaaC23A
namespace Go.AM
open Go.RowKit Go.Proofs
set_option linter.unusedSimpArgs false
set_option linter.unusedVariables false
set_option maxHeartbeats 1000000

def recOk (r : Rec) : Prop := -9223372036854775808 ≤ r.R ∧ r.R ≤ 9223372036854775807 ∧ r.key.length ≤ 140737488351232 ∧ r.data.length ≤ 140737488351232
theorem un_26 : Try.prog.underlying 26 = some (.slice 46) := by kernel_rfl
theorem un_46 : Try.prog.underlying 46 = some (.slice 49) := by kernel_rfl
theorem ce46 : Try.prog.cellsOf 46 = 1 := by kernel_rfl
theorem ce49 : Try.prog.cellsOf 49 = 4 := by kernel_rfl
theorem be5 : Try.prog.bytesOf 5 = 1 := by kernel_rfl
theorem fl49 : flds Try.prog 49 = some [(3, 0, 1), (47, 1, 1), (47, 2, 1), (4, 3, 1)] := by kernel_rfl
theorem ty_rec {n : Nat} {x : AV} (h : TyV Try.prog (n + 3) 49 x) : ∃ r : Rec, x.dp = recA r ∧ recOk r := by
  obtain ⟨ys, rfl, hl, hf⟩ := ty_struct fl49 ce49 h
  match ys, hl, hf with
  | [a, b, c, d], _, hf =>
    obtain ⟨m, rfl, h1, h2⟩ := ty_int un_3 (ty_fld (by kernel_rfl) (hf (3, 0, 1) (by simp)))
    obtain ⟨o, l, rfl, _, h3⟩ := ty_bytes un_47 un_5 ce5 (ty_fld (by kernel_rfl) (hf (47, 1, 1) (by simp)))
    obtain ⟨o', l', rfl, _, h4⟩ := ty_bytes un_47 un_5 ce5 (ty_fld (by kernel_rfl) (hf (47, 2, 1) (by simp)))
    obtain ⟨q, rfl⟩ := ty_bool un_4 (ty_fld (by kernel_rfl) (hf (4, 3, 1) (by simp)))
    rw [min64] at h1
    rw [max64] at h2
    rw [be5, Nat.mul_one] at h3 h4
    refine ⟨⟨m, l, l', q⟩, ?_, h1, h2, h3, h4⟩
    have e : ∀ l : List UInt8, AV.dpL (l.map fun b : UInt8 => AV.v (.int .u8 b.toNat)) = byL l := fun l => dpL_byL l
    simp [AV.dp, AV.dpL, e, recA]
theorem ty_track {n : Nat} {x : AV} (h : TyV Try.prog (n + 4) 46 x) : ∃ t : List Rec, x.dp = .lst .any 4 (trL t) ∧ t.length ≤ maxLen ∧ ∀ r ∈ t, recOk r := by
  obtain ⟨o, l, rfl, hl, _, hy⟩ := ty_slice un_46 h
  obtain ⟨bs, h1, h2, h3⟩ := dpL_choose (F := recA) (Q := recOk) fun y hm => ty_rec (hy y hm)
  exact ⟨bs, by simp only [AV.dp, h1, ce49]; rfl, by rw [h2]; exact hl, h3⟩
theorem ty_area {n : Nat} {x : AV} (h : TyV Try.prog (n + 5) 26 x) : ∃ a : List (List Rec), x.dp = .lst .any 1 (arL a) ∧ a.length ≤ maxLen ∧ ∀ t ∈ a, t.length ≤ maxLen ∧ ∀ r ∈ t, recOk r := by
  obtain ⟨o, l, rfl, hl, _, hy⟩ := ty_slice un_26 h
  obtain ⟨bs, h1, h2, h3⟩ := dpL_choose (F := fun t => AV.lst .any 4 (trL t)) (Q := fun t => t.length ≤ maxLen ∧ ∀ r ∈ t, recOk r) fun y hm => ty_track (hy y hm)
  exact ⟨bs, by simp only [AV.dp, h1, ce46]; rfl, by rw [h2]; exact hl, h3⟩
end Go.AM
