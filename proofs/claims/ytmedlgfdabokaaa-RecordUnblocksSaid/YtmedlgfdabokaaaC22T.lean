/- The laws' arguments. -/
import Derived.Test.YtmedlgfdabokaaaC22L
import Derived.Test.YtmedlgfdabokaaaAmC
namespace Go.AM
open Go.RowKit Go.Proofs
set_option linter.unusedSimpArgs false
set_option linter.unusedVariables false
set_option maxHeartbeats 1000000

section
variable {P : Program}
theorem ty_slice {n : Nat} {t e : TypeId} {x : AV} (hu : P.underlying t = some (.slice e)) (h : TyV P (n + 1) t x) : ∃ o l, x = .lst o (P.cellsOf e) l ∧ l.length ≤ maxLen ∧ l.length * P.bytesOf e ≤ 140737488351232 ∧ ∀ y ∈ l, TyV P n e y := by
  rcases h with ⟨h1, _⟩ | ⟨_, h⟩
  · simp [isSt, hu] at h1
  · simp only [TyC, hu] at h
    obtain ⟨o, l, hl, hmax, _, _, hx⟩ := h
    simp only [List.cons.injEq, and_true] at hl
    exact ⟨o, l, hl, hmax.1, hmax.2, hx⟩
theorem dpL_choose {β : Type} {F : β → AV} {Q : β → Prop} : ∀ {l : List AV}, (∀ y ∈ l, ∃ b, y.dp = F b ∧ Q b) → ∃ bs : List β, AV.dpL l = bs.map F ∧ bs.length = l.length ∧ ∀ b ∈ bs, Q b
  | [], _ => ⟨[], rfl, rfl, by simp⟩
  | y :: l, h => by
    obtain ⟨b, h1, h2⟩ := h y (by simp)
    obtain ⟨bs, k1, k2, k3⟩ := dpL_choose (l := l) fun y hy => h y (by simp [hy])
    refine ⟨b :: bs, by simp [AV.dpL, h1, k1], by simp [k2], fun c hc => ?_⟩
    rcases List.mem_cons.1 hc with rfl | hc
    · exact h2
    · exact k3 c hc
end
theorem un_3 : Try.prog.underlying 3 = some (.int .i64) := by kernel_rfl
theorem un_4 : Try.prog.underlying 4 = some .bool := by kernel_rfl
theorem un_5 : Try.prog.underlying 5 = some (.int .u8) := by kernel_rfl
theorem un_24 : Try.prog.underlying 24 = some (.slice 35) := by kernel_rfl
theorem un_35 : Try.prog.underlying 35 = some (.slice 5) := by kernel_rfl
theorem ce5 : Try.prog.cellsOf 5 = 1 := by kernel_rfl
theorem ce35 : Try.prog.cellsOf 35 = 1 := by kernel_rfl
theorem ce23 : Try.prog.cellsOf 23 = 8 := by kernel_rfl
theorem fl23 : flds Try.prog 23 = some [(3, 0, 1), (3, 1, 1), (4, 2, 1), (4, 3, 1), (3, 4, 1), (3, 5, 1), (3, 6, 1), (3, 7, 1)] := by kernel_rfl
theorem min64 : IntKind.i64.min = -9223372036854775808 := by decide +kernel
theorem max64 : IntKind.i64.max = 9223372036854775807 := by decide +kernel
def dcbOk (d : Dcb) : Prop := ∀ x ∈ [d.org, d.fmt, d.lrecl, d.size, d.klen, d.kpos], -9223372036854775808 ≤ x ∧ x ≤ 9223372036854775807
theorem ty_dcb {n : Nat} {x : AV} (h : TyV Try.prog (n + 3) 23 x) : ∃ d : Dcb, x.dp = dcbA d ∧ dcbOk d := by
  obtain ⟨ys, rfl, hl, hf⟩ := ty_struct fl23 ce23 h
  match ys, hl, hf with
  | [a, b, c, d, e, f, g, i], _, hf =>
    obtain ⟨m0, rfl, p0, q0⟩ := ty_int un_3 (ty_fld (by kernel_rfl) (hf (3, 0, 1) (by simp)))
    obtain ⟨m1, rfl, p1, q1⟩ := ty_int un_3 (ty_fld (by kernel_rfl) (hf (3, 1, 1) (by simp)))
    obtain ⟨b2, rfl⟩ := ty_bool un_4 (ty_fld (by kernel_rfl) (hf (4, 2, 1) (by simp)))
    obtain ⟨b3, rfl⟩ := ty_bool un_4 (ty_fld (by kernel_rfl) (hf (4, 3, 1) (by simp)))
    obtain ⟨m4, rfl, p4, q4⟩ := ty_int un_3 (ty_fld (by kernel_rfl) (hf (3, 4, 1) (by simp)))
    obtain ⟨m5, rfl, p5, q5⟩ := ty_int un_3 (ty_fld (by kernel_rfl) (hf (3, 5, 1) (by simp)))
    obtain ⟨m6, rfl, p6, q6⟩ := ty_int un_3 (ty_fld (by kernel_rfl) (hf (3, 6, 1) (by simp)))
    obtain ⟨m7, rfl, p7, q7⟩ := ty_int un_3 (ty_fld (by kernel_rfl) (hf (3, 7, 1) (by simp)))
    rw [min64] at p0 p1 p4 p5 p6 p7
    rw [max64] at q0 q1 q4 q5 q6 q7
    refine ⟨⟨m0, m1, b2, b3, m4, m5, m6, m7⟩, by simp [AV.dp, AV.dpL], ?_⟩
    intro x hx
    simp at hx
    rcases hx with rfl | rfl | rfl | rfl | rfl | rfl
    · exact ⟨p0, q0⟩
    · exact ⟨p1, q1⟩
    · exact ⟨p4, q4⟩
    · exact ⟨p5, q5⟩
    · exact ⟨p6, q6⟩
    · exact ⟨p7, q7⟩
theorem ty_recs {n : Nat} {x : AV} (h : TyV Try.prog (n + 3) 24 x) : ∃ l : List (List UInt8), x.dp = .lst .any 1 (bbL l) ∧ l.length ≤ maxLen ∧ ∀ b ∈ l, b.length ≤ maxLen := by
  obtain ⟨o, l, rfl, hl, _, hy⟩ := ty_slice un_24 h
  obtain ⟨bs, h1, h2, h3⟩ := dpL_choose (F := fun b => AV.lst .any 1 (byL b)) (Q := fun b => b.length ≤ maxLen) (l := l) fun y hm => by
    obtain ⟨o, b, rfl, hb, _⟩ := ty_bytes un_35 un_5 ce5 (hy y hm)
    have e : AV.dpL (b.map fun b : UInt8 => AV.v (.int .u8 b.toNat)) = byL b := dpL_byL b
    exact ⟨b, by simp only [AV.dp, e], hb⟩
  exact ⟨bs, by simp only [AV.dp, h1, ce35]; rfl, by rw [h2]; exact hl, h3⟩
end Go.AM
