/- Big; the laws' arguments. -/
import Derived.Test.YtonckolkghbcbaaC38V
import Derived.Test.YtonckolkghbcbaaAmC
namespace Go.AM
open Go.RowKit Go.Proofs
set_option linter.unusedSimpArgs false
set_option linter.unusedVariables false
set_option maxHeartbeats 1000000

def br (r : Rec) : Bool := decide (3000 < r.data.length) || decide (300 < r.key.length)
def bt (t : List Rec) : Bool := decide (20 < t.length) || t.any br
def bigM (area : List (List Rec)) : Bool := (area.take 20).any bt || decide (20 < area.length)
theorem bigM_of {area : List (List Rec)} {i : Nat} {t : List Rec} (h : area[i]? = some t) (hi : i < 20) (hb : bt t = true) : bigM area = true := by
  unfold bigM
  have : (area.take 20).any bt = true := by
    rw [List.any_eq_true]
    refine ⟨t, List.mem_of_getElem? (i := i) ?_, hb⟩
    rw [List.getElem?_take, if_pos hi, h]
  simp [this]
theorem bt_of {t : List Rec} {k : Nat} {r : Rec} (h : t[k]? = some r) (hb : br r = true) : bt t = true := by
  unfold bt
  have : t.any br = true := by
    rw [List.any_eq_true]
    exact ⟨r, List.mem_of_getElem? h, hb⟩
  simp [this]
theorem bt_not {t : List Rec} (h1 : t.length ≤ 20) (h : ∀ (k : Nat) (r : Rec), t[k]? = some r → br r = false) : bt t = false := by
  unfold bt
  have h1' : ¬ 20 < t.length := by omega
  have : t.any br = false := by
    rw [List.any_eq_false]
    intro r hr
    obtain ⟨k, hk, rfl⟩ := List.mem_iff_getElem.1 hr
    rw [h k _ (List.getElem?_eq_getElem hk)]
    simp
  simp [this, h1']
theorem bigM_end {area : List (List Rec)} {i : Nat} (hi : i = area.length ∨ i = 20) (h : ∀ (j : Nat) (t : List Rec), j < i → area[j]? = some t → bt t = false) : bigM area = decide (20 < area.length) := by
  unfold bigM
  have : (area.take 20).any bt = false := by
    rw [List.any_eq_false]
    intro t ht
    obtain ⟨j, hj, rfl⟩ := List.mem_iff_getElem.1 ht
    have hj2 : j < 20 ∧ j < area.length := by simp at hj; omega
    have := h j area[j] (by omega) (List.getElem?_eq_getElem hj2.2)
    rw [List.getElem_take, this]
    simp
  simp [this]

theorem big_sound (area : List (List Rec)) (hl : ∀ t ∈ area, t.length ≤ 9223372036854775807) : Sound Try.prog 13 [.lst .any 1 (arL area)] (.v (.bool (bigM area))) := by
  refine sound_of_W Try.func13 rfl (by decide +kernel) (by simp [Try.f13]) rfl rfl (rs := [.tmp 2]) rfl ?_
  rw [show Try.f13.ntmps = 55 from rfl]
  refine W_evK [0] (by simp; rfl) ?_
  refine W_seq ?_
  refine W_evK [0, 3] (by simp; rfl) ?_
  refine W_block ?_
  refine W_loop (fun k s => ∃ i : Nat, k = 20 - i ∧ i ≤ area.length ∧ i ≤ 20 ∧ (∀ j t, j < i → area[j]? = some t → bt t = false) ∧ s = ⟨55, [(0, .lst .any 1 (arL area)), (3, .v (.int .i64 i))], []⟩) (k := 20) ⟨0, by simp, by omega, by omega, by omega, by simp⟩ ?_
  rintro k s ⟨i, rfl, hi, hi20, hbt, rfl⟩
  refine W_seq ?_
  by_cases c1 : i < area.length
  rotate_left
  · refine W_evK [0, 3, 12] (by simp [c1]; rfl) ?_
    refine W_cond rfl (fun h => by simp at h) (fun h => ?_)
    refine W_exit ?_
    have hR := bigM_end (area := area) (i := i) (by omega) hbt
    refine W_evK [2] (by simp; rfl) ?_
    refine W_ret ?_
    repeat (first | refine on_ret ?_ | refine in_ret ?_)
    simp [retQ, hR]
    omega
  have c1i : (i : Int) < area.length := by omega
  by_cases c2 : i < 20
  rotate_left
  · have c2i : ¬ (i : Int) < 20 := by omega
    refine W_evK [0, 3, 12] (by simp [c1, c2i]; rfl) ?_
    refine W_cond rfl (fun h => by simp at h) (fun h => ?_)
    refine W_exit ?_
    have hR := bigM_end (area := area) (i := i) (by omega) hbt
    refine W_evK [2] (by simp; rfl) ?_
    refine W_ret ?_
    repeat (first | refine on_ret ?_ | refine in_ret ?_)
    simp [retQ, hR]
    omega
  have c2i : (i : Int) < 20 := by omega
  refine W_evK [0, 3, 12] (by simp [c1, c2i]; rfl) ?_
  refine W_cond rfl (fun h => ?_) (fun h => by simp at h)
  refine W_skip ?_
  refine W_seq ?_
  refine W_block ?_
  obtain ⟨t, ht⟩ : ∃ t, area[i]? = some t := ⟨_, List.getElem?_eq_getElem c1⟩
  have ht2 : area[i]'c1 = t := by rw [List.getElem?_eq_getElem c1] at ht; exact Option.some.inj ht
  have htl := hl t (List.mem_of_getElem? ht)
  refine W_seq ?_
  by_cases c3 : 20 < t.length
  · have hR := bigM_of ht c2 (by simp [bt, c3])
    have c3i : (20 : Int) < t.length := by omega
    refine W_evK [0, 3, 20] (by simp [c1, c1i, ht2, c3i]; rfl) ?_
    refine W_cond rfl (fun _ => ?_) (fun h => by simp at h)
    refine W_evK [2] (by simp; rfl) ?_
    refine W_ret ?_
    repeat (first | refine on_ret ?_ | refine in_ret ?_)
    simp [retQ, hR]
  have c3i : ¬ (20 : Int) < t.length := by omega
  refine W_evK [0, 3, 20] (by simp [c1, c1i, ht2, c3i]; rfl) ?_
  refine W_cond rfl (fun h => by simp at h) (fun _ => ?_)
  refine W_skip ?_
  refine W_evK [0, 3, 4] (by simp; rfl) ?_
  refine W_block ?_
  refine W_loop (fun k s => ∃ j : Nat, k = t.length - j ∧ j ≤ t.length ∧ (∀ (k : Nat) (r : Rec), k < j → t[k]? = some r → br r = false) ∧ s = ⟨55, [(0, .lst .any 1 (arL area)), (3, .v (.int .i64 i)), (4, .v (.int .i64 j))], []⟩) (k := t.length) ⟨0, by simp, by omega, by omega, by simp⟩ ?_
  rintro k s ⟨j, rfl, hj, hbr, rfl⟩
  refine W_seq ?_
  by_cases d1 : j < t.length
  rotate_left
  · refine W_evK [0, 3, 4, 27] (by simp [c1, c1i, ht2, d1]; rfl) ?_
    refine W_cond rfl (fun h => by simp at h) (fun h => ?_)
    refine W_exit ?_
    refine W_evE [0, 3] (by simp [w64 (n := (i : Int) + 1) (by omega) (by omega)]; rfl) ?_
    refine ⟨_, by omega, i + 1, rfl, by omega, by omega, ?_, by simp⟩
    intro k t' hk hk2
    rcases Nat.lt_or_ge k i with h1 | h1
    · exact hbt k t' h1 hk2
    · have : k = i := by omega
      subst this
      rw [ht] at hk2
      cases hk2
      exact bt_not (by omega) fun k r h => hbr k r (by have := (List.getElem?_eq_some_iff.1 h).1; omega) h
  have d1i : (j : Int) < t.length := by omega
  refine W_evK [0, 3, 4, 27] (by simp [c1, c1i, ht2, d1]; rfl) ?_
  refine W_cond rfl (fun h => ?_) (fun h => by simp at h)
  refine W_skip ?_
  refine W_seq ?_
  refine W_block ?_
  obtain ⟨r, hr⟩ : ∃ r, t[j]? = some r := ⟨_, List.getElem?_eq_getElem d1⟩
  have hr2 : t[j]'d1 = r := by rw [List.getElem?_eq_getElem d1] at hr; exact Option.some.inj hr
  refine W_rK [0, 3, 4, 51] ?_
  by_cases d2 : 3000 < r.data.length
  · have d2i : (3000 : Int) < r.data.length := by omega
    have hR := bigM_of ht c2 (bt_of hr (by simp [br, d2]))
    refine runA_pre 6 (by simp [c1, c1i, ht2, d1, d1i, hr2]; rfl) rfl ?_
    refine runA_pre 6 (by simp [d2i]; rfl) rfl ?_
    refine runA_pre 6 (by simp; rfl) rfl ?_
    refine runA_fin (by simp; rfl) ?_
    refine W_cond rfl (fun h => ?_) (fun h => by simp at h)
    refine W_evK [2] (by simp; rfl) ?_
    refine W_ret ?_
    repeat (first | refine on_ret ?_ | refine in_ret ?_)
    simp [retQ, hR]
  have d2i : ¬ (3000 : Int) < r.data.length := by omega
  by_cases d3 : 300 < r.key.length
  · have d3i : (300 : Int) < r.key.length := by omega
    have hR := bigM_of ht c2 (bt_of hr (by simp [br, d3]))
    refine runA_pre 6 (by simp [c1, c1i, ht2, d1, d1i, hr2]; rfl) rfl ?_
    refine runA_pre 6 (by simp [d2i]; rfl) rfl ?_
    refine runA_pre 6 (by simp [c1, c1i, ht2, d1, d1i, hr2]; rfl) rfl ?_
    refine runA_fin (by simp [d3i]; rfl) ?_
    refine W_cond rfl (fun h => ?_) (fun h => by simp at h)
    refine W_evK [2] (by simp; rfl) ?_
    refine W_ret ?_
    repeat (first | refine on_ret ?_ | refine in_ret ?_)
    simp [retQ, hR]
  have d3i : ¬ (300 : Int) < r.key.length := by omega
  refine runA_pre 6 (by simp [c1, c1i, ht2, d1, d1i, hr2]; rfl) rfl ?_
  refine runA_pre 6 (by simp [d2i]; rfl) rfl ?_
  refine runA_pre 6 (by simp [c1, c1i, ht2, d1, d1i, hr2]; rfl) rfl ?_
  refine runA_fin (by simp [d3i]; rfl) ?_
  refine W_cond rfl (fun h => by simp at h) (fun h => ?_)
  refine W_skip ?_
  refine W_evE [0, 3, 4] (by simp [w64 (n := (j : Int) + 1) (by omega) (by omega)]; rfl) ?_
  refine ⟨_, by omega, j + 1, rfl, by omega, ?_, by simp⟩
  intro k r' hk hk2
  rcases Nat.lt_or_ge k j with h1 | h1
  · exact hbr k r' h1 hk2
  · have : k = j := by omega
    subst this
    rw [hr] at hk2
    cases hk2
    simp [br, d2, d3]

section
variable {P : Program}
theorem ty_slice {n : Nat} {t e : TypeId} {x : AV} (hu : P.underlying t = some (.slice e)) (h : TyV P (n + 1) t x) : ∃ o l, x = .lst o (P.cellsOf e) l ∧ l.length ≤ maxLen ∧ l.length * P.bytesOf e ≤ 140737488351232 ∧ ∀ y ∈ l, TyV P n e y := by
  rcases h with ⟨h1, _⟩ | ⟨_, h⟩
  · simp [isSt, hu] at h1
  · simp only [TyC, hu] at h
    obtain ⟨o, l, hl, hmax, _, _, hx⟩ := h
    simp only [List.cons.injEq, and_true] at hl
    exact ⟨o, l, hl, hmax.1, hmax.2, hx⟩
theorem dpL_choose {β : Type} {F : β → AV} {Q : β → Prop} : ∀ {l : List AV}, (∀ y ∈ l, ∃ b, y.dp = F b ∧ Q b) → ∃ bs : List β, AV.dpL l = bs.map F ∧ bs.length = l.length ∧ ∀ b ∈ bs, Q b
  | [], _ => ⟨[], rfl, rfl, by simp⟩
  | y :: l, h => by
    obtain ⟨b, h1, h2⟩ := h y (by simp)
    obtain ⟨bs, k1, k2, k3⟩ := dpL_choose (l := l) fun y hy => h y (by simp [hy])
    refine ⟨b :: bs, by simp [AV.dpL, h1, k1], by simp [k2], fun c hc => ?_⟩
    rcases List.mem_cons.1 hc with rfl | hc
    · exact h2
    · exact k3 c hc
end
def recOk (r : Rec) : Prop := -9223372036854775808 ≤ r.R ∧ r.R ≤ 9223372036854775807 ∧ r.key.length ≤ maxLen ∧ r.data.length ≤ maxLen
theorem un_3 : Try.prog.underlying 3 = some (.int .i64) := by kernel_rfl
theorem un_4 : Try.prog.underlying 4 = some .bool := by kernel_rfl
theorem un_5 : Try.prog.underlying 5 = some (.int .u8) := by kernel_rfl
theorem un_23 : Try.prog.underlying 23 = some (.slice 28) := by kernel_rfl
theorem un_28 : Try.prog.underlying 28 = some (.slice 52) := by kernel_rfl
theorem un_32 : Try.prog.underlying 32 = some (.slice 5) := by kernel_rfl
theorem ce5 : Try.prog.cellsOf 5 = 1 := by kernel_rfl
theorem ce28 : Try.prog.cellsOf 28 = 1 := by kernel_rfl
theorem ce52 : Try.prog.cellsOf 52 = 4 := by kernel_rfl
theorem fl52 : flds Try.prog 52 = some [(3, 0, 1), (32, 1, 1), (32, 2, 1), (4, 3, 1)] := by kernel_rfl
theorem min64 : IntKind.i64.min = -9223372036854775808 := by decide +kernel
theorem max64 : IntKind.i64.max = 9223372036854775807 := by decide +kernel
theorem ty_rec {n : Nat} {x : AV} (h : TyV Try.prog (n + 3) 52 x) : ∃ r : Rec, x.dp = recA r ∧ recOk r := by
  obtain ⟨ys, rfl, hl, hf⟩ := ty_struct fl52 ce52 h
  match ys, hl, hf with
  | [a, b, c, d], _, hf =>
    obtain ⟨m, rfl, h1, h2⟩ := ty_int un_3 (ty_fld (by kernel_rfl) (hf (3, 0, 1) (by simp)))
    obtain ⟨o, l, rfl, h3, _⟩ := ty_bytes un_32 un_5 ce5 (ty_fld (by kernel_rfl) (hf (32, 1, 1) (by simp)))
    obtain ⟨o', l', rfl, h4, _⟩ := ty_bytes un_32 un_5 ce5 (ty_fld (by kernel_rfl) (hf (32, 2, 1) (by simp)))
    obtain ⟨q, rfl⟩ := ty_bool un_4 (ty_fld (by kernel_rfl) (hf (4, 3, 1) (by simp)))
    rw [min64] at h1
    rw [max64] at h2
    refine ⟨⟨m, l, l', q⟩, ?_, h1, h2, h3, h4⟩
    have e : ∀ l : List UInt8, AV.dpL (l.map fun b : UInt8 => AV.v (.int .u8 b.toNat)) = byL l := fun l => dpL_byL l
    simp [AV.dp, AV.dpL, e, recA]
theorem ty_track {n : Nat} {x : AV} (h : TyV Try.prog (n + 4) 28 x) : ∃ t : List Rec, x.dp = .lst .any 4 (trL t) ∧ t.length ≤ maxLen ∧ ∀ r ∈ t, recOk r := by
  obtain ⟨o, l, rfl, hl, _, hy⟩ := ty_slice un_28 h
  obtain ⟨bs, h1, h2, h3⟩ := dpL_choose (F := recA) (Q := recOk) fun y hm => ty_rec (hy y hm)
  exact ⟨bs, by simp only [AV.dp, h1, ce52]; rfl, by rw [h2]; exact hl, h3⟩
theorem ty_area {n : Nat} {x : AV} (h : TyV Try.prog (n + 5) 23 x) : ∃ a : List (List Rec), x.dp = .lst .any 1 (arL a) ∧ a.length ≤ maxLen ∧ ∀ t ∈ a, t.length ≤ maxLen ∧ ∀ r ∈ t, recOk r := by
  obtain ⟨o, l, rfl, hl, _, hy⟩ := ty_slice un_23 h
  obtain ⟨bs, h1, h2, h3⟩ := dpL_choose (F := fun t => AV.lst .any 4 (trL t)) (Q := fun t => t.length ≤ maxLen ∧ ∀ r ∈ t, recOk r) fun y hm => ty_track (hy y hm)
  exact ⟨bs, by simp only [AV.dp, h1, ce28]; rfl, by rw [h2]; exact hl, h3⟩
end Go.AM
