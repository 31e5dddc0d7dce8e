/- Parts of the walk: C31LJ C31LK C31LM C31LT. -/
import Derived.Test.YtlhaljblcimnbaaG9
namespace Go.AM
open Go.RowKit Go.Proofs
set_option linter.unusedSimpArgs false
set_option linter.unusedVariables false
set_option maxHeartbeats 8000000
theorem spoil7e (m : LMod) (hm : LSn m) (hr0 : m.rel = []) (n : Nat) (hn : n < 256) (b : Int) (hk : n % 10 = 7) : ∃ m', LSm m' ∧ Sound Try.prog 18 [lmA m, .v (.int .u8 n), .v (.int .i64 b)] (lmA m') := by
  have hl0 : 0 < m.seg.length := List.length_pos_iff.2 hm.s0
  have hls := hm.s
  have hlr := hm.r
  have hlt := hm.t
  have hlt2 : m.text.length + 1 ≤ 140737488355328 := by omega
  have hlr2 : (m.rel.length + 1) * 24 ≤ 140737488355328 := by omega
  have hl0n : ¬ m.seg.length = 0 := by omega
  have hl0i : ¬ (m.seg.length : Int) = 0 := by omega
  obtain ⟨n16, h16⟩ : ∃ n16, n / 16 = n16 := ⟨_, rfl⟩
  have e16 : Int.tdiv (n : Int) 16 = (n16 : Nat) := by rw [← h16]; exact rfl
  have w16 := wu8 (n := (n16 : Nat)) (by omega) (by omega)
  have i16 := w64 (n := (n16 : Nat)) (by omega) (by omega)
  obtain ⟨q, hq⟩ : ∃ q, n16 % m.seg.length = q := ⟨_, rfl⟩
  have hql : q < m.seg.length := by rw [← hq]; exact Nat.mod_lt _ hl0
  have hqi : (q : Int) < m.seg.length := by omega
  have hrm : Int.tmod (n16 : Int) (m.seg.length : Nat) = (q : Nat) := by rw [← hq]; exact rfl
  have wq := w64 (n := (q : Nat)) (by omega) (by omega)
  obtain ⟨sg, hsg⟩ : ∃ sg, m.seg[q]? = some sg := ⟨_, List.getElem?_eq_getElem hql⟩
  have hsg0 : m.seg[q]'hql = sg := by rw [List.getElem?_eq_getElem hql] at hsg; exact Option.some.inj hsg
  have hsgg : (sgL m.seg)[q]? = some (segA sg) := by rw [sgL_get, hsg]; rfl
  have hk10 : Int.tmod (n : Int) 10 = 7 := by rw [show Int.tmod (n : Int) 10 = ((n % 10 : Nat) : Int) from rfl, hk]; rfl
  have wk := wu8 (n := 7) (by omega) (by omega)
  have hr1 : m.rel.length = 0 := by simp [hr0]
  refine ⟨⟨m.text, m.rel, m.seg, m.entry⟩, ⟨by simp <;> omega, by simp <;> omega, by simp <;> omega⟩, ?_⟩
  refine sound_of_U Try.func18 rfl (by decide +kernel) (by simp [Try.f18]) (by simp [AV.rfL, AV.rf]) (by simp [AV.tlL, AV.tl]) (rs := [.cell 6 40]) rfl ?_
  rw [show Try.f18.ntmps = 133 from rfl]
  refine W_evK [1, 2, 3, 6] (by simp; rfl) ?_
  refine W_rK [1, 2, 3, 6] ?_
  refine runA_pre 1 (by simp; rfl) rfl ?_
  refine runA_call (by simp) (by first | (simp; done) | (simp; rfl)) (copyLoad_sound m hm.sm) (by simp; rfl) ?_
  refine runA_fin (by simp [setSeg]; rfl) ?_
  refine W_dvK [1, 2, 3, 6, 7] mx (by decide +kernel) (by simp [e16, w16, i16, hrm, wq, hql, hqi, hsg0, hl0n, hl0i, hsgg]; rfl) ?_
  refine W_seq ?_
  refine W_evK [1, 2, 3, 6, 7, 22] (by simp [hk10, wk]; rfl) ?_
  refine W_block ?_
  refine W_evK [1, 2, 3, 6, 7, 22, 23] (by simp; rfl) ?_
  refine W_cond rfl (fun h => by simp at h) (fun h => ?_)
  refine W_evK [1, 2, 3, 6, 7, 22, 34] (by simp; rfl) ?_
  refine W_cond rfl (fun h => by simp at h) (fun h => ?_)
  refine W_evK [1, 2, 3, 6, 7, 22, 45] (by simp; rfl) ?_
  refine W_cond rfl (fun h => by simp at h) (fun h => ?_)
  refine W_evK [1, 2, 3, 6, 7, 22, 56] (by simp; rfl) ?_
  refine W_cond rfl (fun h => by simp at h) (fun h => ?_)
  refine W_evK [1, 2, 3, 6, 22, 67] (by simp; rfl) ?_
  refine W_cond rfl (fun h => by simp at h) (fun h => ?_)
  refine W_evK [1, 2, 3, 6, 22, 74] (by simp; rfl) ?_
  refine W_cond rfl (fun h => by simp at h) (fun h => ?_)
  refine W_evK [1, 2, 3, 6, 81] (by simp; rfl) ?_
  refine W_cond rfl (fun h => by simp at h) (fun h => ?_)
  refine W_skip ?_
  refine W_seq ?_
  refine W_evK [1, 2, 3, 6, 87] (by simp [hr0]; rfl) ?_
  refine W_cond rfl (fun h => by simp at h) (fun h => ?_)
  refine W_skip ?_
  refine W_evK [6] (by simp [setSeg]; rfl) ?_
  refine W_ret ?_
  repeat (first | refine on_ret ?_ | refine in_ret ?_)
  exact retU_pl (r0 := .agg _) ⟨.inr rfl, _, _, by simp [setSeg]; rfl, by simp; exact ⟨rfl, rfl⟩, by simp [AV.rf, AV.rfL]⟩ (by simp [AV.plain, AV.plainL, hr0])
theorem spoil7n (m : LMod) (hm : LSn m) (hr0 : m.rel ≠ []) (n : Nat) (hn : n < 256) (b : Int) (hk : n % 10 = 7) : ∃ m', LSm m' ∧ Sound Try.prog 18 [lmA m, .v (.int .u8 n), .v (.int .i64 b)] (lmA m') := by
  have hl0 : 0 < m.seg.length := List.length_pos_iff.2 hm.s0
  have hls := hm.s
  have hlr := hm.r
  have hlt := hm.t
  have hlt2 : m.text.length + 1 ≤ 140737488355328 := by omega
  have hlr2 : (m.rel.length + 1) * 24 ≤ 140737488355328 := by omega
  have hl0n : ¬ m.seg.length = 0 := by omega
  have hl0i : ¬ (m.seg.length : Int) = 0 := by omega
  obtain ⟨n16, h16⟩ : ∃ n16, n / 16 = n16 := ⟨_, rfl⟩
  have e16 : Int.tdiv (n : Int) 16 = (n16 : Nat) := by rw [← h16]; exact rfl
  have w16 := wu8 (n := (n16 : Nat)) (by omega) (by omega)
  have i16 := w64 (n := (n16 : Nat)) (by omega) (by omega)
  obtain ⟨q, hq⟩ : ∃ q, n16 % m.seg.length = q := ⟨_, rfl⟩
  have hql : q < m.seg.length := by rw [← hq]; exact Nat.mod_lt _ hl0
  have hqi : (q : Int) < m.seg.length := by omega
  have hrm : Int.tmod (n16 : Int) (m.seg.length : Nat) = (q : Nat) := by rw [← hq]; exact rfl
  have wq := w64 (n := (q : Nat)) (by omega) (by omega)
  obtain ⟨sg, hsg⟩ : ∃ sg, m.seg[q]? = some sg := ⟨_, List.getElem?_eq_getElem hql⟩
  have hsg0 : m.seg[q]'hql = sg := by rw [List.getElem?_eq_getElem hql] at hsg; exact Option.some.inj hsg
  have hsgg : (sgL m.seg)[q]? = some (segA sg) := by rw [sgL_get, hsg]; rfl
  have hk10 : Int.tmod (n : Int) 10 = 7 := by rw [show Int.tmod (n : Int) 10 = ((n % 10 : Nat) : Int) from rfl, hk]; rfl
  have wk := wu8 (n := 7) (by omega) (by omega)
  have hr1 : 0 < m.rel.length := List.length_pos_iff.2 hr0
  have hr1n : ¬ m.rel.length = 0 := by omega
  have hr1i : ¬ (m.rel.length : Int) = 0 := by omega
  obtain ⟨q2, hq2⟩ : ∃ q, n16 % m.rel.length = q := ⟨_, rfl⟩
  have hq2l : q2 < m.rel.length := by rw [← hq2]; exact Nat.mod_lt _ hr1
  have hq2i : (q2 : Int) < m.rel.length := by omega
  have hrm2 : Int.tmod (n16 : Int) (m.rel.length : Nat) = (q2 : Nat) := by rw [← hq2]; exact rfl
  have wq2 := w64 (n := (q2 : Nat)) (by omega) (by omega)
  obtain ⟨rl, hrl⟩ : ∃ rl, m.rel[q2]? = some rl := ⟨_, List.getElem?_eq_getElem hq2l⟩
  have hrl0 : m.rel[q2]'hq2l = rl := by rw [List.getElem?_eq_getElem hq2l] at hrl; exact Option.some.inj hrl
  have hrlg : (rlL m.rel)[q2]? = some (rloA rl) := by rw [rlL_get, hrl]; rfl
  have hgq : ∀ cap : Nat, (flC rloC m.rel ++ List.replicate ((cap - m.rel.length) * 3) AV.any)[q2 * 3]? = some (.v (.int .i64 rl.at_)) := fun cap => flC_get rloC_len hrl _ 0 (by omega)
  have hgs : ∀ cap : Nat, setSeg (flC rloC m.rel ++ List.replicate ((cap - m.rel.length) * 3) AV.any) (q2 * 3) [.v (.int .i64 (IntKind.i64.wrap (rl.at_ + b)))] = flC rloC (m.rel.set q2 ⟨IntKind.i64.wrap (rl.at_ + b), rl.len, rl.neg⟩) ++ List.replicate ((cap - m.rel.length) * 3) AV.any := fun cap => flC_set (k := q2) rloC_len hrl _ 0 _ rfl (by simp)
  have hlc : (flC rloC m.rel).length = m.rel.length * 3 := flC_length rloC_len _
  have hcd : ∀ cap : Nat, q2 * 3 + 1 ≤ m.rel.length * 3 + (cap - m.rel.length) * 3 := fun cap => by omega
  refine ⟨⟨m.text, m.rel.set q2 ⟨IntKind.i64.wrap (rl.at_ + b), rl.len, rl.neg⟩, m.seg, m.entry⟩, ⟨by simp <;> omega, by simp <;> omega, by simp <;> omega⟩, ?_⟩
  refine sound_of_U Try.func18 rfl (by decide +kernel) (by simp [Try.f18]) (by simp [AV.rfL, AV.rf]) (by simp [AV.tlL, AV.tl]) (rs := [.cell 6 40]) rfl ?_
  rw [show Try.f18.ntmps = 133 from rfl]
  refine W_evK [1, 2, 3, 6] (by simp; rfl) ?_
  refine W_rK [1, 2, 3, 6] ?_
  refine runA_pre 1 (by simp; rfl) rfl ?_
  refine runA_obj (f := 33) (args := [lmA m]) (by simp) (by simp) (sp_thawR hm hr0 fun cap hc1 hc2 => ?_)
  refine ⟨_, by simp; rfl, ?_⟩
  refine runA_fin (by simp [setSeg]; rfl) ?_
  refine W_dvK [1, 2, 3, 6, 7] mx (by decide +kernel) (by simp [e16, w16, i16, hrm, wq, hql, hqi, hsg0, hl0n, hl0i, hsgg]; rfl) ?_
  refine W_seq ?_
  refine W_evK [1, 2, 3, 6, 7, 22] (by simp [hk10, wk]; rfl) ?_
  refine W_block ?_
  refine W_evK [1, 2, 3, 6, 7, 22, 23] (by simp; rfl) ?_
  refine W_cond rfl (fun h => by simp at h) (fun h => ?_)
  refine W_evK [1, 2, 3, 6, 7, 22, 34] (by simp; rfl) ?_
  refine W_cond rfl (fun h => by simp at h) (fun h => ?_)
  refine W_evK [1, 2, 3, 6, 7, 22, 45] (by simp; rfl) ?_
  refine W_cond rfl (fun h => by simp at h) (fun h => ?_)
  refine W_evK [1, 2, 3, 6, 7, 22, 56] (by simp; rfl) ?_
  refine W_cond rfl (fun h => by simp at h) (fun h => ?_)
  refine W_evK [1, 2, 3, 6, 22, 67] (by simp; rfl) ?_
  refine W_cond rfl (fun h => by simp at h) (fun h => ?_)
  refine W_evK [1, 2, 3, 6, 22, 74] (by simp; rfl) ?_
  refine W_cond rfl (fun h => by simp at h) (fun h => ?_)
  refine W_evK [1, 2, 3, 6, 81] (by simp; rfl) ?_
  refine W_cond rfl (fun h => by simp at h) (fun h => ?_)
  refine W_skip ?_
  refine W_seq ?_
  refine W_evK [1, 2, 3, 6, 87] (by simp [hr1]; rfl) ?_
  refine W_cond rfl (fun h => ?_) (fun h => by simp at h)
  refine W_dvK [1, 2, 3, 6, 8] mx (by decide +kernel) (by simp [e16, w16, i16, hrm2, wq2, hq2l, hq2i, hrl0, hr1, hr1n, hr1i, hrlg]; rfl) ?_
  refine W_evK [2, 3, 6, 8, 99] (by simp [hk10, wk]; rfl) ?_
  refine W_block ?_
  refine W_evK [2, 3, 6, 8, 99, 100] (by simp; rfl) ?_
  refine W_cond rfl (fun h => ?_) (fun h => by simp at h)
  refine W_evE [3, 6] (by simp [hgq cap, hgs cap, hlc, hcd cap]; rfl) ?_
  refine W_evK [6] (by simp [setSeg]; rfl) ?_
  refine W_ret ?_
  repeat (first | refine on_ret ?_ | refine in_ret ?_)
  obtain ⟨o, h', hf, ho⟩ := frz_fl (F := rloC) (sz := 3) (ty := 85) (id := 2) (k := (cap - m.rel.length) * 3) (cap := cap) (l := m.rel.set q2 ⟨IntKind.i64.wrap (rl.at_ + b), rl.len, rl.neg⟩) (h := [.cells 40 [.lst .any 1 (byL m.text), .arr 2 0 m.rel.length cap, .lst .any 4 (sgL m.seg), .v (.int .i64 m.entry)], .cells 40 [.lst .any 1 (byL m.text), .arr 2 0 m.rel.length cap, .lst .any 4 (sgL m.seg), .v (.int .i64 m.entry)], .cells 85 (flC rloC (m.rel.set q2 ⟨IntKind.i64.wrap (rl.at_ + b), rl.len, rl.neg⟩) ++ List.replicate ((cap - m.rel.length) * 3) .any)]) rfl (by simp) (by omega) rloC_len rloC_vals
  refine retU_pl (r0 := .agg [.lst .any 1 (byL m.text), .lst o 3 ((m.rel.set q2 ⟨IntKind.i64.wrap (rl.at_ + b), rl.len, rl.neg⟩).map fun x => .agg (rloC x)), .lst .any 4 (sgL m.seg), .v (.int .i64 m.entry)]) ⟨.inr rfl, _, h', by simp; rfl, ?_, by simp [AV.rf, AV.rfL]⟩ (by rcases ho with rfl | rfl <;> rfl)
  simp only [List.length_set] at hf
  simp [hf]
theorem spoil8e (m : LMod) (hm : LSn m) (hr0 : m.rel = []) (n : Nat) (hn : n < 256) (b : Int) (hk : n % 10 = 8) : ∃ m', LSm m' ∧ Sound Try.prog 18 [lmA m, .v (.int .u8 n), .v (.int .i64 b)] (lmA m') := by
  have hl0 : 0 < m.seg.length := List.length_pos_iff.2 hm.s0
  have hls := hm.s
  have hlr := hm.r
  have hlt := hm.t
  have hlt2 : m.text.length + 1 ≤ 140737488355328 := by omega
  have hlr2 : (m.rel.length + 1) * 24 ≤ 140737488355328 := by omega
  have hl0n : ¬ m.seg.length = 0 := by omega
  have hl0i : ¬ (m.seg.length : Int) = 0 := by omega
  obtain ⟨n16, h16⟩ : ∃ n16, n / 16 = n16 := ⟨_, rfl⟩
  have e16 : Int.tdiv (n : Int) 16 = (n16 : Nat) := by rw [← h16]; exact rfl
  have w16 := wu8 (n := (n16 : Nat)) (by omega) (by omega)
  have i16 := w64 (n := (n16 : Nat)) (by omega) (by omega)
  obtain ⟨q, hq⟩ : ∃ q, n16 % m.seg.length = q := ⟨_, rfl⟩
  have hql : q < m.seg.length := by rw [← hq]; exact Nat.mod_lt _ hl0
  have hqi : (q : Int) < m.seg.length := by omega
  have hrm : Int.tmod (n16 : Int) (m.seg.length : Nat) = (q : Nat) := by rw [← hq]; exact rfl
  have wq := w64 (n := (q : Nat)) (by omega) (by omega)
  obtain ⟨sg, hsg⟩ : ∃ sg, m.seg[q]? = some sg := ⟨_, List.getElem?_eq_getElem hql⟩
  have hsg0 : m.seg[q]'hql = sg := by rw [List.getElem?_eq_getElem hql] at hsg; exact Option.some.inj hsg
  have hsgg : (sgL m.seg)[q]? = some (segA sg) := by rw [sgL_get, hsg]; rfl
  have hk10 : Int.tmod (n : Int) 10 = 8 := by rw [show Int.tmod (n : Int) 10 = ((n % 10 : Nat) : Int) from rfl, hk]; rfl
  have wk := wu8 (n := 8) (by omega) (by omega)
  have hr1 : m.rel.length = 0 := by simp [hr0]
  refine ⟨⟨m.text, m.rel, m.seg, m.entry⟩, ⟨by simp <;> omega, by simp <;> omega, by simp <;> omega⟩, ?_⟩
  refine sound_of_U Try.func18 rfl (by decide +kernel) (by simp [Try.f18]) (by simp [AV.rfL, AV.rf]) (by simp [AV.tlL, AV.tl]) (rs := [.cell 6 40]) rfl ?_
  rw [show Try.f18.ntmps = 133 from rfl]
  refine W_evK [1, 2, 3, 6] (by simp; rfl) ?_
  refine W_rK [1, 2, 3, 6] ?_
  refine runA_pre 1 (by simp; rfl) rfl ?_
  refine runA_call (by simp) (by first | (simp; done) | (simp; rfl)) (copyLoad_sound m hm.sm) (by simp; rfl) ?_
  refine runA_fin (by simp [setSeg]; rfl) ?_
  refine W_dvK [1, 2, 3, 6, 7] mx (by decide +kernel) (by simp [e16, w16, i16, hrm, wq, hql, hqi, hsg0, hl0n, hl0i, hsgg]; rfl) ?_
  refine W_seq ?_
  refine W_evK [1, 2, 3, 6, 7, 22] (by simp [hk10, wk]; rfl) ?_
  refine W_block ?_
  refine W_evK [1, 2, 3, 6, 7, 22, 23] (by simp; rfl) ?_
  refine W_cond rfl (fun h => by simp at h) (fun h => ?_)
  refine W_evK [1, 2, 3, 6, 7, 22, 34] (by simp; rfl) ?_
  refine W_cond rfl (fun h => by simp at h) (fun h => ?_)
  refine W_evK [1, 2, 3, 6, 7, 22, 45] (by simp; rfl) ?_
  refine W_cond rfl (fun h => by simp at h) (fun h => ?_)
  refine W_evK [1, 2, 3, 6, 7, 22, 56] (by simp; rfl) ?_
  refine W_cond rfl (fun h => by simp at h) (fun h => ?_)
  refine W_evK [1, 2, 3, 6, 22, 67] (by simp; rfl) ?_
  refine W_cond rfl (fun h => by simp at h) (fun h => ?_)
  refine W_evK [1, 2, 3, 6, 22, 74] (by simp; rfl) ?_
  refine W_cond rfl (fun h => by simp at h) (fun h => ?_)
  refine W_evK [1, 2, 3, 6, 81] (by simp; rfl) ?_
  refine W_cond rfl (fun h => by simp at h) (fun h => ?_)
  refine W_skip ?_
  refine W_seq ?_
  refine W_evK [1, 2, 3, 6, 87] (by simp [hr0]; rfl) ?_
  refine W_cond rfl (fun h => by simp at h) (fun h => ?_)
  refine W_skip ?_
  refine W_evK [6] (by simp [setSeg]; rfl) ?_
  refine W_ret ?_
  repeat (first | refine on_ret ?_ | refine in_ret ?_)
  exact retU_pl (r0 := .agg _) ⟨.inr rfl, _, _, by simp [setSeg]; rfl, by simp; exact ⟨rfl, rfl⟩, by simp [AV.rf, AV.rfL]⟩ (by simp [AV.plain, AV.plainL, hr0])
theorem spoil8n (m : LMod) (hm : LSn m) (hr0 : m.rel ≠ []) (n : Nat) (hn : n < 256) (b : Int) (hk : n % 10 = 8) : ∃ m', LSm m' ∧ Sound Try.prog 18 [lmA m, .v (.int .u8 n), .v (.int .i64 b)] (lmA m') := by
  have hl0 : 0 < m.seg.length := List.length_pos_iff.2 hm.s0
  have hls := hm.s
  have hlr := hm.r
  have hlt := hm.t
  have hlt2 : m.text.length + 1 ≤ 140737488355328 := by omega
  have hlr2 : (m.rel.length + 1) * 24 ≤ 140737488355328 := by omega
  have hl0n : ¬ m.seg.length = 0 := by omega
  have hl0i : ¬ (m.seg.length : Int) = 0 := by omega
  obtain ⟨n16, h16⟩ : ∃ n16, n / 16 = n16 := ⟨_, rfl⟩
  have e16 : Int.tdiv (n : Int) 16 = (n16 : Nat) := by rw [← h16]; exact rfl
  have w16 := wu8 (n := (n16 : Nat)) (by omega) (by omega)
  have i16 := w64 (n := (n16 : Nat)) (by omega) (by omega)
  obtain ⟨q, hq⟩ : ∃ q, n16 % m.seg.length = q := ⟨_, rfl⟩
  have hql : q < m.seg.length := by rw [← hq]; exact Nat.mod_lt _ hl0
  have hqi : (q : Int) < m.seg.length := by omega
  have hrm : Int.tmod (n16 : Int) (m.seg.length : Nat) = (q : Nat) := by rw [← hq]; exact rfl
  have wq := w64 (n := (q : Nat)) (by omega) (by omega)
  obtain ⟨sg, hsg⟩ : ∃ sg, m.seg[q]? = some sg := ⟨_, List.getElem?_eq_getElem hql⟩
  have hsg0 : m.seg[q]'hql = sg := by rw [List.getElem?_eq_getElem hql] at hsg; exact Option.some.inj hsg
  have hsgg : (sgL m.seg)[q]? = some (segA sg) := by rw [sgL_get, hsg]; rfl
  have hk10 : Int.tmod (n : Int) 10 = 8 := by rw [show Int.tmod (n : Int) 10 = ((n % 10 : Nat) : Int) from rfl, hk]; rfl
  have wk := wu8 (n := 8) (by omega) (by omega)
  have hr1 : 0 < m.rel.length := List.length_pos_iff.2 hr0
  have hr1n : ¬ m.rel.length = 0 := by omega
  have hr1i : ¬ (m.rel.length : Int) = 0 := by omega
  obtain ⟨q2, hq2⟩ : ∃ q, n16 % m.rel.length = q := ⟨_, rfl⟩
  have hq2l : q2 < m.rel.length := by rw [← hq2]; exact Nat.mod_lt _ hr1
  have hq2i : (q2 : Int) < m.rel.length := by omega
  have hrm2 : Int.tmod (n16 : Int) (m.rel.length : Nat) = (q2 : Nat) := by rw [← hq2]; exact rfl
  have wq2 := w64 (n := (q2 : Nat)) (by omega) (by omega)
  obtain ⟨rl, hrl⟩ : ∃ rl, m.rel[q2]? = some rl := ⟨_, List.getElem?_eq_getElem hq2l⟩
  have hrl0 : m.rel[q2]'hq2l = rl := by rw [List.getElem?_eq_getElem hq2l] at hrl; exact Option.some.inj hrl
  have hrlg : (rlL m.rel)[q2]? = some (rloA rl) := by rw [rlL_get, hrl]; rfl
  have hgq : ∀ cap : Nat, (flC rloC m.rel ++ List.replicate ((cap - m.rel.length) * 3) AV.any)[q2 * 3 + 1]? = some (.v (.int .i64 rl.len)) := fun cap => flC_get rloC_len hrl _ 1 (by omega)
  have hgs : ∀ cap : Nat, setSeg (flC rloC m.rel ++ List.replicate ((cap - m.rel.length) * 3) AV.any) (q2 * 3 + 1) [.v (.int .i64 (IntKind.i64.wrap (rl.len + b)))] = flC rloC (m.rel.set q2 ⟨rl.at_, IntKind.i64.wrap (rl.len + b), rl.neg⟩) ++ List.replicate ((cap - m.rel.length) * 3) AV.any := fun cap => flC_set (k := q2) rloC_len hrl _ 1 _ rfl (by simp)
  have hlc : (flC rloC m.rel).length = m.rel.length * 3 := flC_length rloC_len _
  have hcd : ∀ cap : Nat, q2 * 3 + 1 + 1 ≤ m.rel.length * 3 + (cap - m.rel.length) * 3 := fun cap => by omega
  refine ⟨⟨m.text, m.rel.set q2 ⟨rl.at_, IntKind.i64.wrap (rl.len + b), rl.neg⟩, m.seg, m.entry⟩, ⟨by simp <;> omega, by simp <;> omega, by simp <;> omega⟩, ?_⟩
  refine sound_of_U Try.func18 rfl (by decide +kernel) (by simp [Try.f18]) (by simp [AV.rfL, AV.rf]) (by simp [AV.tlL, AV.tl]) (rs := [.cell 6 40]) rfl ?_
  rw [show Try.f18.ntmps = 133 from rfl]
  refine W_evK [1, 2, 3, 6] (by simp; rfl) ?_
  refine W_rK [1, 2, 3, 6] ?_
  refine runA_pre 1 (by simp; rfl) rfl ?_
  refine runA_obj (f := 33) (args := [lmA m]) (by simp) (by simp) (sp_thawR hm hr0 fun cap hc1 hc2 => ?_)
  refine ⟨_, by simp; rfl, ?_⟩
  refine runA_fin (by simp [setSeg]; rfl) ?_
  refine W_dvK [1, 2, 3, 6, 7] mx (by decide +kernel) (by simp [e16, w16, i16, hrm, wq, hql, hqi, hsg0, hl0n, hl0i, hsgg]; rfl) ?_
  refine W_seq ?_
  refine W_evK [1, 2, 3, 6, 7, 22] (by simp [hk10, wk]; rfl) ?_
  refine W_block ?_
  refine W_evK [1, 2, 3, 6, 7, 22, 23] (by simp; rfl) ?_
  refine W_cond rfl (fun h => by simp at h) (fun h => ?_)
  refine W_evK [1, 2, 3, 6, 7, 22, 34] (by simp; rfl) ?_
  refine W_cond rfl (fun h => by simp at h) (fun h => ?_)
  refine W_evK [1, 2, 3, 6, 7, 22, 45] (by simp; rfl) ?_
  refine W_cond rfl (fun h => by simp at h) (fun h => ?_)
  refine W_evK [1, 2, 3, 6, 7, 22, 56] (by simp; rfl) ?_
  refine W_cond rfl (fun h => by simp at h) (fun h => ?_)
  refine W_evK [1, 2, 3, 6, 22, 67] (by simp; rfl) ?_
  refine W_cond rfl (fun h => by simp at h) (fun h => ?_)
  refine W_evK [1, 2, 3, 6, 22, 74] (by simp; rfl) ?_
  refine W_cond rfl (fun h => by simp at h) (fun h => ?_)
  refine W_evK [1, 2, 3, 6, 81] (by simp; rfl) ?_
  refine W_cond rfl (fun h => by simp at h) (fun h => ?_)
  refine W_skip ?_
  refine W_seq ?_
  refine W_evK [1, 2, 3, 6, 87] (by simp [hr1]; rfl) ?_
  refine W_cond rfl (fun h => ?_) (fun h => by simp at h)
  refine W_dvK [1, 2, 3, 6, 8] mx (by decide +kernel) (by simp [e16, w16, i16, hrm2, wq2, hq2l, hq2i, hrl0, hr1, hr1n, hr1i, hrlg]; rfl) ?_
  refine W_evK [2, 3, 6, 8, 99] (by simp [hk10, wk]; rfl) ?_
  refine W_block ?_
  refine W_evK [2, 3, 6, 8, 99, 100] (by simp; rfl) ?_
  refine W_cond rfl (fun h => by simp at h) (fun h => ?_)
  refine W_evK [2, 3, 6, 8, 99, 111] (by simp; rfl) ?_
  refine W_cond rfl (fun h => ?_) (fun h => by simp at h)
  refine W_evE [3, 6] (by simp [hgq cap, hgs cap, hlc, hcd cap]; rfl) ?_
  refine W_evK [6] (by simp [setSeg]; rfl) ?_
  refine W_ret ?_
  repeat (first | refine on_ret ?_ | refine in_ret ?_)
  obtain ⟨o, h', hf, ho⟩ := frz_fl (F := rloC) (sz := 3) (ty := 85) (id := 2) (k := (cap - m.rel.length) * 3) (cap := cap) (l := m.rel.set q2 ⟨rl.at_, IntKind.i64.wrap (rl.len + b), rl.neg⟩) (h := [.cells 40 [.lst .any 1 (byL m.text), .arr 2 0 m.rel.length cap, .lst .any 4 (sgL m.seg), .v (.int .i64 m.entry)], .cells 40 [.lst .any 1 (byL m.text), .arr 2 0 m.rel.length cap, .lst .any 4 (sgL m.seg), .v (.int .i64 m.entry)], .cells 85 (flC rloC (m.rel.set q2 ⟨rl.at_, IntKind.i64.wrap (rl.len + b), rl.neg⟩) ++ List.replicate ((cap - m.rel.length) * 3) .any)]) rfl (by simp) (by omega) rloC_len rloC_vals
  refine retU_pl (r0 := .agg [.lst .any 1 (byL m.text), .lst o 3 ((m.rel.set q2 ⟨rl.at_, IntKind.i64.wrap (rl.len + b), rl.neg⟩).map fun x => .agg (rloC x)), .lst .any 4 (sgL m.seg), .v (.int .i64 m.entry)]) ⟨.inr rfl, _, h', by simp; rfl, ?_, by simp [AV.rf, AV.rfL]⟩ (by rcases ho with rfl | rfl <;> rfl)
  simp only [List.length_set] at hf
  simp [hf]
theorem spoil9e (m : LMod) (hm : LSn m) (hr0 : m.rel = []) (n : Nat) (hn : n < 256) (b : Int) (hk : n % 10 = 9) : ∃ m', LSm m' ∧ Sound Try.prog 18 [lmA m, .v (.int .u8 n), .v (.int .i64 b)] (lmA m') := by
  have hl0 : 0 < m.seg.length := List.length_pos_iff.2 hm.s0
  have hls := hm.s
  have hlr := hm.r
  have hlt := hm.t
  have hlt2 : m.text.length + 1 ≤ 140737488355328 := by omega
  have hlr2 : (m.rel.length + 1) * 24 ≤ 140737488355328 := by omega
  have hl0n : ¬ m.seg.length = 0 := by omega
  have hl0i : ¬ (m.seg.length : Int) = 0 := by omega
  obtain ⟨n16, h16⟩ : ∃ n16, n / 16 = n16 := ⟨_, rfl⟩
  have e16 : Int.tdiv (n : Int) 16 = (n16 : Nat) := by rw [← h16]; exact rfl
  have w16 := wu8 (n := (n16 : Nat)) (by omega) (by omega)
  have i16 := w64 (n := (n16 : Nat)) (by omega) (by omega)
  obtain ⟨q, hq⟩ : ∃ q, n16 % m.seg.length = q := ⟨_, rfl⟩
  have hql : q < m.seg.length := by rw [← hq]; exact Nat.mod_lt _ hl0
  have hqi : (q : Int) < m.seg.length := by omega
  have hrm : Int.tmod (n16 : Int) (m.seg.length : Nat) = (q : Nat) := by rw [← hq]; exact rfl
  have wq := w64 (n := (q : Nat)) (by omega) (by omega)
  obtain ⟨sg, hsg⟩ : ∃ sg, m.seg[q]? = some sg := ⟨_, List.getElem?_eq_getElem hql⟩
  have hsg0 : m.seg[q]'hql = sg := by rw [List.getElem?_eq_getElem hql] at hsg; exact Option.some.inj hsg
  have hsgg : (sgL m.seg)[q]? = some (segA sg) := by rw [sgL_get, hsg]; rfl
  have hk10 : Int.tmod (n : Int) 10 = 9 := by rw [show Int.tmod (n : Int) 10 = ((n % 10 : Nat) : Int) from rfl, hk]; rfl
  have wk := wu8 (n := 9) (by omega) (by omega)
  have hr1 : m.rel.length = 0 := by simp [hr0]
  refine ⟨⟨m.text, m.rel, m.seg, m.entry⟩, ⟨by simp <;> omega, by simp <;> omega, by simp <;> omega⟩, ?_⟩
  refine sound_of_U Try.func18 rfl (by decide +kernel) (by simp [Try.f18]) (by simp [AV.rfL, AV.rf]) (by simp [AV.tlL, AV.tl]) (rs := [.cell 6 40]) rfl ?_
  rw [show Try.f18.ntmps = 133 from rfl]
  refine W_evK [1, 2, 3, 6] (by simp; rfl) ?_
  refine W_rK [1, 2, 3, 6] ?_
  refine runA_pre 1 (by simp; rfl) rfl ?_
  refine runA_call (by simp) (by first | (simp; done) | (simp; rfl)) (copyLoad_sound m hm.sm) (by simp; rfl) ?_
  refine runA_fin (by simp [setSeg]; rfl) ?_
  refine W_dvK [1, 2, 3, 6, 7] mx (by decide +kernel) (by simp [e16, w16, i16, hrm, wq, hql, hqi, hsg0, hl0n, hl0i, hsgg]; rfl) ?_
  refine W_seq ?_
  refine W_evK [1, 2, 3, 6, 7, 22] (by simp [hk10, wk]; rfl) ?_
  refine W_block ?_
  refine W_evK [1, 2, 3, 6, 7, 22, 23] (by simp; rfl) ?_
  refine W_cond rfl (fun h => by simp at h) (fun h => ?_)
  refine W_evK [1, 2, 3, 6, 7, 22, 34] (by simp; rfl) ?_
  refine W_cond rfl (fun h => by simp at h) (fun h => ?_)
  refine W_evK [1, 2, 3, 6, 7, 22, 45] (by simp; rfl) ?_
  refine W_cond rfl (fun h => by simp at h) (fun h => ?_)
  refine W_evK [1, 2, 3, 6, 7, 22, 56] (by simp; rfl) ?_
  refine W_cond rfl (fun h => by simp at h) (fun h => ?_)
  refine W_evK [1, 2, 3, 6, 22, 67] (by simp; rfl) ?_
  refine W_cond rfl (fun h => by simp at h) (fun h => ?_)
  refine W_evK [1, 2, 3, 6, 22, 74] (by simp; rfl) ?_
  refine W_cond rfl (fun h => by simp at h) (fun h => ?_)
  refine W_evK [1, 2, 3, 6, 81] (by simp; rfl) ?_
  refine W_cond rfl (fun h => by simp at h) (fun h => ?_)
  refine W_skip ?_
  refine W_seq ?_
  refine W_evK [1, 2, 3, 6, 87] (by simp [hr0]; rfl) ?_
  refine W_cond rfl (fun h => by simp at h) (fun h => ?_)
  refine W_skip ?_
  refine W_evK [6] (by simp [setSeg]; rfl) ?_
  refine W_ret ?_
  repeat (first | refine on_ret ?_ | refine in_ret ?_)
  exact retU_pl (r0 := .agg _) ⟨.inr rfl, _, _, by simp [setSeg]; rfl, by simp; exact ⟨rfl, rfl⟩, by simp [AV.rf, AV.rfL]⟩ (by simp [AV.plain, AV.plainL, hr0])
theorem spoil9n (m : LMod) (hm : LSn m) (hr0 : m.rel ≠ []) (n : Nat) (hn : n < 256) (b : Int) (hk : n % 10 = 9) : ∃ m', LSm m' ∧ Sound Try.prog 18 [lmA m, .v (.int .u8 n), .v (.int .i64 b)] (lmA m') := by
  have hl0 : 0 < m.seg.length := List.length_pos_iff.2 hm.s0
  have hls := hm.s
  have hlr := hm.r
  have hlt := hm.t
  have hlt2 : m.text.length + 1 ≤ 140737488355328 := by omega
  have hlr2 : (m.rel.length + 1) * 24 ≤ 140737488355328 := by omega
  have hl0n : ¬ m.seg.length = 0 := by omega
  have hl0i : ¬ (m.seg.length : Int) = 0 := by omega
  obtain ⟨n16, h16⟩ : ∃ n16, n / 16 = n16 := ⟨_, rfl⟩
  have e16 : Int.tdiv (n : Int) 16 = (n16 : Nat) := by rw [← h16]; exact rfl
  have w16 := wu8 (n := (n16 : Nat)) (by omega) (by omega)
  have i16 := w64 (n := (n16 : Nat)) (by omega) (by omega)
  obtain ⟨q, hq⟩ : ∃ q, n16 % m.seg.length = q := ⟨_, rfl⟩
  have hql : q < m.seg.length := by rw [← hq]; exact Nat.mod_lt _ hl0
  have hqi : (q : Int) < m.seg.length := by omega
  have hrm : Int.tmod (n16 : Int) (m.seg.length : Nat) = (q : Nat) := by rw [← hq]; exact rfl
  have wq := w64 (n := (q : Nat)) (by omega) (by omega)
  obtain ⟨sg, hsg⟩ : ∃ sg, m.seg[q]? = some sg := ⟨_, List.getElem?_eq_getElem hql⟩
  have hsg0 : m.seg[q]'hql = sg := by rw [List.getElem?_eq_getElem hql] at hsg; exact Option.some.inj hsg
  have hsgg : (sgL m.seg)[q]? = some (segA sg) := by rw [sgL_get, hsg]; rfl
  have hk10 : Int.tmod (n : Int) 10 = 9 := by rw [show Int.tmod (n : Int) 10 = ((n % 10 : Nat) : Int) from rfl, hk]; rfl
  have wk := wu8 (n := 9) (by omega) (by omega)
  have hr1 : 0 < m.rel.length := List.length_pos_iff.2 hr0
  have hr1n : ¬ m.rel.length = 0 := by omega
  have hr1i : ¬ (m.rel.length : Int) = 0 := by omega
  obtain ⟨q2, hq2⟩ : ∃ q, n16 % m.rel.length = q := ⟨_, rfl⟩
  have hq2l : q2 < m.rel.length := by rw [← hq2]; exact Nat.mod_lt _ hr1
  have hq2i : (q2 : Int) < m.rel.length := by omega
  have hrm2 : Int.tmod (n16 : Int) (m.rel.length : Nat) = (q2 : Nat) := by rw [← hq2]; exact rfl
  have wq2 := w64 (n := (q2 : Nat)) (by omega) (by omega)
  obtain ⟨rl, hrl⟩ : ∃ rl, m.rel[q2]? = some rl := ⟨_, List.getElem?_eq_getElem hq2l⟩
  have hrl0 : m.rel[q2]'hq2l = rl := by rw [List.getElem?_eq_getElem hq2l] at hrl; exact Option.some.inj hrl
  have hrlg : (rlL m.rel)[q2]? = some (rloA rl) := by rw [rlL_get, hrl]; rfl
  refine ⟨⟨m.text, m.rel ++ [rl], m.seg, m.entry⟩, ⟨by simp <;> omega, by simp <;> omega, by simp <;> omega⟩, ?_⟩
  refine sound_of_U Try.func18 rfl (by decide +kernel) (by simp [Try.f18]) (by simp [AV.rfL, AV.rf]) (by simp [AV.tlL, AV.tl]) (rs := [.cell 6 40]) rfl ?_
  rw [show Try.f18.ntmps = 133 from rfl]
  refine W_evK [1, 2, 3, 6] (by simp; rfl) ?_
  refine W_rK [1, 2, 3, 6] ?_
  refine runA_pre 1 (by simp; rfl) rfl ?_
  refine runA_call (by simp) (by first | (simp; done) | (simp; rfl)) (copyLoad_sound m hm.sm) (by simp; rfl) ?_
  refine runA_fin (by simp [setSeg]; rfl) ?_
  refine W_dvK [1, 2, 3, 6, 7] mx (by decide +kernel) (by simp [e16, w16, i16, hrm, wq, hql, hqi, hsg0, hl0n, hl0i, hsgg]; rfl) ?_
  refine W_seq ?_
  refine W_evK [1, 2, 3, 6, 7, 22] (by simp [hk10, wk]; rfl) ?_
  refine W_block ?_
  refine W_evK [1, 2, 3, 6, 7, 22, 23] (by simp; rfl) ?_
  refine W_cond rfl (fun h => by simp at h) (fun h => ?_)
  refine W_evK [1, 2, 3, 6, 7, 22, 34] (by simp; rfl) ?_
  refine W_cond rfl (fun h => by simp at h) (fun h => ?_)
  refine W_evK [1, 2, 3, 6, 7, 22, 45] (by simp; rfl) ?_
  refine W_cond rfl (fun h => by simp at h) (fun h => ?_)
  refine W_evK [1, 2, 3, 6, 7, 22, 56] (by simp; rfl) ?_
  refine W_cond rfl (fun h => by simp at h) (fun h => ?_)
  refine W_evK [1, 2, 3, 6, 22, 67] (by simp; rfl) ?_
  refine W_cond rfl (fun h => by simp at h) (fun h => ?_)
  refine W_evK [1, 2, 3, 6, 22, 74] (by simp; rfl) ?_
  refine W_cond rfl (fun h => by simp at h) (fun h => ?_)
  refine W_evK [1, 2, 3, 6, 81] (by simp; rfl) ?_
  refine W_cond rfl (fun h => by simp at h) (fun h => ?_)
  refine W_skip ?_
  refine W_seq ?_
  refine W_evK [1, 2, 3, 6, 87] (by simp [hr1]; rfl) ?_
  refine W_cond rfl (fun h => ?_) (fun h => by simp at h)
  refine W_dvK [1, 2, 3, 6, 8] mx (by decide +kernel) (by simp [e16, w16, i16, hrm2, wq2, hq2l, hq2i, hrl0, hr1, hr1n, hr1i, hrlg]; rfl) ?_
  refine W_evK [2, 3, 6, 8, 99] (by simp [hk10, wk]; rfl) ?_
  refine W_block ?_
  refine W_evK [2, 3, 6, 8, 99, 100] (by simp; rfl) ?_
  refine W_cond rfl (fun h => by simp at h) (fun h => ?_)
  refine W_evK [2, 3, 6, 8, 99, 111] (by simp; rfl) ?_
  refine W_cond rfl (fun h => by simp at h) (fun h => ?_)
  refine W_evK [3, 6, 8, 122] (by simp; rfl) ?_
  refine W_cond rfl (fun h => ?_) (fun h => by simp at h)
  refine W_dvE [3, 6] mx (by decide +kernel) (by simp [setSeg, hlr2]; rfl) ?_
  refine W_evK [6] (by simp [setSeg]; rfl) ?_
  refine W_ret ?_
  repeat (first | refine on_ret ?_ | refine in_ret ?_)
  exact retU_pl (r0 := .agg _) ⟨.inr rfl, _, _, by simp [setSeg]; rfl, by simp; exact ⟨rfl, rfl⟩, by simp [AV.rf, AV.rfL]⟩ (by simp [AV.plain, AV.plainL, hr0, rlL])
end Go.AM
namespace Go.AM
open Go.RowKit Go.Proofs
set_option linter.unusedSimpArgs false
set_option linter.unusedVariables false
set_option maxHeartbeats 8000000
theorem spoilLoad_sound (m : LMod) (hm : LSn m) (n : Nat) (hn : n < 256) (b : Int) : ∃ m', LSm m' ∧ Sound Try.prog 18 [lmA m, .v (.int .u8 n), .v (.int .i64 b)] (lmA m') := by
  have hk : n % 10 = 0 ∨ n % 10 = 1 ∨ n % 10 = 2 ∨ n % 10 = 3 ∨ n % 10 = 4 ∨ n % 10 = 5 ∨ n % 10 = 6 ∨ n % 10 = 7 ∨ n % 10 = 8 ∨ n % 10 = 9 := by omega
  by_cases hr : m.rel = []
  · rcases hk with h | h | h | h | h | h | h | h | h | h
    · exact spoil0e m hm hr n hn b h
    · exact spoil1e m hm hr n hn b h
    · exact spoil2e m hm hr n hn b h
    · exact spoil3e m hm hr n hn b h
    · exact spoil4e m hm hr n hn b h
    · exact spoil5e m hm hr n hn b h
    · exact spoil6e m hm hr n hn b h
    · exact spoil7e m hm hr n hn b h
    · exact spoil8e m hm hr n hn b h
    · exact spoil9e m hm hr n hn b h
  · rcases hk with h | h | h | h | h | h | h | h | h | h
    · exact spoil0n m hm hr n hn b h
    · exact spoil1n m hm hr n hn b h
    · exact spoil2n m hm hr n hn b h
    · exact spoil3n m hm hr n hn b h
    · exact spoil4n m hm hr n hn b h
    · exact spoil5n m hm hr n hn b h
    · exact spoil6n m hm hr n hn b h
    · exact spoil7n m hm hr n hn b h
    · exact spoil8n m hm hr n hn b h
    · exact spoil9n m hm hr n hn b h
end Go.AM
namespace Go.AM
open Go.RowKit Go.Proofs
set_option linter.unusedSimpArgs false
set_option linter.unusedVariables false
set_option maxHeartbeats 8000000
theorem segLd_ok (x : SeedM) : ∀ (f i : Nat) (s : List Seg) (t : List UInt8), s.length = i → t.length ≤ 4000 * i → (∀ g ∈ s, SI g) → i + f = 41 →
    (segLd x f i s t).1.length ≤ 41 ∧ (segLd x f i s t).2.length ≤ 4000 * 41 ∧ i ≤ (segLd x f i s t).1.length
  | 0, i, s, t, h1, h2, h3, h4 => by
    rw [segLd]
    simp only
    omega
  | f + 1, i, s, t, h1, h2, h3, h4 => by
    have hb := mkSeg_bd (x := x) (tl := t.length) h3 h1
    obtain ⟨b1, b2, b3, b4, b5⟩ := hb
    rw [segLd]
    split
    · split
      · simp only; omega
      · rename_i hc hn
        have hS := mkSeg_SI (x := x) h3 h1 (by omega) hn
        have := segLd_ok x f (i + 1) (s ++ [mkSeg x i s t.length]) (t ++ dataM x.data i (mkSeg x i s t.length).len.toNat) (by simp [h1]) (by simp; omega) (by
          intro g hg
          simp only [List.mem_append, List.mem_singleton] at hg
          rcases hg with hg | rfl
          · exact h3 g hg
          · exact hS) (by omega)
        omega
    · simp only; omega
theorem relLd_ok (rl : List Nat) (segs : List Seg) : ∀ (f i a : Nat) (acc : List Rlo), (relLd rl segs f i a acc).length ≤ acc.length + f
  | 0, i, a, acc => by simp [relLd]
  | f + 1, i, a, acc => by
    rw [relLd]
    split
    · split
      · omega
      · have := relLd_ok rl segs f (i + 1) (a + (rl.getD (i % rl.length) 0) % 9 + (1 + (rl.getD (i % rl.length) 0) / 9 % 4)) (if segs.any (cov (mkRlo (rl.getD (i % rl.length) 0) a)) = true then acc ++ [mkRlo (rl.getD (i % rl.length) 0) a] else acc)
        have h2 : (if segs.any (cov (mkRlo (rl.getD (i % rl.length) 0) a)) = true then acc ++ [mkRlo (rl.getD (i % rl.length) 0) a] else acc).length ≤ acc.length + 1 := by split <;> simp
        omega
    · omega
theorem loadM_ok (x : SeedM) : LSn (loadM x) := by
  have h := segLd_ok x 41 0 [] [] rfl (by simp) (by simp) rfl
  have hr := relLd_ok x.rlds (segLd x 41 0 [] []).1 1001 0 0 []
  simp only [List.length_nil] at hr
  have h0 : (segLd x 41 0 [] []).1 ≠ [] := by
    have hb := mkSeg_bd (x := x) (i := 0) (tl := 0) (segs := []) (by simp) rfl
    obtain ⟨b1, b2, b3, b4, b5⟩ := hb
    have b6 := b5 rfl
    have hS := mkSeg_SI (x := x) (i := 0) (tl := 0) (segs := []) (by simp) rfl (by omega) (by omega)
    rw [show (41 : Nat) = 40 + 1 from rfl, segLd, if_pos (by omega), if_neg (by simp only [List.length_nil]; omega)]
    have := (segLd_ok x 40 1 ([] ++ [mkSeg x 0 [] 0]) ([] ++ dataM x.data 0 (mkSeg x 0 [] 0).len.toNat) rfl (by simp; omega) (by simpa using hS) rfl).2.2
    intro he
    simp only [List.length_nil] at he
    rw [he] at this
    simp at this
  exact ⟨by simp only [loadM]; omega, by simp only [loadM]; omega, by simp only [loadM]; omega, by simpa only [loadM] using h0⟩
theorem cutM_ok (m : LMod) : LSm (cutM m) := ⟨by simp [cutM]; omega, by simp [cutM]; omega, by simp [cutM]; omega⟩
theorem loads_sound (m : LMod) (x : SeedM) (hx : ∀ n ∈ x.rlds, n < 65536) (hl1 : x.esds.length ≤ 9223372036854775000) (hl2 : x.rlds.length ≤ 9223372036854775000) (hl3 : x.data.length ≤ 9223372036854775000) (n : Nat) (hn : n < 256) (b : Int) :
    Sound Try.prog 4 [lmA m, seedA x, .v (.int .u8 n), .v (.int .i64 b)] (.v (.bool true)) := by
  have hL := loadM_ok x
  have hload := load_sound x hx hl1 hl2 hl3
  obtain ⟨M, hM⟩ : ∃ M, loadM x = M := ⟨_, rfl⟩
  rw [hM] at hL hload
  have hc := cutLoad_sound m
  have hc1 := lawLoad_sound _ (cutM_ok m)
  obtain ⟨C, hC⟩ : ∃ C, cutM m = C := ⟨_, rfl⟩
  rw [hC] at hc hc1
  have h1 := lawLoad_sound M hL.sm
  obtain ⟨S1, hS1, hs1⟩ := spoilLoad_sound M hL n hn b
  have h2 := lawLoad_sound S1 hS1
  obtain ⟨b2, hb2⟩ : ∃ b2, IntKind.i64.wrap (b.tmod 5 - 2) = b2 := ⟨_, rfl⟩
  obtain ⟨S2, hS2, hs2⟩ := spoilLoad_sound M hL n hn b2
  have h3 := lawLoad_sound S2 hS2
  refine sound_of_W Try.func4 rfl (by decide +kernel) (by simp [Try.f4]) (by simp [AV.rfL, AV.rf]) (by simp [AV.tlL, AV.tl]) (rs := [.tmp 8]) rfl ?_
  rw [show Try.f4.ntmps = 38 from rfl]
  refine W_evK [2, 3, 4, 5] (by simp; rfl) ?_
  refine W_rK [2, 3, 4, 9] ?_
  refine runA_pre 1 (by simp; rfl) rfl ?_
  refine runA_call (by simp) (by first | (simp; done) | (simp; rfl)) hload (by simp; rfl) ?_
  refine runA_fin (by simp [setSeg]; rfl) ?_
  refine W_rK [8] ?_
  refine runA_pre 1 (by simp; rfl) rfl ?_
  refine runA_call (by simp) (by first | (simp; done) | (simp; rfl)) hc (by simp; rfl) ?_
  refine runA_call (by simp) (by first | (simp; done) | (simp; rfl)) hc1 (by simp; rfl) ?_
  refine runA_pre 2 (by simp; rfl) rfl ?_
  refine runA_call (by simp) (by first | (simp; done) | (simp; rfl)) h1 (by simp; rfl) ?_
  refine runA_pre 5 (by simp; rfl) rfl ?_
  refine runA_call (by simp) (by first | (simp; done) | (simp; rfl)) hs1 (by simp; rfl) ?_
  refine runA_call (by simp) (by first | (simp; done) | (simp; rfl)) h2 (by simp; rfl) ?_
  refine runA_pre 7 (by simp [hb2]; rfl) rfl ?_
  refine runA_call (by simp) (by first | (simp; done) | (simp; rfl)) hs2 (by simp; rfl) ?_
  refine runA_call (by simp) (by first | (simp; done) | (simp; rfl)) h3 (by simp; rfl) ?_
  refine runA_pre 2 (by simp; rfl) rfl ?_
  refine runA_call (by simp) (by first | (simp; done) | (simp; rfl)) works_sound (by simp; rfl) ?_
  refine runA_fin (by simp; rfl) ?_
  refine W_ret ?_
  repeat (first | refine on_ret ?_ | refine in_ret ?_)
  simp [retQ]
end Go.AM
namespace Go.AM
open Go.RowKit Go.Proofs
set_option linter.unusedSimpArgs false
set_option linter.unusedVariables false
set_option maxHeartbeats 1000000
structure TF (P : Program) : Prop where
  u3 : P.underlying 3 = some (.int .i64)
  u4 : P.underlying 4 = some .bool
  u5 : P.underlying 5 = some (.int .u8)
  u56 : P.underlying 56 = some (.int .u16)
  u27 : P.underlying 27 = some (.slice 5)
  u28 : P.underlying 28 = some (.slice 56)
  u37 : P.underlying 37 = some (.slice 85)
  u38 : P.underlying 38 = some (.slice 83)
  c5 : P.cellsOf 5 = 1
  c56 : P.cellsOf 56 = 1
  c85 : P.cellsOf 85 = 3
  c83 : P.cellsOf 83 = 4
  c40 : P.cellsOf 40 = 4
  c30 : P.cellsOf 30 = 5
  b5 : P.bytesOf 5 = 1
  b56 : P.bytesOf 56 = 2
  f85 : flds P 85 = some [(3, 0, 1), (3, 1, 1), (4, 2, 1)]
  f83 : flds P 83 = some [(3, 0, 1), (3, 1, 1), (3, 2, 1), (3, 3, 1)]
  f40 : flds P 40 = some [(27, 0, 1), (37, 1, 1), (38, 2, 1), (3, 3, 1)]
  f30 : flds P 30 = some [(27, 0, 1), (28, 1, 1), (28, 2, 1), (5, 3, 1), (27, 4, 1)]
theorem tf : TF Try.prog := ⟨by kernel_rfl, by kernel_rfl, by kernel_rfl, by kernel_rfl, by kernel_rfl, by kernel_rfl, by kernel_rfl, by kernel_rfl, by kernel_rfl, by kernel_rfl, by kernel_rfl, by kernel_rfl, by kernel_rfl, by kernel_rfl, by kernel_rfl, by kernel_rfl, by kernel_rfl, by kernel_rfl, by kernel_rfl, by kernel_rfl⟩
section
variable {P : Program}
theorem ty_slice {n : Nat} {t e : TypeId} {x : AV} (hu : P.underlying t = some (.slice e)) (h : TyV P (n + 1) t x) : ∃ o l, x = .lst o (P.cellsOf e) l ∧ l.length ≤ maxLen ∧ l.length * P.bytesOf e ≤ 140737488351232 ∧ ∀ y ∈ l, TyV P n e y := by
  rcases h with ⟨h1, _⟩ | ⟨_, h⟩
  · simp [isSt, hu] at h1
  · simp only [TyC, hu] at h
    obtain ⟨o, l, hl, hmax, _, _, hx⟩ := h
    simp only [List.cons.injEq, and_true] at hl
    exact ⟨o, l, hl, hmax.1, hmax.2, hx⟩
theorem dpL_choose {β : Type} {F : β → AV} {Q : β → Prop} : ∀ {l : List AV}, (∀ y ∈ l, ∃ b, y.dp = F b ∧ Q b) → ∃ bs : List β, AV.dpL l = bs.map F ∧ bs.length = l.length ∧ ∀ b ∈ bs, Q b
  | [], _ => ⟨[], rfl, rfl, by simp⟩
  | y :: l, h => by
    obtain ⟨b, h1, h2⟩ := h y (by simp)
    obtain ⟨bs, k1, k2, k3⟩ := dpL_choose (l := l) fun y hy => h y (by simp [hy])
    refine ⟨b :: bs, by simp [AV.dpL, h1, k1], by simp [k2], fun c hc => ?_⟩
    rcases List.mem_cons.1 hc with rfl | hc
    · exact h2
    · exact k3 c hc
theorem len3 {α : Type} {l : List α} (h : l.length = 3) : ∃ a b c, l = [a, b, c] := by
  match l, h with
  | [a, b, c], _ => exact ⟨a, b, c, rfl⟩
theorem len4 {α : Type} {l : List α} (h : l.length = 4) : ∃ a b c d, l = [a, b, c, d] := by
  match l, h with
  | [a, b, c, d], _ => exact ⟨a, b, c, d, rfl⟩
theorem len5 {α : Type} {l : List α} (h : l.length = 5) : ∃ a b c d e, l = [a, b, c, d, e] := by
  match l, h with
  | [a, b, c, d, e], _ => exact ⟨a, b, c, d, e, rfl⟩
theorem fldAt {n : Nat} {ys : List AV} {l : List (TypeId × Nat × Nat)} (hf : ∀ p ∈ l, TyC P n p.1 ((ys.drop p.2.1).take p.2.2)) (t : TypeId) (i : Nat) (x : AV) (hm : (t, i, 1) ∈ l) (hx : ys[i]? = some x) (hs : isSt P t = false) : TyV P n t x := by
  have h := hf _ hm
  simp only at h
  have e : (ys.drop i).take 1 = [x] := by
    obtain ⟨h1, h2⟩ := List.getElem?_eq_some_iff.1 hx
    rw [List.drop_eq_getElem_cons h1, h2]; rfl
  rw [e] at h
  exact .inr ⟨hs, h⟩
theorem ty_rlo (T : TF P) {n : Nat} {x : AV} (h : TyV P (n + 2) 85 x) : ∃ r : Rlo, x.dp = rloA r := by
  obtain ⟨ys, rfl, hl, hf⟩ := ty_struct T.f85 T.c85 h
  obtain ⟨a, b, c, rfl⟩ := len3 hl
  obtain ⟨m0, rfl, _⟩ := ty_int T.u3 (fldAt hf 3 0 _ (by simp) rfl (by simp [isSt, T.u3]))
  obtain ⟨m1, rfl, _⟩ := ty_int T.u3 (fldAt hf 3 1 _ (by simp) rfl (by simp [isSt, T.u3]))
  obtain ⟨b2, rfl⟩ := ty_bool T.u4 (fldAt hf 4 2 _ (by simp) rfl (by simp [isSt, T.u4]))
  exact ⟨⟨m0, m1, b2⟩, by simp [AV.dp, AV.dpL]⟩
theorem ty_seg (T : TF P) {n : Nat} {x : AV} (h : TyV P (n + 2) 83 x) : ∃ r : Seg, x.dp = segA r := by
  obtain ⟨ys, rfl, hl, hf⟩ := ty_struct T.f83 T.c83 h
  obtain ⟨a, b, c, d, rfl⟩ := len4 hl
  obtain ⟨m0, rfl, _⟩ := ty_int T.u3 (fldAt hf 3 0 _ (by simp) rfl (by simp [isSt, T.u3]))
  obtain ⟨m1, rfl, _⟩ := ty_int T.u3 (fldAt hf 3 1 _ (by simp) rfl (by simp [isSt, T.u3]))
  obtain ⟨m2, rfl, _⟩ := ty_int T.u3 (fldAt hf 3 2 _ (by simp) rfl (by simp [isSt, T.u3]))
  obtain ⟨m3, rfl, _⟩ := ty_int T.u3 (fldAt hf 3 3 _ (by simp) rfl (by simp [isSt, T.u3]))
  exact ⟨⟨m0, m1, m2, m3⟩, by simp [AV.dp, AV.dpL]⟩
theorem ty_lmod (T : TF P) {n : Nat} {x : AV} (h : TyV P (n + 5) 40 x) : ∃ m : LMod, x.dp = lmA m := by
  obtain ⟨ys, rfl, hl, hf⟩ := ty_struct T.f40 T.c40 h
  obtain ⟨a, b, c, d, rfl⟩ := len4 hl
  obtain ⟨o0, t, rfl, _⟩ := ty_bytes T.u27 T.u5 T.c5 (fldAt hf 27 0 _ (by simp) rfl (by simp [isSt, T.u27]))
  obtain ⟨o1, l1, rfl, _, _, hr⟩ := ty_slice (n := n + 3) T.u37 (fldAt hf 37 1 _ (by simp) rfl (by simp [isSt, T.u37]))
  obtain ⟨o2, l2, rfl, _, _, hs⟩ := ty_slice (n := n + 3) T.u38 (fldAt hf 38 2 _ (by simp) rfl (by simp [isSt, T.u38]))
  obtain ⟨m3, rfl, _⟩ := ty_int T.u3 (fldAt hf 3 3 _ (by simp) rfl (by simp [isSt, T.u3]))
  obtain ⟨r, hr1, _⟩ := dpL_choose (F := rloA) (Q := fun _ => True) fun y hy => by obtain ⟨r, h⟩ := ty_rlo T (hr y hy); exact ⟨r, h, trivial⟩
  obtain ⟨s, hs1, _⟩ := dpL_choose (F := segA) (Q := fun _ => True) fun y hy => by obtain ⟨r, h⟩ := ty_seg T (hs y hy); exact ⟨r, h, trivial⟩
  have e : AV.dpL (t.map fun b : UInt8 => AV.v (.int .u8 b.toNat)) = byL t := dpL_byL t
  refine ⟨⟨t, r, s, m3⟩, ?_⟩
  simp only [AV.dp, AV.dpL, e, hr1, hs1, T.c85, T.c83]
  rfl
theorem ty_u16 {n : Nat} {t : TypeId} {x : AV} (hu : P.underlying t = some (.int .u16)) (h : TyV P (n + 1) t x) : ∃ b : Nat, x = .v (.int .u16 b) ∧ b < 65536 := by
  obtain ⟨m, rfl, h1, h2⟩ := ty_int hu h
  rw [show IntKind.u16.min = 0 from by decide +kernel] at h1
  rw [show IntKind.u16.max = 65535 from by decide +kernel] at h2
  obtain ⟨b, rfl⟩ : ∃ b : Nat, m = b := ⟨m.toNat, by omega⟩
  exact ⟨b, rfl, by omega⟩
theorem ty_u16s (T : TF P) {n : Nat} {x : AV} (h : TyV P (n + 3) 28 x) : ∃ l : List Nat, x.dp = .lst .any 1 (u16L l) ∧ l.length ≤ 140737488351232 ∧ ∀ n ∈ l, n < 65536 := by
  obtain ⟨o, l, rfl, _, hl, hy⟩ := ty_slice T.u28 h
  rw [T.b56] at hl
  obtain ⟨bs, h1, h2, h3⟩ := dpL_choose (F := fun n : Nat => AV.v (.int .u16 n)) (Q := fun n => n < 65536) (l := l) fun y hm => by
    obtain ⟨b, rfl, hb⟩ := ty_u16 T.u56 (hy y hm)
    exact ⟨b, rfl, hb⟩
  exact ⟨bs, by simp only [AV.dp, h1, T.c56]; rfl, by rw [h2]; omega, h3⟩
theorem ty_seed (T : TF P) {n : Nat} {x : AV} (h : TyV P (n + 5) 30 x) : ∃ m : SeedM, x.dp = seedA m ∧ (∀ n ∈ m.txts, n < 65536) ∧ (∀ n ∈ m.rlds, n < 65536) ∧ m.esds.length ≤ 9223372036854775000 ∧ m.txts.length ≤ 9223372036854775000 ∧ m.rlds.length ≤ 9223372036854775000 ∧ m.data.length ≤ 9223372036854775000 := by
  obtain ⟨ys, rfl, hl, hf⟩ := ty_struct T.f30 T.c30 h
  obtain ⟨a, b, c, d, e, rfl⟩ := len5 hl
  obtain ⟨o0, t, rfl, _, k0⟩ := ty_bytes T.u27 T.u5 T.c5 (fldAt hf 27 0 _ (by simp) rfl (by simp [isSt, T.u27]))
  obtain ⟨l1, h1, k1, b1⟩ := ty_u16s T (n := n + 1) (fldAt hf 28 1 _ (by simp) rfl (by simp [isSt, T.u28]))
  obtain ⟨l2, h2, k2, b2⟩ := ty_u16s T (n := n + 1) (fldAt hf 28 2 _ (by simp) rfl (by simp [isSt, T.u28]))
  obtain ⟨u, rfl⟩ := ty_u8 T.u5 (fldAt hf 5 3 _ (by simp) rfl (by simp [isSt, T.u5]))
  obtain ⟨o4, t4, rfl, _, k4⟩ := ty_bytes T.u27 T.u5 T.c5 (fldAt hf 27 4 _ (by simp) rfl (by simp [isSt, T.u27]))
  have e : AV.dpL (t.map fun b : UInt8 => AV.v (.int .u8 b.toNat)) = byL t := dpL_byL t
  have e4 : AV.dpL (t4.map fun b : UInt8 => AV.v (.int .u8 b.toNat)) = byL t4 := dpL_byL t4
  rw [T.b5] at k0 k4
  refine ⟨⟨t, l1, l2, u, t4⟩, ?_, b1, b2, by simp only; omega, by simp only; omega, by simp only; omega, by simp only; omega⟩
  simp only [AV.dp, AV.dpL, e, e4, seedA, h1, h2]
theorem tyAll4 {n : Nat} {a b c d : TypeId} {xs : List AV} (h : TyAll P n [a, b, c, d] xs) : ∃ x y z w, xs = [x, y, z, w] ∧ TyV P n a x ∧ TyV P n b y ∧ TyV P n c z ∧ TyV P n d w := by
  match xs with
  | [] => exact h.elim
  | [_] => exact h.2.elim
  | [_, _] => exact h.2.2.elim
  | [_, _, _] => exact h.2.2.2.elim
  | _ :: _ :: _ :: _ :: _ :: _ => exact h.2.2.2.2.elim
  | [x, y, z, w] => exact ⟨x, y, z, w, rfl, h.1, h.2.1, h.2.2.1, h.2.2.2.1⟩
end
theorem loads_law {n : Nat} {xs : List AV} (hx : TyAll Try.prog (n + 5) [40, 30, 5, 3] xs) : Sound Try.prog 4 xs (.v (.bool true)) := by
  obtain ⟨x, y, z, w, rfl, h1, h2, h3, h4⟩ := tyAll4 hx
  obtain ⟨m, hm⟩ := ty_lmod tf h1
  obtain ⟨s, hs, _, k2, k3, _, k5, k6⟩ := ty_seed tf h2
  obtain ⟨u, rfl⟩ := ty_u8 tf.u5 h3
  obtain ⟨b, rfl, _⟩ := ty_int tf.u3 h4
  refine Sound.dp ?_
  have e : AV.dpL [x, y, AV.v (.int .u8 u.toNat), AV.v (.int .i64 b)] = [lmA m, seedA s, .v (.int .u8 u.toNat), .v (.int .i64 b)] := by simp only [AV.dpL, AV.dp, hm, hs]
  rw [e]
  exact loads_sound m s k2 k3 k5 k6 u.toNat u.toNat_lt b
end Go.AM
