/- Parts of the walk: C31LH C31LI. -/
import Derived.Test.YtlhaljblcimnbaaG8
namespace Go.AM
open Go.RowKit Go.Proofs
set_option linter.unusedSimpArgs false
set_option linter.unusedVariables false
set_option maxHeartbeats 8000000
theorem spoil0e (m : LMod) (hm : LSn m) (hr0 : m.rel = []) (n : Nat) (hn : n < 256) (b : Int) (hk : n % 10 = 0) : ∃ m', LSm m' ∧ Sound Try.prog 18 [lmA m, .v (.int .u8 n), .v (.int .i64 b)] (lmA m') := by
  have hl0 : 0 < m.seg.length := List.length_pos_iff.2 hm.s0
  have hls := hm.s
  have hlr := hm.r
  have hlt := hm.t
  have hlt2 : m.text.length + 1 ≤ 140737488355328 := by omega
  have hlr2 : (m.rel.length + 1) * 24 ≤ 140737488355328 := by omega
  have hl0n : ¬ m.seg.length = 0 := by omega
  have hl0i : ¬ (m.seg.length : Int) = 0 := by omega
  obtain ⟨n16, h16⟩ : ∃ n16, n / 16 = n16 := ⟨_, rfl⟩
  have e16 : Int.tdiv (n : Int) 16 = (n16 : Nat) := by rw [← h16]; exact rfl
  have w16 := wu8 (n := (n16 : Nat)) (by omega) (by omega)
  have i16 := w64 (n := (n16 : Nat)) (by omega) (by omega)
  obtain ⟨q, hq⟩ : ∃ q, n16 % m.seg.length = q := ⟨_, rfl⟩
  have hql : q < m.seg.length := by rw [← hq]; exact Nat.mod_lt _ hl0
  have hqi : (q : Int) < m.seg.length := by omega
  have hrm : Int.tmod (n16 : Int) (m.seg.length : Nat) = (q : Nat) := by rw [← hq]; exact rfl
  have wq := w64 (n := (q : Nat)) (by omega) (by omega)
  obtain ⟨sg, hsg⟩ : ∃ sg, m.seg[q]? = some sg := ⟨_, List.getElem?_eq_getElem hql⟩
  have hsg0 : m.seg[q]'hql = sg := by rw [List.getElem?_eq_getElem hql] at hsg; exact Option.some.inj hsg
  have hsgg : (sgL m.seg)[q]? = some (segA sg) := by rw [sgL_get, hsg]; rfl
  have hk10 : Int.tmod (n : Int) 10 = 0 := by rw [show Int.tmod (n : Int) 10 = ((n % 10 : Nat) : Int) from rfl, hk]; rfl
  have wk := wu8 (n := 0) (by omega) (by omega)
  have hr1 : m.rel.length = 0 := by simp [hr0]
  have hgq : ∀ cap : Nat, (flC segC m.seg ++ List.replicate ((cap - m.seg.length) * 4) AV.any)[q * 4]? = some (.v (.int .i64 sg.par)) := fun cap => flC_get segC_len hsg _ 0 (by omega)
  have hgs : ∀ cap : Nat, setSeg (flC segC m.seg ++ List.replicate ((cap - m.seg.length) * 4) AV.any) (q * 4) [.v (.int .i64 (IntKind.i64.wrap (sg.par + b)))] = flC segC (m.seg.set q ⟨IntKind.i64.wrap (sg.par + b), sg.org, sg.frm, sg.len⟩) ++ List.replicate ((cap - m.seg.length) * 4) AV.any := fun cap => flC_set (k := q) segC_len hsg _ 0 _ rfl (by simp)
  have hlc : (flC segC m.seg).length = m.seg.length * 4 := flC_length segC_len _
  have hcd : ∀ cap : Nat, q * 4 + 1 ≤ m.seg.length * 4 + (cap - m.seg.length) * 4 := fun cap => by omega
  refine ⟨⟨m.text, m.rel, m.seg.set q ⟨IntKind.i64.wrap (sg.par + b), sg.org, sg.frm, sg.len⟩, m.entry⟩, ⟨by simp <;> omega, by simp <;> omega, by simp <;> omega⟩, ?_⟩
  refine sound_of_U Try.func18 rfl (by decide +kernel) (by simp [Try.f18]) (by simp [AV.rfL, AV.rf]) (by simp [AV.tlL, AV.tl]) (rs := [.cell 6 40]) rfl ?_
  rw [show Try.f18.ntmps = 133 from rfl]
  refine W_evK [1, 2, 3, 6] (by simp; rfl) ?_
  refine W_rK [1, 2, 3, 6] ?_
  refine runA_pre 1 (by simp; rfl) rfl ?_
  refine runA_obj (f := 33) (args := [lmA m]) (by simp) (by simp) (sp_thawS hm fun cap hc1 hc2 => ?_)
  refine ⟨_, by simp; rfl, ?_⟩
  refine runA_fin (by simp [setSeg]; rfl) ?_
  refine W_dvK [1, 2, 3, 6, 7] mx (by decide +kernel) (by simp [e16, w16, i16, hrm, wq, hql, hqi, hsg0, hl0n, hl0i, hsgg]; rfl) ?_
  refine W_seq ?_
  refine W_evK [1, 2, 3, 6, 7, 22] (by simp [hk10, wk]; rfl) ?_
  refine W_block ?_
  refine W_evK [1, 2, 3, 6, 7, 22, 23] (by simp; rfl) ?_
  refine W_cond rfl (fun h => ?_) (fun h => by simp at h)
  refine W_evE [1, 2, 3, 6] (by simp [hgq cap, hgs cap, hlc, hcd cap]; rfl) ?_
  refine W_seq ?_
  refine W_evK [1, 2, 3, 6, 87] (by simp [hr0]; rfl) ?_
  refine W_cond rfl (fun h => by simp at h) (fun h => ?_)
  refine W_skip ?_
  refine W_evK [6] (by simp [setSeg]; rfl) ?_
  refine W_ret ?_
  repeat (first | refine on_ret ?_ | refine in_ret ?_)
  obtain ⟨o, h', hf, ho⟩ := frz_fl (F := segC) (sz := 4) (ty := 83) (id := 2) (k := (cap - m.seg.length) * 4) (cap := cap) (l := m.seg.set q ⟨IntKind.i64.wrap (sg.par + b), sg.org, sg.frm, sg.len⟩) (h := [.cells 40 [.lst .any 1 (byL m.text), .lst .any 3 (rlL m.rel), .arr 2 0 m.seg.length cap, .v (.int .i64 m.entry)], .cells 40 [.lst .any 1 (byL m.text), .lst .any 3 (rlL m.rel), .arr 2 0 m.seg.length cap, .v (.int .i64 m.entry)], .cells 83 (flC segC (m.seg.set q ⟨IntKind.i64.wrap (sg.par + b), sg.org, sg.frm, sg.len⟩) ++ List.replicate ((cap - m.seg.length) * 4) .any)]) rfl (by simp) (by omega) segC_len segC_vals
  refine retU_pl (r0 := .agg [.lst .any 1 (byL m.text), .lst .any 3 (rlL m.rel), .lst o 4 ((m.seg.set q ⟨IntKind.i64.wrap (sg.par + b), sg.org, sg.frm, sg.len⟩).map fun x => .agg (segC x)), .v (.int .i64 m.entry)]) ⟨.inr rfl, _, h', by simp; rfl, ?_, by simp [AV.rf, AV.rfL]⟩ (by rcases ho with rfl | rfl <;> rfl)
  simp only [List.length_set, hr0] at hf
  simp [hf, hr0]
theorem spoil0n (m : LMod) (hm : LSn m) (hr0 : m.rel ≠ []) (n : Nat) (hn : n < 256) (b : Int) (hk : n % 10 = 0) : ∃ m', LSm m' ∧ Sound Try.prog 18 [lmA m, .v (.int .u8 n), .v (.int .i64 b)] (lmA m') := by
  have hl0 : 0 < m.seg.length := List.length_pos_iff.2 hm.s0
  have hls := hm.s
  have hlr := hm.r
  have hlt := hm.t
  have hlt2 : m.text.length + 1 ≤ 140737488355328 := by omega
  have hlr2 : (m.rel.length + 1) * 24 ≤ 140737488355328 := by omega
  have hl0n : ¬ m.seg.length = 0 := by omega
  have hl0i : ¬ (m.seg.length : Int) = 0 := by omega
  obtain ⟨n16, h16⟩ : ∃ n16, n / 16 = n16 := ⟨_, rfl⟩
  have e16 : Int.tdiv (n : Int) 16 = (n16 : Nat) := by rw [← h16]; exact rfl
  have w16 := wu8 (n := (n16 : Nat)) (by omega) (by omega)
  have i16 := w64 (n := (n16 : Nat)) (by omega) (by omega)
  obtain ⟨q, hq⟩ : ∃ q, n16 % m.seg.length = q := ⟨_, rfl⟩
  have hql : q < m.seg.length := by rw [← hq]; exact Nat.mod_lt _ hl0
  have hqi : (q : Int) < m.seg.length := by omega
  have hrm : Int.tmod (n16 : Int) (m.seg.length : Nat) = (q : Nat) := by rw [← hq]; exact rfl
  have wq := w64 (n := (q : Nat)) (by omega) (by omega)
  obtain ⟨sg, hsg⟩ : ∃ sg, m.seg[q]? = some sg := ⟨_, List.getElem?_eq_getElem hql⟩
  have hsg0 : m.seg[q]'hql = sg := by rw [List.getElem?_eq_getElem hql] at hsg; exact Option.some.inj hsg
  have hsgg : (sgL m.seg)[q]? = some (segA sg) := by rw [sgL_get, hsg]; rfl
  have hk10 : Int.tmod (n : Int) 10 = 0 := by rw [show Int.tmod (n : Int) 10 = ((n % 10 : Nat) : Int) from rfl, hk]; rfl
  have wk := wu8 (n := 0) (by omega) (by omega)
  have hr1 : 0 < m.rel.length := List.length_pos_iff.2 hr0
  have hr1n : ¬ m.rel.length = 0 := by omega
  have hr1i : ¬ (m.rel.length : Int) = 0 := by omega
  obtain ⟨q2, hq2⟩ : ∃ q, n16 % m.rel.length = q := ⟨_, rfl⟩
  have hq2l : q2 < m.rel.length := by rw [← hq2]; exact Nat.mod_lt _ hr1
  have hq2i : (q2 : Int) < m.rel.length := by omega
  have hrm2 : Int.tmod (n16 : Int) (m.rel.length : Nat) = (q2 : Nat) := by rw [← hq2]; exact rfl
  have wq2 := w64 (n := (q2 : Nat)) (by omega) (by omega)
  obtain ⟨rl, hrl⟩ : ∃ rl, m.rel[q2]? = some rl := ⟨_, List.getElem?_eq_getElem hq2l⟩
  have hrl0 : m.rel[q2]'hq2l = rl := by rw [List.getElem?_eq_getElem hq2l] at hrl; exact Option.some.inj hrl
  have hrlg : (rlL m.rel)[q2]? = some (rloA rl) := by rw [rlL_get, hrl]; rfl
  have hgq : ∀ cap : Nat, (flC segC m.seg ++ List.replicate ((cap - m.seg.length) * 4) AV.any)[q * 4]? = some (.v (.int .i64 sg.par)) := fun cap => flC_get segC_len hsg _ 0 (by omega)
  have hgs : ∀ cap : Nat, setSeg (flC segC m.seg ++ List.replicate ((cap - m.seg.length) * 4) AV.any) (q * 4) [.v (.int .i64 (IntKind.i64.wrap (sg.par + b)))] = flC segC (m.seg.set q ⟨IntKind.i64.wrap (sg.par + b), sg.org, sg.frm, sg.len⟩) ++ List.replicate ((cap - m.seg.length) * 4) AV.any := fun cap => flC_set (k := q) segC_len hsg _ 0 _ rfl (by simp)
  have hlc : (flC segC m.seg).length = m.seg.length * 4 := flC_length segC_len _
  have hcd : ∀ cap : Nat, q * 4 + 1 ≤ m.seg.length * 4 + (cap - m.seg.length) * 4 := fun cap => by omega
  refine ⟨⟨m.text, m.rel, m.seg.set q ⟨IntKind.i64.wrap (sg.par + b), sg.org, sg.frm, sg.len⟩, m.entry⟩, ⟨by simp <;> omega, by simp <;> omega, by simp <;> omega⟩, ?_⟩
  refine sound_of_U Try.func18 rfl (by decide +kernel) (by simp [Try.f18]) (by simp [AV.rfL, AV.rf]) (by simp [AV.tlL, AV.tl]) (rs := [.cell 6 40]) rfl ?_
  rw [show Try.f18.ntmps = 133 from rfl]
  refine W_evK [1, 2, 3, 6] (by simp; rfl) ?_
  refine W_rK [1, 2, 3, 6] ?_
  refine runA_pre 1 (by simp; rfl) rfl ?_
  refine runA_obj (f := 33) (args := [lmA m]) (by simp) (by simp) (sp_thawS hm fun cap hc1 hc2 => ?_)
  refine ⟨_, by simp; rfl, ?_⟩
  refine runA_fin (by simp [setSeg]; rfl) ?_
  refine W_dvK [1, 2, 3, 6, 7] mx (by decide +kernel) (by simp [e16, w16, i16, hrm, wq, hql, hqi, hsg0, hl0n, hl0i, hsgg]; rfl) ?_
  refine W_seq ?_
  refine W_evK [1, 2, 3, 6, 7, 22] (by simp [hk10, wk]; rfl) ?_
  refine W_block ?_
  refine W_evK [1, 2, 3, 6, 7, 22, 23] (by simp; rfl) ?_
  refine W_cond rfl (fun h => ?_) (fun h => by simp at h)
  refine W_evE [1, 2, 3, 6] (by simp [hgq cap, hgs cap, hlc, hcd cap]; rfl) ?_
  refine W_seq ?_
  refine W_evK [1, 2, 3, 6, 87] (by simp [hr1]; rfl) ?_
  refine W_cond rfl (fun h => ?_) (fun h => by simp at h)
  refine W_dvK [1, 2, 3, 6, 8] mx (by decide +kernel) (by simp [e16, w16, i16, hrm2, wq2, hq2l, hq2i, hrl0, hr1, hr1n, hr1i, hrlg]; rfl) ?_
  refine W_evK [2, 3, 6, 8, 99] (by simp [hk10, wk]; rfl) ?_
  refine W_block ?_
  refine W_evK [2, 3, 6, 8, 99, 100] (by simp; rfl) ?_
  refine W_cond rfl (fun h => by simp at h) (fun h => ?_)
  refine W_evK [2, 3, 6, 8, 99, 111] (by simp; rfl) ?_
  refine W_cond rfl (fun h => by simp at h) (fun h => ?_)
  refine W_evK [3, 6, 8, 122] (by simp; rfl) ?_
  refine W_cond rfl (fun h => by simp at h) (fun h => ?_)
  refine W_skip ?_
  refine W_evK [6] (by simp [setSeg]; rfl) ?_
  refine W_ret ?_
  repeat (first | refine on_ret ?_ | refine in_ret ?_)
  obtain ⟨o, h', hf, ho⟩ := frz_fl (F := segC) (sz := 4) (ty := 83) (id := 2) (k := (cap - m.seg.length) * 4) (cap := cap) (l := m.seg.set q ⟨IntKind.i64.wrap (sg.par + b), sg.org, sg.frm, sg.len⟩) (h := [.cells 40 [.lst .any 1 (byL m.text), .lst .any 3 (rlL m.rel), .arr 2 0 m.seg.length cap, .v (.int .i64 m.entry)], .cells 40 [.lst .any 1 (byL m.text), .lst .any 3 (rlL m.rel), .arr 2 0 m.seg.length cap, .v (.int .i64 m.entry)], .cells 83 (flC segC (m.seg.set q ⟨IntKind.i64.wrap (sg.par + b), sg.org, sg.frm, sg.len⟩) ++ List.replicate ((cap - m.seg.length) * 4) .any)]) rfl (by simp) (by omega) segC_len segC_vals
  refine retU_pl (r0 := .agg [.lst .any 1 (byL m.text), .lst .any 3 (rlL m.rel), .lst o 4 ((m.seg.set q ⟨IntKind.i64.wrap (sg.par + b), sg.org, sg.frm, sg.len⟩).map fun x => .agg (segC x)), .v (.int .i64 m.entry)]) ⟨.inr rfl, _, h', by simp; rfl, ?_, by simp [AV.rf, AV.rfL]⟩ (by rcases ho with rfl | rfl <;> rfl)
  simp only [List.length_set] at hf
  simp [hf]
theorem spoil1e (m : LMod) (hm : LSn m) (hr0 : m.rel = []) (n : Nat) (hn : n < 256) (b : Int) (hk : n % 10 = 1) : ∃ m', LSm m' ∧ Sound Try.prog 18 [lmA m, .v (.int .u8 n), .v (.int .i64 b)] (lmA m') := by
  have hl0 : 0 < m.seg.length := List.length_pos_iff.2 hm.s0
  have hls := hm.s
  have hlr := hm.r
  have hlt := hm.t
  have hlt2 : m.text.length + 1 ≤ 140737488355328 := by omega
  have hlr2 : (m.rel.length + 1) * 24 ≤ 140737488355328 := by omega
  have hl0n : ¬ m.seg.length = 0 := by omega
  have hl0i : ¬ (m.seg.length : Int) = 0 := by omega
  obtain ⟨n16, h16⟩ : ∃ n16, n / 16 = n16 := ⟨_, rfl⟩
  have e16 : Int.tdiv (n : Int) 16 = (n16 : Nat) := by rw [← h16]; exact rfl
  have w16 := wu8 (n := (n16 : Nat)) (by omega) (by omega)
  have i16 := w64 (n := (n16 : Nat)) (by omega) (by omega)
  obtain ⟨q, hq⟩ : ∃ q, n16 % m.seg.length = q := ⟨_, rfl⟩
  have hql : q < m.seg.length := by rw [← hq]; exact Nat.mod_lt _ hl0
  have hqi : (q : Int) < m.seg.length := by omega
  have hrm : Int.tmod (n16 : Int) (m.seg.length : Nat) = (q : Nat) := by rw [← hq]; exact rfl
  have wq := w64 (n := (q : Nat)) (by omega) (by omega)
  obtain ⟨sg, hsg⟩ : ∃ sg, m.seg[q]? = some sg := ⟨_, List.getElem?_eq_getElem hql⟩
  have hsg0 : m.seg[q]'hql = sg := by rw [List.getElem?_eq_getElem hql] at hsg; exact Option.some.inj hsg
  have hsgg : (sgL m.seg)[q]? = some (segA sg) := by rw [sgL_get, hsg]; rfl
  have hk10 : Int.tmod (n : Int) 10 = 1 := by rw [show Int.tmod (n : Int) 10 = ((n % 10 : Nat) : Int) from rfl, hk]; rfl
  have wk := wu8 (n := 1) (by omega) (by omega)
  have hr1 : m.rel.length = 0 := by simp [hr0]
  have hgq : ∀ cap : Nat, (flC segC m.seg ++ List.replicate ((cap - m.seg.length) * 4) AV.any)[q * 4 + 1]? = some (.v (.int .i64 sg.org)) := fun cap => flC_get segC_len hsg _ 1 (by omega)
  have hgs : ∀ cap : Nat, setSeg (flC segC m.seg ++ List.replicate ((cap - m.seg.length) * 4) AV.any) (q * 4 + 1) [.v (.int .i64 (IntKind.i64.wrap (sg.org + b)))] = flC segC (m.seg.set q ⟨sg.par, IntKind.i64.wrap (sg.org + b), sg.frm, sg.len⟩) ++ List.replicate ((cap - m.seg.length) * 4) AV.any := fun cap => flC_set (k := q) segC_len hsg _ 1 _ rfl (by simp)
  have hlc : (flC segC m.seg).length = m.seg.length * 4 := flC_length segC_len _
  have hcd : ∀ cap : Nat, q * 4 + 1 + 1 ≤ m.seg.length * 4 + (cap - m.seg.length) * 4 := fun cap => by omega
  refine ⟨⟨m.text, m.rel, m.seg.set q ⟨sg.par, IntKind.i64.wrap (sg.org + b), sg.frm, sg.len⟩, m.entry⟩, ⟨by simp <;> omega, by simp <;> omega, by simp <;> omega⟩, ?_⟩
  refine sound_of_U Try.func18 rfl (by decide +kernel) (by simp [Try.f18]) (by simp [AV.rfL, AV.rf]) (by simp [AV.tlL, AV.tl]) (rs := [.cell 6 40]) rfl ?_
  rw [show Try.f18.ntmps = 133 from rfl]
  refine W_evK [1, 2, 3, 6] (by simp; rfl) ?_
  refine W_rK [1, 2, 3, 6] ?_
  refine runA_pre 1 (by simp; rfl) rfl ?_
  refine runA_obj (f := 33) (args := [lmA m]) (by simp) (by simp) (sp_thawS hm fun cap hc1 hc2 => ?_)
  refine ⟨_, by simp; rfl, ?_⟩
  refine runA_fin (by simp [setSeg]; rfl) ?_
  refine W_dvK [1, 2, 3, 6, 7] mx (by decide +kernel) (by simp [e16, w16, i16, hrm, wq, hql, hqi, hsg0, hl0n, hl0i, hsgg]; rfl) ?_
  refine W_seq ?_
  refine W_evK [1, 2, 3, 6, 7, 22] (by simp [hk10, wk]; rfl) ?_
  refine W_block ?_
  refine W_evK [1, 2, 3, 6, 7, 22, 23] (by simp; rfl) ?_
  refine W_cond rfl (fun h => by simp at h) (fun h => ?_)
  refine W_evK [1, 2, 3, 6, 7, 22, 34] (by simp; rfl) ?_
  refine W_cond rfl (fun h => ?_) (fun h => by simp at h)
  refine W_evE [1, 2, 3, 6] (by simp [hgq cap, hgs cap, hlc, hcd cap]; rfl) ?_
  refine W_seq ?_
  refine W_evK [1, 2, 3, 6, 87] (by simp [hr0]; rfl) ?_
  refine W_cond rfl (fun h => by simp at h) (fun h => ?_)
  refine W_skip ?_
  refine W_evK [6] (by simp [setSeg]; rfl) ?_
  refine W_ret ?_
  repeat (first | refine on_ret ?_ | refine in_ret ?_)
  obtain ⟨o, h', hf, ho⟩ := frz_fl (F := segC) (sz := 4) (ty := 83) (id := 2) (k := (cap - m.seg.length) * 4) (cap := cap) (l := m.seg.set q ⟨sg.par, IntKind.i64.wrap (sg.org + b), sg.frm, sg.len⟩) (h := [.cells 40 [.lst .any 1 (byL m.text), .lst .any 3 (rlL m.rel), .arr 2 0 m.seg.length cap, .v (.int .i64 m.entry)], .cells 40 [.lst .any 1 (byL m.text), .lst .any 3 (rlL m.rel), .arr 2 0 m.seg.length cap, .v (.int .i64 m.entry)], .cells 83 (flC segC (m.seg.set q ⟨sg.par, IntKind.i64.wrap (sg.org + b), sg.frm, sg.len⟩) ++ List.replicate ((cap - m.seg.length) * 4) .any)]) rfl (by simp) (by omega) segC_len segC_vals
  refine retU_pl (r0 := .agg [.lst .any 1 (byL m.text), .lst .any 3 (rlL m.rel), .lst o 4 ((m.seg.set q ⟨sg.par, IntKind.i64.wrap (sg.org + b), sg.frm, sg.len⟩).map fun x => .agg (segC x)), .v (.int .i64 m.entry)]) ⟨.inr rfl, _, h', by simp; rfl, ?_, by simp [AV.rf, AV.rfL]⟩ (by rcases ho with rfl | rfl <;> rfl)
  simp only [List.length_set, hr0] at hf
  simp [hf, hr0]
theorem spoil1n (m : LMod) (hm : LSn m) (hr0 : m.rel ≠ []) (n : Nat) (hn : n < 256) (b : Int) (hk : n % 10 = 1) : ∃ m', LSm m' ∧ Sound Try.prog 18 [lmA m, .v (.int .u8 n), .v (.int .i64 b)] (lmA m') := by
  have hl0 : 0 < m.seg.length := List.length_pos_iff.2 hm.s0
  have hls := hm.s
  have hlr := hm.r
  have hlt := hm.t
  have hlt2 : m.text.length + 1 ≤ 140737488355328 := by omega
  have hlr2 : (m.rel.length + 1) * 24 ≤ 140737488355328 := by omega
  have hl0n : ¬ m.seg.length = 0 := by omega
  have hl0i : ¬ (m.seg.length : Int) = 0 := by omega
  obtain ⟨n16, h16⟩ : ∃ n16, n / 16 = n16 := ⟨_, rfl⟩
  have e16 : Int.tdiv (n : Int) 16 = (n16 : Nat) := by rw [← h16]; exact rfl
  have w16 := wu8 (n := (n16 : Nat)) (by omega) (by omega)
  have i16 := w64 (n := (n16 : Nat)) (by omega) (by omega)
  obtain ⟨q, hq⟩ : ∃ q, n16 % m.seg.length = q := ⟨_, rfl⟩
  have hql : q < m.seg.length := by rw [← hq]; exact Nat.mod_lt _ hl0
  have hqi : (q : Int) < m.seg.length := by omega
  have hrm : Int.tmod (n16 : Int) (m.seg.length : Nat) = (q : Nat) := by rw [← hq]; exact rfl
  have wq := w64 (n := (q : Nat)) (by omega) (by omega)
  obtain ⟨sg, hsg⟩ : ∃ sg, m.seg[q]? = some sg := ⟨_, List.getElem?_eq_getElem hql⟩
  have hsg0 : m.seg[q]'hql = sg := by rw [List.getElem?_eq_getElem hql] at hsg; exact Option.some.inj hsg
  have hsgg : (sgL m.seg)[q]? = some (segA sg) := by rw [sgL_get, hsg]; rfl
  have hk10 : Int.tmod (n : Int) 10 = 1 := by rw [show Int.tmod (n : Int) 10 = ((n % 10 : Nat) : Int) from rfl, hk]; rfl
  have wk := wu8 (n := 1) (by omega) (by omega)
  have hr1 : 0 < m.rel.length := List.length_pos_iff.2 hr0
  have hr1n : ¬ m.rel.length = 0 := by omega
  have hr1i : ¬ (m.rel.length : Int) = 0 := by omega
  obtain ⟨q2, hq2⟩ : ∃ q, n16 % m.rel.length = q := ⟨_, rfl⟩
  have hq2l : q2 < m.rel.length := by rw [← hq2]; exact Nat.mod_lt _ hr1
  have hq2i : (q2 : Int) < m.rel.length := by omega
  have hrm2 : Int.tmod (n16 : Int) (m.rel.length : Nat) = (q2 : Nat) := by rw [← hq2]; exact rfl
  have wq2 := w64 (n := (q2 : Nat)) (by omega) (by omega)
  obtain ⟨rl, hrl⟩ : ∃ rl, m.rel[q2]? = some rl := ⟨_, List.getElem?_eq_getElem hq2l⟩
  have hrl0 : m.rel[q2]'hq2l = rl := by rw [List.getElem?_eq_getElem hq2l] at hrl; exact Option.some.inj hrl
  have hrlg : (rlL m.rel)[q2]? = some (rloA rl) := by rw [rlL_get, hrl]; rfl
  have hgq : ∀ cap : Nat, (flC segC m.seg ++ List.replicate ((cap - m.seg.length) * 4) AV.any)[q * 4 + 1]? = some (.v (.int .i64 sg.org)) := fun cap => flC_get segC_len hsg _ 1 (by omega)
  have hgs : ∀ cap : Nat, setSeg (flC segC m.seg ++ List.replicate ((cap - m.seg.length) * 4) AV.any) (q * 4 + 1) [.v (.int .i64 (IntKind.i64.wrap (sg.org + b)))] = flC segC (m.seg.set q ⟨sg.par, IntKind.i64.wrap (sg.org + b), sg.frm, sg.len⟩) ++ List.replicate ((cap - m.seg.length) * 4) AV.any := fun cap => flC_set (k := q) segC_len hsg _ 1 _ rfl (by simp)
  have hlc : (flC segC m.seg).length = m.seg.length * 4 := flC_length segC_len _
  have hcd : ∀ cap : Nat, q * 4 + 1 + 1 ≤ m.seg.length * 4 + (cap - m.seg.length) * 4 := fun cap => by omega
  refine ⟨⟨m.text, m.rel, m.seg.set q ⟨sg.par, IntKind.i64.wrap (sg.org + b), sg.frm, sg.len⟩, m.entry⟩, ⟨by simp <;> omega, by simp <;> omega, by simp <;> omega⟩, ?_⟩
  refine sound_of_U Try.func18 rfl (by decide +kernel) (by simp [Try.f18]) (by simp [AV.rfL, AV.rf]) (by simp [AV.tlL, AV.tl]) (rs := [.cell 6 40]) rfl ?_
  rw [show Try.f18.ntmps = 133 from rfl]
  refine W_evK [1, 2, 3, 6] (by simp; rfl) ?_
  refine W_rK [1, 2, 3, 6] ?_
  refine runA_pre 1 (by simp; rfl) rfl ?_
  refine runA_obj (f := 33) (args := [lmA m]) (by simp) (by simp) (sp_thawS hm fun cap hc1 hc2 => ?_)
  refine ⟨_, by simp; rfl, ?_⟩
  refine runA_fin (by simp [setSeg]; rfl) ?_
  refine W_dvK [1, 2, 3, 6, 7] mx (by decide +kernel) (by simp [e16, w16, i16, hrm, wq, hql, hqi, hsg0, hl0n, hl0i, hsgg]; rfl) ?_
  refine W_seq ?_
  refine W_evK [1, 2, 3, 6, 7, 22] (by simp [hk10, wk]; rfl) ?_
  refine W_block ?_
  refine W_evK [1, 2, 3, 6, 7, 22, 23] (by simp; rfl) ?_
  refine W_cond rfl (fun h => by simp at h) (fun h => ?_)
  refine W_evK [1, 2, 3, 6, 7, 22, 34] (by simp; rfl) ?_
  refine W_cond rfl (fun h => ?_) (fun h => by simp at h)
  refine W_evE [1, 2, 3, 6] (by simp [hgq cap, hgs cap, hlc, hcd cap]; rfl) ?_
  refine W_seq ?_
  refine W_evK [1, 2, 3, 6, 87] (by simp [hr1]; rfl) ?_
  refine W_cond rfl (fun h => ?_) (fun h => by simp at h)
  refine W_dvK [1, 2, 3, 6, 8] mx (by decide +kernel) (by simp [e16, w16, i16, hrm2, wq2, hq2l, hq2i, hrl0, hr1, hr1n, hr1i, hrlg]; rfl) ?_
  refine W_evK [2, 3, 6, 8, 99] (by simp [hk10, wk]; rfl) ?_
  refine W_block ?_
  refine W_evK [2, 3, 6, 8, 99, 100] (by simp; rfl) ?_
  refine W_cond rfl (fun h => by simp at h) (fun h => ?_)
  refine W_evK [2, 3, 6, 8, 99, 111] (by simp; rfl) ?_
  refine W_cond rfl (fun h => by simp at h) (fun h => ?_)
  refine W_evK [3, 6, 8, 122] (by simp; rfl) ?_
  refine W_cond rfl (fun h => by simp at h) (fun h => ?_)
  refine W_skip ?_
  refine W_evK [6] (by simp [setSeg]; rfl) ?_
  refine W_ret ?_
  repeat (first | refine on_ret ?_ | refine in_ret ?_)
  obtain ⟨o, h', hf, ho⟩ := frz_fl (F := segC) (sz := 4) (ty := 83) (id := 2) (k := (cap - m.seg.length) * 4) (cap := cap) (l := m.seg.set q ⟨sg.par, IntKind.i64.wrap (sg.org + b), sg.frm, sg.len⟩) (h := [.cells 40 [.lst .any 1 (byL m.text), .lst .any 3 (rlL m.rel), .arr 2 0 m.seg.length cap, .v (.int .i64 m.entry)], .cells 40 [.lst .any 1 (byL m.text), .lst .any 3 (rlL m.rel), .arr 2 0 m.seg.length cap, .v (.int .i64 m.entry)], .cells 83 (flC segC (m.seg.set q ⟨sg.par, IntKind.i64.wrap (sg.org + b), sg.frm, sg.len⟩) ++ List.replicate ((cap - m.seg.length) * 4) .any)]) rfl (by simp) (by omega) segC_len segC_vals
  refine retU_pl (r0 := .agg [.lst .any 1 (byL m.text), .lst .any 3 (rlL m.rel), .lst o 4 ((m.seg.set q ⟨sg.par, IntKind.i64.wrap (sg.org + b), sg.frm, sg.len⟩).map fun x => .agg (segC x)), .v (.int .i64 m.entry)]) ⟨.inr rfl, _, h', by simp; rfl, ?_, by simp [AV.rf, AV.rfL]⟩ (by rcases ho with rfl | rfl <;> rfl)
  simp only [List.length_set] at hf
  simp [hf]
theorem spoil2e (m : LMod) (hm : LSn m) (hr0 : m.rel = []) (n : Nat) (hn : n < 256) (b : Int) (hk : n % 10 = 2) : ∃ m', LSm m' ∧ Sound Try.prog 18 [lmA m, .v (.int .u8 n), .v (.int .i64 b)] (lmA m') := by
  have hl0 : 0 < m.seg.length := List.length_pos_iff.2 hm.s0
  have hls := hm.s
  have hlr := hm.r
  have hlt := hm.t
  have hlt2 : m.text.length + 1 ≤ 140737488355328 := by omega
  have hlr2 : (m.rel.length + 1) * 24 ≤ 140737488355328 := by omega
  have hl0n : ¬ m.seg.length = 0 := by omega
  have hl0i : ¬ (m.seg.length : Int) = 0 := by omega
  obtain ⟨n16, h16⟩ : ∃ n16, n / 16 = n16 := ⟨_, rfl⟩
  have e16 : Int.tdiv (n : Int) 16 = (n16 : Nat) := by rw [← h16]; exact rfl
  have w16 := wu8 (n := (n16 : Nat)) (by omega) (by omega)
  have i16 := w64 (n := (n16 : Nat)) (by omega) (by omega)
  obtain ⟨q, hq⟩ : ∃ q, n16 % m.seg.length = q := ⟨_, rfl⟩
  have hql : q < m.seg.length := by rw [← hq]; exact Nat.mod_lt _ hl0
  have hqi : (q : Int) < m.seg.length := by omega
  have hrm : Int.tmod (n16 : Int) (m.seg.length : Nat) = (q : Nat) := by rw [← hq]; exact rfl
  have wq := w64 (n := (q : Nat)) (by omega) (by omega)
  obtain ⟨sg, hsg⟩ : ∃ sg, m.seg[q]? = some sg := ⟨_, List.getElem?_eq_getElem hql⟩
  have hsg0 : m.seg[q]'hql = sg := by rw [List.getElem?_eq_getElem hql] at hsg; exact Option.some.inj hsg
  have hsgg : (sgL m.seg)[q]? = some (segA sg) := by rw [sgL_get, hsg]; rfl
  have hk10 : Int.tmod (n : Int) 10 = 2 := by rw [show Int.tmod (n : Int) 10 = ((n % 10 : Nat) : Int) from rfl, hk]; rfl
  have wk := wu8 (n := 2) (by omega) (by omega)
  have hr1 : m.rel.length = 0 := by simp [hr0]
  have hgq : ∀ cap : Nat, (flC segC m.seg ++ List.replicate ((cap - m.seg.length) * 4) AV.any)[q * 4 + 2]? = some (.v (.int .i64 sg.frm)) := fun cap => flC_get segC_len hsg _ 2 (by omega)
  have hgs : ∀ cap : Nat, setSeg (flC segC m.seg ++ List.replicate ((cap - m.seg.length) * 4) AV.any) (q * 4 + 2) [.v (.int .i64 (IntKind.i64.wrap (sg.frm + b)))] = flC segC (m.seg.set q ⟨sg.par, sg.org, IntKind.i64.wrap (sg.frm + b), sg.len⟩) ++ List.replicate ((cap - m.seg.length) * 4) AV.any := fun cap => flC_set (k := q) segC_len hsg _ 2 _ rfl (by simp)
  have hlc : (flC segC m.seg).length = m.seg.length * 4 := flC_length segC_len _
  have hcd : ∀ cap : Nat, q * 4 + 2 + 1 ≤ m.seg.length * 4 + (cap - m.seg.length) * 4 := fun cap => by omega
  refine ⟨⟨m.text, m.rel, m.seg.set q ⟨sg.par, sg.org, IntKind.i64.wrap (sg.frm + b), sg.len⟩, m.entry⟩, ⟨by simp <;> omega, by simp <;> omega, by simp <;> omega⟩, ?_⟩
  refine sound_of_U Try.func18 rfl (by decide +kernel) (by simp [Try.f18]) (by simp [AV.rfL, AV.rf]) (by simp [AV.tlL, AV.tl]) (rs := [.cell 6 40]) rfl ?_
  rw [show Try.f18.ntmps = 133 from rfl]
  refine W_evK [1, 2, 3, 6] (by simp; rfl) ?_
  refine W_rK [1, 2, 3, 6] ?_
  refine runA_pre 1 (by simp; rfl) rfl ?_
  refine runA_obj (f := 33) (args := [lmA m]) (by simp) (by simp) (sp_thawS hm fun cap hc1 hc2 => ?_)
  refine ⟨_, by simp; rfl, ?_⟩
  refine runA_fin (by simp [setSeg]; rfl) ?_
  refine W_dvK [1, 2, 3, 6, 7] mx (by decide +kernel) (by simp [e16, w16, i16, hrm, wq, hql, hqi, hsg0, hl0n, hl0i, hsgg]; rfl) ?_
  refine W_seq ?_
  refine W_evK [1, 2, 3, 6, 7, 22] (by simp [hk10, wk]; rfl) ?_
  refine W_block ?_
  refine W_evK [1, 2, 3, 6, 7, 22, 23] (by simp; rfl) ?_
  refine W_cond rfl (fun h => by simp at h) (fun h => ?_)
  refine W_evK [1, 2, 3, 6, 7, 22, 34] (by simp; rfl) ?_
  refine W_cond rfl (fun h => by simp at h) (fun h => ?_)
  refine W_evK [1, 2, 3, 6, 7, 22, 45] (by simp; rfl) ?_
  refine W_cond rfl (fun h => ?_) (fun h => by simp at h)
  refine W_evE [1, 2, 3, 6] (by simp [hgq cap, hgs cap, hlc, hcd cap]; rfl) ?_
  refine W_seq ?_
  refine W_evK [1, 2, 3, 6, 87] (by simp [hr0]; rfl) ?_
  refine W_cond rfl (fun h => by simp at h) (fun h => ?_)
  refine W_skip ?_
  refine W_evK [6] (by simp [setSeg]; rfl) ?_
  refine W_ret ?_
  repeat (first | refine on_ret ?_ | refine in_ret ?_)
  obtain ⟨o, h', hf, ho⟩ := frz_fl (F := segC) (sz := 4) (ty := 83) (id := 2) (k := (cap - m.seg.length) * 4) (cap := cap) (l := m.seg.set q ⟨sg.par, sg.org, IntKind.i64.wrap (sg.frm + b), sg.len⟩) (h := [.cells 40 [.lst .any 1 (byL m.text), .lst .any 3 (rlL m.rel), .arr 2 0 m.seg.length cap, .v (.int .i64 m.entry)], .cells 40 [.lst .any 1 (byL m.text), .lst .any 3 (rlL m.rel), .arr 2 0 m.seg.length cap, .v (.int .i64 m.entry)], .cells 83 (flC segC (m.seg.set q ⟨sg.par, sg.org, IntKind.i64.wrap (sg.frm + b), sg.len⟩) ++ List.replicate ((cap - m.seg.length) * 4) .any)]) rfl (by simp) (by omega) segC_len segC_vals
  refine retU_pl (r0 := .agg [.lst .any 1 (byL m.text), .lst .any 3 (rlL m.rel), .lst o 4 ((m.seg.set q ⟨sg.par, sg.org, IntKind.i64.wrap (sg.frm + b), sg.len⟩).map fun x => .agg (segC x)), .v (.int .i64 m.entry)]) ⟨.inr rfl, _, h', by simp; rfl, ?_, by simp [AV.rf, AV.rfL]⟩ (by rcases ho with rfl | rfl <;> rfl)
  simp only [List.length_set, hr0] at hf
  simp [hf, hr0]
theorem spoil2n (m : LMod) (hm : LSn m) (hr0 : m.rel ≠ []) (n : Nat) (hn : n < 256) (b : Int) (hk : n % 10 = 2) : ∃ m', LSm m' ∧ Sound Try.prog 18 [lmA m, .v (.int .u8 n), .v (.int .i64 b)] (lmA m') := by
  have hl0 : 0 < m.seg.length := List.length_pos_iff.2 hm.s0
  have hls := hm.s
  have hlr := hm.r
  have hlt := hm.t
  have hlt2 : m.text.length + 1 ≤ 140737488355328 := by omega
  have hlr2 : (m.rel.length + 1) * 24 ≤ 140737488355328 := by omega
  have hl0n : ¬ m.seg.length = 0 := by omega
  have hl0i : ¬ (m.seg.length : Int) = 0 := by omega
  obtain ⟨n16, h16⟩ : ∃ n16, n / 16 = n16 := ⟨_, rfl⟩
  have e16 : Int.tdiv (n : Int) 16 = (n16 : Nat) := by rw [← h16]; exact rfl
  have w16 := wu8 (n := (n16 : Nat)) (by omega) (by omega)
  have i16 := w64 (n := (n16 : Nat)) (by omega) (by omega)
  obtain ⟨q, hq⟩ : ∃ q, n16 % m.seg.length = q := ⟨_, rfl⟩
  have hql : q < m.seg.length := by rw [← hq]; exact Nat.mod_lt _ hl0
  have hqi : (q : Int) < m.seg.length := by omega
  have hrm : Int.tmod (n16 : Int) (m.seg.length : Nat) = (q : Nat) := by rw [← hq]; exact rfl
  have wq := w64 (n := (q : Nat)) (by omega) (by omega)
  obtain ⟨sg, hsg⟩ : ∃ sg, m.seg[q]? = some sg := ⟨_, List.getElem?_eq_getElem hql⟩
  have hsg0 : m.seg[q]'hql = sg := by rw [List.getElem?_eq_getElem hql] at hsg; exact Option.some.inj hsg
  have hsgg : (sgL m.seg)[q]? = some (segA sg) := by rw [sgL_get, hsg]; rfl
  have hk10 : Int.tmod (n : Int) 10 = 2 := by rw [show Int.tmod (n : Int) 10 = ((n % 10 : Nat) : Int) from rfl, hk]; rfl
  have wk := wu8 (n := 2) (by omega) (by omega)
  have hr1 : 0 < m.rel.length := List.length_pos_iff.2 hr0
  have hr1n : ¬ m.rel.length = 0 := by omega
  have hr1i : ¬ (m.rel.length : Int) = 0 := by omega
  obtain ⟨q2, hq2⟩ : ∃ q, n16 % m.rel.length = q := ⟨_, rfl⟩
  have hq2l : q2 < m.rel.length := by rw [← hq2]; exact Nat.mod_lt _ hr1
  have hq2i : (q2 : Int) < m.rel.length := by omega
  have hrm2 : Int.tmod (n16 : Int) (m.rel.length : Nat) = (q2 : Nat) := by rw [← hq2]; exact rfl
  have wq2 := w64 (n := (q2 : Nat)) (by omega) (by omega)
  obtain ⟨rl, hrl⟩ : ∃ rl, m.rel[q2]? = some rl := ⟨_, List.getElem?_eq_getElem hq2l⟩
  have hrl0 : m.rel[q2]'hq2l = rl := by rw [List.getElem?_eq_getElem hq2l] at hrl; exact Option.some.inj hrl
  have hrlg : (rlL m.rel)[q2]? = some (rloA rl) := by rw [rlL_get, hrl]; rfl
  have hgq : ∀ cap : Nat, (flC segC m.seg ++ List.replicate ((cap - m.seg.length) * 4) AV.any)[q * 4 + 2]? = some (.v (.int .i64 sg.frm)) := fun cap => flC_get segC_len hsg _ 2 (by omega)
  have hgs : ∀ cap : Nat, setSeg (flC segC m.seg ++ List.replicate ((cap - m.seg.length) * 4) AV.any) (q * 4 + 2) [.v (.int .i64 (IntKind.i64.wrap (sg.frm + b)))] = flC segC (m.seg.set q ⟨sg.par, sg.org, IntKind.i64.wrap (sg.frm + b), sg.len⟩) ++ List.replicate ((cap - m.seg.length) * 4) AV.any := fun cap => flC_set (k := q) segC_len hsg _ 2 _ rfl (by simp)
  have hlc : (flC segC m.seg).length = m.seg.length * 4 := flC_length segC_len _
  have hcd : ∀ cap : Nat, q * 4 + 2 + 1 ≤ m.seg.length * 4 + (cap - m.seg.length) * 4 := fun cap => by omega
  refine ⟨⟨m.text, m.rel, m.seg.set q ⟨sg.par, sg.org, IntKind.i64.wrap (sg.frm + b), sg.len⟩, m.entry⟩, ⟨by simp <;> omega, by simp <;> omega, by simp <;> omega⟩, ?_⟩
  refine sound_of_U Try.func18 rfl (by decide +kernel) (by simp [Try.f18]) (by simp [AV.rfL, AV.rf]) (by simp [AV.tlL, AV.tl]) (rs := [.cell 6 40]) rfl ?_
  rw [show Try.f18.ntmps = 133 from rfl]
  refine W_evK [1, 2, 3, 6] (by simp; rfl) ?_
  refine W_rK [1, 2, 3, 6] ?_
  refine runA_pre 1 (by simp; rfl) rfl ?_
  refine runA_obj (f := 33) (args := [lmA m]) (by simp) (by simp) (sp_thawS hm fun cap hc1 hc2 => ?_)
  refine ⟨_, by simp; rfl, ?_⟩
  refine runA_fin (by simp [setSeg]; rfl) ?_
  refine W_dvK [1, 2, 3, 6, 7] mx (by decide +kernel) (by simp [e16, w16, i16, hrm, wq, hql, hqi, hsg0, hl0n, hl0i, hsgg]; rfl) ?_
  refine W_seq ?_
  refine W_evK [1, 2, 3, 6, 7, 22] (by simp [hk10, wk]; rfl) ?_
  refine W_block ?_
  refine W_evK [1, 2, 3, 6, 7, 22, 23] (by simp; rfl) ?_
  refine W_cond rfl (fun h => by simp at h) (fun h => ?_)
  refine W_evK [1, 2, 3, 6, 7, 22, 34] (by simp; rfl) ?_
  refine W_cond rfl (fun h => by simp at h) (fun h => ?_)
  refine W_evK [1, 2, 3, 6, 7, 22, 45] (by simp; rfl) ?_
  refine W_cond rfl (fun h => ?_) (fun h => by simp at h)
  refine W_evE [1, 2, 3, 6] (by simp [hgq cap, hgs cap, hlc, hcd cap]; rfl) ?_
  refine W_seq ?_
  refine W_evK [1, 2, 3, 6, 87] (by simp [hr1]; rfl) ?_
  refine W_cond rfl (fun h => ?_) (fun h => by simp at h)
  refine W_dvK [1, 2, 3, 6, 8] mx (by decide +kernel) (by simp [e16, w16, i16, hrm2, wq2, hq2l, hq2i, hrl0, hr1, hr1n, hr1i, hrlg]; rfl) ?_
  refine W_evK [2, 3, 6, 8, 99] (by simp [hk10, wk]; rfl) ?_
  refine W_block ?_
  refine W_evK [2, 3, 6, 8, 99, 100] (by simp; rfl) ?_
  refine W_cond rfl (fun h => by simp at h) (fun h => ?_)
  refine W_evK [2, 3, 6, 8, 99, 111] (by simp; rfl) ?_
  refine W_cond rfl (fun h => by simp at h) (fun h => ?_)
  refine W_evK [3, 6, 8, 122] (by simp; rfl) ?_
  refine W_cond rfl (fun h => by simp at h) (fun h => ?_)
  refine W_skip ?_
  refine W_evK [6] (by simp [setSeg]; rfl) ?_
  refine W_ret ?_
  repeat (first | refine on_ret ?_ | refine in_ret ?_)
  obtain ⟨o, h', hf, ho⟩ := frz_fl (F := segC) (sz := 4) (ty := 83) (id := 2) (k := (cap - m.seg.length) * 4) (cap := cap) (l := m.seg.set q ⟨sg.par, sg.org, IntKind.i64.wrap (sg.frm + b), sg.len⟩) (h := [.cells 40 [.lst .any 1 (byL m.text), .lst .any 3 (rlL m.rel), .arr 2 0 m.seg.length cap, .v (.int .i64 m.entry)], .cells 40 [.lst .any 1 (byL m.text), .lst .any 3 (rlL m.rel), .arr 2 0 m.seg.length cap, .v (.int .i64 m.entry)], .cells 83 (flC segC (m.seg.set q ⟨sg.par, sg.org, IntKind.i64.wrap (sg.frm + b), sg.len⟩) ++ List.replicate ((cap - m.seg.length) * 4) .any)]) rfl (by simp) (by omega) segC_len segC_vals
  refine retU_pl (r0 := .agg [.lst .any 1 (byL m.text), .lst .any 3 (rlL m.rel), .lst o 4 ((m.seg.set q ⟨sg.par, sg.org, IntKind.i64.wrap (sg.frm + b), sg.len⟩).map fun x => .agg (segC x)), .v (.int .i64 m.entry)]) ⟨.inr rfl, _, h', by simp; rfl, ?_, by simp [AV.rf, AV.rfL]⟩ (by rcases ho with rfl | rfl <;> rfl)
  simp only [List.length_set] at hf
  simp [hf]
end Go.AM
namespace Go.AM
open Go.RowKit Go.Proofs
set_option linter.unusedSimpArgs false
set_option linter.unusedVariables false
set_option maxHeartbeats 8000000
theorem spoil3e (m : LMod) (hm : LSn m) (hr0 : m.rel = []) (n : Nat) (hn : n < 256) (b : Int) (hk : n % 10 = 3) : ∃ m', LSm m' ∧ Sound Try.prog 18 [lmA m, .v (.int .u8 n), .v (.int .i64 b)] (lmA m') := by
  have hl0 : 0 < m.seg.length := List.length_pos_iff.2 hm.s0
  have hls := hm.s
  have hlr := hm.r
  have hlt := hm.t
  have hlt2 : m.text.length + 1 ≤ 140737488355328 := by omega
  have hlr2 : (m.rel.length + 1) * 24 ≤ 140737488355328 := by omega
  have hl0n : ¬ m.seg.length = 0 := by omega
  have hl0i : ¬ (m.seg.length : Int) = 0 := by omega
  obtain ⟨n16, h16⟩ : ∃ n16, n / 16 = n16 := ⟨_, rfl⟩
  have e16 : Int.tdiv (n : Int) 16 = (n16 : Nat) := by rw [← h16]; exact rfl
  have w16 := wu8 (n := (n16 : Nat)) (by omega) (by omega)
  have i16 := w64 (n := (n16 : Nat)) (by omega) (by omega)
  obtain ⟨q, hq⟩ : ∃ q, n16 % m.seg.length = q := ⟨_, rfl⟩
  have hql : q < m.seg.length := by rw [← hq]; exact Nat.mod_lt _ hl0
  have hqi : (q : Int) < m.seg.length := by omega
  have hrm : Int.tmod (n16 : Int) (m.seg.length : Nat) = (q : Nat) := by rw [← hq]; exact rfl
  have wq := w64 (n := (q : Nat)) (by omega) (by omega)
  obtain ⟨sg, hsg⟩ : ∃ sg, m.seg[q]? = some sg := ⟨_, List.getElem?_eq_getElem hql⟩
  have hsg0 : m.seg[q]'hql = sg := by rw [List.getElem?_eq_getElem hql] at hsg; exact Option.some.inj hsg
  have hsgg : (sgL m.seg)[q]? = some (segA sg) := by rw [sgL_get, hsg]; rfl
  have hk10 : Int.tmod (n : Int) 10 = 3 := by rw [show Int.tmod (n : Int) 10 = ((n % 10 : Nat) : Int) from rfl, hk]; rfl
  have wk := wu8 (n := 3) (by omega) (by omega)
  have hr1 : m.rel.length = 0 := by simp [hr0]
  have hgq : ∀ cap : Nat, (flC segC m.seg ++ List.replicate ((cap - m.seg.length) * 4) AV.any)[q * 4 + 3]? = some (.v (.int .i64 sg.len)) := fun cap => flC_get segC_len hsg _ 3 (by omega)
  have hgs : ∀ cap : Nat, setSeg (flC segC m.seg ++ List.replicate ((cap - m.seg.length) * 4) AV.any) (q * 4 + 3) [.v (.int .i64 (IntKind.i64.wrap (sg.len + b)))] = flC segC (m.seg.set q ⟨sg.par, sg.org, sg.frm, IntKind.i64.wrap (sg.len + b)⟩) ++ List.replicate ((cap - m.seg.length) * 4) AV.any := fun cap => flC_set (k := q) segC_len hsg _ 3 _ rfl (by simp)
  have hlc : (flC segC m.seg).length = m.seg.length * 4 := flC_length segC_len _
  have hcd : ∀ cap : Nat, q * 4 + 3 + 1 ≤ m.seg.length * 4 + (cap - m.seg.length) * 4 := fun cap => by omega
  refine ⟨⟨m.text, m.rel, m.seg.set q ⟨sg.par, sg.org, sg.frm, IntKind.i64.wrap (sg.len + b)⟩, m.entry⟩, ⟨by simp <;> omega, by simp <;> omega, by simp <;> omega⟩, ?_⟩
  refine sound_of_U Try.func18 rfl (by decide +kernel) (by simp [Try.f18]) (by simp [AV.rfL, AV.rf]) (by simp [AV.tlL, AV.tl]) (rs := [.cell 6 40]) rfl ?_
  rw [show Try.f18.ntmps = 133 from rfl]
  refine W_evK [1, 2, 3, 6] (by simp; rfl) ?_
  refine W_rK [1, 2, 3, 6] ?_
  refine runA_pre 1 (by simp; rfl) rfl ?_
  refine runA_obj (f := 33) (args := [lmA m]) (by simp) (by simp) (sp_thawS hm fun cap hc1 hc2 => ?_)
  refine ⟨_, by simp; rfl, ?_⟩
  refine runA_fin (by simp [setSeg]; rfl) ?_
  refine W_dvK [1, 2, 3, 6, 7] mx (by decide +kernel) (by simp [e16, w16, i16, hrm, wq, hql, hqi, hsg0, hl0n, hl0i, hsgg]; rfl) ?_
  refine W_seq ?_
  refine W_evK [1, 2, 3, 6, 7, 22] (by simp [hk10, wk]; rfl) ?_
  refine W_block ?_
  refine W_evK [1, 2, 3, 6, 7, 22, 23] (by simp; rfl) ?_
  refine W_cond rfl (fun h => by simp at h) (fun h => ?_)
  refine W_evK [1, 2, 3, 6, 7, 22, 34] (by simp; rfl) ?_
  refine W_cond rfl (fun h => by simp at h) (fun h => ?_)
  refine W_evK [1, 2, 3, 6, 7, 22, 45] (by simp; rfl) ?_
  refine W_cond rfl (fun h => by simp at h) (fun h => ?_)
  refine W_evK [1, 2, 3, 6, 7, 22, 56] (by simp; rfl) ?_
  refine W_cond rfl (fun h => ?_) (fun h => by simp at h)
  refine W_evE [1, 2, 3, 6] (by simp [hgq cap, hgs cap, hlc, hcd cap]; rfl) ?_
  refine W_seq ?_
  refine W_evK [1, 2, 3, 6, 87] (by simp [hr0]; rfl) ?_
  refine W_cond rfl (fun h => by simp at h) (fun h => ?_)
  refine W_skip ?_
  refine W_evK [6] (by simp [setSeg]; rfl) ?_
  refine W_ret ?_
  repeat (first | refine on_ret ?_ | refine in_ret ?_)
  obtain ⟨o, h', hf, ho⟩ := frz_fl (F := segC) (sz := 4) (ty := 83) (id := 2) (k := (cap - m.seg.length) * 4) (cap := cap) (l := m.seg.set q ⟨sg.par, sg.org, sg.frm, IntKind.i64.wrap (sg.len + b)⟩) (h := [.cells 40 [.lst .any 1 (byL m.text), .lst .any 3 (rlL m.rel), .arr 2 0 m.seg.length cap, .v (.int .i64 m.entry)], .cells 40 [.lst .any 1 (byL m.text), .lst .any 3 (rlL m.rel), .arr 2 0 m.seg.length cap, .v (.int .i64 m.entry)], .cells 83 (flC segC (m.seg.set q ⟨sg.par, sg.org, sg.frm, IntKind.i64.wrap (sg.len + b)⟩) ++ List.replicate ((cap - m.seg.length) * 4) .any)]) rfl (by simp) (by omega) segC_len segC_vals
  refine retU_pl (r0 := .agg [.lst .any 1 (byL m.text), .lst .any 3 (rlL m.rel), .lst o 4 ((m.seg.set q ⟨sg.par, sg.org, sg.frm, IntKind.i64.wrap (sg.len + b)⟩).map fun x => .agg (segC x)), .v (.int .i64 m.entry)]) ⟨.inr rfl, _, h', by simp; rfl, ?_, by simp [AV.rf, AV.rfL]⟩ (by rcases ho with rfl | rfl <;> rfl)
  simp only [List.length_set, hr0] at hf
  simp [hf, hr0]
theorem spoil3n (m : LMod) (hm : LSn m) (hr0 : m.rel ≠ []) (n : Nat) (hn : n < 256) (b : Int) (hk : n % 10 = 3) : ∃ m', LSm m' ∧ Sound Try.prog 18 [lmA m, .v (.int .u8 n), .v (.int .i64 b)] (lmA m') := by
  have hl0 : 0 < m.seg.length := List.length_pos_iff.2 hm.s0
  have hls := hm.s
  have hlr := hm.r
  have hlt := hm.t
  have hlt2 : m.text.length + 1 ≤ 140737488355328 := by omega
  have hlr2 : (m.rel.length + 1) * 24 ≤ 140737488355328 := by omega
  have hl0n : ¬ m.seg.length = 0 := by omega
  have hl0i : ¬ (m.seg.length : Int) = 0 := by omega
  obtain ⟨n16, h16⟩ : ∃ n16, n / 16 = n16 := ⟨_, rfl⟩
  have e16 : Int.tdiv (n : Int) 16 = (n16 : Nat) := by rw [← h16]; exact rfl
  have w16 := wu8 (n := (n16 : Nat)) (by omega) (by omega)
  have i16 := w64 (n := (n16 : Nat)) (by omega) (by omega)
  obtain ⟨q, hq⟩ : ∃ q, n16 % m.seg.length = q := ⟨_, rfl⟩
  have hql : q < m.seg.length := by rw [← hq]; exact Nat.mod_lt _ hl0
  have hqi : (q : Int) < m.seg.length := by omega
  have hrm : Int.tmod (n16 : Int) (m.seg.length : Nat) = (q : Nat) := by rw [← hq]; exact rfl
  have wq := w64 (n := (q : Nat)) (by omega) (by omega)
  obtain ⟨sg, hsg⟩ : ∃ sg, m.seg[q]? = some sg := ⟨_, List.getElem?_eq_getElem hql⟩
  have hsg0 : m.seg[q]'hql = sg := by rw [List.getElem?_eq_getElem hql] at hsg; exact Option.some.inj hsg
  have hsgg : (sgL m.seg)[q]? = some (segA sg) := by rw [sgL_get, hsg]; rfl
  have hk10 : Int.tmod (n : Int) 10 = 3 := by rw [show Int.tmod (n : Int) 10 = ((n % 10 : Nat) : Int) from rfl, hk]; rfl
  have wk := wu8 (n := 3) (by omega) (by omega)
  have hr1 : 0 < m.rel.length := List.length_pos_iff.2 hr0
  have hr1n : ¬ m.rel.length = 0 := by omega
  have hr1i : ¬ (m.rel.length : Int) = 0 := by omega
  obtain ⟨q2, hq2⟩ : ∃ q, n16 % m.rel.length = q := ⟨_, rfl⟩
  have hq2l : q2 < m.rel.length := by rw [← hq2]; exact Nat.mod_lt _ hr1
  have hq2i : (q2 : Int) < m.rel.length := by omega
  have hrm2 : Int.tmod (n16 : Int) (m.rel.length : Nat) = (q2 : Nat) := by rw [← hq2]; exact rfl
  have wq2 := w64 (n := (q2 : Nat)) (by omega) (by omega)
  obtain ⟨rl, hrl⟩ : ∃ rl, m.rel[q2]? = some rl := ⟨_, List.getElem?_eq_getElem hq2l⟩
  have hrl0 : m.rel[q2]'hq2l = rl := by rw [List.getElem?_eq_getElem hq2l] at hrl; exact Option.some.inj hrl
  have hrlg : (rlL m.rel)[q2]? = some (rloA rl) := by rw [rlL_get, hrl]; rfl
  have hgq : ∀ cap : Nat, (flC segC m.seg ++ List.replicate ((cap - m.seg.length) * 4) AV.any)[q * 4 + 3]? = some (.v (.int .i64 sg.len)) := fun cap => flC_get segC_len hsg _ 3 (by omega)
  have hgs : ∀ cap : Nat, setSeg (flC segC m.seg ++ List.replicate ((cap - m.seg.length) * 4) AV.any) (q * 4 + 3) [.v (.int .i64 (IntKind.i64.wrap (sg.len + b)))] = flC segC (m.seg.set q ⟨sg.par, sg.org, sg.frm, IntKind.i64.wrap (sg.len + b)⟩) ++ List.replicate ((cap - m.seg.length) * 4) AV.any := fun cap => flC_set (k := q) segC_len hsg _ 3 _ rfl (by simp)
  have hlc : (flC segC m.seg).length = m.seg.length * 4 := flC_length segC_len _
  have hcd : ∀ cap : Nat, q * 4 + 3 + 1 ≤ m.seg.length * 4 + (cap - m.seg.length) * 4 := fun cap => by omega
  refine ⟨⟨m.text, m.rel, m.seg.set q ⟨sg.par, sg.org, sg.frm, IntKind.i64.wrap (sg.len + b)⟩, m.entry⟩, ⟨by simp <;> omega, by simp <;> omega, by simp <;> omega⟩, ?_⟩
  refine sound_of_U Try.func18 rfl (by decide +kernel) (by simp [Try.f18]) (by simp [AV.rfL, AV.rf]) (by simp [AV.tlL, AV.tl]) (rs := [.cell 6 40]) rfl ?_
  rw [show Try.f18.ntmps = 133 from rfl]
  refine W_evK [1, 2, 3, 6] (by simp; rfl) ?_
  refine W_rK [1, 2, 3, 6] ?_
  refine runA_pre 1 (by simp; rfl) rfl ?_
  refine runA_obj (f := 33) (args := [lmA m]) (by simp) (by simp) (sp_thawS hm fun cap hc1 hc2 => ?_)
  refine ⟨_, by simp; rfl, ?_⟩
  refine runA_fin (by simp [setSeg]; rfl) ?_
  refine W_dvK [1, 2, 3, 6, 7] mx (by decide +kernel) (by simp [e16, w16, i16, hrm, wq, hql, hqi, hsg0, hl0n, hl0i, hsgg]; rfl) ?_
  refine W_seq ?_
  refine W_evK [1, 2, 3, 6, 7, 22] (by simp [hk10, wk]; rfl) ?_
  refine W_block ?_
  refine W_evK [1, 2, 3, 6, 7, 22, 23] (by simp; rfl) ?_
  refine W_cond rfl (fun h => by simp at h) (fun h => ?_)
  refine W_evK [1, 2, 3, 6, 7, 22, 34] (by simp; rfl) ?_
  refine W_cond rfl (fun h => by simp at h) (fun h => ?_)
  refine W_evK [1, 2, 3, 6, 7, 22, 45] (by simp; rfl) ?_
  refine W_cond rfl (fun h => by simp at h) (fun h => ?_)
  refine W_evK [1, 2, 3, 6, 7, 22, 56] (by simp; rfl) ?_
  refine W_cond rfl (fun h => ?_) (fun h => by simp at h)
  refine W_evE [1, 2, 3, 6] (by simp [hgq cap, hgs cap, hlc, hcd cap]; rfl) ?_
  refine W_seq ?_
  refine W_evK [1, 2, 3, 6, 87] (by simp [hr1]; rfl) ?_
  refine W_cond rfl (fun h => ?_) (fun h => by simp at h)
  refine W_dvK [1, 2, 3, 6, 8] mx (by decide +kernel) (by simp [e16, w16, i16, hrm2, wq2, hq2l, hq2i, hrl0, hr1, hr1n, hr1i, hrlg]; rfl) ?_
  refine W_evK [2, 3, 6, 8, 99] (by simp [hk10, wk]; rfl) ?_
  refine W_block ?_
  refine W_evK [2, 3, 6, 8, 99, 100] (by simp; rfl) ?_
  refine W_cond rfl (fun h => by simp at h) (fun h => ?_)
  refine W_evK [2, 3, 6, 8, 99, 111] (by simp; rfl) ?_
  refine W_cond rfl (fun h => by simp at h) (fun h => ?_)
  refine W_evK [3, 6, 8, 122] (by simp; rfl) ?_
  refine W_cond rfl (fun h => by simp at h) (fun h => ?_)
  refine W_skip ?_
  refine W_evK [6] (by simp [setSeg]; rfl) ?_
  refine W_ret ?_
  repeat (first | refine on_ret ?_ | refine in_ret ?_)
  obtain ⟨o, h', hf, ho⟩ := frz_fl (F := segC) (sz := 4) (ty := 83) (id := 2) (k := (cap - m.seg.length) * 4) (cap := cap) (l := m.seg.set q ⟨sg.par, sg.org, sg.frm, IntKind.i64.wrap (sg.len + b)⟩) (h := [.cells 40 [.lst .any 1 (byL m.text), .lst .any 3 (rlL m.rel), .arr 2 0 m.seg.length cap, .v (.int .i64 m.entry)], .cells 40 [.lst .any 1 (byL m.text), .lst .any 3 (rlL m.rel), .arr 2 0 m.seg.length cap, .v (.int .i64 m.entry)], .cells 83 (flC segC (m.seg.set q ⟨sg.par, sg.org, sg.frm, IntKind.i64.wrap (sg.len + b)⟩) ++ List.replicate ((cap - m.seg.length) * 4) .any)]) rfl (by simp) (by omega) segC_len segC_vals
  refine retU_pl (r0 := .agg [.lst .any 1 (byL m.text), .lst .any 3 (rlL m.rel), .lst o 4 ((m.seg.set q ⟨sg.par, sg.org, sg.frm, IntKind.i64.wrap (sg.len + b)⟩).map fun x => .agg (segC x)), .v (.int .i64 m.entry)]) ⟨.inr rfl, _, h', by simp; rfl, ?_, by simp [AV.rf, AV.rfL]⟩ (by rcases ho with rfl | rfl <;> rfl)
  simp only [List.length_set] at hf
  simp [hf]
theorem spoil4e (m : LMod) (hm : LSn m) (hr0 : m.rel = []) (n : Nat) (hn : n < 256) (b : Int) (hk : n % 10 = 4) : ∃ m', LSm m' ∧ Sound Try.prog 18 [lmA m, .v (.int .u8 n), .v (.int .i64 b)] (lmA m') := by
  have hl0 : 0 < m.seg.length := List.length_pos_iff.2 hm.s0
  have hls := hm.s
  have hlr := hm.r
  have hlt := hm.t
  have hlt2 : m.text.length + 1 ≤ 140737488355328 := by omega
  have hlr2 : (m.rel.length + 1) * 24 ≤ 140737488355328 := by omega
  have hl0n : ¬ m.seg.length = 0 := by omega
  have hl0i : ¬ (m.seg.length : Int) = 0 := by omega
  obtain ⟨n16, h16⟩ : ∃ n16, n / 16 = n16 := ⟨_, rfl⟩
  have e16 : Int.tdiv (n : Int) 16 = (n16 : Nat) := by rw [← h16]; exact rfl
  have w16 := wu8 (n := (n16 : Nat)) (by omega) (by omega)
  have i16 := w64 (n := (n16 : Nat)) (by omega) (by omega)
  obtain ⟨q, hq⟩ : ∃ q, n16 % m.seg.length = q := ⟨_, rfl⟩
  have hql : q < m.seg.length := by rw [← hq]; exact Nat.mod_lt _ hl0
  have hqi : (q : Int) < m.seg.length := by omega
  have hrm : Int.tmod (n16 : Int) (m.seg.length : Nat) = (q : Nat) := by rw [← hq]; exact rfl
  have wq := w64 (n := (q : Nat)) (by omega) (by omega)
  obtain ⟨sg, hsg⟩ : ∃ sg, m.seg[q]? = some sg := ⟨_, List.getElem?_eq_getElem hql⟩
  have hsg0 : m.seg[q]'hql = sg := by rw [List.getElem?_eq_getElem hql] at hsg; exact Option.some.inj hsg
  have hsgg : (sgL m.seg)[q]? = some (segA sg) := by rw [sgL_get, hsg]; rfl
  have hk10 : Int.tmod (n : Int) 10 = 4 := by rw [show Int.tmod (n : Int) 10 = ((n % 10 : Nat) : Int) from rfl, hk]; rfl
  have wk := wu8 (n := 4) (by omega) (by omega)
  have hr1 : m.rel.length = 0 := by simp [hr0]
  refine ⟨⟨m.text, m.rel, m.seg, IntKind.i64.wrap (m.entry + b)⟩, ⟨by simp <;> omega, by simp <;> omega, by simp <;> omega⟩, ?_⟩
  refine sound_of_U Try.func18 rfl (by decide +kernel) (by simp [Try.f18]) (by simp [AV.rfL, AV.rf]) (by simp [AV.tlL, AV.tl]) (rs := [.cell 6 40]) rfl ?_
  rw [show Try.f18.ntmps = 133 from rfl]
  refine W_evK [1, 2, 3, 6] (by simp; rfl) ?_
  refine W_rK [1, 2, 3, 6] ?_
  refine runA_pre 1 (by simp; rfl) rfl ?_
  refine runA_call (by simp) (by first | (simp; done) | (simp; rfl)) (copyLoad_sound m hm.sm) (by simp; rfl) ?_
  refine runA_fin (by simp [setSeg]; rfl) ?_
  refine W_dvK [1, 2, 3, 6, 7] mx (by decide +kernel) (by simp [e16, w16, i16, hrm, wq, hql, hqi, hsg0, hl0n, hl0i, hsgg]; rfl) ?_
  refine W_seq ?_
  refine W_evK [1, 2, 3, 6, 7, 22] (by simp [hk10, wk]; rfl) ?_
  refine W_block ?_
  refine W_evK [1, 2, 3, 6, 7, 22, 23] (by simp; rfl) ?_
  refine W_cond rfl (fun h => by simp at h) (fun h => ?_)
  refine W_evK [1, 2, 3, 6, 7, 22, 34] (by simp; rfl) ?_
  refine W_cond rfl (fun h => by simp at h) (fun h => ?_)
  refine W_evK [1, 2, 3, 6, 7, 22, 45] (by simp; rfl) ?_
  refine W_cond rfl (fun h => by simp at h) (fun h => ?_)
  refine W_evK [1, 2, 3, 6, 7, 22, 56] (by simp; rfl) ?_
  refine W_cond rfl (fun h => by simp at h) (fun h => ?_)
  refine W_evK [1, 2, 3, 6, 22, 67] (by simp; rfl) ?_
  refine W_cond rfl (fun h => ?_) (fun h => by simp at h)
  refine W_evE [1, 2, 3, 6] (by simp [setSeg]; rfl) ?_
  refine W_seq ?_
  refine W_evK [1, 2, 3, 6, 87] (by simp [hr0]; rfl) ?_
  refine W_cond rfl (fun h => by simp at h) (fun h => ?_)
  refine W_skip ?_
  refine W_evK [6] (by simp [setSeg]; rfl) ?_
  refine W_ret ?_
  repeat (first | refine on_ret ?_ | refine in_ret ?_)
  exact retU_pl (r0 := .agg _) ⟨.inr rfl, _, _, by simp [setSeg]; rfl, by simp; exact ⟨rfl, rfl⟩, by simp [AV.rf, AV.rfL]⟩ (by simp [AV.plain, AV.plainL, hr0])
theorem spoil4n (m : LMod) (hm : LSn m) (hr0 : m.rel ≠ []) (n : Nat) (hn : n < 256) (b : Int) (hk : n % 10 = 4) : ∃ m', LSm m' ∧ Sound Try.prog 18 [lmA m, .v (.int .u8 n), .v (.int .i64 b)] (lmA m') := by
  have hl0 : 0 < m.seg.length := List.length_pos_iff.2 hm.s0
  have hls := hm.s
  have hlr := hm.r
  have hlt := hm.t
  have hlt2 : m.text.length + 1 ≤ 140737488355328 := by omega
  have hlr2 : (m.rel.length + 1) * 24 ≤ 140737488355328 := by omega
  have hl0n : ¬ m.seg.length = 0 := by omega
  have hl0i : ¬ (m.seg.length : Int) = 0 := by omega
  obtain ⟨n16, h16⟩ : ∃ n16, n / 16 = n16 := ⟨_, rfl⟩
  have e16 : Int.tdiv (n : Int) 16 = (n16 : Nat) := by rw [← h16]; exact rfl
  have w16 := wu8 (n := (n16 : Nat)) (by omega) (by omega)
  have i16 := w64 (n := (n16 : Nat)) (by omega) (by omega)
  obtain ⟨q, hq⟩ : ∃ q, n16 % m.seg.length = q := ⟨_, rfl⟩
  have hql : q < m.seg.length := by rw [← hq]; exact Nat.mod_lt _ hl0
  have hqi : (q : Int) < m.seg.length := by omega
  have hrm : Int.tmod (n16 : Int) (m.seg.length : Nat) = (q : Nat) := by rw [← hq]; exact rfl
  have wq := w64 (n := (q : Nat)) (by omega) (by omega)
  obtain ⟨sg, hsg⟩ : ∃ sg, m.seg[q]? = some sg := ⟨_, List.getElem?_eq_getElem hql⟩
  have hsg0 : m.seg[q]'hql = sg := by rw [List.getElem?_eq_getElem hql] at hsg; exact Option.some.inj hsg
  have hsgg : (sgL m.seg)[q]? = some (segA sg) := by rw [sgL_get, hsg]; rfl
  have hk10 : Int.tmod (n : Int) 10 = 4 := by rw [show Int.tmod (n : Int) 10 = ((n % 10 : Nat) : Int) from rfl, hk]; rfl
  have wk := wu8 (n := 4) (by omega) (by omega)
  have hr1 : 0 < m.rel.length := List.length_pos_iff.2 hr0
  have hr1n : ¬ m.rel.length = 0 := by omega
  have hr1i : ¬ (m.rel.length : Int) = 0 := by omega
  obtain ⟨q2, hq2⟩ : ∃ q, n16 % m.rel.length = q := ⟨_, rfl⟩
  have hq2l : q2 < m.rel.length := by rw [← hq2]; exact Nat.mod_lt _ hr1
  have hq2i : (q2 : Int) < m.rel.length := by omega
  have hrm2 : Int.tmod (n16 : Int) (m.rel.length : Nat) = (q2 : Nat) := by rw [← hq2]; exact rfl
  have wq2 := w64 (n := (q2 : Nat)) (by omega) (by omega)
  obtain ⟨rl, hrl⟩ : ∃ rl, m.rel[q2]? = some rl := ⟨_, List.getElem?_eq_getElem hq2l⟩
  have hrl0 : m.rel[q2]'hq2l = rl := by rw [List.getElem?_eq_getElem hq2l] at hrl; exact Option.some.inj hrl
  have hrlg : (rlL m.rel)[q2]? = some (rloA rl) := by rw [rlL_get, hrl]; rfl
  refine ⟨⟨m.text, m.rel, m.seg, IntKind.i64.wrap (m.entry + b)⟩, ⟨by simp <;> omega, by simp <;> omega, by simp <;> omega⟩, ?_⟩
  refine sound_of_U Try.func18 rfl (by decide +kernel) (by simp [Try.f18]) (by simp [AV.rfL, AV.rf]) (by simp [AV.tlL, AV.tl]) (rs := [.cell 6 40]) rfl ?_
  rw [show Try.f18.ntmps = 133 from rfl]
  refine W_evK [1, 2, 3, 6] (by simp; rfl) ?_
  refine W_rK [1, 2, 3, 6] ?_
  refine runA_pre 1 (by simp; rfl) rfl ?_
  refine runA_call (by simp) (by first | (simp; done) | (simp; rfl)) (copyLoad_sound m hm.sm) (by simp; rfl) ?_
  refine runA_fin (by simp [setSeg]; rfl) ?_
  refine W_dvK [1, 2, 3, 6, 7] mx (by decide +kernel) (by simp [e16, w16, i16, hrm, wq, hql, hqi, hsg0, hl0n, hl0i, hsgg]; rfl) ?_
  refine W_seq ?_
  refine W_evK [1, 2, 3, 6, 7, 22] (by simp [hk10, wk]; rfl) ?_
  refine W_block ?_
  refine W_evK [1, 2, 3, 6, 7, 22, 23] (by simp; rfl) ?_
  refine W_cond rfl (fun h => by simp at h) (fun h => ?_)
  refine W_evK [1, 2, 3, 6, 7, 22, 34] (by simp; rfl) ?_
  refine W_cond rfl (fun h => by simp at h) (fun h => ?_)
  refine W_evK [1, 2, 3, 6, 7, 22, 45] (by simp; rfl) ?_
  refine W_cond rfl (fun h => by simp at h) (fun h => ?_)
  refine W_evK [1, 2, 3, 6, 7, 22, 56] (by simp; rfl) ?_
  refine W_cond rfl (fun h => by simp at h) (fun h => ?_)
  refine W_evK [1, 2, 3, 6, 22, 67] (by simp; rfl) ?_
  refine W_cond rfl (fun h => ?_) (fun h => by simp at h)
  refine W_evE [1, 2, 3, 6] (by simp [setSeg]; rfl) ?_
  refine W_seq ?_
  refine W_evK [1, 2, 3, 6, 87] (by simp [hr1]; rfl) ?_
  refine W_cond rfl (fun h => ?_) (fun h => by simp at h)
  refine W_dvK [1, 2, 3, 6, 8] mx (by decide +kernel) (by simp [e16, w16, i16, hrm2, wq2, hq2l, hq2i, hrl0, hr1, hr1n, hr1i, hrlg]; rfl) ?_
  refine W_evK [2, 3, 6, 8, 99] (by simp [hk10, wk]; rfl) ?_
  refine W_block ?_
  refine W_evK [2, 3, 6, 8, 99, 100] (by simp; rfl) ?_
  refine W_cond rfl (fun h => by simp at h) (fun h => ?_)
  refine W_evK [2, 3, 6, 8, 99, 111] (by simp; rfl) ?_
  refine W_cond rfl (fun h => by simp at h) (fun h => ?_)
  refine W_evK [3, 6, 8, 122] (by simp; rfl) ?_
  refine W_cond rfl (fun h => by simp at h) (fun h => ?_)
  refine W_skip ?_
  refine W_evK [6] (by simp [setSeg]; rfl) ?_
  refine W_ret ?_
  repeat (first | refine on_ret ?_ | refine in_ret ?_)
  exact retU_pl (r0 := .agg _) ⟨.inr rfl, _, _, by simp [setSeg]; rfl, by simp; exact ⟨rfl, rfl⟩, by simp [AV.rf, AV.rfL]⟩ (by simp [AV.plain, AV.plainL, hr0])
theorem spoil5e (m : LMod) (hm : LSn m) (hr0 : m.rel = []) (n : Nat) (hn : n < 256) (b : Int) (hk : n % 10 = 5) : ∃ m', LSm m' ∧ Sound Try.prog 18 [lmA m, .v (.int .u8 n), .v (.int .i64 b)] (lmA m') := by
  have hl0 : 0 < m.seg.length := List.length_pos_iff.2 hm.s0
  have hls := hm.s
  have hlr := hm.r
  have hlt := hm.t
  have hlt2 : m.text.length + 1 ≤ 140737488355328 := by omega
  have hlr2 : (m.rel.length + 1) * 24 ≤ 140737488355328 := by omega
  have hl0n : ¬ m.seg.length = 0 := by omega
  have hl0i : ¬ (m.seg.length : Int) = 0 := by omega
  obtain ⟨n16, h16⟩ : ∃ n16, n / 16 = n16 := ⟨_, rfl⟩
  have e16 : Int.tdiv (n : Int) 16 = (n16 : Nat) := by rw [← h16]; exact rfl
  have w16 := wu8 (n := (n16 : Nat)) (by omega) (by omega)
  have i16 := w64 (n := (n16 : Nat)) (by omega) (by omega)
  obtain ⟨q, hq⟩ : ∃ q, n16 % m.seg.length = q := ⟨_, rfl⟩
  have hql : q < m.seg.length := by rw [← hq]; exact Nat.mod_lt _ hl0
  have hqi : (q : Int) < m.seg.length := by omega
  have hrm : Int.tmod (n16 : Int) (m.seg.length : Nat) = (q : Nat) := by rw [← hq]; exact rfl
  have wq := w64 (n := (q : Nat)) (by omega) (by omega)
  obtain ⟨sg, hsg⟩ : ∃ sg, m.seg[q]? = some sg := ⟨_, List.getElem?_eq_getElem hql⟩
  have hsg0 : m.seg[q]'hql = sg := by rw [List.getElem?_eq_getElem hql] at hsg; exact Option.some.inj hsg
  have hsgg : (sgL m.seg)[q]? = some (segA sg) := by rw [sgL_get, hsg]; rfl
  have hk10 : Int.tmod (n : Int) 10 = 5 := by rw [show Int.tmod (n : Int) 10 = ((n % 10 : Nat) : Int) from rfl, hk]; rfl
  have wk := wu8 (n := 5) (by omega) (by omega)
  have hr1 : m.rel.length = 0 := by simp [hr0]
  refine ⟨⟨m.text ++ [0], m.rel, m.seg, m.entry⟩, ⟨by simp <;> omega, by simp <;> omega, by simp <;> omega⟩, ?_⟩
  refine sound_of_U Try.func18 rfl (by decide +kernel) (by simp [Try.f18]) (by simp [AV.rfL, AV.rf]) (by simp [AV.tlL, AV.tl]) (rs := [.cell 6 40]) rfl ?_
  rw [show Try.f18.ntmps = 133 from rfl]
  refine W_evK [1, 2, 3, 6] (by simp; rfl) ?_
  refine W_rK [1, 2, 3, 6] ?_
  refine runA_pre 1 (by simp; rfl) rfl ?_
  refine runA_call (by simp) (by first | (simp; done) | (simp; rfl)) (copyLoad_sound m hm.sm) (by simp; rfl) ?_
  refine runA_fin (by simp [setSeg]; rfl) ?_
  refine W_dvK [1, 2, 3, 6, 7] mx (by decide +kernel) (by simp [e16, w16, i16, hrm, wq, hql, hqi, hsg0, hl0n, hl0i, hsgg]; rfl) ?_
  refine W_seq ?_
  refine W_evK [1, 2, 3, 6, 7, 22] (by simp [hk10, wk]; rfl) ?_
  refine W_block ?_
  refine W_evK [1, 2, 3, 6, 7, 22, 23] (by simp; rfl) ?_
  refine W_cond rfl (fun h => by simp at h) (fun h => ?_)
  refine W_evK [1, 2, 3, 6, 7, 22, 34] (by simp; rfl) ?_
  refine W_cond rfl (fun h => by simp at h) (fun h => ?_)
  refine W_evK [1, 2, 3, 6, 7, 22, 45] (by simp; rfl) ?_
  refine W_cond rfl (fun h => by simp at h) (fun h => ?_)
  refine W_evK [1, 2, 3, 6, 7, 22, 56] (by simp; rfl) ?_
  refine W_cond rfl (fun h => by simp at h) (fun h => ?_)
  refine W_evK [1, 2, 3, 6, 22, 67] (by simp; rfl) ?_
  refine W_cond rfl (fun h => by simp at h) (fun h => ?_)
  refine W_evK [1, 2, 3, 6, 22, 74] (by simp; rfl) ?_
  refine W_cond rfl (fun h => ?_) (fun h => by simp at h)
  refine W_evE [1, 2, 3, 6] (by simp [setSeg, hlt2]; rfl) ?_
  refine W_seq ?_
  refine W_evK [1, 2, 3, 6, 87] (by simp [hr0]; rfl) ?_
  refine W_cond rfl (fun h => by simp at h) (fun h => ?_)
  refine W_skip ?_
  refine W_evK [6] (by simp [setSeg]; rfl) ?_
  refine W_ret ?_
  repeat (first | refine on_ret ?_ | refine in_ret ?_)
  exact retU_pl (r0 := .agg _) ⟨.inr rfl, _, _, by simp [setSeg]; rfl, by simp; exact ⟨rfl, rfl⟩, by simp [AV.rf, AV.rfL]⟩ (by simp [AV.plain, AV.plainL, hr0, byL])
theorem spoil5n (m : LMod) (hm : LSn m) (hr0 : m.rel ≠ []) (n : Nat) (hn : n < 256) (b : Int) (hk : n % 10 = 5) : ∃ m', LSm m' ∧ Sound Try.prog 18 [lmA m, .v (.int .u8 n), .v (.int .i64 b)] (lmA m') := by
  have hl0 : 0 < m.seg.length := List.length_pos_iff.2 hm.s0
  have hls := hm.s
  have hlr := hm.r
  have hlt := hm.t
  have hlt2 : m.text.length + 1 ≤ 140737488355328 := by omega
  have hlr2 : (m.rel.length + 1) * 24 ≤ 140737488355328 := by omega
  have hl0n : ¬ m.seg.length = 0 := by omega
  have hl0i : ¬ (m.seg.length : Int) = 0 := by omega
  obtain ⟨n16, h16⟩ : ∃ n16, n / 16 = n16 := ⟨_, rfl⟩
  have e16 : Int.tdiv (n : Int) 16 = (n16 : Nat) := by rw [← h16]; exact rfl
  have w16 := wu8 (n := (n16 : Nat)) (by omega) (by omega)
  have i16 := w64 (n := (n16 : Nat)) (by omega) (by omega)
  obtain ⟨q, hq⟩ : ∃ q, n16 % m.seg.length = q := ⟨_, rfl⟩
  have hql : q < m.seg.length := by rw [← hq]; exact Nat.mod_lt _ hl0
  have hqi : (q : Int) < m.seg.length := by omega
  have hrm : Int.tmod (n16 : Int) (m.seg.length : Nat) = (q : Nat) := by rw [← hq]; exact rfl
  have wq := w64 (n := (q : Nat)) (by omega) (by omega)
  obtain ⟨sg, hsg⟩ : ∃ sg, m.seg[q]? = some sg := ⟨_, List.getElem?_eq_getElem hql⟩
  have hsg0 : m.seg[q]'hql = sg := by rw [List.getElem?_eq_getElem hql] at hsg; exact Option.some.inj hsg
  have hsgg : (sgL m.seg)[q]? = some (segA sg) := by rw [sgL_get, hsg]; rfl
  have hk10 : Int.tmod (n : Int) 10 = 5 := by rw [show Int.tmod (n : Int) 10 = ((n % 10 : Nat) : Int) from rfl, hk]; rfl
  have wk := wu8 (n := 5) (by omega) (by omega)
  have hr1 : 0 < m.rel.length := List.length_pos_iff.2 hr0
  have hr1n : ¬ m.rel.length = 0 := by omega
  have hr1i : ¬ (m.rel.length : Int) = 0 := by omega
  obtain ⟨q2, hq2⟩ : ∃ q, n16 % m.rel.length = q := ⟨_, rfl⟩
  have hq2l : q2 < m.rel.length := by rw [← hq2]; exact Nat.mod_lt _ hr1
  have hq2i : (q2 : Int) < m.rel.length := by omega
  have hrm2 : Int.tmod (n16 : Int) (m.rel.length : Nat) = (q2 : Nat) := by rw [← hq2]; exact rfl
  have wq2 := w64 (n := (q2 : Nat)) (by omega) (by omega)
  obtain ⟨rl, hrl⟩ : ∃ rl, m.rel[q2]? = some rl := ⟨_, List.getElem?_eq_getElem hq2l⟩
  have hrl0 : m.rel[q2]'hq2l = rl := by rw [List.getElem?_eq_getElem hq2l] at hrl; exact Option.some.inj hrl
  have hrlg : (rlL m.rel)[q2]? = some (rloA rl) := by rw [rlL_get, hrl]; rfl
  refine ⟨⟨m.text ++ [0], m.rel, m.seg, m.entry⟩, ⟨by simp <;> omega, by simp <;> omega, by simp <;> omega⟩, ?_⟩
  refine sound_of_U Try.func18 rfl (by decide +kernel) (by simp [Try.f18]) (by simp [AV.rfL, AV.rf]) (by simp [AV.tlL, AV.tl]) (rs := [.cell 6 40]) rfl ?_
  rw [show Try.f18.ntmps = 133 from rfl]
  refine W_evK [1, 2, 3, 6] (by simp; rfl) ?_
  refine W_rK [1, 2, 3, 6] ?_
  refine runA_pre 1 (by simp; rfl) rfl ?_
  refine runA_call (by simp) (by first | (simp; done) | (simp; rfl)) (copyLoad_sound m hm.sm) (by simp; rfl) ?_
  refine runA_fin (by simp [setSeg]; rfl) ?_
  refine W_dvK [1, 2, 3, 6, 7] mx (by decide +kernel) (by simp [e16, w16, i16, hrm, wq, hql, hqi, hsg0, hl0n, hl0i, hsgg]; rfl) ?_
  refine W_seq ?_
  refine W_evK [1, 2, 3, 6, 7, 22] (by simp [hk10, wk]; rfl) ?_
  refine W_block ?_
  refine W_evK [1, 2, 3, 6, 7, 22, 23] (by simp; rfl) ?_
  refine W_cond rfl (fun h => by simp at h) (fun h => ?_)
  refine W_evK [1, 2, 3, 6, 7, 22, 34] (by simp; rfl) ?_
  refine W_cond rfl (fun h => by simp at h) (fun h => ?_)
  refine W_evK [1, 2, 3, 6, 7, 22, 45] (by simp; rfl) ?_
  refine W_cond rfl (fun h => by simp at h) (fun h => ?_)
  refine W_evK [1, 2, 3, 6, 7, 22, 56] (by simp; rfl) ?_
  refine W_cond rfl (fun h => by simp at h) (fun h => ?_)
  refine W_evK [1, 2, 3, 6, 22, 67] (by simp; rfl) ?_
  refine W_cond rfl (fun h => by simp at h) (fun h => ?_)
  refine W_evK [1, 2, 3, 6, 22, 74] (by simp; rfl) ?_
  refine W_cond rfl (fun h => ?_) (fun h => by simp at h)
  refine W_evE [1, 2, 3, 6] (by simp [setSeg, hlt2]; rfl) ?_
  refine W_seq ?_
  refine W_evK [1, 2, 3, 6, 87] (by simp [hr1]; rfl) ?_
  refine W_cond rfl (fun h => ?_) (fun h => by simp at h)
  refine W_dvK [1, 2, 3, 6, 8] mx (by decide +kernel) (by simp [e16, w16, i16, hrm2, wq2, hq2l, hq2i, hrl0, hr1, hr1n, hr1i, hrlg]; rfl) ?_
  refine W_evK [2, 3, 6, 8, 99] (by simp [hk10, wk]; rfl) ?_
  refine W_block ?_
  refine W_evK [2, 3, 6, 8, 99, 100] (by simp; rfl) ?_
  refine W_cond rfl (fun h => by simp at h) (fun h => ?_)
  refine W_evK [2, 3, 6, 8, 99, 111] (by simp; rfl) ?_
  refine W_cond rfl (fun h => by simp at h) (fun h => ?_)
  refine W_evK [3, 6, 8, 122] (by simp; rfl) ?_
  refine W_cond rfl (fun h => by simp at h) (fun h => ?_)
  refine W_skip ?_
  refine W_evK [6] (by simp [setSeg]; rfl) ?_
  refine W_ret ?_
  repeat (first | refine on_ret ?_ | refine in_ret ?_)
  exact retU_pl (r0 := .agg _) ⟨.inr rfl, _, _, by simp [setSeg]; rfl, by simp; exact ⟨rfl, rfl⟩, by simp [AV.rf, AV.rfL]⟩ (by simp [AV.plain, AV.plainL, hr0, byL])
theorem spoil6e (m : LMod) (hm : LSn m) (hr0 : m.rel = []) (n : Nat) (hn : n < 256) (b : Int) (hk : n % 10 = 6) : ∃ m', LSm m' ∧ Sound Try.prog 18 [lmA m, .v (.int .u8 n), .v (.int .i64 b)] (lmA m') := by
  have hl0 : 0 < m.seg.length := List.length_pos_iff.2 hm.s0
  have hls := hm.s
  have hlr := hm.r
  have hlt := hm.t
  have hlt2 : m.text.length + 1 ≤ 140737488355328 := by omega
  have hlr2 : (m.rel.length + 1) * 24 ≤ 140737488355328 := by omega
  have hl0n : ¬ m.seg.length = 0 := by omega
  have hl0i : ¬ (m.seg.length : Int) = 0 := by omega
  obtain ⟨n16, h16⟩ : ∃ n16, n / 16 = n16 := ⟨_, rfl⟩
  have e16 : Int.tdiv (n : Int) 16 = (n16 : Nat) := by rw [← h16]; exact rfl
  have w16 := wu8 (n := (n16 : Nat)) (by omega) (by omega)
  have i16 := w64 (n := (n16 : Nat)) (by omega) (by omega)
  obtain ⟨q, hq⟩ : ∃ q, n16 % m.seg.length = q := ⟨_, rfl⟩
  have hql : q < m.seg.length := by rw [← hq]; exact Nat.mod_lt _ hl0
  have hqi : (q : Int) < m.seg.length := by omega
  have hrm : Int.tmod (n16 : Int) (m.seg.length : Nat) = (q : Nat) := by rw [← hq]; exact rfl
  have wq := w64 (n := (q : Nat)) (by omega) (by omega)
  obtain ⟨sg, hsg⟩ : ∃ sg, m.seg[q]? = some sg := ⟨_, List.getElem?_eq_getElem hql⟩
  have hsg0 : m.seg[q]'hql = sg := by rw [List.getElem?_eq_getElem hql] at hsg; exact Option.some.inj hsg
  have hsgg : (sgL m.seg)[q]? = some (segA sg) := by rw [sgL_get, hsg]; rfl
  have hk10 : Int.tmod (n : Int) 10 = 6 := by rw [show Int.tmod (n : Int) 10 = ((n % 10 : Nat) : Int) from rfl, hk]; rfl
  have wk := wu8 (n := 6) (by omega) (by omega)
  have hr1 : m.rel.length = 0 := by simp [hr0]
  refine ⟨⟨m.text, m.rel, [], m.entry⟩, ⟨by simp <;> omega, by simp <;> omega, by simp <;> omega⟩, ?_⟩
  refine sound_of_U Try.func18 rfl (by decide +kernel) (by simp [Try.f18]) (by simp [AV.rfL, AV.rf]) (by simp [AV.tlL, AV.tl]) (rs := [.cell 6 40]) rfl ?_
  rw [show Try.f18.ntmps = 133 from rfl]
  refine W_evK [1, 2, 3, 6] (by simp; rfl) ?_
  refine W_rK [1, 2, 3, 6] ?_
  refine runA_pre 1 (by simp; rfl) rfl ?_
  refine runA_call (by simp) (by first | (simp; done) | (simp; rfl)) (copyLoad_sound m hm.sm) (by simp; rfl) ?_
  refine runA_fin (by simp [setSeg]; rfl) ?_
  refine W_dvK [1, 2, 3, 6, 7] mx (by decide +kernel) (by simp [e16, w16, i16, hrm, wq, hql, hqi, hsg0, hl0n, hl0i, hsgg]; rfl) ?_
  refine W_seq ?_
  refine W_evK [1, 2, 3, 6, 7, 22] (by simp [hk10, wk]; rfl) ?_
  refine W_block ?_
  refine W_evK [1, 2, 3, 6, 7, 22, 23] (by simp; rfl) ?_
  refine W_cond rfl (fun h => by simp at h) (fun h => ?_)
  refine W_evK [1, 2, 3, 6, 7, 22, 34] (by simp; rfl) ?_
  refine W_cond rfl (fun h => by simp at h) (fun h => ?_)
  refine W_evK [1, 2, 3, 6, 7, 22, 45] (by simp; rfl) ?_
  refine W_cond rfl (fun h => by simp at h) (fun h => ?_)
  refine W_evK [1, 2, 3, 6, 7, 22, 56] (by simp; rfl) ?_
  refine W_cond rfl (fun h => by simp at h) (fun h => ?_)
  refine W_evK [1, 2, 3, 6, 22, 67] (by simp; rfl) ?_
  refine W_cond rfl (fun h => by simp at h) (fun h => ?_)
  refine W_evK [1, 2, 3, 6, 22, 74] (by simp; rfl) ?_
  refine W_cond rfl (fun h => by simp at h) (fun h => ?_)
  refine W_evK [1, 2, 3, 6, 81] (by simp; rfl) ?_
  refine W_cond rfl (fun h => ?_) (fun h => by simp at h)
  refine W_evE [1, 2, 3, 6] (by simp [setSeg]; rfl) ?_
  refine W_seq ?_
  refine W_evK [1, 2, 3, 6, 87] (by simp [hr0]; rfl) ?_
  refine W_cond rfl (fun h => by simp at h) (fun h => ?_)
  refine W_skip ?_
  refine W_evK [6] (by simp [setSeg]; rfl) ?_
  refine W_ret ?_
  repeat (first | refine on_ret ?_ | refine in_ret ?_)
  exact retU_pl (r0 := .agg _) ⟨.inr rfl, _, _, by simp [setSeg]; rfl, by simp; exact ⟨rfl, rfl⟩, by simp [AV.rf, AV.rfL]⟩ (by simp [AV.plain, AV.plainL, hr0, sgL])
theorem spoil6n (m : LMod) (hm : LSn m) (hr0 : m.rel ≠ []) (n : Nat) (hn : n < 256) (b : Int) (hk : n % 10 = 6) : ∃ m', LSm m' ∧ Sound Try.prog 18 [lmA m, .v (.int .u8 n), .v (.int .i64 b)] (lmA m') := by
  have hl0 : 0 < m.seg.length := List.length_pos_iff.2 hm.s0
  have hls := hm.s
  have hlr := hm.r
  have hlt := hm.t
  have hlt2 : m.text.length + 1 ≤ 140737488355328 := by omega
  have hlr2 : (m.rel.length + 1) * 24 ≤ 140737488355328 := by omega
  have hl0n : ¬ m.seg.length = 0 := by omega
  have hl0i : ¬ (m.seg.length : Int) = 0 := by omega
  obtain ⟨n16, h16⟩ : ∃ n16, n / 16 = n16 := ⟨_, rfl⟩
  have e16 : Int.tdiv (n : Int) 16 = (n16 : Nat) := by rw [← h16]; exact rfl
  have w16 := wu8 (n := (n16 : Nat)) (by omega) (by omega)
  have i16 := w64 (n := (n16 : Nat)) (by omega) (by omega)
  obtain ⟨q, hq⟩ : ∃ q, n16 % m.seg.length = q := ⟨_, rfl⟩
  have hql : q < m.seg.length := by rw [← hq]; exact Nat.mod_lt _ hl0
  have hqi : (q : Int) < m.seg.length := by omega
  have hrm : Int.tmod (n16 : Int) (m.seg.length : Nat) = (q : Nat) := by rw [← hq]; exact rfl
  have wq := w64 (n := (q : Nat)) (by omega) (by omega)
  obtain ⟨sg, hsg⟩ : ∃ sg, m.seg[q]? = some sg := ⟨_, List.getElem?_eq_getElem hql⟩
  have hsg0 : m.seg[q]'hql = sg := by rw [List.getElem?_eq_getElem hql] at hsg; exact Option.some.inj hsg
  have hsgg : (sgL m.seg)[q]? = some (segA sg) := by rw [sgL_get, hsg]; rfl
  have hk10 : Int.tmod (n : Int) 10 = 6 := by rw [show Int.tmod (n : Int) 10 = ((n % 10 : Nat) : Int) from rfl, hk]; rfl
  have wk := wu8 (n := 6) (by omega) (by omega)
  have hr1 : 0 < m.rel.length := List.length_pos_iff.2 hr0
  have hr1n : ¬ m.rel.length = 0 := by omega
  have hr1i : ¬ (m.rel.length : Int) = 0 := by omega
  obtain ⟨q2, hq2⟩ : ∃ q, n16 % m.rel.length = q := ⟨_, rfl⟩
  have hq2l : q2 < m.rel.length := by rw [← hq2]; exact Nat.mod_lt _ hr1
  have hq2i : (q2 : Int) < m.rel.length := by omega
  have hrm2 : Int.tmod (n16 : Int) (m.rel.length : Nat) = (q2 : Nat) := by rw [← hq2]; exact rfl
  have wq2 := w64 (n := (q2 : Nat)) (by omega) (by omega)
  obtain ⟨rl, hrl⟩ : ∃ rl, m.rel[q2]? = some rl := ⟨_, List.getElem?_eq_getElem hq2l⟩
  have hrl0 : m.rel[q2]'hq2l = rl := by rw [List.getElem?_eq_getElem hq2l] at hrl; exact Option.some.inj hrl
  have hrlg : (rlL m.rel)[q2]? = some (rloA rl) := by rw [rlL_get, hrl]; rfl
  refine ⟨⟨m.text, m.rel, [], m.entry⟩, ⟨by simp <;> omega, by simp <;> omega, by simp <;> omega⟩, ?_⟩
  refine sound_of_U Try.func18 rfl (by decide +kernel) (by simp [Try.f18]) (by simp [AV.rfL, AV.rf]) (by simp [AV.tlL, AV.tl]) (rs := [.cell 6 40]) rfl ?_
  rw [show Try.f18.ntmps = 133 from rfl]
  refine W_evK [1, 2, 3, 6] (by simp; rfl) ?_
  refine W_rK [1, 2, 3, 6] ?_
  refine runA_pre 1 (by simp; rfl) rfl ?_
  refine runA_call (by simp) (by first | (simp; done) | (simp; rfl)) (copyLoad_sound m hm.sm) (by simp; rfl) ?_
  refine runA_fin (by simp [setSeg]; rfl) ?_
  refine W_dvK [1, 2, 3, 6, 7] mx (by decide +kernel) (by simp [e16, w16, i16, hrm, wq, hql, hqi, hsg0, hl0n, hl0i, hsgg]; rfl) ?_
  refine W_seq ?_
  refine W_evK [1, 2, 3, 6, 7, 22] (by simp [hk10, wk]; rfl) ?_
  refine W_block ?_
  refine W_evK [1, 2, 3, 6, 7, 22, 23] (by simp; rfl) ?_
  refine W_cond rfl (fun h => by simp at h) (fun h => ?_)
  refine W_evK [1, 2, 3, 6, 7, 22, 34] (by simp; rfl) ?_
  refine W_cond rfl (fun h => by simp at h) (fun h => ?_)
  refine W_evK [1, 2, 3, 6, 7, 22, 45] (by simp; rfl) ?_
  refine W_cond rfl (fun h => by simp at h) (fun h => ?_)
  refine W_evK [1, 2, 3, 6, 7, 22, 56] (by simp; rfl) ?_
  refine W_cond rfl (fun h => by simp at h) (fun h => ?_)
  refine W_evK [1, 2, 3, 6, 22, 67] (by simp; rfl) ?_
  refine W_cond rfl (fun h => by simp at h) (fun h => ?_)
  refine W_evK [1, 2, 3, 6, 22, 74] (by simp; rfl) ?_
  refine W_cond rfl (fun h => by simp at h) (fun h => ?_)
  refine W_evK [1, 2, 3, 6, 81] (by simp; rfl) ?_
  refine W_cond rfl (fun h => ?_) (fun h => by simp at h)
  refine W_evE [1, 2, 3, 6] (by simp [setSeg]; rfl) ?_
  refine W_seq ?_
  refine W_evK [1, 2, 3, 6, 87] (by simp [hr1]; rfl) ?_
  refine W_cond rfl (fun h => ?_) (fun h => by simp at h)
  refine W_dvK [1, 2, 3, 6, 8] mx (by decide +kernel) (by simp [e16, w16, i16, hrm2, wq2, hq2l, hq2i, hrl0, hr1, hr1n, hr1i, hrlg]; rfl) ?_
  refine W_evK [2, 3, 6, 8, 99] (by simp [hk10, wk]; rfl) ?_
  refine W_block ?_
  refine W_evK [2, 3, 6, 8, 99, 100] (by simp; rfl) ?_
  refine W_cond rfl (fun h => by simp at h) (fun h => ?_)
  refine W_evK [2, 3, 6, 8, 99, 111] (by simp; rfl) ?_
  refine W_cond rfl (fun h => by simp at h) (fun h => ?_)
  refine W_evK [3, 6, 8, 122] (by simp; rfl) ?_
  refine W_cond rfl (fun h => by simp at h) (fun h => ?_)
  refine W_skip ?_
  refine W_evK [6] (by simp [setSeg]; rfl) ?_
  refine W_ret ?_
  repeat (first | refine on_ret ?_ | refine in_ret ?_)
  exact retU_pl (r0 := .agg _) ⟨.inr rfl, _, _, by simp [setSeg]; rfl, by simp; exact ⟨rfl, rfl⟩, by simp [AV.rf, AV.rfL]⟩ (by simp [AV.plain, AV.plainL, hr0, sgL])
end Go.AM
