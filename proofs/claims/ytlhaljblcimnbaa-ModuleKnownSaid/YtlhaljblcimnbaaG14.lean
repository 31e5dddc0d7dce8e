/- Parts of the walk: C31LD C31LF C31ON C31OO C31OV C31OP0 C31OP1 C31OP2 C31OP3 C31OQ. -/
import Derived.Test.YtlhaljblcimnbaaG13
namespace Go.AM
open Go.RowKit Go.Proofs
set_option linter.unusedSimpArgs false
set_option linter.unusedVariables false
set_option maxHeartbeats 4000000
theorem copyLoad_sound (m : LMod) (hm : LSm m) : Sound Try.prog 33 [lmA m] (.agg [.lst (.tip 5 1) 1 (byL m.text), .lst (.tip 85 1) 3 (rlL m.rel), .lst (.tip 83 1) 4 (sgL m.seg), .v (.int .i64 m.entry)]) := by
 obtain ⟨h1, h2, h3⟩ := hm
 have q1 : m.text.length ≤ 140737488355328 := by omega
 have q2 : m.rel.length * 24 ≤ 140737488355328 := by omega
 have q3 : m.seg.length * 32 ≤ 140737488355328 := by omega
 have q2' : m.rel.length ≤ 140737488355328 := by omega
 have q3' : m.seg.length ≤ 140737488355328 := by omega
 refine sound_of_U Try.func33 rfl (by decide +kernel) (by simp [Try.f33]) (by simp [AV.rfL, AV.rf]) (by simp [AV.tlL, AV.tl]) (rs := [.cell 2 40]) rfl ?_
 rw [show Try.f33.ntmps = 18 from rfl]
 refine yt9 [1, 2] (by simp; rfl) ?_
 refine yk9 (W_vals 15 [(3, 0, 14), (7, 4, 30), (11, 8, 46)] mx (by decide +kernel) (clear_of (by simp [AV.kill, AV.killL])) ?_)
 refine zn8 rfl (by simp) (by simp) (by simp [evE, tipA, kofV]; rfl) (by simp [app, kofV]; rfl) (by simp [AV.kill, AV.killL]) ?_
 refine zn8 rfl (by simp) (by simp) (by simp [evE, evF, tipA, kofV]; rfl) (by simp [app, kofV]; rfl) (by simp [AV.kill, AV.killL]) ?_
 refine zn8 rfl (by simp) (by simp) (by simp [evE, evF, tipA, kofV]; rfl) (by simp [app, kofV]; rfl) (by simp [AV.kill, AV.killL]) ?_
 refine zn8 rfl (by simp) (by simp) (by simp [evE, vm9, tipA, kofV, q1, q2, q3]; rfl) (by simp [app, kofV]; rfl) (by simp [AV.kill, AV.killL]) ?_
 refine zn8 rfl (by simp) (by simp) (by simp [evE, tipA, kofV]; rfl) (by simp [app, kofV]; rfl) (by simp [AV.kill, AV.killL]) ?_
 refine zn8 rfl (by simp) (by simp) (by simp [evE, evF, tipA, kofV]; rfl) (by simp [app, kofV]; rfl) (by simp [AV.kill, AV.killL]) ?_
 refine zn8 rfl (by simp) (by simp) (by simp [evE, evF, tipA, kofV]; rfl) (by simp [app, kofV]; rfl) (by simp [AV.kill, AV.killL]) ?_
 refine zn8 rfl (by simp) (by simp) (by simp [evE, vm9, tipA, kofV, q1, q2, q3]; rfl) (by simp [app, kofV]; rfl) (by simp [AV.kill, AV.killL]) ?_
 refine zn8 rfl (by simp) (by simp) (by simp [evE, tipA, kofV]; rfl) (by simp [app, kofV]; rfl) (by simp [AV.kill, AV.killL]) ?_
 refine zn8 rfl (by simp) (by simp) (by simp [evE, evF, tipA, kofV]; rfl) (by simp [app, kofV]; rfl) (by simp [AV.kill, AV.killL]) ?_
 refine zn8 rfl (by simp) (by simp) (by simp [evE, evF, tipA, kofV]; rfl) (by simp [app, kofV]; rfl) (by simp [AV.kill, AV.killL]) ?_
 refine zn8 rfl (by simp) (by simp) (by simp [evE, vm9, tipA, kofV, q1, q2, q3]; rfl) (by simp [app, kofV]; rfl) (by simp [AV.kill, AV.killL]) ?_
 refine zn8 rfl (by simp) (by simp) (by simp [evE, evF, tipA, kofV]; rfl) (by simp [app, kofV]; rfl) (by simp [AV.kill, AV.killL]) ?_
 refine zn8 rfl (by simp) (by simp) (by simp [evE, evF, tipA, kofV]; rfl) (by simp [app, kofV]; rfl) (by simp [AV.kill, AV.killL]) ?_
 refine zn8 rfl (by simp) (by simp) (by simp [evE, tipA, kofV, yf9]; rfl) (by simp [app, kofV]; rfl) (by simp [AV.kill, AV.killL]) ?_
 refine yj7 (by decide +kernel) ?_
 refine zr9 (by simp; rfl) ?_
 refine zp9 ?_
 repeat (first | refine yh9 ?_ | refine yj9 ?_)
 exact ⟨.agg [.lst (.tip 5 13) 1 (byL m.text), .lst (.tip 85 21) 3 (rlL m.rel), .lst (.tip 83 29) 4 (sgL m.seg), .v (.int .i64 m.entry)], by simp [retQ, yf9], AV.Le.norm fun T => rfl⟩
end Go.AM
namespace Go.AM
open Go.RowKit Go.Proofs
set_option linter.unusedSimpArgs false
set_option linter.unusedVariables false
set_option maxHeartbeats 4000000
def flC {α : Type} (F : α → List AV) (l : List α) : List AV := (l.map F).flatten
section
variable {α : Type} {F : α → List AV} {sz : Nat}
theorem vk8 (x : α) (l : List α) : flC F (x :: l) = F x ++ flC F l := rfl
theorem yd8 (hF : ∀ x, (F x).length = sz) (l : List α) : (flC F l).length = l.length * sz := by
 induction l with
 | nil => simp [flC]
 | cons r t ih => rw [vk8, List.length_append, ih, hF, List.length_cons, Nat.add_mul]; omega
theorem chunk_flC (hF : ∀ x, (F x).length = sz) (l : List α) (rs : List AV) : chunk true sz l.length (flC F l ++ rs) = l.map fun x => .agg (F x) := by
 induction l with
 | nil => rfl
 | cons r t ih =>
  show AV.agg ((F r ++ flC F t ++ rs).take sz) :: chunk true sz t.length ((F r ++ flC F t ++ rs).drop sz) = _
  rw [List.append_assoc, ← hF r, List.take_left', List.drop_left', hF r, ih]
  ·rfl
  ·rfl
  ·rfl
theorem setSeg_skip31 (a xs : List AV) (k : Nat) (ys : List AV) : yf9 (a ++ xs) (a.length + k) ys = a ++ yf9 xs k ys := by
 unfold yf9
 rw [List.take_append, List.drop_append, List.take_of_length_le (by omega), List.drop_eq_nil_of_le (by omega)]
 simp only [List.append_assoc, List.nil_append, Nat.add_sub_cancel_left]
 rw [show a.length + k + ys.length - a.length = k + ys.length by omega]
theorem flC_set (hF : ∀ x, (F x).length = sz) {l : List α} {k : Nat} {r r' : α} (h : l[k]? = some r) (rs : List AV) (j : Nat) (ys : List AV) (hr : yf9 (F r) j ys = F r') (hj : j + ys.length ≤ sz) : yf9 (flC F l ++ rs) (k * sz + j) ys = flC F (l.set k r') ++ rs := by
 induction l generalizing k with
 | nil => simp at h
 | cons x t ih =>
  cases k with
  | zero =>
   simp at h
   subst h
   have e : yf9 (F x ++ (flC F t ++ rs)) j ys = yf9 (F x) j ys ++ (flC F t ++ rs) := by
    have h4 := hF x
    unfold yf9
    rw [List.take_append_of_le_length (by omega), List.drop_append_of_le_length (by omega)]
    simp only [List.append_assoc]
   rw [vk8, List.append_assoc, Nat.zero_mul, Nat.zero_add, e, hr, List.set_cons_zero, vk8, List.append_assoc]
  | succ k =>
   rw [vk8, List.append_assoc, show (k + 1) * sz + j = (F x).length + (k * sz + j) by rw [hF, Nat.add_mul]; omega, setSeg_skip31, ih (by simpa using h), List.set_cons_succ, vk8, List.append_assoc]
end
theorem zl7 (s : Seg) : (segC s).length = 4 := rfl
theorem catK_sgL (l : List Seg) : catK 4 (sgL l) = some (flC segC l) := by
 induction l with
 | nil => rfl
 | cons r t ih =>
  show catK 4 (segA r :: sgL t) = _
  rw [catK, ih]
  simp [AV.cellsK, AV.koneL, AV.kone, vk8, segC]
theorem vals_all {l : List AV} (h : ∀ x ∈ l, ∃ v, x = .v v ∧ v.oneCell' = true) : AV.weakL l = l ∧ AV.shalL l = true ∧ AV.rfL l = true ∧ AV.koneL l = true ∧ ∀ t, AV.killL t l = l := by
 induction l with
 | nil => exact ⟨rfl, rfl, rfl, rfl, fun _ => rfl⟩
 | cons x l ih =>
  obtain ⟨v, rfl, hv⟩ := h x List.mem_cons_self
  obtain ⟨h1, h2, h3, h4, h5⟩ := ih fun y hy => h y (List.mem_cons_of_mem _ hy)
  refine ⟨?_, ?_, ?_, ?_, fun t => ?_⟩
  ·simp [AV.weakL, AV.weak, h1]
  ·exact List.all_eq_true.2 fun y hy => by obtain ⟨v, rfl, _⟩ := h y hy; rfl
  ·simp [AV.rfL, AV.rf, h3]
  ·simp [AV.koneL, AV.kone, h4, hv]
  ·simp [AV.killL, AV.kill, h5]
theorem flC_vals {α : Type} {F : α → List AV} (hF : ∀ x, ∀ y ∈ F x, ∃ v, y = .v v ∧ v.oneCell' = true) (l : List α) : ∀ y ∈ flC F l, ∃ v, y = .v v ∧ v.oneCell' = true := by
 intro y hy
 simp only [flC, List.mem_flatten, List.mem_map] at hy
 obtain ⟨_, ⟨x, _, rfl⟩, hy⟩ := hy
 exact hF x y hy
theorem segC_vals (s : Seg) : ∀ y ∈ segC s, ∃ v, y = .v v ∧ v.oneCell' = true := by simp [segC, Value.oneCell']
@[simp] theorem weakL_flS (l : List Seg) : AV.weakL (flC segC l) = flC segC l := (vals_all (flC_vals segC_vals l)).1
@[simp] theorem thwL_flS (l : List Seg) : AV.thwL (flC segC l) = true := thwL_shal (vals_all (flC_vals segC_vals l)).2.1
@[simp] theorem koneL_flS (l : List Seg) : AV.koneL (flC segC l) = true := (vals_all (flC_vals segC_vals l)).2.2.2.1
theorem weakL_rep31 (k : Nat) : AV.weakL (List.replicate k .any) = List.replicate k .any := by
 induction k with
 | zero => rfl
 | succ k ih => rw [List.replicate_succ, AV.weakL, ih]; rfl
end Go.AM
namespace Go.AM
open Go.RowKit Go.Proofs
set_option linter.unusedSimpArgs false
set_option linter.unusedVariables false
set_option maxHeartbeats 8000000
theorem xd8 (s : Esd) : (esC s).length = 5 := rfl
end Go.AM
namespace Go.AM
open Go.RowKit Go.Proofs
set_option linter.unusedSimpArgs false
set_option linter.unusedVariables false
set_option maxHeartbeats 4000000
end Go.AM
namespace Go.AM
open Go.RowKit Go.Proofs
set_option linter.unusedSimpArgs false
set_option linter.unusedVariables false
set_option maxHeartbeats 8000000
end Go.AM
namespace Go.AM
open Go.RowKit Go.Proofs
set_option linter.unusedSimpArgs false
set_option linter.unusedVariables false
set_option maxHeartbeats 8000000
end Go.AM
namespace Go.AM
open Go.RowKit Go.Proofs
set_option linter.unusedSimpArgs false
set_option linter.unusedVariables false
set_option maxHeartbeats 8000000
end Go.AM
namespace Go.AM
open Go.RowKit Go.Proofs
set_option linter.unusedSimpArgs false
set_option linter.unusedVariables false
set_option maxHeartbeats 8000000
end Go.AM
namespace Go.AM
open Go.RowKit Go.Proofs
set_option linter.unusedSimpArgs false
set_option linter.unusedVariables false
set_option maxHeartbeats 8000000
end Go.AM
namespace Go.AM
open Go.RowKit Go.Proofs
set_option linter.unusedSimpArgs false
set_option linter.unusedVariables false
set_option maxHeartbeats 8000000
end Go.AM
