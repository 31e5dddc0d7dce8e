/- Spoil: what its list of tracks is made of. -/
import Derived.Test.YtknlmgnfflfpeaaC23ZE
import Derived.Test.YtknlmgnfflfpeaaC23K
import Derived.Test.YtknlmgnfflfpeaaC23ZQ
namespace Go.AM
open Go.RowKit Go.Proofs
set_option linter.unusedSimpArgs false
set_option linter.unusedVariables false
set_option maxHeartbeats 1000000

def Out (th : Bool) (i0 : Nat) (one : List Rec) (t : List (List Rec)) (x : AV) (H : List AObj) : Prop :=
  ∃ id cap cs, x = .arr id 0 t.length cap ∧ H[id]? = some (.cells 46 cs) ∧ cs.length = cap ∧ t.length ≤ cap ∧
    (th = true ∧ i0 < t.length → ∃ q cq rs, H[q]? = some (.cells 49 (trT one ++ rs)) ∧ one.length ≤ cq ∧ rs.length = (cq - one.length) * 4 ∧ cs.take t.length = (arL t).set i0 (.arr q 0 one.length cq)) ∧
    (¬ (th = true ∧ i0 < t.length) → cs.take t.length = arL t)

theorem app_step {s s1 : St} {x1 y : AV} {id j cap : Nat} {cs : List AV} (hid : s.h[id]? = some (.cells 46 cs)) (hcl : cs.length = cap) (hj : j ≤ cap) (hq : appQ0 s 46 1 id j cap 1 [y.weak] cs [.lst .nil 4 []] s1 x1) :
    ∃ id' cap' cs' h', x1 = .arr id' 0 (j + 1) cap' ∧ s1 = ⟨s.n, s.fr, h'⟩ ∧ h'[id']? = some (.cells 46 cs') ∧ cs'.length = cap' ∧ j + 1 ≤ cap' ∧ cs'.take (j + 1) = cs.take j ++ [y.weak] ∧
      ∀ (q : Nat) (c : List AV), s.h[q]? = some (AObj.cells 49 c) → h'[q]? = some (AObj.cells 49 c) := by
  have hidl : id < s.h.length := (List.getElem?_eq_some_iff.1 hid).1
  rcases hq with ⟨h1, rfl, rfl⟩ | ⟨h1, cap', h2, h3, rfl, rfl⟩
  · refine ⟨id, cap, _, _, rfl, rfl, List.getElem?_set_self hidl, ?_, h1, ?_, fun q c hqc => ?_⟩
    · rw [setSeg_length]; exact hcl; simp; omega
    · rw [Nat.mul_one]
      have hl : (List.take j cs ++ [y.weak]).length = j + 1 := by simp; omega
      unfold setSeg
      rw [List.take_append_of_le_length (by omega), List.take_of_length_le (by omega)]
    · have : id ≠ q := by
        intro e
        subst e
        rw [hid] at hqc
        simp at hqc
      rw [List.getElem?_set_ne this]; exact hqc
  · refine ⟨s.h.length, cap', cs.take (j * 1) ++ [y.weak] ++ repC (cap' - (j + 1)) [.lst .nil 4 []], _, rfl, rfl, by simp, ?_, h2, ?_, fun q c hqc => ?_⟩
    · rw [Nat.mul_one]
      simp [repC_length]
      omega
    · rw [Nat.mul_one]
      have hl : (List.take j cs ++ [y.weak]).length = j + 1 := by simp; omega
      rw [List.take_append_of_le_length (by omega), List.take_of_length_le (by omega)]
    · rw [List.getElem?_append_left (List.getElem?_eq_some_iff.1 hqc).1]; exact hqc
end Go.AM
