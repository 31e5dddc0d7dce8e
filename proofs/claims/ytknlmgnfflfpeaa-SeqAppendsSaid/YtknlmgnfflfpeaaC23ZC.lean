/- Bounds on what Blocks and Records give. -/
import Derived.Test.YtknlmgnfflfpeaaC23ZB
import Derived.Test.YtknlmgnfflfpeaaC23Y
namespace Go.AM
open Go.RowKit Go.Proofs
set_option linter.unusedSimpArgs false
set_option linter.unusedVariables false
set_option maxHeartbeats 1000000

theorem trk_bound (m : Nat) : ∀ (t : List Rec) (n : Nat) (o : List (List UInt8)), (∀ r ∈ t, r.data.length ≤ m) → (∀ b ∈ o, b.length ≤ m) → (trk n t o).2.length ≤ o.length + t.length ∧ ∀ b ∈ (trk n t o).2, b.length ≤ m
  | [], n, o, _, ho => by simpa [trk] using ho
  | r :: t, n, o, ht, ho => by
    rw [trk]
    split
    · have h := trk_bound m t (n + 1) (o ++ [r.data]) (fun x hx => ht x (List.mem_cons_of_mem _ hx)) fun b hb => by
        rcases List.mem_append.1 hb with h | h
        · exact ho b h
        · rw [List.mem_singleton.1 h]; exact ht r List.mem_cons_self
      refine ⟨?_, h.2⟩
      have h1 := h.1
      simp only [List.length_append, List.length_cons, List.length_nil] at h1 ⊢
      omega
    · exact ⟨by simp, ho⟩
theorem blk_bound (m c : Nat) : ∀ (t : List (List Rec)) (o : List (List UInt8)), (∀ l ∈ t, l.length ≤ c ∧ ∀ r ∈ l, r.data.length ≤ m) → (∀ b ∈ o, b.length ≤ m) → (blkGo t o).1.length ≤ o.length + t.length * c ∧ ∀ b ∈ (blkGo t o).1, b.length ≤ m
  | [], o, _, ho => by simp [blkGo]
  | l :: t, o, ht, ho => by
    obtain ⟨h1, h2⟩ := trk_bound m l 0 o (ht l List.mem_cons_self).2 ho
    have hc := (ht l List.mem_cons_self).1
    have hm : (t.length + 1) * c = t.length * c + c := Nat.succ_mul _ _
    rw [blkGo]
    split
    · obtain ⟨h3, h4⟩ := blk_bound m c t (trk 0 l o).2 (fun x hx => ht x (List.mem_cons_of_mem _ hx)) h2
      refine ⟨?_, h4⟩
      simp only [List.length_cons]
      omega
    · split
      · refine ⟨?_, h2⟩
        simp only [List.length_cons]
        omega
      · exact ⟨by simp, by simp⟩
theorem blocks_bound (m c : Nat) (t : List (List Rec)) (ht : ∀ l ∈ t, l.length ≤ c ∧ ∀ r ∈ l, r.data.length ≤ m) : (blocksM t).1.length ≤ t.length * c ∧ ∀ b ∈ (blocksM t).1, b.length ≤ m := by
  have h := blk_bound m c t [] ht (by simp)
  simpa [blocksM] using h

theorem unbM_len (d : Dcb) (l : List (List UInt8)) : (unbM d l).1.length ≤ 4096 := by
  unfold unbM
  split
  · cases unbGo d l [] with
    | none => simp [finU]
    | some O =>
      simp only [finU]
      split
      · simp
      · dsimp only; omega
  · simp

def fewOk (t : List (List Rec)) : Prop := t.length ≤ 500 ∧ ∀ l ∈ t, l.length ≤ 200 ∧ ∀ r ∈ l, recSm r
theorem reads_small (d : Dcb) {t : List (List Rec)} (h : fewOk t) : Sound Try.prog 18 [dcbA d, .lst .any 1 (arL t)] (.v (.bool true)) := by
  obtain ⟨h1, h2⟩ := h
  obtain ⟨h3, h4⟩ := blocks_bound 1000000000 200 t fun l hl => ⟨(h2 l hl).1, fun r hr => ((h2 l hl).2 r hr).2⟩
  refine reads_sound d t (by omega) (fun l hl => ⟨by have := (h2 l hl).1; omega, (h2 l hl).2⟩) (by omega) h4 ?_
  unfold recsM
  split
  · have := unbM_len d (blocksM t).1
    omega
  · simp
theorem fewT_few (a : List (List Rec)) : fewOk (fewT a) := by
  refine ⟨by simp [fewT]; omega, fun t ht => ?_⟩
  obtain ⟨u, _, rfl⟩ := List.mem_map.1 ht
  refine ⟨by simp [cutT]; omega, fun r hr => ?_⟩
  obtain ⟨q, _, rfl⟩ := List.mem_map.1 hr
  exact ⟨by simp [cutR]; omega, by simp [cutR]; omega⟩

def spoilR (k : Nat) (f : Rec → Rec) (t : List Rec) : List Rec := match t[k]? with
  | some r => t.set k (f r)
  | none => t
def spoilM (t : List (List Rec)) (at' how : Nat) : List (List Rec) :=
  match t[at' % t.length]? with
  | none => []
  | some one =>
    if one = [] then t else
      let i := at' % t.length
      let k := how / 8 % one.length
      match how % 8 with
      | 0 => t.set i (spoilR k (fun r => ⟨IntKind.i64.wrap (r.R + 1), r.key, r.data, r.bad⟩) one)
      | 1 => t.set i (spoilR k (fun r => ⟨r.R, [1], r.data, r.bad⟩) one)
      | 2 => t.set i (spoilR k (fun r => ⟨r.R, r.key, r.data, true⟩) one)
      | 3 => t.set i (spoilR k (fun r => ⟨r.R, r.key, [], r.bad⟩) one)
      | 4 => t.set i (spoilR k (fun r => ⟨r.R, r.key, r.data ++ [1], r.bad⟩) one)
      | 5 => t.set i (one.take k)
      | 6 => t.take i ++ t.drop (i + 1)
      | _ => t ++ [one]

def lessOk (t : List (List Rec)) : Prop := t.length ≤ 499 ∧ ∀ l ∈ t, l.length ≤ 200 ∧ ∀ r ∈ l, r.key.length ≤ 1000000000 ∧ r.data.length ≤ 999999999
theorem lessOk.few {t : List (List Rec)} (h : lessOk t) : fewOk t := ⟨by have := h.1; omega, fun l hl => ⟨(h.2 l hl).1, fun r hr => ⟨((h.2 l hl).2 r hr).1, by have := ((h.2 l hl).2 r hr).2; omega⟩⟩⟩
theorem spoilR_ok {k : Nat} {f : Rec → Rec} {l : List Rec} (h : l.length ≤ 200 ∧ ∀ r ∈ l, r.key.length ≤ 1000000000 ∧ r.data.length ≤ 999999999) (hf : ∀ r ∈ l, recSm (f r)) : (spoilR k f l).length ≤ 200 ∧ ∀ r ∈ spoilR k f l, recSm r := by
  have hs : ∀ r ∈ l, recSm r := fun r hr => ⟨(h.2 r hr).1, by have := (h.2 r hr).2; omega⟩
  unfold spoilR
  split
  · rename_i r hr
    refine ⟨by simpa using h.1, fun q hq => ?_⟩
    rcases List.mem_or_eq_of_mem_set hq with h1 | h1
    · exact hs q h1
    · rw [h1]; exact hf r (List.mem_of_getElem? hr)
  · exact ⟨h.1, hs⟩
theorem set_few {t : List (List Rec)} (h : lessOk t) (i : Nat) {l : List Rec} (hl : l.length ≤ 200 ∧ ∀ r ∈ l, recSm r) : fewOk (t.set i l) := by
  refine ⟨by have := h.1; simp; omega, fun q hq => ?_⟩
  rcases List.mem_or_eq_of_mem_set hq with h1 | h1
  · exact h.few.2 q h1
  · rw [h1]; exact hl
theorem spoil_few {t : List (List Rec)} (h : lessOk t) (at' how : Nat) : fewOk (spoilM t at' how) := by
  unfold spoilM
  split
  · exact ⟨by simp, by simp⟩
  rename_i one hone
  have hm := List.mem_of_getElem? hone
  have ho := h.2 one hm
  have hf := h.few.2 one hm
  split
  · exact h.few
  dsimp only
  split
  · exact set_few h _ (spoilR_ok ho fun r hr => hf.2 r hr)
  · exact set_few h _ (spoilR_ok ho fun r hr => ⟨by simp, (hf.2 r hr).2⟩)
  · exact set_few h _ (spoilR_ok ho fun r hr => hf.2 r hr)
  · exact set_few h _ (spoilR_ok ho fun r hr => ⟨(hf.2 r hr).1, by simp⟩)
  · exact set_few h _ (spoilR_ok ho fun r hr => ⟨(hf.2 r hr).1, by have := (ho.2 r hr).2; simp; omega⟩)
  · exact set_few h _ ⟨by have := hf.1; simp; omega, fun r hr => hf.2 r (List.mem_of_mem_take hr)⟩
  · refine ⟨by have := h.1; simp; omega, fun l hl => ?_⟩
    rcases List.mem_append.1 hl with h1 | h1
    · exact h.few.2 l (List.mem_of_mem_take h1)
    · exact h.few.2 l (List.mem_of_mem_drop h1)
  · refine ⟨by have := h.1; simp; omega, fun l hl => ?_⟩
    rcases List.mem_append.1 hl with h1 | h1
    · exact h.few.2 l h1
    · rw [List.mem_singleton.1 h1]; exact hf
end Go.AM
