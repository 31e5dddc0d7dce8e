/- bytes.Equal, HasPrefix, Capacity, plain. -/
import Derived.Test.YtonckolkghbcbaaC38B
import Derived.Test.YtonckolkghbcbaaAmC
namespace Go.AM
open Go.RowKit Go.Proofs
set_option linter.unusedSimpArgs false
set_option linter.unusedVariables false
set_option maxHeartbeats 1000000

theorem baLoop (l : List UInt8) : ∀ (k i : Nat) (r : List UInt8), l.length - i = k → ByteArray.toList.loop ⟨l.toArray⟩ i r = r.reverse ++ l.drop i := by
  intro k
  induction k with
  | zero =>
    intro i r h
    unfold ByteArray.toList.loop
    have : ¬ i < (⟨l.toArray⟩ : ByteArray).size := by show ¬ i < l.length; omega
    rw [if_neg this, List.drop_eq_nil_of_le (by omega), List.append_nil]
  | succ k ih =>
    intro i r h
    unfold ByteArray.toList.loop
    have hi : i < l.length := by omega
    have : i < (⟨l.toArray⟩ : ByteArray).size := hi
    rw [if_pos this, ih (i + 1) _ (by omega), List.drop_eq_getElem_cons hi]
    have : (⟨l.toArray⟩ : ByteArray).get! i = l[i] := by
      show l.toArray[i]! = l[i]
      simp [hi]
    rw [this]
    simp
@[simp] theorem ba_toList (l : List UInt8) : (⟨l.toArray⟩ : ByteArray).toList = l := by
  unfold ByteArray.toList
  rw [baLoop l l.length 0 [] (by omega)]
  simp
@[simp] theorem bytesA_byL (l : List UInt8) : bytesA (byL l) = some l := by
  induction l with
  | nil => rfl
  | cons b l ih => rw [byL_cons]; simp [bytesA, ih]

theorem equal_sound (a b : List UInt8) : Sound Try.prog 33 [.lst .any 1 (byL a), .lst .any 1 (byL b)] (.v (.bool (decide (a = b)))) := by
  refine sound_of_W Try.func33 rfl (by decide +kernel) (by simp [Try.f33]) rfl rfl (rs := [.tmp 4]) rfl ?_
  rw [show Try.f33.ntmps = 10 from rfl]
  refine W_evK [0, 1] (by simp; rfl) ?_
  refine W_evK [4] (by simp [strA]; rfl) ?_
  refine W_ret ?_
  repeat (first | refine on_ret ?_ | refine in_ret ?_)
  simp [retQ]
  rw [Bool.eq_iff_iff]; simp

theorem prefix_sound (a b : List UInt8) : Sound Try.prog 34 [.lst .any 1 (byL a), .lst .any 1 (byL b)] (.v (.bool (decide (b.length ≤ a.length ∧ a.take b.length = b)))) := by
  refine sound_of_W Try.func34 rfl (by decide +kernel) (by simp [Try.f34]) rfl rfl (rs := [.tmp 4]) rfl ?_
  rw [show Try.f34.ntmps = 18 from rfl]
  refine W_evK [0, 1] (by simp; rfl) ?_
  refine W_rK [4] ?_
  by_cases h : b.length ≤ a.length
  · have he := equal_sound (a.take b.length) b
    refine runA_pre 6 (by simp [h]; rfl) rfl ?_
    refine runA_pre 5 (by simp [h, ← byL_take]; rfl) rfl ?_
    refine runA_call (by simp) (by first | (simp; done) | (simp; rfl)) he (by simp; rfl) ?_
    refine runA_fin (by simp; rfl) ?_
    refine W_ret ?_
    repeat (first | refine on_ret ?_ | refine in_ret ?_)
    simp [retQ, h]
  · refine runA_fin (by simp [h]; rfl) ?_
    refine W_ret ?_
    repeat (first | refine on_ret ?_ | refine in_ret ?_)
    simp [retQ, h]

def capN (n : Int) : Int := if n < 2 ∨ 512 < n ∨ n.tmod 2 ≠ 0 then 0 else n.tdiv 2 * 1960

theorem cap9_sound (n : Int) : Sound Try.prog 9 [.v (.int .i64 n)] (.v (.int .i64 (capN n))) := by
  refine sound_of_W Try.func9 rfl (by decide +kernel) (by simp [Try.f9]) rfl rfl (rs := [.tmp 2]) rfl ?_
  rw [show Try.f9.ntmps = 17 from rfl]
  refine W_evK [0] (by simp; rfl) ?_
  refine W_seq ?_
  by_cases h1 : n < 2
  · refine W_evK [0, 13] (by simp [h1]; rfl) ?_
    refine W_cond rfl (fun h => ?_) (fun h => by simp at h)
    refine W_evK [2] (by simp; rfl) ?_
    refine W_ret ?_
    repeat (first | refine on_ret ?_ | refine in_ret ?_)
    simp [retQ, capN, h1]
  by_cases h2 : 512 < n
  · refine W_evK [0, 13] (by simp [h1, h2]; rfl) ?_
    refine W_cond rfl (fun h => ?_) (fun h => by simp at h)
    refine W_evK [2] (by simp; rfl) ?_
    refine W_ret ?_
    repeat (first | refine on_ret ?_ | refine in_ret ?_)
    simp [retQ, capN, h1, h2]
  by_cases h3 : n.tmod 2 = 0
  · refine W_evK [0, 13] (by simp [h1, h2, h3]; rfl) ?_
    refine W_cond rfl (fun h => by simp [h3] at h) (fun h => ?_)
    refine W_skip ?_
    have e : n.tdiv 2 * 1960 ≤ 9223372036854775807 ∧ -9223372036854775808 ≤ n.tdiv 2 * 1960 := by
      rw [Int.tdiv_eq_ediv_of_nonneg (by omega)]; omega
    have e2 : n.tdiv 2 ≤ 9223372036854775807 ∧ -9223372036854775808 ≤ n.tdiv 2 := by
      rw [Int.tdiv_eq_ediv_of_nonneg (by omega)]; omega
    refine W_evK [2] (by simp [w64 e.2 e.1, w64 e2.2 e2.1]; rfl) ?_
    refine W_ret ?_
    repeat (first | refine on_ret ?_ | refine in_ret ?_)
    simp [retQ, capN, h1, h2, h3]
  · refine W_evK [0, 13] (by simp [h1, h2, h3]; rfl) ?_
    refine W_cond rfl (fun h => ?_) (fun h => by simp [h3] at h)
    refine W_evK [2] (by simp; rfl) ?_
    refine W_ret ?_
    repeat (first | refine on_ret ?_ | refine in_ret ?_)
    simp [retQ, capN, h1, h2, h3]

def plainM (t : List Rec) (n : Nat) : List UInt8 × Bool :=
  match t[n - 1]? with
  | none => ([], false)
  | some r => (r.data, decide (r.R = n) && decide (r.key = []) && !r.bad)

theorem plain_sound (t : List Rec) (n : Nat) (hn : 1 ≤ n) (hn2 : n ≤ 2) : Sound Try.prog 31 [.lst .any 4 (trL t), .v (.int .i64 n)] (.tup [.lst .any 1 (byL (plainM t n).1), .v (.bool (plainM t n).2)]) := by
  refine sound_of_N Try.func31 rfl (by decide +kernel) (by simp [Try.f31]) rfl rfl (rs := [.tmp 4, .tmp 5]) rfl ?_
  rw [show Try.f31.ntmps = 33 from rfl]
  refine W_evK [0, 1] (by simp; rfl) ?_
  refine W_seq ?_
  refine W_evK [0, 1, 10] (by simp; rfl) ?_
  refine W_cond rfl (fun h => ?_) (fun h => ?_)
  · refine W_evK [4, 5] (by simp; rfl) ?_
    have hx : t[n - 1]? = none := by simp at h ⊢; omega
    refine W_ret ?_
    repeat (first | refine on_ret ?_ | refine in_ret ?_)
    exact ⟨_, by simp [retQ]; exact ⟨rfl, by simp⟩, .inr (by simp [plainM, hx])⟩
  refine W_skip ?_
  have hlt : n - 1 < t.length := by simp at h; omega
  have hsub : IntKind.i64.wrap ((n : Int) - 1) = ((n - 1 : Nat) : Int) := by rw [w64 (by omega) (by omega)]; omega
  obtain ⟨r, hr⟩ : ∃ r, t[n - 1]? = some r := ⟨_, List.getElem?_eq_getElem hlt⟩
  have hr2 : t[n - 1] = r := by rw [List.getElem?_eq_getElem hlt] at hr; exact Option.some.inj hr
  have hb : (trL t)[n - 1]? = some (recA r) := by simp [trL_get, hr]
  refine W_evK [1, 6] (by simp [hsub, hb, hlt, hr2]; rfl) ?_
  refine W_rdK [4, 5] mx (by decide +kernel) ?_
  by_cases c1 : r.R = n
  · by_cases c2 : r.key = []
    · refine runD_pre 6 (by simp [c1]; rfl) rfl ?_
      refine runD_pre 6 (by simp [c1, c2]; rfl) rfl ?_
      refine runD_fin (by simp [c1, c2]; rfl) ?_
      refine W_ret ?_
      repeat (first | refine on_ret ?_ | refine in_ret ?_)
      exact ⟨_, by simp [retQ]; exact ⟨rfl, by simp⟩, .inr (by simp [plainM, hr, c1, c2])⟩
    · have c3 : ((r.key.length : Int) == 0) = false := by
        have : r.key.length ≠ 0 := fun e => c2 (List.eq_nil_of_length_eq_zero e)
        simp; omega
      refine runD_pre 6 (by simp [c1]; rfl) rfl ?_
      refine runD_pre 6 (by simp [c1, c3]; rfl) rfl ?_
      refine runD_fin (by simp [c1, c3]; rfl) ?_
      refine W_ret ?_
      repeat (first | refine on_ret ?_ | refine in_ret ?_)
      exact ⟨_, by simp [retQ]; exact ⟨rfl, by simp⟩, .inr (by simp [plainM, hr, c1, c2])⟩
  · have c3 : (r.R == (n : Int)) = false := beq_eq_false_iff_ne.2 c1
    refine runD_pre 6 (by simp [c3]; rfl) rfl ?_
    refine runD_pre 6 (by simp [c3]; rfl) rfl ?_
    refine runD_fin (by simp [c3]; rfl) ?_
    refine W_ret ?_
    repeat (first | refine on_ret ?_ | refine in_ret ?_)
    exact ⟨_, by simp [retQ]; exact ⟨rfl, by simp⟩, .inr (by simp [plainM, hr, c1])⟩
end Go.AM
