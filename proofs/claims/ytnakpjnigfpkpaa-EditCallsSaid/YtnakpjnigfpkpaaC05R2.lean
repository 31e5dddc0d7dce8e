/- The digits of a source, as the specification lists them. -/
import Derived.Test.YtnakpjnigfpkpaaC05R1
import Derived.Test.YtnakpjnigfpkpaaAmC
namespace Go.AM
open Go.RowKit Go.Proofs
set_option linter.unusedSimpArgs false
set_option linter.unusedVariables false
set_option maxHeartbeats 1000000

@[simp] def dgA (d : Dg) : AV := .agg [.v (.int .i64 d.n), .v (.int .i64 d.sign), .v (.bool d.bad)]
def dgL (l : List Dg) : List AV := l.map dgA
@[simp] theorem dgL_length (l : List Dg) : (dgL l).length = l.length := by simp [dgL]
@[simp] theorem dgL_nil : dgL [] = [] := rfl
theorem dgL_cons (d : Dg) (l : List Dg) : dgL (d :: l) = dgA d :: dgL l := rfl
theorem dgL_append (l m : List Dg) : dgL (l ++ m) = dgL l ++ dgL m := by simp [dgL]
@[simp] theorem weakL_dgL (l : List Dg) : AV.weakL (dgL l) = dgL l := by
  induction l with
  | nil => rfl
  | cons d l ih => simp [dgL_cons, AV.weakL, AV.weak, ih]
@[simp] theorem killL_dgL (t : Nat) (l : List Dg) : AV.killL t (dgL l) = dgL l := by
  induction l with
  | nil => rfl
  | cons d l ih => simp [dgL_cons, AV.killL, AV.kill, ih]
@[simp] theorem rfL_dgL (l : List Dg) : AV.rfL (dgL l) = true := by
  induction l with
  | nil => rfl
  | cons d l ih => simp [dgL_cons, AV.rfL, AV.rf, ih]
@[simp] theorem dpL_dgL (l : List Dg) : AV.dpL (dgL l) = dgL l := by
  induction l with
  | nil => rfl
  | cons d l ih => simp [dgL_cons, AV.dpL, AV.dp, ih]
@[simp] theorem nlL_dgL (l : List Dg) : AV.nlL (dgL l) = dgL l := by
  induction l with
  | nil => rfl
  | cons d l ih => simp [dgL_cons, AV.nlL, AV.nl, ih]
theorem dgL_get (l : List Dg) (i : Nat) : (dgL l)[i]? = l[i]?.map dgA := by simp [dgL]
theorem dgM_le : ∀ l : List UInt8, (dgM l).length ≤ 2 * l.length
  | [] => by simp [dgM]
  | b :: l => by
    have := dgM_le l
    unfold dgM
    split
    · simp; omega
    · rw [List.length_append]
      have : (dgB b).length ≤ 2 := by
        unfold dgB
        split
        · simp
        · split <;> simp
      simp; omega
def accD (x : AV) (D : List Dg) : Prop := (D = [] ∧ x = .lst .nil 3 []) ∨ ∃ T, T % 2 = 1 ∧ x = .lst (.tip 58 T) 3 (dgL D)

theorem digits_sound (src : List UInt8) (hs : src.length ≤ 9000) : Sound Try.prog 27 [.lst .any 1 (byL src)] (.lst .any 3 (dgL (dgM src))) := by
  refine sound_of_N Try.func27 rfl (by decide +kernel) (by simp [Try.f27]) rfl rfl (rs := [.tmp 2]) rfl ?_
  rw [show Try.f27.ntmps = 57 from rfl]
  refine W_evK [0] (by simp; rfl) ?_
  refine W_evK [0, 3] (by simp; rfl) ?_
  refine W_seq ?_
  refine W_evK [0, 3, 4] (by simp; rfl) ?_
  refine W_block ?_
  refine W_loop (fun k s => ∃ (i : Nat) (D : List Dg) (x : AV), k = src.length - i ∧ i ≤ src.length ∧ dgM src = D ++ dgM (src.drop i) ∧ D.length ≤ 2 * i ∧ accD x D ∧
    s = ⟨57, [(0, .lst .any 1 (byL src)), (3, x), (4, .v (.int .i64 i))], []⟩) (k := src.length) ⟨0, [], _, rfl, by omega, by simp, by simp, .inl ⟨rfl, rfl⟩, by simp⟩ ?_
  rintro k s ⟨i, D, x, rfl, hi, hD, hlen, hx, rfl⟩
  refine W_seq ?_
  by_cases c : i < src.length
  · have ci : (i : Int) < src.length := by omega
    obtain ⟨b, hb⟩ : ∃ b, src[i]? = some b := ⟨_, List.getElem?_eq_getElem c⟩
    have hb2 : src[i]'c = b := by rw [List.getElem?_eq_getElem c] at hb; exact Option.some.inj hb
    have hlt := b.toNat_lt
    have wi := w64 (n := (i : Int) + 1) (by omega) (by omega)
    have hdr : src.drop i = b :: src.drop (i + 1) := by rw [List.drop_eq_getElem_cons c, hb2]
    rw [hdr, dgM] at hD
    have q1 : (b.toNat : Int).tdiv 16 = ((b.toNat / 16 : Nat) : Int) := by rw [Int.tdiv_eq_ediv_of_nonneg (by omega)]; omega
    have q2 : (b.toNat : Int).tmod 16 = ((b.toNat % 16 : Nat) : Int) := by rw [Int.tmod_eq_emod_of_nonneg (by omega)]; omega
    have w1 : IntKind.u8.wrap ((b.toNat / 16 : Nat) : Int) = ((b.toNat / 16 : Nat) : Int) := by
      have : ∀ n : Nat, n < 256 → IntKind.u8.wrap ((n : Nat) : Int) = ((n : Nat) : Int) := by decide +kernel
      exact this _ (by omega)
    have w2 : IntKind.u8.wrap ((b.toNat % 16 : Nat) : Int) = ((b.toNat % 16 : Nat) : Int) := by
      have : ∀ n : Nat, n < 256 → IntKind.u8.wrap ((n : Nat) : Int) = ((n : Nat) : Int) := by decide +kernel
      exact this _ (by omega)
    have v1 := w64 (n := ((b.toNat / 16 : Nat) : Int)) (by omega) (by omega)
    have v2 := w64 (n := ((b.toNat % 16 : Nat) : Int)) (by omega) (by omega)
    obtain ⟨hi4, hh⟩ : ∃ h : Nat, b.toNat / 16 = h := ⟨_, rfl⟩
    obtain ⟨lo, hl⟩ : ∃ h : Nat, b.toNat % 16 = h := ⟨_, rfl⟩
    rw [hh] at q1 w1 v1 hD
    rw [hl] at q2 w2 v2
    refine W_evK [0, 3, 4, 10] (by simp [c]; rfl) ?_
    refine W_cond rfl (fun h => ?_) (fun h => by simp at h)
    refine W_skip ?_
    refine W_seq ?_
    refine W_block ?_
    refine W_evK [0, 3, 4, 5] (by simp [c, ci, hb2, q1, w1, v1]; rfl) ?_
    refine W_evK [0, 3, 4, 5, 6] (by simp [c, ci, hb2, q2, w2, v2]; rfl) ?_
    refine W_seq ?_
    by_cases c1 : 9 < hi4
    · have c1' : (9 : Int) < hi4 := by omega
      rw [if_pos c1] at hD
      refine W_evK [0, 3, 4, 5, 6, 26] (by simp [c1, c1']; rfl) ?_
      refine W_cond rfl (fun h => ?_) (fun h => by simp at h)
      rcases hx with ⟨rfl, rfl⟩ | ⟨T, hT, rfl⟩
      · refine W_evK [2] (by simp [setSeg, catK, AV.cellsK, AV.kone, AV.koneL]; rfl) ?_
        refine W_ret ?_
        repeat (first | refine on_ret ?_ | refine in_ret ?_)
        exact ⟨_, by simp [retQ]; exact ⟨rfl, by simp⟩, .inr (by simp [hD, dgL_cons, setSeg, AV.weakL, AV.weak])⟩
      · refine W_evK [2] (by simp [setSeg, catK, AV.cellsK, AV.kone, AV.koneL, tokA, hT, show (D.length + 1) * 24 ≤ 140737488355328 by omega, show 24 * (D.length + 1) ≤ 140737488355328 by omega]; rfl) ?_
        refine W_ret ?_
        repeat (first | refine on_ret ?_ | refine in_ret ?_)
        exact ⟨_, by simp [retQ]; exact ⟨rfl, by simp⟩, .inr (by simp [hD, dgL_cons, dgL_append, setSeg, AV.weakL, AV.weak])⟩
    have c1' : ¬ (9 : Int) < hi4 := by omega
    rw [if_neg c1] at hD
    refine W_evK [0, 3, 4, 5, 6, 26] (by simp [c1, c1']; rfl) ?_
    refine W_cond rfl (fun h => by simp at h) (fun h => ?_)
    refine W_skip ?_
    have key : ∀ (x' : AV) (ds : List Dg), dgB b = ds → ds.length ≤ 2 → accD x' (D ++ ds) →
        ∃ (k' : Nat), k' < src.length - i ∧ ∃ (i' : Nat) (D' : List Dg) (x2 : AV), k' = src.length - i' ∧ i' ≤ src.length ∧ dgM src = D' ++ dgM (src.drop i') ∧ D'.length ≤ 2 * i' ∧ accD x2 D' ∧
          (⟨57, [(0, .lst .any 1 (byL src)), (3, x'), (4, .v (.int .i64 ((i : Int) + 1)))], []⟩ : St) = ⟨57, [(0, .lst .any 1 (byL src)), (3, x2), (4, .v (.int .i64 i'))], []⟩ := by
      intro x' ds h1 h2 h3
      refine ⟨_, ?_, i + 1, D ++ ds, x', rfl, by omega, by rw [hD, h1, List.append_assoc], by rw [List.length_append]; omega, h3, by simp⟩
      omega
    refine W_evK [0, 3, 4, 5, 6, 32] (by simp; rfl) ?_
    by_cases c2 : lo ≤ 9
    · have c2' : (lo : Int) ≤ 9 := by omega
      have hds : dgB b = [⟨hi4, 0, false⟩, ⟨lo, 0, false⟩] := by rw [dgB, hl, hh, if_pos c2]
      refine W_cond (by simp [c2, c2']; rfl) (fun h => ?_) (fun h => by simp at h)
      rcases hx with ⟨rfl, rfl⟩ | ⟨T, hT, rfl⟩
      · refine W_evE [0, 3, 4] (by simp [show List.range 2 = [0, 1] from rfl, setSeg, catK, AV.cellsK, AV.kone, AV.koneL]; rfl) ?_
        refine W_evE [0, 3, 4] (by simp [wi]; rfl) ?_
        exact key _ _ hds (by simp) (.inr ⟨79, rfl, rfl⟩)
      · refine W_evE [0, 3, 4] (by simp [setSeg, catK, AV.cellsK, AV.kone, AV.koneL, tokA, hT, show List.range 2 = [0, 1] from rfl, show (D.length + 2) * 24 ≤ 140737488355328 by omega, show 24 * (D.length + 2) ≤ 140737488355328 by omega]; rfl) ?_
        refine W_evE [0, 3, 4] (by simp [wi]; rfl) ?_
        exact key _ _ hds (by simp) (.inr ⟨T, hT, by simp [dgL_append, dgL_cons]⟩)
    have c2' : ¬ (lo : Int) ≤ 9 := by omega
    refine W_cond (by simp [c2, c2']; rfl) (fun h => by simp at h) (fun h => ?_)
    by_cases c3 : lo = 11 ∨ lo = 13
    · have hds : dgB b = [⟨hi4, 2, false⟩] := by rw [dgB, hl, hh, if_neg c2, if_pos c3]
      refine W_seqC (fun s => s = ⟨57, [(0, .lst .any 1 (byL src)), (3, x), (4, .v (.int .i64 i)), (5, .v (.int .i64 hi4)), (45, .v (.bool true))], []⟩) ?_ ?_
      · rcases c3 with rfl | rfl
        · refine W_evE [0, 3, 4, 5, 45] (by simp; rfl) ?_
          simp [onNormal]
        · refine W_evE [0, 3, 4, 5, 45] (by simp; rfl) ?_
          simp [onNormal]
      rintro _ rfl
      refine W_cond rfl (fun h => ?_) (fun h => by simp at h)
      rcases hx with ⟨rfl, rfl⟩ | ⟨T, hT, rfl⟩
      · refine W_evE [0, 3, 4] (by simp [setSeg, catK, AV.cellsK, AV.kone, AV.koneL]; rfl) ?_
        refine W_evE [0, 3, 4] (by simp [wi]; rfl) ?_
        exact key _ _ hds (by simp) (.inr ⟨101, rfl, rfl⟩)
      · refine W_evE [0, 3, 4] (by simp [setSeg, catK, AV.cellsK, AV.kone, AV.koneL, tokA, hT, show (D.length + 1) * 24 ≤ 140737488355328 by omega, show 24 * (D.length + 1) ≤ 140737488355328 by omega]; rfl) ?_
        refine W_evE [0, 3, 4] (by simp [wi]; rfl) ?_
        exact key _ _ hds (by simp) (.inr ⟨T, hT, by simp [dgL_append, dgL_cons]⟩)
    · have d1 : ((lo : Int) == 11) = false := by simp; omega
      have d2 : ((lo : Int) == 13) = false := by simp; omega
      have hds : dgB b = [⟨hi4, 1, false⟩] := by rw [dgB, hl, hh, if_neg c2, if_neg c3]
      refine W_seqC (fun s => s = ⟨57, [(0, .lst .any 1 (byL src)), (3, x), (4, .v (.int .i64 i)), (5, .v (.int .i64 hi4)), (45, .v (.bool false))], []⟩) ?_ ?_
      · refine W_evE [0, 3, 4, 5, 45] (by simp [d1, d2]; rfl) ?_
        simp [onNormal]
      rintro _ rfl
      refine W_cond rfl (fun h => by simp at h) (fun h => ?_)
      rcases hx with ⟨rfl, rfl⟩ | ⟨T, hT, rfl⟩
      · refine W_evE [0, 3, 4] (by simp [setSeg, catK, AV.cellsK, AV.kone, AV.koneL]; rfl) ?_
        refine W_evE [0, 3, 4] (by simp [wi]; rfl) ?_
        exact key _ _ hds (by simp) (.inr ⟨111, rfl, rfl⟩)
      · refine W_evE [0, 3, 4] (by simp [setSeg, catK, AV.cellsK, AV.kone, AV.koneL, tokA, hT, show (D.length + 1) * 24 ≤ 140737488355328 by omega, show 24 * (D.length + 1) ≤ 140737488355328 by omega]; rfl) ?_
        refine W_evE [0, 3, 4] (by simp [wi]; rfl) ?_
        exact key _ _ hds (by simp) (.inr ⟨T, hT, by simp [dgL_append, dgL_cons]⟩)
  have hi' : i = src.length := by omega
  subst hi'
  rw [List.drop_length, dgM, List.append_nil] at hD
  refine W_evK [0, 3, 4, 10] (by simp; rfl) ?_
  refine W_cond rfl (fun h => by simp at h) (fun h => ?_)
  refine W_exit ?_
  rcases hx with ⟨rfl, rfl⟩ | ⟨T, hT, rfl⟩
  · refine W_evK [2] (by simp; rfl) ?_
    refine W_ret ?_
    repeat (first | refine on_ret ?_ | refine in_ret ?_)
    exact ⟨_, by simp [retQ]; exact ⟨rfl, by simp⟩, .inr (by simp [hD])⟩
  · refine W_evK [2] (by simp; rfl) ?_
    refine W_ret ?_
    repeat (first | refine on_ret ?_ | refine in_ret ?_)
    exact ⟨_, by simp [retQ]; exact ⟨rfl, by simp⟩, .inr (by simp [hD])⟩
end Go.AM
