/- SeqAppends: the law's walk. -/
import Derived.Test.YtknlmgnfflfpeaaC23ZH
namespace Go.AM
open Go.RowKit Go.Proofs
set_option linter.unusedSimpArgs false
set_option linter.unusedVariables false
set_option maxHeartbeats 2000000

def acL (A : List (List (List Rec))) : List AV := A.map fun a => .lst .any 1 (arL a)
@[simp] theorem acL_length (A : List (List (List Rec))) : (acL A).length = A.length := by simp [acL]
theorem acL_cons (a : List (List Rec)) (A : List (List (List Rec))) : acL (a :: A) = .lst .any 1 (arL a) :: acL A := rfl
@[simp] theorem acL_getElem (A : List (List (List Rec))) (i : Nat) (h : i < (acL A).length) : (acL A)[i] = .lst .any 1 (arL (A[i]'(by simpa using h))) := by simp [acL]
@[simp] theorem rfL_acL (A : List (List (List Rec))) : AV.rfL (acL A) = true := by
  induction A with
  | nil => rfl
  | cons a A ih => rw [acL_cons, AV.rfL, ih]; simp
@[simp] theorem weakL_acL (A : List (List (List Rec))) : AV.weakL (acL A) = acL A := by
  induction A with
  | nil => rfl
  | cons a A ih => rw [acL_cons, AV.weakL, ih]; rfl
def area1 (a : List (List Rec)) : Prop := fewOk a ∧ a.length ≤ 200
theorem area1.blk {a : List (List Rec)} (h : area1 a) : (blocksM a).1.length ≤ 40000 ∧ ∀ b ∈ (blocksM a).1, b.length ≤ 1000000000 := by
  have := blocks_bound 1000000000 200 a fun l hl => ⟨(h.1.2 l hl).1, fun r hr => ((h.1.2 l hl).2 r hr).2⟩
  refine ⟨Nat.le_trans this.1 ?_, this.2⟩
  have := Nat.mul_le_mul_right 200 h.2
  omega
theorem spoil_len (t : List (List Rec)) (x y : Nat) : (spoilM t x y).length ≤ t.length + 1 := by
  unfold spoilM
  split
  · simp
  · split
    · omega
    · dsimp only
      split <;> simp <;> omega
theorem app_ok {d : Dcb} {a : List (List Rec)} {m : List (List UInt8)} (ha : area1 a) (hm : m.length ≤ 150) (hmr : ∀ r ∈ m, r.length ≤ 1100) : tksOk (appendM d a m).1 := by
  obtain ⟨h1, h2⟩ := ha.blk
  unfold appendM
  split
  · split
    · rename_i hz
      rcases hbm : blockM d m with ⟨bs, e⟩
      rw [hbm] at hz
      dsimp only at hz
      subst hz
      obtain ⟨k1, k2⟩ := block_small hbm
      exact lay_ok (by simp; omega) fun b hb => by
        rcases List.mem_append.1 hb with h | h
        · exact h2 b h
        · have := (k2 b h).2; omega
    · exact ⟨by simp, by simp⟩
  · exact ⟨by simp, by simp⟩

theorem appends_sound (d : Dcb) (l m : List (List UInt8)) (a : List (List Rec)) (x y : UInt8) (hl : l.length ≤ 9223372036854775807) (hm : m.length ≤ 9223372036854775807) (ha : a.length ≤ 9223372036854775807) (hs : ∀ t ∈ a, t.length ≤ 9223372036854775807 ∧ ∀ r ∈ t, r.key.length ≤ 140737488355328 ∧ r.data.length ≤ 140737488355328) :
    Sound Try.prog 5 [dcbA d, .lst .any 1 (bbL l), .lst .any 1 (bbL m), .lst .any 1 (arL a), .v (.int .u8 x.toNat), .v (.int .u8 y.toNat)] (.v (.bool true)) := by
  refine sound_of_W Try.func5 rfl (by decide +kernel) (by simp [Try.f5]) rfl rfl (rs := [.tmp 12]) rfl ?_
  rw [show Try.f5.ntmps = 81 from rfl]
  obtain ⟨f1, f2⟩ := few_small l
  obtain ⟨L, hL⟩ : ∃ L, fewM l = L := ⟨_, rfl⟩
  have hfew := few_sound l hl
  rw [hL] at hfew f1 f2
  obtain ⟨g1, g2⟩ := few_small m
  obtain ⟨M, hM⟩ : ∃ M, fewM m = M := ⟨_, rfl⟩
  have hfem := few_sound m hm
  rw [hM] at hfem g1 g2
  have hr : ∀ r ∈ L, r.length ≤ 1000000000 := fun r hr => by have := f2 r hr; omega
  have hrm : ∀ r ∈ M, r.length ≤ 1000000000 := fun r hr => by have := g2 r hr; omega
  have ht := rtracks_sound d L (by omega) hr
  have hft := fewT_sound a ha hs
  have hfo := fewT_few a
  have hfl : (fewT a).length ≤ 20 := by simp [fewT]; omega
  obtain ⟨F, hF⟩ : ∃ F, fewT a = F := ⟨_, rfl⟩
  rw [hF] at hft hfo hfl
  refine W_evK [1, 2, 3, 4, 5, 6] (by simp; rfl) ?_
  refine W_rK [1, 2, 3, 4, 5, 6] ?_
  refine runA_pre 1 (by simp; rfl) rfl ?_
  refine runA_call (by simp) (by first | (simp; done) | (simp; rfl)) hfew (by simp; rfl) ?_
  refine runA_pre 1 (by simp; rfl) rfl ?_
  refine runA_call (by simp) (by first | (simp; done) | (simp; rfl)) hfem (by simp; rfl) ?_
  refine runA_pre 1 (by simp; rfl) rfl ?_
  refine runA_call (by simp) (by first | (simp; done) | (simp; rfl)) hft (by simp; rfl) ?_
  refine runA_fin (by simp; rfl) ?_
  rcases hbm : blockM d L with ⟨bs, e⟩
  have hT : tracksM d L = if e = 0 then (layM bs, 0) else ([], e) := by unfold tracksM; rw [hbm]
  refine W_any 2 rfl ?_
  refine W_any 3 rfl ?_
  refine W_rK [2, 3, 4, 5, 6, 13, 14] ?_
  refine runA_pre 2 (by simp [putF]; rfl) rfl ?_
  refine runA_call (by simp) (by first | (simp; done) | (simp; rfl)) ht (by simp [resT]; rfl) ?_
  refine runA_fin (by simp [resT]; rfl) ?_
  refine W_evK [2, 4, 5, 6, 13, 14, 15] (by simp [catK, AV.cellsK, AV.kone, AV.koneL]; rfl) ?_
  refine W_seqC (fun s => ∃ (A : List (List (List Rec))) (o : Fl), A.length ≤ 3 ∧ (∀ q ∈ A, area1 q) ∧ s = ⟨81, [(2, .lst .any 1 (bbL M)), (6, .loc 0 0), (15, .lst o 1 (acL A))], [.cells 23 (dcbC d)]⟩) ?_ ?_
  · by_cases z : e = 0
    rotate_left
    · rw [hT, if_neg z]
      have zn : (e == 0) = false := by simpa using z
      refine W_evK [2, 4, 5, 6, 13, 15, 36] (by simp [zn, z]; rfl) ?_
      refine W_cond rfl (fun h => by simp at h) (fun h => ?_)
      refine W_keepS [2, 6, 15] ?_
      refine W_skip ?_
      exact ⟨[F], _, by simp, fun q hq => by rw [List.mem_singleton.1 hq]; exact ⟨hfo, by omega⟩, by simp [acL, dcbC, putF]; rfl⟩
    subst z
    rw [hT, if_pos rfl]
    obtain ⟨hc1, hsm⟩ := block_small hbm
    have hbf := block_few hbm
    obtain ⟨hu1, hu2⟩ := lay_few hsm (by omega)
    obtain ⟨U, hU⟩ : ∃ U, layM bs = U := ⟨_, rfl⟩
    rw [hU] at hu1 hu2
    have hsp := spoil_sound U x y (by omega) hu2.few.tr
    have hspf := spoil_few hu2 x.toNat y.toNat
    have hspl := spoil_len U x.toNat y.toNat
    refine W_evK [2, 4, 5, 6, 13, 15, 36] (by simp [hU]; rfl) ?_
    refine W_cond rfl (fun h => ?_) (fun h => by simp at h)
    refine W_rE [2, 6, 15] ?_
    refine runA_pre 5 (by simp; rfl) rfl ?_
    refine runA_call (by simp) (by first | (simp; done) | (simp; rfl)) hsp (by simp; rfl) ?_
    refine runA_fin (by simp [catK, AV.cellsK, AV.kone, AV.koneL]; rfl) ?_
    refine ⟨[F, U, spoilM U x.toNat y.toNat], _, by simp, fun q hq => ?_, by simp [acL, dcbC]; rfl⟩
    simp only [List.mem_cons, List.not_mem_nil, or_false] at hq
    rcases hq with rfl | rfl | rfl
    · exact ⟨hfo, by omega⟩
    · exact ⟨hu2.few, by omega⟩
    · exact ⟨hspf, by omega⟩
  rintro _ ⟨A, o, hA1, hA2, rfl⟩
  refine W_any 15 rfl ?_
  refine W_seq ?_
  refine W_evK [2, 6, 15, 46, 47] (by simp [putF]; rfl) ?_
  refine W_block ?_
  refine W_loop (fun k s => ∃ i : Nat, k = A.length - i ∧ i ≤ A.length ∧ s = ⟨81, [(2, .lst .any 1 (bbL M)), (6, .loc 0 0), (15, .lst .any 1 (acL A)), (46, .v (.int .i64 (A.length : Nat))), (47, .v (.int .i64 (i : Nat)))], [.cells 23 (dcbC d)]⟩) (k := A.length) ⟨0, rfl, by omega, by simp⟩ ?_
  rintro k s ⟨i, rfl, hi, rfl⟩
  by_cases c : i < A.length
  rotate_left
  · refine W_evK [2, 6, 15, 46, 47, 48] (by simp [c]; rfl) ?_
    refine W_seq ?_
    refine W_cond rfl (fun h => by simp at h) (fun h => ?_)
    refine W_exit ?_
    refine W_rK [12] ?_
    refine runA_call (by simp) (by first | (simp; done) | (simp; rfl)) works_sound (by simp; rfl) ?_
    refine runA_fin (by simp; rfl) ?_
    refine W_ret ?_
    repeat (first | refine on_ret ?_ | refine in_ret ?_)
    simp [retQ]
  have ci : (i : Int) < A.length := by omega
  obtain ⟨q, hq⟩ : ∃ q, A[i]? = some q := ⟨_, List.getElem?_eq_getElem c⟩
  have hq2 : A[i]'c = q := by rw [List.getElem?_eq_getElem c] at hq; exact Option.some.inj hq
  have hqa := hA2 q (List.mem_of_getElem? hq)
  obtain ⟨hb1, hb2⟩ := hqa.blk
  have wi := w64 (n := (i : Int) + 1) (by omega) (by omega)
  have h1 := append23_sound d q M (by have := hqa.2; omega) hqa.1.tr (by omega) hb2 (by omega) hrm
  have h2 := rappend_sound d q M (by have := hqa.2; omega) hqa.1.tr (by omega) hb2 (by omega) hrm
  have hok := app_ok (d := d) hqa g1 g2
  obtain ⟨R, hR⟩ : ∃ R, appendM d q M = R := ⟨_, rfl⟩
  rw [hR] at h1 h2 hok
  obtain ⟨R1, R2⟩ := R
  have h3 := sameTs_sound R1 R1 (by have : R1.length ≤ 100000 := hok.1; omega) (fun t ht => by have := (hok.2 t ht).1; omega)
  rw [decide_eq_true rfl] at h3
  refine W_evK [2, 6, 15, 46, 47, 48] (by simp [c]; rfl) ?_
  refine W_seq ?_
  refine W_cond rfl (fun h => ?_) (fun h => by simp at h)
  refine W_skip ?_
  refine W_seq ?_
  refine W_block ?_
  refine W_evK [2, 6, 15, 46, 47, 16] (by simp; rfl) ?_
  refine W_rdK [2, 6, 15, 46, 47, 16, 17, 18] mx (by decide +kernel) ?_
  refine runD_pre 6 (by simp [dcbC, c, ci, hq2]; rfl) rfl ?_
  refine runD_call (by simp) (by first | (simp; done) | (simp; rfl)) h1 (by simp [resT]; rfl) ?_
  refine runD_fin (by simp [resT]; rfl) ?_
  refine W_rdK [2, 6, 15, 46, 47, 17, 18, 19, 20] mx (by decide +kernel) ?_
  refine runD_pre 6 (by simp [dcbC, c, ci, hq2]; rfl) rfl ?_
  refine runD_call (by simp) (by first | (simp; done) | (simp; rfl)) h2 (by simp [resT]; rfl) ?_
  refine runD_fin (by simp [resT]; rfl) ?_
  refine W_rK [2, 6, 15, 46, 47, 78] ?_
  refine runA_pre 2 (by simp; rfl) rfl ?_
  refine runA_call (by simp) (by first | (simp; done) | (simp; rfl)) h3 (by simp; rfl) ?_
  refine runA_fin (by simp; rfl) ?_
  refine W_cond rfl (fun h => by simp at h) (fun h => ?_)
  refine W_keepS [2, 6, 15, 46, 47] ?_
  refine W_skip ?_
  refine W_evE [2, 6, 15, 46, 47] (by simp [wi]; rfl) ?_
  exact ⟨_, by omega, i + 1, rfl, by omega, by simp [dcbC]⟩
end Go.AM
