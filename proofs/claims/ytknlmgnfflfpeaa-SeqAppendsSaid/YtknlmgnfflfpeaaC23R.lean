/- seq.Records, seq.Append; the law's same. -/
import Derived.Test.YtknlmgnfflfpeaaC23Q
namespace Go.AM
open Go.RowKit Go.Proofs
set_option linter.unusedSimpArgs false
set_option linter.unusedVariables false
set_option maxHeartbeats 1000000

theorem lsame_sound (a b : List (List UInt8)) (hl : a.length ≤ 100000000) : Sound Try.prog 23 [.lst .any 1 (bbL a), .lst .any 1 (bbL b)] (.v (.bool (decide (a = b)))) := by
  refine sound_of_W Try.func23 rfl (by decide +kernel) (by simp [Try.f23]) rfl rfl (rs := [.tmp 4]) rfl ?_
  rw [show Try.f23.ntmps = 28 from rfl]
  refine W_evK [0, 1] (by simp; rfl) ?_
  refine W_seq ?_
  by_cases c : a.length = b.length
  rotate_left
  · have hne : ¬ a = b := fun e => c (by rw [e])
    refine W_evK [0, 1, 10] (by simp [ne_nat, c]; rfl) ?_
    refine W_cond rfl (fun h => ?_) (fun h => by simp at h)
    refine W_evK [4] (by simp; rfl) ?_
    refine W_ret ?_
    repeat (first | refine on_ret ?_ | refine in_ret ?_)
    simp [retQ, hne]
  refine W_evK [0, 1, 10] (by simp [c]; rfl) ?_
  refine W_cond rfl (fun h => by simp at h) (fun h => ?_)
  refine W_skip ?_
  refine W_seq ?_
  refine W_evK [0, 1, 12, 13] (by simp; rfl) ?_
  refine W_block ?_
  refine W_loop (fun k s => ∃ i : Nat, k = a.length - i ∧ i ≤ a.length ∧ a.take i = b.take i ∧ s = ⟨28, [(0, .lst .any 1 (bbL a)), (1, .lst .any 1 (bbL b)), (12, .v (.int .i64 a.length)), (13, .v (.int .i64 i))], []⟩) (k := a.length) ⟨0, by simp, by omega, by simp, by simp⟩ ?_
  rintro k s ⟨i, rfl, hi, hab, rfl⟩
  refine W_evK [0, 1, 12, 13, 14] (by simp; rfl) ?_
  refine W_seq ?_
  refine W_cond rfl (fun h => ?_) (fun h => ?_)
  · refine W_skip ?_
    refine W_seq ?_
    refine W_block ?_
    have hi2 : i < a.length := by simp at h; omega
    have hj2 : i < b.length := by omega
    have hi2' : (i : Int) < a.length := by omega
    have hj2' : (i : Int) < b.length := by omega
    obtain ⟨r, hr⟩ : ∃ r, a[i]? = some r := ⟨_, List.getElem?_eq_getElem hi2⟩
    obtain ⟨q, hq⟩ : ∃ q, b[i]? = some q := ⟨_, List.getElem?_eq_getElem hj2⟩
    have hr2 : a[i]'hi2 = r := by rw [List.getElem?_eq_getElem hi2] at hr; exact Option.some.inj hr
    have hq2 : b[i]'hj2 = q := by rw [List.getElem?_eq_getElem hj2] at hq; exact Option.some.inj hq
    refine W_evK [0, 1, 12, 13, 5] (by simp; rfl) ?_
    refine W_rdK [0, 1, 12, 13, 26] mx (by decide +kernel) ?_
    refine runD_pre 5 (by simp [hi2, hi2', hr2]; rfl) rfl ?_
    by_cases e : r = q
    · subst e
      have wi := w64 (n := (i : Int) + 1) (by omega) (by omega)
      refine runD_fin (by simp [hj2, hj2', hq2, strA]; rfl) ?_
      refine W_cond rfl (fun h => by simp at h) (fun h => ?_)
      refine W_skip ?_
      refine W_evE [0, 1, 12, 13] (by simp [wi]; rfl) ?_
      exact ⟨_, by omega, i + 1, rfl, by omega, take_succ_eq hr hq hab, by simp⟩
    · have hne : ¬ a = b := fun he => e (by rw [he, hq] at hr; exact (Option.some.inj hr).symm)
      have e2 : (r == q) = false := by simpa using e
      refine runD_fin (by simp [hj2, hj2', hq2, e2, strA]; rfl) ?_
      refine W_cond rfl (fun h => ?_) (fun h => by simp at h)
      refine W_evK [4] (by simp; rfl) ?_
      refine W_ret ?_
      repeat (first | refine on_ret ?_ | refine in_ret ?_)
      simp [retQ, hne]
  refine W_exit ?_
  have hie : i = a.length := by simp at h; omega
  have hEq : a = b := by
    rw [hie, List.take_length] at hab
    rw [hab, c, List.take_length]
  refine W_evK [4] (by simp; rfl) ?_
  refine W_ret ?_
  repeat (first | refine on_ret ?_ | refine in_ret ?_)
  simp [retQ, hEq]

def recsM (d : Dcb) (t : List (List Rec)) : List (List UInt8) × Int := if (blocksM t).2 = 0 then unbM d (blocksM t).1 else ([], (blocksM t).2)
def appendM (d : Dcb) (t : List (List Rec)) (l : List (List UInt8)) : List (List Rec) × Int :=
  if (blocksM t).2 = 0 then (if (blockM d l).2 = 0 then (layM ((blocksM t).1 ++ (blockM d l).1), 0) else ([], (blockM d l).2)) else ([], (blocksM t).2)
theorem records_soundB (d : Dcb) (t : List (List Rec)) (ht : t.length ≤ 100000) (hs : ∀ l ∈ t, trBg l) (hb : (blocksM t).1.length ≤ 100000) (hr : ∀ b ∈ (blocksM t).1, b.length ≤ 1000000000) : Sound Try.prog 22 [dcbA d, .lst .any 1 (arL t)] (resB (recsM d t)) := by
  refine sound_of_U Try.func22 rfl (by decide +kernel) (by simp [Try.f22]) rfl rfl (rs := [.tmp 4, .tmp 5]) rfl ?_
  rw [show Try.f22.ntmps = 21 from rfl]
  have hB := blocks_soundB t ht hs
  have hU := unb_sound d (blocksM t).1 hb hr
  unfold recsM
  rcases hbm : blocksM t with ⟨bs, e⟩
  rw [hbm] at hB hU
  dsimp only at hU ⊢
  refine W_evK [1, 2] (by simp; rfl) ?_
  refine W_rK [2, 6, 7] ?_
  refine runA_pre 1 (by simp; rfl) rfl ?_
  refine runA_call (by simp) (by first | (simp; done) | (simp; rfl)) hB (by simp [resB]; rfl) ?_
  refine runA_fin (by simp [resB]; rfl) ?_
  refine W_seq ?_
  by_cases z : e = 0
  · subst z
    rw [if_pos rfl]
    rcases hum : unbM d bs with ⟨us, f⟩
    rw [hum] at hU
    refine W_evK [2, 6, 7, 14] (by simp; rfl) ?_
    refine W_cond rfl (fun h => by simp at h) (fun h => ?_)
    refine W_skip ?_
    refine W_rK [4, 5] ?_
    refine runA_pre 2 (by simp; rfl) rfl ?_
    refine runA_call (by simp) (by first | (simp; done) | (simp; rfl)) hU (by simp [resB]; rfl) ?_
    refine runA_fin (by simp [resB]; rfl) ?_
    refine W_ret ?_
    repeat (first | refine on_ret ?_ | refine in_ret ?_)
    exact ⟨_, by simp [retQ]; exact ⟨rfl, by simp⟩, .norm fun T => by simp [resB]⟩
  · rw [if_neg z]
    have zn : (e != 0) = true := by simpa using z
    refine W_evK [2, 6, 7, 14] (by simp [zn]; rfl) ?_
    refine W_cond rfl (fun h => ?_) (fun h => by simp at h)
    refine W_evK [4, 5] (by simp; rfl) ?_
    refine W_ret ?_
    repeat (first | refine on_ret ?_ | refine in_ret ?_)
    exact ⟨.tup [.lst .nil 1 [], .v (.int .i64 e)], by simp [retQ], .tup2 (.nil (by decide +kernel)) (.refl _)⟩
theorem records_sound (d : Dcb) (t : List (List Rec)) (ht : t.length ≤ 100000) (hs : ∀ l ∈ t, trSm l) (hb : (blocksM t).1.length ≤ 100000) (hr : ∀ b ∈ (blocksM t).1, b.length ≤ 1000000000) : Sound Try.prog 22 [dcbA d, .lst .any 1 (arL t)] (resB (recsM d t)) :=
  records_soundB d t ht (fun l hl => (hs l hl).big) hb hr
theorem append23_sound (d : Dcb) (t : List (List Rec)) (l : List (List UInt8)) (ht : t.length ≤ 100000) (hs : ∀ l ∈ t, trSm l) (hb : (blocksM t).1.length ≤ 50000) (hr : ∀ b ∈ (blocksM t).1, b.length ≤ 1000000000)
    (hl : l.length ≤ 1000000) (hlr : ∀ r ∈ l, r.length ≤ 1000000000) : Sound Try.prog 20 [dcbA d, .lst .any 1 (arL t), .lst .any 1 (bbL l)] (resT (appendM d t l)) := by
  refine sound_of_U Try.func20 rfl (by decide +kernel) (by simp [Try.f20]) rfl rfl (rs := [.tmp 6, .tmp 7]) rfl ?_
  rw [show Try.f20.ntmps = 32 from rfl]
  have hB := blocks_sound t ht hs
  have hM := block_sound d l hl hlr
  unfold appendM
  rcases hbm : blocksM t with ⟨bs, e⟩
  rw [hbm] at hB hb hr
  dsimp only at hb hr ⊢
  refine W_evK [1, 2, 3] (by simp; rfl) ?_
  refine W_rK [2, 3, 8, 9] ?_
  refine runA_pre 1 (by simp; rfl) rfl ?_
  refine runA_call (by simp) (by first | (simp; done) | (simp; rfl)) hB (by simp [resB]; rfl) ?_
  refine runA_fin (by simp [resB]; rfl) ?_
  refine W_seq ?_
  by_cases z : e = 0
  · subst z
    rw [if_pos rfl]
    refine W_evK [2, 3, 8, 9, 17] (by simp; rfl) ?_
    refine W_cond rfl (fun h => by simp at h) (fun h => ?_)
    refine W_skip ?_
    rcases hlm : blockM d l with ⟨us, f⟩
    rw [hlm] at hM
    refine W_rK [8, 9, 10] ?_
    refine runA_pre 2 (by simp; rfl) rfl ?_
    refine runA_call (by simp) (by first | (simp; done) | (simp; rfl)) hM (by simp [resB]; rfl) ?_
    refine runA_fin (by simp [resB]; rfl) ?_
    refine W_seq ?_
    by_cases y : f = 0
    · subst y
      obtain ⟨h1, h2⟩ := block_small hlm
      rw [if_pos rfl]
      have b1 : (bs.length + us.length) * 24 ≤ 140737488355328 := by omega
      have b2 : 24 * (bs.length + us.length) ≤ 140737488355328 := by omega
      refine W_evK [8, 9, 10, 26] (by simp; rfl) ?_
      refine W_cond rfl (fun h => by simp at h) (fun h => ?_)
      refine W_skip ?_
      have hy := layout_sound (bs ++ us) (by simp; omega) fun b hb => by
        rcases List.mem_append.1 hb with h | h
        · exact hr b h
        · have := (h2 b h).2; omega
      refine W_rK [6, 7] ?_
      refine runA_pre 3 (by simp [b1, b2]; rfl) rfl ?_
      refine runA_call (by simp) (by first | (simp [← bbL_append]; done) | (simp [← bbL_append]; rfl)) hy (by simp; rfl) ?_
      refine runA_fin (by simp; rfl) ?_
      refine W_ret ?_
      repeat (first | refine on_ret ?_ | refine in_ret ?_)
      exact ⟨_, by simp [retQ]; exact ⟨rfl, by simp⟩, .norm fun T => by simp [resT]⟩
    · rw [if_neg y]
      have yn : (f != 0) = true := by simpa using y
      refine W_evK [8, 9, 10, 26] (by simp [yn]; rfl) ?_
      refine W_cond rfl (fun h => ?_) (fun h => by simp at h)
      refine W_evK [6, 7] (by simp; rfl) ?_
      refine W_ret ?_
      repeat (first | refine on_ret ?_ | refine in_ret ?_)
      exact ⟨.tup [.lst .nil 1 [], .v (.int .i64 f)], by simp [retQ], .tup2 (.nil (by decide +kernel)) (.refl _)⟩
  · rw [if_neg z]
    have zn : (e != 0) = true := by simpa using z
    refine W_evK [2, 3, 8, 9, 17] (by simp [zn]; rfl) ?_
    refine W_cond rfl (fun h => ?_) (fun h => by simp at h)
    refine W_evK [6, 7] (by simp; rfl) ?_
    refine W_ret ?_
    repeat (first | refine on_ret ?_ | refine in_ret ?_)
    exact ⟨.tup [.lst .nil 1 [], .v (.int .i64 e)], by simp [retQ], .tup2 (.nil (by decide +kernel)) (.refl _)⟩
end Go.AM
