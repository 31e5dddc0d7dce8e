/- SeqReads: the law's walk. -/
import Derived.Test.YtknlmgnfflfpeaaC23ZG
import Derived.Test.YtknlmgnfflfpeaaC23ZC
import Derived.Test.YtknlmgnfflfpeaaC23ZD
namespace Go.AM
open Go.RowKit Go.Proofs
set_option linter.unusedSimpArgs false
set_option linter.unusedVariables false
set_option maxHeartbeats 2000000

theorem block_few {d : Dcb} {l bs : List (List UInt8)} (h : blockM d l = (bs, 0)) : bs.length ≤ l.length := by
  obtain ⟨hc, hl, gs, rfl, hfl, hok, _⟩ := blockM_groups h
  have := len_flatten gs fun g hg => (hok g hg).ne
  rw [hfl] at this
  simpa using this
theorem mkT_mem {x : List (List UInt8)} {n : Nat} {r : Rec} (h : r ∈ mkT n x) : r.key = [] ∧ ∃ b ∈ x, r.data = b := by
  obtain ⟨k, hk⟩ := List.mem_iff_getElem?.1 h
  rw [mkT_get] at hk
  obtain ⟨b, hb, rfl⟩ := Option.map_eq_some_iff.1 hk
  exact ⟨rfl, b, List.mem_of_getElem? hb, rfl⟩
theorem lay_few {bs : List (List UInt8)} (hb : ∀ b ∈ bs, b ≠ [] ∧ b.length ≤ 1024) (hl : bs.length ≤ 150) : (layM bs).length ≤ 152 ∧ lessOk (layM bs) := by
  have hlen : (layM bs).length ≤ 152 := by
    have := (foldl_place_len (bs ++ [[]]) ([], [])).1
    simp [layM] at this ⊢
    omega
  refine ⟨hlen, by omega, fun t ht => ?_⟩
  obtain ⟨gs, g, h1, h2, h3⟩ := lay_form hb
  rw [h1] at ht
  obtain ⟨x, hx, rfl⟩ := List.mem_map.1 ht
  have hxl : x.length ≤ 151 ∧ ∀ b ∈ x, b = [] ∨ b ∈ bs := by
    rcases List.mem_append.1 hx with h | h
    · have : x.length ≤ gs.flatten.length := by
        obtain ⟨s, t, rfl⟩ := List.append_of_mem h
        simp
        omega
      have e : gs.flatten.length + g.length = bs.length := by rw [← h2]; simp
      exact ⟨by omega, fun b hb' => .inr (by rw [← h2]; exact List.mem_append_left _ (List.mem_flatten.2 ⟨x, h, hb'⟩))⟩
    · simp at h
      subst h
      have e : gs.flatten.length + g.length = bs.length := by rw [← h2]; simp
      refine ⟨by simp; omega, fun b hb' => ?_⟩
      rcases List.mem_append.1 hb' with h | h
      · exact .inr (by rw [← h2]; exact List.mem_append_right _ h)
      · simp at h; exact .inl h
  refine ⟨by rw [mkT_length]; omega, fun r hr => ?_⟩
  obtain ⟨h4, b, h5, h6⟩ := mkT_mem hr
  rw [h4, h6]
  refine ⟨by simp, ?_⟩
  rcases hxl.2 b h5 with rfl | h
  · simp
  · have := (hb b h).2; omega
theorem fewOk.tr {t : List (List Rec)} (h : fewOk t) : ∀ l ∈ t, trSm l := fun l hl => ⟨by have := (h.2 l hl).1; omega, (h.2 l hl).2⟩
theorem fewOk.app {s t : List (List Rec)} (hs : fewOk s) (ht : fewOk t) (h : s.length + t.length ≤ 500) : fewOk (s ++ t) := ⟨by simpa using h, fun l hl => by
  rcases List.mem_append.1 hl with h | h
  · exact hs.2 l h
  · exact ht.2 l h⟩
def dcb0 : Dcb := ⟨0, 0, false, false, 0, 0, 0, 0⟩

theorem reads4_sound (d : Dcb) (l : List (List UInt8)) (a : List (List Rec)) (x y : UInt8) (hl : l.length ≤ 9223372036854775807) (ha : a.length ≤ 9223372036854775807) (hs : ∀ t ∈ a, t.length ≤ 9223372036854775807 ∧ ∀ r ∈ t, r.key.length ≤ 140737488355328 ∧ r.data.length ≤ 140737488355328) :
    Sound Try.prog 4 [dcbA d, .lst .any 1 (bbL l), .lst .any 1 (arL a), .v (.int .u8 x.toNat), .v (.int .u8 y.toNat)] (.v (.bool true)) := by
  refine sound_of_W Try.func4 rfl (by decide +kernel) (by simp [Try.f4]) rfl rfl (rs := [.tmp 10]) rfl ?_
  rw [show Try.f4.ntmps = 58 from rfl]
  obtain ⟨f1, f2⟩ := few_small l
  obtain ⟨L, hL⟩ : ∃ L, fewM l = L := ⟨_, rfl⟩
  have hfew := few_sound l hl
  rw [hL] at hfew f1 f2
  have hr : ∀ r ∈ L, r.length ≤ 1000000000 := fun r hr => by have := f2 r hr; omega
  have ht := rtracks_sound d L (by omega) hr
  have hft := fewT_sound a ha hs
  have hfo := fewT_few a
  have hfl : (fewT a).length ≤ 20 := by simp [fewT]; omega
  obtain ⟨F, hF⟩ : ∃ F, fewT a = F := ⟨_, rfl⟩
  rw [hF] at hft hfo hfl
  refine W_evK [1, 2, 3, 4, 5] (by simp; rfl) ?_
  refine W_rK [1, 2, 3, 4, 5] ?_
  refine runA_pre 1 (by simp; rfl) rfl ?_
  refine runA_call (by simp) (by first | (simp; done) | (simp; rfl)) hft (by simp; rfl) ?_
  refine runA_fin (by simp; rfl) ?_
  rcases hbm : blockM d L with ⟨bs, e⟩
  have hT : tracksM d L = if e = 0 then (layM bs, 0) else ([], e) := by unfold tracksM; rw [hbm]
  refine W_any 2 rfl ?_
  refine W_rdK [2, 3, 4, 5, 11, 12] mx (by decide +kernel) ?_
  refine runD_pre 2 (by simp [putF]; rfl) rfl ?_
  refine runD_call (by simp) (by first | (simp; done) | (simp; rfl)) hfew (by simp; rfl) ?_
  refine runD_call (by simp) (by first | (simp; done) | (simp; rfl)) ht (by simp [resT]; rfl) ?_
  refine runD_fin (by simp [resT]; rfl) ?_
  refine W_seq ?_
  refine W_rK [2, 3, 4, 5, 11, 12, 25] ?_
  refine runA_pre 2 (by simp; rfl) rfl ?_
  refine runA_call (by simp) (by first | (simp; done) | (simp; rfl)) (reads_small d hfo) (by simp; rfl) ?_
  refine runA_fin (by simp; rfl) ?_
  refine W_cond rfl (fun h => by simp at h) (fun h => ?_)
  refine W_skip ?_
  refine W_seq ?_
  by_cases z : e = 0
  rotate_left
  · rw [hT, if_neg z]
    have zn : (e == 0) = false := by simpa using z
    refine W_rdK [56] mx (by decide +kernel) ?_
    refine runD_pre 6 (by simp [zn, z]; rfl) rfl ?_
    refine runD_pre 6 (by simp; rfl) rfl ?_
    refine runD_pre 6 (by simp; rfl) rfl ?_
    refine runD_pre 6 (by simp; rfl) rfl ?_
    refine runD_fin (by simp; rfl) ?_
    refine W_cond rfl (fun h => by simp at h) (fun h => ?_)
    refine W_skip ?_
    refine W_rK [10] ?_
    refine runA_call (by simp) (by first | (simp; done) | (simp; rfl)) works_sound (by simp; rfl) ?_
    refine runA_fin (by simp; rfl) ?_
    refine W_ret ?_
    repeat (first | refine on_ret ?_ | refine in_ret ?_)
    simp [retQ]
  subst z
  rw [hT, if_pos rfl]
  obtain ⟨hc1, hsm⟩ := block_small hbm
  have hbf := block_few hbm
  obtain ⟨hu1, hu2⟩ := lay_few hsm (by omega)
  obtain ⟨U, hU⟩ : ∃ U, layM bs = U := ⟨_, rfl⟩
  rw [hU] at hu1 hu2
  have hsp := spoil_sound U x y (by omega) hu2.few.tr
  have hspf := spoil_few hu2 x.toNat y.toNat
  have happ := hu2.few.app hfo (by omega)
  have bb : (U.length + F.length) * 24 ≤ 140737488355328 := by omega
  refine W_rdK [56] mx (by decide +kernel) ?_
  refine runD_pre 5 (by simp [hU]; rfl) rfl ?_
  refine runD_call (by simp) (by first | (simp; done) | (simp; rfl)) (reads_small d hu2.few) (by simp; rfl) ?_
  refine runD_pre 6 (by simp; rfl) rfl ?_
  refine runD_call (by simp) (by first | (simp; done) | (simp; rfl)) hsp (by simp; rfl) ?_
  refine runD_call (by simp) (by first | (simp; done) | (simp; rfl)) (reads_small d hspf) (by simp; rfl) ?_
  refine runD_pre 5 (by simp; rfl) rfl ?_
  refine runD_call (by simp) (by simp [dcb0]) (reads_small dcb0 hu2.few) (by simp; rfl) ?_
  refine runD_pre 7 (by simp [bb, ← arL_append]; rfl) rfl ?_
  refine runD_call (by simp) (by first | (simp; done) | (simp; rfl)) (reads_small d happ) (by simp; rfl) ?_
  refine runD_fin (by simp; rfl) ?_
  refine W_cond rfl (fun h => by simp at h) (fun h => ?_)
  refine W_skip ?_
  refine W_rK [10] ?_
  refine runA_call (by simp) (by first | (simp; done) | (simp; rfl)) works_sound (by simp; rfl) ?_
  refine runA_fin (by simp; rfl) ?_
  refine W_ret ?_
  repeat (first | refine on_ret ?_ | refine in_ret ?_)
  simp [retQ]
end Go.AM
