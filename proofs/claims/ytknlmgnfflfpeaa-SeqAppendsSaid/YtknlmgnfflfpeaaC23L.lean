/- The specification's Layout, Tracks. -/
import Derived.Test.YtknlmgnfflfpeaaC23K
namespace Go.AM
open Go.RowKit Go.Proofs
set_option linter.unusedSimpArgs false
set_option linter.unusedVariables false
set_option maxHeartbeats 1000000

theorem okA.dp {x : AV} {t : List Rec} (h : okA x t) : x.dp = .lst .any 4 (trL t) := by
  rcases h with rfl | ⟨f, rfl, _⟩ <;> simp [AV.dp]
theorem TC.fin {O : List (List Rec)} {now : List Rec} {cap : Nat} {cs : List AV} (h : TC O now cap cs) : (AV.dpL cs).take ((O.length + 1) * 1) = arL (O ++ [now]) := by
  apply List.ext_getElem?
  intro j
  rw [Nat.mul_one, List.getElem?_take]
  split
  · rename_i hj
    rw [dpL_get]
    rcases Nat.lt_or_ge j O.length with h1 | h1
    · obtain ⟨x, h2, h3⟩ := h.old j _ (List.getElem?_eq_getElem h1)
      rw [h2, Option.map_some, h3.dp, arL_append, List.getElem?_append_left (by simpa using h1)]
      simp [arL, h1]
    · have : j = O.length := by omega
      subst this
      obtain ⟨x, h2, h3⟩ := h.cur
      rw [h2, Option.map_some, okA.dp (.inr h3)]
      simp [arL]
  · rename_i hj
    rw [List.getElem?_eq_none (by simp; omega)]
theorem rlayout_sound (l : List (List UInt8)) (hl : l.length ≤ 100000) (hr : ∀ b ∈ l, b.length ≤ 1000000000) : Sound Try.prog 33 [.lst .any 1 (bbL l)] (.lst (.tip 46 1) 1 (arL (layM l))) := by
  refine sound_of_U Try.func33 rfl (by decide +kernel) (by simp [Try.f33]) rfl rfl (rs := [.tmp 2]) rfl ?_
  rw [show Try.f33.ntmps = 20 from rfl]
  refine W_evK [0] (by simp; rfl) ?_
  refine W_rK [0, 3] ?_
  refine runA_b (by simp) ⟨_, by simp [evSame, evBsO, catK, AV.cellsK, AV.kone, AV.koneL, AV.tlL, AV.tl]; rfl, ?_⟩
  refine runA_fin (by simp; rfl) ?_
  refine W_seq ?_
  refine W_evK [0, 3, 4] (by simp; rfl) ?_
  refine W_block ?_
  refine W_loop (fun k s => ∃ (i : Nat) (p : List (List Rec) × List Rec) (id cap : Nat) (cs : List AV) (H : List AObj), k = l.length - i ∧ i ≤ l.length ∧ (l.take i).foldl placeM ([], []) = p ∧ p.1.length ≤ i ∧ p.2.length ≤ i ∧ (∀ r ∈ p.2, recSm r) ∧
      goodR H ∧ H[id]? = some (.cells 46 cs) ∧ TC p.1 p.2 cap cs ∧ cap ≤ maxLen ∧ s = ⟨20, [(0, .lst .any 1 (bbL l)), (3, .arr id 0 (p.1.length + 1) cap), (4, .v (.int .i64 (i : Nat)))], H⟩) (k := l.length)
      ⟨0, ([], []), 0, 1, [.lst .nil 4 []], [.cells 46 [.lst .nil 4 []]], rfl, by omega, rfl, by simp, by simp, by simp, ?_, rfl, ?_, by decide, by simp⟩ ?_
  · intro o ho
    rw [List.mem_singleton.1 ho]
    exact .inl ⟨_, rfl, fun x hx => by rw [List.mem_singleton.1 hx]; exact ⟨[], .inr ⟨.nil, rfl, .inr (.inr ⟨rfl, rfl⟩)⟩⟩⟩
  · exact ⟨rfl, by simp, by simp, ⟨_, rfl, .nil, rfl, .inr (.inr ⟨rfl, rfl⟩)⟩, fun j h1 h2 => by simp at h1; omega⟩
  rintro k s ⟨i, p, id, cap, cs, H, rfl, hi, hp, ho, hn, hsm, hg, hid, htc, hmx, rfl⟩
  refine W_seq ?_
  by_cases c : i < l.length
  · have ci : (i : Int) < l.length := by omega
    obtain ⟨b, hbi⟩ : ∃ b, l[i]? = some b := ⟨_, List.getElem?_eq_getElem c⟩
    have hb2 : l[i]'c = b := by rw [List.getElem?_eq_getElem c] at hbi; exact Option.some.inj hbi
    have hbl := hr b (List.mem_of_getElem? hbi)
    have wi := w64 (n := (i : Int) + 1) (by omega) (by omega)
    have htk : (l.take (i + 1)).foldl placeM ([], []) = placeM p b := by
      rw [List.take_add_one, hbi, List.foldl_append, hp]; rfl
    have hpl := place_len p b
    refine W_evK [0, 3, 4, 9] (by simp [c]; rfl) ?_
    refine W_cond rfl (fun h => ?_) (fun h => by simp at h)
    refine W_skip ?_
    refine W_seq ?_
    refine W_block ?_
    refine W_rE [0, 3, 4] ?_
    refine runA_pre 5 (by simp [c, ci, hb2]; rfl) rfl ?_
    refine runA_obj (f := 56) (args := [.arr id 0 (p.1.length + 1) cap, .lst .any 1 (byL b)]) (by simp) (by simp) ((rplace_callW p.1 p.2 b .any H id cap cs hg hid htc hmx (by omega) (by omega) hsm hbl).mono ?_)
    rintro r h' ⟨id', cap', cs', rfl, hg', hid', htc', hmx', hl'⟩
    refine ⟨_, by simp; rfl, ?_⟩
    refine runA_fin (by simp; rfl) ?_
    refine W_evE [0, 3, 4] (by simp [wi]; rfl) ?_
    exact ⟨_, by omega, i + 1, _, id', cap', cs', h', rfl, by omega, htk, by omega, by omega, place_sm hsm hbl, hg', hid', htc', hmx', by simp⟩
  · refine W_evK [0, 3, 4, 9] (by simp [c]; rfl) ?_
    refine W_cond rfl (fun h => by simp at h) (fun h => ?_)
    refine W_exit ?_
    have hie : i = l.length := by omega
    subst hie
    rw [List.take_length] at hp
    rw [layM_eq, hp]
    have hpl := place_len p []
    refine W_rK [2] ?_
    refine runA_pre 1 (by simp; rfl) rfl ?_
    refine runA_obj (f := 56) (args := [.arr id 0 (p.1.length + 1) cap, .lst .nil 1 (byL [])]) (by simp) (by simp) ((rplace_callW p.1 p.2 [] .nil H id cap cs hg hid htc hmx (by omega) (by omega) hsm (by simp)).mono ?_)
    rintro r h' ⟨id', cap', cs', rfl, hg', hid', htc', hmx', hl'⟩
    refine ⟨_, by simp; rfl, ?_⟩
    refine runA_fin (by simp; rfl) ?_
    refine W_dpB id' hid' ?_
    have hfin := htc'.fin
    obtain ⟨q, hq⟩ : ∃ q, placeM (p.1, p.2) [] = q := ⟨_, rfl⟩
    have hq' : placeM p [] = q := hq
    rw [hq] at htc' hfin
    rw [hq'] at hpl ⊢
    have hidl := (List.getElem?_eq_some_iff.1 hid').1
    have hdl := dpL_length cs'
    have hle := htc'.le
    have hlen := htc'.len
    refine W_tip 2 (tk := 1) (ty := 46) (sz := 1) (ag := false) rfl (by decide) (List.getElem?_set_self hidl) (by simp) (by omega) (.inr rfl) (by omega) (by rw [hfin]; simp) (by rw [hfin]; simp) ?_
    have hch : chunk false 1 (q.1.length + 1) (arL (q.1 ++ [q.2])) = arL (q.1 ++ [q.2]) := by
      have := chunk1 (arL (q.1 ++ [q.2]))
      rw [arL_length] at this
      simpa using this
    rw [hfin, weakL_arL, hch]
    refine W_ret ?_
    repeat (first | refine on_ret ?_ | refine in_ret ?_)
    exact ⟨.lst (.tip 46 1) 1 (arL (q.1 ++ [q.2])), by simp [retQ, putF], .refl _⟩
theorem rtracks_sound (d : Dcb) (l : List (List UInt8)) (hl : l.length ≤ 1000000) (hr : ∀ r ∈ l, r.length ≤ 1000000000) : Sound Try.prog 14 [dcbA d, .lst .any 1 (bbL l)] (resT (tracksM d l)) := by
  refine sound_of_U Try.func14 rfl (by decide +kernel) (by simp [Try.f14]) rfl rfl (rs := [.tmp 4, .tmp 5]) rfl ?_
  rw [show Try.f14.ntmps = 19 from rfl]
  have hb := rblock_sound d l hl hr
  rcases hbm : blockM d l with ⟨bs, e⟩
  rw [hbm] at hb
  have hT : tracksM d l = if e = 0 then (layM bs, 0) else ([], e) := by unfold tracksM; rw [hbm]
  rw [hT]
  refine W_evK [1, 2] (by simp; rfl) ?_
  refine W_rK [6, 7] ?_
  refine runA_pre 2 (by simp; rfl) rfl ?_
  refine runA_call (by simp) (by first | (simp; done) | (simp; rfl)) hb (by simp [resB]; rfl) ?_
  refine runA_fin (by simp [resB]; rfl) ?_
  refine W_seq ?_
  by_cases z : e = 0
  · subst z
    obtain ⟨h1, h2⟩ := block_small hbm
    rw [if_pos rfl]
    refine W_evK [6, 7, 15] (by simp; rfl) ?_
    refine W_cond rfl (fun h => by simp at h) (fun h => ?_)
    refine W_skip ?_
    refine W_rK [4, 5] ?_
    refine runA_pre 1 (by simp; rfl) rfl ?_
    refine runA_call (by simp) (by first | (simp; done) | (simp; rfl)) (rlayout_sound bs (by omega) fun b hb => by have := (h2 b hb).2; omega) (by simp; rfl) ?_
    refine runA_fin (by simp; rfl) ?_
    refine W_ret ?_
    repeat (first | refine on_ret ?_ | refine in_ret ?_)
    exact ⟨_, by simp [retQ]; exact ⟨rfl, by simp⟩, .norm fun T => by simp [resT]⟩
  · rw [if_neg z]
    have zn : (e != 0) = true := by simpa using z
    refine W_evK [6, 7, 15] (by simp [zn]; rfl) ?_
    refine W_cond rfl (fun h => ?_) (fun h => by simp at h)
    refine W_evK [4, 5] (by simp; rfl) ?_
    refine W_ret ?_
    repeat (first | refine on_ret ?_ | refine in_ret ?_)
    exact ⟨.tup [.lst .nil 1 [], .v (.int .i64 e)], by simp [retQ], .tup2 (.nil (by decide +kernel)) (.refl _)⟩

def cutB1 (b : List UInt8) : List UInt8 := b.take 1100
def fewM (l : List (List UInt8)) : List (List UInt8) := (l.take 150).map cutB1
end Go.AM
