/- layout, Tracks, Need. -/
import Derived.Test.YtknlmgnfflfpeaaC23H
namespace Go.AM
open Go.RowKit Go.Proofs
set_option linter.unusedSimpArgs false
set_option linter.unusedVariables false
set_option maxHeartbeats 1000000

theorem len_flatten {α : Type} : ∀ (gs : List (List α)), (∀ g ∈ gs, g ≠ []) → gs.length ≤ gs.flatten.length
  | [], _ => by simp
  | g :: gs, h => by
    have h1 := len_flatten gs fun x hx => h x (List.mem_cons_of_mem _ hx)
    have h2 : 0 < g.length := List.length_pos_iff.2 (h g List.mem_cons_self)
    simp only [List.flatten_cons, List.length_append, List.length_cons]
    omega
theorem block_small {d : Dcb} {l bs : List (List UInt8)} (h : blockM d l = (bs, 0)) : bs.length ≤ 4096 ∧ ∀ b ∈ bs, b ≠ [] ∧ b.length ≤ 1024 := by
  obtain ⟨hc, hl, gs, rfl, hfl, hok, _⟩ := blockM_groups h
  obtain ⟨_, _, hs1, hs2, _, _⟩ := check_facts hc
  refine ⟨?_, fun b hb => ?_⟩
  · have := len_flatten gs fun g hg => (hok g hg).ne
    rw [hfl] at this
    simp; omega
  · obtain ⟨g, hg, rfl⟩ := List.mem_map.1 hb
    have h1 := (hok g hg).len
    have h2 := body_pos hc (hok g hg).ne (hok g hg).fit
    refine ⟨fun e => ?_, by omega⟩
    have h3 : (enc d g).length = 0 := by rw [e]; rfl
    unfold enc at h3
    split at h3
    · simp at h3
    · omega
theorem place_sm {p : List (List Rec) × List Rec} {data : List UInt8} (h : ∀ r ∈ p.2, recSm r) (hd : data.length ≤ 1000000000) : ∀ r ∈ (placeM p data).2, recSm r := by
  intro r hr
  unfold placeM at hr
  split at hr
  · rcases List.mem_append.1 hr with h1 | h1
    · exact h r h1
    · rw [List.mem_singleton.1 h1]
      exact ⟨by simp [newR], by simpa [newR] using hd⟩
  · rw [List.mem_singleton.1 hr]
    exact ⟨by simp, by simpa using hd⟩
theorem place_len (p : List (List Rec) × List Rec) (data : List UInt8) : (placeM p data).1.length ≤ p.1.length + 1 ∧ (placeM p data).2.length ≤ p.2.length + 1 := by
  unfold placeM
  split <;> simp
theorem layM_eq (l : List (List UInt8)) : layM l = (placeM (l.foldl placeM ([], [])) []).1 ++ [(placeM (l.foldl placeM ([], [])) []).2] := by
  simp [layM, List.foldl_append]
theorem layout_sound (l : List (List UInt8)) (hl : l.length ≤ 100000) (hr : ∀ b ∈ l, b.length ≤ 1000000000) : Sound Try.prog 31 [.lst .any 1 (bbL l)] (.lst (.tip 46 1) 1 (arL (layM l))) := by
  refine sound_of_U Try.func31 rfl (by decide +kernel) (by simp [Try.f31]) rfl rfl (rs := [.tmp 2]) rfl ?_
  rw [show Try.f31.ntmps = 25 from rfl]
  refine W_evK [0] (by simp; rfl) ?_
  refine W_evK [0, 3] (by simp; rfl) ?_
  refine W_evK [0, 3, 4] (by simp; rfl) ?_
  refine W_evK [0, 3, 4, 5] (by simp; rfl) ?_
  refine W_seq ?_
  refine W_evK [3, 4, 5, 9, 10, 11] (by simp; rfl) ?_
  refine W_block ?_
  refine W_loop (fun k s => ∃ (i : Nat) (p : List (List Rec) × List Rec) (x y : AV), k = l.length - i ∧ i ≤ l.length ∧ (l.take i).foldl placeM ([], []) = p ∧ outT x p.1 ∧ nowT y p.2 ∧ p.1.length ≤ i ∧ p.2.length ≤ i ∧ (∀ r ∈ p.2, recSm r) ∧
      s = ⟨25, [(3, .loc 0 0), (4, .loc 1 0), (5, .fn (.func 52) [] [.loc 1 0, .loc 0 0]), (9, .lst .any 1 (bbL l)), (10, .v (.int .i64 (l.length : Nat))), (11, .v (.int .i64 (i : Nat)))], [.cells 26 [x], .cells 46 [y]]⟩) (k := l.length)
      ⟨0, ([], []), _, _, rfl, by omega, rfl, .inl ⟨rfl, rfl⟩, .inl ⟨rfl, rfl⟩, by simp, by simp, by simp, by simp⟩ ?_
  rintro k s ⟨i, p, x, y, rfl, hi, hp, hx, hy, ho, hn, hsm, rfl⟩
  by_cases c : i < l.length
  · have ci : (i : Int) < l.length := by omega
    obtain ⟨b, hbi⟩ : ∃ b, l[i]? = some b := ⟨_, List.getElem?_eq_getElem c⟩
    have hb2 : l[i]'c = b := by rw [List.getElem?_eq_getElem c] at hbi; exact Option.some.inj hbi
    have hbl := hr b (List.mem_of_getElem? hbi)
    have wi := w64 (n := (i : Int) + 1) (by omega) (by omega)
    have htk : (l.take (i + 1)).foldl placeM ([], []) = placeM p b := by
      rw [List.take_add_one, hbi, List.foldl_append, hp]; rfl
    have hpl := place_len p b
    refine W_evK [3, 4, 5, 9, 10, 11, 12] (by simp [c]; rfl) ?_
    refine W_seq ?_
    refine W_cond rfl (fun h => ?_) (fun h => by simp at h)
    refine W_skip ?_
    refine W_seq ?_
    refine W_block ?_
    refine W_evK [3, 4, 5, 9, 10, 11, 7] (by simp [c, ci, hb2]; rfl) ?_
    refine W_rE [3, 4, 5, 9, 10, 11] ?_
    refine runA_pre 2 (by simp; rfl) rfl ?_
    refine runA_obj (f := 52) (args := [.lst .any 1 (byL b), .loc 1 0, .loc 0 0]) (by simp) (by simp) ((place_callW p.1 p.2 b .any x y hx hy (by omega) (by omega) hsm hbl).mono ?_)
    rintro r h' ⟨rfl, x', y', hx', hy', rfl⟩
    refine ⟨_, by simp; rfl, ?_⟩
    refine runA_fin (by simp; rfl) ?_
    refine W_evE [3, 4, 5, 9, 10, 11] (by simp [wi]; rfl) ?_
    exact ⟨_, by omega, i + 1, _, x', y', rfl, by omega, htk, hx', hy', by omega, by omega, place_sm hsm hbl, by simp⟩
  · refine W_evK [3, 4, 5, 9, 10, 11, 12] (by simp [c]; rfl) ?_
    refine W_seq ?_
    refine W_cond rfl (fun h => by simp at h) (fun h => ?_)
    refine W_exit ?_
    have hie : i = l.length := by omega
    subst hie
    rw [List.take_length] at hp
    rw [layM_eq, hp]
    have hpl := place_len p []
    refine W_rK [3, 4] ?_
    refine runA_pre 1 (by simp; rfl) rfl ?_
    refine runA_obj (f := 52) (args := [.lst .nil 1 (byL []), .loc 1 0, .loc 0 0]) (by simp) (by simp) ((place_callW p.1 p.2 [] .nil x y hx hy (by omega) (by omega) hsm (by simp)).mono ?_)
    rintro r h' ⟨rfl, x', y', hx', hy', rfl⟩
    refine ⟨_, by simp; rfl, ?_⟩
    refine runA_fin (by simp; rfl) ?_
    obtain ⟨q, hq⟩ : ∃ q, placeM (p.1, p.2) [] = q := ⟨_, rfl⟩
    have hq' : placeM p [] = q := hq
    rw [hq] at hx' hy'
    rw [hq'] at hpl ⊢
    have b1 : (q.1.length + 1) * 24 ≤ 140737488355328 := by omega
    have b2 : 24 * (q.1.length + 1) ≤ 140737488355328 := by omega
    rcases hx' with ⟨h0, rfl⟩ | rfl
    · rw [h0]
      rcases hy' with ⟨h1, rfl⟩ | rfl
      · rw [h1]
        refine W_evK [2] (by simp [catK, AV.cellsK, AV.kone, AV.koneL]; rfl) ?_
        refine W_ret ?_
        repeat (first | refine on_ret ?_ | refine in_ret ?_)
        exact ⟨_, by simp [retQ]; exact ⟨rfl, by simp⟩, .norm fun T => by simp [arL_cons]⟩
      · refine W_evK [2] (by simp [catK, AV.cellsK, AV.kone, AV.koneL]; rfl) ?_
        refine W_ret ?_
        repeat (first | refine on_ret ?_ | refine in_ret ?_)
        exact ⟨_, by simp [retQ]; exact ⟨rfl, by simp⟩, .norm fun T => by simp [arL_cons]⟩
    · rcases hy' with ⟨h1, rfl⟩ | rfl
      · rw [h1]
        refine W_evK [2] (by simp [catK, AV.cellsK, AV.kone, AV.koneL, b1, b2]; rfl) ?_
        refine W_ret ?_
        repeat (first | refine on_ret ?_ | refine in_ret ?_)
        exact ⟨_, by simp [retQ]; exact ⟨rfl, by simp⟩, .norm fun T => by simp [arL_append, arL_cons]⟩
      · refine W_evK [2] (by simp [catK, AV.cellsK, AV.kone, AV.koneL, b1, b2]; rfl) ?_
        refine W_ret ?_
        repeat (first | refine on_ret ?_ | refine in_ret ?_)
        exact ⟨_, by simp [retQ]; exact ⟨rfl, by simp⟩, .norm fun T => by simp [arL_append, arL_cons]⟩

def resT (p : List (List Rec) × Int) : AV := .tup [.lst (.tip 46 1) 1 (arL p.1), .v (.int .i64 p.2)]
def tracksM (d : Dcb) (l : List (List UInt8)) : List (List Rec) × Int := if (blockM d l).2 = 0 then (layM (blockM d l).1, 0) else ([], (blockM d l).2)
theorem tracks_sound (d : Dcb) (l : List (List UInt8)) (hl : l.length ≤ 1000000) (hr : ∀ r ∈ l, r.length ≤ 1000000000) : Sound Try.prog 12 [dcbA d, .lst .any 1 (bbL l)] (resT (tracksM d l)) := by
  refine sound_of_U Try.func12 rfl (by decide +kernel) (by simp [Try.f12]) rfl rfl (rs := [.tmp 4, .tmp 5]) rfl ?_
  rw [show Try.f12.ntmps = 19 from rfl]
  have hb := block_sound d l hl hr
  rcases hbm : blockM d l with ⟨bs, e⟩
  rw [hbm] at hb
  have hT : tracksM d l = if e = 0 then (layM bs, 0) else ([], e) := by unfold tracksM; rw [hbm]
  rw [hT]
  refine W_evK [1, 2] (by simp; rfl) ?_
  refine W_rK [6, 7] ?_
  refine runA_pre 2 (by simp; rfl) rfl ?_
  refine runA_call (by simp) (by first | (simp; done) | (simp; rfl)) hb (by simp [resB]; rfl) ?_
  refine runA_fin (by simp [resB]; rfl) ?_
  refine W_seq ?_
  by_cases z : e = 0
  · subst z
    obtain ⟨h1, h2⟩ := block_small hbm
    rw [if_pos rfl]
    refine W_evK [6, 7, 15] (by simp; rfl) ?_
    refine W_cond rfl (fun h => by simp at h) (fun h => ?_)
    refine W_skip ?_
    refine W_rK [4, 5] ?_
    refine runA_pre 1 (by simp; rfl) rfl ?_
    refine runA_call (by simp) (by first | (simp; done) | (simp; rfl)) (layout_sound bs (by omega) fun b hb => by have := (h2 b hb).2; omega) (by simp; rfl) ?_
    refine runA_fin (by simp; rfl) ?_
    refine W_ret ?_
    repeat (first | refine on_ret ?_ | refine in_ret ?_)
    exact ⟨_, by simp [retQ]; exact ⟨rfl, by simp⟩, .norm fun T => by simp [resT]⟩
  · rw [if_neg z]
    have zn : (e != 0) = true := by simpa using z
    refine W_evK [6, 7, 15] (by simp [zn]; rfl) ?_
    refine W_cond rfl (fun h => ?_) (fun h => by simp at h)
    refine W_evK [4, 5] (by simp; rfl) ?_
    refine W_ret ?_
    repeat (first | refine on_ret ?_ | refine in_ret ?_)
    exact ⟨.tup [.lst .nil 1 [], .v (.int .i64 e)], by simp [retQ], .tup2 (.nil (by decide +kernel)) (.refl _)⟩
theorem need_sound (d : Dcb) (l : List (List UInt8)) (hl : l.length ≤ 1000000) (hr : ∀ r ∈ l, r.length ≤ 1000000000) : Sound Try.prog 13 [dcbA d, .lst .any 1 (bbL l)] (.tup [.v (.int .i64 ((tracksM d l).1.length : Nat)), .v (.int .i64 (tracksM d l).2)]) := by
  refine sound_of_W Try.func13 rfl (by decide +kernel) (by simp [Try.f13]) rfl rfl (rs := [.tmp 4, .tmp 5]) rfl ?_
  rw [show Try.f13.ntmps = 17 from rfl]
  refine W_evK [1, 2] (by simp; rfl) ?_
  refine W_rK [6, 7] ?_
  refine runA_pre 2 (by simp; rfl) rfl ?_
  refine runA_call (by simp) (by first | (simp; done) | (simp; rfl)) (tracks_sound d l hl hr) (by simp [resT]; rfl) ?_
  refine runA_fin (by simp [resT]; rfl) ?_
  refine W_evK [4, 5] (by simp; rfl) ?_
  refine W_ret ?_
  repeat (first | refine on_ret ?_ | refine in_ret ?_)
  simp [retQ]
end Go.AM
