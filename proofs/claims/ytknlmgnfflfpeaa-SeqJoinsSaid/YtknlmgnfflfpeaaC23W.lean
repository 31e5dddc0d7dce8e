/- SeqJoins: the plain law and the walk. -/
import Derived.Test.YtknlmgnfflfpeaaC23S
namespace Go.AM
open Go.RowKit Go.Proofs
set_option linter.unusedSimpArgs false
set_option linter.unusedVariables false
set_option maxHeartbeats 1000000

theorem unb_two {d : Dcb} {l m bs bm : List (List UInt8)} (h1 : blockM d l = (bs, 0)) (h2 : blockM d m = (bm, 0)) (hl : l.length + m.length ≤ 4096) : unbM d (bs ++ bm) = (l ++ m, 0) := by
  obtain ⟨hc, _, gs, rfl, rfl, hg, _⟩ := blockM_groups h1
  obtain ⟨_, _, gm, rfl, rfl, hm, _⟩ := blockM_groups h2
  rw [← List.map_append, ← List.flatten_append]
  refine unbM_enc hc (fun x hx => ?_) (by rw [List.flatten_append, List.length_append]; exact hl)
  rcases List.mem_append.1 hx with h | h
  · exact hg x h
  · exact hm x h
theorem ones_flat : ∀ {gs : List (List (List UInt8))}, (∀ x ∈ gs, x.length = 1) → gs = gs.flatten.map fun r => [r]
  | [], _ => rfl
  | x :: gs, h => by
    have h1 := h x List.mem_cons_self
    match x, h1 with
    | [r], _ =>
      have h2 := ones_flat (gs := gs) fun y hy => h y (List.mem_cons_of_mem _ hy)
      simp only [List.flatten_cons, List.cons_append, List.nil_append, List.map_cons]
      rw [← h2]
theorem block_ones {d : Dcb} {l bs : List (List UInt8)} (hd : d.blk = false) (h : blockM d l = (bs, 0)) : bs = l.map (fun r => enc d [r]) ∧ ∀ r ∈ l, fitsM d r.length = true := by
  obtain ⟨hc, _, gs, rfl, rfl, hg, _⟩ := blockM_groups h
  refine ⟨?_, fun r hr => ?_⟩
  · have h2 := ones_flat fun x hx => (hg x hx).one hd
    conv => lhs; rw [h2]
    rw [List.map_map]
    rfl
  · obtain ⟨x, hx, hrx⟩ := List.mem_flatten.1 hr
    exact (hg x hx).fit r hrx
theorem goB_some (d : Dcb) : ∀ (l O : List (List UInt8)) (B : List UInt8), (∀ r ∈ l, fitsM d r.length = true) → ∃ p, goB d l O B = some p
  | [], O, B, _ => ⟨(O, B), by rw [goB]⟩
  | r :: l, O, B, h => by
    rw [goB, if_neg (by rw [h r List.mem_cons_self]; simp)]
    split
    · exact goB_some d l _ _ fun x hx => h x (List.mem_cons_of_mem _ hx)
    · exact goB_some d l _ _ fun x hx => h x (List.mem_cons_of_mem _ hx)
theorem block_join {d : Dcb} {l m bs bm : List (List UInt8)} (hd : d.blk = false) (h1 : blockM d l = (bs, 0)) (h2 : blockM d m = (bm, 0)) (hl : l.length + m.length ≤ 4096) : blockM d (l ++ m) = (bs ++ bm, 0) := by
  obtain ⟨e1, f1⟩ := block_ones hd h1
  obtain ⟨e2, f2⟩ := block_ones hd h2
  have hc := (blockM_groups h1).1
  have hf : ∀ r ∈ l ++ m, fitsM d r.length = true := fun r hr => by
    rcases List.mem_append.1 hr with h | h
    · exact f1 r h
    · exact f2 r h
  obtain ⟨p, hp⟩ := goB_some d (l ++ m) [] [] hf
  have h3 : blockM d (l ++ m) = (flushM d p.1 p.2, 0) := by
    unfold blockM
    rw [if_pos hc, if_neg (by simp; omega), hp]
    rfl
  obtain ⟨e3, _⟩ := block_ones hd h3
  rw [h3, e3, e1, e2, List.map_append]

theorem joins_sound (d : Dcb) (l m : List (List UInt8)) (hl : l.length ≤ 9223372036854775807) (hm : m.length ≤ 9223372036854775807) : Sound Try.prog 7 [dcbA d, .lst .any 1 (bbL l), .lst .any 1 (bbL m)] (.v (.bool true)) := by
  refine sound_of_W Try.func7 rfl (by decide +kernel) (by simp [Try.f7]) rfl rfl (rs := [.tmp 6]) rfl ?_
  rw [show Try.f7.ntmps = 75 from rfl]
  obtain ⟨f1, f2⟩ := few_small l
  obtain ⟨g1, g2⟩ := few_small m
  obtain ⟨L, hL⟩ : ∃ L, fewM l = L := ⟨_, rfl⟩
  obtain ⟨M, hM⟩ : ∃ M, fewM m = M := ⟨_, rfl⟩
  have hfew := few_sound l hl
  have hfewm := few_sound m hm
  rw [hL] at hfew f1 f2
  rw [hM] at hfewm g1 g2
  have hr : ∀ r ∈ L, r.length ≤ 1000000000 := fun r hr => by have := f2 r hr; omega
  have hrm : ∀ r ∈ M, r.length ≤ 1000000000 := fun r hr => by have := g2 r hr; omega
  have ht := tracks_sound d L (by omega) hr
  have htk := tracks_ok d L
  refine W_evK [1, 2, 3] (by simp; rfl) ?_
  refine W_seq ?_
  refine W_rK [1, 2, 3, 17] ?_
  refine runA_call (by simp) (by first | (simp; done) | (simp; rfl)) works_sound (by simp; rfl) ?_
  refine runA_fin (by simp; rfl) ?_
  refine W_cond rfl (fun h => by simp at h) (fun h => ?_)
  refine W_skip ?_
  refine W_rK [1, 2, 3] ?_
  refine runA_pre 1 (by simp; rfl) rfl ?_
  refine runA_call (by simp) (by first | (simp; done) | (simp; rfl)) hfew (by simp; rfl) ?_
  refine runA_pre 1 (by simp; rfl) rfl ?_
  refine runA_call (by simp) (by first | (simp; done) | (simp; rfl)) hfewm (by simp; rfl) ?_
  refine runA_fin (by simp; rfl) ?_
  rcases hbm : blockM d L with ⟨bs, e⟩
  have hT : tracksM d L = if e = 0 then (layM bs, 0) else ([], e) := by unfold tracksM; rw [hbm]
  by_cases z : e = 0
  rotate_left
  · rw [hT, if_neg z] at ht
    have ha := append23_sound d [] M (by simp) (by simp) (by simp [blocksM, blkGo]) (by simp [blocksM, blkGo]) (by omega) hrm
    rw [show appendM d [] M = ([], 5) by simp [appendM, blocksM, blkGo]] at ha
    refine W_rK [1, 2, 3, 7, 8] ?_
    refine runA_pre 2 (by simp; rfl) rfl ?_
    refine runA_call (by simp) (by first | (simp; done) | (simp; rfl)) ht (by simp [resT]; rfl) ?_
    refine runA_fin (by simp [resT]; rfl) ?_
    refine W_rK [1, 2, 3, 8, 9, 10] ?_
    refine runA_pre 3 (by simp; rfl) rfl ?_
    refine runA_call (by simp) (by first | (simp; done) | (simp; rfl)) ha (by simp [resT]; rfl) ?_
    refine runA_fin (by simp [resT]; rfl) ?_
    have zn : (e != 0) = true := by simpa using z
    refine W_seq ?_
    refine W_evK [1, 2, 3, 9, 40] (by simp [zn]; rfl) ?_
    refine W_cond rfl (fun h => ?_) (fun h => by simp at h)
    refine W_evK [6] (by simp; rfl) ?_
    refine W_ret ?_
    repeat (first | refine on_ret ?_ | refine in_ret ?_)
    simp [retQ]
  subst z
  obtain ⟨hc1, hsm⟩ := block_small hbm
  rw [hT, if_pos rfl] at ht htk
  have hblk := blocks_lay hsm []
  rw [List.append_nil] at hblk
  obtain ⟨T, hTT⟩ : ∃ T, layM bs = T := ⟨_, rfl⟩
  rw [hTT] at ht htk hblk
  have hT1 : T.length ≤ 100000 := htk.1
  have hT2 : ∀ t ∈ T, trSm t := fun t h => ⟨by have := (htk.2 t h).1; omega, (htk.2 t h).2⟩
  have ha := append23_sound d T M hT1 hT2 (by rw [hblk]; simp; omega) (by rw [hblk]; intro b hb; have := (hsm b hb).2; omega) (by omega) hrm
  rcases hbmm : blockM d M with ⟨bm, f⟩
  have hA : appendM d T M = if f = 0 then (layM (bs ++ bm), 0) else ([], f) := by unfold appendM; rw [hblk, hbmm]; rfl
  by_cases y : f = 0
  rotate_left
  · rw [hA, if_neg y] at ha
    refine W_rK [1, 2, 3, 7, 8] ?_
    refine runA_pre 2 (by simp; rfl) rfl ?_
    refine runA_call (by simp) (by first | (simp; done) | (simp; rfl)) ht (by simp [resT]; rfl) ?_
    refine runA_fin (by simp [resT]; rfl) ?_
    refine W_rK [1, 2, 3, 8, 9, 10] ?_
    refine runA_pre 3 (by simp; rfl) rfl ?_
    refine runA_call (by simp) (by first | (simp; done) | (simp; rfl)) ha (by simp [resT]; rfl) ?_
    refine runA_fin (by simp [resT]; rfl) ?_
    have yn : (f != 0) = true := by simpa using y
    refine W_seq ?_
    refine W_evK [1, 2, 3, 9, 40] (by simp [yn]; rfl) ?_
    refine W_cond rfl (fun h => ?_) (fun h => by simp at h)
    refine W_evK [6] (by simp; rfl) ?_
    refine W_ret ?_
    repeat (first | refine on_ret ?_ | refine in_ret ?_)
    simp [retQ]
  subst y
  rw [hA, if_pos rfl] at ha
  obtain ⟨hc2, hsm2⟩ := block_small hbmm
  have hsm3 : ∀ b ∈ bs ++ bm, b ≠ [] ∧ b.length ≤ 1024 := fun b hb => by
    rcases List.mem_append.1 hb with h | h
    · exact hsm b h
    · exact hsm2 b h
  have hblk2 := blocks_lay hsm3 []
  rw [List.append_nil] at hblk2
  have hU := lay_ok (l := bs ++ bm) (by simp; omega) fun b hb => by have := (hsm3 b hb).2; omega
  have hrec0 := unb_two hbm hbmm (by omega)
  have htr2 := tracks_sound d (L ++ M) (by simp; omega) fun r hx => by
    rcases List.mem_append.1 hx with h | h
    · exact hr r h
    · exact hrm r h
  have htr3 : d.blk = false → tracksM d (L ++ M) = (layM (bs ++ bm), 0) := fun hd => by
    unfold tracksM
    rw [block_join hd hbm hbmm (by omega)]
    rfl
  obtain ⟨U, hUU⟩ : ∃ U, layM (bs ++ bm) = U := ⟨_, rfl⟩
  rw [hUU] at ha hblk2 hU htr3
  have hrec := records_sound d U hU.1 (fun t h => ⟨by have := (hU.2 t h).1; omega, (hU.2 t h).2⟩) (by rw [hblk2]; simp; omega) (by rw [hblk2]; intro b hb; have := (hsm3 b hb).2; omega)
  have hrm2 : recsM d U = (L ++ M, 0) := by unfold recsM; rw [hblk2]; simp [hrec0]
  rw [hrm2] at hrec
  have hsame := lsame_sound (L ++ M) (L ++ M) (by simp; omega)
  rw [decide_eq_true rfl] at hsame
  have hal := alike_sound U U (by have := hU.1; omega) (fun t h => by have := (hU.2 t h).1; omega)
  rw [decide_eq_true rfl] at hal
  refine W_rK [1, 2, 3, 7, 8] ?_
  refine runA_pre 2 (by simp; rfl) rfl ?_
  refine runA_call (by simp) (by first | (simp; done) | (simp; rfl)) ht (by simp [resT]; rfl) ?_
  refine runA_fin (by simp [resT]; rfl) ?_
  refine W_rK [1, 2, 3, 8, 9, 10] ?_
  refine runA_pre 3 (by simp; rfl) rfl ?_
  refine runA_call (by simp) (by first | (simp; done) | (simp; rfl)) ha (by simp [resT]; rfl) ?_
  refine runA_fin (by simp [resT]; rfl) ?_
  refine W_seq ?_
  refine W_evK [1, 2, 3, 9, 40] (by simp; rfl) ?_
  refine W_cond rfl (fun h => by simp at h) (fun h => ?_)
  refine W_skip ?_
  have b1 : L.length * 24 ≤ 140737488355328 := by omega
  have b2 : 24 * L.length ≤ 140737488355328 := by omega
  have b3 : (L.length + M.length) * 24 ≤ 140737488355328 := by omega
  have b4 : 24 * (L.length + M.length) ≤ 140737488355328 := by omega
  refine W_evK [3, 9, 11] (by simp [b1, b2, b3, b4]; rfl) ?_
  refine W_any 11 rfl ?_
  rw [← bbL_append]
  refine W_rK [3, 9, 11, 12, 13] ?_
  refine runA_pre 2 (by simp [putF]; rfl) rfl ?_
  refine runA_call (by simp) (by first | (simp; done) | (simp; rfl)) hrec (by simp [resB]; rfl) ?_
  refine runA_fin (by simp [resB]; rfl) ?_
  refine W_seq ?_
  refine W_rK [3, 9, 11, 59] ?_
  refine runA_pre 5 (by simp; rfl) rfl ?_
  refine runA_call (by simp) (by first | (simp; done) | (simp; rfl)) hsame (by simp; rfl) ?_
  refine runA_fin (by simp; rfl) ?_
  refine W_cond rfl (fun h => by simp at h) (fun h => ?_)
  refine W_skip ?_
  refine W_seq ?_
  cases hd : d.blk with
  | true =>
    refine W_evK [3, 9, 11, 61] (by simp [hd]; rfl) ?_
    refine W_cond rfl (fun h => ?_) (fun h => by simp [hd] at h)
    refine W_evK [6] (by simp; rfl) ?_
    refine W_ret ?_
    repeat (first | refine on_ret ?_ | refine in_ret ?_)
    simp [retQ]
  | false =>
    rw [htr3 hd] at htr2
    refine W_evK [3, 9, 11, 61] (by simp [hd]; rfl) ?_
    refine W_cond rfl (fun h => by simp [hd] at h) (fun h => ?_)
    refine W_skip ?_
    refine W_rK [9, 14, 15] ?_
    refine runA_pre 2 (by simp; rfl) rfl ?_
    refine runA_call (by simp) (by first | (simp [hd]; done) | (simp [hd]; rfl)) htr2 (by simp [resT]; rfl) ?_
    refine runA_fin (by simp [resT]; rfl) ?_
    refine W_rK [6] ?_
    refine runA_pre 5 (by simp; rfl) rfl ?_
    refine runA_call (by simp) (by first | (simp; done) | (simp; rfl)) hal (by simp; rfl) ?_
    refine runA_fin (by simp; rfl) ?_
    refine W_ret ?_
    repeat (first | refine on_ret ?_ | refine in_ret ?_)
    simp [retQ]
end Go.AM
