/- The specification's Unblock and Block. -/
import Derived.Test.YtmedlgfdabokaaaC22S
import Derived.Test.YtmedlgfdabokaaaAmC
namespace Go.AM
open Go.RowKit Go.Proofs
set_option linter.unusedSimpArgs false
set_option linter.unusedVariables false
set_option maxHeartbeats 1000000

theorem oneM_len {d : Dcb} (hc : checkM d = 0) (b : List UInt8) : (oneM d b).1.length ≤ 1024 := by
  have := splitM_len hc b []
  unfold oneM
  split
  · simpa using this
  · simp
theorem retB {O : List (List UInt8)} {e : Int} {x : AV} {T n : Nat} {cs : List AV} (h : outR T x O) : retU Try.prog [.tmp 4, .tmp 5] (resB (O, e)) .ret ⟨n, [(4, x), (5, .v (.int .i64 e))], [.cells 23 cs]⟩ := by
  rcases h with ⟨rfl, rfl⟩ | rfl
  · exact ⟨.tup [.lst .nil 1 [], .v (.int .i64 e)], by simp [retQ], .tup2 (.nil (by decide +kernel)) (.refl _)⟩
  · exact ⟨_, by simp [retQ]; exact ⟨rfl, by simp⟩, .norm fun T => by simp [resB]⟩
theorem runb_sound (d : Dcb) (l : List (List UInt8)) (hl : l.length ≤ 100000) (hr : ∀ r ∈ l, r.length ≤ 1000000000) : Sound Try.prog 18 [dcbA d, .lst .any 1 (bbL l)] (resB (unbM d l)) := by
  rw [← runb_eq]
  refine sound_of_U Try.func18 rfl (by decide +kernel) (by simp [Try.f18]) rfl rfl (rs := [.tmp 4, .tmp 5]) rfl ?_
  rw [show Try.f18.ntmps = 37 from rfl]
  have hv := valid_sound d
  refine W_evK [1, 2] (by simp; rfl) ?_
  refine W_seq ?_
  cases hval : validM d with
  | false =>
    rw [hval] at hv
    refine W_rK [1, 2, 12] ?_
    refine runA_pre 1 (by simp; rfl) rfl ?_
    refine runA_call (by simp) (by first | (simp; done) | (simp; rfl)) hv (by simp; rfl) ?_
    refine runA_fin (by simp; rfl) ?_
    refine W_cond rfl (fun h => ?_) (fun h => by simp at h)
    refine W_evK [4, 5] (by simp; rfl) ?_
    refine W_ret ?_
    repeat (first | refine on_ret ?_ | refine in_ret ?_)
    have e : runbM d l = ([], 5) := by unfold runbM; rw [if_pos hval]
    rw [e]
    exact retB (T := 1) (.inl ⟨rfl, rfl⟩)
  | true =>
  rw [hval] at hv
  have hc : checkM d = 0 := by rw [valid_eq] at hval; simpa using hval
  have hbm : runbM d l = finU (runbGo d l []) := by unfold runbM; rw [hval]; rfl
  refine W_rK [1, 2, 12] ?_
  refine runA_pre 1 (by simp; rfl) rfl ?_
  refine runA_call (by simp) (by first | (simp; done) | (simp; rfl)) hv (by simp; rfl) ?_
  refine runA_fin (by simp; rfl) ?_
  refine W_cond rfl (fun h => by simp at h) (fun h => ?_)
  refine W_skip ?_
  refine W_evK [1, 2, 6] (by simp; rfl) ?_
  refine W_seq ?_
  refine W_evK [1, 2, 6, 7] (by simp; rfl) ?_
  refine W_block ?_
  refine W_loop (fun k s => ∃ (i : Nat) (O : List (List UInt8)) (x : AV), k = l.length - i ∧ i ≤ l.length ∧ runbGo d l [] = runbGo d (l.drop i) O ∧ O.length ≤ 1024 * i ∧ outR 65 x O ∧
      s = ⟨37, [(1, .lst .any 1 (bbL l)), (2, .loc 0 0), (6, x), (7, .v (.int .i64 i))], [.cells 23 (dcbC d)]⟩) (k := l.length) ⟨0, [], _, rfl, by omega, rfl, by simp, .inl ⟨rfl, rfl⟩, by simp [dcbC]⟩ ?_
  rintro k s ⟨i, O, x, rfl, hi, hgo, hOl, hx, rfl⟩
  refine W_seq ?_
  by_cases c : i < l.length
  rotate_left
  · refine W_evK [1, 2, 6, 7, 16] (by simp [c]; rfl) ?_
    refine W_cond rfl (fun h => by simp at h) (fun h => ?_)
    refine W_exit ?_
    refine W_seq ?_
    have hie : i = l.length := by omega
    subst hie
    rw [List.drop_length, runbGo] at hgo
    rw [hgo] at hbm
    rw [hbm]
    by_cases z : 4096 < O.length
    · have zi : (4096 : Int) < O.length := by omega
      rw [finU, if_pos z]
      rcases hx with ⟨h0, rfl⟩ | rfl
      · rw [h0] at z; simp at z
      · refine W_evK [6, 35] (by simp [zi, z]; rfl) ?_
        refine W_cond rfl (fun h => ?_) (fun h => by simp at h)
        refine W_evK [4, 5] (by simp; rfl) ?_
        refine W_ret ?_
        repeat (first | refine on_ret ?_ | refine in_ret ?_)
        exact retB (T := 1) (.inl ⟨rfl, rfl⟩)
    · have zi : ¬ (4096 : Int) < O.length := by omega
      rw [finU, if_neg z]
      rcases hx with ⟨h0, rfl⟩ | rfl
      · subst h0
        refine W_evK [6, 35] (by simp; rfl) ?_
        refine W_cond rfl (fun h => by simp at h) (fun h => ?_)
        refine W_skip ?_
        refine W_evK [4, 5] (by simp; rfl) ?_
        refine W_ret ?_
        repeat (first | refine on_ret ?_ | refine in_ret ?_)
        exact retB (T := 1) (.inl ⟨rfl, rfl⟩)
      · refine W_evK [6, 35] (by simp [zi, z]; rfl) ?_
        refine W_cond rfl (fun h => by simp at h) (fun h => ?_)
        refine W_skip ?_
        refine W_evK [4, 5] (by simp; rfl) ?_
        refine W_ret ?_
        repeat (first | refine on_ret ?_ | refine in_ret ?_)
        exact retB (T := 65) (.inr rfl)
  have ci : (i : Int) < l.length := by omega
  obtain ⟨b, hbi⟩ : ∃ b, l[i]? = some b := ⟨_, List.getElem?_eq_getElem c⟩
  have hb2 : l[i]'c = b := by rw [List.getElem?_eq_getElem c] at hbi; exact Option.some.inj hbi
  have hbl := hr b (List.mem_of_getElem? hbi)
  rw [List.drop_eq_getElem_cons c, hb2, runbGo] at hgo
  have wi := w64 (n := (i : Int) + 1) (by omega) (by omega)
  have ho := one_sound d b hc hbl
  have hol := oneM_len hc b
  obtain ⟨p, hp⟩ : ∃ p, oneM d b = p := ⟨_, rfl⟩
  rw [hp] at ho hol hgo
  obtain ⟨S, ok⟩ := p
  simp only at hgo hol
  refine W_evK [1, 2, 6, 7, 16] (by simp [c]; rfl) ?_
  refine W_cond rfl (fun h => ?_) (fun h => by simp at h)
  refine W_skip ?_
  refine W_seq ?_
  refine W_block ?_
  refine W_rdK [1, 2, 6, 7, 8, 9] mx (by decide +kernel) ?_
  refine runD_pre 5 (by simp [c, ci, hb2, dcbC]; rfl) rfl ?_
  refine runD_call (by simp) (by first | (simp; done) | (simp; rfl)) ho (by simp [resO]; rfl) ?_
  refine runD_fin (by simp [resO]; rfl) ?_
  refine W_seq ?_
  cases ok with
  | false =>
    rw [if_pos rfl] at hgo
    refine W_evK [1, 2, 6, 7, 8, 29] (by simp; rfl) ?_
    refine W_cond rfl (fun h => ?_) (fun h => by simp at h)
    refine W_evK [4, 5] (by simp; rfl) ?_
    refine W_ret ?_
    repeat (first | refine on_ret ?_ | refine in_ret ?_)
    rw [hbm, hgo]
    exact retB (T := 1) (.inl ⟨rfl, rfl⟩)
  | true =>
    rw [if_neg (by simp)] at hgo
    refine W_evK [1, 2, 6, 7, 8, 29] (by simp; rfl) ?_
    refine W_cond rfl (fun h => by simp at h) (fun h => ?_)
    refine W_skip ?_
    have b1 : (O.length + S.length) * 24 ≤ 140737488355328 := by omega
    have b2 : S.length * 24 ≤ 140737488355328 := by omega
    have hO2 : (O ++ S).length ≤ 1024 * (i + 1) := by rw [List.length_append]; omega
    rcases hx with ⟨h0, rfl⟩ | rfl
    · subst h0
      refine W_evE [1, 2, 6, 7] (by simp [b2]; rfl) ?_
      refine W_evE [1, 2, 6, 7] (by simp [wi]; rfl) ?_
      exact ⟨_, by omega, i + 1, S, _, rfl, by omega, hgo, by simpa using hO2, .inr rfl, by simp [dcbC]⟩
    · refine W_evE [1, 2, 6, 7] (by simp [b1]; rfl) ?_
      refine W_evE [1, 2, 6, 7] (by simp [wi]; rfl) ?_
      exact ⟨_, by omega, i + 1, O ++ S, _, rfl, by omega, hgo, hO2, .inr rfl, by simp [dcbC, bbL_append]⟩

theorem W_any {top : Bool} {kf : Nat} {P : Program} {code : Code} {Q : Exit → St → Prop} {s : St} (i : Nat) {o : Fl} {sz : Nat} {xs : List AV} (hg : getF s.fr i = some (.lst o sz xs)) (h : Wt top kf P code Q ⟨s.n, putF s.fr i (.lst .any sz xs), s.h⟩) : Wt top kf P code Q s := by
  refine W_conv (fun c w a hs => ?_) h
  obtain ⟨u, hu, hr, _⟩ := hs.fr i _ hg
  exact putF_sim hs i hu (hr.lst_flag fun _ => trivial) (.none rfl)
theorem enc_len {d : Dcb} {g : List (List UInt8)} (hr : ∀ r ∈ g, r.length ≤ 1024) : (enc d g).length ≤ 1028 * g.length + 4 := by
  have hb : (body d g).length ≤ 1028 * g.length := by
    induction g with
    | nil => simp [body]
    | cons r g ih =>
      have h1 := ih fun x hx => hr x (List.mem_cons_of_mem _ hx)
      have h2 := hr r List.mem_cons_self
      have h3 := item_len d r
      have h4 : lenM d r ≤ r.length + 4 := by unfold lenM; split <;> omega
      rw [body_cons, List.length_append, List.length_cons]
      omega
  unfold enc
  split
  · simp; omega
  · omega
theorem bbL_snoc (g : List (List UInt8)) (r : List UInt8) : bbL g ++ [AV.lst Fl.any 1 (byL r)] = bbL (g ++ [r]) := by simp [bbL_append, bbL_cons]
theorem outR_kill {T U : Nat} (hTU : T ≠ U) {x : AV} {O : List (List UInt8)} (h : outR T x O) : x.kill U = x := by
  rcases h with ⟨_, rfl⟩ | rfl
  · rfl
  · simp [AV.kill, hTU]
def rcond (d : Dcb) (g : List (List UInt8)) (r : List UInt8) : Bool := decide (g ≠ [] ∧ (d.blk = false ∨ d.size < ((enc d (g ++ [r])).length : Nat)))
theorem rblock_sound (d : Dcb) (l : List (List UInt8)) (hl : l.length ≤ 1000000) (hr : ∀ r ∈ l, r.length ≤ 1000000000) : Sound Try.prog 13 [dcbA d, .lst .any 1 (bbL l)] (resB (blockM d l)) := by
  rw [← rblock_eq]
  refine sound_of_U Try.func13 rfl (by decide +kernel) (by simp [Try.f13]) rfl rfl (rs := [.tmp 4, .tmp 5]) rfl ?_
  rw [show Try.f13.ntmps = 78 from rfl]
  have hv := valid_sound d
  refine W_evK [1, 2] (by simp; rfl) ?_
  refine W_seq ?_
  cases hval : validM d with
  | false =>
    rw [hval] at hv
    refine W_rK [1, 2, 12] ?_
    refine runA_pre 1 (by simp; rfl) rfl ?_
    refine runA_call (by simp) (by first | (simp; done) | (simp; rfl)) hv (by simp; rfl) ?_
    refine runA_fin (by simp; rfl) ?_
    refine W_cond rfl (fun h => ?_) (fun h => by simp at h)
    refine W_evK [4, 5] (by simp; rfl) ?_
    refine W_ret ?_
    repeat (first | refine on_ret ?_ | refine in_ret ?_)
    have e : rblockM d l = ([], 5) := by unfold rblockM; rw [if_pos hval]
    rw [e]
    exact retB (T := 1) (.inl ⟨rfl, rfl⟩)
  | true =>
  rw [hval] at hv
  have hc : checkM d = 0 := by rw [valid_eq] at hval; simpa using hval
  refine W_rK [1, 2, 12] ?_
  refine runA_pre 1 (by simp; rfl) rfl ?_
  refine runA_call (by simp) (by first | (simp; done) | (simp; rfl)) hv (by simp; rfl) ?_
  refine runA_fin (by simp; rfl) ?_
  refine W_cond rfl (fun h => by simp at h) (fun h => ?_)
  refine W_skip ?_
  refine W_seq ?_
  by_cases z : 4096 < l.length
  · have zi : (4096 : Int) < l.length := by omega
    refine W_evK [1, 2, 15] (by simp [z, zi]; rfl) ?_
    refine W_cond rfl (fun h => ?_) (fun h => by simp at h)
    refine W_evK [4, 5] (by simp; rfl) ?_
    refine W_ret ?_
    repeat (first | refine on_ret ?_ | refine in_ret ?_)
    have e : rblockM d l = ([], 2) := by unfold rblockM; rw [if_neg (by simp [hval]), if_pos z]
    rw [e]
    exact retB (T := 1) (.inl ⟨rfl, rfl⟩)
  have zi : ¬ (4096 : Int) < l.length := by omega
  have hbm : rblockM d l = rfinB d (rgoB d l [] []) := by unfold rblockM; rw [if_neg (by simp [hval]), if_neg z]
  rw [hbm]
  refine W_evK [1, 2, 15] (by simp [z, zi]; rfl) ?_
  refine W_cond rfl (fun h => by simp at h) (fun h => ?_)
  refine W_skip ?_
  refine W_evK [1, 2, 6] (by simp; rfl) ?_
  refine W_evK [1, 2, 6, 7] (by simp; rfl) ?_
  refine W_any 7 rfl ?_
  refine W_seq ?_
  refine W_evK [1, 2, 6, 7, 8] (by simp [putF]; rfl) ?_
  refine W_block ?_
  refine W_loop (fun k s => ∃ (i : Nat) (O g : List (List UInt8)) (x : AV), k = l.length - i ∧ i ≤ l.length ∧ rgoB d l [] [] = rgoB d (l.drop i) O g ∧ O.length ≤ i ∧ g.length ≤ i ∧ (∀ r ∈ g, fitsM d r.length = true) ∧ outR 123 x O ∧
      s = ⟨78, [(1, .lst .any 1 (bbL l)), (2, .loc 0 0), (6, x), (7, .lst .any 1 (bbL g)), (8, .v (.int .i64 i))], [.cells 23 (dcbC d)]⟩) (k := l.length) ⟨0, [], [], _, rfl, by omega, rfl, by simp, by simp, by simp, .inl ⟨rfl, rfl⟩, by simp [dcbC]⟩ ?_
  rintro k s ⟨i, O, g, x, rfl, hi, hgo, hOl, hgl, hgf, hx, rfl⟩
  have hxk := outR_kill (U := 63) (by decide) hx
  have hbytes : ∀ g' : List (List UInt8), g'.length ≤ 1000000 → (∀ r ∈ g', fitsM d r.length = true) → Sound Try.prog 30 [dcbA d, .lst .any 1 (bbL g')] (.lst (.tip 5 1) 1 (byL (enc d g'))) := by
    intro g' h1 h2
    refine bytes_sound d g' h1 fun r hr => ?_
    have := fits_facts hc (h2 r hr)
    exact ⟨by intro e; rw [e] at this; simp at this, by omega⟩
  refine W_seq ?_
  by_cases c : i < l.length
  rotate_left
  · refine W_evK [1, 2, 6, 7, 8, 19] (by simp [c]; rfl) ?_
    refine W_cond rfl (fun h => by simp at h) (fun h => ?_)
    refine W_exit ?_
    refine W_seq ?_
    have hie : i = l.length := by omega
    subst hie
    rw [List.drop_length, rgoB] at hgo
    rw [hgo, rfinB]
    simp only
    by_cases q : g = []
    · subst q
      rw [if_pos rfl]
      refine W_evK [2, 6, 7, 70] (by simp; rfl) ?_
      refine W_cond rfl (fun h => by simp at h) (fun h => ?_)
      refine W_skip ?_
      refine W_evK [4, 5] (by simp; rfl) ?_
      refine W_ret ?_
      repeat (first | refine on_ret ?_ | refine in_ret ?_)
      exact retB hx
    · rw [if_neg q]
      have qp : 0 < g.length := List.length_pos_iff.2 q
      have qi : (0 : Int) < g.length := by omega
      refine W_evK [2, 6, 7, 70] (by simp [qp, qi, q]; rfl) ?_
      refine W_cond rfl (fun h => ?_) (fun h => by simp at h)
      refine W_rE [6] ?_
      refine runA_pre 3 (by simp [dcbC]; rfl) rfl ?_
      refine runA_call (by simp) (by first | (simp; done) | (simp; rfl)) (hbytes g (by omega) hgf) (by simp; rfl) ?_
      have b1 : (O.length + 1) * 24 ≤ 140737488355328 := by omega
      rcases hx with ⟨h0, rfl⟩ | rfl
      · subst h0
        refine runA_fin (by simp [catK, AV.cellsK, AV.kone, AV.koneL]; rfl) ?_
        refine W_evK [4, 5] (by simp; rfl) ?_
        refine W_ret ?_
        repeat (first | refine on_ret ?_ | refine in_ret ?_)
        exact retB (.inr (by simp [bbL_cons]; rfl))
      · refine runA_fin (by simp [catK, AV.cellsK, AV.kone, AV.koneL, b1]; rfl) ?_
        refine W_evK [4, 5] (by simp; rfl) ?_
        refine W_ret ?_
        repeat (first | refine on_ret ?_ | refine in_ret ?_)
        exact retB (.inr (by simp [bbL_append, bbL_cons]; rfl))
  have ci : (i : Int) < l.length := by omega
  obtain ⟨r, hri⟩ : ∃ r, l[i]? = some r := ⟨_, List.getElem?_eq_getElem c⟩
  have hr2 : l[i]'c = r := by rw [List.getElem?_eq_getElem c] at hri; exact Option.some.inj hri
  have hrl := hr r (List.mem_of_getElem? hri)
  rw [List.drop_eq_getElem_cons c, hr2, rgoB, rfits_eq hc] at hgo
  have wi := w64 (n := (i : Int) + 1) (by omega) (by omega)
  have hfs := rfits_sound d r
  rw [rfits_eq hc] at hfs
  refine W_evK [1, 2, 6, 7, 8, 19] (by simp [c]; rfl) ?_
  refine W_cond rfl (fun h => ?_) (fun h => by simp at h)
  refine W_skip ?_
  refine W_seq ?_
  refine W_block ?_
  refine W_seq ?_
  cases hf : fitsM d r.length with
  | false =>
    rw [hf] at hfs
    rw [hf, if_pos rfl] at hgo
    refine W_rdK [1, 2, 6, 7, 8, 28] mx (by decide +kernel) ?_
    refine runD_pre 5 (by simp [c, ci, hr2, dcbC]; rfl) rfl ?_
    refine runD_call (by simp) (by first | (simp; done) | (simp; rfl)) hfs (by simp; rfl) ?_
    refine runD_fin (by simp; rfl) ?_
    refine W_cond rfl (fun h => ?_) (fun h => by simp at h)
    refine W_evK [4, 5] (by simp; rfl) ?_
    refine W_ret ?_
    repeat (first | refine on_ret ?_ | refine in_ret ?_)
    rw [hgo]
    exact retB (T := 1) (.inl ⟨rfl, rfl⟩)
  | true =>
  rw [hf] at hfs
  rw [hf, if_neg (by simp)] at hgo
  have hff := fits_facts hc hf
  have hgf2 : ∀ x ∈ g ++ [r], fitsM d x.length = true := by
    intro x hx
    rcases List.mem_append.1 hx with h | h
    · exact hgf x h
    · rw [List.mem_singleton.1 h]; exact hf
  have hb2 := hbytes (g ++ [r]) (by simp; omega) hgf2
  refine W_rdK [1, 2, 6, 7, 8, 28] mx (by decide +kernel) ?_
  refine runD_pre 5 (by simp [c, ci, hr2, dcbC]; rfl) rfl ?_
  refine runD_call (by simp) (by first | (simp; done) | (simp; rfl)) hfs (by simp; rfl) ?_
  refine runD_fin (by simp; rfl) ?_
  refine W_cond rfl (fun h => by simp at h) (fun h => ?_)
  refine W_skip ?_
  have b0 : g.length * 24 ≤ 140737488355328 := by omega
  have b1 : (g.length + 1) * 24 ≤ 140737488355328 := by omega
  have b2 : 24 * (g.length + 1) ≤ 140737488355328 := by omega
  refine W_evK [1, 2, 6, 7, 8, 9] (by simp; rfl) ?_
  refine W_evK [1, 2, 6, 7, 8, 9] (by simp [b0]; rfl) ?_
  refine W_evK [1, 2, 6, 7, 8, 9] (by simp [c, ci, hr2, catK, AV.cellsK, AV.kone, AV.koneL, b1, b2, bbL_snoc, hxk]; rfl) ?_
  refine W_any 9 rfl ?_
  refine W_seq ?_
  refine W_seqC (fun s => s = ⟨78, [(1, .lst .any 1 (bbL l)), (2, .loc 0 0), (6, x), (7, .lst .any 1 (bbL g)), (8, .v (.int .i64 i)), (9, .lst .any 1 (bbL (g ++ [r]))), (55, .v (.bool (rcond d g r)))], [.cells 23 (dcbC d)]⟩) ?_ ?_
  · by_cases q : g = []
    · subst q
      have hB : rcond d [] r = false := by simp [rcond]
      rw [hB]
      refine W_rdE [1, 2, 6, 7, 8, 9, 55] mx (by decide +kernel) ?_
      refine runD_pre 6 (by simp [putF]; rfl) rfl ?_
      refine runD_pre 6 (by simp; rfl) rfl ?_
      refine runD_fin (by simp; rfl) ?_
      simp [onNormal, dcbC]
    have qp : 0 < g.length := List.length_pos_iff.2 q
    have qi : (0 : Int) < g.length := by omega
    rcases Bool.eq_false_or_eq_true d.blk with hk | hk
    · have hb3 := hb2
      simp only [dcbA, hk] at hb3
      refine W_rdE [1, 2, 6, 7, 8, 9, 55] mx (by decide +kernel) ?_
      refine runD_pre 6 (by simp [putF, qp, qi, q, dcbC, hk]; rfl) rfl ?_
      refine runD_pre 4 (by simp [putF, hk]; rfl) rfl ?_
      refine runD_call (by simp) (by first | (simp; done) | (simp; rfl)) hb3 (by simp; rfl) ?_
      refine runD_fin (by simp; rfl) ?_
      have hB : rcond d g r = decide (d.size < ((enc d (g ++ [r])).length : Nat)) := by simp [rcond, q, hk]
      rw [hB]
      simp [onNormal, dcbC, hk]
    · have hB : rcond d g r = true := by simp [rcond, q, hk]
      rw [hB]
      refine W_rdE [1, 2, 6, 7, 8, 9, 55] mx (by decide +kernel) ?_
      refine runD_pre 6 (by simp [putF, qp, qi, q, dcbC, hk]; rfl) rfl ?_
      refine runD_pre 6 (by simp [putF, hk]; rfl) rfl ?_
      refine runD_fin (by simp; rfl) ?_
      simp [onNormal, dcbC, hk]
  rintro _ rfl
  by_cases hq : g ≠ [] ∧ (d.blk = false ∨ d.size < ((enc d (g ++ [r])).length : Nat))
  · have hB : rcond d g r = true := by unfold rcond; exact decide_eq_true hq
    rw [hB]
    rw [if_pos hq] at hgo
    refine W_cond rfl (fun h => ?_) (fun h => by simp at h)
    refine W_rK [1, 2, 6, 8] ?_
    refine runA_pre 3 (by simp [dcbC]; rfl) rfl ?_
    refine runA_call (by simp) (by first | (simp; done) | (simp; rfl)) (hbytes g (by omega) hgf) (by simp; rfl) ?_
    have d1 : (O.length + 1) * 24 ≤ 140737488355328 := by omega
    have d2 : 24 * (O.length + 1) ≤ 140737488355328 := by omega
    rcases hx with ⟨h0, rfl⟩ | rfl
    · subst h0
      refine runA_fin (by simp [catK, AV.cellsK, AV.kone, AV.koneL]; rfl) ?_
      refine W_evE [1, 2, 6, 8, 9] (by simp [c, ci, hr2, catK, AV.cellsK, AV.kone, AV.koneL]; rfl) ?_
      refine W_evE [1, 2, 6, 8, 7] (by simp; rfl) ?_
      refine W_at (n := 78) (l := [(1, .lst .any 1 (bbL l)), (2, .loc 0 0), (6, .lst (.tip 35 123) 1 (bbL [enc d g])), (7, .lst (.tip 35 266) 1 (bbL [r])), (8, .v (.int .i64 i))]) (H := [.cells 23 (dcbC d)]) (by simp [AtS, FrOk, getF, dcbC, bbL_cons]) ?_
      refine W_any 7 rfl ?_
      refine W_evE [1, 2, 6, 7, 8] (by simp [putF, wi]; rfl) ?_
      exact ⟨_, by omega, i + 1, [enc d g], [r], _, rfl, by omega, hgo, by simp, by simp, fun x hx => by rw [List.mem_singleton.1 hx]; exact hf, .inr rfl, by simp [dcbC, bbL_cons]⟩
    · refine runA_fin (by simp [catK, AV.cellsK, AV.kone, AV.koneL, d1, d2]; rfl) ?_
      refine W_evE [1, 2, 6, 8, 9] (by simp [c, ci, hr2, catK, AV.cellsK, AV.kone, AV.koneL]; rfl) ?_
      refine W_evE [1, 2, 6, 8, 7] (by simp; rfl) ?_
      refine W_at (n := 78) (l := [(1, .lst .any 1 (bbL l)), (2, .loc 0 0), (6, .lst (.tip 35 123) 1 (bbL (O ++ [enc d g]))), (7, .lst (.tip 35 266) 1 (bbL [r])), (8, .v (.int .i64 i))]) (H := [.cells 23 (dcbC d)]) (by simp [AtS, FrOk, getF, dcbC, bbL_append, bbL_cons]) ?_
      refine W_any 7 rfl ?_
      refine W_evE [1, 2, 6, 7, 8] (by simp [putF, wi]; rfl) ?_
      exact ⟨_, by omega, i + 1, O ++ [enc d g], [r], _, rfl, by omega, hgo, by simp; omega, by simp, fun x hx => by rw [List.mem_singleton.1 hx]; exact hf, .inr rfl, by simp [dcbC, bbL_cons]⟩
  · have hB : rcond d g r = false := by unfold rcond; exact decide_eq_false hq
    rw [hB]
    rw [if_neg hq] at hgo
    refine W_cond rfl (fun h => by simp at h) (fun h => ?_)
    refine W_skip ?_
    refine W_evE [1, 2, 6, 7, 8] (by simp; rfl) ?_
    refine W_evE [1, 2, 6, 7, 8] (by simp [wi]; rfl) ?_
    exact ⟨_, by omega, i + 1, O, g ++ [r], x, rfl, by omega, hgo, by omega, by simp; omega, hgf2, hx, by simp⟩
end Go.AM
