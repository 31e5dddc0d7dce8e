/- RecordFull's walk. -/
import Derived.Test.YtmedlgfdabokaaaC22M
namespace Go.AM
open Go.RowKit Go.Proofs
set_option linter.unusedSimpArgs false
set_option linter.unusedVariables false
set_option maxHeartbeats 1000000

def posG (gs : List (List (List UInt8))) (i : Nat) : Nat := (gs.take i).flatten.length
theorem full_sound (d : Dcb) (l : List (List UInt8)) : Sound Try.prog 7 [dcbA d, .lst .any 1 (bbL l)] (.v (.bool true)) := by
  refine sound_of_W Try.func7 rfl (by decide +kernel) (by simp [Try.f7]) rfl rfl (rs := [.tmp 4]) rfl ?_
  rw [show Try.f7.ntmps = 115 from rfl]
  refine W_evK [1, 2] (by simp; rfl) ?_
  refine W_seq ?_
  refine W_rK [1, 2, 13] ?_
  refine runA_pre 1 (by simp; rfl) rfl ?_
  refine runA_call (by simp) (by first | (simp; done) | (simp; rfl)) (big_sound l) (by simp; rfl) ?_
  rcases Bool.eq_false_or_eq_true (bigL l) with hb | hb
  · refine runA_fin (by simp [hb]; rfl) ?_
    refine W_cond rfl (fun h => ?_) (fun h => by simp at h)
    refine W_evK [4] (by simp; rfl) ?_
    refine W_ret ?_
    repeat (first | refine on_ret ?_ | refine in_ret ?_)
    simp [retQ]
  obtain ⟨hl1, hl2⟩ := bigL_no hb
  refine runA_fin (by simp [hb]; rfl) ?_
  refine W_cond rfl (fun h => by simp at h) (fun h => ?_)
  refine W_skip ?_
  have hbk := (block_sound d l (by omega) (fun r hr => by have := hl2 r hr; omega)).weakR
  have herr := blockM_err (d := d) (l := l)
  obtain ⟨p, hp⟩ : ∃ p, blockM d l = p := ⟨_, rfl⟩
  rw [hp] at hbk herr
  obtain ⟨bs, e⟩ := p
  simp only at herr
  simp only [resB, AV.plain, AV.plainL] at hbk
  refine W_rK [1, 2, 5, 6] ?_
  refine runA_pre 2 (by simp; rfl) rfl ?_
  refine runA_call (by simp) (by first | (simp; done) | (simp; rfl)) hbk (by simp; rfl) ?_
  refine runA_fin (by simp; rfl) ?_
  refine W_seq ?_
  by_cases c : e = 0
  rotate_left
  · have c' : (e != 0) = true := by simpa using c
    have hb0 := herr c
    subst hb0
    refine W_evK [1, 2, 5, 21] (by simp [c']; rfl) ?_
    refine W_cond rfl (fun h => ?_) (fun h => by simp at h)
    refine W_rK [4] ?_
    refine runA_pre 4 (by simp; rfl) rfl ?_
    refine runA_call (by simp) (by first | (simp; done) | (simp; rfl)) works_sound (by simp; rfl) ?_
    refine runA_fin (by simp; rfl) ?_
    refine W_ret ?_
    repeat (first | refine on_ret ?_ | refine in_ret ?_)
    simp [retQ]
  subst c
  obtain ⟨hc, hll, gs, hbs, hfl, hg, hfu⟩ := blockM_groups hp
  obtain ⟨c1, c2, c3, c4, c5, c6⟩ := check_facts hc
  have hgl : gs.length ≤ 60 := by
    have := groups_len gs fun x hx => (hg x hx).ne
    rw [hfl] at this
    omega
  have hbl : bs.length = gs.length := by rw [hbs, List.length_map]
  refine W_evK [1, 2, 5, 21] (by simp; rfl) ?_
  refine W_cond rfl (fun h => by simp at h) (fun h => ?_)
  refine W_skip ?_
  refine W_evK [1, 2, 5, 7] (by simp; rfl) ?_
  refine W_seq ?_
  refine W_evK [1, 2, 5, 7, 8] (by simp; rfl) ?_
  refine W_block ?_
  refine W_loop (fun k s => ∃ i : Nat, k = bs.length - i ∧ i ≤ bs.length ∧ s = ⟨115, [(1, .lst .any 1 (bbL l)), (2, .loc 0 0), (5, .lst .any 1 (bbL bs)), (7, .v (.int .i64 (posG gs i : Nat))), (8, .v (.int .i64 (i : Nat)))], [.cells 23 (dcbC d)]⟩)
    (k := bs.length) ⟨0, by simp, by omega, by simp [dcbC, posG]⟩ ?_
  rintro k s ⟨i, rfl, hi, rfl⟩
  refine W_seq ?_
  by_cases a : i < bs.length
  rotate_left
  · have hie : i = gs.length := by omega
    have hat : posG gs i = l.length := by unfold posG; rw [hie, List.take_length, hfl]
    rw [hat]
    refine W_evK [1, 2, 5, 7, 8, 31] (by simp [a]; rfl) ?_
    refine W_cond rfl (fun h => by simp at h) (fun h => ?_)
    refine W_exit ?_
    refine W_rK [4] ?_
    refine runA_pre 5 (by simp; rfl) rfl ?_
    refine runA_call (by simp) (by first | (simp; done) | (simp; rfl)) works_sound (by simp; rfl) ?_
    refine runA_fin (by simp; rfl) ?_
    refine W_ret ?_
    repeat (first | refine on_ret ?_ | refine in_ret ?_)
    simp [retQ]
  have ai : (i : Int) < bs.length := by omega
  have ag : i < gs.length := by omega
  obtain ⟨g, hgi⟩ : ∃ g, gs[i]? = some g := ⟨_, List.getElem?_eq_getElem ag⟩
  have hgm := hg g (List.mem_of_getElem? hgi)
  have hbi : bs[i]? = some (enc d g) := by rw [hbs, List.getElem?_map, hgi]; rfl
  have hb2 : bs[i]'a = enc d g := by rw [List.getElem?_eq_getElem a] at hbi; exact Option.some.inj hbi
  have hgin : g.length ≠ 0 := fun e => hgm.ne (List.eq_nil_of_length_eq_zero e)
  have htk : posG gs (i + 1) = posG gs i + g.length := by
    unfold posG
    rw [List.take_add_one, hgi]; simp
  have hle : posG gs (i + 1) ≤ l.length := by
    unfold posG
    rw [← hfl]
    have : gs.flatten = (gs.take (i + 1)).flatten ++ (gs.drop (i + 1)).flatten := by rw [← List.flatten_append, List.take_append_drop]
    rw [this, List.length_append]; omega
  have hub := unb_sound d [enc d g] (by simp) (by have := hgm.len; simp; omega)
  have hub2 : unbM d [enc d g] = (g, 0) := by
    have := unbM_enc hc (gs := [g]) (by simpa using hgm) (by simp; omega)
    simpa using this
  rw [hub2] at hub
  simp only [resB] at hub
  obtain ⟨j, hj⟩ : ∃ j, i + 1 = j := ⟨_, rfl⟩
  rw [hj] at htk hle
  have wi : IntKind.i64.wrap ((i : Int) + 1) = (j : Int) := by rw [w64 (by omega) (by omega)]; omega
  have hi1 : j ≤ bs.length := by omega
  have hi1i : (j : Int) ≤ bs.length := by omega
  have hij : i ≤ j := by omega
  have hsl : ((bbL bs).take j).drop i = bbL [enc d g] := by
    rw [← hj, ← bbL_take, ← bbL_drop, List.take_add_one, hbi, List.drop_append, List.drop_eq_nil_of_le (by simp; omega)]
    simp [Nat.min_eq_left hi]
  refine W_evK [1, 2, 5, 7, 8, 31] (by simp [a]; rfl) ?_
  refine W_cond rfl (fun h => ?_) (fun h => by simp at h)
  refine W_skip ?_
  refine W_seq ?_
  refine W_block ?_
  refine W_rdK [1, 2, 5, 7, 8, 9, 10] mx (by decide +kernel) ?_
  refine runD_pre 6 (by simp [dcbC, wi, hi1, hi1i, hij, hsl]; rfl) rfl ?_
  refine runD_call (by simp) (by first | (simp; done) | (simp; exact ⟨rfl, rfl⟩) | (simp; rfl)) hub (by simp; rfl) ?_
  refine runD_fin (by simp; rfl) ?_
  have hln : ¬ (d.size < ((enc d g).length : Int)) := by have := hgm.len; omega
  have hg0 : ((g.length : Int) == 0) = false := beq_eq_false_iff_ne.2 (by omega)
  refine W_seqC (fun s => s = ⟨115, [(1, .lst .any 1 (bbL l)), (2, .loc 0 0), (5, .lst .any 1 (bbL bs)), (7, .v (.int .i64 (posG gs i : Nat))), (8, .v (.int .i64 (i : Nat))), (9, .lst (.tip 35 83) 1 (bbL g))], [.cells 23 (dcbC d)]⟩) ?_ ?_
  · rcases Bool.eq_false_or_eq_true d.blk with hk | hk
    · refine W_rdK [1, 2, 5, 7, 8, 9, 70] mx (by decide +kernel) ?_
      refine runD_pre 6 (by simp [hg0, hgm.ne]; rfl) rfl ?_
      refine runD_pre 6 (by simp [a, ai, hb2]; rfl) rfl ?_
      refine runD_pre 6 (by simp [dcbC, hln]; rfl) rfl ?_
      refine runD_pre 6 (by simp [hk]; rfl) rfl ?_
      refine runD_fin (by simp; rfl) ?_
      refine W_cond rfl (fun h => by simp at h) (fun h => ?_)
      refine W_keepS [1, 2, 5, 7, 8, 9] (W_skip ?_)
      simp [onNormal, dcbC, hk]
    · have h1 := hgm.one hk
      refine W_rdK [1, 2, 5, 7, 8, 9, 70] mx (by decide +kernel) ?_
      refine runD_pre 6 (by simp [hg0, hgm.ne]; rfl) rfl ?_
      refine runD_pre 6 (by simp [a, ai, hb2]; rfl) rfl ?_
      refine runD_pre 6 (by simp [dcbC, hln]; rfl) rfl ?_
      refine runD_pre 6 (by simp [hk, h1]; rfl) rfl ?_
      refine runD_fin (by simp; rfl) ?_
      refine W_cond rfl (fun h => by simp at h) (fun h => ?_)
      refine W_keepS [1, 2, 5, 7, 8, 9] (W_skip ?_)
      simp [onNormal, dcbC, hk]
  rintro _ rfl
  have wp : IntKind.i64.wrap ((posG gs i : Nat) + (g.length : Int)) = (posG gs j : Nat) := by rw [w64 (by omega) (by omega), htk]; omega
  obtain ⟨A, hA⟩ : ∃ A, posG gs j = A := ⟨_, rfl⟩
  rw [hA] at wp hle
  refine W_evK [1, 2, 5, 7, 8] (by simp [wp]; rfl) ?_
  refine W_lastC (fun s => s = ⟨115, [(1, .lst .any 1 (bbL l)), (2, .loc 0 0), (5, .lst .any 1 (bbL bs)), (7, .v (.int .i64 (A : Nat))), (8, .v (.int .i64 (i : Nat)))], [.cells 23 (dcbC d)]⟩) ?_ ?_
  rotate_left
  · rintro _ rfl
    refine W_evE [1, 2, 5, 7, 8] (by simp [wi]; rfl) ?_
    exact ⟨bs.length - j, by omega, j, rfl, hi1, by rw [hA]⟩
  by_cases z : j < bs.length
  rotate_left
  · refine W_evK [1, 2, 5, 7, 8, 79] (by simp [wi, z]; rfl) ?_
    refine W_cond rfl (fun h => by simp at h) (fun h => ?_)
    refine W_keepS [1, 2, 5, 7, 8] (W_skip ?_)
    simp [onNormal]
  have zi : (j : Int) < bs.length := by omega
  obtain ⟨g2, hg2⟩ : ∃ g2, gs[j]? = some g2 := ⟨_, List.getElem?_eq_getElem (by omega)⟩
  obtain ⟨r, rest, hr, hfull⟩ := hfu i g g2 hgi (by rw [hj]; exact hg2)
  have hlA : l[A]? = some r := by
    have e1 : l = (gs.take j).flatten ++ (gs.drop j).flatten := by rw [← List.flatten_append, List.take_append_drop, hfl]
    have e2 : gs.drop j = g2 :: gs.drop (j + 1) := by
      rw [List.drop_eq_getElem_cons (by omega)]
      congr 1
      rw [List.getElem?_eq_getElem (by omega)] at hg2
      exact Option.some.inj hg2
    have e3 : (gs.take j).flatten.length = A := hA
    rw [e1, List.getElem?_append_right (by omega), e3, Nat.sub_self, e2, hr]
    simp
  have hAl : A < l.length := (List.getElem?_eq_some_iff.1 hlA).1
  have hAli : (A : Int) < l.length := by omega
  have hA2 : l[A]'hAl = r := by rw [List.getElem?_eq_getElem hAl] at hlA; exact Option.some.inj hlA
  have hAn : ¬ l.length ≤ A := by omega
  have hrl := hl2 r (List.mem_of_getElem? hlA)
  have hel := hgm.len
  refine W_evK [1, 2, 5, 7, 8, 79] (by simp [wi, z]; rfl) ?_
  refine W_cond rfl (fun h => ?_) (fun h => by simp at h)
  refine W_seq ?_
  refine W_evK [1, 2, 5, 7, 8, 83] (by simp [hAn]; rfl) ?_
  refine W_cond rfl (fun h => by simp at h) (fun h => ?_)
  refine W_skip ?_
  have ws : IntKind.i64.wrap (((enc d g).length : Int) + (r.length : Int)) = ((enc d g).length : Int) + (r.length : Int) := w64 (by omega) (by omega)
  refine W_rdK [1, 2, 5, 7, 8, 11] mx (by decide +kernel) ?_
  refine runD_pre 6 (by simp [a, ai, hb2]; rfl) rfl ?_
  refine runD_fin (by simp [hAl, hAli, hA2, ws]; rfl) ?_
  have hff : d.blk = true → ¬ (((enc d g).length + lenM d r : Nat) : Int) ≤ d.size := by
    intro hk hle2
    unfold fullM at hfull
    rw [hk, raw_len hgm.ne] at hfull
    simp at hfull
    omega
  refine W_seqC (fun s => s = ⟨115, [(1, .lst .any 1 (bbL l)), (2, .loc 0 0), (5, .lst .any 1 (bbL bs)), (7, .v (.int .i64 (A : Nat))), (8, .v (.int .i64 (i : Nat))), (11, .v (.int .i64 (((enc d g).length + lenM d r : Nat) : Int)))], [.cells 23 (dcbC d)]⟩) ?_ ?_
  · rcases Bool.eq_false_or_eq_true (d.fmt == 2) with h1 | h1
    · have hL : lenM d r = r.length + 4 := by unfold lenM; rw [if_pos h1]
      have w4 : IntKind.i64.wrap (((enc d g).length : Int) + (r.length : Int) + 4) = ((enc d g).length : Int) + (r.length : Int) + 4 := w64 (by omega) (by omega)
      refine W_evK [1, 2, 5, 7, 8, 11, 97] (by simp [dcbC, h1]; rfl) ?_
      refine W_cond rfl (fun h => ?_) (fun h => by simp at h)
      refine W_evE [1, 2, 5, 7, 8, 11] (by simp [w4]; rfl) ?_
      simp [onNormal, dcbC, hL]
      omega
    · have hL : lenM d r = r.length := by unfold lenM; rw [h1]; rfl
      refine W_evK [1, 2, 5, 7, 8, 11, 97] (by simp [dcbC, h1]; rfl) ?_
      refine W_cond rfl (fun h => by simp at h) (fun h => ?_)
      refine W_keepS [1, 2, 5, 7, 8, 11] (W_skip ?_)
      simp [onNormal, dcbC, hL]
  rintro _ rfl
  obtain ⟨S, hS⟩ : ∃ S, (enc d g).length + lenM d r = S := ⟨_, rfl⟩
  rw [hS] at hff ⊢
  rcases Bool.eq_false_or_eq_true d.blk with hk | hk
  · have hff2 := hff hk
    refine W_evK [1, 2, 5, 7, 8, 107] (by simp [dcbC, hk, hff2]; rfl) ?_
    refine W_cond rfl (fun h => by simp at h) (fun h => ?_)
    refine W_keepS [1, 2, 5, 7, 8] (W_skip ?_)
    simp [onNormal, dcbC, hk]
  · refine W_evK [1, 2, 5, 7, 8, 107] (by simp [dcbC, hk]; rfl) ?_
    refine W_cond rfl (fun h => by simp at h) (fun h => ?_)
    refine W_keepS [1, 2, 5, 7, 8] (W_skip ?_)
    simp [onNormal, dcbC, hk]
end Go.AM
