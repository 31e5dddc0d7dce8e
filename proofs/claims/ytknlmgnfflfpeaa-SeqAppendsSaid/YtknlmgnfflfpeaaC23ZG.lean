/- Spoil: the walk. (Printed by mkZG.py.) -/
import Derived.Test.YtknlmgnfflfpeaaC23ZF
namespace Go.AM
open Go.RowKit Go.Proofs
set_option linter.unusedSimpArgs false
set_option linter.unusedVariables false
set_option maxHeartbeats 4000000

theorem Out.push {th : Bool} {i0 : Nat} {one l : List Rec} {T : List (List Rec)} {i id' cap' : Nat} {cs cs' : List AV} {H h' : List AObj} {y : AV}
    (hTl : T.length = i) (hb1 : th = true ∧ i0 < i → ∃ q cq rs, H[q]? = some (AObj.cells 49 (trT one ++ rs)) ∧ one.length ≤ cq ∧ rs.length = (cq - one.length) * 4 ∧ cs.take i = (arL T).set i0 (.arr q 0 one.length cq))
    (hb2 : ¬ (th = true ∧ i0 < i) → cs.take i = arL T)
    (hid' : h'[id']? = some (.cells 46 cs')) (hcl' : cs'.length = cap') (hj' : i + 1 ≤ cap') (htk : cs'.take (i + 1) = cs.take i ++ [y]) (hk : ∀ (q : Nat) (c : List AV), H[q]? = some (AObj.cells 49 c) → h'[q]? = some (AObj.cells 49 c))
    (hy : (y = .lst .any 4 (trL l) ∧ ¬ (th = true ∧ i0 = i)) ∨ (th = true ∧ i0 = i ∧ ∃ q cq rs, y = .arr q 0 one.length cq ∧ h'[q]? = some (AObj.cells 49 (trT one ++ rs)) ∧ one.length ≤ cq ∧ rs.length = (cq - one.length) * 4)) :
    Out th i0 one (T ++ [l]) (.arr id' 0 (i + 1) cap') h' := by
  subst hTl
  have hL : (T ++ [l]).length = T.length + 1 := by simp
  refine ⟨id', cap', cs', by rw [hL], hid', hcl', by rw [hL]; exact hj', fun hc => ?_, fun hc => ?_⟩
  · rw [hL] at hc ⊢
    by_cases hlt : i0 < T.length
    · obtain ⟨q, cq, rs, k1, k2, k3, k4⟩ := hb1 ⟨hc.1, hlt⟩
      rcases hy with ⟨rfl, _⟩ | ⟨_, he, _⟩
      · refine ⟨q, cq, rs, hk _ _ k1, k2, k3, ?_⟩
        rw [htk, k4, arL_append, List.set_append_left _ _ (by simpa using hlt)]
        rfl
      · omega
    · have he : i0 = T.length := by omega
      have h2 := hb2 fun h => hlt h.2
      rcases hy with ⟨_, hn⟩ | ⟨_, _, q, cq, rs, rfl, k1, k2, k3⟩
      · exact absurd ⟨hc.1, he⟩ hn
      · refine ⟨q, cq, rs, k1, k2, k3, ?_⟩
        rw [htk, h2, arL_append, he, List.set_append_right _ _ (by simp)]
        simp [arL]
  · rw [hL] at hc ⊢
    have h2 := hb2 fun h => hc ⟨h.1, by omega⟩
    rcases hy with ⟨rfl, _⟩ | ⟨h1, he, _⟩
    · rw [htk, h2, arL_append]; rfl
    · exact absurd ⟨h1, by omega⟩ hc
theorem setSeg_one (cs : List AV) (i : Nat) (y : AV) (h : i < cs.length) : setSeg cs i [y] = cs.set i y := by
  unfold setSeg
  rw [List.set_eq_take_append_cons_drop, if_pos h]
  simp
theorem arL_set (t : List (List Rec)) (i : Nat) (l : List Rec) : (arL t).set i (.lst .any 4 (trL l)) = arL (t.set i l) := by
  simp [arL, List.map_set]
mutual
theorem dpKill (T : Nat) : (x : AV) → (x.kill T).dp = x.dp
  | .lst (.tip e U) s xs => by
    simp only [AV.kill]
    split <;> rfl
  | .lst .any _ _ | .lst .nil _ _ | .lst .ex _ _ => rfl
  | .agg xs => by simp only [AV.kill, AV.dp, dpLKill T xs]
  | .tup xs => by simp only [AV.kill, AV.dp, dpLKill T xs]
  | .any | .v _ | .ro _ | .loc _ _ | .arr _ _ _ _ | .fn _ _ _ | .mp _ | .yld _ => rfl
theorem dpLKill (T : Nat) : (xs : List AV) → AV.dpL (AV.killL T xs) = AV.dpL xs
  | [] => rfl
  | x :: xs => by simp only [AV.killL, AV.dpL, dpKill T x, dpLKill T xs]
end
theorem dpL_app (xs ys : List AV) : AV.dpL (xs ++ ys) = AV.dpL xs ++ AV.dpL ys := by
  apply List.ext_getElem?
  intro j
  rw [dpL_get, List.getElem?_append, List.getElem?_append, dpL_length]
  split <;> rw [dpL_get]
theorem dpL_tk (xs : List AV) (n : Nat) : AV.dpL (xs.take n) = (AV.dpL xs).take n := by
  apply List.ext_getElem?
  intro j
  rw [dpL_get, List.getElem?_take, List.getElem?_take]
  split
  · rw [dpL_get]
  · rfl
theorem dpL_dr (xs : List AV) (n : Nat) : AV.dpL (xs.drop n) = (AV.dpL xs).drop n := by
  apply List.ext_getElem?
  intro j
  rw [dpL_get, List.getElem?_drop, List.getElem?_drop, dpL_get]
theorem dpL_setSeg (cs : List AV) (off : Nat) (ys : List AV) : AV.dpL (setSeg cs off ys) = setSeg (AV.dpL cs) off (AV.dpL ys) := by
  unfold setSeg
  rw [dpL_app, dpL_app, dpL_tk, dpL_dr, dpL_length]
theorem dpL_trT (t : List Rec) : AV.dpL (trT t) = trC t := by
  induction t with
  | nil => rfl
  | cons r t ih => rw [trT_cons, dpL_app, ih]; simp [recT, trC_cons, recC]
theorem killL_tk (T : Nat) (xs : List AV) (n : Nat) : (AV.killL T xs).take n = AV.killL T (xs.take n) := by
  apply List.ext_getElem?
  intro j
  rw [List.getElem?_take, killL_get, killL_get, List.getElem?_take]
  split
  · rfl
  · rfl
theorem frz_tr {H : List AObj} {q cq : Nat} {one : List Rec} {cs : List AV} (hq : H[q]? = some (.cells 49 cs)) (h1 : one.length ≤ cq) (h2 : cs.length = cq * 4) (hw : AV.weakL (cs.take (one.length * 4)) = trC one) :
    ∃ x h', frzArr Try.prog H 1 q 0 one.length cq = some (x, h') ∧ x.plain = .lst .any 4 (trL one) ∧ h'.length = H.length := by
  have hty : tyI Try.prog 49 = some (true, 4) := by kernel_rfl
  have hk : AV.koneL (cs.take (one.length * 4)) = true := by rw [← koneL_weak, hw]; simp
  have hr : AV.rfL (cs.take (one.length * 4)) = true := by rw [← rfL_weak, hw]; simp
  have hc0 : chunk true 4 one.length (AV.weakL (cs.take (one.length * 4))) = trL one := by
    have := chunk_trC one []
    rw [List.append_nil] at this
    rw [hw, this]
  have hc : chunk true 4 one.length (AV.weakL cs) = trL one := by
    have e : cs = cs.take (one.length * 4) ++ cs.drop (one.length * 4) := (List.take_append_drop _ _).symm
    rw [e, weakL_append, hw, chunk_trC]
  unfold frzArr
  rw [hq]
  dsimp only
  rw [hty]
  dsimp only
  split
  · exact ⟨_, _, rfl, by rw [List.drop_zero, hc]; rfl, by simp⟩
  · rw [if_pos ⟨by omega, .inl rfl, by omega, by rw [Nat.zero_add]; exact hk, by rw [Nat.zero_add]; exact hr⟩]
    refine ⟨_, _, rfl, ?_, by simp⟩
    rw [Nat.zero_add, List.drop_zero, hc0]
    rfl
theorem W_fin7 {top : Bool} {kf : Nat} {code : Code} {Q : Exit → St → Prop} {n id cap : Nat} {fr : List (Nat × AV)} {H : List AObj} {cs : List AV} {U : List (List Rec)} (hg : getF fr 7 = some (.arr id 0 U.length cap)) (hobj : H[id]? = some (.cells 46 cs)) (hcl : cs.length = cap)
    (htk : cs.take U.length = arL U) (h : ∀ H', Wt top kf Try.prog code Q ⟨n, putF fr 7 (.lst (.tip 46 1) 1 (arL U)), H'⟩) : Wt top kf Try.prog code Q ⟨n, fr, H⟩ := by
  refine W_tip 7 (tk := 1) (ty := 46) (sz := 1) (ag := false) hg (by decide) hobj (by kernel_rfl) (by omega) (.inr rfl) (by omega) (by rw [Nat.mul_one, htk]; simp) (by rw [Nat.mul_one, htk]; simp) ?_
  rw [Nat.mul_one, htk, weakL_arL, chunk_arL]
  exact h _
theorem W_finT {top : Bool} {kf : Nat} {code : Code} {Q : Exit → St → Prop} {n id cap q cq i0 : Nat} {fr : List (Nat × AV)} {H : List AObj} {cs cs' : List AV} {t : List (List Rec)} {one : List Rec} (hg : getF fr 7 = some (.arr id 0 t.length cap)) (hid : H[id]? = some (.cells 46 cs))
    (hq : H[q]? = some (.cells 49 cs')) (hcl : cs.length = cap) (hi : i0 < t.length) (hcg : cs[i0]? = some (.arr q 0 one.length cq)) (htk : cs.take t.length = (arL t).set i0 (.arr q 0 one.length cq)) (hcl' : cs'.length = cq * 4) (hoc : one.length ≤ cq)
    {rs' : List AV} (hw : AV.dpL cs' = trC one ++ rs') (h : ∀ H', Wt top kf Try.prog code Q ⟨n, putF fr 7 (.lst (.tip 46 1) 1 (arL (t.set i0 one))), H'⟩) : Wt top kf Try.prog code Q ⟨n, fr, H⟩ := by
  have hne : id ≠ q := by
    intro e
    subst e
    rw [hid] at hq
    simp at hq
  have hql : q < H.length := (List.getElem?_eq_some_iff.1 hq).1
  have hidl : id < H.length := (List.getElem?_eq_some_iff.1 hid).1
  refine W_dpB q hq ?_
  have hlt := trC_length one
  obtain ⟨x, h2, hf, hx, hl⟩ := frz_tr (H := H.set q (.cells 49 (AV.dpL cs'))) (cq := cq) (one := one) (List.getElem?_set_self hql) hoc (by rw [dpL_length]; exact hcl') (by rw [hw, List.take_append_of_le_length (by omega), List.take_of_length_le (by omega), weakL_trC])
  refine W_frzP id i0 (tk := 1) (by rw [List.getElem?_set_ne hne.symm]; exact hid) hcg hne rfl hf ?_
  rw [hx]
  rw [List.length_set] at hl
  refine W_fin7 (U := t.set i0 one) (cs := cs.set i0 (.lst .any 4 (trL one))) (by simpa using hg) (List.getElem?_set_self (by omega)) (by simpa using hcl) ?_ h
  rw [List.length_set, List.take_set, htk, List.set_set, arL_set]

theorem spoil_sound (t : List (List Rec)) (a h : UInt8) (ht : t.length ≤ 100000) (hs : ∀ l ∈ t, trSm l) :
    Sound Try.prog 19 [.lst .any 1 (arL t), .v (.int .u8 a.toNat), .v (.int .u8 h.toNat)] (.lst (.tip 46 1) 1 (arL (spoilM t a.toNat h.toNat))) := by
  refine sound_of_U Try.func19 rfl (by decide +kernel) (by simp [Try.f19]) rfl rfl (rs := [.tmp 6]) rfl ?_
  rw [show Try.f19.ntmps = 130 from rfl]
  have hA2 := a.toNat_lt
  have hB2 := h.toNat_lt
  obtain ⟨A, hA⟩ : ∃ A, a.toNat = A := ⟨_, rfl⟩
  obtain ⟨B, hB⟩ : ∃ B, h.toNat = B := ⟨_, rfl⟩
  rw [hA] at hA2 ⊢
  rw [hB] at hB2 ⊢
  obtain ⟨i0, hi0⟩ : ∃ i0, A % t.length = i0 := ⟨_, rfl⟩
  obtain ⟨one, hone⟩ : ∃ one, t.getD i0 [] = one := ⟨_, rfl⟩
  obtain ⟨th, hth⟩ : ∃ th, (decide (B % 8 < 5) && decide (one ≠ [])) = th := ⟨_, rfl⟩
  refine W_evK [0, 1, 2] (by simp; rfl) ?_
  refine W_evK [0, 1, 2, 7] (by simp; rfl) ?_
  refine W_seq ?_
  refine W_evK [0, 1, 2, 7, 12, 13] (by simp; rfl) ?_
  refine W_block ?_
  refine W_loop (fun k s => ∃ (i : Nat) (x : AV) (H : List AObj), k = t.length - i ∧ i ≤ t.length ∧ ((i = 0 ∧ x = .lst .nil 1 [] ∧ H = []) ∨ (0 < i ∧ Out th i0 one (t.take i) x H)) ∧
    s = ⟨130, [(0, .lst .any 1 (arL t)), (1, .v (.int .u8 (A : Nat))), (2, .v (.int .u8 (B : Nat))), (7, x), (12, .v (.int .i64 (t.length : Nat))), (13, .v (.int .i64 (i : Nat)))], H⟩) (k := t.length) ⟨0, _, _, rfl, by omega, .inl ⟨rfl, rfl, rfl⟩, by simp⟩ ?_
  rintro k s ⟨i, x, H, rfl, hi, hx, rfl⟩
  by_cases c : i < t.length
  · have ci : (i : Int) < t.length := by omega
    obtain ⟨l, hli⟩ : ∃ l, t[i]? = some l := ⟨_, List.getElem?_eq_getElem c⟩
    have hl2 : t[i]'c = l := by rw [List.getElem?_eq_getElem c] at hli; exact Option.some.inj hli
    have hls := hs l (List.mem_of_getElem? hli)
    have wi := w64 (n := (i : Int) + 1) (by omega) (by omega)
    have htl : (t.take i).length = i := by simp; omega
    have htk : t.take (i + 1) = t.take i ++ [l] := by rw [List.take_add_one, hli]; rfl
    have bi : (i + 1) * 24 ≤ 140737488355328 := by omega
    refine W_evK [0, 1, 2, 7, 12, 13, 14] (by simp [c]; rfl) ?_
    refine W_seq ?_
    refine W_cond rfl (fun h => ?_) (fun h => by simp at h)
    refine W_skip ?_
    refine W_seq ?_
    refine W_block ?_
    refine W_evK [0, 1, 2, 7, 12, 13, 8] (by simp; rfl) ?_
    by_cases hti : th = true ∧ i0 = i
    · have hol : one = l := by rw [← hone, hti.2, List.getD_eq_getElem?_getD, hli]; rfl
      have hne : l ≠ [] := by
        have := hti.1
        rw [← hth] at this
        simp only [Bool.and_eq_true, decide_eq_true_eq] at this
        rw [← hol]; exact this.2
      refine W_rE [0, 1, 2, 7, 12, 13] ?_
      refine runA_pre 5 (by simp [c, ci, hl2]; rfl) rfl ?_
      refine runA_obj (f := 40) (args := [.lst .any 4 (trL l)]) (by simp) (by simp) ((copy_callW l hls hne H).mono ?_)
      rintro r H' ⟨q, cq, rs, G, rfl, hH', hq', hrs', hlc⟩
      have hql' : q < H'.length := (List.getElem?_eq_some_iff.1 hq').1
      have hq2' : ∀ X, (H' ++ X)[q]? = some (AObj.cells 49 (trT l ++ rs)) := fun X => by rw [List.getElem?_append_left hql']; exact hq'
      rcases hx with ⟨rfl, rfl, rfl⟩ | ⟨hi1, id, cap, cs, rfl, hid, hcl, hjc, hb1, hb2⟩
      · refine ⟨_, by simp; rfl, ?_⟩
        refine runA_b (by simp) ⟨_, by simp [evSame, evBsO, catK, AV.cellsK, AV.kone, AV.koneL, AV.tlL, AV.tl]; rfl, ?_⟩
        refine runA_nilA (t := 26) (e := 46) (sz := 1) (by_ := 24) (m := 1) (s0 := 1) (x0 := []) (yc := [.arr q 0 l.length cq]) (by simp) rfl rfl rfl rfl (by simp) (by simp [srcA]) s26 a46 z46 (by simp) (by omega) (by omega) ?_
        intro cap' h1 h2
        refine ⟨_, by simp; rfl, ?_⟩
        refine runA_fin (by simp; rfl) ?_
        refine W_evE [0, 1, 2, 7, 12, 13] (by simp [show IntKind.i64.wrap 1 = 1 from rfl]; rfl) ?_
        refine ⟨_, by omega, 1, .arr (H'.length + 1) 0 1 cap', H' ++ [.cells 46 [.arr q 0 l.length cq], .cells 46 (.arr q 0 l.length cq :: repC (cap' - 1) [.lst .nil 4 []])], rfl, by omega, .inr ⟨by omega, ?_⟩, by simp⟩
        rw [htk]
        exact Out.push (one := one) (cs := []) (H := []) htl (fun h => by omega) (fun _ => by simp [arL]) (id' := H'.length + 1) (by simp; rfl) (by simp [repC_length]; omega) (by omega) (y := .arr q 0 l.length cq) (by simp) (fun q c h => by simp at h)
          (.inr ⟨hti.1, hti.2, q, cq, rs, by rw [hol], by rw [hol]; exact hq2' _, by rw [hol]; exact hlc, by rw [hol]; exact hrs'⟩)
      · rw [htl] at hjc hb1 hb2 ⊢
        have hlt : id < H.length := (List.getElem?_eq_some_iff.1 hid).1
        have hid2 : ∀ X, (H' ++ X)[id]? = some (AObj.cells 46 cs) := fun X => by rw [hH', List.append_assoc, List.getElem?_append_left hlt]; exact hid
        refine ⟨_, by simp; rfl, ?_⟩
        refine runA_b (by simp) ⟨_, by simp [evSame, evBsO, catK, AV.cellsK, AV.kone, AV.koneL, AV.tlL, AV.tl]; rfl, ?_⟩
        refine runA_appA (t := 26) (e := 46) (sz := 1) (by_ := 24) (id := id) (len := i) (cap := cap) (m := 1) (cs := cs) (yc := [.arr q 0 l.length cq]) (by simp) rfl rfl rfl rfl (by simp) (by simp [srcA]) s26 a46 z46 (by simp) (by simp [hid2]) (by omega) (by omega) ?_
        intro s1 x1 hq
        obtain ⟨id', cap', cs', h', rfl, rfl, k1, k2, k3, k4, k5⟩ := app_step (y := .arr q 0 l.length cq) (by simp [hid2]) hcl hjc hq
        refine ⟨_, by simp; rfl, ?_⟩
        refine runA_fin (by simp; rfl) ?_
        refine W_evE [0, 1, 2, 7, 12, 13] (by simp [wi]; rfl) ?_
        refine ⟨_, by omega, i + 1, .arr id' 0 (i + 1) cap', h', rfl, by omega, .inr ⟨by omega, ?_⟩, by simp⟩
        rw [htk]
        refine Out.push (cs := cs) (H := H) htl hb1 hb2 k1 k2 k3 (y := .arr q 0 l.length cq) k4 (fun q c hqc => k5 q c ?_) ?_
        · have hql := (List.getElem?_eq_some_iff.1 hqc).1
          simp only [hH', List.append_assoc]
          rw [List.getElem?_append_left hql]; exact hqc
        · exact .inr ⟨hti.1, hti.2, q, cq, rs, by rw [hol], k5 _ _ (by rw [hol]; simp [hq2']), by rw [hol]; exact hlc, by rw [hol]; exact hrs'⟩
    · refine W_rE [0, 1, 2, 7, 12, 13] ?_
      refine runA_pre 5 (by simp [c, ci, hl2]; rfl) rfl ?_
      refine runA_call (by simp) (by first | (simp; done) | (simp; rfl)) (copyT_sound l hls) (by simp; rfl) ?_
      refine runA_pre 1 (by simp; rfl) rfl ?_
      rcases hx with ⟨rfl, rfl, rfl⟩ | ⟨hi1, id, cap, cs, rfl, hid, hcl, hjc, hb1, hb2⟩
      · refine runA_nil (t := 26) (e := 46) (sz := 1) (by_ := 24) (s0 := 1) (x0 := []) (oy := .tip 46 90) (ys := [.lst .any 4 (trL l)]) (yc := [.lst .any 4 (trL l)]) (by simp) rfl rfl rfl rfl (by simp) (by simp) s26 a46 z46 (by simp) (by simp [catK, AV.cellsK, AV.kone, AV.koneL]) (by simp) (by simp) ?_
        intro cap' h1 h2
        have h1' : 1 ≤ cap' := h1
        refine ⟨_, by simp; rfl, ?_⟩
        refine runA_fin (by simp; rfl) ?_
        refine W_evE [0, 1, 2, 7, 12, 13] (by simp [show IntKind.i64.wrap 1 = 1 from rfl]; rfl) ?_
        refine ⟨_, by omega, 1, .arr 0 0 1 cap', [.cells 46 (.lst .any 4 (trL l) :: repC (cap' - 1) [.lst .nil 4 []])], rfl, by omega, .inr ⟨by omega, ?_⟩, by simp⟩
        rw [htk]
        exact Out.push (one := one) (cs := []) (H := []) htl (fun h => by omega) (fun _ => by simp [arL]) (id' := 0) (by simp; rfl) (by simp [repC_length]; omega) (by omega) (y := .lst .any 4 (trL l)) (by simp) (fun q c h => by simp at h)
          (.inl ⟨rfl, hti⟩)
      · rw [htl] at hjc hb1 hb2 ⊢
        refine runA_app (t := 26) (e := 46) (sz := 1) (by_ := 24) (id := id) (len := i) (cap := cap) (oy := .tip 46 90) (ys := [.lst .any 4 (trL l)]) (cs := cs) (yc := [.lst .any 4 (trL l)]) (by simp) rfl rfl rfl rfl (by simp) (by simp) s26 a46 z46 (by simp) (by simp [hid]) (by omega) (by simp [catK, AV.cellsK, AV.kone, AV.koneL]) (by simp; omega) ?_
        intro s1 x1 hq
        obtain ⟨id', cap', cs', h', rfl, rfl, k1, k2, k3, k4, k5⟩ := app_step (y := .lst .any 4 (trL l)) (by simp [hid]) hcl hjc hq
        refine ⟨_, by simp; rfl, ?_⟩
        refine runA_fin (by simp; rfl) ?_
        refine W_evE [0, 1, 2, 7, 12, 13] (by simp [wi]; rfl) ?_
        refine ⟨_, by omega, i + 1, .arr id' 0 (i + 1) cap', h', rfl, by omega, .inr ⟨by omega, ?_⟩, by simp⟩
        rw [htk]
        exact Out.push (cs := cs) (H := H) htl hb1 hb2 k1 k2 k3 (y := .lst .any 4 (trL l)) k4 k5 (.inl ⟨rfl, hti⟩)
  have hin : i = t.length := by omega
  refine W_evK [0, 1, 2, 7, 12, 13, 14] (by simp [c]; rfl) ?_
  refine W_seq ?_
  refine W_cond rfl (fun h => by simp at h) (fun h => ?_)
  refine W_exit ?_
  refine W_seq ?_
  rcases hx with ⟨h0, rfl, rfl⟩ | ⟨hi1, hout⟩
  · have ht0 : t = [] := List.eq_nil_of_length_eq_zero (by omega)
    subst ht0
    refine W_evK [1, 2, 7, 27] (by simp; rfl) ?_
    refine W_cond rfl (fun h => ?_) (fun h => by simp at h)
    refine W_evK [6] (by simp; rfl) ?_
    refine W_ret ?_
    repeat (first | refine on_ret ?_ | refine in_ret ?_)
    exact ⟨.lst .nil 1 [], by simp [retQ], by rw [show spoilM [] A B = [] from rfl]; exact .nil (by decide +kernel)⟩
  rw [hin, List.take_of_length_le (Nat.le_refl _)] at hout
  subst hin
  obtain ⟨id, cap, cs, rfl, hid, hcl, hjc, hb1, hb2⟩ := hout
  have hn0 : ((t.length : Int) == 0) = false := by simp; intro h; rw [h] at hi1; simp at hi1
  have hn1 : ¬ ((t.length : Int) = 0) := by omega
  have hn2 : ¬ t.length = 0 := by omega
  have hi0l : i0 < t.length := by rw [← hi0]; exact Nat.mod_lt _ hi1
  have hi0i : (i0 : Int) < t.length := by omega
  have hrem : ((A : Int)).tmod (t.length : Int) = (i0 : Nat) := by rw [← hi0]; rfl
  have wA : IntKind.i64.wrap (A : Int) = A := w64 (by omega) (by omega)
  have hone' : t[i0]? = some one := by rw [← hone, List.getD_eq_getElem?_getD, List.getElem?_eq_getElem hi0l]; rfl
  have hot := List.mem_of_getElem? hone'
  have hos := hs one hot
  have hil : i0 < cs.length := by omega
  have hsp0 : spoilM t A B = if one = [] then t else
      match B % 8 with
      | 0 => t.set i0 (spoilR (B / 8 % one.length) (fun r => ⟨IntKind.i64.wrap (r.R + 1), r.key, r.data, r.bad⟩) one)
      | 1 => t.set i0 (spoilR (B / 8 % one.length) (fun r => ⟨r.R, [1], r.data, r.bad⟩) one)
      | 2 => t.set i0 (spoilR (B / 8 % one.length) (fun r => ⟨r.R, r.key, r.data, true⟩) one)
      | 3 => t.set i0 (spoilR (B / 8 % one.length) (fun r => ⟨r.R, r.key, [], r.bad⟩) one)
      | 4 => t.set i0 (spoilR (B / 8 % one.length) (fun r => ⟨r.R, r.key, r.data ++ [1], r.bad⟩) one)
      | 5 => t.set i0 (one.take (B / 8 % one.length))
      | 6 => t.take i0 ++ t.drop (i0 + 1)
      | _ => t ++ [one] := by unfold spoilM; rw [hi0, hone']; rfl
  refine W_evK [1, 2, 7, 27] (by simp [hn0, hn2]; rfl) ?_
  refine W_cond rfl (fun h => by simp at h) (fun h => ?_)
  refine W_skip ?_
  by_cases hth1 : th = true
  · have hthd := hth1
    rw [← hth] at hthd
    simp only [Bool.and_eq_true, decide_eq_true_eq] at hthd
    obtain ⟨hB5, hone1⟩ := hthd
    obtain ⟨q, cq, rs, hq, hq1, hq2, htk⟩ := hb1 ⟨hth1, hi0l⟩
    have hcg : cs[i0]? = some (.arr q 0 one.length cq) := by
      have : (cs.take t.length)[i0]? = cs[i0]? := by rw [List.getElem?_take, if_pos hi0l]
      rw [← this, htk, List.getElem?_set_self (by simpa using hi0l)]
    have hcg2 : cs[i0]'hil = .arr q 0 one.length cq := by rw [List.getElem?_eq_getElem hil] at hcg; exact Option.some.inj hcg
    have hql : q < H.length := (List.getElem?_eq_some_iff.1 hq).1
    have hiq : id ≠ q := by
      intro e
      rw [e, hq] at hid
      simp at hid
    refine W_evK [1, 2, 7, 9] (by simp [wA, hn1, hn2, hrem, hi0l, hi0i, hid, hcg, hcg2, hil]; rfl) ?_
    refine W_seq ?_
    refine W_evK [1, 2, 7, 9, 38] (by simp [show ((one.length : Int) == 0) = false by simp [hone1], hone1]; rfl) ?_
    have hol : 0 < one.length := List.length_pos_iff.2 hone1
    obtain ⟨k, hk⟩ : ∃ k, B / 8 % one.length = k := ⟨_, rfl⟩
    have hkl : k < one.length := by rw [← hk]; exact Nat.mod_lt _ hol
    have hki : (k : Int) < one.length := by omega
    have hquo : ((B : Int)).tdiv 8 = ((B / 8 : Nat) : Int) := rfl
    have wq : IntKind.u8.wrap ((B / 8 : Nat) : Int) = ((B / 8 : Nat) : Int) := wu8 (by omega) (by omega)
    have wq2 : IntKind.i64.wrap ((B / 8 : Nat) : Int) = ((B / 8 : Nat) : Int) := w64 (by omega) (by omega)
    have hrem2 : (((B / 8 : Nat) : Int)).tmod (one.length : Int) = (k : Nat) := by rw [← hk]; rfl
    have ho1 : ¬ ((one.length : Int) = 0) := by omega
    have ho0 : ((one.length : Int) == 0) = false := by simp [hone1]
    have hmod : ((B : Int)).tmod 8 = ((B % 8 : Nat) : Int) := rfl
    obtain ⟨r, hr⟩ : ∃ r, one[k]? = some r := ⟨_, List.getElem?_eq_getElem hkl⟩
    have hrs := hos.2 r (List.mem_of_getElem? hr)
    have hspR : ∀ f, spoilR k f one = one.set k (f r) := fun f => by unfold spoilR; rw [hr]
    rw [if_neg hone1, hk] at hsp0
    refine W_cond rfl (fun h => by simp at h) (fun h => ?_)
    refine W_skip ?_
    refine W_evK [1, 2, 7, 9, 10] (by simp [hquo, wq, wq2, hrem2, ho1, hone1, -Int.natCast_ediv]; rfl) ?_
    refine W_seq ?_
    obtain ⟨m, hm⟩ : ∃ m, B % 8 = m := ⟨_, rfl⟩
    rw [hm] at hmod hsp0
    refine W_evK [1, 7, 9, 10, 47] (by simp [hmod]; rfl) ?_
    refine W_block ?_
    have htl := trT_length one
    have hcsl : (trT one ++ rs).length = cq * 4 := by simp; omega
    have hk4 : k * 4 + 3 < (trT one ++ rs).length := by simp; omega
    have g0 : (trT one ++ rs)[k * 4]? = some (.v (.int .i64 r.R)) := trT_get hr rs 0 (by omega)
    have g2 : (trT one ++ rs)[k * 4 + 2]? = some (.lst (.tip 5 33) 1 (byL r.data)) := trT_get hr rs 2 (by omega)
    have l0 : k * 4 < (trT one ++ rs).length := by omega
    have l1 : k * 4 + 1 ≤ (trT one ++ rs).length := by omega
    have l2 : k * 4 + 2 ≤ (trT one ++ rs).length := by omega
    have l2' : k * 4 + 2 < (trT one ++ rs).length := by omega
    have l3 : k * 4 + 3 ≤ (trT one ++ rs).length := by omega
    have l4 : k * 4 + 4 ≤ (trT one ++ rs).length := by omega
    have g0' : (trT one ++ rs)[k * 4]'l0 = .v (.int .i64 r.R) := by rw [List.getElem?_eq_getElem l0] at g0; exact Option.some.inj g0
    have g2' : (trT one ++ rs)[k * 4 + 2]'l2' = .lst (.tip 5 33) 1 (byL r.data) := by rw [List.getElem?_eq_getElem l2'] at g2; exact Option.some.inj g2
    obtain ⟨C, hC⟩ : ∃ C, trT one ++ rs = C := ⟨_, rfl⟩
    have hCw : AV.dpL C = trC one ++ AV.dpL rs := by rw [← hC, dpL_app, dpL_trT]
    rw [hC] at hq hcsl hk4 g0 g2 l1 l2 l3 l4
    have l0c : k * 4 < C.length := by omega
    have l2c : k * 4 + 2 < C.length := by omega
    have g0' : C[k * 4]'l0c = .v (.int .i64 r.R) := by rw [List.getElem?_eq_getElem l0c] at g0; exact Option.some.inj g0
    have g2' : C[k * 4 + 2]'l2c = .lst (.tip 5 33) 1 (byL r.data) := by rw [List.getElem?_eq_getElem l2c] at g2; exact Option.some.inj g2
    have hlen : ∀ r', (one.set k r').length = one.length := fun r' => by simp
    have hmm : m = 0 ∨ m = 1 ∨ m = 2 ∨ m = 3 ∨ m = 4 := by omega
    have b1 : (r.data.length + 1) * 1 ≤ 140737488355328 := by have := hrs.2; omega
    have b2 : r.data.length + 1 ≤ 140737488355328 := by have := hrs.2; omega
    have b3 : k * 4 + 3 ≤ C.length := l3
    rcases hmm with rfl | rfl | rfl | rfl | rfl
    · rw [show spoilM t A B = t.set i0 (one.set k ⟨IntKind.i64.wrap (r.R + 1), r.key, r.data, r.bad⟩) by rw [hsp0]; show t.set i0 (spoilR k _ one) = _; rw [hspR]]
      refine W_evK [1, 7, 9, 10, 47, 48] (by simp; rfl) ?_
      refine W_cond rfl (fun h => ?_) (fun h => by simp at h)
      refine W_evE [7] (by simp [hki, hkl, hq, g0, g0', g2, g2', l0c, l2c, l1, l2, l3, l4, b1]; rfl) ?_
      have e := trC_set hr (AV.dpL rs) 0 (AV.dpL [.v (.int .i64 (IntKind.i64.wrap (r.R + 1)))]) (r' := ⟨IntKind.i64.wrap (r.R + 1), r.key, r.data, r.bad⟩) (by simp [setSeg, recC, byL]) (by simp)
      refine W_finT (t := t) (one := one.set k ⟨IntKind.i64.wrap (r.R + 1), r.key, r.data, r.bad⟩) (i0 := i0) (id := id) (cs := cs) (cs' := setSeg C (k * 4) [.v (.int .i64 (IntKind.i64.wrap (r.R + 1)))]) (cap := cap) (q := q) (cq := cq) rfl (by rw [List.getElem?_set_ne hiq.symm]; exact hid) (List.getElem?_set_self hql) hcl hi0l (by rw [hlen]; exact hcg) (by rw [hlen]; exact htk) (by rw [setSeg_length _ _ _ (by simp; omega)]; exact hcsl) (by rw [hlen]; exact hq1) (rs' := AV.dpL rs) (by rw [dpL_setSeg, hCw]; exact e) (fun H' => ?_)
      refine W_evK [6] (by simp [putF]; rfl) ?_
      refine W_ret ?_
      repeat (first | refine on_ret ?_ | refine in_ret ?_)
      exact ⟨_, by simp [retQ]; exact ⟨rfl, by simp⟩, .norm fun T => by simp⟩
    · rw [show spoilM t A B = t.set i0 (one.set k ⟨r.R, [1], r.data, r.bad⟩) by rw [hsp0]; show t.set i0 (spoilR k _ one) = _; rw [hspR]]
      refine W_evK [1, 7, 9, 10, 47, 48] (by simp; rfl) ?_
      refine W_cond rfl (fun h => by simp at h) (fun h => ?_)
      refine W_evK [1, 7, 9, 10, 47, 60] (by simp; rfl) ?_
      refine W_cond rfl (fun h => ?_) (fun h => by simp at h)
      refine W_evE [7] (by simp [hki, hkl, hq, g0, g0', g2, g2', l0c, l2c, l1, l2, l3, l4, b1]; rfl) ?_
      have e := trC_set hr (AV.dpL rs) 1 (AV.dpL [.lst (.tip 5 258) 1 [.v (.int .u8 1)]]) (r' := ⟨r.R, [1], r.data, r.bad⟩) (by simp [setSeg, recC, byL]) (by simp)
      refine W_finT (t := t) (one := one.set k ⟨r.R, [1], r.data, r.bad⟩) (i0 := i0) (id := id) (cs := cs) (cs' := setSeg C (k * 4 + 1) [.lst (.tip 5 258) 1 [.v (.int .u8 1)]]) (cap := cap) (q := q) (cq := cq) rfl (by rw [List.getElem?_set_ne hiq.symm]; exact hid) (List.getElem?_set_self hql) hcl hi0l (by rw [hlen]; exact hcg) (by rw [hlen]; exact htk) (by rw [setSeg_length _ _ _ (by simp; omega)]; exact hcsl) (by rw [hlen]; exact hq1) (rs' := AV.dpL rs) (by rw [dpL_setSeg, hCw]; exact e) (fun H' => ?_)
      refine W_evK [6] (by simp [putF]; rfl) ?_
      refine W_ret ?_
      repeat (first | refine on_ret ?_ | refine in_ret ?_)
      exact ⟨_, by simp [retQ]; exact ⟨rfl, by simp⟩, .norm fun T => by simp⟩
    · rw [show spoilM t A B = t.set i0 (one.set k ⟨r.R, r.key, r.data, true⟩) by rw [hsp0]; show t.set i0 (spoilR k _ one) = _; rw [hspR]]
      refine W_evK [1, 7, 9, 10, 47, 48] (by simp; rfl) ?_
      refine W_cond rfl (fun h => by simp at h) (fun h => ?_)
      refine W_evK [1, 7, 9, 10, 47, 60] (by simp; rfl) ?_
      refine W_cond rfl (fun h => by simp at h) (fun h => ?_)
      refine W_evK [1, 7, 9, 10, 47, 67] (by simp; rfl) ?_
      refine W_cond rfl (fun h => ?_) (fun h => by simp at h)
      refine W_evE [7] (by simp [hki, hkl, hq, g0, g0', g2, g2', l0c, l2c, l1, l2, l3, l4, b1]; rfl) ?_
      have e := trC_set hr (AV.dpL rs) 3 (AV.dpL [.v (.bool true)]) (r' := ⟨r.R, r.key, r.data, true⟩) (by simp [setSeg, recC, byL]) (by simp)
      refine W_finT (t := t) (one := one.set k ⟨r.R, r.key, r.data, true⟩) (i0 := i0) (id := id) (cs := cs) (cs' := setSeg C (k * 4 + 3) [.v (.bool true)]) (cap := cap) (q := q) (cq := cq) rfl (by rw [List.getElem?_set_ne hiq.symm]; exact hid) (List.getElem?_set_self hql) hcl hi0l (by rw [hlen]; exact hcg) (by rw [hlen]; exact htk) (by rw [setSeg_length _ _ _ (by simp; omega)]; exact hcsl) (by rw [hlen]; exact hq1) (rs' := AV.dpL rs) (by rw [dpL_setSeg, hCw]; exact e) (fun H' => ?_)
      refine W_evK [6] (by simp [putF]; rfl) ?_
      refine W_ret ?_
      repeat (first | refine on_ret ?_ | refine in_ret ?_)
      exact ⟨_, by simp [retQ]; exact ⟨rfl, by simp⟩, .norm fun T => by simp⟩
    · rw [show spoilM t A B = t.set i0 (one.set k ⟨r.R, r.key, [], r.bad⟩) by rw [hsp0]; show t.set i0 (spoilR k _ one) = _; rw [hspR]]
      refine W_evK [1, 7, 9, 10, 47, 48] (by simp; rfl) ?_
      refine W_cond rfl (fun h => by simp at h) (fun h => ?_)
      refine W_evK [1, 7, 9, 10, 47, 60] (by simp; rfl) ?_
      refine W_cond rfl (fun h => by simp at h) (fun h => ?_)
      refine W_evK [1, 7, 9, 10, 47, 67] (by simp; rfl) ?_
      refine W_cond rfl (fun h => by simp at h) (fun h => ?_)
      refine W_evK [1, 7, 9, 10, 47, 73] (by simp; rfl) ?_
      refine W_cond rfl (fun h => ?_) (fun h => by simp at h)
      refine W_evE [7] (by simp [hki, hkl, hq, g0, g0', g2, g2', l0c, l2c, l1, l2, l3, l4, b1]; rfl) ?_
      have e := trC_set hr (AV.dpL rs) 2 (AV.dpL [.lst .nil 1 []]) (r' := ⟨r.R, r.key, [], r.bad⟩) (by simp [setSeg, recC, byL]) (by simp)
      refine W_finT (t := t) (one := one.set k ⟨r.R, r.key, [], r.bad⟩) (i0 := i0) (id := id) (cs := cs) (cs' := setSeg C (k * 4 + 2) [.lst .nil 1 []]) (cap := cap) (q := q) (cq := cq) rfl (by rw [List.getElem?_set_ne hiq.symm]; exact hid) (List.getElem?_set_self hql) hcl hi0l (by rw [hlen]; exact hcg) (by rw [hlen]; exact htk) (by rw [setSeg_length _ _ _ (by simp; omega)]; exact hcsl) (by rw [hlen]; exact hq1) (rs' := AV.dpL rs) (by rw [dpL_setSeg, hCw]; exact e) (fun H' => ?_)
      refine W_evK [6] (by simp [putF]; rfl) ?_
      refine W_ret ?_
      repeat (first | refine on_ret ?_ | refine in_ret ?_)
      exact ⟨_, by simp [retQ]; exact ⟨rfl, by simp⟩, .norm fun T => by simp⟩
    · rw [show spoilM t A B = t.set i0 (one.set k ⟨r.R, r.key, r.data ++ [1], r.bad⟩) by rw [hsp0]; show t.set i0 (spoilR k _ one) = _; rw [hspR]]
      refine W_evK [1, 7, 9, 10, 47, 48] (by simp; rfl) ?_
      refine W_cond rfl (fun h => by simp at h) (fun h => ?_)
      refine W_evK [1, 7, 9, 10, 47, 60] (by simp; rfl) ?_
      refine W_cond rfl (fun h => by simp at h) (fun h => ?_)
      refine W_evK [1, 7, 9, 10, 47, 67] (by simp; rfl) ?_
      refine W_cond rfl (fun h => by simp at h) (fun h => ?_)
      refine W_evK [1, 7, 9, 10, 47, 73] (by simp; rfl) ?_
      refine W_cond rfl (fun h => by simp at h) (fun h => ?_)
      refine W_evK [1, 7, 9, 10, 47, 79] (by simp; rfl) ?_
      refine W_cond rfl (fun h => ?_) (fun h => by simp at h)
      have hset : AV.tlL ((arL t).set i0 (.arr q 0 one.length cq)) = true := by
        refine tlL_iff.2 fun x hx => ?_
        rcases List.mem_or_eq_of_mem_set hx with h | rfl
        · exact tlL_iff.1 (tlL_arL t) x h
        · rfl
      have lk2 : k * 4 + 3 ≤ (AV.killL 33 C).length := by rw [killL_length]; omega
      refine W_evE [7] (by simp [hki, hkl, hq, g0, g0', g2, g2', l0c, l2c, l1, l2, l3, l4, b1, b2, lk2]; rfl) ?_
      have e := trC_set hr (AV.dpL rs) 2 (AV.dpL [.lst (.tip 5 33) 1 (byL r.data ++ [.v (.int .u8 1)])]) (r' := ⟨r.R, r.key, r.data ++ [1], r.bad⟩) (by simp [setSeg, recC, dpL_app, byL_append, byL_cons]) (by simp)
      refine W_finT (t := t) (one := one.set k ⟨r.R, r.key, r.data ++ [1], r.bad⟩) (i0 := i0) (id := id) (cs := (AV.killL 33 cs)) (cs' := setSeg (AV.killL 33 C) (k * 4 + 2) [.lst (.tip 5 33) 1 (byL r.data ++ [.v (.int .u8 1)])]) (cap := cap) (q := q) (cq := cq) rfl (by rw [List.getElem?_set_ne hiq.symm]; simp [hid]) (List.getElem?_set_self (by simpa using hql)) (by rw [killL_length]; exact hcl) hi0l (by rw [hlen, killL_get, hcg]; rfl) (by rw [hlen, killL_tk, htk]; exact killL_tl _ hset) (by rw [setSeg_length _ _ _ (by simp; omega)]; rw [killL_length]; exact hcsl) (by rw [hlen]; exact hq1) (rs' := AV.dpL rs) (by rw [dpL_setSeg, dpLKill, hCw]; exact e) (fun H' => ?_)
      refine W_evK [6] (by simp [putF]; rfl) ?_
      refine W_ret ?_
      repeat (first | refine on_ret ?_ | refine in_ret ?_)
      exact ⟨_, by simp [retQ]; exact ⟨rfl, by simp⟩, .norm fun T => by simp⟩
  · have hthf : ¬ (th = true ∧ i0 < t.length) := fun h => hth1 h.1
    have htk := hb2 hthf
    have hcg : cs[i0]? = some (.lst .any 4 (trL one)) := by
      have : (cs.take t.length)[i0]? = cs[i0]? := by rw [List.getElem?_take, if_pos hi0l]
      rw [← this, htk]
      simp only [arL, List.getElem?_map, hone', Option.map_some]
    have hcg2 : cs[i0]'hil = .lst .any 4 (trL one) := by rw [List.getElem?_eq_getElem hil] at hcg; exact Option.some.inj hcg
    refine W_evK [1, 2, 7, 9] (by simp [wA, hn1, hn2, hrem, hi0l, hi0i, hid, hcg, hcg2, hil]; rfl) ?_
    refine W_seq ?_
    by_cases hone1 : one = []
    · rw [show spoilM t A B = t by rw [hsp0, if_pos hone1]]
      refine W_evK [1, 2, 7, 9, 38] (by simp [hone1]; rfl) ?_
      refine W_cond rfl (fun h => ?_) (fun h => by simp at h)
      refine W_fin7 (cs := cs) (cap := cap) rfl hid hcl htk (fun H' => ?_)
      refine W_evK [6] (by simp [putF]; rfl) ?_
      refine W_ret ?_
      repeat (first | refine on_ret ?_ | refine in_ret ?_)
      exact ⟨_, by simp [retQ]; exact ⟨rfl, by simp⟩, .norm fun T => by simp⟩
    refine W_evK [1, 2, 7, 9, 38] (by simp [show ((one.length : Int) == 0) = false by simp [hone1], hone1]; rfl) ?_
    have hol : 0 < one.length := List.length_pos_iff.2 hone1
    obtain ⟨k, hk⟩ : ∃ k, B / 8 % one.length = k := ⟨_, rfl⟩
    have hkl : k < one.length := by rw [← hk]; exact Nat.mod_lt _ hol
    have hki : (k : Int) < one.length := by omega
    have hquo : ((B : Int)).tdiv 8 = ((B / 8 : Nat) : Int) := rfl
    have wq : IntKind.u8.wrap ((B / 8 : Nat) : Int) = ((B / 8 : Nat) : Int) := wu8 (by omega) (by omega)
    have wq2 : IntKind.i64.wrap ((B / 8 : Nat) : Int) = ((B / 8 : Nat) : Int) := w64 (by omega) (by omega)
    have hrem2 : (((B / 8 : Nat) : Int)).tmod (one.length : Int) = (k : Nat) := by rw [← hk]; rfl
    have ho1 : ¬ ((one.length : Int) = 0) := by omega
    have ho0 : ((one.length : Int) == 0) = false := by simp [hone1]
    have hmod : ((B : Int)).tmod 8 = ((B % 8 : Nat) : Int) := rfl
    obtain ⟨r, hr⟩ : ∃ r, one[k]? = some r := ⟨_, List.getElem?_eq_getElem hkl⟩
    have hrs := hos.2 r (List.mem_of_getElem? hr)
    have hspR : ∀ f, spoilR k f one = one.set k (f r) := fun f => by unfold spoilR; rw [hr]
    rw [if_neg hone1, hk] at hsp0
    refine W_cond rfl (fun h => by simp at h) (fun h => ?_)
    refine W_skip ?_
    refine W_evK [1, 2, 7, 9, 10] (by simp [hquo, wq, wq2, hrem2, ho1, hone1, -Int.natCast_ediv]; rfl) ?_
    refine W_seq ?_
    obtain ⟨m, hm⟩ : ∃ m, B % 8 = m := ⟨_, rfl⟩
    rw [hm] at hmod hsp0
    refine W_evK [1, 7, 9, 10, 47] (by simp [hmod]; rfl) ?_
    refine W_block ?_
    have hmm : m = 5 ∨ m = 6 ∨ m = 7 := by
      have : ¬ B % 8 < 5 := fun h => hth1 (by rw [← hth]; simp [h, hone1])
      omega
    have hkl2 : (k : Int) ≤ one.length := by omega
    have hkl3 : k ≤ one.length := by omega
    have hil1 : i0 + 1 ≤ cs.length := hil
    have wi1 := w64 (n := (i0 : Int) + 1) (by omega) (by omega)
    rcases hmm with rfl | rfl | rfl
    · rw [show spoilM t A B = t.set i0 (one.take k) by rw [hsp0]; rfl]
      refine W_evK [1, 7, 9, 10, 47, 48] (by simp; rfl) ?_
      refine W_cond rfl (fun h => by simp at h) (fun h => ?_)
      refine W_evK [1, 7, 9, 10, 47, 60] (by simp; rfl) ?_
      refine W_cond rfl (fun h => by simp at h) (fun h => ?_)
      refine W_evK [1, 7, 9, 10, 47, 67] (by simp; rfl) ?_
      refine W_cond rfl (fun h => by simp at h) (fun h => ?_)
      refine W_evK [1, 7, 9, 10, 47, 73] (by simp; rfl) ?_
      refine W_cond rfl (fun h => by simp at h) (fun h => ?_)
      refine W_evK [1, 7, 9, 10, 47, 79] (by simp; rfl) ?_
      refine W_cond rfl (fun h => by simp at h) (fun h => ?_)
      refine W_evK [1, 7, 9, 10, 47, 92] (by simp; rfl) ?_
      refine W_cond rfl (fun h => ?_) (fun h => by simp at h)
      refine W_dvE [7] mx (by decide +kernel) (by simp [wA, hn1, hn2, hrem, hi0l, hi0i, hid, hil, hil1, hkl2, hkl3, hid, ← trL_take]; rfl) ?_
      refine W_fin7 (id := id) (U := t.set i0 (one.take k)) (cap := cap) (cs := cs.set i0 (.lst .any 4 (trL (one.take k)))) (by simp) (by rw [← setSeg_one cs i0 _ hil]; exact List.getElem?_set_self (List.getElem?_eq_some_iff.1 hid).1) (by simpa using hcl) (by rw [List.length_set, List.take_set, htk, arL_set]) (fun H' => ?_)
      refine W_evK [6] (by simp [putF]; rfl) ?_
      refine W_ret ?_
      repeat (first | refine on_ret ?_ | refine in_ret ?_)
      exact ⟨_, by simp [retQ]; exact ⟨rfl, by simp⟩, .norm fun T => by simp⟩
    · rw [show spoilM t A B = t.take i0 ++ t.drop (i0 + 1) by rw [hsp0]; rfl]
      refine W_evK [1, 7, 9, 10, 47, 48] (by simp; rfl) ?_
      refine W_cond rfl (fun h => by simp at h) (fun h => ?_)
      refine W_evK [1, 7, 9, 10, 47, 60] (by simp; rfl) ?_
      refine W_cond rfl (fun h => by simp at h) (fun h => ?_)
      refine W_evK [1, 7, 9, 10, 47, 67] (by simp; rfl) ?_
      refine W_cond rfl (fun h => by simp at h) (fun h => ?_)
      refine W_evK [1, 7, 9, 10, 47, 73] (by simp; rfl) ?_
      refine W_cond rfl (fun h => by simp at h) (fun h => ?_)
      refine W_evK [1, 7, 9, 10, 47, 79] (by simp; rfl) ?_
      refine W_cond rfl (fun h => by simp at h) (fun h => ?_)
      refine W_evK [1, 7, 9, 10, 47, 92] (by simp; rfl) ?_
      refine W_cond rfl (fun h => by simp at h) (fun h => ?_)
      refine W_evK [1, 7, 9, 10, 47, 104] (by simp; rfl) ?_
      refine W_cond rfl (fun h => ?_) (fun h => by simp at h)
      have hic1 : (i0 : Int) ≤ cap := by omega
      have hic2 : (i0 : Int) + 1 ≤ t.length := by omega
      have hic3 : ((i0 : Int) + 1).toNat = i0 + 1 := by omega
      have hicN : i0 ≤ cap := by omega
      have hicM : i0 + 1 ≤ t.length := by omega
      have hic4 : ¬ cap = 0 := by omega
      have hic5 : (0 : Int) ≤ (i0 : Int) + 1 := by omega
      refine W_rsE 15 [7] mx (by decide +kernel) ?_
      refine runD_pre 6 (by simp [wA, hn1, hn2, hrem]; rfl) rfl ?_
      refine runD_pre 6 (by simp [wA, hn1, hn2, hrem, hic1, hicN, hic4]; rfl) rfl ?_
      refine runD_fin (by simp [hrem, hn1, hn2, wi1, hic2, hicM, hic3, hic5]; rfl) ?_
      refine runA_appA (t := 26) (e := 46) (sz := 1) (by_ := 24) (id := id) (len := i0) (cap := cap) (m := t.length - (i0 + 1)) (cs := cs) (yc := (cs.drop (i0 + 1)).take (t.length - (i0 + 1))) (by simp) rfl rfl rfl rfl (by simp) ?_ s26 a46 z46 (by simp) (by simp [hid]) (by omega) (by omega) ?_
      · by_cases e : cap = i0 + 1
        · have hz : t.length - (i0 + 1) = 0 := by omega
          simp [srcA, hid, e, hz]
        · simp [srcA, hid, e]; omega
      intro s1 x1 hq
      rcases hq with ⟨h1, rfl, rfl⟩ | ⟨h1, _⟩
      rotate_left
      · omega
      have hU : (t.take i0 ++ t.drop (i0 + 1)).length = i0 + (t.length - (i0 + 1)) := by simp; omega
      have hy : (cs.drop (i0 + 1)).take (t.length - (i0 + 1)) = arL (t.drop (i0 + 1)) := by rw [← List.drop_take, htk, ← arL_drop]
      have hy2 : cs.take i0 = arL (t.take i0) := by
        have : (cs.take t.length).take i0 = cs.take i0 := by rw [List.take_take]; congr 1; omega
        rw [← this, htk, ← arL_take]
      have hyl : ((cs.drop (i0 + 1)).take (t.length - (i0 + 1))).length = t.length - (i0 + 1) := by simp; omega
      refine ⟨_, by simp; rfl, ?_⟩
      refine runA_fin (by simp; rfl) ?_
      refine W_fin7 (id := id) (U := t.take i0 ++ t.drop (i0 + 1)) (cap := cap) (cs := setSeg cs (i0 * 1) ((cs.drop (i0 + 1)).take (t.length - (i0 + 1)))) (by rw [hU]; simp) (by simp [(List.getElem?_eq_some_iff.1 hid).1]) (by rw [setSeg_length _ _ _ (by rw [hyl]; omega)]; exact hcl) ?_ (fun H' => ?_)
      · rw [hU, hy, Nat.mul_one]
        unfold setSeg
        rw [hy2, ← arL_append, List.take_append_of_le_length (by rw [arL_length, hU]; omega), List.take_of_length_le (by rw [arL_length, hU]; omega)]
      refine W_evK [6] (by simp [putF]; rfl) ?_
      refine W_ret ?_
      repeat (first | refine on_ret ?_ | refine in_ret ?_)
      exact ⟨_, by simp [retQ]; exact ⟨rfl, by simp⟩, .norm fun T => by simp⟩
    · rw [show spoilM t A B = t ++ [one] by rw [hsp0]; rfl]
      refine W_evK [1, 7, 9, 10, 47, 48] (by simp; rfl) ?_
      refine W_cond rfl (fun h => by simp at h) (fun h => ?_)
      refine W_evK [1, 7, 9, 10, 47, 60] (by simp; rfl) ?_
      refine W_cond rfl (fun h => by simp at h) (fun h => ?_)
      refine W_evK [1, 7, 9, 10, 47, 67] (by simp; rfl) ?_
      refine W_cond rfl (fun h => by simp at h) (fun h => ?_)
      refine W_evK [1, 7, 9, 10, 47, 73] (by simp; rfl) ?_
      refine W_cond rfl (fun h => by simp at h) (fun h => ?_)
      refine W_evK [1, 7, 9, 10, 47, 79] (by simp; rfl) ?_
      refine W_cond rfl (fun h => by simp at h) (fun h => ?_)
      refine W_evK [1, 7, 9, 10, 47, 92] (by simp; rfl) ?_
      refine W_cond rfl (fun h => by simp at h) (fun h => ?_)
      refine W_evK [1, 7, 9, 10, 47, 104] (by simp; rfl) ?_
      refine W_cond rfl (fun h => by simp at h) (fun h => ?_)
      refine W_evK [1, 7, 9, 10, 47, 122] (by simp; rfl) ?_
      refine W_cond rfl (fun h => ?_) (fun h => by simp at h)
      have bt : (t.length + 1) * 24 ≤ 140737488355328 := by omega
      refine W_rE [7] ?_
      refine runA_pre 2 (by simp; rfl) rfl ?_
      refine runA_call (by simp) (by first | (simp; done) | (simp; rfl)) (copyT_sound one hos) (by simp; rfl) ?_
      refine runA_pre 1 (by simp; rfl) rfl ?_
      refine runA_app (t := 26) (e := 46) (sz := 1) (by_ := 24) (id := id) (len := t.length) (cap := cap) (ys := [.lst .any 4 (trL one)]) (cs := cs) (yc := [.lst .any 4 (trL one)]) (by simp) rfl rfl rfl rfl (by simp) (by simp; rfl) s26 a46 z46 (by simp) (by simp [hid]) (by omega) (by simp [catK, AV.cellsK, AV.kone, AV.koneL]) (by simp; omega) ?_
      intro s1 x1 hq
      obtain ⟨id', cap', cs', h', rfl, rfl, k1, k2, k3, k4, k5⟩ := app_step (y := .lst .any 4 (trL one)) (by simp [hid]) hcl hjc hq
      refine ⟨_, by simp; rfl, ?_⟩
      refine runA_fin (by simp; rfl) ?_
      refine W_fin7 (U := t ++ [one]) (cap := cap') (cs := cs') (by simp) k1 k2 (by rw [List.length_append, List.length_singleton, k4, htk, arL_append]; rfl) (fun H' => ?_)
      refine W_evK [6] (by simp [putF]; rfl) ?_
      refine W_ret ?_
      repeat (first | refine on_ret ?_ | refine in_ret ?_)
      exact ⟨_, by simp [retQ]; exact ⟨rfl, by simp⟩, .norm fun T => by simp⟩
end Go.AM
