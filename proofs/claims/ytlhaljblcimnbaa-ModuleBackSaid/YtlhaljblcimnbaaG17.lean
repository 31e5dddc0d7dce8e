/- Parts of the walk: C31SB C31DG C31SD C31SE. -/
import Derived.Test.YtlhaljblcimnbaaG16
namespace Go.AM
open Go.RowKit Go.Proofs
set_option linter.unusedSimpArgs false
set_option linter.unusedVariables false
set_option maxHeartbeats 8000000
structure SeedOk (x : SeedM) : Prop where
 t : ∀ n ∈ x.txts, n < 65536
 r : ∀ n ∈ x.rlds, n < 65536
 l1 : x.esds.length ≤ 9223372036854775000
 l4 : x.txts.length ≤ 9223372036854775000
 l2 : x.rlds.length ≤ 9223372036854775000
 l3 : x.data.length ≤ 9223372036854775000
theorem all2_refl {α : Type} {f : α → α → Bool} (h : ∀ x, f x x = true) : ∀ l : List α, all2 f l l = true
 | [] => rfl
 | x :: l => by rw [all2, h x, all2_refl h l]; rfl
theorem eqM_self (o : OMod) : eqM o o = true := by
 unfold eqM headE
 rw [all2_refl (fun x => by simp [esEq]), all2_refl (fun x => by simp [txEq]), all2_refl (fun x => by simp [rdEq])]
 simp
theorem egoE_80 (l : List Esd) (h : ∀ x ∈ l, (wr9 x.name).length ≤ 16) : ∀ (f i : Nat), ∀ b ∈ egoE l f i, b.length = 80
 | 0, i, b, hb => by simp [egoE] at hb
 | f + 1, i, b, hb => by
  rw [egoE] at hb
  split at hb
  ·rcases List.mem_cons.1 hb with rfl | hb
   ·exact (cardE_facts ((l.drop i).take 3) (by rw [List.length_take]; omega) fun x hx => h x (List.mem_of_mem_drop (List.mem_of_mem_take hx))).1
   ·exact egoE_80 l h f (i + 3) b hb
  ·simp at hb
theorem egoR_80 (l : List Rld) : ∀ (f i : Nat), ∀ b ∈ egoR l f i, b.length = 80
 | 0, i, b, hb => by simp [egoR] at hb
 | f + 1, i, b, hb => by
  rw [egoR] at hb
  split at hb
  ·rcases List.mem_cons.1 hb with rfl | hb
   ·exact (cardR_facts ((l.drop i).take 7) (by rw [List.length_take]; omega)).1
   ·exact egoR_80 l f (i + 7) b hb
  ·simp at hb
theorem encO_80 {o : OMod} (h : chkM o = true) : ∀ b ∈ encO o, b.length = 80 := by
 have hD := chkM_DOk h
 intro b hb
 rw [encO_B] at hb
 rcases List.mem_append.1 hb with hb | hb
 ·unfold encB at hb
  rcases List.mem_append.1 hb with hb | hb
  ·exact egoE_80 o.esd (fun x hx => by
    have h1 := seqE_name o.esd 1 hD.es x hx
    rw [codeL_ok h1.1, enc1_len]
    omega) _ _ b hb
  rcases List.mem_append.1 hb with hb | hb
  ·obtain ⟨t, ht, rfl⟩ := List.mem_map.1 hb
   exact (cardT_facts t (hD.ts t ht)).1
  ·exact egoR_80 o.rld _ _ b hb
 ·rw [List.mem_singleton.1 hb]
  exact (cardN_facts o.entry hD.en.1 hD.en.2).1
theorem encO_count {o : OMod} (h : chkM o = true) : 1 ≤ (encO o).length ∧ (encO o).length ≤ 6145 := by
 have hO := chkM_ok h
 have h1 := egoE_len2 o.esd o.esd.length 0
 have h2 := egoR_len2 o.rld o.rld.length 0
 have h3 := hO.l1
 have h4 := hO.l2
 have h5 := hO.l3
 unfold encO
 simp only [List.length_append, List.length_map, List.length_singleton]
 omega
end Go.AM
namespace Go.AM
open Go.RowKit Go.Proofs
set_option linter.unusedSimpArgs false
set_option linter.unusedVariables false
set_option maxHeartbeats 2000000
theorem wb8 : ∀ (n v : Nat), v < 256 ^ n → valM (numM n v) = v
 | 0, v, h => by
  have : v = 0 := by simpa using h
  subst this
  rfl
 | n + 1, v, h => by
  rw [Nat.pow_succ] at h
  rw [numM, valM_snoc, wb8 n (v / 256) (by omega)]
  have : (UInt8.ofNat (v % 256)).toNat = v % 256 := by rw [UInt8.toNat_ofNat']; omega
  rw [this]
  omega
structure LDk (m : LMod) : Prop where
 e : 0 ≤ m.entry ∧ m.entry ≤ 65536
 sg : ∀ s ∈ m.seg, -1 ≤ s.par ∧ s.par ≤ 64 ∧ 0 ≤ s.org ∧ s.org ≤ 65536 ∧ 0 ≤ s.frm ∧ s.frm ≤ 1000000000 ∧ 0 ≤ s.len ∧ s.len ≤ 65536
 rl : ∀ r ∈ m.rel, 0 ≤ r.at_ ∧ r.at_ ≤ 1000000000 ∧ 1 ≤ r.len ∧ r.len ≤ 4
theorem ckM_LDk {m : LMod} (hck : ckM m = true) (ht : m.text.length ≤ 1000000000) : LDk m := by
 have hBf : ckB m = false := by simp only [ckM, Bool.and_eq_true, Bool.not_eq_true'] at hck; exact hck.1
 have hre : relGo m m.rel 0 = true := by simp only [ckM, Bool.and_eq_true, Bool.not_eq_true'] at hck; exact hck.2
 simp only [ckB, Bool.or_eq_false_iff, Bool.not_eq_false', decide_eq_false_iff_not] at hBf
 obtain ⟨hsg, h2, h3, h4⟩ := hBf
 obtain ⟨g1, g2, hsok⟩ := segM_inv hsg (by omega)
 have hgo : ∃ e, yr8 m.seg 0 m.seg 0 = some e := by
  rw [segM] at hsg
  cases hg : yr8 m.seg 0 m.seg 0 with
  | none => rw [hg] at hsg; cases hsg
  | some e => exact ⟨e, rfl⟩
 obtain ⟨e, hgo⟩ := hgo
 have he : e = m.text.length := by
  rw [segM, hgo] at hsg
  simp only [segF, Bool.and_eq_true, decide_eq_true_eq] at hsg
  exact hsg.2.2
 have hi := segGo_inv m.seg 0 0 e hgo (by omega)
 have hi2 := segGo_inv2 m.seg 0 0 e hgo
 refine ⟨⟨by omega, ?_⟩, fun s hs => ?_, fun r hr => ?_⟩
 ·obtain ⟨s0, hs0⟩ : ∃ s, m.seg[0]? = some s := ⟨_, List.getElem?_eq_getElem g1⟩
  have := (hsok s0 (List.mem_of_getElem? hs0)).2.2.2
  simp [paS, hs0] at h4
  omega
 ·have k1 := hi.2 s hs
  have k2 := hi2 s hs
  exact ⟨k2.1, by omega, k2.2.2.1, k2.2.2.2, k1.1, by omega, k1.2.2.1, k1.2.2.2⟩
 ·have k := relGo_inv m.rel 0 hre (by omega) r hr
  exact ⟨k.1, by omega, k.2.2.1, k.2.2.2⟩
theorem takeL (a b : List UInt8) (k : Nat) (h : a.length = k) : (a ++ b).take k = a := List.take_left' h
theorem rdS_seg (s : Seg) (R : List UInt8) (h : -1 ≤ s.par ∧ s.par ≤ 64 ∧ 0 ≤ s.org ∧ s.org ≤ 65536 ∧ 0 ≤ s.frm ∧ s.frm ≤ 1000000000 ∧ 0 ≤ s.len ∧ s.len ≤ 65536) : rdS (segR s ++ R) = s ∧ (segR s ++ R).drop 14 = R := by
 obtain ⟨p, o, f, n⟩ := s
 obtain ⟨h1, h2, h3, h4, h5, h6, h7, h8⟩ := h
 simp only at h1 h2 h3 h4 h5 h6 h7 h8
 have e2 : (256 : Nat) ^ 2 = 65536 := by decide
 have e4 : (256 : Nat) ^ 4 = 4294967296 := by decide
 have l2 : ∀ v, (numM 2 v).length = 2 := fun v => vd9 2 v
 have l4 : ∀ v, (numM 4 v).length = 4 := fun v => vd9 4 v
 have hs : segR ⟨p, o, f, n⟩ ++ R = numM 2 (p + 1).toNat ++ (numM 4 o.toNat ++ (numM 4 f.toNat ++ (numM 4 n.toNat ++ R))) := by simp [segR]
 have d2 : (segR ⟨p, o, f, n⟩ ++ R).drop 2 = numM 4 o.toNat ++ (numM 4 f.toNat ++ (numM 4 n.toNat ++ R)) := by rw [hs]; exact List.drop_left' (l2 _)
 have d6 : (segR ⟨p, o, f, n⟩ ++ R).drop 6 = numM 4 f.toNat ++ (numM 4 n.toNat ++ R) := by
  rw [show 6 = 2 + 4 from rfl, ← List.drop_drop, d2]; exact List.drop_left' (l4 _)
 have d10 : (segR ⟨p, o, f, n⟩ ++ R).drop 10 = numM 4 n.toNat ++ R := by
  rw [show 10 = 6 + 4 from rfl, ← List.drop_drop, d6]; exact List.drop_left' (l4 _)
 have d14 : (segR ⟨p, o, f, n⟩ ++ R).drop 14 = R := by
  rw [show 14 = 10 + 4 from rfl, ← List.drop_drop, d10]; exact List.drop_left' (l4 _)
 refine ⟨?_, d14⟩
 unfold rdS
 rw [d2, d6, d10, takeL _ _ 4 (l4 _), takeL _ _ 4 (l4 _), takeL _ _ 4 (l4 _), hs, takeL _ _ 2 (l2 _), wb8 _ _ (by omega), wb8 _ _ (by omega), wb8 _ _ (by omega), wb8 _ _ (by omega)]
 congr 1 <;> omega
theorem segR_len1 (s : Seg) : (segR s).length = 14 := by simp [segR]
theorem segRd_flat : ∀ (l : List Seg) (f : Nat), (∀ s ∈ l, -1 ≤ s.par ∧ s.par ≤ 64 ∧ 0 ≤ s.org ∧ s.org ≤ 65536 ∧ 0 ≤ s.frm ∧ s.frm ≤ 1000000000 ∧ 0 ≤ s.len ∧ s.len ≤ 65536) → l.length ≤ f → segRd f (l.flatMap segR) = l
 | [], f, h, hf => by
  cases f with
  | zero => rfl
  | succ f => rw [segRd, if_neg (by simp)]
 | s :: l, f, h, hf => by
  simp only [List.length_cons] at hf
  obtain ⟨f', rfl⟩ : ∃ f', f = f' + 1 := ⟨f - 1, by omega⟩
  obtain ⟨k1, k2⟩ := rdS_seg s (l.flatMap segR) (h s (by simp))
  rw [List.flatMap_cons, segRd, if_pos (by rw [List.length_append, segR_len1]; omega), k1, k2, segRd_flat l f' (fun t ht => h t (by simp [ht])) (by omega)]
theorem rloR_len (r : Rlo) : (rloR r).length = 5 := by simp [rloR]
theorem rdR_rlo (r : Rlo) (R : List UInt8) (h : 0 ≤ r.at_ ∧ r.at_ ≤ 1000000000 ∧ 1 ≤ r.len ∧ r.len ≤ 4) : rdR (rloR r ++ R) = r ∧ (rloR r ++ R).drop 5 = R := by
 obtain ⟨a, n, g⟩ := r
 obtain ⟨h1, h2, h3, h4⟩ := h
 simp only at h1 h2 h3 h4
 have e4 : (256 : Nat) ^ 4 = 4294967296 := by decide
 have l4 : ∀ v, (numM 4 v).length = 4 := fun v => vd9 4 v
 refine ⟨?_, List.drop_left' (rloR_len _)⟩
 have hs : rloR ⟨a, n, g⟩ ++ R = numM 4 a.toNat ++ (UInt8.ofNat (n.toNat + if g = true then 128 else 0) :: R) := by simp [rloR]
 have hb : (UInt8.ofNat (n.toNat + if g = true then 128 else 0)).toNat = n.toNat + if g = true then 128 else 0 := by
  rw [UInt8.toNat_ofNat']
  split <;> omega
 have hg : (rloR ⟨a, n, g⟩ ++ R).getD 4 0 = UInt8.ofNat (n.toNat + if g = true then 128 else 0) := by
  rw [hs, List.getD_eq_getElem?_getD, List.getElem?_append_right (by rw [l4]; omega), l4]
  rfl
 unfold rdR
 rw [hg, hb, hs, takeL _ _ 4 (l4 _), wb8 _ _ (by omega)]
 cases g with
 | true => simp only [if_pos]; congr 1 <;> first | omega | simp
 | false => simp only [Bool.false_eq_true, if_neg, not_false_eq_true]; congr 1 <;> first | omega | (rw [decide_eq_false_iff_not]; omega)
theorem relRd_flat : ∀ (l : List Rlo) (f : Nat), (∀ r ∈ l, 0 ≤ r.at_ ∧ r.at_ ≤ 1000000000 ∧ 1 ≤ r.len ∧ r.len ≤ 4) → l.length ≤ f → relRd f (l.flatMap rloR) = l
 | [], f, h, hf => by
  cases f with
  | zero => rfl
  | succ f => rw [relRd, if_neg (by simp)]
 | s :: l, f, h, hf => by
  simp only [List.length_cons] at hf
  obtain ⟨f', rfl⟩ : ∃ f', f = f' + 1 := ⟨f - 1, by omega⟩
  obtain ⟨k1, k2⟩ := rdR_rlo s (l.flatMap rloR) (h s (by simp))
  rw [List.flatMap_cons, relRd, if_pos (by rw [List.length_append, rloR_len]; omega), k1, k2, relRd_flat l f' (fun t ht => h t (by simp [ht])) (by omega)]
theorem flat5 (l : List Rlo) : (l.flatMap rloR).length = 5 * l.length := by
 induction l with
 | nil => rfl
 | cons r l ih => rw [List.flatMap_cons, List.length_append, rloR_len, ih, List.length_cons]; omega
theorem flat14 (l : List Seg) : (l.flatMap segR).length = 14 * l.length := by
 induction l with
 | nil => rfl
 | cons r l ih => rw [List.flatMap_cons, List.length_append, segR_len1, ih, List.length_cons]; omega
theorem goL_txt (t : List UInt8) (R : List (List UInt8)) (r : List Rlo) (s : List Seg) (e : Int) : ∀ (f i : Nat) (a : List UInt8), t.length ≤ i + f → goL (txtGo t f i ++ R) ⟨a, r, s, e⟩ = goL R ⟨a ++ t.drop i, r, s, e⟩
 | f, i, a, hf => by
  by_cases h : i < t.length
  ·obtain ⟨f', rfl, hf'⟩ : ∃ f', f = f' + 1 ∧ f' < f := ⟨f - 1, by omega, by omega⟩
   have hsp : t.drop i = (t.drop i).take 1000 ++ t.drop (i + 1000) := by
    rw [← List.drop_drop]
    exact (List.take_append_drop 1000 _).symm
   have hd : (2 :: (numM 4 i ++ (t.drop i).take 1000)).drop 5 = (t.drop i).take 1000 := by
    rw [show (5 : Nat) = 4 + 1 from rfl, List.drop_succ_cons]
    exact List.drop_left' (vd9 4 i)
   have ih := goL_txt t R r s e f' (i + 1000) (a ++ (t.drop i).take 1000) (by omega)
   rw [txtGo, if_pos h, List.cons_append, goL, if_neg (by simp), itemM]
   rw [if_neg (by simp), if_pos (by simp), hd]
   simp only
   rw [ih, List.append_assoc, ← hsp]
  ·rw [txtGo_end f i (by omega), List.drop_eq_nil_of_le (by omega)]
   simp
theorem goL_rel (l : List Rlo) (hl : ∀ r ∈ l, 0 ≤ r.at_ ∧ r.at_ ≤ 1000000000 ∧ 1 ≤ r.len ∧ r.len ≤ 4) (R : List (List UInt8)) (t : List UInt8) (s : List Seg) (e : Int) : ∀ (f i : Nat) (a : List Rlo), l.length ≤ i + f → goL (rloGo l f i ++ R) ⟨t, a, s, e⟩ = goL R ⟨t, a ++ l.drop i, s, e⟩
 | f, i, a, hf => by
  by_cases h : i < l.length
  ·obtain ⟨f', rfl, hf'⟩ : ∃ f', f = f' + 1 ∧ f' < f := ⟨f - 1, by omega, by omega⟩
   have hsp : l.drop i = (l.drop i).take 200 ++ l.drop (i + 200) := by
    rw [← List.drop_drop]
    exact (List.take_append_drop 200 _).symm
   obtain ⟨g, hg⟩ : ∃ g, (l.drop i).take 200 = g := ⟨_, rfl⟩
   have hg1 : 1 ≤ g.length := by rw [← hg, List.length_take, List.length_drop]; omega
   have hgm : ∀ r ∈ g, 0 ≤ r.at_ ∧ r.at_ ≤ 1000000000 ∧ 1 ≤ r.len ∧ r.len ≤ 4 := fun r hr => hl r (by rw [← hg] at hr; exact List.mem_of_mem_drop (List.mem_of_mem_take hr))
   have hfl := flat5 g
   have ih := goL_rel l hl R t s e f' (i + 200) (a ++ g) (by omega)
   rw [rloGo, if_pos h, List.cons_append, hg, goL, if_neg (by rw [rlR, List.length_cons, hfl]; omega), itemM]
   rw [if_neg (by simp [rlR]), if_neg (by simp [rlR]), if_pos (by simp [rlR])]
   have hd : relRd (rlR g).length ((rlR g).drop 1) = g := by
    rw [rlR, List.drop_one, List.tail_cons]
    exact relRd_flat g _ hgm (by simp only [List.length_cons]; omega)
   rw [hd]
   simp only
   rw [ih, List.append_assoc]
   rw [hg] at hsp
   rw [← hsp]
  ·rw [rloGo_end f i (by omega), List.drop_eq_nil_of_le (by omega)]
   simp
theorem goL_enc {m : LMod} (h : ckM m = true) (ht : m.text.length ≤ 1000000000) : goL (encL m) lm0 = some m := by
 obtain ⟨⟨he0, he1⟩, hs, hr⟩ := ckM_LDk h ht
 have e4 : (256 : Nat) ^ 4 = 4294967296 := by decide
 have hh : (zh7 m).length = 7 := by simp [zh7]
 have hd7 : (zh7 m ++ m.seg.flatMap segR).drop 7 = m.seg.flatMap segR := List.drop_left' hh
 have hd1 : ((zh7 m ++ m.seg.flatMap segR).drop 1).take 4 = numM 4 m.entry.toNat := by
  have : (zh7 m ++ m.seg.flatMap segR).drop 1 = numM 4 m.entry.toNat ++ (numM 2 m.seg.length ++ m.seg.flatMap segR) := by simp [zh7]
  rw [this]
  exact List.take_left' (vd9 4 _)
 have hfl := flat14 m.seg
 have hseg := segRd_flat m.seg (zh7 m ++ m.seg.flatMap segR).length hs (by rw [List.length_append]; omega)
 unfold encL
 rw [List.singleton_append, goL, if_neg (by rw [List.length_append]; omega), itemM, if_pos (by simp [zh7]), hd7, hseg, hd1, wb8 _ _ (by omega)]
 rw [goL_txt m.text _ _ _ _ m.text.length 0 _ (by omega), goL_rel m.rel hr _ _ _ _ m.rel.length 0 _ (by omega), goL, if_neg (by simp [endR]), itemM, if_neg (by simp [endR]), if_neg (by simp [endR]), if_neg (by simp [endR]), goL]
 have : ((m.entry.toNat : Nat) : Int) = m.entry := by omega
 simp [lm0, this]
theorem dcLM_enc {m : LMod} (h : ckM m = true) (ht : m.text.length ≤ 1000000000) : dcLM (encL m) = (m, true) := by
 rw [dcLM, goL_enc h ht]
 exact if_pos ⟨h, rfl⟩
theorem dcLM_some {L : List (List UInt8)} (h : (dcLM L).2 = true) : ckM (dcLM L).1 = true ∧ encL (dcLM L).1 = L := by
 cases hg : goL L lm0 with
 | none => rw [dcLM, hg] at h; cases h
 | some m =>
  by_cases hc : ckM m = true ∧ encL m = L
  ·have : dcLM L = (m, true) := by rw [dcLM, hg]; exact if_pos hc
   rw [this]
   exact hc
  ·have : dcLM L = (lm0, false) := by rw [dcLM, hg]; exact if_neg hc
   rw [this] at h
   cases h
end Go.AM
namespace Go.AM
open Go.RowKit Go.Proofs
set_option linter.unusedSimpArgs false
set_option linter.unusedVariables false
set_option maxHeartbeats 8000000
theorem goD_OBd : ∀ (L : List (List UInt8)) (s s' : OMod × Int) (n : Nat), OBd s n → goD true L s = some s' → OBd s' (n + L.length)
 | [], s, s', n, h, hg => by
  simp only [goD, Option.some.injEq] at hg
  subst hg
  simpa using h
 | b :: L, s, s', n, h, hg => by
  rw [goD] at hg
  split at hg
  ·rename_i hb
   split at hg
   ·cases hg
   ·rename_i s1 h1
    have := goD_OBd L s1 s' (n + 1) (h.item hb h1) hg
    simp only [List.length_cons]
    rwa [show n + (L.length + 1) = n + 1 + L.length by omega]
  ·cases hg
theorem dcD_OIn {L : List (List UInt8)} {o : OMod} (h : dcD true L = (o, true)) : OIn o := by
 cases hg : goD true L (om0, 1) with
 | none => rw [dcD, hg] at h; cases h
 | some s =>
  have hB := goD_OBd L (om0, 1) s 0 ⟨by simp [om0], by simp [om0], by simp [om0], by omega, by simp, ⟨by simp [om0], by simp [om0], by simp [om0]⟩⟩ hg
  by_cases hc : chkM s.1 = true ∧ encO s.1 = L
  ·have : dcD true L = (s.1, true) := by rw [dcD, hg]; exact if_pos hc
   rw [this] at h
   cases h
   exact hB.ok
  ·have : dcD true L = (om0, false) := by rw [dcD, hg]; exact if_neg hc
   rw [this] at h
   cases h
theorem encL_1024 (x : SeedM) : ∀ l ∈ encL (yd8 x), l.length ≤ 1024 := by
 obtain ⟨f1, f2, f3⟩ := loadM_fine x
 intro l hl
 have h2 := (txtGo_sum (yd8 x).text (yd8 x).text.length 0).2
 have h4 := (rloGo_sum (yd8 x).rel (yd8 x).rel.length 0).2
 have h5 : (zh7 (yd8 x) ++ (yd8 x).seg.flatMap segR).length = 7 + 14 * (yd8 x).seg.length := by rw [List.length_append, segR_len]; simp [zh7]
 have h6 : (endR (yd8 x)).length = 9 := by simp [endR]
 rw [encL] at hl
 simp only [List.mem_append, List.mem_singleton] at hl
 rcases hl with rfl | hl | hl | rfl
 ·omega
 ·have := h2 l hl; omega
 ·have := h4 l hl; omega
 ·omega
theorem sumL_80 : ∀ (L : List (List UInt8)), (∀ b ∈ L, b.length = 80) → sumL L = 80 * L.length
 | [], h => rfl
 | b :: L, h => by
  rw [vg9, sumL_80 L fun y hy => h y (by simp [hy]), h b (by simp), List.length_cons]
  omega
def ord7 : Ord := [0, 1, 2, 3].foldr Ord.one (.two 4 5 (.one 5 (.one 6 (.one 7 .done))) (.one 4 (.one 6 (.one 7 .done))))
def goodL (X : List (List UInt8)) : Prop := X.length ≤ 1000000 ∧ sumL X ≤ 1000000
theorem back_sound (x : SeedM) (hx : SeedOk x) (L : List (List UInt8)) (hL : L.length ≤ 9223372036854775000) (hb : ∀ l ∈ L, l.length ≤ 9223372036854775000) (A B : Nat) (hA : A < 65536) (hB : B < 65536) (c : UInt8) :
  Sound Try.prog 7 [seedA x, .lst .any 1 (bbL L), .v (.int .u16 (A : Nat)), .v (.int .u16 (B : Nat)), .v (.int .u8 c.toNat)] (.v (.bool true)) := by
 have hob := object_sound x hx.t hx.r hx.l1 hx.l4 hx.l2 hx.l3
 have hov := objM_valid x
 have hoi := (objM_ok x).1
 have hload := load_sound x hx.r hx.l1 hx.l2 hx.l3
 have hlv := loadM_valid x
 obtain ⟨f1, f2, f3⟩ := loadM_fine x
 obtain ⟨t1, t2, t3⟩ := told_ok x
 have t4 := encL_1024 x
 have hal := alike_sound (yd8 x) ⟨by omega, by omega, by omega⟩
 have hen2 := encL_sound (yd8 x) (by omega) (by omega) (by omega)
 rw [encR, if_pos hlv] at hen2
 have hdl := decodeLoad_sound (encL (yd8 x)) (by omega) (by omega)
 rw [dcLM_enc hlv (by omega)] at hdl
 have hen := encO_sound (objM x) hoi
 rw [encOR, if_pos hov] at hen
 have hcnt := encO_count hov
 have h80 := encO_80 hov
 have hdo := yf7 (encO (objM x)) (by omega)
 rw [dcD_enc true _ hov] at hdo
 have hO := chkM_ok hov
 have heq := objEqual_sound (objM x) (objM x) (by have := hO.l1; omega) (by have := hO.l2; omega) (by have := hO.l3; omega)
 rw [eqM_self] at heq
 obtain ⟨o, ho⟩ : ∃ o, objM x = o := ⟨_, rfl⟩
 rw [ho] at hob hen hdo heq hcnt h80
 obtain ⟨C, hC⟩ : ∃ C, encO o = C := ⟨_, rfl⟩
 rw [hC] at hen hdo hcnt h80
 obtain ⟨m, hm⟩ : ∃ m, yd8 x = m := ⟨_, rfl⟩
 rw [hm] at hload hal hen2 hdl t1 t2 t3 t4
 obtain ⟨E, hE⟩ : ∃ E, encL m = E := ⟨_, rfl⟩
 rw [hE] at hen2 hdl t1 t2 t3 t4
 simp only [if_true] at hdl hdo
 have hcut := cutLists_sound L hL hb
 obtain ⟨c1, c2, c3⟩ := cutLs_ok L 20 1100
 obtain ⟨K, hK⟩ : ∃ K, xr8 L 20 1100 = K := ⟨_, rfl⟩
 rw [hK] at hcut c1 c2 c3
 have hsumC := sumL_80 C h80
 have hsp1 := (spoil24_sound C A B c hA hB (by omega) (fun l hl => by have := h80 l hl; omega)).weakR
 have s1 := spM_sum (M := 80) (fun l hl => by have := h80 l hl; omega) A B c (t := C)
 have s2 := spM_len C A B c
 obtain ⟨S1, hS1⟩ : ∃ S, spM C A B c = S := ⟨_, rfl⟩
 rw [hS1] at hsp1 s1 s2
 have hsp1 : Sound Try.prog 24 [.lst .any 1 (bbL C), .v (.int .u16 (A : Nat)), .v (.int .u16 (B : Nat)), .v (.int .u8 c.toNat)] (.lst .any 1 (bbL S1)) := hsp1
 have hsp2 := (spoil24_sound E A B c hA hB (by omega) (fun l hl => by have := t3 l hl; omega)).weakR
 have s3 := spM_sum t3 A B c
 have s4 := spM_len E A B c
 obtain ⟨S2, hS2⟩ : ∃ S, spM E A B c = S := ⟨_, rfl⟩
 rw [hS2] at hsp2 s3 s4
 have hsp2 : Sound Try.prog 24 [.lst .any 1 (bbL E), .v (.int .u16 (A : Nat)), .v (.int .u16 (B : Nat)), .v (.int .u8 c.toNat)] (.lst .any 1 (bbL S2)) := hsp2
 have g1 : goodL K := ⟨by omega, by omega⟩
 have g2 : goodL S1 := ⟨by omega, by omega⟩
 have g3 : goodL S2 := ⟨by omega, by omega⟩
 refine zl9 Try.func7 rfl (by decide +kernel) (by simp [Try.f7]) (by simp [AV.rfL, AV.rf]) (by simp [AV.tlL, AV.tl]) (rs := [.tmp 10]) rfl ?_
 rw [show Try.f7.ntmps = 166 from rfl]
 refine yt9 [1, 2, 3, 4, 5] (by simp; rfl) ?_
 refine yk9 ?_
 refine W_rK [1, 2, 3, 4, 5, 34] ?_
 refine yj9 (by simp) (by first | (simp; done) | (simp; rfl)) works_sound (by simp; rfl) ?_
 refine yr9 (by simp; rfl) ?_
 refine yd9 rfl (fun h => by simp at h) (fun h => ?_)
 refine yh9 ?_
 refine ws9 (fun σ => AtS 166 [(1, .lst .any 1 (bbL L)), (2, .v (.int .u16 (A : Nat))), (3, .v (.int .u16 (B : Nat))), (4, .v (.int .u8 c.toNat)), (11, .loc 1 0), (12, .loc 2 0)] [.cells 30 (zw9 x), .cells 26 (obC o), .cells 40 (lmC m)] σ) ?_ ?_
 ·refine wq9 [1, 2, 3, 4, 11, 12] (W_ord ro0 ord7 mx (by decide +kernel) ?_)
  refine runO_runD [0, 1, 2, 3] [_, _, _, _] _ rfl (by simp [ro0]) ?_
  refine yw9 1 (by simp [zw9]; rfl) rfl ?_
  refine yb9 (by simp) (by first | (simp; done) | (simp; rfl)) hob (by simp [strB]; rfl) ?_
  refine yw9 1 (by simp [zw9]; rfl) rfl ?_
  refine yb9 (by simp) (by first | (simp; done) | (simp; rfl)) hload (by simp; rfl) ?_
  refine evO_runO _ _ _ (by simp [evO, ro0, roAt, ys9, strB]; rfl) ?_
  intro s' hs'
  simp only [List.mem_append, List.mem_singleton, List.mem_cons, List.not_mem_nil, or_false] at hs'
  rcases hs' with rfl | rfl
  ·exact ⟨_, Seen.refl _ _, rfl, rfl, by simp [FrOk, getF, zh8]⟩
  ·exact ⟨swSt 1 2 _, Seen.sw (by simp) (by simp) (by simp) (by simp), rfl, rfl, by simp [FrOk, getF, zh8, swSt, AV.sw, sw]⟩
 rintro σ hσ
 refine W_at hσ ?_
 refine W_rK [1, 2, 3, 4, 11, 12, 13, 14] ?_
 refine yq9 1 (by simp [obC]; rfl) rfl ?_
 refine yj9 (by simp) (by simp [strB]; rfl) hen (by simp; rfl) ?_
 refine yr9 (by simp; rfl) ?_
 refine W_rK [1, 2, 3, 4, 11, 12, 13, 14, 15, 16] ?_
 refine yq9 1 (by simp [lmC]; rfl) rfl ?_
 refine yj9 (by simp) (by first | (simp; done) | (simp; rfl)) hen2 (by simp; rfl) ?_
 refine yr9 (by simp; rfl) ?_
 refine W_rK [1, 2, 3, 4, 11, 12, 13, 14, 15, 16, 17, 18] ?_
 refine yq9 1 (by simp; rfl) rfl ?_
 refine yj9 (by simp) (by first | (simp; done) | (simp; rfl)) hdo (by simp [strB]; rfl) ?_
 refine yr9 (by simp [ys9, strB]; rfl) ?_
 refine W_rK [1, 2, 3, 4, 11, 12, 13, 14, 15, 16, 17, 18, 19, 20] ?_
 refine yq9 1 (by simp; rfl) rfl ?_
 refine yj9 (by simp) (by first | (simp; done) | (simp; rfl)) hdl (by simp; rfl) ?_
 refine yr9 (by simp [ys9]; rfl) ?_
 refine yk9 ?_
 refine W_rK [1, 2, 3, 4, 13, 15, 84] ?_
 refine yq9 6 (by simp; rfl) rfl ?_
 refine yq9 6 (by simp; rfl) rfl ?_
 refine yq9 5 (by simp; rfl) rfl ?_
 refine yj9 (by simp) (by first | (simp [strB]; done) | (simp [strB]; rfl)) heq (by simp; rfl) ?_
 refine yq9 5 (by simp; rfl) rfl ?_
 refine yj9 (by simp) (by first | (simp; done) | (simp; rfl)) hal (by simp; rfl) ?_
 refine yr9 (by simp; rfl) ?_
 refine yd9 rfl (fun h => by simp at h) (fun h => ?_)
 refine yh9 ?_
 refine xd9 0 (Nat.zero_le _) (by simp) (by simp [yn9, AV.under, AV.underL]) (by simp [yg9]) ?_
 refine ws9 (fun σ => σ = ⟨166, [(1, .lst .any 1 (bbL L)), (2, .v (.int .u16 (A : Nat))), (3, .v (.int .u16 (B : Nat))), (4, .v (.int .u8 c.toNat)), (13, .lst .any 1 (bbL C)), (15, .lst .any 1 (bbL E))], []⟩) ?_ ?_
 ·refine yt9 [1, 2, 3, 4, 13, 15, 86, 87] (by simp; rfl) ?_
  refine yf9 ?_
  refine zn9 (fun k s => ∃ i : Nat, k = C.length - i ∧ i ≤ C.length ∧ s = ⟨166, [(1, .lst .any 1 (bbL L)), (2, .v (.int .u16 (A : Nat))), (3, .v (.int .u16 (B : Nat))), (4, .v (.int .u8 c.toNat)), (13, .lst .any 1 (bbL C)), (15, .lst .any 1 (bbL E)), (86, .v (.int .i64 (C.length : Nat))), (87, .v (.int .i64 (i : Nat)))], []⟩) (k := C.length) ⟨0, rfl, by omega, by simp⟩ ?_
  rintro k s ⟨i, rfl, hi, rfl⟩
  by_cases q : i < C.length
  rotate_left
  ·have qi : ¬ (i : Int) < C.length := by omega
   refine yt9 [1, 2, 3, 4, 13, 15, 88] (by simp [q, qi]; rfl) ?_
   refine yk9 ?_
   refine yd9 rfl (fun h => by simp at h) (fun h => ?_)
   refine zt9 [1, 2, 3, 4, 13, 15] ?_
   refine zh9 ?_
   simp [yp9, inBlk]
  have qi : (i : Int) < C.length := by omega
  obtain ⟨b, hbb⟩ : ∃ b, C[i]? = some b := ⟨_, List.getElem?_eq_getElem q⟩
  have hb2 : C[i]'q = b := by rw [List.getElem?_eq_getElem q] at hbb; exact Option.some.inj hbb
  have hbl := h80 b (List.mem_of_getElem? hbb)
  have wi := w64 (n := (i : Int) + 1) (by omega) (by omega)
  refine yt9 [1, 2, 3, 4, 13, 15, 86, 87, 88] (by simp [q, qi]; rfl) ?_
  refine yk9 ?_
  refine yd9 rfl (fun h => ?_) (fun h => by simp at h)
  refine yh9 ?_
  refine yk9 ?_
  refine yf9 ?_
  refine yt9 [1, 2, 3, 4, 13, 15, 86, 87, 21] (by simp; rfl) ?_
  refine W_cF [1, 2, 3, 4, 13, 15, 86, 87, 95] (by simp [q, qi, hb2, hbl]; rfl) rfl ?_
  refine yh9 ?_
  refine zs9 [1, 2, 3, 4, 13, 15, 86, 87] (by simp [wi]; rfl) ?_
  exact ⟨_, by omega, i + 1, rfl, by omega, by simp⟩
 rintro _ rfl
 refine ws9 (fun σ => σ = ⟨166, [(1, .lst .any 1 (bbL L)), (2, .v (.int .u16 (A : Nat))), (3, .v (.int .u16 (B : Nat))), (4, .v (.int .u8 c.toNat)), (13, .lst .any 1 (bbL C)), (15, .lst .any 1 (bbL E))], []⟩) ?_ ?_
 ·refine yt9 [1, 2, 3, 4, 13, 15, 98, 99] (by simp; rfl) ?_
  refine yf9 ?_
  refine zn9 (fun k s => ∃ i : Nat, k = E.length - i ∧ i ≤ E.length ∧ s = ⟨166, [(1, .lst .any 1 (bbL L)), (2, .v (.int .u16 (A : Nat))), (3, .v (.int .u16 (B : Nat))), (4, .v (.int .u8 c.toNat)), (13, .lst .any 1 (bbL C)), (15, .lst .any 1 (bbL E)), (98, .v (.int .i64 (E.length : Nat))), (99, .v (.int .i64 (i : Nat)))], []⟩) (k := E.length) ⟨0, rfl, by omega, by simp⟩ ?_
  rintro k s ⟨i, rfl, hi, rfl⟩
  by_cases q : i < E.length
  rotate_left
  ·have qi : ¬ (i : Int) < E.length := by omega
   refine yt9 [1, 2, 3, 4, 13, 15, 100] (by simp [q, qi]; rfl) ?_
   refine yk9 ?_
   refine yd9 rfl (fun h => by simp at h) (fun h => ?_)
   refine zt9 [1, 2, 3, 4, 13, 15] ?_
   refine zh9 ?_
   simp [yp9, inBlk]
  have qi : (i : Int) < E.length := by omega
  obtain ⟨b, hbb⟩ : ∃ b, E[i]? = some b := ⟨_, List.getElem?_eq_getElem q⟩
  have hb2 : E[i]'q = b := by rw [List.getElem?_eq_getElem q] at hbb; exact Option.some.inj hbb
  have hbl := t4 b (List.mem_of_getElem? hbb)
  have hbn : ¬ 1024 < b.length := by omega
  have hbi : ¬ (1024 : Int) < b.length := by omega
  have wi := w64 (n := (i : Int) + 1) (by omega) (by omega)
  refine yt9 [1, 2, 3, 4, 13, 15, 98, 99, 100] (by simp [q, qi]; rfl) ?_
  refine yk9 ?_
  refine yd9 rfl (fun h => ?_) (fun h => by simp at h)
  refine yh9 ?_
  refine yk9 ?_
  refine yf9 ?_
  refine yt9 [1, 2, 3, 4, 13, 15, 98, 99, 22] (by simp; rfl) ?_
  refine W_cF [1, 2, 3, 4, 13, 15, 98, 99, 107] (by simp [q, qi, hb2, hbl, hbn, hbi]; rfl) rfl ?_
  refine yh9 ?_
  refine zs9 [1, 2, 3, 4, 13, 15, 98, 99] (by simp [wi]; rfl) ?_
  exact ⟨_, by omega, i + 1, rfl, by omega, by simp⟩
 rintro _ rfl
 refine yk9 ?_
 refine W_rK [121, 122] ?_
 refine yq9 1 (by simp; rfl) rfl ?_
 refine yj9 (by simp) (by first | (simp; done) | (simp; rfl)) hcut (by simp; rfl) ?_
 refine yq9 4 (by simp; rfl) rfl ?_
 refine yj9 (by simp) (by first | (simp; done) | (simp; rfl)) hsp1 (by simp; rfl) ?_
 refine yq9 4 (by simp; rfl) rfl ?_
 refine yj9 (by simp) (by first | (simp; done) | (simp; rfl)) hsp2 (by simp; rfl) ?_
 refine yr9 (by simp; rfl) ?_
 refine yf9 ?_
 refine zn9 (fun k s => ∃ i : Nat, k = 3 - i ∧ i ≤ 3 ∧ s = ⟨166, [(121, .agg [.lst .any 1 (bbL K), .lst .any 1 (bbL S1), .lst .any 1 (bbL S2)]), (122, .v (.int .i64 (i : Nat)))], []⟩) (k := 3) ⟨0, rfl, by omega, by simp [ys9]⟩ ?_
 rintro k s ⟨i, rfl, hi, rfl⟩
 by_cases q : i < 3
 rotate_left
 ·have qi : i = 3 := by omega
  subst qi
  refine yt9 [123] (by simp; rfl) ?_
  refine yk9 ?_
  refine yd9 rfl (fun h => by simp at h) (fun h => ?_)
  refine zh9 ?_
  refine yt9 [10] (by simp; rfl) ?_
  refine zr9 ?_
  repeat (first | refine yl9 ?_ | refine yc9 ?_)
  simp [retQ]
 have qi : (i : Int) < 3 := by omega
 have wi := w64 (n := (i : Int) + 1) (by omega) (by omega)
 refine yt9 [121, 122, 123] (by simp [q, qi]; rfl) ?_
 refine yk9 ?_
 refine yd9 rfl (fun h => ?_) (fun h => by simp at h)
 refine yh9 ?_
 refine yk9 ?_
 refine yf9 ?_
 obtain ⟨AA, hAA⟩ : ∃ a, AV.agg [.lst .any 1 (bbL K), .lst .any 1 (bbL S1), .lst .any 1 (bbL S2)] = a := ⟨_, rfl⟩
 have hAu : ∀ n, AV.under n AA = true := fun n => by rw [← hAA]; simp [AV.under, AV.underL]
 have hAk : ∀ t, AV.kill t AA = AA := fun t => by rw [← hAA]; simp [AV.kill, AV.killL]
 refine ws9 (fun σ => ∃ X, goodL X ∧ σ = ⟨166, [(121, AA), (122, .v (.int .i64 (i : Nat))), (24, .lst .any 1 (bbL X))], []⟩) ?_ ?_
 ·rw [← hAA]
  have hh : i = 0 ∨ i = 1 ∨ i = 2 := by omega
  rcases hh with rfl | rfl | rfl
  ·refine zs9 [121, 122, 24] (by simp; rfl) ?_
   exact ⟨K, g1, by simp⟩
  ·refine zs9 [121, 122, 24] (by simp; rfl) ?_
   exact ⟨S1, g2, by simp⟩
  ·refine zs9 [121, 122, 24] (by simp; rfl) ?_
   exact ⟨S2, g3, by simp⟩
 rintro _ ⟨X, ⟨gx1, gx2⟩, rfl⟩
 have hdoX := yf7 X gx1
 have hdlX := decodeLoad_sound X gx2 gx1
 have hsm := same30_sound X X (by omega)
 rw [decide_eq_true rfl] at hsm
 have hcs := dcD_cases true X
 obtain ⟨P, hP⟩ : ∃ P, dcD true X = P := ⟨_, rfl⟩
 obtain ⟨P1, P2⟩ := P
 rw [hP] at hdoX hcs
 simp only at hdoX
 refine W_rK [121, 122, 24, 25, 26] ?_
 refine yq9 1 (by simp; rfl) rfl ?_
 refine yj9 (by simp) (by first | (simp; done) | (simp; rfl)) hdoX (by simp [strB]; rfl) ?_
 refine yr9 (by simp [ys9, strB]; rfl) ?_
 refine ws9 (fun σ => ∃ H, yg9 0 (H.take 0) = true ∧ σ = ⟨166, [(121, AA), (122, .v (.int .i64 (i : Nat))), (24, .lst .any 1 (bbL X))], H⟩) ?_ ?_
 ·cases P2 with
  | false =>
   refine W_cF [121, 122, 24, 25, 131] (by simp; rfl) rfl ?_
   refine zt9 [121, 122, 24] ?_
   refine yh9 ?_
   exact ⟨_, by simp [yg9], by simp; rfl⟩
  | true =>
   obtain ⟨o', hc1, hc2, hc3⟩ : ∃ o', (P1, true) = (o', true) ∧ chkM o' = true ∧ encO o' = X := by
    rcases hcs with h | h
    ·cases h
    ·exact h
   obtain rfl : P1 = o' := congrArg Prod.fst hc1
   have henX := encO_sound P1 (dcD_OIn hP)
   rw [encOR, if_pos hc2, hc3] at henX
   refine W_cT [121, 122, 24, 25, 131] (by simp; rfl) rfl ?_
   refine W_rK [121, 122, 24, 27, 28] ?_
   refine yq9 1 (by simp; rfl) rfl ?_
   refine yj9 (by simp) (by first | (simp [strB]; done) | (simp [strB]; rfl)) henX (by simp; rfl) ?_
   refine yr9 (by simp; rfl) ?_
   refine W_rK [121, 122, 24, 144] ?_
   refine yq9 5 (by simp; rfl) rfl ?_
   refine yj9 (by simp) (by first | (simp; done) | (simp; rfl)) hsm (by simp; rfl) ?_
   refine yr9 (by simp; rfl) ?_
   refine yd9 rfl (fun h => by simp at h) (fun h => ?_)
   refine zt9 [121, 122, 24] ?_
   refine yh9 ?_
   exact ⟨_, by simp [yg9], by simp; rfl⟩
 rintro _ ⟨H, hH, rfl⟩
 refine xd9 0 (Nat.zero_le _) (Nat.zero_le _) (by simp [yn9, AV.under, AV.underL, hAu]) hH ?_
 rw [List.take_zero]
 have hcl : ∀ q : Bool, (dcLM X).2 = q → Sound Try.prog 28 [.lst .any 1 (bbL X)] (.tup [lmA (dcLM X).1, .v (.int .i64 (if q = true then 0 else 310))]) := fun q h => by rw [← h]; exact hdlX
 refine W_rK [121, 122, 24, 29, 30] ?_
 refine yq9 1 (by simp; rfl) rfl ?_
 cases hq : (dcLM X).2 with
 | false =>
  refine yj9 (by simp) (by first | (simp; done) | (simp; rfl)) (hcl false hq) (by simp; rfl) ?_
  refine yr9 (by simp [ys9]; rfl) ?_
  refine W_cF [121, 122, 24, 29, 151] (by simp; rfl) rfl ?_
  refine zt9 [121, 122] ?_
  refine yh9 ?_
  refine xd9 0 (Nat.zero_le _) (Nat.zero_le _) (by simp [yn9, AV.under, AV.underL, hAu]) rfl ?_
  refine zs9 [121, 122] (by simp [wi]; rfl) ?_
  exact ⟨_, by omega, i + 1, rfl, by omega, by simp [hAA]⟩
 | true =>
  obtain ⟨k1, k2⟩ := dcLM_some hq
  obtain ⟨m1, m2, m3⟩ := dcLM_sm X gx2
  have henX := encL_sound (dcLM X).1 m1 (by omega) (by omega)
  rw [encR, if_pos k1, k2] at henX
  refine yj9 (by simp) (by first | (simp; done) | (simp; rfl)) (hcl true hq) (by simp; rfl) ?_
  refine yr9 (by simp [ys9]; rfl) ?_
  refine W_cT [121, 122, 24, 29, 151] (by simp; rfl) rfl ?_
  refine W_rK [121, 122, 24, 31, 32] ?_
  refine yq9 1 (by simp; rfl) rfl ?_
  refine yj9 (by simp) (by first | (simp; done) | (simp; rfl)) henX (by simp; rfl) ?_
  refine yr9 (by simp; rfl) ?_
  refine W_rK [121, 122, 164] ?_
  refine yq9 5 (by simp; rfl) rfl ?_
  refine yj9 (by simp) (by first | (simp; done) | (simp; rfl)) hsm (by simp; rfl) ?_
  refine yr9 (by simp; rfl) ?_
  refine yd9 rfl (fun h => by simp at h) (fun h => ?_)
  refine zt9 [121, 122] ?_
  refine yh9 ?_
  refine xd9 0 (Nat.zero_le _) (Nat.zero_le _) (by simp [yn9, AV.under, AV.underL, hAu]) rfl ?_
  refine zs9 [121, 122] (by simp [wi]; rfl) ?_
  exact ⟨_, by omega, i + 1, rfl, by omega, by simp [hAA]⟩
end Go.AM
namespace Go.AM
open Go.RowKit Go.Proofs
set_option linter.unusedSimpArgs false
set_option linter.unusedVariables false
set_option maxHeartbeats 1000000
theorem back_law {n : Nat} {xs : List AV} (hx : TyAll Try.prog (n + 5) [30, 47, 56, 56, 5] xs) : Sound Try.prog 7 xs (.v (.bool true)) := by
 obtain ⟨y, x, z, w, v, rfl, h2, h1, h3, h4, h5⟩ := tyAll5 hx
 obtain ⟨L, hL, k1, k2⟩ := ty_bbs tf (by kernel_rfl) (by kernel_rfl) (by kernel_rfl) h1
 obtain ⟨s, hs, j1, j2, j3, j4, j5, j6⟩ := ty_seed tf h2
 obtain ⟨A, rfl, hA⟩ := ty_u16 tf.u56 h3
 obtain ⟨B, rfl, hB⟩ := ty_u16 tf.u56 h4
 obtain ⟨c, rfl⟩ := ty_u8 tf.u5 h5
 refine Sound.dp ?_
 have e : AV.dpL [y, x, AV.v (.int .u16 A), AV.v (.int .u16 B), AV.v (.int .u8 c.toNat)] = [seedA s, .lst .any 1 (bbL L), .v (.int .u16 (A : Nat)), .v (.int .u16 (B : Nat)), .v (.int .u8 c.toNat)] := by simp only [AV.dpL, AV.dp, hL, hs]
 rw [e]
 exact back_sound s ⟨j1, j2, j3, j4, j5, j6⟩ L k1 k2 A B hA hB c
end Go.AM
