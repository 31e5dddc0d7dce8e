/- Parts of the walk: C31DB C31DC C31RA C31RB C31DD. -/
import Derived.Test.YtlhaljblcimnbaaG8
namespace Go.AM
open Go.RowKit Go.Proofs
set_option linter.unusedSimpArgs false
set_option linter.unusedVariables false
set_option maxHeartbeats 2000000
def seqE : Int → List Esd → Prop
 | _, [] => True
 | nx, x :: l => (zk8 nx x = true ∧ EOk x) ∧ seqE (nx1 nx x) l
theorem seqE_app : ∀ (l m : List Esd) (nx : Int), seqE nx (l ++ m) → seqE nx l ∧ seqE (l.foldl nx1 nx) m
 | [], m, nx, h => ⟨trivial, h⟩
 | x :: l, m, nx, h => by
  have := seqE_app l m (nx1 nx x) h.2
  exact ⟨⟨h.1, this.1⟩, this.2⟩
theorem seqE_get (l : List Esd) (nx : Int) (h : seqE nx l) (k : Nat) (x : Esd) (hx : l[k]? = some x) : zk8 ((l.take k).foldl nx1 nx) x = true ∧ EOk x := by
 have hk : k < l.length := (List.getElem?_eq_some_iff.1 hx).1
 have e : l = l.take k ++ (x :: l.drop (k + 1)) := by
  have h1 := (List.take_append_drop k l).symm
  rw [List.drop_eq_getElem_cons hk] at h1
  rw [List.getElem?_eq_getElem hk] at hx
  rw [Option.some.inj hx] at h1
  exact h1
 rw [e] at h
 exact (seqE_app _ _ _ h).2.1
theorem itemsGo_len : ∀ (g : List Esd) (i : Nat) (c : List UInt8), c.length = 80 → g.length + i ≤ 4 → (∀ x ∈ g, (xf9 x.name).length ≤ 16) → (vc9 g i c).length = 80
 | [], i, c, hc, hg, hn => hc
 | x :: g, i, c, hc, hg, hn => by
  simp only [List.length_cons] at hg
  have he := eItem_len x (hn x (by simp))
  exact itemsGo_len g (i + 1) _ (by rw [wd9 _ _ _ (by omega)]; exact hc) (by omega) fun y hy => hn y (by simp [hy])
theorem zp7 : ∀ (g : List Esd) (i : Nat) (c : List UInt8) (a n : Nat), c.length = 80 → g.length + i ≤ 4 → (∀ x ∈ g, (xf9 x.name).length ≤ 16) → a + n ≤ 16 + 16 * i → sbM (vc9 g i c) a n = sbM c a n
 | [], i, c, a, n, hc, hg, hn, ha => rfl
 | x :: g, i, c, a, n, hc, hg, hn, ha => by
  simp only [List.length_cons] at hg
  have he := eItem_len x (hn x (by simp))
  rw [vc9, zp7 g (i + 1) _ a n (by rw [wd9 _ _ _ (by omega)]; exact hc) (by omega) (fun y hy => hn y (by simp [hy])) (by omega), vv8 _ _ _ _ _ (by omega) (.inl (by omega))]
theorem itemsGo_sb : ∀ (g : List Esd) (i : Nat) (c : List UInt8) (j : Nat) (x : Esd), c.length = 80 → g.length + i ≤ 4 → (∀ x ∈ g, (xf9 x.name).length ≤ 16) → g[j]? = some x → sbM (vc9 g i c) (16 + 16 * (i + j)) 16 = zc8 x
 | [], i, c, j, x, hc, hg, hn, hx => by simp at hx
 | y :: g, i, c, j, x, hc, hg, hn, hx => by
  simp only [List.length_cons] at hg
  have he := eItem_len y (hn y (by simp))
  have hl : (putM c (16 + 16 * i) (zc8 y)).length = 80 := by rw [wd9 _ _ _ (by omega)]; exact hc
  rw [vc9]
  cases j with
  | zero =>
   simp only [List.getElem?_cons_zero, Option.some.injEq] at hx
   subst hx
   rw [zp7 g (i + 1) _ _ _ hl (by omega) (fun y hy => hn y (by simp [hy])) (by omega), Nat.add_zero, sb_eq _ _ _ _ (by omega) he]
  | succ j =>
   simp only [List.getElem?_cons_succ] at hx
   have := itemsGo_sb g (i + 1) (putM c (16 + 16 * i) (zc8 y)) j x hl (by omega) (fun y hy => hn y (by simp [hy])) hx
   rw [show i + 1 + j = i + (j + 1) by omega] at this
   exact this
theorem cESD : (vp9 xq8).length = 80 ∧ decM (sbM (vp9 xq8) 1 3) = xq8 := by decide +kernel
theorem cTXT : (vp9 xd8).length = 80 ∧ decM (sbM (vp9 xd8) 1 3) = xd8 := by decide +kernel
theorem cRLD : (vp9 wd8).length = 80 ∧ decM (sbM (vp9 wd8) 1 3) = wd8 := by decide +kernel
theorem cEND : (vp9 vn9).length = 80 ∧ decM (sbM (vp9 vn9) 1 3) = vn9 ∧ (vp9 vn9).drop 16 = wr9 64 := by decide +kernel
theorem zj7 (g : List Esd) (hg : g.length ≤ 3) (hn : ∀ x ∈ g, (xf9 x.name).length ≤ 16) :
  (yc7 g).length = 80 ∧ decM (sbM (yc7 g) 1 3) = xq8 ∧ valM (sbM (yc7 g) 10 2) = 16 * g.length ∧ ∀ j x, g[j]? = some x → sbM (yc7 g) (16 + 16 * j) 16 = zc8 x := by
 obtain ⟨l0, n0⟩ := cESD
 have h256 : (256 : Nat) ^ 2 = 65536 := by decide
 have b1 : 10 + (numM 2 (16 * g.length)).length ≤ (vp9 xq8).length := by simp; omega
 have l1 : (card1 g).length = 80 := by rw [card1, wd9 _ _ _ b1]; exact l0
 have b2 : ∀ v, 14 + (numM 2 v).length ≤ (card1 g).length := by intro v; simp; omega
 have l2 : (card2 g).length = 80 := by
  unfold card2
  split
  ·rw [wd9 _ _ _ (b2 _)]; exact l1
  ·exact l1
 have s2 : ∀ a n, a + n ≤ 14 → sbM (card2 g) a n = sbM (card1 g) a n := by
  intro a n h
  unfold card2
  split
  ·rw [vv8 _ _ _ _ _ (b2 _) (.inl (by omega))]
  ·rfl
 refine ⟨itemsGo_len g 0 _ l2 (by omega) hn, ?_, ?_, fun j x hx => ?_⟩
 ·rw [yc7, zp7 g 0 _ _ _ l2 (by omega) hn (by omega), s2 _ _ (by omega), card1, vv8 _ _ _ _ _ b1 (.inl (by omega)), n0]
 ·rw [yc7, zp7 g 0 _ _ _ l2 (by omega) hn (by omega), s2 _ _ (by omega), card1, sb_eq _ _ _ _ b1 (by simp), vg9 _ _ (by omega)]
 ·have := itemsGo_sb g 0 (card2 g) j x l2 (by omega) hn hx
  rw [Nat.zero_add] at this
  exact this
theorem rdEs_card (g : List Esd) (nx : Int) (base : List Esd) (hg : g.length ≤ 3) (hs : seqE nx g) : ∀ k, k ≤ g.length → rdEs (yc7 g) base nx k = (base ++ g.take k, (g.take k).foldl nx1 nx)
 | 0, _ => by simp [rdEs]
 | k + 1, hk => by
  have ih := rdEs_card g nx base hg hs k (by omega)
  obtain ⟨x, hx⟩ : ∃ x, g[k]? = some x := ⟨_, List.getElem?_eq_getElem (by omega)⟩
  have hn : ∀ x ∈ g, (xf9 x.name).length ≤ 16 := by
   intro y hy
   obtain ⟨j, hj⟩ := List.mem_iff_getElem?.1 hy
   have := (seqE_get g nx hs j y hj).2.n
   omega
  have hf := (zj7 g hg hn).2.2.2 k x hx
  obtain ⟨hr, ho⟩ := seqE_get g nx hs k x hx
  have ht : g.take (k + 1) = g.take k ++ [x] := by rw [List.take_add_one, hx]; rfl
  rw [rdEs, ih]
  simp only
  rw [rdE_sb, hf, rdE_item hr ho.a1 ⟨ho.i0, ho.i1⟩ ho.a0, ht, List.foldl_append]
  simp
theorem nmNe : ¬ xd8 = xq8 ∧ ¬ wd8 = xq8 ∧ ¬ wd8 = xd8 ∧ ¬ vn9 = xq8 ∧ ¬ vn9 = xd8 ∧ ¬ vn9 = wd8 := by decide
theorem cntE_16 (p : Bool) (n : Nat) (h : n ≤ 3) : cntE p (16 * n) = n := by
 unfold cntE
 split <;> omega
theorem cntR_8 (p : Bool) (n : Nat) (h : n ≤ 7) : cntR p (8 * n) = n := by
 unfold cntR
 split <;> omega
theorem goD_esd (p : Bool) (l : List Esd) (R : List (List UInt8)) (T : List Txt) (D : List Rld) (e : List UInt8) : ∀ (f i : Nat) (A : List Esd) (nx : Int), l.length ≤ i + f → seqE nx (l.drop i) →
  goD p (egoE l f i ++ R) (⟨A, T, D, e⟩, nx) = goD p R (⟨A ++ l.drop i, T, D, e⟩, (l.drop i).foldl nx1 nx)
 | f, i, A, nx, hf, hs => by
  by_cases h : i < l.length
  ·obtain ⟨f', rfl, hf'⟩ : ∃ f', f = f' + 1 ∧ f' < f := ⟨f - 1, by omega, by omega⟩
   rw [egoE, if_pos h, List.cons_append]
   obtain ⟨g, hg⟩ : ∃ g, (l.drop i).take 3 = g := ⟨_, rfl⟩
   have hsp : l.drop i = g ++ l.drop (i + 3) := by
    rw [← hg, ← List.drop_drop]
    exact (List.take_append_drop 3 _).symm
   have hg3 : g.length ≤ 3 := by rw [← hg, List.length_take]; omega
   rw [hsp] at hs
   obtain ⟨s1, s2⟩ := seqE_app _ _ _ hs
   have hn : ∀ x ∈ g, (xf9 x.name).length ≤ 16 := by
    intro y hy
    obtain ⟨j, hj⟩ := List.mem_iff_getElem?.1 hy
    have := (seqE_get g nx s1 j y hj).2.n
    omega
   obtain ⟨c1, c2, c3, _⟩ := zj7 g hg3 hn
   have ih := goD_esd p l R T D e f' (i + 3) (A ++ g) (g.foldl nx1 nx) (by omega) s2
   rw [hg, goD, if_pos c1, itemD, if_pos c2, c3, cntE_16 _ _ hg3]
   simp only
   rw [rdEs_card g nx A hg3 s1 g.length (Nat.le_refl _), List.take_length]
   simp only
   rw [ih, hsp, List.foldl_append, List.append_assoc]
  ·rw [egoE_end f i (by omega), List.drop_eq_nil_of_le (by omega)]
   simp
def tOk (t : Txt) : Prop := 0 ≤ t.id ∧ t.id ≤ 60000 ∧ 0 ≤ t.addr ∧ t.addr ≤ 1000000 ∧ 1 ≤ t.data.length ∧ t.data.length ≤ 56
theorem cardT_facts (t : Txt) (h : tOk t) : (yb8 t).length = 80 ∧ decM (sbM (yb8 t) 1 3) = xd8 ∧ valM (sbM (yb8 t) 10 2) = t.data.length ∧ valM (sbM (yb8 t) 14 2) = t.id.toNat ∧ valM (sbM (yb8 t) 5 3) = t.addr.toNat ∧ sbM (yb8 t) 16 t.data.length = t.data := by
 obtain ⟨h1, h2, h3, h4, h5, h6⟩ := h
 obtain ⟨l0, n0⟩ := cTXT
 have e2 : (256 : Nat) ^ 2 = 65536 := by decide
 have e3 : (256 : Nat) ^ 3 = 16777216 := by decide
 have b1 : 5 + (numM 3 t.addr.toNat).length ≤ (vp9 xd8).length := by simp; omega
 have l1 := wd9 _ _ _ b1
 have b2 : 10 + (numM 2 t.data.length).length ≤ (putM (vp9 xd8) 5 (numM 3 t.addr.toNat)).length := by simp; omega
 have l2 := wd9 _ _ _ b2
 have b3 : 14 + (numM 2 t.id.toNat).length ≤ (putM (putM (vp9 xd8) 5 (numM 3 t.addr.toNat)) 10 (numM 2 t.data.length)).length := by simp; omega
 have l3 := wd9 _ _ _ b3
 have b4 : 16 + t.data.length ≤ (putM (putM (putM (vp9 xd8) 5 (numM 3 t.addr.toNat)) 10 (numM 2 t.data.length)) 14 (numM 2 t.id.toNat)).length := by omega
 have l4 := wd9 _ _ _ b4
 have n2 : ∀ v, (numM 2 v).length = 2 := fun v => ym7 2 v
 have n3 : ∀ v, (numM 3 v).length = 3 := fun v => ym7 3 v
 refine ⟨?_, ?_, ?_, ?_, ?_, ?_⟩
 ·rw [yb8]; omega
 ·rw [yb8, vv8 _ _ _ _ _ b4 (.inl (by omega)), vv8 _ _ _ _ _ b3 (.inl (by omega)), vv8 _ _ _ _ _ b2 (.inl (by omega)), vv8 _ _ _ _ _ b1 (.inl (by omega)), n0]
 ·rw [yb8, vv8 _ _ _ _ _ b4 (.inl (by omega)), vv8 _ _ _ _ _ b3 (.inl (by omega)), sb_eq _ _ _ _ b2 (n2 _), vg9 _ _ (by omega)]
 ·rw [yb8, vv8 _ _ _ _ _ b4 (.inl (by omega)), sb_eq _ _ _ _ b3 (n2 _), vg9 _ _ (by omega)]
 ·rw [yb8, vv8 _ _ _ _ _ b4 (.inl (by omega)), vv8 _ _ _ _ _ b3 (.inl (by omega)), vv8 _ _ _ _ _ b2 (.inl (by omega)), sb_eq _ _ _ _ b1 (n3 _), vg9 _ _ (by omega)]
 ·rw [yb8, sb_eq _ _ _ _ b4 rfl]
theorem goD_txt (p : Bool) (R : List (List UInt8)) (E : List Esd) (D : List Rld) (e : List UInt8) (nx : Int) : ∀ (l A : List Txt), (∀ t ∈ l, tOk t) → goD p (l.map yb8 ++ R) (⟨E, A, D, e⟩, nx) = goD p R (⟨E, A ++ l, D, e⟩, nx)
 | [], A, h => by simp
 | t :: l, A, h => by
  have ht := h t (by simp)
  obtain ⟨c1, c2, c3, c4, c5, c6⟩ := cardT_facts t ht
  obtain ⟨h1, h2, h3, h4, h5, h6⟩ := ht
  have hm : min t.data.length 56 = t.data.length := by omega
  have ie : ((t.id.toNat : Nat) : Int) = t.id := by omega
  have ae : ((t.addr.toNat : Nat) : Int) = t.addr := by omega
  rw [List.map_cons, List.cons_append, goD, if_pos c1, itemD, c2, if_neg nmNe.1, if_pos rfl, c3, if_neg (by omega), c4, c5, hm, c6, ie, ae]
  simp only
  rw [goD_txt p R E D e nx l (A ++ [t]) fun y hy => h y (by simp [hy]), List.append_assoc]
  rfl
theorem ritemsGo_len : ∀ (g : List Rld) (i : Nat) (c : List UInt8), c.length = 80 → g.length + i ≤ 8 → (vm9 g i c).length = 80
 | [], i, c, hc, hg => hc
 | x :: g, i, c, hc, hg => by
  simp only [List.length_cons] at hg
  exact ritemsGo_len g (i + 1) _ (by rw [wd9 _ _ _ (by simp; omega)]; exact hc) (by omega)
theorem vp8 : ∀ (g : List Rld) (i : Nat) (c : List UInt8) (a n : Nat), c.length = 80 → g.length + i ≤ 8 → a + n ≤ 16 + 8 * i → sbM (vm9 g i c) a n = sbM c a n
 | [], i, c, a, n, hc, hg, ha => rfl
 | x :: g, i, c, a, n, hc, hg, ha => by
  simp only [List.length_cons] at hg
  rw [vm9, vp8 g (i + 1) _ a n (by rw [wd9 _ _ _ (by simp; omega)]; exact hc) (by omega) (by omega), vv8 _ _ _ _ _ (by simp; omega) (.inl (by omega))]
theorem ritemsGo_sb : ∀ (g : List Rld) (i : Nat) (c : List UInt8) (j : Nat) (x : Rld), c.length = 80 → g.length + i ≤ 8 → g[j]? = some x → sbM (vm9 g i c) (16 + 8 * (i + j)) 8 = wp8 x
 | [], i, c, j, x, hc, hg, hx => by simp at hx
 | y :: g, i, c, j, x, hc, hg, hx => by
  simp only [List.length_cons] at hg
  have hl : (putM c (16 + 8 * i) (wp8 y)).length = 80 := by rw [wd9 _ _ _ (by simp; omega)]; exact hc
  rw [vm9]
  cases j with
  | zero =>
   simp only [List.getElem?_cons_zero, Option.some.injEq] at hx
   subst hx
   rw [vp8 g (i + 1) _ _ _ hl (by omega) (by omega), Nat.add_zero, sb_eq _ _ _ _ (by simp; omega) (by simp)]
  | succ j =>
   simp only [List.getElem?_cons_succ] at hx
   have := ritemsGo_sb g (i + 1) (putM c (16 + 8 * i) (wp8 y)) j x hl (by omega) hx
   rw [show i + 1 + j = i + (j + 1) by omega] at this
   exact this
def rOkD (r : Rld) : Prop := 0 ≤ r.to_ ∧ r.to_ ≤ 60000 ∧ 0 ≤ r.in_ ∧ r.in_ ≤ 60000 ∧ 0 ≤ r.addr ∧ r.addr ≤ 1000000 ∧ 1 ≤ r.len ∧ r.len ≤ 4
theorem sbA (a b : List UInt8) (i n : Nat) (h : i + n ≤ a.length) : sbM (a ++ b) i n = sbM a i n := by
 unfold sbM
 rw [List.drop_append_of_le_length (by omega), List.take_append_of_le_length (by simp; omega)]
theorem sbB (a b : List UInt8) (i n k : Nat) (h : a.length = k) : sbM (a ++ b) (k + i) n = sbM b i n := by
 unfold sbM
 rw [← List.drop_drop, List.drop_left' h]
theorem rdR8_item (r : Rld) (h : rOkD r) : rdR8 (wp8 r) = r := by
 obtain ⟨i, t, a, n, g⟩ := r
 obtain ⟨h1, h2, h3, h4, h5, h6, h7, h8⟩ := h
 simp only at h1 h2 h3 h4 h5 h6 h7 h8
 have e2 : (256 : Nat) ^ 2 = 65536 := by decide
 have e3 : (256 : Nat) ^ 3 = 16777216 := by decide
 have hfl : zr8 ⟨i, t, a, n, g⟩ < 256 := by unfold zr8; simp only; split <;> omega
 have q1 : (wp8 ⟨i, t, a, n, g⟩).take 2 = numM 2 t.toNat := by
  rw [wp8, zb7, sbA _ _ _ _ (by simp), sb_all _ _ (by simp)]
 have q2 : sbM (wp8 ⟨i, t, a, n, g⟩) 2 2 = numM 2 i.toNat := by
  rw [wp8, show sbM (numM 2 (⟨i, t, a, n, g⟩ : Rld).to_.toNat ++ (numM 2 (⟨i, t, a, n, g⟩ : Rld).in_.toNat ++ (numM 1 (zr8 ⟨i, t, a, n, g⟩) ++ numM 3 (⟨i, t, a, n, g⟩ : Rld).addr.toNat))) 2 2 = sbM (numM 2 i.toNat ++ (numM 1 (zr8 ⟨i, t, a, n, g⟩) ++ numM 3 a.toNat)) 0 2 from sbB _ _ 0 2 2 (by simp), sbA _ _ _ _ (by simp), sb_all _ _ (by simp)]
 have q3 : sbM (wp8 ⟨i, t, a, n, g⟩) 5 3 = numM 3 a.toNat := by
  have s1 : sbM (wp8 ⟨i, t, a, n, g⟩) (2 + 3) 3 = sbM (numM 2 i.toNat ++ (numM 1 (zr8 ⟨i, t, a, n, g⟩) ++ numM 3 a.toNat)) 3 3 := sbB _ _ 3 3 2 (by simp)
  have s2 : sbM (numM 2 i.toNat ++ (numM 1 (zr8 ⟨i, t, a, n, g⟩) ++ numM 3 a.toNat)) (2 + 1) 3 = sbM (numM 1 (zr8 ⟨i, t, a, n, g⟩) ++ numM 3 a.toNat) 1 3 := sbB _ _ 1 3 2 (by simp)
  have s3 : sbM (numM 1 (zr8 ⟨i, t, a, n, g⟩) ++ numM 3 a.toNat) (1 + 0) 3 = sbM (numM 3 a.toNat) 0 3 := sbB _ _ 0 3 1 (by simp)
  exact s1.trans (s2.trans (s3.trans (sb_all _ _ (by simp))))
 have q4 : (wp8 ⟨i, t, a, n, g⟩).getD 4 0 = UInt8.ofNat (zr8 ⟨i, t, a, n, g⟩) := by
  have s1 : sbM (wp8 ⟨i, t, a, n, g⟩) (2 + 2) 1 = sbM (numM 2 i.toNat ++ (numM 1 (zr8 ⟨i, t, a, n, g⟩) ++ numM 3 a.toNat)) 2 1 := sbB _ _ 2 1 2 (by simp)
  have s2 : sbM (numM 2 i.toNat ++ (numM 1 (zr8 ⟨i, t, a, n, g⟩) ++ numM 3 a.toNat)) (2 + 0) 1 = sbM (numM 1 (zr8 ⟨i, t, a, n, g⟩) ++ numM 3 a.toNat) 0 1 := sbB _ _ 0 1 2 (by simp)
  have s3 : sbM (numM 1 (zr8 ⟨i, t, a, n, g⟩) ++ numM 3 a.toNat) 0 1 = [UInt8.ofNat (zr8 ⟨i, t, a, n, g⟩)] := by
   rw [sbA _ _ _ _ (by simp), sb_all _ _ (by simp)]
   simp only [numM, List.nil_append]
   rw [Nat.mod_eq_of_lt hfl]
  have s4 := getD_sb (wp8 ⟨i, t, a, n, g⟩) 4 1 0 (by omega)
  rw [← s4, show sbM (wp8 ⟨i, t, a, n, g⟩) 4 1 = [UInt8.ofNat (zr8 ⟨i, t, a, n, g⟩)] from s1.trans (s2.trans s3)]
  rfl
 have q5 : (UInt8.ofNat (zr8 ⟨i, t, a, n, g⟩)).toNat = zr8 ⟨i, t, a, n, g⟩ := by rw [UInt8.toNat_ofNat']; omega
 unfold rdR8
 rw [q1, q2, q3, q4, q5, vg9 _ _ (by omega), vg9 _ _ (by omega), vg9 _ _ (by omega)]
 have f1 : zr8 ⟨i, t, a, n, g⟩ / 4 + 1 = n.toNat := by unfold zr8; simp only; split <;> omega
 have f2 : decide (zr8 ⟨i, t, a, n, g⟩ / 2 % 2 = 1) = g := by
  cases g with
  | true => rw [decide_eq_true_eq]; unfold zr8; simp only [if_pos]; omega
  | false => rw [decide_eq_false_iff_not]; unfold zr8; simp only [Bool.false_eq_true, if_neg, not_false_eq_true]; omega
 rw [f1, f2]
 congr 1 <;> omega
theorem zh7 (g : List Rld) (hg : g.length ≤ 7) :
  (cardR g).length = 80 ∧ decM (sbM (cardR g) 1 3) = wd8 ∧ valM (sbM (cardR g) 10 2) = 8 * g.length ∧ ∀ j x, g[j]? = some x → sbM (cardR g) (16 + 8 * j) 8 = wp8 x := by
 obtain ⟨l0, n0⟩ := cRLD
 have h256 : (256 : Nat) ^ 2 = 65536 := by decide
 have b1 : 10 + (numM 2 (8 * g.length)).length ≤ (vp9 wd8).length := by simp; omega
 have l1 : (putM (vp9 wd8) 10 (numM 2 (8 * g.length))).length = 80 := by rw [wd9 _ _ _ b1]; exact l0
 refine ⟨ritemsGo_len g 0 _ l1 (by omega), ?_, ?_, fun j x hx => ?_⟩
 ·rw [cardR, vp8 g 0 _ _ _ l1 (by omega) (by omega), vv8 _ _ _ _ _ b1 (.inl (by omega)), n0]
 ·rw [cardR, vp8 g 0 _ _ _ l1 (by omega) (by omega), sb_eq _ _ _ _ b1 (by simp), vg9 _ _ (by omega)]
 ·have := ritemsGo_sb g 0 (putM (vp9 wd8) 10 (numM 2 (8 * g.length))) j x l1 (by omega) hx
  rw [Nat.zero_add] at this
  exact this
theorem rdRs_card (g : List Rld) (hg : g.length ≤ 7) (h : ∀ r ∈ g, rOkD r) : rdRs (cardR g) g.length = g := by
 apply List.ext_getElem?
 intro j
 unfold rdRs
 rw [List.getElem?_map]
 by_cases hj : j < g.length
 ·rw [List.getElem?_range hj, Option.map_some]
  obtain ⟨x, hx⟩ : ∃ x, g[j]? = some x := ⟨_, List.getElem?_eq_getElem hj⟩
  rw [rdR8_sb, (zh7 g hg).2.2.2 j x hx, rdR8_item x (h x (List.mem_iff_getElem?.2 ⟨j, hx⟩)), hx]
 ·rw [List.getElem?_eq_none (by rw [List.length_range]; omega), List.getElem?_eq_none (by omega)]
  rfl
theorem goD_rld (p : Bool) (l : List Rld) (R : List (List UInt8)) (E : List Esd) (T : List Txt) (e : List UInt8) (nx : Int) (hl : ∀ r ∈ l, rOkD r) : ∀ (f i : Nat) (A : List Rld), l.length ≤ i + f →
  goD p (egoR l f i ++ R) (⟨E, T, A, e⟩, nx) = goD p R (⟨E, T, A ++ l.drop i, e⟩, nx)
 | f, i, A, hf => by
  by_cases h : i < l.length
  ·obtain ⟨f', rfl, hf'⟩ : ∃ f', f = f' + 1 ∧ f' < f := ⟨f - 1, by omega, by omega⟩
   rw [egoR, if_pos h, List.cons_append]
   obtain ⟨g, hg⟩ : ∃ g, (l.drop i).take 7 = g := ⟨_, rfl⟩
   have hsp : l.drop i = g ++ l.drop (i + 7) := by
    rw [← hg, ← List.drop_drop]
    exact (List.take_append_drop 7 _).symm
   have hg3 : g.length ≤ 7 := by rw [← hg, List.length_take]; omega
   have hn : ∀ x ∈ g, rOkD x := fun x hx => hl x (by rw [← hg] at hx; exact List.mem_of_mem_drop (List.mem_of_mem_take hx))
   obtain ⟨c1, c2, c3, _⟩ := zh7 g hg3
   have ih := goD_rld p l R E T e nx hl f' (i + 7) (A ++ g) (by omega)
   rw [hg, goD, if_pos c1, itemD, c2, if_neg nmNe.2.1, if_neg nmNe.2.2.1, if_pos rfl, c3, cntR_8 _ _ hg3, rdRs_card g hg3 hn]
   simp only
   rw [ih, hsp, List.append_assoc]
  ·rw [egoR_end f i (by omega), List.drop_eq_nil_of_le (by omega)]
   simp
theorem cardN_facts (e : List UInt8) (h : e.all okB = true) (hl : e.length ≤ 8) : (vn8 e).length = 80 ∧ decM (sbM (vn8 e) 1 3) = vn9 ∧ nmM (sbM (vn8 e) 16 8) = e := by
 obtain ⟨l0, n0, n1⟩ := cEND
 have hc : (xf9 e).length = e.length := by rw [xh8 h, vg8]
 have b1 : 16 + (xf9 e).length ≤ (vp9 vn9).length := by omega
 refine ⟨by rw [vn8, wd9 _ _ _ b1]; exact l0, by rw [vn8, vv8 _ _ _ _ _ b1 (.inl (by omega)), n0], ?_⟩
 have e1 : sbM (vn8 e) 16 8 = xf9 e ++ List.replicate (8 - e.length) 64 := by
  unfold vn8 sbM putM
  have hsp : (vp9 vn9).drop (16 + (xf9 e).length) = List.replicate (64 - e.length) 64 := by
   rw [← List.drop_drop, n1, hc, wr9, List.drop_replicate]
  rw [hsp, List.append_assoc, List.drop_left' (by rw [List.length_take]; omega), List.take_append, hc, List.take_of_length_le (by omega), List.take_replicate]
  congr 2
  omega
 rw [e1, nmM_pad h]
structure DOk (o : OMod) : Prop where
 es : seqE 1 o.esd
 ts : ∀ t ∈ o.txt, tOk t
 rs : ∀ r ∈ o.rld, rOkD r
 en : o.entry.all okB = true ∧ o.entry.length ≤ 8
theorem esdGo_seq : ∀ (l : List Esd) (S S' : List (Int × Esd)) (N N' : List (List UInt8 × Int)) (nx nx' : Int), yd8 l S N nx = some (S', N', nx') → (∀ x ∈ l, EOk x) → seqE nx l
 | [], S, S', N, N', nx, nx', h, he => trivial
 | x :: l, S, S', N, N', nx, nx', h, he => by
  rw [yd8] at h
  split at h
  ·rename_i hr
   split at h
   ·cases h
   ·exact ⟨⟨hr, he x (by simp)⟩, esdGo_seq l _ S' _ N' _ nx' h fun y hy => he y (by simp [hy])⟩
  ·cases h
theorem name_ok {nx : Int} {x : Esd} (h : zk8 nx x = true) : x.name.all okB = true ∧ x.name.length ≤ 8 := by
 have hs : ∀ s, symM s = true → s.all okB = true ∧ s.length ≤ 8 := by
  intro s h
  simp only [symM, Bool.and_eq_true, decide_eq_true_eq] at h
  exact ⟨h.2.2.2, h.2.1⟩
 unfold zk8 at h
 split at h
 ·simp only [rule1, Bool.and_eq_true, Bool.or_eq_true, decide_eq_true_eq] at h
  rcases h.2.2.2.2.2 with e | e
  ·rw [e]; exact ⟨rfl, by simp⟩
  ·exact hs _ e
 ·split at h
  ·simp only [rule2, Bool.and_eq_true] at h
   exact hs _ h.2
  ·split at h
   ·simp only [rule3, Bool.and_eq_true] at h
    exact hs _ h.2.2.2
   ·cases h
theorem seqE_name : ∀ (l : List Esd) (nx : Int), seqE nx l → ∀ x ∈ l, x.name.all okB = true ∧ x.name.length ≤ 8
 | [], nx, h, x, hx => by simp at hx
 | y :: l, nx, h, x, hx => by
  rcases List.mem_cons.1 hx with rfl | hx
  ·exact name_ok h.1.1
  ·exact seqE_name l _ h.2 x hx
theorem chkM_DOk {o : OMod} (h : chkM o = true) : DOk o := by
 have hO := chkM_ok h
 unfold chkM at h
 simp only [Bool.and_eq_true, Bool.not_eq_true'] at h
 obtain ⟨hbig, hB, hR⟩ := h
 have hl1 := hO.l1
 cases hg : yd8 o.esd [] [] 1 with
 | none => rw [hg] at hR; cases hR
 | some g =>
  obtain ⟨S, N, nx⟩ := g
  rw [hg] at hR hB
  have hinv := esdGo_inv o.esd [] S [] N 1 nx hg (by omega) (by omega) (fun i x h => by simp [getS] at h) (fun i y h => by simp [getS] at h) (fun s k h => by simp [getN] at h)
  obtain ⟨hS, hi, hn, n1, n2, hev⟩ := hinv
  have hE := yh7 o.esd [] [] S [] N 1 nx EInv.nil hg
  rw [List.nil_append] at hE
  have hsq := esdGo_seq o.esd [] S [] N 1 nx hg hO.es
  simp only [restM, Bool.and_eq_true, Bool.not_eq_true', List.all_eq_true] at hR
  obtain ⟨hT, hRl, hEn⟩ := hR
  refine ⟨hsq, fun t ht => ?_, fun r hr => ?_, ?_⟩
  ·have h1 := hT t ht
   simp only [txB, Bool.or_eq_false_iff, decide_eq_false_iff_not, Bool.not_eq_false'] at h1
   obtain ⟨a1, a2, a3⟩ := h1
   have := liesM_inv a3 hS hi
   exact ⟨by omega, by omega, by omega, by omega, by omega, by omega⟩
  ·have h1 := hRl r hr
   simp only [rdB, Bool.or_eq_false_iff, decide_eq_false_iff_not, Bool.not_eq_false'] at h1
   obtain ⟨a1, a2, a3, a4, a5⟩ := h1
   have := liesM_inv a5 hS hi
   exact ⟨by omega, by omega, by omega, by omega, by omega, by omega, by omega, by omega⟩
  ·rw [hE.entry] at hEn
   by_cases h0 : o.entry = []
   ·rw [h0]; exact ⟨rfl, by simp⟩
   ·rw [decide_eq_false h0] at hEn
    simp only [Bool.not_false, Bool.true_and, Bool.not_eq_false', List.any_eq_true] at hEn
    obtain ⟨x, hx, hd⟩ := hEn
    have hnm := seqE_name o.esd 1 hsq x hx
    simp only [isDf, Bool.and_eq_true, beq_iff_eq] at hd
    rw [← hd.2]
    exact hnm
theorem goD_enc (p : Bool) (o : OMod) (h : DOk o) : ∃ nx, goD p (encO o) (om0, 1) = some (o, nx) := by
 obtain ⟨es, ts, rs, en1, en2⟩ := h
 refine ⟨o.esd.foldl nx1 1, ?_⟩
 obtain ⟨c1, c2, c3⟩ := cardN_facts o.entry en1 en2
 unfold encO om0
 rw [goD_esd p o.esd _ [] [] [] o.esd.length 0 [] 1 (by omega) (by simpa using es), List.drop_zero, goD_txt p _ _ _ _ _ o.txt [] ts, goD_rld p o.rld _ _ _ _ _ rs o.rld.length 0 [] (by omega), List.drop_zero,
  goD, if_pos c1, itemD, c2, if_neg nmNe.2.2.2.1, if_neg nmNe.2.2.2.2.1, if_neg nmNe.2.2.2.2.2, if_pos rfl, c3]
 simp [goD]
theorem dcD_enc (p : Bool) (o : OMod) (h : chkM o = true) : dcD p (encO o) = (o, true) := by
 obtain ⟨nx, hg⟩ := goD_enc p o (chkM_DOk h)
 rw [dcD, hg]
 exact if_pos ⟨h, rfl⟩
end Go.AM
namespace Go.AM
open Go.RowKit Go.Proofs
set_option linter.unusedSimpArgs false
set_option linter.unusedVariables false
set_option maxHeartbeats 8000000
theorem esL_app (s t : List Esd) : esL (s ++ t) = esL s ++ esL t := by simp [esL]
theorem esL_nil : esL [] = [] := rfl
theorem esL_one (x : Esd) : esL [x] = [esA x] := rfl
theorem klD_v (T : Nat) (x : Value) : AV.kill T (.v x) = .v x := rfl
theorem klD_loc (T i j : Nat) : AV.kill T (.loc i j) = .loc i j := rfl
theorem klD_any (T s : Nat) (x : List AV) : AV.kill T (.lst .any s x) = .lst .any s x := rfl
theorem klD_nil (T s : Nat) (x : List AV) : AV.kill T (.lst .nil s x) = .lst .nil s x := rfl
theorem zt7 (T e U s : Nat) (x : List AV) : AV.kill T (.lst (.tip e U) s x) = if U = T then .lst (if U % 2 = 0 then .ex else .any) s x else .lst (.tip e U) s x := rfl
theorem klD_agg (T : Nat) (x : List AV) : AV.kill T (.agg x) = .agg (AV.killL T x) := rfl
theorem rdEs_len (b : List UInt8) (base : List Esd) (nx : Int) : ∀ k, (rdEs b base nx k).1.length = base.length + k
 | 0 => rfl
 | k + 1 => by rw [rdEs]; simp [rdEs_len b base nx k]; omega
theorem rdEs_nx (b : List UInt8) (base : List Esd) (nx : Int) : ∀ k, nx ≤ (rdEs b base nx k).2 ∧ (rdEs b base nx k).2 ≤ nx + k
 | 0 => by simp [rdEs]
 | k + 1 => by
  have := rdEs_nx b base nx k
  rw [rdEs]
  simp only [nx1]
  split <;> omega
theorem esd62_callW (b : List UInt8) (hb : b.length = 80) (nx : Int) (hn0 : 0 ≤ nx) (hn1 : nx ≤ 100000000) (base : List Esd) (hbl : base.length ≤ 100000000) (fe : Fl) (hfe : fe = .nil ∧ base = [] ∨ fe = .tip 78 129) (z : List AV) (x1 x2 x3 : AV)
  (k1 : AV.kill 129 x1 = x1) (k2 : AV.kill 129 x2 = x2) (k3 : AV.kill 129 x3 = x3) (kz : AV.killL 129 z = z) (u1 : AV.under 2 x1 = true) (u2 : AV.under 2 x2 = true) (u3 : AV.under 2 x3 = true) (uz : AV.underL 2 z = true) :
  ww9 Try.prog 62 [.loc 1 0, .lst .any 1 (byL b), .v (.int .i64 nx)] [.cells 26 z, .cells 26 [.lst fe 5 (esL base), x1, x2, x3]] fun r h' => ∃ fe',
   r = .v (.int .i64 (rdEs b base nx (cntE true (valM (sbM b 10 2)))).2) ∧ (fe' = .nil ∧ (rdEs b base nx (cntE true (valM (sbM b 10 2)))).1 = [] ∨ fe' = .tip 78 129) ∧
   h' = [.cells 26 z, .cells 26 [.lst fe' 5 (esL (rdEs b base nx (cntE true (valM (sbM b 10 2)))).1), x1, x2, x3]] := by
 refine zf9 Try.func62 rfl (by decide +kernel) (by simp [Try.f62]) (rs := [.tmp 6]) rfl ?_
 rw [show Try.f62.ntmps = 69 from rfl]
 have h12 : 12 ≤ b.length := by omega
 have h12i : (12 : Int) ≤ b.length := by omega
 obtain ⟨A, hA⟩ : ∃ A, sbM b 10 2 = A := ⟨_, rfl⟩
 have eA : List.drop 10 (List.take 12 (byL b)) = byL A := by rw [← hA, sbM, ← xj9, ← wg9, List.drop_take]
 have hAl : A.length ≤ 7 := by rw [← hA, sbM, List.length_take]; omega
 have hv := yf8 A hAl
 rw [hA]
 obtain ⟨V, hV⟩ : ∃ V, valM A = V := ⟨_, rfl⟩
 have hVl : V < 256 ^ 2 := by rw [← hV]; exact valM_lt 2 A (by rw [← hA, sbM, List.length_take, List.length_drop]; omega)
 have hp2 : (256 : Nat) ^ 2 = 65536 := by decide
 rw [hV] at hv ⊢
 obtain ⟨n, hn⟩ : ∃ n, cntE true V = n := ⟨_, rfl⟩
 have hn3 : n ≤ 3 := by rw [← hn]; unfold cntE; split <;> omega
 have hdv : (V : Int).tdiv 16 = ((V / 16 : Nat) : Int) := rfl
 have wq := w64 (n := ((V / 16 : Nat) : Int)) (by omega) (by omega)
 have hmin : (if ((V / 16 : Nat) : Int) < 3 then ((V / 16 : Nat) : Int) else (3 : Int)) = (n : Nat) := by
  rw [← hn, cntE]
  simp only [if_pos]
  split <;> omega
 rw [hn]
 refine yt9 [0, 1, 2] (by simp; rfl) ?_
 refine yh9 ?_
 refine W_rK [0, 1, 2, 14, 15] ?_
 refine yq9 2 (by simp [h12, h12i, eA]; rfl) rfl ?_
 refine yl9 (by simp) (by first | (simp; done) | (simp; rfl)) hv (by simp; rfl) ?_
 refine yr9 (by simp [hdv, wq, hmin, -Int.natCast_ediv]; rfl) ?_
 refine yf9 ?_
 refine zm9 (fun k s => ∃ (i : Nat) (gs : Fl), k = n - i ∧ i ≤ n ∧ (gs = .nil ∧ (rdEs b base nx i).1 = [] ∨ gs = .tip 78 129) ∧
  s = ⟨69, [(0, .loc 1 0), (1, .lst .any 1 (byL b)), (2, .v (.int .i64 (rdEs b base nx i).2)), (14, .v (.int .i64 (n : Nat))), (15, .v (.int .i64 (i : Nat)))], [.cells 26 z, .cells 26 [.lst gs 5 (esL (rdEs b base nx i).1), x1, x2, x3]]⟩) (k := n) ⟨0, fe, rfl, by omega, hfe, by simp [rdEs]⟩ ?_
 rintro k s ⟨i, gs, rfl, hi, hgs, rfl⟩
 by_cases c : i < n
 rotate_left
 ·have hin : i = n := by omega
  subst hin
  refine yt9 [0, 1, 2, 14, 15, 16] (by simp; rfl) ?_
  refine yh9 ?_
  refine yd9 rfl (fun h => by simp at h) (fun h => ?_)
  refine zb9 ?_
  refine yt9 [6] (by simp; rfl) ?_
  refine zt9 ?_
  repeat (first | refine yj9 ?_ | refine yk9 ?_)
  exact zn9 2 (by simp [resA]) (by simp) (by simp) (by simp [AV.under, AV.underL, ys9, AObj.under, u1, u2, u3, uz]) ⟨gs, rfl, hgs, rfl⟩
 have ci : (i : Int) < n := by omega
 obtain ⟨acc, hacc⟩ : ∃ a, (rdEs b base nx i).1 = a := ⟨_, rfl⟩
 obtain ⟨ny, hny⟩ : ∃ a, (rdEs b base nx i).2 = a := ⟨_, rfl⟩
 have hal := rdEs_len b base nx i
 have hnb := rdEs_nx b base nx i
 rw [hacc] at hal hgs
 rw [hny] at hnb
 obtain ⟨X, hX⟩ : ∃ X, b.drop (16 + 16 * i) = X := ⟨_, rfl⟩
 have hXl : 16 ≤ X.length := by rw [← hX, List.length_drop]; omega
 have eX : List.drop (16 + 16 * i) (byL b) = byL X := by rw [← hX, ← wg9]
 have hstep : rdEs b base nx (i + 1) = (acc ++ [rdE X ny], nx1 ny (rdE X ny)) := by rw [rdEs, hacc, hny, hX]
 obtain ⟨Y, hY⟩ : ∃ Y, X.take 8 = Y := ⟨_, rfl⟩
 have eY : List.take 8 (byL X) = byL Y := by rw [← hY, ← xj9]
 have htr := trim_sound Y (by rw [← hY, List.length_take]; omega)
 obtain ⟨nm, hnm⟩ : ∃ s, decM (trimM Y) = s := ⟨_, rfl⟩
 rw [hnm] at htr
 have wm := w64 (n := 16 * (i : Int)) (by omega) (by omega)
 have wa := w64 (n := 16 + 16 * (i : Int)) (by omega) (by omega)
 have hq : 16 + 16 * i ≤ b.length := by omega
 have hqi : 16 + 16 * (i : Int) ≤ b.length := by omega
 have hqt : (16 + 16 * (i : Int)).toNat = 16 + 16 * i := by omega
 have hq0 : (0 : Int) ≤ 16 + 16 * (i : Int) := by omega
 have h8 : 8 ≤ X.length := by omega
 have h8i : (8 : Int) ≤ X.length := by omega
 have h8' : 8 < X.length := by omega
 have h8'i : (8 : Int) < X.length := by omega
 have h9 : 12 ≤ X.length := by omega
 have h9i : (12 : Int) ≤ X.length := by omega
 have h13 : (16 : Int) ≤ X.length := by omega
 obtain ⟨B, hB⟩ : ∃ A, sbM X 9 3 = A := ⟨_, rfl⟩
 have eB : List.drop 9 (List.take 12 (byL X)) = byL B := by rw [← hB, sbM, ← xj9, ← wg9, List.drop_take]
 have hvB := yf8 B (by rw [← hB, sbM, List.length_take]; omega)
 obtain ⟨VB, hVB⟩ : ∃ V, valM B = V := ⟨_, rfl⟩
 rw [hVB] at hvB
 obtain ⟨C, hC⟩ : ∃ A, sbM X 13 3 = A := ⟨_, rfl⟩
 have eC : List.drop 13 (List.take 16 (byL X)) = byL C := by rw [← hC, sbM, ← xj9, ← wg9, List.drop_take]
 have hvC := yf8 C (by rw [← hC, sbM, List.length_take]; omega)
 obtain ⟨VC, hVC⟩ : ∃ V, valM C = V := ⟨_, rfl⟩
 rw [hVC] at hvC
 obtain ⟨t, ht⟩ : ∃ t, X[8]? = some t := ⟨_, List.getElem?_eq_getElem h8'⟩
 have ht2 : X[8]'h8' = t := by rw [List.getElem?_eq_getElem h8'] at ht; exact Option.some.inj ht
 have htd : X.getD 8 0 = t := by rw [List.getD_eq_getElem?_getD, ht]; rfl
 obtain ⟨K, hK⟩ : ∃ K, t.toNat = K := ⟨_, rfl⟩
 have heq : ∀ x : UInt8, (t = x) = (K = x.toNat) := fun x => by rw [← hK]; exact propext UInt8.toNat_inj.symm
 have hrd : rdE X ny = if K = 0 then ⟨nm, 1, ny, VB, VC⟩ else if K = 1 then ⟨nm, 2, VC, VB, 0⟩ else ⟨nm, 3, ny, 0, 0⟩ := by
  have e0 : (t = 0) = (K = 0) := heq 0
  have e1 : (t = 1) = (K = 1) := heq 1
  unfold rdE nmM
  rw [htd, hY, hnm, hB, hC, hVB, hVC]
  by_cases q0 : K = 0
  ·rw [if_pos (by rw [e0]; exact q0), if_pos q0]
  ·rw [if_neg (by rw [e0]; exact q0), if_neg q0]
   by_cases q1 : K = 1
   ·rw [if_pos (by rw [e1]; exact q1), if_pos q1]
   ·rw [if_neg (by rw [e1]; exact q1), if_neg q1]
 have wi := w64 (n := (i : Int) + 1) (by omega) (by omega)
 have wn1 := w64 (n := ny + 1) (by omega) (by omega)
 have wn2 := w64 (n := ny - 1) (by omega) (by omega)
 have wn3 := w64 (n := ny - 1 + 1) (by omega) (by omega)
 have hby : (acc.length + 1) * 48 ≤ 140737488355328 := by omega
 obtain ⟨E, hE⟩ : ∃ E, rdE X ny = E := ⟨_, rfl⟩
 rw [hacc, hny]
 refine yt9 [0, 1, 2, 14, 15, 16] (by simp [c]; rfl) ?_
 refine yh9 ?_
 refine yd9 rfl (fun h => ?_) (fun h => by simp at h)
 refine yc9 ?_
 refine yh9 ?_
 refine yf9 ?_
 refine yt9 [0, 1, 2, 14, 15, 7] (by simp; rfl) ?_
 refine yt9 [0, 1, 2, 14, 15, 8] (by simp [wm, wa, hq, hqi, hqt, hq0, eX]; rfl) ?_
 refine W_rK [0, 1, 2, 14, 15, 8, 9] ?_
 refine yq9 2 (by simp [h8, h8i, eY]; rfl) rfl ?_
 refine yl9 (by simp) (by first | (simp; done) | (simp; rfl)) htr (by simp; rfl) ?_
 refine yr9 (by simp [strB, yg9]; rfl) ?_
 refine vq9 (fun σ => σ = ⟨69, [(0, .loc 1 0), (1, .lst .any 1 (byL b)), (2, .v (.int .i64 (if E.kind = 2 then ny - 1 else ny))), (14, .v (.int .i64 (n : Nat))), (15, .v (.int .i64 (i : Nat))), (9, .loc 2 0)], [.cells 26 z, .cells 26 [.lst gs 5 (esL acc), x1, x2, x3], .cells 78 (esC E)]⟩) ?_ ?_
 ·refine yt9 [0, 1, 2, 14, 15, 8, 9, 30] (by simp [h8', h8'i, ht2, hK]; rfl) ?_
  refine yf9 ?_
  by_cases q0 : K = 0
  ·rw [if_pos q0] at hrd
   refine W_cT [0, 1, 2, 14, 15, 8, 9, 30, 31] (by simp [q0]; rfl) rfl ?_
   refine xk8 [0, 1, 2, 14, 15, 9] mx (by decide +kernel) ?_
   refine yw9 2 (by simp [h9, h9i, eB]; rfl) rfl ?_
   refine ym9 (by simp) (by first | (simp; done) | (simp; rfl)) hvB (by simp; rfl) ?_
   refine yw9 2 (by simp [hXl, h13, eC]; rfl) rfl ?_
   refine ym9 (by simp) (by first | (simp; done) | (simp; rfl)) hvC (by simp; rfl) ?_
   refine zq9 (by simp [yg9]; rfl) ?_
   simp [← hE, hrd, esC, strB]
  have q0b : ((K : Int) == 0) = false := by simpa using q0
  rw [if_neg q0] at hrd
  refine W_cF [0, 1, 2, 14, 15, 8, 9, 30, 31] (by simp [q0, q0b]; rfl) rfl ?_
  by_cases q1 : K = 1
  ·rw [if_pos q1] at hrd
   refine W_cT [0, 1, 2, 14, 15, 8, 9, 30, 42] (by simp [q1]; rfl) rfl ?_
   refine zk7 [0, 1, 2, 14, 15, 9] mx (by decide +kernel) ?_
   refine yw9 2 (by simp [h9, h9i, eB]; rfl) rfl ?_
   refine ym9 (by simp) (by first | (simp; done) | (simp; rfl)) hvB (by simp; rfl) ?_
   refine yw9 2 (by simp [hXl, h13, eC]; rfl) rfl ?_
   refine ym9 (by simp) (by first | (simp; done) | (simp; rfl)) hvC (by simp; rfl) ?_
   refine zq9 (by simp [yg9]; rfl) ?_
   refine zd9 [0, 1, 2, 14, 15, 9] (by simp [wn2]; rfl) ?_
   simp [← hE, hrd, esC, strB]
  have q1b : ((K : Int) == 1) = false := by simp; omega
  rw [if_neg q1] at hrd
  refine W_cF [0, 1, 2, 14, 15, 9, 42] (by simp [q1, q1b]; rfl) rfl ?_
  refine zg9 [0, 1, 2, 14, 15, 9] ?_
  refine yc9 ?_
  simp [← hE, hrd, esC, strB]
 rintro _ rfl
 have wn : IntKind.i64.wrap ((if E.kind = 2 then ny - 1 else ny) + 1) = nx1 ny E := by
  unfold nx1
  split
  ·rw [wn3]; omega
  ·rw [wn1]
 have hsn : esL (acc ++ [E]) = esL acc ++ [esA E] := by rw [esL_app, esL_one]
 rw [hE] at hstep
 refine yt9 [0, 1, 2, 14, 15, 9] (by simp [wn]; rfl) ?_
 rcases hgs with ⟨rfl, rfl⟩ | rfl
 ·refine W_dvE [0, 1, 2, 14, 15] mx (by decide +kernel) (by simp [hby, yg9, esC, strB, esL_nil, catK, AV.cellsK, AV.kone, AV.koneL, AV.weak, AV.weakL, k1, k2, k3, kz]; rfl) ?_
  refine xk9 2 (by simp) (by simp) (by simp [yv9, AV.under, AV.underL]) (by simp [ys9, AObj.under, AV.under, AV.underL, u1, u2, u3, uz, strB]) ?_
  refine zd9 [0, 1, 2, 14, 15] (by simp [wi]; rfl) ?_
  exact ⟨_, by omega, i + 1, .tip 78 129, rfl, by omega, .inr rfl, by simp [hstep, esL, strB]⟩
 ·refine W_dvE [0, 1, 2, 14, 15] mx (by decide +kernel) (by simp [hby, yg9, esC, strB, catK, AV.cellsK, AV.kone, AV.koneL, AV.weak, AV.weakL, k1, k2, k3, kz]; rfl) ?_
  refine xk9 2 (by simp) (by simp) (by simp [yv9, AV.under, AV.underL]) (by simp [ys9, AObj.under, AV.under, AV.underL, u1, u2, u3, uz, strB]) ?_
  refine zd9 [0, 1, 2, 14, 15] (by simp [wi]; rfl) ?_
  exact ⟨_, by omega, i + 1, .tip 78 129, rfl, by omega, .inr rfl, by simp [hstep, hsn, strB]⟩
end Go.AM
namespace Go.AM
open Go.RowKit Go.Proofs
set_option linter.unusedSimpArgs false
set_option linter.unusedVariables false
set_option maxHeartbeats 4000000
end Go.AM
namespace Go.AM
open Go.RowKit Go.Proofs
set_option linter.unusedSimpArgs false
set_option linter.unusedVariables false
set_option maxHeartbeats 4000000
@[simp] theorem eq27c (y : AV) (l : List AV) : eqA Try.prog 27 (.lst .any 1 (y :: l)) (.lst .nil 0 []) = some false := by
 unfold eqA
 simp only [k27]
 rfl
@[simp] theorem eq27n : eqA Try.prog 27 (.lst .nil 1 []) (.lst .nil 0 []) = some true := by
 unfold eqA
 simp only [k27]
 rfl
@[simp] theorem eq27s (a : Addr) (n cap : Nat) : eqA Try.prog 27 (.v (.slice (some a) n cap)) (.lst .nil 0 []) = some false := by
 unfold eqA
 simp only [k27]
 rfl
theorem clone64 (l : List UInt8) (hl : l.length ≤ 140737488351232) : Sound Try.prog 64 [.lst .any 1 (byL l)] (.lst (.tip 5 1) 1 (byL l)) := by
 refine sound_of_U Try.func64 rfl (by decide +kernel) (by simp [Try.f64]) rfl rfl (rs := [.tmp 2]) rfl ?_
 rw [show Try.f64.ntmps = 8 from rfl]
 have hb : l.length ≤ 140737488355328 := by omega
 refine yt9 [0] (by simp; rfl) ?_
 refine yh9 ?_
 cases l with
 | cons x l =>
  refine W_cF [0, 4] (by simp [wl9]; rfl) rfl ?_
  refine yc9 ?_
  rw [← wl9]
  refine yt9 [2] (by simp at hb; simp [hb]; rfl) ?_
  refine zt9 ?_
  repeat (first | refine yj9 ?_ | refine yk9 ?_)
  exact ⟨_, by simp [retQ]; exact ⟨rfl, by simp⟩, .norm fun T => by simp⟩
 | nil =>
  refine W_nilCases 0 (sz := 1) rfl ?_ fun ad cap hc => ?_
  ·refine W_cT [0, 4] (by simp [putF]; rfl) rfl ?_
   refine yt9 [2] (by simp; rfl) ?_
   refine zt9 ?_
   repeat (first | refine yj9 ?_ | refine yk9 ?_)
   exact ⟨.lst .nil 1 [], by simp [retQ], .nil (by decide +kernel)⟩
  ·refine W_cF [0, 4] (by simp [putF]; rfl) rfl ?_
   refine yc9 ?_
   refine zg9 [0] ?_
   refine W_unnil 0 1 (by simp; rfl) hc ?_
   refine yt9 [2] (by simp [putF]; rfl) ?_
   refine zt9 ?_
   repeat (first | refine yj9 ?_ | refine yk9 ?_)
   exact ⟨_, by simp [retQ]; exact ⟨rfl, by simp⟩, .norm fun T => by simp⟩
theorem clone64p (l : List UInt8) (hl : l.length ≤ 140737488351232) : Sound Try.prog 64 [.lst .any 1 (byL l)] (.lst .any 1 (byL l)) := (clone64 l hl).weakR
structure LB (m : LMod) (n : Nat) : Prop where
 s : m.seg.length * 14 ≤ n
 t : m.text.length ≤ n
 r : m.rel.length ≤ n
end Go.AM
namespace Go.AM
open Go.RowKit Go.Proofs
set_option linter.unusedSimpArgs false
set_option linter.unusedVariables false
set_option maxHeartbeats 8000000
def zObD : List AV := [.lst .nil 5 [], .lst .nil 3 [], .lst .nil 5 [], .v (.string ⟨#[]⟩)]
def oF (fe ft fr : Fl) (o : OMod) : List AV := [.lst fe 5 (esL o.esd), .lst ft 3 (txL o.txt), .lst fr 5 (rdL o.rld), strB o.entry]
def FlD (fe ft fr : Fl) (o : OMod) : Prop := (fe = .nil ∧ o.esd = [] ∨ fe = .tip 78 129) ∧ (ft = .nil ∧ o.txt = [] ∨ ft = .tip 73 105) ∧ (fr = .nil ∧ o.rld = [] ∨ fr = .tip 80 187)
theorem klD_f {T e a s : Nat} {f : Fl} {p : Prop} {x : List AV} (h : f = .nil ∧ p ∨ f = .tip e a) (hne : a ≠ T) : AV.kill T (.lst f s x) = .lst f s x := by
 rcases h with ⟨rfl, _⟩ | rfl
 ·rfl
 ·rw [zt7, if_neg hne]
structure OBd (s : OMod × Int) (n : Nat) : Prop where
 e : s.1.esd.length ≤ 3 * n
 t : s.1.txt.length ≤ n
 r : s.1.rld.length ≤ 7 * n
 n0 : 0 ≤ s.2
 n1 : s.2 ≤ 1 + 3 * n
 ok : OIn s.1
theorem zl7 (b : List UInt8) (a n : Nat) (h : a + n ≤ b.length) : (sbM b a n).length = n := by
 unfold sbM
 rw [List.length_take, List.length_drop]
 omega
theorem decM_len (l : List UInt8) : (decM l).length = l.length := by simp [decM]
theorem nmM_len (l : List UInt8) : (nmM l).length ≤ l.length := by
 unfold nmM trimM
 rw [decM_len, List.length_reverse]
 have := (List.dropWhile_sublist (· == (64 : UInt8)) (l := l.reverse)).length_le
 simpa using this
theorem rdEs_ok (b : List UInt8) (hb : b.length = 80) (base : List Esd) (nx : Int) (P : Esd → Prop) (h0 : ∀ x ∈ base, P x) (hP : ∀ x : Esd, x.name.length ≤ 8 → 0 ≤ x.addr → x.addr ≤ 16777216 → P x) : ∀ k, k ≤ 3 → ∀ x ∈ (rdEs b base nx k).1, P x
 | 0, _, x, hx => h0 x hx
 | k + 1, hk, x, hx => by
  rw [rdEs] at hx
  rcases List.mem_append.1 hx with hx | hx
  ·exact rdEs_ok b hb base nx P h0 hP k (by omega) x hx
  ·simp only [List.mem_singleton] at hx
   subst hx
   obtain ⟨X, hX⟩ : ∃ X, b.drop (16 + 16 * k) = X := ⟨_, rfl⟩
   have hXl : 16 ≤ X.length := by rw [← hX, List.length_drop]; omega
   rw [hX]
   have hn : (nmM (X.take 8)).length ≤ 8 := by
    have := nmM_len (X.take 8)
    rw [List.length_take] at this
    omega
   have hv := valM_lt 3 (sbM X 9 3) (zl7 _ _ _ (by omega))
   have h256 : (256 : Nat) ^ 3 = 16777216 := by decide
   refine hP _ ?_ ?_ ?_
   ·unfold rdE; split; exact hn; split; exact hn; exact hn
   ·unfold rdE; split; (simp only; omega); split; (simp only; omega); (simp only; omega)
   ·unfold rdE; split; (simp only; omega); split; (simp only; omega); (simp only; omega)
theorem OBd.item {s s' : OMod × Int} {n : Nat} {b : List UInt8} {p : Bool} (h : OBd s n) (hb : b.length = 80) (hi : itemD p s b = some s') : OBd s' (n + 1) := by
 obtain ⟨he, ht, hr, hn0, hn1, ⟨oe, ot, orr⟩⟩ := h
 have h256 : (256 : Nat) ^ 3 = 16777216 := by decide
 have hc3 : ∀ v, cntE p v ≤ 3 := fun v => by unfold cntE; split <;> omega
 have hc7 : ∀ v, cntR p v ≤ 7 := fun v => by unfold cntR; split <;> omega
 unfold itemD at hi
 split at hi
 ·obtain ⟨k, hk⟩ : ∃ k, cntE p (valM (sbM b 10 2)) = k := ⟨_, rfl⟩
  have hk3 := hc3 (valM (sbM b 10 2))
  rw [hk] at hi hk3
  have hl := rdEs_len b s.1.esd s.2 k
  have hx := rdEs_nx b s.1.esd s.2 k
  cases hi
  refine ⟨by simp only; omega, by simp only; omega, by simp only; omega, by simp only; omega, by simp only; omega, ⟨?_, ot, orr⟩⟩
  exact rdEs_ok b hb _ _ _ oe (fun x h1 h2 h3 => ⟨by omega, by unfold i64r; omega⟩) k hk3
 split at hi
 ·split at hi
  ·cases hi
  ·cases hi
   refine ⟨by simp only; omega, by simp only [List.length_append, List.length_singleton]; omega, by simp only; omega, by simp only; omega, by simp only; omega, ⟨oe, ?_, orr⟩⟩
   intro x hx
   rcases List.mem_append.1 hx with hx | hx
   ·exact ot x hx
   ·simp only [List.mem_singleton] at hx
    subst hx
    have hv := valM_lt 3 (sbM b 5 3) (zl7 _ _ _ (by omega))
    refine ⟨by unfold i64r; simp only; omega, ?_⟩
    simp only [sbM, List.length_take]
    omega
 split at hi
 ·cases hi
  have h7 := hc7 (valM (sbM b 10 2))
  refine ⟨by simp only; omega, by simp only; omega, by simp only [List.length_append, rdRs, List.length_map, List.length_range]; omega, by simp only; omega, by simp only; omega, ⟨oe, ot, ?_⟩⟩
  intro x hx
  rcases List.mem_append.1 hx with hx | hx
  ·exact orr x hx
  ·obtain ⟨j, hj, rfl⟩ := List.mem_map.1 hx
   have hj := List.mem_range.1 hj
   have hv := valM_lt 3 (sbM (b.drop (16 + 8 * j)) 5 3) (zl7 _ _ _ (by rw [List.length_drop]; omega))
   unfold i64r rdR8
   simp only
   omega
 split at hi
 ·cases hi
  exact ⟨by simp only; omega, by simp only; omega, by simp only; omega, by simp only; omega, by simp only; omega, ⟨oe, ot, orr⟩⟩
 ·cases hi
  exact ⟨by omega, by omega, by omega, by omega, by omega, ⟨oe, ot, orr⟩⟩
theorem egoE_len2 (l : List Esd) : ∀ (f i : Nat), (egoE l f i).length ≤ f
 | 0, i => by simp [egoE]
 | f + 1, i => by
  rw [egoE]
  split
  ·have := egoE_len2 l f (i + 3)
   simp only [List.length_cons]
   omega
  ·simp
theorem egoR_len2 (l : List Rld) : ∀ (f i : Nat), (egoR l f i).length ≤ f
 | 0, i => by simp [egoR]
 | f + 1, i => by
  rw [egoR]
  split
  ·have := egoR_len2 l f (i + 7)
   simp only [List.length_cons]
   omega
  ·simp
theorem txL_app (s t : List Txt) : txL (s ++ t) = txL s ++ txL t := by simp [txL]
theorem rdL_app (s t : List Rld) : rdL (s ++ t) = rdL s ++ rdL t := by simp [rdL]
theorem txL_nil : txL [] = [] := rfl
theorem rdL_nil : rdL [] = [] := rfl
theorem txL_one (x : Txt) : txL [x] = [txA x] := rfl
theorem rdL_one (x : Rld) : rdL [x] = [rdA x] := rfl
theorem bit2 : ∀ n : Fin 256, (BitVec.ofInt 8 (n.val : Int) &&& BitVec.ofInt 8 2).toNat = n.val / 2 % 2 * 2 := by decide +kernel
theorem and2 (n : Nat) (h : n < 256) : bitsA .and .u8 (n : Int) 2 = some (.v (.int .u8 ((n / 2 % 2 * 2 : Nat) : Int))) := by
 have := bit2 ⟨n, h⟩
 simp only at this
 show some (AV.v (.int .u8 (IntKind.u8.wrap ((BitVec.ofInt 8 (n : Int) &&& BitVec.ofInt 8 2).toNat : Nat)))) = _
 rw [this, wu8 (by omega) (by omega)]
theorem shr2 (v : Nat) : ((v : Int).fdiv (2 ^ min 2 IntKind.u8.bits)) = ((v / 4 : Nat) : Int) := by
 have : min 2 IntKind.u8.bits = 2 := by decide
 rw [this, Int.fdiv_eq_ediv_of_nonneg _ (by omega)]
 omega
theorem rdRs_succ (b : List UInt8) (n : Nat) : rdRs b (n + 1) = rdRs b n ++ [rdR8 (b.drop (16 + 8 * n))] := by simp [rdRs, List.range_succ]
theorem nm_eq (a b : List UInt8) : (a == b) = decide (a = b) := by rw [Bool.eq_iff_iff]; simp
theorem decodeObject_sound (L : List (List UInt8)) (hL : L.length ≤ 1000000) :
  Sound Try.prog 27 [.lst .any 1 (bbL L)] (.tup [obA (dcD true L).1, .v (.int .i64 (if (dcD true L).2 = true then 0 else 310))]) := by
 refine sound_of_U Try.func27 rfl (by decide +kernel) (by simp [Try.f27]) rfl rfl (rs := [.cell 2 26, .tmp 3]) rfl ?_
 rw [show Try.f27.ntmps = 118 from rfl]
 refine yt9 [0, 2] (by simp; rfl) ?_
 refine yt9 [0, 2, 4] (by simp; rfl) ?_
 refine yt9 [0, 2, 4, 5] (by simp; rfl) ?_
 refine vq9 (fun σ => ∃ (o : OMod) (nx : Int) (fe ft fr : Fl), goD true L (om0, 1) = some (o, nx) ∧ OBd (o, nx) L.length ∧ FlD fe ft fr o ∧ σ = ⟨118, [(0, .lst .any 1 (bbL L)), (2, .loc 0 0), (4, .loc 1 0), (5, .v (.int .i64 nx))], [.cells 26 zObD, .cells 26 (oF fe ft fr o)]⟩) ?_ ?_
 ·refine yt9 [0, 2, 4, 5, 13, 14, 15] (by simp; rfl) ?_
  refine yf9 ?_
  refine zm9 (fun k s => ∃ (i : Nat) (o : OMod) (nx : Int) (fe ft fr : Fl), k = L.length - i ∧ i ≤ L.length ∧ goD true (L.drop i) (o, nx) = goD true L (om0, 1) ∧ OBd (o, nx) i ∧ FlD fe ft fr o ∧
   s = ⟨118, [(0, .lst .any 1 (bbL L)), (2, .loc 0 0), (4, .loc 1 0), (5, .v (.int .i64 nx)), (13, .lst .any 1 (bbL L)), (14, .v (.int .i64 (L.length : Nat))), (15, .v (.int .i64 (i : Nat)))], [.cells 26 zObD, .cells 26 (oF fe ft fr o)]⟩) (k := L.length) ⟨0, om0, 1, .nil, .nil, .nil, rfl, by omega, rfl, ⟨by simp [om0], by simp [om0], by simp [om0], by omega, by simp, ⟨by simp [om0], by simp [om0], by simp [om0]⟩⟩, ⟨.inl ⟨rfl, rfl⟩, .inl ⟨rfl, rfl⟩, .inl ⟨rfl, rfl⟩⟩, by simp [oF, om0, esL, txL, rdL, strB, zObD]⟩ ?_
  rintro k s ⟨i, o, nx, fe, ft, fr, rfl, hi, hgo, hB, hfl, rfl⟩
  by_cases c : i < L.length
  rotate_left
  ·refine yt9 [0, 2, 4, 5, 16] (by simp [c]; rfl) ?_
   refine yh9 ?_
   refine yd9 rfl (fun h => by simp at h) (fun h => ?_)
   refine zg9 [0, 2, 4, 5] ?_
   refine zb9 ?_
   have hiL : i = L.length := by omega
   refine ⟨o, nx, fe, ft, fr, ?_, ?_, hfl, by simp⟩
   ·rw [← hgo, hiL, List.drop_length, goD]
   ·rw [hiL] at hB; exact hB
  have ci : (i : Int) < L.length := by omega
  obtain ⟨b, hb⟩ : ∃ b, L[i]? = some b := ⟨_, List.getElem?_eq_getElem c⟩
  have hb2 : L[i]'c = b := by rw [List.getElem?_eq_getElem c] at hb; exact Option.some.inj hb
  have hdr : L.drop i = b :: L.drop (i + 1) := by rw [List.drop_eq_getElem_cons c, hb2]
  have wi := w64 (n := (i : Int) + 1) (by omega) (by omega)
  rw [hdr, goD] at hgo
  refine yt9 [0, 2, 4, 5, 13, 14, 15, 16] (by simp [c]; rfl) ?_
  refine yh9 ?_
  refine yd9 rfl (fun h => ?_) (fun h => by simp at h)
  refine yc9 ?_
  refine yh9 ?_
  refine yf9 ?_
  refine yt9 [0, 2, 4, 5, 13, 14, 15, 7] (by simp [c, ci, hb2]; rfl) ?_
  refine yh9 ?_
  by_cases c80 : b.length = 80
  rotate_left
  ·have c80i : ¬ (b.length : Int) = 80 := by omega
   have c80b : ((b.length : Int) != 80) = true := by simpa using c80i
   have c80c : ((b.length : Int) == 80) = false := by simpa using c80i
   rw [if_neg c80] at hgo
   refine W_cT [0, 2, 4, 5, 13, 14, 15, 7, 21] (by simp [c80, c80i, c80b, c80c]; rfl) rfl ?_
   refine yt9 [2, 3] (by simp [yg9]; rfl) ?_
   refine zt9 ?_
   repeat (first | refine yj9 ?_ | refine yk9 ?_)
   have hd : dcD true L = (om0, false) := by rw [dcD, ← hgo]
   rw [hd]
   exact retU_pl (r0 := .tup _) ⟨.inr rfl, _, _, by simp [zObD, yg9]; rfl, by simp; exact ⟨rfl, rfl⟩, by simp [AV.rf, AV.rfL]⟩ (by simp [AV.plain, AV.plainL, om0, esL, txL, rdL, strB])
  have c80i : (b.length : Int) = 80 := by omega
  rw [if_pos c80] at hgo
  have h80 : ∀ n : Nat, n ≤ 80 → n ≤ b.length := fun n h => by omega
  obtain ⟨A, hA⟩ : ∃ A, sbM b 1 3 = A := ⟨_, rfl⟩
  have eA : (List.take 4 (byL b)).tail = byL A := by rw [← hA, sbM, ← List.drop_one, ← xj9, ← wg9, List.drop_take]
  have hdc := vh8 A (by rw [← hA, zl7 _ _ _ (by omega)]; omega)
  obtain ⟨nm, hnm⟩ : ∃ s, decM A = s := ⟨_, rfl⟩
  rw [hnm] at hdc
  obtain ⟨A2, hA2⟩ : ∃ A, sbM b 10 2 = A := ⟨_, rfl⟩
  have eA2 : List.drop 10 (List.take 12 (byL b)) = byL A2 := by rw [← hA2, sbM, ← xj9, ← wg9, List.drop_take]
  have hv2 := yf8 A2 (by rw [← hA2, zl7 _ _ _ (by omega)]; omega)
  have hVl := valM_lt 2 A2 (by rw [← hA2, zl7 _ _ _ (by omega)])
  have hp2 : (256 : Nat) ^ 2 = 65536 := by decide
  obtain ⟨V, hV⟩ : ∃ V, valM A2 = V := ⟨_, rfl⟩
  rw [hV] at hv2 hVl
  have hitem : itemD true (o, nx) b = if nm = xq8 then some (⟨(rdEs b o.esd nx (cntE true V)).1, o.txt, o.rld, o.entry⟩, (rdEs b o.esd nx (cntE true V)).2)
    else if nm = xd8 then some (⟨o.esd, o.txt ++ [⟨valM (sbM b 14 2), valM (sbM b 5 3), sbM b 16 (min V 56)⟩], o.rld, o.entry⟩, nx)
    else if nm = wd8 then some (⟨o.esd, o.txt, o.rld ++ rdRs b (cntR true V), o.entry⟩, nx)
    else if nm = vn9 then some (⟨o.esd, o.txt, o.rld, nmM (sbM b 16 8)⟩, nx) else some (o, nx) := by
   unfold itemD
   rw [hA, hnm, hA2, hV]
   simp
  have hBn : ∀ s', itemD true (o, nx) b = some s' → OBd s' (i + 1) := fun s' h => hB.item c80 h
  obtain ⟨hB1, hB2, hB3, hB4, hB5, hB6⟩ := hB
  simp only at hB1 hB2 hB3 hB4 hB5
  refine W_cF [0, 2, 4, 5, 13, 14, 15, 7, 21] (by simp [c80, c80i]; rfl) rfl ?_
  refine yc9 ?_
  refine W_rK [0, 2, 4, 5, 13, 14, 15, 7, 25] ?_
  refine yq9 2 (by simp [c80, c80i, h80]; rfl) rfl ?_
  refine yl9 (by simp) (by simp [eA]; rfl) hdc (by simp; rfl) ?_
  refine yr9 (by simp [strB]; rfl) ?_
  refine yf9 ?_
  by_cases t1 : nm = xq8
  ·have hit := hitem
   rw [if_pos t1] at hit
   have hBs := hBn _ hit
   rw [hit] at hgo
   simp only at hgo
   have t1b : (nm == [69, 83, 68]) = true := by rw [nm_eq]; simpa [xq8] using t1
   refine W_cT [0, 2, 4, 5, 13, 14, 15, 7, 25, 26] (by simp [t1b]; rfl) rfl ?_
   have hcall := esd62_callW b c80 nx hB4 (by omega) o.esd (by omega) fe hfl.1 zObD (.lst ft 3 (txL o.txt)) (.lst fr 5 (rdL o.rld)) (strB o.entry) (klD_f hfl.2.1 (by decide)) (klD_f hfl.2.2 (by decide)) rfl rfl (by simp [AV.under]) (by simp [AV.under]) rfl rfl
   rw [hA2, hV] at hcall
   refine W_rE [0, 2, 4, 5, 13, 14, 15] ?_
   refine yq9 2 (by simp; rfl) rfl ?_
   refine zs9 (f := 62) (args := [.loc 1 0, .lst .any 1 (byL b), .v (.int .i64 nx)]) (by simp) (by first | (simp; done) | (simp; rfl)) (hcall.mono ?_)
   rintro r h' ⟨fe', rfl, hfe', rfl⟩
   refine ⟨_, by simp; rfl, ?_⟩
   refine yr9 (by simp; rfl) ?_
   refine zd9 [0, 2, 4, 5, 13, 14, 15] (by simp [wi]; rfl) ?_
   exact ⟨_, by omega, i + 1, _, _, fe', ft, fr, rfl, by omega, hgo, hBs, ⟨hfe', hfl.2.1, hfl.2.2⟩, by simp [oF]⟩
  have t1b : (nm == [69, 83, 68]) = false := by rw [nm_eq]; simpa [xq8] using t1
  rw [if_neg t1] at hitem
  refine W_cF [0, 2, 4, 5, 13, 14, 15, 7, 25, 26] (by simp [t1b]; rfl) rfl ?_
  by_cases t2 : nm = xd8
  ·have hit := hitem
   rw [if_pos t2] at hit
   have hBs := hBn _ hit
   rw [hit] at hgo
   simp only at hgo
   have t2b : (nm == [84, 88, 84]) = true := by rw [nm_eq]; simpa [xd8] using t2
   refine W_cT [0, 2, 4, 5, 13, 14, 15, 7, 31] (by simp [t2b]; rfl) rfl ?_
   obtain ⟨m, hm⟩ : ∃ m, min V 56 = m := ⟨_, rfl⟩
   have hm56 : m ≤ 56 := by omega
   have hmin : (if (56 : Int) < (V : Int) then (56 : Int) else (V : Int)) = (m : Nat) := by split <;> omega
   rw [hm] at hgo hBs
   refine W_rK [0, 2, 4, 5, 13, 14, 15, 7, 8] ?_
   refine yq9 2 (by simp [c80, c80i, h80, eA2]; rfl) rfl ?_
   refine yl9 (by simp) (by first | (simp; done) | (simp; rfl)) hv2 (by simp; rfl) ?_
   refine yr9 (by simp [hmin]; rfl) ?_
   obtain ⟨B1, hB1'⟩ : ∃ A, sbM b 14 2 = A := ⟨_, rfl⟩
   have eB1 : List.drop 14 (List.take 16 (byL b)) = byL B1 := by rw [← hB1', sbM, ← xj9, ← wg9, List.drop_take]
   have hvB1 := yf8 B1 (by rw [← hB1', zl7 _ _ _ (by omega)]; omega)
   obtain ⟨V1, hV1⟩ : ∃ V, valM B1 = V := ⟨_, rfl⟩
   obtain ⟨B2, hB2'⟩ : ∃ A, sbM b 5 3 = A := ⟨_, rfl⟩
   have eB2 : List.drop 5 (List.take 8 (byL b)) = byL B2 := by rw [← hB2', sbM, ← xj9, ← wg9, List.drop_take]
   have hvB2 := yf8 B2 (by rw [← hB2', zl7 _ _ _ (by omega)]; omega)
   obtain ⟨V2, hV2⟩ : ∃ V, valM B2 = V := ⟨_, rfl⟩
   obtain ⟨D, hD⟩ : ∃ D, sbM b 16 m = D := ⟨_, rfl⟩
   have eD : List.drop 16 (List.take (16 + m) (byL b)) = byL D := by rw [← hD, sbM, ← xj9, ← wg9, List.drop_take, Nat.add_sub_cancel_left]
   have hcl := clone64p D (by rw [← hD, zl7 _ _ _ (by omega)]; omega)
   have wm := w64 (n := 16 + (m : Int)) (by omega) (by omega)
   have hq : 16 + m ≤ b.length := by omega
   have hqi : 16 + (m : Int) ≤ b.length := by omega
   have hq0 : (0 : Int) ≤ 16 + (m : Int) := by omega
   have hq1 : (16 : Int) ≤ 16 + (m : Int) := by omega
   have hq2 : 16 + (m : Int) ≤ 80 := by omega
   have hq3 : 16 + m ≤ 80 := by omega
   have hq4 : 16 ≤ 16 + m := by omega
   have hqt : (16 + (m : Int)).toNat = 16 + m := by omega
   have hl0 : ∀ q : Int, q ≤ 80 → q ≤ b.length := fun q h => by omega
   rw [hB1', hV1, hB2', hV2, hD] at hgo hBs
   rw [hV1] at hvB1
   rw [hV2] at hvB2
   have hby : (o.txt.length + 1) * 40 ≤ 140737488355328 := by omega
   have hk1 : ∀ s x, AV.kill 105 (.lst fe s x) = .lst fe s x := fun s x => klD_f hfl.1 (by decide)
   have hk2 : ∀ s x, AV.kill 105 (.lst fr s x) = .lst fr s x := fun s x => klD_f hfl.2.2 (by decide)
   have hk3 : AV.kill 105 (strB o.entry) = strB o.entry := rfl
   have hsn : txL (o.txt ++ [⟨V1, V2, D⟩]) = txL o.txt ++ [txA ⟨V1, V2, D⟩] := by rw [txL_app, txL_one]
   obtain ⟨es, txt, rld, en⟩ := o
   simp only at hfl hsn hby hk3 hgo hBs hB1 hB2 hB3 ⊢
   rcases hfl.2.1 with ⟨rfl, ht0⟩ | rfl
   ·subst ht0
    refine xk8 [0, 2, 4, 5, 13, 14, 15] mx (by decide +kernel) ?_
    refine yw9 4 (by simp [c80, c80i, h80, eB1, oF, txL_nil]; rfl) rfl ?_
    refine ym9 (by simp) (by first | (simp; done) | (simp; rfl)) hvB1 (by simp; rfl) ?_
    refine yw9 2 (by simp [c80, c80i, h80, eB2]; rfl) rfl ?_
    refine ym9 (by simp) (by first | (simp; done) | (simp; rfl)) hvB2 (by simp; rfl) ?_
    refine yw9 4 (by simp [c80, c80i, h80, hl0, wm, hq, hqi, hq0, hq1, hq2, hq3, hq4, hqt, eD]; rfl) rfl ?_
    refine ym9 (by simp) (by first | (simp; done) | (simp; rfl)) hcl (by simp; rfl) ?_
    refine zq9 (by simp [hby, yg9, -AV.kill, klD_v, klD_loc, klD_any, klD_nil, zt7, klD_agg, hk1, hk2, hk3]; rfl) ?_
    refine zd9 [0, 2, 4, 5, 13, 14, 15] (by simp [wi]; rfl) ?_
    exact ⟨_, by omega, i + 1, _, _, fe, .tip 73 105, fr, rfl, by omega, hgo, hBs, ⟨hfl.1, .inr rfl, hfl.2.2⟩, by simp [oF, txL, yg9, strB, zObD, -AV.kill, klD_v, klD_loc, klD_any, klD_nil, zt7, klD_agg, hk1, hk2, hk3]⟩
   ·refine xk8 [0, 2, 4, 5, 13, 14, 15] mx (by decide +kernel) ?_
    refine yw9 4 (by simp [c80, c80i, h80, eB1, oF]; rfl) rfl ?_
    refine ym9 (by simp) (by first | (simp; done) | (simp; rfl)) hvB1 (by simp; rfl) ?_
    refine yw9 2 (by simp [c80, c80i, h80, eB2]; rfl) rfl ?_
    refine ym9 (by simp) (by first | (simp; done) | (simp; rfl)) hvB2 (by simp; rfl) ?_
    refine yw9 4 (by simp [c80, c80i, h80, hl0, wm, hq, hqi, hq0, hq1, hq2, hq3, hq4, hqt, eD]; rfl) rfl ?_
    refine ym9 (by simp) (by first | (simp; done) | (simp; rfl)) hcl (by simp; rfl) ?_
    refine zq9 (by simp [hby, yg9, -AV.kill, klD_v, klD_loc, klD_any, klD_nil, zt7, klD_agg, hk1, hk2, hk3]; rfl) ?_
    refine zd9 [0, 2, 4, 5, 13, 14, 15] (by simp [wi]; rfl) ?_
    exact ⟨_, by omega, i + 1, _, _, fe, .tip 73 105, fr, rfl, by omega, hgo, hBs, ⟨hfl.1, .inr rfl, hfl.2.2⟩, by simp [oF, hsn, yg9, strB, zObD, -AV.kill, klD_v, klD_loc, klD_any, klD_nil, zt7, klD_agg, hk1, hk2, hk3]⟩
  have t2b : (nm == [84, 88, 84]) = false := by rw [nm_eq]; simpa [xd8] using t2
  rw [if_neg t2] at hitem
  refine W_cF [0, 2, 4, 5, 13, 14, 15, 7, 25, 31] (by simp [t2b]; rfl) rfl ?_
  by_cases t3 : nm = wd8
  ·have hit := hitem
   rw [if_pos t3] at hit
   have hBs := hBn _ hit
   rw [hit] at hgo
   simp only at hgo
   have t3b : (nm == [82, 76, 68]) = true := by rw [nm_eq]; simpa [wd8] using t3
   refine W_cT [0, 2, 4, 5, 13, 14, 15, 7, 54] (by simp [t3b]; rfl) rfl ?_
   obtain ⟨n, hn⟩ : ∃ n, cntR true V = n := ⟨_, rfl⟩
   have hn7 : n ≤ 7 := by rw [← hn]; unfold cntR; split <;> omega
   have hdv : (V : Int).tdiv 8 = ((V / 8 : Nat) : Int) := rfl
   have wq := w64 (n := ((V / 8 : Nat) : Int)) (by omega) (by omega)
   have hmin : (if ((V / 8 : Nat) : Int) < 7 then ((V / 8 : Nat) : Int) else (7 : Int)) = (n : Nat) := by
    rw [← hn, cntR]
    simp only [if_pos]
    split <;> omega
   rw [hn] at hgo hBs
   refine W_rK [0, 2, 4, 5, 13, 14, 15, 7, 60, 61] ?_
   refine yq9 2 (by simp [c80, c80i, h80, eA2]; rfl) rfl ?_
   refine yl9 (by simp) (by first | (simp; done) | (simp; rfl)) hv2 (by simp; rfl) ?_
   refine yr9 (by simp [hdv, wq, hmin, -Int.natCast_ediv]; rfl) ?_
   have hk1 : ∀ s x, AV.kill 187 (.lst fe s x) = .lst fe s x := fun s x => klD_f hfl.1 (by decide)
   have hk2 : ∀ s x, AV.kill 187 (.lst ft s x) = .lst ft s x := fun s x => klD_f hfl.2.1 (by decide)
   have hk3 : AV.kill 187 (strB o.entry) = strB o.entry := rfl
   refine yf9 ?_
   refine zm9 (fun k s => ∃ (j : Nat) (gs : Fl), k = n - j ∧ j ≤ n ∧ (gs = .nil ∧ o.rld ++ rdRs b j = [] ∨ gs = .tip 80 187) ∧
    s = ⟨118, [(0, .lst .any 1 (bbL L)), (2, .loc 0 0), (4, .loc 1 0), (5, .v (.int .i64 nx)), (13, .lst .any 1 (bbL L)), (14, .v (.int .i64 (L.length : Nat))), (15, .v (.int .i64 (i : Nat))), (7, .lst .any 1 (byL b)), (60, .v (.int .i64 (n : Nat))), (61, .v (.int .i64 (j : Nat)))], [.cells 26 zObD, .cells 26 [.lst fe 5 (esL o.esd), .lst ft 3 (txL o.txt), .lst gs 5 (rdL (o.rld ++ rdRs b j)), strB o.entry]]⟩) (k := n) ⟨0, fr, rfl, by omega, by simpa [rdRs] using hfl.2.2, by simp [oF, rdRs]⟩ ?_
   rintro k s ⟨j, gs, rfl, hj, hgs, rfl⟩
   by_cases c' : j < n
   rotate_left
   ·have hjn : j = n := by omega
    subst hjn
    refine yt9 [0, 2, 4, 5, 13, 14, 15, 62] (by simp; rfl) ?_
    refine yh9 ?_
    refine yd9 rfl (fun h => by simp at h) (fun h => ?_)
    refine zb9 ?_
    refine zd9 [0, 2, 4, 5, 13, 14, 15] (by simp [wi]; rfl) ?_
    exact ⟨_, by omega, i + 1, _, _, fe, ft, gs, rfl, by omega, hgo, hBs, ⟨hfl.1, hfl.2.1, hgs⟩, by simp [oF]⟩
   have cj : (j : Int) < n := by omega
   obtain ⟨R, hR⟩ : ∃ R, o.rld ++ rdRs b j = R := ⟨_, rfl⟩
   have hRl : R.length ≤ 100000000 := by rw [← hR]; simp [rdRs]; omega
   obtain ⟨X, hX⟩ : ∃ X, b.drop (16 + 8 * j) = X := ⟨_, rfl⟩
   have hXl : 8 ≤ X.length := by rw [← hX, List.length_drop]; omega
   have hXi : (8 : Int) ≤ X.length := by omega
   have eX : List.drop (16 + 8 * j) (byL b) = byL X := by rw [← hX, ← wg9]
   have hnext : o.rld ++ rdRs b (j + 1) = R ++ [rdR8 X] := by rw [rdRs_succ, ← List.append_assoc, hR, hX]
   have wm := w64 (n := 8 * (j : Int)) (by omega) (by omega)
   have wa := w64 (n := 16 + 8 * (j : Int)) (by omega) (by omega)
   have hq : 16 + 8 * j ≤ b.length := by omega
   have hqi : 16 + 8 * (j : Int) ≤ b.length := by omega
   have hqt : (16 + 8 * (j : Int)).toNat = 16 + 8 * j := by omega
   have hq0 : (0 : Int) ≤ 16 + 8 * (j : Int) := by omega
   have hq2 : 16 + 8 * (j : Int) ≤ 80 := by omega
   have hq3 : 16 + 8 * j ≤ 80 := by omega
   have hx2 : 2 ≤ X.length := by omega
   have hx2i : (2 : Int) ≤ X.length := by omega
   have hx4 : 4 ≤ X.length := by omega
   have hx4i : (4 : Int) ≤ X.length := by omega
   have hx4' : 4 < X.length := by omega
   have hx4'i : (4 : Int) < X.length := by omega
   obtain ⟨B1, hB1'⟩ : ∃ A, X.take 2 = A := ⟨_, rfl⟩
   have eB1 : List.take 2 (byL X) = byL B1 := by rw [← hB1', ← xj9]
   have hvB1 := yf8 B1 (by rw [← hB1', List.length_take]; omega)
   obtain ⟨V1, hV1⟩ : ∃ V, valM B1 = V := ⟨_, rfl⟩
   obtain ⟨B2, hB2'⟩ : ∃ A, sbM X 2 2 = A := ⟨_, rfl⟩
   have eB2 : List.drop 2 (List.take 4 (byL X)) = byL B2 := by rw [← hB2', sbM, ← xj9, ← wg9, List.drop_take]
   have hvB2 := yf8 B2 (by rw [← hB2', zl7 _ _ _ (by omega)]; omega)
   obtain ⟨V2, hV2⟩ : ∃ V, valM B2 = V := ⟨_, rfl⟩
   obtain ⟨B3, hB3'⟩ : ∃ A, sbM X 5 3 = A := ⟨_, rfl⟩
   have eB3 : List.drop 5 (List.take 8 (byL X)) = byL B3 := by rw [← hB3', sbM, ← xj9, ← wg9, List.drop_take]
   have hvB3 := yf8 B3 (by rw [← hB3', zl7 _ _ _ (by omega)]; omega)
   obtain ⟨V3, hV3⟩ : ∃ V, valM B3 = V := ⟨_, rfl⟩
   rw [hV1] at hvB1
   rw [hV2] at hvB2
   rw [hV3] at hvB3
   obtain ⟨x, hx⟩ : ∃ x, X[4]? = some x := ⟨_, List.getElem?_eq_getElem hx4'⟩
   have hx2' : X[4]'hx4' = x := by rw [List.getElem?_eq_getElem hx4'] at hx; exact Option.some.inj hx
   have hxd : X.getD 4 0 = x := by rw [List.getD_eq_getElem?_getD, hx]; rfl
   have hxl := x.toNat_lt
   obtain ⟨K, hK⟩ : ∃ K, x.toNat = K := ⟨_, rfl⟩
   rw [hK] at hxl
   have hand := and2 K (by omega)
   have hsh := shr2 K
   obtain ⟨Y, hY⟩ : ∃ Y, K / 4 = Y := ⟨_, rfl⟩
   obtain ⟨Z, hZ⟩ : ∃ Z, K / 2 % 2 * 2 = Z := ⟨_, rfl⟩
   rw [hZ] at hand
   rw [hY] at hsh
   have wY := w64 (n := (Y : Int)) (by omega) (by omega)
   have wY0 := wu8 (n := (Y : Int)) (by omega) (by omega)
   have wY1 := w64 (n := (Y : Int) + 1) (by omega) (by omega)
   have hz1 : ((Z : Int) != 0) = decide (K / 2 % 2 = 1) := by
    rw [Bool.eq_iff_iff]
    simp only [bne_iff_ne, ne_eq, decide_eq_true_eq]
    omega
   have hz2 : (!((Z : Int) == 0)) = decide (K / 2 % 2 = 1) := hz1
   obtain ⟨ng, hng⟩ : ∃ g, decide (K / 2 % 2 = 1) = g := ⟨_, rfl⟩
   rw [hng] at hz1 hz2
   have hrs : rdR8 X = ⟨V2, V1, V3, (Y : Int) + 1, ng⟩ := by rw [rdR8, hB1', hV1, hB2', hV2, hB3', hV3, hxd, hK, hY, hng]; rfl
   have hby : (R.length + 1) * 40 ≤ 140737488355328 := by omega
   have hsn : rdL (R ++ [rdR8 X]) = rdL R ++ [rdA (rdR8 X)] := by rw [rdL_app, rdL_one]
   rw [hrs] at hsn hnext
   have wj := w64 (n := (j : Int) + 1) (by omega) (by omega)
   rw [hR] at hgs ⊢
   refine yt9 [0, 2, 4, 5, 13, 14, 15, 7, 60, 61, 62] (by simp [c']; rfl) ?_
   refine yh9 ?_
   refine yd9 rfl (fun h => ?_) (fun h => by simp at h)
   refine yc9 ?_
   refine yh9 ?_
   refine yf9 ?_
   refine yt9 [0, 2, 4, 5, 13, 14, 15, 7, 60, 61, 9] (by simp; rfl) ?_
   refine yt9 [0, 2, 4, 5, 13, 14, 15, 7, 60, 61, 10] (by simp [wm, wa, c80, hq, hqi, hqt, hq0, hq2, hq3, eX]; rfl) ?_
   rcases hgs with ⟨rfl, hr0⟩ | rfl
   ·subst hr0
    refine xk8 [0, 2, 4, 5, 13, 14, 15, 7, 60, 61] mx (by decide +kernel) ?_
    refine yw9 4 (by simp [hx2, hx2i, eB1, rdL_nil]; rfl) rfl ?_
    refine ym9 (by simp) (by first | (simp; done) | (simp; rfl)) hvB1 (by simp; rfl) ?_
    refine yw9 2 (by simp [hx4, hx4i, eB2]; rfl) rfl ?_
    refine ym9 (by simp) (by first | (simp; done) | (simp; rfl)) hvB2 (by simp; rfl) ?_
    refine yw9 6 (by simp [hx4', hx4'i, hx2', hK, hand, hsh, wY, wY0, wY1, hz1, hz2, -Int.natCast_ediv]; rfl) rfl ?_
    refine yw9 7 (by simp [hx4', hx4'i, hx2', hK, hand, hsh, wY, wY0, wY1, hz1, hz2, hXl, hXi, eB3, -Int.natCast_ediv]; rfl) rfl ?_
    refine ym9 (by simp) (by first | (simp; done) | (simp; rfl)) hvB3 (by simp; rfl) ?_
    refine zq9 (by simp [hby, yg9, -AV.kill, klD_v, klD_loc, klD_any, klD_nil, zt7, klD_agg, hk1, hk2, hk3]; rfl) ?_
    refine zd9 [0, 2, 4, 5, 13, 14, 15, 7, 60, 61] (by simp [wj]; rfl) ?_
    exact ⟨_, by omega, j + 1, .tip 80 187, rfl, by omega, .inr rfl, by rw [hnext]; simp [rdL, hsn, yg9, strB, zObD, -AV.kill, klD_v, klD_loc, klD_any, klD_nil, zt7, klD_agg, hk1, hk2, hk3]⟩
   ·refine xk8 [0, 2, 4, 5, 13, 14, 15, 7, 60, 61] mx (by decide +kernel) ?_
    refine yw9 4 (by simp [hx2, hx2i, eB1]; rfl) rfl ?_
    refine ym9 (by simp) (by first | (simp; done) | (simp; rfl)) hvB1 (by simp; rfl) ?_
    refine yw9 2 (by simp [hx4, hx4i, eB2]; rfl) rfl ?_
    refine ym9 (by simp) (by first | (simp; done) | (simp; rfl)) hvB2 (by simp; rfl) ?_
    refine yw9 6 (by simp [hx4', hx4'i, hx2', hK, hand, hsh, wY, wY0, wY1, hz1, hz2, -Int.natCast_ediv]; rfl) rfl ?_
    refine yw9 7 (by simp [hx4', hx4'i, hx2', hK, hand, hsh, wY, wY0, wY1, hz1, hz2, hXl, hXi, eB3, -Int.natCast_ediv]; rfl) rfl ?_
    refine ym9 (by simp) (by first | (simp; done) | (simp; rfl)) hvB3 (by simp; rfl) ?_
    refine zq9 (by simp [hby, yg9, -AV.kill, klD_v, klD_loc, klD_any, klD_nil, zt7, klD_agg, hk1, hk2, hk3]; rfl) ?_
    refine zd9 [0, 2, 4, 5, 13, 14, 15, 7, 60, 61] (by simp [wj]; rfl) ?_
    exact ⟨_, by omega, j + 1, .tip 80 187, rfl, by omega, .inr rfl, by rw [hnext]; simp [hsn, yg9, strB, zObD, -AV.kill, klD_v, klD_loc, klD_any, klD_nil, zt7, klD_agg, hk1, hk2, hk3]⟩
  have t3b : (nm == [82, 76, 68]) = false := by rw [nm_eq]; simpa [wd8] using t3
  rw [if_neg t3] at hitem
  refine W_cF [0, 2, 4, 5, 13, 14, 15, 7, 25, 54] (by simp [t3b]; rfl) rfl ?_
  by_cases t4 : nm = vn9
  ·have hit := hitem
   rw [if_pos t4] at hit
   have hBs := hBn _ hit
   rw [hit] at hgo
   simp only at hgo
   have t4b : (nm == [69, 78, 68]) = true := by rw [nm_eq]; simpa [vn9] using t4
   obtain ⟨D, hD⟩ : ∃ D, sbM b 16 8 = D := ⟨_, rfl⟩
   have eD : List.drop 16 (List.take 24 (byL b)) = byL D := by rw [← hD, sbM, ← xj9, ← wg9, List.drop_take]
   have htr := trim_sound D (by rw [← hD, zl7 _ _ _ (by omega)]; omega)
   rw [hD] at hgo hBs
   refine W_cT [0, 2, 4, 5, 13, 14, 15, 7, 96] (by simp [t4b]; rfl) rfl ?_
   refine W_rE [0, 2, 4, 5, 13, 14, 15] ?_
   refine yq9 2 (by simp [c80, c80i, h80, eD]; rfl) rfl ?_
   refine yl9 (by simp) (by first | (simp; done) | (simp; rfl)) htr (by simp; rfl) ?_
   refine yr9 (by simp [oF, yg9]; rfl) ?_
   refine zd9 [0, 2, 4, 5, 13, 14, 15] (by simp [wi]; rfl) ?_
   exact ⟨_, by omega, i + 1, _, _, fe, ft, fr, rfl, by omega, hgo, hBs, ⟨hfl.1, hfl.2.1, hfl.2.2⟩, by simp [oF, nmM, strB]⟩
  have t4b : (nm == [69, 78, 68]) = false := by rw [nm_eq]; simpa [vn9] using t4
  rw [if_neg t4] at hitem
  have hBs := hBn _ hitem
  rw [hitem] at hgo
  simp only at hgo
  refine W_cF [0, 2, 4, 5, 13, 14, 15, 7, 96] (by simp [t4b]; rfl) rfl ?_
  refine yc9 ?_
  refine zd9 [0, 2, 4, 5, 13, 14, 15] (by simp [wi]; rfl) ?_
  exact ⟨_, by omega, i + 1, o, nx, fe, ft, fr, rfl, by omega, hgo, hBs, hfl, by simp⟩
 ·rintro σ ⟨o, nx, fe, ft, fr, hgo, hB, hfl, rfl⟩
  have hen := encO_sound o hB.ok
  refine yh9 ?_
  by_cases hc : chkM o = true
  ·rw [encOR, if_pos hc] at hen
   refine W_rK [0, 2, 4, 11, 12] ?_
   refine yq9 1 (by simp [oF]; rfl) rfl ?_
   refine yl9 (by simp) (by simp [strB]; rfl) hen (by simp; rfl) ?_
   refine yr9 (by simp; rfl) ?_
   have hO := chkM_ok hc
   have hel : (encO o).length ≤ 100000000 := by
    have h1 := egoE_len2 o.esd o.esd.length 0
    have h2 := egoR_len2 o.rld o.rld.length 0
    have h3 := hO.l1
    have h4 := hO.l2
    have h5 := hO.l3
    unfold encO
    simp only [List.length_append, List.length_map, List.length_singleton]
    omega
   have hsm := same66_sound (encO o) L hel
   refine W_rK [2, 4, 115] ?_
   refine yq9 5 (by simp; rfl) rfl ?_
   refine yl9 (by simp) (by first | (simp; done) | (simp; rfl)) hsm (by simp; rfl) ?_
   by_cases he : encO o = L
   ·refine yr9 (by simp [he]; rfl) ?_
    refine yd9 rfl (fun h => by simp at h) (fun h => ?_)
    refine yc9 ?_
    refine yt9 [2, 3] (by simp [yg9]; rfl) ?_
    refine zt9 ?_
    repeat (first | refine yj9 ?_ | refine yk9 ?_)
    have hd : dcD true L = (o, true) := by rw [dcD, hgo]; simp only; rw [if_pos ⟨hc, he⟩]
    rw [hd]
    exact retU_pl (r0 := .tup _) ⟨.inr rfl, _, _, by simp [yg9]; rfl, by simp; exact ⟨rfl, rfl⟩, by simp [AV.rf, AV.rfL, strB]⟩ (by simp [AV.plain, AV.plainL, strB])
   ·refine yr9 (by simp [he]; rfl) ?_
    refine yd9 rfl (fun h => ?_) (fun h => by simp at h)
    refine yt9 [2, 3] (by simp [zObD, yg9]; rfl) ?_
    refine zt9 ?_
    repeat (first | refine yj9 ?_ | refine yk9 ?_)
    have hd : dcD true L = (om0, false) := by rw [dcD, hgo]; simp only; rw [if_neg fun h => he h.2]
    rw [hd]
    exact retU_pl (r0 := .tup _) ⟨.inr rfl, _, _, by simp [yg9]; rfl, by simp; exact ⟨rfl, rfl⟩, by simp [AV.rf, AV.rfL]⟩ (by simp [AV.plain, AV.plainL, om0, esL, txL, rdL, strB])
  ·rw [encOR, if_neg hc] at hen
   refine W_rK [0, 2, 4, 11, 12] ?_
   refine yq9 1 (by simp [oF]; rfl) rfl ?_
   refine yl9 (by simp) (by simp [strB]; rfl) hen (by simp; rfl) ?_
   refine yr9 (by simp; rfl) ?_
   refine W_cT [2, 4, 115] (by simp; rfl) rfl ?_
   refine yt9 [2, 3] (by simp [zObD, yg9]; rfl) ?_
   refine zt9 ?_
   repeat (first | refine yj9 ?_ | refine yk9 ?_)
   have hd : dcD true L = (om0, false) := by rw [dcD, hgo]; simp only; rw [if_neg fun h => hc h.1]
   rw [hd]
   exact retU_pl (r0 := .tup _) ⟨.inr rfl, _, _, by simp [yg9]; rfl, by simp; exact ⟨rfl, rfl⟩, by simp [AV.rf, AV.rfL]⟩ (by simp [AV.plain, AV.plainL, om0, esL, txL, rdL, strB])
end Go.AM
