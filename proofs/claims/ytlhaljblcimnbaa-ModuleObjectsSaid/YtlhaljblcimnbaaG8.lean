/- Parts of the walk: C31OE C31OF C31OG. -/
import Derived.Test.YtlhaljblcimnbaaG7
namespace Go.AM
open Go.RowKit Go.Proofs
set_option linter.unusedSimpArgs false
set_option linter.unusedVariables false
set_option maxHeartbeats 4000000
theorem cardM_eq (s : List UInt8) (h : (xr9 s).length ≤ 79) : vh9 s = 2 :: (xr9 s ++ List.replicate (79 - (xr9 s).length) 64) := by
 have h1 : (xp9 80).set 0 2 = 2 :: List.replicate 79 64 := rfl
 rw [vh9, putM, h1]
 obtain ⟨n, hn⟩ : ∃ n, (79 : Nat) = n := ⟨_, rfl⟩
 rw [hn, show 1 + (xr9 s).length = (xr9 s).length + 1 by omega, List.drop_succ_cons, List.drop_replicate]
 rfl
theorem card77_sound (s : List UInt8) (hs : s.length ≤ 1000000) (h0 : xr9 s ≠ []) (h79 : (xr9 s).length ≤ 79) : Sound Try.prog 77 [strB s] (.lst (.tip 5 1) 1 (byL (vh9 s))) := by
 have henc := rencode_sound s hs
 rw [cardM_eq s h79]
 obtain ⟨C, hC⟩ : ∃ C, xr9 s = C := ⟨_, rfl⟩
 have hC2 : (encM s).1 = C := hC
 rw [hC] at h0 h79 ⊢
 rw [hC2] at henc
 have hCl : 0 < C.length := List.length_pos_iff.2 h0
 refine ym8 Try.func77 rfl (by decide +kernel) (by simp [Try.f77]) (by simp [AV.rfL, AV.rf, strB]) (by simp [AV.tlL, AV.tl, strB]) (rs := [.tmp 2]) rfl ?_
 rw [show Try.f77.ntmps = 22 from rfl]
 refine yt9 [0] (by simp; rfl) ?_
 refine yt9 [0, 3] (by simp; rfl) ?_
 refine W_rK [3, 4] ?_
 refine yq9 1 (by simp; rfl) rfl ?_
 refine yj9 (by simp) (by first | (simp; done) | (simp; rfl) | (simp [strB]; done) | (simp [strB]; rfl)) henc (by simp; rfl) ?_
 refine yw9 (by simp; rfl) ?_
 have b1 : 1 + C.length ≤ 140737488355328 := by omega
 refine yt9 [3] (by simp [h0, hCl, b1]; rfl) ?_
 refine yc9 ?_
 refine yp9 ?_
 refine zn9 (fun k σ => ∃ j : Nat, k = 79 - C.length - j ∧ j ≤ 79 - C.length ∧ σ = ⟨22, [(3, .lst (.tip 5 29) 1 (byL (2 :: (C ++ List.replicate j 64))))], []⟩) (k := 79 - C.length) ⟨0, rfl, by omega, by simp [vf9]⟩ ?_
 rintro k σ ⟨j, rfl, hj, rfl⟩
 refine yc9 ?_
 have hlen : (byL (2 :: (C ++ List.replicate j 64))).length = C.length + j + 1 := by simp
 obtain ⟨D, hD⟩ : ∃ D, byL (2 :: (C ++ List.replicate j 64)) = D := ⟨_, rfl⟩
 rw [hD] at hlen ⊢
 by_cases c : j < 79 - C.length
 ·have ci : ((C.length + j + 1 : Nat) : Int) < 80 := by omega
  have b2 : D.length + 1 ≤ 140737488355328 := by omega
  refine yt9 [3, 17] (by simp [hlen, -Int.natCast_add]; rfl) ?_
  refine ys9 (t := true) (by simp; omega) (fun h => ?_) (fun h => by simp at h)
  refine yk9 ?_
  refine yp9 ?_
  refine zd9 [3] (by simp [b2]; rfl) ?_
  refine ⟨_, by omega, j + 1, rfl, by omega, ?_⟩
  rw [List.replicate_succ', ← List.append_assoc, ← List.cons_append, wh9, hD]
  simp [byL]
 ·refine yt9 [3, 17] (by simp [hlen, -Int.natCast_add]; rfl) ?_
  refine ys9 (t := false) (by simp; omega) (fun h => by simp at h) (fun h => ?_)
  refine zc9 ?_
  have hje : j = 79 - C.length := by omega
  refine yt9 [2] (by simp; rfl) ?_
  refine zq9 ?_
  repeat (first | refine yg9 ?_ | refine yh9 ?_)
  rw [← hje, hD]
  exact ⟨_, by simp [retQ]; exact ⟨rfl, by simp⟩, .norm fun T => by simp⟩
theorem shalL_byL31 (l : List UInt8) : AV.shalL (byL l) = true := by induction l <;> simp_all [byL, AV.shalL, AV.shal]
theorem zs7 (s : List UInt8) (hs : s.length ≤ 1000000) (h0 : xr9 s ≠ []) (h79 : (xr9 s).length ≤ 79) (H : List AObj) :
  wq9 Try.prog 77 [strB s] H fun r h' => ∃ k, r = .arr H.length 0 80 (80 + k) ∧ h' = H ++ [.cells 5 (zt9 (vh9 s) k)] := by
 have hl := cardM_len s h79
 refine callW_thaw (e := 5) (T := 1) (sz := 1) (xs := byL (vh9 s)) (fl := byL (vh9 s)) (card77_sound s hs h0 h79) (ys7 _) (thwL_shal (shalL_byL31 _)) ?_ ?_
 ·intro h
  have := congrArg List.length h
  simp [hl] at this
 ·intro cap h1 h2
  rw [zf7, hl] at h1
  refine ⟨cap - 80, ?_, ?_⟩
  ·rw [zf7, hl, show 80 + (cap - 80) = cap by omega]
  ·rw [zf7, hl, Nat.mul_one, wl8]; rfl
theorem setSeg_snoc (cs xs : List AV) (off : Nat) (y : AV) (h : off + xs.length + 1 ≤ cs.length) : yd9 (yd9 cs off xs) (off + xs.length) [y] = yd9 cs off (xs ++ [y]) := by
 have h1 : (yd9 cs off xs).length = cs.length := xl9 _ _ _ (by omega)
 apply List.ext_getElem?
 intro j
 rw [vn9 _ _ _ (by rw [h1]; simp; omega), vn9 _ _ _ (by omega), vn9 _ _ _ (by simp; omega)]
 simp only [List.length_cons, List.length_nil, List.length_append]
 by_cases c1 : off + xs.length ≤ j ∧ j < off + xs.length + (0 + 1)
 ·rw [if_pos c1, if_pos (by omega), List.getElem?_append_right (by omega)]
  congr 1
  omega
 ·rw [if_neg c1]
  by_cases c2 : off ≤ j ∧ j < off + xs.length
  ·rw [if_pos c2, if_pos (by omega), List.getElem?_append_left (by omega)]
  ·rw [if_neg c2, if_neg (by omega)]
theorem text_callW (h : List AObj) (id len cap at' : Nat) (s : List UInt8) (cs : List AV) (hid : h[id]? = some (.cells 5 cs)) (hs : s.length ≤ 1000000) (hlen : at' + (xr9 s).length ≤ len) (hcs : len ≤ cs.length) (hl2 : len ≤ 1000000000) :
  wq9 Try.prog 79 [.arr id 0 len cap, .v (.int .i64 (at' : Nat)), strB s] h fun r h' => r = .tup [] ∧ h' = h.set id (.cells 5 (yd9 cs at' (byL (xr9 s)))) := by
 have henc := rencode_sound s hs
 obtain ⟨C, hC⟩ : ∃ C, xr9 s = C := ⟨_, rfl⟩
 have hC2 : (encM s).1 = C := hC
 rw [hC] at hlen ⊢
 rw [hC2] at henc
 refine callW_of_F Try.func79 rfl (by decide +kernel) (by simp [Try.f79]) (rs := []) rfl ?_
 rw [show Try.f79.ntmps = 29 from rfl]
 have hidl : id < h.length := (List.getElem?_eq_some_iff.1 hid).1
 refine W_rK [0, 1, 6] ?_
 refine yq9 1 (by simp; rfl) rfl ?_
 refine yj9 (by simp) (by first | (simp; done) | (simp; rfl) | (simp [strB]; done) | (simp [strB]; rfl)) henc (by simp; rfl) ?_
 refine yw9 (by simp; rfl) ?_
 refine yt9 [0, 1, 6, 8] (by simp; rfl) ?_
 refine yp9 ?_
 refine zn9 (fun k σ => ∃ i : Nat, k = C.length - i ∧ i ≤ C.length ∧ σ = ⟨29, [(0, .arr id 0 len cap), (1, .v (.int .i64 (at' : Nat))), (6, .lst .any 1 (byL C)), (8, .v (.int .i64 (i : Nat)))], h.set id (.cells 5 (yd9 cs at' (byL (C.take i))))⟩) (k := C.length) ⟨0, rfl, by omega, ?_⟩ ?_
 ·have : h.set id (.cells 5 cs) = h := by
   apply List.ext_getElem?
   intro k
   rw [List.getElem?_set]
   split
   ·rename_i e; subst e; first | rw [hid] | (rw [if_pos hidl, hid])
   ·rfl
  rw [List.take_zero, byL_nil, seg_nil _ _ (by omega), this]
  simp
 rintro k σ ⟨i, rfl, hi, rfl⟩
 refine yc9 ?_
 by_cases c : i < C.length
 ·have ci : (i : Int) < C.length := by omega
  obtain ⟨b, hb⟩ : ∃ b, C[i]? = some b := ⟨_, List.getElem?_eq_getElem c⟩
  have hb2 : C[i]'c = b := by rw [List.getElem?_eq_getElem c] at hb; exact Option.some.inj hb
  have htk : C.take (i + 1) = C.take i ++ [b] := by rw [List.take_add_one, hb]; rfl
  have htl : (byL (C.take i)).length = i := by simp; omega
  have wi := w64 (n := (i : Int) + 1) (by omega) (by omega)
  have wa : IntKind.i64.wrap ((at' : Int) + (i : Int)) = ((at' + i : Nat) : Int) := by rw [w64 (by omega) (by omega)]; omega
  have hsn := setSeg_snoc cs (byL (C.take i)) at' (.v (.int .u8 b.toNat)) (by rw [htl]; omega)
  rw [htl] at hsn
  have hsn2 : yd9 (yd9 cs at' (byL (C.take i))) (at' + i) [.v (.int .u8 b.toNat)] = yd9 cs at' (byL (C.take (i + 1))) := by rw [hsn, htk, wh9]; rfl
  obtain ⟨D, hD⟩ : ∃ D, yd9 cs at' (byL (C.take i)) = D := ⟨_, rfl⟩
  have hDl : D.length = cs.length := by rw [← hD]; exact xl9 _ _ _ (by rw [htl]; omega)
  rw [hD] at hsn2 ⊢
  obtain ⟨H, hH⟩ : ∃ H, h.set id (.cells 5 D) = H := ⟨_, rfl⟩
  have hHid : H[id]? = some (.cells 5 D) := by rw [← hH]; exact List.getElem?_set_self hidl
  obtain ⟨A, hA⟩ : ∃ A, at' + i = A := ⟨_, rfl⟩
  have ha1 : A < len := by omega
  have ha2 : (A : Int) < len := by omega
  rw [hA] at hsn2 wa
  have hset : H.set id (.cells 5 (yd9 D A [.v (.int .u8 b.toNat)])) = h.set id (.cells 5 (yd9 cs at' (byL (C.take (i + 1))))) := by rw [← hH, List.set_set, hsn2]
  rw [hH]
  refine yt9 [0, 1, 6, 8, 17] (by simp [ci]; rfl) ?_
  refine ys9 rfl (fun h => ?_) (fun h => by simp [c] at h)
  refine yk9 ?_
  refine yc9 ?_
  refine yp9 ?_
  refine zd9 [0, 1, 6, 8] (by simp [c, ci, hb2, wa, ha1, ha2, hHid, show A + 1 ≤ D.length by omega]; rfl) ?_
  refine zd9 [0, 1, 6, 8] (by simp [wi]; rfl) ?_
  exact ⟨_, by omega, i + 1, rfl, by omega, by simp [← hset]⟩
 ·have hie : i = C.length := by omega
  have cn : ¬ ((i : Int) < C.length) := by omega
  refine yt9 [0, 1, 6, 8, 17] (by simp [cn]; rfl) ?_
  refine ys9 rfl (fun h => by simp [hie] at h) (fun h => ?_)
  refine zc9 ?_
  refine ⟨.inl rfl, .tup [], rfl, rfl, ?_⟩
  rw [hie, List.take_length]
end Go.AM
namespace Go.AM
open Go.RowKit Go.Proofs
set_option linter.unusedSimpArgs false
set_option linter.unusedVariables false
set_option maxHeartbeats 1000000
theorem zc7 (c l : List UInt8) (a : Nat) (h : a + l.length ≤ c.length) (j : Nat) : (putM c a l)[j]? = if a ≤ j ∧ j < a + l.length then l[j - a]? else c[j]? := by
 have hl : (c.take a ++ l).length = a + l.length := by rw [List.length_append, List.length_take]; omega
 have ht : (c.take a).length = a := by rw [List.length_take]; omega
 unfold putM
 by_cases h1 : j < a + l.length
 ·rw [List.getElem?_append_left (by omega)]
  by_cases h2 : a ≤ j
  ·rw [if_pos ⟨h2, h1⟩, List.getElem?_append_right (by omega), ht]
  ·rw [if_neg (by omega), List.getElem?_append_left (by omega), List.getElem?_take, if_pos (by omega)]
 ·rw [if_neg (by omega), List.getElem?_append_right (by omega), hl, List.getElem?_drop]
  congr 1
  omega
theorem zk9 (c l : List UInt8) (a : Nat) (h : a + l.length ≤ c.length) : (putM c a l).length = c.length := by
 unfold putM
 simp
 omega
theorem putM_comm (c l m : List UInt8) (a b : Nat) (h1 : a + l.length ≤ b) (h2 : b + m.length ≤ c.length) : putM (putM c a l) b m = putM (putM c b m) a l := by
 apply List.ext_getElem?
 intro j
 rw [zc7 _ _ _ (by rw [zk9 _ _ _ (by omega)]; exact h2), zc7 _ _ _ (by omega), zc7 _ _ _ (by rw [zk9 _ _ _ h2]; omega), zc7 _ _ _ h2]
 by_cases q1 : a ≤ j ∧ j < a + l.length
 ·rw [if_neg (by omega), if_pos q1, if_pos q1]
 ·rw [if_neg q1, if_neg q1]
theorem putM_app (c l m : List UInt8) (a : Nat) (h : a + l.length + m.length ≤ c.length) : putM (putM c a l) (a + l.length) m = putM c a (l ++ m) := by
 apply List.ext_getElem?
 intro j
 rw [zc7 _ _ _ (by rw [zk9 _ _ _ (by omega)]; exact h), zc7 _ _ _ (by omega), zc7 _ _ _ (by rw [List.length_append]; omega), List.length_append]
 by_cases q1 : a + l.length ≤ j ∧ j < a + l.length + m.length
 ·rw [if_pos q1, if_pos (by omega), List.getElem?_append_right (by omega)]
  congr 1
  omega
 ·rw [if_neg q1]
  by_cases q2 : a ≤ j ∧ j < a + l.length
  ·rw [if_pos q2, if_pos (by omega), List.getElem?_append_left (by omega)]
  ·rw [if_neg q2, if_neg (by omega)]
theorem putM_mid (A M B l : List UInt8) (k : Nat) (h : k + l.length ≤ M.length) : putM (A ++ M ++ B) (A.length + k) l = A ++ putM M k l ++ B := by
 unfold putM
 rw [List.take_append_of_le_length (by rw [List.length_append]; omega), List.drop_append_of_le_length (by rw [List.length_append]; omega)]
 rw [List.take_append, List.drop_append]
 rw [List.take_of_length_le (by omega), List.drop_eq_nil_of_le (by omega)]
 rw [show A.length + k - A.length = k by omega, show A.length + k + l.length - A.length = k + l.length by omega]
 simp only [List.append_assoc, List.nil_append]
theorem set_mid (A M B : List UInt8) (k : Nat) (v : UInt8) (h : k < M.length) : (A ++ M ++ B).set (A.length + k) v = A ++ M.set k v ++ B := by
 rw [List.set_append_left _ _ (by rw [List.length_append]; omega), List.set_append_right _ _ (by omega)]
 rw [show A.length + k - A.length = k by omega]
def vp9 (c : List UInt8) (a : Nat) (x : Esd) : List UInt8 :=
 if x.kind = 1 then putM (putM ((putM c a (xr9 x.name)).set (a + 8) 0) (a + 9) (numM 3 x.addr.toNat)) (a + 13) (numM 3 x.len.toNat)
 else if x.kind = 2 then putM (putM ((putM c a (xr9 x.name)).set (a + 8) 1) (a + 9) (numM 3 x.addr.toNat)) (a + 13) (numM 3 x.id.toNat)
 else (putM c a (xr9 x.name)).set (a + 8) 2
theorem refItem_eq (A B : List UInt8) (x : Esd) (hc : (xr9 x.name).length ≤ 8) : vp9 (A ++ xp9 16 ++ B) A.length x = A ++ xc8 x ++ B := by
 have l0 : (xp9 16).length = 16 := by simp
 have e0 : putM (A ++ xp9 16 ++ B) A.length (xr9 x.name) = A ++ putM (xp9 16) 0 (xr9 x.name) ++ B := by
  have := putM_mid A (xp9 16) B (xr9 x.name) 0 (by omega)
  rwa [Nat.add_zero] at this
 have l1 : (putM (xp9 16) 0 (xr9 x.name)).length = 16 := by rw [zk9 _ _ _ (by omega)]; exact l0
 have l2 : ∀ v, ((putM (xp9 16) 0 (xr9 x.name)).set 8 v).length = 16 := fun v => by rw [List.length_set]; exact l1
 have n3 : ∀ v, (numM 3 v).length = 3 := fun v => zh9 3 v
 unfold vp9 xc8
 rw [e0]
 by_cases h1 : x.kind = 1
 ·rw [if_pos h1, if_pos h1, set_mid _ _ _ _ _ (by omega), putM_mid _ _ _ _ _ (by rw [l2, n3]; omega), putM_mid _ _ _ _ _ (by rw [zk9 _ _ _ (by rw [l2, n3]; omega), l2, n3]; omega)]
 ·rw [if_neg h1, if_neg h1]
  by_cases h2 : x.kind = 2
  ·rw [if_pos h2, if_pos h2, set_mid _ _ _ _ _ (by omega), putM_mid _ _ _ _ _ (by rw [l2, n3]; omega), putM_mid _ _ _ _ _ (by rw [zk9 _ _ _ (by rw [l2, n3]; omega), l2, n3]; omega)]
  ·rw [if_neg h2, if_neg h2, set_mid _ _ _ _ _ (by omega)]
theorem refItem_put {c : List UInt8} {j : Nat} {x : Esd} (hl : c.length = 80) (hj : j < 3) (hb : c.drop (16 + 16 * j) = xp9 (64 - 16 * j)) (hc : (xr9 x.name).length ≤ 8) :
  vp9 c (16 + 16 * j) x = putM c (16 + 16 * j) (xc8 x) ∧ (putM c (16 + 16 * j) (xc8 x)).drop (16 + 16 * (j + 1)) = xp9 (64 - 16 * (j + 1)) ∧ (putM c (16 + 16 * j) (xc8 x)).length = 80 := by
 have hei := eItem_len x (by omega)
 have ht : (c.take (16 + 16 * j)).length = 16 + 16 * j := by rw [List.length_take]; omega
 have hd : xp9 (64 - 16 * j) = xp9 16 ++ xp9 (64 - 16 * (j + 1)) := by
  rw [xp9, xp9, xp9, List.replicate_append_replicate]
  congr 1
  omega
 have e : c = c.take (16 + 16 * j) ++ xp9 16 ++ xp9 (64 - 16 * (j + 1)) := by
  rw [List.append_assoc, ← hd, ← hb, List.take_append_drop]
 have h1 := refItem_eq (c.take (16 + 16 * j)) (xp9 (64 - 16 * (j + 1))) x hc
 rw [← e, ht] at h1
 have h2 : putM c (16 + 16 * j) (xc8 x) = c.take (16 + 16 * j) ++ xc8 x ++ xp9 (64 - 16 * (j + 1)) := by
  unfold putM
  rw [hei, show 16 + 16 * j + 16 = (16 + 16 * j) + 16 from rfl, ← List.drop_drop, hb, hd, List.drop_left' (by simp)]
 refine ⟨by rw [h1, h2], ?_, by rw [zk9 _ _ _ (by omega)]; exact hl⟩
 rw [h2, List.drop_left' (by rw [List.length_append, ht, hei]; omega)]
theorem xq7 : ∀ (g : List Esd) (i : Nat) (c l : List UInt8) (a : Nat), a + l.length ≤ 16 → c.length = 80 → g.length + i ≤ 3 → (∀ x ∈ g, (xr9 x.name).length ≤ 16) → wr9 g i (putM c a l) = putM (wr9 g i c) a l
 | [], i, c, l, a, h1, h2, h3, h4 => by rw [wr9, wr9]
 | x :: g, i, c, l, a, h1, h2, h3, h4 => by
  have hei := eItem_len x (h4 x (by simp))
  simp only [List.length_cons] at h3
  rw [wr9, wr9, putM_comm _ _ _ _ _ (by omega) (by omega)]
  exact xq7 g (i + 1) _ l a h1 (by rw [zk9 _ _ _ (by omega)]; exact h2) (by omega) fun y hy => h4 y (by simp [hy])
def xl8 (l : List Esd) : Int := ((l.find? fun x => !decide (x.kind = 2)).map (·.id)).getD 0
theorem fstId_snoc (p : List Esd) (x : Esd) (h : ∀ y ∈ p, y.kind ≠ 2 → 1 ≤ y.id) : xl8 (p ++ [x]) = if xl8 p = 0 then (if x.kind = 2 then 0 else x.id) else xl8 p := by
 unfold xl8
 rw [List.find?_append]
 cases e : p.find? fun x => !decide (x.kind = 2) with
 | none =>
  by_cases h2 : x.kind = 2 <;> simp [List.find?, h2]
 | some y =>
  have h3 := List.find?_some e
  have h4 := h y (List.mem_of_find?_eq_some e) (by simpa using h3)
  simp
  intro h0
  omega
theorem ixE_find : ∀ (l : List Esd) (i : Nat), (ixE i l = -1 ∧ l.find? (fun x => !decide (x.kind = 2)) = none) ∨ ∃ j x, l[j]? = some x ∧ ixE i l = ((i + j : Nat) : Int) ∧ l.find? (fun x => !decide (x.kind = 2)) = some x
 | [], i => .inl ⟨rfl, rfl⟩
 | x :: l, i => by
  rw [ixE]
  by_cases h : x.kind = 2
  ·rw [if_pos h, List.find?_cons_of_neg (by simp [h])]
   rcases ixE_find l (i + 1) with h1 | ⟨j, y, h1, h2, h3⟩
   ·exact .inl h1
   ·exact .inr ⟨j + 1, y, by simpa using h1, by rw [h2]; congr 1; omega, h3⟩
  ·rw [if_neg h, List.find?_cons_of_pos (by simp [h])]
   exact .inr ⟨0, x, rfl, by simp, rfl⟩
theorem card2_eq (g : List Esd) (h : ∀ y ∈ g, y.kind ≠ 2 → 1 ≤ y.id) : card2 g = if 0 < xl8 g then putM (card1 g) 14 (numM 2 (xl8 g).toNat) else card1 g := by
 unfold card2 xl8
 rcases ixE_find g 0 with ⟨h1, h2⟩ | ⟨j, x, h1, h2, h3⟩
 ·rw [h1, h2, if_neg (by omega)]
  simp
 ·have h4 := List.find?_some h3
  have h5 := h x (List.mem_of_find?_eq_some h3) (by simpa using h4)
  rw [h2, h3, if_pos (by omega)]
  simp only [Option.map_some, Option.getD_some]
  rw [if_pos (by omega)]
  simp [h1]
theorem cardE_ref (g : List Esd) (h : ∀ y ∈ g, y.kind ≠ 2 → 1 ≤ y.id) (hg : g.length ≤ 3) (hc : ∀ x ∈ g, (xr9 x.name).length ≤ 16) (hl : (vh9 zj8).length = 80) :
  zt8 g = (let F := putM (wr9 g 0 (vh9 zj8)) 10 (numM 2 (16 * g.length)); if 0 < xl8 g then putM F 14 (numM 2 (xl8 g).toNat) else F) := by
 have n2 : ∀ v, (numM 2 v).length = 2 := fun v => zh9 2 v
 have l1 : (card1 g).length = 80 := by rw [card1, zk9 _ _ _ (by rw [n2]; omega)]; exact hl
 rw [zt8, card2_eq g h]
 simp only
 split
 ·rw [xq7 g 0 _ _ 14 (by rw [n2]; omega) l1 (by omega) hc, card1, xq7 g 0 _ _ 10 (by rw [n2]; omega) hl (by omega) hc]
 ·rw [card1, xq7 g 0 _ _ 10 (by rw [n2]; omega) hl (by omega) hc]
theorem cardESD_blank : (vh9 zj8).length = 80 ∧ (vh9 zj8).drop 16 = xp9 64 := by decide +kernel
end Go.AM
namespace Go.AM
open Go.RowKit Go.Proofs
set_option linter.unusedSimpArgs false
set_option linter.unusedVariables false
set_option maxHeartbeats 4000000
theorem frz_room3 {h : List AObj} (id n cap : Nat) (c : List UInt8) (k : Nat) (hid : h[id]? = some (.cells 5 (zt9 c k))) (hc : c.length = n) : ∃ (o : Fl), (o = .any ∨ o = .tip 5 1) ∧ wk9 Try.prog h 1 id 0 n cap = some (.lst o 1 (byL c), h.set id (.froz 5 (byL c))) := by
 have e2 : tyI Try.prog 5 = some (false, 1) := by simp
 subst hc
 cases k with
 | zero =>
  have e0 : zt9 c 0 = byL c := by simp [zt9]
  rw [e0] at hid
  refine ⟨if 0 = 0 ∧ c.length = cap ∧ cap * 1 = (byL c).length then .tip 5 1 else .any, by split <;> simp, ?_⟩
  simp only [wk9, hid, e2]
  rw [if_pos ⟨by omega, .inr trivial, by simp, ym7 _, rfL_byL _⟩, wl8, List.drop_zero, xg8 _ _ (by omega), List.take_of_length_le (by omega)]
 | succ k =>
  have e1 : (zt9 c (k + 1)).take (0 + c.length * 1) = byL c := by
   rw [zt9, Nat.zero_add, Nat.mul_one, List.take_append_of_le_length (by simp), List.take_of_length_le (by simp)]
  have e3 : AV.koneL (zt9 c (k + 1)) = false := by
   rw [zt9, zm7, List.replicate_succ]
   simp [AV.koneL, AV.kone]
  refine ⟨.any, .inl rfl, ?_⟩
  simp only [wk9, hid, e2, e1]
  rw [if_neg (by rw [e3]; simp), if_pos ⟨by omega, .inr trivial, by simp [xf9], ym7 _, rfL_byL _⟩, wl8, List.drop_zero, xg8 _ _ (by omega), List.take_of_length_le (by omega)]
theorem egoE_succ {l : List Esd} {f i : Nat} (h : i < l.length) (hf : l.length ≤ i + f) : ∃ f', f = f' + 1 ∧ egoE l f i = zt8 ((l.drop i).take 3) :: egoE l f' (i + 3) := by
 obtain ⟨f', rfl⟩ : ∃ f', f = f' + 1 := ⟨f - 1, by omega⟩
 exact ⟨f', rfl, by rw [egoE, if_pos h]⟩
theorem xc9 (h : List AObj) (id cap at' n v : Nat) (c : List UInt8) (k : Nat) (hid : h[id]? = some (.cells 5 (zt9 c k))) (hc : c.length = 80) (hlen : at' + n ≤ 80) (hv : v ≤ 9223372036854775807) :
  wq9 Try.prog 78 [.arr id 0 80 cap, .v (.int .i64 (at' : Nat)), .v (.int .i64 (n : Nat)), .v (.int .i64 (v : Nat))] h fun r h' => r = .tup [] ∧ h' = h.set id (.cells 5 (zt9 (putM c at' (numM n v)) k)) := by
 have := rnumber_callW h id 80 cap at' n v (zt9 c k) hid hlen (by rw [xf9]; omega) (by omega) hv
 rwa [xt8 _ _ _ _ (by rw [zh9]; omega)] at this
theorem rtext_room (h : List AObj) (id cap at' : Nat) (s c : List UInt8) (k : Nat) (hid : h[id]? = some (.cells 5 (zt9 c k))) (hc : c.length = 80) (hs : s.length ≤ 1000000) (hlen : at' + (xr9 s).length ≤ 80) :
  wq9 Try.prog 79 [.arr id 0 80 cap, .v (.int .i64 (at' : Nat)), strB s] h fun r h' => r = .tup [] ∧ h' = h.set id (.cells 5 (zt9 (putM c at' (xr9 s)) k)) := by
 have := text_callW h id 80 cap at' s (zt9 c k) hid hs hlen (by rw [xf9]; omega) (by omega)
 rwa [xt8 _ _ _ _ (by omega)] at this
theorem wm8 (c : List UInt8) (k i : Nat) (b : UInt8) (h : i < c.length) : yd9 (zt9 c k) i [.v (.int .u8 b.toNat)] = zt9 (c.set i b) k := by
 rw [yq7 _ _ _ (by rw [xf9]; omega), room_set _ _ _ _ h]
abbrev frG (n : Nat) (acc : AV) (i cap a6 : Nat) (a7 : Int) (a8 : Nat) (x : List (Nat × AV)) : List (Nat × AV) := (1, .loc 0 0) :: (3, acc) :: (4, .v (.int .i64 (i : Nat))) :: (5, .arr 1 0 80 cap) :: (6, .v (.int .i64 (a6 : Nat))) :: (7, .v (.int .i64 a7)) :: (8, .v (.int .i64 (a8 : Nat))) :: x
theorem toksL_app31 (a b : List AV) : AV.toksL (a ++ b) = AV.toksL a ++ AV.toksL b := by induction a <;> simp_all [AV.toksL]
theorem zg9 (c : List UInt8) (k : Nat) : AV.toksL (zt9 c k) = [] := by
 rw [zt9, toksL_app31, toksL_byL]
 induction k <;> simp_all [List.replicate_succ, AV.toksL, AV.toks]
theorem rsymbols_sound (o : OMod) (hk : ∀ x ∈ o.esd, EOk x) (hne : o.esd ≠ []) (hl : o.esd.length ≤ 2048) (hid : ∀ x ∈ o.esd, x.kind ≠ 2 → 1 ≤ x.id) : Sound Try.prog 76 [obA o] (.lst (.tip 27 1) 1 (bbL (egoE o.esd o.esd.length 0))) := by
 refine ym8 Try.func76 rfl (by decide +kernel) (by simp [Try.f76]) (by simp [AV.rfL, AV.rf, strB]) (by simp [AV.tlL, AV.tl, strB]) (rs := [.tmp 2]) rfl ?_
 rw [show Try.f76.ntmps = 114 from rfl]
 obtain ⟨l, hle⟩ : ∃ l, o.esd = l := ⟨_, rfl⟩
 rw [hle] at hk hne hl hid ⊢
 obtain ⟨R0, hR0⟩ : ∃ R, egoE l l.length 0 = R := ⟨_, rfl⟩
 rw [hR0]
 have hl0 : 0 < l.length := List.length_pos_iff.2 hne
 obtain ⟨hcl0, hcb0⟩ := cardESD_blank
 refine yt9 [1] (by simp; rfl) ?_
 refine yt9 [1, 3] (by simp; rfl) ?_
 refine yc9 ?_
 refine yt9 [1, 3, 4] (by simp; rfl) ?_
 refine yp9 ?_
 refine zn9 (fun m σ => ∃ (f i : Nat) (acc : List (List UInt8)) (fl : Fl), m = l.length + 3 - i ∧ i ≤ l.length + 2 ∧ l.length ≤ i + f ∧ acc ++ egoE l f i = R0 ∧ acc.length ≤ i ∧ ((i = 0 ∧ fl = .nil ∧ acc = []) ∨ (0 < i ∧ fl = .tip 27 225)) ∧
  σ = ⟨114, [(1, .loc 0 0), (3, .lst fl 1 (bbL acc)), (4, .v (.int .i64 (i : Nat)))], [.cells 26 (obC o)]⟩) (k := l.length + 3) ⟨l.length, 0, [], .nil, by omega, by omega, by omega, hR0, by simp, .inl ⟨rfl, rfl, rfl⟩, by simp [obC]⟩ ?_
 rintro m σ ⟨f, i, acc, fl, rfl, hi, hf, hgo, hacc, hfl, rfl⟩
 refine yc9 ?_
 by_cases c : i < l.length
 ·have ci : (i : Int) < l.length := by omega
  obtain ⟨f', rfl, hes⟩ := egoE_succ c hf
  rw [hes] at hgo
  obtain ⟨g, hg⟩ : ∃ g, (l.drop i).take 3 = g := ⟨_, rfl⟩
  have hgl : g.length = min 3 (l.length - i) := by rw [← hg]; simp
  have hgl3 : g.length ≤ 3 := by omega
  have hgget : ∀ j, j < g.length → g[j]? = l[i + j]? := fun j hj => by rw [← hg, List.getElem?_take, if_pos (by omega), List.getElem?_drop]
  have hgm : ∀ x ∈ g, x ∈ l := fun x hx => by rw [← hg] at hx; exact List.mem_of_mem_drop (List.mem_of_mem_take hx)
  have hgi : ∀ y ∈ g, y.kind ≠ 2 → 1 ≤ y.id := fun y hy => hid y (hgm y hy)
  have hcE := cardE_ref g hgi hgl3 (fun x hx => by have := (hk x (hgm x hx)).n; omega) hcl0
  rw [hg] at hgo
  have w3 := w64 (n := (i : Int) + 3) (by omega) (by omega)
  refine yt9 [1, 3, 4, 15] (by simp [obC, hle, ci]; rfl) ?_
  refine ys9 rfl (fun h => ?_) (fun h => by simp [c] at h)
  refine yk9 ?_
  refine yc9 ?_
  refine yp9 ?_
  have hfl2 : fl = .nil ∨ fl = .tip 27 225 := by
   rcases hfl with ⟨_, h, _⟩ | ⟨_, h⟩
   ·exact .inl h
   ·exact .inr h
  rcases hfl2 with rfl | rfl
  ·refine W_rK [1, 3, 4, 5] ?_
   refine yn9 (f := 77) (args := [strB zj8]) (by simp) (by simp [yv9, zr9, strB, zj8]) ((zs7 zj8 (by simp [zj8]) (by decide +kernel) (by decide +kernel) _).mono ?_)
   rintro _ _ ⟨k, rfl, rfl⟩
   refine ⟨_, by simp [strB, zg9]; rfl, ?_⟩
   refine yw9 (by simp [strB, zg9]; rfl) ?_
   obtain ⟨F, hF⟩ : ∃ F, wr9 g 0 (vh9 zj8) = F := ⟨_, rfl⟩
   rw [hF] at hcE
   obtain ⟨c0, hc0⟩ : ∃ c, vh9 zj8 = c := ⟨_, rfl⟩
   rw [hc0] at hF hcl0 hcb0 ⊢
   refine yt9 [1, 3, 4, 5, 6, 7] (by simp; rfl) ?_
   refine xv9 (fun σ => F.length = 80 ∧ σ = ⟨114, frG 114 (.lst .nil 1 (bbL acc)) i (80 + k) (16 * g.length) (xl8 g) (i + g.length) [], [.cells 26 (obC o), .cells 5 (zt9 F k)]⟩) ?_ ?_
   ·refine yt9 [1, 3, 4, 5, 6, 7, 8] (by simp; rfl) ?_
    refine yp9 ?_
    refine zn9 (fun m σ => ∃ (j : Nat) (c : List UInt8), m = g.length - j ∧ j ≤ g.length ∧ wr9 (g.drop j) j c = F ∧ c.length = 80 ∧ c.drop (16 + 16 * j) = xp9 (64 - 16 * j) ∧
     σ = ⟨114, frG 114 (.lst .nil 1 (bbL acc)) i (80 + k) (16 * j) (xl8 (g.take j)) (i + j) [], [.cells 26 (obC o), .cells 5 (zt9 c k)]⟩) (k := g.length) ⟨0, c0, rfl, by omega, hF, hcl0, hcb0, by simp [obC, xl8, strB, hle]⟩ ?_
    rintro m σ ⟨j, c1, rfl, hj, hit, hc1, hcb, rfl⟩
    refine yc9 ?_
    have wi3 : IntKind.i64.wrap ((i : Int) + 3) = (i : Int) + 3 := w3
    by_cases cj : j < g.length
    ·obtain ⟨x, hs⟩ : ∃ x, g[j]? = some x := ⟨_, List.getElem?_eq_getElem cj⟩
     have hs2 : g[j]'cj = x := by rw [List.getElem?_eq_getElem cj] at hs; exact Option.some.inj hs
     have hdr : g.drop j = x :: g.drop (j + 1) := wl9 cj hs2
     have htk : g.take (j + 1) = g.take j ++ [x] := by rw [List.take_add_one, hs]; rfl
     have hli : l[i + j]? = some x := by rw [← hgget j cj]; exact hs
     have hil : i + j < l.length := (List.getElem?_eq_some_iff.1 hli).1
     have hil2 : l[i + j]'hil = x := by rw [List.getElem?_eq_getElem hil] at hli; exact Option.some.inj hli
     have hil3 : ((i : Int) + (j : Int)) < l.length := by omega
     have hil4 : ((i : Int) + (j : Int)) < (i : Int) + 3 := by omega
     have hil5 : (0 : Int) ≤ (i : Int) + (j : Int) := by omega
     have hil6 : ((i : Int) + (j : Int)).toNat = i + j := by omega
     have hxl : x ∈ l := List.mem_of_getElem? hli
     have hE := hk x hxl
     obtain ⟨e1, e2, e3, e4, e5, e6, e7, e8⟩ := hE
     have wj := w64 (n := (i : Int) + (j : Int) - (i : Int)) (by omega) (by omega)
     have wj2 : IntKind.i64.wrap ((j : Int)) = j := w64 (by omega) (by omega)
     have wj3 : IntKind.i64.wrap (16 * (j : Int)) = 16 * (j : Int) := w64 (by omega) (by omega)
     have wj4 : IntKind.i64.wrap (16 + 16 * (j : Int)) = ((16 + 16 * j : Nat) : Int) := by rw [w64 (by omega) (by omega)]; omega
     have wsub : (i : Int) + (j : Int) - (i : Int) = j := by omega
     have w16 : IntKind.i64.wrap (16 * (j : Int) + 16) = ((16 * (j + 1) : Nat) : Int) := by rw [w64 (by omega) (by omega)]; omega
     have wi1 : IntKind.i64.wrap ((i : Int) + (j : Int) + 1) = ((i + (j + 1) : Nat) : Int) := by rw [w64 (by omega) (by omega)]; omega
     obtain ⟨hr1, hr2, hr3⟩ := refItem_put hc1 (by omega) hcb e1
     rw [hdr, wr9] at hit
     have hfs := fstId_snoc (g.take j) x (fun y hy => hgi y (List.mem_of_mem_take hy))
     obtain ⟨A, hA⟩ : ∃ A, 16 + 16 * j = A := ⟨_, rfl⟩
     have hA64 : A + 16 ≤ 80 := by omega
     rw [hA] at hr1 hit wj4
     rw [← hr1] at hit
     have hr3' : (vp9 c1 A x).length = 80 := by rw [hr1, ← hA]; exact hr3
     have hr2' : (vp9 c1 A x).drop (16 + 16 * (j + 1)) = xp9 (64 - 16 * (j + 1)) := by rw [hr1, ← hA]; exact hr2
     obtain ⟨I0, hI0⟩ : ∃ I, xl8 (g.take j) = I := ⟨_, rfl⟩
     rw [hI0] at hfs
     have wa8 : IntKind.i64.wrap ((A : Int) + 8) = ((A + 8 : Nat) : Int) := by rw [w64 (by omega) (by omega)]; omega
     have wa9 : IntKind.i64.wrap ((A : Int) + 9) = ((A + 9 : Nat) : Int) := by rw [w64 (by omega) (by omega)]; omega
     have wa13 : IntKind.i64.wrap ((A : Int) + 13) = ((A + 13 : Nat) : Int) := by rw [w64 (by omega) (by omega)]; omega
     refine W_cT [1, 3, 4, 5, 6, 7, 8, 30] (by simp [frG, obC, hle, wi3, hil3, hil4]; rfl) rfl ?_
     refine yk9 ?_
     refine yc9 ?_
     refine yp9 ?_
     refine W_rK [1, 3, 4, 5, 6, 7, 8, 9, 10] ?_
     refine yq9 6 (by simp [obC, hle, hil, hil2, hil3, hil5, hil6]; rfl) rfl ?_
     refine yw9 (by simp [obC, hle, wj, wsub, wj2, wj3, wj4, yd9, AV.weakL, AV.weak, AV.koneL, AV.kone, strB]; rfl) ?_
     refine yt9 [1, 3, 4, 5, 6, 7, 8, 9, 10] (by simp [w16, -Int.natCast_add, -Int.natCast_mul]; rfl) ?_
     refine W_rK [1, 3, 4, 5, 6, 7, 8, 9, 10] ?_
     refine yq9 4 (by simp; rfl) rfl ?_
     refine yn9 (f := 79) (args := [.arr 1 0 80 (80 + k), .v (.int .i64 (A : Nat)), strB x.name]) (by simp) (by simp [yv9, zr9, strB]) ((rtext_room _ 1 (80 + k) A x.name c1 k (by simp) hc1 (by omega) (by omega)).mono ?_)
     rintro _ _ ⟨rfl, rfl⟩
     refine ⟨_, by simp [strB, zg9]; rfl, ?_⟩
     refine yw9 (by simp [strB, zg9]; rfl) ?_
     have hp1 : (putM c1 A (xr9 x.name)).length = 80 := by rw [zk9 _ _ _ (by omega)]; exact hc1
     obtain ⟨ad, had⟩ : ∃ n : Nat, x.addr = n := ⟨x.addr.toNat, by omega⟩
     obtain ⟨ln, hln⟩ : ∃ n : Nat, x.len = n := ⟨x.len.toNat, by omega⟩
     obtain ⟨ii, hii⟩ : ∃ n : Nat, x.id = n := ⟨x.id.toNat, by omega⟩
     obtain ⟨A8, hA8⟩ : ∃ n, A + 8 = n := ⟨_, rfl⟩
     obtain ⟨A9, hA9⟩ : ∃ n, A + 9 = n := ⟨_, rfl⟩
     obtain ⟨A13, hA13⟩ : ∃ n, A + 13 = n := ⟨_, rfl⟩
     rw [hA8] at wa8
     rw [hA9] at wa9
     rw [hA13] at wa13
     have ha8 : A8 < 80 := by omega
     have ha8i : (A8 : Int) < 80 := by omega
     have h8r : A8 + 1 ≤ 80 + k := by omega
     refine xv9 (fun σ => σ = ⟨114, frG 114 (.lst .nil 1 (bbL acc)) i (80 + k) (16 * (j + 1)) I0 (i + j) [(9, .loc 2 0)], [.cells 26 (obC o), .cells 5 (zt9 (vp9 c1 A x) k), .cells 78 (esC x)]⟩) ?_ ?_
     ·refine yt9 [1, 3, 4, 5, 6, 7, 8, 9, 10, 51] (by simp [strB, zg9]; rfl) ?_
      refine yp9 ?_
      by_cases k1 : x.kind = 1
      ·refine W_cT [1, 3, 4, 5, 6, 7, 8, 9, 10, 51, 56] (by simp [strB, zg9, k1]; rfl) rfl ?_
       have hs8 : yd9 (zt9 (putM c1 A (xr9 x.name)) k) A8 [.v (.int .u8 0)] = zt9 ((putM c1 A (xr9 x.name)).set A8 0) k := wm8 _ k A8 0 (by omega)
       have h8l : ((putM c1 A (xr9 x.name)).set A8 0).length = 80 := by rw [List.length_set]; exact hp1
       refine yt9 [1, 3, 4, 5, 6, 7, 8, 9, 10] (by simp [strB, zg9, xf9, hp1, wa8, ha8, ha8i, hs8, h8r]; rfl) ?_
       refine W_rK [1, 3, 4, 5, 6, 7, 8, 9, 10] ?_
       refine yq9 5 (by simp [wa9, had, strB, zg9]; rfl) rfl ?_
       refine yn9 (f := 78) (args := [.arr 1 0 80 (80 + k), .v (.int .i64 (A9 : Nat)), .v (.int .i64 (3 : Nat)), .v (.int .i64 (ad : Nat))]) (by simp) (by simp [yv9, zr9, wa9, had]) ((xc9 _ 1 (80 + k) A9 3 (ad) _ k (by simp; rfl) (by first | exact h8l | (rw [zk9 _ _ _ (by rw [zh9]; omega)]; exact h8l)) (by omega) (by omega)).mono ?_)
       rintro _ _ ⟨rfl, rfl⟩
       refine ⟨_, by simp [strB, zg9]; rfl, ?_⟩
       refine yw9 (by simp [strB, zg9]; rfl) ?_
       refine W_rE [1, 3, 4, 5, 6, 7, 8, 9] ?_
       refine yq9 5 (by simp [wa13, hln, strB, zg9]; rfl) rfl ?_
       refine yn9 (f := 78) (args := [.arr 1 0 80 (80 + k), .v (.int .i64 (A13 : Nat)), .v (.int .i64 (3 : Nat)), .v (.int .i64 (ln : Nat))]) (by simp) (by simp [yv9, zr9, wa13, hln]) ((xc9 _ 1 (80 + k) A13 3 (ln) _ k (by simp; rfl) (by first | exact h8l | (rw [zk9 _ _ _ (by rw [zh9]; omega)]; exact h8l)) (by omega) (by omega)).mono ?_)
       rintro _ _ ⟨rfl, rfl⟩
       refine ⟨_, by simp [strB, zg9]; rfl, ?_⟩
       refine yw9 (by simp [strB, zg9]; rfl) ?_
       simp [hI0, strB, vp9, esC, obC, hA8, hA9, hA13, hle, k1, had, hln]
      have k1b : (x.kind == 1) = false := by simpa using k1
      by_cases k2 : x.kind = 2
      ·refine W_cF [1, 3, 4, 5, 6, 7, 8, 9, 10, 51, 56] (by simp [strB, zg9, k2]; rfl) rfl ?_
       refine W_cT [1, 3, 4, 5, 6, 7, 8, 9, 10, 74] (by simp [strB, zg9, k2]; rfl) rfl ?_
       have hs8 : yd9 (zt9 (putM c1 A (xr9 x.name)) k) A8 [.v (.int .u8 1)] = zt9 ((putM c1 A (xr9 x.name)).set A8 1) k := wm8 _ k A8 1 (by omega)
       have h8l : ((putM c1 A (xr9 x.name)).set A8 1).length = 80 := by rw [List.length_set]; exact hp1
       refine yt9 [1, 3, 4, 5, 6, 7, 8, 9, 10] (by simp [strB, zg9, xf9, hp1, wa8, ha8, ha8i, hs8, h8r]; rfl) ?_
       refine W_rK [1, 3, 4, 5, 6, 7, 8, 9, 10] ?_
       refine yq9 5 (by simp [wa9, had, strB, zg9]; rfl) rfl ?_
       refine yn9 (f := 78) (args := [.arr 1 0 80 (80 + k), .v (.int .i64 (A9 : Nat)), .v (.int .i64 (3 : Nat)), .v (.int .i64 (ad : Nat))]) (by simp) (by simp [yv9, zr9, wa9, had]) ((xc9 _ 1 (80 + k) A9 3 (ad) _ k (by simp; rfl) (by first | exact h8l | (rw [zk9 _ _ _ (by rw [zh9]; omega)]; exact h8l)) (by omega) (by omega)).mono ?_)
       rintro _ _ ⟨rfl, rfl⟩
       refine ⟨_, by simp [strB, zg9]; rfl, ?_⟩
       refine yw9 (by simp [strB, zg9]; rfl) ?_
       refine W_rE [1, 3, 4, 5, 6, 7, 8, 9] ?_
       refine yq9 5 (by simp [wa13, hii, strB, zg9]; rfl) rfl ?_
       refine yn9 (f := 78) (args := [.arr 1 0 80 (80 + k), .v (.int .i64 (A13 : Nat)), .v (.int .i64 (3 : Nat)), .v (.int .i64 (ii : Nat))]) (by simp) (by simp [yv9, zr9, wa13, hii]) ((xc9 _ 1 (80 + k) A13 3 (ii) _ k (by simp; rfl) (by first | exact h8l | (rw [zk9 _ _ _ (by rw [zh9]; omega)]; exact h8l)) (by omega) (by omega)).mono ?_)
       rintro _ _ ⟨rfl, rfl⟩
       refine ⟨_, by simp [strB, zg9]; rfl, ?_⟩
       refine yw9 (by simp [strB, zg9]; rfl) ?_
       simp [hI0, strB, vp9, esC, obC, hA8, hA9, hA13, hle, k2, had, hii]
      ·have k2b : (x.kind == 2) = false := by simpa using k2
       refine W_cF [1, 3, 4, 5, 6, 7, 8, 9, 10, 51, 56] (by simp [strB, zg9, k1, k1b]; rfl) rfl ?_
       refine W_cF [1, 3, 4, 5, 6, 7, 8, 9, 10, 74] (by simp [strB, zg9, k2, k2b]; rfl) rfl ?_
       have hs8 : yd9 (zt9 (putM c1 A (xr9 x.name)) k) A8 [.v (.int .u8 2)] = zt9 ((putM c1 A (xr9 x.name)).set A8 2) k := wm8 _ k A8 2 (by omega)
       have h8l : ((putM c1 A (xr9 x.name)).set A8 2).length = 80 := by rw [List.length_set]; exact hp1
       refine zd9 [1, 3, 4, 5, 6, 7, 8, 9] (by simp [strB, zg9, xf9, hp1, wa8, ha8, ha8i, hs8, h8r]; rfl) ?_
       simp [hI0, strB, vp9, esC, obC, hA8, hA9, hA13, hle, k1, k2]
     rintro _ rfl
     have hfin : ∀ I', (if I0 = 0 then (if x.kind = 2 then 0 else x.id) else I0) = I' → xl8 (g.take (j + 1)) = I' := fun I' h => by rw [htk, hfs, h]
     by_cases z0 : I0 = 0
     ·by_cases k2 : x.kind = 2
      ·refine W_cF [1, 3, 4, 5, 6, 7, 8, 9, 98] (by simp [frG, esC, z0, k2, strB, zg9, bne]; rfl) rfl ?_
       refine yk9 ?_
       refine ym9 [1, 3, 4, 5, 6, 7, 8] ?_
       refine xk9 2 (Nat.zero_le _) (by simp) (by simp [frG, yb9, AV.under, AV.underL]) (by simp [yl9, xd9, AObj.under, yb9, AV.under, AV.underL, zw9, zt9, esC, strB]) ?_
       refine zd9 [1, 3, 4, 5, 6, 7, 8] (by simp [wi1, strB, zg9, -Int.natCast_add]; rfl) ?_
       exact ⟨_, by omega, j + 1, vp9 c1 A x, rfl, by omega, hit, hr3', hr2', by rw [hfin 0 (by simp [z0, k2])]; simp [strB, obC, hle, z0]⟩
      ·have k2b : (x.kind == 2) = false := by simpa using k2
       refine W_cT [1, 3, 4, 5, 6, 7, 8, 9, 98] (by simp [frG, esC, z0, k2, k2b, strB, zg9, bne]; rfl) rfl ?_
       refine zd9 [1, 3, 4, 5, 6, 7, 8, 9] (by simp [esC, strB, zg9]; rfl) ?_
       refine ym9 [1, 3, 4, 5, 6, 7, 8] ?_
       refine xk9 2 (Nat.zero_le _) (by simp) (by simp [frG, yb9, AV.under, AV.underL]) (by simp [yl9, xd9, AObj.under, yb9, AV.under, AV.underL, zw9, zt9, esC, strB]) ?_
       refine zd9 [1, 3, 4, 5, 6, 7, 8] (by simp [wi1, strB, zg9, -Int.natCast_add]; rfl) ?_
       exact ⟨_, by omega, j + 1, vp9 c1 A x, rfl, by omega, hit, hr3', hr2', by rw [hfin x.id (by simp [z0, k2])]; simp [strB, obC, hle, z0]⟩
     ·have z0b : (I0 == 0) = false := by simpa using z0
      refine W_cF [1, 3, 4, 5, 6, 7, 8, 9, 98] (by simp [frG, esC, z0, z0b, strB, zg9, bne]; rfl) rfl ?_
      refine yk9 ?_
      refine ym9 [1, 3, 4, 5, 6, 7, 8] ?_
      refine xk9 2 (Nat.zero_le _) (by simp) (by simp [frG, yb9, AV.under, AV.underL]) (by simp [yl9, xd9, AObj.under, yb9, AV.under, AV.underL, zw9, zt9, esC, strB]) ?_
      refine zd9 [1, 3, 4, 5, 6, 7, 8] (by simp [wi1, strB, zg9, -Int.natCast_add]; rfl) ?_
      exact ⟨_, by omega, j + 1, vp9 c1 A x, rfl, by omega, hit, hr3', hr2', by rw [hfin I0 (by simp [z0])]; simp [strB, obC, hle, z0]⟩
    ·have hje : j = g.length := by omega
     rw [hje, List.drop_length, wr9] at hit
     subst hit
     have hnot : ¬ (((i : Int) + (j : Int) < (i : Int) + 3) ∧ ((i : Int) + (j : Int) < l.length)) := by omega
     by_cases j3 : (i : Int) + (j : Int) < (i : Int) + 3
     ·have j4 : ¬ ((i : Int) + (j : Int) < l.length) := fun h => hnot ⟨j3, h⟩
      refine W_cF [1, 3, 4, 5, 6, 7, 8, 30] (by simp [frG, obC, hle, wi3, j3, j4]; rfl) rfl ?_
      refine ym9 [1, 3, 4, 5, 6, 7, 8] ?_
      refine zc9 ?_
      refine ⟨hc1, ?_⟩
      subst hje
      rw [List.take_length]
      simp [obC, strB, hle]
     ·refine W_cF [1, 3, 4, 5, 6, 7, 8, 30] (by simp [frG, obC, hle, wi3, j3]; rfl) rfl ?_
      refine ym9 [1, 3, 4, 5, 6, 7, 8] ?_
      refine zc9 ?_
      refine ⟨hc1, ?_⟩
      subst hje
      rw [List.take_length]
      simp [obC, strB, hle]
   rintro _ ⟨hFl, rfl⟩
   have hp2 : (putM F 10 (numM 2 (16 * g.length))).length = 80 := by rw [zk9 _ _ _ (by rw [zh9]; omega)]; exact hFl
   refine W_rK [1, 3, 4, 5, 7] ?_
   refine yq9 2 (by simp [frG, strB, zg9]; rfl) rfl ?_
   refine yn9 (f := 78) (args := [.arr 1 0 80 (80 + k), .v (.int .i64 (10 : Nat)), .v (.int .i64 (2 : Nat)), .v (.int .i64 (16 * g.length : Nat))]) (by simp) (by simp [yv9, zr9]) ((xc9 _ 1 (80 + k) 10 2 (16 * g.length) F k (by simp) hFl (by omega) (by omega)).mono ?_)
   rintro _ _ ⟨rfl, rfl⟩
   refine ⟨_, by simp [strB, zg9]; rfl, ?_⟩
   refine yw9 (by simp [strB, zg9]; rfl) ?_
   refine xv9 (fun σ => σ = ⟨114, [(1, .loc 0 0), (3, .lst .nil 1 (bbL acc)), (4, .v (.int .i64 (i : Nat))), (5, .arr 1 0 80 (80 + k))], [.cells 26 (obC o), .cells 5 (zt9 (zt8 g) k)]⟩) ?_ ?_
   ·obtain ⟨I, hI⟩ : ∃ I, xl8 g = I := ⟨_, rfl⟩
    rw [hI] at hcE ⊢
    by_cases p0 : 0 < I
    ·obtain ⟨n, hn⟩ : ∃ n : Nat, I = n := ⟨I.toNat, by omega⟩
     subst hn
     have hnb : n ≤ 1000000 := by
      cases hfi : g.find? (fun x => !decide (x.kind = 2)) with
      | none => simp [xl8, hfi] at hI; omega
      | some y =>
       simp only [xl8, hfi, Option.map_some, Option.getD_some] at hI
       have := (hk y (hgm y (List.mem_of_find?_eq_some hfi))).i1
       omega
     have p0n : 0 < n := by omega
     refine W_cT [1, 3, 4, 5, 7, 105] (by simp [p0, p0n, strB, zg9]; rfl) rfl ?_
     refine W_rE [1, 3, 4, 5] ?_
     refine yq9 2 (by simp [strB, zg9]; rfl) rfl ?_
     refine yn9 (f := 78) (args := [.arr 1 0 80 (80 + k), .v (.int .i64 (14 : Nat)), .v (.int .i64 (2 : Nat)), .v (.int .i64 (n : Nat))]) (by simp) (by simp [yv9, zr9]) ((xc9 _ 1 (80 + k) 14 2 n (putM F 10 (numM 2 (16 * g.length))) k (by simp) hp2 (by omega) (by omega)).mono ?_)
     rintro _ _ ⟨rfl, rfl⟩
     refine ⟨_, by simp [strB, zg9]; rfl, ?_⟩
     refine yw9 (by simp [strB, zg9]; rfl) ?_
     rw [hcE]
     simp [obC, strB, hle, p0n]
    ·refine W_cF [1, 3, 4, 5, 7, 105] (by simp [p0, strB, zg9]; rfl) rfl ?_
     refine ym9 [1, 3, 4, 5] ?_
     refine yk9 ?_
     rw [hcE]
     simp [obC, strB, hle, p0]
   rintro _ rfl
   have hq1 : acc.length ≤ 140737488355327 := by omega
   have hq2 : (acc.length + 1) * 24 ≤ 140737488355328 := by omega
   have happ : bbL acc ++ [.lst .any 1 (byL (zt8 g))] = bbL (acc ++ [zt8 g]) := by simp [wn9, yq8]
   have hcl : (zt8 g).length = 80 := by
    rw [hcE]
    simp only
    split
    ·rw [zk9 _ _ _ (by rw [zh9]; omega)]; exact hp2
    ·exact hp2
   obtain rfl : acc = [] := by
    rcases hfl with ⟨_, _, h⟩ | ⟨_, h⟩
    ·exact h
    ·cases h
   obtain ⟨fo, hfo, hfz⟩ := frz_room3 (h := [.cells 26 (obC o), .cells 5 (zt9 (zt8 g) k)]) 1 80 (80 + k) (zt8 g) k rfl hcl
   refine W_frz 5 rfl (by decide) hfz ?_
   obtain ⟨CE, hCE⟩ : ∃ C, zt8 g = C := ⟨_, rfl⟩
   rw [hCE] at hgo happ hcl ⊢
   rcases hfo with rfl | rfl
   all_goals
    refine zd9 [1, 3, 4] (by simp [putF, yd9, catK, AV.cellsK, AV.kone, AV.koneL, hq1, hq2, strB, zg9, happ]; rfl) ?_
    refine xk9 1 (Nat.zero_le _) (by simp) (by simp [yb9, AV.under, AV.underL]) (by simp [yl9, xd9, AObj.under, yb9, AV.under, AV.underL, zw9, zt9, esC, strB]) ?_
    refine zd9 [1, 3, 4] (by simp [w3, strB, zg9]; rfl) ?_
    exact ⟨_, by omega, f', i + 3, [CE], .tip 27 225, rfl, by omega, by omega, by simpa using hgo, by simp only [List.length_append, List.length_cons, List.length_nil]; omega, .inr ⟨by omega, rfl⟩, by simp [obC, strB, hle, yq8]⟩
  ·refine W_rK [1, 3, 4, 5] ?_
   refine yn9 (f := 77) (args := [strB zj8]) (by simp) (by simp [yv9, zr9, strB, zj8]) ((zs7 zj8 (by simp [zj8]) (by decide +kernel) (by decide +kernel) _).mono ?_)
   rintro _ _ ⟨k, rfl, rfl⟩
   refine ⟨_, by simp [strB, zg9]; rfl, ?_⟩
   refine yw9 (by simp [strB, zg9]; rfl) ?_
   obtain ⟨F, hF⟩ : ∃ F, wr9 g 0 (vh9 zj8) = F := ⟨_, rfl⟩
   rw [hF] at hcE
   obtain ⟨c0, hc0⟩ : ∃ c, vh9 zj8 = c := ⟨_, rfl⟩
   rw [hc0] at hF hcl0 hcb0 ⊢
   refine yt9 [1, 3, 4, 5, 6, 7] (by simp; rfl) ?_
   refine xv9 (fun σ => F.length = 80 ∧ σ = ⟨114, frG 114 (.lst (.tip 27 225) 1 (bbL acc)) i (80 + k) (16 * g.length) (xl8 g) (i + g.length) [], [.cells 26 (obC o), .cells 5 (zt9 F k)]⟩) ?_ ?_
   ·refine yt9 [1, 3, 4, 5, 6, 7, 8] (by simp; rfl) ?_
    refine yp9 ?_
    refine zn9 (fun m σ => ∃ (j : Nat) (c : List UInt8), m = g.length - j ∧ j ≤ g.length ∧ wr9 (g.drop j) j c = F ∧ c.length = 80 ∧ c.drop (16 + 16 * j) = xp9 (64 - 16 * j) ∧
     σ = ⟨114, frG 114 (.lst (.tip 27 225) 1 (bbL acc)) i (80 + k) (16 * j) (xl8 (g.take j)) (i + j) [], [.cells 26 (obC o), .cells 5 (zt9 c k)]⟩) (k := g.length) ⟨0, c0, rfl, by omega, hF, hcl0, hcb0, by simp [obC, xl8, strB, hle]⟩ ?_
    rintro m σ ⟨j, c1, rfl, hj, hit, hc1, hcb, rfl⟩
    refine yc9 ?_
    have wi3 : IntKind.i64.wrap ((i : Int) + 3) = (i : Int) + 3 := w3
    by_cases cj : j < g.length
    ·obtain ⟨x, hs⟩ : ∃ x, g[j]? = some x := ⟨_, List.getElem?_eq_getElem cj⟩
     have hs2 : g[j]'cj = x := by rw [List.getElem?_eq_getElem cj] at hs; exact Option.some.inj hs
     have hdr : g.drop j = x :: g.drop (j + 1) := wl9 cj hs2
     have htk : g.take (j + 1) = g.take j ++ [x] := by rw [List.take_add_one, hs]; rfl
     have hli : l[i + j]? = some x := by rw [← hgget j cj]; exact hs
     have hil : i + j < l.length := (List.getElem?_eq_some_iff.1 hli).1
     have hil2 : l[i + j]'hil = x := by rw [List.getElem?_eq_getElem hil] at hli; exact Option.some.inj hli
     have hil3 : ((i : Int) + (j : Int)) < l.length := by omega
     have hil4 : ((i : Int) + (j : Int)) < (i : Int) + 3 := by omega
     have hil5 : (0 : Int) ≤ (i : Int) + (j : Int) := by omega
     have hil6 : ((i : Int) + (j : Int)).toNat = i + j := by omega
     have hxl : x ∈ l := List.mem_of_getElem? hli
     have hE := hk x hxl
     obtain ⟨e1, e2, e3, e4, e5, e6, e7, e8⟩ := hE
     have wj := w64 (n := (i : Int) + (j : Int) - (i : Int)) (by omega) (by omega)
     have wj2 : IntKind.i64.wrap ((j : Int)) = j := w64 (by omega) (by omega)
     have wj3 : IntKind.i64.wrap (16 * (j : Int)) = 16 * (j : Int) := w64 (by omega) (by omega)
     have wj4 : IntKind.i64.wrap (16 + 16 * (j : Int)) = ((16 + 16 * j : Nat) : Int) := by rw [w64 (by omega) (by omega)]; omega
     have wsub : (i : Int) + (j : Int) - (i : Int) = j := by omega
     have w16 : IntKind.i64.wrap (16 * (j : Int) + 16) = ((16 * (j + 1) : Nat) : Int) := by rw [w64 (by omega) (by omega)]; omega
     have wi1 : IntKind.i64.wrap ((i : Int) + (j : Int) + 1) = ((i + (j + 1) : Nat) : Int) := by rw [w64 (by omega) (by omega)]; omega
     obtain ⟨hr1, hr2, hr3⟩ := refItem_put hc1 (by omega) hcb e1
     rw [hdr, wr9] at hit
     have hfs := fstId_snoc (g.take j) x (fun y hy => hgi y (List.mem_of_mem_take hy))
     obtain ⟨A, hA⟩ : ∃ A, 16 + 16 * j = A := ⟨_, rfl⟩
     have hA64 : A + 16 ≤ 80 := by omega
     rw [hA] at hr1 hit wj4
     rw [← hr1] at hit
     have hr3' : (vp9 c1 A x).length = 80 := by rw [hr1, ← hA]; exact hr3
     have hr2' : (vp9 c1 A x).drop (16 + 16 * (j + 1)) = xp9 (64 - 16 * (j + 1)) := by rw [hr1, ← hA]; exact hr2
     obtain ⟨I0, hI0⟩ : ∃ I, xl8 (g.take j) = I := ⟨_, rfl⟩
     rw [hI0] at hfs
     have wa8 : IntKind.i64.wrap ((A : Int) + 8) = ((A + 8 : Nat) : Int) := by rw [w64 (by omega) (by omega)]; omega
     have wa9 : IntKind.i64.wrap ((A : Int) + 9) = ((A + 9 : Nat) : Int) := by rw [w64 (by omega) (by omega)]; omega
     have wa13 : IntKind.i64.wrap ((A : Int) + 13) = ((A + 13 : Nat) : Int) := by rw [w64 (by omega) (by omega)]; omega
     refine W_cT [1, 3, 4, 5, 6, 7, 8, 30] (by simp [frG, obC, hle, wi3, hil3, hil4]; rfl) rfl ?_
     refine yk9 ?_
     refine yc9 ?_
     refine yp9 ?_
     refine W_rK [1, 3, 4, 5, 6, 7, 8, 9, 10] ?_
     refine yq9 6 (by simp [obC, hle, hil, hil2, hil3, hil5, hil6]; rfl) rfl ?_
     refine yw9 (by simp [obC, hle, wj, wsub, wj2, wj3, wj4, yd9, AV.weakL, AV.weak, AV.koneL, AV.kone, strB]; rfl) ?_
     refine yt9 [1, 3, 4, 5, 6, 7, 8, 9, 10] (by simp [w16, -Int.natCast_add, -Int.natCast_mul]; rfl) ?_
     refine W_rK [1, 3, 4, 5, 6, 7, 8, 9, 10] ?_
     refine yq9 4 (by simp; rfl) rfl ?_
     refine yn9 (f := 79) (args := [.arr 1 0 80 (80 + k), .v (.int .i64 (A : Nat)), strB x.name]) (by simp) (by simp [yv9, zr9, strB]) ((rtext_room _ 1 (80 + k) A x.name c1 k (by simp) hc1 (by omega) (by omega)).mono ?_)
     rintro _ _ ⟨rfl, rfl⟩
     refine ⟨_, by simp [strB, zg9]; rfl, ?_⟩
     refine yw9 (by simp [strB, zg9]; rfl) ?_
     have hp1 : (putM c1 A (xr9 x.name)).length = 80 := by rw [zk9 _ _ _ (by omega)]; exact hc1
     obtain ⟨ad, had⟩ : ∃ n : Nat, x.addr = n := ⟨x.addr.toNat, by omega⟩
     obtain ⟨ln, hln⟩ : ∃ n : Nat, x.len = n := ⟨x.len.toNat, by omega⟩
     obtain ⟨ii, hii⟩ : ∃ n : Nat, x.id = n := ⟨x.id.toNat, by omega⟩
     obtain ⟨A8, hA8⟩ : ∃ n, A + 8 = n := ⟨_, rfl⟩
     obtain ⟨A9, hA9⟩ : ∃ n, A + 9 = n := ⟨_, rfl⟩
     obtain ⟨A13, hA13⟩ : ∃ n, A + 13 = n := ⟨_, rfl⟩
     rw [hA8] at wa8
     rw [hA9] at wa9
     rw [hA13] at wa13
     have ha8 : A8 < 80 := by omega
     have ha8i : (A8 : Int) < 80 := by omega
     have h8r : A8 + 1 ≤ 80 + k := by omega
     refine xv9 (fun σ => σ = ⟨114, frG 114 (.lst (.tip 27 225) 1 (bbL acc)) i (80 + k) (16 * (j + 1)) I0 (i + j) [(9, .loc 2 0)], [.cells 26 (obC o), .cells 5 (zt9 (vp9 c1 A x) k), .cells 78 (esC x)]⟩) ?_ ?_
     ·refine yt9 [1, 3, 4, 5, 6, 7, 8, 9, 10, 51] (by simp [strB, zg9]; rfl) ?_
      refine yp9 ?_
      by_cases k1 : x.kind = 1
      ·refine W_cT [1, 3, 4, 5, 6, 7, 8, 9, 10, 51, 56] (by simp [strB, zg9, k1]; rfl) rfl ?_
       have hs8 : yd9 (zt9 (putM c1 A (xr9 x.name)) k) A8 [.v (.int .u8 0)] = zt9 ((putM c1 A (xr9 x.name)).set A8 0) k := wm8 _ k A8 0 (by omega)
       have h8l : ((putM c1 A (xr9 x.name)).set A8 0).length = 80 := by rw [List.length_set]; exact hp1
       refine yt9 [1, 3, 4, 5, 6, 7, 8, 9, 10] (by simp [strB, zg9, xf9, hp1, wa8, ha8, ha8i, hs8, h8r]; rfl) ?_
       refine W_rK [1, 3, 4, 5, 6, 7, 8, 9, 10] ?_
       refine yq9 5 (by simp [wa9, had, strB, zg9]; rfl) rfl ?_
       refine yn9 (f := 78) (args := [.arr 1 0 80 (80 + k), .v (.int .i64 (A9 : Nat)), .v (.int .i64 (3 : Nat)), .v (.int .i64 (ad : Nat))]) (by simp) (by simp [yv9, zr9, wa9, had]) ((xc9 _ 1 (80 + k) A9 3 (ad) _ k (by simp; rfl) (by first | exact h8l | (rw [zk9 _ _ _ (by rw [zh9]; omega)]; exact h8l)) (by omega) (by omega)).mono ?_)
       rintro _ _ ⟨rfl, rfl⟩
       refine ⟨_, by simp [strB, zg9]; rfl, ?_⟩
       refine yw9 (by simp [strB, zg9]; rfl) ?_
       refine W_rE [1, 3, 4, 5, 6, 7, 8, 9] ?_
       refine yq9 5 (by simp [wa13, hln, strB, zg9]; rfl) rfl ?_
       refine yn9 (f := 78) (args := [.arr 1 0 80 (80 + k), .v (.int .i64 (A13 : Nat)), .v (.int .i64 (3 : Nat)), .v (.int .i64 (ln : Nat))]) (by simp) (by simp [yv9, zr9, wa13, hln]) ((xc9 _ 1 (80 + k) A13 3 (ln) _ k (by simp; rfl) (by first | exact h8l | (rw [zk9 _ _ _ (by rw [zh9]; omega)]; exact h8l)) (by omega) (by omega)).mono ?_)
       rintro _ _ ⟨rfl, rfl⟩
       refine ⟨_, by simp [strB, zg9]; rfl, ?_⟩
       refine yw9 (by simp [strB, zg9]; rfl) ?_
       simp [hI0, strB, vp9, esC, obC, hA8, hA9, hA13, hle, k1, had, hln]
      have k1b : (x.kind == 1) = false := by simpa using k1
      by_cases k2 : x.kind = 2
      ·refine W_cF [1, 3, 4, 5, 6, 7, 8, 9, 10, 51, 56] (by simp [strB, zg9, k2]; rfl) rfl ?_
       refine W_cT [1, 3, 4, 5, 6, 7, 8, 9, 10, 74] (by simp [strB, zg9, k2]; rfl) rfl ?_
       have hs8 : yd9 (zt9 (putM c1 A (xr9 x.name)) k) A8 [.v (.int .u8 1)] = zt9 ((putM c1 A (xr9 x.name)).set A8 1) k := wm8 _ k A8 1 (by omega)
       have h8l : ((putM c1 A (xr9 x.name)).set A8 1).length = 80 := by rw [List.length_set]; exact hp1
       refine yt9 [1, 3, 4, 5, 6, 7, 8, 9, 10] (by simp [strB, zg9, xf9, hp1, wa8, ha8, ha8i, hs8, h8r]; rfl) ?_
       refine W_rK [1, 3, 4, 5, 6, 7, 8, 9, 10] ?_
       refine yq9 5 (by simp [wa9, had, strB, zg9]; rfl) rfl ?_
       refine yn9 (f := 78) (args := [.arr 1 0 80 (80 + k), .v (.int .i64 (A9 : Nat)), .v (.int .i64 (3 : Nat)), .v (.int .i64 (ad : Nat))]) (by simp) (by simp [yv9, zr9, wa9, had]) ((xc9 _ 1 (80 + k) A9 3 (ad) _ k (by simp; rfl) (by first | exact h8l | (rw [zk9 _ _ _ (by rw [zh9]; omega)]; exact h8l)) (by omega) (by omega)).mono ?_)
       rintro _ _ ⟨rfl, rfl⟩
       refine ⟨_, by simp [strB, zg9]; rfl, ?_⟩
       refine yw9 (by simp [strB, zg9]; rfl) ?_
       refine W_rE [1, 3, 4, 5, 6, 7, 8, 9] ?_
       refine yq9 5 (by simp [wa13, hii, strB, zg9]; rfl) rfl ?_
       refine yn9 (f := 78) (args := [.arr 1 0 80 (80 + k), .v (.int .i64 (A13 : Nat)), .v (.int .i64 (3 : Nat)), .v (.int .i64 (ii : Nat))]) (by simp) (by simp [yv9, zr9, wa13, hii]) ((xc9 _ 1 (80 + k) A13 3 (ii) _ k (by simp; rfl) (by first | exact h8l | (rw [zk9 _ _ _ (by rw [zh9]; omega)]; exact h8l)) (by omega) (by omega)).mono ?_)
       rintro _ _ ⟨rfl, rfl⟩
       refine ⟨_, by simp [strB, zg9]; rfl, ?_⟩
       refine yw9 (by simp [strB, zg9]; rfl) ?_
       simp [hI0, strB, vp9, esC, obC, hA8, hA9, hA13, hle, k2, had, hii]
      ·have k2b : (x.kind == 2) = false := by simpa using k2
       refine W_cF [1, 3, 4, 5, 6, 7, 8, 9, 10, 51, 56] (by simp [strB, zg9, k1, k1b]; rfl) rfl ?_
       refine W_cF [1, 3, 4, 5, 6, 7, 8, 9, 10, 74] (by simp [strB, zg9, k2, k2b]; rfl) rfl ?_
       have hs8 : yd9 (zt9 (putM c1 A (xr9 x.name)) k) A8 [.v (.int .u8 2)] = zt9 ((putM c1 A (xr9 x.name)).set A8 2) k := wm8 _ k A8 2 (by omega)
       have h8l : ((putM c1 A (xr9 x.name)).set A8 2).length = 80 := by rw [List.length_set]; exact hp1
       refine zd9 [1, 3, 4, 5, 6, 7, 8, 9] (by simp [strB, zg9, xf9, hp1, wa8, ha8, ha8i, hs8, h8r]; rfl) ?_
       simp [hI0, strB, vp9, esC, obC, hA8, hA9, hA13, hle, k1, k2]
     rintro _ rfl
     have hfin : ∀ I', (if I0 = 0 then (if x.kind = 2 then 0 else x.id) else I0) = I' → xl8 (g.take (j + 1)) = I' := fun I' h => by rw [htk, hfs, h]
     by_cases z0 : I0 = 0
     ·by_cases k2 : x.kind = 2
      ·refine W_cF [1, 3, 4, 5, 6, 7, 8, 9, 98] (by simp [frG, esC, z0, k2, strB, zg9, bne]; rfl) rfl ?_
       refine yk9 ?_
       refine ym9 [1, 3, 4, 5, 6, 7, 8] ?_
       refine xk9 2 (Nat.zero_le _) (by simp) (by simp [frG, yb9, AV.under, AV.underL]) (by simp [yl9, xd9, AObj.under, yb9, AV.under, AV.underL, zw9, zt9, esC, strB]) ?_
       refine zd9 [1, 3, 4, 5, 6, 7, 8] (by simp [wi1, strB, zg9, -Int.natCast_add]; rfl) ?_
       exact ⟨_, by omega, j + 1, vp9 c1 A x, rfl, by omega, hit, hr3', hr2', by rw [hfin 0 (by simp [z0, k2])]; simp [strB, obC, hle, z0]⟩
      ·have k2b : (x.kind == 2) = false := by simpa using k2
       refine W_cT [1, 3, 4, 5, 6, 7, 8, 9, 98] (by simp [frG, esC, z0, k2, k2b, strB, zg9, bne]; rfl) rfl ?_
       refine zd9 [1, 3, 4, 5, 6, 7, 8, 9] (by simp [esC, strB, zg9]; rfl) ?_
       refine ym9 [1, 3, 4, 5, 6, 7, 8] ?_
       refine xk9 2 (Nat.zero_le _) (by simp) (by simp [frG, yb9, AV.under, AV.underL]) (by simp [yl9, xd9, AObj.under, yb9, AV.under, AV.underL, zw9, zt9, esC, strB]) ?_
       refine zd9 [1, 3, 4, 5, 6, 7, 8] (by simp [wi1, strB, zg9, -Int.natCast_add]; rfl) ?_
       exact ⟨_, by omega, j + 1, vp9 c1 A x, rfl, by omega, hit, hr3', hr2', by rw [hfin x.id (by simp [z0, k2])]; simp [strB, obC, hle, z0]⟩
     ·have z0b : (I0 == 0) = false := by simpa using z0
      refine W_cF [1, 3, 4, 5, 6, 7, 8, 9, 98] (by simp [frG, esC, z0, z0b, strB, zg9, bne]; rfl) rfl ?_
      refine yk9 ?_
      refine ym9 [1, 3, 4, 5, 6, 7, 8] ?_
      refine xk9 2 (Nat.zero_le _) (by simp) (by simp [frG, yb9, AV.under, AV.underL]) (by simp [yl9, xd9, AObj.under, yb9, AV.under, AV.underL, zw9, zt9, esC, strB]) ?_
      refine zd9 [1, 3, 4, 5, 6, 7, 8] (by simp [wi1, strB, zg9, -Int.natCast_add]; rfl) ?_
      exact ⟨_, by omega, j + 1, vp9 c1 A x, rfl, by omega, hit, hr3', hr2', by rw [hfin I0 (by simp [z0])]; simp [strB, obC, hle, z0]⟩
    ·have hje : j = g.length := by omega
     rw [hje, List.drop_length, wr9] at hit
     subst hit
     have hnot : ¬ (((i : Int) + (j : Int) < (i : Int) + 3) ∧ ((i : Int) + (j : Int) < l.length)) := by omega
     by_cases j3 : (i : Int) + (j : Int) < (i : Int) + 3
     ·have j4 : ¬ ((i : Int) + (j : Int) < l.length) := fun h => hnot ⟨j3, h⟩
      refine W_cF [1, 3, 4, 5, 6, 7, 8, 30] (by simp [frG, obC, hle, wi3, j3, j4]; rfl) rfl ?_
      refine ym9 [1, 3, 4, 5, 6, 7, 8] ?_
      refine zc9 ?_
      refine ⟨hc1, ?_⟩
      subst hje
      rw [List.take_length]
      simp [obC, strB, hle]
     ·refine W_cF [1, 3, 4, 5, 6, 7, 8, 30] (by simp [frG, obC, hle, wi3, j3]; rfl) rfl ?_
      refine ym9 [1, 3, 4, 5, 6, 7, 8] ?_
      refine zc9 ?_
      refine ⟨hc1, ?_⟩
      subst hje
      rw [List.take_length]
      simp [obC, strB, hle]
   rintro _ ⟨hFl, rfl⟩
   have hp2 : (putM F 10 (numM 2 (16 * g.length))).length = 80 := by rw [zk9 _ _ _ (by rw [zh9]; omega)]; exact hFl
   refine W_rK [1, 3, 4, 5, 7] ?_
   refine yq9 2 (by simp [frG, strB, zg9]; rfl) rfl ?_
   refine yn9 (f := 78) (args := [.arr 1 0 80 (80 + k), .v (.int .i64 (10 : Nat)), .v (.int .i64 (2 : Nat)), .v (.int .i64 (16 * g.length : Nat))]) (by simp) (by simp [yv9, zr9]) ((xc9 _ 1 (80 + k) 10 2 (16 * g.length) F k (by simp) hFl (by omega) (by omega)).mono ?_)
   rintro _ _ ⟨rfl, rfl⟩
   refine ⟨_, by simp [strB, zg9]; rfl, ?_⟩
   refine yw9 (by simp [strB, zg9]; rfl) ?_
   refine xv9 (fun σ => σ = ⟨114, [(1, .loc 0 0), (3, .lst (.tip 27 225) 1 (bbL acc)), (4, .v (.int .i64 (i : Nat))), (5, .arr 1 0 80 (80 + k))], [.cells 26 (obC o), .cells 5 (zt9 (zt8 g) k)]⟩) ?_ ?_
   ·obtain ⟨I, hI⟩ : ∃ I, xl8 g = I := ⟨_, rfl⟩
    rw [hI] at hcE ⊢
    by_cases p0 : 0 < I
    ·obtain ⟨n, hn⟩ : ∃ n : Nat, I = n := ⟨I.toNat, by omega⟩
     subst hn
     have hnb : n ≤ 1000000 := by
      cases hfi : g.find? (fun x => !decide (x.kind = 2)) with
      | none => simp [xl8, hfi] at hI; omega
      | some y =>
       simp only [xl8, hfi, Option.map_some, Option.getD_some] at hI
       have := (hk y (hgm y (List.mem_of_find?_eq_some hfi))).i1
       omega
     have p0n : 0 < n := by omega
     refine W_cT [1, 3, 4, 5, 7, 105] (by simp [p0, p0n, strB, zg9]; rfl) rfl ?_
     refine W_rE [1, 3, 4, 5] ?_
     refine yq9 2 (by simp [strB, zg9]; rfl) rfl ?_
     refine yn9 (f := 78) (args := [.arr 1 0 80 (80 + k), .v (.int .i64 (14 : Nat)), .v (.int .i64 (2 : Nat)), .v (.int .i64 (n : Nat))]) (by simp) (by simp [yv9, zr9]) ((xc9 _ 1 (80 + k) 14 2 n (putM F 10 (numM 2 (16 * g.length))) k (by simp) hp2 (by omega) (by omega)).mono ?_)
     rintro _ _ ⟨rfl, rfl⟩
     refine ⟨_, by simp [strB, zg9]; rfl, ?_⟩
     refine yw9 (by simp [strB, zg9]; rfl) ?_
     rw [hcE]
     simp [obC, strB, hle, p0n]
    ·refine W_cF [1, 3, 4, 5, 7, 105] (by simp [p0, strB, zg9]; rfl) rfl ?_
     refine ym9 [1, 3, 4, 5] ?_
     refine yk9 ?_
     rw [hcE]
     simp [obC, strB, hle, p0]
   rintro _ rfl
   have hq1 : acc.length ≤ 140737488355327 := by omega
   have hq2 : (acc.length + 1) * 24 ≤ 140737488355328 := by omega
   have happ : bbL acc ++ [.lst .any 1 (byL (zt8 g))] = bbL (acc ++ [zt8 g]) := by simp [wn9, yq8]
   have hcl : (zt8 g).length = 80 := by
    rw [hcE]
    simp only
    split
    ·rw [zk9 _ _ _ (by rw [zh9]; omega)]; exact hp2
    ·exact hp2
   obtain ⟨fo, hfo, hfz⟩ := frz_room3 (h := [.cells 26 (obC o), .cells 5 (zt9 (zt8 g) k)]) 1 80 (80 + k) (zt8 g) k rfl hcl
   refine W_frz 5 rfl (by decide) hfz ?_
   obtain ⟨CE, hCE⟩ : ∃ C, zt8 g = C := ⟨_, rfl⟩
   rw [hCE] at hgo happ hcl ⊢
   rcases hfo with rfl | rfl
   all_goals
    refine zd9 [1, 3, 4] (by simp [putF, yd9, catK, AV.cellsK, AV.kone, AV.koneL, hq1, hq2, strB, zg9, happ]; rfl) ?_
    refine xk9 1 (Nat.zero_le _) (by simp) (by simp [yb9, AV.under, AV.underL]) (by simp [yl9, xd9, AObj.under, yb9, AV.under, AV.underL, zw9, zt9, esC, strB]) ?_
    refine zd9 [1, 3, 4] (by simp [w3, strB, zg9]; rfl) ?_
    exact ⟨_, by omega, f', i + 3, acc ++ [CE], .tip 27 225, rfl, by omega, by omega, by simpa using hgo, by simp only [List.length_append, List.length_cons, List.length_nil]; omega, .inr ⟨by omega, rfl⟩, by simp [obC, strB, hle]⟩
 ·have hfl3 : fl = .tip 27 225 := by
   rcases hfl with ⟨h0, _, _⟩ | ⟨_, h⟩
   ·omega
   ·exact h
  subst hfl3
  have cn : ¬ ((i : Int) < l.length) := by omega
  rw [egoE_end _ _ (by omega), List.append_nil] at hgo
  subst hgo
  refine yt9 [1, 3, 4, 15] (by simp [obC, hle, cn]; rfl) ?_
  refine ys9 rfl (fun h => by simp [c] at h) (fun h => ?_)
  refine zc9 ?_
  refine yt9 [2] (by simp; rfl) ?_
  refine zq9 ?_
  repeat (first | refine yg9 ?_ | refine yh9 ?_)
  exact ⟨_, by simp [retQ]; exact ⟨rfl, by simp⟩, .norm fun T => by simp⟩
end Go.AM
