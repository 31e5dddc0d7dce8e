/- Parts of the walk: C31Q C31R C31S. -/
import Derived.Test.YtlhaljblcimnbaaG3
namespace Go.AM
open Go.RowKit Go.Proofs
set_option linter.unusedSimpArgs false
set_option linter.unusedVariables false
set_option maxHeartbeats 4000000
theorem W_thenC {c : Code} {Q : Exit → St → Prop} {s : St} {top : Bool} {kf : Nat} {P : Program} (K : St → Prop) (h1 : Wt top kf P c (yp9 K fun _ _ => False) s) (h2 : ∀ s, K s → Q .normal s) : Wt top kf P c Q s := by
 refine h1.mono fun e s h => ?_
 cases e with
 | normal => exact h2 s h
 | _ => exact h.elim
def rl2 (m : LMod) (i : Nat) (past : Int) (r : Rlo) : Bool := decide (r.len < 1) || (decide (4 < r.len) || (decide (r.at_ < 0) || (decide ((m.text.length : Int) < r.at_) || (decide (0 < i) && decide (r.at_ < past)))))
end Go.AM
namespace Go.AM
open Go.RowKit Go.Proofs
set_option linter.unusedSimpArgs false
set_option linter.unusedVariables false
set_option maxHeartbeats 4000000
def segR (s : Seg) : List UInt8 := numM 2 (s.par + 1).toNat ++ (numM 4 s.org.toNat ++ (numM 4 s.frm.toNat ++ numM 4 s.len.toNat))
def zh7 (m : LMod) : List UInt8 := 1 :: (numM 4 m.entry.toNat ++ numM 2 m.seg.length)
def txtGo (t : List UInt8) : Nat → Nat → List (List UInt8)
 | 0, _ => []
 | f + 1, i => if i < t.length then (2 :: (numM 4 i ++ (t.drop i).take 1000)) :: txtGo t f (i + 1000) else []
def rloR (r : Rlo) : List UInt8 := numM 4 r.at_.toNat ++ [UInt8.ofNat (r.len.toNat + if r.neg = true then 128 else 0)]
def rlR (l : List Rlo) : List UInt8 := 3 :: l.flatMap rloR
def rloGo (l : List Rlo) : Nat → Nat → List (List UInt8)
 | 0, _ => []
 | f + 1, i => if i < l.length then rlR ((l.drop i).take 200) :: rloGo l f (i + 200) else []
def endR (m : LMod) : List UInt8 := 4 :: (numM 4 m.text.length ++ numM 4 m.rel.length)
def encL (m : LMod) : List (List UInt8) := [zh7 m ++ m.seg.flatMap segR] ++ (txtGo m.text m.text.length 0 ++ (rloGo m.rel m.rel.length 0 ++ [endR m]))
theorem segGo_inv2 {l0 : List Seg} : ∀ (l : List Seg) (i : Nat) (fr e : Int), yr8 l0 i l fr = some e → ∀ s ∈ l, -1 ≤ s.par ∧ s.par ≤ i + l.length ∧ 0 ≤ s.org ∧ s.org ≤ 65536
 | [], i, fr, e, h => by simp
 | s :: l, i, fr, e, h => by
  rw [yr8] at h
  split at h
  ·cases h
  rename_i h1
  split at h
  ·cases h
  rename_i h2
  obtain ⟨b1, b2, b3, b4, b5⟩ := seg1_ok (by simpa using h1)
  intro t ht
  rcases List.mem_cons.1 ht with rfl | ht
  ·refine ⟨?_, ?_, by omega, by omega⟩
   all_goals
    rw [seg2_eq] at h2
    by_cases h0 : i = 0
    ·rw [if_pos h0] at h2
     simp [sA] at h2
     first | omega | (simp only [List.length_cons]; omega)
    ·rw [if_neg h0] at h2
     simp [sB] at h2
     first | omega | (simp only [List.length_cons]; omega)
  ·have := segGo_inv2 l (i + 1) (fr + s.len) e h t ht
   simp
   omega
theorem relGo_inv {m : LMod} : ∀ (l : List Rlo) (past : Int), relGo m l past = true → 0 ≤ past → ∀ r ∈ l, 0 ≤ r.at_ ∧ r.at_ ≤ m.text.length ∧ 1 ≤ r.len ∧ r.len ≤ 4
 | [], past, h, h0 => by simp
 | r :: l, past, h, h0 => by
  rw [relGo] at h
  split at h
  ·cases h
  rename_i h1
  split at h
  ·cases h
  have h1f : rl1 m past r = false := by simpa using h1
  simp only [rl1, Bool.or_eq_false_iff, decide_eq_false_iff_not] at h1f
  obtain ⟨b1, b2, b3, b4⟩ := h1f
  intro t ht
  rcases List.mem_cons.1 ht with rfl | ht
  ·exact ⟨by omega, by omega, by omega, by omega⟩
  ·exact relGo_inv l _ h (by omega) t ht
structure LOk (m : LMod) : Prop where
 e0 : 0 ≤ m.entry
 e1 : m.entry ≤ 1000000000000
 sg : ∀ s ∈ m.seg, -1 ≤ s.par ∧ s.par ≤ 1000000000000 ∧ 0 ≤ s.org ∧ s.org ≤ 65536 ∧ 0 ≤ s.frm ∧ s.frm ≤ 1000000000000 ∧ 0 ≤ s.len ∧ s.len ≤ 65536
 rl : ∀ r ∈ m.rel, 0 ≤ r.at_ ∧ r.at_ ≤ 1000000000000 ∧ 1 ≤ r.len ∧ r.len ≤ 4
 ls : m.seg.length ≤ 64
 lt : m.text.length ≤ 1000000000
 lr : m.rel.length ≤ 8192
theorem ckM_ok {m : LMod} (hck : ckM m = true) (ht : m.text.length ≤ 1000000000) : LOk m := by
 have hBf : ckB m = false := by simp only [ckM, Bool.and_eq_true, Bool.not_eq_true'] at hck; exact hck.1
 have hre : relGo m m.rel 0 = true := by simp only [ckM, Bool.and_eq_true, Bool.not_eq_true'] at hck; exact hck.2
 simp only [ckB, Bool.or_eq_false_iff, Bool.not_eq_false', decide_eq_false_iff_not] at hBf
 obtain ⟨hsg, h2, h3, h4⟩ := hBf
 have hx := segM_inv hsg (by omega)
 obtain ⟨g1, g2, hsok⟩ := hx
 have hgo : ∃ e, yr8 m.seg 0 m.seg 0 = some e := by
  rw [segM] at hsg
  cases hg : yr8 m.seg 0 m.seg 0 with
  | none => rw [hg] at hsg; cases hsg
  | some e => exact ⟨e, rfl⟩
 obtain ⟨e, hgo⟩ := hgo
 have he : e = m.text.length := by
  rw [segM, hgo] at hsg
  simp only [segF, Bool.and_eq_true, decide_eq_true_eq] at hsg
  exact hsg.2.2
 have hi := segGo_inv m.seg 0 0 e hgo (by omega)
 have hi2 := segGo_inv2 m.seg 0 0 e hgo
 refine ⟨by omega, ?_, fun s hs => ?_, fun r hr => ?_, g2, ht, by omega⟩
 ·obtain ⟨s0, hs0⟩ : ∃ s, m.seg[0]? = some s := ⟨_, List.getElem?_eq_getElem g1⟩
  have := (hsok s0 (List.mem_of_getElem? hs0)).2.2.2
  simp [paS, hs0] at h4
  omega
 ·have k1 := hi.2 s hs
  have k2 := hi2 s hs
  exact ⟨k2.1, by omega, k2.2.2.1, k2.2.2.2, k1.1, by omega, k1.2.2.1, k1.2.2.2⟩
 ·have k := relGo_inv m.rel 0 hre (by omega) r hr
  exact ⟨k.1, by omega, k.2.2.1, k.2.2.2⟩
theorem txtGo_end {t : List UInt8} : ∀ (f i : Nat), t.length ≤ i → txtGo t f i = []
 | 0, i, h => rfl
 | f + 1, i, h => by rw [txtGo, if_neg (by omega)]
theorem rloGo_end {l : List Rlo} : ∀ (f i : Nat), l.length ≤ i → rloGo l f i = []
 | 0, i, h => rfl
 | f + 1, i, h => by rw [rloGo, if_neg (by omega)]
theorem dropmin {α : Type} (l : List α) (i n : Nat) : (l.take (min (i + n) l.length)).drop i = (l.drop i).take n := by
 rw [List.drop_take]
 by_cases h : i + n ≤ l.length
 ·rw [Nat.min_eq_left h, Nat.add_sub_cancel_left]
 ·rw [Nat.min_eq_right (by omega), List.take_of_length_le (by simp), List.take_of_length_le (by simp; omega)]
theorem rlR_len (l : List Rlo) : (rlR l).length = 1 + 5 * l.length := by
 unfold rlR
 induction l with
 | nil => rfl
 | cons s l ih => simp [rloR] at ih ⊢; omega
theorem rlR_snoc (l : List Rlo) (r : Rlo) : rlR (l ++ [r]) = rlR l ++ rloR r := by simp [rlR]
theorem u8v (n : Nat) : IntKind.u8.wrap (n : Int) = ((UInt8.ofNat n).toNat : Nat) := by
 rw [u8n]; simp
theorem segR_len (l : List Seg) : (l.flatMap segR).length = 14 * l.length := by
 induction l with
 | nil => rfl
 | cons s l ih => rw [List.flatMap_cons, List.length_append, ih]; simp [segR]; omega
theorem plainL_bbL31 (L : List (List UInt8)) : AV.plainL (bbL L) = bbL L := by
 induction L with
 | nil => rfl
 | cons b L ih => rw [yj7]; simp [AV.plainL, AV.plain, ih]
end Go.AM
namespace Go.AM
open Go.RowKit Go.Proofs
set_option linter.unusedSimpArgs false
set_option linter.unusedVariables false
set_option maxHeartbeats 4000000
def findRFs : Code → List (Code × Code)
 | .rangeFunc _ _ a b => [(a, b)]
 | .seq x y => findRFs x ++ findRFs y
 | .cond _ x y => findRFs x ++ findRFs y
 | .block _ x => findRFs x
 | .loop x => findRFs x
 | .scope x => findRFs x
 | _ => []
def rfAn (f : Func) (k : Nat) : Code := (((f.body.map findRFs).getD [])[k]?.getD (.skip, .skip)).1
def rfBn (f : Func) (k : Nat) : Code := (((f.body.map findRFs).getD [])[k]?.getD (.skip, .skip)).2
theorem yb8 (m : Nat) : ∀ (a b : List AObj), yg9 m (a ++ b) = (yg9 m a && yg9 m b)
 | [], b => rfl
 | o :: a, b => by simp only [List.cons_append, yg9, yb8 m a b, Bool.and_assoc]
theorem numZ (z : Int) (n : Nat) (h0 : 0 ≤ z) (h1 : z ≤ 9223372036854775807) (hn : n ≤ 100) : Sound Try.prog 46 [.v (.int .i64 z), .v (.int .i64 n)] (.lst .any 1 (byL (numM n z.toNat))) := by
 have h := yq8 z.toNat n (by omega) hn
 rwa [show ((z.toNat : Nat) : Int) = z by omega] at h
theorem grp59_callW (t : List UInt8) (n : Nat) (h : List AObj) (hh : yg9 (h.length + 2) h = true) : wn9 Try.prog 59 [.lst .any 1 (byL t), .v (.int .i64 n)] h fun r h' => r = .fn (.func 88) [] [.loc h.length 0, .loc (h.length + 1) 0] ∧ h' = h ++ [.cells 27 [.lst .any 1 (byL t)], .cells 3 [.v (.int .i64 n)]] := by
 refine zk9 Try.func59 rfl (by decide +kernel) (by simp [Try.f59]) (rs := [.tmp 4]) rfl ?_
 rw [show Try.f59.ntmps = 6 from rfl]
 refine yt9 [2, 3] (by simp; rfl) ?_
 refine yt9 [4] (by simp; rfl) ?_
 refine zr9 ?_
 repeat (first | refine yl9 ?_ | refine yc9 ?_)
 refine ⟨.inr rfl, .fn (.func 88) [] [.loc h.length 0, .loc (h.length + 1) 0], .fn (.func 88) [] [.loc h.length 0, .loc (h.length + 1) 0], h ++ [.cells 27 [.lst .any 1 (byL t)], .cells 3 [.v (.int .i64 n)]], h.length + 2, by simp, .inl ⟨rfl, by simp⟩, by omega, by simp, by simp [AV.under, AV.underL], ?_, rfl, ?_⟩
 ·rw [List.take_of_length_le (by simp), yb8, hh]
  simp [yg9, AObj.under, AV.under, AV.underL]
 ·rw [List.take_of_length_le (by simp)]
theorem grp60_callW (t : List Rlo) (n : Nat) (h : List AObj) (hh : yg9 (h.length + 2) h = true) : wn9 Try.prog 60 [.lst .any 3 (rlL t), .v (.int .i64 n)] h fun r h' => r = .fn (.func 89) [] [.loc h.length 0, .loc (h.length + 1) 0] ∧ h' = h ++ [.cells 37 [.lst .any 3 (rlL t)], .cells 3 [.v (.int .i64 n)]] := by
 refine zk9 Try.func60 rfl (by decide +kernel) (by simp [Try.f60]) (rs := [.tmp 4]) rfl ?_
 rw [show Try.f60.ntmps = 6 from rfl]
 refine yt9 [2, 3] (by simp; rfl) ?_
 refine yt9 [4] (by simp; rfl) ?_
 refine zr9 ?_
 repeat (first | refine yl9 ?_ | refine yc9 ?_)
 have hu : AV.underL (h.length + 2) (rlL t) = true := by induction t <;> simp_all [rlL, AV.underL, AV.under]
 refine ⟨.inr rfl, .fn (.func 89) [] [.loc h.length 0, .loc (h.length + 1) 0], .fn (.func 89) [] [.loc h.length 0, .loc (h.length + 1) 0], h ++ [.cells 37 [.lst .any 3 (rlL t)], .cells 3 [.v (.int .i64 n)]], h.length + 2, by simp, .inl ⟨rfl, by simp⟩, by omega, by simp, by simp [AV.under, AV.underL], ?_, rfl, ?_⟩
 ·rw [List.take_of_length_le (by simp), yb8, hh]
  simp [yg9, AObj.under, AV.under, AV.underL, hu]
 ·rw [List.take_of_length_le (by simp)]
theorem rlL_take (l : List Rlo) (n : Nat) : rlL (l.take n) = (rlL l).take n := by simp [rlL]
theorem rlL_drop (l : List Rlo) (n : Nat) : rlL (l.drop n) = (rlL l).drop n := by simp [rlL]
theorem numM_one (v : Nat) : numM 1 v = [UInt8.ofNat v] := by
 simp only [numM, List.nil_append]
 congr 1
 apply UInt8.toNat.inj
 simp
theorem or128 {v : Nat} (h1 : 1 ≤ v) (h2 : v ≤ 4) : v ||| 128 = v + 128 := by
 obtain rfl | rfl | rfl | rfl : v = 1 ∨ v = 2 ∨ v = 3 ∨ v = 4 := by omega
 all_goals rfl
def OC (fl : Fl) : Prop := fl = .tip 27 218 ∨ fl = .tip 27 137 ∨ fl = .tip 27 199
def encR (m : LMod) : AV := if ckM m = true then .tup [.lst .any 1 (bbL (encL m)), .v (.int .i64 0)] else .tup [.lst .nil 1 [], .v (.int .i64 310)]
theorem encL_sound (m : LMod) (hl : m.seg.length ≤ 100000) (ht : m.text.length ≤ 50000000) (hrn : m.rel.length ≤ 1000000000) : Sound Try.prog 26 [lmA m] (encR m) := by
 refine yw8 Try.func26 rfl (by decide +kernel) (by simp [Try.f26]) rfl rfl (rs := [.tmp 2, .tmp 3]) rfl ?_
 rw [show Try.f26.ntmps = 114 from rfl]
 refine yt9 [1] (by simp; rfl) ?_
 refine yk9 ?_
 refine W_rK [1, 18] ?_
 refine yq9 1 (by simp; rfl) rfl ?_
 refine yj9 (by simp) (by first | (simp; done) | (simp; rfl)) (checkLoad_sound m hl (by omega) hrn) (by simp; rfl) ?_
 by_cases hck : ckM m = true
 rotate_left
 ·refine yr9 (by simp [hck]; rfl) ?_
  refine yd9 rfl (fun h => ?_) (fun h => by simp at h)
  refine yt9 [2, 3] (by simp; rfl) ?_
  refine zr9 ?_
  repeat (first | refine yl9 ?_ | refine yc9 ?_)
  refine ⟨_, by simp [retQ]; exact ⟨rfl, by simp [AV.rf, AV.rfL]⟩, .inl fun T => ?_⟩
  simp [encR, hck]
 have hk := ckM_ok hck (by omega)
 obtain ⟨he0, he1, hsg, hrl, hls, hlt, hlr⟩ := hk
 refine yr9 (by simp [hck]; rfl) ?_
 refine yd9 rfl (fun h => by simp at h) (fun h => ?_)
 refine yh9 ?_
 refine W_rdK [1, 4] mx (by decide +kernel) ?_
 refine yw9 3 (by simp [lmC]; rfl) rfl ?_
 refine yb9 (by simp) (by first | (simp; done) | (simp; rfl)) (numZ m.entry 4 he0 (by omega) (by omega)) (by simp; rfl) ?_
 refine yw9 3 (by simp [lmC]; rfl) rfl ?_
 refine yb9 (by simp) (by first | (simp; done) | (simp; rfl)) (yq8 m.seg.length 2 (by omega) (by omega)) (by simp; rfl) ?_
 refine yw9 1 (by simp [lmC]; rfl) rfl ?_
 have hc1 : Sound Try.prog 51 [.lst .any 1 [.lst .any 1 [.v (.int .u8 1)], .lst .any 1 (byL (numM 4 m.entry.toNat)), .lst .any 1 (byL (numM 2 m.seg.length))]] (.lst .any 1 (byL (zh7 m))) := by
  have h := zq8 [[1], numM 4 m.entry.toNat, numM 2 m.seg.length] (by simp [total]) (by simp)
  simpa [bbL, wt9, zh7, xc9] using h
 refine yb9 (by simp) (by first | (simp; done) | (simp; rfl)) hc1 (by simp; rfl) ?_
 refine yv9 (by simp; rfl) ?_
 refine xg9 (fun σ => σ = ⟨114, [(1, .loc 0 0), (4, .lst .any 1 (byL (zh7 m ++ m.seg.flatMap segR)))], [.cells 40 (lmC m)]⟩) ?_ ?_
 ·refine yt9 [1, 4, 30, 31, 32] (by simp [lmC]; rfl) ?_
  refine yf9 ?_
  refine zn9 (fun k σ => ∃ i : Nat, k = m.seg.length - i ∧ i ≤ m.seg.length ∧ σ = ⟨114, [(1, .loc 0 0), (4, .lst .any 1 (byL (zh7 m ++ (m.seg.take i).flatMap segR))), (30, .lst .any 4 (sgL m.seg)), (31, .v (.int .i64 (m.seg.length : Nat))), (32, .v (.int .i64 (i : Nat)))], [.cells 40 (lmC m)]⟩) (k := m.seg.length) ⟨0, rfl, by omega, by simp [lmC]⟩ ?_
  rintro k σ ⟨i, rfl, hi, rfl⟩
  by_cases c : i < m.seg.length
  ·have ci : (i : Int) < m.seg.length := by omega
   obtain ⟨s, hs⟩ : ∃ s, m.seg[i]? = some s := ⟨_, List.getElem?_eq_getElem c⟩
   have hs2 : m.seg[i]'c = s := by rw [List.getElem?_eq_getElem c] at hs; exact Option.some.inj hs
   obtain ⟨b1, b2, b3, b4, b5, b6, b7, b8⟩ := hsg s (List.mem_of_getElem? hs)
   have wi := w64 (n := (i : Int) + 1) (by omega) (by omega)
   have wp := w64 (n := s.par + 1) (by omega) (by omega)
   have htk : (m.seg.take (i + 1)).flatMap segR = (m.seg.take i).flatMap segR ++ segR s := by rw [List.take_add_one, hs]; simp
   obtain ⟨hd, hhd⟩ : ∃ hd, zh7 m ++ (m.seg.take i).flatMap segR = hd := ⟨_, rfl⟩
   have hhl : hd.length ≤ 1000 := by
    rw [← hhd, List.length_append, segR_len, List.length_take]
    simp [zh7]
    omega
   have hc2 : Sound Try.prog 51 [.lst .any 1 [.lst .any 1 (byL hd), .lst .any 1 (byL (numM 2 (s.par + 1).toNat)), .lst .any 1 (byL (numM 4 s.org.toNat)), .lst .any 1 (byL (numM 4 s.frm.toNat)), .lst .any 1 (byL (numM 4 s.len.toNat))]] (.lst .any 1 (byL (hd ++ segR s))) := by
    have h := zq8 [hd, numM 2 (s.par + 1).toNat, numM 4 s.org.toNat, numM 4 s.frm.toNat, numM 4 s.len.toNat] (by simp [total]; omega) (by simp)
    simpa [bbL, segR] using h
   refine yt9 [1, 4, 30, 31, 32, 33] (by simp [c]; rfl) ?_
   refine yk9 ?_
   refine yd9 rfl (fun h => ?_) (fun h => by simp at h)
   refine yh9 ?_
   refine yk9 ?_
   refine yf9 ?_
   rw [hhd]
   refine yt9 [1, 4, 30, 31, 32, 6] (by simp [c, ci, hs2, lmC, ys9, AV.weakL, AV.weak, AV.koneL, AV.kone]; rfl) ?_
   refine vh9 [1, 4, 30, 31, 32] mx (by decide +kernel) ?_
   refine yw9 4 (by simp [wp]; rfl) rfl ?_
   refine yb9 (by simp) (by first | (simp; done) | (simp; rfl)) (numZ (s.par + 1) 2 (by omega) (by omega) (by omega)) (by simp; rfl) ?_
   refine yw9 2 (by simp; rfl) rfl ?_
   refine yb9 (by simp) (by first | (simp; done) | (simp; rfl)) (numZ s.org 4 (by omega) (by omega) (by omega)) (by simp; rfl) ?_
   refine yw9 2 (by simp; rfl) rfl ?_
   refine yb9 (by simp) (by first | (simp; done) | (simp; rfl)) (numZ s.frm 4 (by omega) (by omega) (by omega)) (by simp; rfl) ?_
   refine yw9 2 (by simp; rfl) rfl ?_
   refine yb9 (by simp) (by first | (simp; done) | (simp; rfl)) (numZ s.len 4 (by omega) (by omega) (by omega)) (by simp; rfl) ?_
   refine yw9 1 (by simp; rfl) rfl ?_
   refine yb9 (by simp) (by first | (simp; done) | (simp; rfl)) hc2 (by simp; rfl) ?_
   refine yv9 (by simp; rfl) ?_
   refine xd9 1 (Nat.zero_le _) (by simp) (by simp [yn9, AV.under, AV.underL]) (by simp [yg9, AObj.under, lmC, AV.under, AV.underL]) ?_
   refine zs9 [1, 4, 30, 31, 32] (by simp [wi]; rfl) ?_
   refine ⟨_, by omega, i + 1, rfl, by omega, ?_⟩
   rw [htk, ← List.append_assoc, hhd]
   simp [lmC]
  have hie : i = m.seg.length := by omega
  refine yt9 [1, 4, 30, 31, 32, 33] (by simp [c]; rfl) ?_
  refine yk9 ?_
  refine yd9 rfl (fun h => by simp at h) (fun h => ?_)
  refine zt9 [1, 4] ?_
  refine zh9 ?_
  simp [yp9, hie, lmC]
 rintro _ rfl
 obtain ⟨H0, hH0⟩ : ∃ H0, zh7 m ++ m.seg.flatMap segR = H0 := ⟨_, rfl⟩
 rw [hH0]
 refine yt9 [1, 7] (by simp [ys9, AV.weakL, AV.weak, AV.koneL, AV.kone]; rfl) ?_
 refine yk9 ?_
 refine W_rK [1, 7, 57] ?_
 refine yq9 2 (by simp [lmC]; rfl) rfl ?_
 refine zg9 (f := 59) (args := [.lst .any 1 (byL m.text), .v (.int .i64 (1000 : Nat))]) (by simp) (by simp [zp9, zf9]) ((grp59_callW m.text 1000 _ ?_).mono ?_)
 ·simp [yg9, AObj.under, AV.under, AV.underL, lmC]
 rintro r h' ⟨rfl, rfl⟩
 refine ⟨_, by simp; rfl, ?_⟩
 refine yr9 (by simp; rfl) ?_
 refine yf9 ?_
 obtain ⟨R1, hR1⟩ : ∃ R1, [H0] ++ txtGo m.text m.text.length 0 = R1 := ⟨_, rfl⟩
 refine xp8 (Qc := fun _ h' => ∃ fl, OC fl ∧ R1.length ≤ 2 + m.text.length ∧ h' = [.cells 40 (lmC m), .cells 47 [.lst fl 1 (bbL R1)], .cells 27 [.lst .any 1 (byL m.text)], .cells 3 [.v (.int .i64 1000)], .loop 114 [(1, .loc 0 0), (7, .loc 1 0), (57, .fn (.func 88) [] [.loc 2 0, .loc 3 0])] [58, 59] (rfAn Try.f26 0) (rfBn Try.f26 0) .ready]) rfl ?_ ?_
 ·refine zk9 Try.func88 rfl (by decide +kernel) (by simp [Try.f88]) (rs := []) rfl ?_
  rw [show Try.f88.ntmps = 25 from rfl]
  refine yt9 [0, 1, 2, 4] (by simp; rfl) ?_
  refine yf9 ?_
  refine zn9 (fun k σ => ∃ (i f : Nat) (acc : List (List UInt8)) (fl : Fl), k = m.text.length - i ∧ m.text.length ≤ i + f ∧ i ≤ m.text.length + 1000 ∧ acc ++ txtGo m.text f i = R1 ∧ acc.length ≤ 1 + i ∧ (i ≤ m.text.length ∨ acc.length ≤ 2 + m.text.length) ∧ OC fl ∧ σ = ⟨25, [(0, .yld 4), (1, .loc 2 0), (2, .loc 3 0), (4, .v (.int .i64 (i : Nat)))], [.cells 40 (lmC m), .cells 47 [.lst fl 1 (bbL acc)], .cells 27 [.lst .any 1 (byL m.text)], .cells 3 [.v (.int .i64 1000)], .loop 114 [(1, .loc 0 0), (7, .loc 1 0), (57, .fn (.func 88) [] [.loc 2 0, .loc 3 0])] [58, 59] (rfAn Try.f26 0) (rfBn Try.f26 0) .ready]⟩) (k := m.text.length) ⟨0, m.text.length, [H0], .tip 27 218, rfl, by omega, by omega, hR1, by simp, by omega, .inl rfl, ?_⟩ ?_
  ·simp [AV.weak, lmC, bbL]
   first | exact ⟨rfl, rfl⟩ | exact rfl | (refine ⟨rfl, rfl, ?_⟩; rfl)
  rintro k σ ⟨i, f, acc, fl, rfl, hf, hi, hgo, hal, har, hfl, rfl⟩
  refine yk9 ?_
  by_cases c : i < m.text.length
  ·have ci : (i : Int) < m.text.length := by omega
   have wi := w64 (n := (i : Int) + 1000) (by omega) (by omega)
   have qa : acc.length ≤ 140737488355327 := by omega
   have qa2 : (acc.length + 1) * 24 ≤ 140737488355328 := by omega
   cases f with
   | zero => omega
   | succ f =>
   rw [txtGo, if_pos c] at hgo
   obtain ⟨e, he⟩ : ∃ e, min (i + 1000) m.text.length = e := ⟨_, rfl⟩
   have hmin : (if (m.text.length : Int) < (i : Int) + 1000 then (m.text.length : Int) else (i : Int) + 1000) = (e : Nat) := by split <;> omega
   have hdt : (m.text.take e).drop i = (m.text.drop i).take 1000 := by rw [← he]; exact dropmin _ _ _
   have e1 : i ≤ e := by omega
   have e2 : e ≤ m.text.length := by omega
   have e1' : (i : Int) ≤ (e : Nat) := by omega
   have e2' : ((e : Nat) : Int) ≤ m.text.length := by omega
   obtain ⟨ck, hck2⟩ : ∃ ck, (m.text.drop i).take 1000 = ck := ⟨_, rfl⟩
   have hckl : ck.length ≤ 1000 := by rw [← hck2, List.length_take]; omega
   rw [hck2] at hdt hgo
   have hc3 : Sound Try.prog 51 [.lst .any 1 [.lst .any 1 [.v (.int .u8 2)], .lst .any 1 (byL (numM 4 i)), .lst .any 1 (byL ck)]] (.lst .any 1 (byL (2 :: (numM 4 i ++ ck)))) := by
    have h := zq8 [[2], numM 4 i, ck] (by simp [total]; omega) (by simp)
    simpa [bbL, wt9, xc9] using h
   refine W_cT [0, 1, 2, 4, 8] (by simp [c]; rfl) rfl ?_
   refine yh9 ?_
   refine yk9 ?_
   refine yf9 ?_
   refine W_rK [0, 1, 2, 4, 24] ?_
   refine yq9 6 (by simp [wi]; rfl) rfl ?_
   refine yq9 4 (by simp [wi, hmin]; rfl) rfl ?_
   refine yq9 1 (by simp [e1, e2, e1', e2']; rfl) rfl ?_
   rw [← xw9, ← xp9, hdt]
   refine runA_y (by simp) ?_
   unfold callY
   dsimp only
   refine ⟨4, 114, _, _, _, _, [.v (.int .i64 (i : Nat)), .lst .any 1 (byL ck)], by simp, rfl, by simp, by simp, by simp, by simp, ?_⟩
   refine (show Wt _ _ _ _ _ _ from ?_)
   refine yt9 [1, 7, 59, 8] (by simp [setF]; rfl) ?_
   refine zs9 [1, 7, 8, 9] (by simp; rfl) ?_
   refine ⟨rfl, _, _, _, _, _, rfl, ?_⟩
   refine yf9 ?_
   have hu : bbL (acc ++ [2 :: (numM 4 i ++ ck)]) = bbL acc ++ [.lst .any 1 (byL (2 :: (numM 4 i ++ ck)))] := by simp [ys8, yj7]
   rcases hfl with rfl | rfl | rfl
   all_goals
    refine vh9 [1] mx (by decide +kernel) ?_
    refine yw9 3 (by simp; rfl) rfl ?_
    refine yb9 (by simp) (by first | (simp; done) | (simp; rfl)) (yq8 i 4 (by omega) (by omega)) (by simp; rfl) ?_
    refine yw9 2 (by simp; rfl) rfl ?_
    refine yb9 (by simp) (by first | (simp; done) | (simp; rfl)) hc3 (by simp; rfl) ?_
    refine yv9 (by simp [ys9, catK, AV.cellsK, AV.kone, AV.koneL, qa, qa2]; rfl) ?_
    refine ⟨114, _, _, _, _, .ready, true, 5, rfl, rfl, by simp, by simp, ?_, ?_⟩
    ·simp [yg9, yn9, AObj.under, AV.under, AV.underL, lmC]
    refine ⟨_, by simp; rfl, ?_⟩
    refine yr9 (by simp; rfl) ?_
    refine yd9 rfl (fun h => by simp at h) (fun h => ?_)
    refine yh9 ?_
    refine zs9 [0, 1, 2, 4] (by simp [wi]; rfl) ?_
    first
     | (refine ⟨_, by omega, i + 1000, f, acc ++ [2 :: (numM 4 i ++ ck)], .tip 27 137, rfl, by omega, by omega, by simpa using hgo, by simp; omega, by simp; omega, .inr (.inl rfl), ?_⟩; simp [hu, lmC]; done)
     | (refine ⟨_, by omega, i + 1000, f, acc ++ [2 :: (numM 4 i ++ ck)], .tip 27 199, rfl, by omega, by omega, by simpa using hgo, by simp; omega, by simp; omega, .inr (.inr rfl), ?_⟩; simp [hu, lmC]; done)
  rw [txtGo_end _ _ (by omega), List.append_nil] at hgo
  subst hgo
  refine W_cF [0, 1, 2, 4, 8] (by simp [c]; rfl) rfl ?_
  refine zh9 ?_
  refine ⟨.inl rfl, .tup [], .tup [], _, 5, rfl, .inl ⟨rfl, rfl⟩, by simp, by simp, rfl, ?_, ?_⟩
  ·simp [yg9, yn9, AObj.under, AV.under, AV.underL, lmC]
  ·exact ⟨fl, hfl, by omega, by simp⟩
 rintro _ _ ⟨fl0, hfl0, hR1l, rfl⟩
 refine ⟨114, _, _, _, _, .ready, rfl, ?_⟩
 refine (show Wt true 0 Try.prog _ _ _ from ?_)
 refine zt9 [1, 7] ?_
 refine xd9 2 (Nat.zero_le _) (by simp) (by simp [yn9, AV.under, AV.underL]) (by simp [yg9, AObj.under, lmC, AV.under, AV.underL]) ?_
 obtain ⟨R2, hR2⟩ : ∃ R2, R1 ++ rloGo m.rel m.rel.length 0 = R2 := ⟨_, rfl⟩
 have hcall : ∀ fl0, OC fl0 → wn9 Try.prog 89 [.yld 4, .loc 2 0, .loc 3 0] [.cells 40 (lmC m), .cells 47 [.lst fl0 1 (bbL R1)], .cells 37 [.lst .any 3 (rlL m.rel)], .cells 3 [.v (.int .i64 200)], .loop 114 [(1, .loc 0 0), (7, .loc 1 0), (71, .fn (.func 89) [] [.loc 2 0, .loc 3 0])] [72, 73] (rfAn Try.f26 1) (rfBn Try.f26 1) .ready] (fun _ h' => ∃ fl, OC fl ∧ R2.length ≤ 1000020000 ∧ h' = [.cells 40 (lmC m), .cells 47 [.lst fl 1 (bbL R2)], .cells 37 [.lst .any 3 (rlL m.rel)], .cells 3 [.v (.int .i64 200)], .loop 114 [(1, .loc 0 0), (7, .loc 1 0), (71, .fn (.func 89) [] [.loc 2 0, .loc 3 0])] [72, 73] (rfAn Try.f26 1) (rfBn Try.f26 1) .ready]) := by
  intro fl0 hfl0
  refine zk9 Try.func89 rfl (by decide +kernel) (by simp [Try.f89]) (rs := []) rfl ?_
  rw [show Try.f89.ntmps = 25 from rfl]
  refine yt9 [0, 1, 2, 4] (by simp; rfl) ?_
  refine yf9 ?_
  refine zn9 (fun k σ => ∃ (i f : Nat) (acc : List (List UInt8)) (fl : Fl), k = m.rel.length - i ∧ m.rel.length ≤ i + f ∧ i ≤ m.rel.length + 200 ∧ acc ++ rloGo m.rel f i = R2 ∧ acc.length ≤ R1.length + i ∧ OC fl ∧ σ = ⟨25, [(0, .yld 4), (1, .loc 2 0), (2, .loc 3 0), (4, .v (.int .i64 (i : Nat)))], [.cells 40 (lmC m), .cells 47 [.lst fl 1 (bbL acc)], .cells 37 [.lst .any 3 (rlL m.rel)], .cells 3 [.v (.int .i64 200)], .loop 114 [(1, .loc 0 0), (7, .loc 1 0), (71, .fn (.func 89) [] [.loc 2 0, .loc 3 0])] [72, 73] (rfAn Try.f26 1) (rfBn Try.f26 1) .ready]⟩) (k := m.rel.length) ⟨0, m.rel.length, R1, fl0, rfl, by omega, by omega, hR2, by simp, hfl0, ?_⟩ ?_
  ·simp
  rintro k σ ⟨i, f, acc, fl, rfl, hf, hi, hgo, hal, hfl, rfl⟩
  refine yk9 ?_
  by_cases c : i < m.rel.length
  ·have ci : (i : Int) < m.rel.length := by omega
   have wi := w64 (n := (i : Int) + 200) (by omega) (by omega)
   have qa : acc.length ≤ 140737488355327 := by omega
   have qa2 : (acc.length + 1) * 24 ≤ 140737488355328 := by omega
   cases f with
   | zero => omega
   | succ f =>
   rw [rloGo, if_pos c] at hgo
   obtain ⟨e, he⟩ : ∃ e, min (i + 200) m.rel.length = e := ⟨_, rfl⟩
   have hmin : (if (m.rel.length : Int) < (i : Int) + 200 then (m.rel.length : Int) else (i : Int) + 200) = (e : Nat) := by split <;> omega
   have hdt : (m.rel.take e).drop i = (m.rel.drop i).take 200 := by rw [← he]; exact dropmin _ _ _
   have e1 : i ≤ e := by omega
   have e2 : e ≤ m.rel.length := by omega
   have e1' : (i : Int) ≤ (e : Nat) := by omega
   have e2' : ((e : Nat) : Int) ≤ m.rel.length := by omega
   obtain ⟨G, hG⟩ : ∃ G, (m.rel.drop i).take 200 = G := ⟨_, rfl⟩
   have hGl : G.length ≤ 200 := by rw [← hG, List.length_take]; omega
   have hG0 : 0 < G.length := by rw [← hG, List.length_take, List.length_drop]; omega
   have hGm : ∀ r ∈ G, 0 ≤ r.at_ ∧ r.at_ ≤ 1000000000000 ∧ 1 ≤ r.len ∧ r.len ≤ 4 := fun r hr => hrl r (by rw [← hG] at hr; exact List.mem_of_mem_drop (List.mem_of_mem_take hr))
   rw [hG] at hdt hgo
   refine W_cT [0, 1, 2, 4, 8] (by simp [c]; rfl) rfl ?_
   refine yh9 ?_
   refine yk9 ?_
   refine yf9 ?_
   refine W_rK [0, 1, 2, 4, 24] ?_
   refine yq9 6 (by simp [wi]; rfl) rfl ?_
   refine yq9 4 (by simp [wi, hmin]; rfl) rfl ?_
   refine yq9 1 (by simp [e1, e2, e1', e2']; rfl) rfl ?_
   rw [← rlL_take, ← rlL_drop, hdt]
   refine runA_y (by simp) ?_
   unfold callY
   dsimp only
   refine ⟨4, 114, _, _, _, _, [.v (.int .i64 (i : Nat)), .lst .any 3 (rlL G)], by simp, rfl, by simp, by simp, by simp, by simp, ?_⟩
   refine (show Wt _ _ _ _ _ _ from ?_)
   refine zs9 [1, 7, 11] (by simp [setF]; rfl) ?_
   refine ⟨rfl, _, _, _, _, _, rfl, ?_⟩
   refine yf9 ?_
   refine yt9 [1, 7, 11, 12] (by simp; rfl) ?_
   refine xg9 (fun σ => σ = ⟨114, [(1, .loc 0 0), (7, .loc 1 0), (12, .lst .any 1 (byL (rlR G)))], [.cells 40 (lmC m), .cells 47 [.lst fl 1 (bbL acc)], .cells 37 [.lst .any 3 (rlL m.rel)], .cells 3 [.v (.int .i64 200)], .loop 114 [(1, .loc 0 0), (7, .loc 1 0), (71, .fn (.func 89) [] [.loc 2 0, .loc 3 0])] [72, 73] (rfAn Try.f26 1) (rfBn Try.f26 1) .busy]⟩) ?_ ?_
   ·refine yt9 [1, 7, 12, 75, 76, 77] (by simp; rfl) ?_
    refine yf9 ?_
    refine zn9 (fun k σ => ∃ (j : Nat) (g : Fl), k = G.length - j ∧ j ≤ G.length ∧ ((j = 0 ∧ g = .tip 5 298) ∨ (0 < j ∧ g = .any)) ∧ σ = ⟨114, [(1, .loc 0 0), (7, .loc 1 0), (12, .lst g 1 (byL (rlR (G.take j)))), (75, .lst .any 3 (rlL G)), (76, .v (.int .i64 (G.length : Nat))), (77, .v (.int .i64 (j : Nat)))], [.cells 40 (lmC m), .cells 47 [.lst fl 1 (bbL acc)], .cells 37 [.lst .any 3 (rlL m.rel)], .cells 3 [.v (.int .i64 200)], .loop 114 [(1, .loc 0 0), (7, .loc 1 0), (71, .fn (.func 89) [] [.loc 2 0, .loc 3 0])] [72, 73] (rfAn Try.f26 1) (rfBn Try.f26 1) .busy]⟩) (k := G.length) ⟨0, .tip 5 298, rfl, by omega, .inl ⟨rfl, rfl⟩, by simp [rlR, wt9]⟩ ?_
    rintro k σ ⟨j, g, rfl, hj, hg, rfl⟩
    by_cases c2 : j < G.length
    ·have cj : (j : Int) < G.length := by omega
     obtain ⟨r, hr⟩ : ∃ r, G[j]? = some r := ⟨_, List.getElem?_eq_getElem c2⟩
     have hr2 : G[j]'c2 = r := by rw [List.getElem?_eq_getElem c2] at hr; exact Option.some.inj hr
     obtain ⟨b1, b2, b3, b4⟩ := hGm r (List.mem_of_getElem? hr)
     have wj := w64 (n := (j : Int) + 1) (by omega) (by omega)
     have htk : rlR (G.take (j + 1)) = rlR (G.take j) ++ rloR r := by
      rw [List.take_add_one, hr]
      exact rlR_snoc _ _
     obtain ⟨L, hL⟩ : ∃ L, rlR (G.take j) = L := ⟨_, rfl⟩
     have hLl : L.length ≤ 1001 := by rw [← hL, rlR_len, List.length_take]; omega
     rw [hL] at htk ⊢
     obtain ⟨v0, hv0⟩ : ∃ v0 : Nat, r.len = v0 := ⟨r.len.toNat, by omega⟩
     obtain ⟨v, hv⟩ : ∃ v, r.len.toNat + (if r.neg = true then 128 else 0) = v := ⟨_, rfl⟩
     have hvl : v ≤ 132 := by rw [← hv]; split <;> omega
     have hc4 : Sound Try.prog 51 [.lst .any 1 [.lst .any 1 (byL L), .lst .any 1 (byL (numM 4 r.at_.toNat)), .lst .any 1 (byL (numM 1 v))]] (.lst .any 1 (byL (L ++ rloR r))) := by
      have h := zq8 [L, numM 4 r.at_.toNat, numM 1 v] (by simp [total]; omega) (by simp)
      simpa [bbL, numM_one, rloR, hv] using h
     refine yt9 [1, 7, 12, 75, 76, 77, 78] (by simp [c2]; rfl) ?_
     refine yk9 ?_
     refine yd9 rfl (fun h => ?_) (fun h => by simp at h)
     refine yh9 ?_
     refine yk9 ?_
     refine yf9 ?_
     refine yt9 [1, 7, 12, 75, 76, 77, 14] (by simp [c2, cj, hr2, ys9, AV.weakL, AV.weak, AV.koneL, AV.kone]; rfl) ?_
     refine yt9 [1, 7, 12, 75, 76, 77, 14, 15] (by simp; rfl) ?_
     refine xg9 (fun σ => σ = ⟨114, [(1, .loc 0 0), (7, .loc 1 0), (12, .lst g 1 (byL L)), (75, .lst .any 3 (rlL G)), (76, .v (.int .i64 (G.length : Nat))), (77, .v (.int .i64 (j : Nat))), (14, .loc 5 0), (15, .v (.int .i64 (v : Nat)))], [.cells 40 (lmC m), .cells 47 [.lst fl 1 (bbL acc)], .cells 37 [.lst .any 3 (rlL m.rel)], .cells 3 [.v (.int .i64 200)], .loop 114 [(1, .loc 0 0), (7, .loc 1 0), (71, .fn (.func 89) [] [.loc 2 0, .loc 3 0])] [72, 73] (rfAn Try.f26 1) (rfBn Try.f26 1) .busy, .cells 85 [.v (.int .i64 r.at_), .v (.int .i64 r.len), .v (.bool r.neg)]]⟩) ?_ ?_
     ·by_cases hn : r.neg = true
      ·have hor : bitsA .or .i64 (v0 : Int) 128 = some (.v (.int .i64 (v : Nat))) := by
        have h := orA v0 128 (by omega) (by omega) (by rw [or128 (by omega) (by omega)]; omega)
        rw [or128 (by omega) (by omega)] at h
        rw [show v = v0 + 128 by rw [← hv, if_pos hn]; omega]
        exact h
       refine W_cT [1, 7, 12, 75, 76, 77, 14, 15, 84] (by simp [hn]; rfl) rfl ?_
       refine zs9 [1, 7, 12, 75, 76, 77, 14, 15] (by simp [hv0, hor]; rfl) ?_
       simp [yp9, lmC, hn, hv0]
      ·have hnf : r.neg = false := by simpa using hn
       have hvz : r.len = (v : Int) := by rw [← hv, if_neg hn]; omega
       refine W_cF [1, 7, 12, 75, 76, 77, 14, 15, 84] (by simp [hnf]; rfl) rfl ?_
       refine zt9 [1, 7, 12, 75, 76, 77, 14, 15] ?_
       refine yh9 ?_
       simp [yp9, lmC, hvz, hnf]
     rintro _ rfl
     refine W_thenC (fun σ => σ = ⟨114, [(1, .loc 0 0), (7, .loc 1 0), (12, .lst .any 1 (byL (L ++ rloR r))), (75, .lst .any 3 (rlL G)), (76, .v (.int .i64 (G.length : Nat))), (77, .v (.int .i64 (j : Nat)))], [.cells 40 (lmC m), .cells 47 [.lst fl 1 (bbL acc)], .cells 37 [.lst .any 3 (rlL m.rel)], .cells 3 [.v (.int .i64 200)], .loop 114 [(1, .loc 0 0), (7, .loc 1 0), (71, .fn (.func 89) [] [.loc 2 0, .loc 3 0])] [72, 73] (rfAn Try.f26 1) (rfBn Try.f26 1) .busy, .cells 85 [.v (.int .i64 r.at_), .v (.int .i64 r.len), .v (.bool r.neg)]]⟩) ?_ ?_
     ·rcases hg with ⟨_, rfl⟩ | ⟨_, rfl⟩
      all_goals
       rcases hfl with rfl | rfl | rfl
      all_goals
       refine W_rE [1, 7, 12, 75, 76, 77] ?_
       refine yq9 3 (by simp; rfl) rfl ?_
       refine yj9 (by simp) (by first | (simp; done) | (simp; rfl)) (numZ r.at_ 4 (by omega) (by omega) (by omega)) (by simp; rfl) ?_
       refine yq9 1 (by simp; rfl) rfl ?_
       refine yj9 (by simp) (by first | (simp; done) | (simp; rfl)) (yq8 v 1 (by omega) (by omega)) (by simp; rfl) ?_
       refine yq9 1 (by simp; rfl) rfl ?_
       refine yj9 (by simp) (by first | (simp; done) | (simp; rfl)) hc4 (by simp; rfl) ?_
       refine yr9 (by simp; rfl) ?_
       simp [yp9, lmC]
     rintro _ rfl
     refine xd9 5 (by simp) (by simp) (by simp [yn9, AV.under, AV.underL]) (by simp [yg9, yn9, AObj.under, lmC, AV.under, AV.underL]) ?_
     refine zs9 [1, 7, 12, 75, 76, 77] (by simp [wj]; rfl) ?_
     exact ⟨_, by omega, j + 1, .any, rfl, by omega, .inr ⟨by omega, rfl⟩, by rw [htk]; simp⟩
    ·have hje : j = G.length := by omega
     obtain rfl : g = .any := by rcases hg with ⟨h0, _⟩ | ⟨_, h0⟩ <;> first | omega | exact h0
     refine yt9 [1, 7, 12, 75, 76, 77, 78] (by simp [c2]; rfl) ?_
     refine yk9 ?_
     refine yd9 rfl (fun h => by simp at h) (fun h => ?_)
     refine zt9 [1, 7, 12] ?_
     refine zh9 ?_
     simp [yp9, hje]
   rintro _ rfl
   have hu : bbL (acc ++ [rlR G]) = bbL acc ++ [.lst .any 1 (byL (rlR G))] := by simp [ys8, yj7]
   rcases hfl with rfl | rfl | rfl
   all_goals
    refine zs9 [1] (by simp [ys9, catK, AV.cellsK, AV.kone, AV.koneL, qa, qa2]; rfl) ?_
    refine ⟨114, _, _, _, _, .ready, true, 5, rfl, rfl, by simp, by simp, ?_, ?_⟩
    ·simp [yg9, yn9, AObj.under, AV.under, AV.underL, lmC]
    refine ⟨_, by simp; rfl, ?_⟩
    refine yr9 (by simp; rfl) ?_
    refine yd9 rfl (fun h => by simp at h) (fun h => ?_)
    refine yh9 ?_
    refine zs9 [0, 1, 2, 4] (by simp [wi]; rfl) ?_
    first
     | (refine ⟨_, by omega, i + 200, f, acc ++ [rlR G], .tip 27 137, rfl, by omega, by omega, by simpa using hgo, by simp; omega, .inr (.inl rfl), ?_⟩; simp [hu, lmC]; done)
     | (refine ⟨_, by omega, i + 200, f, acc ++ [rlR G], .tip 27 199, rfl, by omega, by omega, by simpa using hgo, by simp; omega, .inr (.inr rfl), ?_⟩; simp [hu, lmC]; done)
  rw [rloGo_end _ _ (by omega), List.append_nil] at hgo
  subst hgo
  refine W_cF [0, 1, 2, 4, 8] (by simp [c]; rfl) rfl ?_
  refine zh9 ?_
  refine ⟨.inl rfl, .tup [], .tup [], _, 5, rfl, .inl ⟨rfl, rfl⟩, by simp, by simp, rfl, ?_, ?_⟩
  ·simp [yg9, yn9, AObj.under, AV.under, AV.underL, lmC]
  ·exact ⟨fl, hfl, by omega, by simp⟩
 rcases hfl0 with rfl | rfl | rfl
 all_goals
  refine yk9 ?_
  refine W_rK [1, 7, 71] ?_
  refine yq9 2 (by simp [lmC]; rfl) rfl ?_
  refine zg9 (f := 60) (args := [.lst .any 3 (rlL m.rel), .v (.int .i64 (200 : Nat))]) (by simp) (by simp [zp9, zf9]) ((grp60_callW m.rel 200 _ ?_).mono ?_)
  ·simp [yg9, AObj.under, AV.under, AV.underL, lmC]
  rintro r h' ⟨rfl, rfl⟩
  refine ⟨_, by simp; rfl, ?_⟩
  refine yr9 (by simp; rfl) ?_
  refine yf9 ?_
  refine xp8 (Qc := fun _ h' => ∃ fl, OC fl ∧ R2.length ≤ 1000020000 ∧ h' = [.cells 40 (lmC m), .cells 47 [.lst fl 1 (bbL R2)], .cells 37 [.lst .any 3 (rlL m.rel)], .cells 3 [.v (.int .i64 200)], .loop 114 [(1, .loc 0 0), (7, .loc 1 0), (71, .fn (.func 89) [] [.loc 2 0, .loc 3 0])] [72, 73] (rfAn Try.f26 1) (rfBn Try.f26 1) .ready]) rfl (by first | exact hcall _ (.inl rfl) | exact hcall _ (.inr (.inl rfl)) | exact hcall _ (.inr (.inr rfl))) ?_
  rintro _ _ ⟨fl, hfl, hR2l, rfl⟩
  refine ⟨114, _, _, _, _, .ready, rfl, ?_⟩
  refine (show Wt true 0 Try.prog _ _ _ from ?_)
  refine zt9 [1, 7] ?_
  refine xd9 2 (Nat.zero_le _) (by simp) (by simp [yn9, AV.under, AV.underL]) (by simp [yg9, AObj.under, lmC, AV.under, AV.underL]) ?_
  have qe : R2.length ≤ 140737488355327 := by omega
  have qe2 : (R2.length + 1) * 24 ≤ 140737488355328 := by omega
  have hc5 : Sound Try.prog 51 [.lst .any 1 [.lst .any 1 [.v (.int .u8 4)], .lst .any 1 (byL (numM 4 m.text.length)), .lst .any 1 (byL (numM 4 m.rel.length))]] (.lst .any 1 (byL (endR m))) := by
   have h := zq8 [[4], numM 4 m.text.length, numM 4 m.rel.length] (by simp [total]) (by simp)
   simpa [bbL, wt9, xc9, endR] using h
  have henc : encL m = R2 ++ [endR m] := by rw [encL, hH0, ← hR2, ← hR1]; simp
  have hrow : bbL R2 ++ [.lst .any 1 (byL (endR m))] = bbL (R2 ++ [endR m]) := by simp [ys8, yj7]
  rcases hfl with rfl | rfl | rfl
  all_goals
   refine W_rdK [2, 3] mx (by decide +kernel) ?_
   refine yw9 5 (by simp [lmC]; rfl) rfl ?_
   refine yb9 (by simp) (by first | (simp; done) | (simp; rfl)) (yq8 m.text.length 4 (by omega) (by omega)) (by simp; rfl) ?_
   refine yw9 3 (by simp [lmC]; rfl) rfl ?_
   refine yb9 (by simp) (by first | (simp; done) | (simp; rfl)) (yq8 m.rel.length 4 (by omega) (by omega)) (by simp; rfl) ?_
   refine yw9 1 (by simp; rfl) rfl ?_
   refine yb9 (by simp) (by first | (simp; done) | (simp; rfl)) hc5 (by simp; rfl) ?_
   refine yv9 (by simp [ys9, catK, AV.cellsK, AV.kone, AV.koneL, qe, qe2]; rfl) ?_
   refine zr9 ?_
   repeat (first | refine yl9 ?_ | refine yc9 ?_)
   rw [hrow]
   refine ⟨_, by simp [retQ]; exact ⟨rfl, by simp [AV.rf, AV.rfL]⟩, .inr ?_⟩
   simp [AV.plain, AV.plainL, plainL_bbL31, encR, hck, henc]
end Go.AM
