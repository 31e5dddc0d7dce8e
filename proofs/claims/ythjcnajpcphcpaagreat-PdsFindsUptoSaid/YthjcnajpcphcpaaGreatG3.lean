/- Parts of the walk: R22PB R22PC R22R R22S R22U R22L R23A R23B. -/
import Derived.Test.YthjcnajpcphcpaaGreatG2
namespace Go.AM
open Go.RowKit Go.Proofs
set_option linter.unusedSimpArgs false
set_option linter.unusedVariables false
set_option maxHeartbeats 1000000
set_option maxRecDepth 20000
end Go.AM
namespace Go.AM
open Go.RowKit Go.Proofs
set_option linter.unusedSimpArgs false
set_option linter.unusedVariables false
set_option maxHeartbeats 1000000
set_option maxRecDepth 20000
end Go.AM
namespace Go.AM
open Go.RowKit Go.Proofs
set_option linter.unusedSimpArgs false
set_option linter.unusedVariables false
set_option maxHeartbeats 1000000
set_option maxRecDepth 20000
end Go.AM
namespace Go.AM
open Go.RowKit Go.Proofs
set_option linter.unusedSimpArgs false
set_option linter.unusedVariables false
set_option maxHeartbeats 1000000
set_option maxRecDepth 20000
end Go.AM
namespace Go.AM
open Go.RowKit Go.Proofs
set_option linter.unusedSimpArgs false
set_option linter.unusedVariables false
set_option maxHeartbeats 1000000
set_option maxRecDepth 20000
theorem W_any {top : Bool} {kf : Nat} {P : Program} {code : Code} {Q : Exit → St → Prop} {s : St} (i : Nat) {o : Fl} {sz : Nat} {xs : List AV} (hg : getF s.fr i = some (.lst o sz xs)) (h : Wt top kf P code Q ⟨s.n, putF s.fr i (.lst .any sz xs), s.h⟩) : Wt top kf P code Q s := by
 refine W_conv (fun c w a hs => ?_) h
 obtain ⟨u, hu, hr, _⟩ := hs.fr i _ hg
 exact putF_sim hs i hu (hr.lst_flag fun _ => trivial) (.none rfl)
end Go.AM
namespace Go.AM
open Go.RowKit Go.Proofs
set_option linter.unusedSimpArgs false
set_option linter.unusedVariables false
set_option maxHeartbeats 1000000
set_option maxRecDepth 20000
set_option maxHeartbeats 1000000
@[simp] theorem bytesA_byL (l : List UInt8) : bytesA (byL l) = some l := by
 induction l with
 | nil => rfl
 | cons b l ih => rw [xq9]; simp [bytesA, ih]
theorem ne_nat (n m : Nat) : ((n : Int) != (m : Int)) = !decide (n = m) := by
 rw [Bool.eq_iff_iff]; simp; omega
theorem vp9 {α : Type} {a b : List α} {i : Nat} {x : α} (ha : a[i]? = some x) (hb : b[i]? = some x) (h : a.take i = b.take i) : a.take (i + 1) = b.take (i + 1) := by
 rw [List.take_add_one, List.take_add_one, ha, hb, h]
end Go.AM
namespace Go.AM
open Go.RowKit Go.Proofs
set_option linter.unusedSimpArgs false
set_option linter.unusedVariables false
set_option maxHeartbeats 1000000
set_option maxRecDepth 20000
structure Rec where
 R : Int
 key : List UInt8
 data : List UInt8
 bad : Bool
 deriving DecidableEq
@[simp] def recA (r : Rec) : AV := .agg [.v (.int .i64 r.R), .lst .any 1 (byL r.key), .lst .any 1 (byL r.data), .v (.bool r.bad)]
def trL (t : List Rec) : List AV := t.map recA
@[simp] theorem trL_length (L : List Rec) : (trL L).length = L.length := by simp [trL]
@[simp] theorem trL_nil : trL [] = [] := rfl
theorem trL_cons (b : Rec) (L : List Rec) : trL (b :: L) = recA b :: trL L := rfl
theorem trL_append (L M : List Rec) : trL (L ++ M) = trL L ++ trL M := by simp [trL]
theorem trL_drop (L : List Rec) (n : Nat) : trL (L.drop n) = (trL L).drop n := by simp [trL]
theorem trL_get (L : List Rec) (i : Nat) : (trL L)[i]? = (L[i]?).map recA := by simp [trL]
@[simp] theorem trL_getElem (L : List Rec) (i : Nat) (h : i < (trL L).length) : (trL L)[i] = recA (L[i]'(by simpa using h)) := by simp [trL]
@[simp] theorem dpL_trL (L : List Rec) : AV.dpL (trL L) = trL L := by induction L <;> simp_all [trL, AV.dpL, AV.dp]
def arL (a : List (List Rec)) : List AV := a.map fun t => .lst .any 4 (trL t)
@[simp] theorem arL_length (L : List (List Rec)) : (arL L).length = L.length := by simp [arL]
@[simp] theorem arL_nil : arL [] = [] := rfl
theorem arL_append (L M : List (List Rec)) : arL (L ++ M) = arL L ++ arL M := by simp [arL]
theorem arL_take (L : List (List Rec)) (n : Nat) : arL (L.take n) = (arL L).take n := by simp [arL]
theorem arL_drop (L : List (List Rec)) (n : Nat) : arL (L.drop n) = (arL L).drop n := by simp [arL]
@[simp] theorem arL_getElem (L : List (List Rec)) (i : Nat) (h : i < (arL L).length) : (arL L)[i] = .lst .any 4 (trL (L[i]'(by simpa using h))) := by simp [arL]
@[simp] theorem rfL_arL (L : List (List Rec)) : AV.rfL (arL L) = true := by induction L <;> simp_all [arL, AV.rfL, AV.rf]
@[simp] theorem weakL_arL (L : List (List Rec)) : AV.weakL (arL L) = arL L := by induction L <;> simp_all [arL, AV.weakL, AV.weak]
@[simp] theorem dpL_arL (L : List (List Rec)) : AV.dpL (arL L) = arL L := by induction L <;> simp_all [arL, AV.dpL, AV.dp]
@[simp] theorem koneL_arL (L : List (List Rec)) : AV.koneL (arL L) = true := by induction L <;> simp_all [arL, AV.koneL, AV.kone]
def findRF : Code → Option (Code × Code)
 | .rangeFunc _ _ a b => some (a, b)
 | .seq x y => match findRF x with
  | some r => some r
  | none => findRF y
 | .cond _ x y => match findRF x with
  | some r => some r
  | none => findRF y
 | .block _ x => findRF x
 | .loop x => findRF x
 | .scope x => findRF x
 | _ => none
def rfA (f : Func) : Code := ((f.body.bind findRF).getD (.skip, .skip)).1
def rfB (f : Func) : Code := ((f.body.bind findRF).getD (.skip, .skip)).2
def kw9 (r : Rec) : Nat := 32 + r.data.length + (if r.key = [] then 0 else 16 + r.key.length)
def recSm (r : Rec) : Prop := r.key.length ≤ 1000000000 ∧ r.data.length ≤ 1000000000
theorem costM_le {r : Rec} (h : recSm r) : kw9 r ≤ 3000000000 := by unfold kw9; obtain ⟨h1, h2⟩ := h; split <;> omega
theorem cost_sound (r : Rec) (h : recSm r) : Sound Tryz.prog 113 [recA r] (.v (.int .i64 (kw9 r : Nat))) := by
 refine yc9 Tryz.func113 rfl (by decide +kernel) (by simp [Tryz.f113]) rfl rfl (rs := [.tmp 2]) rfl ?_
 rw [show Tryz.f113.ntmps = 20 from rfl]
 obtain ⟨h1, h2⟩ := h
 have w1 : IntKind.i64.wrap (32 + (r.data.length : Int)) = ((32 + r.data.length : Nat) : Int) := by rw [w64 (by omega) (by omega)]; omega
 have w2 : IntKind.i64.wrap (((32 + r.data.length : Nat) : Int) + 16) = ((32 + r.data.length + 16 : Nat) : Int) := by rw [w64 (by omega) (by omega)]; omega
 have w3 : IntKind.i64.wrap (((32 + r.data.length + 16 : Nat) : Int) + (r.key.length : Int)) = ((32 + r.data.length + 16 + r.key.length : Nat) : Int) := by rw [w64 (by omega) (by omega)]; omega
 refine yr9 [1] (by simp; rfl) ?_
 refine yh9 ?_
 by_cases c : r.key = []
 ·have hc : kw9 r = 32 + r.data.length := by unfold kw9; rw [if_pos c]; omega
  rw [hc]
  refine W_cT [1, 6] (by simp [c]; rfl) rfl ?_
  refine yr9 [2] (by simp [w1, -Int.natCast_add]; rfl) ?_
  refine yk9 ?_
  repeat (first | refine ys9 ?_ | refine yd9 ?_)
  simp [retQ]
 ·have hc : kw9 r = 32 + r.data.length + 16 + r.key.length := by unfold kw9; rw [if_neg c]; omega
  have hl : r.key.length ≠ 0 := fun e => c (List.eq_nil_of_length_eq_zero e)
  have hli : ((r.key.length : Int) == 0) = false := beq_eq_false_iff_ne.2 (by omega)
  rw [hc]
  refine W_cF [1, 6] (by simp [c, hli, hl]; rfl) rfl ?_
  refine yj9 ?_
  refine W_rK [2] ?_
  refine yq9 5 (by simp [w1, w2, -Int.natCast_add]; rfl) rfl ?_
  refine yw9 (by simp [w3, -Int.natCast_add]; rfl) ?_
  refine yk9 ?_
  repeat (first | refine ys9 ?_ | refine yd9 ?_)
  simp [retQ]
def vrec (r : Rec) : Bool := decide (1 ≤ r.R) && decide (r.R ≤ 255) && decide (r.key.length ≤ 255)
theorem vrec_sound (r : Rec) : Sound Tryz.prog 73 [recA r] (.v (.bool (vrec r))) := by
 refine yc9 Tryz.func73 rfl (by decide +kernel) (by simp [Tryz.f73]) rfl rfl (rs := [.tmp 2]) rfl ?_
 rw [show Tryz.f73.ntmps = 17 from rfl]
 refine yr9 [1] (by simp; rfl) ?_
 have e3 : decide ((r.key.length : Int) ≤ 255) = decide (r.key.length ≤ 255) := by rw [Bool.eq_iff_iff]; simp; omega
 by_cases c1 : 1 ≤ r.R
 ·by_cases c2 : r.R ≤ 255
  ·have hv : vrec r = decide (r.key.length ≤ 255) := by simp [vrec, c1, c2]
   rw [hv]
   refine W_rK [2] ?_
   refine yq9 6 (by simp [c1]; rfl) rfl ?_
   refine yq9 6 (by simp [c2]; rfl) rfl ?_
   refine yw9 (by simp [e3]; rfl) ?_
   refine yk9 ?_
   repeat (first | refine ys9 ?_ | refine yd9 ?_)
   simp [retQ]
  ·have hv : vrec r = false := by simp [vrec, c2]
   rw [hv]
   refine W_rK [2] ?_
   refine yq9 6 (by simp [c1]; rfl) rfl ?_
   refine yq9 6 (by simp [c2]; rfl) rfl ?_
   refine yw9 (by simp; rfl) ?_
   refine yk9 ?_
   repeat (first | refine ys9 ?_ | refine yd9 ?_)
   simp [retQ]
 ·have hv : vrec r = false := by simp [vrec, c1]
  rw [hv]
  refine W_rK [2] ?_
  refine yq9 6 (by simp [c1]; rfl) rfl ?_
  refine yq9 6 (by simp; rfl) rfl ?_
  refine yw9 (by simp; rfl) ?_
  refine yk9 ?_
  repeat (first | refine ys9 ?_ | refine yd9 ?_)
  simp [retQ]
def vt9 (t : List Rec) : Nat := (t.map kw9).sum
def trSm (t : List Rec) : Prop := t.length ≤ 1000000 ∧ ∀ r ∈ t, recSm r
theorem usedM_snoc (t : List Rec) (r : Rec) : vt9 (t ++ [r]) = vt9 t + kw9 r := by simp [vt9]
theorem usedM_le {t : List Rec} (h : ∀ r ∈ t, recSm r) : vt9 t ≤ 3000000000 * t.length := by
 induction t with
 | nil => simp [vt9]
 | cons r t ih =>
  have h1 := ih fun x hx => h x (List.mem_cons_of_mem _ hx)
  have h2 := costM_le (h r List.mem_cons_self)
  simp only [vt9, List.map_cons, List.sum_cons, List.length_cons] at h1 ⊢
  omega
theorem add_callW (n s : Int) (rest : List AObj) (hr : yb9 (rest.length + 1) rest = true) : xm9 Tryz.prog 111 [.v (.int .i64 n), .loc 0 0] (.cells 3 [.v (.int .i64 s)] :: rest) fun r h' => r = .tup [] ∧ h' = .cells 3 [.v (.int .i64 (IntKind.i64.wrap (s + n)))] :: rest := by
 refine zf9 Tryz.func111 rfl (by decide +kernel) (by simp [Tryz.f111]) (rs := []) rfl ?_
 rw [show Tryz.f111.ntmps = 6 from rfl]
 refine zp9 [] (by simp [yg9]; rfl) ?_
 refine ⟨.inl rfl, .tup [], .tup [], _, rest.length + 1, rfl, .inl ⟨rfl, rfl⟩, by simp, by simp, rfl, ?_, rfl, ?_⟩
 ·simp [yb9, AObj.under, AV.under, AV.underL] at hr ⊢
  simpa using hr
 ·simp
end Go.AM
namespace Go.AM
open Go.RowKit Go.Proofs
set_option linter.unusedSimpArgs false
set_option linter.unusedVariables false
set_option maxHeartbeats 1000000
set_option maxRecDepth 20000
theorem zn9 (m : Nat) : ∀ (a b : List AObj), yb9 m (a ++ b) = (yb9 m a && yb9 m b)
 | [], b => rfl
 | o :: a, b => by simp only [List.cons_append, yb9, zn9 m a b, Bool.and_assoc]
theorem costs_callW (t : List Rec) (h : List AObj) (hh : yb9 (h.length + 1) h = true) : xm9 Tryz.prog 112 [.lst .any 4 (trL t)] h fun r h' => r = .fn (.func 133) [] [.loc h.length 0] ∧ h' = h ++ [.cells 80 [.lst .any 4 (trL t)]] := by
 refine zf9 Tryz.func112 rfl (by decide +kernel) (by simp [Tryz.f112]) (rs := [.tmp 2]) rfl ?_
 rw [show Tryz.f112.ntmps = 4 from rfl]
 refine yr9 [1] (by simp; rfl) ?_
 refine yr9 [2] (by simp; rfl) ?_
 refine yk9 ?_
 repeat (first | refine ys9 ?_ | refine yd9 ?_)
 refine ⟨.inr rfl, .fn (.func 133) [] [.loc h.length 0], .fn (.func 133) [] [.loc h.length 0], h ++ [.cells 80 [.lst .any 4 (trL t)]], h.length + 1, by simp, .inl ⟨rfl, by simp⟩, by omega, by simp, by simp [AV.under, AV.underL], ?_, rfl, ?_⟩
 ·rw [List.take_of_length_le (by simp), zn9, hh]
  simp [yb9, AObj.under, AV.under, AV.underL]
 ·rw [List.take_of_length_le (by simp)]
theorem used_sound (t : List Rec) (ht : trSm t) : Sound Tryz.prog 74 [.lst .any 4 (trL t)] (.v (.int .i64 (vt9 t : Nat))) := by
 refine yc9 Tryz.func74 rfl (by decide +kernel) (by simp [Tryz.f74]) rfl rfl (rs := [.tmp 2]) rfl ?_
 rw [show Tryz.f74.ntmps = 14 from rfl]
 refine yr9 [0] (by simp; rfl) ?_
 refine yr9 [0, 3] (by simp [yg9]; rfl) ?_
 refine yr9 [0, 3, 4] (by simp [yg9]; rfl) ?_
 refine yh9 ?_
 refine W_rK [3, 4, 8] ?_
 refine yq9 1 (by simp; rfl) rfl ?_
 refine zm9 (f := 112) (args := [.lst .any 4 (trL t)]) (by simp) (by simp) ((costs_callW t _ (by simp [yb9, AObj.under, AV.under, AV.underL])).mono ?_)
 rintro r h' ⟨rfl, rfl⟩
 refine ⟨_, by simp; rfl, ?_⟩
 refine yw9 (by simp; rfl) ?_
 refine yl9 ?_
 refine W_rangeFunc (Qc := fun _ h' => h' = [.cells 3 [.v (.int .i64 (vt9 t : Nat))], .cells 148 [.fn (.func 111) [] [.loc 0 0]], .cells 80 [.lst .any 4 (trL t)], .loop 14 [(3, .loc 0 0), (4, .loc 1 0), (8, .fn (.func 133) [] [.loc 2 0])] [9] (rfA Tryz.f74) (rfB Tryz.f74) .ready]) rfl ?_ ?_
 ·refine zf9 Tryz.func133 rfl (by decide +kernel) (by simp [Tryz.f133]) (rs := []) rfl ?_
  rw [show Tryz.f133.ntmps = 17 from rfl]
  refine yr9 [0, 5, 6, 7] (by simp; rfl) ?_
  refine yl9 ?_
  refine zg9 (fun k s => ∃ i : Nat, k = t.length - i ∧ i ≤ t.length ∧ s = ⟨17, [(0, .yld 3), (5, .lst .any 4 (trL t)), (6, .v (.int .i64 (t.length : Nat))), (7, .v (.int .i64 (i : Nat)))],
   [.cells 3 [.v (.int .i64 (vt9 (t.take i) : Nat))], .cells 148 [.fn (.func 111) [] [.loc 0 0]], .cells 80 [.lst .any 4 (trL t)], .loop 14 [(3, .loc 0 0), (4, .loc 1 0), (8, .fn (.func 133) [] [.loc 2 0])] [9] (rfA Tryz.f74) (rfB Tryz.f74) .ready]⟩) (k := t.length) ⟨0, rfl, by omega, ?_⟩ ?_
  ·simp [vt9]
   exact ⟨rfl, rfl, rfl⟩
  rintro k s ⟨i, rfl, hi, rfl⟩
  by_cases c : i < t.length
  ·have ci : (i : Int) < t.length := by omega
   obtain ⟨r, hri⟩ : ∃ r, t[i]? = some r := ⟨_, List.getElem?_eq_getElem c⟩
   have hr2 : t[i]'c = r := by rw [List.getElem?_eq_getElem c] at hri; exact Option.some.inj hri
   have hrs := ht.2 r (List.mem_of_getElem? hri)
   have wi := w64 (n := (i : Int) + 1) (by omega) (by have := ht.1; omega)
   refine yr9 [0, 5, 6, 7, 8] (by simp [c]; rfl) ?_
   refine yh9 ?_
   refine yt9 rfl (fun h => ?_) (fun h => by simp at h)
   refine yj9 ?_
   refine yh9 ?_
   refine yl9 ?_
   refine yr9 [0, 5, 6, 7, 4] (by simp [c, ci, hr2, yg9]; rfl) ?_
   refine W_rK [0, 5, 6, 7, 15] ?_
   refine yq9 2 (by simp; rfl) rfl ?_
   refine yf9 (by simp) (by first | (simp; done) | (simp; rfl)) (cost_sound r hrs) (by simp; rfl) ?_
   refine runA_y (by simp) ?_
   unfold callY
   dsimp only
   refine ⟨3, 14, _, _, _, _, [.v (.int .i64 (kw9 r : Nat))], by simp, rfl, by simp, by simp, by simp, by simp, ?_⟩
   refine (show Wt _ _ _ _ _ _ from ?_)
   refine zp9 [3, 4, 5] (by simp [setF]; rfl) ?_
   refine ⟨rfl, _, _, _, _, _, rfl, ?_⟩
   refine yl9 ?_
   refine W_rE [] ?_
   refine yq9 2 (by simp; rfl) rfl ?_
   refine zm9 (f := 111) (args := [.v (.int .i64 (kw9 r : Nat)), .loc 0 0]) (by simp) (by simp) ((add_callW _ _ _ ?_).mono ?_)
   ·simp [yb9, AObj.under, AV.under, AV.underL]
    rfl
   rintro _ h' ⟨rfl, rfl⟩
   refine ⟨_, by simp; rfl, ?_⟩
   refine yw9 (by simp; rfl) ?_
   refine ⟨14, _, _, _, _, .ready, true, 5, rfl, rfl, by simp, by simp, ?_, ?_⟩
   ·simp [yb9, AObj.under, AV.under, AV.underL]
    rfl
   refine ⟨_, by simp; rfl, ?_⟩
   refine yw9 (by simp; rfl) ?_
   refine yt9 rfl (fun h => by simp at h) (fun h => ?_)
   refine ym9 [0, 5, 6, 7] ?_
   refine ug9 4 (by simp) (by simp) rfl (by simp [yb9, AObj.under, AV.under, AV.underL]; rfl) ?_
   refine yj9 ?_
   refine zp9 [0, 5, 6, 7] (by simp [wi]; rfl) ?_
   have htk : t.take (i + 1) = t.take i ++ [r] := by rw [List.take_add_one, hri]; rfl
   have hle := usedM_le (t := t.take i) fun x hx => ht.2 x (List.mem_of_mem_take hx)
   have hc := costM_le hrs
   have h6 := ht.1
   have wu : IntKind.i64.wrap ((vt9 (t.take i) : Nat) + (kw9 r : Nat) : Int) = ((vt9 (t.take (i + 1)) : Nat) : Int) := by
    rw [htk, usedM_snoc, w64 (by omega) (by rw [List.length_take] at hle; omega)]; omega
   refine ⟨_, by omega, i + 1, rfl, by omega, ?_⟩
   simp [wu]
  ·refine yr9 [0, 5, 6, 7, 8] (by simp [c]; rfl) ?_
   refine yh9 ?_
   refine yt9 rfl (fun h => by simp at h) (fun h => ?_)
   refine zd9 ?_
   have hie : i = t.length := by omega
   subst hie
   rw [List.take_length]
   refine ⟨.inl rfl, .tup [], .tup [], _, 4, rfl, .inl ⟨rfl, rfl⟩, by simp, by simp, rfl, ?_, ?_⟩
   ·simp [yb9, AObj.under, AV.under, AV.underL]
    rfl
   ·simp
 ·rintro _ _ rfl
  refine ⟨14, _, _, _, _, .ready, rfl, ?_⟩
  refine (show Wt true 0 Tryz.prog _ _ _ from ?_)
  refine yr9 [2] (by simp; rfl) ?_
  refine yk9 ?_
  repeat (first | refine ys9 ?_ | refine yd9 ?_)
  simp [retQ]
end Go.AM
