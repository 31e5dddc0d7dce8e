/- Parts of the walk: C24T C24TA C24TB C24U C24UA C24UC C24UB C24UD C24VB. -/
import Derived.Test.YthjcnajpcphcpaaGreatG9
namespace Go.AM
open Go.RowKit Go.Proofs
set_option linter.unusedSimpArgs false
set_option linter.unusedVariables false
set_option maxHeartbeats 8000000
set_option maxRecDepth 20000
theorem rkeyed_sound (t : List Rec) (hl : t.length ≤ 100000000) : Sound Tryz.prog 52 [.lst .any 4 (trL t)] (.v (.bool (vm9 t))) := by
 refine yc9 Tryz.func52 rfl (by decide +kernel) (by simp [Tryz.f52]) (by simp [AV.rfL, AV.rf]) (by simp [AV.tlL, AV.tl]) (rs := [.tmp 2]) rfl ?_
 rw [show Tryz.f52.ntmps = 17 from rfl]
 refine yr9 [0, 2] (by simp; rfl) ?_
 refine yh9 ?_
 refine yr9 [0, 3] (by simp; rfl) ?_
 refine yl9 ?_
 refine zg9 (fun q σ => ∃ i : Nat, q = t.length - i ∧ i ≤ t.length ∧ (∀ (j : Nat) (r : Rec), j < i → t[j]? = some r → ¬ r.key.length = 8) ∧ σ = ⟨17, [(0, .lst .any 4 (trL t)), (3, .v (.int .i64 (i : Nat)))], []⟩) (k := t.length) ⟨0, rfl, by omega, by intro j r hj; omega, by simp⟩ ?_
 rintro q σ ⟨i, rfl, hi, hall, rfl⟩
 refine yh9 ?_
 by_cases c : i < t.length
 ·have ci : (i : Int) < t.length := by omega
  have wi := w64 (n := (i : Int) + 1) (by omega) (by omega)
  obtain ⟨r, hr⟩ : ∃ r, t[i]? = some r := ⟨_, List.getElem?_eq_getElem c⟩
  have hgr : t[i]'c = r := by rw [List.getElem?_eq_getElem c] at hr; exact Option.some.inj hr
  refine yr9 [0, 3, 7] (by simp [c, ci]; rfl) ?_
  refine yt9 (t := true) (by simp [c, ci]) (fun h => ?_) (fun h => by simp at h)
  refine yj9 ?_
  repeat (first | refine on_norm ?_ | refine in_norm ?_)
  refine yh9 ?_
  refine yl9 ?_
  by_cases hk : r.key.length = 8
  ·have hki : (r.key.length : Int) = 8 := by omega
   have hres : vm9 t = true := List.any_eq_true.2 ⟨r, List.mem_of_getElem? hr, by simpa using hk⟩
   refine yr9 [16] (by simp [c, ci, hgr, hk, hki]; rfl) ?_
   refine yt9 (t := true) (by simp [hk, hki]) (fun h => ?_) (fun h => by simp at h)
   refine yr9 [2] (by simp; rfl) ?_
   refine yk9 ?_
   repeat (first | refine ys9 ?_ | refine yd9 ?_)
   simp [retQ, hres]
  ·have hki : ¬ (r.key.length : Int) = 8 := by omega
   have hkb : ((r.key.length : Int) == 8) = false := by simp; omega
   refine yr9 [0, 3, 16] (by simp [c, ci, hgr, hk, hki, hkb]; rfl) ?_
   refine yt9 (t := false) (by simp [hk, hki, hkb]) (fun h => by simp at h) (fun h => ?_)
   refine yj9 ?_
   repeat (first | refine on_norm ?_ | refine in_norm ?_)
   refine zp9 [0, 3] (by simp [wi]; rfl) ?_
   refine ⟨_, by omega, i + 1, rfl, by omega, fun j x hj hx => ?_, by simp⟩
   by_cases hj2 : j < i
   ·exact hall j x hj2 hx
   ·have : j = i := by omega
    subst this
    rw [hr] at hx
    rw [← Option.some.inj hx]
    exact hk
 ·have hie : i = t.length := by omega
  have hres : vm9 t = false := by
   cases hk : vm9 t with
   | false => rfl
   | true =>
    obtain ⟨r, hr, h8⟩ := List.any_eq_true.1 hk
    obtain ⟨j, hj, rfl⟩ := List.mem_iff_getElem.1 hr
    exact absurd (by simpa using h8) (hall j _ (by omega) (List.getElem?_eq_getElem hj))
  refine yr9 [7] (by simp [hie]; rfl) ?_
  refine yt9 (t := false) (by simp [hie]) (fun h => by simp at h) (fun h => ?_)
  refine zd9 ?_
  repeat (first | refine on_exit ?_ | refine in_exit ?_)
  refine yr9 [2] (by simp; rfl) ?_
  refine yk9 ?_
  repeat (first | refine ys9 ?_ | refine yd9 ?_)
  simp [retQ, hres]
structure SE where
 name : List UInt8
 trk : Nat
 rn : Nat
 deriving DecidableEq
def nmE (e : RE) : SE := ⟨nmM e.key, e.trk, e.rn⟩
def seA (e : SE) : AV := .agg [strB e.name, .v (.int .i64 (e.trk : Nat)), .v (.int .i64 (e.rn : Nat))]
def seL (l : List SE) : List AV := l.map seA
@[simp] theorem seL_length (L : List SE) : (seL L).length = L.length := by simp [seL]
theorem seL_app (a b : List SE) : seL (a ++ b) = seL a ++ seL b := by simp [seL]
@[simp] theorem seL_getElem (L : List SE) (i : Nat) (h : i < (seL L).length) : (seL L)[i] = seA (L[i]'(by simpa using h)) := by simp [seL]
@[simp] theorem dpL_seL (L : List SE) : AV.dpL (seL L) = seL L := by induction L <;> simp_all [seL, seA, AV.dpL, AV.dp, strB]
end Go.AM
namespace Go.AM
open Go.RowKit Go.Proofs
set_option linter.unusedSimpArgs false
set_option linter.unusedVariables false
set_option maxHeartbeats 8000000
set_option maxRecDepth 20000
theorem rentries_sound (D : List UInt8) (hD : D.length ≤ 1000000000) : Sound Tryz.prog 53 [.lst .any 1 (byL D)] (.lst (.tip 51 1) 3 (seL ((zq8 D).map nmE))) := by
 refine ww9 Tryz.func53 rfl (by decide +kernel) (by simp [Tryz.f53]) (by simp [AV.rfL, AV.rf]) (by simp [AV.tlL, AV.tl]) (rs := [.tmp 2]) rfl ?_
 rw [show Tryz.f53.ntmps = 58 from rfl]
 refine yr9 [0, 2] (by simp; rfl) ?_
 refine yr9 [0, 3] (by simp; rfl) ?_
 refine yh9 ?_
 refine yr9 [0, 3, 4] (by simp; rfl) ?_
 refine yl9 ?_
 have hlimle : limE D ≤ D.length := Nat.min_le_right _ _
 refine zg9 (fun q σ => ∃ (m a : Nat) (fo : Fl) (N : List SE), q = D.length - m ∧ a = 2 + 12 * m ∧ m ≤ (limE D - 2) / 12 ∧ ((fo = .nil ∧ m = 0) ∨ fo = .tip 51 113) ∧ ((List.range m).map fun i => entAt D (2 + 12 * i)).map nmE = N ∧ σ = ⟨58, [(0, .lst .any 1 (byL D)), (3, .lst fo 3 (seL N)), (4, .v (.int .i64 (a : Nat)))], []⟩) (k := D.length) ⟨0, 2, .nil, [], rfl, rfl, by omega, .inl ⟨rfl, rfl⟩, rfl, by simp [seL]⟩ ?_
 rintro q σ ⟨m, a, fo, N, rfl, ha, hm, hfo, hN, rfl⟩
 have hkf : ∀ T : Nat, T ≠ 113 → ∀ xs, (AV.lst fo 3 xs).kill T = .lst fo 3 xs := by
  intro T hT xs
  rcases hfo with ⟨rfl, _⟩ | rfl
  ·simp [AV.kill]
  ·simp [AV.kill, hT.symm]
 have hab : a ≤ 1000000020 := by omega
 have w12 := w64 (n := (a : Int) + 12) (by omega) (by omega)
 have hexit : m = (limE D - 2) / 12 → Wt true 0 Tryz.prog (sq2 (sq2 (sq2 (Tryz.f53.body.getD .skip)))) (retU Tryz.prog [.tmp 2] (.lst (.tip 51 1) 3 (seL ((zq8 D).map nmE)))) ⟨58, [(3, .lst fo 3 (seL N))], []⟩ := by
  intro hmK
  refine yr9 [2] (by simp [↓hkf]; rfl) ?_
  refine yk9 ?_
  repeat (first | refine ys9 ?_ | refine yd9 ?_)
  have hNe : (zq8 D).map nmE = N := by rw [← hN, hmK]; rfl
  rw [hNe]
  refine ⟨.lst fo 3 (seL N), by rcases hfo with ⟨rfl, _⟩ | rfl <;> simp [retQ, AV.rf, AV.rfL], ?_⟩
  rcases hfo with ⟨rfl, h0⟩ | rfl
  ·rw [h0] at hN
   rw [← hN]
   exact AV.Le.nil (by decide +kernel)
  ·exact AV.Le.norm fun T => by simp [AV.norm]
 refine yh9 ?_
 by_cases c1 : a + 12 ≤ D.length
 ·have c1i : (a : Int) + 12 ≤ (D.length : Nat) := by omega
  obtain ⟨x, hx⟩ : ∃ x, D[0]? = some x := ⟨_, List.getElem?_eq_getElem (by omega)⟩
  obtain ⟨y, hy⟩ : ∃ y, D[1]? = some y := ⟨_, List.getElem?_eq_getElem (by omega)⟩
  have hx1 : D[0]'(by omega) = x := by rw [List.getElem?_eq_getElem (by omega)] at hx; exact Option.some.inj hx
  have hy1 : D[1]'(by omega) = y := by rw [List.getElem?_eq_getElem (by omega)] at hy; exact Option.some.inj hy
  have h0l : 0 < D.length := by omega
  have h1l : 1 < D.length := by omega
  have ux := x.toNat_lt
  have uy := y.toNat_lt
  have vx := w64 (n := (x.toNat : Int)) (by omega) (by omega)
  have vy := w64 (n := (y.toNat : Int)) (by omega) (by omega)
  have wx := w64 (n := 256 * (x.toNat : Int)) (by omega) (by omega)
  have wxy := w64 (n := 256 * (x.toNat : Int) + (y.toNat : Int)) (by omega) (by omega)
  have hlim : limE D = min (256 * x.toNat + y.toNat) D.length := by
   rw [limE, List.getD_eq_getElem?_getD, hx, List.getD_eq_getElem?_getD, hy]
   rfl
  by_cases c2 : a + 12 ≤ 256 * x.toNat + y.toNat
  ·have c2i : (a : Int) + 12 ≤ 256 * (x.toNat : Int) + (y.toNat : Int) := by omega
   refine wc9 [0, 3, 4, 24] mx (by decide +kernel) ?_
   refine yp9 6 (by simp [↓hkf, c1, c1i, w12]; rfl) rfl ?_
   refine yp9 7 (by simp [↓hkf, h0l, hx, hx1, vx, wx, w12]; rfl) rfl ?_
   refine yn9 (by simp [↓hkf, h1l, hy, hy1, vy, wxy, c2, c2i]; rfl) ?_
   refine yt9 rfl (fun h => ?_) (fun h => by simp at h)
   refine yj9 ?_
   repeat (first | refine on_norm ?_ | refine in_norm ?_)
   refine ym9 [0, 3, 4] ?_
   refine yh9 ?_
   refine yl9 ?_
   have w8 := w64 (n := (a : Int) + 8) (by omega) (by omega)
   have w9 := w64 (n := (a : Int) + 9) (by omega) (by omega)
   have w10 := w64 (n := (a : Int) + 10) (by omega) (by omega)
   have p8 : (0 : Int) ≤ (a : Int) + 8 := by omega
   have p9 : (0 : Int) ≤ (a : Int) + 9 := by omega
   have p10 : (0 : Int) ≤ (a : Int) + 10 := by omega
   have t8 : ((a : Int) + 8).toNat = a + 8 := by omega
   have t9 : ((a : Int) + 9).toNat = a + 9 := by omega
   have t10 : ((a : Int) + 10).toNat = a + 10 := by omega
   have q0 : a ≤ a + 8 := by omega
   have q1 : a + 8 ≤ D.length := by omega
   have q2 : (a : Int) ≤ (a : Int) + 8 := by omega
   have q3 : (a : Int) + 8 ≤ (D.length : Nat) := by omega
   obtain ⟨x8, b8⟩ : ∃ x, D[a + 8]? = some x := ⟨_, List.getElem?_eq_getElem (by omega)⟩
   obtain ⟨x9, b9⟩ : ∃ x, D[a + 9]? = some x := ⟨_, List.getElem?_eq_getElem (by omega)⟩
   obtain ⟨x10, b10⟩ : ∃ x, D[a + 10]? = some x := ⟨_, List.getElem?_eq_getElem (by omega)⟩
   have g8 : (byL D)[a + 8]? = some (.v (.int .u8 x8.toNat)) := by simp [byL, b8]
   have g9 : (byL D)[a + 9]? = some (.v (.int .u8 x9.toNat)) := by simp [byL, b9]
   have g10 : (byL D)[a + 10]? = some (.v (.int .u8 x10.toNat)) := by simp [byL, b10]
   have u8 := x8.toNat_lt
   have u9 := x9.toNat_lt
   have u10 := x10.toNat_lt
   have v8 := w64 (n := (x8.toNat : Int)) (by omega) (by omega)
   have v9 := w64 (n := (x9.toNat : Int)) (by omega) (by omega)
   have v10 := w64 (n := (x10.toNat : Int)) (by omega) (by omega)
   have wm8 := w64 (n := 256 * (x8.toNat : Int)) (by omega) (by omega)
   have wm9 := w64 (n := 256 * (x8.toNat : Int) + (x9.toNat : Int)) (by omega) (by omega)
   have hE : entAt D a = ⟨(D.drop a).take 8, 256 * x8.toNat + x9.toNat, x10.toNat⟩ := by
    rw [entAt, List.getD_eq_getElem?_getD, b8, List.getD_eq_getElem?_getD, b9, List.getD_eq_getElem?_getD, b10]
    rfl
   have htr := rtrim_sound ((D.drop a).take 8) (by rw [List.length_take]; omega)
   have hnE : nmE (entAt D a) = ⟨decM (qn9 ((D.drop a).take 8)), 256 * x8.toNat + x9.toNat, x10.toNat⟩ := by rw [hE]; rfl
   have hdt : List.drop a (List.take (a + 8) (byL D)) = byL ((D.drop a).take 8) := by rw [← vw9, ← kl9, List.drop_take, Nat.add_sub_cancel_left]
   obtain ⟨K, hK⟩ : ∃ K, (D.drop a).take 8 = K := ⟨_, rfl⟩
   rw [hK] at htr hnE hE hdt
   obtain ⟨nm, hnm⟩ : ∃ nm, decM (qn9 K) = nm := ⟨_, rfl⟩
   rw [hnm] at htr hnE
   have hsA : seA (nmE (entAt D a)) = .agg [strB nm, .v (.int .i64 (256 * ↑x8.toNat + ↑x9.toNat)), .v (.int .i64 ↑x10.toNat)] := by rw [hnE]; simp [seA]
   have hNs : ((List.range (m + 1)).map fun i => entAt D (2 + 12 * i)).map nmE = N ++ [nmE (entAt D a)] := by rw [← hN, List.range_succ, List.map_append, List.map_append, List.map_singleton, List.map_singleton, ← ha]
   have hNl : N.length = m := by rw [← hN, List.length_map, List.length_map, List.length_range]
   obtain ⟨S, hS⟩ : ∃ S, strB nm = S := ⟨_, rfl⟩
   have hSv : ∃ u, S = .v u := ⟨_, hS.symm⟩
   rw [hS] at htr hsA
   obtain ⟨u, rfl⟩ := hSv
   have hu1 : u.oneCell' = true := by have h' := hS; simp only [strB, AV.v.injEq] at h'; rw [← h']; rfl
   have htl : seL N ++ [.agg [.v u, .v (.int .i64 (256 * ↑x8.toNat + ↑x9.toNat)), .v (.int .i64 ↑x10.toNat)]] = seL (N ++ [nmE (entAt D a)]) := by rw [seL_app]; simp [seL, hsA]
   have b3 : (m + 1) * 32 ≤ 140737488355328 := by omega
   have b4 : 32 * (m + 1) ≤ 140737488355328 := by omega
   refine W_rdE [0, 3, 4] mx (by decide +kernel) ?_
   refine yp9 6 (by simp [↓hkf, w8, q0, q1, q2, q3, p8, t8]; rfl) rfl ?_
   refine yv9 (by simp) (by first | (simp [hdt]; done) | (simp [hdt]; rfl)) htr (by simp [↓hkf]; rfl) ?_
   refine yp9 7 (by simp [↓hkf, w8, p8, t8, g8, v8, wm8]; rfl) rfl ?_
   refine yp9 7 (by simp [↓hkf, w9, p9, t9, g9, v9, wm9]; rfl) rfl ?_
   refine yp9 6 (by simp [↓hkf, w10, p10, t10, g10, v10]; rfl) rfl ?_
   rcases hfo with ⟨rfl, h0⟩ | rfl
   ·have hN0 : N = [] := List.eq_nil_of_length_eq_zero (by omega)
    subst hN0
    refine yn9 (by simp [seL, yg9, catK, AV.cellsK, AV.kone, AV.koneL, hu1]; rfl) ?_
    repeat (first | refine on_norm ?_ | refine in_norm ?_)
    refine zp9 [0, 3, 4] (by simp [w12]; rfl) ?_
    exact ⟨_, by omega, m + 1, a + 12, .tip 51 113, _, rfl, by omega, by omega, .inr rfl, hNs, by rw [← htl]; simp [seL]⟩
   ·refine yn9 (by simp [yg9, catK, AV.cellsK, AV.kone, AV.koneL, hu1, hNl, b3, b4, htl]; rfl) ?_
    repeat (first | refine on_norm ?_ | refine in_norm ?_)
    refine zp9 [0, 3, 4] (by simp [w12]; rfl) ?_
    exact ⟨_, by omega, m + 1, a + 12, .tip 51 113, _, rfl, by omega, by omega, .inr rfl, hNs, by simp⟩
  ·have c2i : ¬ (a : Int) + 12 ≤ 256 * (x.toNat : Int) + (y.toNat : Int) := by omega
   refine wc9 [3, 24] mx (by decide +kernel) ?_
   refine yp9 6 (by simp [↓hkf, c1, c1i, w12]; rfl) rfl ?_
   refine yp9 7 (by simp [↓hkf, h0l, hx, hx1, vx, wx, w12]; rfl) rfl ?_
   refine yn9 (by simp [↓hkf, h1l, hy, hy1, vy, wxy, c2, c2i]; rfl) ?_
   refine yt9 (t := false) (by simp) (fun h => by simp at h) (fun h => ?_)
   refine ym9 [3] ?_
   refine zd9 ?_
   repeat (first | refine on_exit ?_ | refine in_exit ?_)
   exact hexit (by omega)
 ·have c1i : ¬ (a : Int) + 12 ≤ (D.length : Nat) := by omega
  refine wc9 [3, 24] mx (by decide +kernel) ?_
  refine yp9 6 (by simp [↓hkf, c1, c1i, w12]; rfl) rfl ?_
  refine yp9 7 (by simp [↓hkf]; rfl) rfl ?_
  refine yn9 (by simp [↓hkf]; rfl) ?_
  refine yt9 (t := false) (by simp) (fun h => by simp at h) (fun h => ?_)
  refine ym9 [3] ?_
  refine zd9 ?_
  repeat (first | refine on_exit ?_ | refine in_exit ?_)
  exact hexit (by omega)
end Go.AM
namespace Go.AM
open Go.RowKit Go.Proofs
set_option linter.unusedSimpArgs false
set_option linter.unusedVariables false
set_option maxHeartbeats 8000000
set_option maxRecDepth 20000
def ogoS : Option (List UInt8) → List SE → Bool
 | _, [] => true
 | p, e :: l => symM e.name && ((match p with | none => true | some k => Op.bytesLess (padK k) (padK e.name)) && ogoS (some e.name) l)
def ordS (l : List SE) : Bool := ogoS none l
theorem ogoS_at : ∀ {l : List SE} {p : Option (List UInt8)}, ogoS p l = true ↔ ∀ (i : Nat) e, l[i]? = some e → symM e.name = true ∧ (∀ k, (if i = 0 then p else (l[i - 1]?).map (·.name)) = some k → Op.bytesLess (padK k) (padK e.name) = true)
 | [], p => by cases p <;> simp [ogoS]
 | x :: l, p => by
  rw [show ogoS p (x :: l) = (symM x.name && ((match p with | none => true | some k => Op.bytesLess (padK k) (padK x.name)) && ogoS (some x.name) l)) by cases p <;> rfl, Bool.and_eq_true, Bool.and_eq_true, ogoS_at (p := some x.name)]
  constructor
  ·rintro ⟨h1, h2, h3⟩ i e he
   cases i with
   | zero =>
    simp at he
    subst he
    refine ⟨h1, fun k hk => ?_⟩
    simp at hk
    subst hk
    exact h2
   | succ i =>
    obtain ⟨a, b⟩ := h3 i e (by simpa using he)
    refine ⟨a, fun k hk => b k ?_⟩
    rw [if_neg (by omega), Nat.add_sub_cancel] at hk
    cases i with
    | zero => simpa using hk
    | succ i => rw [if_neg (by omega)]; simpa using hk
  ·intro h
   refine ⟨(h 0 x rfl).1, ?_, fun i e he => ?_⟩
   ·cases p with
    | none => rfl
    | some k => exact (h 0 x rfl).2 k rfl
   ·obtain ⟨a, b⟩ := h (i + 1) e (by simpa using he)
    refine ⟨a, fun k hk => b k ?_⟩
    rw [if_neg (by omega), Nat.add_sub_cancel]
    cases i with
    | zero => simpa using hk
    | succ i => rw [if_neg (by omega)] at hk; simpa using hk
theorem ordS_at {l : List SE} : ordS l = true ↔ ∀ (i : Nat) e, l[i]? = some e → symM e.name = true ∧ (∀ d, 0 < i → l[i - 1]? = some d → Op.bytesLess (padK d.name) (padK e.name) = true) := by
 rw [ordS, ogoS_at]
 constructor
 ·intro h i e he
  obtain ⟨a, b⟩ := h i e he
  refine ⟨a, fun d hi hd => b _ ?_⟩
  rw [if_neg (by omega), hd]
  rfl
 ·intro h i e he
  obtain ⟨a, b⟩ := h i e he
  refine ⟨a, fun k hk => ?_⟩
  by_cases hi : i = 0
  ·rw [if_pos hi] at hk; cases hk
  ·rw [if_neg hi] at hk
   obtain ⟨d, hd, rfl⟩ := Option.map_eq_some_iff.1 hk
   exact b d (by omega) hd
theorem rordered_sound (l : List SE) (hl : l.length ≤ 1000000000) (hn : ∀ e ∈ l, e.name.length ≤ 1000000000) : Sound Tryz.prog 54 [.lst .any 3 (seL l)] (.v (.bool (ordS l))) := by
 refine yc9 Tryz.func54 rfl (by decide +kernel) (by simp [Tryz.f54]) (by simp [AV.rfL, AV.rf]) (by simp [AV.tlL, AV.tl]) (rs := [.tmp 2]) rfl ?_
 rw [show Tryz.f54.ntmps = 36 from rfl]
 refine yr9 [0, 2] (by simp; rfl) ?_
 refine yh9 ?_
 refine yr9 [0, 3] (by simp; rfl) ?_
 refine yl9 ?_
 refine zg9 (fun q σ => ∃ i : Nat, q = l.length - i ∧ i ≤ l.length ∧ (∀ (m : Nat) e, m < i → l[m]? = some e → symM e.name = true ∧ (∀ d, 0 < m → l[m - 1]? = some d → Op.bytesLess (padK d.name) (padK e.name) = true)) ∧ σ = ⟨36, [(0, .lst .any 3 (seL l)), (3, .v (.int .i64 (i : Nat)))], []⟩) (k := l.length) ⟨0, rfl, by omega, by intro m e hm; omega, by simp⟩ ?_
 rintro q σ ⟨i, rfl, hi, hall, rfl⟩
 refine yh9 ?_
 by_cases c : i < l.length
 ·have ci : (i : Int) < l.length := by omega
  have wi := w64 (n := (i : Int) + 1) (by omega) (by omega)
  obtain ⟨e, he⟩ : ∃ e, l[i]? = some e := ⟨_, List.getElem?_eq_getElem c⟩
  have hge : l[i]'c = e := by rw [List.getElem?_eq_getElem c] at he; exact Option.some.inj he
  have hva := rname_sound e.name (by have := hn e (List.mem_of_getElem? he); omega)
  obtain ⟨V, hV⟩ : ∃ V, symM e.name = V := ⟨_, rfl⟩
  rw [hV] at hva
  obtain ⟨S, hS⟩ : ∃ S, strB e.name = S := ⟨_, rfl⟩
  have hSv : ∃ u, S = .v u := ⟨_, hS.symm⟩
  obtain ⟨u, rfl⟩ := hSv
  refine yr9 [0, 3, 7] (by simp [c, ci]; rfl) ?_
  refine yt9 (t := true) (by simp [c, ci]) (fun h => ?_) (fun h => by simp at h)
  refine yj9 ?_
  repeat (first | refine on_norm ?_ | refine in_norm ?_)
  refine yh9 ?_
  refine yl9 ?_
  cases V with
  | false =>
   have hbad : ordS l = false := by
    cases ho : ordS l with
    | false => rfl
    | true => rw [((ordS_at.1 ho) i e he).1] at hV; cases hV
   rw [hS] at hva
   refine wc9 [35] mx (by decide +kernel) ?_
   refine yp9 5 (by simp [c, ci, hge, seA, hS]; rfl) rfl ?_
   refine yv9 (by simp) (by first | (simp; done) | (simp; rfl)) hva (by simp; rfl) ?_
   refine yp9 6 (by simp; rfl) rfl ?_
   refine yp9 7 (by simp; rfl) rfl ?_
   refine yn9 (by simp; rfl) ?_
   refine yt9 rfl (fun h => ?_) (fun h => by simp at h)
   refine yr9 [2] (by simp; rfl) ?_
   refine yk9 ?_
   repeat (first | refine ys9 ?_ | refine yd9 ?_)
   simp [retQ, hbad]
  | true =>
  by_cases h0 : i = 0
  ·have hall2 : ∀ (m : Nat) e, m < 0 + 1 → l[m]? = some e → symM e.name = true ∧ (∀ d, 0 < m → l[m - 1]? = some d → Op.bytesLess (padK d.name) (padK e.name) = true) := by
    intro m x hm hx
    have : m = 0 := by omega
    subst this
    rw [← h0, he] at hx
    obtain rfl := Option.some.inj hx
    exact ⟨hV, fun d hd => by omega⟩
   subst h0
   rw [hS] at hva
   refine wc9 [0, 3, 35] mx (by decide +kernel) ?_
   refine yp9 5 (by simp [c, ci, hge, seA, hS]; rfl) rfl ?_
   refine yv9 (by simp) (by first | (simp; done) | (simp; rfl)) hva (by simp; rfl) ?_
   refine yp9 6 (by simp; rfl) rfl ?_
   refine yp9 7 (by simp; rfl) rfl ?_
   refine yn9 (by simp; rfl) ?_
   refine yt9 rfl (fun h => by simp at h) (fun h => ?_)
   refine yj9 ?_
   repeat (first | refine on_norm ?_ | refine in_norm ?_)
   refine zp9 [0, 3] (by simp [show IntKind.i64.wrap 1 = 1 from by decide]; rfl) ?_
   exact ⟨_, by omega, 0 + 1, rfl, by omega, hall2, by simp⟩
  ·have wd := w64 (n := (i : Int) - 1) (by omega) (by omega)
   have hp0 : 0 < i := by omega
   have hp1 : (0 : Int) < (i : Int) := by omega
   have hp6 : (1 : Int) ≤ (i : Int) := by omega
   have hp2 : (0 : Int) ≤ (i : Int) - 1 := by omega
   have hp3 : (i : Int) - 1 < l.length := by omega
   have hp4 : ((i : Int) - 1).toNat = i - 1 := by omega
   have hp5 : i - 1 < l.length := by omega
   obtain ⟨d, hd⟩ : ∃ d, l[i - 1]? = some d := ⟨_, List.getElem?_eq_getElem hp5⟩
   have hgd : l[i - 1]'hp5 = d := by rw [List.getElem?_eq_getElem hp5] at hd; exact Option.some.inj hd
   have hVd := (hall (i - 1) d (by omega) hd).1
   have hbf := before_sound d.name e.name hVd hV
   obtain ⟨S2, hS2⟩ : ∃ S, strB d.name = S := ⟨_, rfl⟩
   have hSv2 : ∃ u, S2 = .v u := ⟨_, hS2.symm⟩
   obtain ⟨u2, rfl⟩ := hSv2
   rw [hS, hS2] at hbf
   rw [hS] at hva
   cases hb : Op.bytesLess (padK d.name) (padK e.name) with
   | true =>
    rw [hb] at hbf
    have hall2 : ∀ (m : Nat) e, m < i + 1 → l[m]? = some e → symM e.name = true ∧ (∀ d, 0 < m → l[m - 1]? = some d → Op.bytesLess (padK d.name) (padK e.name) = true) := by
     intro m x hm hx
     by_cases hm2 : m < i
     ·exact hall m x hm2 hx
     ·have : m = i := by omega
      subst this
      rw [he] at hx
      obtain rfl := Option.some.inj hx
      exact ⟨hV, fun d2 _ hd2 => by rw [hd] at hd2; obtain rfl := Option.some.inj hd2; exact hb⟩
    refine wc9 [0, 3, 35] mx (by decide +kernel) ?_
    refine yp9 5 (by simp [c, ci, hge, seA, hS]; rfl) rfl ?_
    refine yv9 (by simp) (by first | (simp; done) | (simp; rfl)) hva (by simp; rfl) ?_
    refine yp9 5 (by simp [hp0, hp1]; rfl) rfl ?_
    refine yp9 6 (by simp [hp0, hp1, hp2, hp3, hp4, hp5, hp6, wd, hgd, seA, hS2]; rfl) rfl ?_
    refine yp9 5 (by simp [c, ci, hge, seA, hS]; rfl) rfl ?_
    refine yv9 (by simp) (by first | (simp; done) | (simp; rfl)) hbf (by simp; rfl) ?_
    refine yn9 (by simp; rfl) ?_
    refine yt9 rfl (fun h => by simp at h) (fun h => ?_)
    refine yj9 ?_
    repeat (first | refine on_norm ?_ | refine in_norm ?_)
    refine zp9 [0, 3] (by simp [wi]; rfl) ?_
    exact ⟨_, by omega, i + 1, rfl, by omega, hall2, by simp⟩
   | false =>
    rw [hb] at hbf
    have hbad : ordS l = false := by
     cases ho : ordS l with
     | false => rfl
     | true =>
      have := ((ordS_at.1 ho) i e he).2 d (by omega) hd
      rw [this] at hb
      cases hb
    refine wc9 [35] mx (by decide +kernel) ?_
    refine yp9 5 (by simp [c, ci, hge, seA, hS]; rfl) rfl ?_
    refine yv9 (by simp) (by first | (simp; done) | (simp; rfl)) hva (by simp; rfl) ?_
    refine yp9 5 (by simp [hp0, hp1]; rfl) rfl ?_
    refine yp9 6 (by simp [hp0, hp1, hp2, hp3, hp4, hp5, hp6, wd, hgd, seA, hS2]; rfl) rfl ?_
    refine yp9 5 (by simp [c, ci, hge, seA, hS]; rfl) rfl ?_
    refine yv9 (by simp) (by first | (simp; done) | (simp; rfl)) hbf (by simp; rfl) ?_
    refine yn9 (by simp; rfl) ?_
    refine yt9 rfl (fun h => ?_) (fun h => by simp at h)
    refine yr9 [2] (by simp; rfl) ?_
    refine yk9 ?_
    repeat (first | refine ys9 ?_ | refine yd9 ?_)
    simp [retQ, hbad]
 ·have hie : i = l.length := by omega
  have hok : ordS l = true := by
   rw [ordS_at]
   intro m e he
   have hm : m < l.length := (List.getElem?_eq_some_iff.1 he).1
   exact hall m e (by omega) he
  refine yr9 [7] (by simp [hie]; rfl) ?_
  refine yt9 (t := false) (by simp [hie]) (fun h => by simp at h) (fun h => ?_)
  refine zd9 ?_
  repeat (first | refine on_exit ?_ | refine in_exit ?_)
  refine yr9 [2] (by simp; rfl) ?_
  refine yk9 ?_
  repeat (first | refine ys9 ?_ | refine yd9 ?_)
  simp [retQ, hok]
theorem ordS_nm {L : List RE} (h8 : ∀ e ∈ L, e.key.length = 8) : ordS (L.map nmE) = ordE L := by
 rw [Bool.eq_iff_iff, ordS_at, ordE_at]
 have hk : ∀ e ∈ L, symM (nmM e.key) = true → padK (nmM e.key) = e.key := fun e he h => padK_nm (h8 e he) h
 constructor
 ·intro h i e he
  have hm := List.mem_of_getElem? he
  obtain ⟨a, b⟩ := h i (nmE e) (by rw [List.getElem?_map, he]; rfl)
  refine ⟨a, fun d hi hd => ?_⟩
  have hdm := List.mem_of_getElem? hd
  have hd2 := (h (i - 1) (nmE d) (by rw [List.getElem?_map, hd]; rfl)).1
  have := b (nmE d) hi (by rw [List.getElem?_map, hd]; rfl)
  rw [show (nmE d).name = nmM d.key from rfl, show (nmE e).name = nmM e.key from rfl, hk d hdm hd2, hk e hm a] at this
  exact this
 ·intro h i e he
  rw [List.getElem?_map] at he
  obtain ⟨e, he2, rfl⟩ := Option.map_eq_some_iff.1 he
  have hm := List.mem_of_getElem? he2
  obtain ⟨a, b⟩ := h i e he2
  refine ⟨a, fun d hi hd => ?_⟩
  rw [List.getElem?_map] at hd
  obtain ⟨d, hd1, rfl⟩ := Option.map_eq_some_iff.1 hd
  have hdm := List.mem_of_getElem? hd1
  have hd2 := (h (i - 1) d hd1).1
  have := b d hi hd1
  rw [show (nmE d).name = nmM d.key from rfl, show (nmE e).name = nmM e.key from rfl, hk d hdm hd2, hk e hm a]
  exact this
end Go.AM
namespace Go.AM
open Go.RowKit Go.Proofs
set_option linter.unusedSimpArgs false
set_option linter.unusedVariables false
set_option maxHeartbeats 8000000
set_option maxRecDepth 20000
theorem ofNat_wrap (n : Nat) : IntKind.u8.wrap (n : Int) = ((UInt8.ofNat n).toNat : Int) := by
 rw [IntKind.wrap_u8, UInt8.toNat_ofNat']
 omega
theorem rhalf_sound (t : Nat) (ht : t < 65536) : Sound Tryz.prog 120 [.v (.int .i64 (t : Nat))] (.lst .any 1 (byL [UInt8.ofNat (t / 256), UInt8.ofNat t])) := by
 refine vf9 Tryz.func120 rfl (by decide +kernel) (by simp [Tryz.f120]) rfl rfl (rs := [.tmp 2]) rfl ?_
 rw [show Tryz.f120.ntmps = 10 from rfl]
 have h1 : Int.tdiv (t : Int) 256 = ((t / 256 : Nat) : Int) := by rw [Int.tdiv_eq_ediv_of_nonneg (by omega)]; omega
 have h2 : Int.tmod (t : Int) 256 = ((t % 256 : Nat) : Int) := by rw [Int.tmod_eq_emod_of_nonneg (by omega)]; omega
 have w1 : IntKind.i64.wrap ((t / 256 : Nat) : Int) = ((t / 256 : Nat) : Int) := w64 (by omega) (by omega)
 have w2 : IntKind.i64.wrap ((t % 256 : Nat) : Int) = ((t % 256 : Nat) : Int) := w64 (by omega) (by omega)
 have e1 := ofNat_wrap (t / 256)
 have e2 : IntKind.u8.wrap ((t % 256 : Nat) : Int) = ((UInt8.ofNat t).toNat : Int) := by rw [ofNat_wrap, UInt8.toNat_ofNat', UInt8.toNat_ofNat']; congr 1; omega
 obtain ⟨q, hq⟩ : ∃ q, t / 256 = q := ⟨_, rfl⟩
 obtain ⟨r, hr⟩ : ∃ r, t % 256 = r := ⟨_, rfl⟩
 rw [hq] at h1 w1 e1 ⊢
 rw [hr] at h2 w2 e2
 refine yr9 [0, 2] (by simp; rfl) ?_
 refine W_rK [2] ?_
 refine yq9 3 (by simp [h1, w1, e1]; rfl) rfl ?_
 refine yq9 3 (by simp [h2, w2, e2]; rfl) rfl ?_
 refine yw9 (by simp [catK, AV.cellsK, AV.kone, AV.koneL]; rfl) ?_
 refine yk9 ?_
 repeat (first | refine ys9 ?_ | refine yd9 ?_)
 exact ⟨_, by simp [retQ]; exact ⟨rfl, by simp [AV.rf, AV.rfL]⟩, .inr (by simp [AV.plain, AV.plainL, xq9])⟩
structure BytC (H : List AObj) (q cap : Nat) (d : List UInt8) : Prop where
 n : d.length ≤ cap
 mx : cap ≤ maxLen
 o : ∃ z, z.length = cap - d.length ∧ H[q]? = some (.cells 5 (byL (d ++ z)))
theorem BytC.app {s s1 : St} {x1 : AV} {q cap m : Nat} {d y : List UInt8} {cs : List AV} (h : BytC s.h q cap d) (hcs : s.h[q]? = some (.cells 5 cs)) (hm : m = y.length) (ha : appQ0 s 5 1 q d.length cap m (byL y) cs [.v (.int .u8 0)] s1 x1) :
  ∃ q' cap' h', x1 = .arr q' 0 (d ++ y).length cap' ∧ s1 = { s with h := h' } ∧ BytC h' q' cap' (d ++ y) ∧ (∀ k, k ≠ q → k < s.h.length → h'[k]? = s.h[k]?) ∧ s.h.length ≤ h'.length ∧ (q' = q ∨ q' = s.h.length) ∧ (∀ k, s.h.length < k → h'[k]? = none) := by
 obtain ⟨z, hz, hq⟩ := h.o
 have hn := h.n
 rw [hcs] at hq
 have hcs2 : cs = byL (d ++ z) := by
  have := Option.some.inj hq
  injection this
 subst hcs2
 subst hm
 have hql := (List.getElem?_eq_some_iff.1 hcs).1
 rcases ha with ⟨hr, rfl, rfl⟩ | ⟨hr, cap', hc1, hc2, rfl, rfl⟩
 ·refine ⟨q, cap, _, by rw [List.length_append], rfl, ⟨by rw [List.length_append]; exact hr, h.mx, z.drop y.length, by rw [List.length_drop, List.length_append, hz]; omega, ?_⟩, ?_, by simp, .inl rfl, ?_⟩
  ·rw [List.getElem?_set, if_pos rfl, if_pos hql]
   congr 2
   rw [Nat.mul_one, yg9, ← vw9, ← kl9, xl9, List.take_left' rfl, List.drop_append, List.drop_eq_nil_of_le (by omega), Nat.add_sub_cancel_left, List.nil_append, ← xc9, ← xc9]
  ·intro k hk _
   rw [List.getElem?_set, if_neg (Ne.symm hk)]
  ·intro k hk
   rw [List.getElem?_eq_none (by simp; omega)]
 ·refine ⟨s.h.length, cap', _, by rw [List.length_append], rfl, ⟨by rw [List.length_append]; exact hc1, hc2, List.replicate (cap' - (d.length + y.length)) 0, by rw [List.length_replicate, List.length_append], ?_⟩, ?_, by simp, .inr rfl, ?_⟩
  ·rw [List.getElem?_append_right (Nat.le_refl _), Nat.sub_self, Nat.mul_one, ← vw9, List.take_left' rfl, kn9, ← xc9, ← xc9]
   rfl
  ·intro k _ hk
   rw [List.getElem?_append_left hk]
  ·intro k hk
   rw [List.getElem?_eq_none (by simp; omega)]
end Go.AM
namespace Go.AM
open Go.RowKit Go.Proofs
set_option linter.unusedSimpArgs false
set_option linter.unusedVariables false
set_option maxHeartbeats 8000000
set_option maxRecDepth 20000
noncomputable def rbC : Code := Tryz.f85.body.getD .skip
noncomputable def rbB : Code := bkC (sq1 (sq2 (lpC (bkC (sq2 (sq1 (sq2 (sq2 (sq2 rbC)))))))))
def zr100 : List AV := [.v (.int .i64 0), .lst .nil 1 [], .lst .nil 1 [], .v (.bool false)]
def rbS (l : List SE) (n i q cap : Nat) (d K : List UInt8) (H : List AObj) : St := ⟨86, [(0, .lst .any 3 (seL l)), (1, .v (.int .i64 (n : Nat))), (4, .loc 0 0), (5, .arr q 0 d.length cap), (6, .lst .any 1 (byL K)), (7, .v (.int .i64 (i : Nat)))], H⟩
structure rbH (H : List AObj) (q cap : Nat) (d : List UInt8) : Prop where
 b : BytC H q cap d
 q : 0 < q
 o : H[0]? = some (.cells 100 zr100)
theorem rb_one {l : List SE} {n i q cap : Nat} {d K : List UInt8} {H : List AObj} (h : rbH H q cap d) {e : RE} (he : l[i]? = some (nmE e)) (h8 : e.key.length = 8) (hs : symM (nmM e.key) = true) (ht : e.trk < 65536) (hr : e.rn < 256) (hd : d.length ≤ 1000) (hl : l.length ≤ 1000000000) (hn : n ≤ 1000000)
  {Q : Exit → St → Prop} (hQ : ∀ H' q' cap', rbH H' q' cap' (d ++ entB e) → Q .normal (rbS l n i q' cap' (d ++ entB e) (if 21 * n + 21 < l.length then e.key else K) H')) : Wt true 0 Tryz.prog rbB Q (rbS l n i q cap d K H) := by
 obtain ⟨c, hge⟩ := List.getElem?_eq_some_iff.1 he
 have ci : (i : Int) < l.length := by omega
 obtain ⟨ha, hs1, hs8⟩ := uj9 hs
 have hpd := padded_sound (nmM e.key) hs1 hs8 ha
 rw [padK_nm h8 hs] at hpd
 have hhf := rhalf_sound e.trk ht
 obtain ⟨S, hS⟩ : ∃ S, strB (nmM e.key) = S := ⟨_, rfl⟩
 have hSv : ∃ u, S = .v u := ⟨_, hS.symm⟩
 rw [hS] at hpd
 obtain ⟨u, rfl⟩ := hSv
 have hsA : seA (nmE e) = .agg [.v u, .v (.int .i64 (e.trk : Nat)), .v (.int .i64 (e.rn : Nat))] := by rw [← hS]; rfl
 have hw : IntKind.u8.wrap (e.rn : Int) = (e.rn : Int) := by rw [IntKind.wrap_u8]; omega
 obtain ⟨z, hz, ho⟩ := h.b.o
 have hbn := h.b.n
 have hql := (List.getElem?_eq_some_iff.1 ho).1
 unfold rbS
 refine W_rK [0, 1, 4, 5, 6, 7] ?_
 refine yq9 6 (by simp [c, ci, hge, hsA]; rfl) rfl ?_
 refine yf9 (by simp) (by first | (simp; done) | (simp; rfl)) hpd (by simp; rfl) ?_
 refine js9 (t := 90) (e := 5) (sz := 1) (by_ := 1) (id := q) (len := d.length) (cap := cap) (m := e.key.length) (cs := byL (d ++ z)) (yc := byL e.key) (by simp) rfl rfl rfl rfl (by simp) (by simp [srcA, uv9]) s90 a5 z5 (by simp) (by simp [ho]) (by rw [xl9, List.length_append, hz]; omega) (by omega) ?_
 intro s1 x1 ha1
 obtain ⟨q1, cap1, h1, rfl, rfl, hB1, hf1, hl1, hq1, _⟩ := h.b.app ho rfl ha1
 have hq1' : q1 = q ∨ q1 = H.length := hq1
 have hf1' : ∀ k, k ≠ q → k < H.length → h1[k]? = H[k]? := hf1
 have hl1' : H.length ≤ h1.length := hl1
 have hqp := h.q
 have hq1p : 0 < q1 := by omega
 have ho1 : h1[0]? = some (.cells 100 zr100) := by rw [hf1' 0 (by omega) (by omega)]; exact h.o
 obtain ⟨d1, hd1⟩ : ∃ d1, d ++ e.key = d1 := ⟨_, rfl⟩
 rw [hd1] at hB1 ⊢
 have hd1l : d1.length = d.length + 8 := by rw [← hd1, List.length_append, h8]
 refine ⟨_, by simp; rfl, ?_⟩
 refine yw9 (by simp; rfl) ?_
 obtain ⟨z1, hz1, hoo1⟩ := hB1.o
 have hbn1 := hB1.n
 obtain ⟨hf, hhfe⟩ : ∃ hf, [UInt8.ofNat (e.trk / 256), UInt8.ofNat e.trk] = hf := ⟨_, rfl⟩
 rw [hhfe] at hhf
 have hhfl : hf.length = 2 := by rw [← hhfe]; rfl
 refine W_rK [0, 1, 4, 5, 6, 7] ?_
 refine yq9 6 (by simp [c, ci, hge, hsA]; rfl) rfl ?_
 refine yf9 (by simp) (by first | (simp; done) | (simp; rfl)) hhf (by simp; rfl) ?_
 refine js9 (t := 90) (e := 5) (sz := 1) (by_ := 1) (id := q1) (len := d1.length) (cap := cap1) (m := hf.length) (cs := byL (d1 ++ z1)) (yc := byL hf) (by simp) rfl rfl rfl rfl (by simp) (by simp [srcA, uv9]) s90 a5 z5 (by simp) (by simp [hoo1]) (by rw [xl9, List.length_append, hz1]; omega) (by omega) ?_
 intro s1 x1 ha2
 obtain ⟨q2, cap2, h2, rfl, rfl, hB2, hf2, hl2, hq2, _⟩ := hB1.app hoo1 rfl ha2
 have hq2' : q2 = q1 ∨ q2 = h1.length := hq2
 have hf2' : ∀ k, k ≠ q1 → k < h1.length → h2[k]? = h1[k]? := hf2
 have hl2' : h1.length ≤ h2.length := hl2
 have hq2p : 0 < q2 := by omega
 have ho2 : h2[0]? = some (.cells 100 zr100) := by rw [hf2' 0 (by omega) (by omega)]; exact ho1
 obtain ⟨d2, hd2⟩ : ∃ d2, d1 ++ hf = d2 := ⟨_, rfl⟩
 rw [hd2] at hB2 ⊢
 have hd2l : d2.length = d1.length + 2 := by rw [← hd2, List.length_append, hhfl]
 refine ⟨_, by simp; rfl, ?_⟩
 refine yw9 (by simp; rfl) ?_
 obtain ⟨z2, hz2, hoo2⟩ := hB2.o
 have hbn2 := hB2.n
 have hq2l := (List.getElem?_eq_some_iff.1 hoo2).1
 refine W_rK [0, 1, 4, 5, 6, 7] ?_
 refine yq9 7 (by simp [c, ci, hge, hsA, hw]; rfl) rfl ?_
 refine zg8 (by simp) ⟨_, by simp [jl9, evBsO, catK, AV.cellsK, AV.kone, AV.koneL, show List.range 2 = [0, 1] from rfl]; rfl, ?_⟩
 have hrb : [AV.v (.int .u8 (e.rn : Nat)), AV.v (.int .u8 0)] = byL [UInt8.ofNat e.rn, 0] := by
  have : (UInt8.ofNat e.rn).toNat = e.rn := by rw [UInt8.toNat_ofNat']; omega
  simp [xq9, this]
 have hB2x : BytC (h2 ++ [.cells 5 [AV.v (.int .u8 (e.rn : Nat)), AV.v (.int .u8 0)]]) q2 cap2 d2 := ⟨hbn2, hB2.mx, z2, hz2, by rw [List.getElem?_append_left hq2l]; exact hoo2⟩
 have hoo2x : (h2 ++ [.cells 5 [AV.v (.int .u8 (e.rn : Nat)), AV.v (.int .u8 0)]])[q2]? = some (AObj.cells 5 (byL (d2 ++ z2))) := by rw [List.getElem?_append_left hq2l]; exact hoo2
 refine js9 (t := 90) (e := 5) (sz := 1) (by_ := 1) (id := q2) (len := d2.length) (cap := cap2) (m := ([UInt8.ofNat e.rn, 0] : List UInt8).length) (cs := byL (d2 ++ z2)) (yc := byL [UInt8.ofNat e.rn, 0]) (by simp) rfl rfl rfl rfl (by simp) (by simp [srcA, ← hrb]) s90 a5 z5 (by simp) hoo2x (by rw [xl9, List.length_append, hz2]; omega) (by rw [hd2l, hd1l]; simp; omega) ?_
 intro s1 x1 ha3
 obtain ⟨q3, cap3, h3, rfl, rfl, hB3, hf3, hl3, hq3, _⟩ := BytC.app (s := ⟨86, _, h2 ++ [.cells 5 [AV.v (.int .u8 (e.rn : Nat)), AV.v (.int .u8 0)]]⟩) hB2x hoo2x rfl ha3
 have hq3' : q3 = q2 ∨ q3 = h2.length + 1 := by simpa using hq3
 have hf3' : ∀ k, k ≠ q2 → k < h2.length → h3[k]? = h2[k]? := by
  intro k hk1 hk2
  have := hf3 k hk1 (by simp; omega)
  rw [this]
  exact List.getElem?_append_left hk2
 have hq3p : 0 < q3 := by omega
 have ho3 : h3[0]? = some (.cells 100 zr100) := by rw [hf3' 0 (by omega) (by omega)]; exact ho2
 obtain ⟨d3, hd3⟩ : ∃ d3, d2 ++ [UInt8.ofNat e.rn, 0] = d3 := ⟨_, rfl⟩
 rw [hd3] at hB3 ⊢
 have hdE : d ++ entB e = d3 := by rw [← hd3, ← hd2, ← hd1, ← hhfe, entB]; simp
 rw [hdE] at hQ
 have hfin := hQ h3 q3 cap3 ⟨hB3, hq3p, ho3⟩
 refine ⟨_, by simp; rfl, ?_⟩
 refine yw9 (by simp; rfl) ?_
 have wb1 : IntKind.i64.wrap (21 * (n : Int)) = 21 * (n : Int) := w64 (by omega) (by omega)
 have wb2 : IntKind.i64.wrap (21 * (n : Int) + 21) = 21 * (n : Int) + 21 := w64 (by omega) (by omega)
 by_cases c21 : 21 * n + 21 < l.length
 ·have c21i : 21 * (n : Int) + 21 < (l.length : Nat) := by omega
  rw [if_pos c21] at hfin
  refine yr9 [0, 1, 4, 5, 6, 7, 55] (by simp [wb1, wb2, c21, c21i]; rfl) ?_
  refine yt9 (t := true) (by simp [c21, c21i]) (fun h => ?_) (fun h => by simp at h)
  refine W_rE [0, 1, 4, 5, 6, 7] ?_
  refine yq9 5 (by simp [c, ci, hge, hsA]; rfl) rfl ?_
  refine yf9 (by simp) (by first | (simp; done) | (simp; rfl)) hpd (by simp; rfl) ?_
  refine yw9 (by simp; rfl) ?_
  exact hfin
 ·have c21i : ¬ 21 * (n : Int) + 21 < (l.length : Nat) := by omega
  rw [if_neg c21] at hfin
  refine yr9 [0, 1, 4, 5, 6, 7, 55] (by simp [wb1, wb2, c21, c21i]; rfl) ?_
  refine yt9 (t := false) (by simp [c21, c21i]) (fun h => by simp at h) (fun h => ?_)
  refine ym9 [0, 1, 4, 5, 6, 7] ?_
  refine yj9 ?_
  exact hfin
end Go.AM
namespace Go.AM
open Go.RowKit Go.Proofs
set_option linter.unusedSimpArgs false
set_option linter.unusedVariables false
set_option maxHeartbeats 8000000
set_option maxRecDepth 20000
noncomputable def rbT : Code := sq2 (sq2 (sq2 (sq2 rbC)))
def rbR (n k : Nat) (K body : List UInt8) : Rec := ⟨((n % 6 + 1 : Nat) : Int), K, [0, UInt8.ofNat (2 + 12 * k)] ++ body ++ List.replicate (254 - 12 * k) 0, false⟩
theorem rb_tail {H : List AObj} {q cap n k : Nat} {K body : List UInt8} (h : rbH H q cap ([0, 0] ++ body)) (hbl : body.length = 12 * k) (hk : k ≤ 21) (hn : n ≤ 1000000) :
  Wt true 0 Tryz.prog rbT (retN Tryz.prog [.cell 4 100] (recA (rbR n k K body))) ⟨86, [(1, .v (.int .i64 (n : Nat))), (4, .loc 0 0), (5, .arr q 0 (2 + 12 * k) cap), (6, .lst .any 1 (byL K))], H⟩ := by
 obtain ⟨z, hz, ho⟩ := h.b.o
 have hbn := h.b.n
 have hqp := h.q
 have hql := (List.getElem?_eq_some_iff.1 ho).1
 have hdl : ([0, 0] ++ body : List UInt8).length = 2 + 12 * k := by rw [List.length_append, hbl]; rfl
 rw [hdl] at hbn hz
 obtain ⟨c, hc⟩ : ∃ c, 2 + 12 * k = c := ⟨_, rfl⟩
 have hc2 : 2 ≤ c := by omega
 have hc254 : c ≤ 254 := by omega
 rw [hc] at hbn hz ⊢
 have t1 : Int.tdiv (c : Int) 256 = 0 := by rw [Int.tdiv_eq_ediv_of_nonneg (by omega)]; omega
 have t2 : Int.tmod (c : Int) 256 = (c : Int) := by rw [Int.tmod_eq_emod_of_nonneg (by omega)]; omega
 have w2 : IntKind.i64.wrap (c : Int) = (c : Int) := w64 (by omega) (by omega)
 have w3 : IntKind.u8.wrap (c : Int) = (c : Int) := by rw [IntKind.wrap_u8]; omega
 have p0 : 0 < c := by omega
 have p0i : (0 : Int) < (c : Int) := by omega
 have p1 : 1 < c := by omega
 have p1i : (1 : Int) < (c : Int) := by omega
 have hcl : (byL (([0, 0] ++ body) ++ z)).length = 2 + body.length + z.length := by rw [xl9, List.length_append, List.length_append]; rfl
 have l1 : 1 ≤ body.length + z.length + 1 + 1 := by omega
 refine W_rK [1, 4, 5, 6] ?_
 refine yq9 6 (by simp [t1, show IntKind.i64.wrap 0 = 0 from by decide, show IntKind.u8.wrap 0 = 0 from by decide]; rfl) rfl ?_
 refine yq9 4 (by simp [t2, w2, w3]; rfl) rfl ?_
 refine yq9 2 (by simp [p0, p0i, ho]; rfl) rfl ?_
 have hset0 : yg9 (byL (0 :: 0 :: (body ++ z))) 0 [AV.v (.int .u8 0)] = byL (0 :: 0 :: (body ++ z)) := by simp [yg9, xq9]
 have hcc : ((UInt8.ofNat c).toNat : Int) = (c : Int) := by rw [UInt8.toNat_ofNat']; omega
 have hset1 : yg9 (byL (0 :: 0 :: (body ++ z))) 1 [AV.v (.int .u8 (c : Int))] = byL (0 :: UInt8.ofNat c :: (body ++ z)) := by simp only [yg9, xq9, hcc]; rfl
 rw [hset0]
 refine yw9 (by simp [p1, p1i, hql, List.getElem?_set]; rfl) ?_
 rw [hset1]
 obtain ⟨H2, hH2⟩ : ∃ H2, H.set q (AObj.cells 5 (byL (0 :: UInt8.ofNat c :: (body ++ z)))) = H2 := ⟨_, rfl⟩
 have hB2 : rbH H2 q cap ([0, UInt8.ofNat c] ++ body) := by
  refine ⟨⟨?_, h.b.mx, z, ?_, ?_⟩, hqp, ?_⟩
  ·rw [List.length_append, hbl]; simp <;> omega
  ·rw [List.length_append, hbl, hz, ← hc]; simp <;> omega
  ·rw [← hH2, List.getElem?_set, if_pos rfl, if_pos hql]; rfl
  ·rw [← hH2, List.getElem?_set, if_neg (by omega)]; exact h.o
 rw [hH2]
 clear hz ho hset0 hset1 hcl
 refine yh9 ?_
 refine yl9 ?_
 have hD : rbR n k K body = ⟨((n % 6 + 1 : Nat) : Int), K, [0, UInt8.ofNat c] ++ body ++ List.replicate (254 - 12 * k) 0, false⟩ := by rw [← hc]; rfl
 rw [hD]
 refine zg9 (fun y σ => ∃ (r q cap : Nat) (H : List AObj) (d : List UInt8), y = 254 - 12 * k - r ∧ r ≤ 254 - 12 * k ∧ [0, UInt8.ofNat c] ++ body ++ List.replicate r 0 = d ∧ rbH H q cap d ∧ σ = ⟨86, [(1, .v (.int .i64 (n : Nat))), (4, .loc 0 0), (5, .arr q 0 d.length cap), (6, .lst .any 1 (byL K))], H⟩) (k := 254 - 12 * k)
  ⟨0, q, cap, H2, [0, UInt8.ofNat c] ++ body, rfl, by omega, by simp, hB2, by rw [show ([0, UInt8.ofNat c] ++ body).length = c by rw [List.length_append, hbl, ← hc]; rfl]; rfl⟩ ?_
 clear hB2 hH2 hbn hql
 rintro y σ ⟨r, q, cap, H, d, rfl, hr, hd, hB, rfl⟩
 have hdl : d.length = c + r := by rw [← hd, List.length_append, List.length_append, hbl, List.length_replicate, ← hc]; simp <;> omega
 refine yh9 ?_
 by_cases cr : r < 254 - 12 * k
 ·have c256 : d.length < 256 := by omega
  have c256i : (d.length : Int) < 256 := by omega
  obtain ⟨z, hz, ho⟩ := hB.b.o
  have hbn := hB.b.n
  have hql := (List.getElem?_eq_some_iff.1 ho).1
  refine yr9 [1, 4, 5, 6, 76] (by simp [c256, c256i]; rfl) ?_
  refine yt9 (t := true) (by simp [c256, c256i]) (fun h => ?_) (fun h => by simp at h)
  refine yj9 ?_
  repeat (first | refine on_norm ?_ | refine in_norm ?_)
  refine yl9 ?_
  refine W_rE [1, 4, 5, 6] ?_
  refine yq9 1 (by simp; rfl) rfl ?_
  refine zg8 (by simp) ⟨_, by simp [jl9, evBsO, catK, AV.cellsK, AV.kone, AV.koneL]; rfl, ?_⟩
  have hBx : BytC (H ++ [.cells 5 [AV.v (.int .u8 0)]]) q cap d := ⟨hbn, hB.b.mx, z, hz, by rw [List.getElem?_append_left hql]; exact ho⟩
  have hox : (H ++ [.cells 5 [AV.v (.int .u8 0)]])[q]? = some (AObj.cells 5 (byL (d ++ z))) := by rw [List.getElem?_append_left hql]; exact ho
  refine js9 (t := 90) (e := 5) (sz := 1) (by_ := 1) (id := q) (len := d.length) (cap := cap) (m := ([0] : List UInt8).length) (cs := byL (d ++ z)) (yc := byL [0]) (by simp) rfl rfl rfl rfl (by simp) (by simp [srcA, xq9]) s90 a5 z5 (by simp) hox (by rw [xl9, List.length_append, hz]; omega) (by simp; omega) ?_
  intro s1 x1 ha3
  obtain ⟨q3, cap3, h3, rfl, rfl, hB3, hf3, hl3, hq3, _⟩ := BytC.app (s := ⟨86, _, H ++ [.cells 5 [AV.v (.int .u8 0)]]⟩) hBx hox rfl ha3
  have hq3' : q3 = q ∨ q3 = H.length + 1 := by simpa using hq3
  have hqp := hB.q
  have ho3 : h3[0]? = some (.cells 100 zr100) := by
   rw [hf3 0 (by omega) (by simp)]
   simp only
   rw [List.getElem?_append_left (by omega)]
   exact hB.o
  have hd3 : [0, UInt8.ofNat c] ++ body ++ List.replicate (r + 1) 0 = d ++ [0] := by rw [← hd, List.replicate_succ', List.append_assoc, List.append_assoc, List.append_assoc]
  obtain ⟨d3, hd3'⟩ : ∃ d3, d ++ [0] = d3 := ⟨_, rfl⟩
  rw [hd3'] at hB3 hd3 ⊢
  refine ⟨_, by simp; rfl, ?_⟩
  refine yw9 (by simp; rfl) ?_
  repeat (first | refine on_norm ?_ | refine in_norm ?_)
  exact ⟨_, by omega, r + 1, q3, cap3, h3, d3, rfl, by omega, hd3, ⟨hB3, by omega, ho3⟩, rfl⟩
 ·have hre : r = 254 - 12 * k := by omega
  subst hre
  rw [hd]
  have hdl2 : d.length = 256 := by omega
  rw [hdl2]
  refine yr9 [1, 4, 5, 6, 76] (by simp; rfl) ?_
  refine yt9 (t := false) (by simp) (fun h => by simp at h) (fun h => ?_)
  refine ym9 [1, 4, 5, 6] ?_
  refine zd9 ?_
  repeat (first | refine on_exit ?_ | refine in_exit ?_)
  have wr1 : Int.tmod (n : Int) 6 = ((n % 6 : Nat) : Int) := by rw [Int.tmod_eq_emod_of_nonneg (by omega)]; omega
  have wr2 : IntKind.i64.wrap (((n % 6 : Nat) : Int) + 1) = ((n % 6 + 1 : Nat) : Int) := by rw [w64 (by omega) (by omega)]; omega
  obtain ⟨i6, hi6⟩ : ∃ i6, n % 6 = i6 := ⟨_, rfl⟩
  rw [hi6] at wr1 wr2 ⊢
  have ho := hB.o
  have hql : 0 < H.length := (List.getElem?_eq_some_iff.1 ho).1
  refine W_rK [4] ?_
  refine yq9 5 (by simp [wr1, wr2]; rfl) rfl ?_
  refine yw9 (by simp [yg9, ho, zr100]; rfl) ?_
  refine yk9 ?_
  repeat (first | refine ys9 ?_ | refine yd9 ?_)
  obtain ⟨z, hz, hoq⟩ := hB.b.o
  have hqp := hB.q
  have hq2 : (H.set 0 (AObj.cells 100 [.v (.int .i64 ((i6 : Int) + 1)), .lst .any 1 (byL K), .arr q 0 256 cap, .v (.bool false)]))[q]? = some (.cells 5 (byL (d ++ z))) := by rw [List.getElem?_set, if_neg (by omega)]; exact hoq
  obtain ⟨o, hoo, hfz⟩ := frz_by2 (n := 256) (cq := cap) hq2 (by rw [List.length_append, hdl2]; omega)
  rw [List.take_left' hdl2] at hfz
  rcases hoo with rfl | rfl
  all_goals exact ⟨_, by simp [retQ, frzV, frzL, hfz, hql]; exact ⟨rfl, by simp [AV.rf, AV.rfL]⟩, .inr (by simp [AV.plain, AV.plainL])⟩
end Go.AM
namespace Go.AM
open Go.RowKit Go.Proofs
set_option linter.unusedSimpArgs false
set_option linter.unusedVariables false
set_option maxHeartbeats 8000000
set_option maxRecDepth 20000
def keyJ (L P : List RE) (n j : Nat) : List UInt8 := if 21 * n + 21 < L.length ∧ 0 < j then (P.getD (j - 1) ⟨[], 0, 0⟩).key else ffL
theorem rblock24_sound (L : List RE) (n : Nat) (h8 : ∀ e ∈ L, e.key.length = 8) (hs : ∀ e ∈ L, symM (nmM e.key) = true) (hb : ∀ e ∈ L, e.trk < 65536 ∧ e.rn < 256) (hl : L.length ≤ 1000000) (hn : n ≤ 1000000) :
  Sound Tryz.prog 85 [.lst .any 3 (seL (L.map nmE)), .v (.int .i64 (n : Nat))] (recA (blkE L n)) := by
 refine vf9 Tryz.func85 rfl (by decide +kernel) (by simp [Tryz.f85]) (by simp [AV.rfL, AV.rf]) (by simp [AV.tlL, AV.tl]) (rs := [.cell 4 100]) rfl ?_
 rw [show Tryz.f85.ntmps = 86 from rfl]
 obtain ⟨P, hP⟩ : ∃ P, partE L n = P := ⟨_, rfl⟩
 have hPl : P.length ≤ 21 := by rw [← hP]; exact partE_len L n
 have hPn : P.length = min 21 (L.length - 21 * n) := by rw [← hP, partE, List.length_take, List.length_drop]
 have hP8 : ∀ e ∈ P, e.key.length = 8 := fun e he => h8 e (partE_mem (hP ▸ he))
 have hPg : ∀ j e, P[j]? = some e → L[21 * n + j]? = some e := by
  intro j e he
  have hj := (List.getElem?_eq_some_iff.1 he).1
  rw [← hP, partE, List.getElem?_take, if_pos (by omega), List.getElem?_drop] at he
  exact he
 have w0 : IntKind.i64.wrap (21 * (n : Int)) = 21 * (n : Int) := w64 (by omega) (by omega)
 have w0' : IntKind.i64.wrap (21 * (n : Int) + 21) = 21 * (n : Int) + 21 := w64 (by omega) (by omega)
 have hll : (L.map nmE).length = L.length := by simp
 obtain ⟨l, hlE⟩ : ∃ l, L.map nmE = l := ⟨_, rfl⟩
 rw [hlE] at hll ⊢
 refine yr9 [0, 1, 4] (by simp; rfl) ?_
 refine W_rK [0, 1, 4, 5] ?_
 refine zg8 (by simp) ⟨_, by simp [jl9, evBsO, catK, AV.cellsK, AV.kone, AV.koneL, show List.range 2 = [0, 1] from rfl]; rfl, ?_⟩
 refine yw9 (by simp; rfl) ?_
 refine yr9 [0, 1, 4, 5, 6] (by simp [catK, AV.cellsK, AV.kone, AV.koneL, show List.range 8 = [0, 1, 2, 3, 4, 5, 6, 7] from rfl]; rfl) ?_
 refine W_any 6 (o := .tip 5 38) (sz := 1) (xs := byL ffL) rfl ?_
 refine yh9 ?_
 refine yr9 [0, 1, 4, 5, 6, 7] (by simp [putF, w0]; rfl) ?_
 refine yl9 ?_
 refine zg9 (fun z σ => ∃ (j q cap : Nat) (H : List AObj), z = P.length - j ∧ j ≤ P.length ∧ rbH H q cap ([0, 0] ++ kr9 (P.take j)) ∧ σ = rbS l n (21 * n + j) q cap ([0, 0] ++ kr9 (P.take j)) (keyJ L P n j) H) (k := P.length)
  ⟨0, 1, 2, [.cells 100 zr100, .cells 5 (byL [0, 0])], rfl, by omega, ⟨⟨by simp [kr9], by simp [maxLen], [], by simp [kr9], rfl⟩, by omega, rfl⟩, by simp [rbS, keyJ, kr9, zr100, xq9]⟩ ?_
 rintro z σ ⟨j, q, cap, H, rfl, hj, hH, rfl⟩
 have hbl : (kr9 (P.take j)).length = 12 * j := by rw [xr8 (fun e he => hP8 e (List.mem_of_mem_take he)), List.length_take]; omega
 obtain ⟨d, hd⟩ : ∃ d, [0, 0] ++ kr9 (P.take j) = d := ⟨_, rfl⟩
 have hdl : d.length = 2 + 12 * j := by rw [← hd, List.length_append, hbl]; rfl
 rw [hd] at hH ⊢
 refine yh9 ?_
 by_cases c : j < P.length
 ·obtain ⟨e, he⟩ : ∃ e, P[j]? = some e := ⟨_, List.getElem?_eq_getElem c⟩
  have heL := hPg j e he
  have hem := List.mem_of_getElem? heL
  have hel : l[21 * n + j]? = some (nmE e) := by rw [← hlE, List.getElem?_map, heL]; rfl
  have wi := w64 (n := 21 * (n : Int) + (j : Int) + 1) (by omega) (by omega)
  have c1 : 21 * n + j < 21 * n + 21 := by omega
  have c1i : 21 * (n : Int) + (j : Int) < 21 * (n : Int) + 21 := by omega
  have c2 : 21 * n + j < l.length := by omega
  have c2i : 21 * (n : Int) + (j : Int) < (l.length : Nat) := by omega
  refine yr9 [0, 1, 4, 5, 6, 7, 22] (by simp [rbS, w0, w0', c1, c1i, c2, c2i, show (j : Int) < 21 by omega, show j < 21 by omega]; rfl) ?_
  refine yt9 (t := true) (by simp) (fun h => ?_) (fun h => by simp at h)
  refine yj9 ?_
  repeat (first | refine on_norm ?_ | refine in_norm ?_)
  refine ym9 [0, 1, 4, 5, 6, 7] ?_
  refine yh9 ?_
  refine yl9 ?_
  have hbe := hb e hem
  refine rb_one hH hel (h8 e hem) (hs e hem) hbe.1 hbe.2 (by omega) (by omega) (by omega) (K := keyJ L P n j) fun H' q' cap' hH' => ?_
  have htk : P.take (j + 1) = P.take j ++ [e] := by rw [List.take_add_one, he]; rfl
  have hd2 : d ++ entB e = [0, 0] ++ kr9 (P.take (j + 1)) := by rw [← hd, htk]; simp [kr9]
  have hkj : (if 21 * n + 21 < l.length then e.key else keyJ L P n j) = keyJ L P n (j + 1) := by
   rw [hll]
   by_cases cc : 21 * n + 21 < L.length
   ·rw [if_pos cc, keyJ, if_pos ⟨cc, by omega⟩, Nat.add_sub_cancel, List.getD_eq_getElem?_getD, he]; rfl
   ·rw [if_neg cc, keyJ, keyJ, if_neg (fun h => cc h.1), if_neg (fun h => cc h.1)]
  rw [hkj]
  rw [hd2] at hH' ⊢
  obtain ⟨d3, hd3⟩ : ∃ d3, [0, 0] ++ kr9 (P.take (j + 1)) = d3 := ⟨_, rfl⟩
  rw [hd3] at hH' ⊢
  repeat (first | refine on_norm ?_ | refine in_norm ?_)
  refine zp9 [0, 1, 4, 5, 6, 7] (by simp [rbS, wi]; rfl) ?_
  exact ⟨_, by omega, j + 1, q', cap', H', rfl, by omega, hd3 ▸ hH', by rw [hd3]; simp [rbS, Int.add_assoc]⟩
 ·have hje : j = P.length := by omega
  have hge : ¬ (21 * n + j < 21 * n + 21 ∧ 21 * n + j < l.length) := by omega
  have hfinal : Wt true 0 Tryz.prog rbT (retN Tryz.prog [.cell 4 100] (recA (blkE L n))) ⟨86, [(1, .v (.int .i64 (n : Nat))), (4, .loc 0 0), (5, .arr q 0 d.length cap), (6, .lst .any 1 (byL (keyJ L P n j)))], H⟩ := by
   have hkey : keyJ L P n j = keyE L n := by
    unfold keyJ keyE
    by_cases cc : 21 * n + 21 < L.length
    ·have hP21 : P.length = 21 := by omega
     rw [if_pos ⟨cc, by omega⟩, if_pos cc, hje, hP21]
     have h20 : P[20]? = L[21 * n + 20]? := by
      rw [← hP, partE, List.getElem?_take, if_pos (by omega), List.getElem?_drop]
     rw [List.getD_eq_getElem?_getD, List.getD_eq_getElem?_getD, show 21 - 1 = 20 from rfl, h20]
    ·rw [if_neg (fun h => cc h.1), if_neg cc]
   have hbody : kr9 (P.take j) = kr9 P := by rw [hje, List.take_length]
   rw [← hd] at hH
   rw [hbody] at hH hbl
   have := rb_tail (n := n) (K := keyJ L P n j) hH hbl (by omega) hn
   rw [hdl]
   have he : rbR n j (keyJ L P n j) (kr9 P) = blkE L n := by rw [rbR, blkE, hkey, hP, dataE, hje]
   rw [he] at this
   exact this
  by_cases c21 : j < 21
  ·have c2 : ¬ 21 * n + j < l.length := by omega
   have c2i : ¬ 21 * (n : Int) + (j : Int) < (l.length : Nat) := by omega
   refine yr9 [1, 4, 5, 6, 22] (by simp [rbS, w0, w0', c2, c2i, show (j : Int) < 21 by omega, c21]; rfl) ?_
   refine yt9 (t := false) (by simp) (fun h => by simp at h) (fun h => ?_)
   refine ym9 [1, 4, 5, 6] ?_
   refine zd9 ?_
   repeat (first | refine on_exit ?_ | refine in_exit ?_)
   exact hfinal
  ·refine yr9 [1, 4, 5, 6, 22] (by simp [rbS, w0, w0', show ¬ (j : Int) < 21 by omega, c21]; rfl) ?_
   refine yt9 (t := false) (by simp) (fun h => by simp at h) (fun h => ?_)
   refine ym9 [1, 4, 5, 6] ?_
   refine zd9 ?_
   repeat (first | refine on_exit ?_ | refine in_exit ?_)
   exact hfinal
end Go.AM
namespace Go.AM
open Go.RowKit Go.Proofs
set_option linter.unusedSimpArgs false
set_option linter.unusedVariables false
set_option maxHeartbeats 8000000
set_option maxRecDepth 20000
theorem okAt.sw {x : AV} {t : List Rec} (h : okAt x t) (i j : Nat) : x.sw i j = x := by
 rcases h with rfl | ⟨f, rfl, _⟩ <;> simp [AV.sw]
theorem swL_ok {cs : List AV} (i j : Nat) (h : ∀ x ∈ cs, ∃ t, okAt x t) : AV.swL i j cs = cs := by
 induction cs with
 | nil => rfl
 | cons x cs ih =>
  obtain ⟨t, ht⟩ := h x List.mem_cons_self
  simp only [AV.swL, ht.sw, ih (fun y hy => h y (List.mem_cons_of_mem _ hy))]
theorem chunk_take : ∀ (m : Nat) (xs : List AV), m ≤ xs.length → chunk false 1 m xs = xs.take m
 | 0, xs, _ => by simp [chunk]
 | m + 1, [], h => by simp at h
 | m + 1, x :: xs, h => by
  simp only [chunk, List.headD_cons, List.drop_succ_cons, List.drop_zero, List.take_succ_cons, Bool.false_eq_true, if_false]
  rw [chunk_take m xs (by simpa using h)]
theorem weakL_take24 (xs : List AV) (n : Nat) : AV.weakL (xs.take n) = (AV.weakL xs).take n := by
 apply List.ext_getElem?
 intro j
 rw [vr9, List.getElem?_take, List.getElem?_take]
 split
 ·rw [vr9]
 ·rfl
noncomputable def rdX : Code := bkC (sq1 (sq2 (lpC (bkC (sq2 (sq1 (sq2 (sq2 (Tryz.f47.body.getD .skip)))))))))
theorem rdir_put {l : List SE} {n i cap x : Nat} {A : List (List Rec)} {cs : List AV} {B : Rec} (hblk : Sound Tryz.prog 85 [.lst .any 3 (seL l), .v (.int .i64 (i : Nat))] (recA B)) (hrc : RC A cap cs) (hne : A ≠ []) (hxl : A.length = x + 1) (hx : i / 6 = x) (hi : i ≤ 1000) (hnl : (xk9 A).length ≤ 6)
  {Q : Exit → St → Prop} (hQ : ∀ cs', RC (A.dropLast ++ [xk9 A ++ [B]]) cap cs' → Q .normal ⟨33, [(0, .lst .any 3 (seL l)), (1, .v (.int .i64 (n : Nat))), (5, .arr 0 0 (x + 1) cap), (6, .v (.int .i64 (i : Nat)))], [.cells 80 cs']⟩) :
  Wt true 0 Tryz.prog (sq2 rdX) Q ⟨33, [(0, .lst .any 3 (seL l)), (1, .v (.int .i64 (n : Nat))), (5, .arr 0 0 (x + 1) cap), (6, .v (.int .i64 (i : Nat)))], [.cells 80 cs]⟩ := by
 have wq : Int.tdiv (i : Int) 6 = (x : Nat) := by rw [Int.tdiv_eq_ediv_of_nonneg (by omega)]; omega
 have wx : IntKind.i64.wrap (x : Nat) = (x : Nat) := w64 (by omega) (by omega)
 have hcl := hrc.len
 have hce := hrc.le
 simp only [recA] at hblk
 have hle1 : x + 1 ≤ cs.length := by omega
 have h1 : x < x + 1 := by omega
 have h1i : (x : Int) < (x : Int) + 1 := by omega
 obtain ⟨y, hcx, f, rfl, hf⟩ := hrc.last hne
 rw [show A.length - 1 = x by omega] at hcx
 obtain ⟨now, hnow⟩ : ∃ now, xk9 A = now := ⟨_, rfl⟩
 rw [hnow] at hcx hf hnl hQ
 have b3 : (now.length + 1) * 64 ≤ 140737488355328 := by omega
 have b4 : 64 * (now.length + 1) ≤ 140737488355328 := by omega
 have hsn : trL now ++ [AV.agg [.v (.int .i64 B.R), .lst .any 1 (byL B.key), .lst .any 1 (byL B.data), .v (.bool B.bad)]] = trL (now ++ [B]) := trL_snoc1 now B
 have hxx : A.length - 1 = x := by omega
 rcases hf with rfl | ⟨U, hU, rfl⟩ | ⟨rfl, h0⟩
 ·have hnew := hrc.grow0 hne (t' := now ++ [B]) (x := .lst (.tip 100 61) 4 (trL (now ++ [B]))) ⟨_, rfl, .inr (.inl ⟨61, by decide, rfl⟩)⟩
  rw [hxx] at hnew
  refine W_rdE [0, 1, 5, 6] mx (by decide +kernel) ?_
  refine yp9 6 (by simp [wq, wx]; rfl) rfl ?_
  refine yp9 4 (by simp [wq, wx, h1, h1i, hcx]; rfl) rfl ?_
  refine yv9 (by simp) (by first | (simp; done) | (simp; rfl)) hblk (by simp; rfl) ?_
  refine yn9 (by simp [wq, wx, h1, h1i, hcx, hle1, catK, AV.cellsK, AV.kone, AV.koneL, b3, b4, hsn]; rfl) ?_
  exact hQ _ hnew
 ·have hnew := hrc.grow (T := U) hne (t' := now ++ [B]) (x := .lst (.tip 100 U) 4 (trL (now ++ [B]))) ⟨_, rfl, .inr (.inl ⟨U, hU, rfl⟩)⟩
  rw [hxx] at hnew
  have hkl := killL_len U cs
  have hle2 : x + 1 ≤ (AV.killL U cs).length := by omega
  refine W_rdE [0, 1, 5, 6] mx (by decide +kernel) ?_
  refine yp9 6 (by simp [wq, wx]; rfl) rfl ?_
  refine yp9 4 (by simp [wq, wx, h1, h1i, hcx]; rfl) rfl ?_
  refine yv9 (by simp) (by first | (simp; done) | (simp; rfl)) hblk (by simp; rfl) ?_
  refine yn9 (by simp [wq, wx, h1, h1i, hcx, hle1, hle2, catK, AV.cellsK, AV.kone, AV.koneL, b3, b4, hsn, AObj.kill, hU]; rfl) ?_
  exact hQ _ hnew
 ·subst h0
  have hnew := hrc.grow0 hne (t' := [B]) (x := .lst (.tip 100 61) 4 (trL [B])) ⟨_, rfl, .inr (.inl ⟨61, by decide, rfl⟩)⟩
  rw [hxx] at hnew
  refine W_rdE [0, 1, 5, 6] mx (by decide +kernel) ?_
  refine yp9 6 (by simp [wq, wx]; rfl) rfl ?_
  refine yp9 4 (by simp [wq, wx, h1, h1i, hcx]; rfl) rfl ?_
  refine yv9 (by simp) (by first | (simp; done) | (simp; rfl)) hblk (by simp; rfl) ?_
  refine yn9 (by simp [wq, wx, h1, h1i, hcx, hle1, catK, AV.cellsK, AV.kone, AV.koneL]; rfl) ?_
  exact hQ _ hnew
theorem rdir_sound (L : List RE) (n : Nat) (h8 : ∀ e ∈ L, e.key.length = 8) (hs : ∀ e ∈ L, symM (nmM e.key) = true) (hb : ∀ e ∈ L, e.trk < 65536 ∧ e.rn < 256) (hl : L.length ≤ 1000000) (hn : n ≤ 1000) :
  Sound Tryz.prog 47 [.lst .any 3 (seL (L.map nmE)), .v (.int .i64 (n : Nat))] (.lst .any 1 (arL (layG L n))) := by
 refine vf9 Tryz.func47 rfl (by decide +kernel) (by simp [Tryz.f47]) (by simp [AV.rfL, AV.rf]) (by simp [AV.tlL, AV.tl]) (rs := [.tmp 4]) rfl ?_
 rw [show Tryz.f47.ntmps = 33 from rfl]
 obtain ⟨l, hlE⟩ : ∃ l, L.map nmE = l := ⟨_, rfl⟩
 refine yr9 [0, 1, 4] (by simp; rfl) ?_
 refine yr9 [0, 1, 5] (by simp; rfl) ?_
 refine yh9 ?_
 refine yr9 [0, 1, 5, 6] (by simp; rfl) ?_
 refine yl9 ?_
 rw [hlE]
 refine zg9 (fun z σ => ∃ (i : Nat) (x : AV) (H : List AObj), z = n - i ∧ i ≤ n ∧ ((i = 0 ∧ x = .lst .nil 1 [] ∧ H = []) ∨ (0 < i ∧ ∃ cap cs, x = .arr 0 0 ((i + 5) / 6) cap ∧ cap ≤ maxLen ∧ RC (layG L i) cap cs ∧ H = [.cells 80 cs])) ∧
  σ = ⟨33, [(0, .lst .any 3 (seL l)), (1, .v (.int .i64 (n : Nat))), (5, x), (6, .v (.int .i64 (i : Nat)))], H⟩) (k := n) ⟨0, _, [], rfl, by omega, .inl ⟨rfl, rfl, rfl⟩, by simp⟩ ?_
 rintro z σ ⟨i, x, H, rfl, hi, hx, rfl⟩
 refine yh9 ?_
 have hlay := qd9 L i
 by_cases c : i < n
 ·have ci : (i : Int) < n := by omega
  have wi := w64 (n := (i : Int) + 1) (by omega) (by omega)
  have wr1 : Int.tmod (i : Int) 6 = ((i % 6 : Nat) : Int) := by rw [Int.tmod_eq_emod_of_nonneg (by omega)]; omega
  have wr2 : IntKind.i64.wrap ((i % 6 : Nat) : Int) = ((i % 6 : Nat) : Int) := w64 (by omega) (by omega)
  have hblk := rblock24_sound L i h8 hs hb hl (by omega)
  obtain ⟨B, hB⟩ : ∃ B, blkE L i = B := ⟨_, rfl⟩
  rw [hB, hlE] at hblk
  simp only [recA] at hblk
  obtain ⟨r6, hr6⟩ : ∃ r6, i % 6 = r6 := ⟨_, rfl⟩
  rw [hr6] at wr1 wr2
  rcases hx with ⟨h0, rfl, rfl⟩ | ⟨h0, cap, cs, rfl, hcm, hrc, rfl⟩
  ·subst h0
   have hr0 : r6 = 0 := by omega
   subst hr0
   refine yr9 [0, 1, 5, 6, 9] (by simp [c, ci]; rfl) ?_
   refine yt9 (t := true) (by simp [c, ci]) (fun h => ?_) (fun h => by simp at h)
   refine yj9 ?_
   repeat (first | refine on_norm ?_ | refine in_norm ?_)
   refine yh9 ?_
   refine yl9 ?_
   refine yh9 ?_
   refine yr9 [0, 1, 5, 6, 14] (by simp [wr1, wr2]; rfl) ?_
   refine yt9 (t := true) (by simp) (fun h => ?_) (fun h => by simp at h)
   refine W_rE [0, 1, 5, 6] ?_
   refine yq9 1 (by simp; rfl) rfl ?_
   refine zg8 (by simp) ⟨_, by simp [jl9, evBsO, catK, AV.cellsK, AV.kone, AV.koneL]; rfl, ?_⟩
   refine runA_nilA (t := 24) (e := 80) (sz := 1) (by_ := 24) (s0 := 1) (x0 := []) (m := 1) (yc := [.lst .nil 4 []]) (by simp) rfl rfl rfl rfl (by simp) (by simp [srcA]) s24 a80 z80 (by simp) (by omega) (by omega) ?_
   intro cap' hc1 hc2
   refine ⟨_, by simp; rfl, ?_⟩
   refine yw9 (by simp; rfl) ?_
   have hrc1 : RC [[]] cap' ([.lst .nil 4 []] ++ repC (cap' - 1) (AV.lst .nil 4 []).cells) := by
    have := RC.move (RC.nils 0) (t' := []) (cap' := cap') (x := .lst .nil 4 []) (by simpa using hc1) ⟨.nil, rfl, .inr (.inr ⟨rfl, rfl⟩)⟩
    simpa [AV.cells, zh8] using this
   simp only [AV.cells, List.cons_append, List.nil_append] at hrc1 ⊢
   obtain ⟨cs, hcs⟩ : ∃ cs, AV.lst .nil 4 [] :: repC (cap' - 1) [AV.lst .nil 4 []] = cs := ⟨_, rfl⟩
   rw [hcs] at hrc1 ⊢
   repeat (first | refine on_norm ?_ | refine in_norm ?_)
   refine ym9 [0, 1, 5, 6] ?_
   refine W_swap 0 1 (by omega) (by omega) (by simp [xr9]) (by simp [xr9]) ?_
   have hst : ∀ bs : AObj, swSt 0 1 (⟨33, [(0, .lst .any 3 (seL l)), (1, .v (.int .i64 (n : Nat))), (5, .arr 1 0 1 cap'), (6, .v (.int .i64 (0 : Nat)))], [bs, .cells 80 cs]⟩ : St) = ⟨33, [(0, .lst .any 3 (seL l)), (1, .v (.int .i64 (n : Nat))), (5, .arr 0 0 1 cap'), (6, .v (.int .i64 (0 : Nat)))], [.cells 80 cs, bs.sw 0 1]⟩ := by
    intro bs
    simp [swSt, AV.sw, sw, AObj.sw, swL_ok _ _ hrc1.ce]
   refine (show Wt true 0 Tryz.prog _ _ (swSt 0 1 (⟨33, [(0, .lst .any 3 (seL l)), (1, .v (.int .i64 (n : Nat))), (5, .arr 1 0 1 cap'), (6, .v (.int .i64 (0 : Nat)))], [_, .cells 80 cs]⟩ : St)) from ?_)
   rw [hst]
   refine ug9 1 (by omega) (by simp) (by simp [zj9, AV.under, AV.underL]) (by simp [yb9, AObj.under, hrc1.under]) ?_
   refine rdir_put (x := 0) hblk hrc1 (by simp) rfl rfl (by omega) (by simp [xk9]) fun cs' hcs' => ?_
   repeat (first | refine on_norm ?_ | refine in_norm ?_)
   refine zp9 [0, 1, 5, 6] (by simp [show IntKind.i64.wrap 1 = 1 from by decide]; rfl) ?_
   refine ⟨_, by omega, 0 + 1, _, _, rfl, by omega, .inr ⟨by omega, cap', cs', rfl, hc2, ?_, rfl⟩, by simp⟩
   rw [layG_new L (i := 0) rfl, hB]
   simpa [xk9, layG] using hcs'
  ·have hcl := hrc.len
   have hce := hrc.le
   rw [hlay] at hce
   have hAne : layG L i ≠ [] := by intro h; rw [h] at hlay; simp at hlay; omega
   have hlast : (xk9 (layG L i)).length ≤ 6 := by
    unfold xk9
    rw [List.getLast?_eq_some_getLast hAne]
    obtain ⟨j, hj, e⟩ := List.mem_map.1 (List.getLast_mem hAne)
    simp only [Option.getD_some]
    rw [← e, List.length_map, List.length_take]
    omega
   refine yr9 [0, 1, 5, 6, 9] (by simp [c, ci]; rfl) ?_
   refine yt9 (t := true) (by simp [c, ci]) (fun h => ?_) (fun h => by simp at h)
   refine yj9 ?_
   repeat (first | refine on_norm ?_ | refine in_norm ?_)
   refine yh9 ?_
   refine yl9 ?_
   refine yh9 ?_
   by_cases h6 : r6 = 0
   ·subst h6
    obtain ⟨m, hm⟩ : ∃ m, (i + 5) / 6 = m := ⟨_, rfl⟩
    rw [hm] at hlay hce ⊢
    refine yr9 [0, 1, 5, 6, 14] (by simp [wr1, wr2]; rfl) ?_
    refine yt9 (t := true) (by simp) (fun h => ?_) (fun h => by simp at h)
    refine W_rE [0, 1, 5, 6] ?_
    refine yq9 1 (by simp; rfl) rfl ?_
    refine zg8 (by simp) ⟨_, by simp [jl9, evBsO, catK, AV.cellsK, AV.kone, AV.koneL]; rfl, ?_⟩
    refine js9 (t := 24) (e := 80) (sz := 1) (by_ := 24) (id := 0) (len := m) (cap := cap) (m := 1) (cs := cs) (yc := [.lst .nil 4 []]) (by simp) rfl rfl rfl rfl (by simp) (by simp [srcA]) s24 a80 z80 (by simp) (by simp) (by omega) (by omega) ?_
    have hnil : okLt (AV.lst .nil 4 []) [] := ⟨.nil, rfl, .inr (.inr ⟨rfl, rfl⟩)⟩
    rintro s1 x1 (⟨hr, rfl, rfl⟩ | ⟨hr, cap', hc1, hc2, rfl, rfl⟩)
    ·have hrc1 := hrc.next (t' := []) (by omega) hnil
     rw [hlay] at hrc1
     refine ⟨_, by simp; rfl, ?_⟩
     refine yw9 (by simp; rfl) ?_
     repeat (first | refine on_norm ?_ | refine in_norm ?_)
     refine ym9 [0, 1, 5, 6] ?_
     obtain ⟨cs1, hcs1⟩ : ∃ cs1, yg9 cs m [AV.lst .nil 4 []] = cs1 := ⟨_, rfl⟩
     rw [hcs1] at hrc1 ⊢
     refine ug9 1 (by omega) (by simp [xr9]) (by simp [xr9, uw9, zj9, AV.under, AV.underL]) (by simp [xr9, yb9, AObj.under, hrc1.under]) ?_
     refine rdir_put (x := m) hblk hrc1 (by simp) (by simp [hlay]) (by omega) (by omega) (by simp [xk9]) fun cs' hcs' => ?_
     repeat (first | refine on_norm ?_ | refine in_norm ?_)
     refine zp9 [0, 1, 5, 6] (by simp [wi]; rfl) ?_
     refine ⟨_, by omega, i + 1, _, _, rfl, by omega, .inr ⟨by omega, cap, cs', by rw [show (i + 1 + 5) / 6 = m + 1 by omega], hcm, ?_, rfl⟩, by simp⟩
     rw [layG_new L (by omega), hB]
     simpa [xk9] using hcs'
    ·have hrc1 := hrc.move (t' := []) (cap' := cap') (by omega) hnil
     rw [hlay] at hrc1
     refine ⟨_, by simp; rfl, ?_⟩
     refine yw9 (by simp; rfl) ?_
     repeat (first | refine on_norm ?_ | refine in_norm ?_)
     refine ym9 [0, 1, 5, 6] ?_
     rw [← zh8] at hrc1
     simp only [Nat.mul_one, List.append_assoc, List.cons_append, List.nil_append, AV.cells] at hrc1 ⊢
     obtain ⟨cs1, hcs1⟩ : ∃ cs1, List.take m cs ++ AV.lst .nil 4 [] :: repC (cap' - (m + 1)) [AV.lst .nil 4 []] = cs1 := ⟨_, rfl⟩
     rw [hcs1] at hrc1 ⊢
     refine W_swap 0 2 (by omega) (by omega) (by simp [xr9]) (by simp [xr9]) ?_
     have hst : ∀ ys bs : AObj, swSt 0 2 (⟨33, [(0, .lst .any 3 (seL l)), (1, .v (.int .i64 (n : Nat))), (5, .arr 2 0 (m + 1) cap'), (6, .v (.int .i64 (i : Nat)))], [ys, bs, .cells 80 cs1]⟩ : St) = ⟨33, [(0, .lst .any 3 (seL l)), (1, .v (.int .i64 (n : Nat))), (5, .arr 0 0 (m + 1) cap'), (6, .v (.int .i64 (i : Nat)))], [.cells 80 cs1, bs.sw 0 2, ys.sw 0 2]⟩ := by
      intro ys bs
      simp [swSt, AV.sw, sw, AObj.sw, swL_ok _ _ hrc1.ce]
     refine (show Wt true 0 Tryz.prog _ _ (swSt 0 2 (⟨33, [(0, .lst .any 3 (seL l)), (1, .v (.int .i64 (n : Nat))), (5, .arr 2 0 (m + 1) cap'), (6, .v (.int .i64 (i : Nat)))], [_, _, .cells 80 cs1]⟩ : St)) from ?_)
     rw [hst]
     refine ug9 1 (by omega) (by simp) (by simp [zj9, AV.under, AV.underL]) (by simp [yb9, AObj.under, hrc1.under]) ?_
     refine rdir_put (x := m) hblk hrc1 (by simp) (by simp [hlay]) (by omega) (by omega) (by simp [xk9]) fun cs' hcs' => ?_
     repeat (first | refine on_norm ?_ | refine in_norm ?_)
     refine zp9 [0, 1, 5, 6] (by simp [wi]; rfl) ?_
     refine ⟨_, by omega, i + 1, _, _, rfl, by omega, .inr ⟨by omega, cap', cs', by rw [show (i + 1 + 5) / 6 = m + 1 by omega], hc2, ?_, rfl⟩, by simp⟩
     rw [layG_new L (by omega), hB]
     simpa [xk9] using hcs'
   ·have h6B : ((r6 : Int) == 0) = false := by simp; omega
    have h6I : ¬ (r6 : Int) = 0 := by omega
    obtain ⟨m, hm⟩ : ∃ m, i / 6 = m := ⟨_, rfl⟩
    have hm1 : (i + 5) / 6 = m + 1 := by omega
    rw [hm1] at hlay hce ⊢
    refine yr9 [0, 1, 5, 6, 14] (by simp [wr1, wr2, h6, h6I, h6B]; rfl) ?_
    refine yt9 (t := false) (by simp [h6, h6I, h6B]) (fun h => by simp at h) (fun h => ?_)
    refine ym9 [0, 1, 5, 6] ?_
    refine yj9 ?_
    repeat (first | refine on_norm ?_ | refine in_norm ?_)
    refine rdir_put (x := m) hblk hrc hAne hlay hm (by omega) hlast fun cs' hcs' => ?_
    repeat (first | refine on_norm ?_ | refine in_norm ?_)
    refine zp9 [0, 1, 5, 6] (by simp [wi]; rfl) ?_
    refine ⟨_, by omega, i + 1, _, _, rfl, by omega, .inr ⟨by omega, cap, cs', by rw [show (i + 1 + 5) / 6 = m + 1 by omega], hcm, ?_, rfl⟩, by simp⟩
    rw [layG_more L (by omega), hB]
    exact hcs'
 ·rcases hx with ⟨h0, rfl, rfl⟩ | ⟨h0, cap, cs, rfl, hcm, hrc, rfl⟩
  ·have hn0 : n = 0 := by omega
   subst hn0
   refine yr9 [5, 9] (by simp; rfl) ?_
   refine yt9 (t := false) (by simp) (fun h => by simp at h) (fun h => ?_)
   refine ym9 [5] ?_
   refine zd9 ?_
   repeat (first | refine on_exit ?_ | refine in_exit ?_)
   refine yr9 [4] (by simp; rfl) ?_
   refine yk9 ?_
   repeat (first | refine ys9 ?_ | refine yd9 ?_)
   exact ⟨_, by simp [retQ]; exact ⟨rfl, by simp [AV.rf, AV.rfL]⟩, .inr (by simp [AV.plain, layG])⟩
  ·have hie : i = n := by omega
   subst hie
   have hcl := hrc.len
   have hdl := wr9 cs
   refine yr9 [5, 9] (by simp; rfl) ?_
   refine yt9 (t := false) (by simp) (fun h => by simp at h) (fun h => ?_)
   refine ym9 [5] ?_
   refine zd9 ?_
   repeat (first | refine on_exit ?_ | refine in_exit ?_)
   refine yr9 [4] (by simp; rfl) ?_
   refine W_dpB 0 (ty := 80) (cs := cs) rfl ?_
   have hfin := hrc.fin
   rw [hlay] at hfin
   obtain ⟨m, hm⟩ : ∃ m, (i + 5) / 6 = m := ⟨_, rfl⟩
   have hce := hrc.le
   rw [hm] at hfin hlay
   rw [hlay] at hce
   rw [hm]
   obtain ⟨D, hD⟩ : ∃ D, AV.dpL cs = D := ⟨_, rfl⟩
   rw [hD] at hfin hdl ⊢
   have hDl : D.length = cap := by omega
   obtain ⟨A, hA⟩ : ∃ A, layG L i = A := ⟨_, rfl⟩
   rw [hA] at hfin hlay ⊢
   refine yk9 ?_
   repeat (first | refine ys9 ?_ | refine yd9 ?_)
   have hch : chunk false 1 m (arL A) = arL A := by
    have := chunk1 (arL A)
    rw [arL_length, hlay] at this
    exact this
   have hwl : (AV.weakL D).length = cap := by
    have : ∀ xs : List AV, (AV.weakL xs).length = xs.length := fun xs => by induction xs <;> simp_all [AV.weakL]
    rw [this, hDl]
   have hck : chunk false 1 m (AV.weakL D) = arL A := by
    rw [chunk_take m _ (by omega), ← weakL_take24, hfin, weakL_arL]
   have hfz : ∃ o h', (o = .any ∨ o = .tip 80 1) ∧ xj9 Tryz.prog [AObj.cells 80 D] 1 0 0 m cap = some (.lst o 1 (arL A), h') := by
    unfold xj9
    by_cases hk : AV.koneL D = true ∧ AV.rfL D = true
    ·by_cases hmc : m = cap
     ·rw [hmc] at hck
      exact ⟨.tip 80 1, _, .inr rfl, by simp [hck, hDl, hk, hmc]; rfl⟩
     ·exact ⟨.any, _, .inl rfl, by simp [hfin, hck, hDl, hce, hk, hmc]; rfl⟩
    ·exact ⟨.any, _, .inl rfl, by simp [hfin, hch, hDl, hce, hk]; rfl⟩
   obtain ⟨o, h', ho, hfz⟩ := hfz
   rcases ho with rfl | rfl
   all_goals exact ⟨_, by simp [retQ, frzV, hfz]; exact ⟨rfl, by simp [AV.rf, AV.rfL]⟩, .inr (by simp [AV.plain])⟩
end Go.AM
namespace Go.AM
open Go.RowKit Go.Proofs
set_option linter.unusedSimpArgs false
set_option linter.unusedVariables false
set_option maxHeartbeats 2000000
mutual
theorem under_kill {m T : Nat} : (x : AV) → x.under m = true → (x.kill T).under m = true
 | .lst (.tip e U) s xs, h => by by_cases hu : U = T <;> simp [AV.kill, hu, AV.under]
 | .lst .any s xs, _ | .lst .nil s xs, _ | .lst .ex s xs, _ => by simp [AV.kill, AV.under]
 | .agg xs, h | .tup xs, h => by
  simp only [AV.under] at h
  simp only [AV.kill, AV.under]
  exact underL_kill xs h
 | .any, h | .v _, h | .ro _, h | .loc _ _, h | .arr _ _ _ _, h | .fn _ _ _, h | .mp _, h | .yld _, h => by simp only [AV.kill]; exact h
theorem underL_kill {m T : Nat} : (xs : List AV) → AV.underL m xs = true → AV.underL m (AV.killL T xs) = true
 | [], _ => rfl
 | x :: xs, h => by
  simp only [AV.underL, Bool.and_eq_true] at h
  simp only [AV.killL, AV.underL, under_kill x h.1, underL_kill xs h.2, Bool.and_self]
end
theorem ounder_kill {m T : Nat} (o : AObj) (h : o.under m = true) : (o.kill T).under m = true := by
 cases o with
 | cells ty cs => exact underL_kill cs h
 | _ => exact h
theorem underH_kill {m T : Nat} : ∀ (H : List AObj), yb9 m H = true → yb9 m (H.map (AObj.kill T)) = true
 | [], _ => rfl
 | o :: H, h => by
  simp only [yb9, Bool.and_eq_true] at h
  simp only [List.map_cons, yb9, ounder_kill o h.1, underH_kill H h.2, Bool.and_self]
theorem RC.nil (x : AV) : (AV.lst .nil 4 []) = .lst .nil 4 (trL []) := rfl
theorem okLt_nil : okLt (AV.lst .nil 4 []) [] := ⟨.nil, rfl, .inr (.inr ⟨rfl, rfl⟩)⟩
theorem killL_set {T : Nat} {cs xs : List AV} (h : AV.killL T cs = cs) (hx : AV.killL T xs = xs) (o : Nat) : AV.killL T (yg9 cs o xs) = yg9 cs o xs := by
 apply List.ext_getElem?
 intro j
 rw [ws9]
 unfold yg9
 have e1 : ∀ (l : List AV) (j : Nat), AV.killL T l = l → (l[j]?).map (AV.kill T) = l[j]? := by
  intro l j hl
  have := congrArg (fun z => z[j]?) hl
  rwa [ws9] at this
 simp only [List.getElem?_append, List.getElem?_take, List.getElem?_drop]
 split
 ·split
  ·split
   ·exact e1 cs _ h
   ·rfl
  ·exact e1 xs _ hx
 ·exact e1 cs _ h
theorem xn8 {T : Nat} : ∀ (xs ys : List AV), AV.killL T (xs ++ ys) = AV.killL T xs ++ AV.killL T ys
 | [], ys => rfl
 | x :: xs, ys => by rw [List.cons_append, AV.killL, AV.killL, xn8 xs ys, List.cons_append]
theorem killL_take {T : Nat} : ∀ (xs : List AV) (n : Nat), AV.killL T (xs.take n) = (AV.killL T xs).take n
 | [], n => by simp [AV.killL]
 | x :: xs, 0 => by simp [AV.killL]
 | x :: xs, n + 1 => by simp [AV.killL, killL_take xs n]
structure WS (H0 : List AObj) (id0 : Nat) (H : List AObj) (id cap : Nat) (A : List (List Rec)) (cs : List AV) : Prop where
 len : H0.length ≤ H.length
 old : ∀ (j : Nat) o, j ≠ id0 → H0[j]? = some o → (∀ T, o.kill T = o) → H[j]? = some o
 shut : yb9 H.length H = true
 obj : H[id]? = some (.cells 80 cs)
 rc : RC A cap cs
 kl : AV.killL 29 cs = cs
 idn : id = id0 ∨ H0.length ≤ id
 cap : cap ≤ maxLen
theorem under_rc {A : List (List Rec)} {cap : Nat} {cs : List AV} (h : RC A cap cs) (m : Nat) : (AObj.cells 80 cs).under m = true := h.under m
namespace WS
variable {H0 : List AObj} {id0 : Nat} {H : List AObj} {id cap : Nat} {A : List (List Rec)} {cs : List AV}
theorem lt (h : WS H0 id0 H id cap A cs) : id < H.length := (List.getElem?_eq_some_iff.1 h.obj).1
theorem push (h : WS H0 id0 H id cap A cs) {o : AObj} (ho : o.under (H.length + 1) = true) : WS H0 id0 (H ++ [o]) id cap A cs where
 len := by rw [List.length_append]; have := h.len; omega
 old j p hj h0 hk := by
  have h1 := h.old j p hj h0 hk
  rw [List.getElem?_append_left (List.getElem?_eq_some_iff.1 h1).1]
  exact h1
 shut := by
  have := shut_push h.shut ho
  rwa [List.length_append]
 obj := by rw [List.getElem?_append_left h.lt]; exact h.obj
 rc := h.rc
 kl := h.kl
 idn := h.idn
 cap := h.cap
theorem setj (h : WS H0 id0 H id cap A cs) {j : Nat} {o : AObj} (hj : j ≠ id) (hl : H0.length ≤ j) (ho : o.under H.length = true) : WS H0 id0 (H.set j o) id cap A cs where
 len := by rw [List.length_set]; exact h.len
 old i p hi h0 hk := by
  have h1 := (List.getElem?_eq_some_iff.1 h0).1
  rw [List.getElem?_set_ne (by omega)]
  exact h.old i p hi h0 hk
 shut := by rw [List.length_set]; exact wb9 h.shut ho
 obj := by rw [List.getElem?_set_ne hj]; exact h.obj
 rc := h.rc
 kl := h.kl
 idn := h.idn
 cap := h.cap
theorem setb (h : WS H0 id0 H id cap A cs) {j : Nat} {o : AObj} (hj : j ≠ id0) (hl : j < H0.length) (ho : o.under H.length = true) : WS (H0.set j o) id0 (H.set j o) id cap A cs where
 len := by rw [List.length_set, List.length_set]; exact h.len
 old i p hi h0 hk := by
  by_cases e : i = j
  ·subst e
   rw [List.getElem?_set_self hl] at h0
   rw [List.getElem?_set_self (by have := h.len; omega)]
   exact h0
  ·rw [List.getElem?_set_ne (Ne.symm e)] at h0 ⊢
   exact h.old i p hi h0 hk
 shut := by rw [List.length_set]; exact wb9 h.shut ho
 obj := by
  rw [List.getElem?_set_ne]
  ·exact h.obj
  ·rcases h.idn with e | e
   ·rw [e]; exact hj
   ·omega
 rc := h.rc
 kl := h.kl
 idn := by rw [List.length_set]; exact h.idn
 cap := h.cap
theorem seto (h : WS H0 id0 H id cap A cs) {A' : List (List Rec)} {cap' : Nat} {cs' : List AV} (hc : cap' ≤ maxLen) (hr : RC A' cap' cs') (hk : AV.killL 29 cs' = cs') : WS H0 id0 (H.set id (.cells 80 cs')) id cap' A' cs' where
 len := by rw [List.length_set]; exact h.len
 old i p hi h0 hk := by
  have h1 := (List.getElem?_eq_some_iff.1 h0).1
  rw [List.getElem?_set_ne]
  ·exact h.old i p hi h0 hk
  ·rcases h.idn with e | e
   ·rw [e]; exact Ne.symm hi
   ·omega
 shut := by rw [List.length_set]; exact wb9 h.shut (hr.under _)
 obj := by rw [List.getElem?_set_self h.lt]
 rc := hr
 kl := hk
 idn := h.idn
 cap := hc
theorem kill (h : WS H0 id0 H id cap A cs) (U : Nat) {A' : List (List Rec)} {cap' : Nat} {cs' : List AV} (hc : cap' ≤ maxLen) (hr : RC A' cap' cs') (hk : AV.killL 29 cs' = cs') :
  WS H0 id0 ((H.map (AObj.kill U)).set id (.cells 80 cs')) id cap' A' cs' where
 len := by rw [List.length_set, List.length_map]; exact h.len
 old i p hi h0 hk := by
  have h1 := (List.getElem?_eq_some_iff.1 h0).1
  rw [List.getElem?_set_ne]
  ·rw [List.getElem?_map, h.old i p hi h0 hk, Option.map_some, hk U]
  ·rcases h.idn with e | e
   ·rw [e]; exact Ne.symm hi
   ·omega
 shut := by
  rw [List.length_set, List.length_map]
  exact wb9 (underH_kill H h.shut) (hr.under _)
 obj := by rw [List.getElem?_set_self (by rw [List.length_map]; exact h.lt)]
 rc := hr
 kl := hk
 idn := h.idn
 cap := hc
theorem killU (h : WS H0 id0 H id cap A cs) (U : Nat) (hk : AV.killL U cs = cs) : WS H0 id0 (H.map (AObj.kill U)) id cap A cs where
 len := by rw [List.length_map]; exact h.len
 old i p hi h0 hk := by rw [List.getElem?_map, h.old i p hi h0 hk, Option.map_some, hk U]
 shut := by
  rw [List.length_map]
  exact underH_kill H h.shut
 obj := by
  rw [List.getElem?_map, h.obj, Option.map_some, AObj.kill, hk]
 rc := h.rc
 kl := h.kl
 idn := h.idn
 cap := h.cap
theorem base {H1 : List AObj} (h : WS H1 id0 H id cap A cs) (hl : H0.length ≤ H1.length) (hp : ∀ (j : Nat) o, H0[j]? = some o → H1[j]? = some o) : WS H0 id0 H id cap A cs where
 len := Nat.le_trans hl h.len
 old j o hj h0 hk := h.old j o hj (hp j o h0) hk
 shut := h.shut
 obj := h.obj
 rc := h.rc
 kl := h.kl
 idn := by rcases h.idn with e | e; exact .inl e; exact .inr (Nat.le_trans hl e)
 cap := h.cap
theorem next (h : WS H0 id0 H id cap A cs) (hc : A.length + 1 ≤ cap) : WS H0 id0 (H.set id (.cells 80 (yg9 cs A.length [.lst .nil 4 []]))) id cap (A ++ [[]]) (yg9 cs A.length [.lst .nil 4 []]) :=
 h.seto h.cap (h.rc.next hc okLt_nil) (killL_set h.kl (by simp [AV.killL, AV.kill]) _)
theorem move (h : WS H0 id0 H id cap A cs) {cap' : Nat} (hc : A.length + 1 ≤ cap') (hm : cap' ≤ maxLen) :
  WS H0 id0 (H ++ [.cells 80 (cs.take A.length ++ [.lst .nil 4 []] ++ List.replicate (cap' - (A.length + 1)) (.lst .nil 4 []))]) H.length cap' (A ++ [[]]) (cs.take A.length ++ [.lst .nil 4 []] ++ List.replicate (cap' - (A.length + 1)) (.lst .nil 4 [])) := by
 have hr := h.rc.move (t' := []) hc okLt_nil
 have h1 := h.push (o := .cells 80 (cs.take A.length ++ [.lst .nil 4 []] ++ List.replicate (cap' - (A.length + 1)) (.lst .nil 4 []))) (under_rc hr _)
 refine ⟨h1.len, h1.old, h1.shut, by simp, hr, ?_, .inr h.len, hm⟩
 rw [xn8, xn8, killL_take, h.kl]
 have : ∀ n, AV.killL 29 (List.replicate n (.lst .nil 4 [])) = List.replicate n (.lst .nil 4 []) := fun n => by induction n <;> simp_all [AV.killL, AV.kill, List.replicate_succ]
 rw [this]
 rfl
theorem put0 (h : WS H0 id0 H id cap A cs) (hA : A ≠ []) {x : AV} {t' : List Rec} (hx : okLt x t') (hk : x.kill 29 = x) :
  WS H0 id0 (H.set id (.cells 80 (yg9 cs (A.length - 1) [x]))) id cap (A.dropLast ++ [t']) (yg9 cs (A.length - 1) [x]) :=
 h.seto h.cap (h.rc.grow0 hA hx) (killL_set h.kl (by simp [AV.killL, hk]) _)
theorem putk (h : WS H0 id0 H id cap A cs) (hA : A ≠ []) {x : AV} {t' : List Rec} (U : Nat) (hx : okLt x t') (hk : x.kill 29 = x) :
  WS H0 id0 ((H.map (AObj.kill U)).set id (.cells 80 (yg9 (AV.killL U cs) (A.length - 1) [x]))) id cap (A.dropLast ++ [t']) (yg9 (AV.killL U cs) (A.length - 1) [x]) :=
 h.kill U h.cap (h.rc.grow hA hx) (killL_set (by rw [killL_comm, h.kl]) (by simp [AV.killL, hk]) _)
end WS
def WrQ (H : List AObj) (id : Nat) (pl : AV) (A : List (List Rec)) (r : AV) (h' : List AObj) : Prop :=
 ∃ id' cap' cs', WS H id h' id' cap' A cs' ∧ r = .tup [.arr id' 0 A.length cap', pl]
end Go.AM
