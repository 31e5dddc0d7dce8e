/- Parts of the walk: C31LB C31LT C31RA C31RB C31LC. -/
import Derived.Test.YtlhaljblcimnbaaG7
namespace Go.AM
open Go.RowKit Go.Proofs
set_option linter.unusedSimpArgs false
set_option linter.unusedVariables false
set_option maxHeartbeats 8000000
def u16L (l : List Nat) : List AV := l.map fun n => .v (.int .u16 (n : Nat))
@[simp] theorem u16L_length (l : List Nat) : (u16L l).length = l.length := by simp [u16L]
@[simp] theorem u16L_getElem (l : List Nat) (i : Nat) (h : i < (u16L l).length) : (u16L l)[i] = .v (.int .u16 (l[i]'(by simpa using h) : Nat)) := by simp [u16L]
@[simp] theorem dpL_u16L (l : List Nat) : AV.dpL (u16L l) = u16L l := by induction l <;> simp_all [u16L, AV.dpL, AV.dp]
structure SeedM where
 esds : List UInt8
 txts : List Nat
 rlds : List Nat
 entry : UInt8
 data : List UInt8
def zw9 (x : SeedM) : List AV := [.lst .any 1 (byL x.esds), .lst .any 1 (u16L x.txts), .lst .any 1 (u16L x.rlds), .v (.int .u8 x.entry.toNat), .lst .any 1 (byL x.data)]
@[simp] def seedA (x : SeedM) : AV := .agg [.lst .any 1 (byL x.esds), .lst .any 1 (u16L x.txts), .lst .any 1 (u16L x.rlds), .v (.int .u8 x.entry.toNat), .lst .any 1 (byL x.data)]
def z40C : List AV := [.lst .nil 1 [], .lst .nil 3 [], .lst .nil 4 [], .v (.int .i64 0)]
def segC (s : Seg) : List AV := [.v (.int .i64 s.par), .v (.int .i64 s.org), .v (.int .i64 s.frm), .v (.int .i64 s.len)]
def rloC (r : Rlo) : List AV := [.v (.int .i64 r.at_), .v (.int .i64 r.len), .v (.bool r.neg)]
@[simp] theorem killL_seedC (t : Nat) (x : SeedM) : AV.killL t (zw9 x) = zw9 x := by simp [zw9, AV.killL, AV.kill]
@[simp] theorem killL_z40C (t : Nat) : AV.killL t z40C = z40C := by simp [z40C, AV.killL, AV.kill]
theorem zb9 (t : Nat) (x : SeedM) : AV.underL t (zw9 x) = true := by simp [zw9, AV.underL, AV.under]
theorem vn9 (t : Nat) : AV.underL t z40C = true := by simp [z40C, AV.underL, AV.under]
def vq9 (x : SeedM) (i : Nat) (segs : List Seg) (tl : Nat) : Seg :=
 if i = 0 then ⟨-1, 0, (tl : Nat), ((1 + x.entry.toNat * 13 : Nat) : Int)⟩
 else
  let n := (x.esds.getD (i - 1) 0).toNat
  let p := segs.getD (n % i) ⟨0, 0, 0, 0⟩
  ⟨((n % i : Nat) : Int), p.org + p.len + ((n % 3 * 8 : Nat) : Int), (tl : Nat), ((n * 4 : Nat) : Int)⟩
def yk7 (x : SeedM) : Nat → Nat → List Seg → List UInt8 → List Seg × List UInt8
 | 0, _, s, t => (s, t)
 | f + 1, i, s, t => if i ≤ x.esds.length ∧ i < 40 then
   (if 65536 < (vq9 x i s t.length).org + (vq9 x i s t.length).len then (s, t) else yk7 x f (i + 1) (s ++ [vq9 x i s t.length]) (t ++ wd8 x.data i (vq9 x i s t.length).len.toNat))
  else (s, t)
def mkRlo (n at_ : Nat) : Rlo := ⟨((at_ + n % 9 : Nat) : Int), ((1 + n / 9 % 4 : Nat) : Int), decide (n % 2 = 1)⟩
def relLd (rl : List Nat) (segs : List Seg) : Nat → Nat → Nat → List Rlo → List Rlo
 | 0, _, _, acc => acc
 | f + 1, i, at_, acc => if i < 1000 ∧ 0 < rl.length then
   (if rl.length ≤ i ∧ ¬ (rl.getD (i % rl.length) 0) % 4 = 0 then acc
    else relLd rl segs f (i + 1) (at_ + (rl.getD (i % rl.length) 0) % 9 + (1 + (rl.getD (i % rl.length) 0) / 9 % 4)) (if segs.any (cov (mkRlo (rl.getD (i % rl.length) 0) at_)) = true then acc ++ [mkRlo (rl.getD (i % rl.length) 0) at_] else acc))
  else acc
def yd8 (x : SeedM) : LMod :=
 let p := yk7 x 41 0 [] []
 ⟨p.2, relLd x.rlds p.1 1001 0 0 [], p.1, ((x.entry.toNat % (p.1.getD 0 ⟨0, 0, 0, 0⟩).len.toNat : Nat) : Int)⟩
def SI (s : Seg) : Prop := 0 ≤ s.org ∧ 0 ≤ s.len ∧ s.org + s.len ≤ 65536 ∧ s.len ≤ 4000 ∧ 0 ≤ s.frm ∧ s.frm ≤ 200000
theorem mkSeg_SI {x : SeedM} {i tl : Nat} {segs : List Seg} (hs : ∀ s ∈ segs, SI s) (hl : segs.length = i) (ht : tl ≤ 200000) (h : ¬ 65536 < (vq9 x i segs tl).org + (vq9 x i segs tl).len) : SI (vq9 x i segs tl) := by
 have he := x.entry.toNat_lt
 unfold vq9 at h ⊢
 by_cases h0 : i = 0
 ·rw [if_pos h0] at h ⊢
  refine ⟨?_, ?_, ?_, ?_, ?_, ?_⟩ <;> simp at h ⊢ <;> omega
 ·rw [if_neg h0] at h ⊢
  have hn := (x.esds.getD (i - 1) 0).toNat_lt
  have hmod : (x.esds.getD (i - 1) 0).toNat % i < segs.length := by rw [hl]; exact Nat.mod_lt _ (by omega)
  have hp : SI (segs.getD ((x.esds.getD (i - 1) 0).toNat % i) ⟨0, 0, 0, 0⟩) := by
   rw [List.getD_eq_getElem?_getD, List.getElem?_eq_getElem hmod]
   exact hs _ (List.getElem_mem hmod)
  obtain ⟨p1, p2, p3, p4, p5, p6⟩ := hp
  simp only at h ⊢
  refine ⟨?_, ?_, ?_, ?_, ?_, ?_⟩ <;> simp only <;> omega
theorem mkSeg_bd {x : SeedM} {i tl : Nat} {segs : List Seg} (hs : ∀ s ∈ segs, SI s) (hl : segs.length = i) : 0 ≤ (vq9 x i segs tl).org ∧ (vq9 x i segs tl).org ≤ 70000 ∧ 0 ≤ (vq9 x i segs tl).len ∧ (vq9 x i segs tl).len ≤ 4000 ∧ (i = 0 → (vq9 x i segs tl).org = 0 ∧ 1 ≤ (vq9 x i segs tl).len) := by
 have he := x.entry.toNat_lt
 unfold vq9
 by_cases h0 : i = 0
 ·rw [if_pos h0]
  refine ⟨?_, ?_, ?_, ?_, fun _ => ⟨?_, ?_⟩⟩ <;> simp <;> omega
 ·rw [if_neg h0]
  have hn := (x.esds.getD (i - 1) 0).toNat_lt
  have hmod : (x.esds.getD (i - 1) 0).toNat % i < segs.length := by rw [hl]; exact Nat.mod_lt _ (by omega)
  have hp : SI (segs.getD ((x.esds.getD (i - 1) 0).toNat % i) ⟨0, 0, 0, 0⟩) := by
   rw [List.getD_eq_getElem?_getD, List.getElem?_eq_getElem hmod]
   exact hs _ (List.getElem_mem hmod)
  obtain ⟨p1, p2, p3, p4, p5, p6⟩ := hp
  simp only
  refine ⟨?_, ?_, ?_, ?_, fun h => absurd h h0⟩ <;> omega
theorem load_sound (x : SeedM) (hx : ∀ n ∈ x.rlds, n < 65536) (hl1 : x.esds.length ≤ 9223372036854775000) (hl2 : x.rlds.length ≤ 9223372036854775000) (hl3 : x.data.length ≤ 9223372036854775000) : Sound Try.prog 15 [seedA x] (lmA (yd8 x)) := by
 refine zb8 Try.func15 rfl (by decide +kernel) (by simp [Try.f15]) (by simp [AV.rfL, AV.rf]) (by simp [AV.tlL, AV.tl]) (rs := [.cell 2 40]) rfl ?_
 rw [show Try.f15.ntmps = 179 from rfl]
 have hent := x.entry.toNat_lt
 refine yt9 [1, 2] (by simp; rfl) ?_
 refine yt9 [1, 2, 3] (by simp [ys9]; rfl) ?_
 refine (show Wt true 0 Try.prog _ _ ⟨179, [(1, .loc 0 0), (2, .loc 1 0), (3, .loc 2 0)], [.cells 30 (zw9 x), .cells 40 z40C, .cells 40 [.lst .nil 1 [], .lst .nil 3 [], .lst .nil 4 [], .v (.int .i64 0)]]⟩ from ?_)
 obtain ⟨PP, hPP⟩ : ∃ p, yk7 x 41 0 [] [] = p := ⟨_, rfl⟩
 obtain ⟨S, Tx⟩ := PP
 refine xg9 (fun σ => ∃ G, (∀ s ∈ S, SI s) ∧ 0 < S.length ∧ S.length ≤ 40 ∧ Tx.length ≤ 160000 ∧ (∀ s0, S[0]? = some s0 → 1 ≤ s0.len) ∧ σ = ⟨179, [(1, .loc 0 0), (2, .loc 1 0), (3, .loc 2 0)], [.cells 30 (zw9 x), .cells 40 z40C, .cells 40 [.lst (.tip 5 175) 1 (byL Tx), .lst .nil 3 [], .lst (.tip 83 155) 4 (sgL S), .v (.int .i64 0)]] ++ G⟩) ?_ ?_
 ·refine yt9 [1, 2, 3, 4] (by simp; rfl) ?_
  refine yf9 ?_
  refine zn9 (fun k σ => ∃ (i : Nat) (s : List Seg) (t : List UInt8) (ft fs : Fl), k = 41 - i ∧ i ≤ 40 ∧ yk7 x (41 - i) i s t = (S, Tx) ∧ s.length = i ∧ t.length ≤ 4000 * i ∧ (∀ g ∈ s, SI g) ∧ (∀ s0, s[0]? = some s0 → 1 ≤ s0.len) ∧ ((i = 0 ∧ ft = .nil ∧ fs = .nil ∧ s = [] ∧ t = []) ∨ (0 < i ∧ ft = .tip 5 175 ∧ fs = .tip 83 155)) ∧ σ = ⟨179, [(1, .loc 0 0), (2, .loc 1 0), (3, .loc 2 0), (4, .v (.int .i64 (i : Nat)))], [.cells 30 (zw9 x), .cells 40 z40C, .cells 40 [.lst ft 1 (byL t), .lst .nil 3 [], .lst fs 4 (sgL s), .v (.int .i64 0)]]⟩) (k := 41) ⟨0, [], [], .nil, .nil, rfl, by omega, hPP, rfl, by simp, by simp, by simp, .inl ⟨rfl, rfl, rfl, rfl, rfl⟩, by simp [sgL]⟩ ?_
  rintro k σ ⟨i, s, t, ft, fs, rfl, hi, hgo, hsl, htl, hsi, hs0, hfl, rfl⟩
  refine yk9 ?_
  have wi := w64 (n := (i : Int) + 1) (by omega) (by omega)
  rw [show 41 - i = 40 - i + 1 by omega, yk7] at hgo
  have hexit : i ≠ 0 → (s, t) = (S, Tx) → (∀ s ∈ S, SI s) ∧ 0 < S.length ∧ S.length ≤ 40 ∧ Tx.length ≤ 160000 ∧ (∀ s0, S[0]? = some s0 → 1 ≤ s0.len) ∧ ft = .tip 5 175 ∧ fs = .tip 83 155 ∧ s = S ∧ t = Tx := by
   intro h0 he
   obtain ⟨rfl, rfl⟩ := Prod.mk.inj he
   rcases hfl with ⟨h, _⟩ | ⟨_, h1, h2⟩
   ·exact absurd h h0
   ·exact ⟨hsi, by omega, by omega, by omega, hs0, h1, h2, rfl, rfl⟩
  by_cases c1 : i ≤ x.esds.length
  ·have c1a : i ≤ x.esds.length := c1
   have c1b : (i : Int) ≤ (x.esds.length : Nat) := by omega
   by_cases c2 : i < 40
   ·have c2a : i < 40 := c2
    have c2b : (i : Int) < 40 := by omega
    refine W_cT [1, 2, 3, 4, 23] (by simp [zw9, c1a, c1b, c2a, c2b]; rfl) rfl ?_
    refine yh9 ?_
    rw [if_pos ⟨c1, c2⟩] at hgo
    refine yk9 ?_
    refine yf9 ?_
    have w13 := w64 (n := (x.entry.toNat : Int)) (by omega) (by omega)
    have w13b := w64 (n := (x.entry.toNat : Int) * 13) (by omega) (by omega)
    have w13c := w64 (n := 1 + (x.entry.toNat : Int) * 13) (by omega) (by omega)
    obtain ⟨g, hg⟩ : ∃ g, vq9 x i s t.length = g := ⟨_, rfl⟩
    rw [hg] at hgo
    refine yt9 [1, 2, 3, 4, 5] (by simp [zw9, w13, w13b, w13c, ys9]; rfl) ?_
    refine xg9 (fun σ => ∃ G, σ = ⟨179, [(1, .loc 0 0), (2, .loc 1 0), (3, .loc 2 0), (4, .v (.int .i64 (i : Nat))), (5, .loc 3 0)], [.cells 30 (zw9 x), .cells 40 z40C, .cells 40 [.lst ft 1 (byL t), .lst .nil 3 [], .lst fs 4 (sgL s), .v (.int .i64 0)], .cells 83 (segC g)] ++ G⟩) ?_ ?_
    ·by_cases h0 : i = 0
     ·subst h0
      refine W_cF [1, 2, 3, 4, 5, 36] (by simp; rfl) rfl ?_
      refine zt9 [1, 2, 3, 4, 5] ?_
      refine yh9 ?_
      refine ⟨[], ?_⟩
      rw [← hg]
      simp [yp9, vq9, segC, zw9]
     ·have hip : 0 < i := by omega
      have hii : (0 : Int) < i := by omega
      have hi1 : i - 1 < x.esds.length := by omega
      have w1 : IntKind.i64.wrap ((i : Int) - 1) = ((i - 1 : Nat) : Int) := by rw [w64 (by omega) (by omega)]; omega
      obtain ⟨b, hb⟩ : ∃ b, x.esds[i - 1]? = some b := ⟨_, List.getElem?_eq_getElem hi1⟩
      have hb2 : x.esds[i - 1]'hi1 = b := by rw [List.getElem?_eq_getElem hi1] at hb; exact Option.some.inj hb
      have hbd : x.esds.getD (i - 1) 0 = b := by rw [List.getD_eq_getElem?_getD, hb]; rfl
      have hbl := b.toNat_lt
      have hi1' : ((i - 1 : Nat) : Int) < x.esds.length := by omega
      obtain ⟨n, hn⟩ : ∃ n, b.toNat = n := ⟨_, rfl⟩
      have wn := w64 (n := (n : Int)) (by omega) (by omega)
      obtain ⟨q, hq⟩ : ∃ q, n % i = q := ⟨_, rfl⟩
      have hql : q < s.length := by rw [hsl, ← hq]; exact Nat.mod_lt _ hip
      have hqi : (q : Int) < s.length := by omega
      have hrem : Int.tmod (n : Int) i = q := by rw [← hq]; exact rfl
      have wq := w64 (n := (q : Int)) (by omega) (by omega)
      have wn4 := w64 (n := (n : Int) * 4) (by omega) (by omega)
      obtain ⟨p, hp⟩ : ∃ p, s[q]? = some p := ⟨_, List.getElem?_eq_getElem hql⟩
      have hp2 : s[q]'hql = p := by rw [List.getElem?_eq_getElem hql] at hp; exact Option.some.inj hp
      obtain ⟨p1, p2, p3, p4, p5, p6⟩ := hsi p (List.mem_of_getElem? hp)
      have hg2 : g = ⟨(q : Nat), p.org + p.len + ((n % 3 * 8 : Nat) : Int), (t.length : Nat), ((n * 4 : Nat) : Int)⟩ := by
       rw [← hg, vq9, if_neg h0]
       simp only [hbd, hn, hq, List.getD_eq_getElem?_getD, hp, Option.getD_some]
      have w5 := w64 (n := p.org + p.len) (by omega) (by omega)
      have hr3 : Int.tmod (n : Int) 3 = ((n % 3 : Nat) : Int) := rfl
      have w6 := w64 (n := ((n % 3 : Nat) : Int)) (by omega) (by omega)
      have w7 := w64 (n := ((n % 3 : Nat) : Int) * 8) (by omega) (by omega)
      have w8 := w64 (n := p.org + p.len + ((n % 3 : Nat) : Int) * 8) (by omega) (by omega)
      refine yt9 [1, 2, 3, 4, 5, 36] (by simp [hip, hii]; rfl) ?_
      refine yd9 rfl (fun h => ?_) (fun h => by simp [h0] at h)
      refine yt9 [1, 2, 3, 4, 5, 6] (by simp [zw9, w1, hi1, hi1', hb2, hn, wn]; rfl) ?_
      refine yt9 [1, 2, 3, 4, 5, 6] (by simp [h0, hrem, wq, wn4, ys9]; rfl) ?_
      refine yt9 [1, 2, 3, 4, 5, 6, 7] (by simp [hql, hqi, hp2, ys9]; rfl) ?_
      refine zs9 [1, 2, 3, 4, 5] (by simp [w5, hr3, w6, w7, w8, ys9, -Int.natCast_emod]; rfl) ?_
      refine ⟨[.cells 83 (segC p)], ?_⟩
      rw [hg2]
      simp [yp9, segC, zw9]
    rintro _ ⟨G, rfl⟩
    refine xd9 4 (by simp) (by simp) (by simp [yn9, AV.under, AV.underL]) (by simp [yg9, xs9, AV.under, AV.underL, zb9, vn9, segC]) ?_
    have hbd := mkSeg_bd (x := x) (tl := t.length) hsi hsl
    have hSIg := fun h => mkSeg_SI (x := x) (tl := t.length) hsi hsl (by omega) h
    rw [hg] at hbd hSIg
    obtain ⟨b1, b2, b3, b4, b5⟩ := hbd
    have w10 := w64 (n := g.org + g.len) (by omega) (by omega)
    by_cases hbig : 65536 < g.org + g.len
    ·rw [if_pos hbig] at hgo
     have hne : i ≠ 0 := fun h => by have := b5 h; omega
     obtain ⟨q1, q2, q3, q4, q5, rfl, rfl, rfl, rfl⟩ := hexit hne hgo
     refine yk9 ?_
     refine W_cT [1, 2, 3, 72] (by simp [segC, w10, hbig]; rfl) rfl ?_
     refine zt9 [1, 2, 3] ?_
     refine zh9 ?_
     exact ⟨[.cells 83 (segC g)], q1, q2, q3, q4, q5, by simp [zw9, segC]⟩
    rw [if_neg hbig] at hgo
    have hgi := hSIg hbig
    refine yk9 ?_
    refine W_cF [1, 2, 3, 4, 5, 72] (by simp [segC, w10, hbig]; rfl) rfl ?_
    refine yh9 ?_
    obtain ⟨n0, hn0⟩ : ∃ n0 : Nat, g.len = n0 := ⟨g.len.toNat, by omega⟩
    have hn0t : g.len.toNat = n0 := by omega
    rw [hn0t] at hgo
    have hdat := data_sound x.data i n0 (by omega) (by omega) (by omega)
    obtain ⟨D, hD⟩ : ∃ D, wd8 x.data i n0 = D := ⟨_, rfl⟩
    have hDl : D.length = n0 := by rw [← hD]; simp
    rw [hD] at hdat hgo
    have qs1 : s.length ≤ 140737488355327 := by omega
    have qs2 : (s.length + 1) * 32 ≤ 140737488355328 := by omega
    have qt1 : t.length + D.length ≤ 140737488355328 := by omega
    have hs0' : ∀ s0, (s ++ [g])[0]? = some s0 → 1 ≤ s0.len := by
     intro s0 h
     cases s with
     | nil => simp at h hsl; subst h; exact (b5 hsl.symm).2
     | cons a l => exact hs0 s0 (by simpa using h)
    have hmem : ∀ y ∈ s ++ [g], SI y := by
     intro y hy
     rcases List.mem_append.1 hy with h | h
     ·exact hsi y h
     ·simp at h; subst h; exact hgi
    rcases hfl with ⟨h0, rfl, rfl, rfl, rfl⟩ | ⟨hpos, rfl, rfl⟩
    ·obtain ⟨d, D', rfl⟩ : ∃ d D', D = d :: D' := by
      cases D with
      | nil => have := b5 h0; simp at hDl; omega
      | cons d D' => exact ⟨d, D', rfl⟩
     have qd : D'.length + 1 ≤ 140737488355328 := by simp at qt1; omega
     refine yt9 [1, 2, 3, 4, 5] (by simp [segC, ys9, catK, AV.cellsK, AV.kone, AV.koneL, sgL]; rfl) ?_
     refine vh9 [1, 2, 3, 4] mx (by decide +kernel) ?_
     refine yw9 7 (by simp [zw9, hn0]; rfl) rfl ?_
     refine yb9 (by simp) (by first | (simp; done) | (simp; rfl)) hdat (by simp; rfl) ?_
     refine yv9 (by simp [wt9, ys9, catK, AV.cellsK, AV.kone, AV.koneL, qd]; rfl) ?_
     refine xd9 3 (Nat.zero_le _) (by simp) (by simp [yn9, AV.under, AV.underL]) (by simp [yg9, xs9, AV.under, AV.underL, zb9, vn9, AV.weak, zw9, z40C]) ?_
     refine zs9 [1, 2, 3, 4] (by simp [wi]; rfl) ?_
     exact ⟨_, by omega, i + 1, [] ++ [g], [] ++ (d :: D'), .tip 5 175, .tip 83 155, rfl, by omega, by rw [show 41 - (i + 1) = 40 - i by omega]; exact hgo, by simp [hsl], by simp at hDl ⊢; omega, hmem, hs0', .inr ⟨by omega, rfl, rfl⟩, by simp [xc9, sgL, zw9, z40C, wt9, hn0]⟩
    ·refine yt9 [1, 2, 3, 4, 5] (by simp [segC, ys9, catK, AV.cellsK, AV.kone, AV.koneL, qs1, qs2]; rfl) ?_
     refine vh9 [1, 2, 3, 4] mx (by decide +kernel) ?_
     refine yw9 7 (by simp [zw9, hn0]; rfl) rfl ?_
     refine yb9 (by simp) (by first | (simp; done) | (simp; rfl)) hdat (by simp; rfl) ?_
     refine yv9 (by simp [ys9, catK, AV.cellsK, AV.kone, AV.koneL, qt1]; rfl) ?_
     refine xd9 3 (Nat.zero_le _) (by simp) (by simp [yn9, AV.under, AV.underL]) (by simp [yg9, xs9, AV.under, AV.underL, zb9, vn9, AV.weak, zw9, z40C]) ?_
     refine zs9 [1, 2, 3, 4] (by simp [wi]; rfl) ?_
     exact ⟨_, by omega, i + 1, s ++ [g], t ++ D, .tip 5 175, .tip 83 155, rfl, by omega, by rw [show 41 - (i + 1) = 40 - i by omega]; exact hgo, by simp [hsl], by simp at hDl ⊢; omega, hmem, hs0', .inr ⟨by omega, rfl, rfl⟩, by simp [xc9, sgL, zw9, z40C, wt9, hn0]⟩
   have c2a : ¬ i < 40 := c2
   have c2b : ¬ (i : Int) < 40 := by omega
   refine W_cF [1, 2, 3, 4, 23] (by simp [zw9, c1a, c1b, c2a, c2b]; rfl) rfl ?_
   rw [if_neg (by omega)] at hgo
   have hne : i ≠ 0 := by omega
   obtain ⟨q1, q2, q3, q4, q5, rfl, rfl, rfl, rfl⟩ := hexit hne hgo
   refine zt9 [1, 2, 3] ?_
   refine zh9 ?_
   exact ⟨[], q1, q2, q3, q4, q5, by simp [zw9]⟩
  have c1a : ¬ i ≤ x.esds.length := c1
  have c1b : ¬ (i : Int) ≤ (x.esds.length : Nat) := by omega
  refine W_cF [1, 2, 3, 4, 23] (by simp [zw9, c1a, c1b]; rfl) rfl ?_
  rw [if_neg (by omega)] at hgo
  have hne : i ≠ 0 := by omega
  obtain ⟨q1, q2, q3, q4, q5, rfl, rfl, rfl, rfl⟩ := hexit hne hgo
  refine zt9 [1, 2, 3] ?_
  refine zh9 ?_
  exact ⟨[], q1, q2, q3, q4, q5, by simp [zw9]⟩
 rintro _ ⟨G, hSI, hS0, hS40, hTx, hS1, rfl⟩
 refine xd9 3 (Nat.zero_le _) (by simp) (by simp [yn9, AV.under, AV.underL]) (by simp [yg9, xs9, AV.under, AV.underL, zb9, vn9]) ?_
 obtain ⟨s0, hs0⟩ : ∃ s0, S[0]? = some s0 := ⟨_, List.getElem?_eq_getElem hS0⟩
 have hs02 : S[0]'hS0 = s0 := by rw [List.getElem?_eq_getElem hS0] at hs0; exact Option.some.inj hs0
 have hl0 := hS1 s0 hs0
 obtain ⟨p1, p2, p3, p4, p5, p6⟩ := hSI s0 (List.mem_of_getElem? hs0)
 obtain ⟨m0, hm0⟩ : ∃ m0 : Nat, s0.len = m0 := ⟨s0.len.toNat, by omega⟩
 have hm00 : ¬ (m0 : Int) = 0 := by omega
 have hm01 : ¬ m0 = 0 := by omega
 obtain ⟨E, hE⟩ : ∃ E, x.entry.toNat % m0 = E := ⟨_, rfl⟩
 have hEm : E < m0 := by rw [← hE]; exact Nat.mod_lt _ (by omega)
 have hremE : Int.tmod (x.entry.toNat : Int) (m0 : Int) = E := by rw [← hE]; exact rfl
 have wE := w64 (n := (E : Int)) (by omega) (by omega)
 have we := w64 (n := (x.entry.toNat : Int)) (by omega) (by omega)
 obtain ⟨R, hR⟩ : ∃ R, relLd x.rlds S 1001 0 0 [] = R := ⟨_, rfl⟩
 have hload : yd8 x = ⟨Tx, R, S, ((E : Nat) : Int)⟩ := by
  simp only [yd8, hPP, hR, List.getD_eq_getElem?_getD, hs0, Option.getD_some, hm0, Int.toNat_natCast, hE]
 rw [hload]
 have hS0' : (0 : Int) < S.length := by omega
 refine (show Wt true 0 Try.prog _ _ ⟨179, [(1, .loc 0 0), (2, .loc 1 0), (3, .loc 2 0)], [.cells 30 (zw9 x), .cells 40 z40C, .cells 40 [.lst (.tip 5 175) 1 (byL Tx), .lst .nil 3 [], .lst (.tip 83 155) 4 (sgL S), .v (.int .i64 0)]]⟩ from ?_)
 refine W_rdK [1, 2, 3] mx (by decide +kernel) ?_
 refine yw9 6 (by simp [zw9, hS0, hS0', hs02, we]; rfl) rfl ?_
 refine yv9 (by simp [hS0, hS0', hs02, hm0, hm00, hm01, hremE, wE, ys9]; rfl) ?_
 refine yt9 [1, 2, 3, 8] (by simp; rfl) ?_
 refine xg9 (fun σ => ∃ fr G, ((R = [] ∧ fr = .nil) ∨ fr = .tip 85 341) ∧ σ = ⟨179, [(1, .loc 0 0), (2, .loc 1 0), (3, .loc 2 0)], [.cells 30 (zw9 x), .cells 40 z40C, .cells 40 [.lst (.tip 5 175) 1 (byL Tx), .lst fr 3 (rlL R), .lst (.tip 83 155) 4 (sgL S), .v (.int .i64 (E : Nat))]] ++ G⟩) ?_ ?_
 ·refine yt9 [1, 2, 3, 8, 9] (by simp; rfl) ?_
  refine yf9 ?_
  refine zn9 (fun k σ => ∃ (i a : Nat) (acc : List Rlo) (fr : Fl), k = 1001 - i ∧ i ≤ 1000 ∧ a ≤ 20 * i ∧ acc.length ≤ i ∧ relLd x.rlds S (1001 - i) i a acc = R ∧ ((acc = [] ∧ fr = .nil) ∨ fr = .tip 85 341) ∧ σ = ⟨179, [(1, .loc 0 0), (2, .loc 1 0), (3, .loc 2 0), (8, .v (.int .i64 (a : Nat))), (9, .v (.int .i64 (i : Nat)))], [.cells 30 (zw9 x), .cells 40 z40C, .cells 40 [.lst (.tip 5 175) 1 (byL Tx), .lst fr 3 (rlL acc), .lst (.tip 83 155) 4 (sgL S), .v (.int .i64 (E : Nat))]]⟩) (k := 1001) ⟨0, 0, [], .nil, rfl, by omega, by omega, by simp, hR, .inl ⟨rfl, rfl⟩, by simp [rlL, zw9]⟩ ?_
  rintro k σ ⟨i, a, acc, fr, rfl, hi, ha, hal, hgo, hfr, rfl⟩
  refine yk9 ?_
  have wi := w64 (n := (i : Int) + 1) (by omega) (by omega)
  rw [show 1001 - i = 1000 - i + 1 by omega, relLd] at hgo
  by_cases c1 : i < 1000
  ·have c1a : i < 1000 := c1
   have c1b : (i : Int) < 1000 := by omega
   by_cases c2 : 0 < x.rlds.length
   ·have c2a : 0 < x.rlds.length := c2
    have c2b : (0 : Int) < (x.rlds.length : Nat) := by omega
    refine W_cT [1, 2, 3, 8, 9, 106] (by simp [zw9, c1a, c1b, c2a, c2b]; rfl) rfl ?_
    refine yh9 ?_
    rw [if_pos ⟨c1, c2⟩] at hgo
    refine yk9 ?_
    refine yf9 ?_
    obtain ⟨q, hq⟩ : ∃ q, i % x.rlds.length = q := ⟨_, rfl⟩
    have hql : q < x.rlds.length := by rw [← hq]; exact Nat.mod_lt _ c2
    have hqi : (q : Int) < x.rlds.length := by omega
    have hremq : Int.tmod (i : Int) (x.rlds.length : Nat) = q := by rw [← hq]; exact rfl
    have wq := w64 (n := (q : Int)) (by omega) (by omega)
    have hln0 : ¬ x.rlds = [] := fun h => by rw [h] at c2; simp at c2
    obtain ⟨n, hn⟩ : ∃ n, x.rlds[q]? = some n := ⟨_, List.getElem?_eq_getElem hql⟩
    have hn2 : x.rlds[q]'hql = n := by rw [List.getElem?_eq_getElem hql] at hn; exact Option.some.inj hn
    have hnl := hx n (List.mem_of_getElem? hn)
    have hnd : x.rlds.getD q 0 = n := by rw [List.getD_eq_getElem?_getD, hn]; rfl
    rw [hq, hnd] at hgo
    have wn := w64 (n := (n : Int)) (by omega) (by omega)
    refine W_rdK [1, 2, 3, 8, 9, 10] mx (by decide +kernel) ?_
    refine yw9 6 (by simp [zw9]; rfl) rfl ?_
    refine yv9 (by simp [hremq, wq, hln0, hql, hqi, hn2, wn]; rfl) ?_
    obtain ⟨u9, hu9⟩ : ∃ u, n % 9 = u := ⟨_, rfl⟩
    obtain ⟨v9, hv9⟩ : ∃ u, n / 9 = u := ⟨_, rfl⟩
    obtain ⟨v4, hv4⟩ : ∃ u, v9 % 4 = u := ⟨_, rfl⟩
    obtain ⟨u2, hu2⟩ : ∃ u, n % 2 = u := ⟨_, rfl⟩
    obtain ⟨u4, hu4⟩ : ∃ u, n % 4 = u := ⟨_, rfl⟩
    obtain ⟨A, hA⟩ : ∃ A, a + u9 = A := ⟨_, rfl⟩
    obtain ⟨Ln, hLn⟩ : ∃ A, 1 + v4 = A := ⟨_, rfl⟩
    have t9 : Int.tmod (n : Int) 9 = (u9 : Nat) := by rw [← hu9]; exact rfl
    have d9 : Int.tdiv (n : Int) 9 = (v9 : Nat) := by rw [← hv9]; exact rfl
    have t4 : Int.tmod (v9 : Int) 4 = (v4 : Nat) := by rw [← hv4]; exact rfl
    have t2 : Int.tmod (n : Int) 2 = (u2 : Nat) := by rw [← hu2]; exact rfl
    have t44 : Int.tmod (n : Int) 4 = (u4 : Nat) := by rw [← hu4]; exact rfl
    have w9 := w64 (n := (u9 : Int)) (by omega) (by omega)
    have wv9 := w64 (n := (v9 : Int)) (by omega) (by omega)
    have wv4 := w64 (n := (v4 : Int)) (by omega) (by omega)
    have wu2 := w64 (n := (u2 : Int)) (by omega) (by omega)
    have wu4 := w64 (n := (u4 : Int)) (by omega) (by omega)
    have wA : IntKind.i64.wrap ((a : Int) + u9) = (A : Nat) := by rw [w64 (by omega) (by omega)]; omega
    have wL : IntKind.i64.wrap (1 + (v4 : Int)) = (Ln : Nat) := by rw [w64 (by omega) (by omega)]; omega
    have hb21 : ((u2 : Int) == 1) = decide (u2 = 1) := by rw [Bool.eq_iff_iff]; simp; omega
    obtain ⟨r, hr⟩ : ∃ r, mkRlo n a = r := ⟨_, rfl⟩
    have hr2 : r = ⟨(A : Nat), (Ln : Nat), decide (u2 = 1)⟩ := by rw [← hr, mkRlo, hu9, hv9, hv4, hu2, hA, hLn]
    rw [hr, hu9, hv9, hv4, hA, hLn, hu4] at hgo
    refine xg9 (fun σ => σ = ⟨179, [(1, .loc 0 0), (2, .loc 1 0), (3, .loc 2 0), (8, .v (.int .i64 (a : Nat))), (9, .v (.int .i64 (i : Nat))), (10, .v (.int .i64 (n : Nat))), (11, .loc 3 0)], [.cells 30 (zw9 x), .cells 40 z40C, .cells 40 [.lst (.tip 5 175) 1 (byL Tx), .lst fr 3 (rlL acc), .lst (.tip 83 155) 4 (sgL S), .v (.int .i64 (E : Nat))], .cells 85 (rloC r)]⟩) ?_ ?_
    ·refine zs9 [1, 2, 3, 8, 9, 10, 11] (by simp [t9, d9, t4, t2, w9, wv9, wv4, wu2, wA, wL, hb21, ys9]; rfl) ?_
     simp [yp9, zw9, hr2, rloC]
    rintro _ rfl
    refine ws9 (fun σ => ¬ (x.rlds.length ≤ i ∧ ¬ u4 = 0) ∧ σ = ⟨179, [(1, .loc 0 0), (2, .loc 1 0), (3, .loc 2 0), (8, .v (.int .i64 (a : Nat))), (9, .v (.int .i64 (i : Nat))), (11, .loc 3 0)], [.cells 30 (zw9 x), .cells 40 z40C, .cells 40 [.lst (.tip 5 175) 1 (byL Tx), .lst fr 3 (rlL acc), .lst (.tip 83 155) 4 (sgL S), .v (.int .i64 (E : Nat))], .cells 85 (rloC r)]⟩) ?_ ?_
    ·by_cases c3 : x.rlds.length ≤ i
     ·have c3a : x.rlds.length ≤ i := c3
      have c3b : (x.rlds.length : Int) ≤ (i : Nat) := by omega
      by_cases c4 : u4 = 0
      ·have c4a : u4 = 0 := c4
       refine W_cF [1, 2, 3, 8, 9, 11, 140] (by simp [zw9, t44, wu4, c3a, c3b, c4a]; rfl) rfl ?_
       refine zt9 [1, 2, 3, 8, 9, 11] ?_
       refine yh9 ?_
       exact ⟨by omega, by simp [zw9]⟩
      have c4a : ¬ u4 = 0 := c4
      have c4b : ((u4 : Int) == 0) = false := by rw [beq_eq_false_iff_ne]; omega
      have c4c : ((u4 : Int) != 0) = true := by rw [bne_iff_ne]; omega
      refine W_cT [1, 2, 3, 8, 9, 11, 140] (by simp [zw9, t44, wu4, c3a, c3b, c4a, c4b, c4c]; rfl) rfl ?_
      rw [if_pos ⟨c3, c4⟩] at hgo
      subst hgo
      refine zt9 [1, 2, 3] ?_
      refine zh9 ?_
      exact ⟨fr, [.cells 85 (rloC r)], hfr, by simp [zw9]⟩
     have c3a : ¬ x.rlds.length ≤ i := c3
     have c3b : ¬ (x.rlds.length : Int) ≤ (i : Nat) := by omega
     refine W_cF [1, 2, 3, 8, 9, 11, 140] (by simp [zw9, t44, wu4, c3a, c3b]; rfl) rfl ?_
     refine zt9 [1, 2, 3, 8, 9, 11] ?_
     refine yh9 ?_
     exact ⟨by omega, by simp [zw9]⟩
    rintro _ ⟨hno, rfl⟩
    rw [if_neg hno] at hgo
    obtain ⟨acc2, hacc2⟩ : ∃ acc2, (if S.any (cov r) = true then acc ++ [r] else acc) = acc2 := ⟨_, rfl⟩
    rw [hacc2] at hgo
    have qa1 : acc.length ≤ 140737488355327 := by omega
    have qa2 : (acc.length + 1) * 24 ≤ 140737488355328 := by omega
    have hacl : acc2.length ≤ i + 1 := by
     rw [← hacc2]
     split
     ·simp; omega
     ·omega
    refine xg9 (fun σ => ∃ fr2 G, ((acc2 = [] ∧ fr2 = .nil) ∨ fr2 = .tip 85 341) ∧ σ = ⟨179, [(1, .loc 0 0), (2, .loc 1 0), (3, .loc 2 0), (8, .v (.int .i64 (a : Nat))), (9, .v (.int .i64 (i : Nat))), (11, .loc 3 0)], [.cells 30 (zw9 x), .cells 40 z40C, .cells 40 [.lst (.tip 5 175) 1 (byL Tx), .lst fr2 3 (rlL acc2), .lst (.tip 83 155) 4 (sgL S), .v (.int .i64 (E : Nat))], .cells 85 (rloC r)] ++ G⟩) ?_ ?_
    ·refine yt9 [1, 2, 3, 8, 9, 11, 142, 143, 144] (by simp; rfl) ?_
     refine yf9 ?_
     refine zn9 (fun k σ => ∃ j : Nat, k = S.length - j ∧ j ≤ S.length ∧ S.any (cov r) = (S.drop j).any (cov r) ∧ σ = ⟨179, [(1, .loc 0 0), (2, .loc 1 0), (3, .loc 2 0), (8, .v (.int .i64 (a : Nat))), (9, .v (.int .i64 (i : Nat))), (11, .loc 3 0), (142, .lst (.tip 83 155) 4 (sgL S)), (143, .v (.int .i64 (S.length : Nat))), (144, .v (.int .i64 (j : Nat)))], [.cells 30 (zw9 x), .cells 40 z40C, .cells 40 [.lst (.tip 5 175) 1 (byL Tx), .lst fr 3 (rlL acc), .lst (.tip 83 155) 4 (sgL S), .v (.int .i64 (E : Nat))], .cells 85 (rloC r)]⟩) (k := S.length) ⟨0, rfl, by omega, by simp, by simp⟩ ?_
     rintro k σ ⟨j, rfl, hj, hany, rfl⟩
     by_cases cj : j < S.length
     ·have cji : (j : Int) < S.length := by omega
      obtain ⟨g, hg⟩ : ∃ g, S[j]? = some g := ⟨_, List.getElem?_eq_getElem cj⟩
      have hg2 : S[j]'cj = g := by rw [List.getElem?_eq_getElem cj] at hg; exact Option.some.inj hg
      have hdr : S.drop j = g :: S.drop (j + 1) := by rw [List.drop_eq_getElem_cons cj, hg2]
      obtain ⟨g1, g2, g3, g4, g5, g6⟩ := hSI g (List.mem_of_getElem? hg)
      have wj := w64 (n := (j : Int) + 1) (by omega) (by omega)
      have wAL : IntKind.i64.wrap ((A : Int) + Ln) = (A : Int) + Ln := w64 (by omega) (by omega)
      have wFL : IntKind.i64.wrap (g.frm + g.len) = g.frm + g.len := w64 (by omega) (by omega)
      have hcov : cov r g = (decide (g.frm ≤ (A : Int)) && decide ((A : Int) + Ln ≤ g.frm + g.len)) := by rw [hr2]; rfl
      rw [hdr, List.any_cons] at hany
      refine yt9 [1, 2, 3, 8, 9, 11, 142, 143, 144, 145] (by simp [cji]; rfl) ?_
      refine yk9 ?_
      refine yd9 rfl (fun h => ?_) (fun h => by simp [cj] at h)
      refine yh9 ?_
      refine yk9 ?_
      refine yf9 ?_
      refine yt9 [1, 2, 3, 8, 9, 11, 142, 143, 144, 13] (by simp [cj, cji, hg2, ys9]; rfl) ?_
      refine xg9 (fun σ => σ = ⟨179, [(1, .loc 0 0), (2, .loc 1 0), (3, .loc 2 0), (8, .v (.int .i64 (a : Nat))), (9, .v (.int .i64 (i : Nat))), (11, .loc 3 0), (142, .lst (.tip 83 155) 4 (sgL S)), (143, .v (.int .i64 (S.length : Nat))), (144, .v (.int .i64 (j : Nat))), (165, .v (.bool (cov r g)))], [.cells 30 (zw9 x), .cells 40 z40C, .cells 40 [.lst (.tip 5 175) 1 (byL Tx), .lst fr 3 (rlL acc), .lst (.tip 83 155) 4 (sgL S), .v (.int .i64 (E : Nat))], .cells 85 (rloC r), .cells 83 (segC g)]⟩) ?_ ?_
      ·by_cases k1 : g.frm ≤ (A : Int)
       ·by_cases k2 : (A : Int) + Ln ≤ g.frm + g.len
        ·refine W_rE [1, 2, 3, 8, 9, 11, 142, 143, 144, 165] ?_
         refine yq9 6 (by simp [rloC, hr2, segC, wAL, wFL, k1, k2]; rfl) rfl ?_
         refine yq9 6 (by simp [rloC, hr2, segC, wAL, wFL, k1, k2]; rfl) rfl ?_
         refine yr9 (by simp [rloC, hr2, segC, wAL, wFL, k1, k2]; rfl) ?_
         simp [yp9, cov, hr2, rloC, segC, k1, k2]
        refine W_rE [1, 2, 3, 8, 9, 11, 142, 143, 144, 165] ?_
        refine yq9 6 (by simp [rloC, hr2, segC, wAL, wFL, k1, k2]; rfl) rfl ?_
        refine yq9 6 (by simp [rloC, hr2, segC, wAL, wFL, k1, k2]; rfl) rfl ?_
        refine yr9 (by simp [rloC, hr2, segC, wAL, wFL, k1, k2]; rfl) ?_
        simp [yp9, cov, hr2, rloC, segC, k1, k2]
       refine W_rE [1, 2, 3, 8, 9, 11, 142, 143, 144, 165] ?_
       refine yq9 6 (by simp [rloC, hr2, segC, wAL, wFL, k1]; rfl) rfl ?_
       refine yq9 6 (by simp [rloC, hr2, segC, wAL, wFL, k1]; rfl) rfl ?_
       refine yr9 (by simp [rloC, hr2, segC, wAL, wFL, k1]; rfl) ?_
       simp [yp9, cov, hr2, rloC, segC, k1]
      rintro _ rfl
      by_cases hc : cov r g = true
      ·have hacc3 : acc2 = acc ++ [r] := by rw [← hacc2, hany, hc]; simp
       refine yd9 (t := true) (by simp [hc]) (fun h => ?_) (fun h => by simp at h)
       rcases hfr with ⟨rfl, rfl⟩ | rfl
       all_goals
        refine yt9 [1, 2, 3, 8, 9, 11] (by simp [ys9, catK, AV.cellsK, AV.kone, AV.koneL, qa1, qa2, hr2, rloC, rlL]; rfl) ?_
        refine zh9 ?_
        refine ⟨.tip 85 341, [.cells 83 (segC g)], .inr rfl, ?_⟩
        rw [hacc3, hr2]
        simp [rlL, rloC, zw9, z40C, segC, AV.killL, AV.kill]
      ·have hcf : cov r g = false := by simpa using hc
       refine yd9 (t := false) (by simp [hcf]) (fun h => by simp at h) (fun h => ?_)
       refine yh9 ?_
       refine xd9 4 (by simp) (by simp) (by simp [yn9, AV.under, AV.underL]) (by simp [yg9, xs9, AV.under, AV.underL, zb9, vn9, rloC]) ?_
       refine zs9 [1, 2, 3, 8, 9, 11, 142, 143, 144] (by simp [wj]; rfl) ?_
       exact ⟨_, by omega, j + 1, rfl, by omega, by rw [hany, hcf]; simp, by simp⟩
     have hje : j = S.length := by omega
     rw [hje, List.drop_length, List.any_nil] at hany
     have hacc3 : acc2 = acc := by rw [← hacc2, hany]; simp
     rw [hacc3]
     refine yt9 [1, 2, 3, 8, 9, 11, 145] (by simp [cj]; rfl) ?_
     refine yk9 ?_
     refine yd9 rfl (fun h => by simp [hje] at h) (fun h => ?_)
     refine zt9 [1, 2, 3, 8, 9, 11] ?_
     refine zh9 ?_
     exact ⟨fr, [], hfr, by simp⟩
    rintro _ ⟨fr2, G, hfr2, rfl⟩
    refine xd9 4 (by simp) (by simp) (by simp [yn9, AV.under, AV.underL]) (by simp [yg9, xs9, AV.under, AV.underL, zb9, vn9, rloC]) ?_
    obtain ⟨A2, hA2⟩ : ∃ A2, A + Ln = A2 := ⟨_, rfl⟩
    have wA2 : IntKind.i64.wrap ((A : Int) + Ln) = (A2 : Nat) := by rw [w64 (by omega) (by omega)]; omega
    rw [hA2] at hgo
    refine zs9 [1, 2, 3, 9, 8] (by simp [rloC, hr2, wA2]; rfl) ?_
    refine xd9 3 (Nat.zero_le _) (by simp) (by simp [yn9, AV.under, AV.underL]) (by simp [yg9, xs9, AV.under, AV.underL, zb9, vn9]) ?_
    refine zs9 [1, 2, 3, 8, 9] (by simp [wi]; rfl) ?_
    exact ⟨_, by omega, i + 1, A2, acc2, fr2, rfl, by omega, by omega, hacl, by rw [show 1001 - (i + 1) = 1000 - i by omega]; exact hgo, hfr2, by simp⟩
   have c2a : ¬ 0 < x.rlds.length := c2
   have c2b : ¬ (0 : Int) < (x.rlds.length : Nat) := by omega
   have c2c : x.rlds = [] := List.eq_nil_of_length_eq_zero (by omega)
   refine W_cF [1, 2, 3, 8, 9, 106] (by simp [zw9, c1a, c1b, c2a, c2b, c2c]; rfl) rfl ?_
   rw [if_neg (by omega)] at hgo
   subst hgo
   refine zt9 [1, 2, 3] ?_
   refine zh9 ?_
   exact ⟨fr, [], hfr, by simp [zw9, c1a, c1b, c2a, c2b, c2c]⟩
  have c1a : ¬ i < 1000 := c1
  have c1b : ¬ (i : Int) < 1000 := by omega
  refine W_cF [1, 2, 3, 8, 9, 106] (by simp [zw9, c1a, c1b]; rfl) rfl ?_
  rw [if_neg (by omega)] at hgo
  subst hgo
  refine zt9 [1, 2, 3] ?_
  refine zh9 ?_
  exact ⟨fr, [], hfr, by simp [zw9, c1a, c1b]⟩
 rintro _ ⟨fr, G, hfr, rfl⟩
 refine xd9 3 (Nat.zero_le _) (by simp) (by simp [yn9, AV.under, AV.underL]) (by simp [yg9, xs9, AV.under, AV.underL, zb9, vn9]) ?_
 rcases hfr with ⟨rfl, rfl⟩ | rfl
 all_goals
  refine yt9 [1, 2, 3] (by simp [z40C, ys9]; rfl) ?_
  refine zr9 ?_
  repeat (first | refine yl9 ?_ | refine yc9 ?_)
  refine ⟨_, by simp [retQ]; exact ⟨rfl, by simp [AV.rf, AV.rfL]⟩, ?_⟩
  first
   | (have h := AV.Le.dp (P := Try.prog) (.agg [.lst (.tip 5 175) 1 (byL Tx), .lst .nil 3 (rlL []), .lst (.tip 83 155) 4 (sgL S), .v (.int .i64 (E : Nat))]); simpa [AV.dp, AV.dpL] using h)
   | (have h := AV.Le.dp (P := Try.prog) (.agg [.lst (.tip 5 175) 1 (byL Tx), .lst (.tip 85 341) 3 (rlL R), .lst (.tip 83 155) 4 (sgL S), .v (.int .i64 (E : Nat))]); simpa [AV.dp, AV.dpL] using h)
end Go.AM
namespace Go.AM
open Go.RowKit Go.Proofs
set_option linter.unusedSimpArgs false
set_option linter.unusedVariables false
set_option maxHeartbeats 1000000
structure TF (P : Program) : Prop where
 u3 : P.underlying 3 = some (.int .i64)
 u4 : P.underlying 4 = some .bool
 u5 : P.underlying 5 = some (.int .u8)
 u56 : P.underlying 56 = some (.int .u16)
 u27 : P.underlying 27 = some (.slice 5)
 u28 : P.underlying 28 = some (.slice 56)
 u37 : P.underlying 37 = some (.slice 85)
 u38 : P.underlying 38 = some (.slice 83)
 c5 : P.cellsOf 5 = 1
 c56 : P.cellsOf 56 = 1
 c85 : P.cellsOf 85 = 3
 c83 : P.cellsOf 83 = 4
 c40 : P.cellsOf 40 = 4
 c30 : P.cellsOf 30 = 5
 b5 : P.bytesOf 5 = 1
 b56 : P.bytesOf 56 = 2
 f85 : flds P 85 = some [(3, 0, 1), (3, 1, 1), (4, 2, 1)]
 f83 : flds P 83 = some [(3, 0, 1), (3, 1, 1), (3, 2, 1), (3, 3, 1)]
 f40 : flds P 40 = some [(27, 0, 1), (37, 1, 1), (38, 2, 1), (3, 3, 1)]
 f30 : flds P 30 = some [(27, 0, 1), (28, 1, 1), (28, 2, 1), (5, 3, 1), (27, 4, 1)]
theorem tf : TF Try.prog := ⟨by kernel_rfl, by kernel_rfl, by kernel_rfl, by kernel_rfl, by kernel_rfl, by kernel_rfl, by kernel_rfl, by kernel_rfl, by kernel_rfl, by kernel_rfl, by kernel_rfl, by kernel_rfl, by kernel_rfl, by kernel_rfl, by kernel_rfl, by kernel_rfl, by kernel_rfl, by kernel_rfl, by kernel_rfl, by kernel_rfl⟩
section
variable {P : Program}
theorem ty_slice {n : Nat} {t e : TypeId} {x : AV} (hu : P.underlying t = some (.slice e)) (h : TyV P (n + 1) t x) : ∃ o l, x = .lst o (P.cellsOf e) l ∧ l.length ≤ maxLen ∧ l.length * P.bytesOf e ≤ 140737488351232 ∧ ∀ y ∈ l, TyV P n e y := by
 rcases h with ⟨h1, _⟩ | ⟨_, h⟩
 ·simp [isSt, hu] at h1
 ·simp only [TyC, hu] at h
  obtain ⟨o, l, hl, hmax, _, _, hx⟩ := h
  simp only [List.cons.injEq, and_true] at hl
  exact ⟨o, l, hl, hmax.1, hmax.2, hx⟩
theorem dpL_choose {β : Type} {F : β → AV} {Q : β → Prop} : ∀ {l : List AV}, (∀ y ∈ l, ∃ b, y.dp = F b ∧ Q b) → ∃ bs : List β, AV.dpL l = bs.map F ∧ bs.length = l.length ∧ ∀ b ∈ bs, Q b
 | [], _ => ⟨[], rfl, rfl, by simp⟩
 | y :: l, h => by
  obtain ⟨b, h1, h2⟩ := h y (by simp)
  obtain ⟨bs, k1, k2, k3⟩ := dpL_choose (l := l) fun y hy => h y (by simp [hy])
  refine ⟨b :: bs, by simp [AV.dpL, h1, k1], by simp [k2], fun c hc => ?_⟩
  rcases List.mem_cons.1 hc with rfl | hc
  ·exact h2
  ·exact k3 c hc
theorem len5 {α : Type} {l : List α} (h : l.length = 5) : ∃ a b c d e, l = [a, b, c, d, e] := by
 match l, h with
 | [a, b, c, d, e], _ => exact ⟨a, b, c, d, e, rfl⟩
theorem fldAt {n : Nat} {ys : List AV} {l : List (TypeId × Nat × Nat)} (hf : ∀ p ∈ l, TyC P n p.1 ((ys.drop p.2.1).take p.2.2)) (t : TypeId) (i : Nat) (x : AV) (hm : (t, i, 1) ∈ l) (hx : ys[i]? = some x) (hs : isSt P t = false) : TyV P n t x := by
 have h := hf _ hm
 simp only at h
 have e : (ys.drop i).take 1 = [x] := by
  obtain ⟨h1, h2⟩ := List.getElem?_eq_some_iff.1 hx
  rw [List.drop_eq_getElem_cons h1, h2]; rfl
 rw [e] at h
 exact .inr ⟨hs, h⟩
theorem ty_u16 {n : Nat} {t : TypeId} {x : AV} (hu : P.underlying t = some (.int .u16)) (h : TyV P (n + 1) t x) : ∃ b : Nat, x = .v (.int .u16 b) ∧ b < 65536 := by
 obtain ⟨m, rfl, h1, h2⟩ := ty_int hu h
 rw [show IntKind.u16.min = 0 from by decide +kernel] at h1
 rw [show IntKind.u16.max = 65535 from by decide +kernel] at h2
 obtain ⟨b, rfl⟩ : ∃ b : Nat, m = b := ⟨m.toNat, by omega⟩
 exact ⟨b, rfl, by omega⟩
theorem ty_u16s (T : TF P) {n : Nat} {x : AV} (h : TyV P (n + 3) 28 x) : ∃ l : List Nat, x.dp = .lst .any 1 (u16L l) ∧ l.length ≤ 140737488351232 ∧ ∀ n ∈ l, n < 65536 := by
 obtain ⟨o, l, rfl, _, hl, hy⟩ := ty_slice T.u28 h
 rw [T.b56] at hl
 obtain ⟨bs, h1, h2, h3⟩ := dpL_choose (F := fun n : Nat => AV.v (.int .u16 n)) (Q := fun n => n < 65536) (l := l) fun y hm => by
  obtain ⟨b, rfl, hb⟩ := ty_u16 T.u56 (hy y hm)
  exact ⟨b, rfl, hb⟩
 exact ⟨bs, by simp only [AV.dp, h1, T.c56]; rfl, by rw [h2]; omega, h3⟩
theorem ty_seed (T : TF P) {n : Nat} {x : AV} (h : TyV P (n + 5) 30 x) : ∃ m : SeedM, x.dp = seedA m ∧ (∀ n ∈ m.txts, n < 65536) ∧ (∀ n ∈ m.rlds, n < 65536) ∧ m.esds.length ≤ 9223372036854775000 ∧ m.txts.length ≤ 9223372036854775000 ∧ m.rlds.length ≤ 9223372036854775000 ∧ m.data.length ≤ 9223372036854775000 := by
 obtain ⟨ys, rfl, hl, hf⟩ := ty_struct T.f30 T.c30 h
 obtain ⟨a, b, c, d, e, rfl⟩ := len5 hl
 obtain ⟨o0, t, rfl, _, k0⟩ := ty_bytes T.u27 T.u5 T.c5 (fldAt hf 27 0 _ (by simp) rfl (by simp [isSt, T.u27]))
 obtain ⟨l1, h1, k1, b1⟩ := ty_u16s T (n := n + 1) (fldAt hf 28 1 _ (by simp) rfl (by simp [isSt, T.u28]))
 obtain ⟨l2, h2, k2, b2⟩ := ty_u16s T (n := n + 1) (fldAt hf 28 2 _ (by simp) rfl (by simp [isSt, T.u28]))
 obtain ⟨u, rfl⟩ := ty_u8 T.u5 (fldAt hf 5 3 _ (by simp) rfl (by simp [isSt, T.u5]))
 obtain ⟨o4, t4, rfl, _, k4⟩ := ty_bytes T.u27 T.u5 T.c5 (fldAt hf 27 4 _ (by simp) rfl (by simp [isSt, T.u27]))
 have e : AV.dpL (t.map fun b : UInt8 => AV.v (.int .u8 b.toNat)) = byL t := dpL_byL t
 have e4 : AV.dpL (t4.map fun b : UInt8 => AV.v (.int .u8 b.toNat)) = byL t4 := dpL_byL t4
 rw [T.b5] at k0 k4
 refine ⟨⟨t, l1, l2, u, t4⟩, ?_, b1, b2, by simp only; omega, by simp only; omega, by simp only; omega, by simp only; omega⟩
 simp only [AV.dp, AV.dpL, e, e4, seedA, h1, h2]
end
end Go.AM
namespace Go.AM
open Go.RowKit Go.Proofs
set_option linter.unusedSimpArgs false
set_option linter.unusedVariables false
set_option maxHeartbeats 4000000
def xr8 (L : List (List UInt8)) (n k : Nat) : List (List UInt8) := (L.take n).map (·.take k)
theorem cutLists_sound (L : List (List UInt8)) (hL : L.length ≤ 9223372036854775000) (hb : ∀ l ∈ L, l.length ≤ 9223372036854775000) : Sound Try.prog 23 [.lst .any 1 (bbL L), .v (.int .i64 20), .v (.int .i64 1100)] (.lst .any 1 (bbL (xr8 L 20 1100))) := by
 refine zb8 Try.func23 rfl (by decide +kernel) (by simp [Try.f23]) rfl rfl (rs := [.tmp 6]) rfl ?_
 rw [show Try.f23.ntmps = 36 from rfl]
 obtain ⟨N, hN⟩ : ∃ N, min L.length 20 = N := ⟨_, rfl⟩
 refine yt9 [0, 1, 2] (by simp; rfl) ?_
 refine yt9 [0, 1, 2, 7] (by simp; rfl) ?_
 refine yk9 ?_
 refine yt9 [0, 1, 2, 7, 8] (by simp; rfl) ?_
 refine yf9 ?_
 refine zn9 (fun k s => ∃ (i : Nat) (fl : Fl), k = N - i ∧ i ≤ N ∧ ((i = 0 ∧ fl = .nil) ∨ (0 < i ∧ fl = .tip 27 69)) ∧
  s = ⟨36, [(0, .lst .any 1 (bbL L)), (1, .v (.int .i64 20)), (2, .v (.int .i64 1100)), (7, .lst fl 1 (bbL (xr8 L i 1100))), (8, .v (.int .i64 (i : Nat)))], []⟩) (k := N) ⟨0, .nil, rfl, by omega, .inl ⟨rfl, rfl⟩, by simp [xr8, bbL]⟩ ?_
 rintro k s ⟨i, fl, rfl, hi, hfl, rfl⟩
 refine yk9 ?_
 by_cases c : i < N
 ·have c1 : i < L.length := by omega
  have ci : (i : Int) < L.length := by omega
  have c20 : (i : Int) < 20 := by omega
  obtain ⟨b, hb'⟩ : ∃ b, L[i]? = some b := ⟨_, List.getElem?_eq_getElem c1⟩
  have hb2 : L[i]'c1 = b := by rw [List.getElem?_eq_getElem c1] at hb'; exact Option.some.inj hb'
  have hbl := hb b (List.mem_of_getElem? hb')
  have wi := w64 (n := (i : Int) + 1) (by omega) (by omega)
  have hlen : (xr8 L i 1100).length = i := by simp [xr8]; omega
  have hsnoc : xr8 L (i + 1) 1100 = xr8 L i 1100 ++ [b.take 1100] := by rw [xr8, xr8, List.take_add_one, hb', Option.toList_some, List.map_append]; rfl
  obtain ⟨q, hq⟩ : ∃ q, min b.length 1100 = q := ⟨_, rfl⟩
  have hmin : (if (1100 : Int) < (b.length : Nat) then (1100 : Int) else (b.length : Nat)) = (q : Nat) := by split <;> omega
  have hql : q ≤ b.length := by omega
  have hqi : (q : Int) ≤ b.length := by omega
  have htk : b.take q = b.take 1100 := by
   rw [← hq]
   rcases Nat.le_total b.length 1100 with h | h
   ·rw [Nat.min_eq_left h, List.take_of_length_le (Nat.le_refl _), List.take_of_length_le h]
   ·rw [Nat.min_eq_right h]
  have hbytes : (i + 1) * 24 ≤ 140737488355328 := by omega
  refine W_cT [0, 1, 2, 7, 8, 17] (by simp [ci, c20]; rfl) rfl ?_
  refine yh9 ?_
  refine yk9 ?_
  refine yf9 ?_
  have hb4 : bbL (xr8 L (i + 1) 1100) = bbL (xr8 L i 1100) ++ [.lst .any 1 (byL (b.take q))] := by rw [hsnoc, htk]; simp [bbL]
  have hbl2 : (bbL (xr8 L i 1100)).length = i := by simp [hlen]
  obtain ⟨O, hO⟩ : ∃ O, bbL (xr8 L i 1100) = O := ⟨_, rfl⟩
  rw [hO] at hbl2 hb4 ⊢
  rcases hfl with ⟨h0, rfl⟩ | ⟨h0, rfl⟩
  ·have hO0 : O = [] := by
    rw [h0] at hbl2
    exact List.eq_nil_of_length_eq_zero hbl2
   rw [hO0] at hb4 ⊢
   refine vh9 [0, 1, 2, 7, 8] mx (by decide +kernel) ?_
   refine yw9 6 (by simp [c1, ci, hb2]; rfl) rfl ?_
   refine yw9 6 (by simp [c1, ci, hb2, hmin, hql, hqi]; rfl) rfl ?_
   refine yv9 (by simp [hql, hqi]; rfl) ?_
   refine zs9 [0, 1, 2, 7, 8] (by simp [wi]; rfl) ?_
   exact ⟨_, by omega, i + 1, _, rfl, by omega, .inr ⟨by omega, rfl⟩, by simp [hb4, xw9]⟩
  ·refine vh9 [0, 1, 2, 7, 8] mx (by decide +kernel) ?_
   refine yw9 6 (by simp [c1, ci, hb2]; rfl) rfl ?_
   refine yw9 6 (by simp [c1, ci, hb2, hmin, hql, hqi]; rfl) rfl ?_
   refine yv9 (by simp [hbl2, hbytes, hql, hqi]; rfl) ?_
   refine zs9 [0, 1, 2, 7, 8] (by simp [wi]; rfl) ?_
   exact ⟨_, by omega, i + 1, _, rfl, by omega, .inr ⟨by omega, rfl⟩, by simp [hb4, xw9]⟩
 have hiN : i = N := by omega
 have hres : xr8 L i 1100 = xr8 L 20 1100 := by
  rw [hiN, ← hN]
  rcases Nat.le_total L.length 20 with h | h
  ·rw [Nat.min_eq_left h, xr8, xr8, List.take_of_length_le (Nat.le_refl _), List.take_of_length_le h]
  ·rw [Nat.min_eq_right h]
 rw [hres]
 by_cases c1 : i < L.length
 ·have ci : (i : Int) < L.length := by omega
  have c20 : ¬ (i : Int) < 20 := by omega
  refine W_cF [7, 17] (by simp [c1, ci, c20]; rfl) rfl ?_
  refine zh9 ?_
  refine yt9 [6] (by simp; rfl) ?_
  refine zr9 ?_
  repeat (first | refine yl9 ?_ | refine yc9 ?_)
  exact yc7 (r0 := .lst fl 1 (bbL (xr8 L 20 1100))) ⟨.inr rfl, _, _, by simp; rfl, by simp; rfl, by simp [AV.rf, AV.rfL]⟩ (by rcases hfl with ⟨_, rfl⟩ | ⟨_, rfl⟩ <;> simp [AV.plain])
 ·have ci : ¬ (i : Int) < L.length := by omega
  refine W_cF [7, 17] (by simp [c1, ci]; rfl) rfl ?_
  refine zh9 ?_
  refine yt9 [6] (by simp; rfl) ?_
  refine zr9 ?_
  repeat (first | refine yl9 ?_ | refine yc9 ?_)
  exact yc7 (r0 := .lst fl 1 (bbL (xr8 L 20 1100))) ⟨.inr rfl, _, _, by simp; rfl, by simp; rfl, by simp [AV.rf, AV.rfL]⟩ (by rcases hfl with ⟨_, rfl⟩ | ⟨_, rfl⟩ <;> simp [AV.plain])
end Go.AM
namespace Go.AM
open Go.RowKit Go.Proofs
set_option linter.unusedSimpArgs false
set_option linter.unusedVariables false
set_option maxHeartbeats 4000000
@[simp] theorem eq27c (y : AV) (l : List AV) : eqA Try.prog 27 (.lst .any 1 (y :: l)) (.lst .nil 0 []) = some false := by
 unfold eqA
 simp only [k27]
 rfl
@[simp] theorem eq27n : eqA Try.prog 27 (.lst .nil 1 []) (.lst .nil 0 []) = some true := by
 unfold eqA
 simp only [k27]
 rfl
@[simp] theorem eq27s (a : Addr) (n cap : Nat) : eqA Try.prog 27 (.v (.slice (some a) n cap)) (.lst .nil 0 []) = some false := by
 unfold eqA
 simp only [k27]
 rfl
theorem clone64 (l : List UInt8) (hl : l.length ≤ 140737488351232) : Sound Try.prog 64 [.lst .any 1 (byL l)] (.lst (.tip 5 1) 1 (byL l)) := by
 refine zb8 Try.func64 rfl (by decide +kernel) (by simp [Try.f64]) rfl rfl (rs := [.tmp 2]) rfl ?_
 rw [show Try.f64.ntmps = 8 from rfl]
 have hb : l.length ≤ 140737488355328 := by omega
 refine yt9 [0] (by simp; rfl) ?_
 refine yk9 ?_
 cases l with
 | cons x l =>
  refine W_cF [0, 4] (by simp [wt9]; rfl) rfl ?_
  refine yh9 ?_
  rw [← wt9]
  refine yt9 [2] (by simp at hb; simp [hb]; rfl) ?_
  refine zr9 ?_
  repeat (first | refine yl9 ?_ | refine yc9 ?_)
  exact ⟨_, by simp [retQ]; exact ⟨rfl, by simp⟩, .norm fun T => by simp⟩
 | nil =>
  refine W_nilCases 0 (sz := 1) rfl ?_ fun ad cap hc => ?_
  ·refine W_cT [0, 4] (by simp [putF]; rfl) rfl ?_
   refine yt9 [2] (by simp; rfl) ?_
   refine zr9 ?_
   repeat (first | refine yl9 ?_ | refine yc9 ?_)
   exact ⟨.lst .nil 1 [], by simp [retQ], .nil (by decide +kernel)⟩
  ·refine W_cF [0, 4] (by simp [putF]; rfl) rfl ?_
   refine yh9 ?_
   refine zt9 [0] ?_
   refine W_unnil 0 1 (by simp; rfl) hc ?_
   refine yt9 [2] (by simp [putF]; rfl) ?_
   refine zr9 ?_
   repeat (first | refine yl9 ?_ | refine yc9 ?_)
   exact ⟨_, by simp [retQ]; exact ⟨rfl, by simp⟩, .norm fun T => by simp⟩
theorem clone64p (l : List UInt8) (hl : l.length ≤ 140737488351232) : Sound Try.prog 64 [.lst .any 1 (byL l)] (.lst .any 1 (byL l)) := (clone64 l hl).weakR
def rdS (r : List UInt8) : Seg := ⟨(valM (r.take 2) : Int) - 1, valM ((r.drop 2).take 4), valM ((r.drop 6).take 4), valM ((r.drop 10).take 4)⟩
def segRd : Nat → List UInt8 → List Seg
 | 0, _ => []
 | f + 1, r => if 14 ≤ r.length then rdS r :: segRd f (r.drop 14) else []
def rdR (r : List UInt8) : Rlo := ⟨valM (r.take 4), ((r.getD 4 0).toNat % 128 : Nat), decide (128 ≤ (r.getD 4 0).toNat)⟩
def relRd : Nat → List UInt8 → List Rlo
 | 0, _ => []
 | f + 1, r => if 5 ≤ r.length then rdR r :: relRd f (r.drop 5) else []
def itemM (m : LMod) (b : List UInt8) : LMod :=
 if (b.getD 0 0) = 1 then ⟨m.text, m.rel, m.seg ++ segRd b.length (b.drop 7), valM ((b.drop 1).take 4)⟩
 else if (b.getD 0 0) = 2 then ⟨m.text ++ b.drop 5, m.rel, m.seg, m.entry⟩
 else if (b.getD 0 0) = 3 then ⟨m.text, m.rel ++ relRd b.length (b.drop 1), m.seg, m.entry⟩
 else m
def goL : List (List UInt8) → LMod → Option LMod
 | [], m => some m
 | b :: r, m => if b.length < 5 then none else goL r (itemM m b)
def lm0 : LMod := ⟨[], [], [], 0⟩
def dcLM (L : List (List UInt8)) : LMod × Bool := match goL L lm0 with
 | none => (lm0, false)
 | some m => if ckM m = true ∧ encL m = L then (m, true) else (lm0, false)
theorem segRd_len : ∀ (f : Nat) (r : List UInt8), (segRd f r).length * 14 ≤ r.length
 | 0, r => by simp [segRd]
 | f + 1, r => by
  rw [segRd]
  split
  ·have := segRd_len f (r.drop 14)
   simp only [List.length_drop] at this
   simp only [List.length_cons]
   omega
  ·simp
theorem relRd_len : ∀ (f : Nat) (r : List UInt8), (relRd f r).length * 5 ≤ r.length
 | 0, r => by simp [relRd]
 | f + 1, r => by
  rw [relRd]
  split
  ·have := relRd_len f (r.drop 5)
   simp only [List.length_drop] at this
   simp only [List.length_cons]
   omega
  ·simp
structure LB (m : LMod) (n : Nat) : Prop where
 s : m.seg.length * 14 ≤ n
 t : m.text.length ≤ n
 r : m.rel.length ≤ n
theorem LB.item {m : LMod} {n : Nat} {b : List UInt8} (h : LB m n) : LB (itemM m b) (n + b.length) := by
 obtain ⟨h1, h2, h3⟩ := h
 have k1 := segRd_len b.length (b.drop 7)
 have k2 := relRd_len b.length (b.drop 1)
 simp only [List.length_drop] at k1 k2
 unfold itemM
 split
 ·exact ⟨by simp only [List.length_append]; omega, by simp only; omega, by simp only; omega⟩
 split
 ·exact ⟨by simp only; omega, by simp only [List.length_append, List.length_drop]; omega, by simp only; omega⟩
 split
 ·exact ⟨by simp only; omega, by simp only; omega, by simp only [List.length_append]; omega⟩
 ·exact ⟨by omega, by omega, by omega⟩
end Go.AM
namespace Go.AM
open Go.RowKit Go.Proofs
set_option linter.unusedSimpArgs false
set_option linter.unusedVariables false
set_option maxHeartbeats 4000000
theorem txtGo_len (t : List UInt8) : ∀ f i, (txtGo t f i).length ≤ f
 | 0, i => by simp [txtGo]
 | f + 1, i => by
  rw [txtGo]
  split
  ·have := txtGo_len t f (i + 1000); simp; omega
  ·simp
theorem rloGo_len (l : List Rlo) : ∀ f i, (rloGo l f i).length ≤ f
 | 0, i => by simp [rloGo]
 | f + 1, i => by
  rw [rloGo]
  split
  ·have := rloGo_len l f (i + 200); simp; omega
  ·simp
theorem encL_len (m : LMod) : (encL m).length ≤ m.text.length + m.rel.length + 2 := by
 have h1 := txtGo_len m.text m.text.length 0
 have h2 := rloGo_len m.rel m.rel.length 0
 simp [encL]
 omega
structure LSm (m : LMod) : Prop where
 s : m.seg.length ≤ 100000
 t : m.text.length ≤ 10000000
 r : m.rel.length ≤ 10000000
end Go.AM
