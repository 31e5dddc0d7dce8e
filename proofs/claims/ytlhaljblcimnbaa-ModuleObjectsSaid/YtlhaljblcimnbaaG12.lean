/- Parts of the walk: C31OK C31OR C31OQ C31LT C31OT C31OU. -/
import Derived.Test.YtlhaljblcimnbaaG11
namespace Go.AM
open Go.RowKit Go.Proofs
set_option linter.unusedSimpArgs false
set_option linter.unusedVariables false
set_option maxHeartbeats 8000000
def nO (x : SeedM) (i : Nat) : Nat := if i = 0 then 0 else (x.esds.getD (i - 1) 0).toNat
def secO (i id addr n : Nat) : Esd := ⟨if n % 5 = 4 then [] else symG i, 1, (id : Nat), (addr : Nat), ((n * 4 : Nat) : Int)⟩
def entO (i n : Nat) (s : Esd) : Esd := ⟨symG i, 2, s.id, s.addr + ((n % (s.len.toNat + 1) : Nat) : Int), 0⟩
def extO (i id : Nat) : Esd := ⟨symG i, 3, (id : Nat), 0, 0⟩
def esdO (x : SeedM) : Nat → Nat → Nat → Nat → List Esd → List Esd → List Esd × List Esd × Nat
 | 0, _, id, _, secs, acc => (acc, secs, id)
 | f + 1, i, id, addr, secs, acc =>
  if i ≤ x.esds.length ∧ i < 40 then
   (if nO x i % 3 = 0 then esdO x f (i + 1) (id + 1) (addr + nO x i * 4) (secs ++ [secO i id addr (nO x i)]) (acc ++ [secO i id addr (nO x i)])
    else if nO x i % 3 = 1 then esdO x f (i + 1) id addr secs (acc ++ [entO i (nO x i) (secs.getD (nO x i % secs.length) es0)])
    else esdO x f (i + 1) (id + 1) addr secs (acc ++ [extO i id]))
  else (acc, secs, id)
def SB (top : Nat) (s : Esd) : Prop := s.kind = 1 ∧ 1 ≤ s.id ∧ s.id ≤ 41 ∧ 0 ≤ s.addr ∧ 0 ≤ s.len ∧ s.len ≤ 1020 ∧ s.addr + s.len ≤ top
theorem SB.mono {a b : Nat} (h : a ≤ b) {s : Esd} (hs : SB a s) : SB b s := by
 obtain ⟨h1, h2, h3, h4, h5, h6, h7⟩ := hs
 exact ⟨h1, h2, h3, h4, h5, h6, by omega⟩
def txtO (x : SeedM) (secs : List Esd) : Nat → Nat → List Txt → List Txt
 | 0, _, acc => acc
 | f + 1, i, acc =>
  if i < x.txts.length ∧ i < 30 then
   (let t := x.txts.getD i 0
    let s := secs.getD (t % secs.length) es0
    if 0 < s.len then txtO x secs f (i + 1) (acc ++ [⟨s.id, s.addr + ((t / 3 % s.len.toNat : Nat) : Int), dataM x.data i (1 + t / 7 % (min 56 (s.len.toNat - t / 3 % s.len.toNat)))⟩])
    else txtO x secs f (i + 1) acc)
  else acc
def rldO (x : SeedM) (secs : List Esd) (id : Nat) : Nat → Nat → List Rld → List Rld
 | 0, _, acc => acc
 | f + 1, i, acc =>
  if i < x.rlds.length ∧ i < 30 then
   (let t := x.rlds.getD i 0
    let s := secs.getD (t % secs.length) es0
    if 4 ≤ s.len then rldO x secs id f (i + 1) (acc ++ [⟨s.id, ((1 + t / 5 % (id - 1) : Nat) : Int), s.addr + ((t / 3 % (s.len.toNat - 3) : Nat) : Int), ((1 + t / 11 % 4 : Nat) : Int), decide (t % 2 = 1)⟩])
    else rldO x secs id f (i + 1) acc)
  else acc
def entrO (x : SeedM) (A : List Esd) : List UInt8 :=
 let e := A.getD (x.entry.toNat % A.length) es0
 if x.entry.toNat % 2 = 1 ∧ e.kind ≠ 3 then e.name else []
def objM (x : SeedM) : OMod :=
 let p := esdO x 41 0 1 0 [] []
 ⟨p.1, txtO x p.2.1 31 0 [], rldO x p.2.1 p.2.2 31 0 [], entrO x p.1⟩
def zObC : List AV := [.lst .nil 5 [], .lst .nil 3 [], .lst .nil 5 [], .v (.string ⟨#[]⟩)]
theorem zObT : AV.toksL zObC = [] := by simp [zObC, AV.toksL, AV.toks]
theorem zh7 (x : SeedM) : AV.toksL (zv9 x) = [] := by simp [zv9, AV.toksL, AV.toks]
@[simp] theorem killL_zObC (t : Nat) : AV.killL t zObC = zObC := by simp [zObC, AV.killL, AV.kill]
theorem esT (x : Esd) : AV.toksL (esC x) = [] := by simp [esC, AV.toksL, AV.toks, strB]
theorem wu16k {n : Int} (h1 : 0 ≤ n) (h2 : n ≤ 65535) : IntKind.u16.wrap n = n := by
 simp [IntKind.wrap, IntKind.signed, IntKind.bits]; omega
theorem frz_es {h : List AObj} (id : Nat) (s : Esd) (hid : h[id]? = some (.cells 78 (esC s))) : wk9 Try.prog h 1 id 0 1 1 = some (.lst (.tip 78 1) 5 [esA s], h.set id (.froz 78 (esC s))) := by
 unfold wk9
 rw [hid]
 simp [esC, strB, AV.koneL, AV.kone, AV.rfL, AV.rf, chunk, AV.weakL, AV.weak]
def ord23 : Ord := .one 0 (.one 1 (.one 2 (.one 3 (.one 4 (.one 5 (.one 6 (.one 7 (.one 8 (.one 9 (.one 10 (.one 11 (.one 12 (.one 13 (.one 14 (.one 15 (.one 16 .done))))))))))))))))
def ro23 (i : Nat) : Bool := i == 1 || i == 3 || i == 7
theorem object_sound (x : SeedM) (ht : ∀ n ∈ x.txts, n < 65536) (hr : ∀ n ∈ x.rlds, n < 65536) (hl1 : x.esds.length ≤ 9223372036854775000) (hl4 : x.txts.length ≤ 9223372036854775000) (hl2 : x.rlds.length ≤ 9223372036854775000) (hl3 : x.data.length ≤ 9223372036854775000) : Sound Try.prog 10 [seedA x] (obA (objM x)) := by
 refine ym8 Try.func10 rfl (by decide +kernel) (by simp [Try.f10]) (by simp [AV.rfL, AV.rf]) (by simp [AV.tlL, AV.tl]) (rs := [.cell 2 26]) rfl ?_
 rw [show Try.f10.ntmps = 269 from rfl]
 have hent := x.entry.toNat_lt
 refine yt9 [1, 2] (by simp; rfl) ?_
 refine yt9 [1, 2, 3] (by simp [yd9]; rfl) ?_
 refine yt9 [1, 2, 3, 4] (by simp; rfl) ?_
 refine yt9 [1, 2, 3, 4, 5, 6] (by simp; rfl) ?_
 obtain ⟨PP, hPP⟩ : ∃ p, esdO x 41 0 1 0 [] [] = p := ⟨_, rfl⟩
 obtain ⟨A, S, ID⟩ := PP
 refine xv9 (fun σ => (∀ s ∈ S, SB 40800 s) ∧ 0 < S.length ∧ S.length ≤ 40 ∧ 0 < A.length ∧ A.length ≤ 40 ∧ 2 ≤ ID ∧ ID ≤ 41 ∧
  σ = ⟨269, [(1, .loc 0 0), (2, .loc 1 0), (3, .loc 2 0), (4, .lst (.tip 78 145) 5 (esL S)), (5, .v (.int .i64 (ID : Nat)))], [.cells 30 (zv9 x), .cells 26 zObC, .cells 26 [.lst (.tip 78 203) 5 (esL A), .lst .nil 3 [], .lst .nil 5 [], .v (.string ⟨#[]⟩)]]⟩) ?_ ?_
 ·refine yt9 [1, 2, 3, 4, 5, 6, 7] (by simp; rfl) ?_
  refine yp9 ?_
  refine zn9 (fun m σ => ∃ (i id addr : Nat) (secs acc : List Esd) (f4 fe : Fl), m = 41 - i ∧ i ≤ 40 ∧ esdO x (41 - i) i id addr secs acc = (A, S, ID) ∧ secs.length ≤ i ∧ acc.length = i ∧ 1 ≤ id ∧ id ≤ i + 1 ∧ addr ≤ 1020 * i ∧ (∀ s ∈ secs, SB addr s) ∧
   ((i = 0 ∧ id = 1 ∧ addr = 0 ∧ f4 = .nil ∧ fe = .nil ∧ secs = [] ∧ acc = []) ∨ (0 < i ∧ 2 ≤ id ∧ 0 < secs.length ∧ f4 = .tip 78 145 ∧ fe = .tip 78 203)) ∧
   σ = ⟨269, [(1, .loc 0 0), (2, .loc 1 0), (3, .loc 2 0), (4, .lst f4 5 (esL secs)), (5, .v (.int .i64 (id : Nat))), (6, .v (.int .i64 (addr : Nat))), (7, .v (.int .i64 (i : Nat)))], [.cells 30 (zv9 x), .cells 26 zObC, .cells 26 [.lst fe 5 (esL acc), .lst .nil 3 [], .lst .nil 5 [], .v (.string ⟨#[]⟩)]]⟩) (k := 41) ⟨0, 1, 0, [], [], .nil, .nil, rfl, by omega, hPP, by simp, rfl, by omega, by omega, by omega, by simp, .inl ⟨rfl, rfl, rfl, rfl, rfl, rfl, rfl⟩, by simp [zv9, zObC, esL]⟩ ?_
  rintro m σ ⟨i, id, addr, secs, acc, f4, fe, rfl, hi, hgo, hsl, hal, hid1, hid2, had, hsb, hfl, rfl⟩
  refine yc9 ?_
  have wi := w64 (n := (i : Int) + 1) (by omega) (by omega)
  rw [show 41 - i = 40 - i + 1 by omega, esdO] at hgo
  have hexit : i ≠ 0 → (acc, secs, id) = (A, S, ID) → (∀ s ∈ S, SB 40800 s) ∧ 0 < S.length ∧ S.length ≤ 40 ∧ 0 < A.length ∧ A.length ≤ 40 ∧ 2 ≤ ID ∧ ID ≤ 41 ∧ f4 = .tip 78 145 ∧ fe = .tip 78 203 ∧ secs = S ∧ acc = A ∧ id = ID := by
   intro h0 he
   obtain ⟨rfl, he2⟩ := Prod.mk.inj he
   obtain ⟨rfl, rfl⟩ := Prod.mk.inj he2
   rcases hfl with ⟨h, _⟩ | ⟨_, h1, h2, h3, h4⟩
   ·exact absurd h h0
   ·exact ⟨fun s hs => (hsb s hs).mono (by omega), by omega, by omega, by omega, by omega, by omega, by omega, h3, h4, rfl, rfl, rfl⟩
  by_cases c1 : i ≤ x.esds.length
  ·have c1a : i ≤ x.esds.length := c1
   have c1b : (i : Int) ≤ (x.esds.length : Nat) := by omega
   by_cases c2 : i < 40
   ·have c2a : i < 40 := c2
    have c2b : (i : Int) < 40 := by omega
    rw [if_pos ⟨c1, c2⟩] at hgo
    have hq1 : acc.length ≤ 5864062014804 := by omega
    have hq1' : secs.length ≤ 5864062014804 := by omega
    have hq2 : (acc.length + 1) * 48 ≤ 140737488355328 := by omega
    have hq2' : (secs.length + 1) * 48 ≤ 140737488355328 := by omega
    have wid : IntKind.i64.wrap ((id : Int) + 1) = ((id + 1 : Nat) : Int) := by rw [w64 (by omega) (by omega)]; omega
    by_cases i0 : i = 0
    ·subst i0
     obtain ⟨rfl, rfl, rfl, rfl, rfl, rfl⟩ : id = 1 ∧ addr = 0 ∧ f4 = .nil ∧ fe = .nil ∧ secs = [] ∧ acc = [] := by
      rcases hfl with ⟨_, h⟩ | ⟨h, _⟩
      ·exact h
      ·omega
     have hn0 : nO x 0 = 0 := rfl
     rw [hn0, if_pos rfl] at hgo
     refine W_cT [1, 2, 3, 4, 5, 6, 7, 27] (by simp [zv9, c1a, c1b, c2a, c2b]; rfl) rfl ?_
     refine yk9 ?_
     refine yc9 ?_
     refine yp9 ?_
     refine yt9 [1, 2, 3, 4, 5, 6, 7, 8] (by simp; rfl) ?_
     refine xv9 (fun σ => σ = ⟨269, [(1, .loc 0 0), (2, .loc 1 0), (3, .loc 2 0), (4, .lst .nil 5 []), (5, .v (.int .i64 1)), (6, .v (.int .i64 0)), (7, .v (.int .i64 0))] ++ [(8, .v (.int .u8 0))], [.cells 30 (zv9 x), .cells 26 zObC, .cells 26 [.lst .nil 5 [], .lst .nil 3 [], .lst .nil 5 [], .v (.string ⟨#[]⟩)]]⟩) ?_ ?_
     ·refine W_cF [1, 2, 3, 4, 5, 6, 7, 8, 31] (by simp; rfl) rfl ?_
      refine ym9 [1, 2, 3, 4, 5, 6, 7, 8] ?_
      refine yk9 ?_
      simp [zv9, zObC, esL]
     rintro _ rfl
     refine W_rK [1, 2, 3, 4, 5, 6, 7, 8, 9] ?_
     refine yq9 1 (by simp [zObT, zh7]; rfl) rfl ?_
     refine yj9 (by simp) (by first | (simp; done) | (simp; rfl)) (symbol35_sound 0 (by omega)) (by simp; rfl) ?_
     refine yw9 (by simp [yd9, strB, zObT, zh7]; rfl) ?_
     refine xv9 (fun σ => σ = ⟨269, [(1, .loc 0 0), (2, .loc 1 0), (3, .loc 2 0), (4, .lst (.tip 78 145) 5 (esL [secO 0 1 0 0])), (5, .v (.int .i64 2)), (6, .v (.int .i64 0)), (7, .v (.int .i64 0)), (9, .loc 3 0)], [.cells 30 (zv9 x), .cells 26 zObC, .cells 26 [.lst .nil 5 [], .lst .nil 3 [], .lst .nil 5 [], .v (.string ⟨#[]⟩)], .cells 78 (esC (secO 0 1 0 0))]⟩) ?_ ?_
     ·refine yt9 [1, 2, 3, 4, 5, 6, 7, 8, 9, 42] (by simp [zObT, zh7]; rfl) ?_
      refine yp9 ?_
      refine W_cT [1, 2, 3, 4, 5, 6, 7, 8, 9, 42, 48] (by simp; rfl) rfl ?_
      refine W_rK [1, 2, 3, 4, 5, 6, 7, 8, 9] ?_
      refine yq9 6 (by simp [show IntKind.i64.wrap 0 = 0 from rfl]; rfl) rfl ?_
      refine yw9 (by simp [yd9]; rfl) ?_
      refine yc9 ?_
      refine W_cF [1, 2, 3, 4, 5, 6, 7, 9, 61] (by simp; rfl) rfl ?_
      refine yk9 ?_
      refine yt9 [1, 2, 3, 4, 5, 6, 7, 9] (by simp [show IntKind.i64.wrap 0 = 0 from rfl]; rfl) ?_
      refine yt9 [1, 2, 3, 4, 5, 6, 7, 9] (by simp [show IntKind.i64.wrap 2 = 2 from rfl, show IntKind.i64.wrap (1 + 1) = 2 from rfl]; rfl) ?_
      refine zd9 [1, 2, 3, 4, 5, 6, 7, 9] (by simp [yd9, catK, AV.cellsK, AV.kone, AV.koneL, AV.weak, AV.weakL, strB, zObT, zh7]; rfl) ?_
      simp [secO, esC, esL, strB, zv9, zObC]
     rintro _ rfl
     have hq3 : (1 : Nat) * 48 ≤ 140737488355328 := by omega
     refine zd9 [1, 2, 3, 4, 5, 6, 7] (by simp [yd9, catK, AV.cellsK, AV.kone, AV.koneL, AV.weak, AV.weakL, strB, esC, zObT, zh7, hq3]; rfl) ?_
     refine xk9 3 (Nat.zero_le _) (by simp) (by simp [yb9, AV.under, AV.underL]) (by simp [yl9, xd9, AObj.under, yb9, AV.under, AV.underL, wg9, zObC, esC, strB]) ?_
     refine zd9 [1, 2, 3, 4, 5, 6, 7] (by simp [show IntKind.i64.wrap 1 = 1 from rfl]; rfl) ?_
     refine ⟨_, by omega, 1, 2, 0, [secO 0 1 0 0], [secO 0 1 0 0], .tip 78 145, .tip 78 203, rfl, by omega, hgo, by simp, rfl, by omega, by omega, by omega, ?_, .inr ⟨by omega, by omega, by simp, rfl, rfl⟩, by simp [esL, secO, zv9, zObC, strB]⟩
     intro s hs
     simp only [List.mem_singleton] at hs
     subst hs
     exact ⟨rfl, by simp [secO], by simp [secO], by simp [secO], by simp [secO], by simp [secO], by simp [secO]⟩
    obtain ⟨h2id, hsp, rfl, rfl⟩ : 2 ≤ id ∧ 0 < secs.length ∧ f4 = .tip 78 145 ∧ fe = .tip 78 203 := by
     rcases hfl with ⟨h, _⟩ | ⟨_, h⟩
     ·omega
     ·exact h
    obtain ⟨j, hj⟩ : ∃ j, i = j + 1 := ⟨i - 1, by omega⟩
    have hjl : j < x.esds.length := by omega
    have hji : (j : Int) < x.esds.length := by omega
    obtain ⟨by_, hby0⟩ : ∃ b, x.esds[j]? = some b := ⟨_, List.getElem?_eq_getElem hjl⟩
    have hby1 : x.esds[j]'hjl = by_ := by rw [List.getElem?_eq_getElem hjl] at hby0; exact Option.some.inj hby0
    have hnO : nO x i = by_.toNat := by rw [nO, if_neg i0, show i - 1 = j by omega, List.getD_eq_getElem?_getD, hby0]; rfl
    have hNl := by_.toNat_lt
    obtain ⟨N, hN⟩ : ∃ N, by_.toNat = N := ⟨_, rfl⟩
    rw [hN] at hnO hNl
    rw [hnO] at hgo
    have wsub : IntKind.i64.wrap ((i : Int) - 1) = (j : Nat) := by rw [w64 (by omega) (by omega)]; omega
    have i0i : (0 : Int) < i := by omega
    have i0n : 0 < i := by omega
    have wN : IntKind.i64.wrap (N : Int) = N := w64 (by omega) (by omega)
    have wm4 : IntKind.i64.wrap ((N : Int) * 4) = (N : Int) * 4 := w64 (by omega) (by omega)
    have wadd : IntKind.i64.wrap ((addr : Int) + (N : Int) * 4) = (addr : Int) + (N : Int) * 4 := w64 (by omega) (by omega)
    have wid1 : IntKind.i64.wrap ((id : Int) + 1) = (id : Int) + 1 := w64 (by omega) (by omega)
    have hm3 : (N : Int).tmod 3 = ((N % 3 : Nat) : Int) := rfl
    have hm5 : (N : Int).tmod 5 = ((N % 5 : Nat) : Int) := rfl
    have hf : ∀ {R : List Esd × List Esd × Nat} {id' addr' : Nat} {s' a' : List Esd}, esdO x (40 - i) (i + 1) id' addr' s' a' = R → esdO x (41 - (i + 1)) (i + 1) id' addr' s' a' = R := fun h => by rw [show 41 - (i + 1) = 40 - i by omega]; exact h
    refine W_cT [1, 2, 3, 4, 5, 6, 7, 27] (by simp [zv9, c1a, c1b, c2a, c2b]; rfl) rfl ?_
    refine yk9 ?_
    refine yc9 ?_
    refine yp9 ?_
    refine yt9 [1, 2, 3, 4, 5, 6, 7, 8] (by simp; rfl) ?_
    refine xv9 (fun σ => σ = ⟨269, [(1, .loc 0 0), (2, .loc 1 0), (3, .loc 2 0), (4, .lst (.tip 78 145) 5 (esL secs)), (5, .v (.int .i64 (id : Nat))), (6, .v (.int .i64 (addr : Nat))), (7, .v (.int .i64 (i : Nat)))] ++ [(8, .v (.int .u8 (N : Nat)))], [.cells 30 (zv9 x), .cells 26 zObC, .cells 26 [.lst (.tip 78 203) 5 (esL acc), .lst .nil 3 [], .lst .nil 5 [], .v (.string ⟨#[]⟩)]]⟩) ?_ ?_
    ·refine W_cT [1, 2, 3, 4, 5, 6, 7, 8, 31] (by simp [i0i, i0n]; rfl) rfl ?_
     refine zd9 [1, 2, 3, 4, 5, 6, 7, 8] (by simp [zv9, wsub, hjl, hji, hby1, hN]; rfl) ?_
     simp [zv9, zObC, hN]
    rintro _ rfl
    refine W_rK [1, 2, 3, 4, 5, 6, 7, 8, 9] ?_
    refine yq9 1 (by simp [zObT, zh7]; rfl) rfl ?_
    refine yj9 (by simp) (by first | (simp; done) | (simp; rfl)) (symbol35_sound i c2) (by simp; rfl) ?_
    refine yw9 (by simp [yd9, strB, zObT, zh7]; rfl) ?_
    by_cases q3 : N % 3 = 0
    ·rw [if_pos q3] at hgo
     refine xv9 (fun σ => σ = ⟨269, [(1, .loc 0 0), (2, .loc 1 0), (3, .loc 2 0), (4, .lst (.tip 78 145) 5 (esL (secs ++ [secO i id addr N]))), (5, .v (.int .i64 (id + 1 : Nat))), (6, .v (.int .i64 (addr + N * 4 : Nat))), (7, .v (.int .i64 (i : Nat)))] ++ [(9, .loc 3 0)], [.cells 30 (zv9 x), .cells 26 zObC, .cells 26 [.lst (.tip 78 203) 5 (esL acc), .lst .nil 3 [], .lst .nil 5 [], .v (.string ⟨#[]⟩)]] ++ [.cells 78 (esC (secO i id addr N))]⟩) ?_ ?_
     ·refine yt9 [1, 2, 3, 4, 5, 6, 7, 8, 9, 42] (by simp [zObT, zh7, hm3, q3]; rfl) ?_
      refine yp9 ?_
      refine W_cT [1, 2, 3, 4, 5, 6, 7, 8, 9, 42, 48] (by simp; rfl) rfl ?_
      refine W_rK [1, 2, 3, 4, 5, 6, 7, 8, 9] ?_
      refine yq9 6 (by simp [wN, wm4]; rfl) rfl ?_
      refine yw9 (by simp [yd9]; rfl) ?_
      refine xv9 (fun σ => σ = ⟨269, [(1, .loc 0 0), (2, .loc 1 0), (3, .loc 2 0), (4, .lst (.tip 78 145) 5 (esL secs)), (5, .v (.int .i64 (id : Nat))), (6, .v (.int .i64 (addr : Nat))), (7, .v (.int .i64 (i : Nat)))] ++ [(9, .loc 3 0)], [.cells 30 (zv9 x), .cells 26 zObC, .cells 26 [.lst (.tip 78 203) 5 (esL acc), .lst .nil 3 [], .lst .nil 5 [], .v (.string ⟨#[]⟩)]] ++ [.cells 78 (esC (secO i id addr N))]⟩) ?_ ?_
      ·by_cases q5 : N % 5 = 4
       ·refine W_cT [1, 2, 3, 4, 5, 6, 7, 9, 61] (by simp [hm5, q5]; rfl) rfl ?_
        refine zd9 [1, 2, 3, 4, 5, 6, 7, 9] (by simp [yd9]; rfl) ?_
        simp [secO, q5, esC, strB, zv9, zObC]
       ·have q5b : (((N % 5 : Nat) : Int) == 4) = false := by simp; omega
        refine W_cF [1, 2, 3, 4, 5, 6, 7, 9, 61] (by simp [hm5, q5b, -Int.natCast_emod]; rfl) rfl ?_
        refine ym9 [1, 2, 3, 4, 5, 6, 7, 9] ?_
        refine yk9 ?_
        simp [secO, q5, esC, strB, zv9, zObC]
      rintro _ rfl
      obtain ⟨e0, he0⟩ : ∃ e, secO i id addr N = e := ⟨_, rfl⟩
      have hel : e0.len = (N : Int) * 4 := by rw [← he0]; simp [secO]
      rw [he0]
      refine yt9 [1, 2, 3, 4, 5, 6, 7, 9] (by simp [esC, esT, zObT, zh7, hel, wadd]; rfl) ?_
      refine yt9 [1, 2, 3, 4, 5, 6, 7, 9] (by simp [wid1]; rfl) ?_
      refine zd9 [1, 2, 3, 4, 5, 6, 7, 9] (by simp [yd9, catK, AV.cellsK, AV.kone, AV.koneL, AV.weak, AV.weakL, strB, zObT, zh7, esC, esT, hq1', hq2']; rfl) ?_
      simp [esL, esC, strB, zv9, zObC, hel]
     rintro _ rfl
     obtain ⟨e, he⟩ : ∃ e, secO i id addr N = e := ⟨_, rfl⟩
     rw [he] at hgo ⊢
     refine zd9 [1, 2, 3, 4, 5, 6, 7] (by simp [yd9, catK, AV.cellsK, AV.kone, AV.koneL, AV.weak, AV.weakL, strB, zObT, zh7, esC, esT, hq1, hq2]; rfl) ?_
     refine xk9 3 (Nat.zero_le _) (by simp) (by simp [yb9, AV.under, AV.underL]) (by simp [yl9, xd9, AObj.under, yb9, AV.under, AV.underL, wg9, zObC, esC, strB]) ?_
     refine zd9 [1, 2, 3, 4, 5, 6, 7] (by simp [wi]; rfl) ?_
     refine ⟨_, by omega, i + 1, id + 1, addr + N * 4, secs ++ [e], acc ++ [e], .tip 78 145, .tip 78 203, rfl, by omega, hf hgo, by simp; omega, by simp [hal], by omega, by omega, by omega, ?_, .inr ⟨by omega, by omega, by simp, rfl, rfl⟩, by simp [esL, zv9, zObC, strB]⟩
     intro s hs
     simp only [List.mem_append, List.mem_singleton] at hs
     rcases hs with hs | hs
     ·exact (hsb s hs).mono (by omega)
     ·rw [hs, ← he]
      refine ⟨rfl, ?_, ?_, ?_, ?_, ?_, ?_⟩ <;> simp only [secO] <;> omega
    have q3b : (((N % 3 : Nat) : Int) == 0) = false := by simp; omega
    rw [if_neg q3] at hgo
    by_cases q31 : N % 3 = 1
    ·rw [if_pos q31] at hgo
     obtain ⟨k, hk⟩ : ∃ k, N % secs.length = k := ⟨_, rfl⟩
     have hkl : k < secs.length := by rw [← hk]; exact Nat.mod_lt _ hsp
     have hki : (k : Int) < secs.length := by omega
     have hmk : (N : Int).tmod (secs.length : Int) = (k : Nat) := by rw [← hk]; rfl
     have hns : ¬ secs.length = 0 := by omega
     have hnsi : ¬ ((secs.length : Int) = 0) := by omega
     obtain ⟨s, hs⟩ : ∃ s, secs[k]? = some s := ⟨_, List.getElem?_eq_getElem hkl⟩
     have hk1 : secs[k]'hkl = s := by rw [List.getElem?_eq_getElem hkl] at hs; exact Option.some.inj hs
     rw [hk, show secs.getD k es0 = s by rw [List.getD_eq_getElem?_getD, hs]; rfl] at hgo
     obtain ⟨b1, b2, b3, b4, b5, b6, b7⟩ := hsb s (List.mem_of_getElem? hs)
     obtain ⟨L, hL⟩ : ∃ n : Nat, s.len = n := ⟨s.len.toNat, by omega⟩
     obtain ⟨ad2, had2⟩ : ∃ n : Nat, s.addr = n := ⟨s.addr.toNat, by omega⟩
     obtain ⟨M, hM⟩ : ∃ M, N % (L + 1) = M := ⟨_, rfl⟩
     have hMl : M < L + 1 := by rw [← hM]; exact Nat.mod_lt _ (by omega)
     have hmM : (N : Int).tmod ((L : Int) + 1) = (M : Nat) := by rw [← hM]; rfl
     have hl0 : ¬ ((L : Int) + 1 = 0) := by omega
     have wl1 : IntKind.i64.wrap ((L : Int) + 1) = (L : Int) + 1 := w64 (by omega) (by omega)
     have wadM : IntKind.i64.wrap ((ad2 : Int) + (M : Int)) = (ad2 : Int) + (M : Int) := w64 (by omega) (by omega)
     refine xv9 (fun σ => σ = ⟨269, [(1, .loc 0 0), (2, .loc 1 0), (3, .loc 2 0), (4, .lst (.tip 78 145) 5 (esL secs)), (5, .v (.int .i64 (id : Nat))), (6, .v (.int .i64 (addr : Nat))), (7, .v (.int .i64 (i : Nat)))] ++ [(9, .loc 3 0)], [.cells 30 (zv9 x), .cells 26 zObC, .cells 26 [.lst (.tip 78 203) 5 (esL acc), .lst .nil 3 [], .lst .nil 5 [], .v (.string ⟨#[]⟩)]] ++ [.cells 78 (esC (entO i N s)), .froz 78 (esC s)]⟩) ?_ ?_
     ·refine yt9 [1, 2, 3, 4, 5, 6, 7, 8, 9, 42] (by simp [zObT, zh7, hm3, -Int.natCast_emod]; rfl) ?_
      refine yp9 ?_
      refine W_cF [1, 2, 3, 4, 5, 6, 7, 8, 9, 42, 48] (by simp [q3b, -Int.natCast_emod]; rfl) rfl ?_
      refine W_cT [1, 2, 3, 4, 5, 6, 7, 8, 9, 42, 73] (by simp [q31]; rfl) rfl ?_
      refine yt9 [1, 2, 3, 4, 5, 6, 7, 8, 9, 10] (by simp [wN, hmk, hkl, hki, hk1, hns, hnsi, yd9, AV.weakL, AV.weak, AV.koneL, AV.kone, strB]; rfl) ?_
      refine W_roB 10 (tk := 1) (x := esA s) rfl (by decide) (frz_es 4 s (by simp [esC, strB])) (by simp [AV.rf, AV.rfL, strB]) ?_
      refine vr9 [1, 2, 3, 4, 5, 6, 7, 9] (W_ord ro23 ord23 mx (by decide +kernel) ?_)
      refine evO_runO _ _ _ (by simp [evO, ord23, ro23, roAt, hL, had2, wl1, wN, hmM, hl0, wadM, yd9, putF, strB]; rfl) ?_
      intro s' hs'
      simp only [List.mem_append, List.mem_singleton, List.mem_cons, List.not_mem_nil, or_false] at hs'
      subst hs'
      refine ⟨_, Seen.refl _ _, ?_⟩
      simp [entO, esC, strB, zv9, zObC, hL, had2, hM]
     rintro _ rfl
     obtain ⟨e, he⟩ : ∃ e, entO i N s = e := ⟨_, rfl⟩
     rw [he] at hgo ⊢
     refine zd9 [1, 2, 3, 4, 5, 6, 7] (by simp [yd9, catK, AV.cellsK, AV.kone, AV.koneL, AV.weak, AV.weakL, strB, zObT, zh7, esC, esT, hq1, hq2]; rfl) ?_
     refine xk9 3 (Nat.zero_le _) (by simp) (by simp [yb9, AV.under, AV.underL]) (by simp [yl9, xd9, AObj.under, yb9, AV.under, AV.underL, wg9, zObC, esC, strB]) ?_
     refine zd9 [1, 2, 3, 4, 5, 6, 7] (by simp [wi]; rfl) ?_
     refine ⟨_, by omega, i + 1, id, addr, secs, acc ++ [e], .tip 78 145, .tip 78 203, rfl, by omega, hf hgo, by omega, by simp [hal], by omega, by omega, by omega, ?_, .inr ⟨by omega, by omega, hsp, rfl, rfl⟩, by simp [esL, zv9, zObC, strB]⟩
     exact hsb
    have q31b : (((N % 3 : Nat) : Int) == 1) = false := by simp; omega
    rw [if_neg q31] at hgo
    refine xv9 (fun σ => σ = ⟨269, [(1, .loc 0 0), (2, .loc 1 0), (3, .loc 2 0), (4, .lst (.tip 78 145) 5 (esL secs)), (5, .v (.int .i64 (id + 1 : Nat))), (6, .v (.int .i64 (addr : Nat))), (7, .v (.int .i64 (i : Nat)))] ++ [(9, .loc 3 0)], [.cells 30 (zv9 x), .cells 26 zObC, .cells 26 [.lst (.tip 78 203) 5 (esL acc), .lst .nil 3 [], .lst .nil 5 [], .v (.string ⟨#[]⟩)]] ++ [.cells 78 (esC (extO i id))]⟩) ?_ ?_
    ·refine yt9 [1, 2, 3, 4, 5, 6, 7, 8, 9, 42] (by simp [zObT, zh7, hm3, -Int.natCast_emod]; rfl) ?_
     refine yp9 ?_
     refine W_cF [1, 2, 3, 4, 5, 6, 7, 8, 9, 42, 48] (by simp [q3b, -Int.natCast_emod]; rfl) rfl ?_
     refine W_cF [1, 2, 3, 4, 5, 6, 7, 8, 9, 73] (by simp [q31b, -Int.natCast_emod]; rfl) rfl ?_
     refine yt9 [1, 2, 3, 4, 5, 6, 7, 9] (by simp [yd9]; rfl) ?_
     refine zd9 [1, 2, 3, 4, 5, 6, 7, 9] (by simp [wid1]; rfl) ?_
     simp [extO, esC, strB, zv9, zObC]
    rintro _ rfl
    obtain ⟨e, he⟩ : ∃ e, extO i id = e := ⟨_, rfl⟩
    rw [he] at hgo ⊢
    refine zd9 [1, 2, 3, 4, 5, 6, 7] (by simp [yd9, catK, AV.cellsK, AV.kone, AV.koneL, AV.weak, AV.weakL, strB, zObT, zh7, esC, esT, hq1, hq2]; rfl) ?_
    refine xk9 3 (Nat.zero_le _) (by simp) (by simp [yb9, AV.under, AV.underL]) (by simp [yl9, xd9, AObj.under, yb9, AV.under, AV.underL, wg9, zObC, esC, strB]) ?_
    refine zd9 [1, 2, 3, 4, 5, 6, 7] (by simp [wi]; rfl) ?_
    refine ⟨_, by omega, i + 1, id + 1, addr, secs, acc ++ [e], .tip 78 145, .tip 78 203, rfl, by omega, hf hgo, by omega, by simp [hal], by omega, by omega, by omega, ?_, .inr ⟨by omega, by omega, hsp, rfl, rfl⟩, by simp [esL, zv9, zObC, strB]⟩
    exact hsb
   ·have c2b : ¬ ((i : Int) < 40) := by omega
    rw [if_neg (fun h => c2 h.2)] at hgo
    refine W_cF [1, 2, 3, 4, 5, 6, 7, 27] (by simp [zv9, c1a, c1b, c2, c2b]; rfl) rfl ?_
    refine ym9 [1, 2, 3, 4, 5] ?_
    refine zc9 ?_
    obtain ⟨q1, q2, q3, q4, q5, q6, q7, rfl, rfl, rfl, rfl, rfl⟩ := hexit (by omega) hgo
    exact ⟨q1, q2, q3, q4, q5, q6, q7, by simp [zv9, zObC]⟩
  ·have c1b : ¬ (i : Int) ≤ (x.esds.length : Nat) := by omega
   rw [if_neg (fun h => c1 h.1)] at hgo
   refine W_cF [1, 2, 3, 4, 5, 6, 7, 27] (by simp [zv9, c1, c1b]; rfl) rfl ?_
   refine ym9 [1, 2, 3, 4, 5] ?_
   refine zc9 ?_
   obtain ⟨q1, q2, q3, q4, q5, q6, q7, rfl, rfl, rfl, rfl, rfl⟩ := hexit (by omega) hgo
   exact ⟨q1, q2, q3, q4, q5, q6, q7, by simp [zv9, zObC]⟩
 rintro _ ⟨hSB, hS0, hS1, hA0, hA1, hI0, hI1, rfl⟩
 have hobj : objM x = ⟨A, txtO x S 31 0 [], rldO x S ID 31 0 [], entrO x A⟩ := by simp only [objM, hPP]
 rw [hobj]
 obtain ⟨TT, hTT⟩ : ∃ t, txtO x S 31 0 [] = t := ⟨_, rfl⟩
 obtain ⟨RR, hRR⟩ : ∃ t, rldO x S ID 31 0 [] = t := ⟨_, rfl⟩
 rw [hTT, hRR]
 have hns : ¬ S.length = 0 := by omega
 have hnsi : ¬ ((S.length : Int) = 0) := by omega
 refine xv9 (fun σ => ∃ ft, (ft = .nil ∧ TT = [] ∨ ft = .tip 73 337) ∧ σ = ⟨269, [(1, .loc 0 0), (2, .loc 1 0), (3, .loc 2 0), (4, .lst (.tip 78 145) 5 (esL S)), (5, .v (.int .i64 (ID : Nat)))], [.cells 30 (zv9 x), .cells 26 zObC, .cells 26 [.lst (.tip 78 203) 5 (esL A), .lst ft 3 (txL TT), .lst .nil 5 (rdL []), .v (.string ⟨#[]⟩)]]⟩) ?_ ?_
 ·refine yt9 [1, 2, 3, 4, 5, 11] (by simp; rfl) ?_
  refine yp9 ?_
  refine zn9 (fun m σ => ∃ (i : Nat) (acc : List Txt) (ft : Fl), m = 31 - i ∧ i ≤ 30 ∧ txtO x S (31 - i) i acc = TT ∧ acc.length ≤ i ∧ (ft = .nil ∧ acc = [] ∨ ft = .tip 73 337) ∧ σ = ⟨269, [(1, .loc 0 0), (2, .loc 1 0), (3, .loc 2 0), (4, .lst (.tip 78 145) 5 (esL S)), (5, .v (.int .i64 (ID : Nat))), (11, .v (.int .i64 (i : Nat)))], [.cells 30 (zv9 x), .cells 26 zObC, .cells 26 [.lst (.tip 78 203) 5 (esL A), .lst ft 3 (txL acc), .lst .nil 5 (rdL []), .v (.string ⟨#[]⟩)]]⟩) (k := 31) ⟨0, [], .nil, rfl, by omega, hTT, by simp, .inl ⟨rfl, rfl⟩, by simp [txL, rdL, zv9, zObC]⟩ ?_
  rintro m σ ⟨i, acc, ft, rfl, hi, hgo, hal, hfl, rfl⟩
  refine yc9 ?_
  have wi := w64 (n := (i : Int) + 1) (by omega) (by omega)
  rw [show 31 - i = 30 - i + 1 by omega, txtO] at hgo
  by_cases c1 : i < x.txts.length
  ·have c1b : (i : Int) < (x.txts.length : Nat) := by omega
   by_cases c2 : i < 30
   ·have c2b : (i : Int) < 30 := by omega
    rw [if_pos ⟨c1, c2⟩] at hgo
    simp only at hgo
    obtain ⟨t, ht0⟩ : ∃ b, x.txts[i]? = some b := ⟨_, List.getElem?_eq_getElem c1⟩
    have ht1 : x.txts[i]'c1 = t := by rw [List.getElem?_eq_getElem c1] at ht0; exact Option.some.inj ht0
    have htl := ht t (List.mem_of_getElem? ht0)
    rw [show x.txts.getD i 0 = t by rw [List.getD_eq_getElem?_getD, ht0]; rfl] at hgo
    obtain ⟨k, hk⟩ : ∃ k, t % S.length = k := ⟨_, rfl⟩
    have hkl : k < S.length := by rw [← hk]; exact Nat.mod_lt _ hS0
    have hki : (k : Int) < S.length := by omega
    have hmk : (t : Int).tmod (S.length : Int) = (k : Nat) := by rw [← hk]; rfl
    obtain ⟨s, hs⟩ : ∃ s, S[k]? = some s := ⟨_, List.getElem?_eq_getElem hkl⟩
    have hk1 : S[k]'hkl = s := by rw [List.getElem?_eq_getElem hkl] at hs; exact Option.some.inj hs
    rw [hk, show S.getD k es0 = s by rw [List.getD_eq_getElem?_getD, hs]; rfl] at hgo
    obtain ⟨b1, b2, b3, b4, b5, b6, b7⟩ := hSB s (List.mem_of_getElem? hs)
    obtain ⟨L, hL⟩ : ∃ n : Nat, s.len = n := ⟨s.len.toNat, by omega⟩
    obtain ⟨ad, had⟩ : ∃ n : Nat, s.addr = n := ⟨s.addr.toNat, by omega⟩
    have wt : IntKind.i64.wrap (t : Int) = t := w64 (by omega) (by omega)
    rw [hL, had] at hgo
    simp only [Int.toNat_natCast] at hgo
    refine W_cT [1, 2, 3, 4, 5, 11, 111] (by simp [zv9, c1, c1b, c2, c2b]; rfl) rfl ?_
    refine yk9 ?_
    refine yc9 ?_
    refine yp9 ?_
    refine W_rK [1, 2, 3, 4, 5, 11, 12] ?_
    refine yq9 6 (by simp [zv9, c1, c1b, ht1]; rfl) rfl ?_
    refine yq9 4 (by simp [wt, hmk, hns, hnsi]; rfl) rfl ?_
    refine yw9 (by simp [hkl, hki, hk1, yd9, AV.weakL, AV.weak, AV.koneL, AV.kone, strB]; rfl) ?_
    by_cases L0 : 0 < L
    ·rw [if_pos (by omega)] at hgo
     have L0i : (0 : Int) < L := by omega
     obtain ⟨a3, ha3⟩ : ∃ n, t / 3 = n := ⟨_, rfl⟩
     obtain ⟨a7, ha7⟩ : ∃ n, t / 7 = n := ⟨_, rfl⟩
     obtain ⟨at_, hat⟩ : ∃ n, a3 % L = n := ⟨_, rfl⟩
     have hatl : at_ < L := by rw [← hat]; exact Nat.mod_lt _ L0
     obtain ⟨mn, hmn⟩ : ∃ n, min 56 (L - at_) = n := ⟨_, rfl⟩
     obtain ⟨r7, hr7⟩ : ∃ n, a7 % mn = n := ⟨_, rfl⟩
     have hr7l : r7 < mn := by rw [← hr7]; exact Nat.mod_lt _ (by omega)
     rw [ha3, ha7, hat, hmn, hr7] at hgo
     have q3 : (t : Int).tdiv 3 = (a3 : Nat) := by rw [← ha3]; rfl
     have q7 : (t : Int).tdiv 7 = (a7 : Nat) := by rw [← ha7]; rfl
     have wq3 : IntKind.u16.wrap (a3 : Int) = a3 := wu16k (by omega) (by omega)
     have wq7 : IntKind.u16.wrap (a7 : Int) = a7 := wu16k (by omega) (by omega)
     have w3 : IntKind.i64.wrap (a3 : Int) = a3 := w64 (by omega) (by omega)
     have w7 : IntKind.i64.wrap (a7 : Int) = a7 := w64 (by omega) (by omega)
     have L1 : ¬ ((L : Int) = 0) := by omega
     have L1n : ¬ L = 0 := by omega
     have hm3 : (a3 : Int).tmod (L : Int) = (at_ : Nat) := by rw [← hat]; rfl
     have ws : IntKind.i64.wrap ((L : Int) - (at_ : Int)) = ((L - at_ : Nat) : Int) := by rw [w64 (by omega) (by omega)]; omega
     obtain ⟨df, hdf⟩ : ∃ n, L - at_ = n := ⟨_, rfl⟩
     rw [hdf] at ws hmn
     have hmi : (if (df : Int) < 56 then (df : Int) else 56) = (mn : Nat) := by split <;> omega
     have mn0 : ¬ ((mn : Int) = 0) := by omega
     have mn0n : ¬ mn = 0 := by omega
     have hm7 : (a7 : Int).tmod (mn : Int) = (r7 : Nat) := by rw [← hr7]; rfl
     have w1 : IntKind.i64.wrap (1 + (r7 : Int)) = 1 + (r7 : Int) := w64 (by omega) (by omega)
     have wa : IntKind.i64.wrap ((ad : Int) + (at_ : Int)) = (ad : Int) + (at_ : Int) := w64 (by omega) (by omega)
     have hda := data_sound x.data i (1 + r7) (by omega) (by omega) (by omega)
     have hda2 : Sound Try.prog 36 [.lst .any 1 (byL x.data), .v (.int .i64 (i : Nat)), .v (.int .i64 (1 + (r7 : Int)))] (.lst .any 1 (byL (dataM x.data i (1 + r7)))) := by
      have e : ((1 + r7 : Nat) : Int) = 1 + (r7 : Int) := by omega
      rwa [e] at hda
     have hq1 : acc.length ≤ 140737488355327 := by omega
     have hq2 : (acc.length + 1) * 40 ≤ 140737488355328 := by omega
     refine W_cT [1, 2, 3, 4, 5, 11, 12, 128] (by simp [hL, L0, L0i]; rfl) rfl ?_
     refine W_dvK [1, 2, 3, 4, 5, 11, 12, 13] mx (by decide +kernel) (by simp [zv9, c1, c1b, ht1, q3, wq3, w3, hL, L1, L1n, hm3, -Int.natCast_ediv]; rfl) ?_
     refine vk8 [1, 2, 3, 4, 5, 11, 12, 13, 14] mx (by decide +kernel) ?_
     refine yr9 6 (by simp [zv9, c1, c1b, ht1, q7, wq7, w7, hL, -Int.natCast_ediv]; rfl) rfl ?_
     refine yr9 5 (by simp [w7, hL, ws, wq7]; rfl) rfl ?_
     refine zf9 (by simp [hmi, mn0, mn0n, hm7, w1]; rfl) ?_
     have hfl2 : ft = .nil ∧ acc = [] ∨ ft = .tip 73 337 := hfl
     rcases hfl2 with ⟨rfl, rfl⟩ | rfl
     ·refine xt7 [1, 2, 3, 4, 5, 11] mx (by decide +kernel) ?_
      refine yr9 6 (by simp [had, zv9]; rfl) rfl ?_
      refine yr9 6 (by simp [had, wa, zv9]; rfl) rfl ?_
      refine zl9 (by simp) (by first | (simp; done) | (simp; rfl)) hda2 (by simp; rfl) ?_
      refine zf9 (by simp [yd9, catK, AV.cellsK, AV.kone, AV.koneL, AV.weak, AV.weakL, strB, zObT, zh7, hq1, hq2]; rfl) ?_
      refine xk9 3 (Nat.zero_le _) (by simp) (by simp [yb9, AV.under, AV.underL]) (by simp [yl9, xd9, AObj.under, yb9, AV.under, AV.underL, wg9, zObC, esC, strB, zv9]) ?_
      refine zd9 [1, 2, 3, 4, 5, 11] (by simp [wi]; rfl) ?_
      exact ⟨_, by omega, i + 1, _, .tip 73 337, rfl, by omega, by rw [show 31 - (i + 1) = 30 - i by omega]; exact hgo, by simp; try omega, .inr rfl, by simp [txL, rdL, zv9, zObC, strB]⟩
     ·refine xt7 [1, 2, 3, 4, 5, 11] mx (by decide +kernel) ?_
      refine yr9 6 (by simp [had, zv9]; rfl) rfl ?_
      refine yr9 6 (by simp [had, wa, zv9]; rfl) rfl ?_
      refine zl9 (by simp) (by first | (simp; done) | (simp; rfl)) hda2 (by simp; rfl) ?_
      refine zf9 (by simp [yd9, catK, AV.cellsK, AV.kone, AV.koneL, AV.weak, AV.weakL, strB, zObT, zh7, hq1, hq2]; rfl) ?_
      refine xk9 3 (Nat.zero_le _) (by simp) (by simp [yb9, AV.under, AV.underL]) (by simp [yl9, xd9, AObj.under, yb9, AV.under, AV.underL, wg9, zObC, esC, strB, zv9]) ?_
      refine zd9 [1, 2, 3, 4, 5, 11] (by simp [wi]; rfl) ?_
      exact ⟨_, by omega, i + 1, _, .tip 73 337, rfl, by omega, by rw [show 31 - (i + 1) = 30 - i by omega]; exact hgo, by simp; try omega, .inr rfl, by simp [txL, rdL, zv9, zObC, strB]⟩
    ·rw [if_neg (by omega)] at hgo
     have L0i : ¬ (0 : Int) < L := by omega
     refine W_cF [1, 2, 3, 4, 5, 11, 12, 128] (by simp [hL, L0, L0i]; rfl) rfl ?_
     refine ym9 [1, 2, 3, 4, 5, 11] ?_
     refine yk9 ?_
     refine xk9 3 (Nat.zero_le _) (by simp) (by simp [yb9, AV.under, AV.underL]) (by simp [yl9, xd9, AObj.under, yb9, AV.under, AV.underL, wg9, zObC, esC, strB, zv9]) ?_
     refine zd9 [1, 2, 3, 4, 5, 11] (by simp [wi]; rfl) ?_
     exact ⟨_, by omega, i + 1, acc, ft, rfl, by omega, by rw [show 31 - (i + 1) = 30 - i by omega]; exact hgo, by omega, hfl, by simp [txL, rdL, zv9, zObC, strB]⟩
   ·have c2b : ¬ ((i : Int) < 30) := by omega
    rw [if_neg (fun h => c2 h.2)] at hgo
    subst hgo
    refine W_cF [1, 2, 3, 4, 5, 11, 111] (by simp [zv9, c1, c1b, c2, c2b]; rfl) rfl ?_
    refine ym9 [1, 2, 3, 4, 5] ?_
    refine zc9 ?_
    exact ⟨ft, hfl, by simp [zv9, zObC, txL, rdL]⟩
  ·have c1b : ¬ ((i : Int) < (x.txts.length : Nat)) := by omega
   rw [if_neg (fun h => c1 h.1)] at hgo
   subst hgo
   refine W_cF [1, 2, 3, 4, 5, 11, 111] (by simp [zv9, c1, c1b]; rfl) rfl ?_
   refine ym9 [1, 2, 3, 4, 5] ?_
   refine zc9 ?_
   exact ⟨ft, hfl, by simp [zv9, zObC, txL, rdL]⟩
 rintro _ ⟨ft, hft, rfl⟩
 have hkt : ∀ xs, (AV.lst ft 3 xs).kill 487 = .lst ft 3 xs := by
  intro xs
  rcases hft with ⟨rfl, _⟩ | rfl <;> rfl
 refine xv9 (fun σ => ∃ fr, (fr = .nil ∧ RR = [] ∨ fr = .tip 80 487) ∧ σ = ⟨269, [(1, .loc 0 0), (2, .loc 1 0), (3, .loc 2 0), (4, .lst (.tip 78 145) 5 (esL S)), (5, .v (.int .i64 (ID : Nat)))], [.cells 30 (zv9 x), .cells 26 zObC, .cells 26 [.lst (.tip 78 203) 5 (esL A), .lst ft 3 (txL TT), .lst fr 5 (rdL RR), .v (.string ⟨#[]⟩)]]⟩) ?_ ?_
 ·refine yt9 [1, 2, 3, 4, 5, 15] (by simp; rfl) ?_
  refine yp9 ?_
  refine zn9 (fun m σ => ∃ (i : Nat) (acc : List Rld) (fr : Fl), m = 31 - i ∧ i ≤ 30 ∧ rldO x S ID (31 - i) i acc = RR ∧ acc.length ≤ i ∧ (fr = .nil ∧ acc = [] ∨ fr = .tip 80 487) ∧ σ = ⟨269, [(1, .loc 0 0), (2, .loc 1 0), (3, .loc 2 0), (4, .lst (.tip 78 145) 5 (esL S)), (5, .v (.int .i64 (ID : Nat))), (15, .v (.int .i64 (i : Nat)))], [.cells 30 (zv9 x), .cells 26 zObC, .cells 26 [.lst (.tip 78 203) 5 (esL A), .lst ft 3 (txL TT), .lst fr 5 (rdL acc), .v (.string ⟨#[]⟩)]]⟩) (k := 31) ⟨0, [], .nil, rfl, by omega, hRR, by simp, .inl ⟨rfl, rfl⟩, by simp [txL, rdL, zv9, zObC]⟩ ?_
  rintro m σ ⟨i, acc, fr, rfl, hi, hgo, hal, hfl, rfl⟩
  refine yc9 ?_
  have wi := w64 (n := (i : Int) + 1) (by omega) (by omega)
  rw [show 31 - i = 30 - i + 1 by omega, rldO] at hgo
  by_cases c1 : i < x.rlds.length
  ·have c1b : (i : Int) < (x.rlds.length : Nat) := by omega
   by_cases c2 : i < 30
   ·have c2b : (i : Int) < 30 := by omega
    rw [if_pos ⟨c1, c2⟩] at hgo
    simp only at hgo
    obtain ⟨t, ht0⟩ : ∃ b, x.rlds[i]? = some b := ⟨_, List.getElem?_eq_getElem c1⟩
    have ht1 : x.rlds[i]'c1 = t := by rw [List.getElem?_eq_getElem c1] at ht0; exact Option.some.inj ht0
    have htl := hr t (List.mem_of_getElem? ht0)
    rw [show x.rlds.getD i 0 = t by rw [List.getD_eq_getElem?_getD, ht0]; rfl] at hgo
    obtain ⟨k, hk⟩ : ∃ k, t % S.length = k := ⟨_, rfl⟩
    have hkl : k < S.length := by rw [← hk]; exact Nat.mod_lt _ hS0
    have hki : (k : Int) < S.length := by omega
    have hmk : (t : Int).tmod (S.length : Int) = (k : Nat) := by rw [← hk]; rfl
    obtain ⟨s, hs⟩ : ∃ s, S[k]? = some s := ⟨_, List.getElem?_eq_getElem hkl⟩
    have hk1 : S[k]'hkl = s := by rw [List.getElem?_eq_getElem hkl] at hs; exact Option.some.inj hs
    rw [hk, show S.getD k es0 = s by rw [List.getD_eq_getElem?_getD, hs]; rfl] at hgo
    obtain ⟨b1, b2, b3, b4, b5, b6, b7⟩ := hSB s (List.mem_of_getElem? hs)
    obtain ⟨L, hL⟩ : ∃ n : Nat, s.len = n := ⟨s.len.toNat, by omega⟩
    obtain ⟨ad, had⟩ : ∃ n : Nat, s.addr = n := ⟨s.addr.toNat, by omega⟩
    have wt : IntKind.i64.wrap (t : Int) = t := w64 (by omega) (by omega)
    rw [hL, had] at hgo
    simp only [Int.toNat_natCast] at hgo
    refine W_cT [1, 2, 3, 4, 5, 15, 178] (by simp [zv9, c1, c1b, c2, c2b]; rfl) rfl ?_
    refine yk9 ?_
    refine yc9 ?_
    refine yp9 ?_
    refine W_rK [1, 2, 3, 4, 5, 15, 16] ?_
    refine yq9 6 (by simp [zv9, c1, c1b, ht1]; rfl) rfl ?_
    refine yq9 4 (by simp [wt, hmk, hns, hnsi]; rfl) rfl ?_
    refine yw9 (by simp [hkl, hki, hk1, yd9, AV.weakL, AV.weak, AV.koneL, AV.kone, strB]; rfl) ?_
    by_cases L0 : 4 ≤ L
    ·rw [if_pos (by omega)] at hgo
     have L0i : (4 : Int) ≤ L := by omega
     obtain ⟨a5, ha5⟩ : ∃ n, t / 5 = n := ⟨_, rfl⟩
     obtain ⟨a3, ha3⟩ : ∃ n, t / 3 = n := ⟨_, rfl⟩
     obtain ⟨a11, ha11⟩ : ∃ n, t / 11 = n := ⟨_, rfl⟩
     obtain ⟨I1, hI1⟩ : ∃ n, ID - 1 = n := ⟨_, rfl⟩
     obtain ⟨L3, hL3⟩ : ∃ n, L - 3 = n := ⟨_, rfl⟩
     obtain ⟨r5, hr5⟩ : ∃ n, a5 % I1 = n := ⟨_, rfl⟩
     obtain ⟨r3, hr3⟩ : ∃ n, a3 % L3 = n := ⟨_, rfl⟩
     obtain ⟨r11, hr11⟩ : ∃ n, a11 % 4 = n := ⟨_, rfl⟩
     obtain ⟨t2, ht2⟩ : ∃ n, t % 2 = n := ⟨_, rfl⟩
     have g5 : r5 < I1 := by rw [← hr5]; exact Nat.mod_lt _ (by omega)
     have g3 : r3 < L3 := by rw [← hr3]; exact Nat.mod_lt _ (by omega)
     have g11 : r11 < 4 := by rw [← hr11]; exact Nat.mod_lt _ (by omega)
     have g2 : t2 < 2 := by rw [← ht2]; exact Nat.mod_lt _ (by omega)
     rw [ha5, ha3, ha11, hI1, hL3, hr5, hr3, hr11, ht2] at hgo
     have q5 : (t : Int).tdiv 5 = (a5 : Nat) := by rw [← ha5]; rfl
     have q3 : (t : Int).tdiv 3 = (a3 : Nat) := by rw [← ha3]; rfl
     have q11 : (t : Int).tdiv 11 = (a11 : Nat) := by rw [← ha11]; rfl
     have q2 : (t : Int).tmod 2 = (t2 : Nat) := by rw [← ht2]; rfl
     have u5 : IntKind.u16.wrap (a5 : Int) = a5 := wu16k (by omega) (by omega)
     have u3 : IntKind.u16.wrap (a3 : Int) = a3 := wu16k (by omega) (by omega)
     have u11 : IntKind.u16.wrap (a11 : Int) = a11 := wu16k (by omega) (by omega)
     have w5 : IntKind.i64.wrap (a5 : Int) = a5 := w64 (by omega) (by omega)
     have w3 : IntKind.i64.wrap (a3 : Int) = a3 := w64 (by omega) (by omega)
     have w11 : IntKind.i64.wrap (a11 : Int) = a11 := w64 (by omega) (by omega)
     have wI : IntKind.i64.wrap ((ID : Int) - 1) = (I1 : Nat) := by rw [w64 (by omega) (by omega)]; omega
     have wL : IntKind.i64.wrap ((L : Int) - 3) = (L3 : Nat) := by rw [w64 (by omega) (by omega)]; omega
     have I1i : ¬ ((I1 : Int) = 0) := by omega
     have I1n : ¬ I1 = 0 := by omega
     have L3i : ¬ ((L3 : Int) = 0) := by omega
     have L3n : ¬ L3 = 0 := by omega
     have m5 : (a5 : Int).tmod (I1 : Int) = (r5 : Nat) := by rw [← hr5]; rfl
     have m3 : (a3 : Int).tmod (L3 : Int) = (r3 : Nat) := by rw [← hr3]; rfl
     have m11 : (a11 : Int).tmod 4 = (r11 : Nat) := by rw [← hr11]; rfl
     have w15 : IntKind.i64.wrap (1 + (r5 : Int)) = 1 + (r5 : Int) := w64 (by omega) (by omega)
     have w111 : IntKind.i64.wrap (1 + (r11 : Int)) = 1 + (r11 : Int) := w64 (by omega) (by omega)
     have wa : IntKind.i64.wrap ((ad : Int) + (r3 : Int)) = (ad : Int) + (r3 : Int) := w64 (by omega) (by omega)
     have hneg : ((t2 : Int) == 1) = decide (t2 = 1) := by rw [Bool.eq_iff_iff]; simp; omega
     have hq1 : acc.length ≤ 140737488355327 := by omega
     have hq2 : (acc.length + 1) * 40 ≤ 140737488355328 := by omega
     refine W_cT [1, 2, 3, 4, 5, 15, 16, 195] (by simp [hL, L0, L0i]; rfl) rfl ?_
     have hfl2 : fr = .nil ∧ acc = [] ∨ fr = .tip 80 487 := hfl
     rcases hfl2 with ⟨rfl, rfl⟩ | rfl
     ·refine xt7 [1, 2, 3, 4, 5, 15] mx (by decide +kernel) ?_
      refine yr9 6 (by simp [zv9, c1, c1b, ht1, q5, q3, q11, q2, u5, u3, u11, w5, w3, w11, wI, wL, I1i, I1n, L3i, L3n, m5, m3, m11, w15, w111, wa, hL, had, -Int.natCast_ediv]; rfl) rfl ?_
      refine yr9 6 (by simp [zv9, c1, c1b, ht1, q5, q3, q11, q2, u5, u3, u11, w5, w3, w11, wI, wL, I1i, I1n, L3i, L3n, m5, m3, m11, w15, w111, wa, hL, had, -Int.natCast_ediv]; rfl) rfl ?_
      refine yr9 6 (by simp [zv9, c1, c1b, ht1, q5, q3, q11, q2, u5, u3, u11, w5, w3, w11, wI, wL, I1i, I1n, L3i, L3n, m5, m3, m11, w15, w111, wa, hL, had, -Int.natCast_ediv]; rfl) rfl ?_
      refine yr9 6 (by simp [zv9, c1, c1b, ht1, q5, q3, q11, q2, u5, u3, u11, w5, w3, w11, wI, wL, I1i, I1n, L3i, L3n, m5, m3, m11, w15, w111, wa, hL, had, -Int.natCast_ediv]; rfl) rfl ?_
      refine yr9 6 (by simp [zv9, c1, c1b, ht1, q5, q3, q11, q2, u5, u3, u11, w5, w3, w11, wI, wL, I1i, I1n, L3i, L3n, m5, m3, m11, w15, w111, wa, hL, had, -Int.natCast_ediv]; rfl) rfl ?_
      refine yr9 6 (by simp [zv9, c1, c1b, ht1, q5, q3, q11, q2, u5, u3, u11, w5, w3, w11, wI, wL, I1i, I1n, L3i, L3n, m5, m3, m11, w15, w111, wa, hL, had, -Int.natCast_ediv]; rfl) rfl ?_
      refine yr9 6 (by simp [zv9, c1, c1b, ht1, q5, q3, q11, q2, u5, u3, u11, w5, w3, w11, wI, wL, I1i, I1n, L3i, L3n, m5, m3, m11, w15, w111, wa, hL, had, -Int.natCast_ediv]; rfl) rfl ?_
      refine zf9 (by simp [↓hkt, yd9, catK, AV.cellsK, AV.kone, AV.koneL, AV.weak, AV.weakL, strB, zObT, zh7, hq1, hq2, hneg, zv9, c1, c1b, ht1, q5, q3, q11, q2, u5, u3, u11, w5, w3, w11, wI, wL, I1i, I1n, L3i, L3n, m5, m3, m11, w15, w111, wa, hL, had, -Int.natCast_ediv]; rfl) ?_
      refine xk9 3 (Nat.zero_le _) (by simp) (by simp [yb9, AV.under, AV.underL]) (by simp [yl9, xd9, AObj.under, yb9, AV.under, AV.underL, wg9, zObC, esC, strB, zv9]) ?_
      refine zd9 [1, 2, 3, 4, 5, 15] (by simp [wi]; rfl) ?_
      exact ⟨_, by omega, i + 1, _, .tip 80 487, rfl, by omega, by rw [show 31 - (i + 1) = 30 - i by omega]; exact hgo, by simp; try omega, .inr rfl, by simp [txL, rdL, zv9, zObC, strB, hneg]⟩
     ·refine xt7 [1, 2, 3, 4, 5, 15] mx (by decide +kernel) ?_
      refine yr9 6 (by simp [zv9, c1, c1b, ht1, q5, q3, q11, q2, u5, u3, u11, w5, w3, w11, wI, wL, I1i, I1n, L3i, L3n, m5, m3, m11, w15, w111, wa, hL, had, -Int.natCast_ediv]; rfl) rfl ?_
      refine yr9 6 (by simp [zv9, c1, c1b, ht1, q5, q3, q11, q2, u5, u3, u11, w5, w3, w11, wI, wL, I1i, I1n, L3i, L3n, m5, m3, m11, w15, w111, wa, hL, had, -Int.natCast_ediv]; rfl) rfl ?_
      refine yr9 6 (by simp [zv9, c1, c1b, ht1, q5, q3, q11, q2, u5, u3, u11, w5, w3, w11, wI, wL, I1i, I1n, L3i, L3n, m5, m3, m11, w15, w111, wa, hL, had, -Int.natCast_ediv]; rfl) rfl ?_
      refine yr9 6 (by simp [zv9, c1, c1b, ht1, q5, q3, q11, q2, u5, u3, u11, w5, w3, w11, wI, wL, I1i, I1n, L3i, L3n, m5, m3, m11, w15, w111, wa, hL, had, -Int.natCast_ediv]; rfl) rfl ?_
      refine yr9 6 (by simp [zv9, c1, c1b, ht1, q5, q3, q11, q2, u5, u3, u11, w5, w3, w11, wI, wL, I1i, I1n, L3i, L3n, m5, m3, m11, w15, w111, wa, hL, had, -Int.natCast_ediv]; rfl) rfl ?_
      refine yr9 6 (by simp [zv9, c1, c1b, ht1, q5, q3, q11, q2, u5, u3, u11, w5, w3, w11, wI, wL, I1i, I1n, L3i, L3n, m5, m3, m11, w15, w111, wa, hL, had, -Int.natCast_ediv]; rfl) rfl ?_
      refine yr9 6 (by simp [zv9, c1, c1b, ht1, q5, q3, q11, q2, u5, u3, u11, w5, w3, w11, wI, wL, I1i, I1n, L3i, L3n, m5, m3, m11, w15, w111, wa, hL, had, -Int.natCast_ediv]; rfl) rfl ?_
      refine zf9 (by simp [↓hkt, yd9, catK, AV.cellsK, AV.kone, AV.koneL, AV.weak, AV.weakL, strB, zObT, zh7, hq1, hq2, hneg, zv9, c1, c1b, ht1, q5, q3, q11, q2, u5, u3, u11, w5, w3, w11, wI, wL, I1i, I1n, L3i, L3n, m5, m3, m11, w15, w111, wa, hL, had, -Int.natCast_ediv]; rfl) ?_
      refine xk9 3 (Nat.zero_le _) (by simp) (by simp [yb9, AV.under, AV.underL]) (by simp [yl9, xd9, AObj.under, yb9, AV.under, AV.underL, wg9, zObC, esC, strB, zv9]) ?_
      refine zd9 [1, 2, 3, 4, 5, 15] (by simp [wi]; rfl) ?_
      exact ⟨_, by omega, i + 1, _, .tip 80 487, rfl, by omega, by rw [show 31 - (i + 1) = 30 - i by omega]; exact hgo, by simp; try omega, .inr rfl, by simp [txL, rdL, zv9, zObC, strB, hneg]⟩
    ·rw [if_neg (by omega)] at hgo
     have L0i : ¬ (4 : Int) ≤ L := by omega
     refine W_cF [1, 2, 3, 4, 5, 15, 16, 195] (by simp [hL, L0, L0i]; rfl) rfl ?_
     refine ym9 [1, 2, 3, 4, 5, 15] ?_
     refine yk9 ?_
     refine xk9 3 (Nat.zero_le _) (by simp) (by simp [yb9, AV.under, AV.underL]) (by simp [yl9, xd9, AObj.under, yb9, AV.under, AV.underL, wg9, zObC, esC, strB, zv9]) ?_
     refine zd9 [1, 2, 3, 4, 5, 15] (by simp [wi]; rfl) ?_
     exact ⟨_, by omega, i + 1, acc, fr, rfl, by omega, by rw [show 31 - (i + 1) = 30 - i by omega]; exact hgo, by omega, hfl, by simp [txL, rdL, zv9, zObC, strB]⟩
   ·have c2b : ¬ ((i : Int) < 30) := by omega
    rw [if_neg (fun h => c2 h.2)] at hgo
    subst hgo
    refine W_cF [1, 2, 3, 4, 5, 15, 178] (by simp [zv9, c1, c1b, c2, c2b]; rfl) rfl ?_
    refine ym9 [1, 2, 3, 4, 5] ?_
    refine zc9 ?_
    exact ⟨fr, hfl, by simp [zv9, zObC, txL, rdL]⟩
  ·have c1b : ¬ ((i : Int) < (x.rlds.length : Nat)) := by omega
   rw [if_neg (fun h => c1 h.1)] at hgo
   subst hgo
   refine W_cF [1, 2, 3, 4, 5, 15, 178] (by simp [zv9, c1, c1b]; rfl) rfl ?_
   refine ym9 [1, 2, 3, 4, 5] ?_
   refine zc9 ?_
   exact ⟨fr, hfl, by simp [zv9, zObC, txL, rdL]⟩
 rintro _ ⟨fr, hfr, rfl⟩
 obtain ⟨E, hE⟩ : ∃ n, x.entry.toNat = n := ⟨_, rfl⟩
 rw [hE] at hent
 obtain ⟨k, hk⟩ : ∃ k, E % A.length = k := ⟨_, rfl⟩
 have hkl : k < A.length := by rw [← hk]; exact Nat.mod_lt _ hA0
 have hki : (k : Int) < A.length := by omega
 have hmk : (E : Int).tmod (A.length : Int) = (k : Nat) := by rw [← hk]; rfl
 have hna : ¬ A.length = 0 := by omega
 have hnai : ¬ ((A.length : Int) = 0) := by omega
 obtain ⟨s, hs⟩ : ∃ s, A[k]? = some s := ⟨_, List.getElem?_eq_getElem hkl⟩
 have hk1 : A[k]'hkl = s := by rw [List.getElem?_eq_getElem hkl] at hs; exact Option.some.inj hs
 have hen : entrO x A = if E % 2 = 1 ∧ s.kind ≠ 3 then s.name else [] := by
  unfold entrO
  simp only
  rw [hE, hk, show A.getD k es0 = s by rw [List.getD_eq_getElem?_getD, hs]; rfl]
 have wE : IntKind.i64.wrap (E : Int) = E := w64 (by omega) (by omega)
 obtain ⟨E2, hE2⟩ : ∃ n, E % 2 = n := ⟨_, rfl⟩
 have g2 : E2 < 2 := by rw [← hE2]; exact Nat.mod_lt _ (by omega)
 have q2 : (E : Int).tmod 2 = (E2 : Nat) := by rw [← hE2]; rfl
 rw [hE2] at hen
 refine xv9 (fun σ => σ = ⟨269, [(2, .loc 1 0), (3, .loc 2 0)], [.cells 30 (zv9 x), .cells 26 zObC, .cells 26 [.lst (.tip 78 203) 5 (esL A), .lst ft 3 (txL TT), .lst fr 5 (rdL RR), strB (entrO x A)], .cells 78 (esC s)]⟩) ?_ ?_
 ·refine vk8 [1, 2, 3, 17] mx (by decide +kernel) ?_
  refine yr9 6 (by simp [zv9, hE, wE]; rfl) rfl ?_
  refine yr9 3 (by simp [hmk, hna, hnai]; rfl) rfl ?_
  refine zf9 (by simp [hkl, hki, hk1, yd9, AV.weakL, AV.weak, AV.koneL, AV.kone, strB]; rfl) ?_
  have hcut : ∀ (fr : List (Nat × AV)) (H : List AObj), True := fun _ _ => trivial
  by_cases e2 : E2 = 1
  ·subst e2
   by_cases k3 : s.kind = 3
   ·refine W_cF [2, 3, 17, 264] (by simp [zv9, hE, q2, k3, bne]; rfl) rfl ?_
    refine ym9 [2, 3] ?_
    refine yk9 ?_
    rw [hen, if_neg (by simp [k3])]
    simp [zv9, zObC, strB, hE, esC, k3]
   ·have k3b : (s.kind == 3) = false := by simpa using k3
    refine W_cT [2, 3, 17, 264] (by simp [zv9, hE, q2, k3, k3b, bne]; rfl) rfl ?_
    refine zd9 [2, 3] (by simp [yd9, zv9, strB]; rfl) ?_
    rw [hen, if_pos ⟨rfl, k3⟩]
    simp [zv9, zObC, strB, hE, esC]
  ·have e2b : ((E2 : Int) == 1) = false := by simp; omega
   refine W_cF [2, 3, 17, 264] (by simp [zv9, hE, q2, e2, e2b, bne]; rfl) rfl ?_
   refine ym9 [2, 3] ?_
   refine yk9 ?_
   rw [hen, if_neg (by simp [e2])]
   simp [zv9, zObC, strB, hE, esC]
 rintro _ rfl
 obtain ⟨EN, hEN⟩ : ∃ e, entrO x A = e := ⟨_, rfl⟩
 rw [hEN]
 refine yt9 [2] (by simp [zObC, yd9, strB]; rfl) ?_
 refine zq9 ?_
 repeat (first | refine yg9 ?_ | refine yh9 ?_)
 rcases hft with ⟨rfl, rfl⟩ | rfl <;> rcases hfr with ⟨rfl, rfl⟩ | rfl
 all_goals
  refine ⟨_, by simp [retQ]; exact ⟨rfl, by simp [AV.rf, AV.rfL]⟩, ?_⟩
  first
   | (have h := AV.Le.dp (P := Try.prog) (.agg [.lst (.tip 78 203) 5 (esL A), .lst .nil 3 (txL []), .lst .nil 5 (rdL []), strB EN]); simpa [AV.dp, AV.dpL, strB] using h)
   | (have h := AV.Le.dp (P := Try.prog) (.agg [.lst (.tip 78 203) 5 (esL A), .lst .nil 3 (txL []), .lst (.tip 80 487) 5 (rdL RR), strB EN]); simpa [AV.dp, AV.dpL, strB] using h)
   | (have h := AV.Le.dp (P := Try.prog) (.agg [.lst (.tip 78 203) 5 (esL A), .lst (.tip 73 337) 3 (txL TT), .lst .nil 5 (rdL []), strB EN]); simpa [AV.dp, AV.dpL, strB] using h)
   | (have h := AV.Le.dp (P := Try.prog) (.agg [.lst (.tip 78 203) 5 (esL A), .lst (.tip 73 337) 3 (txL TT), .lst (.tip 80 487) 5 (rdL RR), strB EN]); simpa [AV.dp, AV.dpL, strB] using h)
end Go.AM
namespace Go.AM
open Go.RowKit Go.Proofs
set_option linter.unusedSimpArgs false
set_option linter.unusedVariables false
set_option maxHeartbeats 4000000
theorem symG_len (i : Nat) : (symG i).length ≤ 8 := by
 unfold symG
 split <;> simp
def smS (s : Esd) : Prop := 0 ≤ s.addr ∧ s.addr ≤ 100000 ∧ 0 ≤ s.len ∧ s.len ≤ 2000
def smN (s : Esd) : Prop := s.name.length ≤ 8 ∧ 0 ≤ s.addr ∧ s.addr ≤ 200000
theorem smS_getD {l : List Esd} (h : ∀ s ∈ l, smS s) (k : Nat) : smS (l.getD k es0) := by
 rw [List.getD_eq_getElem?_getD]
 cases hg : l[k]? with
 | none => simp [smS, es0]
 | some s => exact h s (List.mem_of_getElem? hg)
theorem smN_getD {l : List Esd} (h : ∀ s ∈ l, smN s) (k : Nat) : smN (l.getD k es0) := by
 rw [List.getD_eq_getElem?_getD]
 cases hg : l[k]? with
 | none => simp [smN, es0]
 | some s => exact h s (List.mem_of_getElem? hg)
theorem nO_lt (x : SeedM) (i : Nat) : nO x i < 256 := by
 unfold nO
 split
 ·omega
 ·exact UInt8.toNat_lt _
theorem esdO_ok (x : SeedM) : ∀ (f i id addr : Nat) (secs acc : List Esd), addr ≤ i * 1020 → (∀ s ∈ secs, smS s) → (∀ s ∈ acc, smN s) →
  (∀ s ∈ (esdO x f i id addr secs acc).1, smN s) ∧ (∀ s ∈ (esdO x f i id addr secs acc).2.1, smS s) ∧ acc.length ≤ (esdO x f i id addr secs acc).1.length ∧ (esdO x f i id addr secs acc).1.length ≤ acc.length + f := by
 intro f
 induction f with
 | zero => intro i id addr secs acc h1 h2 h3; exact ⟨h3, h2, Nat.le_refl _, Nat.le_refl _⟩
 | succ f ih =>
  intro i id addr secs acc h1 h2 h3
  have hn := nO_lt x i
  rw [esdO]
  split
  ·rename_i hc
   have hs := symG_len i
   split
   ·have hN : smN (secO i id addr (nO x i)) := ⟨by unfold secO; simp only; split; simp; exact hs, by unfold secO; simp only; omega, by unfold secO; simp only; omega⟩
    have hS : smS (secO i id addr (nO x i)) := ⟨by unfold secO; simp only; omega, by unfold secO; simp only; omega, by unfold secO; simp only; omega, by unfold secO; simp only; omega⟩
    obtain ⟨k1, k2, k3, k4⟩ := ih (i + 1) (id + 1) (addr + nO x i * 4) (secs ++ [secO i id addr (nO x i)]) (acc ++ [secO i id addr (nO x i)]) (by omega)
     (fun s hs => by rcases List.mem_append.1 hs with hs | hs; exact h2 s hs; rw [List.mem_singleton.1 hs]; exact hS)
     (fun s hs => by rcases List.mem_append.1 hs with hs | hs; exact h3 s hs; rw [List.mem_singleton.1 hs]; exact hN)
    simp only [List.length_append, List.length_singleton] at k3 k4
    exact ⟨k1, k2, by omega, by omega⟩
   ·split
    ·obtain ⟨g1, g2, g3, g4⟩ := smS_getD h2 (nO x i % secs.length)
     generalize hsv : secs.getD (nO x i % secs.length) es0 = sv at g1 g2 g3 g4 ⊢
     have hN : smN (entO i (nO x i) sv) := by
      have hm : nO x i % (sv.len.toNat + 1) ≤ nO x i := Nat.mod_le _ _
      unfold entO smN
      generalize nO x i % (sv.len.toNat + 1) = A at hm
      refine ⟨hs, ?_, ?_⟩
      ·show 0 ≤ sv.addr + (A : Int)
       omega
      ·show sv.addr + (A : Int) ≤ 200000
       omega
     obtain ⟨k1, k2, k3, k4⟩ := ih (i + 1) id addr secs (acc ++ [entO i (nO x i) sv]) (Nat.le_trans h1 (Nat.mul_le_mul_right _ (Nat.le_succ i))) h2
      (fun s hs => by rcases List.mem_append.1 hs with hs | hs; exact h3 s hs; rw [List.mem_singleton.1 hs]; exact hN)
     simp only [List.length_append, List.length_singleton] at k3 k4
     exact ⟨k1, k2, by omega, by omega⟩
    ·have hN : smN (extO i id) := ⟨hs, Int.le_refl _, by show (0 : Int) ≤ 200000; omega⟩
     obtain ⟨k1, k2, k3, k4⟩ := ih (i + 1) (id + 1) addr secs (acc ++ [extO i id]) (Nat.le_trans h1 (Nat.mul_le_mul_right _ (Nat.le_succ i))) h2
      (fun s hs => by rcases List.mem_append.1 hs with hs | hs; exact h3 s hs; rw [List.mem_singleton.1 hs]; exact hN)
     simp only [List.length_append, List.length_singleton] at k3 k4
     exact ⟨k1, k2, by omega, by omega⟩
  ·exact ⟨h3, h2, Nat.le_refl _, Nat.le_add_right _ _⟩
theorem txtO_ok (x : SeedM) {secs : List Esd} (hs : ∀ s ∈ secs, smS s) : ∀ (f i : Nat) (acc : List Txt), (∀ t ∈ acc, (0 ≤ t.addr ∧ t.addr ≤ 200000) ∧ t.data.length ≤ 57) →
  (∀ t ∈ txtO x secs f i acc, (0 ≤ t.addr ∧ t.addr ≤ 200000) ∧ t.data.length ≤ 57) ∧ (txtO x secs f i acc).length ≤ acc.length + f := by
 intro f
 induction f with
 | zero => intro i acc h; exact ⟨h, Nat.le_refl _⟩
 | succ f ih =>
  intro i acc h
  rw [txtO]
  split
  ·simp only
   obtain ⟨g1, g2, g3, g4⟩ := smS_getD hs (x.txts.getD i 0 % secs.length)
   generalize secs.getD (x.txts.getD i 0 % secs.length) es0 = sv at g1 g2 g3 g4 ⊢
   generalize x.txts.getD i 0 = t
   split
   ·rename_i hl
    have h1 : t / 3 % sv.len.toNat < sv.len.toNat := Nat.mod_lt _ (by omega)
    have h2 : t / 7 % (min 56 (sv.len.toNat - t / 3 % sv.len.toNat)) < min 56 (sv.len.toNat - t / 3 % sv.len.toNat) := Nat.mod_lt _ (by omega)
    generalize t / 7 % (min 56 (sv.len.toNat - t / 3 % sv.len.toNat)) = B at h2 ⊢
    generalize t / 3 % sv.len.toNat = A at h1 h2 ⊢
    obtain ⟨k1, k2⟩ := ih (i + 1) (acc ++ [⟨sv.id, sv.addr + (A : Int), dataM x.data i (1 + B)⟩]) (fun t ht => by
     rcases List.mem_append.1 ht with ht | ht
     ·exact h t ht
     ·rw [List.mem_singleton.1 ht]
      refine ⟨⟨?_, ?_⟩, ?_⟩
      ·simp only; omega
      ·simp only; omega
      ·simp only [dataM_len]; omega)
    simp only [List.length_append, List.length_singleton] at k2
    exact ⟨k1, by omega⟩
   ·obtain ⟨k1, k2⟩ := ih (i + 1) acc h
    exact ⟨k1, by omega⟩
  ·exact ⟨h, by omega⟩
theorem rldO_ok (x : SeedM) {secs : List Esd} (id : Nat) (hs : ∀ s ∈ secs, smS s) : ∀ (f i : Nat) (acc : List Rld), (∀ t ∈ acc, 0 ≤ t.addr ∧ t.addr ≤ 200000) →
  (∀ t ∈ rldO x secs id f i acc, 0 ≤ t.addr ∧ t.addr ≤ 200000) ∧ (rldO x secs id f i acc).length ≤ acc.length + f := by
 intro f
 induction f with
 | zero => intro i acc h; exact ⟨h, Nat.le_refl _⟩
 | succ f ih =>
  intro i acc h
  rw [rldO]
  split
  ·simp only
   obtain ⟨g1, g2, g3, g4⟩ := smS_getD hs (x.rlds.getD i 0 % secs.length)
   generalize secs.getD (x.rlds.getD i 0 % secs.length) es0 = sv at g1 g2 g3 g4 ⊢
   generalize x.rlds.getD i 0 = t
   split
   ·rename_i hl
    have h1 : t / 3 % (sv.len.toNat - 3) < sv.len.toNat - 3 := Nat.mod_lt _ (by omega)
    generalize t / 3 % (sv.len.toNat - 3) = A at h1 ⊢
    obtain ⟨k1, k2⟩ := ih (i + 1) (acc ++ [⟨sv.id, ((1 + t / 5 % (id - 1) : Nat) : Int), sv.addr + (A : Int), ((1 + t / 11 % 4 : Nat) : Int), decide (t % 2 = 1)⟩]) (fun t ht => by
     rcases List.mem_append.1 ht with ht | ht
     ·exact h t ht
     ·rw [List.mem_singleton.1 ht]
      refine ⟨?_, ?_⟩
      ·simp only; omega
      ·simp only; omega)
    simp only [List.length_append, List.length_singleton] at k2
    exact ⟨k1, by omega⟩
   ·obtain ⟨k1, k2⟩ := ih (i + 1) acc h
    exact ⟨k1, by omega⟩
  ·exact ⟨h, by omega⟩
theorem objM_ok (x : SeedM) : OSn (objM x) := by
 obtain ⟨a1, a2, a3, a4⟩ := esdO_ok x 41 0 1 0 [] [] (by omega) (by simp) (by simp)
 have a5 : 0 < (esdO x 41 0 1 0 [] []).1.length := by
  rw [esdO]
  rw [if_pos ⟨by omega, by omega⟩, if_pos (by simp [nO])]
  have := (esdO_ok x 40 1 2 (0 + nO x 0 * 4) ([] ++ [secO 0 1 0 (nO x 0)]) ([] ++ [secO 0 1 0 (nO x 0)]) (by simp [nO]) (by simp [nO, secO, smS]) (by simp [nO, secO, smN, symG_len])).2.2.1
  simp only [List.nil_append, List.length_singleton] at this ⊢
  exact this
 simp only [List.length_nil] at a4
 generalize hp : esdO x 41 0 1 0 [] [] = p at a1 a2 a3 a4 a5
 have ho : objM x = ⟨p.1, txtO x p.2.1 31 0 [], rldO x p.2.1 p.2.2 31 0 [], entrO x p.1⟩ := by simp only [objM, hp]
 obtain ⟨t1, t2⟩ := txtO_ok x a2 31 0 [] (by simp)
 obtain ⟨r1, r2⟩ := rldO_ok x p.2.2 a2 31 0 [] (by simp)
 simp only [List.length_nil] at t2 r2
 rw [ho]
 refine ⟨⟨fun s hs => ?_, fun t ht => ?_, fun r hr => ?_⟩, ?_, ?_, ?_, fun t ht => ?_, fun s hs => ?_, ?_, ?_⟩
 ·obtain ⟨h1, h2, h3⟩ := a1 s hs; exact ⟨by omega, by constructor <;> omega⟩
 ·obtain ⟨⟨h1, h2⟩, h3⟩ := t1 t ht; exact ⟨by constructor <;> omega, by omega⟩
 ·obtain ⟨h1, h2⟩ := r1 r hr; constructor <;> omega
 ·simp only; omega
 ·simp only; omega
 ·simp only; omega
 ·obtain ⟨_, h3⟩ := t1 t ht; omega
 ·obtain ⟨h1, h2, h3⟩ := a1 s hs; omega
 ·simp only [entrO]
  have := (smN_getD a1 (x.entry.toNat % p.1.length)).1
  split
  ·omega
  ·simp
 ·intro h0
  simp only at h0
  rw [h0] at a5
  simp at a5
end Go.AM
namespace Go.AM
open Go.RowKit Go.Proofs
set_option linter.unusedSimpArgs false
set_option linter.unusedVariables false
set_option maxHeartbeats 8000000
theorem yj7 (o : OMod) (ho : OSn o) (n : Nat) (hn : n < 256) (b : Int) : ∃ o', OSm o' ∧ Sound Try.prog 13 [obA o, .v (.int .u8 n), .v (.int .i64 b)] (obA o') := by
 have hk : n % 16 = 0 ∨ n % 16 = 1 ∨ n % 16 = 2 ∨ n % 16 = 3 ∨ n % 16 = 4 ∨ n % 16 = 5 ∨ n % 16 = 6 ∨ n % 16 = 7 ∨ n % 16 = 8 ∨ n % 16 = 9 ∨ n % 16 = 10 ∨ n % 16 = 11 ∨ n % 16 = 12 ∨ n % 16 = 13 ∨ n % 16 = 14 ∨ n % 16 = 15 := by omega
 rcases hk with h | h | h | h | h | h | h | h | h | h | h | h | h | h | h | h
 ·exact spo0 o ho n hn b h
 ·exact spo1 o ho n hn b h
 ·exact spo2 o ho n hn b h
 ·exact spo3 o ho n hn b h
 ·exact spo4 o ho n hn b h
 ·exact spo5 o ho n hn b h
 ·exact spo6 o ho n hn b h
 ·exact spo7 o ho n hn b h
 ·by_cases h0 : o.txt = []
  ·exact spoE o ho n hn b 8 h (.inr (.inr h0)) (.inl (by decide)) (by decide)
  ·exact spo8 o ho h0 n hn b h
 ·by_cases h0 : o.txt = []
  ·exact spoE o ho n hn b 9 h (.inr (.inr h0)) (.inl (by decide)) (by decide)
  ·exact spo9 o ho h0 n hn b h
 ·by_cases h0 : o.txt = []
  ·exact spoE o ho n hn b 10 h (.inr (.inr h0)) (.inl (by decide)) (by decide)
  ·exact spo10 o ho h0 n hn b h
 ·by_cases h0 : o.txt = []
  ·exact spoE o ho n hn b 11 h (.inr (.inr h0)) (.inl (by decide)) (by decide)
  ·exact spo11 o ho h0 n hn b h
 ·by_cases h0 : o.rld = []
  ·exact spoE o ho n hn b 12 h (.inr (.inl (by decide))) (.inr h0) (by decide)
  ·exact spo12 o ho h0 n hn b h
 ·by_cases h0 : o.rld = []
  ·exact spoE o ho n hn b 13 h (.inr (.inl (by decide))) (.inr h0) (by decide)
  ·exact spo13 o ho h0 n hn b h
 ·by_cases h0 : o.rld = []
  ·exact spoE o ho n hn b 14 h (.inr (.inl (by decide))) (.inr h0) (by decide)
  ·exact spo14 o ho h0 n hn b h
 ·by_cases h0 : o.rld = []
  ·exact spoE o ho n hn b 15 h (.inr (.inl (by decide))) (.inr h0) (by decide)
  ·exact spo15 o ho h0 n hn b h
theorem cutO_ok (o : OMod) (h : OIn o) : OSm (cutO o) :=
 ⟨⟨fun x hx => h.e x (List.mem_of_mem_take hx), fun x hx => h.t x (List.mem_of_mem_take hx), fun x hx => h.r x (List.mem_of_mem_take hx)⟩, by simp [cutO]; omega, by simp [cutO]; omega, by simp [cutO]; omega⟩
theorem objects_sound (o : OMod) (ho : OIn o) (x : SeedM) (ht : ∀ n ∈ x.txts, n < 65536) (hr : ∀ n ∈ x.rlds, n < 65536) (hl1 : x.esds.length ≤ 9223372036854775000) (hl4 : x.txts.length ≤ 9223372036854775000) (hl2 : x.rlds.length ≤ 9223372036854775000) (hl3 : x.data.length ≤ 9223372036854775000) (n : Nat) (hn : n < 256) (b : Int) :
  Sound Try.prog 3 [obA o, seedA x, .v (.int .u8 n), .v (.int .i64 b)] (.v (.bool true)) := by
 have hL := objM_ok x
 have hload := object_sound x ht hr hl1 hl4 hl2 hl3
 obtain ⟨M, hM⟩ : ∃ M, objM x = M := ⟨_, rfl⟩
 rw [hM] at hL hload
 have hc := cutObject_sound o
 have hc1 := zs8 _ (cutO_ok o ho)
 obtain ⟨C, hC⟩ : ∃ C, cutO o = C := ⟨_, rfl⟩
 rw [hC] at hc hc1
 have h1 := zs8 M hL.sm
 obtain ⟨S1, hS1, hs1⟩ := yj7 M hL n hn b
 have h2 := zs8 S1 hS1
 obtain ⟨b2, hb2⟩ : ∃ b2, IntKind.i64.wrap (b.tmod 5 - 2) = b2 := ⟨_, rfl⟩
 obtain ⟨S2, hS2, hs2⟩ := yj7 M hL n hn b2
 have h3 := zs8 S2 hS2
 refine zj9 Try.func3 rfl (by decide +kernel) (by simp [Try.f3, strB]) (by simp [AV.rfL, AV.rf, strB]) (by simp [AV.tlL, AV.tl, strB]) (rs := [.tmp 8]) rfl ?_
 rw [show Try.f3.ntmps = 38 from rfl]
 refine yt9 [2, 3, 4, 5] (by simp [strB]; rfl) ?_
 refine W_rK [2, 3, 4, 9] ?_
 refine yq9 1 (by simp; rfl) rfl ?_
 refine yj9 (by simp) (by first | (simp; done) | (simp; rfl)) hload (by simp; rfl) ?_
 refine yw9 (by simp [yd9, strB]; rfl) ?_
 refine W_rK [8] ?_
 refine yq9 1 (by simp; rfl) rfl ?_
 refine yj9 (by simp) (by first | (simp [strB]; done) | (simp [strB]; rfl)) hc (by simp; rfl) ?_
 refine yj9 (by simp) (by first | (simp [strB]; done) | (simp [strB]; rfl)) hc1 (by simp; rfl) ?_
 refine yq9 2 (by simp; rfl) rfl ?_
 refine yj9 (by simp) (by first | (simp [strB]; done) | (simp [strB]; rfl)) h1 (by simp; rfl) ?_
 refine yq9 5 (by simp; rfl) rfl ?_
 refine yj9 (by simp) (by first | (simp [strB]; done) | (simp [strB]; rfl)) hs1 (by simp; rfl) ?_
 refine yj9 (by simp) (by first | (simp [strB]; done) | (simp [strB]; rfl)) h2 (by simp; rfl) ?_
 refine yq9 7 (by simp [hb2]; rfl) rfl ?_
 refine yj9 (by simp) (by first | (simp [strB]; done) | (simp [strB]; rfl)) hs2 (by simp; rfl) ?_
 refine yj9 (by simp) (by first | (simp [strB]; done) | (simp [strB]; rfl)) h3 (by simp; rfl) ?_
 refine yq9 2 (by simp; rfl) rfl ?_
 refine yj9 (by simp) (by first | (simp; done) | (simp; rfl)) works_sound (by simp; rfl) ?_
 refine yw9 (by simp; rfl) ?_
 refine zq9 ?_
 repeat (first | refine yg9 ?_ | refine yh9 ?_)
 simp [retQ]
end Go.AM
namespace Go.AM
open Go.RowKit Go.Proofs
set_option linter.unusedSimpArgs false
set_option linter.unusedVariables false
set_option maxHeartbeats 1000000
structure TF (P : Program) : Prop where
 u3 : P.underlying 3 = some (.int .i64)
 u4 : P.underlying 4 = some .bool
 u5 : P.underlying 5 = some (.int .u8)
 u56 : P.underlying 56 = some (.int .u16)
 u27 : P.underlying 27 = some (.slice 5)
 u28 : P.underlying 28 = some (.slice 56)
 u37 : P.underlying 37 = some (.slice 85)
 u38 : P.underlying 38 = some (.slice 83)
 c5 : P.cellsOf 5 = 1
 c56 : P.cellsOf 56 = 1
 c85 : P.cellsOf 85 = 3
 c83 : P.cellsOf 83 = 4
 c40 : P.cellsOf 40 = 4
 c30 : P.cellsOf 30 = 5
 b5 : P.bytesOf 5 = 1
 b56 : P.bytesOf 56 = 2
 f85 : flds P 85 = some [(3, 0, 1), (3, 1, 1), (4, 2, 1)]
 f83 : flds P 83 = some [(3, 0, 1), (3, 1, 1), (3, 2, 1), (3, 3, 1)]
 f40 : flds P 40 = some [(27, 0, 1), (37, 1, 1), (38, 2, 1), (3, 3, 1)]
 f30 : flds P 30 = some [(27, 0, 1), (28, 1, 1), (28, 2, 1), (5, 3, 1), (27, 4, 1)]
theorem tf : TF Try.prog := ⟨by kernel_rfl, by kernel_rfl, by kernel_rfl, by kernel_rfl, by kernel_rfl, by kernel_rfl, by kernel_rfl, by kernel_rfl, by kernel_rfl, by kernel_rfl, by kernel_rfl, by kernel_rfl, by kernel_rfl, by kernel_rfl, by kernel_rfl, by kernel_rfl, by kernel_rfl, by kernel_rfl, by kernel_rfl, by kernel_rfl⟩
section
variable {P : Program}
theorem ty_slice {n : Nat} {t e : TypeId} {x : AV} (hu : P.underlying t = some (.slice e)) (h : TyV P (n + 1) t x) : ∃ o l, x = .lst o (P.cellsOf e) l ∧ l.length ≤ maxLen ∧ l.length * P.bytesOf e ≤ 140737488351232 ∧ ∀ y ∈ l, TyV P n e y := by
 rcases h with ⟨h1, _⟩ | ⟨_, h⟩
 ·simp [isSt, hu] at h1
 ·simp only [TyC, hu] at h
  obtain ⟨o, l, hl, hmax, _, _, hx⟩ := h
  simp only [List.cons.injEq, and_true] at hl
  exact ⟨o, l, hl, hmax.1, hmax.2, hx⟩
theorem zp7 {β : Type} {F : β → AV} {Q : β → Prop} : ∀ {l : List AV}, (∀ y ∈ l, ∃ b, y.dp = F b ∧ Q b) → ∃ bs : List β, AV.dpL l = bs.map F ∧ bs.length = l.length ∧ ∀ b ∈ bs, Q b
 | [], _ => ⟨[], rfl, rfl, by simp⟩
 | y :: l, h => by
  obtain ⟨b, h1, h2⟩ := h y (by simp)
  obtain ⟨bs, k1, k2, k3⟩ := zp7 (l := l) fun y hy => h y (by simp [hy])
  refine ⟨b :: bs, by simp [AV.dpL, h1, k1], by simp [k2], fun c hc => ?_⟩
  rcases List.mem_cons.1 hc with rfl | hc
  ·exact h2
  ·exact k3 c hc
theorem len3 {α : Type} {l : List α} (h : l.length = 3) : ∃ a b c, l = [a, b, c] := by
 match l, h with
 | [a, b, c], _ => exact ⟨a, b, c, rfl⟩
theorem len4 {α : Type} {l : List α} (h : l.length = 4) : ∃ a b c d, l = [a, b, c, d] := by
 match l, h with
 | [a, b, c, d], _ => exact ⟨a, b, c, d, rfl⟩
theorem len5 {α : Type} {l : List α} (h : l.length = 5) : ∃ a b c d e, l = [a, b, c, d, e] := by
 match l, h with
 | [a, b, c, d, e], _ => exact ⟨a, b, c, d, e, rfl⟩
theorem vv8 {n : Nat} {ys : List AV} {l : List (TypeId × Nat × Nat)} (hf : ∀ p ∈ l, TyC P n p.1 ((ys.drop p.2.1).take p.2.2)) (t : TypeId) (i : Nat) (x : AV) (hm : (t, i, 1) ∈ l) (hx : ys[i]? = some x) (hs : isSt P t = false) : TyV P n t x := by
 have h := hf _ hm
 simp only at h
 have e : (ys.drop i).take 1 = [x] := by
  obtain ⟨h1, h2⟩ := List.getElem?_eq_some_iff.1 hx
  rw [List.drop_eq_getElem_cons h1, h2]; rfl
 rw [e] at h
 exact .inr ⟨hs, h⟩
theorem ty_u16 {n : Nat} {t : TypeId} {x : AV} (hu : P.underlying t = some (.int .u16)) (h : TyV P (n + 1) t x) : ∃ b : Nat, x = .v (.int .u16 b) ∧ b < 65536 := by
 obtain ⟨m, rfl, h1, h2⟩ := ty_int hu h
 rw [show IntKind.u16.min = 0 from by decide +kernel] at h1
 rw [show IntKind.u16.max = 65535 from by decide +kernel] at h2
 obtain ⟨b, rfl⟩ : ∃ b : Nat, m = b := ⟨m.toNat, by omega⟩
 exact ⟨b, rfl, by omega⟩
theorem ty_u16s (T : TF P) {n : Nat} {x : AV} (h : TyV P (n + 3) 28 x) : ∃ l : List Nat, x.dp = .lst .any 1 (u16L l) ∧ l.length ≤ 140737488351232 ∧ ∀ n ∈ l, n < 65536 := by
 obtain ⟨o, l, rfl, _, hl, hy⟩ := ty_slice T.u28 h
 rw [T.b56] at hl
 obtain ⟨bs, h1, h2, h3⟩ := zp7 (F := fun n : Nat => AV.v (.int .u16 n)) (Q := fun n => n < 65536) (l := l) fun y hm => by
  obtain ⟨b, rfl, hb⟩ := ty_u16 T.u56 (hy y hm)
  exact ⟨b, rfl, hb⟩
 exact ⟨bs, by simp only [AV.dp, h1, T.c56]; rfl, by rw [h2]; omega, h3⟩
theorem ty_seed (T : TF P) {n : Nat} {x : AV} (h : TyV P (n + 5) 30 x) : ∃ m : SeedM, x.dp = seedA m ∧ (∀ n ∈ m.txts, n < 65536) ∧ (∀ n ∈ m.rlds, n < 65536) ∧ m.esds.length ≤ 9223372036854775000 ∧ m.txts.length ≤ 9223372036854775000 ∧ m.rlds.length ≤ 9223372036854775000 ∧ m.data.length ≤ 9223372036854775000 := by
 obtain ⟨ys, rfl, hl, hf⟩ := ty_struct T.f30 T.c30 h
 obtain ⟨a, b, c, d, e, rfl⟩ := len5 hl
 obtain ⟨o0, t, rfl, _, k0⟩ := ty_bytes T.u27 T.u5 T.c5 (vv8 hf 27 0 _ (by simp) rfl (by simp [isSt, T.u27]))
 obtain ⟨l1, h1, k1, b1⟩ := ty_u16s T (n := n + 1) (vv8 hf 28 1 _ (by simp) rfl (by simp [isSt, T.u28]))
 obtain ⟨l2, h2, k2, b2⟩ := ty_u16s T (n := n + 1) (vv8 hf 28 2 _ (by simp) rfl (by simp [isSt, T.u28]))
 obtain ⟨u, rfl⟩ := ty_u8 T.u5 (vv8 hf 5 3 _ (by simp) rfl (by simp [isSt, T.u5]))
 obtain ⟨o4, t4, rfl, _, k4⟩ := ty_bytes T.u27 T.u5 T.c5 (vv8 hf 27 4 _ (by simp) rfl (by simp [isSt, T.u27]))
 have e : AV.dpL (t.map fun b : UInt8 => AV.v (.int .u8 b.toNat)) = byL t := dpL_byL t
 have e4 : AV.dpL (t4.map fun b : UInt8 => AV.v (.int .u8 b.toNat)) = byL t4 := dpL_byL t4
 rw [T.b5] at k0 k4
 refine ⟨⟨t, l1, l2, u, t4⟩, ?_, b1, b2, by simp only; omega, by simp only; omega, by simp only; omega, by simp only; omega⟩
 simp only [AV.dp, AV.dpL, e, e4, seedA, h1, h2]
theorem tyAll4 {n : Nat} {a b c d : TypeId} {xs : List AV} (h : TyAll P n [a, b, c, d] xs) : ∃ x y z w, xs = [x, y, z, w] ∧ TyV P n a x ∧ TyV P n b y ∧ TyV P n c z ∧ TyV P n d w := by
 match xs with
 | [] => exact h.elim
 | [_] => exact h.2.elim
 | [_, _] => exact h.2.2.elim
 | [_, _, _] => exact h.2.2.2.elim
 | _ :: _ :: _ :: _ :: _ :: _ => exact h.2.2.2.2.elim
 | [x, y, z, w] => exact ⟨x, y, z, w, rfl, h.1, h.2.1, h.2.2.1, h.2.2.2.1⟩
end
end Go.AM
namespace Go.AM
open Go.RowKit Go.Proofs
set_option linter.unusedSimpArgs false
set_option linter.unusedVariables false
set_option maxHeartbeats 1000000
structure TG (P : Program) : Prop where
 u9 : P.underlying 9 = some .string
 u22 : P.underlying 22 = some (.slice 78)
 u23 : P.underlying 23 = some (.slice 73)
 u24 : P.underlying 24 = some (.slice 80)
 c78 : P.cellsOf 78 = 5
 c73 : P.cellsOf 73 = 3
 c80 : P.cellsOf 80 = 5
 c26 : P.cellsOf 26 = 4
 f78 : flds P 78 = some [(9, 0, 1), (3, 1, 1), (3, 2, 1), (3, 3, 1), (3, 4, 1)]
 f73 : flds P 73 = some [(3, 0, 1), (3, 1, 1), (27, 2, 1)]
 f80 : flds P 80 = some [(3, 0, 1), (3, 1, 1), (3, 2, 1), (3, 3, 1), (4, 4, 1)]
 f26 : flds P 26 = some [(22, 0, 1), (23, 1, 1), (24, 2, 1), (9, 3, 1)]
theorem tg : TG Try.prog := ⟨by kernel_rfl, by kernel_rfl, by kernel_rfl, by kernel_rfl, by kernel_rfl, by kernel_rfl, by kernel_rfl, by kernel_rfl, by kernel_rfl, by kernel_rfl, by kernel_rfl, by kernel_rfl⟩
section
variable {P : Program}
theorem ty_string {n : Nat} {t : TypeId} {x : AV} (hu : P.underlying t = some .string) (h : TyV P (n + 1) t x) : ∃ l : List UInt8, x = strB l ∧ l.length ≤ 9223372036854775807 := by
 rcases h with ⟨h1, _⟩ | ⟨_, h⟩
 ·simp [isSt, hu] at h1
 ·simp only [TyC, hu] at h
  obtain ⟨s, hs, hl⟩ := h
  simp only [List.cons.injEq, and_true] at hs
  have h2 : s.data.toList.length ≤ maxLen := by rw [Array.length_toList]; exact hl
  refine ⟨s.data.toList, hs, Nat.le_trans h2 ?_⟩
  unfold maxLen
  omega
theorem i64r_ty {m : Int} (h1 : IntKind.i64.min ≤ m) (h2 : m ≤ IntKind.i64.max) : i64r m := by
 rw [show IntKind.i64.min = -9223372036854775808 from by decide +kernel] at h1
 rw [show IntKind.i64.max = 9223372036854775807 from by decide +kernel] at h2
 exact ⟨h1, h2⟩
theorem ty_esd (T : TF P) (G : TG P) {n : Nat} {x : AV} (h : TyV P (n + 2) 78 x) : ∃ r : Esd, x.dp = esA r ∧ (r.name.length ≤ 9223372036854775807 ∧ i64r r.addr) := by
 obtain ⟨ys, rfl, hl, hf⟩ := ty_struct G.f78 G.c78 h
 obtain ⟨a, b, c, d, e, rfl⟩ := len5 hl
 obtain ⟨s, rfl, hs⟩ := ty_string G.u9 (vv8 hf 9 0 _ (by simp) rfl (by simp [isSt, G.u9]))
 obtain ⟨m1, rfl, _⟩ := ty_int T.u3 (vv8 hf 3 1 _ (by simp) rfl (by simp [isSt, T.u3]))
 obtain ⟨m2, rfl, _⟩ := ty_int T.u3 (vv8 hf 3 2 _ (by simp) rfl (by simp [isSt, T.u3]))
 obtain ⟨m3, rfl, k1, k2⟩ := ty_int T.u3 (vv8 hf 3 3 _ (by simp) rfl (by simp [isSt, T.u3]))
 obtain ⟨m4, rfl, _⟩ := ty_int T.u3 (vv8 hf 3 4 _ (by simp) rfl (by simp [isSt, T.u3]))
 exact ⟨⟨s, m1, m2, m3, m4⟩, by simp [AV.dp, AV.dpL, strB], hs, i64r_ty k1 k2⟩
theorem ty_txt (T : TF P) (G : TG P) {n : Nat} {x : AV} (h : TyV P (n + 3) 73 x) : ∃ r : Txt, x.dp = txA r ∧ (i64r r.addr ∧ r.data.length ≤ 140737488355328) := by
 obtain ⟨ys, rfl, hl, hf⟩ := ty_struct G.f73 G.c73 h
 obtain ⟨a, b, c, rfl⟩ := len3 hl
 obtain ⟨m0, rfl, _⟩ := ty_int T.u3 (vv8 hf 3 0 _ (by simp) rfl (by simp [isSt, T.u3]))
 obtain ⟨m1, rfl, k1, k2⟩ := ty_int T.u3 (vv8 hf 3 1 _ (by simp) rfl (by simp [isSt, T.u3]))
 obtain ⟨o2, t, rfl, _, hb⟩ := ty_bytes T.u27 T.u5 T.c5 (vv8 hf 27 2 _ (by simp) rfl (by simp [isSt, T.u27]))
 have e : AV.dpL (t.map fun b : UInt8 => AV.v (.int .u8 b.toNat)) = byL t := dpL_byL t
 rw [T.b5] at hb
 exact ⟨⟨m0, m1, t⟩, by simp only [AV.dp, AV.dpL, e, txA], i64r_ty k1 k2, by simp only; omega⟩
theorem ty_rld (T : TF P) (G : TG P) {n : Nat} {x : AV} (h : TyV P (n + 2) 80 x) : ∃ r : Rld, x.dp = rdA r ∧ i64r r.addr := by
 obtain ⟨ys, rfl, hl, hf⟩ := ty_struct G.f80 G.c80 h
 obtain ⟨a, b, c, d, e, rfl⟩ := len5 hl
 obtain ⟨m0, rfl, _⟩ := ty_int T.u3 (vv8 hf 3 0 _ (by simp) rfl (by simp [isSt, T.u3]))
 obtain ⟨m1, rfl, _⟩ := ty_int T.u3 (vv8 hf 3 1 _ (by simp) rfl (by simp [isSt, T.u3]))
 obtain ⟨m2, rfl, k1, k2⟩ := ty_int T.u3 (vv8 hf 3 2 _ (by simp) rfl (by simp [isSt, T.u3]))
 obtain ⟨m3, rfl, _⟩ := ty_int T.u3 (vv8 hf 3 3 _ (by simp) rfl (by simp [isSt, T.u3]))
 obtain ⟨b4, rfl⟩ := ty_bool T.u4 (vv8 hf 4 4 _ (by simp) rfl (by simp [isSt, T.u4]))
 exact ⟨⟨m0, m1, m2, m3, b4⟩, by simp [AV.dp, AV.dpL], i64r_ty k1 k2⟩
theorem ty_obj (T : TF P) (G : TG P) {n : Nat} {x : AV} (h : TyV P (n + 5) 26 x) : ∃ m : OMod, x.dp = obA m ∧ OIn m := by
 obtain ⟨ys, rfl, hl, hf⟩ := ty_struct G.f26 G.c26 h
 obtain ⟨a, b, c, d, rfl⟩ := len4 hl
 obtain ⟨o0, l0, rfl, _, _, h0⟩ := ty_slice (n := n + 3) G.u22 (vv8 hf 22 0 _ (by simp) rfl (by simp [isSt, G.u22]))
 obtain ⟨o1, l1, rfl, _, _, h1⟩ := ty_slice (n := n + 3) G.u23 (vv8 hf 23 1 _ (by simp) rfl (by simp [isSt, G.u23]))
 obtain ⟨o2, l2, rfl, _, _, h2⟩ := ty_slice (n := n + 3) G.u24 (vv8 hf 24 2 _ (by simp) rfl (by simp [isSt, G.u24]))
 obtain ⟨s, rfl, hs⟩ := ty_string G.u9 (vv8 hf 9 3 _ (by simp) rfl (by simp [isSt, G.u9]))
 obtain ⟨e, e1, _, e3⟩ := zp7 (F := esA) (Q := fun r => r.name.length ≤ 9223372036854775807 ∧ i64r r.addr) fun y hy => ty_esd T G (h0 y hy)
 obtain ⟨t, t1, _, t3⟩ := zp7 (F := txA) (Q := fun r => i64r r.addr ∧ r.data.length ≤ 140737488355328) fun y hy => ty_txt (n := n) T G (h1 y hy)
 obtain ⟨r, r1, _, r3⟩ := zp7 (F := rdA) (Q := fun r => i64r r.addr) fun y hy => ty_rld T G (h2 y hy)
 refine ⟨⟨e, t, r, s⟩, ?_, ⟨e3, t3, r3⟩⟩
 simp only [AV.dp, AV.dpL, e1, t1, r1, G.c78, G.c73, G.c80, strB]
 rfl
end
end Go.AM
namespace Go.AM
open Go.RowKit Go.Proofs
set_option linter.unusedSimpArgs false
set_option linter.unusedVariables false
set_option maxHeartbeats 1000000
theorem objects_law {n : Nat} {xs : List AV} (hx : TyAll Try.prog (n + 5) [26, 30, 5, 3] xs) : Sound Try.prog 3 xs (.v (.bool true)) := by
 obtain ⟨x, y, z, w, rfl, h1, h2, h3, h4⟩ := tyAll4 hx
 obtain ⟨m, hm, hi⟩ := ty_obj tf tg h1
 obtain ⟨s, hs, k1, k2, k3, k4, k5, k6⟩ := ty_seed tf h2
 obtain ⟨u, rfl⟩ := ty_u8 tf.u5 h3
 obtain ⟨b, rfl, _⟩ := ty_int tf.u3 h4
 refine Sound.dp ?_
 have e : AV.dpL [x, y, AV.v (.int .u8 u.toNat), AV.v (.int .i64 b)] = [obA m, seedA s, .v (.int .u8 u.toNat), .v (.int .i64 b)] := by simp only [AV.dpL, AV.dp, hm, hs]
 rw [e]
 exact objects_sound m hi s k1 k2 k3 k4 k5 k6 u.toNat u.toNat_lt b
end Go.AM
